/-
  FrameBack, plainly: frames come back out of a row of them.
-/
import Derived.Test.YtnkjhlpdcffalaaDoorFbA
set_option linter.unusedVariables false
set_option linter.unusedSimpArgs false
namespace Go.Proofs.YtnkjhlpdcffalaaDoor.SpB
open Go.RowKit Go.Joins Go.Proofs.YtnkjhlpdcffalaaDoor.PB Go.Proofs.YtnkjhlpdcffalaaDoor.H Go.Proofs.YtnkjhlpdcffalaaDoorW.PrintWords Go.Proofs.YtnkjhlpdcffalaaDoorW.PrintLast Go.Proofs.YtnkjhlpdcffalaaDoorW.PrintMore Go.Proofs.Wy

def inF (m : Int) (x : Int × List UInt8) : List UInt8 := stuffL m (sumL (headL x.1 ++ x.2))
def allF (m : Int) (fs : List (Int × List UInt8)) : List UInt8 := fs.flatMap fun x => 126 :: (inF m x ++ [126])
def wantF (fs : List (Int × List UInt8)) : List S42 := fs.map fun x => ⟨x.1, B x.2⟩
def OkF (fs : List (Int × List UInt8)) : Prop := ∀ x ∈ fs, protoB x.1 = true ∧ x.2.length ≤ 2048
theorem inF_length (m : Int) (x : Int × List UInt8) (h : x.2.length ≤ 2048) : 6 ≤ (inF m x).length ∧ (inF m x).length ≤ 4200 := by
  have h1 := stuffL_length m (sumL (headL x.1 ++ x.2))
  have h2 := stuffL_ge m (sumL (headL x.1 ++ x.2))
  have h3 : (sumL (headL x.1 ++ x.2)).length = x.2.length + 6 := by rw [sumL_length, List.length_append]; show 4 + _ + 2 = _; omega
  unfold inF
  omega
theorem allF_length (m : Int) (fs : List (Int × List UInt8)) (h : OkF fs) : (allF m fs).length ≤ fs.length * 4202 := by
  induction fs with
  | nil => simp [allF]
  | cons x r ih =>
    have h1 := inF_length m x (h x List.mem_cons_self).2
    have h2 := ih fun y hy => h y (List.mem_cons_of_mem _ hy)
    have e : allF m (x :: r) = 126 :: (inF m x ++ [126]) ++ allF m r := rfl
    rw [e, List.length_append, List.length_cons, List.length_append, List.length_cons, List.length_cons, List.length_nil]
    omega
theorem allF_snoc (m : Int) (fs : List (Int × List UInt8)) (x : Int × List UInt8) : allF m (fs ++ [x]) = allF m fs ++ (126 :: (inF m x ++ [126])) := by simp [allF]
theorem cut_all (m : Int) (fs : List (Int × List UInt8)) (h : OkF fs) : ∃ t, cutAt 126 (allF m fs) = [] :: t ∧ full t.dropLast = fs.map (inF m) ∧ full ([] :: t).dropLast = fs.map (inF m) ∧ ([] :: t).getLastD [] = ([] : List UInt8) := by
  induction fs with
  | nil => exact ⟨[], by simp [allF, cutAt], by simp [full], by simp [full], rfl⟩
  | cons x r ih =>
    obtain ⟨t, e1, e2, e3, e4⟩ := ih fun y hy => h y (List.mem_cons_of_mem _ hy)
    have hx := inF_length m x (h x List.mem_cons_self).2
    have e : allF m (x :: r) = [] ++ 126 :: (inF m x ++ 126 :: allF m r) := by
      have e : allF m (x :: r) = 126 :: (inF m x ++ [126]) ++ allF m r := rfl
      rw [e]
      simp
    refine ⟨inF m x :: [] :: t, ?_, ?_, ?_, ?_⟩
    · rw [e, cutAt_then _ _ (by simp), cutAt_then (inF m x) _ (stuffL_noflag m _), e1]
    · have ed : (inF m x :: [] :: t).dropLast = inF m x :: ([] :: t).dropLast := rfl
      rw [ed, full_cons, if_neg (by omega), e3]
      rfl
    · have ed : ([] :: inF m x :: [] :: t).dropLast = [] :: inF m x :: ([] :: t).dropLast := rfl
      rw [ed, full_cons, if_pos (show ([] : List UInt8).length = 0 from rfl), List.nil_append, full_cons, if_neg (by omega), e3]
      rfl
    · have el : ([] :: inF m x :: [] :: t).getLastD ([] : List UInt8) = ([] :: t).getLastD [] := by
        rw [List.getLastD_eq_getLast?, List.getLastD_eq_getLast?]
        simp [List.getLast?_cons]
      rw [el, e4]
theorem keep_all (m : Int) (fs : List (Int × List UInt8)) (h : OkF fs) : keepL (allF m fs) = (fs.map (inF m), []) := by
  obtain ⟨t, e1, e2, e3, e4⟩ := cut_all m fs h
  unfold keepL
  rw [e1]
  exact Prod.ext e2 e4

theorem back_l1 (m : Int) (fs : List (Int × List UInt8)) (h : OkF fs) (h6 : fs.length ≤ 6) (d : Nat) : ∀ i : Nat, i + d = fs.length → Ev (fun k => withylaw3_FrameBack.l1 k (wantF fs) ((fs.map (inF m)).map B) (i : Int)) true := by
  have hl : ((fs.map (inF m)).map B).length = fs.length := by simp
  have hlw : (wantF fs).length = fs.length := by simp [wantF]
  induction d with
  | zero =>
    intro i hi
    refine Ev.next (f := fun k => _) (fun k => by simp only [withylaw3_FrameBack.l1]; rfl) ?_
    refine Ev.ite_neg (by rw [hl]; omega) ?_
    exact Ev.now _
  | succ d ih =>
    intro i hi
    have hlt : i < fs.length := by omega
    have hr : rdOf ByteArray.empty ((fs.map (inF m)).map B) (i : Int) = B (inF m fs[i]) := by
      unfold rdOf
      rw [Int.toNat_natCast, List.getD_eq_getElem?_getD, List.getElem?_eq_getElem (by rw [hl]; exact hlt)]
      simp
    have hw : rd_T42 (wantF fs) (i : Int) = ⟨fs[i].1, B fs[i].2⟩ := by
      unfold rd_T42
      rw [Int.toNat_natCast, List.getD_eq_getElem?_getD, List.getElem?_eq_getElem (by rw [hlw]; exact hlt)]
      simp [wantF]
    have hn : wrap64 ((i : Int) + 1) = ((i + 1 : Nat) : Int) := wrap_next hlt (by omega)
    obtain ⟨hp, hd⟩ := h fs[i] (List.getElem_mem hlt)
    have hx := inF_length m fs[i] hd
    have hg := get_frame (B (inF m fs[i])) (by rw [B_size]; omega)
    have hb : unframeL (B (inF m fs[i])).data.toList = (fs[i].1, fs[i].2, 0) := by
      rw [B_data]
      exact frame_back fs[i].1 fs[i].2 m hp hd
    rw [hb] at hg
    refine Ev.next (f := fun k => _) (fun k => by simp only [withylaw3_FrameBack.l1]; rfl) ?_
    refine Ev.ite_pos (by rw [hl]; omega) ?_
    refine Ev.ite_pos (by omega) ?_
    rw [hr, hn]
    refine Ev.bind hg ?_
    refine Ev.pre (num_spec _) ?_
    refine Ev.ite_pos rfl ?_
    refine Ev.ite_pos (by rw [hlw]; omega) ?_
    rw [hw]
    refine Ev.ite_neg (by simp) ?_
    exact ih (i + 1) (by omega)
theorem back_end (x0 : List Int) (x1 : List ByteArray) (x2 x9 : Int) (m : Int) (fs : List (Int × List UInt8)) (h : OkF fs) (h6 : fs.length ≤ 6) : Ev (fun k => withylaw3_FrameBack.j1 k x0 x1 x2 (B (allF m fs)) (wantF fs) x9 false) true := by
  have hl := allF_length m fs h
  have hs := split_spec (B (allF m fs)) (by rw [B_size]; omega)
  rw [B_data, keep_all m fs h] at hs
  refine Ev.next (f := fun k => _) (fun k => by simp only [withylaw3_FrameBack.j1]; rfl) ?_
  refine Ev.ite_neg (by decide) ?_
  refine Ev.pre hs ?_
  refine Ev.ite_pos (by simp [wantF]) ?_
  have e : ((B []).toList != ([] : List UInt8)) = false := by rw [B_toList]; rfl
  show Ev (fun k => withylaw3_FrameBack.j3 k (wantF fs) ((fs.map (inF m)).map B) ((B []).toList != ([] : List UInt8))) true
  rw [e]
  refine Ev.next (f := fun k => _) (fun k => by simp only [withylaw3_FrameBack.j3]; rfl) ?_
  refine Ev.ite_neg (by decide) ?_
  exact back_l1 m fs h h6 fs.length 0 (Nat.zero_add _)
theorem back_j2 (x0 : List Int) (x1 : List ByteArray) (m : Int) (fs : List (Int × List UInt8)) (h : OkF fs) (h6 : fs.length ≤ 6) (i : Nat) (hi : i < x1.length) (hi6 : i < 6) (q : Int) (hq : protoB q = true)
    (hskip : Ev (fun k => withylaw3_FrameBack.l0 k x0 x1 m (B (allF m fs)) (wantF fs) ((i + 1 : Nat) : Int)) true)
    (htake : ∀ d : List UInt8, d.length ≤ 2048 → Ev (fun k => withylaw3_FrameBack.l0 k x0 x1 m (B (allF m (fs ++ [(q, d)]))) (wantF (fs ++ [(q, d)])) ((i + 1 : Nat) : Int)) true) :
    Ev (fun k => withylaw3_FrameBack.j2 k x0 x1 m (B (allF m fs)) (wantF fs) (i : Int) q) true := by
  have hl := allF_length m fs h
  have hr : rdOf ByteArray.empty x1 (i : Int) = x1[i] := by
    unfold rdOf
    rw [Int.toNat_natCast, List.getD_eq_getElem?_getD, List.getElem?_eq_getElem hi]
    rfl
  have hn : wrap64 ((i : Int) + 1) = ((i + 1 : Nat) : Int) := wrap_next hi6 (by omega)
  have hz : x1[i].data.toList.length = x1[i].size := size_data _
  have hp := put_frame q x1[i].data.toList m
  rw [B_list] at hp
  refine Ev.next (f := fun k => _) (fun k => by simp only [withylaw3_FrameBack.j2]; rfl) ?_
  refine Ev.ite_pos (by omega) ?_
  refine Ev.ite_pos (by omega) ?_
  rw [hr, hn]
  refine Ev.pre hp ?_
  by_cases hb : (x1[i].size : Int) > 2048
  · refine Ev.ite_pos hb ?_
    have e : frameL q x1[i].data.toList m = ([], 304) := by
      unfold frameL
      rw [if_pos hq, if_pos (by omega)]
    rw [e]
    refine Ev.pre (num_spec _) ?_
    refine Ev.ite_pos rfl ?_
    exact hskip
  · refine Ev.ite_neg hb ?_
    have e := frame_ok q x1[i].data.toList m hq (by omega)
    rw [e]
    have hx := inF_length m (q, x1[i].data.toList) (by show x1[i].data.toList.length ≤ 2048; omega)
    refine Ev.pre (num_spec _) ?_
    refine Ev.ite_pos rfl ?_
    refine Ev.ite_pos (by
      show (B (allF m fs)).size + (B (126 :: (inF m (q, x1[i].data.toList) ++ [126]))).size ≤ _
      rw [B_size, B_size, List.length_cons, List.length_append]
      simp only [List.length_cons, List.length_nil]
      omega) ?_
    refine Ev.ite_pos (by simp [wantF]; omega) ?_
    have ht := htake x1[i].data.toList (by omega)
    have ea : B (allF m (fs ++ [(q, x1[i].data.toList)])) = B (allF m fs) ++ B (126 :: (stuffL m (sumL (headL q ++ x1[i].data.toList)) ++ [126])) := by rw [allF_snoc, B_app]; rfl
    have ew : wantF (fs ++ [(q, x1[i].data.toList)]) = wantF fs ++ [⟨q, x1[i]⟩] := by
      unfold wantF
      rw [List.map_append]
      show _ ++ [(⟨q, B x1[i].data.toList⟩ : S42)] = _
      rw [B_list]
    rw [ea, ew] at ht
    exact ht
theorem back_l0 (x0 : List Int) (x1 : List ByteArray) (m : Int) (d : Nat) : ∀ (i : Nat) (fs : List (Int × List UInt8)), (i + d = x1.length ∨ i + d = 6) → i ≤ 6 → fs.length ≤ i → OkF fs → Ev (fun k => withylaw3_FrameBack.l0 k x0 x1 m (B (allF m fs)) (wantF fs) (i : Int)) true := by
  induction d with
  | zero =>
    intro i fs hi h6 hf h
    refine Ev.next (f := fun k => _) (fun k => by simp only [withylaw3_FrameBack.l0]; rfl) ?_
    by_cases hlt : (i : Int) < (x1.length : Int)
    · refine Ev.ite_pos hlt ?_
      rw [decide_eq_false (show ¬ (i : Int) < 6 by omega)]
      exact back_end x0 x1 m _ m fs h (by omega)
    · refine Ev.ite_neg hlt ?_
      exact back_end x0 x1 m _ m fs h (by omega)
  | succ d ih =>
    intro i fs hi h6 hf h
    refine Ev.next (f := fun k => _) (fun k => by simp only [withylaw3_FrameBack.l0]; rfl) ?_
    by_cases hlt : (i : Int) < (x1.length : Int)
    · refine Ev.ite_pos hlt ?_
      by_cases hi6 : (i : Int) < 6
      · rw [decide_eq_true hi6]
        have hskip := ih (i + 1) fs (by omega) (by omega) (by omega) h
        have htake : ∀ q : Int, protoB q = true → ∀ d : List UInt8, d.length ≤ 2048 → Ev (fun k => withylaw3_FrameBack.l0 k x0 x1 m (B (allF m (fs ++ [(q, d)]))) (wantF (fs ++ [(q, d)])) ((i + 1 : Nat) : Int)) true := by
          intro q hq d hd
          refine ih (i + 1) (fs ++ [(q, d)]) (by omega) (by omega) (by simp; omega) ?_
          intro x hx
          rcases List.mem_append.1 hx with hx | hx
          · exact h x hx
          · obtain rfl : x = (q, d) := by simpa using hx
            exact ⟨hq, hd⟩
        refine Ev.next (f := fun k => _) (fun k => by simp only [withylaw3_FrameBack.j1]; rfl) ?_
        refine Ev.ite_pos trivial ?_
        by_cases hp : (i : Int) < (x0.length : Int)
        · refine Ev.ite_pos hp ?_
          refine Ev.ite_pos (by omega) ?_
          obtain ⟨q, eq, hq⟩ := proto_taken (rd x0 (i : Int))
          rw [eq]
          exact back_j2 x0 x1 m fs h (by omega) i (by omega) (by omega) q hq hskip (htake q hq)
        · refine Ev.ite_neg hp ?_
          exact back_j2 x0 x1 m fs h (by omega) i (by omega) (by omega) 1 (by decide) hskip (htake 1 (by decide))
      · rw [decide_eq_false hi6]
        exact back_end x0 x1 m _ m fs h (by omega)
    · refine Ev.ite_neg hlt ?_
      exact back_end x0 x1 m _ m fs h (by omega)
theorem frameBack_pure (x0 : List Int) (x1 : List ByteArray) (m : Int) : ∃ k, withylaw3_FrameBack.f k x0 x1 m = some true := by
  refine Ev.rounds (g := fun k => withylaw3_FrameBack.f k x0 x1 m) ?_
  unfold withylaw3_FrameBack.f
  refine Ev.bind awake_spec ?_
  refine Ev.ite_pos rfl ?_
  by_cases h : x1.length ≤ 6
  · exact back_l0 x0 x1 m x1.length 0 [] (by omega) (by omega) (by simp) (fun x hx => absurd hx (by simp))
  · exact back_l0 x0 x1 m 6 0 [] (by omega) (by omega) (by simp) (fun x hx => absurd hx (by simp))
end Go.Proofs.YtnkjhlpdcffalaaDoor.SpB
