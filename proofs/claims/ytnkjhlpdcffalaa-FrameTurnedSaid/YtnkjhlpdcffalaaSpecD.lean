/-
  What the reference's reading of frames comes to; the sign of life.
-/
import Derived.Test.YtnkjhlpdcffalaaSpecC
set_option linter.unusedVariables false
set_option linter.unusedSimpArgs false
namespace Go.Proofs.Ytnkjhlpdcffalaa.Sp
open Go.RowKit Go.Proofs.Ytnkjhlpdcffalaa.PF Go.Proofs.YtnkjhlpdcffalaaW.PrintWords Go.Proofs.YtnkjhlpdcffalaaW.PrintLast Go.Proofs.YtnkjhlpdcffalaaW.PrintMore Go.Proofs.Wy

theorem head_two (u : List UInt8) (h : 2 ≤ u.length) : ((u.drop 0).take (2 - 0) = [255, 3]) ↔ ((u.getD 0 0).toNat = 255 ∧ (u.getD 1 0).toNat = 3) := by
  match u, h with
  | a :: b :: r, _ =>
    show ([a, b] = [255, 3]) ↔ (a.toNat = 255 ∧ b.toNat = 3)
    constructor
    · intro e
      injection e with e1 e2
      injection e2 with e2 _
      rw [e1, e2]
      exact ⟨rfl, rfl⟩
    · intro ⟨e1, e2⟩
      have a' : a = 255 := UInt8.toNat_inj.1 e1
      have b' : b = 3 := UInt8.toNat_inj.1 e2
      rw [a', b']
theorem unframe_spec (s : ByteArray) (hs : s.size ≤ 140737488355000) : Ev (fun k => withyref1_Unframe.f k s) ((unframeL s.data.toList).1, B (unframeL s.data.toList).2.1, (unframeL s.data.toList).2.2) := by
  have hl := unstuffL_length s.data.toList
  rw [size_data] at hl
  unfold withyref1_Unframe.f unframeL
  refine Ev.bind (runstuff_spec s hs) ?_
  generalize unstuffL s.data.toList = t at hl
  obtain ⟨t, e⟩ := t
  simp only at hl ⊢
  have main : ∀ z : Bool, (z = true ↔ (e ≠ 0 ∨ t.length < 6)) → Ev (fun k => withyref1_Unframe.j0 k (B t) z) ((if e ≠ 0 ∨ t.length < 6 then ((0 : Int), ([] : List UInt8), (300 : Int)) else if (checkL t).2 ≠ 0 then (0, [], 301) else decodeL (checkL t).1).1, B (if e ≠ 0 ∨ t.length < 6 then ((0 : Int), ([] : List UInt8), (300 : Int)) else if (checkL t).2 ≠ 0 then (0, [], 301) else decodeL (checkL t).1).2.1, (if e ≠ 0 ∨ t.length < 6 then ((0 : Int), ([] : List UInt8), (300 : Int)) else if (checkL t).2 ≠ 0 then (0, [], 301) else decodeL (checkL t).1).2.2) := by
    intro z hz
    refine Ev.next (f := fun k => _) (fun k => by simp only [withyref1_Unframe.j0]; rfl) ?_
    cases z with
    | true =>
      refine Ev.ite_pos rfl ?_
      rw [if_pos (hz.1 rfl)]
      exact Ev.now _
    | false =>
      have hn : ¬ (e ≠ 0 ∨ t.length < 6) := fun h => absurd (hz.2 h) (by decide)
      refine Ev.ite_neg (by decide) ?_
      rw [if_neg hn]
      refine Ev.bind (unsum_spec t (by omega)) ?_
      by_cases hc : (checkL t).2 = 0
      · refine Ev.ite_pos hc ?_
        rw [if_neg (show ¬ (checkL t).2 ≠ 0 from fun h => h hc)]
        have hcl := check_length t hc
        generalize (checkL t).1 = u at hcl
        have hul : 4 ≤ u.length := by omega
        have hb2 : bt (B u) 2 = ((u.getD 2 0).toNat : Int) := B_bt u 2 (by omega)
        have hb3 : bt (B u) 3 = ((u.getD 3 0).toNat : Int) := B_bt u 3 (by omega)
        have hp : wrap64 (wrap64 (wrap64 ((u.getD 2 0).toNat : Int) * 256) + wrap64 ((u.getD 3 0).toNat : Int)) = protoL u := add_bytes _ _ (UInt8.toNat_lt _) (UInt8.toNat_lt _)
        refine Ev.ite_pos (show (0 : Nat) ≤ 2 by decide) ?_
        refine Ev.ite_pos (by rw [B_size]; omega) ?_
        rw [B_ext, B_toList]
        unfold decodeL
        by_cases hh : (u.getD 0 0).toNat = 255 ∧ (u.getD 1 0).toNat = 3
        · refine Ev.ite_pos ((head_two u (by omega)).2 hh) ?_
          rw [if_pos hh]
          refine Ev.ite_pos (by rw [B_size]; omega) ?_
          refine Ev.ite_pos (by rw [B_size]; omega) ?_
          rw [hb2, hb3, hp]
          refine Ev.pre (rproto_spec _) ?_
          cases protoB (protoL u)
          · refine Ev.ite_neg (by decide) ?_
            rw [if_neg (by decide)]
            exact Ev.now _
          · refine Ev.ite_pos rfl ?_
            rw [if_pos rfl]
            have hw : wrap64 (((B u).size : Int) - 4) = (u.length : Int) - 4 := by
              rw [B_size]
              exact wrap_less u.length 4 (by omega) (by omega)
            rw [hw]
            by_cases hl2 : 2048 < u.length - 4
            · refine Ev.ite_pos (by omega) ?_
              rw [if_pos hl2]
              exact Ev.now _
            · refine Ev.ite_neg (by omega) ?_
              rw [if_neg hl2]
              refine Ev.ite_pos (by rw [B_size]; omega) ?_
              have e2 : (List.drop 4 u).take (u.length - 4) = u.drop 4 := List.take_of_length_le (by simp)
              rw [B_size, B_ext, e2]
              exact Ev.now _
        · refine Ev.ite_neg (fun h => hh ((head_two u (by omega)).1 h)) ?_
          rw [if_neg hh]
          exact Ev.now _
      · refine Ev.ite_neg hc ?_
        rw [if_pos hc]
        exact Ev.now _
  by_cases he : e = 0
  · refine Ev.ite_pos he ?_
    refine main _ ?_
    rw [B_size, decide_eq_true_eq]
    omega
  · refine Ev.ite_neg he ?_
    exact main true ⟨fun _ => .inl he, fun _ => rfl⟩

/-! ### the sign of life -/
theorem num_spec (x : Int) : withylaw0_Num.f x = some x := rfl
/-- What stands between the flags of a frame. -/
theorem inner (x : List UInt8) : ((126 :: (x ++ [126])).drop 1).take ((126 :: (x ++ [126])).length - 1 - 1) = x := by
  have e : (126 :: (x ++ [126])).length - 1 - 1 = x.length := by simp
  rw [e]
  simp
theorem wrap_len (x : List UInt8) (h : x.length ≤ 140737488355000) : wrap64 (((126 :: (x ++ [126])).length : Int) - 1) = ((x.length + 1 : Nat) : Int) := by
  have := wrap_less (126 :: (x ++ [126])).length 1 (by simp; omega) (by omega)
  simp at this ⊢
  unfold wrap64 at this ⊢
  omega
theorem short_abc : unframeL [97, 98, 99] = (0, [], 300) := by decide
theorem short_abcde : unframeL [97, 98, 99, 100, 101] = (0, [], 300) := by decide
theorem awake_spec : Ev (fun k => withylaw3_awake.f k) true := by
  unfold withylaw3_awake.f
  have hp : protoB 49185 = true := by decide
  have hf := put_frame 49185 [104, 105] 0
  rw [frame_ok 49185 [104, 105] 0 hp (by decide)] at hf
  have hb := frame_back 49185 [104, 105] 0 hp (by decide)
  have hl2 := stuffL_length 0 (sumL (headL 49185 ++ [104, 105]))
  have hlg := stuffL_ge 0 (sumL (headL 49185 ++ [104, 105]))
  have h8 : (sumL (headL 49185 ++ [104, 105])).length = 8 := by rw [sumL_length]; rfl
  rw [h8] at hl2 hlg
  generalize stuffL 0 (sumL (headL 49185 ++ [104, 105])) = x at hf hb hl2 hlg
  refine Ev.pre hf ?_
  refine Ev.pre (num_spec _) ?_
  refine Ev.ite_pos rfl ?_
  simp only []
  have hz : decide ((((B (126 :: (x ++ [126]))).size : Nat) : Int) < 4) = false := by
    rw [B_size]; simp; omega
  rw [hz]
  refine Ev.next (f := fun k => _) (fun k => by simp only [withylaw3_awake.j0]; rfl) ?_
  refine Ev.ite_neg (by decide) ?_
  rw [B_size]
  have hw := wrap_len x (by omega)
  rw [hw]
  refine Ev.ite_pos (by omega) ?_
  refine Ev.ite_pos (by simp; omega) ?_
  have hi := inner x
  have e1 : ((((x.length + 1 : Nat) : Int)).toNat) - 1 = (126 :: (x ++ [126])).length - 1 - 1 := by simp
  rw [B_ext, e1, hi]
  have g1 := get_frame (B x) (by rw [B_size]; omega)
  rw [B_data, hb] at g1
  refine Ev.bind g1 ?_
  have g2 := get_frame (B [97, 98, 99]) (by decide)
  rw [B_data, short_abc] at g2
  refine Ev.bind g2 ?_
  have hf2 := put_frame 2 [] 0
  have e2 : frameL 2 [] 0 = ([], 303) := by decide
  rw [e2] at hf2
  refine Ev.pre hf2 ?_
  refine Ev.ite_pos (by rw [B_toList]; decide) ?_
  refine Ev.pre (num_spec _) ?_
  refine Ev.ite_pos rfl ?_
  refine Ev.pre (num_spec _) ?_
  refine Ev.ite_pos rfl ?_
  refine Ev.pre (num_spec _) ?_
  exact Ev.now _
end Go.Proofs.Ytnkjhlpdcffalaa.Sp
