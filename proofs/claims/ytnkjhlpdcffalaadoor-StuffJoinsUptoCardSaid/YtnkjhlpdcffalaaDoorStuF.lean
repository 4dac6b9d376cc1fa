/-
  Chapter 2's laws, plainly: texts between flags.
-/
import Derived.Test.YtnkjhlpdcffalaaDoorStuE
set_option linter.unusedVariables false
set_option linter.unusedSimpArgs false
namespace Go.Proofs.YtnkjhlpdcffalaaDoor.Sp
open Go.RowKit Go.Proofs.YtnkjhlpdcffalaaDoor.PF Go.Proofs.YtnkjhlpdcffalaaDoor.H Go.Proofs.YtnkjhlpdcffalaaDoorW.PrintWords Go.Proofs.YtnkjhlpdcffalaaDoorW.PrintLast Go.Proofs.YtnkjhlpdcffalaaDoorW.PrintMore Go.Proofs.Wy

/-- Texts, each behind a flag. -/
def flagL (ps : List (List UInt8)) : List UInt8 := ps.flatMap fun p => 126 :: p
theorem flagL_snoc (ps : List (List UInt8)) (q : List UInt8) : flagL (ps ++ [q]) = flagL ps ++ 126 :: q := by simp [flagL]
theorem flagL_length (ps : List (List UInt8)) (h : ∀ p ∈ ps, (126 : UInt8) ∉ p ∧ p.length ≤ 2097152) : (flagL ps).length ≤ ps.length * 2097153 := by
  induction ps with
  | nil => simp [flagL]
  | cons p r ih =>
    have h1 := (h p List.mem_cons_self).2
    have h2 := ih fun q hq => h q (List.mem_cons_of_mem _ hq)
    have e : flagL (p :: r) = 126 :: p ++ flagL r := rfl
    rw [e, List.length_append, List.length_cons, List.length_cons]
    omega
theorem cutAt_flags (ps : List (List UInt8)) (z : List UInt8) (hz : (126 : UInt8) ∉ z) : ∀ f : List UInt8, (126 : UInt8) ∉ f → (∀ p ∈ ps, (126 : UInt8) ∉ p ∧ p.length ≤ 2097152) → cutAt 126 (f ++ (flagL ps ++ 126 :: z)) = f :: (ps ++ [z]) := by
  induction ps with
  | nil =>
    intro f hf _
    show cutAt 126 (f ++ 126 :: z) = _
    rw [cutAt_then f z hf, cutAt_none z hz]
    rfl
  | cons p r ih =>
    intro f hf h
    have e : flagL (p :: r) = 126 :: (p ++ flagL r) := rfl
    rw [e, List.cons_append, cutAt_then f _ hf, List.append_assoc, ih p (h p List.mem_cons_self).1 fun q hq => h q (List.mem_cons_of_mem _ hq)]
    rfl
theorem full_snoc (ps : List (List UInt8)) (q : List UInt8) : full (ps ++ [q]) = full ps ++ (if q.length = 0 then [] else [q]) := by
  unfold full
  rw [List.filter_append]
  congr 1
  by_cases h : q.length = 0 <;> simp [h]
theorem full_length (ps : List (List UInt8)) : (full ps).length ≤ ps.length := List.length_filter_le _ _

theorem joins_end (x0 : List ByteArray) (f z : List UInt8) (hf : (126 : UInt8) ∉ f) (hz : (126 : UInt8) ∉ z) (lf : f.length ≤ 2097152) (lz : z.length ≤ 2097152) (ps : List (List UInt8)) (hp : ∀ p ∈ ps, (126 : UInt8) ∉ p ∧ p.length ≤ 2097152) (h10 : ps.length ≤ 10) (x11 : Int) :
    Ev (fun k => withylaw2_StuffJoins.j1 k x0 (B z) (B (f ++ flagL ps)) ((full ps).map B) x11 false) true := by
  have hl := flagL_length ps hp
  have z1 : (B (f ++ flagL ps)).size = f.length + (flagL ps).length := by rw [B_size, List.length_append]
  have z2 : (B z).size = z.length := B_size _
  have z3 : (B [126]).size = 1 := rfl
  refine Ev.next (f := fun k => _) (fun k => by simp only [withylaw2_StuffJoins.j1]; rfl) ?_
  refine Ev.ite_neg (by decide) ?_
  refine Ev.ite_pos (by omega) ?_
  refine Ev.ite_pos (by rw [ByteArray.size_append]; show _ + (B [126]).size + _ ≤ _; omega) ?_
  have eall : B (f ++ flagL ps) ++ B [126] ++ B z = B (f ++ (flagL ps ++ 126 :: z)) := by
    rw [B_app, B_app]
    simp
  have hsp := split_spec (B (f ++ (flagL ps ++ 126 :: z))) (by rw [B_size, List.length_append, List.length_append, List.length_cons]; omega)
  have hk : keepL (f ++ (flagL ps ++ 126 :: z)) = (full ps, z) := by
    unfold keepL
    rw [cutAt_flags ps z hz f hf hp]
    refine Prod.ext ?_ ?_
    · show full (ps ++ [z]).dropLast = _
      rw [List.dropLast_concat]
    · show (f :: (ps ++ [z])).getLastD [] = z
      rw [List.getLastD_eq_getLast?, List.getLast?_cons]
      simp
  rw [B_data, hk, ← eall] at hsp
  refine Ev.pre hsp ?_
  have hfl := full_length ps
  refine Ev.bind (same_spec ((full ps).map B) (by rw [List.length_map]; omega)) ?_
  refine Ev.ite_pos rfl ?_
  have e : ((B z).toList == (B z).toList) = true := by simp
  show Ev (fun _ => some ((B z).toList == (B z).toList)) true
  rw [e]
  exact Ev.now _
theorem joins_l0 (x0 : List ByteArray) (hx : ∀ p ∈ x0, p.size ≤ 1048576) (hx0 : x0.length ≤ 4611686018427387904) (f z : List UInt8) (hf : (126 : UInt8) ∉ f) (hz : (126 : UInt8) ∉ z) (lf : f.length ≤ 2097152) (lz : z.length ≤ 2097152) (d : Nat) :
    ∀ (i : Nat) (ps : List (List UInt8)), (i + d = x0.length ∨ i + d = 10) → i ≤ 10 → ps.length = i → (∀ p ∈ ps, (126 : UInt8) ∉ p ∧ p.length ≤ 2097152) → Ev (fun k => withylaw2_StuffJoins.l0 k x0 (B z) (B (f ++ flagL ps)) ((full ps).map B) (i : Int)) true := by
  induction d with
  | zero =>
    intro i ps hi h10 hpl hp
    refine Ev.next (f := fun k => _) (fun k => by simp only [withylaw2_StuffJoins.l0]; rfl) ?_
    by_cases h : (i : Int) < (x0.length : Int)
    · refine Ev.ite_pos h ?_
      have hd : decide ((i : Int) < 10) = false := by simp; omega
      rw [hd]
      exact joins_end x0 f z hf hz lf lz ps hp (by omega) _
    · refine Ev.ite_neg h ?_
      exact joins_end x0 f z hf hz lf lz ps hp (by omega) _
  | succ d ih =>
    intro i ps hi h10 hpl hp
    refine Ev.next (f := fun k => _) (fun k => by simp only [withylaw2_StuffJoins.l0]; rfl) ?_
    by_cases h : (i : Int) < (x0.length : Int)
    · refine Ev.ite_pos h ?_
      by_cases hd : (i : Int) < 10
      · rw [decide_eq_true hd]
        have hlt : i < x0.length := by omega
        have hr : rdOf ByteArray.empty x0 (i : Int) = x0[i] := by
          unfold rdOf
          rw [Int.toNat_natCast, List.getD_eq_getElem?_getD, List.getElem?_eq_getElem hlt]
          rfl
        have hsz := hx x0[i] (List.getElem_mem hlt)
        have hw : wrap64 ((i : Int) + 1) = ((i + 1 : Nat) : Int) := wrap_next hlt (by omega)
        have hl := flagL_length ps hp
        have hst := stuffL_length 0 x0[i].data.toList
        have hdz : x0[i].data.toList.length = x0[i].size := size_data _
        have z1 : (B (f ++ flagL ps)).size = f.length + (flagL ps).length := by rw [B_size, List.length_append]
        have z2 : (B (stuffL 0 x0[i].data.toList)).size = (stuffL 0 x0[i].data.toList).length := B_size _
        have z3 : (B [126]).size = 1 := rfl
        refine Ev.next (f := fun k => _) (fun k => by simp only [withylaw2_StuffJoins.j1]; rfl) ?_
        refine Ev.ite_pos trivial ?_
        refine Ev.ite_pos (by omega) ?_
        refine Ev.ite_pos h ?_
        rw [hr, hw]
        refine Ev.pre (put_spec x0[i] 0 (by omega)) ?_
        refine Ev.ite_pos (by omega) ?_
        refine Ev.ite_pos (by rw [ByteArray.size_append]; show _ + (B [126]).size + _ ≤ _; omega) ?_
        have eall : B (f ++ flagL ps) ++ B [126] ++ B (stuffL 0 x0[i].data.toList) = B (f ++ flagL (ps ++ [stuffL 0 x0[i].data.toList])) := by
          rw [B_app, B_app, flagL_snoc]
          simp
        have hp2 : ∀ p ∈ ps ++ [stuffL 0 x0[i].data.toList], (126 : UInt8) ∉ p ∧ p.length ≤ 2097152 := by
          intro p hpm
          rcases List.mem_append.1 hpm with hpm | hpm
          · exact hp p hpm
          · obtain rfl : p = stuffL 0 x0[i].data.toList := by simpa using hpm
            exact ⟨stuffL_noflag 0 _, by omega⟩
        have hnext := ih (i + 1) (ps ++ [stuffL 0 x0[i].data.toList]) (by omega) (by omega) (by simp; omega) hp2
        rw [← eall, full_snoc] at hnext
        by_cases h0 : stuffL 0 x0[i].data.toList = []
        · refine Ev.ite_pos (by rw [B_toList]; exact h0) ?_
          rw [if_pos (by rw [h0]; rfl), List.append_nil] at hnext
          exact hnext
        · refine Ev.ite_neg (by rw [B_toList]; exact h0) ?_
          have hfl := full_length ps
          refine Ev.ite_pos (by rw [List.length_map]; omega) ?_
          rw [if_neg (fun e => h0 (List.eq_nil_of_length_eq_zero e)), List.map_append] at hnext
          exact hnext
      · have hd2 : decide ((i : Int) < 10) = false := decide_eq_false hd
        rw [hd2]
        exact joins_end x0 f z hf hz lf lz ps hp (by omega) _
    · refine Ev.ite_neg h ?_
      exact joins_end x0 f z hf hz lf lz ps hp (by omega) _
theorem joins_pure (x0 : List ByteArray) (a b : ByteArray) (hx : ∀ p ∈ x0, p.size ≤ 1048576) (hx0 : x0.length ≤ 4611686018427387904) (ha : a.size ≤ 1048576) (hb : b.size ≤ 1048576) : ∃ k, withylaw2_StuffJoins.f k x0 a b = some true := by
  refine Ev.rounds (g := fun k => withylaw2_StuffJoins.f k x0 a b) ?_
  unfold withylaw2_StuffJoins.f
  have la := stuffL_length 0 a.data.toList
  have lb := stuffL_length 0 b.data.toList
  have za : a.data.toList.length = a.size := size_data a
  have zb : b.data.toList.length = b.size := size_data b
  refine Ev.bind awake_spec ?_
  refine Ev.ite_pos rfl ?_
  refine Ev.pre (put_spec a 0 (by omega)) ?_
  refine Ev.pre (put_spec b 0 (by omega)) ?_
  have e : B (stuffL 0 a.data.toList) = B (stuffL 0 a.data.toList ++ flagL []) := by simp [flagL]
  rw [e]
  by_cases h : x0.length ≤ 10
  · exact joins_l0 x0 hx hx0 _ _ (stuffL_noflag 0 _) (stuffL_noflag 0 _) (by omega) (by omega) x0.length 0 [] (by omega) (by omega) rfl (fun p hp => absurd hp (by simp))
  · exact joins_l0 x0 hx hx0 _ _ (stuffL_noflag 0 _) (stuffL_noflag 0 _) (by omega) (by omega) 10 0 [] (by omega) (by omega) rfl (fun p hp => absurd hp (by simp))
theorem size_sum (l : List ByteArray) (p : ByteArray) (h : p ∈ l) : p.size ≤ (l.map (·.size)).sum := by
  induction l with
  | nil => exact absurd h (by simp)
  | cons x r ih =>
    rw [List.map_cons, List.sum_cons]
    rcases List.mem_cons.1 h with rfl | h
    · omega
    · have := ih h
      omega
theorem joins_up (x0 : List ByteArray) (a b : ByteArray) (hb0 : x0.length + (x0.map (·.size)).sum ≤ 1048576) (ha : a.size ≤ 1048576) (hb : b.size ≤ 1048576) : ∃ k, withylaw2_StuffJoins.f k x0 a b = some true :=
  joins_pure x0 a b (fun p hp => by have := size_sum x0 p hp; omega) (by omega) ha hb
end Go.Proofs.YtnkjhlpdcffalaaDoor.Sp
