/-
  The sign of life of chapter 2's laws, and the law of any bytes: stuffed, undone, split.
-/
import Derived.Test.YtnkjhlpdcffalaaDoorStuB
import Derived.Test.YtnkjhlpdcffalaaDoorFrame
set_option linter.unusedVariables false
set_option linter.unusedSimpArgs false
namespace Go.Proofs.YtnkjhlpdcffalaaDoor.Sp
open Go.RowKit Go.Proofs.YtnkjhlpdcffalaaDoor.PF Go.Proofs.YtnkjhlpdcffalaaDoor.H Go.Proofs.YtnkjhlpdcffalaaDoorW.PrintWords Go.Proofs.YtnkjhlpdcffalaaDoorW.PrintLast Go.Proofs.YtnkjhlpdcffalaaDoorW.PrintMore Go.Proofs.Wy

theorem num_spec (x : Int) : withylaw0_Num.f x = some x := rfl
theorem awake_spec : Ev (fun k => withylaw2_awake.f k) true := by
  unfold withylaw2_awake.f
  refine Ev.pre (get_spec (B [97, 125, 94, 98]) (by decide)) ?_
  refine Ev.pre (get_spec (B [125]) (by decide)) ?_
  refine Ev.pre (get_spec (B [126]) (by decide)) ?_
  have e1 : unstuffL (B [97, 125, 94, 98]).data.toList = ([97, 126, 98], 0) := by decide
  have e2 : unstuffL (B [125]).data.toList = ([], 200) := by decide
  have e3 : unstuffL (B [126]).data.toList = ([], 201) := by decide
  rw [e1, e2, e3]
  have hs := split_spec (B [120, 126, 97, 98, 126, 126, 99, 126, 100]) (by decide)
  have e4 : keepL (B [120, 126, 97, 98, 126, 126, 99, 126, 100]).data.toList = ([[97, 98], [99]], [100]) := by decide
  rw [e4] at hs
  refine Ev.pre hs ?_
  have hp := put_spec (B [126, 1]) 2 (by decide)
  have e5 : stuffL 2 (B [126, 1]).data.toList = [125, 94, 125, 33] := by decide
  rw [e5] at hp
  refine Ev.pre hp ?_
  refine Ev.ite_pos (B_toList _) ?_
  refine Ev.ite_pos (B_toList _) ?_
  refine Ev.pre (num_spec _) ?_
  refine Ev.ite_pos rfl ?_
  refine Ev.pre (num_spec _) ?_
  refine Ev.ite_pos rfl ?_
  refine Ev.pre (num_spec _) ?_
  refine Ev.ite_pos rfl ?_
  refine Ev.bind (same_spec [B [97, 98], B [99]] (by decide)) ?_
  refine Ev.ite_pos rfl ?_
  have e6 : ((B [100]).toList == [100]) = true := by rw [B_toList]; rfl
  show Ev (fun _ => some ((B [100]).toList == [100])) true
  rw [e6]
  exact Ev.now _

theorem cutAt_length (l : List UInt8) : (cutAt 126 l).length ≤ l.length + 1 := by
  induction l with
  | nil => simp [cutAt]
  | cons b r ih =>
    unfold cutAt
    split
    · simp; omega
    · obtain ⟨h, t, e⟩ := cut_cons r
      rw [e] at ih ⊢
      simp at ih ⊢
      omega
theorem keepL_length (l : List UInt8) : (keepL l).1.length ≤ l.length := by
  have h := cutAt_length l
  unfold keepL full
  have h2 := List.length_filter_le (fun p : List UInt8 => p.length != 0) (cutAt 126 l).tail.dropLast
  rw [List.length_dropLast, List.length_tail] at h2
  show (List.filter _ _).length ≤ _
  omega
theorem stuffs_l0 (x : List ByteArray) (hx : x.length ≤ 4611686018427387904) (d : Nat) : ∀ (i : Nat) (y : List ByteArray), y.length ≤ 4611686018427387904 → i + d = y.length → Ev (fun k => withylaw2_Stuffs.l0 k y x x (i : Int)) true := by
  induction d with
  | zero =>
    intro i y hy hi
    refine Ev.next (f := fun k => _) (fun k => by simp only [withylaw2_Stuffs.l0]; rfl) ?_
    refine Ev.ite_neg (by omega) ?_
    refine Ev.bind (same_spec x hx) ?_
    refine Ev.ite_pos rfl ?_
    refine Ev.bind awake_spec ?_
    exact Ev.now _
  | succ d ih =>
    intro i y hy hi
    have hw : wrap64 ((i : Int) + 1) = ((i + 1 : Nat) : Int) := wrap_next (n := y.length) (by omega) (by omega)
    refine Ev.next (f := fun k => _) (fun k => by simp only [withylaw2_Stuffs.l0]; rfl) ?_
    refine Ev.ite_pos (by omega) ?_
    refine Ev.ite_pos (by omega) ?_
    rw [hw]
    exact ih (i + 1) _ (by rw [List.length_set]; exact hy) (by rw [List.length_set]; omega)
theorem stuffs_pure (s : ByteArray) (m : Int) (h : s.size ≤ 1048576) : ∃ k, withylaw2_Stuffs.f k s m = some true := by
  refine Ev.rounds (g := fun k => withylaw2_Stuffs.f k s m) ?_
  unfold withylaw2_Stuffs.f
  have hz : s.data.toList.length = s.size := size_data s
  have hk := keepL_length s.data.toList
  have hl : ((keepL s.data.toList).1.map B).length ≤ 4611686018427387904 := by rw [List.length_map]; omega
  refine Ev.pre (get_spec s (by omega)) ?_
  refine Ev.bind (runstuff_spec s (by omega)) ?_
  refine Ev.pre (split_spec s (by omega)) ?_
  refine Ev.pre (split_spec s (by omega)) ?_
  refine Ev.bind (rsplit_spec s (by omega)) ?_
  refine Ev.pre (put_spec s m (by omega)) ?_
  refine Ev.bind (stuff_spec s m (by omega)) ?_
  refine Ev.ite_pos rfl ?_
  refine Ev.ite_pos rfl ?_
  refine Ev.pre (num_spec _) ?_
  refine Ev.ite_pos rfl ?_
  refine Ev.bind (same_spec _ hl) ?_
  refine Ev.ite_pos rfl ?_
  refine Ev.ite_pos rfl ?_
  have e : ((B (keepL s.data.toList).2).toList != (B (keepL s.data.toList).2).toList) = false := by simp
  rw [e]
  refine Ev.next (f := fun k => _) (fun k => by simp only [withylaw2_Stuffs.j0]; rfl) ?_
  refine Ev.ite_neg (by decide) ?_
  exact stuffs_l0 _ hl _ 0 _ hl (Nat.zero_add _)
end Go.Proofs.YtnkjhlpdcffalaaDoor.Sp
