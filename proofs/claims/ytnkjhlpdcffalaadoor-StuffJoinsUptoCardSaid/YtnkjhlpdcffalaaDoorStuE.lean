/-
  Chapter 2's laws, plainly: a mark takes any byte but a flag; texts one behind the other.
-/
import Derived.Test.YtnkjhlpdcffalaaDoorStuD
set_option linter.unusedVariables false
set_option linter.unusedSimpArgs false
namespace Go.Proofs.YtnkjhlpdcffalaaDoor.Sp
open Go.RowKit Go.Proofs.YtnkjhlpdcffalaaDoor.PF Go.Proofs.YtnkjhlpdcffalaaDoor.H Go.Proofs.YtnkjhlpdcffalaaDoorW.PrintWords Go.Proofs.YtnkjhlpdcffalaaDoorW.PrintLast Go.Proofs.YtnkjhlpdcffalaaDoorW.PrintMore Go.Proofs.Wy

theorem un_end (m : Int) (l : List UInt8) : unstuffL (stuffL m l ++ [125]) = ([], 200) := by
  have hm : (126 : UInt8) ∉ stuffL m l ++ [125] := by
    intro h
    rcases List.mem_append.1 h with h | h
    · exact stuffL_noflag m l h
    · exact absurd h (by decide)
  refine (unstuffL_of _ hm).1 ?_
  rw [unstuff_stuffGo]
  rfl
theorem un_flag (m : Int) (l : List UInt8) : unstuffL (stuffL m l ++ [125, 126]) = ([], 201) := unstuffL_flag _ (by simp)
theorem un_mark (m : Int) (l : List UInt8) (b : UInt8) (hb : b ≠ 126) : unstuffL (stuffL m l ++ [125, b]) = (l ++ [b ^^^ 32], 0) := by
  have hm : (126 : UInt8) ∉ stuffL m l ++ [125, b] := by
    intro h
    rcases List.mem_append.1 h with h | h
    · exact stuffL_noflag m l h
    · rcases List.mem_cons.1 h with h | h
      · exact absurd h (by decide)
      · have : (126 : UInt8) = b := by simpa using h
        exact hb this.symm
  refine (unstuffL_of _ hm).2 _ ?_
  rw [unstuff_stuffGo, unstuffGo_mark 125 b [] rfl]
  rfl
theorem marks_pure (s : ByteArray) (c : Int) (h : s.size ≤ 1048576) : ∃ k, withylaw2_StuffMarks.f k s c = some true := by
  refine Ev.rounds (g := fun k => withylaw2_StuffMarks.f k s c) ?_
  unfold withylaw2_StuffMarks.f
  have hz : s.data.toList.length = s.size := size_data s
  have hl := stuffL_length 0 s.data.toList
  obtain ⟨n, hn, e⟩ : ∃ n : Nat, n < 256 ∧ c % 256 = n := ⟨(c % 256).toNat, by omega, by omega⟩
  rw [e]
  clear e
  obtain ⟨b, hb⟩ : ∃ b : UInt8, b.toNat = n := ⟨UInt8.ofNat n, by simp; omega⟩
  subst hb
  have e1 : strOfNums ([125, (b.toNat : Int)] : List Int) = B [125, b] := nb_str [125, b]
  have hx : Go.bits .xor .u8 (b.toNat : Int) 32 = ((b ^^^ 32).toNat : Int) := xor_byte b 32
  have e2 : strOfNums ([((b ^^^ 32).toNat : Int)] : List Int) = B [b ^^^ 32] := nb_str [b ^^^ 32]
  have z1 : (B (stuffL 0 s.data.toList)).size = (stuffL 0 s.data.toList).length := B_size _
  have z2 : (B [125, b]).size = 2 := rfl
  have z3 : (B [b ^^^ 32]).size = 1 := rfl
  refine Ev.bind awake_spec ?_
  refine Ev.ite_pos rfl ?_
  refine Ev.pre (put_spec s 0 (by omega)) ?_
  refine Ev.pre rfl ?_
  rw [e1]
  refine Ev.ite_pos (by omega) ?_
  have g1 := get_spec (B (stuffL 0 s.data.toList ++ [125, b])) (by rw [B_size, List.length_append]; simp; omega)
  have g2 := get_spec (B (stuffL 0 s.data.toList ++ [125])) (by rw [B_size, List.length_append]; simp; omega)
  rw [B_data] at g1 g2
  rw [un_end] at g2
  rw [B_app]
  refine Ev.pre g1 ?_
  refine Ev.ite_pos (by omega) ?_
  show Ev (fun k => (stuff_Get.f (B (stuffL 0 s.data.toList) ++ B [125])).bind _) true
  rw [B_app]
  refine Ev.pre g2 ?_
  by_cases h126 : b = 126
  · subst h126
    refine Ev.ite_pos rfl ?_
    rw [un_flag]
    refine Ev.pre (num_spec _) ?_
    refine Ev.ite_pos rfl ?_
    refine Ev.ite_pos (B_toList _) ?_
    refine Ev.pre (num_spec _) ?_
    exact Ev.now _
  · have hne : ¬ (b.toNat : Int) = 126 := fun h => h126 (UInt8.toNat_inj.1 (by simpa using Int.ofNat_inj.1 h))
    refine Ev.ite_neg hne ?_
    rw [un_mark 0 _ b h126, hx]
    refine Ev.pre (num_spec _) ?_
    refine Ev.ite_pos rfl ?_
    refine Ev.pre rfl ?_
    rw [e2]
    refine Ev.ite_pos (by omega) ?_
    have e3 : s ++ B [b ^^^ 32] = B (s.data.toList ++ [b ^^^ 32]) := by
      conv => lhs; rw [← B_list s]
      rw [B_app]
    rw [e3]
    refine Ev.ite_pos rfl ?_
    refine Ev.pre (num_spec _) ?_
    refine Ev.ite_pos rfl ?_
    have e4 : ((B []).toList == ([] : List UInt8)) = true := by rw [B_toList]; rfl
    show Ev (fun _ => some ((B []).toList == ([] : List UInt8))) true
    rw [e4]
    exact Ev.now _

/-! ### parts -/
theorem cutAt_none (l : List UInt8) (h : (126 : UInt8) ∉ l) : cutAt 126 l = [l] := by
  induction l with
  | nil => rfl
  | cons b r ih =>
    have h1 : ¬ b = 126 := fun e => h (by rw [e]; exact List.mem_cons_self)
    have h2 := ih fun e => h (List.mem_cons_of_mem _ e)
    unfold cutAt
    rw [if_neg h1, h2]
theorem cutAt_then (l r : List UInt8) (h : (126 : UInt8) ∉ l) : cutAt 126 (l ++ 126 :: r) = l :: cutAt 126 r := by
  induction l with
  | nil =>
    show cutAt 126 (126 :: r) = _
    conv => lhs; unfold cutAt
    rw [if_pos rfl]
  | cons b q ih =>
    have h1 : ¬ b = 126 := fun e => h (by rw [e]; exact List.mem_cons_self)
    have h2 := ih fun e => h (List.mem_cons_of_mem _ e)
    show cutAt 126 (b :: (q ++ 126 :: r)) = _
    conv => lhs; unfold cutAt
    rw [if_neg h1, h2]
theorem stuffL_nil (m : Int) (l : List UInt8) : (stuffL m l).length = 0 ↔ l = [] := by
  have h := stuffL_ge m l
  constructor
  · intro e
    exact List.eq_nil_of_length_eq_zero (by omega)
  · rintro rfl
    rfl
theorem parts_j0 (a b : ByteArray) (m : Int) (ha : a.size ≤ 1048576) (hb : b.size ≤ 1048576) (xs : List ByteArray) (n : Int) (hn : (xs.length : Int) = n) : Ev (fun k => withylaw2_StuffParts.j0 k a b m xs (B (stuffL m b.data.toList)) n) true := by
  have la := stuffL_length m a.data.toList
  have lb := stuffL_length m b.data.toList
  have za : a.data.toList.length = a.size := size_data a
  have zb : b.data.toList.length = b.size := size_data b
  have z1 : (B (stuffL m a.data.toList)).size = (stuffL m a.data.toList).length := B_size _
  have z2 : (B (stuffL m b.data.toList)).size = (stuffL m b.data.toList).length := B_size _
  refine Ev.next (f := fun k => _) (fun k => by simp only [withylaw2_StuffParts.j0]; rfl) ?_
  refine Ev.ite_pos (by omega) ?_
  have p1 : stuff_Put.f (a ++ b) m = some (B (stuffL m a.data.toList) ++ B (stuffL m b.data.toList)) := by
    have h := put_spec (a ++ b) m (by rw [ByteArray.size_append]; omega)
    have e : (a ++ b).data.toList = a.data.toList ++ b.data.toList := by simp
    rw [e, stuffL_append] at h
    rw [h, B_app]
  refine Ev.pre p1 ?_
  refine Ev.pre (put_spec a m (by omega)) ?_
  refine Ev.pre (put_spec b m (by omega)) ?_
  refine Ev.ite_pos (by omega) ?_
  refine Ev.ite_pos rfl ?_
  refine Ev.ite_pos hn ?_
  refine Ev.pre (put_spec b m (by omega)) ?_
  have e : ((B (stuffL m b.data.toList)).toList == (B (stuffL m b.data.toList)).toList) = true := by simp
  rw [e]
  exact Ev.now _
theorem parts_pure (a b : ByteArray) (m : Int) (ha : a.size ≤ 1048576) (hb : b.size ≤ 1048576) : ∃ k, withylaw2_StuffParts.f k a b m = some true := by
  refine Ev.rounds (g := fun k => withylaw2_StuffParts.f k a b m) ?_
  unfold withylaw2_StuffParts.f
  have la := stuffL_length m a.data.toList
  have lb := stuffL_length m b.data.toList
  have za : a.data.toList.length = a.size := size_data a
  have zb : b.data.toList.length = b.size := size_data b
  have z1 : (B (stuffL m a.data.toList)).size = (stuffL m a.data.toList).length := B_size _
  have z2 : (B (stuffL m b.data.toList)).size = (stuffL m b.data.toList).length := B_size _
  have z3 : (B [126]).size = 1 := rfl
  refine Ev.bind awake_spec ?_
  refine Ev.ite_pos rfl ?_
  refine Ev.pre (put_spec a m (by omega)) ?_
  refine Ev.ite_pos (by omega) ?_
  refine Ev.ite_pos (by rw [ByteArray.size_append]; show (B [126]).size + _ + 1 ≤ _; omega) ?_
  refine Ev.pre (put_spec b m (by omega)) ?_
  refine Ev.ite_pos (by rw [ByteArray.size_append, ByteArray.size_append]; show (B [126]).size + _ + (B [126]).size + _ ≤ _; omega) ?_
  have eall : B [126] ++ B (stuffL m a.data.toList) ++ B [126] ++ B (stuffL m b.data.toList) = B ([] ++ 126 :: (stuffL m a.data.toList ++ 126 :: stuffL m b.data.toList)) := by
    rw [B_app, B_app, B_app]
    simp
  have hsp := split_spec (B ([] ++ 126 :: (stuffL m a.data.toList ++ 126 :: stuffL m b.data.toList))) (by rw [B_size]; simp; omega)
  have hk : keepL ([] ++ 126 :: (stuffL m a.data.toList ++ 126 :: stuffL m b.data.toList)) = (if (stuffL m a.data.toList).length = 0 then [] else [stuffL m a.data.toList], stuffL m b.data.toList) := by
    unfold keepL
    rw [cutAt_then _ _ (by simp), cutAt_then _ _ (stuffL_noflag m _), cutAt_none _ (stuffL_noflag m _)]
    refine Prod.ext ?_ rfl
    show full [stuffL m a.data.toList] = _
    rw [full_cons]
    simp [full]
  rw [B_data, hk, ← eall] at hsp
  refine Ev.pre hsp ?_
  by_cases h0 : a.data.toList = []
  · refine Ev.ite_pos (by rw [Lib.toList_data]; exact h0) ?_
    have hl := (stuffL_nil m _).2 h0
    rw [if_pos hl]
    exact parts_j0 a b m ha hb _ _ rfl
  · refine Ev.ite_neg (by rw [Lib.toList_data]; exact h0) ?_
    have hl : ¬ (stuffL m a.data.toList).length = 0 := fun e => h0 ((stuffL_nil m _).1 e)
    rw [if_neg hl]
    exact parts_j0 a b m ha hb _ _ rfl
end Go.Proofs.YtnkjhlpdcffalaaDoor.Sp
