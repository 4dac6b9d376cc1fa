/-
  What the printed functions of splitting come to, in lists of bytes.
-/
import Derived.Test.YtnkjhlpdcffalaaDoorStuA
set_option linter.unusedVariables false
set_option linter.unusedSimpArgs false
namespace Go.Proofs.YtnkjhlpdcffalaaDoor.Sp
open Go.RowKit Go.Proofs.YtnkjhlpdcffalaaDoor.PF Go.Proofs.YtnkjhlpdcffalaaDoor.H Go.Proofs.YtnkjhlpdcffalaaDoorW.PrintWords Go.Proofs.YtnkjhlpdcffalaaDoorW.PrintLast Go.Proofs.YtnkjhlpdcffalaaDoorW.PrintMore Go.Proofs.Wy

/-! ### the plain law -/
def full (ps : List (List UInt8)) : List (List UInt8) := ps.filter fun p => p.length != 0
def keepL (l : List UInt8) : List (List UInt8) × List UInt8 := (full (cutAt 126 l).tail.dropLast, (cutAt 126 l).getLastD [])
/-- The pieces behind the first flag, forward: the open piece, what is to come. -/
def goL : List UInt8 → List UInt8 → List (List UInt8) × List UInt8
  | cur, [] => ([], cur)
  | cur, b :: r => if b = 126 then ((if cur.length = 0 then [] else [cur]) ++ (goL [] r).1, (goL [] r).2) else goL (cur ++ [b]) r
def firstL : List UInt8 → Option (List (List UInt8) × List UInt8)
  | [] => none
  | b :: r => if b = 126 then some (goL [] r) else firstL r
theorem full_cons (p : List UInt8) (ps : List (List UInt8)) : full (p :: ps) = (if p.length = 0 then [] else [p]) ++ full ps := by
  unfold full
  rw [List.filter_cons]
  by_cases h : p.length = 0 <;> simp [h]
theorem cut_cons (l : List UInt8) : ∃ h t, cutAt 126 l = h :: t := by
  cases e : cutAt 126 l with
  | nil => exact absurd e (cutAt_ne _ _)
  | cons h t => exact ⟨h, t, rfl⟩
theorem goL_cut (rest : List UInt8) : ∀ cur h t, cutAt 126 rest = h :: t → goL cur rest = (full ((cur ++ h) :: t).dropLast, ((cur ++ h) :: t).getLastD []) := by
  induction rest with
  | nil =>
    intro cur h t e
    unfold cutAt at e
    simp only [List.cons.injEq] at e
    obtain ⟨rfl, rfl⟩ := e
    simp [goL, full]
  | cons b r ih =>
    intro cur h t e
    obtain ⟨h', t', e'⟩ := cut_cons r
    unfold goL
    unfold cutAt at e
    split
    · rename_i hb
      rw [if_pos hb] at e
      simp only [List.cons.injEq] at e
      obtain ⟨rfl, rfl⟩ := e
      rw [ih [] h' t' e', e']
      have eD : ((cur ++ []) :: h' :: t').dropLast = cur :: (h' :: t').dropLast := by rw [List.append_nil]; rfl
      rw [eD, full_cons]
      refine Prod.ext rfl ?_
      simp
    · rename_i hb
      rw [if_neg hb, e'] at e
      simp only [List.cons.injEq] at e
      obtain ⟨rfl, rfl⟩ := e
      rw [ih (cur ++ [b]) h' t' e', List.append_assoc]
      rfl
theorem keepL_first (l : List UInt8) : keepL l = (match firstL l with | none => ([], l) | some x => x) ∧ (firstL l = none → cutAt 126 l = [l]) ∧ (∀ x, firstL l = some x → (cutAt 126 l).tail ≠ []) := by
  induction l with
  | nil => simp [keepL, firstL, cutAt, full]
  | cons b r ih =>
    obtain ⟨h', t', e'⟩ := cut_cons r
    obtain ⟨i1, i2, i3⟩ := ih
    unfold firstL keepL
    by_cases hb : b = 126
    · have e : cutAt 126 (b :: r) = [] :: h' :: t' := by unfold cutAt; rw [if_pos hb, e']
      rw [if_pos hb, e, goL_cut r [] h' t' e']
      simp
    · have e : cutAt 126 (b :: r) = (b :: h') :: t' := by unfold cutAt; rw [if_neg hb, e']
      rw [if_neg hb, e]
      unfold keepL at i1
      rw [e'] at i1 i2 i3
      cases hf : firstL r with
      | none =>
        have := i2 hf
        simp only [List.cons.injEq] at this
        obtain ⟨rfl, rfl⟩ := this
        simp [full]
      | some x =>
        rw [hf] at i1
        have h3 := i3 x hf
        simp only [List.tail_cons] at h3 i1 ⊢
        refine ⟨?_, fun h => absurd h (by simp), fun _ _ => h3⟩
        rw [← i1]
        obtain ⟨a, t2, rfl⟩ : ∃ a t2, t' = a :: t2 := by cases t' with | nil => exact absurd rfl h3 | cons a t2 => exact ⟨a, t2, rfl⟩
        simp

/-! ### the program's -/
theorem map_back (ps : List ByteArray) : (ps.map fun p => p.data.toList).map B = ps := by
  rw [List.map_map]
  conv => rhs; rw [← List.map_id ps]
  exact List.map_congr_left fun p _ => B_list p
theorem split_spec (s : ByteArray) (hs : s.size < 4294967281) : stuff_Split.f s = some ((keepL s.data.toList).1.map B, B (keepL s.data.toList).2) := by
  unfold stuff_Split.f
  rw [if_pos hs]
  have hcut := splitB_cut 126 s.size s (Nat.le_refl _)
  have hlen := Lib.splitB_all ⟨#[126]⟩ (Nat.le_refl _) 0 _ s rfl
  generalize Lib.splitB ⟨#[126]⟩ 0 (Lib.countB s ⟨#[126]⟩) s = ps at hcut hlen ⊢
  generalize Lib.countB s ⟨#[126]⟩ = m at hlen ⊢
  have hps : ps = (cutAt 126 s.data.toList).map B := by rw [← hcut]; exact (map_back ps).symm
  obtain ⟨h, t, e⟩ := cut_cons s.data.toList
  unfold keepL
  rw [e] at hps ⊢
  subst hps
  have hm : m = t.length := by simpa using hlen.symm
  congr 1
  refine Prod.ext ?_ ?_
  · show keepP ((h :: t).map B) (m - 1) = (full t.dropLast).map B
    unfold keepP full
    rw [List.map_cons, List.drop_one, List.tail_cons, hm, ← List.map_take, List.filter_map, List.dropLast_eq_take]
    congr 1
  · show ((h :: t).map B).getLastD s = B ((h :: t).getLastD [])
    rw [List.getLastD_eq_getLast?, List.getLastD_eq_getLast?, List.getLast?_map]
    cases e2 : (h :: t).getLast? with
    | none => exact absurd e2 (by simp)
    | some x => rfl

theorem seg_next (s : ByteArray) (f i : Nat) (hf : f ≤ i) (h : i < s.size) : (s.data.toList.drop f).take (i + 1 - f) = (s.data.toList.drop f).take (i - f) ++ [s[i]] := by
  have h1 : i + 1 - f = (i - f) + 1 := by omega
  have h2 : i - f < (s.data.toList.drop f).length := by rw [List.length_drop, size_data]; omega
  rw [h1, List.take_succ_eq_append_getElem h2, List.getElem_drop]
  have h3 : f + (i - f) = i := by omega
  simp only [h3]
  rfl
theorem rsplit_open (s : ByteArray) (hs : s.size < 4294967281) (d : Nat) : ∀ (k i f : Nat) (out : List ByteArray), i + d = s.size → f ≤ i → out.length ≤ i → d < k →
    withyref1_Split.l0 k s out (f : Int) (i : Int) = some (out ++ (goL ((s.data.toList.drop f).take (i - f)) (s.data.toList.drop i)).1.map B, B (goL ((s.data.toList.drop f).take (i - f)) (s.data.toList.drop i)).2) := by
  induction d with
  | zero =>
    intro k i f out hi hf ho hk
    obtain ⟨k, rfl⟩ : ∃ q, k = q + 1 := ⟨k - 1, by omega⟩
    unfold withyref1_Split.l0
    rw [if_neg (by omega), if_neg (by omega), if_pos (by omega), if_pos (by omega)]
    have h0 : s.data.toList.drop i = [] := List.drop_eq_nil_of_le (by rw [size_data]; omega)
    rw [h0]
    unfold goL
    have e : s.extract f s.size = B ((s.data.toList.drop f).take (i - f)) := by
      have h := B_ext s.data.toList f s.size
      rw [B_list] at h
      rw [h, show s.size = i by omega]
    simp [e]
  | succ d ih =>
    intro k i f out hi hf ho hk
    obtain ⟨k, rfl⟩ : ∃ q, k = q + 1 := ⟨k - 1, by omega⟩
    have hlt : i < s.size := by omega
    have hw : wrap64 ((i : Int) + 1) = ((i + 1 : Nat) : Int) := wrap_next hlt (by omega)
    have hb := bt_nat s i hlt
    unfold withyref1_Split.l0
    rw [if_pos (by omega), if_pos (by omega), hb, hw, drop_at s i hlt]
    unfold goL
    by_cases h126 : s[i] = 126
    · rw [if_pos (by rw [h126]; rfl), if_pos (by omega), if_pos h126]
      have e0 : (s.data.toList.drop (i + 1)).take (i + 1 - (i + 1)) = [] := by simp
      by_cases hgt : (i : Int) > (f : Int)
      · have hcl : ((s.data.toList.drop f).take (i - f)).length ≠ 0 := by rw [List.length_take, List.length_drop, size_data]; omega
        have e : s.extract (f : Int).toNat (i : Int).toNat = B ((s.data.toList.drop f).take (i - f)) := by
          have h := B_ext s.data.toList f i
          rw [B_list] at h
          exact h
        rw [if_pos hgt, if_pos (by omega), if_pos (by omega), if_pos (by omega), if_pos (by omega), e, ih k (i + 1) (i + 1) _ (by omega) (by omega) (by simp; omega) (by omega), e0, if_neg hcl]
        simp
      · have hfi : f = i := by omega
        have hcl : ((s.data.toList.drop f).take (i - f)).length = 0 := by rw [hfi]; simp
        rw [if_neg hgt, ih k (i + 1) (i + 1) _ (by omega) (by omega) (by omega) (by omega), e0, if_pos hcl]
        simp
    · have hne : ¬ (s[i].toNat : Int) = 126 := fun h => h126 (UInt8.toNat_inj.1 (by simpa using Int.ofNat_inj.1 h))
      rw [if_neg hne, if_neg h126, ih k (i + 1) f _ (by omega) (by omega) (by omega) (by omega), seg_next s f i hf hlt]
theorem rsplit_shut (s : ByteArray) (hs : s.size < 4294967281) (d : Nat) : ∀ (k i : Nat), i + d = s.size → d < k →
    withyref1_Split.l0 k s [] (-1) (i : Int) = some (match firstL (s.data.toList.drop i) with | none => ([], s) | some x => (x.1.map B, B x.2)) := by
  induction d with
  | zero =>
    intro k i hi hk
    obtain ⟨k, rfl⟩ : ∃ q, k = q + 1 := ⟨k - 1, by omega⟩
    unfold withyref1_Split.l0
    have h0 : s.data.toList.drop i = [] := List.drop_eq_nil_of_le (by rw [size_data]; omega)
    rw [if_neg (by omega), if_pos (by omega), h0]
    rfl
  | succ d ih =>
    intro k i hi hk
    obtain ⟨k, rfl⟩ : ∃ q, k = q + 1 := ⟨k - 1, by omega⟩
    have hlt : i < s.size := by omega
    have hw : wrap64 ((i : Int) + 1) = ((i + 1 : Nat) : Int) := wrap_next hlt (by omega)
    have hb := bt_nat s i hlt
    unfold withyref1_Split.l0
    rw [if_pos (by omega), if_pos (by omega), hb, hw, drop_at s i hlt]
    unfold firstL
    by_cases h126 : s[i] = 126
    · rw [if_pos (by rw [h126]; rfl), if_neg (by omega), if_pos h126, rsplit_open s hs d k (i + 1) (i + 1) [] (by omega) (by omega) (by simp) (by omega)]
      have e0 : (s.data.toList.drop (i + 1)).take (i + 1 - (i + 1)) = [] := by simp
      rw [e0]
      rfl
    · have hne : ¬ (s[i].toNat : Int) = 126 := fun h => h126 (UInt8.toNat_inj.1 (by simpa using Int.ofNat_inj.1 h))
      rw [if_neg hne, if_neg h126, ih k (i + 1) (by omega) (by omega)]
theorem rsplit_spec (s : ByteArray) (hs : s.size < 4294967281) : Ev (fun k => withyref1_Split.f k s) ((keepL s.data.toList).1.map B, B (keepL s.data.toList).2) :=
  ⟨s.size + 1, fun k hk => by
    unfold withyref1_Split.f
    have h := rsplit_shut s hs s.size k 0 (by omega) (by omega)
    have h00 : ((0 : Nat) : Int) = 0 := rfl
    rw [h00] at h
    show withyref1_Split.l0 k s [] (-1) 0 = _
    rw [h, (keepL_first s.data.toList).1, List.drop_zero]
    cases firstL s.data.toList with
    | none => simp [B_list]
    | some x => rfl⟩

/-! ### texts side by side -/
theorem same_l0 (x : List ByteArray) (hx : x.length ≤ 4611686018427387904) (d : Nat) : ∀ (k i : Nat), i + d = x.length → d < k → withylaw0_SameTexts.l0 k x x (i : Int) = some true := by
  induction d with
  | zero =>
    intro k i hi hk
    obtain ⟨k, rfl⟩ : ∃ q, k = q + 1 := ⟨k - 1, by omega⟩
    unfold withylaw0_SameTexts.l0
    rw [if_neg (by omega)]
  | succ d ih =>
    intro k i hi hk
    obtain ⟨k, rfl⟩ : ∃ q, k = q + 1 := ⟨k - 1, by omega⟩
    have hw : wrap64 ((i : Int) + 1) = ((i + 1 : Nat) : Int) := wrap_next (n := x.length) (by omega) (by omega)
    unfold withylaw0_SameTexts.l0
    rw [if_pos (by omega), if_pos (by omega), if_pos (by omega), if_pos rfl, hw]
    exact ih k (i + 1) (by omega) (by omega)
theorem same_spec (x : List ByteArray) (hx : x.length ≤ 4611686018427387904) : Ev (fun k => withylaw0_SameTexts.f k x x) true :=
  ⟨x.length + 1, fun k hk => by
    unfold withylaw0_SameTexts.f
    show (if (x.length : Int) = (x.length : Int) then withylaw0_SameTexts.l0 k x x 0 else some false) = _
    rw [if_pos rfl]
    exact same_l0 x hx x.length k 0 (by omega) (by omega)⟩
end Go.Proofs.YtnkjhlpdcffalaaDoor.Sp
