/-
  FsmUps, plainly.
-/
import Derived.Test.YtcdlgiabpjkjoaaDoorPureFsmA
set_option linter.unusedVariables false
namespace Go.Proofs.YtcdlgiabpjkjoaaDoor.Pure
open Go.RowKit Go.Proofs.YtcdlgiabpjkjoaaDoor.PM Go.Proofs.YtcdlgiabpjkjoaaDoor.H Go.Proofs.YtcdlgiabpjkjoaaDoorW.PrintWords

/-- What the actions make of 'is the layer up'; none where it goes wrong. -/
def ups : Bool → List Int → Option Bool
  | u, [] => some u
  | u, a :: r => if a = 1 then (if u = true then none else ups true r) else if a = 2 then (if u = true then ups false r else none) else ups u r
set_option maxRecDepth 100000 in
theorem ups_ok : ∀ s < 10, ∀ v < 16, (stepP ((s : Nat) : Int) ((v : Nat) : Int)).2.2 = 0 → ups (((s : Nat) : Int) == 9) (stepP ((s : Nat) : Int) ((v : Nat) : Int)).2.1 = some ((stepP ((s : Nat) : Int) ((v : Nat) : Int)).1 == 9) ∧
    0 ≤ (stepP ((s : Nat) : Int) ((v : Nat) : Int)).1 ∧ (stepP ((s : Nat) : Int) ((v : Nat) : Int)).1 < 10 ∧ (stepP ((s : Nat) : Int) ((v : Nat) : Int)).2.1.length ≤ 3 := by decide +kernel
theorem wrap_small (i : Nat) (h : i < 1000000) : wrap64 ((i : Int) + 1) = ((i + 1 : Nat) : Int) := by unfold wrap64; omega
theorem l1_run (x0 : List Int) (x5 x6 : Int) (x7 : List Int) (hl : x7.length ≤ 1000) : ∀ (d k i : Nat) (u u' : Bool), i + d = x7.length → ups u (x7.drop i) = some u' →
    withylaw10_FsmUps.l1 (k + d + 1) x0 u x5 x6 x7 i = if (u' != (x6 == 9)) = true then some false else withylaw10_FsmUps.l0 k x0 x6 u' (wrap64 (x5 + 1)) := by
  intro d
  induction d with
  | zero =>
    intro k i u u' hi hu
    rw [List.drop_eq_nil_of_le (by omega)] at hu
    obtain rfl : u = u' := Option.some.inj hu
    unfold withylaw10_FsmUps.l1
    rw [if_neg (by omega)]
  | succ d ih =>
    intro k i u u' hi hu
    have hlt : i < x7.length := by omega
    rw [List.drop_eq_getElem_cons hlt] at hu
    have hr : rd x7 (i : Int) = x7[i] := by
      unfold rd
      rw [Int.toNat_natCast, List.getD_eq_getElem?_getD, List.getElem?_eq_getElem hlt]
      rfl
    have hw := wrap_small i (by omega)
    unfold withylaw10_FsmUps.l1
    rw [if_pos (by omega), if_pos (by omega), hr, hw]
    unfold ups at hu
    have hk : k + (d + 1) = k + d + 1 := rfl
    rw [hk]
    split
    · rename_i h1
      rw [if_pos h1] at hu
      split
      · rename_i h2
        rw [if_pos h2] at hu
        exact absurd hu (by simp)
      · rename_i h2
        rw [if_neg h2] at hu
        exact ih k (i + 1) true u' (by omega) hu
    · rename_i h1
      rw [if_neg h1] at hu
      split
      · rename_i h3
        rw [if_pos h3] at hu
        split
        · rename_i h2
          rw [if_pos h2] at hu
          exact ih k (i + 1) false u' (by omega) hu
        · rename_i h2
          rw [if_neg h2] at hu
          exact absurd hu (by simp)
      · rename_i h3
        rw [if_neg h3] at hu
        exact ih k (i + 1) u u' (by omega) hu
theorem l0_run (x0 : List Int) : ∀ (d k i s : Nat), (i + d = x0.length ∨ i + d = 200) → i ≤ 200 → s < 10 → 10 * d + 2 ≤ k → withylaw10_FsmUps.l0 k x0 (s : Int) ((s : Int) == 9) (i : Int) = some true := by
  intro d
  induction d with
  | zero =>
    intro k i s hi h200 hs hk
    obtain ⟨k, rfl⟩ : ∃ q, k = q + 2 := ⟨k - 2, by omega⟩
    unfold withylaw10_FsmUps.l0
    by_cases h : (i : Int) < (x0.length : Int)
    · have hd : decide ((i : Int) < 200) = false := by simp; omega
      rw [if_pos h, hd]
      unfold withylaw10_FsmUps.j1
      rfl
    · rw [if_neg h]
      unfold withylaw10_FsmUps.j1
      rfl
  | succ d ih =>
    intro k i s hi h200 hs hk
    obtain ⟨k, rfl⟩ : ∃ q, k = q + 2 := ⟨k - 2, by omega⟩
    unfold withylaw10_FsmUps.l0
    by_cases h : (i : Int) < (x0.length : Int)
    · by_cases hd : (i : Int) < 200
      · rw [if_pos h, decide_eq_true hd]
        unfold withylaw10_FsmUps.j1
        rw [if_pos rfl, if_pos (by omega), if_pos h]
        obtain ⟨v, hv, e⟩ := mod_lt (rd x0 (i : Int)) 16 (by decide) (by decide)
        rw [e]
        have hok := ups_ok s hs v hv
        unfold fsm_Step.f withylaw0_Num.f
        generalize stepP (s : Int) (v : Int) = r at hok ⊢
        obtain ⟨r1, r2, r3⟩ := r
        show (if r3 = 0 then withylaw10_FsmUps.l1 k x0 ((s : Int) == 9) (i : Int) r1 r2 0 else withylaw10_FsmUps.l0 k x0 (s : Int) ((s : Int) == 9) (wrap64 ((i : Int) + 1))) = some true
        have hw := wrap_small i (by omega)
        split
        · rename_i h0
          obtain ⟨g1, g2, g3, g4⟩ := hok h0
          replace g1 : ups ((s : Int) == 9) r2 = some (r1 == 9) := g1
          replace g2 : 0 ≤ r1 := g2
          replace g3 : r1 < 10 := g3
          replace g4 : r2.length ≤ 3 := g4
          obtain ⟨t, rfl⟩ : ∃ t : Nat, r1 = t := ⟨r1.toNat, (Int.toNat_of_nonneg g2).symm⟩
          obtain ⟨k, rfl⟩ : ∃ q, k = q + r2.length + 1 := ⟨k - r2.length - 1, by omega⟩
          have hl := l1_run x0 (i : Int) (t : Int) r2 (by omega) r2.length k 0 ((s : Int) == 9) ((t : Int) == 9) (by omega) g1
          have h00 : ((0 : Nat) : Int) = 0 := rfl
          rw [h00] at hl
          rw [hl, if_neg (by simp), hw]
          exact ih k (i + 1) t (by omega) (by omega) (by omega) (by omega)
        · rw [hw]
          exact ih k (i + 1) s (by omega) (by omega) hs (by omega)
      · rw [if_pos h, decide_eq_false hd]
        unfold withylaw10_FsmUps.j1
        rfl
    · rw [if_neg h]
      unfold withylaw10_FsmUps.j1
      rfl
theorem awake_any (k : Nat) : withylaw10_awake.f (20 + k) = some true := by
  induction k with
  | zero => exact awake_20
  | succ k ih => exact withylaw10_awake.mono _ _ ih
theorem FsmUps : withylaw10_FsmUps.Pure := by
  intro l0 _ _ _
  refine ⟨2100, ?_⟩
  unfold withylaw10_FsmUps.f
  rw [show withylaw10_awake.f 2100 = some true from awake_any 2080]
  show (if true = true then withylaw10_FsmUps.l0 2100 l0 0 false 0 else some false) = some true
  rw [if_pos rfl]
  by_cases h : l0.length ≤ 200
  · exact l0_run l0 l0.length 2100 0 0 (by omega) (by omega) (by omega) (by omega)
  · exact l0_run l0 200 2100 0 0 (by omega) (by omega) (by omega) (by omega)
end Go.Proofs.YtcdlgiabpjkjoaaDoor.Pure
