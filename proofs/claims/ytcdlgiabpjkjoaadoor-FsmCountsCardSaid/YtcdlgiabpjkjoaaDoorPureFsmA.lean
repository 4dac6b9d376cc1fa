/-
  The automaton's laws, plainly.
-/
import Derived.Test.YtcdlgiabpjkjoaaDoorPM
set_option linter.unusedVariables false
namespace Go.Proofs.YtcdlgiabpjkjoaaDoor.Pure
open Go.RowKit Go.Proofs.YtcdlgiabpjkjoaaDoor.PM Go.Proofs.YtcdlgiabpjkjoaaDoor.H Go.Proofs.YtcdlgiabpjkjoaaDoorW.PrintWords

set_option maxRecDepth 100000 in
theorem awake_20 : withylaw10_awake.f 20 = some true := by decide +kernel
theorem mod_lt (a m : Int) (hm : 0 < m) (h64 : m ≤ 1000) : ∃ n : Nat, n < m.toNat ∧ wrap64 (Int.tmod (IntKind.u64.wrap a) m) = n := by
  have h0 : 0 ≤ IntKind.u64.wrap a := Int.emod_nonneg _ (by decide)
  have h1 : Int.tmod (IntKind.u64.wrap a) m = IntKind.u64.wrap a % m := Int.tmod_eq_emod_of_nonneg h0
  have h2 := Int.emod_nonneg (IntKind.u64.wrap a) (show m ≠ 0 by omega)
  have h3 := Int.emod_lt_of_pos (IntKind.u64.wrap a) hm
  rw [h1]
  refine ⟨(IntKind.u64.wrap a % m).toNat, by omega, ?_⟩
  have h4 : wrap64 (IntKind.u64.wrap a % m) = IntKind.u64.wrap a % m := by unfold wrap64; omega
  rw [h4]
  omega

/-- All that a step comes to. -/
def allR : List (Int × List Int × Int) := (0, [], 1000) :: tabL.map cellP
theorem step_mem (s v : Int) : stepP s v ∈ allR := by
  unfold stepP allR
  split
  · rename_i h
    refine List.mem_cons_of_mem _ (List.mem_map_of_mem ?_)
    have hl : v.toNat * 10 + s.toNat < tabL.length := by rw [tabL_length]; omega
    rw [List.getD_eq_getElem?_getD, List.getElem?_eq_getElem hl]
    exact List.getElem_mem hl
  · exact List.mem_cons_self

set_option maxRecDepth 100000 in
theorem Fsms : withylaw10_Fsms.Pure := by
  intro a0 a1 x0 x1
  refine ⟨40, ?_⟩
  have hm := step_mem a0 a1
  unfold withylaw10_Fsms.f fsm_Step.f withyref10_Step.f
  generalize stepP a0 a1 = r at hm ⊢
  clear x0 x1 a0 a1
  revert r
  decide +kernel
set_option maxRecDepth 100000 in
theorem FsmTable : withylaw10_FsmTable.Pure := ⟨300, by decide +kernel⟩
set_option maxRecDepth 100000 in
theorem FsmEnds : withylaw10_FsmEnds.Pure := by
  intro a0 x0
  refine ⟨40, ?_⟩
  unfold withylaw10_FsmEnds.f
  obtain ⟨n, hn, e⟩ := mod_lt a0 10 (by decide) (by decide)
  rw [e]
  clear x0 e a0
  revert n
  decide +kernel
set_option maxRecDepth 100000 in
theorem FsmDowns : withylaw10_FsmDowns.Pure := by
  intro a0 a1 x0
  refine ⟨40, ?_⟩
  unfold withylaw10_FsmDowns.f
  obtain ⟨n, hn, e⟩ := mod_lt a0 10 (by decide) (by decide)
  rw [e]
  clear x0 e a0
  revert n
  cases a1 <;> decide +kernel
set_option maxRecDepth 100000 in
theorem FsmAnswers : withylaw10_FsmAnswers.Pure := by
  intro a0 a1 x0
  refine ⟨40, ?_⟩
  unfold withylaw10_FsmAnswers.f
  obtain ⟨n, hn, e⟩ := mod_lt a0 4 (by decide) (by decide)
  rw [e]
  clear x0 e a0
  revert n
  cases a1 <;> decide +kernel
set_option maxRecDepth 100000 in
theorem FsmCounts : withylaw10_FsmCounts.Pure := by
  intro a0 a1 x0 x1
  refine ⟨40, ?_⟩
  unfold withylaw10_FsmCounts.f
  obtain ⟨n, hn, e⟩ := mod_lt a0 10 (by decide) (by decide)
  obtain ⟨m, hm, e2⟩ := mod_lt a1 16 (by decide) (by decide)
  rw [e, e2]
  clear x0 x1 e e2 a0 a1
  revert m
  revert n
  decide +kernel
end Go.Proofs.YtcdlgiabpjkjoaaDoor.Pure
