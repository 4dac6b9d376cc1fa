/-
  fsm's table and its names as lists, and the contracts of Made and names at this seat.
-/
import Derived.Test.YtlpibobpfafooaaGreatDoorFsmA
import Derived.Great.FillDense
set_option linter.unusedVariables false
namespace Go.Proofs.YtlpibobpfafooaaGreatDoor.H
open Go.RowKit Go.Proofs.YtlpibobpfafooaaGreatDoorW.PrintWords

/-- The table's cells, row by row. -/
def rowsL : List (List (List UInt8)) := [
  [[50], [105, 114, 99, 44, 115, 99, 114, 47, 54], [45], [45], [45], [45], [45], [45], [45], [45]],
  [[45], [45], [48], [116, 108, 115, 47, 49], [48], [49], [49], [49], [49], [116, 108, 100, 47, 49]],
  [[116, 108, 115, 47, 49], [49], [105, 114, 99, 44, 115, 99, 114, 47, 54], [51], [53], [53], [54], [55], [56], [57]],
  [[48], [116, 108, 102, 47, 48], [50], [50], [52], [52], [105, 114, 99, 44, 115, 116, 114, 47, 52], [105, 114, 99, 44, 115, 116, 114, 47, 52], [105, 114, 99, 44, 115, 116, 114, 47, 52], [116, 108, 100, 44, 105, 114, 99, 44, 115, 116, 114, 47, 52]],
  [[45], [45], [45], [45], [115, 116, 114, 47, 52], [115, 116, 114, 47, 53], [115, 99, 114, 47, 54], [115, 99, 114, 47, 54], [115, 99, 114, 47, 56], [45]],
  [[45], [45], [45], [45], [116, 108, 102, 47, 50], [116, 108, 102, 47, 51], [116, 108, 102, 47, 51], [116, 108, 102, 47, 51], [116, 108, 102, 47, 51], [45]],
  [[45], [45], [115, 116, 97, 47, 50], [105, 114, 99, 44, 115, 99, 114, 44, 115, 99, 97, 47, 56], [52], [53], [115, 99, 97, 47, 56], [115, 99, 97, 44, 116, 108, 117, 47, 57], [115, 99, 97, 47, 56], [116, 108, 100, 44, 115, 99, 114, 44, 115, 99, 97, 47, 56]],
  [[45], [45], [115, 116, 97, 47, 50], [105, 114, 99, 44, 115, 99, 114, 44, 115, 99, 110, 47, 54], [52], [53], [115, 99, 110, 47, 54], [115, 99, 110, 47, 55], [115, 99, 110, 47, 54], [116, 108, 100, 44, 115, 99, 114, 44, 115, 99, 110, 47, 54]],
  [[45], [45], [115, 116, 97, 47, 50], [115, 116, 97, 47, 51], [52], [53], [105, 114, 99, 47, 55], [115, 99, 114, 47, 54], [105, 114, 99, 44, 116, 108, 117, 47, 57], [116, 108, 100, 44, 115, 99, 114, 47, 54]],
  [[45], [45], [115, 116, 97, 47, 50], [115, 116, 97, 47, 51], [52], [53], [105, 114, 99, 44, 115, 99, 114, 47, 54], [115, 99, 114, 47, 54], [105, 114, 99, 44, 115, 99, 114, 47, 56], [116, 108, 100, 44, 115, 99, 114, 47, 54]],
  [[45], [45], [115, 116, 97, 47, 50], [115, 116, 97, 47, 51], [115, 116, 97, 47, 52], [115, 116, 97, 47, 53], [115, 116, 97, 47, 54], [115, 116, 97, 47, 54], [115, 116, 97, 47, 54], [116, 108, 100, 44, 122, 114, 99, 44, 115, 116, 97, 47, 53]],
  [[45], [45], [50], [51], [116, 108, 102, 47, 50], [116, 108, 102, 47, 51], [54], [54], [56], [116, 108, 100, 44, 115, 99, 114, 47, 54]],
  [[45], [45], [115, 99, 106, 47, 50], [115, 99, 106, 47, 51], [115, 99, 106, 47, 52], [115, 99, 106, 47, 53], [115, 99, 106, 47, 54], [115, 99, 106, 47, 55], [115, 99, 106, 47, 56], [115, 99, 106, 47, 57]],
  [[45], [45], [50], [51], [52], [53], [54], [54], [56], [57]],
  [[45], [45], [116, 108, 102, 47, 50], [116, 108, 102, 47, 51], [116, 108, 102, 47, 50], [116, 108, 102, 47, 51], [116, 108, 102, 47, 51], [116, 108, 102, 47, 51], [116, 108, 102, 47, 51], [116, 108, 100, 44, 105, 114, 99, 44, 115, 116, 114, 47, 53]],
  [[45], [45], [50], [51], [52], [53], [54], [55], [56], [115, 101, 114, 47, 57]]]
def tabL : List (List UInt8) := rowsL.flatten
/-- The actions' names. -/
def namesL : List (List UInt8) := [[], [116, 108, 117], [116, 108, 100], [116, 108, 115], [116, 108, 102], [105, 114, 99], [122, 114, 99], [115, 99, 114], [115, 99, 97], [115, 99, 110], [115, 116, 114], [115, 116, 97], [115, 99, 106], [115, 101, 114]]
def strs (l : List (List UInt8)) : List Value := l.map fun b => Value.string ⟨b.toArray⟩
def tabA : Array Value := (strs tabL).toArray
def namesA : Array Value := (strs namesL).toArray
def rowsV : List Value := rowsL.map fun r => Value.agg (strs r).toArray
theorem strs_get (l : List (List UInt8)) (i : Nat) (b : List UInt8) (h : l[i]? = some b) : (strs l).toArray[i]? = some (Value.string ⟨b.toArray⟩) := by simp [strs, h]
set_option maxRecDepth 100000 in
theorem tabL_length : tabL.length = 160 := rfl
theorem namesL_length : namesL.length = 14 := rfl

theorem wpList_build {P : Program} {ops : Array Oper} {rest : List Oper} {o : Oper} {a : Act} {w : World} {Q : Exit → Act → World → Prop} (hgd : o.guard = none) (t : TypeId) (parts : Array (Nat × Operand)) (ho : o.op = .build t parts)
    (e : TypeId) (n s : Nat) (z : Value) (vs : List Value) (ht : P.underlying t = some (.array n e)) (hz : ∀ w, (zeroValue t).run P w = .ok z w) (hs : ∀ w, (sizeOf e).run P w = .ok s w) (hs0 : 0 < s)
    (hvs : parts.toList.map (fun p => (p.1, a.eval p.2)) = (vs.zipIdx 0).map fun x => (x.2, x.1)) (h1 : ∀ v ∈ vs, v.cells.size = s) (hn : vs.length * s = z.cells.size) (v : Value) (hv : v = .agg (vs.flatMap fun v => v.cells.toList).toArray)
    (h : wpList P ops Q rest (a.put o.dst v) w) : wpList P ops Q (o :: rest) a w :=
  wpList_plain hgd fun _ hK => by
    unfold Oper.wp execOp
    have hp : (parts.map fun (i, x) => (i, a.eval x)).toList = (vs.zipIdx 0).map fun x => (x.2, x.1) := by rw [Array.toList_map]; exact hvs
    have hr : (Instr.build t (parts.map fun (i, x) => (i, a.eval x))).run P w = .ok v w := by
      unfold Instr.build
      simp only [Sem.run_bind, Sem.run_pure, Result.andThen_ok, hz, run_underlying ht, hs, hp, Go.Great.fill_whole hs0 vs z.cells h1 hn, hv]
    simp only [ho, Sem.run_bind, Sem.run_pure, Result.andThen_ok, hr]
    exact hK _ _ h
theorem wpList_box {P : Program} {ops : Array Oper} {rest : List Oper} {o : Oper} {a : Act} {w : World} {Q : Exit → Act → World → Prop} (hgd : o.guard = none) (t : TypeId) (x : Operand) (v : Value) (w' : World) (ho : o.op = .box t x)
    (hr : (Instr.box t (a.eval x)).run P w = .ok v w') (h : wpList P ops Q rest (a.put o.dst v) w') : wpList P ops Q (o :: rest) a w :=
  wpList_plain hgd fun _ hK => by
    unfold Oper.wp execOp
    simp only [ho, Sem.run_bind, Sem.run_pure, Result.andThen_ok, hr]
    exact hK _ _ h

set_option maxRecDepth 100000 in
set_option maxHeartbeats 4000000 in
theorem made_any (w : World) : Calls Tryz.prog 84 #[] w fun e w' => e = .returned (.pointer (some ⟨w.heap.size, 0, none⟩)) ∧ w' = w.alloc (.cells tabA 132) := by
  go_enter Tryz.func84, Tryz.ntmps84
  go_wp2_with (first | ((with_reducible refine wpList_build rfl 132 _ rfl 130 16 10 (.agg (List.replicate 160 (Value.string ⟨#[]⟩)).toArray) rowsV rfl (fun w => by kernel_rfl) (fun w => by kernel_rfl) (by decide) ?hv ?h1 ?hn (.agg tabA) ?ha ?_); (go_loud (case hv => exact (by kernel_rfl))); (go_loud (case h1 => exact (by decide))); (go_loud (case hn => exact (by kernel_rfl))); (go_loud (case ha => exact (by kernel_rfl)))) | ((with_reducible refine wpList_box rfl 132 _ (.pointer (some ⟨w.heap.size, 0, none⟩)) (w.alloc (.cells tabA 132)) rfl ?hr ?_); (go_loud (case hr => exact (by kernel_rfl)))))
  go_ret
  exact ⟨rfl, rfl⟩

set_option maxRecDepth 100000 in
theorem names_any (w : World) : Calls Tryz.prog 101 #[] w fun e w' => e = .returned (.slice (some ⟨w.heap.size, 0, none⟩) 14 14) ∧ w' = w.alloc (.cells namesA 9) := by
  go_enter Tryz.func101, Tryz.ntmps101
  go_wp2
  go_ret
  exact ⟨rfl, rfl⟩
end Go.Proofs.YtlpibobpfafooaaGreatDoor.H
