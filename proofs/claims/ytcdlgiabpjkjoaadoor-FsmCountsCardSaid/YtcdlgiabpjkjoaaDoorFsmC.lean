/-
  The contract of fsm's Step by its table at this seat.
-/
import Derived.Test.YtcdlgiabpjkjoaaDoorFsmB
import Derived.OwnWalk
set_option linter.unusedVariables false
set_option linter.unusedSimpArgs false
namespace Go.Proofs.YtcdlgiabpjkjoaaDoor.H
open Go.RowKit Go.Proofs.YtcdlgiabpjkjoaaDoorW.PrintWords

/-- A block of strings that the row v does not lie in. -/
def Kept (w : World) (v : Value) (b : Nat) (A : Array Value) : Prop := w.heap[b]? = some (.cells A 9 (0, 0)) ∧ v.ownBlock ≠ some b
theorem Kept.lt {w : World} {v : Value} {b : Nat} {A : Array Value} (h : Kept w v b A) : b < w.heap.size := blk_lt h.1
theorem Kept.alloc {w : World} {v : Value} {b : Nat} {A : Array Value} (h : Kept w v b A) (o : Obj) : Kept (w.alloc o) v b A := ⟨blk_alloc h.1 o, h.2⟩
theorem Kept.grown {w w1 : World} {v v1 : Value} {b : Nat} {A : Array Value} (h : Kept w v b A) (hg : w.grownBy w1 v.ownBlock) (hat : v1.ownBlock = v.ownBlock ∨ ∃ c, v1.ownBlock = some c ∧ w.heap.size ≤ c) : Kept w1 v1 b A := by
  have hl := h.lt
  refine ⟨(hg.block b hl (fun e => h.2 e.symm)).trans h.1, fun e => ?_⟩
  rcases hat with hat | ⟨c, hc, hle⟩
  · exact h.2 (hat ▸ e)
  · rw [hc] at e
    have : c = b := Option.some.inj e
    omega
theorem Kept.cell {w : World} {v : Value} {b : Nat} {A : Array Value} (h : Kept w v b A) (j : Nat) (u : Value) (hu : A[j]? = some u) : w.cell? ⟨b, j, none⟩ = some u := by
  have := World.news_of_block (w := w) (B := b) (cs := A) (t := 9) (fr := (0, 0)) h.1 j u (by simpa using hu)
  have ha : (⟨b, 0, none⟩ : Addr).add j = ⟨b, j, none⟩ := by unfold Addr.add; split <;> simp_all
  rwa [ha] at this

/-- Which names a word is, of the first k. -/
def hits (p : ByteArray) (k : Nat) : List Int := ((List.range k).filter (fun i => namesL.getD i [] == p.data.toList)).map Int.ofNat
theorem hits_zero (p : ByteArray) : hits p 0 = [] := rfl
theorem hits_succ (p : ByteArray) (k : Nat) : hits p (k + 1) = hits p k ++ (if namesL.getD k [] == p.data.toList then [(k : Int)] else []) := by
  unfold hits
  rw [List.range_succ, List.filter_append, List.map_append]
  congr 1
  rw [List.filter_cons, List.filter_nil]
  cases (namesL.getD k [] == p.data.toList) <;> rfl
theorem hits_length (p : ByteArray) (k : Nat) : (hits p k).length ≤ k := by
  unfold hits
  rw [List.length_map]
  exact Nat.le_trans (List.length_filter_le _ _) (by simp)
/-- What the words of a list are, side by side. -/
def outs (ps : List ByteArray) : List Int := ps.flatMap fun p => hits p 14
theorem outs_take (ps : List ByteArray) (j : Nat) (p : ByteArray) (h : ps[j]? = some p) : outs (ps.take (j + 1)) = outs (ps.take j) ++ hits p 14 := by
  obtain ⟨hl, hp⟩ := List.getElem?_eq_some_iff.1 h
  unfold outs
  rw [List.take_succ_eq_append_getElem hl, hp, List.flatMap_append]
  simp
theorem outs_length (ps : List ByteArray) : (outs ps).length ≤ 14 * ps.length := by
  unfold outs
  induction ps with
  | nil => simp
  | cons p r ih =>
    rw [List.flatMap_cons, List.length_append, List.length_cons]
    have := hits_length p 14
    omega

theorem split_one (s : ByteArray) (c : UInt8) (w : World) (hs : s.size < 4294967281) :
    Calls Tryd.prog 21 #[.string s, .string ⟨#[c]⟩] w fun e w' =>
      e = .returned (.slice (some ⟨w.heap.size, 0, none⟩) (Lib.countB s ⟨#[c]⟩ + 1) (Lib.countB s ⟨#[c]⟩ + 1)) ∧ w' = w.alloc (.cells ((Lib.splitB ⟨#[c]⟩ 0 (Lib.countB s ⟨#[c]⟩) s).map Value.string).toArray 9) := by
  have h1 : 1 ≤ (⟨#[c]⟩ : ByteArray).size := Nat.le_refl _
  have hle := Lib.countB_le ⟨#[c]⟩ h1 s.size s (Nat.le_refl _)
  have hlen := Lib.splitB_all ⟨#[c]⟩ h1 0 _ s rfl
  have hi9 : (Tryd.prog.info? 9).map (fun i => (i.zero, i.size, i.bytes)) = some (some (.string ByteArray.empty), 1, 16) := by kernel_rfl
  have hI : ∀ (x : ByteArray) (C : Array Value), x.size ≤ s.size → Calls Tryd.prog 28 #[.string x, .string ⟨#[c]⟩] (w.alloc (.cells C 9)) fun e w' => e = .returned (.int .i64 (Lib.indexB x ⟨#[c]⟩)) ∧ w' = w.alloc (.cells C 9) := by
    intro x C _
    refine (Tryd.strings_Index_one x c _).mono fun e w' ⟨he, hw⟩ => ⟨?_, hw⟩
    rw [he]
    show _ = Ending.returned (Value.int .i64 (Lib.index x.data.toList [c]))
    rw [Lib.index_one]
  have hC : Calls Tryd.prog 27 #[.string s, .string ⟨#[c]⟩] w fun e w' => e = .returned (.int .i64 (Lib.countB s ⟨#[c]⟩)) ∧ w' = w := by
    refine (Tryd.strings_Count_one s c w).mono fun e w' ⟨he, hw⟩ => ⟨?_, hw⟩
    rw [he]
    show _ = Ending.returned (Value.int .i64 ((Lib.count s.data.toList [c] : Nat) : Int))
    rw [Lib.count_one]
    rfl
  have C := Any.strings_genSplit_core Tryd.lays221 hi9 s ⟨#[c]⟩ 0 (-1) (Lib.countB s ⟨#[c]⟩ + 1) w hs h1 (Nat.zero_le _) hI hC (by decide) (by decide) (by rw [if_pos (by decide)]; omega)
  rw [Nat.add_sub_cancel, hlen] at C
  have e2 : Lib.cellsOf (Lib.splitB ⟨#[c]⟩ 0 (Lib.countB s ⟨#[c]⟩) s) (Lib.countB s ⟨#[c]⟩ + 1) = ((Lib.splitB ⟨#[c]⟩ 0 (Lib.countB s ⟨#[c]⟩) s).map Value.string).toArray := by rw [← hlen]; exact Lib.cellsOf_full _
  rw [e2] at C
  have C' : Calls Tryd.prog 24 #[.string s, .string ⟨#[c]⟩, .int .i64 0, .int .i64 (-1)] w fun e w' =>
      e = .returned (.slice (some ⟨w.heap.size, 0, none⟩) (Lib.countB s ⟨#[c]⟩ + 1) (Lib.countB s ⟨#[c]⟩ + 1)) ∧ w' = w.alloc (.cells ((Lib.splitB ⟨#[c]⟩ 0 (Lib.countB s ⟨#[c]⟩) s).map Value.string).toArray 9) := C
  have HC := Lib.hid C'
  clear C C' hI hC hlen hle e2
  go_enter Tryd.func21, Tryd.ntmps21
  go_wp2_with fail
  ((with_reducible refine (HC.out).mono ?_); rintro e w' ⟨rfl, rfl⟩)
  go_wp2_with fail
  go_ret
  exact ⟨rfl, rfl⟩

/-- What a cell says. -/
def cellT (c : ByteArray) : Int × List Int × Int :=
  if c.data.toList = [45] then (0, [], 1001) else
  if Lib.indexByte c.data.toList 47 < 0 then (((c.data.toList.headD 0).toNat : Int) - 48, [], 0)
  else ((((c.extract ((Lib.indexByte c.data.toList 47).toNat + 1) c.size).data.toList.headD 0).toNat : Int) - 48,
    outs (Lib.splitB ⟨#[44]⟩ 0 (Lib.countB (c.extract 0 (Lib.indexByte c.data.toList 47).toNat) ⟨#[44]⟩) (c.extract 0 (Lib.indexByte c.data.toList 47).toNat)), 0)

set_option maxHeartbeats 2000000 in
theorem tstep_out (t : Value) (s v : Int) (w : World) (h : ¬ (0 ≤ s ∧ s < 10 ∧ 0 ≤ v ∧ v < 16)) :
    Calls Tryd.prog 17 #[t, .int .i64 s, .int .i64 v] w fun e w' => e = .returned (.tuple #[.int .i64 0, .slice none 0 0, .int .i64 1000]) ∧ w' = w := by
  by_cases h1 : 0 ≤ s
  · by_cases h2 : s < 10
    · by_cases h3 : 0 ≤ v
      · have h4 : ¬ v < 16 := fun h4 => h ⟨h1, h2, h3, h4⟩
        go_enter Tryd.func17, Tryd.ntmps17
        go_wp2
        go_ret3
        exact ⟨rfl, rfl⟩
      · go_enter Tryd.func17, Tryd.ntmps17
        go_wp2
        go_ret3
        exact ⟨rfl, rfl⟩
    · go_enter Tryd.func17, Tryd.ntmps17
      go_wp2
      go_ret3
      exact ⟨rfl, rfl⟩
  · go_enter Tryd.func17, Tryd.ntmps17
    go_wp2
    go_ret3
    exact ⟨rfl, rfl⟩
end Go.Proofs.YtcdlgiabpjkjoaaDoor.H
