/-
  The contract of stuff's Split at this seat.
-/
import Derived.Test.YtnkjhlpdcffalaaDoorHandA
import Derived.Shelf.Strings.SplitCore
import Derived.Shelf.Strings.Count
import Derived.Lib.SplitLaws
import Derived.Laws.IdiomStrings
import Derived.Deep.QuietTactic
import Derived.BigQuiet
set_option linter.unusedVariables false
set_option linter.unusedSimpArgs false
namespace Go.Proofs.YtnkjhlpdcffalaaDoor.H
open Go.RowKit Go.Proofs.Wy

/-- strings.Split at one byte: no package variable is read. -/
theorem split_one (s : ByteArray) (c : UInt8) (w : World) (hs : s.size < 4294967281) :
    Calls Tryd.prog 25 #[.string s, .string ⟨#[c]⟩] w fun e w' =>
      e = .returned (.slice (some ⟨w.heap.size, 0, none⟩) (Lib.countB s ⟨#[c]⟩ + 1) (Lib.countB s ⟨#[c]⟩ + 1)) ∧ w' = w.alloc (.cells ((Lib.splitB ⟨#[c]⟩ 0 (Lib.countB s ⟨#[c]⟩) s).map Value.string).toArray 9) := by
  have h1 : 1 ≤ (⟨#[c]⟩ : ByteArray).size := Nat.le_refl _
  have hle := Lib.countB_le ⟨#[c]⟩ h1 s.size s (Nat.le_refl _)
  have hlen := Lib.splitB_all ⟨#[c]⟩ h1 0 _ s rfl
  have hi9 : (Tryd.prog.info? 9).map (fun i => (i.zero, i.size, i.bytes)) = some (some (.string ByteArray.empty), 1, 16) := by kernel_rfl
  have hI : ∀ (x : ByteArray) (C : Array Value), x.size ≤ s.size → Calls Tryd.prog 39 #[.string x, .string ⟨#[c]⟩] (w.alloc (.cells C 9)) fun e w' => e = .returned (.int .i64 (Lib.indexB x ⟨#[c]⟩)) ∧ w' = w.alloc (.cells C 9) := by
    intro x C _
    refine (Tryd.strings_Index_one x c _).mono fun e w' ⟨he, hw⟩ => ⟨?_, hw⟩
    rw [he]
    show _ = Ending.returned (Value.int .i64 (Lib.index x.data.toList [c]))
    rw [Lib.index_one]
  have hC : Calls Tryd.prog 38 #[.string s, .string ⟨#[c]⟩] w fun e w' => e = .returned (.int .i64 (Lib.countB s ⟨#[c]⟩)) ∧ w' = w := by
    refine (Tryd.strings_Count_one s c w).mono fun e w' ⟨he, hw⟩ => ⟨?_, hw⟩
    rw [he]
    show _ = Ending.returned (Value.int .i64 ((Lib.count s.data.toList [c] : Nat) : Int))
    rw [Lib.count_one]
    rfl
  have C := Any.strings_genSplit_core Tryd.lays221 hi9 s ⟨#[c]⟩ 0 (-1) (Lib.countB s ⟨#[c]⟩ + 1) w hs h1 (Nat.zero_le _) hI hC (by decide) (by decide) (by rw [if_pos (by decide)]; omega)
  rw [Nat.add_sub_cancel, hlen] at C
  have e2 : Lib.cellsOf (Lib.splitB ⟨#[c]⟩ 0 (Lib.countB s ⟨#[c]⟩) s) (Lib.countB s ⟨#[c]⟩ + 1) = ((Lib.splitB ⟨#[c]⟩ 0 (Lib.countB s ⟨#[c]⟩) s).map Value.string).toArray := by rw [← hlen]; exact Lib.cellsOf_full _
  rw [e2] at C
  have C' : Calls Tryd.prog 33 #[.string s, .string ⟨#[c]⟩, .int .i64 0, .int .i64 (-1)] w fun e w' =>
      e = .returned (.slice (some ⟨w.heap.size, 0, none⟩) (Lib.countB s ⟨#[c]⟩ + 1) (Lib.countB s ⟨#[c]⟩ + 1)) ∧ w' = w.alloc (.cells ((Lib.splitB ⟨#[c]⟩ 0 (Lib.countB s ⟨#[c]⟩) s).map Value.string).toArray 9) := C
  have HC := Lib.hid C'
  clear C C' hI hC hlen hle e2
  go_enter Tryd.func25, Tryd.ntmps25
  go_wp2_with fail
  ((with_reducible refine (HC.out).mono ?_); rintro e w' ⟨rfl, rfl⟩)
  go_wp2_with fail
  go_ret
  exact ⟨rfl, rfl⟩

/-- A list of bytes cut at each c. -/
def cutAt (c : UInt8) : List UInt8 → List (List UInt8)
  | [] => [[]]
  | b :: r => if b = c then [] :: cutAt c r else match cutAt c r with
    | [] => [[b]]
    | p :: ps => (b :: p) :: ps
theorem cutAt_ne (c : UInt8) (l : List UInt8) : cutAt c l ≠ [] := by
  cases l with
  | nil => simp [cutAt]
  | cons b r =>
    unfold cutAt
    split
    · simp
    · split <;> simp
theorem cutAt_miss (c : UInt8) (l : List UInt8) (h : Lib.indexByte l c = -1) : cutAt c l = [l] := by
  induction l with
  | nil => rfl
  | cons b r ih =>
    unfold Lib.indexByte at h
    have hg := Lib.indexByte_ge r c
    split at h
    · omega
    · rename_i hb
      have hb' : ¬ b = c := by simpa using hb
      split at h
      · rename_i h2
        have hr := ih (by simpa using h2)
        unfold cutAt
        rw [if_neg hb', hr]
      · rename_i h2
        have : ¬ Lib.indexByte r c = -1 := by simpa using h2
        omega
theorem cutAt_hit (c : UInt8) (l : List UInt8) : ∀ i : Nat, Lib.indexByte l c = i → cutAt c l = l.take i :: cutAt c (l.drop (i + 1)) := by
  induction l with
  | nil => intro i h; simp [Lib.indexByte] at h
  | cons b r ih =>
    intro i h
    unfold Lib.indexByte at h
    have hg := Lib.indexByte_ge r c
    split at h
    · rename_i hb
      have hb' : b = c := by simpa using hb
      obtain rfl : i = 0 := by omega
      conv => lhs; unfold cutAt
      rw [if_pos hb']
      rfl
    · rename_i hb
      have hb' : ¬ b = c := by simpa using hb
      split at h
      · omega
      · rename_i h2
        have h3 : ¬ Lib.indexByte r c = -1 := by simpa using h2
        obtain ⟨j, rfl⟩ : ∃ j, i = j + 1 := ⟨i - 1, by omega⟩
        have hr := ih j (by omega)
        conv => lhs; unfold cutAt
        rw [if_neg hb', hr]
        rfl
theorem splitB_cut (c : UInt8) : ∀ (n : Nat) (s : ByteArray), s.size ≤ n → (Lib.splitB ⟨#[c]⟩ 0 (Lib.countB s ⟨#[c]⟩) s).map (fun p => p.data.toList) = cutAt c s.data.toList := by
  intro n
  induction n with
  | zero =>
    intro s hn
    have hl : s.data.toList.length = s.size := Array.length_toList
    have h0 : s.data.toList = [] := List.eq_nil_of_length_eq_zero (by rw [hl]; omega)
    have hx : Lib.indexB s ⟨#[c]⟩ = -1 := by
      show Lib.index s.data.toList [c] = -1
      rw [Lib.index_one, h0]
      rfl
    rw [Lib.splitB_miss _ _ _ _ hx, h0]
    simp [h0, cutAt]
  | succ n ih =>
    intro s hn
    have hx : Lib.indexB s ⟨#[c]⟩ = Lib.indexByte s.data.toList c := by
      show Lib.index s.data.toList [c] = _
      rw [Lib.index_one]
    have hge := Lib.indexByte_ge s.data.toList c
    by_cases hm : Lib.indexByte s.data.toList c = -1
    · rw [Lib.splitB_miss _ _ _ _ (by rw [hx, hm]), cutAt_miss c _ hm]
      rfl
    · obtain ⟨i, hi⟩ : ∃ i : Nat, Lib.indexByte s.data.toList c = i := ⟨(Lib.indexByte s.data.toList c).toNat, (Int.toNat_of_nonneg (by omega)).symm⟩
      have hlt : i < s.size := by
        have := (Lib.indexByte_some hi).1
        have h2 := (List.getElem?_eq_some_iff.1 this).1
        simpa using h2
      have hxi : Lib.indexB s ⟨#[c]⟩ = i := by rw [hx, hi]
      rw [Lib.countB_hit s ⟨#[c]⟩ i (Nat.le_refl _) hxi, Nat.add_comm, Lib.splitB_hit _ _ _ _ i hxi, cutAt_hit c _ i hi]
      have e1 : (⟨#[c]⟩ : ByteArray).size = 1 := rfl
      have hsz : (s.extract (i + 1) s.size).size = s.size - (i + 1) := by simp
      rw [e1, List.map_cons, ih (s.extract (i + 1) s.size) (by rw [hsz]; omega)]
      have e2 : (s.extract 0 (i + 0)).data.toList = s.data.toList.take i := by simp
      have e3 : (s.extract (i + 1) s.size).data.toList = s.data.toList.drop (i + 1) := by
        rw [ByteArray.data_extract, Array.toList_extract]
        simp [List.take_of_length_le]
      rw [e2, e3]
end Go.Proofs.YtnkjhlpdcffalaaDoor.H
