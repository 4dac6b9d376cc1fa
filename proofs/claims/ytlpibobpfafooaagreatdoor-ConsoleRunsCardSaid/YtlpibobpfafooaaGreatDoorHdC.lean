/-
  Contracts of the functions of stuff at this seat: a byte's need of a mark, Put, Get.
-/
import Derived.Test.YtlpibobpfafooaaGreatDoorMath
import Derived.Test.YtlpibobpfafooaaGreatDoorShelf
import Derived.WalkKit
import Derived.BigCall
import Derived.Lib.Hide
import Derived.Lib.IndexLaws
import Derived.Laws.Rows
import Derived.Laws.CopyOwn
import Derived.Deep.WholeRow
namespace Go.Proofs.YtlpibobpfafooaaGreatDoor.H0
open Go.RowKit Go.Proofs.Wy

set_option maxHeartbeats 400000 in
theorem marked_any (c : UInt8) (m : Int) (w : World) :
    Calls Tryz.prog 99 #[.int .u8 c.toNat, .int .i64 m] w fun e w' => e = .returned (.bool (needs m c)) ∧ w = w' := by
  have hc := c.toNat_lt
  by_cases h1 : c.toNat = 125
  · have b1 : ((c.toNat : Int) == 125) = true := by rw [beq_iff_eq]; omega
    have hn : needs m c = true := by simp [needs, h1]
    have Hn := Lib.hid hn; clear hn h1
    go_enter Tryz.func99, Tryz.ntmps99
    go_wp2
    go_ret
    exact ⟨by rw [Hn.out]; rfl, rfl⟩
  · have b1 : ((c.toNat : Int) == 125) = false := by rw [beq_eq_false_iff_ne]; omega
    by_cases h2 : c.toNat = 126
    · have b2 : ((c.toNat : Int) == 126) = true := by rw [beq_iff_eq]; omega
      have hn : needs m c = true := by simp [needs, h2]
      have Hn := Lib.hid hn; clear hn h1 h2
      go_enter Tryz.func99, Tryz.ntmps99
      go_wp2
      go_ret
      exact ⟨by rw [Hn.out]; rfl, rfl⟩
    · have b2 : ((c.toNat : Int) == 126) = false := by rw [beq_eq_false_iff_ne]; omega
      by_cases h3 : c.toNat < 32
      · have b3 : decide ((c.toNat : Int) < 32) = true := by simp; omega
        have hn : needs m c = ((m / 2 ^ c.toNat) % 2 == 1) := by simp [needs, h1, h2, h3]
        have Hn := Lib.hid hn; clear hn h1 h2
        go_enter Tryz.func99, Tryz.ntmps99
        go_wp2
        go_ret
        refine ⟨?_, rfl⟩
        rw [Hn.out, ← and_one_i64]
        rfl
      · have b3 : decide ((c.toNat : Int) < 32) = false := by simp; omega
        have hn : needs m c = false := by simp [needs, h1, h2, h3]
        have Hn := Lib.hid hn; clear hn h1 h2
        go_enter Tryz.func99, Tryz.ntmps99
        go_wp2
        go_ret
        exact ⟨by rw [Hn.out]; rfl, rfl⟩

theorem take_snoc (s : ByteArray) (k : Nat) (h : k < s.size) : s.data.toList.take (k + 1) = s.data.toList.take k ++ [s[k]] := by
  rw [List.take_succ_eq_append_getElem (by simpa using h)]; rfl
theorem stuff_take (m : Int) (s : ByteArray) (k : Nat) (h : k < s.size) : stuffL m (s.data.toList.take (k + 1)) = stuffL m (s.data.toList.take k) ++ stuffB m s[k] := by
  rw [take_snoc s k h, stuffL_snoc]
theorem stuff_take_len (m : Int) (s : ByteArray) (k : Nat) : (stuffL m (s.data.toList.take k)).length ≤ 2 * k := by
  have := stuffL_length m (s.data.toList.take k)
  have : (s.data.toList.take k).length ≤ k := List.length_take_le _ _
  omega

set_option maxHeartbeats 1000000 in
set_option maxRecDepth 100000 in
theorem put_any (s : ByteArray) (m : Int) (w : World) (hs : s.size ≤ 70368744177000) :
    Calls Tryz.prog 79 #[.string s, .int .i64 m] w fun e w' => e = .returned (.string ⟨(stuffL m s.data.toList).toArray⟩) ∧ Below w.heap.size w w' := by
  go_enter Tryz.func79, Tryz.ntmps79
  go_wp2
  go_loopw [9] (fun v9 wr => ∃ k : Nat, k ≤ s.size ∧ v9 = .int .i64 k ∧ Lib.IsBuilderF 52 5 w.heap.size w.heap.size (Lib.byteCells (stuffL m (s.data.toList.take k))) wr ∧ Below w.heap.size w wr ∧ w.heap.size ≤ wr.heap.size) (fun v9 _ => s.size - (intOf v9).toNat)
  case atStart =>
    exact ⟨0, Nat.zero_le _, rfl, Lib.IsBuilderF.of (Lib.fresh_isBuilder 52 5 w), (Below.refl _ w).alloc (Nat.le_refl _) _, by simp⟩
  case round =>
    obtain ⟨k, hk, rfl, hI, hB, hz⟩ := hrel
    have hlen := stuff_take_len m s k
    by_cases hlt : k < s.size
    · have HT := Lib.hid (stuff_take m s k hlt)
      have hne : (s[k] ^^^ 32).toNat < 256 := (s[k] ^^^ 32).toNat_lt
      have hx : Go.bits .xor .u8 (s[k].toNat : Int) 32 = ((s[k] ^^^ 32).toNat : Int) := xor_byte s[k] 32
      have HX := Lib.hid hx; clear hx
      by_cases hn : needs m s[k] = true
      · have HS : Hid (stuffB m s[k] = [125, s[k] ^^^ 32]) := by unfold stuffB; rw [if_pos hn]; trivial
        go_wp2_with fail
        ((with_reducible refine (marked_any _ _ _).mono ?_); rintro e w1 ⟨rfl, rfl⟩)
        rw [hn]
        go_wp2_with fail
        ((with_reducible refine (Tryz.Builder_WriteByte_k w.heap.size w.heap.size _ 125 _ hI (by rw [Lib.byteCells_length]; omega) hz).mono ?_); rintro e w2 ⟨rfl, h2, b2, k2⟩)
        have hI2 : Lib.IsBuilderF 52 5 w.heap.size w.heap.size (Lib.byteCells (stuffL m (s.data.toList.take k)) ++ [.int .u8 125]) w2 := Or.inr h2
        have hz2 : w.heap.size ≤ w2.heap.size := Nat.le_trans hz b2.size
        have hB2 := hB.trans b2
        have hl2 : (Lib.byteCells (stuffL m (s.data.toList.take k)) ++ [Value.int .u8 125]).length + 1 ≤ 140737488355328 := by rw [List.length_append, Lib.byteCells_length]; simp; omega
        clear hI h2 hB b2 k2 hz
        have HI2 := Lib.hid hI2; clear hI2
        go_wp2_with fail
        rw [HX.out]
        ((with_reducible refine (Tryz.Builder_WriteByte_k w.heap.size w.heap.size _ _ _ HI2.out hl2 hz2).mono ?_); rintro e w3 ⟨rfl, h3, b3, k3⟩)
        have hI3 : Lib.IsBuilderF 52 5 w.heap.size w.heap.size (Lib.byteCells (stuffL m (s.data.toList.take (k + 1)))) w3 := by
          rw [HT.out, HS.out, Lib.byteCells_append]
          refine Or.inr ?_
          simpa [Lib.byteCells] using h3
        have HI3 := Lib.hid hI3
        have hB3 := hB2.trans b3
        have hz3 : w.heap.size ≤ w3.heap.size := Nat.le_trans hz2 b3.size
        clear HI2 h3 b3 k3 hI3 hB2 hz2
        go_wp2
        go_roundw
        case rel => exact ⟨k + 1, by omega, by go_num, HI3.out, hB3, hz3⟩
        case measure => simp [intOf]; omega
      · have HS : Hid (stuffB m s[k] = [s[k]]) := by unfold stuffB; rw [if_neg hn]; trivial
        replace hn : needs m s[k] = false := by simpa using hn
        go_wp2_with fail
        ((with_reducible refine (marked_any _ _ _).mono ?_); rintro e w1 ⟨rfl, rfl⟩)
        rw [hn]
        go_wp2_with fail
        ((with_reducible refine (Tryz.Builder_WriteByte_k w.heap.size w.heap.size _ _ _ hI (by rw [Lib.byteCells_length]; omega) hz).mono ?_); rintro e w3 ⟨rfl, h3, b3, k3⟩)
        have hI3 : Lib.IsBuilderF 52 5 w.heap.size w.heap.size (Lib.byteCells (stuffL m (s.data.toList.take (k + 1)))) w3 := by
          rw [HT.out, HS.out, Lib.byteCells_append]
          refine Or.inr ?_
          simpa [Lib.byteCells] using h3
        have HI3 := Lib.hid hI3
        have hB3 := hB.trans b3
        have hz3 : w.heap.size ≤ w3.heap.size := Nat.le_trans hz b3.size
        clear hI h3 b3 k3 hI3 hB hz
        go_wp2
        go_roundw
        case rel => exact ⟨k + 1, by omega, by go_num, HI3.out, hB3, hz3⟩
        case measure => simp [intOf]; omega
    · have hks : s.data.toList.take k = s.data.toList := List.take_of_length_le (by simp; omega)
      rw [hks] at hI hlen
      have HK := Lib.hid hks; clear hks
      go_wp2_with fail
      ((with_reducible refine (Tryz.Builder_String_any_k w.heap.size w.heap.size _ _ hI hz).mono ?_); rintro e w1 ⟨rfl, _, b1, _⟩)
      go_wp2
      go_ret
      exact ⟨rfl, hB.trans b1⟩
end Go.Proofs.YtlpibobpfafooaaGreatDoor.H0
/-
  The contract of stuff's Get at this seat.
-/
namespace Go.Proofs.YtlpibobpfafooaaGreatDoor.H0
open Go.RowKit Go.Proofs.Wy

theorem idx_mem (l : List UInt8) (c : UInt8) : (c ∈ l → 0 ≤ Lib.indexByte l c) ∧ (c ∉ l → Lib.indexByte l c = -1) := by
  induction l with
  | nil => exact ⟨fun h => by simp at h, fun _ => rfl⟩
  | cons b r ih =>
    have hg := Lib.indexByte_ge r c
    constructor
    · intro h
      unfold Lib.indexByte
      split
      · omega
      · rename_i hb
        have hb' : ¬ b = c := by simpa using hb
        have hr : c ∈ r := by
          rcases List.mem_cons.1 h with h | h
          · exact absurd h.symm hb'
          · exact h
        have := ih.1 hr
        split
        · rename_i h2
          have h2' : Lib.indexByte r c = -1 := by simpa using h2
          omega
        · omega
    · intro h
      have hb : ¬ b = c := fun e => h (by simp [e])
      have hr := ih.2 (fun hm => h (List.mem_cons_of_mem _ hm))
      unfold Lib.indexByte
      rw [if_neg (by simpa using hb), hr]
      rfl
/-- Undoing from a place on. -/
def Un (s : ByteArray) (k : Nat) (acc : List UInt8) : Prop := unstuffGo s.data.toList = (unstuffGo (s.data.toList.drop k)).map fun t => acc ++ t
theorem Un.zero (s : ByteArray) : Un s 0 [] := by simp [Un]
theorem drop_at (s : ByteArray) (k : Nat) (h : k < s.size) : s.data.toList.drop k = s[k] :: s.data.toList.drop (k + 1) := by
  rw [List.drop_eq_getElem_cons (by simpa using h)]; rfl
theorem Un.plain {s : ByteArray} {k : Nat} {acc : List UInt8} (h : Un s k acc) (hk : k < s.size) (hc : ¬ s[k].toNat = 125) : Un s (k + 1) (acc ++ [s[k]]) := by
  unfold Un at h ⊢
  rw [h, drop_at s k hk, unstuffGo_plain _ _ hc, Option.map_map]
  congr 1
  funext t
  simp
theorem Un.marked {s : ByteArray} {k : Nat} {acc : List UInt8} (h : Un s k acc) (hk : k + 1 < s.size) (hc : s[k].toNat = 125) : Un s (k + 1 + 1) (acc ++ [s[k + 1] ^^^ 32]) := by
  unfold Un at h ⊢
  rw [h, drop_at s k (by omega), drop_at s (k + 1) hk, unstuffGo_mark _ _ _ hc, Option.map_map]
  congr 1
  funext t
  simp
theorem Un.done {s : ByteArray} {k : Nat} {acc : List UInt8} (h : Un s k acc) (hk : s.size ≤ k) : unstuffGo s.data.toList = some acc := by
  unfold Un at h
  rw [h, List.drop_of_length_le (by simpa using hk)]
  simp [unstuffGo]
theorem Un.ends {s : ByteArray} {k : Nat} {acc : List UInt8} (h : Un s k acc) (hk : k < s.size) (hc : s[k].toNat = 125) (hk2 : k + 1 = s.size) : unstuffGo s.data.toList = none := by
  unfold Un at h
  rw [h, drop_at s k hk, List.drop_of_length_le (by simp; omega), unstuffGo_end _ hc]
  rfl

set_option maxHeartbeats 1000000 in
set_option maxRecDepth 100000 in
theorem get_flag (s : ByteArray) (w : World) (hm : (126 : UInt8) ∈ s.data.toList) :
    Calls Tryz.prog 82 #[.string s] w fun e w' => e = .returned (.tuple #[.string ⟨#[]⟩, .int .i64 201]) ∧ Below w.heap.size w w' := by
  have h0 : 0 ≤ Lib.indexByte s.data.toList 126 := (idx_mem _ _).1 hm
  have b0 : decide (0 ≤ Lib.indexByte s.data.toList 126) = true := by simpa using h0
  clear h0 hm
  go_enter Tryz.func82, Tryz.ntmps82
  go_wp2_with fail
  ((with_reducible refine (Tryz.strings_IndexByte s 126 _).mono ?_); rintro e w1 ⟨rfl, rfl⟩)
  go_wp2
  go_ret2
  exact ⟨rfl, Below.refl _ _⟩

set_option maxHeartbeats 2000000 in
set_option maxRecDepth 100000 in
theorem get_any (s : ByteArray) (w : World) (hs : s.size ≤ 140737488355000) (hm : (126 : UInt8) ∉ s.data.toList) :
    Calls Tryz.prog 82 #[.string s] w fun e w' => e = .returned (.tuple #[.string ⟨(unstuffL s.data.toList).1.toArray⟩, .int .i64 (unstuffL s.data.toList).2]) ∧ Below w.heap.size w w' := by
  have HQ := Lib.hid (unstuffL_of s.data.toList hm)
  have b0 : decide (0 ≤ Lib.indexByte s.data.toList 126) = false := by rw [(idx_mem _ _).2 hm]; rfl
  clear hm
  go_enter Tryz.func82, Tryz.ntmps82
  go_wp2_with fail
  ((with_reducible refine (Tryz.strings_IndexByte s 126 _).mono ?_); rintro e w1 ⟨rfl, hw⟩; obtain rfl : w = w1 := hw.symm)
  clear hw
  go_wp2
  clear b0
  go_loopw [5] (fun v5 wr => ∃ (k : Nat) (acc : List UInt8), k ≤ s.size ∧ v5 = .int .i64 k ∧ acc.length ≤ k ∧ Hid (Un s k acc) ∧ Lib.IsBuilderF 52 5 w.heap.size w.heap.size (Lib.byteCells acc) wr ∧ Below w.heap.size w wr ∧ w.heap.size ≤ wr.heap.size) (fun v5 _ => s.size - (intOf v5).toNat)
  case atStart =>
    exact ⟨0, [], Nat.zero_le _, rfl, Nat.le_refl _, Un.zero s, Lib.IsBuilderF.of (Lib.fresh_isBuilder 52 5 w), (Below.refl _ w).alloc (Nat.le_refl _) _, by simp⟩
  case round =>
    obtain ⟨k, acc, hk, rfl, hl, HU, hI, hB, hz⟩ := hrel
    by_cases hlt : k < s.size
    · have hc := s[k].toNat_lt
      by_cases hm : s[k].toNat = 125
      · have b1 : ((s[k].toNat : Int) != 125) = false := by rw [hm]; rfl
        by_cases hk2 : k + 1 = s.size
        · have HQ2 := Lib.hid ((HQ.out).1 (HU.out.ends hlt hm hk2))
          have b2 : ((k : Int) + 1 == (s.size : Int)) = true := by rw [beq_iff_eq]; omega
          clear hm hk2
          go_wp2
          go_ret2
          exact ⟨by rw [HQ2.out]; rfl, hB⟩
        · have hlt2 : k + 1 < s.size := by omega
          have b2 : ((k : Int) + 1 == (s.size : Int)) = false := by rw [beq_eq_false_iff_ne]; omega
          have HU2 := Lib.hid (HU.out.marked hlt2 hm)
          have hx : Go.bits .xor .u8 (s[k + 1].toNat : Int) 32 = ((s[k + 1] ^^^ 32).toNat : Int) := xor_byte s[k + 1] 32
          have HX := Lib.hid hx; clear hx hm hk2
          go_wp2_with fail
          rw [HX.out]
          ((with_reducible refine (Tryz.Builder_WriteByte_k w.heap.size w.heap.size _ _ _ hI (by rw [Lib.byteCells_length]; omega) hz).mono ?_); rintro e w3 ⟨rfl, h3, b3, k3⟩)
          have hI3 : Lib.IsBuilderF 52 5 w.heap.size w.heap.size (Lib.byteCells (acc ++ [s[k + 1] ^^^ 32])) w3 := by
            rw [Lib.byteCells_append]
            exact Or.inr h3
          have HI3 := Lib.hid hI3
          have hB3 := hB.trans b3
          have hz3 : w.heap.size ≤ w3.heap.size := Nat.le_trans hz b3.size
          clear hI h3 b3 k3 hI3 hB hz
          go_wp2
          go_roundw
          case rel => exact ⟨k + 1 + 1, acc ++ [s[k + 1] ^^^ 32], by omega, by go_num, by simp; omega, HU2, HI3.out, hB3, hz3⟩
          case measure => simp [intOf]; omega
      · have b1 : ((s[k].toNat : Int) != 125) = true := by rw [bne_iff_ne]; omega
        have HU2 := Lib.hid (HU.out.plain hlt hm)
        clear hm
        go_wp2_with fail
        ((with_reducible refine (Tryz.Builder_WriteByte_k w.heap.size w.heap.size _ _ _ hI (by rw [Lib.byteCells_length]; omega) hz).mono ?_); rintro e w3 ⟨rfl, h3, b3, k3⟩)
        have hI3 : Lib.IsBuilderF 52 5 w.heap.size w.heap.size (Lib.byteCells (acc ++ [s[k]])) w3 := by
          rw [Lib.byteCells_append]
          exact Or.inr h3
        have HI3 := Lib.hid hI3
        have hB3 := hB.trans b3
        have hz3 : w.heap.size ≤ w3.heap.size := Nat.le_trans hz b3.size
        clear hI h3 b3 k3 hI3 hB hz
        go_wp2
        go_roundw
        case rel => exact ⟨k + 1, acc ++ [s[k]], by omega, by go_num, by simp; omega, HU2, HI3.out, hB3, hz3⟩
        case measure => simp [intOf]; omega
    · have HQ2 := Lib.hid ((HQ.out).2 _ (HU.out.done (by omega)))
      go_wp2_with fail
      ((with_reducible refine (Tryz.Builder_String_any_k w.heap.size w.heap.size _ _ hI hz).mono ?_); rintro e w1 ⟨rfl, _, b1, _⟩)
      go_wp2
      go_ret2
      exact ⟨by rw [HQ2.out]; rfl, hB.trans b1⟩
end Go.Proofs.YtlpibobpfafooaaGreatDoor.H0
/-
  The contracts of fcs's table and Of at this seat.
-/
namespace Go.Proofs.YtlpibobpfafooaaGreatDoor.H0
open Go.RowKit Go.Proofs.Wy

/-- The table's cells when the first k stand. -/
def tabL (k : Nat) : List Value := (List.range 256).map fun i => Value.int .u16 (if i < k then (stepN 8 i : Nat) else 0 : Nat)
def tabA (k : Nat) : Array Value := (tabL k).toArray
theorem tabA_size (k : Nat) : (tabA k).size = 256 := by simp [tabA, tabL]
theorem tabA_set (k : Nat) : (tabA k).setIfInBounds k (Value.int .u16 (stepN 8 k : Nat)) = tabA (k + 1) := by
  apply Array.ext
  · simp [tabA, tabL]
  · intro i h1 h2
    have hi : i < 256 := by simpa [tabA, tabL] using h2
    rw [Array.getElem_setIfInBounds]
    by_cases e : k = i
    · subst e
      simp [tabA, tabL]
    · rw [if_neg e]
      have : (i < k) = (i < k + 1) := by simp; omega
      simp [tabA, tabL, this]
    · simpa [tabA, tabL] using hi

theorem zeroTab : ∀ w : World, (zeroValue 111).run Tryz.prog w = .ok (.agg (tabA 0)) w := fun w => by kernel_rfl

theorem infoTab : (Tryz.prog.info? 111).map (·.size) = some 256 := by kernel_rfl
theorem tabA_one (k : Nat) : (tabA k).all (·.oneCell') = true := by
  rw [Array.all_eq_true_iff_forall_mem]
  intro v hv
  simp only [tabA, tabL, List.mem_toArray, List.mem_map] at hv
  obtain ⟨i, _, rfl⟩ := hv
  rfl

set_option maxHeartbeats 1000000 in
set_option maxRecDepth 100000 in
theorem table_any (w : World) :
    Calls Tryz.prog 76 #[] w fun e w' => e = .returned (.agg (tabA 256)) ∧ Below w.heap.size w w' := by
  have hz := zeroTab
  go_enter Tryz.func76, Tryz.ntmps76
  go_wp2
  clear hz
  go_loopw [4] (fun v4 wr => ∃ k : Nat, k ≤ 256 ∧ v4 = .int .i64 k ∧ wr = (w.alloc (.cells (tabA 0) 111)).alloc (.cells (tabA k) 111)) (fun v4 _ => 256 - (intOf v4).toNat)
  case atStart => exact ⟨0, by omega, rfl, rfl⟩
  case round =>
    obtain ⟨k, hk, rfl, rfl⟩ := hrel
    by_cases hlt : k < 256
    · go_wp2
      go_loop [3, 9] (fun v3 v9 => ∃ (j x : Nat), j ≤ 8 ∧ x < 65536 ∧ v9 = .int .i64 j ∧ v3 = .int .u16 x ∧ Hid (stepN (8 - j) x = stepN 8 k)) (fun _ v9 => 8 - (intOf v9).toNat)
      case atStart => exact ⟨0, k, by omega, by omega, rfl, rfl, rfl⟩
      case round =>
        obtain ⟨j, x, hj, hx, rfl, rfl, hs⟩ := hrel
        by_cases hj8 : j < 8
        · have hs2 : Hid (stepN (8 - (j + 1)) (step1 x) = stepN 8 k) := by
            have e : 8 - j = (8 - (j + 1)) + 1 := by omega
            have h := hs.out
            rw [e] at h
            exact h
          have hs1 := step1_lt hx
          have ha : Go.bits .and .u16 (x : Int) 1 = ((x % 2 : Nat) : Int) := by rw [and_one_u16]; omega
          have HA := Lib.hid ha
          clear ha hs
          rcases Nat.mod_two_eq_zero_or_one x with h2 | h2
          · have b1 : (Go.bits .and .u16 (x : Int) 1 == 1) = false := by rw [HA.out, h2]; rfl
            have hst : Hid ((x : Int) / 2 = ((step1 x : Nat) : Int)) := by unfold step1; rw [if_neg (by omega)]; show (x : Int) / 2 = _; omega
            clear HA h2
            go_wp2
            rw [hst.out]
            go_round
            case rel => exact ⟨j + 1, step1 x, by omega, hs1, by go_num, rfl, hs2⟩
            case measure => simp [intOf]; omega
          · have b1 : (Go.bits .and .u16 (x : Int) 1 == 1) = true := by rw [HA.out, h2]; rfl
            have hst : Hid (Go.bits .xor .u16 ((x : Int) / 2) 33800 = ((step1 x : Nat) : Int)) := by
              unfold step1
              rw [if_pos h2]
              have e := xor_u16 (x / 2) 33800 (by omega) (by omega)
              show Go.bits .xor .u16 ((x : Int) / 2) 33800 = _
              rw [← e]
              congr 1
            clear HA h2
            go_wp2
            rw [hst.out]
            go_round
            case rel => exact ⟨j + 1, step1 x, by omega, hs1, by go_num, rfl, hs2⟩
            case measure => simp [intOf]; omega
        · obtain rfl : j = 8 := by omega
          have hs2 : Hid (x = stepN 8 k) := hs.out
          clear hs
          have HT := Lib.hid (tabA_set k)
          have hz2 : (tabA k).size = 256 := tabA_size k
          go_wp2
          go_roundw
          case rel => exact ⟨k + 1, by omega, by go_num, by rw [hs2.out, HT.out]⟩
          case measure => simp [intOf]; omega
    · obtain rfl : k = 256 := by omega
      clear hlt
      have hi : ∀ n, (Tryz.prog.info? 111).map (·.size) = some (tabA n).size := fun n => by rw [tabA_size]; exact infoTab
      have hd : ∀ n m, (tabA n).size = (tabA m).size := fun n m => by rw [tabA_size, tabA_size]
      go_wp2_with (first | (with_reducible refine wpList_load_row rfl 111 (.tmp 1) rfl (w.heap.size + 1) rfl 111 (tabA 256) (0, 0) _ (heap_alloc2_new _ _ _) Tryz.underlying111 rfl (hi 256) ?_) | (with_reducible refine wpList_store_row rfl 111 (.tmp 0) (.tmp 24) rfl w.heap.size (tabA 256) rfl rfl 111 (tabA 0) (heap_alloc2_old _ _ _) (hi 256) (hd _ _) (tabA_one 256) ?_))
      refine bodyPost_ret (v := .agg (tabA 256)) (results_cell_row rfl _ _ w.heap.size 111 (tabA 256) (0, 0) _ rfl (setRow_heap _ _ _ _ _ _ (heap_alloc2_old _ _ _)) Tryz.underlying111 rfl (hi 256)) rfl ⟨rfl, ?_⟩
      exact below_setRow (((Below.refl _ w).alloc (Nat.le_refl _) _).alloc (by simp) _) (Nat.le_refl _) _

theorem tab_cell (i : Nat) (hi : i < 256) : (tabA 256)[i]? = some (Value.int .u16 (stepN 8 i : Nat)) := by simp [tabA, tabL, hi]
theorem crc_take (s : ByteArray) (k : Nat) (h : k < s.size) : crcL 65535 (s.data.toList.take (k + 1)) = crcB (crcL 65535 (s.data.toList.take k)) s[k] := by
  rw [take_snoc s k h, crcL_snoc]

set_option maxHeartbeats 2000000 in
set_option maxRecDepth 100000 in
theorem of_any (s : ByteArray) (w : World) (hs : s.size ≤ 9223372036854775807) :
    Calls Tryz.prog 60 #[.string s] w fun e w' => e = .returned (.int .i64 (fcsL s.data.toList : Nat)) ∧ Below w.heap.size w w' := by
  have hz := zeroTab
  have hi : ∀ n, (Tryz.prog.info? 111).map (·.size) = some (tabA n).size := fun n => by rw [tabA_size]; exact infoTab
  have hd : ∀ n m, (tabA n).size = (tabA m).size := fun n m => by rw [tabA_size, tabA_size]
  go_enter Tryz.func60, Tryz.ntmps60
  go_wp2_with fail
  ((with_reducible refine (table_any _).mono ?_); rintro e w1 ⟨rfl, hB1⟩)
  have hz1 := hB1.size
  go_wp2_with (with_reducible refine wpList_store_row rfl 111 (.tmp 3) (.tmp 6) rfl w1.heap.size (tabA 256) rfl rfl 111 (tabA 0) (heap_alloc_new _ _) (hi 256) (hd _ _) (tabA_one 256) ?_)
  rw [World.setRow_alloc_new]
  clear hz hi hd
  go_loop [4, 9] (fun v4 v9 => ∃ (k x : Nat), k ≤ s.size ∧ x < 65536 ∧ v9 = .int .i64 k ∧ v4 = .int .u16 x ∧ Hid (x = crcL 65535 (s.data.toList.take k))) (fun _ v9 => s.size - (intOf v9).toNat)
  case atStart => exact ⟨0, 65535, Nat.zero_le _, by omega, rfl, rfl, rfl⟩
  case round =>
    obtain ⟨k, x, hk, hx, rfl, rfl, hc⟩ := hrel
    by_cases hlt : k < s.size
    · have hb0 := xor_u8 (x % 256) s[k].toNat (by omega) s[k].toNat_lt
      have hq : (x % 256) ^^^ s[k].toNat < 256 := Nat.xor_lt_two_pow (n := 8) (show x % 256 < 2 ^ 8 by omega) s[k].toNat_lt
      have hn : Hid (crcB x s[k] = (x / 256) ^^^ stepN 8 ((x % 256) ^^^ s[k].toNat)) := crcB_table x s[k]
      have hT := Lib.hid (crc_take s k hlt)
      generalize (x % 256) ^^^ s[k].toNat = q at hb0 hq hn
      have ht := tab_cell q hq
      have hs8 : stepN 8 q < 65536 := stepN_lt 8 (by omega)
      have hb1 := xor_u16 (x / 256) (stepN 8 q) (by omega) hs8
      have hn1 : (x / 256) ^^^ stepN 8 q < 65536 := xor_lt16 (by omega) hs8
      have hn2 : Hid ((x / 256) ^^^ stepN 8 q = crcL 65535 (s.data.toList.take (k + 1))) := by
        show _ = _
        rw [hT.out, ← hc.out, hn.out]
      clear hn hT hc
      generalize (x / 256) ^^^ stepN 8 q = y at hb1 hn1 hn2
      generalize stepN 8 q = z at ht hs8 hb1
      have hb : Go.bits .xor .u8 ((x : Int) % 256) (s[k].toNat : Int) = (q : Int) := hb0
      have hb2 : Go.bits .xor .u16 ((x : Int) / 256) (z : Int) = (y : Int) := hb1
      clear hb0 hb1
      go_wp2_with fail
      go_round
      case rel => exact ⟨k + 1, y, by omega, hn1, by go_num, rfl, hn2⟩
      case measure => simp [intOf]; omega
    · have hks : s.data.toList.take k = s.data.toList := List.take_of_length_le (by simp; omega)
      have hv : Hid (wrap64 (Go.bits .xor .u16 IntKind.u16.max (x : Int)) = ((fcsL s.data.toList : Nat) : Int)) := by
        have h := hc.out
        rw [hks] at h
        have e := xor_u16 65535 x (by omega) hx
        have e2 : Go.bits .xor .u16 IntKind.u16.max (x : Int) = ((65535 ^^^ x : Nat) : Int) := e
        have e3 : fcsL s.data.toList = 65535 ^^^ x := by unfold fcsL; rw [← h, Nat.xor_comm]
        have e4 := fcsL_lt s.data.toList
        show _ = _
        rw [e2, e3]
        rw [e3] at e4
        unfold wrap64
        omega
      clear hc hks
      go_wp2_with fail
      go_ret
      refine ⟨?_, hB1.alloc hz1 _⟩
      rw [← hv.out]
      rfl
end Go.Proofs.YtlpibobpfafooaaGreatDoor.H0
