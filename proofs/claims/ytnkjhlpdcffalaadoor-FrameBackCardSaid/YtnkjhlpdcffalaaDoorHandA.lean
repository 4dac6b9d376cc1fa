/-
  Contracts of the functions of stuff at this seat: a byte's need of a mark, Put, Get.
-/
import Derived.Test.YtnkjhlpdcffalaaDoorMath
import Derived.Test.YtnkjhlpdcffalaaDoorShelf
import Derived.WalkKit
import Derived.BigCall
import Derived.Lib.Hide
namespace Go.Proofs.YtnkjhlpdcffalaaDoor.H
open Go.RowKit Go.Proofs.Wy

set_option maxHeartbeats 400000 in
theorem marked_any (c : UInt8) (m : Int) (w : World) :
    Calls Tryd.prog 27 #[.int .u8 c.toNat, .int .i64 m] w fun e w' => e = .returned (.bool (needs m c)) ∧ w = w' := by
  have hc := c.toNat_lt
  by_cases h1 : c.toNat = 125
  · have b1 : ((c.toNat : Int) == 125) = true := by rw [beq_iff_eq]; omega
    have hn : needs m c = true := by simp [needs, h1]
    have Hn := Lib.hid hn; clear hn h1
    go_enter Tryd.func27, Tryd.ntmps27
    go_wp2
    go_ret
    exact ⟨by rw [Hn.out]; rfl, rfl⟩
  · have b1 : ((c.toNat : Int) == 125) = false := by rw [beq_eq_false_iff_ne]; omega
    by_cases h2 : c.toNat = 126
    · have b2 : ((c.toNat : Int) == 126) = true := by rw [beq_iff_eq]; omega
      have hn : needs m c = true := by simp [needs, h2]
      have Hn := Lib.hid hn; clear hn h1 h2
      go_enter Tryd.func27, Tryd.ntmps27
      go_wp2
      go_ret
      exact ⟨by rw [Hn.out]; rfl, rfl⟩
    · have b2 : ((c.toNat : Int) == 126) = false := by rw [beq_eq_false_iff_ne]; omega
      by_cases h3 : c.toNat < 32
      · have b3 : decide ((c.toNat : Int) < 32) = true := by simp; omega
        have hn : needs m c = ((m / 2 ^ c.toNat) % 2 == 1) := by simp [needs, h1, h2, h3]
        have Hn := Lib.hid hn; clear hn h1 h2
        go_enter Tryd.func27, Tryd.ntmps27
        go_wp2
        go_ret
        refine ⟨?_, rfl⟩
        rw [Hn.out, ← and_one_i64]
        rfl
      · have b3 : decide ((c.toNat : Int) < 32) = false := by simp; omega
        have hn : needs m c = false := by simp [needs, h1, h2, h3]
        have Hn := Lib.hid hn; clear hn h1 h2
        go_enter Tryd.func27, Tryd.ntmps27
        go_wp2
        go_ret
        exact ⟨by rw [Hn.out]; rfl, rfl⟩

theorem take_snoc (s : ByteArray) (k : Nat) (h : k < s.size) : s.data.toList.take (k + 1) = s.data.toList.take k ++ [s[k]] := by
  rw [List.take_succ_eq_append_getElem (by simpa using h)]; rfl
theorem stuff_take (m : Int) (s : ByteArray) (k : Nat) (h : k < s.size) : stuffL m (s.data.toList.take (k + 1)) = stuffL m (s.data.toList.take k) ++ stuffB m s[k] := by
  rw [take_snoc s k h, stuffL_snoc]
theorem stuff_take_len (m : Int) (s : ByteArray) (k : Nat) : (stuffL m (s.data.toList.take k)).length ≤ 2 * k := by
  have := stuffL_length m (s.data.toList.take k)
  have : (s.data.toList.take k).length ≤ k := List.length_take_le _ _
  omega

set_option maxHeartbeats 1000000 in
set_option maxRecDepth 100000 in
theorem put_any (s : ByteArray) (m : Int) (w : World) (hs : s.size ≤ 70368744177000) :
    Calls Tryd.prog 14 #[.string s, .int .i64 m] w fun e w' => e = .returned (.string ⟨(stuffL m s.data.toList).toArray⟩) ∧ Below w.heap.size w w' := by
  go_enter Tryd.func14, Tryd.ntmps14
  go_wp2
  go_loopw [9] (fun v9 wr => ∃ k : Nat, k ≤ s.size ∧ v9 = .int .i64 k ∧ Lib.IsBuilderF 50 5 w.heap.size w.heap.size (Lib.byteCells (stuffL m (s.data.toList.take k))) wr ∧ Below w.heap.size w wr ∧ w.heap.size ≤ wr.heap.size) (fun v9 _ => s.size - (intOf v9).toNat)
  case atStart =>
    exact ⟨0, Nat.zero_le _, rfl, Lib.IsBuilderF.of (Lib.fresh_isBuilder 50 5 w), (Below.refl _ w).alloc (Nat.le_refl _) _, by simp⟩
  case round =>
    obtain ⟨k, hk, rfl, hI, hB, hz⟩ := hrel
    have hlen := stuff_take_len m s k
    by_cases hlt : k < s.size
    · have HT := Lib.hid (stuff_take m s k hlt)
      have hne : (s[k] ^^^ 32).toNat < 256 := (s[k] ^^^ 32).toNat_lt
      have hx : Go.bits .xor .u8 (s[k].toNat : Int) 32 = ((s[k] ^^^ 32).toNat : Int) := xor_byte s[k] 32
      have HX := Lib.hid hx; clear hx
      by_cases hn : needs m s[k] = true
      · have HS : Hid (stuffB m s[k] = [125, s[k] ^^^ 32]) := by unfold stuffB; rw [if_pos hn]; trivial
        go_wp2_with fail
        ((with_reducible refine (marked_any _ _ _).mono ?_); rintro e w1 ⟨rfl, rfl⟩)
        rw [hn]
        go_wp2_with fail
        ((with_reducible refine (Tryd.Builder_WriteByte_k w.heap.size w.heap.size _ 125 _ hI (by rw [Lib.byteCells_length]; omega) hz).mono ?_); rintro e w2 ⟨rfl, h2, b2, k2⟩)
        have hI2 : Lib.IsBuilderF 50 5 w.heap.size w.heap.size (Lib.byteCells (stuffL m (s.data.toList.take k)) ++ [.int .u8 125]) w2 := Or.inr h2
        have hz2 : w.heap.size ≤ w2.heap.size := Nat.le_trans hz b2.size
        have hB2 := hB.trans b2
        have hl2 : (Lib.byteCells (stuffL m (s.data.toList.take k)) ++ [Value.int .u8 125]).length + 1 ≤ 140737488355328 := by rw [List.length_append, Lib.byteCells_length]; simp; omega
        clear hI h2 hB b2 k2 hz
        have HI2 := Lib.hid hI2; clear hI2
        go_wp2_with fail
        rw [HX.out]
        ((with_reducible refine (Tryd.Builder_WriteByte_k w.heap.size w.heap.size _ _ _ HI2.out hl2 hz2).mono ?_); rintro e w3 ⟨rfl, h3, b3, k3⟩)
        have hI3 : Lib.IsBuilderF 50 5 w.heap.size w.heap.size (Lib.byteCells (stuffL m (s.data.toList.take (k + 1)))) w3 := by
          rw [HT.out, HS.out, Lib.byteCells_append]
          refine Or.inr ?_
          simpa [Lib.byteCells] using h3
        have HI3 := Lib.hid hI3
        have hB3 := hB2.trans b3
        have hz3 : w.heap.size ≤ w3.heap.size := Nat.le_trans hz2 b3.size
        clear HI2 h3 b3 k3 hI3 hB2 hz2
        go_wp2
        go_roundw
        case rel => exact ⟨k + 1, by omega, by go_num, HI3.out, hB3, hz3⟩
        case measure => simp [intOf]; omega
      · have HS : Hid (stuffB m s[k] = [s[k]]) := by unfold stuffB; rw [if_neg hn]; trivial
        replace hn : needs m s[k] = false := by simpa using hn
        go_wp2_with fail
        ((with_reducible refine (marked_any _ _ _).mono ?_); rintro e w1 ⟨rfl, rfl⟩)
        rw [hn]
        go_wp2_with fail
        ((with_reducible refine (Tryd.Builder_WriteByte_k w.heap.size w.heap.size _ _ _ hI (by rw [Lib.byteCells_length]; omega) hz).mono ?_); rintro e w3 ⟨rfl, h3, b3, k3⟩)
        have hI3 : Lib.IsBuilderF 50 5 w.heap.size w.heap.size (Lib.byteCells (stuffL m (s.data.toList.take (k + 1)))) w3 := by
          rw [HT.out, HS.out, Lib.byteCells_append]
          refine Or.inr ?_
          simpa [Lib.byteCells] using h3
        have HI3 := Lib.hid hI3
        have hB3 := hB.trans b3
        have hz3 : w.heap.size ≤ w3.heap.size := Nat.le_trans hz b3.size
        clear hI h3 b3 k3 hI3 hB hz
        go_wp2
        go_roundw
        case rel => exact ⟨k + 1, by omega, by go_num, HI3.out, hB3, hz3⟩
        case measure => simp [intOf]; omega
    · have hks : s.data.toList.take k = s.data.toList := List.take_of_length_le (by simp; omega)
      rw [hks] at hI hlen
      have HK := Lib.hid hks; clear hks
      go_wp2_with fail
      ((with_reducible refine (Tryd.Builder_String_any_k w.heap.size w.heap.size _ _ hI hz).mono ?_); rintro e w1 ⟨rfl, _, b1, _⟩)
      go_wp2
      go_ret
      exact ⟨rfl, hB.trans b1⟩
end Go.Proofs.YtnkjhlpdcffalaaDoor.H
