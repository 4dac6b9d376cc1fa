/-
  The contracts of fcs's table and Of at this seat.
-/
import Derived.Test.YtnkjhlpdcffalaaDoorHandA
import Derived.Laws.Rows
import Derived.Laws.CopyOwn
import Derived.Deep.WholeRow
namespace Go.Proofs.YtnkjhlpdcffalaaDoor.H
open Go.RowKit Go.Proofs.Wy

/-- The table's cells when the first k stand. -/
def tabL (k : Nat) : List Value := (List.range 256).map fun i => Value.int .u16 (if i < k then (stepN 8 i : Nat) else 0 : Nat)
def tabA (k : Nat) : Array Value := (tabL k).toArray
theorem tabA_size (k : Nat) : (tabA k).size = 256 := by simp [tabA, tabL]
theorem tabA_set (k : Nat) : (tabA k).setIfInBounds k (Value.int .u16 (stepN 8 k : Nat)) = tabA (k + 1) := by
  apply Array.ext
  · simp [tabA, tabL]
  · intro i h1 h2
    have hi : i < 256 := by simpa [tabA, tabL] using h2
    rw [Array.getElem_setIfInBounds]
    by_cases e : k = i
    · subst e
      simp [tabA, tabL]
    · rw [if_neg e]
      have : (i < k) = (i < k + 1) := by simp; omega
      simp [tabA, tabL, this]
    · simpa [tabA, tabL] using hi

theorem zeroTab : ∀ w : World, (zeroValue 67).run Tryd.prog w = .ok (.agg (tabA 0)) w := fun w => by kernel_rfl

theorem infoTab : (Tryd.prog.info? 67).map (·.size) = some 256 := by kernel_rfl
theorem tabA_one (k : Nat) : (tabA k).all (·.oneCell') = true := by
  rw [Array.all_eq_true_iff_forall_mem]
  intro v hv
  simp only [tabA, tabL, List.mem_toArray, List.mem_map] at hv
  obtain ⟨i, _, rfl⟩ := hv
  rfl

set_option maxHeartbeats 1000000 in
set_option maxRecDepth 100000 in
theorem table_any (w : World) :
    Calls Tryd.prog 40 #[] w fun e w' => e = .returned (.agg (tabA 256)) ∧ Below w.heap.size w w' := by
  have hz := zeroTab
  go_enter Tryd.func40, Tryd.ntmps40
  go_wp2
  clear hz
  go_loopw [4] (fun v4 wr => ∃ k : Nat, k ≤ 256 ∧ v4 = .int .i64 k ∧ wr = (w.alloc (.cells (tabA 0) 67)).alloc (.cells (tabA k) 67)) (fun v4 _ => 256 - (intOf v4).toNat)
  case atStart => exact ⟨0, by omega, rfl, rfl⟩
  case round =>
    obtain ⟨k, hk, rfl, rfl⟩ := hrel
    by_cases hlt : k < 256
    · go_wp2
      go_loop [3, 9] (fun v3 v9 => ∃ (j x : Nat), j ≤ 8 ∧ x < 65536 ∧ v9 = .int .i64 j ∧ v3 = .int .u16 x ∧ Hid (stepN (8 - j) x = stepN 8 k)) (fun _ v9 => 8 - (intOf v9).toNat)
      case atStart => exact ⟨0, k, by omega, by omega, rfl, rfl, rfl⟩
      case round =>
        obtain ⟨j, x, hj, hx, rfl, rfl, hs⟩ := hrel
        by_cases hj8 : j < 8
        · have hs2 : Hid (stepN (8 - (j + 1)) (step1 x) = stepN 8 k) := by
            have e : 8 - j = (8 - (j + 1)) + 1 := by omega
            have h := hs.out
            rw [e] at h
            exact h
          have hs1 := step1_lt hx
          have ha : Go.bits .and .u16 (x : Int) 1 = ((x % 2 : Nat) : Int) := by rw [and_one_u16]; omega
          have HA := Lib.hid ha
          clear ha hs
          rcases Nat.mod_two_eq_zero_or_one x with h2 | h2
          · have b1 : (Go.bits .and .u16 (x : Int) 1 == 1) = false := by rw [HA.out, h2]; rfl
            have hst : Hid ((x : Int) / 2 = ((step1 x : Nat) : Int)) := by unfold step1; rw [if_neg (by omega)]; show (x : Int) / 2 = _; omega
            clear HA h2
            go_wp2
            rw [hst.out]
            go_round
            case rel => exact ⟨j + 1, step1 x, by omega, hs1, by go_num, rfl, hs2⟩
            case measure => simp [intOf]; omega
          · have b1 : (Go.bits .and .u16 (x : Int) 1 == 1) = true := by rw [HA.out, h2]; rfl
            have hst : Hid (Go.bits .xor .u16 ((x : Int) / 2) 33800 = ((step1 x : Nat) : Int)) := by
              unfold step1
              rw [if_pos h2]
              have e := xor_u16 (x / 2) 33800 (by omega) (by omega)
              show Go.bits .xor .u16 ((x : Int) / 2) 33800 = _
              rw [← e]
              congr 1
            clear HA h2
            go_wp2
            rw [hst.out]
            go_round
            case rel => exact ⟨j + 1, step1 x, by omega, hs1, by go_num, rfl, hs2⟩
            case measure => simp [intOf]; omega
        · obtain rfl : j = 8 := by omega
          have hs2 : Hid (x = stepN 8 k) := hs.out
          clear hs
          have HT := Lib.hid (tabA_set k)
          have hz2 : (tabA k).size = 256 := tabA_size k
          go_wp2
          go_roundw
          case rel => exact ⟨k + 1, by omega, by go_num, by rw [hs2.out, HT.out]⟩
          case measure => simp [intOf]; omega
    · obtain rfl : k = 256 := by omega
      clear hlt
      have hi : ∀ n, (Tryd.prog.info? 67).map (·.size) = some (tabA n).size := fun n => by rw [tabA_size]; exact infoTab
      have hd : ∀ n m, (tabA n).size = (tabA m).size := fun n m => by rw [tabA_size, tabA_size]
      go_wp2_with (first | (with_reducible refine wpList_load_row rfl 67 (.tmp 1) rfl (w.heap.size + 1) rfl 67 (tabA 256) (0, 0) _ (heap_alloc2_new _ _ _) Tryd.underlying67 rfl (hi 256) ?_) | (with_reducible refine wpList_store_row rfl 67 (.tmp 0) (.tmp 24) rfl w.heap.size (tabA 256) rfl rfl 67 (tabA 0) (heap_alloc2_old _ _ _) (hi 256) (hd _ _) (tabA_one 256) ?_))
      refine bodyPost_ret (v := .agg (tabA 256)) (results_cell_row rfl _ _ w.heap.size 67 (tabA 256) (0, 0) _ rfl (setRow_heap _ _ _ _ _ _ (heap_alloc2_old _ _ _)) Tryd.underlying67 rfl (hi 256)) rfl ⟨rfl, ?_⟩
      exact below_setRow (((Below.refl _ w).alloc (Nat.le_refl _) _).alloc (by simp) _) (Nat.le_refl _) _

theorem tab_cell (i : Nat) (hi : i < 256) : (tabA 256)[i]? = some (Value.int .u16 (stepN 8 i : Nat)) := by simp [tabA, tabL, hi]
theorem crc_take (s : ByteArray) (k : Nat) (h : k < s.size) : crcL 65535 (s.data.toList.take (k + 1)) = crcB (crcL 65535 (s.data.toList.take k)) s[k] := by
  rw [take_snoc s k h, crcL_snoc]

set_option maxHeartbeats 2000000 in
set_option maxRecDepth 100000 in
theorem of_any (s : ByteArray) (w : World) (hs : s.size ≤ 9223372036854775807) :
    Calls Tryd.prog 34 #[.string s] w fun e w' => e = .returned (.int .i64 (fcsL s.data.toList : Nat)) ∧ Below w.heap.size w w' := by
  have hz := zeroTab
  have hi : ∀ n, (Tryd.prog.info? 67).map (·.size) = some (tabA n).size := fun n => by rw [tabA_size]; exact infoTab
  have hd : ∀ n m, (tabA n).size = (tabA m).size := fun n m => by rw [tabA_size, tabA_size]
  go_enter Tryd.func34, Tryd.ntmps34
  go_wp2_with fail
  ((with_reducible refine (table_any _).mono ?_); rintro e w1 ⟨rfl, hB1⟩)
  have hz1 := hB1.size
  go_wp2_with (with_reducible refine wpList_store_row rfl 67 (.tmp 3) (.tmp 6) rfl w1.heap.size (tabA 256) rfl rfl 67 (tabA 0) (heap_alloc_new _ _) (hi 256) (hd _ _) (tabA_one 256) ?_)
  rw [World.setRow_alloc_new]
  clear hz hi hd
  go_loop [4, 9] (fun v4 v9 => ∃ (k x : Nat), k ≤ s.size ∧ x < 65536 ∧ v9 = .int .i64 k ∧ v4 = .int .u16 x ∧ Hid (x = crcL 65535 (s.data.toList.take k))) (fun _ v9 => s.size - (intOf v9).toNat)
  case atStart => exact ⟨0, 65535, Nat.zero_le _, by omega, rfl, rfl, rfl⟩
  case round =>
    obtain ⟨k, x, hk, hx, rfl, rfl, hc⟩ := hrel
    by_cases hlt : k < s.size
    · have hb0 := xor_u8 (x % 256) s[k].toNat (by omega) s[k].toNat_lt
      have hq : (x % 256) ^^^ s[k].toNat < 256 := Nat.xor_lt_two_pow (n := 8) (show x % 256 < 2 ^ 8 by omega) s[k].toNat_lt
      have hn : Hid (crcB x s[k] = (x / 256) ^^^ stepN 8 ((x % 256) ^^^ s[k].toNat)) := crcB_table x s[k]
      have hT := Lib.hid (crc_take s k hlt)
      generalize (x % 256) ^^^ s[k].toNat = q at hb0 hq hn
      have ht := tab_cell q hq
      have hs8 : stepN 8 q < 65536 := stepN_lt 8 (by omega)
      have hb1 := xor_u16 (x / 256) (stepN 8 q) (by omega) hs8
      have hn1 : (x / 256) ^^^ stepN 8 q < 65536 := xor_lt16 (by omega) hs8
      have hn2 : Hid ((x / 256) ^^^ stepN 8 q = crcL 65535 (s.data.toList.take (k + 1))) := by
        show _ = _
        rw [hT.out, ← hc.out, hn.out]
      clear hn hT hc
      generalize (x / 256) ^^^ stepN 8 q = y at hb1 hn1 hn2
      generalize stepN 8 q = z at ht hs8 hb1
      have hb : Go.bits .xor .u8 ((x : Int) % 256) (s[k].toNat : Int) = (q : Int) := hb0
      have hb2 : Go.bits .xor .u16 ((x : Int) / 256) (z : Int) = (y : Int) := hb1
      clear hb0 hb1
      go_wp2_with fail
      go_round
      case rel => exact ⟨k + 1, y, by omega, hn1, by go_num, rfl, hn2⟩
      case measure => simp [intOf]; omega
    · have hks : s.data.toList.take k = s.data.toList := List.take_of_length_le (by simp; omega)
      have hv : Hid (wrap64 (Go.bits .xor .u16 IntKind.u16.max (x : Int)) = ((fcsL s.data.toList : Nat) : Int)) := by
        have h := hc.out
        rw [hks] at h
        have e := xor_u16 65535 x (by omega) hx
        have e2 : Go.bits .xor .u16 IntKind.u16.max (x : Int) = ((65535 ^^^ x : Nat) : Int) := e
        have e3 : fcsL s.data.toList = 65535 ^^^ x := by unfold fcsL; rw [← h, Nat.xor_comm]
        have e4 := fcsL_lt s.data.toList
        show _ = _
        rw [e2, e3]
        rw [e3] at e4
        unfold wrap64
        omega
      clear hc hks
      go_wp2_with fail
      go_ret
      refine ⟨?_, hB1.alloc hz1 _⟩
      rw [← hv.out]
      rfl
end Go.Proofs.YtnkjhlpdcffalaaDoor.H
