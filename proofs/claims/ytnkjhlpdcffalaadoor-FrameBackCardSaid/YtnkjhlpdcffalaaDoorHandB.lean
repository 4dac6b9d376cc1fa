/-
  The contract of stuff's Get at this seat.
-/
import Derived.Test.YtnkjhlpdcffalaaDoorHandA
import Derived.Lib.IndexLaws
namespace Go.Proofs.YtnkjhlpdcffalaaDoor.H
open Go.RowKit Go.Proofs.Wy

theorem idx_mem (l : List UInt8) (c : UInt8) : (c ∈ l → 0 ≤ Lib.indexByte l c) ∧ (c ∉ l → Lib.indexByte l c = -1) := by
  induction l with
  | nil => exact ⟨fun h => by simp at h, fun _ => rfl⟩
  | cons b r ih =>
    have hg := Lib.indexByte_ge r c
    constructor
    · intro h
      unfold Lib.indexByte
      split
      · omega
      · rename_i hb
        have hb' : ¬ b = c := by simpa using hb
        have hr : c ∈ r := by
          rcases List.mem_cons.1 h with h | h
          · exact absurd h.symm hb'
          · exact h
        have := ih.1 hr
        split
        · rename_i h2
          have h2' : Lib.indexByte r c = -1 := by simpa using h2
          omega
        · omega
    · intro h
      have hb : ¬ b = c := fun e => h (by simp [e])
      have hr := ih.2 (fun hm => h (List.mem_cons_of_mem _ hm))
      unfold Lib.indexByte
      rw [if_neg (by simpa using hb), hr]
      rfl
/-- Undoing from a place on. -/
def Un (s : ByteArray) (k : Nat) (acc : List UInt8) : Prop := unstuffGo s.data.toList = (unstuffGo (s.data.toList.drop k)).map fun t => acc ++ t
theorem Un.zero (s : ByteArray) : Un s 0 [] := by simp [Un]
theorem drop_at (s : ByteArray) (k : Nat) (h : k < s.size) : s.data.toList.drop k = s[k] :: s.data.toList.drop (k + 1) := by
  rw [List.drop_eq_getElem_cons (by simpa using h)]; rfl
theorem Un.plain {s : ByteArray} {k : Nat} {acc : List UInt8} (h : Un s k acc) (hk : k < s.size) (hc : ¬ s[k].toNat = 125) : Un s (k + 1) (acc ++ [s[k]]) := by
  unfold Un at h ⊢
  rw [h, drop_at s k hk, unstuffGo_plain _ _ hc, Option.map_map]
  congr 1
  funext t
  simp
theorem Un.marked {s : ByteArray} {k : Nat} {acc : List UInt8} (h : Un s k acc) (hk : k + 1 < s.size) (hc : s[k].toNat = 125) : Un s (k + 1 + 1) (acc ++ [s[k + 1] ^^^ 32]) := by
  unfold Un at h ⊢
  rw [h, drop_at s k (by omega), drop_at s (k + 1) hk, unstuffGo_mark _ _ _ hc, Option.map_map]
  congr 1
  funext t
  simp
theorem Un.done {s : ByteArray} {k : Nat} {acc : List UInt8} (h : Un s k acc) (hk : s.size ≤ k) : unstuffGo s.data.toList = some acc := by
  unfold Un at h
  rw [h, List.drop_of_length_le (by simpa using hk)]
  simp [unstuffGo]
theorem Un.ends {s : ByteArray} {k : Nat} {acc : List UInt8} (h : Un s k acc) (hk : k < s.size) (hc : s[k].toNat = 125) (hk2 : k + 1 = s.size) : unstuffGo s.data.toList = none := by
  unfold Un at h
  rw [h, drop_at s k hk, List.drop_of_length_le (by simp; omega), unstuffGo_end _ hc]
  rfl

set_option maxHeartbeats 1000000 in
set_option maxRecDepth 100000 in
theorem get_flag (s : ByteArray) (w : World) (hm : (126 : UInt8) ∈ s.data.toList) :
    Calls Tryd.prog 10 #[.string s] w fun e w' => e = .returned (.tuple #[.string ⟨#[]⟩, .int .i64 201]) ∧ Below w.heap.size w w' := by
  have h0 : 0 ≤ Lib.indexByte s.data.toList 126 := (idx_mem _ _).1 hm
  have b0 : decide (0 ≤ Lib.indexByte s.data.toList 126) = true := by simpa using h0
  clear h0 hm
  go_enter Tryd.func10, Tryd.ntmps10
  go_wp2_with fail
  ((with_reducible refine (Tryd.strings_IndexByte s 126 _).mono ?_); rintro e w1 ⟨rfl, rfl⟩)
  go_wp2
  go_ret2
  exact ⟨rfl, Below.refl _ _⟩

set_option maxHeartbeats 2000000 in
set_option maxRecDepth 100000 in
theorem get_any (s : ByteArray) (w : World) (hs : s.size ≤ 140737488355000) (hm : (126 : UInt8) ∉ s.data.toList) :
    Calls Tryd.prog 10 #[.string s] w fun e w' => e = .returned (.tuple #[.string ⟨(unstuffL s.data.toList).1.toArray⟩, .int .i64 (unstuffL s.data.toList).2]) ∧ Below w.heap.size w w' := by
  have HQ := Lib.hid (unstuffL_of s.data.toList hm)
  have b0 : decide (0 ≤ Lib.indexByte s.data.toList 126) = false := by rw [(idx_mem _ _).2 hm]; rfl
  clear hm
  go_enter Tryd.func10, Tryd.ntmps10
  go_wp2_with fail
  ((with_reducible refine (Tryd.strings_IndexByte s 126 _).mono ?_); rintro e w1 ⟨rfl, hw⟩; obtain rfl : w = w1 := hw.symm)
  clear hw
  go_wp2
  clear b0
  go_loopw [5] (fun v5 wr => ∃ (k : Nat) (acc : List UInt8), k ≤ s.size ∧ v5 = .int .i64 k ∧ acc.length ≤ k ∧ Hid (Un s k acc) ∧ Lib.IsBuilderF 50 5 w.heap.size w.heap.size (Lib.byteCells acc) wr ∧ Below w.heap.size w wr ∧ w.heap.size ≤ wr.heap.size) (fun v5 _ => s.size - (intOf v5).toNat)
  case atStart =>
    exact ⟨0, [], Nat.zero_le _, rfl, Nat.le_refl _, Un.zero s, Lib.IsBuilderF.of (Lib.fresh_isBuilder 50 5 w), (Below.refl _ w).alloc (Nat.le_refl _) _, by simp⟩
  case round =>
    obtain ⟨k, acc, hk, rfl, hl, HU, hI, hB, hz⟩ := hrel
    by_cases hlt : k < s.size
    · have hc := s[k].toNat_lt
      by_cases hm : s[k].toNat = 125
      · have b1 : ((s[k].toNat : Int) != 125) = false := by rw [hm]; rfl
        by_cases hk2 : k + 1 = s.size
        · have HQ2 := Lib.hid ((HQ.out).1 (HU.out.ends hlt hm hk2))
          have b2 : ((k : Int) + 1 == (s.size : Int)) = true := by rw [beq_iff_eq]; omega
          clear hm hk2
          go_wp2
          go_ret2
          exact ⟨by rw [HQ2.out]; rfl, hB⟩
        · have hlt2 : k + 1 < s.size := by omega
          have b2 : ((k : Int) + 1 == (s.size : Int)) = false := by rw [beq_eq_false_iff_ne]; omega
          have HU2 := Lib.hid (HU.out.marked hlt2 hm)
          have hx : Go.bits .xor .u8 (s[k + 1].toNat : Int) 32 = ((s[k + 1] ^^^ 32).toNat : Int) := xor_byte s[k + 1] 32
          have HX := Lib.hid hx; clear hx hm hk2
          go_wp2_with fail
          rw [HX.out]
          ((with_reducible refine (Tryd.Builder_WriteByte_k w.heap.size w.heap.size _ _ _ hI (by rw [Lib.byteCells_length]; omega) hz).mono ?_); rintro e w3 ⟨rfl, h3, b3, k3⟩)
          have hI3 : Lib.IsBuilderF 50 5 w.heap.size w.heap.size (Lib.byteCells (acc ++ [s[k + 1] ^^^ 32])) w3 := by
            rw [Lib.byteCells_append]
            exact Or.inr h3
          have HI3 := Lib.hid hI3
          have hB3 := hB.trans b3
          have hz3 : w.heap.size ≤ w3.heap.size := Nat.le_trans hz b3.size
          clear hI h3 b3 k3 hI3 hB hz
          go_wp2
          go_roundw
          case rel => exact ⟨k + 1 + 1, acc ++ [s[k + 1] ^^^ 32], by omega, by go_num, by simp; omega, HU2, HI3.out, hB3, hz3⟩
          case measure => simp [intOf]; omega
      · have b1 : ((s[k].toNat : Int) != 125) = true := by rw [bne_iff_ne]; omega
        have HU2 := Lib.hid (HU.out.plain hlt hm)
        clear hm
        go_wp2_with fail
        ((with_reducible refine (Tryd.Builder_WriteByte_k w.heap.size w.heap.size _ _ _ hI (by rw [Lib.byteCells_length]; omega) hz).mono ?_); rintro e w3 ⟨rfl, h3, b3, k3⟩)
        have hI3 : Lib.IsBuilderF 50 5 w.heap.size w.heap.size (Lib.byteCells (acc ++ [s[k]])) w3 := by
          rw [Lib.byteCells_append]
          exact Or.inr h3
        have HI3 := Lib.hid hI3
        have hB3 := hB.trans b3
        have hz3 : w.heap.size ≤ w3.heap.size := Nat.le_trans hz b3.size
        clear hI h3 b3 k3 hI3 hB hz
        go_wp2
        go_roundw
        case rel => exact ⟨k + 1, acc ++ [s[k]], by omega, by go_num, by simp; omega, HU2, HI3.out, hB3, hz3⟩
        case measure => simp [intOf]; omega
    · have HQ2 := Lib.hid ((HQ.out).2 _ (HU.out.done (by omega)))
      go_wp2_with fail
      ((with_reducible refine (Tryd.Builder_String_any_k w.heap.size w.heap.size _ _ hI hz).mono ?_); rintro e w1 ⟨rfl, _, b1, _⟩)
      go_wp2
      go_ret2
      exact ⟨by rw [HQ2.out]; rfl, hB.trans b1⟩
end Go.Proofs.YtnkjhlpdcffalaaDoor.H
