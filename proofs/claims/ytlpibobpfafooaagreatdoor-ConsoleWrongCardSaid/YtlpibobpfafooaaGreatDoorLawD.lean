/-
  ConsoleBlanks, walked.
-/
import Derived.Test.YtlpibobpfafooaaGreatDoorLawC
import Derived.Test.YtlpibobpfafooaaGreatDoorPurD
set_option linter.unusedVariables false
set_option linter.unusedSimpArgs false
namespace Go.Proofs.YtlpibobpfafooaaGreatDoor.H
open Go.RowKit Go.Proofs.Wy Go.Proofs.YtlpibobpfafooaaGreatDoorW.PrintWords Go.Proofs

theorem i64_id (x : Int) (h0 : -9223372036854775808 ≤ x) (h1 : x ≤ 9223372036854775807) : IntKind.i64.wrap x = x := by
  have h : IntKind.i64.wrap x = (x + 9223372036854775808) % 18446744073709551616 - 9223372036854775808 := by
    simp [IntKind.wrap, IntKind.bits, IntKind.signed]
    omega
  rw [h]
  omega
theorem and_mask (x : Int) (i : Nat) (hi : i ≤ 62) : Go.bits .and .i64 x ((2 ^ i - 1 : Nat) : Int) = x % ((2 ^ i : Nat) : Int) := by
  have hpos : 0 < 2 ^ i := Nat.two_pow_pos i
  have hle : 2 ^ i ≤ 2 ^ 62 := Nat.pow_le_pow_right (by decide) hi
  have hb : IntKind.i64.bits = 64 := rfl
  have hd : (2 : Nat) ^ 64 = 2 ^ i * 2 ^ (64 - i) := by rw [← Nat.pow_add]; congr 1; omega
  have h3 : (2 ^ i - 1) % 2 ^ 64 = 2 ^ i - 1 := Nat.mod_eq_of_lt (by omega)
  have e : (BitVec.ofInt 64 x &&& BitVec.ofInt 64 ((2 ^ i - 1 : Nat) : Int)).toNat = (x % ((2 ^ i : Nat) : Int)).toNat := by
    rw [BitVec.toNat_and, BitVec.ofInt_natCast, BitVec.toNat_ofNat, h3, Nat.and_two_pow_sub_one_eq_mod, BitVec.toNat_ofInt]
    have h4 : (x % ((2 ^ 64 : Nat) : Int)) % ((2 ^ i : Nat) : Int) = x % ((2 ^ i : Nat) : Int) := Int.emod_emod_of_dvd x ⟨((2 ^ (64 - i) : Nat) : Int), by rw [hd]; push_cast; rfl⟩
    have h5 : 0 ≤ x % ((2 ^ 64 : Nat) : Int) := Int.emod_nonneg _ (by decide)
    rw [← h4]
    generalize x % ((2 ^ 64 : Nat) : Int) = y at h5
    obtain ⟨n, rfl⟩ := Int.eq_ofNat_of_zero_le h5
    rw [Int.toNat_natCast, ← Int.natCast_emod, Int.toNat_natCast]
  have h6 := Int.emod_nonneg x (show ((2 ^ i : Nat) : Int) ≠ 0 by omega)
  have h7 := Int.emod_lt_of_pos x (show (0 : Int) < ((2 ^ i : Nat) : Int) by omega)
  show IntKind.i64.wrap ((BitVec.ofInt 64 x &&& BitVec.ofInt 64 ((2 ^ i - 1 : Nat) : Int)).toNat : Int) = _
  rw [e, Int.toNat_of_nonneg h6]
  exact i64_id _ (by omega) (by omega)
theorem and_15i (x : Int) : Go.bits .and .i64 x 15 = x % 16 := and_mask x 4 (by decide)
theorem and_3i (x : Int) : Go.bits .and .i64 x 3 = x % 4 := and_mask x 2 (by decide)

def blankL : List (List UInt8) := [[32], [9], [32, 32], [32, 9, 32]]
def blankS (b x : List UInt8) : List UInt8 := [35, 32, 99, 10, 10] ++ b ++ [102, 115, 109] ++ b ++ x ++ b ++ x ++ [10] ++ b ++ [10, 109, 100, 53, 32, 45, 10]
def plainS (x : List UInt8) : List UInt8 := [102, 115, 109, 32] ++ x ++ [32] ++ x ++ [10, 109, 100, 53, 32, 45]
set_option maxRecDepth 100000 in
theorem blanks_out : ∀ d : Fin 16, ∀ b ∈ blankL, (outL (blankS b (itoaL (d.val : Int))) = outL (plainS (itoaL (d.val : Int))) ∧ 33 < (outL (plainS (itoaL (d.val : Int)))).length) ∧ (blankS b (itoaL (d.val : Int))).length ≤ 100 ∧ (plainS (itoaL (d.val : Int))).length ≤ 100 ∧ (itoaL (d.val : Int)).length ≤ 2 ∧ b.length ≤ 3 := by decide +kernel
set_option maxHeartbeats 4000000 in
theorem blanks_any (v k : Int) (w : World) (hv0 : (Lit.int .i64 v).wf = true) (hk0 : (Lit.int .i64 k).wf = true) (hT : TabW w) :
    Calls Tryz.prog 8 #[.int .i64 v, .int .i64 k] w fun e w' => e = .returned (.bool true) ∧ Below w.heap.size w w' := by
  obtain ⟨d, hd, hd16⟩ : ∃ d : Nat, v % 16 = (d : Int) ∧ d < 16 := ⟨(v % 16).toNat, by omega, by omega⟩
  obtain ⟨j, hj, hj4⟩ : ∃ j : Nat, k % 4 = (j : Int) ∧ j < 4 := ⟨(k % 4).toNat, by omega, by omega⟩
  have hv := (and_15i v).trans hd
  have hk := (and_3i k).trans hj
  obtain ⟨b, hb⟩ : ∃ b, blankL[j]? = some b := ⟨_, List.getElem?_eq_getElem (show j < blankL.length from hj4)⟩
  obtain ⟨⟨ho, ho33⟩, hl1, hl2, hl3, hl4⟩ := blanks_out ⟨d, hd16⟩ b (List.mem_of_getElem? hb)
  dsimp only at ho ho33 hl1 hl2 hl3
  have hcells : ∀ w0 : World, (w0.alloc (.cells #[.string ⟨#[32]⟩, .string ⟨#[9]⟩, .string ⟨#[32, 32]⟩, .string ⟨#[32, 9, 32]⟩] 9)).cell? ⟨w0.heap.size, j, none⟩ = some (.string ⟨b.toArray⟩) := fun w0 =>
    (blk_cell (blk_new w0 _) j).trans (by
      show ((blankL.map fun x => Value.string ⟨x.toArray⟩).toArray)[j]? = _
      rw [List.getElem?_toArray, List.getElem?_map, hb]
      rfl)
  have HD := Lib.hid (fun w0 => SpR.dec_any (d : Int) w0 (by omega) (by omega))
  generalize itoaL (d : Int) = x at ho ho33 hl1 hl2 hl3 HD
  have zj : (j : Int) < 4 := by omega
  have a1 := add_said [35, 32, 99, 10, 10] b (by simp; omega)
  have a2 := add_said ([35, 32, 99, 10, 10] ++ b) [102, 115, 109] (by simp; omega)
  have a3 := add_said ([35, 32, 99, 10, 10] ++ b ++ [102, 115, 109]) b (by simp; omega)
  have a4 := add_said ([35, 32, 99, 10, 10] ++ b ++ [102, 115, 109] ++ b) x (by simp; omega)
  have a5 := add_said ([35, 32, 99, 10, 10] ++ b ++ [102, 115, 109] ++ b ++ x) b (by simp; omega)
  have a6 := add_said ([35, 32, 99, 10, 10] ++ b ++ [102, 115, 109] ++ b ++ x ++ b) x (by simp; omega)
  have a7 := add_said ([35, 32, 99, 10, 10] ++ b ++ [102, 115, 109] ++ b ++ x ++ b ++ x) [10] (by simp; omega)
  have a8 := add_said ([35, 32, 99, 10, 10] ++ b ++ [102, 115, 109] ++ b ++ x ++ b ++ x ++ [10]) b (by simp; omega)
  have a9 := add_said ([35, 32, 99, 10, 10] ++ b ++ [102, 115, 109] ++ b ++ x ++ b ++ x ++ [10] ++ b) [10, 109, 100, 53, 32, 45, 10] (by simp; omega)
  have p1 := add_said [102, 115, 109, 32] x (by simp; omega)
  have p2 := add_said ([102, 115, 109, 32] ++ x) [32] (by simp; omega)
  have p3 := add_said ([102, 115, 109, 32] ++ x ++ [32]) x (by simp; omega)
  have p4 := add_said ([102, 115, 109, 32] ++ x ++ [32] ++ x) [10, 109, 100, 53, 32, 45] (by simp; omega)
  have R1 := Lib.hid (fun w0 hT0 => run_said ⟨(blankS b x).toArray⟩ (blankS b x) (outL (plainS x)) 0 w0 rfl ((runL_out (by omega)).trans (by rw [ho])) hT0)
  have R2 := Lib.hid (fun w0 hT0 => run_said ⟨(plainS x).toArray⟩ (plainS x) (outL (plainS x)) 0 w0 rfl (runL_out (by omega)) hT0)
  unfold blankS at R1
  unfold plainS at R1 R2
  have hos := size_lit (outL ([102, 115, 109, 32] ++ x ++ [32] ++ x ++ [10, 109, 100, 53, 32, 45]))
  unfold plainS at ho33
  generalize (⟨([35, 32, 99, 10, 10] ++ b ++ [102, 115, 109] ++ b ++ x ++ b ++ x ++ [10] ++ b ++ [10, 109, 100, 53, 32, 45, 10]).toArray⟩ : ByteArray) = A9 at a9 R1
  generalize (⟨([35, 32, 99, 10, 10] ++ b ++ [102, 115, 109] ++ b ++ x ++ b ++ x ++ [10] ++ b).toArray⟩ : ByteArray) = A8 at a8 a9
  generalize (⟨([35, 32, 99, 10, 10] ++ b ++ [102, 115, 109] ++ b ++ x ++ b ++ x ++ [10]).toArray⟩ : ByteArray) = A7 at a7 a8
  generalize (⟨([35, 32, 99, 10, 10] ++ b ++ [102, 115, 109] ++ b ++ x ++ b ++ x).toArray⟩ : ByteArray) = A6 at a6 a7
  generalize (⟨([35, 32, 99, 10, 10] ++ b ++ [102, 115, 109] ++ b ++ x ++ b).toArray⟩ : ByteArray) = A5 at a5 a6
  generalize (⟨([35, 32, 99, 10, 10] ++ b ++ [102, 115, 109] ++ b ++ x).toArray⟩ : ByteArray) = A4 at a4 a5
  generalize (⟨([35, 32, 99, 10, 10] ++ b ++ [102, 115, 109] ++ b).toArray⟩ : ByteArray) = A3 at a3 a4
  generalize (⟨([35, 32, 99, 10, 10] ++ b ++ [102, 115, 109]).toArray⟩ : ByteArray) = A2 at a2 a3
  generalize (⟨([35, 32, 99, 10, 10] ++ b).toArray⟩ : ByteArray) = A1 at a1 a2
  generalize (⟨(outL ([102, 115, 109, 32] ++ x ++ [32] ++ x ++ [10, 109, 100, 53, 32, 45])).toArray⟩ : ByteArray) = O at R1 R2 hos
  generalize (⟨([102, 115, 109, 32] ++ x ++ [32] ++ x ++ [10, 109, 100, 53, 32, 45]).toArray⟩ : ByteArray) = P4 at p4 R2
  generalize (⟨([102, 115, 109, 32] ++ x ++ [32] ++ x).toArray⟩ : ByteArray) = P3 at p3 p4
  generalize (⟨([102, 115, 109, 32] ++ x ++ [32]).toArray⟩ : ByteArray) = P2 at p2 p3
  generalize (⟨([102, 115, 109, 32] ++ x).toArray⟩ : ByteArray) = P1 at p1 p2
  generalize (⟨x.toArray⟩ : ByteArray) = xb at a4 a6 p1 p3 HD
  generalize (⟨b.toArray⟩ : ByteArray) = bb at hcells a1 a3 a5 a8
  have zo : (33 : Int) < (O.size : Int) := by omega
  have HT := Lib.hid hT
  have HAw := Lib.hid (awake_any w hT)
  clear hT ho ho33 hl1 hl2 hl3 hl4 hos hb hj hd hd16 hj4 hv0 hk0
  go_enter Tryz.func8, Tryz.ntmps8
  go_wp2_with fail
  ((with_reducible refine HAw.out.mono ?_); rintro e w1 ⟨rfl, hb1⟩)
  have HB1 := Lib.hid hb1
  clear hb1
  go_wp2_with fail
  ((with_reducible refine (HD.out _).mono ?_); rintro e w2 ⟨rfl, hb2⟩)
  have HB2 := Lib.hid (HB1.out.trans (hb2.mono HB1.out.size))
  clear hb2
  have c1 := hcells w2
  go_wp2_with fail
  have HB3 := Lib.hid (HB2.out.alloc HB2.out.size (.cells #[.string ⟨#[32]⟩, .string ⟨#[9]⟩, .string ⟨#[32, 32]⟩, .string ⟨#[32, 9, 32]⟩] 9))
  clear hcells c1
  ((with_reducible refine (R1.out _ (HT.out.later HB3.out)).mono ?_); rintro e w3 ⟨rfl, hb3⟩)
  have HB4 := Lib.hid (HB3.out.trans (hb3.mono HB3.out.size))
  clear hb3
  go_wp2_with fail
  ((with_reducible refine (R2.out _ (HT.out.later HB4.out)).mono ?_); rintro e w4 ⟨rfl, hb4⟩)
  have HB5 := Lib.hid (HB4.out.trans (hb4.mono HB4.out.size))
  clear hb4
  go_wp2_with fail
  ((with_reducible refine (num_any _ _).mono ?_); rintro e w5 ⟨rfl, rfl⟩)
  go_wp2_with fail
  ((with_reducible refine (num_any _ _).mono ?_); rintro e w6 ⟨rfl, rfl⟩)
  go_wp2_with fail
  go_ret
  exact ⟨rfl, HB5.out⟩
end Go.Proofs.YtlpibobpfafooaaGreatDoor.H
