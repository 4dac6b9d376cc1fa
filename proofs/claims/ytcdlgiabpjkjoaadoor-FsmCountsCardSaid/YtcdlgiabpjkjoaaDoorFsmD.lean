/-
  fsm's Step by its table, inside the table, at this seat.
-/
import Derived.Test.YtcdlgiabpjkjoaaDoorFsmC
set_option linter.unusedVariables false
set_option linter.unusedSimpArgs false
namespace Go.Proofs.YtcdlgiabpjkjoaaDoor.H
open Go.RowKit Go.Proofs.YtcdlgiabpjkjoaaDoorW.PrintWords
theorem head_zero (c : ByteArray) (h : 0 < c.size) : c.data.toList.headD 0 = c[0] := by
  have h2 : 0 < c.data.toList.length := by simpa using h
  cases hl : c.data.toList with
  | nil => rw [hl] at h2; simp at h2
  | cons x r =>
    have : c[0] = c.data.toList[0] := rfl
    rw [this]
    simp [hl]
set_option maxHeartbeats 2000000 in
theorem tstep_dash (b : Nat) (s v : Nat) (hs : s < 10) (hv : v < 16) (c : ByteArray) (w : World) (hc : w.cell? ⟨b, v * 10 + s, none⟩ = some (.string c)) (hd : c.data.toList = [45]) :
    Calls Tryd.prog 17 #[.pointer (some ⟨b, 0, none⟩), .int .i64 s, .int .i64 v] w fun e w' => e = .returned (.tuple #[.int .i64 0, .slice none 0 0, .int .i64 1001]) ∧ w' = w := by
  have b1 : (c.toList == [45]) = true := by rw [Lib.toList_data, hd]; rfl
  clear hd
  go_enter Tryd.func17, Tryd.ntmps17
  go_wp2_with fail
  go_ret3
  exact ⟨rfl, rfl⟩
set_option maxHeartbeats 2000000 in
theorem tstep_plain (b : Nat) (s v : Nat) (hs : s < 10) (hv : v < 16) (c : ByteArray) (w : World) (hc : w.cell? ⟨b, v * 10 + s, none⟩ = some (.string c)) (hsz : c.size < 4294967281) (h0 : 0 < c.size)
    (hd : ¬ c.data.toList = [45]) (hi : Lib.indexByte c.data.toList 47 < 0) (h48 : 48 ≤ c[0].toNat) :
    Calls Tryd.prog 17 #[.pointer (some ⟨b, 0, none⟩), .int .i64 s, .int .i64 v] w fun e w' => e = .returned (.tuple #[.int .i64 ((c[0].toNat : Int) - 48), .slice none 0 0, .int .i64 0]) ∧ ∃ n, w' = w.drewN n := by
  have b1 : (c.toList == [45]) = false := by rw [Lib.toList_data, beq_eq_false_iff_ne]; exact hd
  have HC := scut_one c 47 w hsz
  rw [if_pos hi] at HC
  have HC := Lib.hid HC
  have h256 := c[0].toNat_lt
  clear hd hi
  go_enter Tryd.func17, Tryd.ntmps17
  go_wp2_with fail
  ((with_reducible refine (HC.out).mono ?_); rintro e w1 ⟨n, rfl, rfl⟩)
  go_wp2_with fail
  go_ret3
  exact ⟨rfl, n, rfl⟩
end Go.Proofs.YtcdlgiabpjkjoaaDoor.H
