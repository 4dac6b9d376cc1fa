/-
  Contracts at this seat: strings.Split and strings.Cut at one byte, fsm's table and names.
-/
import Derived.Test.YtlpibobpfafooaaGreatDoorShelf
import Derived.Test.YtlpibobpfafooaaGreatDoorWUse
import Derived.WalkKit
import Derived.BigCall
import Derived.Lib.Hide
import Derived.Shelf.Strings.SplitCore
import Derived.Shelf.Strings.Count
import Derived.Lib.SplitLaws
import Derived.Laws.IdiomStrings
import Derived.Deep.QuietTactic
import Derived.BigQuiet
import Derived.BigRegion
set_option linter.unusedVariables false
set_option linter.unusedSimpArgs false
namespace Go.Proofs.YtlpibobpfafooaaGreatDoor.H
open Go.RowKit Go.Proofs.YtlpibobpfafooaaGreatDoorW.PrintWords

theorem cut_one (s : ByteArray) (c : UInt8) (w : World) (hs : s.size < 4294967281) :
    Calls Tryz.prog 124 #[.string s, .string ⟨#[c]⟩] w fun e w' => ∃ n, w' = w.drewN n ∧
      e = .returned (.tuple (if Lib.indexByte s.data.toList c < 0 then #[.string s, .string ⟨#[]⟩, .bool false]
        else #[.string (s.extract 0 (Lib.indexByte s.data.toList c).toNat), .string (s.extract ((Lib.indexByte s.data.toList c).toNat + 1) s.size), .bool true])) := by
  have hge := Lib.indexByte_ge s.data.toList c
  by_cases h : Lib.indexByte s.data.toList c < 0
  · have hm : Lib.indexByte s.data.toList c = -1 := by omega
    rw [if_pos h]
    go_enter Tryz.func124, Tryz.ntmps124
    go_wp2_with fail
    ((with_reducible refine (Tryz.stringslite_Index_one _ _ _).mono ?_); rintro e w1 ⟨rfl, hw⟩; obtain rfl : w = w1 := hw.symm)
    rw [hm]
    go_wp2
    go_ret3
    exact ⟨0, rfl, rfl⟩
  · rw [if_neg h]
    obtain ⟨i, hi⟩ : ∃ i : Nat, Lib.indexByte s.data.toList c = i := ⟨(Lib.indexByte s.data.toList c).toNat, (Int.toNat_of_nonneg (by omega)).symm⟩
    have hlt : i < s.size := by
      have := (Lib.indexByte_some hi).1
      have h2 := (List.getElem?_eq_some_iff.1 this).1
      simpa using h2
    rw [hi]
    have c1 : (0 : Int) ≤ ↑i := by omega
    have c2 : (↑i : Int) ≤ ↑s.size := by omega
    have c3 : (0 : Int) ≤ ↑i + 1 := by omega
    have c4 : (↑i + 1 : Int) ≤ ↑s.size := by omega
    have i1 : IntKind.i64.wrap ((i : Int) + 1) = (i : Int) + 1 := IntWalk.i64_in _ (by omega)
    have mixed : Tryz.prog.follows Departure.mixedOrders = true := by kernel_rfl
    clear hge h
    go_enter Tryz.func124, Tryz.ntmps124
    go_wp2_with fail
    ((with_reducible refine (Tryz.stringslite_Index_one _ _ _).mono ?_); rintro e w1 ⟨rfl, hw⟩; obtain rfl : w = w1 := hw.symm)
    rw [hi]
    clear hi
    go_wp2
    go_region_o
    go_wp2
    go_ret3
    exact ⟨1, rfl, rfl⟩
theorem scut_one (s : ByteArray) (c : UInt8) (w : World) (hs : s.size < 4294967281) :
    Calls Tryz.prog 100 #[.string s, .string ⟨#[c]⟩] w fun e w' => ∃ n, w' = w.drewN n ∧
      e = .returned (.tuple (if Lib.indexByte s.data.toList c < 0 then #[.string s, .string ⟨#[]⟩, .bool false]
        else #[.string (s.extract 0 (Lib.indexByte s.data.toList c).toNat), .string (s.extract ((Lib.indexByte s.data.toList c).toNat + 1) s.size), .bool true])) := by
  have HC := Lib.hid (cut_one s c w hs)
  by_cases h : Lib.indexByte s.data.toList c < 0
  · rw [if_pos h] at HC ⊢
    go_enter Tryz.func100, Tryz.ntmps100
    go_wp2_with fail
    ((with_reducible refine (HC.out).mono ?_); rintro e w1 ⟨n, hw, rfl⟩)
    go_wp2
    go_ret3
    exact ⟨n, rfl, rfl⟩
  · rw [if_neg h] at HC ⊢
    go_enter Tryz.func100, Tryz.ntmps100
    go_wp2_with fail
    ((with_reducible refine (HC.out).mono ?_); rintro e w1 ⟨n, hw, rfl⟩)
    go_wp2
    go_ret3
    exact ⟨n, rfl, rfl⟩
end Go.Proofs.YtlpibobpfafooaaGreatDoor.H
