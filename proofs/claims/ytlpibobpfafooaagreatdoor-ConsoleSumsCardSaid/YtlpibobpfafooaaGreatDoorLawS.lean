/-
  ConsoleSums, walked.
-/
import Derived.Test.YtlpibobpfafooaaGreatDoorLinP
import Derived.Test.YtlpibobpfafooaaGreatDoorPurH
import Derived.Test.YtlpibobpfafooaaGreatDoorRefF
import Derived.Test.YtlpibobpfafooaaGreatDoorMdI
set_option linter.unusedVariables false
set_option linter.unusedSimpArgs false
namespace Go.Proofs.YtlpibobpfafooaaGreatDoor.H
open Go.RowKit Go.Proofs.Wy Go.Proofs.YtlpibobpfafooaaGreatDoorW.PrintWords Go.Proofs

/-- All that the walk of ConsoleSums asks of the strings that it makes. -/
structure SmW (D hb F M fx mx md : ByteArray) (n : Int) : Prop where
  a1 : ∀ w0, (Op.stringOp .add ⟨#[102, 99, 115, 32]⟩ hb).run Tryz.prog w0 = .ok (.string F) w0
  a2 : ∀ w0, (Op.stringOp .add ⟨#[109, 100, 53, 32]⟩ hb).run Tryz.prog w0 = .ok (.string M) w0
  hex : ∀ w0, Calls Tryz.prog 18 #[.string D] w0 fun e w' => e = .returned (.string hb) ∧ Below w0.heap.size w0 w'
  fcs : ∀ w0, Calls Tryz.prog 19 #[.string D] w0 fun e w' => e = .returned (.int .i64 n) ∧ Below w0.heap.size w0 w'
  dec : ∀ w0, Calls Tryz.prog 17 #[.int .i64 n] w0 fun e w' => e = .returned (.string fx) ∧ Below w0.heap.size w0 w'
  one1 : ∀ w0, TabW w0 → Calls Tryz.prog 13 #[.string F] w0 fun e w' => e = .returned (.string fx) ∧ Below w0.heap.size w0 w'
  md5 : ∀ w0, Calls Tryz.prog 20 #[.string D] w0 fun e w' => e = .returned (.string md) ∧ Below w0.heap.size w0 w'
  hexm : ∀ w0, Calls Tryz.prog 18 #[.string md] w0 fun e w' => e = .returned (.string mx) ∧ Below w0.heap.size w0 w'
  one2 : ∀ w0, TabW w0 → Calls Tryz.prog 13 #[.string M] w0 fun e w' => e = .returned (.string mx) ∧ Below w0.heap.size w0 w'
theorem sm_w (D : ByteArray) (hd : D.size ≤ 300) : ∃ hb F M fx mx md n, SmW D hb F M fx mx md n := by
  have hdl : D.data.toList.length = D.size := Array.length_toList
  have hhl := hexL_len D.data.toList
  have hlt := fcsL_lt D.data.toList
  have hil := itoaL_length ((fcsL D.data.toList : Nat) : Int)
  have hml := md5L_length D.data.toList
  have hmh := hexL_len (md5L D.data.toList)
  have r1 := run_fcs D.data.toList (by omega)
  have r2 := run_md5 D.data.toList (by omega)
  exact ⟨_, _, _, _, _, _, _,
    add_said [102, 99, 115, 32] (hexL D.data.toList) (by simp only [List.length_cons, List.length_nil]; omega),
    add_said [109, 100, 53, 32] (hexL D.data.toList) (by simp only [List.length_cons, List.length_nil]; omega),
    fun w0 => SpR.hexl_any D w0 (by omega),
    fun w0 => SpF.fcsr_any D w0 (by omega),
    fun w0 => SpR.dec_any _ w0 (by omega) (by omega),
    fun w0 hT0 => one_any _ _ (itoaL ((fcsL D.data.toList : Nat) : Int)) w0 rfl r1 (by omega) hT0,
    fun w0 => rmd5_any D w0 (by omega),
    fun w0 => SpR.hexl_any _ w0 (by rw [size_lit]; omega),
    fun w0 hT0 => one_any _ _ (hexL (md5L D.data.toList)) w0 rfl r2 (by omega) hT0⟩
set_option maxHeartbeats 4000000 in
theorem sums_any (s : ByteArray) (w : World) (hs : s.size ≤ 140737488351232) (hT : TabW w) :
    Calls Tryz.prog 9 #[.string s] w fun e w' => e = .returned (.bool true) ∧ Below w.heap.size w w' := by
  have HT := Lib.hid hT
  have HAw := Lib.hid (awake_any w hT)
  clear hT
  obtain ⟨D, hD, hDs⟩ : ∃ D : ByteArray, (if 300 < s.size then s.extract 0 300 else s) = D ∧ D.size ≤ 300 := by
    refine ⟨_, rfl, ?_⟩
    split
    · rw [ByteArray.size_extract]; omega
    · omega
  obtain ⟨hb, F, M, fx, mx, md, n, a1, a2, hex, fcs, dec, one1, md5, hexm, one2⟩ := sm_w D hDs
  have HH := Lib.hid hex
  have HF := Lib.hid fcs
  have HD := Lib.hid dec
  have O1 := Lib.hid one1
  have HM := Lib.hid md5
  have HX := Lib.hid hexm
  have O2 := Lib.hid one2
  clear hex fcs dec one1 md5 hexm one2 hDs
  by_cases h300 : 300 < s.size
  · have z1 : (300 : Int) < (s.size : Int) := by omega
    have z2 : (300 : Int) ≤ (s.size : Int) := by omega
    rw [if_pos h300] at hD
    clear h300 hs
    go_enter Tryz.func9, Tryz.ntmps9
    go_wp2_with fail
    ((with_reducible refine HAw.out.mono ?_); rintro e w1 ⟨rfl, hb1⟩)
    have HB1 := Lib.hid hb1
    clear hb1
    go_wp2_with fail
    ((with_reducible refine (HH.out _).mono ?_); rintro e w2 ⟨rfl, hb2⟩)
    have HB2 := Lib.hid (HB1.out.trans (hb2.mono HB1.out.size))
    clear hb2
    go_wp2_with fail
    ((with_reducible refine (O1.out _ (HT.out.later HB2.out)).mono ?_); rintro e w3 ⟨rfl, hb3⟩)
    have HB3 := Lib.hid (HB2.out.trans (hb3.mono HB2.out.size))
    clear hb3
    go_wp2_with fail
    ((with_reducible refine (HF.out _).mono ?_); rintro e w4 ⟨rfl, hb4⟩)
    have HB4 := Lib.hid (HB3.out.trans (hb4.mono HB3.out.size))
    clear hb4
    go_wp2_with fail
    ((with_reducible refine (HD.out _).mono ?_); rintro e w5 ⟨rfl, hb5⟩)
    have HB5 := Lib.hid (HB4.out.trans (hb5.mono HB4.out.size))
    clear hb5
    go_wp2_with fail
    ((with_reducible refine (HH.out _).mono ?_); rintro e w6 ⟨rfl, hb6⟩)
    have HB6 := Lib.hid (HB5.out.trans (hb6.mono HB5.out.size))
    clear hb6
    go_wp2_with fail
    ((with_reducible refine (O2.out _ (HT.out.later HB6.out)).mono ?_); rintro e w7 ⟨rfl, hb7⟩)
    have HB7 := Lib.hid (HB6.out.trans (hb7.mono HB6.out.size))
    clear hb7
    go_wp2_with fail
    ((with_reducible refine (HM.out _).mono ?_); rintro e w8 ⟨rfl, hb8⟩)
    have HB8 := Lib.hid (HB7.out.trans (hb8.mono HB7.out.size))
    clear hb8
    go_wp2_with fail
    ((with_reducible refine (HX.out _).mono ?_); rintro e w9 ⟨rfl, hb9⟩)
    have HB9 := Lib.hid (HB8.out.trans (hb9.mono HB8.out.size))
    clear hb9
    go_wp2_with fail
    go_ret
    exact ⟨rfl, HB9.out⟩
  · have z1 : ¬ (300 : Int) < (s.size : Int) := by omega
    rw [if_neg h300] at hD
    subst hD
    clear h300 hs
    go_enter Tryz.func9, Tryz.ntmps9
    go_wp2_with fail
    ((with_reducible refine HAw.out.mono ?_); rintro e w1 ⟨rfl, hb1⟩)
    have HB1 := Lib.hid hb1
    clear hb1
    go_wp2_with fail
    ((with_reducible refine (HH.out _).mono ?_); rintro e w2 ⟨rfl, hb2⟩)
    have HB2 := Lib.hid (HB1.out.trans (hb2.mono HB1.out.size))
    clear hb2
    go_wp2_with fail
    ((with_reducible refine (O1.out _ (HT.out.later HB2.out)).mono ?_); rintro e w3 ⟨rfl, hb3⟩)
    have HB3 := Lib.hid (HB2.out.trans (hb3.mono HB2.out.size))
    clear hb3
    go_wp2_with fail
    ((with_reducible refine (HF.out _).mono ?_); rintro e w4 ⟨rfl, hb4⟩)
    have HB4 := Lib.hid (HB3.out.trans (hb4.mono HB3.out.size))
    clear hb4
    go_wp2_with fail
    ((with_reducible refine (HD.out _).mono ?_); rintro e w5 ⟨rfl, hb5⟩)
    have HB5 := Lib.hid (HB4.out.trans (hb5.mono HB4.out.size))
    clear hb5
    go_wp2_with fail
    ((with_reducible refine (HH.out _).mono ?_); rintro e w6 ⟨rfl, hb6⟩)
    have HB6 := Lib.hid (HB5.out.trans (hb6.mono HB5.out.size))
    clear hb6
    go_wp2_with fail
    ((with_reducible refine (O2.out _ (HT.out.later HB6.out)).mono ?_); rintro e w7 ⟨rfl, hb7⟩)
    have HB7 := Lib.hid (HB6.out.trans (hb7.mono HB6.out.size))
    clear hb7
    go_wp2_with fail
    ((with_reducible refine (HM.out _).mono ?_); rintro e w8 ⟨rfl, hb8⟩)
    have HB8 := Lib.hid (HB7.out.trans (hb8.mono HB7.out.size))
    clear hb8
    go_wp2_with fail
    ((with_reducible refine (HX.out _).mono ?_); rintro e w9 ⟨rfl, hb9⟩)
    have HB9 := Lib.hid (HB8.out.trans (hb9.mono HB8.out.size))
    clear hb9
    go_wp2_with fail
    go_ret
    exact ⟨rfl, HB9.out⟩
end Go.Proofs.YtlpibobpfafooaaGreatDoor.H
