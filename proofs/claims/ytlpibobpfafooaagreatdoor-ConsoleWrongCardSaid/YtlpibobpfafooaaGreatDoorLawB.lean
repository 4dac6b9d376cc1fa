/-
  ConsoleBegins, walked.
-/
import Derived.Test.YtlpibobpfafooaaGreatDoorLawA
set_option linter.unusedVariables false
set_option linter.unusedSimpArgs false
namespace Go.Proofs.YtlpibobpfafooaaGreatDoor.H
open Go.RowKit Go.Proofs.Wy Go.Proofs.YtlpibobpfafooaaGreatDoorW.PrintWords Go.Proofs

theorem cutAt_ne (c : UInt8) (x : List UInt8) : cutAt c x ≠ [] := by
  cases x with
  | nil => simp [cutAt]
  | cons a x => unfold cutAt; split <;> (try split) <;> simp
theorem cutAt_app (c : UInt8) (y : List UInt8) : ∀ x : List UInt8, cutAt c (x ++ c :: y) = cutAt c x ++ cutAt c y
  | [] => by
    show cutAt c (c :: y) = [[]] ++ cutAt c y
    rw [cutAt, if_pos rfl]
    rfl
  | b :: x => by
    have ih := cutAt_app c y x
    rw [List.cons_append, cutAt, ih]
    conv => rhs; rw [cutAt]
    split
    · rfl
    · cases hx : cutAt c x with
      | nil => exact absurd hx (cutAt_ne c x)
      | cons p ps => rfl
theorem tells_empty : tellsL [] = [] := by decide
/-- What lines one behind the other tell. -/
def outL (l : List UInt8) : List UInt8 := (cutAt 10 l).flatMap tellsL
theorem outL_app (x y : List UInt8) : outL (x ++ 10 :: y) = outL x ++ outL y := by unfold outL; rw [cutAt_app, List.flatMap_append]
theorem outL_nil : outL [] = [] := by decide
theorem runL_out {l : List UInt8} (h : l.length ≤ 65536) : runL l = (outL l, 0) := by unfold runL outL; rw [if_neg (by omega)]
theorem runL_long {l : List UInt8} (h : 65536 < l.length) : runL l = ([], 2801) := by unfold runL; rw [if_pos h]
theorem outL_len (l : List UInt8) (h : l.length ≤ 65536) : (outL l).length ≤ 27000000000 := by
  obtain ⟨h1, h2⟩ := cutAt_sizes 10 l
  have h3 := outs_len (cutAt 10 l) (fun p hp => by have := h2 p hp; omega) (cutAt 10 l).length
  rw [List.take_length] at h3
  unfold outL
  omega
set_option maxHeartbeats 2000000 in
theorem begins_any (F R : ByteArray) (w : World) (hF : F.size ≤ 140737488351232) (hR : R.size ≤ 140737488351232) (hT : TabW w) :
    Calls Tryz.prog 6 #[.string F, .string R] w fun e w' => e = .returned (.bool true) ∧ Below w.heap.size w w' := by
  have h1 : ∀ w0, (Op.stringOp .add F ⟨#[10]⟩).run Tryz.prog w0 = .ok (.string (F ++ ⟨#[10]⟩)) w0 := fun w0 => run_string_add_sum w0 _ _ (by have z3 : (⟨#[10]⟩ : ByteArray).size = 1 := rfl; omega)
  have hA : (F ++ ⟨#[10]⟩).data.toList = F.data.toList ++ [10] := by rw [ByteArray.data_append, Array.toList_append]
  have hAs : (F ++ ⟨#[10]⟩).size = F.size + 1 := by rw [ByteArray.size_append]; rfl
  generalize (F ++ ⟨#[10]⟩) = A at h1 hA hAs
  have h2 : ∀ w0, (Op.stringOp .add A R).run Tryz.prog w0 = .ok (.string (A ++ R)) w0 := fun w0 => run_string_add_sum w0 _ _ (by omega)
  have hB : (A ++ R).data.toList = F.data.toList ++ 10 :: R.data.toList := by rw [ByteArray.data_append, Array.toList_append, hA]; simp
  have hBs : (A ++ R).size = A.size + R.size := ByteArray.size_append
  generalize (A ++ R) = B at h2 hB hBs
  have lA : A.data.toList.length = A.size := Array.length_toList
  have lB : B.data.toList.length = B.size := Array.length_toList
  have hl : (F.data.toList ++ 10 :: R.data.toList).length = B.size := by rw [← hB]; exact lB
  have HT := Lib.hid hT
  have HAw := Lib.hid (awake_any w hT)
  clear hT
  by_cases hbig : 65536 < B.size
  · obtain ⟨o, n, hr⟩ : ∃ o n, runL A.data.toList = (o, n) := ⟨_, _, rfl⟩
    have hR1 := Lib.hid (fun w0 hT0 => run_said A A.data.toList o n w0 rfl hr hT0)
    have hR2 := Lib.hid (fun w0 hT0 => run_said B B.data.toList [] 2801 w0 rfl (runL_long (by omega)) hT0)
    have z1 : (65536 : Int) < (B.size : Int) := by omega
    have z2 : (2801 : Int) ≠ 0 := by decide
    generalize (⟨o.toArray⟩ : ByteArray) = X at hR1
    clear hA hB lA lB hl hF hR hAs hBs hbig hr
    go_enter Tryz.func6, Tryz.ntmps6
    go_wp2_with fail
    ((with_reducible refine HAw.out.mono ?_); rintro e w1 ⟨rfl, hb1⟩)
    have HB1 := Lib.hid hb1
    clear hb1
    go_wp2_with fail
    ((with_reducible refine (hR1.out _ (HT.out.later HB1.out)).mono ?_); rintro e w2 ⟨rfl, hb2⟩)
    have HB2 := Lib.hid (HB1.out.trans (hb2.mono HB1.out.size))
    clear hb2
    go_wp2_with fail
    ((with_reducible refine (hR2.out _ (HT.out.later HB2.out)).mono ?_); rintro e w3 ⟨rfl, hb3⟩)
    have HB3 := Lib.hid (HB2.out.trans (hb3.mono HB2.out.size))
    clear hb3
    go_wp2_with fail
    ((with_reducible refine (num_any _ _).mono ?_); rintro e w4 ⟨rfl, rfl⟩)
    go_wp2_with fail
    ((with_reducible refine (num_any _ _).mono ?_); rintro e w4 ⟨rfl, rfl⟩)
    go_wp2_with fail
    go_ret
    exact ⟨rfl, HB3.out⟩
  · have hs : A.data.toList.length ≤ 65536 := by omega
    have eA : runL A.data.toList = (outL F.data.toList, 0) := by rw [runL_out hs, hA, show F.data.toList ++ [10] = F.data.toList ++ 10 :: [] from rfl, outL_app, outL_nil, List.append_nil]
    have eB : runL B.data.toList = (outL F.data.toList ++ outL R.data.toList, 0) := by rw [runL_out (by omega), hB, outL_app]
    have b1 := outL_len F.data.toList (by have := congrArg List.length hA; rw [List.length_append] at this; omega)
    have b2 := outL_len R.data.toList (by simp only [List.length_append, List.length_cons] at hl; omega)
    have hR1 := Lib.hid (fun w0 hT0 => run_said A A.data.toList _ _ w0 rfl eA hT0)
    have hR2 := Lib.hid (fun w0 hT0 => run_said B B.data.toList _ _ w0 rfl eB hT0)
    have s1 := size_lit (outL F.data.toList)
    have s2 := size_lit (outL F.data.toList ++ outL R.data.toList)
    rw [List.length_append] at s2
    have hx : (⟨(outL F.data.toList ++ outL R.data.toList).toArray⟩ : ByteArray).extract 0 (outL F.data.toList).length = ⟨(outL F.data.toList).toArray⟩ := by
      apply ByteArray.ext
      rw [ByteArray.data_extract]
      apply Array.toList_inj.1
      simp
    rw [← s1] at hx
    generalize (⟨(outL F.data.toList ++ outL R.data.toList).toArray⟩ : ByteArray) = Y at hR2 s2 hx
    generalize (⟨(outL F.data.toList).toArray⟩ : ByteArray) = X at hR1 s1 hx
    have z1 : (X.size : Int) ≤ (Y.size : Int) := by omega
    clear hA hB lA lB hl hF hR hAs hBs hbig hs eA eB b1 b2 s1 s2
    go_enter Tryz.func6, Tryz.ntmps6
    go_wp2_with fail
    ((with_reducible refine HAw.out.mono ?_); rintro e w1 ⟨rfl, hb1⟩)
    have HB1 := Lib.hid hb1
    clear hb1
    go_wp2_with fail
    ((with_reducible refine (hR1.out _ (HT.out.later HB1.out)).mono ?_); rintro e w2 ⟨rfl, hb2⟩)
    have HB2 := Lib.hid (HB1.out.trans (hb2.mono HB1.out.size))
    clear hb2
    go_wp2_with fail
    ((with_reducible refine (hR2.out _ (HT.out.later HB2.out)).mono ?_); rintro e w3 ⟨rfl, hb3⟩)
    have HB3 := Lib.hid (HB2.out.trans (hb3.mono HB2.out.size))
    clear hb3
    go_wp2_with fail
    ((with_reducible refine (num_any _ _).mono ?_); rintro e w4 ⟨rfl, rfl⟩)
    go_wp2_with fail
    ((with_reducible refine (num_any _ _).mono ?_); rintro e w4 ⟨rfl, rfl⟩)
    go_wp2_with fail
    go_ret
    exact ⟨rfl, HB3.out⟩
end Go.Proofs.YtlpibobpfafooaaGreatDoor.H
