/- What the program's functions at this seat come to, each with its walk; written by a program of this repo. -/
import Derived.Test.YtlpibobpfafooaaGreatDoorPU0
import Derived.Test.YtlpibobpfafooaaGreatDoorPU1
namespace Go.Proofs.YtlpibobpfafooaaGreatDoor.PU
open Go.RowKit Go.Proofs.YtlpibobpfafooaaGreatDoorW.PrintWords Go.Proofs.YtlpibobpfafooaaGreatDoorW.PrintLast Go.Proofs.YtlpibobpfafooaaGreatDoorW.PrintMore
attribute [local go_sem] max2_int min2_int max_two min_two max_three min_three max_four min_four   -- for this text's walks alone
set_option linter.unusedVariables false
set_option linter.unusedSimpArgs false

/-! ### withylaw28_tells: function 16 -/
mutual
def withylaw28_tells.j0 : Nat → List ByteArray → Bool → Option (ByteArray × Bool)
  | 0, _, _ => none
  | k + 1, x4, x26 => if x26 = true then (some ((⟨#[]⟩ : ByteArray), false)) else (if 0 < (x4.length : Int) then (if (rdOf ByteArray.empty x4 0).toList = ([102, 115, 109] : List UInt8) then (withylaw28_tells.j1 k x4 (rdOf ByteArray.empty x4 0) ((rdOf ByteArray.empty x4 0).toList == ([102, 115, 109] : List UInt8))) else (if (rdOf ByteArray.empty x4 0).toList = ([100, 101, 108, 97, 121] : List UInt8) then (withylaw28_tells.j1 k x4 (rdOf ByteArray.empty x4 0) ((rdOf ByteArray.empty x4 0).toList == ([100, 101, 108, 97, 121] : List UInt8))) else (withylaw28_tells.j1 k x4 (rdOf ByteArray.empty x4 0) ((rdOf ByteArray.empty x4 0).toList == ([116, 97, 114, 103, 101, 116] : List UInt8))))) else (none))
def withylaw28_tells.j1 : Nat → List ByteArray → ByteArray → Bool → Option (ByteArray × Bool)
  | 0, _, _, _ => none
  | k + 1, x4, x29, x30 => if x30 = true then ((withylaw28_counted.f x4).bind fun t106 => (some (t106, true))) else (if x29.toList = ([102, 114, 97, 109, 101] : List UInt8) then (if (x4.length : Int) = 3 then (if 1 < (x4.length : Int) then ((withylaw28_decimal.f (rdOf ByteArray.empty x4 1)).bind fun bt108 => (if 2 < (x4.length : Int) then ((withylaw28_bytes.f (rdOf ByteArray.empty x4 2)).bind fun bt111 => (if bt108.2 = true then (withylaw28_tells.j2 k bt108.1 bt111.1 (!bt111.2)) else (withylaw28_tells.j2 k bt108.1 bt111.1 true))) else (none))) else (none)) else (some ((⟨#[101, 114, 114, 111, 114, 32, 50, 56, 48, 48]⟩ : ByteArray), true))) else (if (x4.length : Int) = 2 then (if 1 < (x4.length : Int) then ((withylaw28_bytes.f (rdOf ByteArray.empty x4 1)).bind fun bt118 => (if bt118.2 = true then (if 0 < (x4.length : Int) then (if (rdOf ByteArray.empty x4 0).toList = ([102, 99, 115] : List UInt8) then ((withyref1_Fcs.f bt118.1).bind fun t121 => ((withyref0_Decimal.f t121).bind fun t122 => (some (t122, true)))) else (if (rdOf ByteArray.empty x4 0).toList = ([109, 100, 53] : List UInt8) then ((withyref10_Md5.f bt118.1).bind fun t124 => ((withylaw28_hex.f t124).bind fun t125 => (some (t125, true)))) else (if (rdOf ByteArray.empty x4 0).toList = ([117, 110, 102, 114, 97, 109, 101] : List UInt8) then ((withyref1_Unframe.f bt118.1).bind fun bt127 => (if bt127.2.2 = 0 then ((withyref0_Decimal.f bt127.1).bind fun t131 => (if t131.size + 1 ≤ 9223372036854775807 then ((withylaw28_hex.f bt127.2.1).bind fun t132 => (if (t131 ++ (⟨#[32]⟩ : ByteArray)).size + t132.size ≤ 9223372036854775807 then (some ((t131 ++ (⟨#[32]⟩ : ByteArray)) ++ t132, true)) else (none))) else (none))) else ((withylaw28_wrong.f bt127.2.2).bind fun t133 => (some (t133, true))))) else (some ((⟨#[101, 114, 114, 111, 114, 32, 50, 56, 48, 48]⟩ : ByteArray), true))))) else (none)) else (some ((⟨#[101, 114, 114, 111, 114, 32, 50, 56, 48, 48]⟩ : ByteArray), true)))) else (none)) else (some ((⟨#[101, 114, 114, 111, 114, 32, 50, 56, 48, 48]⟩ : ByteArray), true))))
def withylaw28_tells.j2 : Nat → Int → ByteArray → Bool → Option (ByteArray × Bool)
  | 0, _, _, _ => none
  | k + 1, x5, x7, x60 => if x60 = true then (some ((⟨#[101, 114, 114, 111, 114, 32, 50, 56, 48, 48]⟩ : ByteArray), true)) else ((withyref1_Frame.f x5 x7 0).bind fun bt113 => (if bt113.2 = 0 then ((withylaw28_hex.f bt113.1).bind fun t115 => (some (t115, true))) else ((withylaw28_wrong.f bt113.2).bind fun t116 => (some (t116, true)))))
end
def withylaw28_tells.f (k : Nat) (a0 : ByteArray) : Option (ByteArray × Bool) := (withylaw28_words.f a0).bind fun t101 => (if (t101.length : Int) = 0 then (withylaw28_tells.j0 k t101 true) else (if 0 < (t101.length : Int) then (if 0 < ((rdOf ByteArray.empty t101 0).size : Int) then (withylaw28_tells.j0 k t101 ((bt (rdOf ByteArray.empty t101 0) 0) == 35)) else (none)) else (none)))
theorem withylaw28_tells.mono_l : ∀ k, (∀ y0 y1, LeO (withylaw28_tells.j0 k y0 y1) (withylaw28_tells.j0 (k + 1) y0 y1)) ∧ (∀ y0 y1 y2, LeO (withylaw28_tells.j1 k y0 y1 y2) (withylaw28_tells.j1 (k + 1) y0 y1 y2)) ∧ (∀ y0 y1 y2, LeO (withylaw28_tells.j2 k y0 y1 y2) (withylaw28_tells.j2 (k + 1) y0 y1 y2))
  | 0 => ⟨fun _ _ r h => by simp [withylaw28_tells.j0] at h, fun _ _ _ r h => by simp [withylaw28_tells.j1] at h, fun _ _ _ r h => by simp [withylaw28_tells.j2] at h⟩
  | k + 1 => by
    obtain ⟨ih0, ih1, ih2⟩ := withylaw28_tells.mono_l k
    refine ⟨?_, ?_, ?_⟩
    · intro y0 y1
      unfold withylaw28_tells.j0
      repeat' first
      | (with_reducible exact ih0 _ _)
      | (with_reducible exact ih1 _ _ _)
      | (with_reducible exact ih2 _ _ _)
      | (with_reducible exact LeO.refl _)
      | (with_reducible exact LeO.none _)
      | (with_reducible refine LeO.ite ?_ ?_)
      | (with_reducible refine LeO.bind ?_ (fun _ => ?_))
      | exact ih0 _ _
      | exact ih1 _ _ _
      | exact ih2 _ _ _
      | exact LeO.none _
      | refine LeO.ite ?_ ?_
      | refine LeO.bind ?_ (fun _ => ?_)
    · intro y0 y1 y2
      unfold withylaw28_tells.j1
      repeat' first
      | (with_reducible exact ih0 _ _)
      | (with_reducible exact ih1 _ _ _)
      | (with_reducible exact ih2 _ _ _)
      | (with_reducible exact LeO.refl _)
      | (with_reducible exact LeO.none _)
      | (with_reducible refine LeO.ite ?_ ?_)
      | (with_reducible refine LeO.bind ?_ (fun _ => ?_))
      | exact ih0 _ _
      | exact ih1 _ _ _
      | exact ih2 _ _ _
      | exact LeO.none _
      | refine LeO.ite ?_ ?_
      | refine LeO.bind ?_ (fun _ => ?_)
    · intro y0 y1 y2
      unfold withylaw28_tells.j2
      repeat' first
      | (with_reducible exact ih0 _ _)
      | (with_reducible exact ih1 _ _ _)
      | (with_reducible exact ih2 _ _ _)
      | (with_reducible exact LeO.refl _)
      | (with_reducible exact LeO.none _)
      | (with_reducible refine LeO.ite ?_ ?_)
      | (with_reducible refine LeO.bind ?_ (fun _ => ?_))
      | exact ih0 _ _
      | exact ih1 _ _ _
      | exact ih2 _ _ _
      | exact LeO.none _
      | refine LeO.ite ?_ ?_
      | refine LeO.bind ?_ (fun _ => ?_)
theorem withylaw28_tells.mono : ∀ a0 k, LeO (withylaw28_tells.f k a0) (withylaw28_tells.f (k + 1) a0) := by
  intro a0 k
  obtain ⟨ih0, ih1, ih2⟩ := withylaw28_tells.mono_l k
  unfold withylaw28_tells.f
  repeat' first
      | (with_reducible exact ih0 _ _)
      | (with_reducible exact ih1 _ _ _)
      | (with_reducible exact ih2 _ _ _)
      | (with_reducible exact LeO.refl _)
      | (with_reducible exact LeO.none _)
      | (with_reducible refine LeO.ite ?_ ?_)
      | (with_reducible refine LeO.bind ?_ (fun _ => ?_))
      | exact ih0 _ _
      | exact ih1 _ _ _
      | exact ih2 _ _ _
      | exact LeO.none _
      | refine LeO.ite ?_ ?_
      | refine LeO.bind ?_ (fun _ => ?_)
def withylaw28_tells.T33 : Bool × List (List Nat × List Nat) := (true, [([], []), ([0], [0]), ([1], [1]), ([2], [2]), ([], []), ([4], [4]), ([5, 2], [5]), ([3, 6], [3, 6]), ([7, 6, 0, 1, 2, 3, 4, 5, 6, 7], [7]), ([8, 0, 1, 2, 3, 4, 5, 6, 7, 8], [])])
def withylaw28_tells.B33 : List Nat := [0, 1, 3, 7, 0, 16, 55, 127, 255, 511]
theorem withylaw28_tells.tab33 : rtab .any (opsOf Tryz.f16 33) = withylaw28_tells.T33 := by kernel_rfl
theorem withylaw28_tells.bits33 : waitsOk withylaw28_tells.T33.2 withylaw28_tells.B33 = true := by kernel_rfl
set_option maxHeartbeats 8000000 in
set_option maxRecDepth 100000 in
theorem withylaw28_tells.calls (k : Nat) (a0 : ByteArray) (r1 : ByteArray) (r2 : Bool) (w : World) (h : withylaw28_tells.f k a0 = some (r1, r2)) :
    Calls Tryz.prog 16 #[.string a0] w fun e w' => e = .returned (.tuple #[.string r1, .bool r2]) ∧ Below w.heap.size w w' := by
  have hu69 := Tryz.underlying69
  have HB := Aside0.mk (Below.refl w.heap.size w)
  have H : ((withylaw28_words.f a0).bind fun t101 => (if (t101.length : Int) = 0 then (withylaw28_tells.j0 k t101 true) else (if 0 < (t101.length : Int) then (if 0 < ((rdOf ByteArray.empty t101 0).size : Int) then (withylaw28_tells.j0 k t101 ((bt (rdOf ByteArray.empty t101 0) 0) == 35)) else (none)) else (none)))) = some (r1, r2) := h
  clear h
  replace H := Option.bind_eq_some_iff.mp H
  obtain ⟨t101, A20, H⟩ := H
  replace H : (if (t101.length : Int) = 0 then (withylaw28_tells.j0 k t101 true) else (if 0 < (t101.length : Int) then (if 0 < ((rdOf ByteArray.empty t101 0).size : Int) then (withylaw28_tells.j0 k t101 ((bt (rdOf ByteArray.empty t101 0) 0) == 35)) else (none)) else (none))) = some (r1, r2) := H
  have A2 := Aside0.mk A20
  clear A20
  have HC3 := Aside0.mk H
  clear H
  go_enter Tryz.func16, Tryz.ntmps16
  go_upto_region 2 with (first | ((with_reducible refine gate_callee (f := 31) rfl ?_); refine goesL_ (some 16) rfl rfl Tryz.func31 (by kernel_rfl) rfl #[.string a0] rfl (by (try simp only [List.map_toArray, List.map_cons, List.map_nil]); first | done | rfl | (simp only [List.length_drop, List.length_take]; rfl)) ?_; (with_reducible refine (withylaw28_words.calls a0 t101 _ A2.out).mono ?_); rintro e w4 ⟨v102, rfl, ho0, hb⟩; refine ⟨_, rfl, ?_⟩; have n0_ := Aside0.mk (Kd.R_lower ho0 (below_size (by repeat (first | (with_reducible first | exact HB.out | apply below_alloc | apply pw_below_drewN | apply below_drew1) | exact HB.out)))); have n1_ := Aside0.mk (below_step (by repeat (first | (with_reducible first | exact HB.out | apply below_alloc | apply pw_below_drewN | apply below_drew1) | exact HB.out)) hb); clear HB; have HO103 := n0_; have HB := n1_; clear n0_ n1_; (try clear hb); (try clear hb2); (try clear hk); (try clear hi); (try clear ho0)))
  (try simp only [Act.put, List.setIfInBounds_toArray, List.set_cons_zero, List.set_cons_succ])
  go_cut [26] (fun v26 wc => ∃ (kq : Nat) (x26_2 : Bool), v26 = .bool x26_2 ∧ Aside0 (withylaw28_tells.j0 kq t101 x26_2 = some (r1, r2)) ∧ Aside0 (kq ≤ k) ∧ Aside0 (Kd.R Kd.string 9 wc w.heap.size (fun _ => True) v102 t101) ∧ Aside0 (Below w.heap.size w wc))
  case first =>
    have H := HC3.out
    clear HC3
    by_cases c5 : (t101.length : Int) = 0
    · rw [if_pos c5] at H
      have c5b0 : ((t101.length : Int) == 0) = true := beq_iff_eq.mpr c5
      have c5b1 : ((t101.length : Int) != 0) = false := bne_eq_false_iff_eq.mpr c5
      clear c5
      (first | rw [c5b0] | (simp only [i64_w, i32_w]; rw [c5b0]) | skip)
      have H' := Aside0.mk H
      clear H
      obtain ⟨Ao6, co6, eo6⟩ := Kd.R_slice HO103.out
      subst eo6
      go_wp2
      go_meet
      case rel => exact ⟨_, (true), (by first | rfl | (simp; done) | (simp [*]; done) | (refine congrArg Value.bool (Bool.eq_iff_iff.2 ?_); simp)), H', ⟨by first | omega | exact Nat.le_refl _⟩, ⟨by (with_reducible repeat (first | apply Kd.R_alloc | apply Kd.R_drewN | apply Kd.R_drew)); exact HO103.out⟩, ⟨by repeat (first | (with_reducible first | exact HB.out | apply below_alloc | apply pw_below_drewN | apply below_drew1) | exact HB.out)⟩⟩
    · rw [if_neg c5] at H
      have c5b0 : ((t101.length : Int) == 0) = false := beq_eq_false_iff_ne.mpr c5
      have c5b1 : ((t101.length : Int) != 0) = true := bne_iff_ne.mpr c5
      have c5b2 : ¬ (t101 = []) := fun h_ => c5 (by rw [h_]; rfl)
      (first | rw [c5b0] | (simp only [i64_w, i32_w]; rw [c5b0]) | skip)
      by_cases c7 : 0 < (t101.length : Int)
      · rw [if_pos c7] at H
        have c7b0 : decide (0 < (t101.length : Int)) = true := decide_eq_true c7
        have c7b1 : decide (0 < t101.length) = true := decide_eq_true (by omega)
        clear c7
        by_cases c8 : 0 < ((rdOf ByteArray.empty t101 0).size : Int)
        · rw [if_pos c8] at H
          have c8b0 : decide (0 < ((rdOf ByteArray.empty t101 0).size : Int)) = true := decide_eq_true c8
          have c8b1 : decide (0 < (rdOf ByteArray.empty t101 0).size) = true := decide_eq_true (by omega)
          clear c8
          have H' := Aside0.mk H
          clear H
          obtain ⟨Ao10, co10, eo10⟩ := Kd.R_slice HO103.out
          subst eo10
          have p104 : 0 ≤ (0 : Int) := (by omega)
          have q104 : 0 < (t101.length : Int) := of_decide_eq_true (by first | (with_reducible assumption) | assumption)
          obtain ⟨ad104, e104, hx104_0⟩ := Kd.at_string (Kd.R_reads' HO103.out).2.2 0 p104 q104
          cases e104
          have qi104 : (0 < t101.length) = True := eq_true (by omega)
          (try rw [show ((0 : Int)).toNat = 0 from rfl] at hx104_0)
          (try rw [Addr.add_zero'] at hx104_0)
          replace p104 := eq_true p104
          replace q104 := eq_true q104
          have p9 : 0 ≤ (0 : Int) := (by omega)
          have q9 : 0 < (rdOf ByteArray.empty t101 0).size := (by have : (0 : Int) < ((rdOf ByteArray.empty t101 0).size : Int) := of_decide_eq_true (by first | (with_reducible assumption) | assumption); omega)
          have hx9 : ∀ h : 0 < (rdOf ByteArray.empty t101 0).size, (((rdOf ByteArray.empty t101 0)[0]'h).toNat : Int) = bt (rdOf ByteArray.empty t101 0) 0 := bt_at (rdOf ByteArray.empty t101 0) 0
          clear p9
          have qi9 : (0 < ((rdOf ByteArray.empty t101 0).size : Int)) = True := eq_true (of_decide_eq_true (by first | (with_reducible assumption) | assumption))
          replace q9 := eq_true q9
          go_wp2
          go_meet
          case rel => exact ⟨_, (((bt (rdOf ByteArray.empty t101 0) 0) == 35)), (by first | rfl | (simp; done) | (simp [*]; done) | (refine congrArg Value.bool (Bool.eq_iff_iff.2 ?_); simp)), H', ⟨by first | omega | exact Nat.le_refl _⟩, ⟨by (with_reducible repeat (first | apply Kd.R_alloc | apply Kd.R_drewN | apply Kd.R_drew)); exact HO103.out⟩, ⟨by repeat (first | (with_reducible first | exact HB.out | apply below_alloc | apply pw_below_drewN | apply below_drew1) | exact HB.out)⟩⟩
        · rw [if_neg c8] at H
          exact absurd H (by simp)
      · rw [if_neg c7] at H
        exact absurd H (by simp)
  case rest =>
    clear HC3
    try clear c1
    try clear p1
    try clear q1
    try clear hx1
    try clear qi1
    try clear p2
    try clear c3
    try clear c5
    try clear c5b0
    try clear c5b1
    try clear c5b2
    try clear c7
    try clear c7b0
    try clear c7b1
    try clear c8
    try clear c8b0
    try clear c8b1
    try clear p9
    try clear q9
    try clear hx9
    try clear qi9
    try clear p10
    try clear q10
    try clear hx10
    try clear qi10
    try clear hx104_0
    try clear p104
    try clear p9
    try clear q104
    try clear q9
    obtain ⟨kq, x26_2, rfl, HA, HJ2, HO_4, HB⟩ := hcut
    cases kq with
    | zero => exact absurd HA.out (by simp [withylaw28_tells.j0])
    | succ kj2 =>
      have H := HA.out
      clear HA
      simp only [withylaw28_tells.j0] at H
      by_cases c11 : x26_2 = true
      · subst c11
        have H1 : (some ((⟨#[]⟩ : ByteArray), false)) = some (r1, r2) := by rw [if_pos rfl] at H; exact H
        clear H
        have H := H1
        clear H1
        simp only [Option.some.injEq, Prod.mk.injEq] at H
        obtain ⟨rfl, rfl⟩ := H
        go_wp2
        go_ret2
        exact ⟨by first | rfl | (simp [errW_none, errW_some] <;> rfl) | (simp [*, errW_none, errW_some] <;> rfl), by repeat (first | (with_reducible first | exact HB.out | apply below_alloc | apply pw_below_drewN | apply below_drew1) | exact HB.out)⟩
      · replace c11 := Bool.eq_false_iff.mpr c11
        subst c11
        have H1 : (if 0 < (t101.length : Int) then (if (rdOf ByteArray.empty t101 0).toList = ([102, 115, 109] : List UInt8) then (withylaw28_tells.j1 kj2 t101 (rdOf ByteArray.empty t101 0) ((rdOf ByteArray.empty t101 0).toList == ([102, 115, 109] : List UInt8))) else (if (rdOf ByteArray.empty t101 0).toList = ([100, 101, 108, 97, 121] : List UInt8) then (withylaw28_tells.j1 kj2 t101 (rdOf ByteArray.empty t101 0) ((rdOf ByteArray.empty t101 0).toList == ([100, 101, 108, 97, 121] : List UInt8))) else (withylaw28_tells.j1 kj2 t101 (rdOf ByteArray.empty t101 0) ((rdOf ByteArray.empty t101 0).toList == ([116, 97, 114, 103, 101, 116] : List UInt8))))) else (none)) = some (r1, r2) := by rw [if_neg (show ¬ (false = true) by decide)] at H; exact H
        clear H
        have H := H1
        clear H1
        by_cases c12 : 0 < (t101.length : Int)
        · rw [if_pos c12] at H
          have c12b0 : decide (0 < (t101.length : Int)) = true := decide_eq_true c12
          have c12b1 : decide (0 < t101.length) = true := decide_eq_true (by omega)
          clear c12
          have HC13 := Aside0.mk H
          clear H
          obtain ⟨Ao14, co14, eo14⟩ := Kd.R_slice HO_4.out
          subst eo14
          have p105 : 0 ≤ (0 : Int) := (by omega)
          have q105 : 0 < (t101.length : Int) := of_decide_eq_true (by first | (with_reducible assumption) | assumption)
          obtain ⟨ad105, e105, hx105_0⟩ := Kd.at_string (Kd.R_reads' HO_4.out).2.2 0 p105 q105
          cases e105
          have qi105 : (0 < t101.length) = True := eq_true (by omega)
          (try rw [show ((0 : Int)).toNat = 0 from rfl] at hx105_0)
          (try rw [Addr.add_zero'] at hx105_0)
          replace p105 := eq_true p105
          replace q105 := eq_true q105
          go_upto_if 30 with (fail)
          go_cut [30] (fun v30 wc => ∃ (kq : Nat) (x30_12 : Bool), v30 = .bool x30_12 ∧ Aside0 (withylaw28_tells.j1 kq t101 (rdOf ByteArray.empty t101 0) x30_12 = some (r1, r2)) ∧ Aside0 (kq ≤ kj2) ∧ Aside0 (Kd.R Kd.string 9 wc w.heap.size (fun _ => True) (.slice (some ad105) t101.length co14) t101) ∧ Aside0 (Below w.heap.size w wc))
          case first =>
            have H := HC13.out
            clear HC13
            by_cases c15 : (rdOf ByteArray.empty t101 0).toList = ([102, 115, 109] : List UInt8)
            · rw [if_pos c15] at H
              have c15b0 : ((rdOf ByteArray.empty t101 0).toList == ([102, 115, 109] : List UInt8)) = true := beq_iff_eq.mpr c15
              have c15b1 : ((rdOf ByteArray.empty t101 0).toList != ([102, 115, 109] : List UInt8)) = false := bne_eq_false_iff_eq.mpr c15
              clear c15
              (first | rw [c15b0] | (simp only [i64_w, i32_w]; rw [c15b0]) | skip)
              have H' := Aside0.mk H
              clear H
              go_wp2
              go_meet
              case rel => exact ⟨_, (((rdOf ByteArray.empty t101 0).toList == ([102, 115, 109] : List UInt8))), (by first | rfl | (simp; done) | (simp [*]; done) | (refine congrArg Value.bool (Bool.eq_iff_iff.2 ?_); simp)), H', ⟨by have := HJ2.out; first | omega | exact Nat.le_refl _⟩, ⟨by (with_reducible repeat (first | apply Kd.R_alloc | apply Kd.R_drewN | apply Kd.R_drew)); exact HO_4.out⟩, ⟨by repeat (first | (with_reducible first | exact HB.out | apply below_alloc | apply pw_below_drewN | apply below_drew1) | exact HB.out)⟩⟩
            · rw [if_neg c15] at H
              have c15b0 : ((rdOf ByteArray.empty t101 0).toList == ([102, 115, 109] : List UInt8)) = false := beq_eq_false_iff_ne.mpr c15
              have c15b1 : ((rdOf ByteArray.empty t101 0).toList != ([102, 115, 109] : List UInt8)) = true := bne_iff_ne.mpr c15
              (first | rw [c15b0] | (simp only [i64_w, i32_w]; rw [c15b0]) | skip)
              by_cases c16 : (rdOf ByteArray.empty t101 0).toList = ([100, 101, 108, 97, 121] : List UInt8)
              · rw [if_pos c16] at H
                have c16b0 : ((rdOf ByteArray.empty t101 0).toList == ([100, 101, 108, 97, 121] : List UInt8)) = true := beq_iff_eq.mpr c16
                have c16b1 : ((rdOf ByteArray.empty t101 0).toList != ([100, 101, 108, 97, 121] : List UInt8)) = false := bne_eq_false_iff_eq.mpr c16
                clear c16
                have H' := Aside0.mk H
                clear H
                go_wp2
                go_meet
                case rel => exact ⟨_, (((rdOf ByteArray.empty t101 0).toList == ([100, 101, 108, 97, 121] : List UInt8))), (by first | rfl | (simp; done) | (simp [*]; done) | (refine congrArg Value.bool (Bool.eq_iff_iff.2 ?_); simp)), H', ⟨by have := HJ2.out; first | omega | exact Nat.le_refl _⟩, ⟨by (with_reducible repeat (first | apply Kd.R_alloc | apply Kd.R_drewN | apply Kd.R_drew)); exact HO_4.out⟩, ⟨by repeat (first | (with_reducible first | exact HB.out | apply below_alloc | apply pw_below_drewN | apply below_drew1) | exact HB.out)⟩⟩
              · rw [if_neg c16] at H
                have c16b0 : ((rdOf ByteArray.empty t101 0).toList == ([100, 101, 108, 97, 121] : List UInt8)) = false := beq_eq_false_iff_ne.mpr c16
                have c16b1 : ((rdOf ByteArray.empty t101 0).toList != ([100, 101, 108, 97, 121] : List UInt8)) = true := bne_iff_ne.mpr c16
                have H' := Aside0.mk H
                clear H
                go_wp2
                go_meet
                case rel => exact ⟨_, (((rdOf ByteArray.empty t101 0).toList == ([116, 97, 114, 103, 101, 116] : List UInt8))), (by first | rfl | (simp; done) | (simp [*]; done) | (refine congrArg Value.bool (Bool.eq_iff_iff.2 ?_); simp)), H', ⟨by have := HJ2.out; first | omega | exact Nat.le_refl _⟩, ⟨by (with_reducible repeat (first | apply Kd.R_alloc | apply Kd.R_drewN | apply Kd.R_drew)); exact HO_4.out⟩, ⟨by repeat (first | (with_reducible first | exact HB.out | apply below_alloc | apply pw_below_drewN | apply below_drew1) | exact HB.out)⟩⟩
          case rest =>
            clear HC13
            try clear c1
            try clear p1
            try clear q1
            try clear hx1
            try clear qi1
            try clear p2
            try clear c3
            try clear c5
            try clear c5b0
            try clear c5b1
            try clear c5b2
            try clear c7
            try clear c7b0
            try clear c7b1
            try clear c8
            try clear c8b0
            try clear c8b1
            try clear p9
            try clear q9
            try clear hx9
            try clear qi9
            try clear p10
            try clear q10
            try clear hx10
            try clear qi10
            try clear c11
            try clear c12
            try clear c12b0
            try clear c12b1
            try clear c15
            try clear c15b0
            try clear c15b1
            try clear c16
            try clear c16b0
            try clear c16b1
            try clear hx104_0
            try clear hx105_0
            try clear p1
            try clear p10
            try clear p104
            try clear p105
            try clear p2
            try clear p9
            try clear q1
            try clear q10
            try clear q104
            try clear q105
            try clear q9
            obtain ⟨kq, x30_12, rfl, HA, HJ12, HO_4, HB⟩ := hcut
            cases kq with
            | zero => exact absurd HA.out (by simp [withylaw28_tells.j1])
            | succ kj12 =>
              have H := HA.out
              clear HA
              simp only [withylaw28_tells.j1] at H
              by_cases c17 : x30_12 = true
              · subst c17
                have H1 : ((withylaw28_counted.f t101).bind fun t106 => (some (t106, true))) = some (r1, r2) := by rw [if_pos rfl] at H; exact H
                clear H
                have H := H1
                clear H1
                replace H := Option.bind_eq_some_iff.mp H
                obtain ⟨t106, A180, H⟩ := H
                replace H : (some (t106, true)) = some (r1, r2) := H
                have A18 := Aside0.mk A180
                clear A180
                simp only [Option.some.injEq, Prod.mk.injEq] at H
                obtain ⟨rfl, rfl⟩ := H
                go_wp2_with (first | ((with_reducible refine gate_callee (f := 32) rfl ?_); refine goesL_ (some 35) rfl rfl Tryz.func32 (by kernel_rfl) rfl #[.slice (some ad105) t101.length co14] rfl (by (try simp only [List.map_toArray, List.map_cons, List.map_nil]); first | done | rfl | (simp only [List.length_drop, List.length_take]; rfl)) ?_; (with_reducible refine (withylaw28_counted.calls _ _ t101 t106 _ ?side1 ?side2 A18.out).mono ?_); (case side1 => repeat (first | exact (Kd.R_reads' HO_4.out).2.2 | (with_reducible refine Kd.C_alloc ?_ _) | (with_reducible refine Kd.C_drewN ?_ _) | (with_reducible refine Kd.C_drew ?_))); (case side2 => exact (Kd.R_reads' HO_4.out).2.1); rintro e w19 ⟨rfl, hb⟩; refine ⟨_, rfl, ?_⟩; have n0_ := Aside0.mk (Kd.R_below (by (with_reducible repeat (first | apply Kd.R_alloc | apply Kd.R_drewN | apply Kd.R_drew)); exact HO_4.out) hb); have n1_ := Aside0.mk (below_step (by repeat (first | (with_reducible first | exact HB.out | apply below_alloc | apply pw_below_drewN | apply below_drew1) | exact HB.out)) hb); clear HO_4; clear HB; have HO_4 := n0_; have HB := n1_; clear n0_ n1_; (try clear hb); (try clear hb2); (try clear hk); (try clear hi)))
                go_ret2
                exact ⟨by first | rfl | (simp [errW_none, errW_some] <;> rfl) | (simp [*, errW_none, errW_some] <;> rfl), by repeat (first | (with_reducible first | exact HB.out | apply below_alloc | apply pw_below_drewN | apply below_drew1) | exact HB.out)⟩
              · replace c17 := Bool.eq_false_iff.mpr c17
                subst c17
                have H1 : (if (rdOf ByteArray.empty t101 0).toList = ([102, 114, 97, 109, 101] : List UInt8) then (if (t101.length : Int) = 3 then (if 1 < (t101.length : Int) then ((withylaw28_decimal.f (rdOf ByteArray.empty t101 1)).bind fun bt108 => (if 2 < (t101.length : Int) then ((withylaw28_bytes.f (rdOf ByteArray.empty t101 2)).bind fun bt111 => (if bt108.2 = true then (withylaw28_tells.j2 kj12 bt108.1 bt111.1 (!bt111.2)) else (withylaw28_tells.j2 kj12 bt108.1 bt111.1 true))) else (none))) else (none)) else (some ((⟨#[101, 114, 114, 111, 114, 32, 50, 56, 48, 48]⟩ : ByteArray), true))) else (if (t101.length : Int) = 2 then (if 1 < (t101.length : Int) then ((withylaw28_bytes.f (rdOf ByteArray.empty t101 1)).bind fun bt118 => (if bt118.2 = true then (if 0 < (t101.length : Int) then (if (rdOf ByteArray.empty t101 0).toList = ([102, 99, 115] : List UInt8) then ((withyref1_Fcs.f bt118.1).bind fun t121 => ((withyref0_Decimal.f t121).bind fun t122 => (some (t122, true)))) else (if (rdOf ByteArray.empty t101 0).toList = ([109, 100, 53] : List UInt8) then ((withyref10_Md5.f bt118.1).bind fun t124 => ((withylaw28_hex.f t124).bind fun t125 => (some (t125, true)))) else (if (rdOf ByteArray.empty t101 0).toList = ([117, 110, 102, 114, 97, 109, 101] : List UInt8) then ((withyref1_Unframe.f bt118.1).bind fun bt127 => (if bt127.2.2 = 0 then ((withyref0_Decimal.f bt127.1).bind fun t131 => (if t131.size + 1 ≤ 9223372036854775807 then ((withylaw28_hex.f bt127.2.1).bind fun t132 => (if (t131 ++ (⟨#[32]⟩ : ByteArray)).size + t132.size ≤ 9223372036854775807 then (some ((t131 ++ (⟨#[32]⟩ : ByteArray)) ++ t132, true)) else (none))) else (none))) else ((withylaw28_wrong.f bt127.2.2).bind fun t133 => (some (t133, true))))) else (some ((⟨#[101, 114, 114, 111, 114, 32, 50, 56, 48, 48]⟩ : ByteArray), true))))) else (none)) else (some ((⟨#[101, 114, 114, 111, 114, 32, 50, 56, 48, 48]⟩ : ByteArray), true)))) else (none)) else (some ((⟨#[101, 114, 114, 111, 114, 32, 50, 56, 48, 48]⟩ : ByteArray), true)))) = some (r1, r2) := by rw [if_neg (show ¬ (false = true) by decide)] at H; exact H
                clear H
                have H := H1
                clear H1
                by_cases c20 : (rdOf ByteArray.empty t101 0).toList = ([102, 114, 97, 109, 101] : List UInt8)
                · rw [if_pos c20] at H
                  have c20b0 : ((rdOf ByteArray.empty t101 0).toList == ([102, 114, 97, 109, 101] : List UInt8)) = true := beq_iff_eq.mpr c20
                  have c20b1 : ((rdOf ByteArray.empty t101 0).toList != ([102, 114, 97, 109, 101] : List UInt8)) = false := bne_eq_false_iff_eq.mpr c20
                  clear c20
                  by_cases c21 : (t101.length : Int) = 3
                  · rw [if_pos c21] at H
                    have c21b0 : ((t101.length : Int) == 3) = true := beq_iff_eq.mpr c21
                    have c21b1 : ((t101.length : Int) != 3) = false := bne_eq_false_iff_eq.mpr c21
                    clear c21
                    by_cases c22 : 1 < (t101.length : Int)
                    · rw [if_pos c22] at H
                      have c22b0 : decide (1 < (t101.length : Int)) = true := decide_eq_true c22
                      have c22b1 : decide (1 < t101.length) = true := decide_eq_true (by omega)
                      clear c22
                      replace H := Option.bind_eq_some_iff.mp H
                      obtain ⟨⟨t108, t109⟩, A230, H⟩ := H
                      replace H : (if 2 < (t101.length : Int) then ((withylaw28_bytes.f (rdOf ByteArray.empty t101 2)).bind fun bt111 => (if t109 = true then (withylaw28_tells.j2 kj12 t108 bt111.1 (!bt111.2)) else (withylaw28_tells.j2 kj12 t108 bt111.1 true))) else (none)) = some (r1, r2) := H
                      have A23 := Aside0.mk A230
                      clear A230
                      by_cases c24 : 2 < (t101.length : Int)
                      · rw [if_pos c24] at H
                        have c24b0 : decide (2 < (t101.length : Int)) = true := decide_eq_true c24
                        have c24b1 : decide (2 < t101.length) = true := decide_eq_true (by omega)
                        clear c24
                        replace H := Option.bind_eq_some_iff.mp H
                        obtain ⟨⟨t111, t112⟩, A250, H⟩ := H
                        replace H : (if t109 = true then (withylaw28_tells.j2 kj12 t108 t111 (!t112)) else (withylaw28_tells.j2 kj12 t108 t111 true)) = some (r1, r2) := H
                        have A25 := Aside0.mk A250
                        clear A250
                        have HC26 := Aside0.mk H
                        clear H
                        have p107 : 0 ≤ (1 : Int) := (by omega)
                        have q107 : 1 < (t101.length : Int) := of_decide_eq_true (by first | (with_reducible assumption) | assumption)
                        obtain ⟨ad107, e107, hx107_0⟩ := Kd.at_string (Kd.R_reads' HO_4.out).2.2 1 p107 q107
                        obtain rfl : ad105 = ad107 := (by injection e107)
                        (try simp only [show (1 : Int).toNat = 1 from rfl, Nat.reduceMul, Nat.reduceEqDiff, Go.Addr.add, ↓reduceIte] at hx107_0)
                        have qi107 : (1 < t101.length) = True := eq_true (by omega)
                        (try rw [show ((1 : Int)).toNat = 1 from rfl] at hx107_0)
                        replace p107 := eq_true p107
                        replace q107 := eq_true q107
                        go_upto_region 14 with (first | ((with_reducible refine gate_callee (f := 33) rfl ?_); refine goesL_ (some 45) rfl rfl Tryz.func33 (by kernel_rfl) rfl #[.string (rdOf ByteArray.empty t101 1)] rfl (by (try simp only [List.map_toArray, List.map_cons, List.map_nil]); first | done | rfl | (simp only [List.length_drop, List.length_take]; rfl)) ?_; (with_reducible refine (withylaw28_decimal.calls (rdOf ByteArray.empty t101 1) t108 t109 _ A23.out).mono ?_); rintro e w' ⟨rfl, ⟨nd, rfl⟩⟩; refine ⟨_, rfl, ?_⟩; have p110 : 0 ≤ (2 : Int) := (by omega); have q110 : 2 < (t101.length : Int) := of_decide_eq_true (by first | (with_reducible assumption) | assumption); obtain ⟨ad110, e110, hx110_0⟩ := Kd.at_string (Kd.R_reads' HO_4.out).2.2 2 p110 q110; obtain rfl : ad105 = ad110 := (by injection e110); (try simp only [show (2 : Int).toNat = 2 from rfl, Nat.reduceMul, Nat.reduceEqDiff, Go.Addr.add, ↓reduceIte] at hx110_0); have qi110 : (2 < t101.length) = True := eq_true (by omega); (try rw [show ((2 : Int)).toNat = 2 from rfl] at hx110_0); replace p110 := eq_true p110; replace q110 := eq_true q110) | ((with_reducible refine gate_callee (f := 34) rfl ?_); refine goesL_ (some 52) rfl rfl Tryz.func34 (by kernel_rfl) rfl #[.string (rdOf ByteArray.empty t101 2)] rfl (by (try simp only [List.map_toArray, List.map_cons, List.map_nil]); first | done | rfl | (simp only [List.length_drop, List.length_take]; rfl)) ?_; (with_reducible refine (withylaw28_bytes.calls (rdOf ByteArray.empty t101 2) t111 t112 _ A25.out).mono ?_); rintro e w27 ⟨rfl, hb⟩; refine ⟨_, rfl, ?_⟩; have n0_ := Aside0.mk (Kd.R_below (by (with_reducible repeat (first | apply Kd.R_alloc | apply Kd.R_drewN | apply Kd.R_drew)); exact HO_4.out) hb); have n1_ := Aside0.mk (below_step (by repeat (first | (with_reducible first | exact HB.out | apply below_alloc | apply pw_below_drewN | apply below_drew1) | exact HB.out)) hb); clear HO_4; clear HB; have HO_4 := n0_; have HB := n1_; clear n0_ n1_; (try clear hb); (try clear hb2); (try clear hk); (try clear hi)))
                        (try simp only [Act.put, List.setIfInBounds_toArray, List.set_cons_zero, List.set_cons_succ])
                        go_cut [60] (fun v60 wc => ∃ (kq : Nat) (x60_25 : Bool), v60 = .bool x60_25 ∧ Aside0 (withylaw28_tells.j2 kq t108 t111 x60_25 = some (r1, r2)) ∧ Aside0 (kq ≤ kj12) ∧ Aside0 (Below w.heap.size w wc))
                        case first =>
                          have H := HC26.out
                          clear HC26
                          by_cases c28 : t109 = true
                          · subst c28
                            have H1 : (withylaw28_tells.j2 kj12 t108 t111 (!t112)) = some (r1, r2) := by rw [if_pos rfl] at H; exact H
                            clear H
                            have H := H1
                            clear H1
                            have H' := Aside0.mk H
                            clear H
                            go_wp2
                            go_meet
                            case rel => exact ⟨_, (!t112), (by first | rfl | (simp; done) | (simp [*]; done) | (refine congrArg Value.bool (Bool.eq_iff_iff.2 ?_); simp)), H', ⟨by have := HJ2.out; have := HJ12.out; first | omega | exact Nat.le_refl _⟩, ⟨by repeat (first | (with_reducible first | exact HB.out | apply below_alloc | apply pw_below_drewN | apply below_drew1) | exact HB.out)⟩⟩
                          · replace c28 := Bool.eq_false_iff.mpr c28
                            subst c28
                            have H1 : (withylaw28_tells.j2 kj12 t108 t111 true) = some (r1, r2) := by rw [if_neg (show ¬ (false = true) by decide)] at H; exact H
                            clear H
                            have H := H1
                            clear H1
                            have H' := Aside0.mk H
                            clear H
                            go_wp2
                            go_meet
                            case rel => exact ⟨_, (true), (by first | rfl | (simp; done) | (simp [*]; done) | (refine congrArg Value.bool (Bool.eq_iff_iff.2 ?_); simp)), H', ⟨by have := HJ2.out; have := HJ12.out; first | omega | exact Nat.le_refl _⟩, ⟨by repeat (first | (with_reducible first | exact HB.out | apply below_alloc | apply pw_below_drewN | apply below_drew1) | exact HB.out)⟩⟩
                        case rest =>
                          clear HC26
                          try clear c1
                          try clear p1
                          try clear q1
                          try clear hx1
                          try clear qi1
                          try clear c2
                          try clear p2
                          try clear c3
                          try clear c5
                          try clear c5b0
                          try clear c5b1
                          try clear c5b2
                          try clear c7
                          try clear c7b0
                          try clear c7b1
                          try clear c8
                          try clear c8b0
                          try clear c8b1
                          try clear p9
                          try clear q9
                          try clear hx9
                          try clear qi9
                          try clear p10
                          try clear q10
                          try clear hx10
                          try clear qi10
                          try clear c11
                          try clear p11
                          try clear q11
                          try clear hx11
                          try clear qi11
                          try clear c12
                          try clear c12b0
                          try clear c12b1
                          try clear c15
                          try clear c15b0
                          try clear c15b1
                          try clear c16
                          try clear c16b0
                          try clear c16b1
                          try clear c17
                          try clear c20
                          try clear c20b0
                          try clear c20b1
                          try clear c21
                          try clear c21b0
                          try clear c21b1
                          try clear c22
                          try clear c22b0
                          try clear c22b1
                          try clear c24
                          try clear c24b0
                          try clear c24b1
                          try clear c28
                          try clear hx104_0
                          try clear hx105_0
                          try clear hx107_0
                          try clear hx110_0
                          try clear p1
                          try clear p10
                          try clear p104
                          try clear p105
                          try clear p107
                          try clear p110
                          try clear p2
                          try clear p9
                          try clear q1
                          try clear q10
                          try clear q104
                          try clear q105
                          try clear q107
                          try clear q110
                          try clear q9
                          obtain ⟨kq, x60_25, rfl, HA, HJ25, HB⟩ := hcut
                          cases kq with
                          | zero => exact absurd HA.out (by simp [withylaw28_tells.j2])
                          | succ kj25 =>
                            have H := HA.out
                            clear HA
                            simp only [withylaw28_tells.j2] at H
                            by_cases c29 : x60_25 = true
                            · subst c29
                              have H1 : (some ((⟨#[101, 114, 114, 111, 114, 32, 50, 56, 48, 48]⟩ : ByteArray), true)) = some (r1, r2) := by rw [if_pos rfl] at H; exact H
                              clear H
                              have H := H1
                              clear H1
                              simp only [Option.some.injEq, Prod.mk.injEq] at H
                              obtain ⟨rfl, rfl⟩ := H
                              go_wp2
                              go_ret2
                              exact ⟨by first | rfl | (simp [errW_none, errW_some] <;> rfl) | (simp [*, errW_none, errW_some] <;> rfl), by repeat (first | (with_reducible first | exact HB.out | apply below_alloc | apply pw_below_drewN | apply below_drew1) | exact HB.out)⟩
                            · replace c29 := Bool.eq_false_iff.mpr c29
                              subst c29
                              have H1 : ((withyref1_Frame.f t108 t111 0).bind fun bt113 => (if bt113.2 = 0 then ((withylaw28_hex.f bt113.1).bind fun t115 => (some (t115, true))) else ((withylaw28_wrong.f bt113.2).bind fun t116 => (some (t116, true))))) = some (r1, r2) := by rw [if_neg (show ¬ (false = true) by decide)] at H; exact H
                              clear H
                              have H := H1
                              clear H1
                              replace H := Option.bind_eq_some_iff.mp H
                              obtain ⟨⟨t113, t114⟩, A300, H⟩ := H
                              replace H : (if t114 = 0 then ((withylaw28_hex.f t113).bind fun t115 => (some (t115, true))) else ((withylaw28_wrong.f t114).bind fun t116 => (some (t116, true)))) = some (r1, r2) := H
                              have A30 := Aside0.mk A300
                              clear A300
                              by_cases c31 : t114 = 0
                              · rw [if_pos c31] at H
                                have c31b0 : (t114 == 0) = true := beq_iff_eq.mpr c31
                                have c31b1 : (t114 != 0) = false := bne_eq_false_iff_eq.mpr c31
                                clear c31
                                replace H := Option.bind_eq_some_iff.mp H
                                obtain ⟨t115, A320, H⟩ := H
                                replace H : (some (t115, true)) = some (r1, r2) := H
                                have A32 := Aside0.mk A320
                                clear A320
                                simp only [Option.some.injEq, Prod.mk.injEq] at H
                                obtain ⟨rfl, rfl⟩ := H
                                go_wp2_with (first | ((with_reducible refine gate_callee (f := 35) rfl ?_); refine goesL_ (some 65) rfl rfl Tryz.func35 (by kernel_rfl) rfl #[.agg #[.int .i64 t108, .string t111], .int .i64 0] rfl (by (try simp only [List.map_toArray, List.map_cons, List.map_nil]); first | done | rfl | (simp only [List.length_drop, List.length_take]; rfl)) ?_; (with_reducible refine (withyref1_Frame.calls t108 t111 0 t113 t114 _ A30.out).mono ?_); rintro e w33 ⟨rfl, hb⟩; refine ⟨_, rfl, ?_⟩; have n0_ := Aside0.mk (below_step (by repeat (first | (with_reducible first | exact HB.out | apply below_alloc | apply pw_below_drewN | apply below_drew1) | exact HB.out)) hb); clear HB; have HB := n0_; clear n0_; (try clear hb); (try clear hb2); (try clear hk); (try clear hi)) | ((with_reducible refine gate_callee (f := 18) rfl ?_); refine goesL_ (some 73) rfl rfl Tryz.func18 (by kernel_rfl) rfl #[.string t113] rfl (by (try simp only [List.map_toArray, List.map_cons, List.map_nil]); first | done | rfl | (simp only [List.length_drop, List.length_take]; rfl)) ?_; (with_reducible refine (withylaw28_hex.calls t113 t115 _ A32.out).mono ?_); rintro e w34 ⟨rfl, hb⟩; refine ⟨_, rfl, ?_⟩; have n0_ := Aside0.mk (below_step (by repeat (first | (with_reducible first | exact HB.out | apply below_alloc | apply pw_below_drewN | apply below_drew1) | exact HB.out)) hb); clear HB; have HB := n0_; clear n0_; (try clear hb); (try clear hb2); (try clear hk); (try clear hi)))
                                go_ret2
                                exact ⟨by first | rfl | (simp [errW_none, errW_some] <;> rfl) | (simp [*, errW_none, errW_some] <;> rfl), by repeat (first | (with_reducible first | exact HB.out | apply below_alloc | apply pw_below_drewN | apply below_drew1) | exact HB.out)⟩
                              · rw [if_neg c31] at H
                                have c31b0 : (t114 == 0) = false := beq_eq_false_iff_ne.mpr c31
                                have c31b1 : (t114 != 0) = true := bne_iff_ne.mpr c31
                                replace H := Option.bind_eq_some_iff.mp H
                                obtain ⟨t116, A350, H⟩ := H
                                replace H : (some (t116, true)) = some (r1, r2) := H
                                have A35 := Aside0.mk A350
                                clear A350
                                simp only [Option.some.injEq, Prod.mk.injEq] at H
                                obtain ⟨rfl, rfl⟩ := H
                                go_wp2_with (first | ((with_reducible refine gate_callee (f := 35) rfl ?_); refine goesL_ (some 65) rfl rfl Tryz.func35 (by kernel_rfl) rfl #[.agg #[.int .i64 t108, .string t111], .int .i64 0] rfl (by (try simp only [List.map_toArray, List.map_cons, List.map_nil]); first | done | rfl | (simp only [List.length_drop, List.length_take]; rfl)) ?_; (with_reducible refine (withyref1_Frame.calls t108 t111 0 t113 t114 _ A30.out).mono ?_); rintro e w36 ⟨rfl, hb⟩; refine ⟨_, rfl, ?_⟩; have n0_ := Aside0.mk (below_step (by repeat (first | (with_reducible first | exact HB.out | apply below_alloc | apply pw_below_drewN | apply below_drew1) | exact HB.out)) hb); clear HB; have HB := n0_; clear n0_; (try clear hb); (try clear hb2); (try clear hk); (try clear hi)) | ((with_reducible refine gate_callee (f := 12) rfl ?_); refine goesL_ (some 71) rfl rfl Tryz.func12 (by kernel_rfl) rfl #[.int .i64 t114] rfl (by (try simp only [List.map_toArray, List.map_cons, List.map_nil]); first | done | rfl | (simp only [List.length_drop, List.length_take]; rfl)) ?_; (with_reducible refine (withylaw28_wrong.calls t114 t116 _ A35.out).mono ?_); rintro e w37 ⟨rfl, hb⟩; refine ⟨_, rfl, ?_⟩; have n0_ := Aside0.mk (below_step (by repeat (first | (with_reducible first | exact HB.out | apply below_alloc | apply pw_below_drewN | apply below_drew1) | exact HB.out)) hb); clear HB; have HB := n0_; clear n0_; (try clear hb); (try clear hb2); (try clear hk); (try clear hi)))
                                go_ret2
                                exact ⟨by first | rfl | (simp [errW_none, errW_some] <;> rfl) | (simp [*, errW_none, errW_some] <;> rfl), by repeat (first | (with_reducible first | exact HB.out | apply below_alloc | apply pw_below_drewN | apply below_drew1) | exact HB.out)⟩
                      · rw [if_neg c24] at H
                        exact absurd H (by simp)
                    · rw [if_neg c22] at H
                      exact absurd H (by simp)
                  · rw [if_neg c21] at H
                    have c21b0 : ((t101.length : Int) == 3) = false := beq_eq_false_iff_ne.mpr c21
                    have c21b1 : ((t101.length : Int) != 3) = true := bne_iff_ne.mpr c21
                    simp only [Option.some.injEq, Prod.mk.injEq] at H
                    obtain ⟨rfl, rfl⟩ := H
                    go_wp2
                    go_ret2
                    exact ⟨by first | rfl | (simp [errW_none, errW_some] <;> rfl) | (simp [*, errW_none, errW_some] <;> rfl), by repeat (first | (with_reducible first | exact HB.out | apply below_alloc | apply pw_below_drewN | apply below_drew1) | exact HB.out)⟩
                · rw [if_neg c20] at H
                  have c20b0 : ((rdOf ByteArray.empty t101 0).toList == ([102, 114, 97, 109, 101] : List UInt8)) = false := beq_eq_false_iff_ne.mpr c20
                  have c20b1 : ((rdOf ByteArray.empty t101 0).toList != ([102, 114, 97, 109, 101] : List UInt8)) = true := bne_iff_ne.mpr c20
                  by_cases c38 : (t101.length : Int) = 2
                  · rw [if_pos c38] at H
                    have c38b0 : ((t101.length : Int) == 2) = true := beq_iff_eq.mpr c38
                    have c38b1 : ((t101.length : Int) != 2) = false := bne_eq_false_iff_eq.mpr c38
                    clear c38
                    by_cases c39 : 1 < (t101.length : Int)
                    · rw [if_pos c39] at H
                      have c39b0 : decide (1 < (t101.length : Int)) = true := decide_eq_true c39
                      have c39b1 : decide (1 < t101.length) = true := decide_eq_true (by omega)
                      clear c39
                      replace H := Option.bind_eq_some_iff.mp H
                      obtain ⟨⟨t118, t119⟩, A400, H⟩ := H
                      replace H : (if t119 = true then (if 0 < (t101.length : Int) then (if (rdOf ByteArray.empty t101 0).toList = ([102, 99, 115] : List UInt8) then ((withyref1_Fcs.f t118).bind fun t121 => ((withyref0_Decimal.f t121).bind fun t122 => (some (t122, true)))) else (if (rdOf ByteArray.empty t101 0).toList = ([109, 100, 53] : List UInt8) then ((withyref10_Md5.f t118).bind fun t124 => ((withylaw28_hex.f t124).bind fun t125 => (some (t125, true)))) else (if (rdOf ByteArray.empty t101 0).toList = ([117, 110, 102, 114, 97, 109, 101] : List UInt8) then ((withyref1_Unframe.f t118).bind fun bt127 => (if bt127.2.2 = 0 then ((withyref0_Decimal.f bt127.1).bind fun t131 => (if t131.size + 1 ≤ 9223372036854775807 then ((withylaw28_hex.f bt127.2.1).bind fun t132 => (if (t131 ++ (⟨#[32]⟩ : ByteArray)).size + t132.size ≤ 9223372036854775807 then (some ((t131 ++ (⟨#[32]⟩ : ByteArray)) ++ t132, true)) else (none))) else (none))) else ((withylaw28_wrong.f bt127.2.2).bind fun t133 => (some (t133, true))))) else (some ((⟨#[101, 114, 114, 111, 114, 32, 50, 56, 48, 48]⟩ : ByteArray), true))))) else (none)) else (some ((⟨#[101, 114, 114, 111, 114, 32, 50, 56, 48, 48]⟩ : ByteArray), true))) = some (r1, r2) := H
                      have A40 := Aside0.mk A400
                      clear A400
                      by_cases c41 : t119 = true
                      · subst c41
                        have H1 : (if 0 < (t101.length : Int) then (if (rdOf ByteArray.empty t101 0).toList = ([102, 99, 115] : List UInt8) then ((withyref1_Fcs.f t118).bind fun t121 => ((withyref0_Decimal.f t121).bind fun t122 => (some (t122, true)))) else (if (rdOf ByteArray.empty t101 0).toList = ([109, 100, 53] : List UInt8) then ((withyref10_Md5.f t118).bind fun t124 => ((withylaw28_hex.f t124).bind fun t125 => (some (t125, true)))) else (if (rdOf ByteArray.empty t101 0).toList = ([117, 110, 102, 114, 97, 109, 101] : List UInt8) then ((withyref1_Unframe.f t118).bind fun bt127 => (if bt127.2.2 = 0 then ((withyref0_Decimal.f bt127.1).bind fun t131 => (if t131.size + 1 ≤ 9223372036854775807 then ((withylaw28_hex.f bt127.2.1).bind fun t132 => (if (t131 ++ (⟨#[32]⟩ : ByteArray)).size + t132.size ≤ 9223372036854775807 then (some ((t131 ++ (⟨#[32]⟩ : ByteArray)) ++ t132, true)) else (none))) else (none))) else ((withylaw28_wrong.f bt127.2.2).bind fun t133 => (some (t133, true))))) else (some ((⟨#[101, 114, 114, 111, 114, 32, 50, 56, 48, 48]⟩ : ByteArray), true))))) else (none)) = some (r1, r2) := by rw [if_pos rfl] at H; exact H
                        clear H
                        have H := H1
                        clear H1
                        by_cases c42 : 0 < (t101.length : Int)
                        · rw [if_pos c42] at H
                          have c42b0 : decide (0 < (t101.length : Int)) = true := decide_eq_true c42
                          have c42b1 : decide (0 < t101.length) = true := decide_eq_true (by omega)
                          clear c42
                          by_cases c43 : (rdOf ByteArray.empty t101 0).toList = ([102, 99, 115] : List UInt8)
                          · rw [if_pos c43] at H
                            have c43b0 : ((rdOf ByteArray.empty t101 0).toList == ([102, 99, 115] : List UInt8)) = true := beq_iff_eq.mpr c43
                            have c43b1 : ((rdOf ByteArray.empty t101 0).toList != ([102, 99, 115] : List UInt8)) = false := bne_eq_false_iff_eq.mpr c43
                            clear c43
                            replace H := Option.bind_eq_some_iff.mp H
                            obtain ⟨t121, A440, H⟩ := H
                            replace H : ((withyref0_Decimal.f t121).bind fun t122 => (some (t122, true))) = some (r1, r2) := H
                            have A44 := Aside0.mk A440
                            clear A440
                            replace H := Option.bind_eq_some_iff.mp H
                            obtain ⟨t122, A450, H⟩ := H
                            replace H : (some (t122, true)) = some (r1, r2) := H
                            have A45 := Aside0.mk A450
                            clear A450
                            simp only [Option.some.injEq, Prod.mk.injEq] at H
                            obtain ⟨rfl, rfl⟩ := H
                            have p117 : 0 ≤ (1 : Int) := (by omega)
                            have q117 : 1 < (t101.length : Int) := of_decide_eq_true (by first | (with_reducible assumption) | assumption)
                            obtain ⟨ad117, e117, hx117_0⟩ := Kd.at_string (Kd.R_reads' HO_4.out).2.2 1 p117 q117
                            obtain rfl : ad105 = ad117 := (by injection e117)
                            (try simp only [show (1 : Int).toNat = 1 from rfl, Nat.reduceMul, Nat.reduceEqDiff, Go.Addr.add, ↓reduceIte] at hx117_0)
                            have qi117 : (1 < t101.length) = True := eq_true (by omega)
                            (try rw [show ((1 : Int)).toNat = 1 from rfl] at hx117_0)
                            replace p117 := eq_true p117
                            replace q117 := eq_true q117
                            go_wp2_with (first | ((with_reducible refine gate_callee (f := 34) rfl ?_); refine goesL_ (some 81) rfl rfl Tryz.func34 (by kernel_rfl) rfl #[.string (rdOf ByteArray.empty t101 1)] rfl (by (try simp only [List.map_toArray, List.map_cons, List.map_nil]); first | done | rfl | (simp only [List.length_drop, List.length_take]; rfl)) ?_; (with_reducible refine (withylaw28_bytes.calls (rdOf ByteArray.empty t101 1) t118 true _ A40.out).mono ?_); rintro e w46 ⟨rfl, hb⟩; refine ⟨_, rfl, ?_⟩; have n0_ := Aside0.mk (Kd.R_below (by (with_reducible repeat (first | apply Kd.R_alloc | apply Kd.R_drewN | apply Kd.R_drew)); exact HO_4.out) hb); have n1_ := Aside0.mk (below_step (by repeat (first | (with_reducible first | exact HB.out | apply below_alloc | apply pw_below_drewN | apply below_drew1) | exact HB.out)) hb); clear HO_4; clear HB; have HO_4 := n0_; have HB := n1_; clear n0_ n1_; (try clear hb); (try clear hb2); (try clear hk); (try clear hi); have p120 : 0 ≤ (0 : Int) := (by omega); have q120 : 0 < (t101.length : Int) := of_decide_eq_true (by first | (with_reducible assumption) | assumption); obtain ⟨ad120, e120, hx120_0⟩ := Kd.at_string (Kd.R_reads' HO_4.out).2.2 0 p120 q120; obtain rfl : ad105 = ad120 := (by injection e120); have qi120 : (0 < t101.length) = True := eq_true (by omega); (try rw [show ((0 : Int)).toNat = 0 from rfl] at hx120_0); (try rw [Addr.add_zero'] at hx120_0); replace p120 := eq_true p120; replace q120 := eq_true q120) | ((with_reducible refine gate_callee (f := 19) rfl ?_); refine goesL_ (some 93) rfl rfl Tryz.func19 (by kernel_rfl) rfl #[.string t118] rfl (by (try simp only [List.map_toArray, List.map_cons, List.map_nil]); first | done | rfl | (simp only [List.length_drop, List.length_take]; rfl)) ?_; (with_reducible refine (withyref1_Fcs.calls t118 t121 _ A44.out).mono ?_); rintro e w47 ⟨rfl, hb⟩; refine ⟨_, rfl, ?_⟩; have n0_ := Aside0.mk (Kd.R_below (by (with_reducible repeat (first | apply Kd.R_alloc | apply Kd.R_drewN | apply Kd.R_drew)); exact HO_4.out) hb); have n1_ := Aside0.mk (below_step (by repeat (first | (with_reducible first | exact HB.out | apply below_alloc | apply pw_below_drewN | apply below_drew1) | exact HB.out)) hb); clear HO_4; clear HB; have HO_4 := n0_; have HB := n1_; clear n0_ n1_; (try clear hb); (try clear hb2); (try clear hk); (try clear hi)) | ((with_reducible refine gate_callee (f := 17) rfl ?_); refine goesL_ (some 94) rfl rfl Tryz.func17 (by kernel_rfl) rfl #[.int .i64 t121] rfl (by (try simp only [List.map_toArray, List.map_cons, List.map_nil]); first | done | rfl | (simp only [List.length_drop, List.length_take]; rfl)) ?_; (with_reducible refine (withyref0_Decimal.calls t121 t122 _ A45.out).mono ?_); rintro e w48 ⟨rfl, hb⟩; refine ⟨_, rfl, ?_⟩; have n0_ := Aside0.mk (Kd.R_below (by (with_reducible repeat (first | apply Kd.R_alloc | apply Kd.R_drewN | apply Kd.R_drew)); exact HO_4.out) hb); have n1_ := Aside0.mk (below_step (by repeat (first | (with_reducible first | exact HB.out | apply below_alloc | apply pw_below_drewN | apply below_drew1) | exact HB.out)) hb); clear HO_4; clear HB; have HO_4 := n0_; have HB := n1_; clear n0_ n1_; (try clear hb); (try clear hb2); (try clear hk); (try clear hi)))
                            go_ret2
                            exact ⟨by first | rfl | (simp [errW_none, errW_some] <;> rfl) | (simp [*, errW_none, errW_some] <;> rfl), by repeat (first | (with_reducible first | exact HB.out | apply below_alloc | apply pw_below_drewN | apply below_drew1) | exact HB.out)⟩
                          · rw [if_neg c43] at H
                            have c43b0 : ((rdOf ByteArray.empty t101 0).toList == ([102, 99, 115] : List UInt8)) = false := beq_eq_false_iff_ne.mpr c43
                            have c43b1 : ((rdOf ByteArray.empty t101 0).toList != ([102, 99, 115] : List UInt8)) = true := bne_iff_ne.mpr c43
                            by_cases c49 : (rdOf ByteArray.empty t101 0).toList = ([109, 100, 53] : List UInt8)
                            · rw [if_pos c49] at H
                              have c49b0 : ((rdOf ByteArray.empty t101 0).toList == ([109, 100, 53] : List UInt8)) = true := beq_iff_eq.mpr c49
                              have c49b1 : ((rdOf ByteArray.empty t101 0).toList != ([109, 100, 53] : List UInt8)) = false := bne_eq_false_iff_eq.mpr c49
                              clear c49
                              replace H := Option.bind_eq_some_iff.mp H
                              obtain ⟨t124, A500, H⟩ := H
                              replace H : ((withylaw28_hex.f t124).bind fun t125 => (some (t125, true))) = some (r1, r2) := H
                              have A50 := Aside0.mk A500
                              clear A500
                              replace H := Option.bind_eq_some_iff.mp H
                              obtain ⟨t125, A510, H⟩ := H
                              replace H : (some (t125, true)) = some (r1, r2) := H
                              have A51 := Aside0.mk A510
                              clear A510
                              simp only [Option.some.injEq, Prod.mk.injEq] at H
                              obtain ⟨rfl, rfl⟩ := H
                              have p117 : 0 ≤ (1 : Int) := (by omega)
                              have q117 : 1 < (t101.length : Int) := of_decide_eq_true (by first | (with_reducible assumption) | assumption)
                              obtain ⟨ad117, e117, hx117_0⟩ := Kd.at_string (Kd.R_reads' HO_4.out).2.2 1 p117 q117
                              obtain rfl : ad105 = ad117 := (by injection e117)
                              (try simp only [show (1 : Int).toNat = 1 from rfl, Nat.reduceMul, Nat.reduceEqDiff, Go.Addr.add, ↓reduceIte] at hx117_0)
                              have qi117 : (1 < t101.length) = True := eq_true (by omega)
                              (try rw [show ((1 : Int)).toNat = 1 from rfl] at hx117_0)
                              replace p117 := eq_true p117
                              replace q117 := eq_true q117
                              go_wp2_with (first | ((with_reducible refine gate_callee (f := 34) rfl ?_); refine goesL_ (some 81) rfl rfl Tryz.func34 (by kernel_rfl) rfl #[.string (rdOf ByteArray.empty t101 1)] rfl (by (try simp only [List.map_toArray, List.map_cons, List.map_nil]); first | done | rfl | (simp only [List.length_drop, List.length_take]; rfl)) ?_; (with_reducible refine (withylaw28_bytes.calls (rdOf ByteArray.empty t101 1) t118 true _ A40.out).mono ?_); rintro e w52 ⟨rfl, hb⟩; refine ⟨_, rfl, ?_⟩; have n0_ := Aside0.mk (Kd.R_below (by (with_reducible repeat (first | apply Kd.R_alloc | apply Kd.R_drewN | apply Kd.R_drew)); exact HO_4.out) hb); have n1_ := Aside0.mk (below_step (by repeat (first | (with_reducible first | exact HB.out | apply below_alloc | apply pw_below_drewN | apply below_drew1) | exact HB.out)) hb); clear HO_4; clear HB; have HO_4 := n0_; have HB := n1_; clear n0_ n1_; (try clear hb); (try clear hb2); (try clear hk); (try clear hi); have p120 : 0 ≤ (0 : Int) := (by omega); have q120 : 0 < (t101.length : Int) := of_decide_eq_true (by first | (with_reducible assumption) | assumption); obtain ⟨ad120, e120, hx120_0⟩ := Kd.at_string (Kd.R_reads' HO_4.out).2.2 0 p120 q120; obtain rfl : ad105 = ad120 := (by injection e120); have qi120 : (0 < t101.length) = True := eq_true (by omega); (try rw [show ((0 : Int)).toNat = 0 from rfl] at hx120_0); (try rw [Addr.add_zero'] at hx120_0); replace p120 := eq_true p120; replace q120 := eq_true q120; have p123 : 0 ≤ (0 : Int) := (by omega); have q123 : 0 < (t101.length : Int) := of_decide_eq_true (by first | (with_reducible assumption) | assumption); obtain ⟨ad123, e123, hx123_0⟩ := Kd.at_string (Kd.R_reads' HO_4.out).2.2 0 p123 q123; obtain rfl : ad105 = ad123 := (by injection e123); have qi123 : (0 < t101.length) = True := eq_true (by omega); (try rw [show ((0 : Int)).toNat = 0 from rfl] at hx123_0); (try rw [Addr.add_zero'] at hx123_0); replace p123 := eq_true p123; replace q123 := eq_true q123) | ((with_reducible refine gate_callee (f := 20) rfl ?_); refine goesL_ (some 101) rfl rfl Tryz.func20 (by kernel_rfl) rfl #[.string t118] rfl (by (try simp only [List.map_toArray, List.map_cons, List.map_nil]); first | done | rfl | (simp only [List.length_drop, List.length_take]; rfl)) ?_; (with_reducible refine (withyref10_Md5.calls t118 t124 _ A50.out).mono ?_); rintro e w53 ⟨rfl, hb⟩; refine ⟨_, rfl, ?_⟩; have n0_ := Aside0.mk (Kd.R_below (by (with_reducible repeat (first | apply Kd.R_alloc | apply Kd.R_drewN | apply Kd.R_drew)); exact HO_4.out) hb); have n1_ := Aside0.mk (below_step (by repeat (first | (with_reducible first | exact HB.out | apply below_alloc | apply pw_below_drewN | apply below_drew1) | exact HB.out)) hb); clear HO_4; clear HB; have HO_4 := n0_; have HB := n1_; clear n0_ n1_; (try clear hb); (try clear hb2); (try clear hk); (try clear hi)) | ((with_reducible refine gate_callee (f := 18) rfl ?_); refine goesL_ (some 102) rfl rfl Tryz.func18 (by kernel_rfl) rfl #[.string t124] rfl (by (try simp only [List.map_toArray, List.map_cons, List.map_nil]); first | done | rfl | (simp only [List.length_drop, List.length_take]; rfl)) ?_; (with_reducible refine (withylaw28_hex.calls t124 t125 _ A51.out).mono ?_); rintro e w54 ⟨rfl, hb⟩; refine ⟨_, rfl, ?_⟩; have n0_ := Aside0.mk (Kd.R_below (by (with_reducible repeat (first | apply Kd.R_alloc | apply Kd.R_drewN | apply Kd.R_drew)); exact HO_4.out) hb); have n1_ := Aside0.mk (below_step (by repeat (first | (with_reducible first | exact HB.out | apply below_alloc | apply pw_below_drewN | apply below_drew1) | exact HB.out)) hb); clear HO_4; clear HB; have HO_4 := n0_; have HB := n1_; clear n0_ n1_; (try clear hb); (try clear hb2); (try clear hk); (try clear hi)))
                              go_ret2
                              exact ⟨by first | rfl | (simp [errW_none, errW_some] <;> rfl) | (simp [*, errW_none, errW_some] <;> rfl), by repeat (first | (with_reducible first | exact HB.out | apply below_alloc | apply pw_below_drewN | apply below_drew1) | exact HB.out)⟩
                            · rw [if_neg c49] at H
                              have c49b0 : ((rdOf ByteArray.empty t101 0).toList == ([109, 100, 53] : List UInt8)) = false := beq_eq_false_iff_ne.mpr c49
                              have c49b1 : ((rdOf ByteArray.empty t101 0).toList != ([109, 100, 53] : List UInt8)) = true := bne_iff_ne.mpr c49
                              by_cases c55 : (rdOf ByteArray.empty t101 0).toList = ([117, 110, 102, 114, 97, 109, 101] : List UInt8)
                              · rw [if_pos c55] at H
                                have c55b0 : ((rdOf ByteArray.empty t101 0).toList == ([117, 110, 102, 114, 97, 109, 101] : List UInt8)) = true := beq_iff_eq.mpr c55
                                have c55b1 : ((rdOf ByteArray.empty t101 0).toList != ([117, 110, 102, 114, 97, 109, 101] : List UInt8)) = false := bne_eq_false_iff_eq.mpr c55
                                clear c55
                                replace H := Option.bind_eq_some_iff.mp H
                                obtain ⟨⟨t127, t128, t129⟩, A560, H⟩ := H
                                replace H : (if t129 = 0 then ((withyref0_Decimal.f t127).bind fun t131 => (if t131.size + 1 ≤ 9223372036854775807 then ((withylaw28_hex.f t128).bind fun t132 => (if (t131 ++ (⟨#[32]⟩ : ByteArray)).size + t132.size ≤ 9223372036854775807 then (some ((t131 ++ (⟨#[32]⟩ : ByteArray)) ++ t132, true)) else (none))) else (none))) else ((withylaw28_wrong.f t129).bind fun t133 => (some (t133, true)))) = some (r1, r2) := H
                                have A56 := Aside0.mk A560
                                clear A560
                                by_cases c57 : t129 = 0
                                · rw [if_pos c57] at H
                                  have c57b0 : (t129 == 0) = true := beq_iff_eq.mpr c57
                                  have c57b1 : (t129 != 0) = false := bne_eq_false_iff_eq.mpr c57
                                  clear c57
                                  replace H := Option.bind_eq_some_iff.mp H
                                  obtain ⟨t131, A580, H⟩ := H
                                  replace H : (if t131.size + 1 ≤ 9223372036854775807 then ((withylaw28_hex.f t128).bind fun t132 => (if (t131 ++ (⟨#[32]⟩ : ByteArray)).size + t132.size ≤ 9223372036854775807 then (some ((t131 ++ (⟨#[32]⟩ : ByteArray)) ++ t132, true)) else (none))) else (none)) = some (r1, r2) := H
                                  have A58 := Aside0.mk A580
                                  clear A580
                                  by_cases c59 : t131.size + 1 ≤ 9223372036854775807
                                  · rw [if_pos c59] at H
                                    have c59b0 := eq_true c59
                                    have c59b1 : decide (t131.size + 1 ≤ 9223372036854775807) = true := decide_eq_true c59
                                    try have c59b2 : (9223372036854775807 < t131.size + 1) = False := eq_false (Nat.not_lt.2 c59)
                                    try (have c59b3 := c59b2; simp only [ByteArray.size_append, Go.Proofs.Wy.size_lit, List.length_cons, List.length_nil, Nat.reduceAdd] at c59b3)
                                    replace H := Option.bind_eq_some_iff.mp H
                                    obtain ⟨t132, A600, H⟩ := H
                                    replace H : (if (t131 ++ (⟨#[32]⟩ : ByteArray)).size + t132.size ≤ 9223372036854775807 then (some ((t131 ++ (⟨#[32]⟩ : ByteArray)) ++ t132, true)) else (none)) = some (r1, r2) := H
                                    have A60 := Aside0.mk A600
                                    clear A600
                                    by_cases c61 : (t131 ++ (⟨#[32]⟩ : ByteArray)).size + t132.size ≤ 9223372036854775807
                                    · rw [if_pos c61] at H
                                      have c61b0 := eq_true c61
                                      have c61b1 : decide ((t131 ++ (⟨#[32]⟩ : ByteArray)).size + t132.size ≤ 9223372036854775807) = true := decide_eq_true c61
                                      try have c61b2 : (9223372036854775807 < (t131 ++ (⟨#[32]⟩ : ByteArray)).size + t132.size) = False := eq_false (Nat.not_lt.2 c61)
                                      try (have c61b3 := c61b2; simp only [ByteArray.size_append, Go.Proofs.Wy.size_lit, List.length_cons, List.length_nil, Nat.reduceAdd] at c61b3)
                                      simp only [Option.some.injEq, Prod.mk.injEq] at H
                                      obtain ⟨rfl, rfl⟩ := H
                                      have p117 : 0 ≤ (1 : Int) := (by omega)
                                      have q117 : 1 < (t101.length : Int) := of_decide_eq_true (by first | (with_reducible assumption) | assumption)
                                      obtain ⟨ad117, e117, hx117_0⟩ := Kd.at_string (Kd.R_reads' HO_4.out).2.2 1 p117 q117
                                      obtain rfl : ad105 = ad117 := (by injection e117)
                                      (try simp only [show (1 : Int).toNat = 1 from rfl, Nat.reduceMul, Nat.reduceEqDiff, Go.Addr.add, ↓reduceIte] at hx117_0)
                                      have qi117 : (1 < t101.length) = True := eq_true (by omega)
                                      (try rw [show ((1 : Int)).toNat = 1 from rfl] at hx117_0)
                                      replace p117 := eq_true p117
                                      replace q117 := eq_true q117
                                      try go_wp2_with (first | ((with_reducible refine gate_callee (f := 34) rfl ?_); refine goesL_ (some 81) rfl rfl Tryz.func34 (by kernel_rfl) rfl #[.string (rdOf ByteArray.empty t101 1)] rfl (by (try simp only [List.map_toArray, List.map_cons, List.map_nil]); first | done | rfl | (simp only [List.length_drop, List.length_take]; rfl)) ?_; (with_reducible refine (withylaw28_bytes.calls (rdOf ByteArray.empty t101 1) t118 true _ A40.out).mono ?_); rintro e w62 ⟨rfl, hb⟩; refine ⟨_, rfl, ?_⟩; have n0_ := Aside0.mk (Kd.R_below (by (with_reducible repeat (first | apply Kd.R_alloc | apply Kd.R_drewN | apply Kd.R_drew)); exact HO_4.out) hb); have n1_ := Aside0.mk (below_step (by repeat (first | (with_reducible first | exact HB.out | apply below_alloc | apply pw_below_drewN | apply below_drew1) | exact HB.out)) hb); clear HO_4; clear HB; have HO_4 := n0_; have HB := n1_; clear n0_ n1_; (try clear hb); (try clear hb2); (try clear hk); (try clear hi); have p120 : 0 ≤ (0 : Int) := (by omega); have q120 : 0 < (t101.length : Int) := of_decide_eq_true (by first | (with_reducible assumption) | assumption); obtain ⟨ad120, e120, hx120_0⟩ := Kd.at_string (Kd.R_reads' HO_4.out).2.2 0 p120 q120; obtain rfl : ad105 = ad120 := (by injection e120); have qi120 : (0 < t101.length) = True := eq_true (by omega); (try rw [show ((0 : Int)).toNat = 0 from rfl] at hx120_0); (try rw [Addr.add_zero'] at hx120_0); replace p120 := eq_true p120; replace q120 := eq_true q120; have p123 : 0 ≤ (0 : Int) := (by omega); have q123 : 0 < (t101.length : Int) := of_decide_eq_true (by first | (with_reducible assumption) | assumption); obtain ⟨ad123, e123, hx123_0⟩ := Kd.at_string (Kd.R_reads' HO_4.out).2.2 0 p123 q123; obtain rfl : ad105 = ad123 := (by injection e123); have qi123 : (0 < t101.length) = True := eq_true (by omega); (try rw [show ((0 : Int)).toNat = 0 from rfl] at hx123_0); (try rw [Addr.add_zero'] at hx123_0); replace p123 := eq_true p123; replace q123 := eq_true q123; have p126 : 0 ≤ (0 : Int) := (by omega); have q126 : 0 < (t101.length : Int) := of_decide_eq_true (by first | (with_reducible assumption) | assumption); obtain ⟨ad126, e126, hx126_0⟩ := Kd.at_string (Kd.R_reads' HO_4.out).2.2 0 p126 q126; obtain rfl : ad105 = ad126 := (by injection e126); have qi126 : (0 < t101.length) = True := eq_true (by omega); (try rw [show ((0 : Int)).toNat = 0 from rfl] at hx126_0); (try rw [Addr.add_zero'] at hx126_0); replace p126 := eq_true p126; replace q126 := eq_true q126) | ((with_reducible refine gate_callee (f := 36) rfl ?_); refine goesL_ (some 110) rfl rfl Tryz.func36 (by kernel_rfl) rfl #[.string t118] rfl (by (try simp only [List.map_toArray, List.map_cons, List.map_nil]); first | done | rfl | (simp only [List.length_drop, List.length_take]; rfl)) ?_; (with_reducible refine (withyref1_Unframe.calls t118 t127 t128 t129 _ A56.out).mono ?_); rintro e w63 ⟨rfl, hb⟩; refine ⟨_, rfl, ?_⟩; have n0_ := Aside0.mk (Kd.R_below (by (with_reducible repeat (first | apply Kd.R_alloc | apply Kd.R_drewN | apply Kd.R_drew)); exact HO_4.out) hb); have n1_ := Aside0.mk (below_step (by repeat (first | (with_reducible first | exact HB.out | apply below_alloc | apply pw_below_drewN | apply below_drew1) | exact HB.out)) hb); clear HO_4; clear HB; have HO_4 := n0_; have HB := n1_; clear n0_ n1_; (try clear hb); (try clear hb2); (try clear hk); (try clear hi)) | ((with_reducible refine gate_dst (N := 13) rfl ?_); refine box_event ?hg (N := 13) ?hd (cs := #[.int .i64 0, .string (⟨#[]⟩ : ByteArray)]) (t := 69) ?hr ?_; (case hd => rfl); (case hg => rfl); (case hr => first | (go_simp; done) | (go_simp; rfl)); intro gb130 hg w64 hbox hb; have n0_ := Aside0.mk (Kd.R_below (by (with_reducible repeat (first | apply Kd.R_alloc | apply Kd.R_drewN | apply Kd.R_drew)); exact HO_4.out) hb); have n1_ := Aside0.mk (below_step (by repeat (first | (with_reducible first | exact HB.out | apply below_alloc | apply pw_below_drewN | apply below_drew1) | exact HB.out)) hb); have n2_ := Aside0.mk (hbox); have n3_ := Aside0.mk ((by rw [hg]; exact (below_size (by repeat (first | (with_reducible first | exact HB.out | apply below_alloc | apply pw_below_drewN | apply below_drew1) | exact HB.out))) : w.heap.size ≤ gb130)); have n4_ := Aside0.mk ((by rw [hg]; exact (below_size (by repeat (first | (with_reducible first | exact HB.out | apply below_alloc | apply pw_below_drewN | apply below_drew1) | exact HB.out))) : w.heap.size ≤ gb130)); clear HO_4; clear HB; have HO_4 := n0_; have HB := n1_; have BK130 := n2_; have GW130 := n3_; have GE130 := n4_; clear n0_ n1_ n2_ n3_ n4_; clear hb hbox hg; have hcz65_0 : w64.cell? ⟨gb130, 0, none⟩ = some (.int .i64 0) := (blk_cell BK130.out 0).trans rfl; have hcz65_1 : w64.cell? ⟨gb130, 1, none⟩ = some (.string (⟨#[]⟩ : ByteArray)) := (blk_cell BK130.out 1).trans rfl; have hfz65_0 := blk_frozen BK130.out 0; have hfz65_1 := blk_frozen BK130.out 1))
                                      have n0_ : Aside0 (Kd.R Kd.string 9 ((w64.setCell ⟨gb130, 0, none⟩ (.int .i64 t127)).setCell ⟨gb130, 1, none⟩ (.string t128)) w.heap.size (fun _ => True) (.slice (some ad105) t101.length co14) t101) := ⟨by (with_reducible repeat (first | apply Kd.R_alloc | apply Kd.R_drewN | apply Kd.R_drew)); exact Kd.R_mono (Kd.R_far (p := ⟨gb130, 1, none⟩) (Kd.R_far (p := ⟨gb130, 0, none⟩) (Kd.R_types HO_4.out BK130.out (by decide)) (fun _ hk => hk.2) (.int .i64 t127)) (fun _ hk => hk.2) (.string t128)) (fun _ hk => trivial)⟩
                                      have n1_ : Aside0 (((w64.setCell ⟨gb130, 0, none⟩ (.int .i64 t127)).setCell ⟨gb130, 1, none⟩ (.string t128)).heap[gb130]? = some (.cells #[.int .i64 t127, .string t128] 69 (0, 0))) := ⟨by (with_reducible repeat (first | refine blk_drewN ?_ _ | refine blk_drew ?_ | refine blk_alloc ?_ _)); refine blk_put (cs := #[.int .i64 t127, .string (⟨#[]⟩ : ByteArray)]) ?_ 1 _ rfl; (with_reducible repeat (first | refine blk_drewN ?_ _ | refine blk_drew ?_ | refine blk_alloc ?_ _)); refine blk_put (cs := #[.int .i64 0, .string (⟨#[]⟩ : ByteArray)]) ?_ 0 _ rfl; (with_reducible repeat (first | refine blk_drewN ?_ _ | refine blk_drew ?_ | refine blk_alloc ?_ _)); exact BK130.out⟩
                                      have n2_ : Aside0 (Below w.heap.size w ((w64.setCell ⟨gb130, 0, none⟩ (.int .i64 t127)).setCell ⟨gb130, 1, none⟩ (.string t128))) := ⟨by repeat (first | (with_reducible first | exact HB.out | apply below_alloc | apply pw_below_drewN | apply below_drew1 | refine below_set ?_ GE130.out) | exact HB.out)⟩
                                      (try clear HO_4)
                                      (try clear BK130)
                                      (try clear HB)
                                      generalize ((w64.setCell ⟨gb130, 0, none⟩ (.int .i64 t127)).setCell ⟨gb130, 1, none⟩ (.string t128)) = w66 at n0_ n1_ n2_ ⊢
                                      have HO_4 := n0_
                                      have BK130 := n1_
                                      have HB := n2_
                                      clear n0_ n1_ n2_
                                      have n0_ := Aside0.mk (Kd.R_drew HO_4.out)
                                      have n1_ := Aside0.mk (blk_drew BK130.out)
                                      have n2_ := Aside0.mk (below_drew1 HB.out)
                                      clear HO_4
                                      clear BK130
                                      clear HB
                                      have HO_4 := n0_
                                      have BK130 := n1_
                                      have HB := n2_
                                      clear n0_ n1_ n2_
                                      refine start_ (n := 10) (S := fun w' => w'.cell? ⟨gb130, 0, none⟩ = some (.int .i64 t127) ∧ w'.cell? ⟨gb130, 1, none⟩ = some (.string t128)) (ds := []) #[false, false, false, false, false, false, false, false, false, false] (by kernel_rfl) rfl rfl ⟨(blk_cell BK130.out 0).trans rfl, (blk_cell BK130.out 1).trans rfl⟩ (fun hHeld => ?_); refine with_tabW withylaw28_tells.tab33 withylaw28_tells.bits33 (fun HT_ HW_ => ?_)
                                      generalize w66.drew = w67 at HO_4 BK130 HB hHeld ⊢
                                      refine pure_ (i := 0) (N := some 117) (v := ?_) (a' := ?_) #[true, false, false, false, false, false, false, false, false, false] rfl rfl (any_of HT_.out (by kernel_rfl)) (fun _ _ _ h => h) (Or.inl ⟨by rfl, ?_⟩) ?_ ?_
                                      rotate_left
                                      · intro w'
                                        go_simp
                                        with_reducible rfl
                                      rotate_left
                                      · simp only [Act.put, List.setIfInBounds_toArray, List.set_cons_zero, List.set_cons_succ, i64_w, i32_w]
                                        rfl
                                      refine pure_ (i := 4) (N := some 121) (v := ?_) (a' := ?_) #[true, false, false, false, true, false, false, false, false, false] rfl rfl (any_of HT_.out (by kernel_rfl)) (fun _ _ _ h => h) (Or.inl ⟨by rfl, ?_⟩) ?_ ?_
                                      rotate_left
                                      · intro w'
                                        go_simp
                                        with_reducible rfl
                                      rotate_left
                                      · simp only [Act.put, List.setIfInBounds_toArray, List.set_cons_zero, List.set_cons_succ, i64_w, i32_w]
                                        rfl
                                      refine take_ (i := 1) (N := some 118) (v := ?_) (a' := ?_) #[true, true, false, false, true, false, false, false, false, false] rfl rfl (take_ofW HT_.out HW_.out (by kernel_rfl)) (fun _ _ _ h => h) (Or.inl ⟨by rfl, ?_⟩) hHeld ?_ ?_
                                      rotate_left
                                      · rintro w' ⟨s0, s1⟩
                                        go_simp
                                        with_reducible rfl
                                      rotate_left
                                      · simp only [Act.put, List.setIfInBounds_toArray, List.set_cons_zero, List.set_cons_succ, i64_w, i32_w]
                                        rfl
                                      refine take_ (i := 5) (N := some 122) (v := ?_) (a' := ?_) #[true, true, false, false, true, true, false, false, false, false] rfl rfl (take_ofW HT_.out HW_.out (by kernel_rfl)) (fun _ _ _ h => h) (Or.inl ⟨by rfl, ?_⟩) hHeld ?_ ?_
                                      rotate_left
                                      · rintro w' ⟨s0, s1⟩
                                        go_simp
                                        with_reducible rfl
                                      rotate_left
                                      · simp only [Act.put, List.setIfInBounds_toArray, List.set_cons_zero, List.set_cons_succ, i64_w, i32_w]
                                        rfl
                                      refine one_ (i := 2) (N := some 119) #[true, true, true, false, true, true, false, false, false, false] rfl rfl (one_of HT_.out (by kernel_rfl)) (by decide) (fun K hK => ?_)
                                      refine goes_ Tryz.func17 (by kernel_rfl) rfl #[.int .i64 t127] (by rfl) rfl rfl (by (try simp only [List.map_toArray, List.map_cons, List.map_nil]); first | done | rfl | (simp only [List.length_drop, List.length_take]; rfl)) ?_
                                      with_reducible refine (withyref0_Decimal.calls t127 t131 _ A58.out).mono ?_
                                      rintro e w68 ⟨rfl, hb⟩
                                      refine ⟨_, rfl, ?_⟩
                                      have n0_ := Aside0.mk (Kd.R_below (by (with_reducible repeat (first | apply Kd.R_alloc | apply Kd.R_drewN | apply Kd.R_drew)); exact HO_4.out) hb)
                                      have n1_ := Aside0.mk (blk_below (g := gb130) (o := .cells #[.int .i64 t127, .string t128] 69 (0, 0)) (by (with_reducible repeat (first | refine blk_drewN ?_ _ | refine blk_drew ?_ | refine blk_alloc ?_ _)); exact BK130.out) hb)
                                      have n2_ := Aside0.mk (below_step (by repeat (first | (with_reducible first | exact HB.out | apply below_alloc | apply pw_below_drewN | apply below_drew1 | refine below_set ?_ GE130.out) | exact HB.out)) hb)
                                      clear HO_4
                                      clear BK130
                                      clear HB
                                      have HO_4 := n0_
                                      have BK130 := n1_
                                      have HB := n2_
                                      clear n0_ n1_ n2_
                                      (try clear hb)
                                      (try clear hb2)
                                      (try clear hk)
                                      (try clear hi)
                                      refine hK.out _ _ ⟨(blk_cell BK130.out 0).trans rfl, (blk_cell BK130.out 1).trans rfl⟩ (fun hHeld => ?_)
                                      clear hK K
                                      refine norm_ (a' := ?_) ?_ ?_
                                      rotate_left
                                      · show Act.put _ (some 119) _ = _
                                        simp only [Act.put, List.setIfInBounds_toArray, List.set_cons_zero, List.set_cons_succ, i64_w, i32_w]
                                        rfl
                                      refine pure_ (i := 3) (N := some 120) (v := ?_) (a' := ?_) #[true, true, true, true, true, true, false, false, false, false] rfl rfl (any_of HT_.out (by kernel_rfl)) (fun _ _ _ h => h) (Or.inl ⟨by rfl, ?_⟩) ?_ ?_
                                      rotate_left
                                      · intro w'
                                        go_simp
                                        with_reducible rfl
                                      rotate_left
                                      · simp only [Act.put, List.setIfInBounds_toArray, List.set_cons_zero, List.set_cons_succ, i64_w, i32_w]
                                        rfl
                                      refine one_ (i := 6) (N := some 123) #[true, true, true, true, true, true, true, false, false, false] rfl rfl (one_of HT_.out (by kernel_rfl)) (by decide) (fun K hK => ?_)
                                      refine goes_ Tryz.func18 (by kernel_rfl) rfl #[.string t128] (by rfl) rfl rfl (by (try simp only [List.map_toArray, List.map_cons, List.map_nil]); first | done | rfl | (simp only [List.length_drop, List.length_take]; rfl)) ?_
                                      with_reducible refine (withylaw28_hex.calls t128 t132 _ A60.out).mono ?_
                                      rintro e w69 ⟨rfl, hb⟩
                                      refine ⟨_, rfl, ?_⟩
                                      have n0_ := Aside0.mk (Kd.R_below (by (with_reducible repeat (first | apply Kd.R_alloc | apply Kd.R_drewN | apply Kd.R_drew)); exact HO_4.out) hb)
                                      have n1_ := Aside0.mk (blk_below (g := gb130) (o := .cells #[.int .i64 t127, .string t128] 69 (0, 0)) (by (with_reducible repeat (first | refine blk_drewN ?_ _ | refine blk_drew ?_ | refine blk_alloc ?_ _)); exact BK130.out) hb)
                                      have n2_ := Aside0.mk (below_step (by repeat (first | (with_reducible first | exact HB.out | apply below_alloc | apply pw_below_drewN | apply below_drew1 | refine below_set ?_ GE130.out) | exact HB.out)) hb)
                                      clear HO_4
                                      clear BK130
                                      clear HB
                                      have HO_4 := n0_
                                      have BK130 := n1_
                                      have HB := n2_
                                      clear n0_ n1_ n2_
                                      (try clear hb)
                                      (try clear hb2)
                                      (try clear hk)
                                      (try clear hi)
                                      refine hK.out _ _ ⟨(blk_cell BK130.out 0).trans rfl, (blk_cell BK130.out 1).trans rfl⟩ (fun hHeld => ?_)
                                      clear hK K
                                      refine norm_ (a' := ?_) ?_ ?_
                                      rotate_left
                                      · show Act.put _ (some 123) _ = _
                                        simp only [Act.put, List.setIfInBounds_toArray, List.set_cons_zero, List.set_cons_succ, i64_w, i32_w]
                                        rfl
                                      refine pure_ (i := 7) (N := some 124) (v := ?_) (a' := ?_) #[true, true, true, true, true, true, true, true, false, false] rfl rfl (any_of HT_.out (by kernel_rfl)) (fun _ _ _ h => h) (Or.inl ⟨by rfl, ?_⟩) ?_ ?_
                                      rotate_left
                                      · intro w'
                                        go_simp
                                        with_reducible rfl
                                      rotate_left
                                      · simp only [Act.put, List.setIfInBounds_toArray, List.set_cons_zero, List.set_cons_succ, i64_w, i32_w]
                                        rfl
                                      refine pure_ (i := 8) (N := some 2) (v := ?_) (a' := ?_) #[true, true, true, true, true, true, true, true, true, false] rfl rfl (any_of HT_.out (by kernel_rfl)) (fun _ _ _ h => h) (Or.inl ⟨by rfl, ?_⟩) ?_ ?_
                                      rotate_left
                                      · intro w'
                                        go_simp
                                        with_reducible rfl
                                      rotate_left
                                      · simp only [Act.put, List.setIfInBounds_toArray, List.set_cons_zero, List.set_cons_succ, i64_w, i32_w]
                                        rfl
                                      refine pure_ (i := 9) (N := some 3) (v := ?_) (a' := ?_) #[true, true, true, true, true, true, true, true, true, true] rfl rfl (any_of HT_.out (by kernel_rfl)) (fun _ _ _ h => h) (Or.inl ⟨by rfl, ?_⟩) ?_ ?_
                                      rotate_left
                                      · intro w'
                                        go_simp
                                        with_reducible rfl
                                      rotate_left
                                      · simp only [Act.put, List.setIfInBounds_toArray, List.set_cons_zero, List.set_cons_succ, i64_w, i32_w]
                                        rfl
                                      refine done_ (done_of HT_.out (by kernel_rfl)) ?_
                                      try go_wp2
                                      go_ret2
                                      exact ⟨by first | rfl | (simp [errW_none, errW_some] <;> rfl) | (simp [*, errW_none, errW_some] <;> rfl), by repeat (first | (with_reducible first | exact HB.out | apply below_alloc | apply pw_below_drewN | apply below_drew1 | refine below_set ?_ GE130.out) | exact HB.out)⟩
                                    · rw [if_neg c61] at H
                                      exact absurd H (by simp)
                                  · rw [if_neg c59] at H
                                    exact absurd H (by simp)
                                · rw [if_neg c57] at H
                                  have c57b0 : (t129 == 0) = false := beq_eq_false_iff_ne.mpr c57
                                  have c57b1 : (t129 != 0) = true := bne_iff_ne.mpr c57
                                  replace H := Option.bind_eq_some_iff.mp H
                                  obtain ⟨t133, A700, H⟩ := H
                                  replace H : (some (t133, true)) = some (r1, r2) := H
                                  have A70 := Aside0.mk A700
                                  clear A700
                                  simp only [Option.some.injEq, Prod.mk.injEq] at H
                                  obtain ⟨rfl, rfl⟩ := H
                                  have p117 : 0 ≤ (1 : Int) := (by omega)
                                  have q117 : 1 < (t101.length : Int) := of_decide_eq_true (by first | (with_reducible assumption) | assumption)
                                  obtain ⟨ad117, e117, hx117_0⟩ := Kd.at_string (Kd.R_reads' HO_4.out).2.2 1 p117 q117
                                  obtain rfl : ad105 = ad117 := (by injection e117)
                                  (try simp only [show (1 : Int).toNat = 1 from rfl, Nat.reduceMul, Nat.reduceEqDiff, Go.Addr.add, ↓reduceIte] at hx117_0)
                                  have qi117 : (1 < t101.length) = True := eq_true (by omega)
                                  (try rw [show ((1 : Int)).toNat = 1 from rfl] at hx117_0)
                                  replace p117 := eq_true p117
                                  replace q117 := eq_true q117
                                  go_wp2_with (first | ((with_reducible refine gate_callee (f := 34) rfl ?_); refine goesL_ (some 81) rfl rfl Tryz.func34 (by kernel_rfl) rfl #[.string (rdOf ByteArray.empty t101 1)] rfl (by (try simp only [List.map_toArray, List.map_cons, List.map_nil]); first | done | rfl | (simp only [List.length_drop, List.length_take]; rfl)) ?_; (with_reducible refine (withylaw28_bytes.calls (rdOf ByteArray.empty t101 1) t118 true _ A40.out).mono ?_); rintro e w71 ⟨rfl, hb⟩; refine ⟨_, rfl, ?_⟩; have n0_ := Aside0.mk (Kd.R_below (by (with_reducible repeat (first | apply Kd.R_alloc | apply Kd.R_drewN | apply Kd.R_drew)); exact HO_4.out) hb); have n1_ := Aside0.mk (below_step (by repeat (first | (with_reducible first | exact HB.out | apply below_alloc | apply pw_below_drewN | apply below_drew1) | exact HB.out)) hb); clear HO_4; clear HB; have HO_4 := n0_; have HB := n1_; clear n0_ n1_; (try clear hb); (try clear hb2); (try clear hk); (try clear hi); have p120 : 0 ≤ (0 : Int) := (by omega); have q120 : 0 < (t101.length : Int) := of_decide_eq_true (by first | (with_reducible assumption) | assumption); obtain ⟨ad120, e120, hx120_0⟩ := Kd.at_string (Kd.R_reads' HO_4.out).2.2 0 p120 q120; obtain rfl : ad105 = ad120 := (by injection e120); have qi120 : (0 < t101.length) = True := eq_true (by omega); (try rw [show ((0 : Int)).toNat = 0 from rfl] at hx120_0); (try rw [Addr.add_zero'] at hx120_0); replace p120 := eq_true p120; replace q120 := eq_true q120; have p123 : 0 ≤ (0 : Int) := (by omega); have q123 : 0 < (t101.length : Int) := of_decide_eq_true (by first | (with_reducible assumption) | assumption); obtain ⟨ad123, e123, hx123_0⟩ := Kd.at_string (Kd.R_reads' HO_4.out).2.2 0 p123 q123; obtain rfl : ad105 = ad123 := (by injection e123); have qi123 : (0 < t101.length) = True := eq_true (by omega); (try rw [show ((0 : Int)).toNat = 0 from rfl] at hx123_0); (try rw [Addr.add_zero'] at hx123_0); replace p123 := eq_true p123; replace q123 := eq_true q123; have p126 : 0 ≤ (0 : Int) := (by omega); have q126 : 0 < (t101.length : Int) := of_decide_eq_true (by first | (with_reducible assumption) | assumption); obtain ⟨ad126, e126, hx126_0⟩ := Kd.at_string (Kd.R_reads' HO_4.out).2.2 0 p126 q126; obtain rfl : ad105 = ad126 := (by injection e126); have qi126 : (0 < t101.length) = True := eq_true (by omega); (try rw [show ((0 : Int)).toNat = 0 from rfl] at hx126_0); (try rw [Addr.add_zero'] at hx126_0); replace p126 := eq_true p126; replace q126 := eq_true q126) | ((with_reducible refine gate_callee (f := 36) rfl ?_); refine goesL_ (some 110) rfl rfl Tryz.func36 (by kernel_rfl) rfl #[.string t118] rfl (by (try simp only [List.map_toArray, List.map_cons, List.map_nil]); first | done | rfl | (simp only [List.length_drop, List.length_take]; rfl)) ?_; (with_reducible refine (withyref1_Unframe.calls t118 t127 t128 t129 _ A56.out).mono ?_); rintro e w72 ⟨rfl, hb⟩; refine ⟨_, rfl, ?_⟩; have n0_ := Aside0.mk (Kd.R_below (by (with_reducible repeat (first | apply Kd.R_alloc | apply Kd.R_drewN | apply Kd.R_drew)); exact HO_4.out) hb); have n1_ := Aside0.mk (below_step (by repeat (first | (with_reducible first | exact HB.out | apply below_alloc | apply pw_below_drewN | apply below_drew1) | exact HB.out)) hb); clear HO_4; clear HB; have HO_4 := n0_; have HB := n1_; clear n0_ n1_; (try clear hb); (try clear hb2); (try clear hk); (try clear hi)) | ((with_reducible refine gate_dst (N := 13) rfl ?_); refine box_event ?hg (N := 13) ?hd (cs := #[.int .i64 0, .string (⟨#[]⟩ : ByteArray)]) (t := 69) ?hr ?_; (case hd => rfl); (case hg => rfl); (case hr => first | (go_simp; done) | (go_simp; rfl)); intro gb130 hg w73 hbox hb; have n0_ := Aside0.mk (Kd.R_below (by (with_reducible repeat (first | apply Kd.R_alloc | apply Kd.R_drewN | apply Kd.R_drew)); exact HO_4.out) hb); have n1_ := Aside0.mk (below_step (by repeat (first | (with_reducible first | exact HB.out | apply below_alloc | apply pw_below_drewN | apply below_drew1) | exact HB.out)) hb); have n2_ := Aside0.mk (hbox); have n3_ := Aside0.mk ((by rw [hg]; exact (below_size (by repeat (first | (with_reducible first | exact HB.out | apply below_alloc | apply pw_below_drewN | apply below_drew1) | exact HB.out))) : w.heap.size ≤ gb130)); have n4_ := Aside0.mk ((by rw [hg]; exact (below_size (by repeat (first | (with_reducible first | exact HB.out | apply below_alloc | apply pw_below_drewN | apply below_drew1) | exact HB.out))) : w.heap.size ≤ gb130)); clear HO_4; clear HB; have HO_4 := n0_; have HB := n1_; have BK130 := n2_; have GW130 := n3_; have GE130 := n4_; clear n0_ n1_ n2_ n3_ n4_; clear hb hbox hg; have hcz74_0 : w73.cell? ⟨gb130, 0, none⟩ = some (.int .i64 0) := (blk_cell BK130.out 0).trans rfl; have hcz74_1 : w73.cell? ⟨gb130, 1, none⟩ = some (.string (⟨#[]⟩ : ByteArray)) := (blk_cell BK130.out 1).trans rfl; have hfz74_0 := blk_frozen BK130.out 0; have hfz74_1 := blk_frozen BK130.out 1) | ((with_reducible refine gate_callee (f := 12) rfl ?_); refine goesL_ (some 116) rfl rfl Tryz.func12 (by kernel_rfl) rfl #[.int .i64 t129] rfl (by (try simp only [List.map_toArray, List.map_cons, List.map_nil]); first | done | rfl | (simp only [List.length_drop, List.length_take]; rfl)) ?_; (with_reducible refine (withylaw28_wrong.calls t129 t133 _ A70.out).mono ?_); rintro e w75 ⟨rfl, hb⟩; refine ⟨_, rfl, ?_⟩; have n0_ := Aside0.mk (Kd.R_below (by (with_reducible repeat (first | apply Kd.R_alloc | apply Kd.R_drewN | apply Kd.R_drew)); exact (Kd.R_mono (Kd.R_far (p := ⟨gb130, 1, none⟩) (Kd.R_far (p := ⟨gb130, 0, none⟩) (Kd.R_types HO_4.out BK130.out (by decide)) (fun _ hk => hk.2) (.int .i64 t127)) (fun _ hk => hk.2) (.string t128)) (fun _ h_ => h_.1))) hb); have n1_ := Aside0.mk (blk_below (g := gb130) (o := .cells #[.int .i64 t127, .string t128] 69 (0, 0)) (by (with_reducible repeat (first | refine blk_drewN ?_ _ | refine blk_drew ?_ | refine blk_alloc ?_ _)); refine blk_put (cs := #[.int .i64 t127, .string (⟨#[]⟩ : ByteArray)]) ?_ 1 _ rfl; (with_reducible repeat (first | refine blk_drewN ?_ _ | refine blk_drew ?_ | refine blk_alloc ?_ _)); refine blk_put (cs := #[.int .i64 0, .string (⟨#[]⟩ : ByteArray)]) ?_ 0 _ rfl; (with_reducible repeat (first | refine blk_drewN ?_ _ | refine blk_drew ?_ | refine blk_alloc ?_ _)); exact BK130.out) hb); have n2_ := Aside0.mk (below_step (by repeat (first | (with_reducible first | exact HB.out | apply below_alloc | apply pw_below_drewN | apply below_drew1 | refine below_set ?_ GE130.out) | exact HB.out)) hb); clear HO_4; clear BK130; clear HB; have HO_4 := n0_; have BK130 := n1_; have HB := n2_; clear n0_ n1_ n2_; (try clear hb); (try clear hb2); (try clear hk); (try clear hi)))
                                  go_ret2
                                  exact ⟨by first | rfl | (simp [errW_none, errW_some] <;> rfl) | (simp [*, errW_none, errW_some] <;> rfl), by repeat (first | (with_reducible first | exact HB.out | apply below_alloc | apply pw_below_drewN | apply below_drew1 | refine below_set ?_ GE130.out) | exact HB.out)⟩
                              · rw [if_neg c55] at H
                                have c55b0 : ((rdOf ByteArray.empty t101 0).toList == ([117, 110, 102, 114, 97, 109, 101] : List UInt8)) = false := beq_eq_false_iff_ne.mpr c55
                                have c55b1 : ((rdOf ByteArray.empty t101 0).toList != ([117, 110, 102, 114, 97, 109, 101] : List UInt8)) = true := bne_iff_ne.mpr c55
                                simp only [Option.some.injEq, Prod.mk.injEq] at H
                                obtain ⟨rfl, rfl⟩ := H
                                have p117 : 0 ≤ (1 : Int) := (by omega)
                                have q117 : 1 < (t101.length : Int) := of_decide_eq_true (by first | (with_reducible assumption) | assumption)
                                obtain ⟨ad117, e117, hx117_0⟩ := Kd.at_string (Kd.R_reads' HO_4.out).2.2 1 p117 q117
                                obtain rfl : ad105 = ad117 := (by injection e117)
                                (try simp only [show (1 : Int).toNat = 1 from rfl, Nat.reduceMul, Nat.reduceEqDiff, Go.Addr.add, ↓reduceIte] at hx117_0)
                                have qi117 : (1 < t101.length) = True := eq_true (by omega)
                                (try rw [show ((1 : Int)).toNat = 1 from rfl] at hx117_0)
                                replace p117 := eq_true p117
                                replace q117 := eq_true q117
                                go_wp2_with (first | ((with_reducible refine gate_callee (f := 34) rfl ?_); refine goesL_ (some 81) rfl rfl Tryz.func34 (by kernel_rfl) rfl #[.string (rdOf ByteArray.empty t101 1)] rfl (by (try simp only [List.map_toArray, List.map_cons, List.map_nil]); first | done | rfl | (simp only [List.length_drop, List.length_take]; rfl)) ?_; (with_reducible refine (withylaw28_bytes.calls (rdOf ByteArray.empty t101 1) t118 true _ A40.out).mono ?_); rintro e w76 ⟨rfl, hb⟩; refine ⟨_, rfl, ?_⟩; have n0_ := Aside0.mk (Kd.R_below (by (with_reducible repeat (first | apply Kd.R_alloc | apply Kd.R_drewN | apply Kd.R_drew)); exact HO_4.out) hb); have n1_ := Aside0.mk (below_step (by repeat (first | (with_reducible first | exact HB.out | apply below_alloc | apply pw_below_drewN | apply below_drew1) | exact HB.out)) hb); clear HO_4; clear HB; have HO_4 := n0_; have HB := n1_; clear n0_ n1_; (try clear hb); (try clear hb2); (try clear hk); (try clear hi); have p120 : 0 ≤ (0 : Int) := (by omega); have q120 : 0 < (t101.length : Int) := of_decide_eq_true (by first | (with_reducible assumption) | assumption); obtain ⟨ad120, e120, hx120_0⟩ := Kd.at_string (Kd.R_reads' HO_4.out).2.2 0 p120 q120; obtain rfl : ad105 = ad120 := (by injection e120); have qi120 : (0 < t101.length) = True := eq_true (by omega); (try rw [show ((0 : Int)).toNat = 0 from rfl] at hx120_0); (try rw [Addr.add_zero'] at hx120_0); replace p120 := eq_true p120; replace q120 := eq_true q120; have p123 : 0 ≤ (0 : Int) := (by omega); have q123 : 0 < (t101.length : Int) := of_decide_eq_true (by first | (with_reducible assumption) | assumption); obtain ⟨ad123, e123, hx123_0⟩ := Kd.at_string (Kd.R_reads' HO_4.out).2.2 0 p123 q123; obtain rfl : ad105 = ad123 := (by injection e123); have qi123 : (0 < t101.length) = True := eq_true (by omega); (try rw [show ((0 : Int)).toNat = 0 from rfl] at hx123_0); (try rw [Addr.add_zero'] at hx123_0); replace p123 := eq_true p123; replace q123 := eq_true q123; have p126 : 0 ≤ (0 : Int) := (by omega); have q126 : 0 < (t101.length : Int) := of_decide_eq_true (by first | (with_reducible assumption) | assumption); obtain ⟨ad126, e126, hx126_0⟩ := Kd.at_string (Kd.R_reads' HO_4.out).2.2 0 p126 q126; obtain rfl : ad105 = ad126 := (by injection e126); have qi126 : (0 < t101.length) = True := eq_true (by omega); (try rw [show ((0 : Int)).toNat = 0 from rfl] at hx126_0); (try rw [Addr.add_zero'] at hx126_0); replace p126 := eq_true p126; replace q126 := eq_true q126))
                                go_ret2
                                exact ⟨by first | rfl | (simp [errW_none, errW_some] <;> rfl) | (simp [*, errW_none, errW_some] <;> rfl), by repeat (first | (with_reducible first | exact HB.out | apply below_alloc | apply pw_below_drewN | apply below_drew1) | exact HB.out)⟩
                        · rw [if_neg c42] at H
                          exact absurd H (by simp)
                      · replace c41 := Bool.eq_false_iff.mpr c41
                        subst c41
                        have H1 : (some ((⟨#[101, 114, 114, 111, 114, 32, 50, 56, 48, 48]⟩ : ByteArray), true)) = some (r1, r2) := by rw [if_neg (show ¬ (false = true) by decide)] at H; exact H
                        clear H
                        have H := H1
                        clear H1
                        simp only [Option.some.injEq, Prod.mk.injEq] at H
                        obtain ⟨rfl, rfl⟩ := H
                        have p117 : 0 ≤ (1 : Int) := (by omega)
                        have q117 : 1 < (t101.length : Int) := of_decide_eq_true (by first | (with_reducible assumption) | assumption)
                        obtain ⟨ad117, e117, hx117_0⟩ := Kd.at_string (Kd.R_reads' HO_4.out).2.2 1 p117 q117
                        obtain rfl : ad105 = ad117 := (by injection e117)
                        (try simp only [show (1 : Int).toNat = 1 from rfl, Nat.reduceMul, Nat.reduceEqDiff, Go.Addr.add, ↓reduceIte] at hx117_0)
                        have qi117 : (1 < t101.length) = True := eq_true (by omega)
                        (try rw [show ((1 : Int)).toNat = 1 from rfl] at hx117_0)
                        replace p117 := eq_true p117
                        replace q117 := eq_true q117
                        go_wp2_with (first | ((with_reducible refine gate_callee (f := 34) rfl ?_); refine goesL_ (some 81) rfl rfl Tryz.func34 (by kernel_rfl) rfl #[.string (rdOf ByteArray.empty t101 1)] rfl (by (try simp only [List.map_toArray, List.map_cons, List.map_nil]); first | done | rfl | (simp only [List.length_drop, List.length_take]; rfl)) ?_; (with_reducible refine (withylaw28_bytes.calls (rdOf ByteArray.empty t101 1) t118 false _ A40.out).mono ?_); rintro e w77 ⟨rfl, hb⟩; refine ⟨_, rfl, ?_⟩; have n0_ := Aside0.mk (Kd.R_below (by (with_reducible repeat (first | apply Kd.R_alloc | apply Kd.R_drewN | apply Kd.R_drew)); exact HO_4.out) hb); have n1_ := Aside0.mk (below_step (by repeat (first | (with_reducible first | exact HB.out | apply below_alloc | apply pw_below_drewN | apply below_drew1) | exact HB.out)) hb); clear HO_4; clear HB; have HO_4 := n0_; have HB := n1_; clear n0_ n1_; (try clear hb); (try clear hb2); (try clear hk); (try clear hi)))
                        go_ret2
                        exact ⟨by first | rfl | (simp [errW_none, errW_some] <;> rfl) | (simp [*, errW_none, errW_some] <;> rfl), by repeat (first | (with_reducible first | exact HB.out | apply below_alloc | apply pw_below_drewN | apply below_drew1) | exact HB.out)⟩
                    · rw [if_neg c39] at H
                      exact absurd H (by simp)
                  · rw [if_neg c38] at H
                    have c38b0 : ((t101.length : Int) == 2) = false := beq_eq_false_iff_ne.mpr c38
                    have c38b1 : ((t101.length : Int) != 2) = true := bne_iff_ne.mpr c38
                    simp only [Option.some.injEq, Prod.mk.injEq] at H
                    obtain ⟨rfl, rfl⟩ := H
                    go_wp2
                    go_ret2
                    exact ⟨by first | rfl | (simp [errW_none, errW_some] <;> rfl) | (simp [*, errW_none, errW_some] <;> rfl), by repeat (first | (with_reducible first | exact HB.out | apply below_alloc | apply pw_below_drewN | apply below_drew1) | exact HB.out)⟩
        · rw [if_neg c12] at H
          exact absurd H (by simp)

end Go.Proofs.YtlpibobpfafooaaGreatDoor.PU
