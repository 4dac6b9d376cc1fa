/- What the program's functions at this seat come to, each with its walk; written by a program of this repo. -/
import Derived.Test.YtcdlgiabpjkjoaaDoorPM0
import Derived.Test.YtcdlgiabpjkjoaaDoorPM1
namespace Go.Proofs.YtcdlgiabpjkjoaaDoor.PM
open Go.RowKit Go.Proofs.YtcdlgiabpjkjoaaDoorW.PrintWords Go.Proofs.YtcdlgiabpjkjoaaDoorW.PrintLast Go.Proofs.YtcdlgiabpjkjoaaDoorW.PrintMore
attribute [local go_sem] max2_int min2_int max_two min_two max_three min_three max_four min_four   -- for this text's walks alone
set_option linter.unusedVariables false
set_option linter.unusedSimpArgs false

/-! ### withylaw10_FsmDowns: function 7 -/
def withylaw10_FsmDowns.l0 : Nat → Bool → Int → Int → List Int → Int → Bool → Int → Option (Bool)
  | 0, _, _, _, _, _, _, _ => none
  | k + 1, x1, x5, x6, x7, x8, x9, x10 => if x10 < (x7.length : Int) then (if x9 = true then (withylaw10_FsmDowns.l0 k x1 x5 x6 x7 x8 true (wrap64 (x10 + 1))) else (if 0 ≤ x10 then (withylaw10_FsmDowns.l0 k x1 x5 x6 x7 x8 ((rd x7 x10) == 2) (wrap64 (x10 + 1))) else (none))) else ((withylaw0_Num.f x8).bind fun t191 => (if t191 = 0 then (if x6 = 0 then (if (x9 == (x5 == 9)) = true then (if x1 = true then (some (decide (x6 ≤ 1))) else (some true)) else (some false)) else (if x6 = 1 then (if (x9 == (x5 == 9)) = true then (if x1 = true then (some (decide (x6 ≤ 1))) else (some true)) else (some false)) else (some false))) else (some false)))
def withylaw10_FsmDowns.f (k : Nat) (a0 : Int) (a1 : Bool) : Option (Bool) := (withylaw10_awake.f k).bind fun t183 => (if t183 = true then ((fsm_Step.f (wrap64 (Int.tmod (IntKind.u64.wrap (a0)) 10)) 1).bind fun bt184 => (if (wrap64 (Int.tmod (IntKind.u64.wrap (a0)) 10)) ≤ 1 then ((withylaw0_Num.f bt184.2.2).bind fun t189 => (if t189 = 1001 then (some ((bt184.2.1.length : Int) == 0)) else (some false))) else (withylaw10_FsmDowns.l0 k a1 (wrap64 (Int.tmod (IntKind.u64.wrap (a0)) 10)) bt184.1 bt184.2.1 bt184.2.2 false 0))) else (some false))
theorem withylaw10_FsmDowns.mono_l : ∀ k, (∀ y0 y1 y2 y3 y4 y5 y6, LeO (withylaw10_FsmDowns.l0 k y0 y1 y2 y3 y4 y5 y6) (withylaw10_FsmDowns.l0 (k + 1) y0 y1 y2 y3 y4 y5 y6))
  | 0 => fun _ _ _ _ _ _ _ r h => by simp [withylaw10_FsmDowns.l0] at h
  | k + 1 => by
    have ih0 := withylaw10_FsmDowns.mono_l k
    · intro y0 y1 y2 y3 y4 y5 y6
      unfold withylaw10_FsmDowns.l0
      repeat' first
      | (with_reducible exact ih0 _ _ _ _ _ _ _)
      | (with_reducible exact withylaw10_awake.mono _)
      | (with_reducible exact LeO.refl _)
      | (with_reducible exact LeO.none _)
      | (with_reducible refine LeO.ite ?_ ?_)
      | (with_reducible refine LeO.bind ?_ (fun _ => ?_))
      | exact ih0 _ _ _ _ _ _ _
      | exact withylaw10_awake.mono _
      | exact LeO.none _
      | refine LeO.ite ?_ ?_
      | refine LeO.bind ?_ (fun _ => ?_)
theorem withylaw10_FsmDowns.mono : ∀ a0 a1 k, LeO (withylaw10_FsmDowns.f k a0 a1) (withylaw10_FsmDowns.f (k + 1) a0 a1) := by
  intro a0 a1 k
  have ih0 := withylaw10_FsmDowns.mono_l k
  unfold withylaw10_FsmDowns.f
  repeat' first
      | (with_reducible exact ih0 _ _ _ _ _ _ _)
      | (with_reducible exact withylaw10_awake.mono _)
      | (with_reducible exact LeO.refl _)
      | (with_reducible exact LeO.none _)
      | (with_reducible refine LeO.ite ?_ ?_)
      | (with_reducible refine LeO.bind ?_ (fun _ => ?_))
      | exact ih0 _ _ _ _ _ _ _
      | exact withylaw10_awake.mono _
      | exact LeO.none _
      | refine LeO.ite ?_ ?_
      | refine LeO.bind ?_ (fun _ => ?_)
set_option maxHeartbeats 8000000 in
set_option maxRecDepth 100000 in
theorem withylaw10_FsmDowns.calls (k : Nat) (a0 : Int) (a1 : Bool) (r : Bool) (w : World) (h : withylaw10_FsmDowns.f k a0 a1 = some r) :
    Calls Tryd.prog 7 #[.int .i64 a0, .bool a1] w fun e w' => e = .returned (.bool r) ∧ Below w.heap.size w w' := by
  have HB := Aside0.mk (Below.refl w.heap.size w)
  have H : ((withylaw10_awake.f k).bind fun t183 => (if t183 = true then ((fsm_Step.f (wrap64 (Int.tmod (IntKind.u64.wrap (a0)) 10)) 1).bind fun bt184 => (if (wrap64 (Int.tmod (IntKind.u64.wrap (a0)) 10)) ≤ 1 then ((withylaw0_Num.f bt184.2.2).bind fun t189 => (if t189 = 1001 then (some ((bt184.2.1.length : Int) == 0)) else (some false))) else (withylaw10_FsmDowns.l0 k a1 (wrap64 (Int.tmod (IntKind.u64.wrap (a0)) 10)) bt184.1 bt184.2.1 bt184.2.2 false 0))) else (some false))) = some r := h
  clear h
  replace H := Option.bind_eq_some_iff.mp H
  obtain ⟨t183, A30, H⟩ := H
  replace H : (if t183 = true then ((fsm_Step.f (wrap64 (Int.tmod (IntKind.u64.wrap (a0)) 10)) 1).bind fun bt184 => (if (wrap64 (Int.tmod (IntKind.u64.wrap (a0)) 10)) ≤ 1 then ((withylaw0_Num.f bt184.2.2).bind fun t189 => (if t189 = 1001 then (some ((bt184.2.1.length : Int) == 0)) else (some false))) else (withylaw10_FsmDowns.l0 k a1 (wrap64 (Int.tmod (IntKind.u64.wrap (a0)) 10)) bt184.1 bt184.2.1 bt184.2.2 false 0))) else (some false)) = some r := H
  have A3 := Aside0.mk A30
  clear A30
  by_cases c4 : t183 = true
  · subst c4
    have H1 : ((fsm_Step.f (wrap64 (Int.tmod (IntKind.u64.wrap (a0)) 10)) 1).bind fun bt184 => (if (wrap64 (Int.tmod (IntKind.u64.wrap (a0)) 10)) ≤ 1 then ((withylaw0_Num.f bt184.2.2).bind fun t189 => (if t189 = 1001 then (some ((bt184.2.1.length : Int) == 0)) else (some false))) else (withylaw10_FsmDowns.l0 k a1 (wrap64 (Int.tmod (IntKind.u64.wrap (a0)) 10)) bt184.1 bt184.2.1 bt184.2.2 false 0))) = some r := by rw [if_pos rfl] at H; exact H
    clear H
    have H := H1
    clear H1
    replace H := Option.bind_eq_some_iff.mp H
    obtain ⟨⟨t184, t185, t186⟩, A50, H⟩ := H
    replace H : (if (wrap64 (Int.tmod (IntKind.u64.wrap (a0)) 10)) ≤ 1 then ((withylaw0_Num.f t186).bind fun t189 => (if t189 = 1001 then (some ((t185.length : Int) == 0)) else (some false))) else (withylaw10_FsmDowns.l0 k a1 (wrap64 (Int.tmod (IntKind.u64.wrap (a0)) 10)) t184 t185 t186 false 0)) = some r := H
    have A5 := Aside0.mk A50
    clear A50
    by_cases c6 : (wrap64 (Int.tmod (IntKind.u64.wrap (a0)) 10)) ≤ 1
    · rw [if_pos c6] at H
      have c6b0 : decide ((wrap64 (Int.tmod (IntKind.u64.wrap (a0)) 10)) ≤ 1) = true := decide_eq_true c6
      clear c6
      replace H := Option.bind_eq_some_iff.mp H
      obtain ⟨t189, A70, H⟩ := H
      replace H : (if t189 = 1001 then (some ((t185.length : Int) == 0)) else (some false)) = some r := H
      have A7 := Aside0.mk A70
      clear A70
      by_cases c8 : t189 = 1001
      · rw [if_pos c8] at H
        have c8b0 : (t189 == 1001) = true := beq_iff_eq.mpr c8
        have c8b1 : (t189 != 1001) = false := bne_eq_false_iff_eq.mpr c8
        clear c8
        obtain rfl := Option.some.inj H
        go_enter Tryd.func7, Tryd.ntmps7
        go_wp2_with (first | ((with_reducible refine gate_callee (f := 15) rfl ?_); refine goesL_ (some 11) rfl rfl Tryd.func15 (by kernel_rfl) rfl #[] rfl (by (try simp only [List.map_toArray, List.map_cons, List.map_nil]); first | done | rfl | (simp only [List.length_drop, List.length_take]; rfl)) ?_; (with_reducible refine (withylaw10_awake.calls k  true _ A3.out).mono ?_); rintro e w9 ⟨rfl, hb⟩; refine ⟨_, rfl, ?_⟩; have n0_ := Aside0.mk (below_step (by repeat (first | (with_reducible first | exact HB.out | apply below_alloc | apply pw_below_drewN | apply below_drew1) | exact HB.out)) hb); clear HB; have HB := n0_; clear n0_; (try clear hb); (try clear hb2); (try clear hk); (try clear hi)) | ((with_reducible refine gate_callee (f := 10) rfl ?_); refine goesL_ (some 19) rfl rfl Tryd.func10 (by kernel_rfl) rfl #[.int .i64 (wrap64 (Int.tmod (IntKind.u64.wrap (a0)) 10)), .int .i64 1] rfl (by (try simp only [List.map_toArray, List.map_cons, List.map_nil]); first | done | rfl | (simp only [List.length_drop, List.length_take]; rfl)) ?_; (with_reducible refine (fsm_Step.calls (wrap64 (Int.tmod (IntKind.u64.wrap (a0)) 10)) 1 t184 t185 t186 _ A5.out).mono ?_); rintro e w10 ⟨v187, rfl, ho0, hb⟩; refine ⟨_, rfl, ?_⟩; have n0_ := Aside0.mk (Kd.R_lower ho0 (below_size (by repeat (first | (with_reducible first | exact HB.out | apply below_alloc | apply pw_below_drewN | apply below_drew1) | exact HB.out)))); have n1_ := Aside0.mk (below_step (by repeat (first | (with_reducible first | exact HB.out | apply below_alloc | apply pw_below_drewN | apply below_drew1) | exact HB.out)) hb); clear HB; have HO188 := n0_; have HB := n1_; clear n0_ n1_; (try clear hb); (try clear hb2); (try clear hk); (try clear hi); (try clear ho0)) | ((with_reducible refine gate_callee (f := 13) rfl ?_); refine goesL_ (some 26) rfl rfl Tryd.func13 (by kernel_rfl) rfl #[.int .i64 t186] rfl (by (try simp only [List.map_toArray, List.map_cons, List.map_nil]); first | done | rfl | (simp only [List.length_drop, List.length_take]; rfl)) ?_; (with_reducible refine (withylaw0_Num.calls t186 t189 _ A7.out).mono ?_); rintro e w' ⟨rfl, ⟨nd, rfl⟩⟩; refine ⟨_, rfl, ?_⟩; obtain ⟨Ao11, co11, eo11⟩ := Kd.R_slice HO188.out; subst eo11))
        go_ret
        exact ⟨by first | rfl | (simp [errW_none, errW_some] <;> rfl) | (simp [*, errW_none, errW_some] <;> rfl), by repeat (first | (with_reducible first | exact HB.out | apply below_alloc | apply pw_below_drewN | apply below_drew1) | exact HB.out)⟩
      · rw [if_neg c8] at H
        have c8b0 : (t189 == 1001) = false := beq_eq_false_iff_ne.mpr c8
        have c8b1 : (t189 != 1001) = true := bne_iff_ne.mpr c8
        obtain rfl := Option.some.inj H
        go_enter Tryd.func7, Tryd.ntmps7
        go_wp2_with (first | ((with_reducible refine gate_callee (f := 15) rfl ?_); refine goesL_ (some 11) rfl rfl Tryd.func15 (by kernel_rfl) rfl #[] rfl (by (try simp only [List.map_toArray, List.map_cons, List.map_nil]); first | done | rfl | (simp only [List.length_drop, List.length_take]; rfl)) ?_; (with_reducible refine (withylaw10_awake.calls k  true _ A3.out).mono ?_); rintro e w12 ⟨rfl, hb⟩; refine ⟨_, rfl, ?_⟩; have n0_ := Aside0.mk (below_step (by repeat (first | (with_reducible first | exact HB.out | apply below_alloc | apply pw_below_drewN | apply below_drew1) | exact HB.out)) hb); clear HB; have HB := n0_; clear n0_; (try clear hb); (try clear hb2); (try clear hk); (try clear hi)) | ((with_reducible refine gate_callee (f := 10) rfl ?_); refine goesL_ (some 19) rfl rfl Tryd.func10 (by kernel_rfl) rfl #[.int .i64 (wrap64 (Int.tmod (IntKind.u64.wrap (a0)) 10)), .int .i64 1] rfl (by (try simp only [List.map_toArray, List.map_cons, List.map_nil]); first | done | rfl | (simp only [List.length_drop, List.length_take]; rfl)) ?_; (with_reducible refine (fsm_Step.calls (wrap64 (Int.tmod (IntKind.u64.wrap (a0)) 10)) 1 t184 t185 t186 _ A5.out).mono ?_); rintro e w13 ⟨v187, rfl, ho0, hb⟩; refine ⟨_, rfl, ?_⟩; have n0_ := Aside0.mk (Kd.R_lower ho0 (below_size (by repeat (first | (with_reducible first | exact HB.out | apply below_alloc | apply pw_below_drewN | apply below_drew1) | exact HB.out)))); have n1_ := Aside0.mk (below_step (by repeat (first | (with_reducible first | exact HB.out | apply below_alloc | apply pw_below_drewN | apply below_drew1) | exact HB.out)) hb); clear HB; have HO188 := n0_; have HB := n1_; clear n0_ n1_; (try clear hb); (try clear hb2); (try clear hk); (try clear hi); (try clear ho0)) | ((with_reducible refine gate_callee (f := 13) rfl ?_); refine goesL_ (some 26) rfl rfl Tryd.func13 (by kernel_rfl) rfl #[.int .i64 t186] rfl (by (try simp only [List.map_toArray, List.map_cons, List.map_nil]); first | done | rfl | (simp only [List.length_drop, List.length_take]; rfl)) ?_; (with_reducible refine (withylaw0_Num.calls t186 t189 _ A7.out).mono ?_); rintro e w' ⟨rfl, ⟨nd, rfl⟩⟩; refine ⟨_, rfl, ?_⟩))
        go_ret
        exact ⟨by first | rfl | (simp [errW_none, errW_some] <;> rfl) | (simp [*, errW_none, errW_some] <;> rfl), by repeat (first | (with_reducible first | exact HB.out | apply below_alloc | apply pw_below_drewN | apply below_drew1) | exact HB.out)⟩
    · rw [if_neg c6] at H
      have c6b0 : decide ((wrap64 (Int.tmod (IntKind.u64.wrap (a0)) 10)) ≤ 1) = false := decide_eq_false c6
      clear c6
      have H' := Aside0.mk H
      clear H
      go_enter Tryd.func7, Tryd.ntmps7
      go_wp2_with (first | ((with_reducible refine gate_callee (f := 15) rfl ?_); refine goesL_ (some 11) rfl rfl Tryd.func15 (by kernel_rfl) rfl #[] rfl (by (try simp only [List.map_toArray, List.map_cons, List.map_nil]); first | done | rfl | (simp only [List.length_drop, List.length_take]; rfl)) ?_; (with_reducible refine (withylaw10_awake.calls k  true _ A3.out).mono ?_); rintro e w14 ⟨rfl, hb⟩; refine ⟨_, rfl, ?_⟩; have n0_ := Aside0.mk (below_step (by repeat (first | (with_reducible first | exact HB.out | apply below_alloc | apply pw_below_drewN | apply below_drew1) | exact HB.out)) hb); clear HB; have HB := n0_; clear n0_; (try clear hb); (try clear hb2); (try clear hk); (try clear hi)) | ((with_reducible refine gate_callee (f := 10) rfl ?_); refine goesL_ (some 19) rfl rfl Tryd.func10 (by kernel_rfl) rfl #[.int .i64 (wrap64 (Int.tmod (IntKind.u64.wrap (a0)) 10)), .int .i64 1] rfl (by (try simp only [List.map_toArray, List.map_cons, List.map_nil]); first | done | rfl | (simp only [List.length_drop, List.length_take]; rfl)) ?_; (with_reducible refine (fsm_Step.calls (wrap64 (Int.tmod (IntKind.u64.wrap (a0)) 10)) 1 t184 t185 t186 _ A5.out).mono ?_); rintro e w15 ⟨v187, rfl, ho0, hb⟩; refine ⟨_, rfl, ?_⟩; have n0_ := Aside0.mk (Kd.R_lower ho0 (below_size (by repeat (first | (with_reducible first | exact HB.out | apply below_alloc | apply pw_below_drewN | apply below_drew1) | exact HB.out)))); have n1_ := Aside0.mk (below_step (by repeat (first | (with_reducible first | exact HB.out | apply below_alloc | apply pw_below_drewN | apply below_drew1) | exact HB.out)) hb); clear HB; have HO188 := n0_; have HB := n1_; clear n0_ n1_; (try clear hb); (try clear hb2); (try clear hk); (try clear hi); (try clear ho0)))
      go_loopg [9, 10] k (fun kq v9 v10 w' => ∃ (x9_1 : Bool) (x10_1 : Int), v9 = .bool x9_1 ∧ v10 = .int .i64 x10_1 ∧ Aside0 (withylaw10_FsmDowns.l0 kq a1 (wrap64 (Int.tmod (IntKind.u64.wrap (a0)) 10)) t184 t185 t186 x9_1 x10_1 = some r) ∧ Aside0 (kq ≤ k) ∧ Aside0 (Kd.R (Kd.int .i64) 3 w' w.heap.size (fun _ => True) v187 t185) ∧ Aside0 (Below w.heap.size w w'))
      case atStart => exact ⟨(false), (0), (by first | rfl | (simp; done) | (simp [*]; done) | (refine congrArg Value.bool (Bool.eq_iff_iff.2 ?_); simp)), (by first | rfl | (simp; done) | (simp [*]; done) | (refine congrArg Value.bool (Bool.eq_iff_iff.2 ?_); simp)), H', ⟨Nat.le_refl _⟩, ⟨by (with_reducible repeat (first | apply Kd.R_alloc | apply Kd.R_drewN | apply Kd.R_drew)); exact HO188.out⟩, ⟨by repeat (first | (with_reducible first | exact HB.out | apply below_alloc | apply pw_below_drewN | apply below_drew1) | exact HB.out)⟩⟩
      case round =>
        clear H'
        try clear c1
        try clear p2
        try clear c4
        try clear c6
        try clear c6b0
        try clear p6
        try clear c7
        try clear c8
        try clear c8b0
        try clear c8b1
        try clear c10
        try clear c13
        try clear c15
        obtain ⟨x9_1, x10_1, rfl, rfl, HA, HK1, HO_7, HB⟩ := hrel
        cases gk with
        | zero => exact absurd HA.out (by simp [withylaw10_FsmDowns.l0])
        | succ k1 =>
          have H := HA.out
          clear HA
          simp only [withylaw10_FsmDowns.l0] at H
          by_cases c16 : x10_1 < (t185.length : Int)
          · rw [if_pos c16] at H
            have c16b0 : decide (x10_1 < (t185.length : Int)) = true := decide_eq_true c16
            clear c16
            by_cases c17 : x9_1 = true
            · subst c17
              have H1 : (withylaw10_FsmDowns.l0 k1 a1 (wrap64 (Int.tmod (IntKind.u64.wrap (a0)) 10)) t184 t185 t186 true (wrap64 (x10_1 + 1))) = some r := by rw [if_pos rfl] at H; exact H
              clear H
              have H := H1
              clear H1
              have H' := Aside0.mk H
              clear H
              obtain ⟨Ao18, co18, eo18⟩ := Kd.R_slice HO_7.out
              subst eo18
              go_wp2
              go_roundg k1
              case measure => have := HK1.out; omega
              case rel => exact ⟨(true), (wrap64 (x10_1 + 1)), (by first | rfl | (simp; done) | (simp [*]; done) | (refine congrArg Value.bool (Bool.eq_iff_iff.2 ?_); simp)), (by first | rfl | (simp; done) | (simp [*]; done) | (refine congrArg Value.bool (Bool.eq_iff_iff.2 ?_); simp)), H', ⟨by have := HK1.out; omega⟩, ⟨by (with_reducible repeat (first | apply Kd.R_alloc | apply Kd.R_drewN | apply Kd.R_drew)); exact HO_7.out⟩, ⟨by repeat (first | (with_reducible first | exact HB.out | apply below_alloc | apply pw_below_drewN | apply below_drew1) | exact HB.out)⟩⟩
            · replace c17 := Bool.eq_false_iff.mpr c17
              subst c17
              have H1 : (if 0 ≤ x10_1 then (withylaw10_FsmDowns.l0 k1 a1 (wrap64 (Int.tmod (IntKind.u64.wrap (a0)) 10)) t184 t185 t186 ((rd t185 x10_1) == 2) (wrap64 (x10_1 + 1))) else (none)) = some r := by rw [if_neg (show ¬ (false = true) by decide)] at H; exact H
              clear H
              have H := H1
              clear H1
              by_cases c19 : 0 ≤ x10_1
              · rw [if_pos c19] at H
                have c19b0 : decide (0 ≤ x10_1) = true := decide_eq_true c19
                clear c19
                have H' := Aside0.mk H
                clear H
                obtain ⟨Ao20, co20, eo20⟩ := Kd.R_slice HO_7.out
                subst eo20
                have p190 : 0 ≤ (x10_1 : Int) := of_decide_eq_true (by first | (with_reducible assumption) | assumption)
                have q190 : x10_1 < (t185.length : Int) := of_decide_eq_true (by first | (with_reducible assumption) | assumption)
                obtain ⟨ad190, e190, hx190_0⟩ := Kd.at_int (Kd.R_reads' HO_7.out).2.2 x10_1 p190 q190
                cases e190
                replace p190 := eq_true p190
                replace q190 := eq_true q190
                go_wp2
                go_roundg k1
                case measure => have := HK1.out; omega
                case rel => exact ⟨(((rd t185 x10_1) == 2)), (wrap64 (x10_1 + 1)), (by first | rfl | (simp; done) | (simp [*]; done) | (refine congrArg Value.bool (Bool.eq_iff_iff.2 ?_); simp)), (by first | rfl | (simp; done) | (simp [*]; done) | (refine congrArg Value.bool (Bool.eq_iff_iff.2 ?_); simp)), H', ⟨by have := HK1.out; omega⟩, ⟨by (with_reducible repeat (first | apply Kd.R_alloc | apply Kd.R_drewN | apply Kd.R_drew)); exact HO_7.out⟩, ⟨by repeat (first | (with_reducible first | exact HB.out | apply below_alloc | apply pw_below_drewN | apply below_drew1) | exact HB.out)⟩⟩
              · rw [if_neg c19] at H
                exact absurd H (by simp)
          · rw [if_neg c16] at H
            have c16b0 : decide (x10_1 < (t185.length : Int)) = false := decide_eq_false c16
            clear c16
            replace H := Option.bind_eq_some_iff.mp H
            obtain ⟨t191, A210, H⟩ := H
            replace H : (if t191 = 0 then (if t184 = 0 then (if (x9_1 == ((wrap64 (Int.tmod (IntKind.u64.wrap (a0)) 10)) == 9)) = true then (if a1 = true then (some (decide (t184 ≤ 1))) else (some true)) else (some false)) else (if t184 = 1 then (if (x9_1 == ((wrap64 (Int.tmod (IntKind.u64.wrap (a0)) 10)) == 9)) = true then (if a1 = true then (some (decide (t184 ≤ 1))) else (some true)) else (some false)) else (some false))) else (some false)) = some r := H
            have A21 := Aside0.mk A210
            clear A210
            by_cases c22 : t191 = 0
            · rw [if_pos c22] at H
              have c22b0 : (t191 == 0) = true := beq_iff_eq.mpr c22
              have c22b1 : (t191 != 0) = false := bne_eq_false_iff_eq.mpr c22
              clear c22
              by_cases c23 : t184 = 0
              · rw [if_pos c23] at H
                have c23b0 : (t184 == 0) = true := beq_iff_eq.mpr c23
                have c23b1 : (t184 != 0) = false := bne_eq_false_iff_eq.mpr c23
                clear c23
                by_cases c24 : (x9_1 == ((wrap64 (Int.tmod (IntKind.u64.wrap (a0)) 10)) == 9)) = true
                · rw [if_pos c24] at H
                  have c24b0 : (x9_1 == ((wrap64 (Int.tmod (IntKind.u64.wrap (a0)) 10)) == 9)) = true := c24
                  (try (have c24b1 : decide (x9_1 = ((wrap64 (Int.tmod (IntKind.u64.wrap (a0)) 10)) == 9)) = true := by simpa using c24))
                  (try (have c24b2 : (x9_1 == ((wrap64 (Int.tmod (IntKind.u64.wrap (a0)) 10)) == 9)) = true := by simpa using c24))
                  clear c24
                  by_cases c25 : a1 = true
                  · subst c25
                    have H1 : (some (decide (t184 ≤ 1))) = some r := by rw [if_pos rfl] at H; exact H
                    clear H
                    have H := H1
                    clear H1
                    obtain rfl := Option.some.inj H
                    obtain ⟨Ao26, co26, eo26⟩ := Kd.R_slice HO_7.out
                    subst eo26
                    go_wp2_with (first | ((with_reducible refine gate_callee (f := 13) rfl ?_); refine goesL_ (some 48) rfl rfl Tryd.func13 (by kernel_rfl) rfl #[.int .i64 t186] rfl (by (try simp only [List.map_toArray, List.map_cons, List.map_nil]); first | done | rfl | (simp only [List.length_drop, List.length_take]; rfl)) ?_; (with_reducible refine (withylaw0_Num.calls t186 t191 _ A21.out).mono ?_); rintro e w' ⟨rfl, ⟨nd, rfl⟩⟩; refine ⟨_, rfl, ?_⟩))
                    go_ret
                    exact ⟨by first | rfl | (simp [errW_none, errW_some] <;> rfl) | (simp [*, errW_none, errW_some] <;> rfl), by repeat (first | (with_reducible first | exact HB.out | apply below_alloc | apply pw_below_drewN | apply below_drew1) | exact HB.out)⟩
                  · replace c25 := Bool.eq_false_iff.mpr c25
                    subst c25
                    have H1 : (some true) = some r := by rw [if_neg (show ¬ (false = true) by decide)] at H; exact H
                    clear H
                    have H := H1
                    clear H1
                    obtain rfl := Option.some.inj H
                    obtain ⟨Ao27, co27, eo27⟩ := Kd.R_slice HO_7.out
                    subst eo27
                    go_wp2_with (first | ((with_reducible refine gate_callee (f := 13) rfl ?_); refine goesL_ (some 48) rfl rfl Tryd.func13 (by kernel_rfl) rfl #[.int .i64 t186] rfl (by (try simp only [List.map_toArray, List.map_cons, List.map_nil]); first | done | rfl | (simp only [List.length_drop, List.length_take]; rfl)) ?_; (with_reducible refine (withylaw0_Num.calls t186 t191 _ A21.out).mono ?_); rintro e w' ⟨rfl, ⟨nd, rfl⟩⟩; refine ⟨_, rfl, ?_⟩))
                    go_ret
                    exact ⟨by first | rfl | (simp [errW_none, errW_some] <;> rfl) | (simp [*, errW_none, errW_some] <;> rfl), by repeat (first | (with_reducible first | exact HB.out | apply below_alloc | apply pw_below_drewN | apply below_drew1) | exact HB.out)⟩
                · rw [if_neg c24] at H
                  have c24b0 : (x9_1 == ((wrap64 (Int.tmod (IntKind.u64.wrap (a0)) 10)) == 9)) = false := by simpa using c24
                  (try (have c24b1 : decide (x9_1 = ((wrap64 (Int.tmod (IntKind.u64.wrap (a0)) 10)) == 9)) = false := by simpa using c24))
                  (try (have c24b2 : (x9_1 == ((wrap64 (Int.tmod (IntKind.u64.wrap (a0)) 10)) == 9)) = false := by simpa using c24))
                  (try (have c24b3 : ¬ (x9_1 = ((wrap64 (Int.tmod (IntKind.u64.wrap (a0)) 10)) == 9)) := by simpa using c24))
                  clear c24
                  obtain rfl := Option.some.inj H
                  obtain ⟨Ao28, co28, eo28⟩ := Kd.R_slice HO_7.out
                  subst eo28
                  go_wp2_with (first | ((with_reducible refine gate_callee (f := 13) rfl ?_); refine goesL_ (some 48) rfl rfl Tryd.func13 (by kernel_rfl) rfl #[.int .i64 t186] rfl (by (try simp only [List.map_toArray, List.map_cons, List.map_nil]); first | done | rfl | (simp only [List.length_drop, List.length_take]; rfl)) ?_; (with_reducible refine (withylaw0_Num.calls t186 t191 _ A21.out).mono ?_); rintro e w' ⟨rfl, ⟨nd, rfl⟩⟩; refine ⟨_, rfl, ?_⟩))
                  go_ret
                  exact ⟨by first | rfl | (simp [errW_none, errW_some] <;> rfl) | (simp [*, errW_none, errW_some] <;> rfl), by repeat (first | (with_reducible first | exact HB.out | apply below_alloc | apply pw_below_drewN | apply below_drew1) | exact HB.out)⟩
              · rw [if_neg c23] at H
                have c23b0 : (t184 == 0) = false := beq_eq_false_iff_ne.mpr c23
                have c23b1 : (t184 != 0) = true := bne_iff_ne.mpr c23
                by_cases c29 : t184 = 1
                · rw [if_pos c29] at H
                  have c29b0 : (t184 == 1) = true := beq_iff_eq.mpr c29
                  have c29b1 : (t184 != 1) = false := bne_eq_false_iff_eq.mpr c29
                  clear c29
                  by_cases c30 : (x9_1 == ((wrap64 (Int.tmod (IntKind.u64.wrap (a0)) 10)) == 9)) = true
                  · rw [if_pos c30] at H
                    have c30b0 : (x9_1 == ((wrap64 (Int.tmod (IntKind.u64.wrap (a0)) 10)) == 9)) = true := c30
                    (try (have c30b1 : decide (x9_1 = ((wrap64 (Int.tmod (IntKind.u64.wrap (a0)) 10)) == 9)) = true := by simpa using c30))
                    (try (have c30b2 : (x9_1 == ((wrap64 (Int.tmod (IntKind.u64.wrap (a0)) 10)) == 9)) = true := by simpa using c30))
                    clear c30
                    by_cases c31 : a1 = true
                    · subst c31
                      have H1 : (some (decide (t184 ≤ 1))) = some r := by rw [if_pos rfl] at H; exact H
                      clear H
                      have H := H1
                      clear H1
                      obtain rfl := Option.some.inj H
                      obtain ⟨Ao32, co32, eo32⟩ := Kd.R_slice HO_7.out
                      subst eo32
                      go_wp2_with (first | ((with_reducible refine gate_callee (f := 13) rfl ?_); refine goesL_ (some 48) rfl rfl Tryd.func13 (by kernel_rfl) rfl #[.int .i64 t186] rfl (by (try simp only [List.map_toArray, List.map_cons, List.map_nil]); first | done | rfl | (simp only [List.length_drop, List.length_take]; rfl)) ?_; (with_reducible refine (withylaw0_Num.calls t186 t191 _ A21.out).mono ?_); rintro e w' ⟨rfl, ⟨nd, rfl⟩⟩; refine ⟨_, rfl, ?_⟩))
                      go_ret
                      exact ⟨by first | rfl | (simp [errW_none, errW_some] <;> rfl) | (simp [*, errW_none, errW_some] <;> rfl), by repeat (first | (with_reducible first | exact HB.out | apply below_alloc | apply pw_below_drewN | apply below_drew1) | exact HB.out)⟩
                    · replace c31 := Bool.eq_false_iff.mpr c31
                      subst c31
                      have H1 : (some true) = some r := by rw [if_neg (show ¬ (false = true) by decide)] at H; exact H
                      clear H
                      have H := H1
                      clear H1
                      obtain rfl := Option.some.inj H
                      obtain ⟨Ao33, co33, eo33⟩ := Kd.R_slice HO_7.out
                      subst eo33
                      go_wp2_with (first | ((with_reducible refine gate_callee (f := 13) rfl ?_); refine goesL_ (some 48) rfl rfl Tryd.func13 (by kernel_rfl) rfl #[.int .i64 t186] rfl (by (try simp only [List.map_toArray, List.map_cons, List.map_nil]); first | done | rfl | (simp only [List.length_drop, List.length_take]; rfl)) ?_; (with_reducible refine (withylaw0_Num.calls t186 t191 _ A21.out).mono ?_); rintro e w' ⟨rfl, ⟨nd, rfl⟩⟩; refine ⟨_, rfl, ?_⟩))
                      go_ret
                      exact ⟨by first | rfl | (simp [errW_none, errW_some] <;> rfl) | (simp [*, errW_none, errW_some] <;> rfl), by repeat (first | (with_reducible first | exact HB.out | apply below_alloc | apply pw_below_drewN | apply below_drew1) | exact HB.out)⟩
                  · rw [if_neg c30] at H
                    have c30b0 : (x9_1 == ((wrap64 (Int.tmod (IntKind.u64.wrap (a0)) 10)) == 9)) = false := by simpa using c30
                    (try (have c30b1 : decide (x9_1 = ((wrap64 (Int.tmod (IntKind.u64.wrap (a0)) 10)) == 9)) = false := by simpa using c30))
                    (try (have c30b2 : (x9_1 == ((wrap64 (Int.tmod (IntKind.u64.wrap (a0)) 10)) == 9)) = false := by simpa using c30))
                    (try (have c30b3 : ¬ (x9_1 = ((wrap64 (Int.tmod (IntKind.u64.wrap (a0)) 10)) == 9)) := by simpa using c30))
                    clear c30
                    obtain rfl := Option.some.inj H
                    obtain ⟨Ao34, co34, eo34⟩ := Kd.R_slice HO_7.out
                    subst eo34
                    go_wp2_with (first | ((with_reducible refine gate_callee (f := 13) rfl ?_); refine goesL_ (some 48) rfl rfl Tryd.func13 (by kernel_rfl) rfl #[.int .i64 t186] rfl (by (try simp only [List.map_toArray, List.map_cons, List.map_nil]); first | done | rfl | (simp only [List.length_drop, List.length_take]; rfl)) ?_; (with_reducible refine (withylaw0_Num.calls t186 t191 _ A21.out).mono ?_); rintro e w' ⟨rfl, ⟨nd, rfl⟩⟩; refine ⟨_, rfl, ?_⟩))
                    go_ret
                    exact ⟨by first | rfl | (simp [errW_none, errW_some] <;> rfl) | (simp [*, errW_none, errW_some] <;> rfl), by repeat (first | (with_reducible first | exact HB.out | apply below_alloc | apply pw_below_drewN | apply below_drew1) | exact HB.out)⟩
                · rw [if_neg c29] at H
                  have c29b0 : (t184 == 1) = false := beq_eq_false_iff_ne.mpr c29
                  have c29b1 : (t184 != 1) = true := bne_iff_ne.mpr c29
                  obtain rfl := Option.some.inj H
                  obtain ⟨Ao35, co35, eo35⟩ := Kd.R_slice HO_7.out
                  subst eo35
                  go_wp2_with (first | ((with_reducible refine gate_callee (f := 13) rfl ?_); refine goesL_ (some 48) rfl rfl Tryd.func13 (by kernel_rfl) rfl #[.int .i64 t186] rfl (by (try simp only [List.map_toArray, List.map_cons, List.map_nil]); first | done | rfl | (simp only [List.length_drop, List.length_take]; rfl)) ?_; (with_reducible refine (withylaw0_Num.calls t186 t191 _ A21.out).mono ?_); rintro e w' ⟨rfl, ⟨nd, rfl⟩⟩; refine ⟨_, rfl, ?_⟩))
                  go_ret
                  exact ⟨by first | rfl | (simp [errW_none, errW_some] <;> rfl) | (simp [*, errW_none, errW_some] <;> rfl), by repeat (first | (with_reducible first | exact HB.out | apply below_alloc | apply pw_below_drewN | apply below_drew1) | exact HB.out)⟩
            · rw [if_neg c22] at H
              have c22b0 : (t191 == 0) = false := beq_eq_false_iff_ne.mpr c22
              have c22b1 : (t191 != 0) = true := bne_iff_ne.mpr c22
              obtain rfl := Option.some.inj H
              obtain ⟨Ao36, co36, eo36⟩ := Kd.R_slice HO_7.out
              subst eo36
              go_wp2_with (first | ((with_reducible refine gate_callee (f := 13) rfl ?_); refine goesL_ (some 48) rfl rfl Tryd.func13 (by kernel_rfl) rfl #[.int .i64 t186] rfl (by (try simp only [List.map_toArray, List.map_cons, List.map_nil]); first | done | rfl | (simp only [List.length_drop, List.length_take]; rfl)) ?_; (with_reducible refine (withylaw0_Num.calls t186 t191 _ A21.out).mono ?_); rintro e w' ⟨rfl, ⟨nd, rfl⟩⟩; refine ⟨_, rfl, ?_⟩))
              go_ret
              exact ⟨by first | rfl | (simp [errW_none, errW_some] <;> rfl) | (simp [*, errW_none, errW_some] <;> rfl), by repeat (first | (with_reducible first | exact HB.out | apply below_alloc | apply pw_below_drewN | apply below_drew1) | exact HB.out)⟩
  · replace c4 := Bool.eq_false_iff.mpr c4
    subst c4
    have H1 : (some false) = some r := by rw [if_neg (show ¬ (false = true) by decide)] at H; exact H
    clear H
    have H := H1
    clear H1
    obtain rfl := Option.some.inj H
    go_enter Tryd.func7, Tryd.ntmps7
    go_wp2_with (first | ((with_reducible refine gate_callee (f := 15) rfl ?_); refine goesL_ (some 11) rfl rfl Tryd.func15 (by kernel_rfl) rfl #[] rfl (by (try simp only [List.map_toArray, List.map_cons, List.map_nil]); first | done | rfl | (simp only [List.length_drop, List.length_take]; rfl)) ?_; (with_reducible refine (withylaw10_awake.calls k  false _ A3.out).mono ?_); rintro e w37 ⟨rfl, hb⟩; refine ⟨_, rfl, ?_⟩; have n0_ := Aside0.mk (below_step (by repeat (first | (with_reducible first | exact HB.out | apply below_alloc | apply pw_below_drewN | apply below_drew1) | exact HB.out)) hb); clear HB; have HB := n0_; clear n0_; (try clear hb); (try clear hb2); (try clear hk); (try clear hi)))
    go_ret
    exact ⟨by first | rfl | (simp [errW_none, errW_some] <;> rfl) | (simp [*, errW_none, errW_some] <;> rfl), by repeat (first | (with_reducible first | exact HB.out | apply below_alloc | apply pw_below_drewN | apply below_drew1) | exact HB.out)⟩

/-- THE ONE PURE STATEMENT of withylaw10_FsmDowns: yours. -/
def withylaw10_FsmDowns.Pure : Prop := ∀ (a0 : Int) (a1 : Bool), (Lit.int .i64 a0).wf = true → ∃ k, withylaw10_FsmDowns.f k a0 a1 = some true
theorem withylaw10_FsmDowns.walk (P : withylaw10_FsmDowns.Pure) (a0 : Int) (a1 : Bool) (w : World) (w0 : (Lit.int .i64 a0).wf = true) :
    Calls Tryd.prog 7 #[.int .i64 a0, .bool a1] w fun e w' => e = .returned (.bool true) ∧ Below w.heap.size w w' := by
  obtain ⟨k, h⟩ := P a0 a1 w0
  refine (withylaw10_FsmDowns.calls k a0 a1 true w h).mono ?_
  rintro e w' ⟨rfl, hd⟩
  exact ⟨rfl, hd⟩

/-! ### withylaw10_FsmAnswers: function 8 -/
mutual
def withylaw10_FsmAnswers.j0 : Nat → Bool → Int → Int → Int → Option (Bool)
  | 0, _, _, _, _ => none
  | k + 1, x1, x5, x6, x7 => (fsm_Step.f x5 x6).bind fun bt193 => (withylaw10_FsmAnswers.l0 k x1 x7 bt193.1 bt193.2.1 bt193.2.2 0 0)
def withylaw10_FsmAnswers.l0 : Nat → Bool → Int → Int → List Int → Int → Int → Int → Option (Bool)
  | 0, _, _, _, _, _, _, _ => none
  | k + 1, x1, x7, x8, x9, x10, x11, x12 => if x12 < (x9.length : Int) then (if 0 ≤ x12 then (if (rd x9 x12) = x7 then (withylaw10_FsmAnswers.l0 k x1 x7 x8 x9 x10 (wrap64 (x11 + 1)) (wrap64 (x12 + 1))) else (withylaw10_FsmAnswers.l0 k x1 x7 x8 x9 x10 x11 (wrap64 (x12 + 1)))) else (none)) else ((withylaw0_Num.f x10).bind fun t199 => (if t199 = 0 then (if x11 = 1 then (if x8 = 8 then (some (x1 == true)) else (some (x1 == (x8 == 9)))) else (some false)) else (some false)))
end
def withylaw10_FsmAnswers.f (k : Nat) (a0 : Int) (a1 : Bool) : Option (Bool) := (withylaw10_awake.f k).bind fun t192 => (if t192 = true then (if a1 = true then (withylaw10_FsmAnswers.j0 k a1 (wrap64 (6 + (wrap64 (Int.tmod (IntKind.u64.wrap (a0)) 4)))) 6 8) else (withylaw10_FsmAnswers.j0 k a1 (wrap64 (6 + (wrap64 (Int.tmod (IntKind.u64.wrap (a0)) 4)))) 7 9)) else (some false))
theorem withylaw10_FsmAnswers.mono_l : ∀ k, (∀ y0 y1 y2 y3, LeO (withylaw10_FsmAnswers.j0 k y0 y1 y2 y3) (withylaw10_FsmAnswers.j0 (k + 1) y0 y1 y2 y3)) ∧ (∀ y0 y1 y2 y3 y4 y5 y6, LeO (withylaw10_FsmAnswers.l0 k y0 y1 y2 y3 y4 y5 y6) (withylaw10_FsmAnswers.l0 (k + 1) y0 y1 y2 y3 y4 y5 y6))
  | 0 => ⟨fun _ _ _ _ r h => by simp [withylaw10_FsmAnswers.j0] at h, fun _ _ _ _ _ _ _ r h => by simp [withylaw10_FsmAnswers.l0] at h⟩
  | k + 1 => by
    obtain ⟨ih0, ih1⟩ := withylaw10_FsmAnswers.mono_l k
    refine ⟨?_, ?_⟩
    · intro y0 y1 y2 y3
      unfold withylaw10_FsmAnswers.j0
      repeat' first
      | (with_reducible exact ih0 _ _ _ _)
      | (with_reducible exact ih1 _ _ _ _ _ _ _)
      | (with_reducible exact withylaw10_awake.mono _)
      | (with_reducible exact LeO.refl _)
      | (with_reducible exact LeO.none _)
      | (with_reducible refine LeO.ite ?_ ?_)
      | (with_reducible refine LeO.bind ?_ (fun _ => ?_))
      | exact ih0 _ _ _ _
      | exact ih1 _ _ _ _ _ _ _
      | exact withylaw10_awake.mono _
      | exact LeO.none _
      | refine LeO.ite ?_ ?_
      | refine LeO.bind ?_ (fun _ => ?_)
    · intro y0 y1 y2 y3 y4 y5 y6
      unfold withylaw10_FsmAnswers.l0
      repeat' first
      | (with_reducible exact ih0 _ _ _ _)
      | (with_reducible exact ih1 _ _ _ _ _ _ _)
      | (with_reducible exact withylaw10_awake.mono _)
      | (with_reducible exact LeO.refl _)
      | (with_reducible exact LeO.none _)
      | (with_reducible refine LeO.ite ?_ ?_)
      | (with_reducible refine LeO.bind ?_ (fun _ => ?_))
      | exact ih0 _ _ _ _
      | exact ih1 _ _ _ _ _ _ _
      | exact withylaw10_awake.mono _
      | exact LeO.none _
      | refine LeO.ite ?_ ?_
      | refine LeO.bind ?_ (fun _ => ?_)
theorem withylaw10_FsmAnswers.mono : ∀ a0 a1 k, LeO (withylaw10_FsmAnswers.f k a0 a1) (withylaw10_FsmAnswers.f (k + 1) a0 a1) := by
  intro a0 a1 k
  obtain ⟨ih0, ih1⟩ := withylaw10_FsmAnswers.mono_l k
  unfold withylaw10_FsmAnswers.f
  repeat' first
      | (with_reducible exact ih0 _ _ _ _)
      | (with_reducible exact ih1 _ _ _ _ _ _ _)
      | (with_reducible exact withylaw10_awake.mono _)
      | (with_reducible exact LeO.refl _)
      | (with_reducible exact LeO.none _)
      | (with_reducible refine LeO.ite ?_ ?_)
      | (with_reducible refine LeO.bind ?_ (fun _ => ?_))
      | exact ih0 _ _ _ _
      | exact ih1 _ _ _ _ _ _ _
      | exact withylaw10_awake.mono _
      | exact LeO.none _
      | refine LeO.ite ?_ ?_
      | refine LeO.bind ?_ (fun _ => ?_)
set_option maxHeartbeats 8000000 in
set_option maxRecDepth 100000 in
theorem withylaw10_FsmAnswers.calls (k : Nat) (a0 : Int) (a1 : Bool) (r : Bool) (w : World) (h : withylaw10_FsmAnswers.f k a0 a1 = some r) :
    Calls Tryd.prog 8 #[.int .i64 a0, .bool a1] w fun e w' => e = .returned (.bool r) ∧ Below w.heap.size w w' := by
  have HB := Aside0.mk (Below.refl w.heap.size w)
  have H : ((withylaw10_awake.f k).bind fun t192 => (if t192 = true then (if a1 = true then (withylaw10_FsmAnswers.j0 k a1 (wrap64 (6 + (wrap64 (Int.tmod (IntKind.u64.wrap (a0)) 4)))) 6 8) else (withylaw10_FsmAnswers.j0 k a1 (wrap64 (6 + (wrap64 (Int.tmod (IntKind.u64.wrap (a0)) 4)))) 7 9)) else (some false))) = some r := h
  clear h
  replace H := Option.bind_eq_some_iff.mp H
  obtain ⟨t192, A30, H⟩ := H
  replace H : (if t192 = true then (if a1 = true then (withylaw10_FsmAnswers.j0 k a1 (wrap64 (6 + (wrap64 (Int.tmod (IntKind.u64.wrap (a0)) 4)))) 6 8) else (withylaw10_FsmAnswers.j0 k a1 (wrap64 (6 + (wrap64 (Int.tmod (IntKind.u64.wrap (a0)) 4)))) 7 9)) else (some false)) = some r := H
  have A3 := Aside0.mk A30
  clear A30
  by_cases c4 : t192 = true
  · subst c4
    have H1 : (if a1 = true then (withylaw10_FsmAnswers.j0 k a1 (wrap64 (6 + (wrap64 (Int.tmod (IntKind.u64.wrap (a0)) 4)))) 6 8) else (withylaw10_FsmAnswers.j0 k a1 (wrap64 (6 + (wrap64 (Int.tmod (IntKind.u64.wrap (a0)) 4)))) 7 9)) = some r := by rw [if_pos rfl] at H; exact H
    clear H
    have H := H1
    clear H1
    have HC5 := Aside0.mk H
    clear H
    go_enter Tryd.func8, Tryd.ntmps8
    go_upto_if 20 with (first | ((with_reducible refine gate_callee (f := 15) rfl ?_); refine goesL_ (some 13) rfl rfl Tryd.func15 (by kernel_rfl) rfl #[] rfl (by (try simp only [List.map_toArray, List.map_cons, List.map_nil]); first | done | rfl | (simp only [List.length_drop, List.length_take]; rfl)) ?_; (with_reducible refine (withylaw10_awake.calls k  true _ A3.out).mono ?_); rintro e w6 ⟨rfl, hb⟩; refine ⟨_, rfl, ?_⟩; have n0_ := Aside0.mk (below_step (by repeat (first | (with_reducible first | exact HB.out | apply below_alloc | apply pw_below_drewN | apply below_drew1) | exact HB.out)) hb); clear HB; have HB := n0_; clear n0_; (try clear hb); (try clear hb2); (try clear hk); (try clear hi)))
    (try simp only [Act.put, List.setIfInBounds_toArray, List.set_cons_zero, List.set_cons_succ])
    go_cut [6, 7] (fun v6 v7 wc => ∃ (kq : Nat) (x6_4 : Int) (x7_4 : Int), v6 = .int .i64 x6_4 ∧ v7 = .int .i64 x7_4 ∧ Aside0 (withylaw10_FsmAnswers.j0 kq a1 (wrap64 (6 + (wrap64 (Int.tmod (IntKind.u64.wrap (a0)) 4)))) x6_4 x7_4 = some r) ∧ Aside0 (kq ≤ k) ∧ Aside0 (Below w.heap.size w wc))
    case first =>
      have H := HC5.out
      clear HC5
      by_cases c7 : a1 = true
      · subst c7
        have H1 : (withylaw10_FsmAnswers.j0 k true (wrap64 (6 + (wrap64 (Int.tmod (IntKind.u64.wrap (a0)) 4)))) 6 8) = some r := by rw [if_pos rfl] at H; exact H
        clear H
        have H := H1
        clear H1
        have H' := Aside0.mk H
        clear H
        go_wp2
        go_meet
        case rel => exact ⟨_, (6), (8), (by first | rfl | (simp; done) | (simp [*]; done) | (refine congrArg Value.bool (Bool.eq_iff_iff.2 ?_); simp)), (by first | rfl | (simp; done) | (simp [*]; done) | (refine congrArg Value.bool (Bool.eq_iff_iff.2 ?_); simp)), H', ⟨by first | omega | exact Nat.le_refl _⟩, ⟨by repeat (first | (with_reducible first | exact HB.out | apply below_alloc | apply pw_below_drewN | apply below_drew1) | exact HB.out)⟩⟩
      · replace c7 := Bool.eq_false_iff.mpr c7
        subst c7
        have H1 : (withylaw10_FsmAnswers.j0 k false (wrap64 (6 + (wrap64 (Int.tmod (IntKind.u64.wrap (a0)) 4)))) 7 9) = some r := by rw [if_neg (show ¬ (false = true) by decide)] at H; exact H
        clear H
        have H := H1
        clear H1
        have H' := Aside0.mk H
        clear H
        go_wp2
        go_meet
        case rel => exact ⟨_, (7), (9), (by first | rfl | (simp; done) | (simp [*]; done) | (refine congrArg Value.bool (Bool.eq_iff_iff.2 ?_); simp)), (by first | rfl | (simp; done) | (simp [*]; done) | (refine congrArg Value.bool (Bool.eq_iff_iff.2 ?_); simp)), H', ⟨by first | omega | exact Nat.le_refl _⟩, ⟨by repeat (first | (with_reducible first | exact HB.out | apply below_alloc | apply pw_below_drewN | apply below_drew1) | exact HB.out)⟩⟩
    case rest =>
      clear HC5
      try clear c1
      try clear p2
      try clear c4
      try clear p6
      try clear c7
      obtain ⟨kq, x6_4, x7_4, rfl, rfl, HA, HJ4, HB⟩ := hcut
      cases kq with
      | zero => exact absurd HA.out (by simp [withylaw10_FsmAnswers.j0])
      | succ kj4 =>
        have H := HA.out
        clear HA
        simp only [withylaw10_FsmAnswers.j0] at H
        replace H := Option.bind_eq_some_iff.mp H
        obtain ⟨⟨t193, t194, t195⟩, A80, H⟩ := H
        replace H : (withylaw10_FsmAnswers.l0 kj4 a1 x7_4 t193 t194 t195 0 0) = some r := H
        have A8 := Aside0.mk A80
        clear A80
        have H' := Aside0.mk H
        clear H
        go_wp2_with (first | ((with_reducible refine gate_callee (f := 10) rfl ?_); refine goesL_ (some 24) rfl rfl Tryd.func10 (by kernel_rfl) rfl #[.int .i64 (wrap64 (6 + (wrap64 (Int.tmod (IntKind.u64.wrap (a0)) 4)))), .int .i64 x6_4] rfl (by (try simp only [List.map_toArray, List.map_cons, List.map_nil]); first | done | rfl | (simp only [List.length_drop, List.length_take]; rfl)) ?_; (with_reducible refine (fsm_Step.calls (wrap64 (6 + (wrap64 (Int.tmod (IntKind.u64.wrap (a0)) 4)))) x6_4 t193 t194 t195 _ A8.out).mono ?_); rintro e w9 ⟨v196, rfl, ho0, hb⟩; refine ⟨_, rfl, ?_⟩; have n0_ := Aside0.mk (Kd.R_lower ho0 (below_size (by repeat (first | (with_reducible first | exact HB.out | apply below_alloc | apply pw_below_drewN | apply below_drew1) | exact HB.out)))); have n1_ := Aside0.mk (below_step (by repeat (first | (with_reducible first | exact HB.out | apply below_alloc | apply pw_below_drewN | apply below_drew1) | exact HB.out)) hb); clear HB; have HO197 := n0_; have HB := n1_; clear n0_ n1_; (try clear hb); (try clear hb2); (try clear hk); (try clear hi); (try clear ho0)))
        go_loopg [11, 12] kj4 (fun kq v11 v12 w' => ∃ (x11_2 : Int) (x12_2 : Int), v11 = .int .i64 x11_2 ∧ v12 = .int .i64 x12_2 ∧ Aside0 (withylaw10_FsmAnswers.l0 kq a1 x7_4 t193 t194 t195 x11_2 x12_2 = some r) ∧ Aside0 (kq ≤ kj4) ∧ Aside0 (Kd.R (Kd.int .i64) 3 w' w.heap.size (fun _ => True) v196 t194) ∧ Aside0 (Below w.heap.size w w'))
        case atStart => exact ⟨(0), (0), (by first | rfl | (simp; done) | (simp [*]; done) | (refine congrArg Value.bool (Bool.eq_iff_iff.2 ?_); simp)), (by first | rfl | (simp; done) | (simp [*]; done) | (refine congrArg Value.bool (Bool.eq_iff_iff.2 ?_); simp)), H', ⟨Nat.le_refl _⟩, ⟨by (with_reducible repeat (first | apply Kd.R_alloc | apply Kd.R_drewN | apply Kd.R_drew)); exact HO197.out⟩, ⟨by repeat (first | (with_reducible first | exact HB.out | apply below_alloc | apply pw_below_drewN | apply below_drew1) | exact HB.out)⟩⟩
        case round =>
          clear H'
          try clear c1
          try clear p2
          try clear c4
          try clear p6
          try clear c7
          try clear c8
          try clear p2
          try clear p6
          obtain ⟨x11_2, x12_2, rfl, rfl, HA, HK2, HO_9, HB⟩ := hrel
          cases gk with
          | zero => exact absurd HA.out (by simp [withylaw10_FsmAnswers.l0])
          | succ k2 =>
            have H := HA.out
            clear HA
            simp only [withylaw10_FsmAnswers.l0] at H
            by_cases c10 : x12_2 < (t194.length : Int)
            · rw [if_pos c10] at H
              have c10b0 : decide (x12_2 < (t194.length : Int)) = true := decide_eq_true c10
              clear c10
              by_cases c11 : 0 ≤ x12_2
              · rw [if_pos c11] at H
                have c11b0 : decide (0 ≤ x12_2) = true := decide_eq_true c11
                clear c11
                by_cases c12 : (rd t194 x12_2) = x7_4
                · rw [if_pos c12] at H
                  have c12b0 : ((rd t194 x12_2) == x7_4) = true := beq_iff_eq.mpr c12
                  have c12b1 : ((rd t194 x12_2) != x7_4) = false := bne_eq_false_iff_eq.mpr c12
                  clear c12
                  have H' := Aside0.mk H
                  clear H
                  obtain ⟨Ao13, co13, eo13⟩ := Kd.R_slice HO_9.out
                  subst eo13
                  have p198 : 0 ≤ (x12_2 : Int) := of_decide_eq_true (by first | (with_reducible assumption) | assumption)
                  have q198 : x12_2 < (t194.length : Int) := of_decide_eq_true (by first | (with_reducible assumption) | assumption)
                  obtain ⟨ad198, e198, hx198_0⟩ := Kd.at_int (Kd.R_reads' HO_9.out).2.2 x12_2 p198 q198
                  cases e198
                  replace p198 := eq_true p198
                  replace q198 := eq_true q198
                  go_wp2
                  go_roundg k2
                  case measure => have := HJ4.out; have := HK2.out; omega
                  case rel => exact ⟨(wrap64 (x11_2 + 1)), (wrap64 (x12_2 + 1)), (by first | rfl | (simp; done) | (simp [*]; done) | (refine congrArg Value.bool (Bool.eq_iff_iff.2 ?_); simp)), (by first | rfl | (simp; done) | (simp [*]; done) | (refine congrArg Value.bool (Bool.eq_iff_iff.2 ?_); simp)), H', ⟨by have := HJ4.out; have := HK2.out; omega⟩, ⟨by (with_reducible repeat (first | apply Kd.R_alloc | apply Kd.R_drewN | apply Kd.R_drew)); exact HO_9.out⟩, ⟨by repeat (first | (with_reducible first | exact HB.out | apply below_alloc | apply pw_below_drewN | apply below_drew1) | exact HB.out)⟩⟩
                · rw [if_neg c12] at H
                  have c12b0 : ((rd t194 x12_2) == x7_4) = false := beq_eq_false_iff_ne.mpr c12
                  have c12b1 : ((rd t194 x12_2) != x7_4) = true := bne_iff_ne.mpr c12
                  have H' := Aside0.mk H
                  clear H
                  obtain ⟨Ao14, co14, eo14⟩ := Kd.R_slice HO_9.out
                  subst eo14
                  have p198 : 0 ≤ (x12_2 : Int) := of_decide_eq_true (by first | (with_reducible assumption) | assumption)
                  have q198 : x12_2 < (t194.length : Int) := of_decide_eq_true (by first | (with_reducible assumption) | assumption)
                  obtain ⟨ad198, e198, hx198_0⟩ := Kd.at_int (Kd.R_reads' HO_9.out).2.2 x12_2 p198 q198
                  cases e198
                  replace p198 := eq_true p198
                  replace q198 := eq_true q198
                  go_wp2
                  go_roundg k2
                  case measure => have := HJ4.out; have := HK2.out; omega
                  case rel => exact ⟨(x11_2), (wrap64 (x12_2 + 1)), (by first | rfl | (simp; done) | (simp [*]; done) | (refine congrArg Value.bool (Bool.eq_iff_iff.2 ?_); simp)), (by first | rfl | (simp; done) | (simp [*]; done) | (refine congrArg Value.bool (Bool.eq_iff_iff.2 ?_); simp)), H', ⟨by have := HJ4.out; have := HK2.out; omega⟩, ⟨by (with_reducible repeat (first | apply Kd.R_alloc | apply Kd.R_drewN | apply Kd.R_drew)); exact HO_9.out⟩, ⟨by repeat (first | (with_reducible first | exact HB.out | apply below_alloc | apply pw_below_drewN | apply below_drew1) | exact HB.out)⟩⟩
              · rw [if_neg c11] at H
                exact absurd H (by simp)
            · rw [if_neg c10] at H
              have c10b0 : decide (x12_2 < (t194.length : Int)) = false := decide_eq_false c10
              clear c10
              replace H := Option.bind_eq_some_iff.mp H
              obtain ⟨t199, A150, H⟩ := H
              replace H : (if t199 = 0 then (if x11_2 = 1 then (if t193 = 8 then (some (a1 == true)) else (some (a1 == (t193 == 9)))) else (some false)) else (some false)) = some r := H
              have A15 := Aside0.mk A150
              clear A150
              by_cases c16 : t199 = 0
              · rw [if_pos c16] at H
                have c16b0 : (t199 == 0) = true := beq_iff_eq.mpr c16
                have c16b1 : (t199 != 0) = false := bne_eq_false_iff_eq.mpr c16
                clear c16
                by_cases c17 : x11_2 = 1
                · rw [if_pos c17] at H
                  have c17b0 : (x11_2 == 1) = true := beq_iff_eq.mpr c17
                  have c17b1 : (x11_2 != 1) = false := bne_eq_false_iff_eq.mpr c17
                  clear c17
                  by_cases c18 : t193 = 8
                  · rw [if_pos c18] at H
                    have c18b0 : (t193 == 8) = true := beq_iff_eq.mpr c18
                    have c18b1 : (t193 != 8) = false := bne_eq_false_iff_eq.mpr c18
                    clear c18
                    obtain rfl := Option.some.inj H
                    obtain ⟨Ao19, co19, eo19⟩ := Kd.R_slice HO_9.out
                    subst eo19
                    go_wp2_with (first | ((with_reducible refine gate_callee (f := 13) rfl ?_); refine goesL_ (some 43) rfl rfl Tryd.func13 (by kernel_rfl) rfl #[.int .i64 t195] rfl (by (try simp only [List.map_toArray, List.map_cons, List.map_nil]); first | done | rfl | (simp only [List.length_drop, List.length_take]; rfl)) ?_; (with_reducible refine (withylaw0_Num.calls t195 t199 _ A15.out).mono ?_); rintro e w' ⟨rfl, ⟨nd, rfl⟩⟩; refine ⟨_, rfl, ?_⟩))
                    go_ret
                    exact ⟨by first | rfl | (simp [errW_none, errW_some] <;> rfl) | (simp [*, errW_none, errW_some] <;> rfl), by repeat (first | (with_reducible first | exact HB.out | apply below_alloc | apply pw_below_drewN | apply below_drew1) | exact HB.out)⟩
                  · rw [if_neg c18] at H
                    have c18b0 : (t193 == 8) = false := beq_eq_false_iff_ne.mpr c18
                    have c18b1 : (t193 != 8) = true := bne_iff_ne.mpr c18
                    obtain rfl := Option.some.inj H
                    obtain ⟨Ao20, co20, eo20⟩ := Kd.R_slice HO_9.out
                    subst eo20
                    go_wp2_with (first | ((with_reducible refine gate_callee (f := 13) rfl ?_); refine goesL_ (some 43) rfl rfl Tryd.func13 (by kernel_rfl) rfl #[.int .i64 t195] rfl (by (try simp only [List.map_toArray, List.map_cons, List.map_nil]); first | done | rfl | (simp only [List.length_drop, List.length_take]; rfl)) ?_; (with_reducible refine (withylaw0_Num.calls t195 t199 _ A15.out).mono ?_); rintro e w' ⟨rfl, ⟨nd, rfl⟩⟩; refine ⟨_, rfl, ?_⟩))
                    go_ret
                    exact ⟨by first | rfl | (simp [errW_none, errW_some] <;> rfl) | (simp [*, errW_none, errW_some] <;> rfl), by repeat (first | (with_reducible first | exact HB.out | apply below_alloc | apply pw_below_drewN | apply below_drew1) | exact HB.out)⟩
                · rw [if_neg c17] at H
                  have c17b0 : (x11_2 == 1) = false := beq_eq_false_iff_ne.mpr c17
                  have c17b1 : (x11_2 != 1) = true := bne_iff_ne.mpr c17
                  obtain rfl := Option.some.inj H
                  obtain ⟨Ao21, co21, eo21⟩ := Kd.R_slice HO_9.out
                  subst eo21
                  go_wp2_with (first | ((with_reducible refine gate_callee (f := 13) rfl ?_); refine goesL_ (some 43) rfl rfl Tryd.func13 (by kernel_rfl) rfl #[.int .i64 t195] rfl (by (try simp only [List.map_toArray, List.map_cons, List.map_nil]); first | done | rfl | (simp only [List.length_drop, List.length_take]; rfl)) ?_; (with_reducible refine (withylaw0_Num.calls t195 t199 _ A15.out).mono ?_); rintro e w' ⟨rfl, ⟨nd, rfl⟩⟩; refine ⟨_, rfl, ?_⟩))
                  go_ret
                  exact ⟨by first | rfl | (simp [errW_none, errW_some] <;> rfl) | (simp [*, errW_none, errW_some] <;> rfl), by repeat (first | (with_reducible first | exact HB.out | apply below_alloc | apply pw_below_drewN | apply below_drew1) | exact HB.out)⟩
              · rw [if_neg c16] at H
                have c16b0 : (t199 == 0) = false := beq_eq_false_iff_ne.mpr c16
                have c16b1 : (t199 != 0) = true := bne_iff_ne.mpr c16
                obtain rfl := Option.some.inj H
                obtain ⟨Ao22, co22, eo22⟩ := Kd.R_slice HO_9.out
                subst eo22
                go_wp2_with (first | ((with_reducible refine gate_callee (f := 13) rfl ?_); refine goesL_ (some 43) rfl rfl Tryd.func13 (by kernel_rfl) rfl #[.int .i64 t195] rfl (by (try simp only [List.map_toArray, List.map_cons, List.map_nil]); first | done | rfl | (simp only [List.length_drop, List.length_take]; rfl)) ?_; (with_reducible refine (withylaw0_Num.calls t195 t199 _ A15.out).mono ?_); rintro e w' ⟨rfl, ⟨nd, rfl⟩⟩; refine ⟨_, rfl, ?_⟩))
                go_ret
                exact ⟨by first | rfl | (simp [errW_none, errW_some] <;> rfl) | (simp [*, errW_none, errW_some] <;> rfl), by repeat (first | (with_reducible first | exact HB.out | apply below_alloc | apply pw_below_drewN | apply below_drew1) | exact HB.out)⟩
  · replace c4 := Bool.eq_false_iff.mpr c4
    subst c4
    have H1 : (some false) = some r := by rw [if_neg (show ¬ (false = true) by decide)] at H; exact H
    clear H
    have H := H1
    clear H1
    obtain rfl := Option.some.inj H
    go_enter Tryd.func8, Tryd.ntmps8
    go_wp2_with (first | ((with_reducible refine gate_callee (f := 15) rfl ?_); refine goesL_ (some 13) rfl rfl Tryd.func15 (by kernel_rfl) rfl #[] rfl (by (try simp only [List.map_toArray, List.map_cons, List.map_nil]); first | done | rfl | (simp only [List.length_drop, List.length_take]; rfl)) ?_; (with_reducible refine (withylaw10_awake.calls k  false _ A3.out).mono ?_); rintro e w23 ⟨rfl, hb⟩; refine ⟨_, rfl, ?_⟩; have n0_ := Aside0.mk (below_step (by repeat (first | (with_reducible first | exact HB.out | apply below_alloc | apply pw_below_drewN | apply below_drew1) | exact HB.out)) hb); clear HB; have HB := n0_; clear n0_; (try clear hb); (try clear hb2); (try clear hk); (try clear hi)))
    go_ret
    exact ⟨by first | rfl | (simp [errW_none, errW_some] <;> rfl) | (simp [*, errW_none, errW_some] <;> rfl), by repeat (first | (with_reducible first | exact HB.out | apply below_alloc | apply pw_below_drewN | apply below_drew1) | exact HB.out)⟩

/-- THE ONE PURE STATEMENT of withylaw10_FsmAnswers: yours. -/
def withylaw10_FsmAnswers.Pure : Prop := ∀ (a0 : Int) (a1 : Bool), (Lit.int .i64 a0).wf = true → ∃ k, withylaw10_FsmAnswers.f k a0 a1 = some true
theorem withylaw10_FsmAnswers.walk (P : withylaw10_FsmAnswers.Pure) (a0 : Int) (a1 : Bool) (w : World) (w0 : (Lit.int .i64 a0).wf = true) :
    Calls Tryd.prog 8 #[.int .i64 a0, .bool a1] w fun e w' => e = .returned (.bool true) ∧ Below w.heap.size w w' := by
  obtain ⟨k, h⟩ := P a0 a1 w0
  refine (withylaw10_FsmAnswers.calls k a0 a1 true w h).mono ?_
  rintro e w' ⟨rfl, hd⟩
  exact ⟨rfl, hd⟩

end Go.Proofs.YtcdlgiabpjkjoaaDoor.PM
