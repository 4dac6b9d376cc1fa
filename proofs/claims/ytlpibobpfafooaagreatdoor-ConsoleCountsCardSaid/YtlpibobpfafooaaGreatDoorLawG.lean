/-
  ConsoleCounts, walked.
-/
import Derived.Test.YtlpibobpfafooaaGreatDoorLinP
import Derived.Test.YtlpibobpfafooaaGreatDoorPurD
import Derived.Test.YtlpibobpfafooaaGreatDoorFsmH
import Derived.Test.YtlpibobpfafooaaGreatDoorPR5
set_option linter.unusedVariables false
set_option linter.unusedSimpArgs false
namespace Go.Proofs.YtlpibobpfafooaaGreatDoor.SpR
open Go.RowKit Go.Proofs.YtlpibobpfafooaaGreatDoor.SpQ Go.Proofs.YtlpibobpfafooaaGreatDoor.PR Go.Proofs.YtlpibobpfafooaaGreatDoorW.PrintWords Go.Proofs.YtlpibobpfafooaaGreatDoorW.PrintLast Go.Proofs.YtlpibobpfafooaaGreatDoorW.PrintMore Go.Proofs.Wy
theorem w64 (x : Int) (h0 : -9223372036854775808 ≤ x) (h1 : x ≤ 9223372036854775807) : wrap64 x = x := by unfold wrap64; omega
theorem target_ref (x : Nat) (h : x ≤ 65535) : withyref21_Target.f (x : Int) 256 1 6 = some (targetL (x : Int) 256 1 6).1 := by
  have e1 : Int.tdiv (x : Int) 256 = (x : Int) / 256 := Int.tdiv_eq_ediv_of_nonneg (by omega)
  have e2 : Int.tmod (x : Int) 256 = (x : Int) % 256 := Int.tmod_eq_emod_of_nonneg (by omega)
  have hT : (targetL (x : Int) 256 1 6).1 = min (max ((x : Int) / 256 + if (x : Int) % 256 > 0 then 1 else 0) 1) 6 := by
    unfold targetL
    rw [if_neg (by omega)]
  unfold withyref21_Target.f
  rw [if_neg (by decide), hT, e1, e2, w64 ((x : Int) / 256) (by omega) (by omega), w64 ((x : Int) / 256 + 1) (by omega) (by omega)]
  unfold mx mn
  by_cases h1 : (x : Int) % 256 > 0
  · rw [if_pos h1, if_pos h1]
    congr 1
    split <;> split <;> omega
  · rw [if_neg h1, if_neg h1]
    congr 1
    split <;> split <;> omega
theorem delay_said (D M : Int) (x : Nat) (hM : 1 ≤ M) (hM2 : M ≤ 100) (hD0 : 0 ≤ D) (hD : D ≤ 100) : wrap64 (D - Int.tmod (x : Int) M) = D - (x : Int) % M := by
  have e2 : Int.tmod (x : Int) M = (x : Int) % M := Int.tmod_eq_emod_of_nonneg (by omega)
  have h5 := Int.emod_nonneg (x : Int) (show M ≠ 0 by omega)
  have h6 := Int.emod_lt_of_pos (x : Int) (show 0 < M by omega)
  rw [e2, w64 _ (by omega) (by omega)]
theorem delay_ref (t x : Nat) (ht : t ≤ 7) (hx : x ≤ 65535) : ∃ k, withyref10_Delay.f k (t : Int) 3 60 (x : Int) = some ((delayL (t : Int) 3 60 (x : Int)).1, 0) := by
  have hx0 : decide ((x : Int) < 0) = false := by rw [decide_eq_false_iff_not]; omega
  have hd : ∀ T : Nat, T ≤ 7 → (delayL (T : Int) 3 60 (x : Int)).1 = doubleN T 60 3 - (x : Int) % (doubleN T 60 3 / 4 + 1) := by
    intro T hT
    unfold delayL
    rw [if_neg (by omega), Int.toNat_natCast]
  have : t = 0 ∨ t = 1 ∨ t = 2 ∨ t = 3 ∨ t = 4 ∨ t = 5 ∨ t = 6 ∨ t = 7 := by omega
  refine ⟨20, ?_⟩
  rw [hd t ht]
  have hj : withyref10_Delay.f 20 (t : Int) 3 60 (x : Int) = withyref10_Delay.j0 20 (t : Int) 3 60 (x : Int) (decide ((x : Int) < 0)) := by
    unfold withyref10_Delay.f
    rw [if_neg (by omega), if_neg (by omega), if_neg (by decide), if_neg (by decide), if_neg (by decide), if_neg (by decide)]
  rw [hj, hx0]
  have key : ∀ D M : Int, withyref10_Delay.j0 20 (t : Int) 3 60 (x : Int) false = some (wrap64 (D - Int.tmod (x : Int) M), 0) → doubleN t 60 3 = D → D / 4 + 1 = M → 1 ≤ M ∧ M ≤ 100 ∧ 0 ≤ D ∧ D ≤ 100 →
      withyref10_Delay.j0 20 (t : Int) 3 60 (x : Int) false = some (doubleN t 60 3 - (x : Int) % (doubleN t 60 3 / 4 + 1), 0) := by
    intro D M h1 h2 h3 ⟨h4, h5, h6, h7⟩
    rw [h1, h2, h3, delay_said D M x h4 h5 h6 h7]
  rcases this with rfl | rfl | rfl | rfl | rfl | rfl | rfl | rfl
  · exact key 3 1 (by kernel_rfl) (by decide) (by decide) (by decide)
  · exact key 6 2 (by kernel_rfl) (by decide) (by decide) (by decide)
  · exact key 12 4 (by kernel_rfl) (by decide) (by decide) (by decide)
  · exact key 24 7 (by kernel_rfl) (by decide) (by decide) (by decide)
  · exact key 48 13 (by kernel_rfl) (by decide) (by decide) (by decide)
  · exact key 60 16 (by kernel_rfl) (by decide) (by decide) (by decide)
  · exact key 60 16 (by kernel_rfl) (by decide) (by decide) (by decide)
  · exact key 60 16 (by kernel_rfl) (by decide) (by decide) (by decide)
end Go.Proofs.YtlpibobpfafooaaGreatDoor.SpR
namespace Go.Proofs.YtlpibobpfafooaaGreatDoor.H
open Go.RowKit Go.Proofs.Wy Go.Proofs.YtlpibobpfafooaaGreatDoorW.PrintWords Go.Proofs

set_option maxRecDepth 100000 in
theorem fsm_out : ∀ s : Fin 10, ∀ v : Fin 16, runL ([102, 115, 109, 32] ++ itoaL (s.val : Int) ++ [32] ++ itoaL (v.val : Int)) = ((if (stepP (s.val : Int) (v.val : Int)).2.2 = 0 then Go.Proofs.Wy.stepT (s.val : Int) (v.val : Int) else errL 1001) ++ [10], 0) := by decide +kernel
theorem run_target (x : Nat) (h : x ≤ 65535) : runL ([116, 97, 114, 103, 101, 116, 32] ++ itoaL (x : Int) ++ [32, 50, 53, 54, 32, 49, 32, 54]) = (itoaL (targetL (x : Int) 256 1 6).1 ++ [10], 0) := by
  have hi := itoa_word x
  have hil := itoaL_length (x : Int)
  have w1 : Wd [50, 53, 54] := ⟨by simp, by decide⟩
  have w2 : Wd [49] := ⟨by simp, by decide⟩
  have w3 : Wd [54] := ⟨by simp, by decide⟩
  have hf : fieldsL ([116, 97, 114, 103, 101, 116, 32] ++ itoaL (x : Int) ++ [32, 50, 53, 54, 32, 49, 32, 54]) = [116, 97, 114, 103, 101, 116] :: [itoaL (x : Int), [50, 53, 54], [49], [54]] := by
    rw [show ([116, 97, 114, 103, 101, 116, 32] ++ itoaL (x : Int) ++ [32, 50, 53, 54, 32, 49, 32, 54] : List UInt8) = [116, 97, 114, 103, 101, 116] ++ 32 :: (itoaL (x : Int) ++ 32 :: ([50, 53, 54] ++ 32 :: ([49] ++ 32 :: [54]))) by simp,
      fields_cons word_target, fields_cons hi, fields_cons w1, fields_cons w2, fields_last w3]
  rw [runL_out (by simp only [List.length_append, List.length_cons, List.length_nil]; omega), one_line _ (by
    intro y
    simp only [List.mem_append] at y
    rcases y with (y | y) | y
    · revert y; decide
    · exact hi.no10 y
    · revert y; decide)]
  have hr : readL [110, 110, 110, 110] [itoaL (x : Int), [50, 53, 54], [49], [54]] = some ([(x : Int), 256, 1, 6], []) := by
    have n1 : numberL [50, 53, 54] = some 256 := by decide
    have n2 : numberL [49] = some 1 := by decide
    have n3 : numberL [54] = some 6 := by decide
    simp [readL, number_itoa x (by omega), n1, n2, n3]
  have hc : (targetL (x : Int) 256 1 6).2 = 0 := by unfold targetL; rw [if_neg (by omega)]
  have ht : tellL 6 [(x : Int), 256, 1, 6] [] = (itoaL (targetL (x : Int) 256 1 6).1, 0) := by
    show (if (targetL (x : Int) 256 1 6).2 = 0 then (itoaL (targetL (x : Int) 256 1 6).1, (0 : Int)) else ([], 2400)) = _
    rw [if_pos hc]
  rw [tells_cmd ([116, 97, 114, 103, 101, 116], [110, 110, 110, 110], 6) _ ([(x : Int), 256, 1, 6], []) hf (by decide) (by decide) hr (by show (tellL 6 [(x : Int), 256, 1, 6] []).2 = 0; rw [ht])]
  show ((tellL 6 [(x : Int), 256, 1, 6] []).1 ++ [10], (0 : Int)) = _
  rw [ht]
theorem run_delay (t x : Nat) (ht : t ≤ 7) (h : x ≤ 65535) : runL ([100, 101, 108, 97, 121, 32] ++ itoaL (t : Int) ++ [32, 51, 32, 54, 48, 32] ++ itoaL (x : Int)) = (itoaL (delayL (t : Int) 3 60 (x : Int)).1 ++ [10], 0) := by
  have hi := itoa_word x
  have hil := itoaL_length (x : Int)
  have hj := itoa_word t
  have hjl := itoaL_length (t : Int)
  have w1 : Wd [51] := ⟨by simp, by decide⟩
  have w2 : Wd [54, 48] := ⟨by simp, by decide⟩
  have hf : fieldsL ([100, 101, 108, 97, 121, 32] ++ itoaL (t : Int) ++ [32, 51, 32, 54, 48, 32] ++ itoaL (x : Int)) = [100, 101, 108, 97, 121] :: [itoaL (t : Int), [51], [54, 48], itoaL (x : Int)] := by
    rw [show ([100, 101, 108, 97, 121, 32] ++ itoaL (t : Int) ++ [32, 51, 32, 54, 48, 32] ++ itoaL (x : Int) : List UInt8) = [100, 101, 108, 97, 121] ++ 32 :: (itoaL (t : Int) ++ 32 :: ([51] ++ 32 :: ([54, 48] ++ 32 :: itoaL (x : Int)))) by simp,
      fields_cons word_delay, fields_cons hj, fields_cons w1, fields_cons w2, fields_last hi]
  rw [runL_out (by simp only [List.length_append, List.length_cons, List.length_nil]; omega), one_line _ (by
    intro y
    simp only [List.mem_append] at y
    rcases y with ((y | y) | y) | y
    · revert y; decide
    · exact hj.no10 y
    · revert y; decide
    · exact hi.no10 y)]
  have hr : readL [110, 110, 110, 110] [itoaL (t : Int), [51], [54, 48], itoaL (x : Int)] = some ([(t : Int), 3, 60, (x : Int)], []) := by
    have n1 : numberL [51] = some 3 := by decide
    have n2 : numberL [54, 48] = some 60 := by decide
    simp [readL, number_itoa x (by omega), number_itoa t (by omega), n1, n2]
  rw [tells_cmd ([100, 101, 108, 97, 121], [110, 110, 110, 110], 5) _ ([(t : Int), 3, 60, (x : Int)], []) hf (by decide) (by decide) hr (by show (delayL (t : Int) 3 60 (x : Int)).2 = 0; unfold delayL; rw [if_neg (by omega)])]
  rfl
theorem rem_n (v : Int) (n : Nat) (hn : 0 < n) (hn2 : n ≤ 1000) : ∃ j : Nat, (IntKind.u64.wrap v).tmod (n : Int) = (j : Int) ∧ j < n := by
  have h : 0 ≤ IntKind.u64.wrap v := by
    show 0 ≤ v % 18446744073709551616
    omega
  have h2 := Int.tmod_nonneg (n : Int) h
  have h3 := Int.tmod_lt_of_pos (IntKind.u64.wrap v) (show (0 : Int) < (n : Int) by omega)
  exact ⟨((IntKind.u64.wrap v).tmod (n : Int)).toNat, by omega, by omega⟩
theorem step_code (s v : Nat) (hs : s < 10) (hv : v < 16) : (stepP (s : Int) (v : Int)).2.2 = 0 ∨ (stepP (s : Int) (v : Int)).2.2 = 1001 := by
  have h : ∀ s : Fin 10, ∀ v : Fin 16, (stepP (s.val : Int) (v.val : Int)).2.2 = 0 ∨ (stepP (s.val : Int) (v.val : Int)).2.2 = 1001 := by decide +kernel
  exact h ⟨s, hs⟩ ⟨v, hv⟩
/-- All that the last walk of ConsoleCounts asks: W is what the automaton's line tells. -/
structure CnW (s v x ty : Nat) (W F1 F2 F3 G1 G2 H1 H2 H3 sb vb xb tb TGb DLb : ByteArray) (tg dl : Int) : Prop where
  ds : ∀ w0, Calls Tryz.prog 17 #[.int .i64 (s : Int)] w0 fun e w' => e = .returned (.string sb) ∧ Below w0.heap.size w0 w'
  dv : ∀ w0, Calls Tryz.prog 17 #[.int .i64 (v : Int)] w0 fun e w' => e = .returned (.string vb) ∧ Below w0.heap.size w0 w'
  dx : ∀ w0, Calls Tryz.prog 17 #[.int .i64 (x : Int)] w0 fun e w' => e = .returned (.string xb) ∧ Below w0.heap.size w0 w'
  dt : ∀ w0, Calls Tryz.prog 17 #[.int .i64 (ty : Int)] w0 fun e w' => e = .returned (.string tb) ∧ Below w0.heap.size w0 w'
  dg : ∀ w0, Calls Tryz.prog 17 #[.int .i64 tg] w0 fun e w' => e = .returned (.string TGb) ∧ Below w0.heap.size w0 w'
  dd : ∀ w0, Calls Tryz.prog 17 #[.int .i64 dl] w0 fun e w' => e = .returned (.string DLb) ∧ Below w0.heap.size w0 w'
  de : ∀ w0, Calls Tryz.prog 22 #[.int .i64 (ty : Int), .int .i64 3, .int .i64 60, .int .i64 (x : Int)] w0 fun e w' => e = .returned (.tuple #[.int .i64 dl, .int .i64 0]) ∧ Below w0.heap.size w0 w'
  ta : ∀ w0, Calls Tryz.prog 23 #[.int .i64 (x : Int), .int .i64 256, .int .i64 1, .int .i64 6] w0 fun e w' => e = .returned (.int .i64 tg) ∧ Below w0.heap.size w0 w'
  f1 : ∀ w0, (Op.stringOp .add ⟨#[102, 115, 109, 32]⟩ sb).run Tryz.prog w0 = .ok (.string F1) w0
  f2 : ∀ w0, (Op.stringOp .add F1 ⟨#[32]⟩).run Tryz.prog w0 = .ok (.string F2) w0
  f3 : ∀ w0, (Op.stringOp .add F2 vb).run Tryz.prog w0 = .ok (.string F3) w0
  g1 : ∀ w0, (Op.stringOp .add ⟨#[116, 97, 114, 103, 101, 116, 32]⟩ xb).run Tryz.prog w0 = .ok (.string G1) w0
  g2 : ∀ w0, (Op.stringOp .add G1 ⟨#[32, 50, 53, 54, 32, 49, 32, 54]⟩).run Tryz.prog w0 = .ok (.string G2) w0
  h1 : ∀ w0, (Op.stringOp .add ⟨#[100, 101, 108, 97, 121, 32]⟩ tb).run Tryz.prog w0 = .ok (.string H1) w0
  h2 : ∀ w0, (Op.stringOp .add H1 ⟨#[32, 51, 32, 54, 48, 32]⟩).run Tryz.prog w0 = .ok (.string H2) w0
  h3 : ∀ w0, (Op.stringOp .add H2 xb).run Tryz.prog w0 = .ok (.string H3) w0
  o1 : ∀ w0, TabW w0 → Calls Tryz.prog 13 #[.string F3] w0 fun e w' => e = .returned (.string W) ∧ Below w0.heap.size w0 w'
  o2 : ∀ w0, TabW w0 → Calls Tryz.prog 13 #[.string G2] w0 fun e w' => e = .returned (.string TGb) ∧ Below w0.heap.size w0 w'
  o3 : ∀ w0, TabW w0 → Calls Tryz.prog 13 #[.string H3] w0 fun e w' => e = .returned (.string DLb) ∧ Below w0.heap.size w0 w'
theorem cn_w (s v x ty : Nat) (hs : s < 10) (hv : v < 16) (hx : x ≤ 65535) (ht : ty ≤ 7) : ∃ F1 F2 F3 G1 G2 H1 H2 H3 sb vb xb tb TGb DLb tg dl,
    CnW s v x ty ⟨(if (stepP (s : Int) (v : Int)).2.2 = 0 then Go.Proofs.Wy.stepT (s : Int) (v : Int) else errL 1001).toArray⟩ F1 F2 F3 G1 G2 H1 H2 H3 sb vb xb tb TGb DLb tg dl := by
  have l1 := itoaL_length (s : Int)
  have l2 := itoaL_length (v : Int)
  have l3 := itoaL_length (x : Int)
  have l4 := itoaL_length (ty : Int)
  have hfs := fsm_out ⟨s, hs⟩ ⟨v, hv⟩
  dsimp only at hfs
  have hwl : (if (stepP (s : Int) (v : Int)).2.2 = 0 then Go.Proofs.Wy.stepT (s : Int) (v : Int) else errL 1001).length ≤ 1000 := by
    split
    · have h1 := (stepP_bd (s : Int) (v : Int)).2.1
      have h2 := itoaL_length (stepP (s : Int) (v : Int)).1
      have h3 := flat_len (stepP (s : Int) (v : Int)).2.1
      unfold Go.Proofs.Wy.stepT
      rw [List.length_append]
      omega
    · have := errL_len 1001
      omega
  have htl := itoaL_length (targetL (x : Int) 256 1 6).1
  have hdl := itoaL_length (delayL (ty : Int) 3 60 (x : Int)).1
  have htb : 0 ≤ (targetL (x : Int) 256 1 6).1 ∧ (targetL (x : Int) 256 1 6).1 ≤ 10 := by
    unfold targetL
    rw [if_neg (by omega)]
    dsimp only
    split <;> omega
  have hdb := delayL_bd (ty : Int) 3 60 (x : Int)
  obtain ⟨kd, hkd⟩ := SpR.delay_ref ty x ht hx
  refine ⟨_, _, _, _, _, _, _, _, _, _, _, _, _, _, (targetL (x : Int) 256 1 6).1, (delayL (ty : Int) 3 60 (x : Int)).1,
    fun w0 => SpR.dec_any (s : Int) w0 (by omega) (by omega), fun w0 => SpR.dec_any (v : Int) w0 (by omega) (by omega), fun w0 => SpR.dec_any (x : Int) w0 (by omega) (by omega), fun w0 => SpR.dec_any (ty : Int) w0 (by omega) (by omega),
    fun w0 => SpR.dec_any _ w0 (by omega) (by omega), fun w0 => SpR.dec_any _ w0 (by omega) (by omega),
    fun w0 => PR.withyref10_Delay.calls kd _ _ _ _ _ _ w0 hkd, fun w0 => PR.withyref21_Target.calls _ _ _ _ _ w0 (SpR.target_ref x hx),
    add_said [102, 115, 109, 32] (itoaL (s : Int)) (by simp only [List.length_cons, List.length_nil]; omega),
    add_said ([102, 115, 109, 32] ++ itoaL (s : Int)) [32] (by simp only [List.length_append, List.length_cons, List.length_nil]; omega),
    add_said ([102, 115, 109, 32] ++ itoaL (s : Int) ++ [32]) (itoaL (v : Int)) (by simp only [List.length_append, List.length_cons, List.length_nil]; omega),
    add_said [116, 97, 114, 103, 101, 116, 32] (itoaL (x : Int)) (by simp only [List.length_cons, List.length_nil]; omega),
    add_said ([116, 97, 114, 103, 101, 116, 32] ++ itoaL (x : Int)) [32, 50, 53, 54, 32, 49, 32, 54] (by simp only [List.length_append, List.length_cons, List.length_nil]; omega),
    add_said [100, 101, 108, 97, 121, 32] (itoaL (ty : Int)) (by simp only [List.length_cons, List.length_nil]; omega),
    add_said ([100, 101, 108, 97, 121, 32] ++ itoaL (ty : Int)) [32, 51, 32, 54, 48, 32] (by simp only [List.length_append, List.length_cons, List.length_nil]; omega),
    add_said ([100, 101, 108, 97, 121, 32] ++ itoaL (ty : Int) ++ [32, 51, 32, 54, 48, 32]) (itoaL (x : Int)) (by simp only [List.length_append, List.length_cons, List.length_nil]; omega),
    fun w0 hT0 => one_any _ _ _ w0 rfl hfs (by omega) hT0,
    fun w0 hT0 => one_any _ _ _ w0 rfl (run_target x hx) (by omega) hT0,
    fun w0 hT0 => one_any _ _ _ w0 rfl (run_delay ty x ht hx) (by omega) hT0⟩
set_option maxHeartbeats 8000000 in
theorem counts_walk (st ev ld ty : Int) (w : World) (h1 : (Lit.int .i64 st).wf = true) (h2 : (Lit.int .i64 ev).wf = true) (h3 : (Lit.int .i64 ld).wf = true) (h4 : (Lit.int .i64 ty).wf = true) (hT : TabW w) :
    Calls Tryz.prog 10 #[.int .i64 st, .int .i64 ev, .int .i64 ld, .int .i64 ty] w fun e w' => e = .returned (.bool true) ∧ Below w.heap.size w w' := by
  obtain ⟨s, hs, hs10⟩ : ∃ j : Nat, (IntKind.u64.wrap st).tmod 10 = (j : Int) ∧ j < 10 := rem_n st 10 (by decide) (by decide)
  obtain ⟨v, hv, hv16⟩ : ∃ j : Nat, (IntKind.u64.wrap ev).tmod 16 = (j : Int) ∧ j < 16 := rem_n ev 16 (by decide) (by decide)
  obtain ⟨x, hx0, hx⟩ : ∃ j : Nat, ld % 65536 = (j : Int) ∧ j ≤ 65535 := ⟨(ld % 65536).toNat, by omega, by omega⟩
  obtain ⟨t, ht0, ht⟩ : ∃ j : Nat, ty % 8 = (j : Int) ∧ j ≤ 7 := ⟨(ty % 8).toNat, by omega, by omega⟩
  have hws : IntKind.i64.wrap (s : Int) = (s : Int) := i64_id _ (by omega) (by omega)
  have hwv : IntKind.i64.wrap (v : Int) = (v : Int) := i64_id _ (by omega) (by omega)
  have hmx : Go.bits .and .i64 ld 65535 = (x : Int) := (and_mask ld 16 (by decide)).trans hx0
  have hmt : Go.bits .and .i64 ty 7 = (t : Int) := (and_mask ty 3 (by decide)).trans ht0
  have hS := fun w0 => rstep_any (s : Int) (v : Int) w0
  have hcode := step_code s v hs10 hv16
  obtain ⟨⟨b1, b2⟩, b3, b4⟩ := stepP_bd (s : Int) (v : Int)
  obtain ⟨F1, F2, F3, G1, G2, H1, H2, H3, sb, vb, xb, tb, TGb, DLb, tg, dl, ds, dv, dx, dt, dg, dd, de, ta, f1, f2, f3, g1, g2, p1, p2, p3, o1, o2, o3⟩ := cn_w s v x t hs10 hv16 hx ht
  unfold Go.Proofs.Wy.stepT at o1
  generalize (stepP (s : Int) (v : Int)).1 = tz at hS b1 b2 o1
  generalize (stepP (s : Int) (v : Int)).2.1 = acts at hS b3 b4 o1
  generalize (stepP (s : Int) (v : Int)).2.2 = er at hS hcode o1
  have HAw := Lib.hid (awake_any w hT)
  have HT := Lib.hid hT
  have DS := Lib.hid ds
  have DV := Lib.hid dv
  have DX := Lib.hid dx
  have DT := Lib.hid dt
  have DG := Lib.hid dg
  have DD := Lib.hid dd
  have DL := Lib.hid de
  have TG := Lib.hid ta
  have O2 := Lib.hid o2
  have O3 := Lib.hid o3
  have DE := Lib.hid (fun w0 => SpR.dec_any 1001 w0 (by decide) (by decide))
  have hea := errP_add 1001
  generalize (⟨(itoaL 1001).toArray⟩ : ByteArray) = eb at DE hea
  clear hT ds dv dx dt dg dd de ta o2 o3 h1 h2 h3 h4 hx0 ht0 hx ht hs10 hv16
  rcases hcode with rfl | rfl
  · rw [if_pos rfl] at o1
    have O1 := Lib.hid o1
    have hS1 : ∀ w0, Calls Tryz.prog 21 #[.int .i64 (s : Int), .int .i64 (v : Int)] w0 fun e w' => ∃ A c, e = .returned (.tuple #[.int .i64 tz, .slice A acts.length c, .int .i64 0]) ∧ (∀ k (hk : k < acts.length), ∃ h, A = some ⟨h, 0, none⟩ ∧ w'.cell? ⟨h, k, none⟩ = some (.int .i64 acts[k])) ∧ Below w0.heap.size w0 w' := fun w0 =>
      (hS w0).mono fun e w' ⟨vo, he, hR, hB⟩ => by
        have ho := Kd.own_of_R hR
        have hlen : (encs (Value.int .i64) acts).length = acts.length := encs_length _
        rw [← hlen] at ho
        rcases RowAt.own ho with h0 | ⟨h, c, hvo, _, hc⟩
        · have hn : acts = [] := by simpa [encs] using h0
          obtain ⟨A, c, hvo⟩ := Kd.R_slice hR
          subst hn
          exact ⟨A, c, by rw [he, hvo], fun k hk => absurd hk (Nat.not_lt_zero k), hB⟩
        · rw [hlen] at hvo
          refine ⟨some ⟨h, 0, none⟩, c, by rw [he, hvo], fun k hk => ⟨h, rfl, hc k _ ?_⟩, hB⟩
          simp [encs, hk]
    have HS1 := Lib.hid hS1
    have HIt := Lib.hid (fun w0 => SpR.dec_any tz w0 (by omega) (by omega))
    have hl1 := itoaL_length tz
    have HB4 := Lib.hid b4
    clear hS hS1 o1 b4 b1 b2
    go_enter Tryz.func10, Tryz.ntmps10
    go_wp2_with fail
    ((with_reducible refine HAw.out.mono ?_); rintro e w0 ⟨rfl, hb0⟩)
    have HB0 := Lib.hid hb0
    clear hb0
    go_wp2_with fail
    ((with_reducible refine (HS1.out _).mono ?_); rintro e w1 ⟨A, c, rfl, hc_, hb1⟩)
    have HB1 := Lib.hid (HB0.out.trans (hb1.mono HB0.out.size))
    have HC1 := Lib.hid hc_
    clear hb1 hc_
    go_wp2_with fail
    ((with_reducible refine (DE.out _).mono ?_); rintro e w2 ⟨rfl, hb2⟩)
    have HB2a := Lib.hid (HB1.out.trans (hb2.mono HB1.out.size))
    have HC2 : Hid (∀ k (hk : k < acts.length), ∃ h, A = some ⟨h, 0, none⟩ ∧ w2.cell? ⟨h, k, none⟩ = some (.int .i64 acts[k])) := Lib.hid (fun k hk => by obtain ⟨h, e1, e2⟩ := HC1.out k hk; exact ⟨h, e1, pw_cell_below hb2 e2⟩)
    clear hb2 HC1
    go_wp2_with fail
    ((with_reducible refine (HIt.out _).mono ?_); rintro e w3 ⟨rfl, hb3⟩)
    have HB3a := Lib.hid (HB2a.out.trans (hb3.mono HB2a.out.size))
    have HC3 : Hid (∀ k (hk : k < acts.length), ∃ h, A = some ⟨h, 0, none⟩ ∧ w3.cell? ⟨h, k, none⟩ = some (.int .i64 acts[k])) := Lib.hid (fun k hk => by obtain ⟨h, e1, e2⟩ := HC2.out k hk; exact ⟨h, e1, pw_cell_below hb3 e2⟩)
    clear hb3 HC2
    go_wp2_with fail
    go_loopw [14, 15] (fun v14 v15 wr => ∃ (k : Nat) (S : List UInt8), k ≤ acts.length ∧ v15 = .int .i64 (k : Int) ∧ v14 = .string ⟨S.toArray⟩ ∧ Hid (S = itoaL tz ++ (acts.take k).flatMap fun x => 32 :: itoaL x) ∧ Hid (Below w3.heap.size w3 wr)) (fun _ v15 _ => acts.length - (intOf v15).toNat)
    case atStart => exact ⟨0, itoaL tz, Nat.zero_le _, rfl, rfl, Lib.hid (by simp), Lib.hid (Below.refl _ _)⟩
    case round =>
      obtain ⟨k, S, hk, rfl, rfl, hSd, hB⟩ := hrel
      by_cases hlt : k < acts.length
      · obtain ⟨h, hA, hc0⟩ := HC3.out k hlt
        have hcell := pw_cell_below hB.out hc0
        subst hA
        have hbd := HB4.out acts[k] (List.getElem_mem hlt)
        have hT := Lib.hid (acts_take acts k hlt)
        have hfl := flat_len (acts.take k)
        have htk : (acts.take k).length ≤ 5 := by rw [List.length_take]; omega
        generalize acts[k] = y at hcell hbd hT
        obtain ⟨y0, y1⟩ := hbd
        have hSl : S.length ≤ 200 := by rw [hSd.out, List.length_append]; omega
        have hyl := itoaL_length y
        have HI2 := Lib.hid (fun w0 => SpR.dec_any y w0 (by omega) (by omega))
        have ad1 := add_said S [32] (by simp only [List.length_cons, List.length_nil]; omega)
        have ad2 := add_said (S ++ [32]) (itoaL y) (by simp only [List.length_append, List.length_cons, List.length_nil]; omega)
        have hSd2 : Hid (S ++ [32] ++ itoaL y = itoaL tz ++ (acts.take (k + 1)).flatMap fun x => 32 :: itoaL x) := Lib.hid (by
          rw [hT.out, hSd.out]
          simp)
        obtain ⟨S2, hS2⟩ : ∃ S2, S2 = S ++ [32] ++ itoaL y := ⟨_, rfl⟩
        rw [← hS2] at ad2 hSd2
        generalize (⟨(S ++ [32]).toArray⟩ : ByteArray) = Sa at ad1 ad2
        generalize (⟨(itoaL y).toArray⟩ : ByteArray) = yb at ad2 HI2
        clear hSd hT hyl hS2 hfl htk hSl hc0
        go_wp2_with fail
        ((with_reducible refine (HI2.out _).mono ?_); rintro e w4 ⟨rfl, hb4⟩)
        have HB4b := Lib.hid (hB.out.trans (hb4.mono hB.out.size))
        clear hb4 hB
        go_wp2_with fail
        go_roundw
        case rel => exact ⟨k + 1, S2, by omega, by go_num, rfl, hSd2, HB4b⟩
        case measure => simp [intOf]; omega
      · have hks : acts.take k = acts := List.take_of_length_le (by omega)
        have hZ := hSd.out
        rw [hks] at hZ
        rw [← hZ] at O1
        have HB2 := Lib.hid (HB3a.out.trans (hB.out.mono HB3a.out.size))
        generalize (⟨S.toArray⟩ : ByteArray) = Wb at O1 ⊢
        have zk : ¬ ((k : Int) < (acts.length : Int)) := by omega
        clear hks hSd hZ hB HB3a HB2a HC3 hlt hk
        go_wp2_with fail
        ((with_reducible refine (DL.out _).mono ?_); rintro e w3 ⟨rfl, hb3⟩)
        have HB3 := Lib.hid (HB2.out.trans (hb3.mono HB2.out.size))
        clear hb3
        go_wp2_with fail
        ((with_reducible refine (DS.out _).mono ?_); rintro e w4 ⟨rfl, hb4⟩)
        have HB4 := Lib.hid (HB3.out.trans (hb4.mono HB3.out.size))
        clear hb4
        go_wp2_with fail
        ((with_reducible refine (DV.out _).mono ?_); rintro e w5 ⟨rfl, hb5⟩)
        have HB5 := Lib.hid (HB4.out.trans (hb5.mono HB4.out.size))
        clear hb5
        go_wp2_with fail
        ((with_reducible refine (O1.out _ (HT.out.later HB5.out)).mono ?_); rintro e w6 ⟨rfl, hb6⟩)
        have HB6 := Lib.hid (HB5.out.trans (hb6.mono HB5.out.size))
        clear hb6
        go_wp2_with fail
        ((with_reducible refine (DX.out _).mono ?_); rintro e w7 ⟨rfl, hb7⟩)
        have HB7 := Lib.hid (HB6.out.trans (hb7.mono HB6.out.size))
        clear hb7
        go_wp2_with fail
        ((with_reducible refine (O2.out _ (HT.out.later HB7.out)).mono ?_); rintro e w8 ⟨rfl, hb8⟩)
        have HB8 := Lib.hid (HB7.out.trans (hb8.mono HB7.out.size))
        clear hb8
        go_wp2_with fail
        ((with_reducible refine (TG.out _).mono ?_); rintro e w9 ⟨rfl, hb9⟩)
        have HB9 := Lib.hid (HB8.out.trans (hb9.mono HB8.out.size))
        clear hb9
        go_wp2_with fail
        ((with_reducible refine (DG.out _).mono ?_); rintro e w10 ⟨rfl, hb10⟩)
        have HB10 := Lib.hid (HB9.out.trans (hb10.mono HB9.out.size))
        clear hb10
        go_wp2_with fail
        ((with_reducible refine (DT.out _).mono ?_); rintro e w11 ⟨rfl, hb11⟩)
        have HB11 := Lib.hid (HB10.out.trans (hb11.mono HB10.out.size))
        clear hb11
        go_wp2_with fail
        ((with_reducible refine (DX.out _).mono ?_); rintro e w12 ⟨rfl, hb12⟩)
        have HB12 := Lib.hid (HB11.out.trans (hb12.mono HB11.out.size))
        clear hb12
        go_wp2_with fail
        ((with_reducible refine (O3.out _ (HT.out.later HB12.out)).mono ?_); rintro e w13 ⟨rfl, hb13⟩)
        have HB13 := Lib.hid (HB12.out.trans (hb13.mono HB12.out.size))
        clear hb13
        go_wp2_with fail
        ((with_reducible refine (DD.out _).mono ?_); rintro e w14 ⟨rfl, hb14⟩)
        have HB14 := Lib.hid (HB13.out.trans (hb14.mono HB13.out.size))
        clear hb14
        go_wp2_with fail
        go_ret
        exact ⟨rfl, HB14.out⟩
  · rw [if_neg (by decide)] at o1
    have O1 := Lib.hid o1
    generalize (⟨(errL 1001).toArray⟩ : ByteArray) = Wb at O1 hea
    have HS1 : Hid (∀ w0, Calls Tryz.prog 21 #[.int .i64 (s : Int), .int .i64 (v : Int)] w0 fun e w' => ∃ vo, e = .returned (.tuple #[.int .i64 tz, vo, .int .i64 1001]) ∧ Below w0.heap.size w0 w') := Lib.hid (fun w0 => (hS w0).mono fun e w' ⟨vo, he, _, hB⟩ => ⟨vo, he, hB⟩)
    clear hS o1 b4 b1 b2 b3
    go_enter Tryz.func10, Tryz.ntmps10
    go_wp2_with fail
    ((with_reducible refine HAw.out.mono ?_); rintro e w0 ⟨rfl, hb0⟩)
    have HB0 := Lib.hid hb0
    clear hb0
    go_wp2_with fail
    ((with_reducible refine (HS1.out _).mono ?_); rintro e w1 ⟨vo, rfl, hb1⟩)
    have HB1 := Lib.hid (HB0.out.trans (hb1.mono HB0.out.size))
    clear hb1
    go_wp2_with fail
    ((with_reducible refine (DE.out _).mono ?_); rintro e w2 ⟨rfl, hb2⟩)
    have HB2 := Lib.hid (HB1.out.trans (hb2.mono HB1.out.size))
    clear hb2
    go_wp2_with fail
    ((with_reducible refine (DL.out _).mono ?_); rintro e w3 ⟨rfl, hb3⟩)
    have HB3 := Lib.hid (HB2.out.trans (hb3.mono HB2.out.size))
    clear hb3
    go_wp2_with fail
    ((with_reducible refine (DS.out _).mono ?_); rintro e w4 ⟨rfl, hb4⟩)
    have HB4 := Lib.hid (HB3.out.trans (hb4.mono HB3.out.size))
    clear hb4
    go_wp2_with fail
    ((with_reducible refine (DV.out _).mono ?_); rintro e w5 ⟨rfl, hb5⟩)
    have HB5 := Lib.hid (HB4.out.trans (hb5.mono HB4.out.size))
    clear hb5
    go_wp2_with fail
    ((with_reducible refine (O1.out _ (HT.out.later HB5.out)).mono ?_); rintro e w6 ⟨rfl, hb6⟩)
    have HB6 := Lib.hid (HB5.out.trans (hb6.mono HB5.out.size))
    clear hb6
    go_wp2_with fail
    ((with_reducible refine (DX.out _).mono ?_); rintro e w7 ⟨rfl, hb7⟩)
    have HB7 := Lib.hid (HB6.out.trans (hb7.mono HB6.out.size))
    clear hb7
    go_wp2_with fail
    ((with_reducible refine (O2.out _ (HT.out.later HB7.out)).mono ?_); rintro e w8 ⟨rfl, hb8⟩)
    have HB8 := Lib.hid (HB7.out.trans (hb8.mono HB7.out.size))
    clear hb8
    go_wp2_with fail
    ((with_reducible refine (TG.out _).mono ?_); rintro e w9 ⟨rfl, hb9⟩)
    have HB9 := Lib.hid (HB8.out.trans (hb9.mono HB8.out.size))
    clear hb9
    go_wp2_with fail
    ((with_reducible refine (DG.out _).mono ?_); rintro e w10 ⟨rfl, hb10⟩)
    have HB10 := Lib.hid (HB9.out.trans (hb10.mono HB9.out.size))
    clear hb10
    go_wp2_with fail
    ((with_reducible refine (DT.out _).mono ?_); rintro e w11 ⟨rfl, hb11⟩)
    have HB11 := Lib.hid (HB10.out.trans (hb11.mono HB10.out.size))
    clear hb11
    go_wp2_with fail
    ((with_reducible refine (DX.out _).mono ?_); rintro e w12 ⟨rfl, hb12⟩)
    have HB12 := Lib.hid (HB11.out.trans (hb12.mono HB11.out.size))
    clear hb12
    go_wp2_with fail
    ((with_reducible refine (O3.out _ (HT.out.later HB12.out)).mono ?_); rintro e w13 ⟨rfl, hb13⟩)
    have HB13 := Lib.hid (HB12.out.trans (hb13.mono HB12.out.size))
    clear hb13
    go_wp2_with fail
    ((with_reducible refine (DD.out _).mono ?_); rintro e w14 ⟨rfl, hb14⟩)
    have HB14 := Lib.hid (HB13.out.trans (hb14.mono HB13.out.size))
    clear hb14
    go_wp2_with fail
    go_ret
    exact ⟨rfl, HB14.out⟩
end Go.Proofs.YtlpibobpfafooaaGreatDoor.H
