/-
  ConsoleFrames, walked.
-/
import Derived.Test.YtlpibobpfafooaaGreatDoorLinP
import Derived.Test.YtlpibobpfafooaaGreatDoorPurH
set_option linter.unusedVariables false
set_option linter.unusedSimpArgs false
namespace Go.Proofs.YtlpibobpfafooaaGreatDoor.H
open Go.RowKit Go.Proofs.Wy Go.Proofs.YtlpibobpfafooaaGreatDoorW.PrintWords Go.Proofs

/-- The protocol that the law takes is one. -/
theorem proto_taken (p : Int) : ∃ q : Int, Go.bits .or .i64 (Go.bits .and .i64 p 65278) 1 = q ∧ protoB q = true := by
  refine ⟨_, rfl, ?_⟩
  have e : Go.bits .and .i64 p 65278 = (((BitVec.ofInt 64 p).toNat &&& 65278 : Nat) : Int) := by
    have h1 : (65278 : Int) = ((65278 : Nat) : Int) := rfl
    have h2 : ((BitVec.ofInt 64 p &&& BitVec.ofInt 64 ((65278 : Nat) : Int)).toNat) = (BitVec.ofInt 64 p).toNat &&& 65278 := by
      rw [BitVec.toNat_and, BitVec.ofInt_natCast, BitVec.toNat_ofNat]
    have h3 : (BitVec.ofInt 64 p).toNat &&& 65278 ≤ 65278 := Nat.and_le_right
    show IntKind.i64.wrap (((BitVec.ofInt 64 p &&& BitVec.ofInt 64 (65278 : Int)).toNat : Nat) : Int) = _
    rw [h1, h2]
    exact wraps_i64 _ (by omega) (by omega)
  rw [e]
  generalize (BitVec.ofInt 64 p).toNat = n
  have h3 : n &&& 65278 ≤ 65278 := Nat.and_le_right
  have h4 := (bits_nat .i64 62 (by decide) wraps_i64 (n &&& 65278) 1 (by omega) (by omega)).2
  have h5 : Go.bits .or .i64 ((n &&& 65278 : Nat) : Int) 1 = (((n &&& 65278) ||| 1 : Nat) : Int) := h4
  rw [h5]
  generalize hq : (n &&& 65278) ||| 1 = q
  have b0 : q.testBit 0 = true := by rw [← hq, Nat.testBit_or]; simp
  have b8 : q.testBit 8 = false := by
    rw [← hq, Nat.testBit_or, Nat.testBit_and]
    have : (65278 : Nat).testBit 8 = false := by decide
    have : (1 : Nat).testBit 8 = false := by decide
    simp [*]
  have hlt : q < 65536 := by
    rw [← hq]
    exact Nat.or_lt_two_pow (n := 16) (by omega) (by omega)
  have e0 : q % 2 = 1 := by
    have := b0
    rw [Nat.testBit_zero] at this
    simpa using this
  have e8 : q / 256 % 2 = 0 := by
    have := b8
    rw [Nat.testBit_eq_decide_div_mod_eq] at this
    have h2 : ¬ q / 2 ^ 8 % 2 = 1 := by simpa using this
    have : q / 2 ^ 8 = q / 256 := rfl
    omega
  simp only [protoB, Bool.and_eq_true, decide_eq_true_eq, beq_iff_eq]
  omega

/-- All that the walk of ConsoleFrames asks of the strings that it makes. -/
structure FrW (q : Int) (D : ByteArray) (P1 P2 A T Hb U O S1 S2 S3 qb hb : ByteArray) (r : Nat) : Prop where
  a1 : ∀ w0, (Op.stringOp .add ⟨#[102, 114, 97, 109, 101, 32]⟩ qb).run Tryz.prog w0 = .ok (.string P1) w0
  a2 : ∀ w0, (Op.stringOp .add P1 ⟨#[32]⟩).run Tryz.prog w0 = .ok (.string P2) w0
  a3 : ∀ w0, (Op.stringOp .add P2 hb).run Tryz.prog w0 = .ok (.string A) w0
  a4 : ∀ w0, (Op.stringOp .add ⟨#[117, 110, 102, 114, 97, 109, 101, 32]⟩ Hb).run Tryz.prog w0 = .ok (.string U) w0
  a5 : ∀ w0, (Op.stringOp .add qb ⟨#[32]⟩).run Tryz.prog w0 = .ok (.string S1) w0
  a6 : ∀ w0, (Op.stringOp .add S1 hb).run Tryz.prog w0 = .ok (.string S2) w0
  a7 : ∀ w0, (Op.stringOp .add S2 ⟨#[10]⟩).run Tryz.prog w0 = .ok (.string O) w0
  sz : T.size = r + 3
  r3 : 3 ≤ r
  rb : r ≤ 100000
  e1 : T.extract 0 2 = ⟨#[55, 101]⟩
  e2 : T.extract r (r + 3) = ⟨#[55, 101, 10]⟩
  e3 : T.extract 2 r = Hb
  dec : ∀ w0, Calls Tryz.prog 17 #[.int .i64 q] w0 fun e w' => e = .returned (.string qb) ∧ Below w0.heap.size w0 w'
  hex : ∀ w0, Calls Tryz.prog 18 #[.string D] w0 fun e w' => e = .returned (.string hb) ∧ Below w0.heap.size w0 w'
  run1 : ∀ w0, TabW w0 → Calls Tryz.prog 14 #[.string A] w0 fun e w' => e = .returned (.tuple #[.string T, .int .i64 0]) ∧ Below w0.heap.size w0 w'
  run2 : ∀ w0, TabW w0 → Calls Tryz.prog 14 #[.string U] w0 fun e w' => e = .returned (.tuple #[.string O, .int .i64 0]) ∧ Below w0.heap.size w0 w'
theorem fr_w (q : Int) (hq : protoB q = true) (D : ByteArray) (hd : D.size ≤ 200) : ∃ P1 P2 A T Hb U O S1 S2 S3 qb hb r, FrW q D P1 P2 A T Hb U O S1 S2 S3 qb hb r := by
  obtain ⟨h1, h2⟩ := protoB_range hq
  obtain ⟨n, rfl⟩ : ∃ n : Nat, q = (n : Int) := ⟨q.toNat, by omega⟩
  have hdl : D.data.toList.length = D.size := Array.length_toList
  obtain ⟨d, hdd⟩ : ∃ d, D.data.toList = d := ⟨_, rfl⟩
  rw [hdd] at hdl
  have hfo := frame_ok (n : Int) d 0 hq (by omega)
  have hback := frame_back (n : Int) d 0 hq (by omega)
  have hsl := stuffL_length 0 (sumL (headL (n : Int) ++ d))
  have hsg := stuffL_ge 0 (sumL (headL (n : Int) ++ d))
  have h6 : (sumL (headL (n : Int) ++ d)).length = d.length + 6 := by rw [sumL_length, List.length_append, head_length]; omega
  generalize stuffL 0 (sumL (headL (n : Int) ++ d)) = E at hfo hback hsl hsg
  have hE : E ≠ [] := by
    intro e
    have h := hsg
    rw [h6, e] at h
    simp only [List.length_nil] at h
    omega
  have hhE : hexL E = E.flatMap hexB := by unfold hexL; rw [if_neg hE]
  have hT : hexL (126 :: (E ++ [126])) = [55, 101] ++ hexL E ++ [55, 101] := by
    rw [hhE]
    unfold hexL
    rw [if_neg (by simp), List.flatMap_cons, List.flatMap_append]
    have e : hexB 126 = [55, 101] := by decide
    simp [e]
  have hEl := hexs_len2 E
  rw [← hhE] at hEl
  have r1 := run_frame n d (by omega) hq (by omega)
  rw [hfo] at r1
  dsimp only at r1
  rw [hT] at r1
  have r2 := run_unframe E d (n : Int) (by omega) hback
  have hil := itoaL_length (n : Int)
  have hhl := hexL_len d
  have o2 : itoaL (n : Int) ++ 32 :: hexL d ++ [10] = itoaL (n : Int) ++ [32] ++ hexL d ++ [10] := by simp
  rw [o2] at r2
  refine ⟨_, _, _, _, _, _, _, _, _, ⟨#[]⟩, _, _, (hexL E).length + 2,
    add_said [102, 114, 97, 109, 101, 32] (itoaL (n : Int)) (by simp only [List.length_cons, List.length_nil]; omega),
    add_said ([102, 114, 97, 109, 101, 32] ++ itoaL (n : Int)) [32] (by simp only [List.length_append, List.length_cons, List.length_nil]; omega),
    add_said ([102, 114, 97, 109, 101, 32] ++ itoaL (n : Int) ++ [32]) (hexL d) (by simp only [List.length_append, List.length_cons, List.length_nil]; omega),
    add_said [117, 110, 102, 114, 97, 109, 101, 32] (hexL E) (by simp only [List.length_cons, List.length_nil]; omega),
    add_said (itoaL (n : Int)) [32] (by simp only [List.length_cons, List.length_nil]; omega),
    add_said (itoaL (n : Int) ++ [32]) (hexL d) (by simp only [List.length_append, List.length_cons, List.length_nil]; omega),
    add_said (itoaL (n : Int) ++ [32] ++ hexL d) [10] (by simp only [List.length_append, List.length_cons, List.length_nil]; omega),
    ?_, by omega, by omega, ?_, ?_, ?_, fun w0 => SpR.dec_any (n : Int) w0 (by omega) (by omega), fun w0 => by have := SpR.hexl_any D w0 (by omega); rw [hdd] at this; exact this,
    fun w0 hT0 => run_said _ _ ([55, 101] ++ hexL E ++ [55, 101] ++ [10]) 0 w0 rfl r1 hT0, fun w0 hT0 => run_said _ _ _ 0 w0 rfl r2 hT0⟩
  · rw [size_lit]
    simp only [List.length_append, List.length_cons, List.length_nil]
    omega
  · apply ByteArray.ext
    rw [ByteArray.data_extract]
    apply Array.toList_inj.1
    simp
  · apply ByteArray.ext
    rw [ByteArray.data_extract]
    apply Array.toList_inj.1
    have e : ([55, 101] ++ hexL E).length = (hexL E).length + 2 := by simp
    rw [← e]
    simp
  · apply ByteArray.ext
    rw [ByteArray.data_extract]
    apply Array.toList_inj.1
    simp
set_option maxHeartbeats 4000000 in
theorem frames_any (p : Int) (s : ByteArray) (w : World) (hp : (Lit.int .i64 p).wf = true) (hs : s.size ≤ 140737488351232) (hT : TabW w) :
    Calls Tryz.prog 7 #[.int .i64 p, .string s] w fun e w' => e = .returned (.bool true) ∧ Below w.heap.size w w' := by
  obtain ⟨q, hq, hpb⟩ := proto_taken p
  have HT := Lib.hid hT
  have HAw := Lib.hid (awake_any w hT)
  clear hT hp
  by_cases h200 : 200 < s.size
  · have z1 : (200 : Int) < (s.size : Int) := by omega
    have z2 : (200 : Int) ≤ (s.size : Int) := by omega
    have hD : (s.extract 0 200).size ≤ 200 := by rw [ByteArray.size_extract]; omega
    have hx : s.extract 0 200 = s.extract 0 200 := rfl
    obtain ⟨D, hDe⟩ : ∃ D, s.extract 0 200 = D := ⟨_, rfl⟩
    rw [hDe] at hD
    obtain ⟨P1, P2, A, T, Hb, U, O, S1, S2, S3, qb, hb, r, a1, a2, a3, a4, a5, a6, a7, sz, r3, rb, e1, e2, e3, dec, hex, run1, run2⟩ := fr_w q hpb D hD
    have z3 : ((r : Int) + 3 < 6) = False := eq_false (by omega)
    have z4 : (2 : Int) ≤ (r : Int) + 3 := by omega
    have z5 : (2 : Int) ≤ (r : Int) := by omega
    have wr : wrap64 (r : Int) = (r : Int) := by unfold wrap64; omega
    have HD := Lib.hid dec
    have HH := Lib.hid hex
    have R1 := Lib.hid run1
    have R2 := Lib.hid run2
    clear dec hex run1 run2 hpb hD hx h200 hs r3 rb
    go_enter Tryz.func7, Tryz.ntmps7
    go_wp2_with fail
    ((with_reducible refine HAw.out.mono ?_); rintro e w1 ⟨rfl, hb1⟩)
    have HB1 := Lib.hid hb1
    clear hb1
    go_wp2_with fail
    ((with_reducible refine (HD.out _).mono ?_); rintro e w2 ⟨rfl, hb2⟩)
    have HB2 := Lib.hid (HB1.out.trans (hb2.mono HB1.out.size))
    clear hb2
    go_wp2_with fail
    ((with_reducible refine (HH.out _).mono ?_); rintro e w3 ⟨rfl, hb3⟩)
    have HB3 := Lib.hid (HB2.out.trans (hb3.mono HB2.out.size))
    clear hb3
    go_wp2_with fail
    ((with_reducible refine (R1.out _ (HT.out.later HB3.out)).mono ?_); rintro e w4 ⟨rfl, hb4⟩)
    have HB4 := Lib.hid (HB3.out.trans (hb4.mono HB3.out.size))
    clear hb4
    go_wp2_with fail
    ((with_reducible refine (num_any _ _).mono ?_); rintro e w5 ⟨rfl, rfl⟩)
    go_wp2_with fail
    ((with_reducible refine (R2.out _ (HT.out.later HB4.out)).mono ?_); rintro e w6 ⟨rfl, hb6⟩)
    have HB6 := Lib.hid (HB4.out.trans (hb6.mono HB4.out.size))
    clear hb6
    go_wp2_with fail
    ((with_reducible refine (num_any _ _).mono ?_); rintro e w7 ⟨rfl, rfl⟩)
    go_wp2_with fail
    ((with_reducible refine (HD.out _).mono ?_); rintro e w8 ⟨rfl, hb8⟩)
    have HB8 := Lib.hid (HB6.out.trans (hb8.mono HB6.out.size))
    clear hb8
    go_wp2_with fail
    ((with_reducible refine (HH.out _).mono ?_); rintro e w9 ⟨rfl, hb9⟩)
    have HB9 := Lib.hid (HB8.out.trans (hb9.mono HB8.out.size))
    clear hb9
    go_wp2_with fail
    go_ret
    exact ⟨rfl, HB9.out⟩
  · have z1 : ¬ (200 : Int) < (s.size : Int) := by omega
    have hD : s.size ≤ 200 := by omega
    obtain ⟨P1, P2, A, T, Hb, U, O, S1, S2, S3, qb, hb, r, a1, a2, a3, a4, a5, a6, a7, sz, r3, rb, e1, e2, e3, dec, hex, run1, run2⟩ := fr_w q hpb s hD
    have z3 : ((r : Int) + 3 < 6) = False := eq_false (by omega)
    have z4 : (2 : Int) ≤ (r : Int) + 3 := by omega
    have z5 : (2 : Int) ≤ (r : Int) := by omega
    have wr : wrap64 (r : Int) = (r : Int) := by unfold wrap64; omega
    have HD := Lib.hid dec
    have HH := Lib.hid hex
    have R1 := Lib.hid run1
    have R2 := Lib.hid run2
    clear dec hex run1 run2 hpb hD h200 hs r3 rb
    go_enter Tryz.func7, Tryz.ntmps7
    go_wp2_with fail
    ((with_reducible refine HAw.out.mono ?_); rintro e w1 ⟨rfl, hb1⟩)
    have HB1 := Lib.hid hb1
    clear hb1
    go_wp2_with fail
    ((with_reducible refine (HD.out _).mono ?_); rintro e w2 ⟨rfl, hb2⟩)
    have HB2 := Lib.hid (HB1.out.trans (hb2.mono HB1.out.size))
    clear hb2
    go_wp2_with fail
    ((with_reducible refine (HH.out _).mono ?_); rintro e w3 ⟨rfl, hb3⟩)
    have HB3 := Lib.hid (HB2.out.trans (hb3.mono HB2.out.size))
    clear hb3
    go_wp2_with fail
    ((with_reducible refine (R1.out _ (HT.out.later HB3.out)).mono ?_); rintro e w4 ⟨rfl, hb4⟩)
    have HB4 := Lib.hid (HB3.out.trans (hb4.mono HB3.out.size))
    clear hb4
    go_wp2_with fail
    ((with_reducible refine (num_any _ _).mono ?_); rintro e w5 ⟨rfl, rfl⟩)
    go_wp2_with fail
    ((with_reducible refine (R2.out _ (HT.out.later HB4.out)).mono ?_); rintro e w6 ⟨rfl, hb6⟩)
    have HB6 := Lib.hid (HB4.out.trans (hb6.mono HB4.out.size))
    clear hb6
    go_wp2_with fail
    ((with_reducible refine (num_any _ _).mono ?_); rintro e w7 ⟨rfl, rfl⟩)
    go_wp2_with fail
    ((with_reducible refine (HD.out _).mono ?_); rintro e w8 ⟨rfl, hb8⟩)
    have HB8 := Lib.hid (HB6.out.trans (hb8.mono HB6.out.size))
    clear hb8
    go_wp2_with fail
    ((with_reducible refine (HH.out _).mono ?_); rintro e w9 ⟨rfl, hb9⟩)
    have HB9 := Lib.hid (HB8.out.trans (hb9.mono HB8.out.size))
    clear hb9
    go_wp2_with fail
    go_ret
    exact ⟨rfl, HB9.out⟩
end Go.Proofs.YtlpibobpfafooaaGreatDoor.H
