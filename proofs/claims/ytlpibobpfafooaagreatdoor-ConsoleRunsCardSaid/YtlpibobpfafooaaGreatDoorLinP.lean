/-
  ConsoleBegins, walked.
-/
import Derived.Test.YtlpibobpfafooaaGreatDoorLawA
set_option linter.unusedVariables false
set_option linter.unusedSimpArgs false
namespace Go.Proofs.YtlpibobpfafooaaGreatDoor.H
open Go.RowKit Go.Proofs.Wy Go.Proofs.YtlpibobpfafooaaGreatDoorW.PrintWords Go.Proofs

theorem cutAt_ne (c : UInt8) (x : List UInt8) : cutAt c x ≠ [] := by
  cases x with
  | nil => simp [cutAt]
  | cons a x => unfold cutAt; split <;> (try split) <;> simp
theorem cutAt_app (c : UInt8) (y : List UInt8) : ∀ x : List UInt8, cutAt c (x ++ c :: y) = cutAt c x ++ cutAt c y
  | [] => by
    show cutAt c (c :: y) = [[]] ++ cutAt c y
    rw [cutAt, if_pos rfl]
    rfl
  | b :: x => by
    have ih := cutAt_app c y x
    rw [List.cons_append, cutAt, ih]
    conv => rhs; rw [cutAt]
    split
    · rfl
    · cases hx : cutAt c x with
      | nil => exact absurd hx (cutAt_ne c x)
      | cons p ps => rfl
theorem tells_empty : tellsL [] = [] := by decide
/-- What lines one behind the other tell. -/
def outL (l : List UInt8) : List UInt8 := (cutAt 10 l).flatMap tellsL
theorem outL_app (x y : List UInt8) : outL (x ++ 10 :: y) = outL x ++ outL y := by unfold outL; rw [cutAt_app, List.flatMap_append]
theorem outL_nil : outL [] = [] := by decide
theorem runL_out {l : List UInt8} (h : l.length ≤ 65536) : runL l = (outL l, 0) := by unfold runL outL; rw [if_neg (by omega)]
theorem runL_long {l : List UInt8} (h : 65536 < l.length) : runL l = ([], 2801) := by unfold runL; rw [if_pos h]
theorem outL_len (l : List UInt8) (h : l.length ≤ 65536) : (outL l).length ≤ 27000000000 := by
  obtain ⟨h1, h2⟩ := cutAt_sizes 10 l
  have h3 := outs_len (cutAt 10 l) (fun p hp => by have := h2 p hp; omega) (cutAt 10 l).length
  rw [List.take_length] at h3
  unfold outL
  omega
set_option maxHeartbeats 2000000 in
theorem begins_any (F R : ByteArray) (w : World) (hF : F.size ≤ 140737488351232) (hR : R.size ≤ 140737488351232) (hT : TabW w) :
    Calls Tryz.prog 6 #[.string F, .string R] w fun e w' => e = .returned (.bool true) ∧ Below w.heap.size w w' := by
  have h1 : ∀ w0, (Op.stringOp .add F ⟨#[10]⟩).run Tryz.prog w0 = .ok (.string (F ++ ⟨#[10]⟩)) w0 := fun w0 => run_string_add_sum w0 _ _ (by have z3 : (⟨#[10]⟩ : ByteArray).size = 1 := rfl; omega)
  have hA : (F ++ ⟨#[10]⟩).data.toList = F.data.toList ++ [10] := by rw [ByteArray.data_append, Array.toList_append]
  have hAs : (F ++ ⟨#[10]⟩).size = F.size + 1 := by rw [ByteArray.size_append]; rfl
  generalize (F ++ ⟨#[10]⟩) = A at h1 hA hAs
  have h2 : ∀ w0, (Op.stringOp .add A R).run Tryz.prog w0 = .ok (.string (A ++ R)) w0 := fun w0 => run_string_add_sum w0 _ _ (by omega)
  have hB : (A ++ R).data.toList = F.data.toList ++ 10 :: R.data.toList := by rw [ByteArray.data_append, Array.toList_append, hA]; simp
  have hBs : (A ++ R).size = A.size + R.size := ByteArray.size_append
  generalize (A ++ R) = B at h2 hB hBs
  have lA : A.data.toList.length = A.size := Array.length_toList
  have lB : B.data.toList.length = B.size := Array.length_toList
  have hl : (F.data.toList ++ 10 :: R.data.toList).length = B.size := by rw [← hB]; exact lB
  have HT := Lib.hid hT
  have HAw := Lib.hid (awake_any w hT)
  clear hT
  by_cases hbig : 65536 < B.size
  · obtain ⟨o, n, hr⟩ : ∃ o n, runL A.data.toList = (o, n) := ⟨_, _, rfl⟩
    have hR1 := Lib.hid (fun w0 hT0 => run_said A A.data.toList o n w0 rfl hr hT0)
    have hR2 := Lib.hid (fun w0 hT0 => run_said B B.data.toList [] 2801 w0 rfl (runL_long (by omega)) hT0)
    have z1 : (65536 : Int) < (B.size : Int) := by omega
    have z2 : (2801 : Int) ≠ 0 := by decide
    generalize (⟨o.toArray⟩ : ByteArray) = X at hR1
    clear hA hB lA lB hl hF hR hAs hBs hbig hr
    go_enter Tryz.func6, Tryz.ntmps6
    go_wp2_with fail
    ((with_reducible refine HAw.out.mono ?_); rintro e w1 ⟨rfl, hb1⟩)
    have HB1 := Lib.hid hb1
    clear hb1
    go_wp2_with fail
    ((with_reducible refine (hR1.out _ (HT.out.later HB1.out)).mono ?_); rintro e w2 ⟨rfl, hb2⟩)
    have HB2 := Lib.hid (HB1.out.trans (hb2.mono HB1.out.size))
    clear hb2
    go_wp2_with fail
    ((with_reducible refine (hR2.out _ (HT.out.later HB2.out)).mono ?_); rintro e w3 ⟨rfl, hb3⟩)
    have HB3 := Lib.hid (HB2.out.trans (hb3.mono HB2.out.size))
    clear hb3
    go_wp2_with fail
    ((with_reducible refine (num_any _ _).mono ?_); rintro e w4 ⟨rfl, rfl⟩)
    go_wp2_with fail
    ((with_reducible refine (num_any _ _).mono ?_); rintro e w4 ⟨rfl, rfl⟩)
    go_wp2_with fail
    go_ret
    exact ⟨rfl, HB3.out⟩
  · have hs : A.data.toList.length ≤ 65536 := by omega
    have eA : runL A.data.toList = (outL F.data.toList, 0) := by rw [runL_out hs, hA, show F.data.toList ++ [10] = F.data.toList ++ 10 :: [] from rfl, outL_app, outL_nil, List.append_nil]
    have eB : runL B.data.toList = (outL F.data.toList ++ outL R.data.toList, 0) := by rw [runL_out (by omega), hB, outL_app]
    have b1 := outL_len F.data.toList (by have := congrArg List.length hA; rw [List.length_append] at this; omega)
    have b2 := outL_len R.data.toList (by simp only [List.length_append, List.length_cons] at hl; omega)
    have hR1 := Lib.hid (fun w0 hT0 => run_said A A.data.toList _ _ w0 rfl eA hT0)
    have hR2 := Lib.hid (fun w0 hT0 => run_said B B.data.toList _ _ w0 rfl eB hT0)
    have s1 := size_lit (outL F.data.toList)
    have s2 := size_lit (outL F.data.toList ++ outL R.data.toList)
    rw [List.length_append] at s2
    have hx : (⟨(outL F.data.toList ++ outL R.data.toList).toArray⟩ : ByteArray).extract 0 (outL F.data.toList).length = ⟨(outL F.data.toList).toArray⟩ := by
      apply ByteArray.ext
      rw [ByteArray.data_extract]
      apply Array.toList_inj.1
      simp
    rw [← s1] at hx
    generalize (⟨(outL F.data.toList ++ outL R.data.toList).toArray⟩ : ByteArray) = Y at hR2 s2 hx
    generalize (⟨(outL F.data.toList).toArray⟩ : ByteArray) = X at hR1 s1 hx
    have z1 : (X.size : Int) ≤ (Y.size : Int) := by omega
    clear hA hB lA lB hl hF hR hAs hBs hbig hs eA eB b1 b2 s1 s2
    go_enter Tryz.func6, Tryz.ntmps6
    go_wp2_with fail
    ((with_reducible refine HAw.out.mono ?_); rintro e w1 ⟨rfl, hb1⟩)
    have HB1 := Lib.hid hb1
    clear hb1
    go_wp2_with fail
    ((with_reducible refine (hR1.out _ (HT.out.later HB1.out)).mono ?_); rintro e w2 ⟨rfl, hb2⟩)
    have HB2 := Lib.hid (HB1.out.trans (hb2.mono HB1.out.size))
    clear hb2
    go_wp2_with fail
    ((with_reducible refine (hR2.out _ (HT.out.later HB2.out)).mono ?_); rintro e w3 ⟨rfl, hb3⟩)
    have HB3 := Lib.hid (HB2.out.trans (hb3.mono HB2.out.size))
    clear hb3
    go_wp2_with fail
    ((with_reducible refine (num_any _ _).mono ?_); rintro e w4 ⟨rfl, rfl⟩)
    go_wp2_with fail
    ((with_reducible refine (num_any _ _).mono ?_); rintro e w4 ⟨rfl, rfl⟩)
    go_wp2_with fail
    go_ret
    exact ⟨rfl, HB3.out⟩
end Go.Proofs.YtlpibobpfafooaaGreatDoor.H
/-
  Lines as lists: their words, numbers read back, bytes read back; what one line tells.
-/
set_option linter.unusedVariables false
set_option linter.unusedSimpArgs false
namespace Go.Proofs.YtlpibobpfafooaaGreatDoor.H
open Go.RowKit Go.Proofs.Wy Go.Proofs.YtlpibobpfafooaaGreatDoorW.PrintWords Go.Proofs

theorem i64_id (x : Int) (h0 : -9223372036854775808 ≤ x) (h1 : x ≤ 9223372036854775807) : IntKind.i64.wrap x = x := by
  have h : IntKind.i64.wrap x = (x + 9223372036854775808) % 18446744073709551616 - 9223372036854775808 := by
    simp [IntKind.wrap, IntKind.bits, IntKind.signed]
    omega
  rw [h]
  omega
theorem and_mask (x : Int) (i : Nat) (hi : i ≤ 62) : Go.bits .and .i64 x ((2 ^ i - 1 : Nat) : Int) = x % ((2 ^ i : Nat) : Int) := by
  have hpos : 0 < 2 ^ i := Nat.two_pow_pos i
  have hle : 2 ^ i ≤ 2 ^ 62 := Nat.pow_le_pow_right (by decide) hi
  have hb : IntKind.i64.bits = 64 := rfl
  have hd : (2 : Nat) ^ 64 = 2 ^ i * 2 ^ (64 - i) := by rw [← Nat.pow_add]; congr 1; omega
  have h3 : (2 ^ i - 1) % 2 ^ 64 = 2 ^ i - 1 := Nat.mod_eq_of_lt (by omega)
  have e : (BitVec.ofInt 64 x &&& BitVec.ofInt 64 ((2 ^ i - 1 : Nat) : Int)).toNat = (x % ((2 ^ i : Nat) : Int)).toNat := by
    rw [BitVec.toNat_and, BitVec.ofInt_natCast, BitVec.toNat_ofNat, h3, Nat.and_two_pow_sub_one_eq_mod, BitVec.toNat_ofInt]
    have h4 : (x % ((2 ^ 64 : Nat) : Int)) % ((2 ^ i : Nat) : Int) = x % ((2 ^ i : Nat) : Int) := Int.emod_emod_of_dvd x ⟨((2 ^ (64 - i) : Nat) : Int), by rw [hd]; push_cast; rfl⟩
    have h5 : 0 ≤ x % ((2 ^ 64 : Nat) : Int) := Int.emod_nonneg _ (by decide)
    rw [← h4]
    generalize x % ((2 ^ 64 : Nat) : Int) = y at h5
    obtain ⟨n, rfl⟩ := Int.eq_ofNat_of_zero_le h5
    rw [Int.toNat_natCast, ← Int.natCast_emod, Int.toNat_natCast]
  have h6 := Int.emod_nonneg x (show ((2 ^ i : Nat) : Int) ≠ 0 by omega)
  have h7 := Int.emod_lt_of_pos x (show (0 : Int) < ((2 ^ i : Nat) : Int) by omega)
  show IntKind.i64.wrap ((BitVec.ofInt 64 x &&& BitVec.ofInt 64 ((2 ^ i - 1 : Nat) : Int)).toNat : Int) = _
  rw [e, Int.toNat_of_nonneg h6]
  exact i64_id _ (by omega) (by omega)
theorem add_said (a b : List UInt8) (h : a.length + b.length ≤ 1000000000000) (w0 : World) : (Op.stringOp .add ⟨a.toArray⟩ ⟨b.toArray⟩).run Tryz.prog w0 = .ok (.string ⟨(a ++ b).toArray⟩) w0 := by
  have h := run_string_add_sum (P := Tryz.prog) w0 ⟨a.toArray⟩ ⟨b.toArray⟩ (by have z1 := size_lit a; have z2 := size_lit b; omega)
  have e : ((⟨a.toArray⟩ : ByteArray) ++ ⟨b.toArray⟩) = ⟨(a ++ b).toArray⟩ := by
    apply ByteArray.ext
    simp [ByteArray.data_append]
  rw [e] at h
  exact h
/-- A word: no blank, no line's end, not empty. -/
def Wd (l : List UInt8) : Prop := l ≠ [] ∧ ∀ b ∈ l, b ≠ 32 ∧ b ≠ 9 ∧ b ≠ 10
theorem blank_no {b : UInt8} (h : b ≠ 32 ∧ b ≠ 9 ∧ b ≠ 10) : blankB b = false := by
  unfold blankB
  rw [Bool.or_eq_false_iff, beq_eq_false_iff_ne, beq_eq_false_iff_ne]
  exact ⟨h.1, h.2.1⟩
theorem fields_cons {l : List UInt8} (h : Wd l) (r : List UInt8) : fieldsL (l ++ 32 :: r) = l :: fieldsL r := by
  unfold fieldsL
  rw [fieldsGo_app l [] _ (fun b hb => blank_no (h.2 b hb)), List.nil_append, fieldsGo, if_pos (by decide), if_neg h.1]
theorem fields_last {l : List UInt8} (h : Wd l) : fieldsL l = [l] := by
  have e := fieldsGo_app l [] [] (fun b hb => blank_no (h.2 b hb))
  rw [List.append_nil, List.nil_append] at e
  unfold fieldsL
  rw [e, fieldsGo, if_neg h.1]
theorem cut_none (l : List UInt8) (h : (10 : UInt8) ∉ l) : cutAt 10 l = [l] := by
  induction l with
  | nil => rfl
  | cons b r ih =>
    rw [cutAt, if_neg (fun e => h (by simp [e])), ih (fun e => h (by simp [e]))]
theorem one_line (l : List UInt8) (h : (10 : UInt8) ∉ l) : outL l = tellsL l := by
  unfold outL
  rw [cut_none l h]
  simp
theorem Wd.no10 {l : List UInt8} (h : Wd l) : (10 : UInt8) ∉ l := fun e => (h.2 10 e).2.2 rfl

/-! ### numbers -/
theorem decF_digits : ∀ (f n : Nat), ∀ b ∈ decF f n, isDig b = true
  | 0, n, b, h => by simp [decF] at h
  | f + 1, n, b, h => by
    rw [decF] at h
    have hd : ∀ u : Nat, u < 10 → isDig (UInt8.ofNat (48 + u)) = true := by decide
    split at h
    · rename_i hn
      rw [List.mem_singleton] at h
      subst h
      exact hd n hn
    · rcases List.mem_append.1 h with h | h
      · exact decF_digits f (n / 10) b h
      · rw [List.mem_singleton] at h
        subst h
        exact hd (n % 10) (by omega)
theorem decF_val : ∀ (f n : Nat), n < 10 ^ f → valN (decF f n) = n
  | 0, n, h => by simp at h; subst h; rfl
  | f + 1, n, h => by
    have hd : ∀ u : Nat, u < 10 → (UInt8.ofNat (48 + u)).toNat - 48 = u := by decide
    rw [decF]
    split
    · rename_i hn
      have := hd n hn
      simp only [valN, List.foldl_cons, List.foldl_nil]
      omega
    · rw [valN_snoc, decF_val f (n / 10) (by rw [Nat.pow_succ] at h; omega), hd (n % 10) (by omega)]
      omega
theorem decF_ne (f n : Nat) (hf : 0 < f) : decF f n ≠ [] := by
  cases f with
  | zero => omega
  | succ f =>
    rw [decF]
    split <;> simp
theorem dig_word {l : List UInt8} (h0 : l ≠ []) (h : ∀ b ∈ l, isDig b = true) : Wd l := ⟨h0, fun b hb => by
  have := h b hb
  unfold isDig at this
  simp only [Bool.and_eq_true, decide_eq_true_eq] at this
  refine ⟨?_, ?_, ?_⟩ <;> (rintro rfl; revert this; decide)⟩
theorem itoa_nat (n : Nat) : itoaL (n : Int) = decF 20 n := by
  unfold itoaL
  rw [if_neg (by omega), Int.toNat_natCast]
theorem itoa_word (n : Nat) : Wd (itoaL (n : Int)) := by
  rw [itoa_nat]
  exact dig_word (decF_ne 20 n (by decide)) (decF_digits 20 n)
theorem itoa_ten (n : Nat) (h : n < 10000000000) : itoaL (n : Int) = decF 10 n := by
  have h20 : (10 : Nat) ^ 20 = 100000000000000000000 := by decide
  have h10 : (10 : Nat) ^ 10 = 10000000000 := by decide
  rw [itoa_nat, decF_eq 20 n (by rw [h20]; omega) (by decide), decF_eq 10 n (by rw [h10]; omega) (by decide)]
theorem number_itoa (n : Nat) (h : n < 10000000000) : numberL (itoaL (n : Int)) = some (n : Int) := by
  have h1 := decF_digits 10 n
  have h10 : (10 : Nat) ^ 10 = 10000000000 := by decide
  have h2 := decF_val 10 n (by rw [h10]; omega)
  have h3 := decF_ne 10 n (by decide)
  have h4 := decF_length 10 n
  rw [itoa_ten n h]
  generalize decF 10 n = l at h1 h2 h3 h4
  cases l with
  | nil => exact absurd rfl h3
  | cons c r =>
    have hc : c ≠ 45 := by
      rintro rfl
      have := h1 45 (by simp)
      revert this
      decide
    have hok : digOk (c :: r) = true := by
      unfold digOk
      rw [Bool.and_eq_true, Bool.and_eq_true, decide_eq_true_eq, decide_eq_true_eq]
      exact ⟨⟨by simp, h4⟩, List.all_eq_true.2 h1⟩
    unfold numberL
    dsimp only
    rw [if_neg hc, if_pos hok, h2]

/-! ### bytes -/
theorem hexD_back : ∀ n : Nat, n < 16 → digH (hexD n) = some n ∧ (hexD n ≠ 32 ∧ hexD n ≠ 9 ∧ hexD n ≠ 10) := by decide
theorem unhex_hexs (l : List UInt8) : unhexGo (l.flatMap hexB) = some l := by
  induction l with
  | nil => rfl
  | cons b l ih =>
    have hb := b.toNat_lt
    have h1 := (hexD_back (b.toNat / 16) (by omega)).1
    have h2 := (hexD_back (b.toNat % 16) (by omega)).1
    show unhexGo (hexD (b.toNat / 16) :: hexD (b.toNat % 16) :: l.flatMap hexB) = _
    rw [unhexGo, h1, h2, ih]
    have e : 16 * (b.toNat / 16) + b.toNat % 16 = b.toNat := by omega
    dsimp only [Option.map_some]
    rw [e, UInt8.ofNat_toNat]
theorem hexs_len2 (l : List UInt8) : (l.flatMap hexB).length = 2 * l.length := by
  induction l with
  | nil => rfl
  | cons b l ih =>
    rw [List.flatMap_cons, List.length_append, ih]
    simp only [hexB, List.length_cons, List.length_nil]
    omega
theorem unhex_hex (l : List UInt8) : unhexL (hexL l) = some l := by
  unfold hexL
  split
  · rename_i h
    rw [h]
    rfl
  · rename_i h
    have hl := hexs_len2 l
    have hp := List.length_pos_iff.2 h
    unfold unhexL
    rw [if_neg (by intro e; rw [e] at hl; simp only [List.length_cons, List.length_nil] at hl; omega), if_neg (by intro e; rw [e] at hl; simp only [List.length_nil] at hl; omega), unhex_hexs]
theorem hex_word (l : List UInt8) : Wd (hexL l) := by
  unfold hexL
  split
  · exact ⟨by simp, by decide⟩
  · rename_i h
    have hl := hexs_len2 l
    have hp := List.length_pos_iff.2 h
    refine ⟨fun e => by rw [e] at hl; simp only [List.length_nil] at hl; omega, fun b hb => ?_⟩
    obtain ⟨c, _, hc⟩ := List.mem_flatMap.1 hb
    have hlt := c.toNat_lt
    simp only [hexB, List.mem_cons, List.not_mem_nil, or_false] at hc
    rcases hc with rfl | rfl
    · exact (hexD_back _ (by omega)).2
    · exact (hexD_back _ (by omega)).2

/-! ### lines -/
theorem word_fcs : Wd [102, 99, 115] := ⟨by simp, by decide⟩
theorem word_md5 : Wd [109, 100, 53] := ⟨by simp, by decide⟩
theorem word_frame : Wd [102, 114, 97, 109, 101] := ⟨by simp, by decide⟩
theorem word_unframe : Wd [117, 110, 102, 114, 97, 109, 101] := ⟨by simp, by decide⟩
theorem word_fsm : Wd [102, 115, 109] := ⟨by simp, by decide⟩
theorem word_delay : Wd [100, 101, 108, 97, 121] := ⟨by simp, by decide⟩
theorem word_target : Wd [116, 97, 114, 103, 101, 116] := ⟨by simp, by decide⟩
/-- What a command's line tells. -/
theorem tells_cmd {l : List UInt8} (c : List UInt8 × List UInt8 × Nat) (ws : List (List UInt8)) (r : List Int × List (List UInt8)) (hf : fieldsL l = c.1 :: ws) (hc : cmdsT.find? (fun x => x.1 == c.1) = some c) (h35 : ¬ c.1.headD 0 = 35) (hr : readL c.2.1 ws = some r) (he : (tellL c.2.2 r.1 r.2).2 = 0) :
    tellsL l = (tellL c.2.2 r.1 r.2).1 ++ [10] := by
  unfold tellsL
  rw [hf]
  dsimp only
  rw [if_neg h35]
  unfold lineL
  rw [hc]
  dsimp only
  unfold cmdL
  rw [hr]
  dsimp only
  rw [if_pos he]
theorem tells_one {x : List UInt8} (hx : Wd x) : fieldsL x = [x] := fields_last hx
theorem read_x {x b : List UInt8} (h : unhexL x = some b) : readL [120] [x] = some ([], [b]) := by
  simp [readL, h]
theorem run_fcs (d : List UInt8) (hd : d.length ≤ 1000) : runL ([102, 99, 115, 32] ++ hexL d) = (itoaL (fcsL d) ++ [10], 0) := by
  have hw := hex_word d
  have hl := hexL_len d
  have hf : fieldsL ([102, 99, 115, 32] ++ hexL d) = [102, 99, 115] :: [hexL d] := by
    rw [show ([102, 99, 115, 32] ++ hexL d : List UInt8) = [102, 99, 115] ++ 32 :: hexL d from rfl, fields_cons word_fcs, fields_last hw]
  rw [runL_out (by simp only [List.length_append, List.length_cons, List.length_nil]; omega), one_line _ (by
    intro e
    rcases List.mem_append.1 e with e | e
    · revert e; decide
    · exact hw.no10 e)]
  rw [tells_cmd ([102, 99, 115], [120], 0) [hexL d] ([], [d]) hf (by decide) (by decide) (read_x (unhex_hex d)) rfl]
  rfl
theorem run_md5 (d : List UInt8) (hd : d.length ≤ 1000) : runL ([109, 100, 53, 32] ++ hexL d) = (hexL (md5L d) ++ [10], 0) := by
  have hw := hex_word d
  have hl := hexL_len d
  have hf : fieldsL ([109, 100, 53, 32] ++ hexL d) = [109, 100, 53] :: [hexL d] := by
    rw [show ([109, 100, 53, 32] ++ hexL d : List UInt8) = [109, 100, 53] ++ 32 :: hexL d from rfl, fields_cons word_md5, fields_last hw]
  rw [runL_out (by simp only [List.length_append, List.length_cons, List.length_nil]; omega), one_line _ (by
    intro e
    rcases List.mem_append.1 e with e | e
    · revert e; decide
    · exact hw.no10 e)]
  rw [tells_cmd ([109, 100, 53], [120], 4) [hexL d] ([], [d]) hf (by decide) (by decide) (read_x (unhex_hex d)) rfl]
  rfl
theorem run_unframe (e d : List UInt8) (q : Int) (he : e.length ≤ 5000) (hu : unframeL e = (q, d, 0)) : runL ([117, 110, 102, 114, 97, 109, 101, 32] ++ hexL e) = (itoaL q ++ 32 :: hexL d ++ [10], 0) := by
  have hw := hex_word e
  have hl := hexL_len e
  have hf : fieldsL ([117, 110, 102, 114, 97, 109, 101, 32] ++ hexL e) = [117, 110, 102, 114, 97, 109, 101] :: [hexL e] := by
    rw [show ([117, 110, 102, 114, 97, 109, 101, 32] ++ hexL e : List UInt8) = [117, 110, 102, 114, 97, 109, 101] ++ 32 :: hexL e from rfl, fields_cons word_unframe, fields_last hw]
  rw [runL_out (by simp only [List.length_append, List.length_cons, List.length_nil]; omega), one_line _ (by
    intro x
    rcases List.mem_append.1 x with x | x
    · revert x; decide
    · exact hw.no10 x)]
  rw [tells_cmd ([117, 110, 102, 114, 97, 109, 101], [120], 2) [hexL e] ([], [e]) hf (by decide) (by decide) (read_x (unhex_hex e)) (by show (unframeL e).2.2 = 0; rw [hu])]
  show (unframeT e ++ [10], (0 : Int)) = _
  unfold unframeT
  rw [hu]
theorem run_frame (n : Nat) (d : List UInt8) (hn : n < 10000000000) (hp : protoB (n : Int) = true) (hd : d.length ≤ 2000) :
    runL ([102, 114, 97, 109, 101, 32] ++ itoaL (n : Int) ++ [32] ++ hexL d) = (hexL (frameL (n : Int) d 0).1 ++ [10], 0) := by
  have hw := hex_word d
  have hl := hexL_len d
  have hi := itoa_word n
  have hil := itoaL_length (n : Int)
  have hf : fieldsL ([102, 114, 97, 109, 101, 32] ++ itoaL (n : Int) ++ [32] ++ hexL d) = [102, 114, 97, 109, 101] :: [itoaL (n : Int), hexL d] := by
    rw [show ([102, 114, 97, 109, 101, 32] ++ itoaL (n : Int) ++ [32] ++ hexL d : List UInt8) = [102, 114, 97, 109, 101] ++ 32 :: (itoaL (n : Int) ++ 32 :: hexL d) by simp, fields_cons word_frame, fields_cons hi, fields_last hw]
  rw [runL_out (by simp only [List.length_append, List.length_cons, List.length_nil]; omega), one_line _ (by
    intro x
    simp only [List.mem_append] at x
    rcases x with ((x | x) | x) | x
    · revert x; decide
    · exact hi.no10 x
    · revert x; decide
    · exact hw.no10 x)]
  have hr : readL [110, 120] [itoaL (n : Int), hexL d] = some ([(n : Int)], [d]) := by
    simp [readL, number_itoa n hn, unhex_hex d]
  rw [tells_cmd ([102, 114, 97, 109, 101], [110, 120], 1) [itoaL (n : Int), hexL d] ([(n : Int)], [d]) hf (by decide) (by decide) hr (by show (frameL (n : Int) d 0).2 = 0; rw [frame_ok _ _ _ hp (by omega)])]
  rfl
end Go.Proofs.YtlpibobpfafooaaGreatDoor.H
