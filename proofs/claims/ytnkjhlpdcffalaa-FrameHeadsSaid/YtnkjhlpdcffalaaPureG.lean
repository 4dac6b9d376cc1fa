/-
  Two frame laws more as statements on the printed functions, proved: which protocols there are, other heads.
-/
import Derived.Test.YtnkjhlpdcffalaaPureF
set_option linter.unusedVariables false
set_option linter.unusedSimpArgs false
namespace Go.Proofs.Ytnkjhlpdcffalaa.Sp
open Go.RowKit Go.Proofs.Ytnkjhlpdcffalaa.PF Go.Proofs.YtnkjhlpdcffalaaW.PrintWords Go.Proofs.YtnkjhlpdcffalaaW.PrintLast Go.Proofs.YtnkjhlpdcffalaaW.PrintMore Go.Proofs.Wy

theorem and_mask (x : Int) (i : Nat) (hi : i ≤ 62) : Go.bits .and .i64 x ((2 ^ i - 1 : Nat) : Int) = x % ((2 ^ i : Nat) : Int) := by
  have hpos : 0 < 2 ^ i := Nat.two_pow_pos i
  have hle : 2 ^ i ≤ 2 ^ 62 := Nat.pow_le_pow_right (by decide) hi
  have hb : IntKind.i64.bits = 64 := rfl
  have hd : (2 : Nat) ^ 64 = 2 ^ i * 2 ^ (64 - i) := by rw [← Nat.pow_add]; congr 1; omega
  have h3 : (2 ^ i - 1) % 2 ^ 64 = 2 ^ i - 1 := Nat.mod_eq_of_lt (by omega)
  have e : (BitVec.ofInt 64 x &&& BitVec.ofInt 64 ((2 ^ i - 1 : Nat) : Int)).toNat = (x % ((2 ^ i : Nat) : Int)).toNat := by
    rw [BitVec.toNat_and, BitVec.ofInt_natCast, BitVec.toNat_ofNat, h3, Nat.and_two_pow_sub_one_eq_mod, BitVec.toNat_ofInt]
    have h4 : (x % ((2 ^ 64 : Nat) : Int)) % ((2 ^ i : Nat) : Int) = x % ((2 ^ i : Nat) : Int) := Int.emod_emod_of_dvd x ⟨((2 ^ (64 - i) : Nat) : Int), by rw [hd]; push_cast; rfl⟩
    have h5 : 0 ≤ x % ((2 ^ 64 : Nat) : Int) := Int.emod_nonneg _ (by decide)
    rw [← h4]
    generalize x % ((2 ^ 64 : Nat) : Int) = y at h5
    obtain ⟨n, rfl⟩ := Int.eq_ofNat_of_zero_le h5
    rw [Int.toNat_natCast, ← Int.natCast_emod, Int.toNat_natCast]
  have h6 := Int.emod_nonneg x (show ((2 ^ i : Nat) : Int) ≠ 0 by omega)
  have h7 := Int.emod_lt_of_pos x (show (0 : Int) < ((2 ^ i : Nat) : Int) by omega)
  show IntKind.i64.wrap ((BitVec.ofInt 64 x &&& BitVec.ofInt 64 ((2 ^ i - 1 : Nat) : Int)).toNat : Int) = _
  rw [e, Int.toNat_of_nonneg h6]
  exact wraps_i64 _ h6 (by omega)
theorem and_65535 (x : Int) : Go.bits .and .i64 x 65535 = x % 65536 := and_mask x 16 (by decide)
theorem and_255 (x : Int) : Go.bits .and .i64 x 255 = x % 256 := and_mask x 8 (by decide)
theorem and_3 (x : Int) : Go.bits .and .i64 x 3 = x % 4 := and_mask x 2 (by decide)

theorem decode_range (q : Int) (d : List UInt8) (h0 : 0 ≤ q) (h1 : q ≤ 65535) (hd : d.length ≤ 2048) : decodeL (headL q ++ d) = if q % 2 = 1 ∧ (q / 256) % 2 = 0 then (q, d, 0) else (0, [], 303) := by
  rw [decode_head q d h0 h1]
  have hb : (protoB q = true) ↔ (q % 2 = 1 ∧ (q / 256) % 2 = 0) := by
    simp only [protoB, Bool.and_eq_true, decide_eq_true_eq, beq_iff_eq]
    omega
  by_cases h : q % 2 = 1 ∧ (q / 256) % 2 = 0
  · rw [if_pos (hb.2 h), if_neg (by omega), if_pos h]
  · rw [if_neg (fun e => h (hb.1 e)), if_neg h]

theorem protos_j2 (p : Int) (d : List UInt8) (hd : d.length ≤ 2048) : Ev (fun k => withylaw3_FrameProtos.j2 k p (B d) false) true := by
  refine Ev.next (f := fun k => _) (fun k => by simp only [withylaw3_FrameProtos.j2]; rfl) ?_
  refine Ev.ite_neg (by decide) ?_
  have h0 : 0 ≤ p % 65536 := by omega
  have h1 : p % 65536 ≤ 65535 := by omega
  simp only [and_65535, and_255, and_one_i64]
  generalize p % 65536 = q at h0 h1
  have hq : (q % 256) % 256 = q % 256 := by omega
  have hy : strOfNums [q / 256 % 256, q % 256 % 256] = B [UInt8.ofNat ((q / 256) % 256).toNat, UInt8.ofNat (q % 256).toNat] := by rw [hq]; rfl
  refine Ev.pre rfl ?_
  simp only [hy]
  have e1 : (⟨#[255, 3]⟩ : ByteArray) ++ B [UInt8.ofNat ((q / 256) % 256).toNat, UInt8.ofNat (q % 256).toNat] = B (headL q) := B_app [255, 3] _
  rw [e1]
  refine Ev.ite_pos (by rw [B_size]; simp) ?_
  refine Ev.ite_pos (by rw [B_size, B_size, head_length]; omega) ?_
  rw [B_app]
  have hl := stuffL_length 0 (sumL (headL q ++ d))
  have h6 : (sumL (headL q ++ d)).length = d.length + 6 := by rw [sumL_length, List.length_append, head_length]; omega
  refine Ev.bind (rsum_spec _ (by rw [List.length_append, head_length]; omega)) ?_
  refine Ev.bind (stuff_spec (B (sumL (headL q ++ d))) 0 (by rw [B_size, h6]; omega)) ?_
  have g := get_frame (B (stuffL 0 (sumL (headL q ++ d)))) (by rw [B_size]; omega)
  rw [B_data, unframe_of 0 _ (by rw [List.length_append, head_length]; omega), decode_range q d h0 h1 hd] at g
  rw [B_data]
  by_cases h2 : q % 2 = 1
  · by_cases h3 : q / 256 % 2 = 0
    · rw [if_pos (show q % 2 = 1 ∧ q / 256 % 2 = 0 from ⟨h2, h3⟩)] at g
      refine Ev.bind g ?_
      refine Ev.ite_pos h2 ?_
      refine Ev.pre (num_spec _) ?_
      refine Ev.ite_pos (by simp [h3]) ?_
      refine Ev.ite_pos h3 ?_
      refine Ev.ite_pos h3 ?_
      simp only [beq_self_eq_true, Bool.and_self]
      exact Ev.now _
    · rw [if_neg (show ¬ (q % 2 = 1 ∧ q / 256 % 2 = 0) from fun h => h3 h.2)] at g
      refine Ev.bind g ?_
      refine Ev.ite_pos h2 ?_
      refine Ev.pre (num_spec _) ?_
      refine Ev.ite_pos (by simp [h3]) ?_
      refine Ev.ite_neg h3 ?_
      refine Ev.pre (num_spec _) ?_
      refine Ev.ite_pos rfl ?_
      exact Ev.now _
  · rw [if_neg (show ¬ (q % 2 = 1 ∧ q / 256 % 2 = 0) from fun h => h2 h.1)] at g
    refine Ev.bind g ?_
    refine Ev.ite_neg h2 ?_
    refine Ev.pre (num_spec _) ?_
    refine Ev.ite_pos rfl ?_
    refine Ev.pre (num_spec _) ?_
    refine Ev.ite_pos rfl ?_
    exact Ev.now _
theorem protos_j1 (p : Int) (d : List UInt8) (hd : d.length ≤ 2048) : Ev (fun k => withylaw3_FrameProtos.j1 k p (protoB p) (B d)) true := by
  refine Ev.next (f := fun k => _) (fun k => by simp only [withylaw3_FrameProtos.j1]; rfl) ?_
  refine Ev.pre (put_frame p d 0) ?_
  refine Ev.pre (num_spec _) ?_
  cases hp : protoB p
  · have e : frameL p d 0 = ([], 303) := by unfold frameL; rw [hp]; rfl
    rw [e]
    refine Ev.ite_neg (by decide) ?_
    refine Ev.ite_neg (by decide) ?_
    refine Ev.ite_pos (B_toList []) ?_
    refine Ev.pre (num_spec _) ?_
    exact protos_j2 p d hd
  · rw [frame_ok p d 0 hp hd]
    refine Ev.ite_neg (by simp) ?_
    refine Ev.ite_pos rfl ?_
    exact protos_j2 p d hd
theorem protos_j0 (p : Int) (s : ByteArray) : Ev (fun k => withylaw3_FrameProtos.j0 k p s (protoB p)) true := by
  refine Ev.next (f := fun k => _) (fun k => by simp only [withylaw3_FrameProtos.j0]; rfl) ?_
  have hs := B_list s
  have hz : s.data.toList.length = s.size := size_data s
  by_cases h : (s.size : Int) > 100
  · refine Ev.ite_pos h ?_
    refine Ev.ite_pos (show (0 : Nat) ≤ 100 by decide) ?_
    refine Ev.ite_pos (by omega) ?_
    rw [← hs, B_ext]
    exact protos_j1 p _ (by simp; omega)
  · refine Ev.ite_neg h ?_
    rw [← hs]
    exact protos_j1 p _ (by omega)
theorem protos_pure (p : Int) (s : ByteArray) : ∃ k, withylaw3_FrameProtos.f k p s = some true := by
  refine Ev.rounds (g := fun k => withylaw3_FrameProtos.f k p s) ?_
  unfold withylaw3_FrameProtos.f
  refine Ev.bind awake_spec ?_
  refine Ev.ite_pos rfl ?_
  have hj := protos_j0 p s
  simp only [and_one_i64]
  by_cases h1 : p ≥ 1
  · refine Ev.ite_pos h1 ?_
    by_cases h2 : p ≤ 65535
    · refine Ev.ite_pos h2 ?_
      by_cases h3 : p % 2 = 1
      · refine Ev.ite_pos h3 ?_
        have e : protoB p = ((p / 256) % 2 == 0) := by
          have : (1 : Int) ≤ p := h1
          simp [protoB, this, h2, h3]
        rw [← e]
        exact hj
      · refine Ev.ite_neg h3 ?_
        have e : protoB p = false := by simp [protoB, h3]
        rw [← e]
        exact hj
    · refine Ev.ite_neg h2 ?_
      have e : protoB p = false := by simp [protoB, h2]
      rw [← e]
      exact hj
  · refine Ev.ite_neg h1 ?_
    have e : protoB p = false := by
      have : ¬ (1 : Int) ≤ p := h1
      simp [protoB, this]
    rw [← e]
    exact hj

theorem heads_j0 (many : Int) (e f0 : Int) (f1 : List UInt8) (r : Bool) (h : (r = true ∧ e = 0 ∧ f0 = 33) ∨ (r = false ∧ e = 302 ∧ f0 = 0 ∧ f1 = [])) :
    Ev (fun k => withylaw3_FrameHeads.j0 k many e r f0 (B f1)) true := by
  refine Ev.next (f := fun k => _) (fun k => by simp only [withylaw3_FrameHeads.j0]; rfl) ?_
  rw [and_3]
  have hk0 : 0 ≤ many % 4 := by omega
  have hk1 : many % 4 < 4 := by omega
  have hw : wrap64 (2047 + many % 4) = 2047 + many % 4 := by unfold wrap64; omega
  rw [hw]
  generalize many % 4 = q at hk0 hk1
  obtain ⟨n, rfl⟩ := Int.eq_ofNat_of_zero_le hk0
  have ht : ((2047 : Int) + (n : Int)).toNat = 2047 + n := by omega
  rw [ht]
  refine Ev.ite_pos (by omega) ?_
  refine Ev.ite_pos (by omega) ?_
  have hz : strOfNums (List.replicate (2047 + n) 0) = B (List.replicate (2047 + n) 0) := by
    have : (List.replicate (2047 + n) (0 : Int)) = nb (List.replicate (2047 + n) 0) := by simp [nb]
    rw [this, nb_str]
  rw [hz]
  refine Ev.pre (put_frame 33 _ 0) ?_
  have g2 := get_frame (B [97, 98, 99, 100, 101]) (by decide)
  rw [B_data, short_abcde] at g2
  refine Ev.bind g2 ?_
  rcases h with ⟨rfl, rfl, rfl⟩ | ⟨rfl, rfl, rfl, rfl⟩
  · refine Ev.ite_pos rfl ?_
    refine Ev.pre (num_spec _) ?_
    refine Ev.ite_pos rfl ?_
    exact Ev.now _
  · refine Ev.ite_neg (by decide) ?_
    refine Ev.pre (num_spec _) ?_
    refine Ev.ite_pos rfl ?_
    refine Ev.ite_pos (by rw [B_toList]; decide) ?_
    refine Ev.pre (num_spec _) ?_
    have hp : protoB 33 = true := by decide
    refine Ev.ite_pos ?_ ?_
    · unfold frameL
      rw [if_pos hp, List.length_replicate]
      by_cases h2 : 2048 < 2047 + n
      · rw [if_pos h2]
        have : ¬ ((2047 : Int) + (n : Int) ≤ 2048) := by omega
        simp [this]
      · rw [if_neg h2]
        have : ((2047 : Int) + (n : Int) ≤ 2048) := by omega
        simp [this]
    · refine Ev.pre (num_spec _) ?_
      exact Ev.now _
theorem heads_pure (a b many : Int) : ∃ k, withylaw3_FrameHeads.f k a b many = some true := by
  refine Ev.rounds (g := fun k => withylaw3_FrameHeads.f k a b many) ?_
  unfold withylaw3_FrameHeads.f
  refine Ev.bind awake_spec ?_
  refine Ev.ite_pos rfl ?_
  refine Ev.pre rfl ?_
  have ha0 : 0 ≤ a % 256 := by omega
  have ha1 : a % 256 < 256 := by omega
  have hb0 : 0 ≤ b % 256 := by omega
  have hb1 : b % 256 < 256 := by omega
  generalize a % 256 = x at ha0 ha1
  generalize b % 256 = y at hb0 hb1
  have e1 : strOfNums [x, y, 0, 33] ++ (⟨#[100, 97, 116, 97]⟩ : ByteArray) = B [UInt8.ofNat x.toNat, UInt8.ofNat y.toNat, 0, 33, 100, 97, 116, 97] := B_app [UInt8.ofNat x.toNat, UInt8.ofNat y.toNat, 0, 33] [100, 97, 116, 97]
  have e2 : (strOfNums [x, y, 0, 33]).size = 4 := by rw [strOfNums_size]; rfl
  simp only [e1, e2]
  refine Ev.ite_pos (by decide) ?_
  refine Ev.bind (rsum_spec _ (by simp)) ?_
  have hx : (UInt8.ofNat x.toNat).toNat = x.toNat := byte_of _ (by omega)
  have hy : (UInt8.ofNat y.toNat).toNat = y.toNat := byte_of _ (by omega)
  generalize hu : [UInt8.ofNat x.toNat, UInt8.ofNat y.toNat, 0, 33, 100, 97, 116, 97] = u
  have hul : u.length = 8 := by rw [← hu]; rfl
  have h6 : (sumL u).length = 10 := by rw [sumL_length, hul]
  have hl := stuffL_length 0 (sumL u)
  refine Ev.bind (stuff_spec (B (sumL u)) 0 (by rw [B_size, h6]; omega)) ?_
  have g := get_frame (B (stuffL 0 (sumL u))) (by rw [B_size]; omega)
  rw [B_data, unframe_of 0 u (by omega)] at g
  rw [B_data]
  have hd : decodeL u = if x = 255 ∧ y = 3 then (33, [100, 97, 116, 97], 0) else (0, [], 302) := by
    rw [← hu]
    unfold decodeL
    have i1 : (([UInt8.ofNat x.toNat, UInt8.ofNat y.toNat, 0, 33, 100, 97, 116, 97] : List UInt8).getD 0 0).toNat = x.toNat := hx
    have i2 : (([UInt8.ofNat x.toNat, UInt8.ofNat y.toNat, 0, 33, 100, 97, 116, 97] : List UInt8).getD 1 0).toNat = y.toNat := hy
    have i3 : protoL [UInt8.ofNat x.toNat, UInt8.ofNat y.toNat, 0, 33, 100, 97, 116, 97] = 33 := by
      show (((0 : UInt8).toNat : Nat) : Int) * 256 + (((33 : UInt8).toNat : Nat) : Int) = 33
      decide
    have hp : protoB 33 = true := by decide
    rw [i1, i2, i3]
    by_cases h : x = 255 ∧ y = 3
    · rw [if_pos (by omega), if_pos h, if_pos hp]
      rfl
    · rw [if_neg (by omega), if_neg h]
  rw [hd] at g
  refine Ev.bind g ?_
  by_cases h1 : x = 255
  · refine Ev.ite_pos h1 ?_
    by_cases h2 : y = 3
    · rw [if_pos ⟨h1, h2⟩]
      exact heads_j0 many _ _ _ _ (.inl ⟨by simpa using h2, rfl, rfl⟩)
    · rw [if_neg (fun h => h2 h.2)]
      exact heads_j0 many _ _ _ _ (.inr ⟨by simpa using h2, rfl, rfl, rfl⟩)
  · refine Ev.ite_neg h1 ?_
    rw [if_neg (fun h => h1 h.1)]
    exact heads_j0 many _ _ _ _ (.inr ⟨rfl, rfl, rfl, rfl⟩)
end Go.Proofs.Ytnkjhlpdcffalaa.Sp
