/-
  What the printed functions that read frames come to, in lists of bytes; the programs' own sign of life.
-/
import Derived.Test.YtnkjhlpdcffalaaSpecB
set_option linter.unusedVariables false
set_option linter.unusedSimpArgs false
namespace Go.Proofs.Ytnkjhlpdcffalaa.Sp
open Go.RowKit Go.Proofs.Ytnkjhlpdcffalaa.PF Go.Proofs.YtnkjhlpdcffalaaW.PrintWords Go.Proofs.YtnkjhlpdcffalaaW.PrintLast Go.Proofs.YtnkjhlpdcffalaaW.PrintMore Go.Proofs.Wy

/-! ### undoing marks -/
theorem drop_at (s : ByteArray) (k : Nat) (h : k < s.size) : s.data.toList.drop k = s[k] :: s.data.toList.drop (k + 1) := by
  rw [List.drop_eq_getElem_cons (by simpa using h)]; rfl
theorem unstuff_l1 (s : ByteArray) (hs : s.size ≤ 140737488355000) (hm : (126 : UInt8) ∉ s.data.toList) (d : Nat) : ∀ (k i : Nat) (acc : List UInt8), i ≤ s.size → s.size - i ≤ d → d < k → acc.length ≤ i →
    (unstuffGo s.data.toList = (unstuffGo (s.data.toList.drop i)).map fun t => acc ++ t) →
    withyref1_Unstuff.l1 k s (nb acc) (i : Int) = some (B (unstuffL s.data.toList).1, (unstuffL s.data.toList).2) := by
  have ho := unstuffL_of s.data.toList hm
  induction d with
  | zero =>
    intro k i acc h1 hi hk ha hu
    obtain ⟨k, rfl⟩ : ∃ j, k = j + 1 := ⟨k - 1, by omega⟩
    simp only [withyref1_Unstuff.l1]
    rw [if_neg (by omega), nb_str]
    rw [List.drop_of_length_le (by rw [size_data]; omega)] at hu
    have hu2 : unstuffGo s.data.toList = some acc := by rw [hu]; simp [unstuffGo]
    rw [ho.2 _ hu2]
  | succ d ih =>
    intro k i acc h1 hi hk ha hu
    obtain ⟨k, rfl⟩ : ∃ j, k = j + 1 := ⟨k - 1, by omega⟩
    by_cases hlt : i < s.size
    · have hb := bt_nat s i hlt
      have hw : wrap64 ((i : Int) + 1) = ((i + 1 : Nat) : Int) := wrap_next hlt (by omega)
      simp only [withyref1_Unstuff.l1]
      rw [if_pos (by omega), if_pos (by omega), hb, hw]
      rw [drop_at s i hlt] at hu
      by_cases h5 : s[i].toNat = 125
      · rw [if_pos (by omega)]
        by_cases he : i + 1 = s.size
        · rw [if_pos (by omega)]
          rw [List.drop_of_length_le (by rw [size_data]; omega), unstuffGo_end _ h5] at hu
          rw [ho.1 hu]
        · have hlt2 : i + 1 < s.size := by omega
          rw [if_neg (by omega), if_pos (by omega), if_pos (by omega), if_pos (by rw [nb_len]; omega), bt_nat s (i + 1) hlt2]
          have hx : Go.bits .xor .u8 (s[i + 1].toNat : Int) 32 = ((s[i + 1] ^^^ 32).toNat : Int) := xor_byte s[i + 1] 32
          have hw2 : wrap64 (((i + 1 : Nat) : Int) + 1) = ((i + 1 + 1 : Nat) : Int) := wrap_next hlt2 (by omega)
          rw [hx, hw2]
          have e : nb acc ++ [((s[i + 1] ^^^ 32).toNat : Int)] = nb (acc ++ [s[i + 1] ^^^ 32]) := by rw [nb_app]; rfl
          rw [e]
          clear e hx hw2 hw hb
          refine ih k (i + 1 + 1) _ (by omega) (by omega) (by omega) (by simp; omega) ?_
          rw [drop_at s (i + 1) hlt2, unstuffGo_mark _ _ _ h5, Option.map_map] at hu
          rw [hu]
          congr 1
          funext t
          simp
      · rw [if_neg (by omega), if_pos (by rw [nb_len]; omega)]
        have e : nb acc ++ [(s[i].toNat : Int)] = nb (acc ++ [s[i]]) := by rw [nb_app]; rfl
        rw [e]
        refine ih k (i + 1) _ (by omega) (by omega) (by omega) (by simp; omega) ?_
        rw [unstuffGo_plain _ _ h5, Option.map_map] at hu
        rw [hu]
        congr 1
        funext t
        simp
    · simp only [withyref1_Unstuff.l1]
      rw [if_neg (by omega), nb_str]
      rw [List.drop_of_length_le (by rw [size_data]; omega)] at hu
      have hu2 : unstuffGo s.data.toList = some acc := by rw [hu]; simp [unstuffGo]
      rw [ho.2 _ hu2]
theorem unstuff_l0 (s : ByteArray) (hs : s.size ≤ 140737488355000) (d : Nat) : ∀ (k i : Nat), i + d = s.size → (∀ j, j < i → s.data.toList[j]? ≠ some 126) → d + s.size + 1 < k →
    withyref1_Unstuff.l0 k s (i : Int) = some (B (unstuffL s.data.toList).1, (unstuffL s.data.toList).2) := by
  induction d with
  | zero =>
    intro k i hi hj hk
    obtain ⟨k, rfl⟩ : ∃ j, k = j + 1 := ⟨k - 1, by omega⟩
    simp only [withyref1_Unstuff.l0]
    rw [if_neg (by omega)]
    have hm : (126 : UInt8) ∉ s.data.toList := by
      intro h
      obtain ⟨j, hj1, hj2⟩ := List.mem_iff_getElem.1 h
      have hjs : j < s.size := by rw [size_data] at hj1; exact hj1
      exact hj j (by omega) (by rw [List.getElem?_eq_getElem hj1, hj2])
    exact unstuff_l1 s hs hm s.size k 0 [] (by omega) (by omega) (by omega) (by simp) (by simp)
  | succ d ih =>
    intro k i hi hj hk
    obtain ⟨k, rfl⟩ : ∃ j, k = j + 1 := ⟨k - 1, by omega⟩
    have hlt : i < s.size := by omega
    have hg : s.data.toList[i]? = some s[i] := by rw [List.getElem?_eq_getElem (by rw [size_data]; exact hlt)]; rfl
    simp only [withyref1_Unstuff.l0]
    rw [if_pos (by omega), if_pos (by omega), bt_nat s i hlt, wrap_next hlt (by omega)]
    by_cases h6 : s[i].toNat = 126
    · rw [if_pos (by omega)]
      have hc : s[i] = 126 := UInt8.toNat_inj.1 h6
      rw [unstuffL_flag _ (List.mem_of_getElem? (by rw [hg, hc]))]
    · rw [if_neg (by omega)]
      refine ih k (i + 1) (by omega) (fun j hj2 => ?_) (by omega)
      by_cases hji : j = i
      · subst hji
        rw [hg]
        intro e
        injection e with e
        exact h6 (by rw [e]; rfl)
      · exact hj j (by omega)
theorem runstuff_spec (s : ByteArray) (hs : s.size ≤ 140737488355000) : Ev (fun k => withyref1_Unstuff.f k s) (B (unstuffL s.data.toList).1, (unstuffL s.data.toList).2) :=
  Ev.of (fun k => withyref1_Unstuff.mono s k) (k := 2 * s.size + 2) (unstuff_l0 s hs s.size (2 * s.size + 2) 0 (by omega) (fun j h => absurd h (by omega)) (by omega))
theorem get_spec (s : ByteArray) (hs : s.size ≤ 140737488355000) : stuff_Get.f s = some (B (unstuffL s.data.toList).1, (unstuffL s.data.toList).2) := by
  unfold stuff_Get.f
  rw [if_pos hs]

/-! ### the sum is checked -/
theorem wrap_less (n c : Nat) (h : n ≤ 4611686018427387904) (hc : c ≤ 100) : wrap64 ((n : Int) - (c : Int)) = (n : Int) - (c : Int) := by unfold wrap64; omega
theorem check_spec (l : List UInt8) (h : l.length ≤ 4611686018427387000) : fcs_Check.f (B l) = some (B (checkL l).1, (checkL l).2) := by
  unfold fcs_Check.f checkL
  have hw := wrap_less l.length 2 (by omega) (by omega)
  have hw' : wrap64 ((l.length : Int) - 2) = (l.length : Int) - 2 := hw
  rw [B_size, hw']
  by_cases h2 : l.length < 2
  · rw [if_pos (by omega), if_pos h2]
  · have e : ((l.length : Int) - 2).toNat = l.length - 2 := by omega
    rw [if_neg (by omega), if_neg h2, if_pos (by omega), if_pos (by omega), e, B_ext, List.drop_zero, Nat.sub_zero, fput_spec _ (by simp; omega)]
    simp only [Option.bind_some, B_toList]
    by_cases h3 : sumL (l.take (l.length - 2)) = l
    · rw [if_pos h3, if_pos h3]
    · rw [if_neg h3, if_neg h3]
theorem unsum_spec (l : List UInt8) (h : l.length ≤ 4611686018427387000) : Ev (fun k => withyref1_Unsum.f k (B l)) (B (checkL l).1, (checkL l).2) := by
  unfold withyref1_Unsum.f checkL
  rw [B_size]
  have hw := wrap_less l.length 2 (by omega) (by omega)
  have hw' : wrap64 ((l.length : Int) - 2) = (l.length : Int) - 2 := hw
  rw [hw']
  by_cases h2 : l.length < 2
  · refine Ev.ite_pos (by omega) ?_
    rw [if_pos h2]
    exact Ev.now _
  · have e : ((l.length : Int) - 2).toNat = l.length - 2 := by omega
    refine Ev.ite_neg (by omega) ?_
    rw [if_neg h2, e, B_ext, List.drop_zero, Nat.sub_zero]
    refine Ev.ite_pos (by omega) ?_
    refine Ev.ite_pos (by omega) ?_
    refine Ev.map1 (rsum_spec (l.take (l.length - 2)) (by simp; omega)) ?_
    simp only [B_toList]
    by_cases h3 : sumL (l.take (l.length - 2)) = l
    · rw [if_pos h3, if_pos h3]
    · rw [if_neg h3, if_neg h3]

/-! ### a frame is read -/
theorem or_bytes (a b : Nat) (ha : a < 256) (hb : b < 256) : Go.bits .or .i64 (wrap64 (wrap64 (a : Int) * 256)) (wrap64 (b : Int)) = (a : Int) * 256 + (b : Int) := by
  have e1 : wrap64 (wrap64 (a : Int) * 256) = ((2 ^ 8 * a : Nat) : Int) := by rw [wrap_byte a ha]; unfold wrap64; omega
  have e2 := Nat.two_pow_add_eq_or_of_lt (i := 8) (b := b) (by omega) a
  have e3 := (bits_nat .i64 62 (by decide) wraps_i64 (2 ^ 8 * a) b (by omega) (by omega)).2
  rw [e1, wrap_byte b hb, e3, ← e2]
  omega
theorem add_bytes (a b : Nat) (ha : a < 256) (hb : b < 256) : wrap64 (wrap64 (wrap64 (a : Int) * 256) + wrap64 (b : Int)) = (a : Int) * 256 + (b : Int) := by
  rw [wrap_byte a ha, wrap_byte b hb]; unfold wrap64; omega
theorem get_j1 (u : List UInt8) (h4 : 4 ≤ u.length) (hu : u.length ≤ 4611686018427387000) (z : Bool) (hz : z = true ↔ ¬ ((u.getD 0 0).toNat = 255 ∧ (u.getD 1 0).toNat = 3)) (k : Nat) :
    frame_Get.j1 (k + 1) (B u) z = some ((decodeL u).1, B (decodeL u).2.1, (decodeL u).2.2) := by
  simp only [frame_Get.j1]
  unfold decodeL
  cases z with
  | true =>
    rw [if_pos rfl, if_neg (hz.1 rfl)]
  | false =>
    have hh : (u.getD 0 0).toNat = 255 ∧ (u.getD 1 0).toNat = 3 := by
      by_cases hq : (u.getD 0 0).toNat = 255 ∧ (u.getD 1 0).toNat = 3
      · exact hq
      · exact absurd (hz.2 hq) (by decide)
    rw [if_neg (by decide), if_pos hh, B_size, if_pos (by omega), if_pos (by omega), if_pos (by omega)]
    have b2 := B_bt u 2 (by omega)
    have b3 := B_bt u 3 (by omega)
    have b2' : bt (B u) 2 = ((u.getD 2 0).toNat : Int) := b2
    have b3' : bt (B u) 3 = ((u.getD 3 0).toNat : Int) := b3
    have e : (List.drop 4 u).take (u.length - 4) = u.drop 4 := List.take_of_length_le (by simp)
    rw [b2', b3', or_bytes _ _ (UInt8.toNat_lt _) (UInt8.toNat_lt _), proto_spec, B_ext, e]
    simp only [Option.bind_some, B_size, List.length_drop]
    have hp : ((u.getD 2 0).toNat : Int) * 256 + ((u.getD 3 0).toNat : Int) = protoL u := rfl
    rw [hp]
    cases protoB (protoL u)
    · rw [if_neg (by decide), if_neg (by decide)]
    · rw [if_pos rfl, if_pos rfl]
      by_cases hl : 2048 < u.length - 4
      · rw [if_pos (by omega), if_pos hl]
      · rw [if_neg (by omega), if_neg hl]
theorem get_frame (s : ByteArray) (hs : s.size ≤ 140737488355000) : Ev (fun k => frame_Get.f k s) ((unframeL s.data.toList).1, B (unframeL s.data.toList).2.1, (unframeL s.data.toList).2.2) := by
  have hl := unstuffL_length s.data.toList
  rw [size_data] at hl
  unfold frame_Get.f unframeL
  refine Ev.pre (get_spec s hs) ?_
  generalize unstuffL s.data.toList = t at hl
  obtain ⟨t, e⟩ := t
  simp only at hl ⊢
  have main : ∀ z : Bool, (z = true ↔ (e ≠ 0 ∨ t.length < 6)) → Ev (fun k => frame_Get.j0 k (B t) z) ((if e ≠ 0 ∨ t.length < 6 then ((0 : Int), ([] : List UInt8), (300 : Int)) else if (checkL t).2 ≠ 0 then (0, [], 301) else decodeL (checkL t).1).1, B (if e ≠ 0 ∨ t.length < 6 then ((0 : Int), ([] : List UInt8), (300 : Int)) else if (checkL t).2 ≠ 0 then (0, [], 301) else decodeL (checkL t).1).2.1, (if e ≠ 0 ∨ t.length < 6 then ((0 : Int), ([] : List UInt8), (300 : Int)) else if (checkL t).2 ≠ 0 then (0, [], 301) else decodeL (checkL t).1).2.2) := by
    intro z hz
    refine Ev.next (f := fun k => _) (fun k => by simp only [frame_Get.j0]; rfl) ?_
    cases z with
    | true =>
      refine Ev.ite_pos rfl ?_
      rw [if_pos (hz.1 rfl)]
      exact Ev.now _
    | false =>
      have hn : ¬ (e ≠ 0 ∨ t.length < 6) := fun h => absurd (hz.2 h) (by decide)
      refine Ev.ite_neg (by decide) ?_
      rw [if_neg hn]
      refine Ev.pre (check_spec t (by omega)) ?_
      by_cases hc : (checkL t).2 = 0
      · refine Ev.ite_pos hc ?_
        rw [if_neg (by simpa using hc)]
        have hcl := check_length t hc
        generalize (checkL t).1 = u at hcl
        have hul : 4 ≤ u.length := by omega
        have b0' : bt (B u) 0 = ((u.getD 0 0).toNat : Int) := B_bt u 0 (by omega)
        have b1' : bt (B u) 1 = ((u.getD 1 0).toNat : Int) := B_bt u 1 (by omega)
        refine Ev.ite_pos (by rw [B_size]; omega) ?_
        rw [b0', b1']
        by_cases h0 : (u.getD 0 0).toNat = 255
        · refine Ev.ite_pos (by omega) ?_
          refine Ev.ite_pos (by rw [B_size]; omega) ?_
          refine ⟨1, fun k hk => ?_⟩
          obtain ⟨k, rfl⟩ : ∃ j, k = j + 1 := ⟨k - 1, by omega⟩
          refine get_j1 u hul (by omega) _ ?_ k
          rw [bne_iff_ne]
          omega
        · refine Ev.ite_neg (by omega) ?_
          refine ⟨1, fun k hk => ?_⟩
          obtain ⟨k, rfl⟩ : ∃ j, k = j + 1 := ⟨k - 1, by omega⟩
          exact get_j1 u hul (by omega) true ⟨fun _ h => h0 h.1, fun _ => rfl⟩ k
      · refine Ev.ite_neg hc ?_
        rw [if_pos hc]
        exact Ev.now _
  by_cases he : e = 0
  · refine Ev.ite_pos he ?_
    refine main _ ?_
    rw [B_size, decide_eq_true_eq]
    omega
  · refine Ev.ite_neg he ?_
    exact main true ⟨fun _ => .inl he, fun _ => rfl⟩
end Go.Proofs.Ytnkjhlpdcffalaa.Sp
