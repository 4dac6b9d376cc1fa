/-
  What the reference's sum, stuffing and frames come to, in plain words; their contracts.
-/
import Derived.Test.YtlpibobpfafooaaGreatDoorPR
import Derived.Test.YtlpibobpfafooaaGreatDoorPurD
set_option linter.unusedVariables false
set_option linter.unusedSimpArgs false
namespace Go.Proofs.YtlpibobpfafooaaGreatDoor.SpR
open Go.RowKit Go.Proofs.YtlpibobpfafooaaGreatDoor.SpQ Go.Proofs.YtlpibobpfafooaaGreatDoor.PR Go.Proofs.YtlpibobpfafooaaGreatDoorW.PrintWords Go.Proofs.YtlpibobpfafooaaGreatDoorW.PrintLast Go.Proofs.YtlpibobpfafooaaGreatDoorW.PrintMore Go.Proofs.Wy

theorem shr_u64 (m : Int) (c : Nat) (hc : c < 32) : Go.bits .and .u64 (shr .u64 (IntKind.u64.wrap m) (c : Int)) 1 = (m / 2 ^ c) % 2 := by
  have h1 : IntKind.u64.wrap m = m % 18446744073709551616 := by simp [IntKind.wrap, IntKind.bits, IntKind.signed]
  have hw : ∀ n : Int, 0 ≤ n → n < 2 → IntKind.u64.wrap n = n := fun n h0 h2 => by
    have h3 : IntKind.u64.wrap n = n % 18446744073709551616 := by simp [IntKind.wrap, IntKind.bits, IntKind.signed]
    rw [h3]; omega
  rw [Go.Proofs.Wy.and_one .u64 (by decide) hw]
  unfold shr
  rw [h1]
  have hm : min (c : Int).toNat IntKind.u64.bits = c := by
    have : IntKind.u64.bits = 64 := rfl
    rw [this]; omega
  rw [hm]
  have hp : (18446744073709551616 : Int) = 2 ^ c * (2 * 2 ^ (63 - c)) := by
    have e : (2 : Int) ^ c * (2 * 2 ^ (63 - c)) = 2 ^ (c + (1 + (63 - c))) := by rw [Int.pow_add, Int.pow_add]; rfl
    rw [e, show c + (1 + (63 - c)) = 64 by omega]
    decide
  have hpos : (0 : Int) < 2 ^ c := Int.pow_pos (by decide)
  rw [hp]
  generalize (2 : Int) ^ (63 - c) = r
  generalize (2 : Int) ^ c = q at hpos
  have e : m % (q * (2 * r)) = m + q * (2 * (-(r * (m / (q * (2 * r)))))) := by
    rw [Int.emod_def]
    generalize m / (q * (2 * r)) = z
    have : q * (2 * r) * z = -(q * (2 * (-(r * z)))) := by
      simp only [Int.mul_neg, Int.neg_neg, Int.mul_assoc]
    omega
  rw [e, Int.add_mul_ediv_left _ _ (by omega)]
  omega
theorem stuff_l0 (s : ByteArray) (m : Int) (hs : s.size ≤ 70368744177000) (d : Nat) : ∀ (k i : Nat) (acc : List UInt8), i + d = s.size → d < k → acc = stuffL m (s.data.toList.take i) →
    withyref1_Stuff.l0 k s m (nb acc) (i : Int) = some (B (stuffL m s.data.toList)) := by
  induction d with
  | zero =>
    intro k i acc hi hk ha
    obtain ⟨k, rfl⟩ : ∃ j, k = j + 1 := ⟨k - 1, by omega⟩
    simp only [withyref1_Stuff.l0]
    rw [if_neg (by omega), ha, nb_str, take_all s i (by omega)]
  | succ d ih =>
    intro k i acc hi hk ha
    obtain ⟨k, rfl⟩ : ∃ j, k = j + 1 := ⟨k - 1, by omega⟩
    have hlt : i < s.size := by omega
    have hb := bt_nat s i hlt
    have hc := s[i].toNat_lt
    have hal : acc.length ≤ 2 * i := by
      rw [ha]
      have := stuffL_length m (s.data.toList.take i)
      have : (s.data.toList.take i).length ≤ i := List.length_take_le _ _
      omega
    have hstep : stuffL m (s.data.toList.take (i + 1)) = acc ++ stuffB m s[i] := by rw [take_snoc s i hlt, stuffL_snoc, ha]
    have hx : Go.bits .xor .u8 (s[i].toNat : Int) 32 = ((s[i] ^^^ 32).toNat : Int) := xor_byte s[i] 32
    have hw : wrap64 ((i : Int) + 1) = ((i + 1 : Nat) : Int) := wrap_next hlt (by omega)
    have two : needs m s[i] = true → withyref1_Stuff.l0 k s m (nb acc ++ [125, ((s[i] ^^^ 32).toNat : Int)]) ((i + 1 : Nat) : Int) = some (B (stuffL m s.data.toList)) := by
      intro hn
      have e : nb acc ++ [125, ((s[i] ^^^ 32).toNat : Int)] = nb (acc ++ [125, s[i] ^^^ 32]) := by rw [nb_app]; rfl
      rw [e]
      refine ih k (i + 1) _ (by omega) (by omega) ?_
      rw [hstep]
      unfold stuffB
      rw [if_pos hn]
    have one : needs m s[i] = false → withyref1_Stuff.l0 k s m (nb acc ++ [(s[i].toNat : Int)]) ((i + 1 : Nat) : Int) = some (B (stuffL m s.data.toList)) := by
      intro hn
      have e : nb acc ++ [(s[i].toNat : Int)] = nb (acc ++ [s[i]]) := by rw [nb_app]; rfl
      rw [e]
      refine ih k (i + 1) _ (by omega) (by omega) ?_
      rw [hstep]
      unfold stuffB
      rw [if_neg (by rw [hn]; decide)]
    have l1 : (nb acc).length < 140737488355328 := by rw [nb_len]; omega
    have l2 : (nb acc).length + ([125, ((s[i] ^^^ 32).toNat : Int)] : List Int).length < 140737488355328 := by rw [nb_len]; simp; omega
    simp only [withyref1_Stuff.l0]
    rw [if_pos (by omega), if_pos (by omega), hb, hw, hx]
    by_cases h1 : s[i].toNat = 125
    · rw [if_pos (by omega)]
      simp only [Option.bind_some]
      rw [if_pos l2]
      exact two (by simp [needs, h1])
    · rw [if_neg (by omega)]
      by_cases h2 : s[i].toNat = 126
      · rw [if_pos (by omega)]
        simp only [Option.bind_some]
        rw [if_pos l2]
        exact two (by simp [needs, h2])
      · rw [if_neg (by omega)]
        by_cases h3 : s[i].toNat < 32
        · rw [if_pos (by omega), if_pos (by omega), shr_u64 m _ h3]
          by_cases h4 : (m / 2 ^ s[i].toNat) % 2 = 1
          · rw [if_pos h4]
            simp only [Option.bind_some]
            rw [if_pos l2]
            exact two (by simp [needs, h3, h4])
          · rw [if_neg h4, if_pos l1]
            exact one (by simp [needs, h1, h2, h4])
        · rw [if_neg (by omega), if_pos l1]
          exact one (by simp [needs, h1, h2, h3])
theorem stuff_spec (s : ByteArray) (m : Int) (hs : s.size ≤ 70368744177000) : Ev (fun k => withyref1_Stuff.f k s m) (B (stuffL m s.data.toList)) :=
  Ev.of (fun k => withyref1_Stuff.mono s m k) (k := s.size + 1) (stuff_l0 s m hs s.size (s.size + 1) 0 [] (by omega) (by omega) (by simp [stuffL]))
theorem fcs_l1 (s : ByteArray) (c : Nat) (d : Nat) : ∀ (k i x : Nat), i + d = 8 → x < 65536 → d < k → withyref1_Fcs.l1 k s (x : Int) (c : Int) (i : Int) = withyref1_Fcs.l0 (k - 1 - d) s ((stepN d x : Nat) : Int) (wrap64 ((c : Int) + 1)) := by
  induction d with
  | zero =>
    intro k i x hi hx hk
    obtain ⟨k, rfl⟩ : ∃ j, k = j + 1 := ⟨k - 1, by omega⟩
    simp only [withyref1_Fcs.l1]
    rw [if_neg (by omega)]
    rfl
  | succ d ih =>
    intro k i x hi hx hk
    obtain ⟨k, rfl⟩ : ∃ j, k = j + 1 := ⟨k - 1, by omega⟩
    have hs1 := step1_lt hx
    have hw : wrap64 ((i : Int) + 1) = ((i + 1 : Nat) : Int) := wrap_next (n := 8) (by omega) (by omega)
    have hr := ih k (i + 1) (step1 x) (by omega) hs1 (by omega)
    simp only [withyref1_Fcs.l1]
    rw [if_pos (by omega), and_one_i64, hw]
    have e : k + 1 - 1 - (d + 1) = k - 1 - d := by omega
    rw [e]
    have e2 : stepN (d + 1) x = stepN d (step1 x) := rfl
    rw [e2, ← hr]
    by_cases h2 : x % 2 = 1
    · rw [if_pos (by omega)]
      have ex : Go.bits .xor .i64 ((x : Int) / 2) 33800 = ((step1 x : Nat) : Int) := by
        unfold step1
        rw [if_pos h2]
        exact xor_i64 (x / 2) 33800 (by omega) (by omega)
      rw [ex]
    · rw [if_neg (by omega)]
      have ex : (x : Int) / 2 = ((step1 x : Nat) : Int) := by
        unfold step1
        rw [if_neg h2]
        omega
      rw [ex]
theorem fcs_l0 (s : ByteArray) (hs : s.size ≤ 4611686018427387904) (d : Nat) : ∀ (k i x : Nat), i + d = s.size → x = crcL 65535 (s.data.toList.take i) → 10 * d < k → withyref1_Fcs.l0 k s (x : Int) (i : Int) = some ((fcsL s.data.toList : Nat) : Int) := by
  induction d with
  | zero =>
    intro k i x hi hx hk
    obtain ⟨k, rfl⟩ : ∃ j, k = j + 1 := ⟨k - 1, by omega⟩
    have hlt : x < 65536 := by rw [hx]; exact crcL_lt _ (by decide)
    simp only [withyref1_Fcs.l0]
    rw [if_neg (by omega)]
    have e := xor_i64 x 65535 (by omega) (by omega)
    have e2 : Go.bits .xor .i64 (x : Int) 65535 = ((x ^^^ 65535 : Nat) : Int) := e
    rw [e2, hx, take_all s i (by omega)]
    rfl
  | succ d ih =>
    intro k i x hi hx hk
    obtain ⟨k, rfl⟩ : ∃ j, k = j + 1 := ⟨k - 1, by omega⟩
    have hlt : i < s.size := by omega
    have hxl : x < 65536 := by rw [hx]; exact crcL_lt _ (by decide)
    have hc := s[i].toNat_lt
    have hxb : x ^^^ s[i].toNat < 65536 := xor_lt16 hxl (by omega)
    simp only [withyref1_Fcs.l0]
    rw [if_pos (by omega), if_pos (by omega), bt_nat s i hlt, wrap_byte _ hc, xor_i64 _ _ (by omega) (by omega)]
    have h8 := fcs_l1 s i 8 k 0 (x ^^^ s[i].toNat) (by omega) hxb (by omega)
    rw [wrap_next hlt hs] at h8
    refine Eq.trans h8 ?_
    refine ih (k - 1 - 8) (i + 1) _ (by omega) ?_ (by omega)
    rw [take_snoc s i hlt, crcL_snoc, ← hx]
    rfl
theorem fcs_spec (s : ByteArray) (hs : s.size ≤ 4611686018427387904) : Ev (fun k => withyref1_Fcs.f k s) ((fcsL s.data.toList : Nat) : Int) :=
  Ev.of (fun k => withyref1_Fcs.mono s k) (k := 10 * s.size + 1) (fcs_l0 s hs s.size (10 * s.size + 1) 0 65535 (by omega) (by simp [crcL]) (by omega))
theorem rsum_spec (l : List UInt8) (h : l.length ≤ 4611686018427387000) : Ev (fun k => withyref1_Sum.f k (B l)) (B (sumL l)) := by
  unfold withyref1_Sum.f
  have hf := fcs_spec (B l) (by rw [B_size]; omega)
  have hlt := fcsL_lt l
  refine Ev.map1 hf ?_
  simp only [Option.bind_some, B_data]
  rw [and255 _ hlt]
  have e : (((fcsL l % 256 : Nat) : Int)) % 256 = ((fcsL l : Nat) : Int) % 256 := by omega
  rw [e, sum_bytes, B_size, B_size, B_app, if_pos (by simp [sumB]; omega)]
  rfl
theorem rproto_spec (p : Int) : withyref1_protoMay.f p = some (protoB p) := proto_spec p
theorem two_spec (p : Int) (h0 : 0 ≤ p) (h1 : p ≤ 65535) : withyref1_two.f p = some (B [UInt8.ofNat ((p / 256) % 256).toNat, UInt8.ofNat (p % 256).toNat]) := by
  unfold withyref1_two.f
  have a := and255 (p / 256).toNat (by omega)
  have b := and255 p.toNat (by omega)
  have a' : Go.bits .and .i64 (p / 256) 255 = (p / 256) % 256 := by
    have e : ((p / 256).toNat : Int) = p / 256 := by omega
    rw [e] at a
    rw [a]
    omega
  have b' : Go.bits .and .i64 p 255 = p % 256 := by
    have e : (p.toNat : Int) = p := by omega
    rw [e] at b
    rw [b]
    omega
  have a2 : p / 256 % 256 % 256 = p / 256 % 256 := by omega
  have b2 : p % 256 % 256 = p % 256 := by omega
  rw [a', b', a2, b2]
  rfl
theorem rframe_spec (p : Int) (d : List UInt8) (m : Int) : Ev (fun k => withyref1_Frame.f k p (B d) m) (B (frameL p d m).1, (frameL p d m).2) := by
  unfold withyref1_Frame.f frameL
  refine Ev.pre (rproto_spec p) ?_
  cases hp : protoB p
  · refine Ev.ite_neg (by decide) ?_
    rw [if_neg (by decide)]
    exact Ev.now _
  · have hr := protoB_range hp
    refine Ev.ite_pos rfl ?_
    rw [if_pos rfl]
    by_cases h2 : 2048 < d.length
    · refine Ev.ite_pos (by rw [B_size]; omega) ?_
      rw [if_pos h2]
      exact Ev.now _
    · refine Ev.ite_neg (by rw [B_size]; omega) ?_
      rw [if_neg h2]
      refine Ev.pre (two_spec p (by omega) hr.2) ?_
      refine Ev.ite_pos (by rw [B_size]; simp) ?_
      have e1 : (⟨#[255, 3]⟩ : ByteArray) ++ B [UInt8.ofNat ((p / 256) % 256).toNat, UInt8.ofNat (p % 256).toNat] = B (headL p) := B_app [255, 3] _
      have hl := stuffL_length m (sumL (headL p ++ d))
      have h6 : (sumL (headL p ++ d)).length = d.length + 6 := by rw [sumL_length, List.length_append, head_length]; omega
      rw [e1]
      refine Ev.ite_pos (by rw [B_size, B_size, head_length]; omega) ?_
      rw [B_app]
      refine Ev.bind (rsum_spec _ (by rw [List.length_append, head_length]; omega)) ?_
      refine Ev.bind (stuff_spec (B (sumL (headL p ++ d))) m (by rw [B_size, h6]; omega)) ?_
      rw [B_data]
      refine Ev.ite_pos (by rw [B_size]; omega) ?_
      have e2 : (⟨#[126]⟩ : ByteArray) ++ B (stuffL m (sumL (headL p ++ d))) = B (126 :: stuffL m (sumL (headL p ++ d))) := B_app [126] _
      rw [e2]
      refine Ev.ite_pos (by rw [B_size]; simp; omega) ?_
      have e3 : B (126 :: stuffL m (sumL (headL p ++ d))) ++ (⟨#[126]⟩ : ByteArray) = B (126 :: (stuffL m (sumL (headL p ++ d)) ++ [126])) := B_app _ [126]
      rw [e3]
      exact Ev.now _
theorem unstuff_l1 (s : ByteArray) (hs : s.size ≤ 140737488355000) (hm : (126 : UInt8) ∉ s.data.toList) (d : Nat) : ∀ (k i : Nat) (acc : List UInt8), i ≤ s.size → s.size - i ≤ d → d < k → acc.length ≤ i →
    (unstuffGo s.data.toList = (unstuffGo (s.data.toList.drop i)).map fun t => acc ++ t) →
    withyref1_Unstuff.l1 k s (nb acc) (i : Int) = some (B (unstuffL s.data.toList).1, (unstuffL s.data.toList).2) := by
  have ho := unstuffL_of s.data.toList hm
  induction d with
  | zero =>
    intro k i acc h1 hi hk ha hu
    obtain ⟨k, rfl⟩ : ∃ j, k = j + 1 := ⟨k - 1, by omega⟩
    simp only [withyref1_Unstuff.l1]
    rw [if_neg (by omega), nb_str]
    rw [List.drop_of_length_le (by rw [size_data]; omega)] at hu
    have hu2 : unstuffGo s.data.toList = some acc := by rw [hu]; simp [unstuffGo]
    rw [ho.2 _ hu2]
  | succ d ih =>
    intro k i acc h1 hi hk ha hu
    obtain ⟨k, rfl⟩ : ∃ j, k = j + 1 := ⟨k - 1, by omega⟩
    by_cases hlt : i < s.size
    · have hb := bt_nat s i hlt
      have hw : wrap64 ((i : Int) + 1) = ((i + 1 : Nat) : Int) := wrap_next hlt (by omega)
      simp only [withyref1_Unstuff.l1]
      rw [if_pos (by omega), if_pos (by omega), hb, hw]
      rw [drop_at s i hlt] at hu
      by_cases h5 : s[i].toNat = 125
      · rw [if_pos (by omega)]
        by_cases he : i + 1 = s.size
        · rw [if_pos (by omega)]
          rw [List.drop_of_length_le (by rw [size_data]; omega), unstuffGo_end _ h5] at hu
          rw [ho.1 hu]
        · have hlt2 : i + 1 < s.size := by omega
          rw [if_neg (by omega), if_pos (by omega), if_pos (by omega), if_pos (by rw [nb_len]; omega), bt_nat s (i + 1) hlt2]
          have hx : Go.bits .xor .u8 (s[i + 1].toNat : Int) 32 = ((s[i + 1] ^^^ 32).toNat : Int) := xor_byte s[i + 1] 32
          have hw2 : wrap64 (((i + 1 : Nat) : Int) + 1) = ((i + 1 + 1 : Nat) : Int) := wrap_next hlt2 (by omega)
          rw [hx, hw2]
          have e : nb acc ++ [((s[i + 1] ^^^ 32).toNat : Int)] = nb (acc ++ [s[i + 1] ^^^ 32]) := by rw [nb_app]; rfl
          rw [e]
          clear e hx hw2 hw hb
          refine ih k (i + 1 + 1) _ (by omega) (by omega) (by omega) (by simp; omega) ?_
          rw [drop_at s (i + 1) hlt2, unstuffGo_mark _ _ _ h5, Option.map_map] at hu
          rw [hu]
          congr 1
          funext t
          simp
      · rw [if_neg (by omega), if_pos (by rw [nb_len]; omega)]
        have e : nb acc ++ [(s[i].toNat : Int)] = nb (acc ++ [s[i]]) := by rw [nb_app]; rfl
        rw [e]
        refine ih k (i + 1) _ (by omega) (by omega) (by omega) (by simp; omega) ?_
        rw [unstuffGo_plain _ _ h5, Option.map_map] at hu
        rw [hu]
        congr 1
        funext t
        simp
    · simp only [withyref1_Unstuff.l1]
      rw [if_neg (by omega), nb_str]
      rw [List.drop_of_length_le (by rw [size_data]; omega)] at hu
      have hu2 : unstuffGo s.data.toList = some acc := by rw [hu]; simp [unstuffGo]
      rw [ho.2 _ hu2]
theorem unstuff_l0 (s : ByteArray) (hs : s.size ≤ 140737488355000) (d : Nat) : ∀ (k i : Nat), i + d = s.size → (∀ j, j < i → s.data.toList[j]? ≠ some 126) → d + s.size + 1 < k →
    withyref1_Unstuff.l0 k s (i : Int) = some (B (unstuffL s.data.toList).1, (unstuffL s.data.toList).2) := by
  induction d with
  | zero =>
    intro k i hi hj hk
    obtain ⟨k, rfl⟩ : ∃ j, k = j + 1 := ⟨k - 1, by omega⟩
    simp only [withyref1_Unstuff.l0]
    rw [if_neg (by omega)]
    have hm : (126 : UInt8) ∉ s.data.toList := by
      intro h
      obtain ⟨j, hj1, hj2⟩ := List.mem_iff_getElem.1 h
      have hjs : j < s.size := by rw [size_data] at hj1; exact hj1
      exact hj j (by omega) (by rw [List.getElem?_eq_getElem hj1, hj2])
    exact unstuff_l1 s hs hm s.size k 0 [] (by omega) (by omega) (by omega) (by simp) (by simp)
  | succ d ih =>
    intro k i hi hj hk
    obtain ⟨k, rfl⟩ : ∃ j, k = j + 1 := ⟨k - 1, by omega⟩
    have hlt : i < s.size := by omega
    have hg : s.data.toList[i]? = some s[i] := by rw [List.getElem?_eq_getElem (by rw [size_data]; exact hlt)]; rfl
    simp only [withyref1_Unstuff.l0]
    rw [if_pos (by omega), if_pos (by omega), bt_nat s i hlt, wrap_next hlt (by omega)]
    by_cases h6 : s[i].toNat = 126
    · rw [if_pos (by omega)]
      have hc : s[i] = 126 := UInt8.toNat_inj.1 h6
      rw [unstuffL_flag _ (List.mem_of_getElem? (by rw [hg, hc]))]
    · rw [if_neg (by omega)]
      refine ih k (i + 1) (by omega) (fun j hj2 => ?_) (by omega)
      by_cases hji : j = i
      · subst hji
        rw [hg]
        intro e
        injection e with e
        exact h6 (by rw [e]; rfl)
      · exact hj j (by omega)
theorem runstuff_spec (s : ByteArray) (hs : s.size ≤ 140737488355000) : Ev (fun k => withyref1_Unstuff.f k s) (B (unstuffL s.data.toList).1, (unstuffL s.data.toList).2) :=
  Ev.of (fun k => withyref1_Unstuff.mono s k) (k := 2 * s.size + 2) (unstuff_l0 s hs s.size (2 * s.size + 2) 0 (by omega) (fun j h => absurd h (by omega)) (by omega))
theorem unsum_spec (l : List UInt8) (h : l.length ≤ 4611686018427387000) : Ev (fun k => withyref1_Unsum.f k (B l)) (B (checkL l).1, (checkL l).2) := by
  unfold withyref1_Unsum.f checkL
  rw [B_size]
  have hw := wrap_less l.length 2 (by omega) (by omega)
  have hw' : wrap64 ((l.length : Int) - 2) = (l.length : Int) - 2 := hw
  rw [hw']
  by_cases h2 : l.length < 2
  · refine Ev.ite_pos (by omega) ?_
    rw [if_pos h2]
    exact Ev.now _
  · have e : ((l.length : Int) - 2).toNat = l.length - 2 := by omega
    refine Ev.ite_neg (by omega) ?_
    rw [if_neg h2, e, B_ext, List.drop_zero, Nat.sub_zero]
    refine Ev.ite_pos (by omega) ?_
    refine Ev.ite_pos (by omega) ?_
    refine Ev.map1 (rsum_spec (l.take (l.length - 2)) (by simp; omega)) ?_
    simp only [B_toList]
    by_cases h3 : sumL (l.take (l.length - 2)) = l
    · rw [if_pos h3, if_pos h3]
    · rw [if_neg h3, if_neg h3]
theorem head_two (u : List UInt8) (h : 2 ≤ u.length) : ((u.drop 0).take (2 - 0) = [255, 3]) ↔ ((u.getD 0 0).toNat = 255 ∧ (u.getD 1 0).toNat = 3) := by
  match u, h with
  | a :: b :: r, _ =>
    show ([a, b] = [255, 3]) ↔ (a.toNat = 255 ∧ b.toNat = 3)
    constructor
    · intro e
      injection e with e1 e2
      injection e2 with e2 _
      rw [e1, e2]
      exact ⟨rfl, rfl⟩
    · intro ⟨e1, e2⟩
      have a' : a = 255 := UInt8.toNat_inj.1 e1
      have b' : b = 3 := UInt8.toNat_inj.1 e2
      rw [a', b']
theorem unframe_spec (s : ByteArray) (hs : s.size ≤ 140737488355000) : Ev (fun k => withyref1_Unframe.f k s) ((unframeL s.data.toList).1, B (unframeL s.data.toList).2.1, (unframeL s.data.toList).2.2) := by
  have hl := unstuffL_length s.data.toList
  rw [size_data] at hl
  unfold withyref1_Unframe.f unframeL
  refine Ev.bind (runstuff_spec s hs) ?_
  generalize unstuffL s.data.toList = t at hl
  obtain ⟨t, e⟩ := t
  simp only at hl ⊢
  have main : ∀ z : Bool, (z = true ↔ (e ≠ 0 ∨ t.length < 6)) → Ev (fun k => withyref1_Unframe.j0 k (B t) z) ((if e ≠ 0 ∨ t.length < 6 then ((0 : Int), ([] : List UInt8), (300 : Int)) else if (checkL t).2 ≠ 0 then (0, [], 301) else decodeL (checkL t).1).1, B (if e ≠ 0 ∨ t.length < 6 then ((0 : Int), ([] : List UInt8), (300 : Int)) else if (checkL t).2 ≠ 0 then (0, [], 301) else decodeL (checkL t).1).2.1, (if e ≠ 0 ∨ t.length < 6 then ((0 : Int), ([] : List UInt8), (300 : Int)) else if (checkL t).2 ≠ 0 then (0, [], 301) else decodeL (checkL t).1).2.2) := by
    intro z hz
    refine Ev.next (f := fun k => _) (fun k => by simp only [withyref1_Unframe.j0]; rfl) ?_
    cases z with
    | true =>
      refine Ev.ite_pos rfl ?_
      rw [if_pos (hz.1 rfl)]
      exact Ev.now _
    | false =>
      have hn : ¬ (e ≠ 0 ∨ t.length < 6) := fun h => absurd (hz.2 h) (by decide)
      refine Ev.ite_neg (by decide) ?_
      rw [if_neg hn]
      refine Ev.bind (unsum_spec t (by omega)) ?_
      by_cases hc : (checkL t).2 = 0
      · refine Ev.ite_pos hc ?_
        rw [if_neg (show ¬ (checkL t).2 ≠ 0 from fun h => h hc)]
        have hcl := check_length t hc
        generalize (checkL t).1 = u at hcl
        have hul : 4 ≤ u.length := by omega
        have hb2 : bt (B u) 2 = ((u.getD 2 0).toNat : Int) := B_bt u 2 (by omega)
        have hb3 : bt (B u) 3 = ((u.getD 3 0).toNat : Int) := B_bt u 3 (by omega)
        have hp : wrap64 (wrap64 (wrap64 ((u.getD 2 0).toNat : Int) * 256) + wrap64 ((u.getD 3 0).toNat : Int)) = protoL u := add_bytes _ _ (UInt8.toNat_lt _) (UInt8.toNat_lt _)
        refine Ev.ite_pos (show (0 : Nat) ≤ 2 by decide) ?_
        refine Ev.ite_pos (by rw [B_size]; omega) ?_
        rw [B_ext, B_toList]
        unfold decodeL
        by_cases hh : (u.getD 0 0).toNat = 255 ∧ (u.getD 1 0).toNat = 3
        · refine Ev.ite_pos ((head_two u (by omega)).2 hh) ?_
          rw [if_pos hh]
          refine Ev.ite_pos (by rw [B_size]; omega) ?_
          refine Ev.ite_pos (by rw [B_size]; omega) ?_
          rw [hb2, hb3, hp]
          refine Ev.pre (rproto_spec _) ?_
          cases protoB (protoL u)
          · refine Ev.ite_neg (by decide) ?_
            rw [if_neg (by decide)]
            exact Ev.now _
          · refine Ev.ite_pos rfl ?_
            rw [if_pos rfl]
            have hw : wrap64 (((B u).size : Int) - 4) = (u.length : Int) - 4 := by
              rw [B_size]
              exact wrap_less u.length 4 (by omega) (by omega)
            rw [hw]
            by_cases hl2 : 2048 < u.length - 4
            · refine Ev.ite_pos (by omega) ?_
              rw [if_pos hl2]
              exact Ev.now _
            · refine Ev.ite_neg (by omega) ?_
              rw [if_neg hl2]
              refine Ev.ite_pos (by rw [B_size]; omega) ?_
              have e2 : (List.drop 4 u).take (u.length - 4) = u.drop 4 := List.take_of_length_le (by simp)
              rw [B_size, B_ext, e2]
              exact Ev.now _
        · refine Ev.ite_neg (fun h => hh ((head_two u (by omega)).1 h)) ?_
          rw [if_neg hh]
          exact Ev.now _
      · refine Ev.ite_neg hc ?_
        rw [if_pos hc]
        exact Ev.now _
  by_cases he : e = 0
  · refine Ev.ite_pos he ?_
    refine main _ ?_
    rw [B_size, decide_eq_true_eq]
    omega
  · refine Ev.ite_neg he ?_
    exact main true ⟨fun _ => .inl he, fun _ => rfl⟩

theorem fcsr_any (s : ByteArray) (w : World) (hs : s.size ≤ 4611686018427387904) :
    Calls Tryz.prog 19 #[.string s] w fun e w' => e = .returned (.int .i64 ((fcsL s.data.toList : Nat) : Int)) ∧ Below w.heap.size w w' := by
  obtain ⟨k, h⟩ := (fcs_spec s hs).rounds
  refine (withyref1_Fcs.calls k s _ w h).mono ?_
  rintro e w' ⟨rfl, hd⟩
  exact ⟨rfl, hd.below⟩
theorem framer_any (p : Int) (d : ByteArray) (w : World) :
    Calls Tryz.prog 35 #[.agg #[.int .i64 p, .string d], .int .i64 0] w fun e w' => e = .returned (.tuple #[.string ⟨(frameL p d.data.toList 0).1.toArray⟩, .int .i64 (frameL p d.data.toList 0).2]) ∧ Below w.heap.size w w' := by
  obtain ⟨k, h⟩ := (rframe_spec p d.data.toList 0).rounds
  rw [B_list] at h
  exact withyref1_Frame.calls k p d 0 _ _ w h
theorem unframer_any (s : ByteArray) (w : World) (hs : s.size ≤ 140737488355000) :
    Calls Tryz.prog 36 #[.string s] w fun e w' => e = .returned (.tuple #[.agg #[.int .i64 (unframeL s.data.toList).1, .string ⟨(unframeL s.data.toList).2.1.toArray⟩], .int .i64 (unframeL s.data.toList).2.2]) ∧ Below w.heap.size w w' := by
  obtain ⟨k, h⟩ := (unframe_spec s hs).rounds
  exact withyref1_Unframe.calls k s _ _ _ w h
end Go.Proofs.YtlpibobpfafooaaGreatDoor.SpR
