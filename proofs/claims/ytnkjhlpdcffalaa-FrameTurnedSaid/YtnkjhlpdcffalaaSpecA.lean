/-
  What the printed functions of stuffing and of sums come to, in lists of bytes.
-/
import Derived.Test.YtnkjhlpdcffalaaPF
set_option linter.unusedVariables false
set_option linter.unusedSimpArgs false
namespace Go.Proofs.Ytnkjhlpdcffalaa.Sp
open Go.RowKit Go.Proofs.Ytnkjhlpdcffalaa.PF Go.Proofs.YtnkjhlpdcffalaaW.PrintWords Go.Proofs.YtnkjhlpdcffalaaW.PrintLast Go.Proofs.YtnkjhlpdcffalaaW.PrintMore Go.Proofs.Wy

/-! ### byte strings and lists -/
abbrev B (l : List UInt8) : ByteArray := ⟨l.toArray⟩
def nb (l : List UInt8) : List Int := l.map fun b => (b.toNat : Int)
theorem B_size (l : List UInt8) : (B l).size = l.length := size_lit l
theorem B_data (l : List UInt8) : (B l).data.toList = l := rfl
theorem B_list (s : ByteArray) : B s.data.toList = s := by cases s; simp [B]
theorem B_app (a b : List UInt8) : B a ++ B b = B (a ++ b) := ByteArray.mk_append_mk a b
theorem nb_str (l : List UInt8) : strOfNums (nb l) = B l := Go.Lib.Lz.strOfNums_map l
theorem nb_app (a b : List UInt8) : nb (a ++ b) = nb a ++ nb b := by simp [nb]
theorem nb_len (l : List UInt8) : (nb l).length = l.length := by simp [nb]
theorem size_data (s : ByteArray) : s.data.toList.length = s.size := by simp
theorem bt_nat (s : ByteArray) (i : Nat) (h : i < s.size) : bt s (i : Int) = (s[i].toNat : Int) := by
  unfold bt
  rw [dif_pos (by simpa using h)]
  rfl
theorem take_snoc (s : ByteArray) (k : Nat) (h : k < s.size) : s.data.toList.take (k + 1) = s.data.toList.take k ++ [s[k]] := by
  rw [List.take_succ_eq_append_getElem (by simpa using h)]; rfl
theorem take_all (s : ByteArray) (k : Nat) (h : s.size ≤ k) : s.data.toList.take k = s.data.toList := List.take_of_length_le (by simpa using h)
theorem wrap_next {i n : Nat} (h : i < n) (hn : n ≤ 4611686018427387904) : wrap64 ((i : Int) + 1) = ((i + 1 : Nat) : Int) := by
  unfold wrap64
  omega
theorem wrap_byte (x : Nat) (h : x < 256) : wrap64 (x : Int) = (x : Int) := by unfold wrap64; omega

/-! ### stuffing -/
theorem shr_u64 (m : Int) (c : Nat) (hc : c < 32) : Go.bits .and .u64 (shr .u64 (IntKind.u64.wrap m) (c : Int)) 1 = (m / 2 ^ c) % 2 := by
  have h1 : IntKind.u64.wrap m = m % 18446744073709551616 := by simp [IntKind.wrap, IntKind.bits, IntKind.signed]
  have hw : ∀ n : Int, 0 ≤ n → n < 2 → IntKind.u64.wrap n = n := fun n h0 h2 => by
    have h3 : IntKind.u64.wrap n = n % 18446744073709551616 := by simp [IntKind.wrap, IntKind.bits, IntKind.signed]
    rw [h3]; omega
  rw [Go.Proofs.Wy.and_one .u64 (by decide) hw]
  unfold shr
  rw [h1]
  have hm : min (c : Int).toNat IntKind.u64.bits = c := by
    have : IntKind.u64.bits = 64 := rfl
    rw [this]; omega
  rw [hm]
  have hp : (18446744073709551616 : Int) = 2 ^ c * (2 * 2 ^ (63 - c)) := by
    have e : (2 : Int) ^ c * (2 * 2 ^ (63 - c)) = 2 ^ (c + (1 + (63 - c))) := by rw [Int.pow_add, Int.pow_add]; rfl
    rw [e, show c + (1 + (63 - c)) = 64 by omega]
    decide
  have hpos : (0 : Int) < 2 ^ c := Int.pow_pos (by decide)
  rw [hp]
  generalize (2 : Int) ^ (63 - c) = r
  generalize (2 : Int) ^ c = q at hpos
  have e : m % (q * (2 * r)) = m + q * (2 * (-(r * (m / (q * (2 * r)))))) := by
    rw [Int.emod_def]
    generalize m / (q * (2 * r)) = z
    have : q * (2 * r) * z = -(q * (2 * (-(r * z)))) := by
      simp only [Int.mul_neg, Int.neg_neg, Int.mul_assoc]
    omega
  rw [e, Int.add_mul_ediv_left _ _ (by omega)]
  omega

theorem stuff_l0 (s : ByteArray) (m : Int) (hs : s.size ≤ 70368744177000) (d : Nat) : ∀ (k i : Nat) (acc : List UInt8), i + d = s.size → d < k → acc = stuffL m (s.data.toList.take i) →
    withyref1_Stuff.l0 k s m (nb acc) (i : Int) = some (B (stuffL m s.data.toList)) := by
  induction d with
  | zero =>
    intro k i acc hi hk ha
    obtain ⟨k, rfl⟩ : ∃ j, k = j + 1 := ⟨k - 1, by omega⟩
    simp only [withyref1_Stuff.l0]
    rw [if_neg (by omega), ha, nb_str, take_all s i (by omega)]
  | succ d ih =>
    intro k i acc hi hk ha
    obtain ⟨k, rfl⟩ : ∃ j, k = j + 1 := ⟨k - 1, by omega⟩
    have hlt : i < s.size := by omega
    have hb := bt_nat s i hlt
    have hc := s[i].toNat_lt
    have hal : acc.length ≤ 2 * i := by
      rw [ha]
      have := stuffL_length m (s.data.toList.take i)
      have : (s.data.toList.take i).length ≤ i := List.length_take_le _ _
      omega
    have hstep : stuffL m (s.data.toList.take (i + 1)) = acc ++ stuffB m s[i] := by rw [take_snoc s i hlt, stuffL_snoc, ha]
    have hx : Go.bits .xor .u8 (s[i].toNat : Int) 32 = ((s[i] ^^^ 32).toNat : Int) := xor_byte s[i] 32
    have hw : wrap64 ((i : Int) + 1) = ((i + 1 : Nat) : Int) := wrap_next hlt (by omega)
    have two : needs m s[i] = true → withyref1_Stuff.l0 k s m (nb acc ++ [125, ((s[i] ^^^ 32).toNat : Int)]) ((i + 1 : Nat) : Int) = some (B (stuffL m s.data.toList)) := by
      intro hn
      have e : nb acc ++ [125, ((s[i] ^^^ 32).toNat : Int)] = nb (acc ++ [125, s[i] ^^^ 32]) := by rw [nb_app]; rfl
      rw [e]
      refine ih k (i + 1) _ (by omega) (by omega) ?_
      rw [hstep]
      unfold stuffB
      rw [if_pos hn]
    have one : needs m s[i] = false → withyref1_Stuff.l0 k s m (nb acc ++ [(s[i].toNat : Int)]) ((i + 1 : Nat) : Int) = some (B (stuffL m s.data.toList)) := by
      intro hn
      have e : nb acc ++ [(s[i].toNat : Int)] = nb (acc ++ [s[i]]) := by rw [nb_app]; rfl
      rw [e]
      refine ih k (i + 1) _ (by omega) (by omega) ?_
      rw [hstep]
      unfold stuffB
      rw [if_neg (by rw [hn]; decide)]
    have l1 : (nb acc).length < 140737488355328 := by rw [nb_len]; omega
    have l2 : (nb acc).length + ([125, ((s[i] ^^^ 32).toNat : Int)] : List Int).length < 140737488355328 := by rw [nb_len]; simp; omega
    simp only [withyref1_Stuff.l0]
    rw [if_pos (by omega), if_pos (by omega), hb, hw, hx]
    by_cases h1 : s[i].toNat = 125
    · rw [if_pos (by omega)]
      simp only [Option.bind_some]
      rw [if_pos l2]
      exact two (by simp [needs, h1])
    · rw [if_neg (by omega)]
      by_cases h2 : s[i].toNat = 126
      · rw [if_pos (by omega)]
        simp only [Option.bind_some]
        rw [if_pos l2]
        exact two (by simp [needs, h2])
      · rw [if_neg (by omega)]
        by_cases h3 : s[i].toNat < 32
        · rw [if_pos (by omega), if_pos (by omega), shr_u64 m _ h3]
          by_cases h4 : (m / 2 ^ s[i].toNat) % 2 = 1
          · rw [if_pos h4]
            simp only [Option.bind_some]
            rw [if_pos l2]
            exact two (by simp [needs, h3, h4])
          · rw [if_neg h4, if_pos l1]
            exact one (by simp [needs, h1, h2, h4])
        · rw [if_neg (by omega), if_pos l1]
          exact one (by simp [needs, h1, h2, h3])
theorem stuff_spec (s : ByteArray) (m : Int) (hs : s.size ≤ 70368744177000) : Ev (fun k => withyref1_Stuff.f k s m) (B (stuffL m s.data.toList)) :=
  Ev.of (fun k => withyref1_Stuff.mono s m k) (k := s.size + 1) (stuff_l0 s m hs s.size (s.size + 1) 0 [] (by omega) (by omega) (by simp [stuffL]))
theorem put_spec (s : ByteArray) (m : Int) (hs : s.size ≤ 70368744177000) : stuff_Put.f s m = some (B (stuffL m s.data.toList)) := by
  unfold stuff_Put.f
  rw [if_pos hs]

/-! ### the sum -/
theorem fcs_l1 (s : ByteArray) (c : Nat) (d : Nat) : ∀ (k i x : Nat), i + d = 8 → x < 65536 → d < k → withyref1_Fcs.l1 k s (x : Int) (c : Int) (i : Int) = withyref1_Fcs.l0 (k - 1 - d) s ((stepN d x : Nat) : Int) (wrap64 ((c : Int) + 1)) := by
  induction d with
  | zero =>
    intro k i x hi hx hk
    obtain ⟨k, rfl⟩ : ∃ j, k = j + 1 := ⟨k - 1, by omega⟩
    simp only [withyref1_Fcs.l1]
    rw [if_neg (by omega)]
    rfl
  | succ d ih =>
    intro k i x hi hx hk
    obtain ⟨k, rfl⟩ : ∃ j, k = j + 1 := ⟨k - 1, by omega⟩
    have hs1 := step1_lt hx
    have hw : wrap64 ((i : Int) + 1) = ((i + 1 : Nat) : Int) := wrap_next (n := 8) (by omega) (by omega)
    have hr := ih k (i + 1) (step1 x) (by omega) hs1 (by omega)
    simp only [withyref1_Fcs.l1]
    rw [if_pos (by omega), and_one_i64, hw]
    have e : k + 1 - 1 - (d + 1) = k - 1 - d := by omega
    rw [e]
    have e2 : stepN (d + 1) x = stepN d (step1 x) := rfl
    rw [e2, ← hr]
    by_cases h2 : x % 2 = 1
    · rw [if_pos (by omega)]
      have ex : Go.bits .xor .i64 ((x : Int) / 2) 33800 = ((step1 x : Nat) : Int) := by
        unfold step1
        rw [if_pos h2]
        exact xor_i64 (x / 2) 33800 (by omega) (by omega)
      rw [ex]
    · rw [if_neg (by omega)]
      have ex : (x : Int) / 2 = ((step1 x : Nat) : Int) := by
        unfold step1
        rw [if_neg h2]
        omega
      rw [ex]
theorem fcs_l0 (s : ByteArray) (hs : s.size ≤ 4611686018427387904) (d : Nat) : ∀ (k i x : Nat), i + d = s.size → x = crcL 65535 (s.data.toList.take i) → 10 * d < k → withyref1_Fcs.l0 k s (x : Int) (i : Int) = some ((fcsL s.data.toList : Nat) : Int) := by
  induction d with
  | zero =>
    intro k i x hi hx hk
    obtain ⟨k, rfl⟩ : ∃ j, k = j + 1 := ⟨k - 1, by omega⟩
    have hlt : x < 65536 := by rw [hx]; exact crcL_lt _ (by decide)
    simp only [withyref1_Fcs.l0]
    rw [if_neg (by omega)]
    have e := xor_i64 x 65535 (by omega) (by omega)
    have e2 : Go.bits .xor .i64 (x : Int) 65535 = ((x ^^^ 65535 : Nat) : Int) := e
    rw [e2, hx, take_all s i (by omega)]
    rfl
  | succ d ih =>
    intro k i x hi hx hk
    obtain ⟨k, rfl⟩ : ∃ j, k = j + 1 := ⟨k - 1, by omega⟩
    have hlt : i < s.size := by omega
    have hxl : x < 65536 := by rw [hx]; exact crcL_lt _ (by decide)
    have hc := s[i].toNat_lt
    have hxb : x ^^^ s[i].toNat < 65536 := xor_lt16 hxl (by omega)
    simp only [withyref1_Fcs.l0]
    rw [if_pos (by omega), if_pos (by omega), bt_nat s i hlt, wrap_byte _ hc, xor_i64 _ _ (by omega) (by omega)]
    have h8 := fcs_l1 s i 8 k 0 (x ^^^ s[i].toNat) (by omega) hxb (by omega)
    rw [wrap_next hlt hs] at h8
    refine Eq.trans h8 ?_
    refine ih (k - 1 - 8) (i + 1) _ (by omega) ?_ (by omega)
    rw [take_snoc s i hlt, crcL_snoc, ← hx]
    rfl
theorem fcs_spec (s : ByteArray) (hs : s.size ≤ 4611686018427387904) : Ev (fun k => withyref1_Fcs.f k s) ((fcsL s.data.toList : Nat) : Int) :=
  Ev.of (fun k => withyref1_Fcs.mono s k) (k := 10 * s.size + 1) (fcs_l0 s hs s.size (10 * s.size + 1) 0 65535 (by omega) (by simp [crcL]) (by omega))
end Go.Proofs.Ytnkjhlpdcffalaa.Sp
