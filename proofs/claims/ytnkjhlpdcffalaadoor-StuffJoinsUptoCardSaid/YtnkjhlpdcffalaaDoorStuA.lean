/-
  What the printed functions of stuffing and of sums come to, in lists of bytes.
-/
import Derived.Test.YtnkjhlpdcffalaaDoorPF
set_option linter.unusedVariables false
set_option linter.unusedSimpArgs false
namespace Go.Proofs.YtnkjhlpdcffalaaDoor.Sp
open Go.RowKit Go.Proofs.YtnkjhlpdcffalaaDoor.PF Go.Proofs.YtnkjhlpdcffalaaDoorW.PrintWords Go.Proofs.YtnkjhlpdcffalaaDoorW.PrintLast Go.Proofs.YtnkjhlpdcffalaaDoorW.PrintMore Go.Proofs.Wy

/-! ### byte strings and lists -/
abbrev B (l : List UInt8) : ByteArray := ⟨l.toArray⟩
def nb (l : List UInt8) : List Int := l.map fun b => (b.toNat : Int)
theorem B_size (l : List UInt8) : (B l).size = l.length := size_lit l
theorem B_data (l : List UInt8) : (B l).data.toList = l := rfl
theorem B_list (s : ByteArray) : B s.data.toList = s := by cases s; simp [B]
theorem B_app (a b : List UInt8) : B a ++ B b = B (a ++ b) := ByteArray.mk_append_mk a b
theorem nb_str (l : List UInt8) : strOfNums (nb l) = B l := Go.Lib.Lz.strOfNums_map l
theorem nb_app (a b : List UInt8) : nb (a ++ b) = nb a ++ nb b := by simp [nb]
theorem nb_len (l : List UInt8) : (nb l).length = l.length := by simp [nb]
theorem size_data (s : ByteArray) : s.data.toList.length = s.size := by simp
theorem bt_nat (s : ByteArray) (i : Nat) (h : i < s.size) : bt s (i : Int) = (s[i].toNat : Int) := by
  unfold bt
  rw [dif_pos (by simpa using h)]
  rfl
theorem take_snoc (s : ByteArray) (k : Nat) (h : k < s.size) : s.data.toList.take (k + 1) = s.data.toList.take k ++ [s[k]] := by
  rw [List.take_succ_eq_append_getElem (by simpa using h)]; rfl
theorem take_all (s : ByteArray) (k : Nat) (h : s.size ≤ k) : s.data.toList.take k = s.data.toList := List.take_of_length_le (by simpa using h)
theorem wrap_next {i n : Nat} (h : i < n) (hn : n ≤ 4611686018427387904) : wrap64 ((i : Int) + 1) = ((i + 1 : Nat) : Int) := by
  unfold wrap64
  omega
theorem wrap_byte (x : Nat) (h : x < 256) : wrap64 (x : Int) = (x : Int) := by unfold wrap64; omega

/-! ### stuffing -/
theorem shr_u64 (m : Int) (c : Nat) (hc : c < 32) : Go.bits .and .u64 (shr .u64 (IntKind.u64.wrap m) (c : Int)) 1 = (m / 2 ^ c) % 2 := by
  have h1 : IntKind.u64.wrap m = m % 18446744073709551616 := by simp [IntKind.wrap, IntKind.bits, IntKind.signed]
  have hw : ∀ n : Int, 0 ≤ n → n < 2 → IntKind.u64.wrap n = n := fun n h0 h2 => by
    have h3 : IntKind.u64.wrap n = n % 18446744073709551616 := by simp [IntKind.wrap, IntKind.bits, IntKind.signed]
    rw [h3]; omega
  rw [Go.Proofs.Wy.and_one .u64 (by decide) hw]
  unfold shr
  rw [h1]
  have hm : min (c : Int).toNat IntKind.u64.bits = c := by
    have : IntKind.u64.bits = 64 := rfl
    rw [this]; omega
  rw [hm]
  have hp : (18446744073709551616 : Int) = 2 ^ c * (2 * 2 ^ (63 - c)) := by
    have e : (2 : Int) ^ c * (2 * 2 ^ (63 - c)) = 2 ^ (c + (1 + (63 - c))) := by rw [Int.pow_add, Int.pow_add]; rfl
    rw [e, show c + (1 + (63 - c)) = 64 by omega]
    decide
  have hpos : (0 : Int) < 2 ^ c := Int.pow_pos (by decide)
  rw [hp]
  generalize (2 : Int) ^ (63 - c) = r
  generalize (2 : Int) ^ c = q at hpos
  have e : m % (q * (2 * r)) = m + q * (2 * (-(r * (m / (q * (2 * r)))))) := by
    rw [Int.emod_def]
    generalize m / (q * (2 * r)) = z
    have : q * (2 * r) * z = -(q * (2 * (-(r * z)))) := by
      simp only [Int.mul_neg, Int.neg_neg, Int.mul_assoc]
    omega
  rw [e, Int.add_mul_ediv_left _ _ (by omega)]
  omega

theorem stuff_l0 (s : ByteArray) (m : Int) (hs : s.size ≤ 70368744177000) (d : Nat) : ∀ (k i : Nat) (acc : List UInt8), i + d = s.size → d < k → acc = stuffL m (s.data.toList.take i) →
    withyref1_Stuff.l0 k s m (nb acc) (i : Int) = some (B (stuffL m s.data.toList)) := by
  induction d with
  | zero =>
    intro k i acc hi hk ha
    obtain ⟨k, rfl⟩ : ∃ j, k = j + 1 := ⟨k - 1, by omega⟩
    simp only [withyref1_Stuff.l0]
    rw [if_neg (by omega), ha, nb_str, take_all s i (by omega)]
  | succ d ih =>
    intro k i acc hi hk ha
    obtain ⟨k, rfl⟩ : ∃ j, k = j + 1 := ⟨k - 1, by omega⟩
    have hlt : i < s.size := by omega
    have hb := bt_nat s i hlt
    have hc := s[i].toNat_lt
    have hal : acc.length ≤ 2 * i := by
      rw [ha]
      have := stuffL_length m (s.data.toList.take i)
      have : (s.data.toList.take i).length ≤ i := List.length_take_le _ _
      omega
    have hstep : stuffL m (s.data.toList.take (i + 1)) = acc ++ stuffB m s[i] := by rw [take_snoc s i hlt, stuffL_snoc, ha]
    have hx : Go.bits .xor .u8 (s[i].toNat : Int) 32 = ((s[i] ^^^ 32).toNat : Int) := xor_byte s[i] 32
    have hw : wrap64 ((i : Int) + 1) = ((i + 1 : Nat) : Int) := wrap_next hlt (by omega)
    have two : needs m s[i] = true → withyref1_Stuff.l0 k s m (nb acc ++ [125, ((s[i] ^^^ 32).toNat : Int)]) ((i + 1 : Nat) : Int) = some (B (stuffL m s.data.toList)) := by
      intro hn
      have e : nb acc ++ [125, ((s[i] ^^^ 32).toNat : Int)] = nb (acc ++ [125, s[i] ^^^ 32]) := by rw [nb_app]; rfl
      rw [e]
      refine ih k (i + 1) _ (by omega) (by omega) ?_
      rw [hstep]
      unfold stuffB
      rw [if_pos hn]
    have one : needs m s[i] = false → withyref1_Stuff.l0 k s m (nb acc ++ [(s[i].toNat : Int)]) ((i + 1 : Nat) : Int) = some (B (stuffL m s.data.toList)) := by
      intro hn
      have e : nb acc ++ [(s[i].toNat : Int)] = nb (acc ++ [s[i]]) := by rw [nb_app]; rfl
      rw [e]
      refine ih k (i + 1) _ (by omega) (by omega) ?_
      rw [hstep]
      unfold stuffB
      rw [if_neg (by rw [hn]; decide)]
    have l1 : (nb acc).length < 140737488355328 := by rw [nb_len]; omega
    have l2 : (nb acc).length + ([125, ((s[i] ^^^ 32).toNat : Int)] : List Int).length < 140737488355328 := by rw [nb_len]; simp; omega
    simp only [withyref1_Stuff.l0]
    rw [if_pos (by omega), if_pos (by omega), hb, hw, hx]
    by_cases h1 : s[i].toNat = 125
    · rw [if_pos (by omega)]
      simp only [Option.bind_some]
      rw [if_pos l2]
      exact two (by simp [needs, h1])
    · rw [if_neg (by omega)]
      by_cases h2 : s[i].toNat = 126
      · rw [if_pos (by omega)]
        simp only [Option.bind_some]
        rw [if_pos l2]
        exact two (by simp [needs, h2])
      · rw [if_neg (by omega)]
        by_cases h3 : s[i].toNat < 32
        · rw [if_pos (by omega), if_pos (by omega), shr_u64 m _ h3]
          by_cases h4 : (m / 2 ^ s[i].toNat) % 2 = 1
          · rw [if_pos h4]
            simp only [Option.bind_some]
            rw [if_pos l2]
            exact two (by simp [needs, h3, h4])
          · rw [if_neg h4, if_pos l1]
            exact one (by simp [needs, h1, h2, h4])
        · rw [if_neg (by omega), if_pos l1]
          exact one (by simp [needs, h1, h2, h3])
theorem stuff_spec (s : ByteArray) (m : Int) (hs : s.size ≤ 70368744177000) : Ev (fun k => withyref1_Stuff.f k s m) (B (stuffL m s.data.toList)) :=
  Ev.of (fun k => withyref1_Stuff.mono s m k) (k := s.size + 1) (stuff_l0 s m hs s.size (s.size + 1) 0 [] (by omega) (by omega) (by simp [stuffL]))
theorem put_spec (s : ByteArray) (m : Int) (hs : s.size ≤ 70368744177000) : stuff_Put.f s m = some (B (stuffL m s.data.toList)) := by
  unfold stuff_Put.f
  rw [if_pos hs]

theorem B_ext (l : List UInt8) (a b : Nat) : (B l).extract a b = B ((l.drop a).take (b - a)) := ByteArray.extract_mk l a b
theorem B_toList (l : List UInt8) : (B l).toList = l := ByteArray.toList_mk l
theorem B_bt (l : List UInt8) (i : Nat) (h : i < l.length) : bt (B l) (i : Int) = ((l.getD i 0).toNat : Int) := by
  rw [bt_nat (B l) i (by rw [B_size]; exact h)]
  have : (B l)[i]'(by rw [B_size]; exact h) = l.getD i 0 := by
    rw [List.getD_eq_getElem?_getD, List.getElem?_eq_getElem h]
    rfl
  rw [this]
theorem Ev.map1 {α β : Type} {g : Nat → Option α} {f : α → Option β} {a : α} {r : β} (h : Ev g a) (k : f a = some r) : Ev (fun n => (g n).bind f) r := Ev.bind h ⟨0, fun _ _ => k⟩
theorem Ev.pre {α β : Type} {g : Option α} {f : Nat → α → Option β} {a : α} {r : β} (h : g = some a) (k : Ev (fun n => f n a) r) : Ev (fun n => g.bind (f n)) r := by
  rw [h]; exact k
theorem Ev.next {α : Type} {g f : Nat → Option α} {r : α} (h : ∀ k, g (k + 1) = f k) (k : Ev f r) : Ev g r := Ev.step h k
theorem Ev.ite_pos {α : Type} {c : Prop} [Decidable c] {g f : Nat → Option α} {r : α} (h : c) (k : Ev g r) : Ev (fun n => if c then g n else f n) r := Ev.congr (fun n => if_pos h) k
theorem Ev.ite_neg {α : Type} {c : Prop} [Decidable c] {g f : Nat → Option α} {r : α} (h : ¬ c) (k : Ev f r) : Ev (fun n => if c then g n else f n) r := Ev.congr (fun n => if_neg h) k

/-! ### undoing marks -/
theorem drop_at (s : ByteArray) (k : Nat) (h : k < s.size) : s.data.toList.drop k = s[k] :: s.data.toList.drop (k + 1) := by
  rw [List.drop_eq_getElem_cons (by simpa using h)]; rfl
theorem unstuff_l1 (s : ByteArray) (hs : s.size ≤ 140737488355000) (hm : (126 : UInt8) ∉ s.data.toList) (d : Nat) : ∀ (k i : Nat) (acc : List UInt8), i ≤ s.size → s.size - i ≤ d → d < k → acc.length ≤ i →
    (unstuffGo s.data.toList = (unstuffGo (s.data.toList.drop i)).map fun t => acc ++ t) →
    withyref1_Unstuff.l1 k s (nb acc) (i : Int) = some (B (unstuffL s.data.toList).1, (unstuffL s.data.toList).2) := by
  have ho := unstuffL_of s.data.toList hm
  induction d with
  | zero =>
    intro k i acc h1 hi hk ha hu
    obtain ⟨k, rfl⟩ : ∃ j, k = j + 1 := ⟨k - 1, by omega⟩
    simp only [withyref1_Unstuff.l1]
    rw [if_neg (by omega), nb_str]
    rw [List.drop_of_length_le (by rw [size_data]; omega)] at hu
    have hu2 : unstuffGo s.data.toList = some acc := by rw [hu]; simp [unstuffGo]
    rw [ho.2 _ hu2]
  | succ d ih =>
    intro k i acc h1 hi hk ha hu
    obtain ⟨k, rfl⟩ : ∃ j, k = j + 1 := ⟨k - 1, by omega⟩
    by_cases hlt : i < s.size
    · have hb := bt_nat s i hlt
      have hw : wrap64 ((i : Int) + 1) = ((i + 1 : Nat) : Int) := wrap_next hlt (by omega)
      simp only [withyref1_Unstuff.l1]
      rw [if_pos (by omega), if_pos (by omega), hb, hw]
      rw [drop_at s i hlt] at hu
      by_cases h5 : s[i].toNat = 125
      · rw [if_pos (by omega)]
        by_cases he : i + 1 = s.size
        · rw [if_pos (by omega)]
          rw [List.drop_of_length_le (by rw [size_data]; omega), unstuffGo_end _ h5] at hu
          rw [ho.1 hu]
        · have hlt2 : i + 1 < s.size := by omega
          rw [if_neg (by omega), if_pos (by omega), if_pos (by omega), if_pos (by rw [nb_len]; omega), bt_nat s (i + 1) hlt2]
          have hx : Go.bits .xor .u8 (s[i + 1].toNat : Int) 32 = ((s[i + 1] ^^^ 32).toNat : Int) := xor_byte s[i + 1] 32
          have hw2 : wrap64 (((i + 1 : Nat) : Int) + 1) = ((i + 1 + 1 : Nat) : Int) := wrap_next hlt2 (by omega)
          rw [hx, hw2]
          have e : nb acc ++ [((s[i + 1] ^^^ 32).toNat : Int)] = nb (acc ++ [s[i + 1] ^^^ 32]) := by rw [nb_app]; rfl
          rw [e]
          clear e hx hw2 hw hb
          refine ih k (i + 1 + 1) _ (by omega) (by omega) (by omega) (by simp; omega) ?_
          rw [drop_at s (i + 1) hlt2, unstuffGo_mark _ _ _ h5, Option.map_map] at hu
          rw [hu]
          congr 1
          funext t
          simp
      · rw [if_neg (by omega), if_pos (by rw [nb_len]; omega)]
        have e : nb acc ++ [(s[i].toNat : Int)] = nb (acc ++ [s[i]]) := by rw [nb_app]; rfl
        rw [e]
        refine ih k (i + 1) _ (by omega) (by omega) (by omega) (by simp; omega) ?_
        rw [unstuffGo_plain _ _ h5, Option.map_map] at hu
        rw [hu]
        congr 1
        funext t
        simp
    · simp only [withyref1_Unstuff.l1]
      rw [if_neg (by omega), nb_str]
      rw [List.drop_of_length_le (by rw [size_data]; omega)] at hu
      have hu2 : unstuffGo s.data.toList = some acc := by rw [hu]; simp [unstuffGo]
      rw [ho.2 _ hu2]
theorem unstuff_l0 (s : ByteArray) (hs : s.size ≤ 140737488355000) (d : Nat) : ∀ (k i : Nat), i + d = s.size → (∀ j, j < i → s.data.toList[j]? ≠ some 126) → d + s.size + 1 < k →
    withyref1_Unstuff.l0 k s (i : Int) = some (B (unstuffL s.data.toList).1, (unstuffL s.data.toList).2) := by
  induction d with
  | zero =>
    intro k i hi hj hk
    obtain ⟨k, rfl⟩ : ∃ j, k = j + 1 := ⟨k - 1, by omega⟩
    simp only [withyref1_Unstuff.l0]
    rw [if_neg (by omega)]
    have hm : (126 : UInt8) ∉ s.data.toList := by
      intro h
      obtain ⟨j, hj1, hj2⟩ := List.mem_iff_getElem.1 h
      have hjs : j < s.size := by rw [size_data] at hj1; exact hj1
      exact hj j (by omega) (by rw [List.getElem?_eq_getElem hj1, hj2])
    exact unstuff_l1 s hs hm s.size k 0 [] (by omega) (by omega) (by omega) (by simp) (by simp)
  | succ d ih =>
    intro k i hi hj hk
    obtain ⟨k, rfl⟩ : ∃ j, k = j + 1 := ⟨k - 1, by omega⟩
    have hlt : i < s.size := by omega
    have hg : s.data.toList[i]? = some s[i] := by rw [List.getElem?_eq_getElem (by rw [size_data]; exact hlt)]; rfl
    simp only [withyref1_Unstuff.l0]
    rw [if_pos (by omega), if_pos (by omega), bt_nat s i hlt, wrap_next hlt (by omega)]
    by_cases h6 : s[i].toNat = 126
    · rw [if_pos (by omega)]
      have hc : s[i] = 126 := UInt8.toNat_inj.1 h6
      rw [unstuffL_flag _ (List.mem_of_getElem? (by rw [hg, hc]))]
    · rw [if_neg (by omega)]
      refine ih k (i + 1) (by omega) (fun j hj2 => ?_) (by omega)
      by_cases hji : j = i
      · subst hji
        rw [hg]
        intro e
        injection e with e
        exact h6 (by rw [e]; rfl)
      · exact hj j (by omega)
theorem runstuff_spec (s : ByteArray) (hs : s.size ≤ 140737488355000) : Ev (fun k => withyref1_Unstuff.f k s) (B (unstuffL s.data.toList).1, (unstuffL s.data.toList).2) :=
  Ev.of (fun k => withyref1_Unstuff.mono s k) (k := 2 * s.size + 2) (unstuff_l0 s hs s.size (2 * s.size + 2) 0 (by omega) (fun j h => absurd h (by omega)) (by omega))
theorem get_spec (s : ByteArray) (hs : s.size ≤ 140737488355000) : stuff_Get.f s = some (B (unstuffL s.data.toList).1, (unstuffL s.data.toList).2) := by
  unfold stuff_Get.f
  rw [if_pos hs]

end Go.Proofs.YtnkjhlpdcffalaaDoor.Sp
