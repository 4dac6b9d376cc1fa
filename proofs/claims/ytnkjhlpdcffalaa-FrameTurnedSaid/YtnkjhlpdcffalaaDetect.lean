/-
  Plain lemmas, without a program: a byte of a frame that was changed, where no mark comes or goes, is found by the sum.
-/
import Derived.Test.YtnkjhlpdcffalaaFrame
namespace Go.Proofs.Wy
open Go

theorem xor_rc {a b c : Nat} (h : a ^^^ c = b ^^^ c) : a = b := by
  have h2 := congrArg (fun z => z ^^^ c) h
  simpa [Nat.xor_assoc] using h2
theorem xor_lc {a b c : Nat} (h : c ^^^ a = c ^^^ b) : a = b := xor_rc (by rw [Nat.xor_comm a c, Nat.xor_comm b c]; exact h)
theorem step1_inj {x y : Nat} (hx : x < 65536) (hy : y < 65536) (h : step1 x = step1 y) : x = y := by
  have big : ∀ z : Nat, z < 32768 → z ^^^ 33800 ≥ 32768 := by
    intro z hz
    have h1 : (z ^^^ 33800).testBit 15 = true := by
      rw [Nat.testBit_xor, Nat.testBit_lt_two_pow (show z < 2 ^ 15 by omega)]
      decide
    exact Nat.ge_two_pow_of_testBit h1
  unfold step1 at h
  split at h <;> split at h
  · have e : x / 2 = y / 2 := xor_rc h
    omega
  · have := big (x / 2) (by omega)
    omega
  · have := big (y / 2) (by omega)
    omega
  · omega
theorem stepN_inj (n : Nat) : ∀ {x y : Nat}, x < 65536 → y < 65536 → stepN n x = stepN n y → x = y := by
  induction n with
  | zero => intro x y _ _ h; exact h
  | succ n ih => intro x y hx hy h; exact step1_inj hx hy (ih (step1_lt hx) (step1_lt hy) h)
theorem crcB_left {x y : Nat} (b : UInt8) (hx : x < 65536) (hy : y < 65536) (h : crcB x b = crcB y b) : x = y := by
  have hb := b.toNat_lt
  exact xor_rc (stepN_inj 8 (xor_lt16 hx (by omega)) (xor_lt16 hy (by omega)) h)
theorem crcB_right {x : Nat} {b c : UInt8} (hx : x < 65536) (h : crcB x b = crcB x c) : b = c := by
  have hb := b.toNat_lt
  have hc := c.toNat_lt
  exact UInt8.toNat_inj.1 (xor_lc (stepN_inj 8 (xor_lt16 hx (by omega)) (xor_lt16 hx (by omega)) h))
theorem crcL_left (l : List UInt8) : ∀ {x y : Nat}, x < 65536 → y < 65536 → crcL x l = crcL y l → x = y := by
  induction l with
  | nil => intro x y _ _ h; exact h
  | cons c r ih => intro x y hx hy h; exact crcB_left c hx hy (ih (crcB_lt c hx) (crcB_lt c hy) h)
theorem crc_set (l : List UInt8) (j : Nat) (b : UInt8) (hj : j < l.length) (hb : l[j] ≠ b) : crcL 65535 (l.set j b) ≠ crcL 65535 l := by
  intro h
  have e1 : l = l.take j ++ l[j] :: l.drop (j + 1) := by simp
  have e2 : l.set j b = l.take j ++ b :: l.drop (j + 1) := by rw [List.set_eq_take_append_cons_drop, if_pos hj]
  have hs : crcL 65535 (l.take j) < 65536 := crcL_lt _ (by decide)
  rw [e2] at h
  conv at h => rhs; rw [e1]
  rw [crcL_append, crcL_append] at h
  have h2 : crcL (crcB (crcL 65535 (l.take j)) b) (l.drop (j + 1)) = crcL (crcB (crcL 65535 (l.take j)) l[j]) (l.drop (j + 1)) := h
  have h3 := crcL_left _ (crcB_lt _ hs) (crcB_lt _ hs) h2
  exact hb (crcB_right hs h3).symm
theorem sumB_inj {a b : List UInt8} (h : sumB a = sumB b) : fcsL a = fcsL b := by
  have ha := fcsL_lt a
  have hb := fcsL_lt b
  unfold sumB at h
  injection h with h1 h2
  injection h2 with h2 _
  have t1 := congrArg UInt8.toNat h1
  have t2 := congrArg UInt8.toNat h2
  rw [byte_of _ (by omega), byte_of _ (by omega)] at t1 t2
  omega
/-- A text with its sum of which one byte was changed is refused. -/
theorem check_turned (u : List UInt8) (j : Nat) (b : UInt8) (hj : j < (sumL u).length) (hb : (sumL u)[j] ≠ b) : (checkL ((sumL u).set j b)).2 = 101 := by
  have hl : ((sumL u).set j b).length - 2 = u.length := by rw [List.length_set, sumL_length]; omega
  have hne : sumL (((sumL u).set j b).take u.length) ≠ (sumL u).set j b := by
    by_cases h : j < u.length
    · have e : (sumL u).set j b = u.set j b ++ sumB u := by unfold sumL; rw [List.set_append_left _ _ h]
      have et : ((sumL u).set j b).take u.length = u.set j b := by rw [e, List.take_left' (by simp)]
      rw [et, e]
      intro h2
      have h3 : sumB (u.set j b) = sumB u := List.append_cancel_left h2
      have h4 := sumB_inj h3
      unfold fcsL at h4
      have h5 := xor_rc h4
      refine crc_set u j b h ?_ h5
      have e3 : (sumL u)[j] = u[j] := List.getElem_append_left (as := u) (bs := sumB u) h
      rw [← e3]; exact hb
    · have et : ((sumL u).set j b).take u.length = u := by
        rw [List.take_set_of_le (by omega)]
        simp [sumL]
      rw [et]
      intro h2
      apply hb
      have h3 : (sumL u)[j]? = ((sumL u).set j b)[j]? := congrArg (fun l => l[j]?) h2
      rw [List.getElem?_set_self hj, List.getElem?_eq_getElem hj] at h3
      injection h3
  unfold checkL
  rw [hl, if_neg (by rw [List.length_set, sumL_length]; omega), if_neg hne]
theorem needs_zero (c : UInt8) : needs 0 c = true ↔ (c.toNat = 125 ∨ c.toNat = 126) := by
  have : (0 : Int) / 2 ^ c.toNat = 0 := Int.zero_ediv _
  simp [needs]
/-- A plain byte between stuffed bytes that becomes another plain byte. -/
theorem stuff_set (x : List UInt8) : ∀ (i : Nat) (a b : UInt8), (stuffL 0 x)[i]? = some a → a.toNat ≠ 125 → b.toNat ≠ 125 → b.toNat ≠ 126 → (∀ k p, i = k + 1 → (stuffL 0 x)[k]? = some p → p.toNat ≠ 125) →
    ∃ j, x[j]? = some a ∧ (stuffL 0 x).set i b = stuffL 0 (x.set j b) := by
  induction x with
  | nil => intro i a b hi; simp [stuffL] at hi
  | cons c r ih =>
    intro i a b hi h1 h2 h3 h4
    have hbn : stuffB 0 b = [b] := by
      unfold stuffB
      rw [if_neg (fun h => by rcases (needs_zero b).1 h with h | h <;> contradiction)]
    by_cases hn : needs 0 c = true
    · have e : stuffL 0 (c :: r) = 125 :: (c ^^^ 32) :: stuffL 0 r := by simp only [stuffL]; unfold stuffB; rw [if_pos hn]; rfl
      rw [e] at hi h4
      rw [e]
      match i with
      | 0 =>
        simp at hi
        exact absurd (by rw [← hi]; rfl) h1
      | 1 => exact absurd rfl (h4 0 125 rfl rfl)
      | i + 2 =>
        obtain ⟨j, hg, hs⟩ := ih i a b (by simpa using hi) h1 h2 h3 (fun k p hk hp => h4 (k + 2) p (by omega) (by simpa using hp))
        refine ⟨j + 1, by simpa using hg, ?_⟩
        show 125 :: (c ^^^ 32) :: (stuffL 0 r).set i b = stuffB 0 c ++ stuffL 0 (r.set j b)
        rw [← hs]
        unfold stuffB
        rw [if_pos hn]
        rfl
    · have e : stuffL 0 (c :: r) = c :: stuffL 0 r := by simp only [stuffL]; unfold stuffB; rw [if_neg hn]; rfl
      rw [e] at hi h4
      rw [e]
      match i with
      | 0 =>
        refine ⟨0, by simpa using hi, ?_⟩
        show b :: stuffL 0 r = stuffB 0 b ++ stuffL 0 r
        rw [hbn]
        rfl
      | i + 1 =>
        obtain ⟨j, hg, hs⟩ := ih i a b (by simpa using hi) h1 h2 h3 (fun k p hk hp => h4 (k + 1) p (by omega) (by simpa using hp))
        refine ⟨j + 1, by simpa using hg, ?_⟩
        show c :: (stuffL 0 r).set i b = stuffB 0 c ++ stuffL 0 (r.set j b)
        rw [← hs]
        unfold stuffB
        rw [if_neg hn]
        rfl
/-- The turned frame is refused. -/
theorem unframe_turned (u : List UInt8) (hu : 4 ≤ u.length) (i : Nat) (a b : UInt8) (hi : (stuffL 0 (sumL u))[i]? = some a) (hb : a ≠ b) (h1 : a.toNat ≠ 125) (h2 : b.toNat ≠ 125) (h3 : b.toNat ≠ 126)
    (h4 : ∀ k p, i = k + 1 → (stuffL 0 (sumL u))[k]? = some p → p.toNat ≠ 125) : unframeL ((stuffL 0 (sumL u)).set i b) = (0, [], 301) := by
  obtain ⟨j, hg, hs⟩ := stuff_set (sumL u) i a b hi h1 h2 h3 h4
  obtain ⟨hj, hg2⟩ := List.getElem?_eq_some_iff.1 hg
  have hc := check_turned u j b hj (by rw [hg2]; exact hb)
  rw [hs]
  unfold unframeL
  rw [unstuff_stuff, if_neg (by rw [List.length_set, sumL_length]; simp; omega), if_pos (by rw [hc]; decide)]
end Go.Proofs.Wy
