/-
  Plain lemmas, without a program: frames as lists of bytes, there and back; one bit that was turned is found.
-/
import Derived.Test.YtlpibobpfafooaaGreatDoorMath
namespace Go.Proofs.Wy
open Go

/-! ### stuffed bytes come back -/
theorem marked_ne (c : UInt8) (h : c.toNat = 125 ∨ c.toNat = 126 ∨ c.toNat < 32) : (c ^^^ 32).toNat ≠ 126 := by
  rw [UInt8.toNat_xor]
  have h32 : (32 : UInt8).toNat = 32 := rfl
  rw [h32]
  rcases h with h | h | h
  · rw [h]; decide
  · rw [h]; decide
  · intro e
    have : c.toNat = 126 ^^^ 32 := by rw [← e, Nat.xor_assoc, Nat.xor_self, Nat.xor_zero]
    have h2 : (126 : Nat) ^^^ 32 = 94 := by decide
    omega
theorem needs_of {m : Int} {c : UInt8} (h : needs m c = true) : c.toNat = 125 ∨ c.toNat = 126 ∨ c.toNat < 32 := by
  simp only [needs, Bool.or_eq_true, Bool.and_eq_true, beq_iff_eq, decide_eq_true_eq] at h
  rcases h with (h | h) | h
  · exact .inl h
  · exact .inr (.inl h)
  · exact .inr (.inr h.1)
theorem not_needs {m : Int} {c : UInt8} (h : ¬ needs m c = true) : c.toNat ≠ 125 ∧ c.toNat ≠ 126 := by
  constructor <;> (intro e; apply h; simp [needs, e])
theorem xor_back (c : UInt8) : (c ^^^ 32) ^^^ 32 = c := by
  rw [UInt8.xor_assoc, UInt8.xor_self, UInt8.xor_zero]
theorem stuffL_noflag (m : Int) (l : List UInt8) : (126 : UInt8) ∉ stuffL m l := by
  induction l with
  | nil => simp [stuffL]
  | cons c r ih =>
    intro h
    simp only [stuffL, List.mem_append] at h
    rcases h with h | h
    · unfold stuffB at h
      split at h
      · rename_i hn
        simp only [List.mem_cons, List.not_mem_nil, or_false] at h
        rcases h with h | h
        · exact absurd h (by decide)
        · exact marked_ne c (needs_of hn) (by rw [← h]; rfl)
      · rename_i hn
        simp only [List.mem_cons, List.not_mem_nil, or_false] at h
        exact (not_needs hn).2 (by rw [← h]; rfl)
    · exact ih h
theorem unstuff_stuffGo (m : Int) (l t : List UInt8) : unstuffGo (stuffL m l ++ t) = (unstuffGo t).map fun u => l ++ u := by
  induction l with
  | nil => simp [stuffL]
  | cons c r ih =>
    simp only [stuffL]
    unfold stuffB
    split
    · rename_i hn
      rw [show [125, c ^^^ 32] ++ stuffL m r ++ t = 125 :: (c ^^^ 32) :: (stuffL m r ++ t) from rfl, unstuffGo_mark _ _ _ rfl, ih, Option.map_map, xor_back]
      rfl
    · rename_i hn
      rw [show [c] ++ stuffL m r ++ t = c :: (stuffL m r ++ t) from rfl, unstuffGo_plain _ _ (not_needs hn).1, ih, Option.map_map]
      rfl
theorem unstuff_stuff (m : Int) (l : List UInt8) : unstuffL (stuffL m l) = (l, 0) := by
  refine (unstuffL_of _ (stuffL_noflag m l)).2 l ?_
  have h := unstuff_stuffGo m l []
  rw [List.append_nil] at h
  rw [h]
  simp [unstuffGo]
theorem unstuffGo_length : ∀ (n : Nat) (l t : List UInt8), l.length ≤ n → unstuffGo l = some t → t.length ≤ l.length := by
  intro n
  induction n with
  | zero =>
    intro l t hn h
    obtain rfl : l = [] := List.eq_nil_of_length_eq_zero (by omega)
    simp [unstuffGo] at h
    rw [h]; exact Nat.le_refl _
  | succ n ih =>
    intro l t hn h
    match l with
    | [] =>
      simp [unstuffGo] at h
      rw [h]; exact Nat.le_refl _
    | c :: r =>
      by_cases hc : c.toNat = 125
      · match r with
        | [] => rw [unstuffGo_end c hc] at h; cases h
        | d :: r' =>
          rw [unstuffGo_mark _ _ _ hc] at h
          obtain ⟨u, hu, rfl⟩ := Option.map_eq_some_iff.1 h
          have := ih r' u (by simp at hn; omega) hu
          simp; omega
      · rw [unstuffGo_plain _ _ hc] at h
        obtain ⟨u, hu, rfl⟩ := Option.map_eq_some_iff.1 h
        have := ih r u (by simp at hn; omega) hu
        simp; omega
theorem unstuffL_length (l : List UInt8) : (unstuffL l).1.length ≤ l.length := by
  unfold unstuffL
  split
  · simp
  · split
    · simp
    · rename_i t h
      exact unstuffGo_length _ l t (Nat.le_refl _) h

/-! ### sums and frames -/
def sumB (l : List UInt8) : List UInt8 := [UInt8.ofNat (fcsL l % 256), UInt8.ofNat (fcsL l / 256 % 256)]
def sumL (l : List UInt8) : List UInt8 := l ++ sumB l
def checkL (l : List UInt8) : List UInt8 × Int := if l.length < 2 then ([], 100) else if sumL (l.take (l.length - 2)) = l then (l.take (l.length - 2), 0) else ([], 101)
def protoB (p : Int) : Bool := decide (1 ≤ p) && decide (p ≤ 65535) && (p % 2 == 1) && ((p / 256) % 2 == 0)
def headL (p : Int) : List UInt8 := [255, 3, UInt8.ofNat ((p / 256) % 256).toNat, UInt8.ofNat (p % 256).toNat]
def frameL (p : Int) (d : List UInt8) (m : Int) : List UInt8 × Int :=
  if protoB p = true then if 2048 < d.length then ([], 304) else (126 :: (stuffL m (sumL (headL p ++ d)) ++ [126]), 0) else ([], 303)
def protoL (u : List UInt8) : Int := ((u.getD 2 0).toNat : Int) * 256 + ((u.getD 3 0).toNat : Int)
def decodeL (u : List UInt8) : Int × List UInt8 × Int :=
  if (u.getD 0 0).toNat = 255 ∧ (u.getD 1 0).toNat = 3 then if protoB (protoL u) = true then if 2048 < u.length - 4 then (0, [], 304) else (protoL u, u.drop 4, 0) else (0, [], 303) else (0, [], 302)
def unframeL (l : List UInt8) : Int × List UInt8 × Int :=
  if (unstuffL l).2 ≠ 0 ∨ (unstuffL l).1.length < 6 then (0, [], 300)
  else if (checkL (unstuffL l).1).2 ≠ 0 then (0, [], 301) else decodeL (checkL (unstuffL l).1).1
theorem sumL_length (l : List UInt8) : (sumL l).length = l.length + 2 := by simp [sumL, sumB]
theorem check_sum (l : List UInt8) : checkL (sumL l) = (l, 0) := by
  have e : (sumL l).take ((sumL l).length - 2) = l := by rw [sumL_length]; simp [sumL]
  unfold checkL
  rw [e, if_neg (by rw [sumL_length]; omega), if_pos rfl]
theorem check_code (l : List UInt8) : (checkL l).2 = 0 ∨ (checkL l).2 = 100 ∨ (checkL l).2 = 101 := by
  unfold checkL
  split
  · exact .inr (.inl rfl)
  · split
    · exact .inl rfl
    · exact .inr (.inr rfl)
theorem check_length (l : List UInt8) (h : (checkL l).2 = 0) : (checkL l).1.length + 2 = l.length := by
  unfold checkL at h ⊢
  split at h
  · exact absurd h (by decide)
  · rename_i hl
    split at h
    · rename_i hs
      rw [if_neg hl, if_pos hs]
      simp
      omega
    · exact absurd h (by decide)
theorem unstuff_code (l : List UInt8) : (unstuffL l).2 = 0 ∨ (unstuffL l).2 = 200 ∨ (unstuffL l).2 = 201 := by
  unfold unstuffL
  split
  · exact .inr (.inr rfl)
  · split
    · exact .inr (.inl rfl)
    · exact .inl rfl
/-- A text with its sum, stuffed: what comes of it. -/
theorem unframe_of (m : Int) (u : List UInt8) (h : 4 ≤ u.length) : unframeL (stuffL m (sumL u)) = decodeL u := by
  unfold unframeL
  rw [unstuff_stuff, check_sum, if_neg (by simp [sumL_length]; omega), if_neg (by simp)]
theorem byte_of (n : Nat) (h : n < 256) : (UInt8.ofNat n).toNat = n := by
  rw [UInt8.toNat_ofNat']
  exact Nat.mod_eq_of_lt h
theorem head_length (p : Int) : (headL p).length = 4 := rfl
theorem proto_head (p : Int) (d : List UInt8) (h0 : 0 ≤ p) (h1 : p ≤ 65535) : protoL (headL p ++ d) = p := by
  have a : (UInt8.ofNat ((p / 256) % 256).toNat).toNat = ((p / 256) % 256).toNat := byte_of _ (by omega)
  have b : (UInt8.ofNat (p % 256).toNat).toNat = (p % 256).toNat := byte_of _ (by omega)
  show ((UInt8.ofNat ((p / 256) % 256).toNat).toNat : Int) * 256 + ((UInt8.ofNat (p % 256).toNat).toNat : Int) = p
  rw [a, b]
  omega
theorem decode_head (p : Int) (d : List UInt8) (h0 : 0 ≤ p) (h1 : p ≤ 65535) :
    decodeL (headL p ++ d) = if protoB p = true then if 2048 < d.length then (0, [], 304) else (p, d, 0) else (0, [], 303) := by
  unfold decodeL
  rw [if_pos ⟨rfl, rfl⟩, proto_head p d h0 h1]
  have e : (headL p ++ d).length - 4 = d.length := by rw [List.length_append, head_length]; omega
  have e2 : (headL p ++ d).drop 4 = d := rfl
  rw [e, e2]
theorem protoB_range {p : Int} (h : protoB p = true) : 1 ≤ p ∧ p ≤ 65535 := by
  simp only [protoB, Bool.and_eq_true, decide_eq_true_eq] at h
  exact ⟨h.1.1.1, h.1.1.2⟩
/-- There and back. -/
theorem frame_back (p : Int) (d : List UInt8) (m : Int) (hp : protoB p = true) (hd : d.length ≤ 2048) : unframeL (stuffL m (sumL (headL p ++ d))) = (p, d, 0) := by
  have hr := protoB_range hp
  rw [unframe_of m _ (by rw [List.length_append, head_length]; omega), decode_head p d (by omega) hr.2, if_pos hp, if_neg (by omega)]
theorem frame_ok (p : Int) (d : List UInt8) (m : Int) (hp : protoB p = true) (hd : d.length ≤ 2048) : frameL p d m = (126 :: (stuffL m (sumL (headL p ++ d)) ++ [126]), 0) := by
  unfold frameL
  rw [if_pos hp, if_neg (by omega)]
theorem stuffL_ge (m : Int) (l : List UInt8) : l.length ≤ (stuffL m l).length := by
  induction l with
  | nil => simp
  | cons c r ih =>
    have : 1 ≤ (stuffB m c).length := by unfold stuffB; split <;> simp
    simp only [stuffL, List.length_append, List.length_cons]
    omega
end Go.Proofs.Wy
