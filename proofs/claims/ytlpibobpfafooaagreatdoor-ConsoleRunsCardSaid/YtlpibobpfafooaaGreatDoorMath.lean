/-
  Plain lemmas, without a program: marked bytes, their undoing, splitting at flags, the frame's sum by bits and by a table.
-/
import Derived.Laws.BitsLemmas
import Derived.Laws.BytesArg
import Derived.Lib.UnsafeStr
import Derived.Lib.LazyBuf
namespace Go.Proofs.Wy
open Go

/-! ### bits of whole numbers -/
theorem xor_nat (k : IntKind) (j : Nat) (hj : j ≤ k.bits) (hk : ∀ n : Int, 0 ≤ n → n < 2 ^ j → k.wrap n = n) (a b : Nat) (ha : a < 2 ^ j) (hb : b < 2 ^ j) :
    Go.bits .xor k a b = ((a ^^^ b : Nat) : Int) := by
  have hp : 2 ^ j ≤ 2 ^ k.bits := Nat.pow_le_pow_right (by decide) hj
  have ha' : a % 2 ^ k.bits = a := Nat.mod_eq_of_lt (Nat.lt_of_lt_of_le ha hp)
  have hb' : b % 2 ^ k.bits = b := Nat.mod_eq_of_lt (Nat.lt_of_lt_of_le hb hp)
  have cast : ∀ n : Nat, n < 2 ^ j → ((n : Nat) : Int) < 2 ^ j := fun n h => by exact_mod_cast h
  simp only [Go.bits, BitVec.ofInt_natCast, BitVec.toNat_xor, BitVec.toNat_ofNat, ha', hb']
  exact hk _ (Int.natCast_nonneg _) (cast _ (Nat.xor_lt_two_pow ha hb))
theorem wraps_u16 (n : Int) (h₀ : 0 ≤ n) (h₁ : n < 2 ^ 16) : IntKind.u16.wrap n = n := by
  simp only [IntKind.wrap, IntKind.bits, IntKind.signed]
  simp
  omega
theorem wraps_i64 (n : Int) (h₀ : 0 ≤ n) (h₁ : n < 2 ^ 62) : IntKind.i64.wrap n = n := by
  rw [IntKind.wrap_i64]
  omega
theorem xor_u8 (a b : Nat) (ha : a < 256) (hb : b < 256) : Go.bits .xor .u8 a b = ((a ^^^ b : Nat) : Int) := xor_nat .u8 8 (by decide) wraps_u8 a b ha hb
theorem xor_u16 (a b : Nat) (ha : a < 65536) (hb : b < 65536) : Go.bits .xor .u16 a b = ((a ^^^ b : Nat) : Int) := xor_nat .u16 16 (by decide) wraps_u16 a b ha hb
theorem xor_i64 (a b : Nat) (ha : a < 2 ^ 62) (hb : b < 2 ^ 62) : Go.bits .xor .i64 a b = ((a ^^^ b : Nat) : Int) := xor_nat .i64 62 (by decide) wraps_i64 a b ha hb
theorem and_one (k : IntKind) (h1 : 1 ≤ k.bits) (hk : ∀ n : Int, 0 ≤ n → n < 2 → k.wrap n = n) (x : Int) : Go.bits .and k x 1 = x % 2 := by
  have h2 : (2 : Nat) ^ k.bits = 2 * 2 ^ (k.bits - 1) := by rw [← Nat.pow_succ']; congr 1; omega
  have h3 : (1 : Nat) % 2 ^ k.bits = 1 := Nat.mod_eq_of_lt (by rw [h2]; have := Nat.two_pow_pos (k.bits - 1); omega)
  have e : (BitVec.ofInt k.bits x &&& BitVec.ofInt k.bits 1).toNat = (x % 2).toNat := by
    rw [BitVec.toNat_and, BitVec.toNat_ofInt, show (1 : Int) = ((1 : Nat) : Int) from rfl, BitVec.ofInt_natCast, BitVec.toNat_ofNat, h3, Nat.and_one_is_mod]
    have hp : (0 : Int) < ((2 ^ k.bits : Nat) : Int) := by exact_mod_cast Nat.two_pow_pos k.bits
    have h5 : (x % ((2 ^ k.bits : Nat) : Int)) % 2 = x % 2 := Int.emod_emod_of_dvd x (by rw [h2]; exact ⟨((2 ^ (k.bits - 1) : Nat) : Int), by push_cast; rfl⟩)
    have h6 := Int.emod_nonneg x (Int.ne_of_gt hp)
    omega
  simp only [Go.bits, e]
  have := Int.emod_nonneg x (show (2 : Int) ≠ 0 by decide)
  have := Int.emod_lt_of_pos x (show (0 : Int) < 2 by decide)
  rw [hk _ (by omega) (by omega)]
  omega
theorem and_one_i64 (x : Int) : Go.bits .and .i64 x 1 = x % 2 := and_one .i64 (by decide) (fun n h0 h1 => wraps_i64 n h0 (by omega)) x
theorem and_one_u16 (x : Int) : Go.bits .and .u16 x 1 = x % 2 := and_one .u16 (by decide) (fun n h0 h1 => wraps_u16 n h0 (by omega)) x

/-! ### bytes and whole numbers -/
theorem size_lit (l : List UInt8) : (ByteArray.mk l.toArray).size = l.length := by simp [ByteArray.size]
theorem toNat_lt (c : UInt8) : c.toNat < 256 := c.toNat_lt
theorem xor_byte (c d : UInt8) : Go.bits .xor .u8 (c.toNat : Int) (d.toNat : Int) = ((c ^^^ d).toNat : Int) := by
  rw [xor_u8 _ _ c.toNat_lt d.toNat_lt, UInt8.toNat_xor]

/-! ### stuffed bytes -/
/-- Does a byte need its mark? -/
def needs (m : Int) (c : UInt8) : Bool := c.toNat == 125 || c.toNat == 126 || (decide (c.toNat < 32) && (m / 2 ^ c.toNat) % 2 == 1)
def stuffB (m : Int) (c : UInt8) : List UInt8 := if needs m c = true then [125, c ^^^ 32] else [c]
def stuffL (m : Int) : List UInt8 → List UInt8
  | [] => []
  | c :: r => stuffB m c ++ stuffL m r
def unstuffGo : List UInt8 → Option (List UInt8)
  | [] => some []
  | c :: r => if c.toNat = 125 then (match r with
      | [] => none
      | d :: r' => (unstuffGo r').map fun t => (d ^^^ 32) :: t)
    else (unstuffGo r).map fun t => c :: t
theorem unstuffGo_plain (c : UInt8) (r : List UInt8) (h : ¬ c.toNat = 125) : unstuffGo (c :: r) = (unstuffGo r).map fun t => c :: t := by
  cases r <;> simp [unstuffGo, h]
theorem unstuffGo_mark (c d : UInt8) (r : List UInt8) (h : c.toNat = 125) : unstuffGo (c :: d :: r) = (unstuffGo r).map fun t => (d ^^^ 32) :: t := by
  simp [unstuffGo, h]
theorem unstuffGo_end (c : UInt8) (h : c.toNat = 125) : unstuffGo [c] = none := by simp [unstuffGo, h]
def unstuffL (l : List UInt8) : List UInt8 × Int := if (126 : UInt8) ∈ l then ([], 201) else match unstuffGo l with
  | none => ([], 200)
  | some t => (t, 0)
theorem stuffB_length (m : Int) (c : UInt8) : (stuffB m c).length ≤ 2 := by unfold stuffB; split <;> simp
theorem stuffL_append (m : Int) (a b : List UInt8) : stuffL m (a ++ b) = stuffL m a ++ stuffL m b := by
  induction a with
  | nil => rfl
  | cons c r ih => simp [stuffL, ih]
theorem stuffL_length (m : Int) (l : List UInt8) : (stuffL m l).length ≤ 2 * l.length := by
  induction l with
  | nil => simp [stuffL]
  | cons c r ih => have := stuffB_length m c; simp only [stuffL, List.length_append, List.length_cons]; omega
theorem stuffL_snoc (m : Int) (l : List UInt8) (c : UInt8) : stuffL m (l ++ [c]) = stuffL m l ++ stuffB m c := by rw [stuffL_append]; simp [stuffL]

theorem unstuffL_of (l : List UInt8) (hm : (126 : UInt8) ∉ l) : (unstuffGo l = none → unstuffL l = ([], 200)) ∧ ∀ t, unstuffGo l = some t → unstuffL l = (t, 0) := by
  unfold unstuffL
  rw [if_neg hm]
  exact ⟨fun h => by rw [h], fun t h => by rw [h]⟩
theorem unstuffL_flag (l : List UInt8) (hm : (126 : UInt8) ∈ l) : unstuffL l = ([], 201) := by unfold unstuffL; rw [if_pos hm]

/-! ### the frame's sum -/
def step1 (x : Nat) : Nat := if x % 2 = 1 then (x / 2) ^^^ 33800 else x / 2
def stepN : Nat → Nat → Nat
  | 0, x => x
  | n + 1, x => stepN n (step1 x)
def crcB (x : Nat) (b : UInt8) : Nat := stepN 8 (x ^^^ b.toNat)
def crcL (x : Nat) (l : List UInt8) : Nat := l.foldl crcB x
def fcsL (l : List UInt8) : Nat := crcL 65535 l ^^^ 65535
theorem xor_lt16 {a b : Nat} (ha : a < 65536) (hb : b < 65536) : a ^^^ b < 65536 := Nat.xor_lt_two_pow (n := 16) ha hb
theorem step1_lt {x : Nat} (h : x < 65536) : step1 x < 65536 := by
  unfold step1
  split
  · exact xor_lt16 (by omega) (by omega)
  · omega
theorem stepN_lt (n : Nat) : ∀ {x : Nat}, x < 65536 → stepN n x < 65536 := by
  induction n with
  | zero => intro x h; exact h
  | succ n ih => intro x h; exact ih (step1_lt h)
theorem crcB_lt {x : Nat} (b : UInt8) (h : x < 65536) : crcB x b < 65536 := stepN_lt 8 (xor_lt16 h (by have := b.toNat_lt; omega))
theorem crcL_lt {x : Nat} (l : List UInt8) (h : x < 65536) : crcL x l < 65536 := by
  induction l generalizing x with
  | nil => exact h
  | cons c r ih => exact ih (crcB_lt c h)
theorem crcL_append (x : Nat) (a b : List UInt8) : crcL x (a ++ b) = crcL (crcL x a) b := by simp [crcL]
theorem crcL_snoc (x : Nat) (a : List UInt8) (c : UInt8) : crcL x (a ++ [c]) = crcB (crcL x a) c := by simp [crcL]
theorem fcsL_lt (l : List UInt8) : fcsL l < 65536 := xor_lt16 (crcL_lt l (by decide)) (by decide)
theorem xor_mod2 (u v : Nat) : (u ^^^ v) % 2 = (u % 2 + v % 2) % 2 := by
  have h := Nat.testBit_xor (x := u) (y := v) (i := 0)
  simp only [Nat.testBit_zero] at h
  rcases Nat.mod_two_eq_zero_or_one u with a | a <;> rcases Nat.mod_two_eq_zero_or_one v with b | b <;> rcases Nat.mod_two_eq_zero_or_one (u ^^^ v) with c | c <;> simp_all
theorem xor_div2 (u v : Nat) : (u ^^^ v) / 2 = u / 2 ^^^ v / 2 := by
  have h := Nat.shiftRight_xor_distrib (a := u) (b := v) (i := 1)
  simpa [Nat.shiftRight_succ] using h
theorem step1_xor (u v : Nat) : step1 (u ^^^ v) = step1 u ^^^ step1 v := by
  unfold step1
  rw [xor_mod2, xor_div2]
  rcases Nat.mod_two_eq_zero_or_one u with a | a <;> rcases Nat.mod_two_eq_zero_or_one v with b | b
  · rw [a, b]; simp
  · rw [a, b]; simp [Nat.xor_assoc]
  · rw [a, b]; simp; rw [Nat.xor_assoc, Nat.xor_comm (v / 2) 33800, ← Nat.xor_assoc]
  · rw [a, b]; simp; rw [Nat.xor_assoc, ← Nat.xor_assoc 33800, Nat.xor_comm 33800 (v / 2), Nat.xor_assoc, Nat.xor_self, Nat.xor_zero]
theorem stepN_xor (n : Nat) : ∀ u v : Nat, stepN n (u ^^^ v) = stepN n u ^^^ stepN n v := by
  induction n with
  | zero => intro u v; rfl
  | succ n ih => intro u v; simp only [stepN]; rw [step1_xor, ih]
theorem stepN_high (n : Nat) : ∀ h : Nat, stepN n (2 ^ n * h) = h := by
  induction n with
  | zero => intro h; simp [stepN]
  | succ n ih =>
    intro h
    have e : step1 (2 ^ (n + 1) * h) = 2 ^ n * h := by
      have e2 : 2 ^ (n + 1) * h = 2 * (2 ^ n * h) := by rw [Nat.pow_succ', Nat.mul_assoc]
      unfold step1
      rw [e2, if_neg (by omega)]
      omega
    simp only [stepN]
    rw [e, ih]
/-- The sum by a table. -/
theorem crcB_table (x : Nat) (b : UInt8) : crcB x b = (x / 256) ^^^ stepN 8 ((x % 256) ^^^ b.toNat) := by
  have hx : x = 2 ^ 8 * (x / 256) ^^^ (x % 256) := by
    have h := Nat.two_pow_add_eq_or_of_lt (i := 8) (b := x % 256) (by omega) (x / 256)
    have h3 : 2 ^ 8 * (x / 256) + x % 256 = x := by omega
    have h4 : 2 ^ 8 * (x / 256) &&& x % 256 = 0 := by
      apply Nat.eq_of_testBit_eq
      intro i
      rw [Nat.testBit_and, Nat.zero_testBit]
      by_cases hi : i < 8
      · rw [Nat.testBit_two_pow_mul]
        simp; omega
      · rw [Nat.testBit_lt_two_pow (x := x % 256) (Nat.lt_of_lt_of_le (show x % 256 < 2 ^ 8 by omega) (Nat.pow_le_pow_right (by decide) (by omega)))]
        simp
    have h5 : 2 ^ 8 * (x / 256) ||| x % 256 = 2 ^ 8 * (x / 256) ^^^ x % 256 := by
      apply Nat.eq_of_testBit_eq
      intro i
      have := congrArg (fun y => y.testBit i) h4
      simp only [Nat.testBit_and, Nat.zero_testBit] at this
      rw [Nat.testBit_or, Nat.testBit_xor]
      revert this
      generalize (2 ^ 8 * (x / 256)).testBit i = p
      generalize (x % 256).testBit i = q
      cases p <;> cases q <;> simp
    omega
  unfold crcB
  conv => lhs; rw [hx, Nat.xor_assoc, stepN_xor, stepN_high]
end Go.Proofs.Wy
