/-
  Plain words, without a program: a script's lines, words, numbers, bytes in hexadecimal digits.
-/
import Derived.Test.YtlpibobpfafooaaGreatDoorMdA
import Derived.Lib.FieldsP
import Derived.Lib.ItoaNum
import Derived.Lib.AtoiAll
import Derived.Lib.SlTrimSet
import Derived.Test.YtlpibobpfafooaaGreatDoorFrame
import Derived.Test.YtlpibobpfafooaaGreatDoorFsmF
set_option linter.unusedVariables false
set_option linter.unusedSimpArgs false
namespace Go.Proofs.Wy
open Go

/-! ### words -/
def blankB (b : UInt8) : Bool := b == 32 || b == 9
def fieldsGo : List UInt8 → List UInt8 → List (List UInt8)
  | cur, [] => if cur = [] then [] else [cur]
  | cur, b :: r => if blankB b then (if cur = [] then fieldsGo [] r else cur :: fieldsGo [] r) else fieldsGo (cur ++ [b]) r
def fieldsL (l : List UInt8) : List (List UInt8) := fieldsGo [] l
def blankR (r : Nat) : Bool := decide (r = 32) || decide (r = 9)
theorem fieldsGo_app (x : List UInt8) : ∀ cur r : List UInt8, (∀ b ∈ x, blankB b = false) → fieldsGo cur (x ++ r) = fieldsGo (cur ++ x) r := by
  induction x with
  | nil => intro cur r h; simp
  | cons b x ih =>
    intro cur r h
    rw [List.cons_append, fieldsGo, h b (by simp)]
    simp only [Bool.false_eq_true, if_false]
    rw [ih (cur ++ [b]) r (fun c hc => h c (by simp [hc]))]
    simp
theorem fieldsGo_ne (l : List UInt8) : ∀ cur : List UInt8, ∀ p ∈ fieldsGo cur l, p ≠ [] := by
  induction l with
  | nil =>
    intro cur p h
    unfold fieldsGo at h
    split at h
    · simp at h
    · rename_i hc
      rw [List.mem_singleton] at h
      rw [h]; exact hc
  | cons b r ih =>
    intro cur p h
    unfold fieldsGo at h
    split at h
    · split at h
      · exact ih _ p h
      · rename_i hc
        rcases List.mem_cons.1 h with h | h
        · rw [h]; exact hc
        · exact ih _ p h
    · exact ih _ p h
theorem fieldsGo_bulk (l : List UInt8) : ∀ cur : List UInt8, ((fieldsGo cur l).map List.length).sum ≤ cur.length + l.length ∧ (fieldsGo cur l).length ≤ cur.length + l.length := by
  induction l with
  | nil =>
    intro cur
    unfold fieldsGo
    split
    · simp
    · rename_i hc
      have : cur.length ≠ 0 := fun h => hc (List.eq_nil_of_length_eq_zero h)
      simp
      omega
  | cons b r ih =>
    intro cur
    unfold fieldsGo
    split
    · have h := ih []
      split
      · simp only [List.length_cons, List.length_nil] at *; omega
      · rename_i hc
        have : cur.length ≠ 0 := fun h => hc (List.eq_nil_of_length_eq_zero h)
        simp only [List.length_cons, List.length_nil, List.map_cons, List.sum_cons] at *; omega
    · have h := ih (cur ++ [b])
      simp only [List.length_append, List.length_cons, List.length_nil] at *
      omega
theorem fieldsL_ne (l : List UInt8) : ∀ p ∈ fieldsL l, p ≠ [] := fieldsGo_ne l []
theorem decodeN_nb (n b0 b1 b2 b3 : Nat) (h0 : b0 < 256) : (b0 < 128 → Lib.decodeN n b0 b1 b2 b3 = (b0, 1)) ∧
    (128 ≤ b0 → 128 ≤ (Lib.decodeN n b0 b1 b2 b3).1 ∧ ((Lib.decodeN n b0 b1 b2 b3).2 = 1 ∨ ((Lib.decodeN n b0 b1 b2 b3).2 = 2 ∧ 128 ≤ b1) ∨ ((Lib.decodeN n b0 b1 b2 b3).2 = 3 ∧ 128 ≤ b1 ∧ 128 ≤ b2) ∨ ((Lib.decodeN n b0 b1 b2 b3).2 = 4 ∧ 128 ≤ b1 ∧ 128 ≤ b2 ∧ 128 ≤ b3))) := by
  unfold Lib.decodeN
  constructor
  · intro h
    rw [if_pos h]
  · intro h
    rw [if_neg (by omega)]
    have q : ∀ x y : Nat, (x, y).1 = x ∧ (x, y).2 = y := fun _ _ => ⟨rfl, rfl⟩
    repeat' split
    all_goals (simp only [true_and, Nat.reduceEqDiff, false_and, or_false, false_or, true_or, or_true, and_true, Nat.succ_ne_self]; try omega)
theorem get_list (s : ByteArray) (i : Nat) (h : i < s.size) : s.data.toList[i]? = some (s.get! i) := by
  have hl : i < s.data.toList.length := by simpa using h
  rw [List.getElem?_eq_getElem hl]
  congr 1
  rw [Array.getElem_toList]
  show _ = s.data[i]!
  rw [getElem!_pos s.data i (by simpa using h)]
theorem blankB_no (b : UInt8) (h : 128 ≤ b.toNat) : blankB b = false := by
  unfold blankB
  rw [Bool.or_eq_false_iff, beq_eq_false_iff_ne, beq_eq_false_iff_ne]
  constructor <;> (rintro rfl; exact absurd h (by decide))
theorem blankR_byte (b : UInt8) : blankR b.toNat = blankB b := by
  unfold blankR blankB
  have h1 : decide (b.toNat = 32) = (b == 32) := by rw [Bool.eq_iff_iff, decide_eq_true_eq, beq_iff_eq]; exact ⟨fun h => UInt8.toNat.inj (by rw [h]; rfl), fun h => by rw [h]; rfl⟩
  have h2 : decide (b.toNat = 9) = (b == 9) := by rw [Bool.eq_iff_iff, decide_eq_true_eq, beq_iff_eq]; exact ⟨fun h => UInt8.toNat.inj (by rw [h]; rfl), fun h => by rw [h]; rfl⟩
  rw [h1, h2]
/-- What a rune's decoding says of a blank. -/
theorem decode_blank (s : ByteArray) (pos : Nat) (hlt : pos < s.size) :
    (blankR (Utf8.decode s pos).1 = true → (Utf8.decode s pos).2 = 1 ∧ blankB (s.get! pos) = true) ∧
    (blankR (Utf8.decode s pos).1 = false → ∀ j, j < (Utf8.decode s pos).2 → blankB (s.get! (pos + j)) = false) := by
  have hd := Lib.decode_at s pos
  have h0 : (s.get! pos).toNat < 256 := (s.get! pos).toNat_lt
  obtain ⟨h1, h2⟩ := decodeN_nb (s.size - pos) (s.get! pos).toNat (s.get! (pos + 1)).toNat (s.get! (pos + 2)).toNat (s.get! (pos + 3)).toNat h0
  rw [← hd] at h1 h2
  by_cases hb : (s.get! pos).toNat < 128
  · rw [h1 hb]
    refine ⟨fun h => ⟨rfl, by rw [← blankR_byte]; exact h⟩, fun h j hj => ?_⟩
    obtain rfl : j = 0 := by simp at hj; omega
    rw [Nat.add_zero, ← blankR_byte]
    exact h
  · obtain ⟨h3, h4⟩ := h2 (by omega)
    constructor
    · intro h
      unfold blankR at h
      simp only [Bool.or_eq_true, decide_eq_true_eq] at h
      omega
    · intro _ j hj
      apply blankB_no
      rcases h4 with h | h | h | h
      · obtain rfl : j = 0 := by omega
        rw [Nat.add_zero]; omega
      · have : j = 0 ∨ j = 1 := by omega
        rcases this with rfl | rfl
        · rw [Nat.add_zero]; omega
        · omega
      · have : j = 0 ∨ j = 1 ∨ j = 2 := by omega
        rcases this with rfl | rfl | rfl
        · rw [Nat.add_zero]; omega
        · omega
        · omega
      · have : j = 0 ∨ j = 1 ∨ j = 2 ∨ j = 3 := by omega
        rcases this with rfl | rfl | rfl | rfl
        · rw [Nat.add_zero]; omega
        · omega
        · omega
        · omega
theorem drop_take_succ (l : List UInt8) (pos k : Nat) : (l.drop pos).take k ++ l.drop (pos + k) = l.drop pos := by
  rw [← List.drop_drop]
  exact List.take_append_drop k (l.drop pos)
theorem mem_piece (s : ByteArray) (pos k : Nat) (hk : pos + k ≤ s.size) (p : UInt8 → Prop) (h : ∀ j, j < k → p (s.get! (pos + j))) : ∀ b ∈ (s.data.toList.drop pos).take k, p b := by
  intro b hb
  obtain ⟨j, hj, rfl⟩ := List.mem_iff_getElem.1 hb
  have hl : s.data.toList.length = s.size := Array.length_toList
  have hjk : j < k := by simp at hj; omega
  have e := get_list s (pos + j) (by omega)
  have e2 : (s.data.toList.drop pos).take k = (s.data.toList.drop pos).take k := rfl
  have e3 : ((s.data.toList.drop pos).take k)[j]? = some (s.get! (pos + j)) := by
    rw [List.getElem?_take_of_lt hjk, List.getElem?_drop, e]
  rw [List.getElem?_eq_getElem hj] at e3
  rw [Option.some.inj e3]
  exact h j hjk
theorem spans_blank (s : ByteArray) : ∀ (f pos : Nat) (st : Option Nat) (acc : List (Nat × Nat)), s.size ≤ pos + f → pos ≤ s.size → (∀ a, st = some a → a < pos) →
    acc.map (fun p => Lib.pieceU s.data.toList p.1 p.2) ++ fieldsGo (Lib.openPiece s.data.toList st pos) (s.data.toList.drop pos) = (Lib.closeSpans s (Lib.spansFromP blankR s f pos st acc)).map (fun p => Lib.pieceU s.data.toList p.1 p.2)
  | 0, pos, st, acc, h, hp, hst => by
    obtain rfl : pos = s.size := by omega
    have hl : s.data.toList.length = s.size := Array.length_toList
    have hd : s.data.toList.drop s.size = [] := List.drop_eq_nil_of_le (by omega)
    rw [hd, fieldsGo]
    cases st with
    | none => simp [Lib.spansFromP, Lib.closeSpans, Lib.openPiece]
    | some a =>
      have := Lib.pieceU_ne s.data.toList a s.size (hst a rfl) (by omega)
      simp [Lib.spansFromP, Lib.closeSpans, Lib.openPiece, this]
  | f + 1, pos, st, acc, h, hp, hst => by
    have hl : s.data.toList.length = s.size := Array.length_toList
    by_cases hlt : pos < s.size
    · have hw := Lib.width_pos s pos
      have hwn : pos + (Utf8.decode s pos).2 ≤ s.size := by
        have := Lib.decodeN_le_n' (s.size - pos) (s.get! pos).toNat (s.get! (pos + 1)).toNat (s.get! (pos + 2)).toNat (s.get! (pos + 3)).toNat (by omega)
        rw [← Lib.decode_at] at this
        omega
      obtain ⟨hb1, hb2⟩ := decode_blank s pos hlt
      simp only [Lib.spansFromP, if_pos hlt]
      cases hsp : blankR (Utf8.decode s pos).1 with
      | true =>
        obtain ⟨e1, e2⟩ := hb1 hsp
        have hdr : s.data.toList.drop pos = s.get! pos :: s.data.toList.drop (pos + 1) := by
          have e := get_list s pos hlt
          obtain ⟨hl2, e⟩ := List.getElem?_eq_some_iff.1 e
          rw [List.drop_eq_getElem_cons hl2, e]
        rw [hdr, e1]
        simp only [if_true]
        cases st with
        | none =>
          have ih := spans_blank s f (pos + 1) none acc (by omega) (by omega) (fun a h => by cases h)
          have e3 : fieldsGo (Lib.openPiece s.data.toList none pos) (s.get! pos :: s.data.toList.drop (pos + 1)) = fieldsGo [] (s.data.toList.drop (pos + 1)) := by
            rw [fieldsGo, if_pos e2]; rfl
          rw [e3]
          exact ih
        | some a =>
          have hpn := Lib.pieceU_ne s.data.toList a pos (hst a rfl) (by omega)
          have ih := spans_blank s f (pos + 1) none (acc ++ [(a, pos)]) (by omega) (by omega) (fun a h => by cases h)
          have e3 : fieldsGo (Lib.openPiece s.data.toList (some a) pos) (s.get! pos :: s.data.toList.drop (pos + 1)) = Lib.pieceU s.data.toList a pos :: fieldsGo [] (s.data.toList.drop (pos + 1)) := by
            rw [fieldsGo, if_pos e2]
            show (if Lib.pieceU s.data.toList a pos = [] then _ else _) = _
            rw [if_neg hpn]; rfl
          rw [e3, ← ih]
          simp [Lib.openPiece]
      | false =>
        simp only [Bool.false_eq_true, if_false]
        have hm := mem_piece s pos (Utf8.decode s pos).2 hwn (fun b => blankB b = false) (hb2 hsp)
        have e3 : ∀ cur, fieldsGo cur (s.data.toList.drop pos) = fieldsGo (cur ++ (s.data.toList.drop pos).take (Utf8.decode s pos).2) (s.data.toList.drop (pos + (Utf8.decode s pos).2)) := fun cur => by
          rw [← fieldsGo_app _ _ _ hm, drop_take_succ]
        cases st with
        | none =>
          have ih := spans_blank s f (pos + (Utf8.decode s pos).2) (some pos) acc (by omega) hwn (fun a h => by cases h; omega)
          have e : ([] : List UInt8) ++ (s.data.toList.drop pos).take (Utf8.decode s pos).2 = Lib.pieceU s.data.toList pos (pos + (Utf8.decode s pos).2) := by
            unfold Lib.pieceU
            rw [List.nil_append, Nat.add_sub_cancel_left]
          simp only [Lib.openPiece] at ih ⊢
          rw [e3, e]
          exact ih
        | some a =>
          have ih := spans_blank s f (pos + (Utf8.decode s pos).2) (some a) acc (by omega) hwn (fun b h => by cases h; have := hst a rfl; omega)
          simp only [Lib.openPiece] at ih ⊢
          rw [e3, Lib.pieceU_grow _ _ _ _ (Nat.le_of_lt (hst a rfl))]
          exact ih
    · obtain rfl : pos = s.size := by omega
      have hd : s.data.toList.drop s.size = [] := List.drop_eq_nil_of_le (by omega)
      rw [hd, fieldsGo, Lib.spansFromP_end _ s _ _ _ _ hlt]
      cases st with
      | none => simp [Lib.closeSpans, Lib.openPiece]
      | some a =>
        have := Lib.pieceU_ne s.data.toList a s.size (hst a rfl) (by omega)
        simp [Lib.closeSpans, Lib.openPiece, this]
/-- strings.FieldsFunc at blanks: the words. -/
theorem fields_eq (s : ByteArray) : (Lib.goFieldsP blankR s).map (fun p => p.data.toList) = fieldsL s.data.toList := by
  have h := spans_blank s s.size 0 none [] (by omega) (by omega) (fun a h => by cases h)
  unfold fieldsL Lib.goFieldsP Lib.spansOfP
  rw [List.map_map]
  simp only [List.map_nil, List.nil_append, List.drop_zero] at h
  have e : Lib.openPiece s.data.toList none 0 = [] := rfl
  rw [e] at h
  rw [h]
  refine List.map_congr_left fun x _ => ?_
  simp only [Function.comp, Lib.pieceU, ByteArray.data_extract, Array.toList_extract, List.extract_eq_take_drop]

/-! ### numbers -/
def isDig (b : UInt8) : Bool := decide (48 ≤ b.toNat) && decide (b.toNat ≤ 57)
def valN (l : List UInt8) : Nat := l.foldl (fun x b => 10 * x + (b.toNat - 48)) 0
def digOk (d : List UInt8) : Bool := decide (0 < d.length) && decide (d.length ≤ 10) && d.all isDig
def numberL (l : List UInt8) : Option Int :=
  match l with
  | [] => none
  | c :: r => if c = 45 then (if digOk r = true then some (-(valN r : Int)) else none) else (if digOk (c :: r) = true then some (valN (c :: r) : Int) else none)
theorem valN_snoc (l : List UInt8) (b : UInt8) : valN (l ++ [b]) = 10 * valN l + (b.toNat - 48) := by simp [valN]
/-- A number's digits, most 20. -/
def decF : Nat → Nat → List UInt8
  | 0, _ => []
  | f + 1, u => if u < 10 then [UInt8.ofNat (48 + u)] else decF f (u / 10) ++ [UInt8.ofNat (48 + u % 10)]
def itoaL (n : Int) : List UInt8 := if n < 0 then 45 :: decF 20 n.natAbs else decF 20 n.toNat
theorem decF_eq : ∀ (f u : Nat), u < 10 ^ f → 0 < f → decF f u = Lib.decDigits u
  | 0, u, h, h0 => absurd h0 (by decide)
  | f + 1, u, h, h0 => by
    rw [decF, Lib.decDigits]
    by_cases hu : u < 10
    · rw [if_pos hu, dif_pos hu]
    · rw [if_neg hu, dif_neg hu]
      have h1 : 0 < f := by
        rcases Nat.eq_zero_or_pos f with h2 | h2
        · subst h2; simp at h; omega
        · exact h2
      have h2 : u / 10 < 10 ^ f := by rw [Nat.pow_succ] at h; omega
      rw [decF_eq f (u / 10) h2 h1]
theorem itoaL_eq (n : Int) (h0 : -9223372036854775808 ≤ n) (h1 : n ≤ 9223372036854775807) : itoaL n = Lib.itoa n := by
  have e : (10 : Nat) ^ 20 = 100000000000000000000 := by decide
  unfold itoaL Lib.itoa
  by_cases h : n < 0
  · rw [if_pos h, if_pos h, decF_eq 20 _ (by rw [e]; omega) (by decide)]
  · rw [if_neg h, if_neg h, decF_eq 20 _ (by rw [e]; omega) (by decide)]
theorem decF_length : ∀ f u, (decF f u).length ≤ f
  | 0, u => Nat.le_refl _
  | f + 1, u => by
    rw [decF]
    split
    · simp
    · have := decF_length f (u / 10)
      simp; omega
theorem itoaL_length (n : Int) : (itoaL n).length ≤ 21 := by
  unfold itoaL
  split
  · have := decF_length 20 n.natAbs; simp; omega
  · have := decF_length 20 n.toNat; omega

/-! ### bytes in hexadecimal digits -/
def hexD (n : Nat) : UInt8 := if n < 10 then UInt8.ofNat (48 + n) else UInt8.ofNat (87 + n)
def hexB (b : UInt8) : List UInt8 := [hexD (b.toNat / 16), hexD (b.toNat % 16)]
def hexL (l : List UInt8) : List UInt8 := if l = [] then [45] else l.flatMap hexB
def digH (c : UInt8) : Option Nat := if 48 ≤ c.toNat ∧ c.toNat ≤ 57 then some (c.toNat - 48) else if 97 ≤ c.toNat ∧ c.toNat ≤ 102 then some (c.toNat - 87) else none
def unhexGo : List UInt8 → Option (List UInt8)
  | [] => some []
  | [_] => none
  | a :: b :: r => match digH a, digH b with
    | some x, some y => (unhexGo r).map fun t => UInt8.ofNat (16 * x + y) :: t
    | _, _ => none
def unhexL (l : List UInt8) : Option (List UInt8) := if l = [45] then some [] else if l = [] then none else unhexGo l

/-! ### delays, targets -/
def doubleN : Nat → Int → Int → Int
  | 0, _, d => d
  | n + 1, most, d => if d > most / 2 then most else doubleN n most (d * 2)
def delayL (t base most jit : Int) : Int × Int :=
  if t < 0 ∨ t > 62 ∨ base < 1 ∨ base > 4096 ∨ most < base ∨ most > 4096 ∨ jit < 0 then (0, 1200)
  else (doubleN t.toNat most base - jit % (doubleN t.toNat most base / 4 + 1), 0)
def targetL (load rate least links : Int) : Int × Int :=
  if load < 0 ∨ ¬ (64 ≤ rate ∧ rate ≤ 4096 ∧ 1 ≤ links ∧ links ≤ 6 ∧ 1 ≤ least ∧ least ≤ links) then (0, 2400)
  else (min (max (load / rate + if load % rate > 0 then 1 else 0) least) links, 0)
end Go.Proofs.Wy
/-
  Plain words: what a command tells, what a line tells, what a script tells.
-/
set_option linter.unusedVariables false
set_option linter.unusedSimpArgs false
namespace Go.Proofs.Wy
open Go
open Go.Proofs.YtlpibobpfafooaaGreatDoor.H (stepP cutAt)

/-! ### numbers as the library has them -/
def digitsL : List UInt8 := [48, 49, 50, 51, 52, 53, 54, 55, 56, 57]
theorem isDig_mem (b : UInt8) : digitsL.contains b = isDig b := by
  have h : ∀ n : Fin 256, digitsL.contains (UInt8.ofNat n.val) = isDig (UInt8.ofNat n.val) := by decide +kernel
  have h2 := h ⟨b.toNat, b.toNat_lt⟩
  simpa using h2
theorem mem_dropWhile {p : UInt8 → Bool} {b : UInt8} (hb : p b = false) : ∀ l : List UInt8, b ∈ l → b ∈ l.dropWhile p
  | [], h => absurd h (by simp)
  | c :: r, h => by
    rw [List.dropWhile_cons]
    split
    · rename_i hc
      rcases List.mem_cons.1 h with e | h
      · rw [e] at hb; rw [hb] at hc; cases hc
      · exact mem_dropWhile hb r h
    · exact h
theorem trim_digits (d : List UInt8) : (Lib.trimS d digitsL = [] ↔ d.all isDig = true) := by
  unfold Lib.trimS Lib.trimLeftS Lib.trimRightS
  constructor
  · intro h
    rw [List.all_eq_true]
    intro b hb
    cases hd : isDig b with
    | true => rfl
    | false =>
      have hp : digitsL.contains b = false := by rw [isDig_mem, hd]
      have h1 := mem_dropWhile (p := fun x => digitsL.contains x) hp d.reverse (by simpa using hb)
      have h2 := mem_dropWhile (p := fun x => digitsL.contains x) hp _ (List.mem_reverse.2 h1)
      rw [h] at h2
      cases h2
  · intro h
    have all_in : ∀ l : List UInt8, l.all isDig = true → l.dropWhile (digitsL.contains ·) = [] := by
      intro l
      induction l with
      | nil => intro _; rfl
      | cons c r ih =>
        intro hl
        rw [List.all_cons, Bool.and_eq_true] at hl
        rw [List.dropWhile_cons, if_pos (by rw [isDig_mem]; exact hl.1)]
        exact ih hl.2
    have h1 : d.reverse.dropWhile (digitsL.contains ·) = [] := all_in _ (by rw [List.all_reverse]; exact h)
    rw [h1]
    rfl
theorem parse_digits : ∀ (l : List UInt8) (acc : Nat), l.all isDig = true → (acc + 1) * 10 ^ l.length ≤ 10 ^ 19 → Lib.parseUint10 acc l = .ok (l.foldl (fun x b => 10 * x + (b.toNat - 48)) acc)
  | [], acc, _, _ => rfl
  | c :: r, acc, h, hb => by
    rw [List.all_cons, Bool.and_eq_true] at h
    obtain ⟨hc, hr⟩ := h
    unfold isDig at hc
    simp only [Bool.and_eq_true, decide_eq_true_eq] at hc
    have e19 : (10 : Nat) ^ 19 = 10000000000000000000 := by decide
    have hp : 1 ≤ 10 ^ r.length := Nat.pos_of_ne_zero (by simp)
    rw [List.length_cons, Nat.pow_succ, e19] at hb
    have h1 : (acc + 1) * 10 ≤ (acc + 1) * (10 ^ r.length * 10) := Nat.mul_le_mul_left _ (by omega)
    have h2 : (acc * 10 + (c.toNat - 48) + 1) * 10 ^ r.length ≤ (acc + 1) * (10 ^ r.length * 10) := by
      have : (acc * 10 + (c.toNat - 48) + 1) ≤ (acc + 1) * 10 := by omega
      have := Nat.mul_le_mul_right (10 ^ r.length) this
      rw [Nat.mul_assoc, Nat.mul_comm 10] at this
      exact this
    have e : 10 * acc + (c.toNat - 48) = acc * 10 + (c.toNat - 48) := by omega
    rw [Lib.parseUint10, if_pos hc, if_neg (by omega), if_neg (by omega), List.foldl_cons, e]
    exact parse_digits r _ hr (by rw [e19]; omega)
theorem digOk_of {d : List UInt8} (h : digOk d = true) : 0 < d.length ∧ d.length ≤ 10 ∧ d.all isDig = true := by
  unfold digOk at h
  simp only [Bool.and_eq_true, decide_eq_true_eq] at h
  exact ⟨h.1.1, h.1.2, h.2⟩
theorem parse_mag (d : List UInt8) (h : digOk d = true) : Lib.parseMag d = .ok (valN d) ∧ valN d < 10000000000 := by
  obtain ⟨h1, h2, h3⟩ := digOk_of h
  have hp : (10 : Nat) ^ d.length ≤ 10 ^ 10 := Nat.pow_le_pow_right (by decide) h2
  have e10 : (10 : Nat) ^ 10 = 10000000000 := by decide
  have e19 : (10 : Nat) ^ 19 = 10000000000000000000 := by decide
  constructor
  · unfold Lib.parseMag
    rw [if_neg (by rintro rfl; simp at h1)]
    exact parse_digits d 0 h3 (by omega)
  · have key : ∀ (l : List UInt8) (acc : Nat), l.all isDig = true → l.foldl (fun x b => 10 * x + (b.toNat - 48)) acc < (acc + 1) * 10 ^ l.length := by
      intro l
      induction l with
      | nil => intro acc _; simp
      | cons c r ih =>
        intro acc hl
        rw [List.all_cons, Bool.and_eq_true] at hl
        have hc := hl.1
        unfold isDig at hc
        simp only [Bool.and_eq_true, decide_eq_true_eq] at hc
        have h4 := ih (10 * acc + (c.toNat - 48)) hl.2
        have h5 : (10 * acc + (c.toNat - 48) + 1) * 10 ^ r.length ≤ (acc + 1) * 10 * 10 ^ r.length := Nat.mul_le_mul_right _ (by omega)
        rw [List.foldl_cons, List.length_cons, Nat.pow_succ, Nat.mul_comm (10 ^ r.length), ← Nat.mul_assoc]
        omega
    have h4 := key d 0 h3
    unfold valN
    omega
theorem atoi_number (l : List UInt8) (x : Int) (h : numberL l = some x) : Lib.atoiAll l = .ok x ∧ -10000000000 < x ∧ x < 10000000000 := by
  unfold numberL at h
  match l with
  | [] => cases h
  | c :: r =>
    dsimp only at h
    split at h
    · rename_i hc
      split at h
      · rename_i hd
        obtain ⟨h1, h2⟩ := parse_mag r hd
        cases h
        subst hc
        unfold Lib.atoiAll
        have e1 : ((45 : UInt8).toNat = 43 ∨ (45 : UInt8).toNat = 45) := Or.inr rfl
        dsimp only
        rw [if_pos e1, h1]
        dsimp only
        have e2 : (45 : UInt8).toNat = 45 := rfl
        rw [if_neg (by simp [e2]), if_neg (by omega), if_pos e2]
        exact ⟨rfl, by omega, by omega⟩
      · cases h
    · rename_i hc
      split at h
      · rename_i hd
        obtain ⟨h1, h2⟩ := parse_mag (c :: r) hd
        cases h
        have hcd : isDig c = true := List.all_eq_true.1 (digOk_of hd).2.2 c (by simp)
        unfold isDig at hcd
        simp only [Bool.and_eq_true, decide_eq_true_eq] at hcd
        unfold Lib.atoiAll
        dsimp only
        rw [if_neg (by omega), h1]
        dsimp only
        rw [if_neg (by omega), if_neg (by omega), if_neg (by omega)]
        exact ⟨rfl, by omega, by omega⟩
      · cases h

/-! ### what a command tells -/
/-- A line's words as numbers (110) and bytes, as its kinds ask. -/
def readL : List UInt8 → List (List UInt8) → Option (List Int × List (List UInt8))
  | [], [] => some ([], [])
  | k :: ks, w :: ws => if k = 110 then (match numberL w with
      | none => none
      | some x => (readL ks ws).map fun r => (x :: r.1, r.2))
    else (match unhexL w with
      | none => none
      | some b => (readL ks ws).map fun r => (r.1, b :: r.2))
  | _, _ => none
/-- The commands: their names, their kinds, their places. -/
def cmdsT : List (List UInt8 × List UInt8 × Nat) := [
  ([102, 99, 115], [120], 0), ([102, 114, 97, 109, 101], [110, 120], 1), ([117, 110, 102, 114, 97, 109, 101], [120], 2), ([102, 115, 109], [110, 110], 3),
  ([109, 100, 53], [120], 4), ([100, 101, 108, 97, 121], [110, 110, 110, 110], 5), ([116, 97, 114, 103, 101, 116], [110, 110, 110, 110], 6)]
def stepT (s v : Int) : List UInt8 := itoaL (stepP s v).1 ++ (stepP s v).2.1.flatMap fun x => 32 :: itoaL x
def unframeT (b : List UInt8) : List UInt8 := itoaL (unframeL b).1 ++ 32 :: hexL (unframeL b).2.1
def tellL (t : Nat) (ns : List Int) (bs : List (List UInt8)) : List UInt8 × Int :=
  match t with
  | 0 => (itoaL (fcsL (bs.getD 0 [])), 0)
  | 1 => (hexL (frameL (ns.getD 0 0) (bs.getD 0 []) 0).1, (frameL (ns.getD 0 0) (bs.getD 0 []) 0).2)
  | 2 => (unframeT (bs.getD 0 []), (unframeL (bs.getD 0 [])).2.2)
  | 3 => (stepT (ns.getD 0 0) (ns.getD 1 0), (stepP (ns.getD 0 0) (ns.getD 1 0)).2.2)
  | 4 => (hexL (md5L (bs.getD 0 [])), 0)
  | 5 => (itoaL (delayL (ns.getD 0 0) (ns.getD 1 0) (ns.getD 2 0) (ns.getD 3 0)).1, (delayL (ns.getD 0 0) (ns.getD 1 0) (ns.getD 2 0) (ns.getD 3 0)).2)
  | _ => if (targetL (ns.getD 0 0) (ns.getD 1 0) (ns.getD 2 0) (ns.getD 3 0)).2 = 0 then (itoaL (targetL (ns.getD 0 0) (ns.getD 1 0) (ns.getD 2 0) (ns.getD 3 0)).1, 0) else ([], 2400)
def errL (e : Int) : List UInt8 := [101, 114, 114, 111, 114, 32] ++ itoaL e
def cmdL (c : List UInt8 × List UInt8 × Nat) (ws : List (List UInt8)) : List UInt8 :=
  match readL c.2.1 ws with
  | none => errL 2800
  | some r => if (tellL c.2.2 r.1 r.2).2 = 0 then (tellL c.2.2 r.1 r.2).1 else errL (tellL c.2.2 r.1 r.2).2
/-- What a line's words tell. -/
def lineL (w : List UInt8) (ws : List (List UInt8)) : List UInt8 :=
  match cmdsT.find? (fun c => c.1 == w) with
  | none => errL 2800
  | some c => cmdL c ws
def tellsL (l : List UInt8) : List UInt8 :=
  match fieldsL l with
  | [] => []
  | w :: ws => if w.headD 0 = 35 then [] else lineL w ws ++ [10]
def runL (s : List UInt8) : List UInt8 × Int := if 65536 < s.length then ([], 2801) else ((cutAt 10 s).flatMap tellsL, 0)
end Go.Proofs.Wy
