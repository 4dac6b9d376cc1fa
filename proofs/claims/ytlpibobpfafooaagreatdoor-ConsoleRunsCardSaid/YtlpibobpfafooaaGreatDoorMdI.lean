/-
  Plain words, without a program: MD5's length bytes, blocks and output, step by step.
-/
import Derived.Test.YtlpibobpfafooaaGreatDoorMdA
import Derived.Test.YtlpibobpfafooaaGreatDoorLinP
import Derived.ArgAppend
import Derived.Lib.ConvBytes
namespace Go.Proofs.Wy
open Go

/-- The eight bytes of a length in bits. -/
def len8 (x : Nat) : List UInt8 := le4 (x % 4294967296) ++ le4 (x / 4294967296 % 4294967296)
theorem len8_length (x : Nat) : (len8 x).length = 8 := rfl
theorem len8_at (x i : Nat) (h : i < 8) : (len8 x)[i]? = some (UInt8.ofNat (x / 2 ^ (8 * i) % 256)) := by
  have hc : ∀ m, m % 256 % 256 = m % 256 := fun m => by omega
  rcases i with _ | _ | _ | _ | _ | _ | _ | _ | i
  all_goals first | omega | skip
  all_goals
    simp only [len8, le4, List.cons_append, List.nil_append, List.getElem?_cons_zero, List.getElem?_cons_succ, Option.some.injEq]
    congr 1
    simp
    try omega
theorem len8_take (x i : Nat) (h : i < 8) : (len8 x).take (i + 1) = (len8 x).take i ++ [UInt8.ofNat (x / 2 ^ (8 * i) % 256)] := by
  rw [List.take_add_one, len8_at x i h]
  rfl
theorem len8_full (x : Nat) : (len8 x).take 8 = len8 x := rfl
theorem padL_eq (l : List UInt8) : padL l = (l ++ 128 :: List.replicate (padZ l.length) 0) ++ len8 (l.length * 8) := by
  unfold padL len8
  simp
theorem blocksN_step (n : Nat) : ∀ (q : Q4) (l : List UInt8), blocksN (n + 1) q l = blockN (blocksN n q l) ((l.drop (64 * n)).take 64) := by
  induction n with
  | zero => intro q l; simp [blocksN]
  | succ n ih =>
    intro q l
    have h := ih (blockN q (l.take 64)) (l.drop 64)
    rw [blocksN, h, List.drop_drop]
    show _ = blockN (blocksN n (blockN q (l.take 64)) (l.drop 64)) _
    have e : 64 + 64 * n = 64 * (n + 1) := by omega
    rw [e]
theorem blocksN_ok (n : Nat) : ∀ (q : Q4) (l : List UInt8), q.ok → (blocksN n q l).ok := by
  induction n with
  | zero => intro q l h; exact h
  | succ n ih => intro q l h; exact ih _ _ (blockN_ok _ _)
/-- Word i of four. -/
def Q4.at (q : Q4) (i : Nat) : Nat := if i = 0 then q.a else if i = 1 then q.b else if i = 2 then q.c else q.d
theorem outN_length (q : Q4) : (outN q).length = 16 := rfl
theorem outN_at (q : Q4) (i j : Nat) (hi : i < 4) (hj : j < 4) : (outN q)[4 * i + j]? = some (UInt8.ofNat (q.at i / 2 ^ (8 * j) % 256)) := by
  rcases i with _ | _ | _ | _ | i
  all_goals first | omega | skip
  all_goals
    rcases j with _ | _ | _ | _ | j
    all_goals first | omega | skip
    all_goals
      simp [outN, le4, Q4.at]
theorem outN_take (q : Q4) (i j : Nat) (hi : i < 4) (hj : j < 4) : (outN q).take (4 * i + (j + 1)) = (outN q).take (4 * i + j) ++ [UInt8.ofNat (q.at i / 2 ^ (8 * j) % 256)] := by
  rw [← Nat.add_assoc, List.take_add_one, outN_at q i j hi hj]
  rfl
theorem Q4.at_lt {q : Q4} (h : q.ok) (i : Nat) : q.at i < 4294967296 := by
  obtain ⟨h1, h2, h3, h4⟩ := h
  unfold Q4.at
  split <;> (try split) <;> (try split) <;> assumption
end Go.Proofs.Wy
/-
  Contracts at this seat: the reference's MD5: constants, turns, a block.
-/
set_option linter.unusedVariables false
set_option linter.unusedSimpArgs false
namespace Go.Proofs.YtlpibobpfafooaaGreatDoor.H
open Go.RowKit Go.Proofs.Wy Go.Proofs.YtlpibobpfafooaaGreatDoorW.PrintWords Go.Proofs

set_option maxRecDepth 100000 in
set_option maxHeartbeats 1000000 in
theorem sines_any (w : World) : Calls Tryz.prog 37 #[] w fun e w' => e = .returned (.slice (some ⟨w.heap.size, 0, none⟩) 64 64) ∧ w' = w.alloc (.cells sinA 73) := by
  go_enter Tryz.func37, Tryz.ntmps37
  go_wp2
  go_ret
  exact ⟨rfl, rfl⟩
def rot16 : Array Value := (rotT.map fun (x : Nat) => Value.int .i64 (x : Int)).toArray
set_option maxRecDepth 100000 in
set_option maxHeartbeats 1000000 in
theorem rturns_any (i : Nat) (w : World) (hi : i < 64) : Calls Tryz.prog 59 #[.int .i64 (i : Int)] w fun e w' => e = .returned (.int .i64 (rotN i)) ∧ Below w.heap.size w w' := by
  have hb : Below w.heap.size w (w.alloc (.cells rot16 3)) := (Below.refl _ w).alloc (Nat.le_refl _) _
  have hj : i / 16 * 4 + i % 4 < 16 := by omega
  have hc : ([.int .i64 7, .int .i64 12, .int .i64 17, .int .i64 22, .int .i64 5, .int .i64 9, .int .i64 14, .int .i64 20, .int .i64 4, .int .i64 11, .int .i64 16, .int .i64 23, .int .i64 6, .int .i64 10, .int .i64 15, .int .i64 21] : List Value)[i / 16 * 4 + i % 4]? = some (.int .i64 (rotN i)) := by
    have e : ([.int .i64 7, .int .i64 12, .int .i64 17, .int .i64 22, .int .i64 5, .int .i64 9, .int .i64 14, .int .i64 20, .int .i64 4, .int .i64 11, .int .i64 16, .int .i64 23, .int .i64 6, .int .i64 10, .int .i64 15, .int .i64 21] : List Value) = rotT.map fun (x : Nat) => Value.int .i64 (x : Int) := rfl
    have h16 : i / 16 * 4 + i % 4 < rotT.length := hj
    unfold rotN
    rw [e, List.getElem?_map, List.getElem?_eq_getElem h16, List.getD_eq_getElem?_getD, List.getElem?_eq_getElem h16]
    rfl
  have e0 : w.alloc (.cells rot16 3) = w.alloc (.cells #[.int .i64 7, .int .i64 12, .int .i64 17, .int .i64 22, .int .i64 5, .int .i64 9, .int .i64 14, .int .i64 20, .int .i64 4, .int .i64 11, .int .i64 16, .int .i64 23, .int .i64 6, .int .i64 10, .int .i64 15, .int .i64 21] 3) := rfl
  rw [e0] at hb
  have i1 : (i : Int).tdiv 16 = ((i / 16 : Nat) : Int) := by rw [Int.tdiv_eq_ediv_of_nonneg (by omega)]; omega
  have i2 : (i : Int).tmod 4 = ((i % 4 : Nat) : Int) := by rw [Int.tmod_eq_emod_of_nonneg (by omega)]; omega
  clear e0
  go_enter Tryz.func59, Tryz.ntmps59
  go_wp2
  go_ret
  exact ⟨by obtain ⟨_, e⟩ := List.getElem?_eq_some_iff.1 hc; exact congrArg Ending.returned e, hb⟩
end Go.Proofs.YtlpibobpfafooaaGreatDoor.H
/-
  Contract at this seat: the reference's MD5: a block.
-/
set_option linter.unusedVariables false
set_option linter.unusedSimpArgs false
namespace Go.Proofs.YtlpibobpfafooaaGreatDoor.H
open Go.RowKit Go.Proofs.Wy Go.Proofs.YtlpibobpfafooaaGreatDoorW.PrintWords Go.Proofs

def hA (a b c d : Nat) : Array Value := #[u32 a, u32 b, u32 c, u32 d]
def hQ (q : Q4) : Array Value := hA q.a q.b q.c q.d
/-- The words when i of the sixteen are laid. -/
def mA (l : List UInt8) (i : Nat) : Array Value := (((wordsN l).take i).map u32 ++ List.replicate (16 - i) (u32 0)).toArray
theorem mA_size (l : List UInt8) (i : Nat) (h : i ≤ 16) : (mA l i).size = 16 := by
  unfold mA
  have := wordsN_length l
  simp
  omega
theorem mA_next (l : List UInt8) (i : Nat) (h : i < 16) : (mA l i).setIfInBounds i (u32 (wordN l i)) = mA l (i + 1) := by
  have hw := wordsN_length l
  have hi : i < (wordsN l).length := by omega
  have e1 : (wordsN l)[i] = wordN l i := by simp [wordsN]
  unfold mA
  rw [List.setIfInBounds_toArray, List.take_succ_eq_append_getElem hi, List.map_append, e1]
  have e2 : List.replicate (16 - i) (u32 0) = u32 0 :: List.replicate (16 - (i + 1)) (u32 0) := by
    rw [← List.replicate_succ]
    congr 1
    omega
  rw [e2, List.set_append_right _ _ (by simp; omega)]
  have e3 : i - (List.map u32 ((wordsN l).take i)).length = 0 := by simp; omega
  rw [e3]
  simp
theorem mA_full (l : List UInt8) (j : Nat) (h : j < 16) : (mA l 16)[j]? = some (.int .u32 (((wordsN l).getD j 0 : Nat) : Int)) := by
  have hw := wordsN_length l
  have hj : j < (wordsN l).length := by omega
  unfold mA
  rw [List.take_of_length_le (by omega)]
  simp [List.getD_eq_getElem?_getD, hj, u32]
theorem word_or (b0 b1 b2 b3 : Nat) (h0 : b0 < 256) (h1 : b1 < 256) (h2 : b2 < 256) (h3 : b3 < 256) :
    ((b0 ||| (b1 * 256)) ||| (b2 * 65536)) ||| (b3 * 16777216) = b0 + 256 * b1 + 65536 * b2 + 16777216 * b3 := by
  have a1 := or_add b1 b0 8 (by omega)
  have a2 := or_add b2 (b0 + b1 * 2 ^ 8) 16 (by omega)
  have a3 := or_add b3 (b0 + b1 * 2 ^ 8 + b2 * 2 ^ 16) 24 (by omega)
  have e1 : (2 : Nat) ^ 8 = 256 := by decide
  have e2 : (2 : Nat) ^ 16 = 65536 := by decide
  have e3 : (2 : Nat) ^ 24 = 16777216 := by decide
  rw [e1] at a1 a2 a3
  rw [e2] at a2 a3
  rw [e3] at a3
  rw [a1, a2, a3]
  omega
theorem word_bits (b0 b1 b2 b3 : Nat) (h0 : b0 < 256) (h1 : b1 < 256) (h2 : b2 < 256) (h3 : b3 < 256) :
    Go.bits .or .u32 (Go.bits .or .u32 (Go.bits .or .u32 (IntKind.u32.wrap (b0 : Int)) (IntKind.u32.wrap (IntKind.u32.wrap (b1 : Int) * 256))) (IntKind.u32.wrap (IntKind.u32.wrap (b2 : Int) * 65536))) (IntKind.u32.wrap (IntKind.u32.wrap (b3 : Int) * 16777216)) =
      ((b0 + 256 * b1 + 65536 * b2 + 16777216 * b3 : Nat) : Int) := by
  have w0 : IntKind.u32.wrap (b0 : Int) = (b0 : Int) := wraps_u32 _ (by omega) (by omega)
  have w1 : IntKind.u32.wrap (b1 : Int) = (b1 : Int) := wraps_u32 _ (by omega) (by omega)
  have w2 : IntKind.u32.wrap (b2 : Int) = (b2 : Int) := wraps_u32 _ (by omega) (by omega)
  have w3 : IntKind.u32.wrap (b3 : Int) = (b3 : Int) := wraps_u32 _ (by omega) (by omega)
  have m1 : IntKind.u32.wrap ((b1 : Int) * 256) = ((b1 * 256 : Nat) : Int) := (wraps_u32 _ (by omega) (by omega)).trans (by omega)
  have m2 : IntKind.u32.wrap ((b2 : Int) * 65536) = ((b2 * 65536 : Nat) : Int) := (wraps_u32 _ (by omega) (by omega)).trans (by omega)
  have m3 : IntKind.u32.wrap ((b3 : Int) * 16777216) = ((b3 * 16777216 : Nat) : Int) := (wraps_u32 _ (by omega) (by omega)).trans (by omega)
  have o1 : b0 ||| b1 * 256 < 2 ^ 32 := Nat.or_lt_two_pow (by omega) (by omega)
  have o2 : (b0 ||| b1 * 256) ||| b2 * 65536 < 2 ^ 32 := Nat.or_lt_two_pow o1 (by omega)
  rw [w0, w1, w2, w3, m1, m2, m3, or_u32 b0 (b1 * 256) (by omega) (by omega), or_u32 _ (b2 * 65536) o1 (by omega), or_u32 _ (b3 * 16777216) o2 (by omega), word_or b0 b1 b2 b3 h0 h1 h2 h3]
theorem xor_full (b : Nat) (hb : b < 4294967296) : Go.bits .xor .u32 (b : Int) 4294967295 = ((notN b : Nat) : Int) := xor_u32 b 4294967295 (by omega) (by decide)
theorem mix0 (b c d : Nat) (hb : b < 4294967296) (hc : c < 4294967296) (hd : d < 4294967296) : Go.bits .or .u32 (Go.bits .and .u32 (b : Int) (c : Int)) (Go.bits .and .u32 (Go.bits .xor .u32 (b : Int) 4294967295) (d : Int)) = (((b &&& c) ||| (notN b &&& d) : Nat) : Int) := by
  rw [xor_full b hb, and_u32 b c (by omega) (by omega), and_u32 (notN b) d (by have := notN_lt hb; omega) (by omega), or_u32 _ _ (Nat.and_lt_two_pow _ (by omega)) (Nat.and_lt_two_pow _ (by omega))]
theorem mix2 (b c d : Nat) (hb : b < 4294967296) (hc : c < 4294967296) (hd : d < 4294967296) : Go.bits .xor .u32 (Go.bits .xor .u32 (b : Int) (c : Int)) (d : Int) = ((b ^^^ c ^^^ d : Nat) : Int) := by
  rw [xor_u32 b c (by omega) (by omega), xor_u32 _ d (Nat.xor_lt_two_pow (n := 32) (by omega) (by omega)) (by omega)]
theorem mix3 (b c d : Nat) (hb : b < 4294967296) (hc : c < 4294967296) (hd : d < 4294967296) : Go.bits .xor .u32 (c : Int) (Go.bits .or .u32 (b : Int) (Go.bits .xor .u32 (d : Int) 4294967295)) = ((c ^^^ (b ||| notN d) : Nat) : Int) := by
  have h := notN_lt hd
  rw [xor_full d hd, or_u32 b _ (by omega) (by omega), xor_u32 c _ (by omega) (Nat.or_lt_two_pow (n := 32) (by omega) (by omega))]
theorem rot_bits (x t : Nat) (hx : x < 4294967296) : Go.bits .or .u32 ((x : Int) * 2 ^ t % 4294967296) ((x : Int) / 2 ^ (32 - t)) = ((rotlN x t : Nat) : Int) := by
  have h2 : x * 2 ^ t % 4294967296 < 2 ^ 32 := Nat.mod_lt _ (by decide)
  have h3 : x / 2 ^ (32 - t) < 2 ^ 32 := Nat.lt_of_le_of_lt (Nat.div_le_self _ _) hx
  have h4 := or_u32 _ _ h2 h3
  have h5 : rotlN x t = x * 2 ^ t % 4294967296 ||| x / 2 ^ (32 - t) := rfl
  rw [h5, ← h4]
  rfl
theorem round_val (a b f kk xw rt : Nat) : ((b : Int) + Go.bits .or .u32 (((f : Int) + (a : Int) + (kk : Int) + (xw : Int)) % 4294967296 * 2 ^ rt % 4294967296) (((f : Int) + (a : Int) + (kk : Int) + (xw : Int)) % 4294967296 / 2 ^ (32 - rt))) % 4294967296 =
    (((b + rotlN ((a + f + kk + xw) % 4294967296) rt) % 4294967296 : Nat) : Int) := by
  have e : ((f : Int) + (a : Int) + (kk : Int) + (xw : Int)) % 4294967296 = (((a + f + kk + xw) % 4294967296 : Nat) : Int) := by omega
  rw [e, rot_bits _ _ (Nat.mod_lt _ (by decide))]
  omega
theorem make_16 (l : List UInt8) (w0 : World) : (Instr.makeSlice 74 (.int .i64 16) (.int .i64 16)).run Tryz.prog w0 = .ok (.slice (some ⟨w0.heap.size, 0, none⟩) 16 16) (w0.alloc (.cells (mA l 0) 73)) := by kernel_rfl
set_option maxHeartbeats 4000000 in
set_option maxRecDepth 10000 in
theorem block_any (hb bb o kb c1 c2 c3 : Nat) (q : Q4) (l : List UInt8) (w : World) (hq : q.ok) (hl : l.length = 64) (ho : o ≤ 1000000) (hH : w.heap[hb]? = some (.cells (hQ q) 73 (0, 0))) (hK : w.heap[kb]? = some (.cells sinA 73 (0, 0)))
    (hB : ∀ j, j < 64 → w.cell? ⟨bb, o + j, none⟩ = some (.int .u8 ((l.getD j 0).toNat : Int))) :
    Calls Tryz.prog 38 #[.slice (some ⟨hb, 0, none⟩) 4 c1, .slice (some ⟨bb, o, none⟩) 64 c2, .slice (some ⟨kb, 0, none⟩) 64 c3] w fun e w' => e = .returned (.tuple #[]) ∧ w'.heap[hb]? = some (.cells (hQ (blockN q l)) 73 (0, 0)) ∧ w.grownBy w' (some hb) := by
  have hmk := make_16 l
  have HH := Lib.hid hH
  have HK := Lib.hid hK
  have HB := Lib.hid hB
  have HQ := Lib.hid hq
  clear hH hK hB hq
  go_enter Tryz.func38, Tryz.ntmps38
  go_wp2_with fail
  clear hmk
  go_loopw [7] (fun v7 wr => ∃ k : Nat, k ≤ 16 ∧ v7 = .int .i64 (k : Int) ∧ Hid (wr.heap[w.heap.size]? = some (.cells (mA l k) 73 (0, 0))) ∧ Hid (Below w.heap.size w wr)) (fun v7 _ => 16 - (intOf v7).toNat)
  case atStart => exact ⟨0, Nat.zero_le _, rfl, Lib.hid (blk_new w _), Lib.hid ((Below.refl _ w).alloc (Nat.le_refl _) _)⟩
  case round =>
    obtain ⟨k, hk, rfl, hW, hBe⟩ := hrel
    by_cases hlt : k < 16
    · have d0 : wr.drew.cell? ⟨bb, o + 4 * k, none⟩ = some (.int .u8 ((l.getD (4 * k) 0).toNat : Int)) := pw_cell_below hBe.out (HB.out (4 * k) (by omega))
      have d1 : wr.drew.cell? ⟨bb, o + (4 * k + 1), none⟩ = some (.int .u8 ((l.getD (4 * k + 1) 0).toNat : Int)) := pw_cell_below hBe.out (HB.out (4 * k + 1) (by omega))
      have d2 : wr.drew.cell? ⟨bb, o + (4 * k + 2), none⟩ = some (.int .u8 ((l.getD (4 * k + 2) 0).toNat : Int)) := pw_cell_below hBe.out (HB.out (4 * k + 2) (by omega))
      have d3 : wr.drew.cell? ⟨bb, o + (4 * k + 3), none⟩ = some (.int .u8 ((l.getD (4 * k + 3) 0).toNat : Int)) := pw_cell_below hBe.out (HB.out (4 * k + 3) (by omega))
      have hfr : wr.drew.frozen? ⟨w.heap.size, k, none⟩ = false := blk_frozen (blk_drew hW.out) _
      have hold : ∃ old, wr.drew.cell? ⟨w.heap.size, k, none⟩ = some old := by
        rw [blk_cell (blk_drew hW.out) k]
        exact ⟨_, Array.getElem?_eq_getElem (by rw [mA_size l k hk]; exact hlt)⟩
      obtain ⟨old, hold⟩ := hold
      have hW1 : Hid (wr.drew.heap[w.heap.size]? = some (.cells (mA l k) 73 (0, 0))) := Lib.hid (blk_drew hW.out)
      have hB1 : Hid (Below w.heap.size w wr.drew) := Lib.hid (below_drew1 hBe.out)
      have hset := mA_next l k hlt
      have hwd : wordN l k = (l.getD (4 * k) 0).toNat + 256 * (l.getD (4 * k + 1) 0).toNat + 65536 * (l.getD (4 * k + 2) 0).toNat + 16777216 * (l.getD (4 * k + 3) 0).toNat := rfl
      have q0 := (l.getD (4 * k) 0).toNat_lt
      have q1 := (l.getD (4 * k + 1) 0).toNat_lt
      have q2 := (l.getD (4 * k + 2) 0).toNat_lt
      have q3 := (l.getD (4 * k + 3) 0).toNat_lt
      generalize (l.getD (4 * k) 0).toNat = b0 at d0 hwd q0
      generalize (l.getD (4 * k + 1) 0).toNat = b1 at d1 hwd q1
      generalize (l.getD (4 * k + 2) 0).toNat = b2 at d2 hwd q2
      generalize (l.getD (4 * k + 3) 0).toNat = b3 at d3 hwd q3
      have e_or := word_bits b0 b1 b2 b3 q0 q1 q2 q3
      rw [← hwd] at e_or
      have hset2 : (mA l k).setIfInBounds k (.int .u32 ((wordN l k : Nat) : Int)) = mA l (k + 1) := hset
      generalize wordN l k = y at e_or hset2
      have HSet := Lib.hid hset2
      clear hset hset2 hwd q0 q1 q2 q3 hW hBe
      go_wp2_with fail
      have i1 : IntKind.i64.wrap (4 * (k : Int)) = 4 * (k : Int) := IntWalk.i64_in _ (by omega)
      have i2 : IntKind.i64.wrap (4 * (k : Int) + 1) = 4 * (k : Int) + 1 := IntWalk.i64_in _ (by omega)
      have i3 : IntKind.i64.wrap (4 * (k : Int) + 2) = 4 * (k : Int) + 2 := IntWalk.i64_in _ (by omega)
      have i4 : IntKind.i64.wrap (4 * (k : Int) + 3) = 4 * (k : Int) + 3 := IntWalk.i64_in _ (by omega)
      have j1 : (0 : Int) ≤ 4 * (k : Int) ∧ 4 * (k : Int) < 64 := by omega
      have j2 : (0 : Int) ≤ 4 * (k : Int) + 1 ∧ 4 * (k : Int) + 1 < 64 := by omega
      have j3 : (0 : Int) ≤ 4 * (k : Int) + 2 ∧ 4 * (k : Int) + 2 < 64 := by omega
      have j4 : (0 : Int) ≤ 4 * (k : Int) + 3 ∧ 4 * (k : Int) + 3 < 64 := by omega
      have j5 : (k : Int) < 16 := by omega
      have t1 : (4 * (k : Int)).toNat = 4 * k := by omega
      have t2 : (4 * (k : Int) + 1).toNat = 4 * k + 1 := by omega
      have t3 : (4 * (k : Int) + 2).toNat = 4 * k + 2 := by omega
      have t4 : (4 * (k : Int) + 3).toNat = 4 * k + 3 := by omega
      refine wp_region_still_tail 36 (by kernel_rfl) (by kernel_rfl) ?_
      simp only [List.take_succ_cons, List.take_zero, List.drop_succ_cons, List.drop_zero]
      have hrec : ({ heap := wr.heap, tape := wr.tape, drawn := wr.drawn + 1, os := wr.os, output := wr.output } : World) = wr.drew := rfl
      rw [hrec]
      clear hrec
      generalize wr.drew = W2 at d0 d1 d2 d3 hold hfr hW1 hB1 ⊢
      repeat still_step
      refine wpStill_nil ?_
      clear i1 i2 i3 i4 j1 j2 j3 j4 t1 t2 t3 t4 d0 d1 d2 d3
      go_wp2_with fail
      go_roundw
      case rel => exact ⟨k + 1, by omega, by go_num, Lib.hid (blk_put hW1.out _ _ HSet.out), Lib.hid (hB1.out.setCell (Nat.le_refl _) _)⟩
      case measure => simp [intOf]; omega
    · have hk16 : k = 16 := by omega
      have hW1 : Hid (wr.heap[w.heap.size]? = some (.cells (mA l 16) 73 (0, 0))) := Lib.hid (by rw [← hk16]; exact hW.out)
      have zk : ¬ ((k : Int) < 16) := by omega
      have hX1 : Hid (wr.heap[hb]? = some (.cells (hQ q) 73 (0, 0))) := Lib.hid (blk_below HH.out hBe.out)
      have hK1 : Hid (wr.heap[kb]? = some (.cells sinA 73 (0, 0))) := Lib.hid (blk_below HK.out hBe.out)
      have c0 : wr.cell? ⟨hb, 0, none⟩ = some (.int .u32 (q.a : Int)) := (blk_cell hX1.out 0).trans rfl
      have c1' : wr.cell? ⟨hb, 1, none⟩ = some (.int .u32 (q.b : Int)) := (blk_cell hX1.out 1).trans rfl
      have c2' : wr.cell? ⟨hb, 2, none⟩ = some (.int .u32 (q.c : Int)) := (blk_cell hX1.out 2).trans rfl
      have c3' : wr.cell? ⟨hb, 3, none⟩ = some (.int .u32 (q.d : Int)) := (blk_cell hX1.out 3).trans rfl
      generalize (k : Int) = kk at zk ⊢
      clear hW hk16 hlt hk
      go_wp2_with fail
      go_quiet (fail)
      clear c0 c1' c2' c3'
      go_wp2_with fail
      have HWn : Hid ((wr.drewN nq).heap[w.heap.size]? = some (.cells (mA l 16) 73 (0, 0))) := Lib.hid (blk_drewN hW1.out _)
      have HXn : Hid ((wr.drewN nq).heap[hb]? = some (.cells (hQ q) 73 (0, 0))) := Lib.hid (blk_drewN hX1.out _)
      have HKn : Hid ((wr.drewN nq).heap[kb]? = some (.cells sinA 73 (0, 0))) := Lib.hid (blk_drewN hK1.out _)
      have HBn : Hid (Below w.heap.size w (wr.drewN nq)) := Lib.hid (pw_below_drewN hBe.out _)
      go_loopw [8, 9, 10, 11, 12, 13, 14, 15] (fun v8 v9 v10 v11 v12 v13 v14 v15 wr2 => ∃ (k2 : Nat) (p : Q4), k2 ≤ 64 ∧ v12 = .int .i64 (k2 : Int) ∧ v8 = .int .u32 (p.a : Int) ∧ v9 = .int .u32 (p.b : Int) ∧ v10 = .int .u32 (p.c : Int) ∧ v11 = .int .u32 (p.d : Int) ∧ Hid (p = roundsN (wordsN l) k2 q) ∧ Hid p.ok ∧
        Hid (wr2.heap[w.heap.size]? = some (.cells (mA l 16) 73 (0, 0))) ∧ Hid (wr2.heap[hb]? = some (.cells (hQ q) 73 (0, 0))) ∧ Hid (wr2.heap[kb]? = some (.cells sinA 73 (0, 0))) ∧ Hid (Below w.heap.size w wr2)) (fun _ _ _ _ v12 _ _ _ _ => 64 - (intOf v12).toNat)
      case atStart => exact ⟨0, q, Nat.zero_le _, rfl, rfl, rfl, rfl, rfl, Lib.hid rfl, HQ, HWn, HXn, HKn, HBn⟩
      case round =>
        clear HWn HXn HKn HBn hW1 hX1 hK1 hBe
        obtain ⟨k2, p, hk2, rfl, rfl, rfl, rfl, rfl, hp, hok, hW1, hX1, hK1, hB2⟩ := hrel
        by_cases hlt2 : k2 < 64
        · obtain ⟨ha, hb', hc', hd'⟩ := hok.out
          have hpick := pickN_lt k2 hlt2
          obtain ⟨hr0, hr1⟩ := rotN_in k2 hlt2
          have hcW : wr.cell? ⟨w.heap.size, pickN k2, none⟩ = some (.int .u32 (((wordsN l).getD (pickN k2) 0 : Nat) : Int)) := (blk_cell hW1.out _).trans (mA_full l _ hpick)
          have hcK : wr.cell? ⟨kb, k2, none⟩ = some (.int .u32 ((sinT.getD k2 0 : Nat) : Int)) := (blk_cell hK1.out _).trans (sinA_at k2 hlt2)
          have hp2 : Hid (roundN (wordsN l) k2 p = roundsN (wordsN l) (k2 + 1) q) := Lib.hid (by rw [hp.out]; rfl)
          have hok2 : Hid (roundN (wordsN l) k2 p).ok := Lib.hid (roundN_ok _ _ hok.out)
          have hrn : roundN (wordsN l) k2 p = ⟨p.d, (p.b + rotlN ((p.a + mixN k2 p.b p.c p.d + sinT.getD k2 0 + (wordsN l).getD (pickN k2) 0) % 4294967296) (rotN k2)) % 4294967296, p.b, p.c⟩ := rfl
          have HT := Lib.hid (fun w0 => rturns_any k2 w0 hlt2)
          have z64 : (k2 : Int) < 64 := by omega
          have h4 : k2 / 16 = 0 ∨ k2 / 16 = 1 ∨ k2 / 16 = 2 ∨ k2 / 16 = 3 := by omega
          rcases h4 with h4 | h4 | h4 | h4
          · have e_f : Go.bits .or .u32 (Go.bits .and .u32 (p.b : Int) (p.c : Int)) (Go.bits .and .u32 (Go.bits .xor .u32 (p.b : Int) 4294967295) (p.d : Int)) = ((mixN k2 p.b p.c p.d : Nat) : Int) := (mix0 p.b p.c p.d hb' hc' hd').trans (by unfold mixN; rw [if_pos h4])
            have e_g : pickN k2 = k2 := by unfold pickN; rw [if_pos h4]
            have e_d : (k2 : Int).tdiv 16 = 0 := by rw [Int.tdiv_eq_ediv_of_nonneg (by omega)]; omega
            have e_d2 : (k2 : Int) / 16 = 0 := by omega
            have z16 : (k2 : Int) < 16 := by omega
            rw [e_g] at hcW hpick hrn
            generalize (wordsN l).getD k2 0 = xw at hcW hrn
            generalize mixN k2 p.b p.c p.d = f at e_f hrn
            generalize sinT.getD k2 0 = kk2 at hcK hrn
            generalize rotN k2 = rt at HT hr0 hr1 hrn
            have HV := Lib.hid (round_val p.a p.b f kk2 xw rt)
            have HRn := Lib.hid hrn
            clear hrn ha hb' hc' hd' h4
            go_wp2_with fail
            go_quiet (fail)
            clear hcW hcK e_f
            go_wp2_with fail
            ((with_reducible refine (HT.out _).mono ?_); rintro e w1 ⟨rfl, hbt⟩)
            have HW2 : Hid (w1.heap[w.heap.size]? = some (.cells (mA l 16) 73 (0, 0))) := Lib.hid (map_below (blk_drewN hW1.out _) hbt)
            have HX2 : Hid (w1.heap[hb]? = some (.cells (hQ q) 73 (0, 0))) := Lib.hid (map_below (blk_drewN hX1.out _) hbt)
            have HK2 : Hid (w1.heap[kb]? = some (.cells sinA 73 (0, 0))) := Lib.hid (map_below (blk_drewN hK1.out _) hbt)
            have HB3 : Hid (Below w.heap.size w w1) := Lib.hid ((pw_below_drewN hB2.out _).trans (hbt.mono (pw_below_drewN hB2.out _).size))
            clear hbt
            go_wp2_with fail
            go_quiet (fail)
            go_wp2_with fail
            refine ⟨⟨k2 + 1, ⟨p.d, (p.b + rotlN ((p.a + f + kk2 + xw) % 4294967296) rt) % 4294967296, p.b, p.c⟩, by omega, by go_num, rfl, congrArg (Value.int .u32) HV.out, rfl, rfl, Lib.hid (by rw [← HRn.out]; exact hp2.out), Lib.hid (by rw [← HRn.out]; exact hok2.out), Lib.hid (blk_drewN HW2.out _), Lib.hid (blk_drewN HX2.out _), Lib.hid (blk_drewN HK2.out _), Lib.hid (pw_below_drewN HB3.out _)⟩, ?_⟩
            simp [intOf]; omega
          · have e_f : Go.bits .or .u32 (Go.bits .and .u32 (p.d : Int) (p.b : Int)) (Go.bits .and .u32 (Go.bits .xor .u32 (p.d : Int) 4294967295) (p.c : Int)) = ((mixN k2 p.b p.c p.d : Nat) : Int) := (mix0 p.d p.b p.c hd' hb' hc').trans (by unfold mixN; rw [if_neg (by omega), if_pos h4])
            have e_g : pickN k2 = (5 * k2 + 1) % 16 := by unfold pickN; rw [if_neg (by omega), if_pos h4]
            have e_d : (k2 : Int).tdiv 16 = 1 := by rw [Int.tdiv_eq_ediv_of_nonneg (by omega)]; omega
            have e_d2 : (k2 : Int) / 16 = 1 := by omega
            have e_i : (5 * (k2 : Int) + 1).tmod 16 = ((pickN k2 : Nat) : Int) := by rw [Int.tmod_eq_emod_of_nonneg (by omega), e_g]; omega
            have e_i2 : (5 * (k2 : Int) + 1) % 16 = ((pickN k2 : Nat) : Int) := by rw [e_g]; omega
            generalize pickN k2 = g at hcW hpick hrn e_i e_i2 e_g
            have zg : (g : Int) < 16 := by omega
            clear e_g
            generalize (wordsN l).getD g 0 = xw at hcW hrn
            generalize mixN k2 p.b p.c p.d = f at e_f hrn
            generalize sinT.getD k2 0 = kk2 at hcK hrn
            generalize rotN k2 = rt at HT hr0 hr1 hrn
            have HV := Lib.hid (round_val p.a p.b f kk2 xw rt)
            have HRn := Lib.hid hrn
            clear hrn ha hb' hc' hd' h4
            go_wp2_with fail
            go_quiet (fail)
            clear hcW hcK e_f
            go_wp2_with fail
            ((with_reducible refine (HT.out _).mono ?_); rintro e w1 ⟨rfl, hbt⟩)
            have HW2 : Hid (w1.heap[w.heap.size]? = some (.cells (mA l 16) 73 (0, 0))) := Lib.hid (map_below (blk_drewN hW1.out _) hbt)
            have HX2 : Hid (w1.heap[hb]? = some (.cells (hQ q) 73 (0, 0))) := Lib.hid (map_below (blk_drewN hX1.out _) hbt)
            have HK2 : Hid (w1.heap[kb]? = some (.cells sinA 73 (0, 0))) := Lib.hid (map_below (blk_drewN hK1.out _) hbt)
            have HB3 : Hid (Below w.heap.size w w1) := Lib.hid ((pw_below_drewN hB2.out _).trans (hbt.mono (pw_below_drewN hB2.out _).size))
            clear hbt
            go_wp2_with fail
            go_quiet (fail)
            go_wp2_with fail
            refine ⟨⟨k2 + 1, ⟨p.d, (p.b + rotlN ((p.a + f + kk2 + xw) % 4294967296) rt) % 4294967296, p.b, p.c⟩, by omega, by go_num, rfl, congrArg (Value.int .u32) HV.out, rfl, rfl, Lib.hid (by rw [← HRn.out]; exact hp2.out), Lib.hid (by rw [← HRn.out]; exact hok2.out), Lib.hid (blk_drewN HW2.out _), Lib.hid (blk_drewN HX2.out _), Lib.hid (blk_drewN HK2.out _), Lib.hid (pw_below_drewN HB3.out _)⟩, ?_⟩
            simp [intOf]; omega
          · have e_f : Go.bits .xor .u32 (Go.bits .xor .u32 (p.b : Int) (p.c : Int)) (p.d : Int) = ((mixN k2 p.b p.c p.d : Nat) : Int) := (mix2 p.b p.c p.d hb' hc' hd').trans (by unfold mixN; rw [if_neg (by omega), if_neg (by omega), if_pos h4])
            have e_g : pickN k2 = (3 * k2 + 5) % 16 := by unfold pickN; rw [if_neg (by omega), if_neg (by omega), if_pos h4]
            have e_d : (k2 : Int).tdiv 16 = 2 := by rw [Int.tdiv_eq_ediv_of_nonneg (by omega)]; omega
            have e_d2 : (k2 : Int) / 16 = 2 := by omega
            have e_i : (3 * (k2 : Int) + 5).tmod 16 = ((pickN k2 : Nat) : Int) := by rw [Int.tmod_eq_emod_of_nonneg (by omega), e_g]; omega
            have e_i2 : (3 * (k2 : Int) + 5) % 16 = ((pickN k2 : Nat) : Int) := by rw [e_g]; omega
            generalize pickN k2 = g at hcW hpick hrn e_i e_i2 e_g
            have zg : (g : Int) < 16 := by omega
            clear e_g
            generalize (wordsN l).getD g 0 = xw at hcW hrn
            generalize mixN k2 p.b p.c p.d = f at e_f hrn
            generalize sinT.getD k2 0 = kk2 at hcK hrn
            generalize rotN k2 = rt at HT hr0 hr1 hrn
            have HV := Lib.hid (round_val p.a p.b f kk2 xw rt)
            have HRn := Lib.hid hrn
            clear hrn ha hb' hc' hd' h4
            go_wp2_with fail
            go_quiet (fail)
            clear hcW hcK e_f
            go_wp2_with fail
            ((with_reducible refine (HT.out _).mono ?_); rintro e w1 ⟨rfl, hbt⟩)
            have HW2 : Hid (w1.heap[w.heap.size]? = some (.cells (mA l 16) 73 (0, 0))) := Lib.hid (map_below (blk_drewN hW1.out _) hbt)
            have HX2 : Hid (w1.heap[hb]? = some (.cells (hQ q) 73 (0, 0))) := Lib.hid (map_below (blk_drewN hX1.out _) hbt)
            have HK2 : Hid (w1.heap[kb]? = some (.cells sinA 73 (0, 0))) := Lib.hid (map_below (blk_drewN hK1.out _) hbt)
            have HB3 : Hid (Below w.heap.size w w1) := Lib.hid ((pw_below_drewN hB2.out _).trans (hbt.mono (pw_below_drewN hB2.out _).size))
            clear hbt
            go_wp2_with fail
            go_quiet (fail)
            go_wp2_with fail
            refine ⟨⟨k2 + 1, ⟨p.d, (p.b + rotlN ((p.a + f + kk2 + xw) % 4294967296) rt) % 4294967296, p.b, p.c⟩, by omega, by go_num, rfl, congrArg (Value.int .u32) HV.out, rfl, rfl, Lib.hid (by rw [← HRn.out]; exact hp2.out), Lib.hid (by rw [← HRn.out]; exact hok2.out), Lib.hid (blk_drewN HW2.out _), Lib.hid (blk_drewN HX2.out _), Lib.hid (blk_drewN HK2.out _), Lib.hid (pw_below_drewN HB3.out _)⟩, ?_⟩
            simp [intOf]; omega
          · have e_f : Go.bits .xor .u32 (p.c : Int) (Go.bits .or .u32 (p.b : Int) (Go.bits .xor .u32 (p.d : Int) 4294967295)) = ((mixN k2 p.b p.c p.d : Nat) : Int) := (mix3 p.b p.c p.d hb' hc' hd').trans (by unfold mixN; rw [if_neg (by omega), if_neg (by omega), if_neg (by omega)])
            have e_g : pickN k2 = 7 * k2 % 16 := by unfold pickN; rw [if_neg (by omega), if_neg (by omega), if_neg (by omega)]
            have e_d : (k2 : Int).tdiv 16 = 3 := by rw [Int.tdiv_eq_ediv_of_nonneg (by omega)]; omega
            have e_d2 : (k2 : Int) / 16 = 3 := by omega
            have e_i : (7 * (k2 : Int)).tmod 16 = ((pickN k2 : Nat) : Int) := by rw [Int.tmod_eq_emod_of_nonneg (by omega), e_g]; omega
            have e_i2 : (7 * (k2 : Int)) % 16 = ((pickN k2 : Nat) : Int) := by rw [e_g]; omega
            generalize pickN k2 = g at hcW hpick hrn e_i e_i2 e_g
            have zg : (g : Int) < 16 := by omega
            clear e_g
            generalize (wordsN l).getD g 0 = xw at hcW hrn
            generalize mixN k2 p.b p.c p.d = f at e_f hrn
            generalize sinT.getD k2 0 = kk2 at hcK hrn
            generalize rotN k2 = rt at HT hr0 hr1 hrn
            have HV := Lib.hid (round_val p.a p.b f kk2 xw rt)
            have HRn := Lib.hid hrn
            clear hrn ha hb' hc' hd' h4
            go_wp2_with fail
            go_quiet (fail)
            clear hcW hcK e_f
            go_wp2_with fail
            ((with_reducible refine (HT.out _).mono ?_); rintro e w1 ⟨rfl, hbt⟩)
            have HW2 : Hid (w1.heap[w.heap.size]? = some (.cells (mA l 16) 73 (0, 0))) := Lib.hid (map_below (blk_drewN hW1.out _) hbt)
            have HX2 : Hid (w1.heap[hb]? = some (.cells (hQ q) 73 (0, 0))) := Lib.hid (map_below (blk_drewN hX1.out _) hbt)
            have HK2 : Hid (w1.heap[kb]? = some (.cells sinA 73 (0, 0))) := Lib.hid (map_below (blk_drewN hK1.out _) hbt)
            have HB3 : Hid (Below w.heap.size w w1) := Lib.hid ((pw_below_drewN hB2.out _).trans (hbt.mono (pw_below_drewN hB2.out _).size))
            clear hbt
            go_wp2_with fail
            go_quiet (fail)
            go_wp2_with fail
            refine ⟨⟨k2 + 1, ⟨p.d, (p.b + rotlN ((p.a + f + kk2 + xw) % 4294967296) rt) % 4294967296, p.b, p.c⟩, by omega, by go_num, rfl, congrArg (Value.int .u32) HV.out, rfl, rfl, Lib.hid (by rw [← HRn.out]; exact hp2.out), Lib.hid (by rw [← HRn.out]; exact hok2.out), Lib.hid (blk_drewN HW2.out _), Lib.hid (blk_drewN HX2.out _), Lib.hid (blk_drewN HK2.out _), Lib.hid (pw_below_drewN HB3.out _)⟩, ?_⟩
            simp [intOf]; omega
        · have hk64 : k2 = 64 := by omega
          have HP : Hid (addN q p = blockN q l) := Lib.hid (by rw [hp.out, hk64]; rfl)
          have HG : Hid (w.grownBy wr (some hb)) := Lib.hid (grown_of_below hB2.out _)
          have z64 : ¬ ((k2 : Int) < 64) := by omega
          generalize (k2 : Int) = kk2 at z64 ⊢
          clear hp hok hW1 hK1 hB2 hk2 hk64 hlt2
          have c0 : wr.cell? ⟨hb, 0, none⟩ = some (.int .u32 (q.a : Int)) := (blk_cell hX1.out 0).trans rfl
          have c1' : wr.cell? ⟨hb, 1, none⟩ = some (.int .u32 (q.b : Int)) := (blk_cell hX1.out 1).trans rfl
          have c2' : wr.cell? ⟨hb, 2, none⟩ = some (.int .u32 (q.c : Int)) := (blk_cell hX1.out 2).trans rfl
          have c3' : wr.cell? ⟨hb, 3, none⟩ = some (.int .u32 (q.d : Int)) := (blk_cell hX1.out 3).trans rfl
          have f0 : wr.frozen? ⟨hb, 0, none⟩ = false := blk_frozen hX1.out 0
          have f1 : wr.frozen? ⟨hb, 1, none⟩ = false := blk_frozen hX1.out 1
          have f2 : wr.frozen? ⟨hb, 2, none⟩ = false := blk_frozen hX1.out 2
          have f3 : wr.frozen? ⟨hb, 3, none⟩ = false := blk_frozen hX1.out 3
          go_wp2_with fail
          clear c0 c1' c2' c3' f0 f1 f2 f3
          go_end0
          have e0 : Value.int .u32 (((q.a : Int) + (p.a : Int)) % 4294967296) = Go.Proofs.YtlpibobpfafooaaGreatDoor.H.u32 ((q.a + p.a) % 4294967296) := congrArg (Value.int .u32) (by omega)
          have e1 : Value.int .u32 (((q.b : Int) + (p.b : Int)) % 4294967296) = Go.Proofs.YtlpibobpfafooaaGreatDoor.H.u32 ((q.b + p.b) % 4294967296) := congrArg (Value.int .u32) (by omega)
          have e2 : Value.int .u32 (((q.c : Int) + (p.c : Int)) % 4294967296) = Go.Proofs.YtlpibobpfafooaaGreatDoor.H.u32 ((q.c + p.c) % 4294967296) := congrArg (Value.int .u32) (by omega)
          have e3 : Value.int .u32 (((q.d : Int) + (p.d : Int)) % 4294967296) = Go.Proofs.YtlpibobpfafooaaGreatDoor.H.u32 ((q.d + p.d) % 4294967296) := congrArg (Value.int .u32) (by omega)
          refine ⟨rfl, ?_, grown_set (grown_set (grown_set (grown_set HG.out _ _) _ _) _ _) _ _⟩
          rw [e0, e1, e2, e3, ← HP.out]
          exact blk_put (blk_put (blk_put (blk_put (cs' := hA ((q.a + p.a) % 4294967296) q.b q.c q.d) hX1.out 0 _ rfl) (cs' := hA ((q.a + p.a) % 4294967296) ((q.b + p.b) % 4294967296) q.c q.d) 1 _ rfl) (cs' := hA ((q.a + p.a) % 4294967296) ((q.b + p.b) % 4294967296) ((q.c + p.c) % 4294967296) q.d) 2 _ rfl) 3 _ rfl
end Go.Proofs.YtlpibobpfafooaaGreatDoor.H
/-
  Appending to a row of bytes that []byte(s) made (its block bears a conversion's mark), or that is the call's own.
-/
set_option linter.unusedVariables false
set_option linter.unusedSimpArgs false
namespace Go.Proofs.YtlpibobpfafooaaGreatDoor.H
open Go.RowKit Go.Proofs.Wy Go.Proofs.YtlpibobpfafooaaGreatDoorW.PrintWords Go.Proofs

/-- A row of bytes made by the call; no cell of its block is frozen. -/
def MRow (w : World) (base : Nat) (v : Value) (xs : List Value) : Prop :=
  ∃ g cap cur fz, v = .slice (some ⟨g, 0, none⟩) xs.length cap ∧ base ≤ g ∧ w.heap[g]? = some (.cells cur 5 fz) ∧ (fz.2 = 0 ∨ cap ≤ fz.1) ∧ xs.length ≤ cap ∧ cap ≤ maxLen ∧ cur.size = cap ∧ cur.toList.take xs.length = xs
theorem set_mark {w : World} {g : Nat} {t : TypeId} {cs : Array Value} {fz : Nat × Nat} (h : w.heap[g]? = some (.cells cs t fz)) (i : Nat) (u : Value) : (w.setCell ⟨g, i, none⟩ u).heap[g]? = some (.cells (cs.setIfInBounds i u) t fz) := by
  simp [World.setCell, Array.getElem?_modify, h]
theorem MRow.cell {w : World} {base : Nat} {v : Value} {xs : List Value} (h : MRow w base v xs) : ∃ g cap, v = .slice (some ⟨g, 0, none⟩) xs.length cap ∧ base ≤ g ∧ g < w.heap.size ∧ xs.length ≤ cap ∧ ∀ j u, xs[j]? = some u → w.cell? ⟨g, j, none⟩ = some u := by
  obtain ⟨g, cap, cur, fz, hv, hb, hg, hf, hl, hm, hs, ht⟩ := h
  refine ⟨g, cap, hv, hb, blk_lt hg, hl, fun j u hj => ?_⟩
  have hjl : j < xs.length := (List.getElem?_eq_some_iff.1 hj).1
  rw [← ht, List.getElem?_take, if_pos hjl] at hj
  simp [World.cell?, hg]
  simpa using hj
theorem MRow.grown {w w1 : World} {base : Nat} {v : Value} {xs : List Value} (h : MRow w base v xs) (hb : Below w.heap.size w w1) : MRow w1 base v xs := by
  obtain ⟨g, cap, cur, fz, hv, hbg, hg, hf, hl, hm, hs, ht⟩ := h
  exact ⟨g, cap, cur, fz, hv, hbg, map_below hg hb, hf, hl, hm, hs, ht⟩
theorem mrow_run (W : World) (base : Nat) (ty : TypeId) (v : Value) (xs : List Value) (y : Value) (h1 : y.oneCell' = true) (HO : MRow W base v xs) (hbase : base ≤ W.heap.size) (hl : xs.length + 1 ≤ 140737488355328) :
    ∃ v' w', (Builtin.append_ #[34, 34] ty #[v, .slice (some ⟨W.heap.size, 0, none⟩) 1 1]).run Tryz.prog (W.alloc (.cells #[y] 5)) = .ok v' w' ∧ MRow w' base v' (xs ++ [y]) ∧ (W.alloc (.cells #[y] 5)).grownBy w' v.ownBlock := by
  obtain ⟨i0, hi, hzz⟩ := Option.map_eq_some_iff.1 info_u8
  simp only [Prod.mk.injEq] at hzz
  obtain ⟨hz0, hz1, hz2⟩ := hzz
  obtain ⟨g, cap, cur, fz, rfl, hbg, hg, hf, hlc, hm, hs, ht⟩ := HO
  have hg1 : (W.alloc (.cells #[y] 5)).heap[g]? = some (.cells cur 5 fz) := map_below hg ((Below.refl _ _).alloc (Nat.le_refl _) _)
  have hnews := World.news_of_block (w := W.alloc (.cells #[y] 5)) (cs := #[y]) (t := 5) (fr := (0, 0)) (heap_alloc_new W _)
  have hlx : (xs ++ [y]).length = xs.length + 1 := by simp
  by_cases hroom : xs.length + 1 ≤ cap
  · have hr := run_append_room_cells (P := Tryz.prog) (W.alloc (.cells #[y] 5)) 34 ty 5 i0 Tryz.underlying34 hi g 0 xs.length cap ⟨W.heap.size, 0, none⟩ 1 1 [y] (by rw [hz1]; rfl) hnews (by simpa using h1) hroom
      (fun j hj => by
        have hj0 : j = 0 := by simp only [List.length_cons, List.length_nil] at hj; omega
        subst hj0
        rw [hz1]
        simp [World.cell?, hg1]
        omega)
      (fun j hj => by
        have hj0 : j = 0 := by simp only [List.length_cons, List.length_nil] at hj; omega
        subst hj0
        obtain ⟨f1, f2⟩ := fz
        rw [hz1]
        simp only [World.frozen?, hg1, Bool.and_eq_false_iff, decide_eq_false_iff_not]
        rcases hf with hf | hf
        · right; simp only at hf; omega
        · left; simp only at hf; omega)
    rw [hz1] at hr
    refine ⟨_, _, hr, ⟨g, cap, cur.setIfInBounds xs.length y, fz, by rw [hlx], hbg, ?_, hf, by rw [hlx]; exact hroom, hm, by simpa using hs, ?_⟩, ?_⟩
    · simp only [World.setCells, Nat.mul_one, Nat.zero_add]
      exact set_mark hg1 _ _
    · have hcl : cur.toList.length = cap := by rw [Array.length_toList]; exact hs
      rw [hlx, Array.toList_setIfInBounds, List.take_succ_eq_append_getElem (by rw [List.length_set]; omega), List.getElem_set_self, List.take_set, ht, List.set_eq_of_length_le (Nat.le_refl _)]
    · simp only [World.setCells, Nat.mul_one, Nat.zero_add]
      exact grown_set ⟨rfl, rfl, rfl, Nat.le_refl _, fun _ _ _ => rfl⟩ _ _
  · have holds : ∀ j u, xs[j]? = some u → (W.alloc (.cells #[y] 5)).cell? ((⟨g, 0, none⟩ : Addr).add j) = some u := by
      intro j u hj
      have hjl : j < xs.length := (List.getElem?_eq_some_iff.1 hj).1
      rw [← ht, List.getElem?_take, if_pos hjl] at hj
      have ha : (⟨g, 0, none⟩ : Addr).add j = ⟨g, j, none⟩ := by unfold Addr.add; split <;> simp_all
      rw [ha]
      simp [World.cell?, hg1]
      simpa using hj
    obtain ⟨v', w', hr, hown, hgr⟩ := run_append_arg_grows (P := Tryz.prog) (W.alloc (.cells #[y] 5)) 34 ty 5 i0 (.int .u8 0) 1 1 Tryz.underlying34 hi hz0 hz1 hz2 rfl (by decide) ⟨g, 0, none⟩ xs.length cap xs (by simp) holds
      ⟨W.heap.size, 0, none⟩ 1 1 [y] rfl hnews (by omega) (by simp only [maxLen]; omega) (by omega)
    refine ⟨v', w', hr, ?_, ⟨hgr.os, hgr.tape, hgr.output, hgr.size, fun k hk _ => hgr.block k hk (by simp)⟩⟩
    rcases hown.2 with ⟨_, h0⟩ | ⟨g2, cap2, cur2, rfl, hb2, hg2, hn2, hm2, hc2, ht2⟩
    · omega
    · exact ⟨g2, cap2, cur2, (0, 0), by rw [hlx], Nat.le_trans hbase (by simp at hb2; omega), hg2, .inl rfl, by rw [hlx]; exact hn2, hm2, by simpa using hc2, by rw [hlx]; simpa using ht2⟩
theorem MRow.base_le {w : World} {base : Nat} {v : Value} {xs : List Value} (h : MRow w base v xs) : ∀ g, v.ownBlock = some g → base ≤ g := by
  obtain ⟨g, cap, cur, fz, rfl, hb, _⟩ := h
  intro g' hg'
  simp only [Value.ownBlock, Option.some.injEq] at hg'
  omega
section
variable {ops : Array Oper} {rest : List Oper} {o : Oper} {a : Act} {Q : Exit → Act → World → Prop}
theorem mrow_append {w0 W : World} (base : Nat) (hgd : o.guard = none) (s x : Operand)
    (ho : o.op = .call { callee := .builtin .append, args := #[s, x], argTypes := #[34, 34] })
    (v : Value) (xs : List Value) (y : Value) (hs : a.eval s = v) (hx : a.eval x = .slice (some ⟨W.heap.size, 0, none⟩) 1 1) (h1 : y.oneCell' = true)
    (HO : MRow W base v xs) (HB : Below base w0 W) (hbase : base ≤ W.heap.size) (hl : xs.length + 1 ≤ 140737488355328)
    (h : ∀ v1 w1, MRow w1 base v1 (xs ++ [y]) → Below base w0 w1 → W.grownBy w1 v.ownBlock → wpList Tryz.prog ops Q rest (a.put o.dst v1) w1) :
    wpList Tryz.prog ops Q (o :: rest) a (W.alloc (.cells #[y] 5)) := by
  refine wpList_plain hgd fun K hK => ?_
  obtain ⟨v', w', hr, h2, h3⟩ := mrow_run W base o.type v xs y h1 HO hbase hl
  unfold Oper.wp execOp
  simp only [ho, resolve, invoke, builtin, Sem.run_bind, Sem.run_pure, Result.andThen_ok, List.map_toArray, List.map_cons, List.map_nil, hs, hx, hr]
  exact hK _ _ (h v' w' h2 ((HB.alloc hbase _).grown h3 (by simp; omega) HO.base_le) (World.grownBy.trans (World.grownBy_alloc W _ _) h3))
end
theorem mrow_conv (W : World) (base : Nat) (s : ByteArray) (hbase : base ≤ W.heap.size) (hs : s.size ≤ maxLen) : MRow (Lib.bytesWorld W 5 s) base (.slice (some ⟨W.heap.size, 0, none⟩) s.size (grownCap W s.size 0 5)) (Lib.strCells s) := by
  have hge := grownCap_ge W s.size 0 5
  have hle := grownCap_le_maxLen W s.size 0 5 hs
  have hsz : (Lib.bytesCells W 5 s).size = grownCap W s.size 0 5 := by
    unfold Lib.bytesCells
    rw [Array.size_append, Array.size_map, Array.size_replicate]
    show s.size + _ = _
    omega
  have hlen := Lib.strCells_length s
  refine ⟨W.heap.size, grownCap W s.size 0 5, Lib.bytesCells W 5 s, _, by rw [hlen], hbase, Lib.bytesWorld_at_new W _ s, .inr (by rw [hsz]; exact Nat.le_refl _), by rw [hlen]; exact hge, hle, hsz, ?_⟩
  rw [hlen]
  unfold Lib.bytesCells Lib.strCells
  rw [Array.toList_append, Array.toList_map]
  have e : (s.data.toList.map fun b => Value.int .u8 (b.toNat : Int)).length = s.size := by simp
  rw [← e]
  exact List.take_left
theorem below_conv (W : World) (s : ByteArray) : Below W.heap.size W (Lib.bytesWorld W 5 s) :=
  ⟨rfl, rfl, rfl, by rw [Lib.bytesWorld_size]; omega, fun k hk => Lib.bytesWorld_at_old W _ s k hk⟩
end Go.Proofs.YtlpibobpfafooaaGreatDoor.H
/-
  Contract at this seat: the reference's MD5.
-/
set_option linter.unusedVariables false
set_option linter.unusedSimpArgs false
namespace Go.Proofs.YtlpibobpfafooaaGreatDoor.H
open Go.RowKit Go.Proofs.Wy Go.Proofs.YtlpibobpfafooaaGreatDoorW.PrintWords Go.Proofs

theorem u64_id (x : Int) (h0 : 0 ≤ x) (h1 : x < 18446744073709551616) : IntKind.u64.wrap x = x := by
  simp only [IntKind.wrap, IntKind.bits, IntKind.signed]
  simp
  omega
theorem low8 (n : Nat) : n &&& 255 = n % 256 := Nat.and_two_pow_sub_one_eq_mod n 8
theorem low_u32 (n : Nat) (h : n < 4294967296) : Go.bits .and .u32 (n : Int) 255 % 256 = ((n % 256 : Nat) : Int) := by
  have e := and_u32 n 255 h (by decide)
  rw [low8] at e
  have e2 : Go.bits .and .u32 (n : Int) 255 = ((n % 256 : Nat) : Int) := e
  rw [e2]
  omega
theorem low_u64 (n : Nat) (h : n < 18446744073709551616) : Go.bits .and .u64 (n : Int) 255 % 256 = ((n % 256 : Nat) : Int) := by
  have hn : n % 2 ^ IntKind.u64.bits = n := Nat.mod_eq_of_lt h
  have hm : 255 % 2 ^ IntKind.u64.bits = 255 := by decide
  have e2 : Go.bits .and .u64 (n : Int) ((255 : Nat) : Int) = ((n % 256 : Nat) : Int) := by
    simp only [Go.bits, BitVec.ofInt_natCast, BitVec.toNat_and, BitVec.toNat_ofNat, hn, hm, low8]
    exact u64_id _ (by omega) (by omega)
  have e3 : Go.bits .and .u64 (n : Int) 255 = ((n % 256 : Nat) : Int) := e2
  rw [e3]
  omega
def bV (L : List UInt8) : List Value := L.map fun b => Value.int .u8 (b.toNat : Int)
theorem bV_len (L : List UInt8) : (bV L).length = L.length := by simp [bV]
def sliceLen (v : Value) : Nat := match v with | .slice _ n _ => n | _ => 0
theorem conv_run (s : ByteArray) (W : World) : (convert 9 34 (.string s)).run Tryz.prog W = .ok (.slice (some ⟨W.heap.size, 0, none⟩) s.size (grownCap W s.size 0 5)) (Lib.bytesWorld W 5 s) :=
  Lib.run_convert_string_bytes W 9 34 5 s Tryz.underlying9 Tryz.underlying34 Tryz.underlying5
theorem MRow.block {w : World} {base g n cap : Nat} {xs : List Value} (h : MRow w base (.slice (some ⟨g, 0, none⟩) n cap) xs) :
    ∃ O, w.heap[g]? = some O ∧ n ≤ cap ∧ base ≤ g ∧ n = xs.length ∧ ∀ w' : World, w'.heap[g]? = some O → ∀ j u, xs[j]? = some u → w'.cell? ⟨g, j, none⟩ = some u := by
  obtain ⟨g', cap', cur, fz, hv, hb, hg, hf, hl, hm, hs, ht⟩ := h
  simp only [Value.slice.injEq, Option.some.injEq, Addr.mk.injEq, and_true, true_and] at hv
  obtain ⟨rfl, rfl, rfl⟩ := hv
  refine ⟨_, hg, hl, hb, rfl, fun w' hg' j u hj => ?_⟩
  have hjl : j < xs.length := (List.getElem?_eq_some_iff.1 hj).1
  rw [← ht, List.getElem?_take, if_pos hjl] at hj
  simp [World.cell?, hg']
  simpa using hj
theorem bV_at (L : List UInt8) (j : Nat) (h : j < L.length) : (bV L)[j]? = some (.int .u8 ((L.getD j 0).toNat : Int)) := by
  simp [bV, h, List.getD_eq_getElem?_getD]
theorem getD_cut (L : List UInt8) (o j : Nat) (hj : j < 64) : ((L.drop o).take 64).getD j 0 = L.getD (o + j) 0 := by
  simp [List.getD_eq_getElem?_getD, List.getElem?_take, hj]
theorem hQ_at (q : Q4) (i : Nat) (h : i < 4) : (hQ q)[i]? = some (.int .u32 (q.at i : Int)) := by
  rcases i with _ | _ | _ | _ | i
  · rfl
  · rfl
  · rfl
  · rfl
  · omega
theorem nbs_snoc (l : List UInt8) (n : Nat) (h : n < 256) : nbs (l ++ [UInt8.ofNat n]) = nbs l ++ [(n : Int)] := by
  simp [nbs]
  omega
set_option maxHeartbeats 4000000 in
theorem rmd5_any (s : ByteArray) (w : World) (hs : s.size ≤ 100000) :
    Calls Tryz.prog 20 #[.string s] w fun e w' => e = .returned (.string ⟨(md5L s.data.toList).toArray⟩) ∧ Below w.heap.size w w' := by
  have hcv := conv_run s
  go_enter Tryz.func20, Tryz.ntmps20
  go_wp2_with fail
  ((with_reducible refine (sines_any _).mono ?_); rintro e w1 ⟨rfl, rfl⟩)
  have HH : Hid (((w.alloc (.cells (hQ q0) 73)).alloc (.cells sinA 73)).heap[w.heap.size]? = some (.cells (hQ q0) 73 (0, 0))) := Lib.hid (map_below (blk_new w _) ((Below.refl _ _).alloc (Nat.le_refl _) _))
  have HK : Hid (((w.alloc (.cells (hQ q0) 73)).alloc (.cells sinA 73)).heap[w.heap.size + 1]? = some (.cells sinA 73 (0, 0))) := Lib.hid (by
    have z : (w.alloc (.cells (hQ q0) 73)).heap.size = w.heap.size + 1 := by simp
    rw [← z]
    exact blk_new _ _)
  have HB0 : Hid (Below w.heap.size w ((w.alloc (.cells (hQ q0) 73)).alloc (.cells sinA 73))) := Lib.hid (((Below.refl _ w).alloc (Nat.le_refl _) _).alloc (by simp) _)
  have e0 : (w.alloc (.cells (hQ q0) 73)) = w.alloc (.cells #[.int .u32 1732584193, .int .u32 4023233417, .int .u32 2562383102, .int .u32 271733878] 73) := rfl
  rw [e0] at HH HK HB0
  have hz : ((w.alloc (.cells #[.int .u32 1732584193, .int .u32 4023233417, .int .u32 2562383102, .int .u32 271733878] 73)).alloc (.cells sinA 73)).heap.size = w.heap.size + 2 := by simp
  clear e0
  generalize ((w.alloc (.cells #[.int .u32 1732584193, .int .u32 4023233417, .int .u32 2562383102, .int .u32 271733878] 73)).alloc (.cells sinA 73)) = W2 at HH HK HB0 hz ⊢
  have hmx : s.size ≤ maxLen := by simp only [maxLen]; omega
  have HM := mrow_conv W2 W2.heap.size s (Nat.le_refl _) hmx
  have HC := below_conv W2 s
  have hlen : s.data.toList.length = s.size := Array.length_toList
  have HZ := Lib.hid hz
  clear hz
  go_wp2_with (at_builtin; refine mrow_append (w0 := W2) W2.heap.size rfl (.tmp 15) (.tmp 16) rfl _ (bV s.data.toList) (.int .u8 128) rfl rfl rfl HM HC HC.size ?aL ?_; (case aL => (rw [bV_len]; omega)); intro v5 w5 ho hb hg; have HM5 : Hid (MRow w5 W2.heap.size v5 (bV (s.data.toList ++ 128 :: List.replicate 0 0))) := Lib.hid (by have h := ho; simpa [bV] using h); have HB5 := Lib.hid hb; clear ho hb hg)
  clear HM HC
  go_loopw [5] (fun v5 wr => ∃ m : Nat, m ≤ padZ s.data.toList.length ∧ Hid (MRow wr W2.heap.size v5 (bV (s.data.toList ++ 128 :: List.replicate m 0))) ∧ Hid (Below W2.heap.size W2 wr)) (fun v5 _ => s.size + 1 + padZ s.data.toList.length - sliceLen v5)
  case atStart => exact ⟨0, Nat.zero_le _, HM5, HB5⟩
  case round =>
    clear HM5 HB5
    obtain ⟨m, hm, hM, hB⟩ := hrel
    obtain ⟨g, cap, hv, hbg, hgl, hcap, hcells⟩ := hM.out.cell
    have hL : (bV (s.data.toList ++ 128 :: List.replicate m 0)).length = s.size + 1 + m := by rw [bV_len]; simp; omega
    rw [hL] at hv
    have hpz : padZ s.data.toList.length = (119 - s.size % 64) % 64 := by rw [hlen]; rfl
    subst hv
    have e_m : ((s.size + 1 + m : Nat) : Int).tmod 64 = (((s.size + 1 + m) % 64 : Nat) : Int) := by rw [Int.tmod_eq_emod_of_nonneg (by omega)]; omega
    by_cases hlt : m < padZ s.data.toList.length
    · have b1 : ((((s.size + 1 + m) % 64 : Nat) : Int) != 56) = true := by rw [bne_iff_ne]; omega
      generalize (s.size + 1 + m) % 64 = rr at e_m b1
      have HM2 := hM.out
      have HBw := hB.out
      have hsn : bV (s.data.toList ++ 128 :: List.replicate m 0) ++ [Value.int .u8 0] = bV (s.data.toList ++ 128 :: List.replicate (m + 1) 0) := by
        rw [List.replicate_succ']
        simp [bV]
      go_wp2_with (at_builtin; refine mrow_append (w0 := W2) W2.heap.size rfl (.tmp 22) (.tmp 23) rfl _ (bV (s.data.toList ++ 128 :: List.replicate m 0)) (.int .u8 0) rfl rfl rfl HM2 HBw HBw.size ?aL ?_; (case aL => (rw [hL]; omega)); intro v5b w5b ho hb hg; have HM6 : Hid (MRow w5b W2.heap.size v5b (bV (s.data.toList ++ 128 :: List.replicate (m + 1) 0))) := Lib.hid (by rw [← hsn]; exact ho); have HB6 := Lib.hid hb; clear ho hb hg)
      go_roundw
      case rel => exact ⟨m + 1, by omega, HM6, HB6⟩
      case measure =>
        obtain ⟨g2, cap2, hv2, _⟩ := HM6.out.cell
        have hL2 : (bV (s.data.toList ++ 128 :: List.replicate (m + 1) 0)).length = s.size + 1 + (m + 1) := by rw [bV_len]; simp; omega
        rw [hL2] at hv2
        rw [hv2]
        show s.size + 1 + padZ s.data.toList.length - (s.size + 1 + (m + 1)) < s.size + 1 + padZ s.data.toList.length - (s.size + 1 + m)
        omega
    · have hmz : m = padZ s.data.toList.length := by omega
      have b1 : ((((s.size + 1 + m) % 64 : Nat) : Int) != 56) = false := by rw [bne_eq_false_iff_eq]; omega
      generalize (s.size + 1 + m) % 64 = rr at e_m b1
      have e_m2 : ((s.size : Int) + 1 + (m : Int)) % 64 = 56 := by have := hmz; rw [hpz] at this; omega
      have HMz := Lib.hid hmz
      have HM7 := Lib.hid hM.out
      clear hcells hM hmz hlt hm hpz
      go_wp2_with fail
      have hX : (s.size : Int) * 8 = ((s.size * 8 : Nat) : Int) := by omega
      have hXb : s.size * 8 < 1000000 := by omega
      obtain ⟨P, hP⟩ : ∃ P, s.data.toList ++ 128 :: List.replicate m 0 = P := ⟨_, rfl⟩
      have hPl : P.length = s.size + 1 + m := by rw [← hP]; rw [bV_len] at hL; exact hL
      have hpad : padL s.data.toList = P ++ len8 (s.size * 8) := by rw [padL_eq, ← HMz.out, hP, hlen]
      rw [hP] at HM7
      have hmb : m ≤ 64 := by have := HMz.out; unfold padZ at this; omega
      clear hP hcap hL e_m b1 hbg hgl
      have HPad := Lib.hid hpad
      rw [hX]
      clear hX HMz hpad
      generalize s.size * 8 = X at hXb HPad ⊢
      have HB7 := hB
      clear hB
      go_loopw [5, 7] (fun v5 v7 wr => ∃ i : Nat, i ≤ 8 ∧ v7 = .int .i64 (i : Int) ∧ Hid (MRow wr W2.heap.size v5 (bV (P ++ (len8 X).take i))) ∧ Hid (Below W2.heap.size W2 wr)) (fun _ v7 _ => 8 - (intOf v7).toNat)
      case atStart => exact ⟨0, Nat.zero_le _, rfl, Lib.hid (by rw [List.take_zero, List.append_nil]; exact HM7.out), HB7⟩
      case round =>
        clear HM7 HB7 e_m2
        obtain ⟨i, hi, rfl, hM, hB⟩ := hrel
        obtain ⟨g2, cap2, hv, hbg, hgl, hcap, hcells⟩ := hM.out.cell
        have hL2 : (bV (P ++ (len8 X).take i)).length = s.size + 1 + m + i := by rw [bV_len, List.length_append, List.length_take, len8_length, hPl]; omega
        rw [hL2] at hv
        subst hv
        by_cases hlt : i < 8
        · have hsn : bV (P ++ (len8 X).take i) ++ [Value.int .u8 ((X / 2 ^ (8 * i) % 256 : Nat) : Int)] = bV (P ++ (len8 X).take (i + 1)) := by
            rw [len8_take X i hlt]
            simp [bV]
          have HM2 := hM.out
          have HBw := hB.out
          have hy : Go.bits .and .u64 ((X : Int) / 2 ^ (8 * i)) 255 % 256 = ((X / 2 ^ (8 * i) % 256 : Nat) : Int) := low_u64 (X / 2 ^ (8 * i)) (Nat.lt_of_le_of_lt (Nat.div_le_self _ _) (by omega))
          rw [← hy] at hsn
          clear hy
          go_wp2_with (at_builtin; refine mrow_append (w0 := W2) W2.heap.size rfl (.tmp 33) (.tmp 40) rfl _ (bV (P ++ (len8 X).take i)) _ rfl rfl rfl HM2 HBw HBw.size ?aL ?_; (case aL => (rw [hL2]; omega)); intro v5b w5b ho hb hg; have HM6 : Hid (MRow w5b W2.heap.size v5b (bV (P ++ (len8 X).take (i + 1)))) := Lib.hid (by rw [← hsn]; exact ho); have HB6 := Lib.hid hb; clear ho hb hg)
          go_roundw
          case rel => exact ⟨i + 1, by omega, by go_num, HM6, HB6⟩
          case measure => simp [intOf]; omega
        · have hi8 : i = 8 := by omega
          have HM8 : MRow wr W2.heap.size (.slice (some ⟨g2, 0, none⟩) (s.size + 1 + m + i) cap2) (bV (padL s.data.toList)) := by
            have h := hM.out
            rw [hi8, len8_full, ← HPad.out] at h
            rw [hi8]
            exact h
          obtain ⟨O, hO, hcp, hbg2, hnL, hOc⟩ := HM8.block
          have hp64 := padL_length s.data.toList
          rw [bV_len] at hnL
          rw [← hnL] at hp64
          have hnb : s.size + 1 + m + i = 64 * ((s.size + 1 + m + i) / 64) := by omega
          have hfin : md5L s.data.toList = outN (blocksN ((s.size + 1 + m + i) / 64) q0 (padL s.data.toList)) := by rw [hnL]; rfl
          have hn2 : s.size + 1 + m + i < 200000 := by omega
          generalize (s.size + 1 + m + i) / 64 = nb at hnb hfin
          rw [hnb] at hcp hnL hn2
          have hcl : ∀ w' : World, w'.heap[g2]? = some O → ∀ j, j < 64 * nb → w'.cell? ⟨g2, j, none⟩ = some (.int .u8 (((padL s.data.toList).getD j 0).toNat : Int)) := fun w' hw j hj => hOc w' hw j _ (bV_at _ j (by omega))
          generalize padL s.data.toList = L at hnL hfin hcl HPad HM8 hOc
          have HOc := Lib.hid hcl
          have HFin := Lib.hid hfin
          have hg22 : w.heap.size + 2 ≤ g2 := by have := HZ.out; omega
          have HX0 : Hid (wr.heap[w.heap.size]? = some (.cells (hQ (blocksN 0 q0 L)) 73 (0, 0))) := Lib.hid (map_below HH.out hB.out)
          have HK0 : Hid (wr.heap[w.heap.size + 1]? = some (.cells sinA 73 (0, 0))) := Lib.hid (map_below HK.out hB.out)
          have HO0 := Lib.hid hO
          have HB0w : Hid (Below w.heap.size w wr) := Lib.hid (HB0.out.trans (hB.out.mono HB0.out.size))
          go_wp2_with fail
          rw [hnb]
          generalize (i : Int) = i7
          generalize (s.size : Int) = sz
          clear hM hcells hcap hL2 hlt hi hi8 hnb hp64 hcl hfin hO HM8 hOc hbg2 hbg hgl HZ HPad hXb HB0 hB HH HK
          go_loopw [8] (fun v8 wr => ∃ k : Nat, k ≤ nb ∧ v8 = .int .i64 ((64 * k : Nat) : Int) ∧ Hid (wr.heap[w.heap.size]? = some (.cells (hQ (blocksN k q0 L)) 73 (0, 0))) ∧ Hid (wr.heap[w.heap.size + 1]? = some (.cells sinA 73 (0, 0))) ∧ Hid (wr.heap[g2]? = some O) ∧ Hid (Below w.heap.size w wr)) (fun v8 _ => 64 * nb - (intOf v8).toNat)
          case atStart => exact ⟨0, Nat.zero_le _, rfl, HX0, HK0, HO0, HB0w⟩
          case round =>
            clear HX0 HK0 HO0 HB0w
            obtain ⟨k, hk, rfl, hX, hK, hO, hB⟩ := hrel
            by_cases hlt : k < nb
            · obtain ⟨o, ho⟩ : ∃ o, 64 * k = o := ⟨_, rfl⟩
              obtain ⟨n, hn⟩ : ∃ n, 64 * nb = n := ⟨_, rfl⟩
              have hon : o + 64 ≤ n := by omega
              have hlL : ((L.drop o).take 64).length = 64 := by rw [List.length_take, List.length_drop]; omega
              have hst := blocksN_step k q0 L
              rw [ho] at hst
              have HBk := Lib.hid (block_any w.heap.size g2 o (w.heap.size + 1) 4 (cap2 - o) 64 (blocksN k q0 L) ((L.drop o).take 64) wr (blocksN_ok k q0 L q0_ok) hlL (by omega) hX.out hK.out (fun j hj => by rw [getD_cut L o j hj]; exact HOc.out wr hO.out (o + j) (by omega)))
              rw [← hst] at HBk
              rw [ho, hn]
              have hcp2 : o + 64 ≤ cap2 := by omega
              clear hst hlL hX
              go_wp2_with fail
              ((with_reducible refine HBk.out.mono ?_); rintro e w1 ⟨rfl, hX2, hgr⟩)
              have HX2 := Lib.hid hX2
              have HK2 : Hid (w1.heap[w.heap.size + 1]? = some (.cells sinA 73 (0, 0))) := Lib.hid (blk_grown hK.out hgr (by simp))
              have HO2 : Hid (w1.heap[g2]? = some O) := Lib.hid (blk_grown hO.out hgr (by simp; omega))
              have HB2 : Hid (Below w.heap.size w w1) := Lib.hid (hB.out.grown hgr hB.out.size (by intro z hz; cases hz; exact Nat.le_refl _))
              clear hX2 hgr HBk hK hO hB
              go_wp2_with fail
              go_roundw
              case rel => exact ⟨k + 1, by omega, congrArg (Value.int .i64) (by omega), HX2, HK2, HO2, HB2⟩
              case measure => simp [intOf]; omega
            · have hkn : k = nb := by omega
              obtain ⟨Q, hQe⟩ : ∃ Q, blocksN k q0 L = Q := ⟨_, rfl⟩
              have hfin : md5L s.data.toList = outN Q := by rw [HFin.out, ← hkn, hQe]
              have hQok : Q.ok := by rw [← hQe]; exact blocksN_ok k q0 L q0_ok
              rw [hQe] at hX
              have HF := Lib.hid hfin
              have HQ := Lib.hid hQok
              clear hQe hfin hQok hK hO HOc HFin
              go_wp2_with fail
              generalize ((64 * k : Nat) : Int) = i8
              generalize ((64 * nb : Nat) : Int) = i9
              generalize 64 * nb = n9 at hnL hn2 hcp ⊢
              clear hlt hkn hk hcp hn2 hnL
              generalize wr = W4 at hX hB ⊢
              go_loopw [9, 10] (fun v9 v10 wq => ∃ i : Nat, i ≤ 4 ∧ v10 = .int .i64 (i : Int) ∧ Hid (wq.ownsRow W4.heap.size 5 1 v9 (nbs ((outN Q).take (4 * i))).length (nums .u8 (nbs ((outN Q).take (4 * i))))) ∧ Hid (Below W4.heap.size W4 wq)) (fun _ v10 _ => 4 - (intOf v10).toNat)
              case atStart => exact ⟨0, Nat.zero_le _, rfl, Lib.hid (World.ownsRow_nil _ _ _ _), Lib.hid (Below.refl _ _)⟩
              case round =>
                obtain ⟨i, hi, rfl, hO, hBq⟩ := hrel
                by_cases hlt : i < 4
                · have HOq : Hid (wr.ownsRow W4.heap.size 5 1 u9 (nbs ((outN Q).take (4 * i + 0))).length (nums .u8 (nbs ((outN Q).take (4 * i + 0))))) := hO
                  have HBq := hBq
                  clear hO hBq
                  have zi : decide ((i : Int) < 4) = true := by rw [decide_eq_true_eq]; omega
                  go_wp2_with fail
                  try rw [zi]
                  clear zi
                  go_loopw [9, 11] (fun v9 v11 wq => ∃ j : Nat, j ≤ 4 ∧ v11 = .int .i64 (j : Int) ∧ Hid (wq.ownsRow W4.heap.size 5 1 v9 (nbs ((outN Q).take (4 * i + j))).length (nums .u8 (nbs ((outN Q).take (4 * i + j))))) ∧ Hid (Below W4.heap.size W4 wq)) (fun _ v11 _ => 4 - (intOf v11).toNat)
                  case atStart => exact ⟨0, Nat.zero_le _, rfl, HOq, HBq⟩
                  case round =>
                    clear HOq HBq
                    obtain ⟨j, hj, rfl, hO, hBq⟩ := hrel
                    by_cases hlt2 : j < 4
                    · have hcell : wr.cell? ⟨w.heap.size, i, none⟩ = some (.int .u32 (Q.at i : Int)) := (blk_cell (map_below hX.out hBq.out) i).trans (hQ_at Q i hlt)
                      have hqi := Q4.at_lt HQ.out i
                      have ht := outN_take Q i j hlt hlt2
                      generalize Q.at i = x at hcell hqi ht
                      have hy := low_u32 (x / 2 ^ (8 * j)) (Nat.lt_of_le_of_lt (Nat.div_le_self _ _) hqi)
                      have hsn := nbs_snoc ((outN Q).take (4 * i + j)) (x / 2 ^ (8 * j) % 256) (Nat.mod_lt _ (by decide))
                      rw [← ht, ← hy] at hsn
                      have HSn := Lib.hid hsn
                      have hln : ((outN Q).take (4 * i + j)).length ≤ 16 := by rw [List.length_take, outN_length]; omega
                      clear hsn ht hy
                      go_wp2_with (at_builtin; refine print_append_num (w0 := W4) W4.heap.size rfl (.tmp 64) (.tmp 74) 34 5 .u8 1 rfl Tryz.underlying34 info_u8 (by decide) u9 (nbs ((outN Q).take (4 * i + j))) _ rfl rfl hO.out hBq.out hBq.out.size ?aL ?_; (case aL => (rw [nbs_len]; omega)); intro v5b w5b ho hb hg hat; have HO5 : Hid (w5b.ownsRow W4.heap.size 5 1 v5b (nbs ((outN Q).take (4 * i + (j + 1)))).length (nums .u8 (nbs ((outN Q).take (4 * i + (j + 1)))))) := Lib.hid (by rw [HSn.out]; exact ho); have HB5 := Lib.hid hb; clear ho hb hg hat)
                      go_roundw
                      case rel => exact ⟨j + 1, by omega, by go_num, HO5, HB5⟩
                      case measure => simp [intOf]; omega
                    · have hj4 : j = 4 := by omega
                      have HO6 : Hid (wr.ownsRow W4.heap.size 5 1 u9 (nbs ((outN Q).take (4 * (i + 1)))).length (nums .u8 (nbs ((outN Q).take (4 * (i + 1)))))) := by
                        have h := hO
                        rw [hj4] at h
                        exact h
                      clear hO
                      go_wp2_with fail
                      go_roundw
                      case rel => exact ⟨i + 1, by omega, by go_num, HO6, hBq⟩
                      case measure => simp [intOf]; omega
                · have hi4 : i = 4 := by omega
                  have HO7 : Hid (wr.ownsRow W4.heap.size 5 1 u9 (nbs (outN Q)).length (nums .u8 (nbs (outN Q)))) := by
                    have h := hO
                    rw [hi4] at h
                    exact h
                  have hconv := own_string (P := Tryz.prog) Tryz.underlying34 Tryz.underlying5 Tryz.underlying9 HO7.out
                  rw [nbs_str, ← HF.out] at hconv
                  have HBf : Hid (Below w.heap.size w wr) := Lib.hid (hB.out.trans (hBq.out.mono hB.out.size))
                  clear hO HO7 hBq
                  go_wp2_with fail
                  go_ret
                  exact ⟨rfl, HBf.out⟩
end Go.Proofs.YtlpibobpfafooaaGreatDoor.H
