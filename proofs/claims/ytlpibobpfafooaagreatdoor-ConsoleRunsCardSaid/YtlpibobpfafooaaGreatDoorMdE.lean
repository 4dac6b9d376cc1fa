/-
  Contracts at this seat: MD5's small functions.
-/
import Derived.Test.YtlpibobpfafooaaGreatDoorMdA
import Derived.Test.YtlpibobpfafooaaGreatDoorProg
import Derived.Test.YtlpibobpfafooaaGreatDoorWUse
import Derived.WalkKit
import Derived.BigCall
import Derived.Lib.Hide
import Derived.Deep.QuietTactic
import Derived.BigQuiet
import Derived.Test.YtlpibobpfafooaaGreatDoorFsmB
import Derived.Laws.Rows
import Derived.Laws.CopyOwn
import Derived.Deep.WholeRow
import Derived.Lib.UnsafeStr
import Derived.Lib.LazyBuf
import Derived.StillTailTactics
import Derived.BigRegion
import Derived.Deep.RegionHeld3
set_option linter.unusedVariables false
set_option linter.unusedSimpArgs false
namespace Go.Proofs.YtlpibobpfafooaaGreatDoor.H
open Go.RowKit Go.Proofs.Wy Go.Proofs.YtlpibobpfafooaaGreatDoorW.PrintWords

theorem wraps_u32 (n : Int) (h₀ : 0 ≤ n) (h₁ : n < 2 ^ 32) : IntKind.u32.wrap n = n := by
  simp only [IntKind.wrap, IntKind.bits, IntKind.signed]
  simp
  omega
theorem cast32 (n : Nat) (h : n < 2 ^ 32) : ((n : Nat) : Int) < 2 ^ 32 := by exact_mod_cast h
theorem and_u32 (a b : Nat) (ha : a < 2 ^ 32) (hb : b < 2 ^ 32) : Go.bits .and .u32 a b = ((a &&& b : Nat) : Int) := by
  have ha' : a % 2 ^ IntKind.u32.bits = a := Nat.mod_eq_of_lt ha
  have hb' : b % 2 ^ IntKind.u32.bits = b := Nat.mod_eq_of_lt hb
  simp only [Go.bits, BitVec.ofInt_natCast, BitVec.toNat_and, BitVec.toNat_ofNat, ha', hb']
  exact wraps_u32 _ (Int.natCast_nonneg _) (cast32 _ (Nat.and_lt_two_pow _ hb))
theorem or_u32 (a b : Nat) (ha : a < 2 ^ 32) (hb : b < 2 ^ 32) : Go.bits .or .u32 a b = ((a ||| b : Nat) : Int) := by
  have ha' : a % 2 ^ IntKind.u32.bits = a := Nat.mod_eq_of_lt ha
  have hb' : b % 2 ^ IntKind.u32.bits = b := Nat.mod_eq_of_lt hb
  simp only [Go.bits, BitVec.ofInt_natCast, BitVec.toNat_or, BitVec.toNat_ofNat, ha', hb']
  exact wraps_u32 _ (Int.natCast_nonneg _) (cast32 _ (Nat.or_lt_two_pow ha hb))
theorem xor_u32 (a b : Nat) (ha : a < 2 ^ 32) (hb : b < 2 ^ 32) : Go.bits .xor .u32 a b = ((a ^^^ b : Nat) : Int) := xor_nat .u32 32 (by decide) wraps_u32 a b ha hb

theorem not_u32 (a : Nat) (ha : a < 4294967296) : Go.bits .xor .u32 IntKind.u32.max (a : Int) = ((notN a : Nat) : Int) := by
  have e := xor_u32 4294967295 a (by decide) ha
  have e2 : Go.bits .xor .u32 IntKind.u32.max (a : Int) = ((4294967295 ^^^ a : Nat) : Int) := e
  rw [e2]
  unfold notN
  rw [Nat.xor_comm]
theorem notN_lt {x : Nat} (h : x < 4294967296) : notN x < 4294967296 := Nat.xor_lt_two_pow (n := 32) h (by decide)
theorem int_ret {k l : IntKind} {a b c d : Int} (h : a = b) (h2 : c = d) : Ending.returned (.tuple #[.int k a, .int l c]) = Ending.returned (.tuple #[.int k b, .int l d]) := by rw [h, h2]

set_option maxHeartbeats 1000000 in
theorem mix_any (i b c d : Nat) (w : World) (hi : i < 64) (hb : b < 4294967296) (hc : c < 4294967296) (hd : d < 4294967296) :
    Calls Tryz.prog 102 #[.int .i64 i, .int .u32 b, .int .u32 c, .int .u32 d] w fun e w' => e = .returned (.tuple #[.int .u32 (mixN i b c d), .int .i64 (pickN i)]) ∧ w' = w := by
  have l1 : ∀ x y : Nat, y < 4294967296 → x &&& y < 4294967296 := fun x y h => Nat.and_lt_two_pow (n := 32) x h
  by_cases h0 : i / 16 = 0
  · have e : (i : Int) / 16 = 0 := by omega
    have em : mixN i b c d = (b &&& c) ||| (notN b &&& d) := by unfold mixN; rw [if_pos h0]
    have ep : pickN i = i := by unfold pickN; rw [if_pos h0]
    rw [em, ep]
    have ev : Go.bits .or .u32 (Go.bits .and .u32 b c) (Go.bits .and .u32 (Go.bits .xor .u32 IntKind.u32.max b) d) = (((b &&& c) ||| (notN b &&& d) : Nat) : Int) := by
      rw [not_u32 b hb, and_u32 b c hb hc, and_u32 _ d (notN_lt hb) hd, or_u32 _ _ (l1 _ _ hc) (l1 _ _ hd)]
    generalize (b &&& c) ||| (notN b &&& d) = r at ev
    clear l1 em ep h0
    go_enter Tryz.func102, Tryz.ntmps102
    go_wp2
    all_goals (go_ret2; exact ⟨int_ret rfl rfl, rfl⟩)
  · by_cases h1 : i / 16 = 1
    · have e : (i : Int) / 16 = 1 := by omega
      have em : mixN i b c d = (d &&& b) ||| (notN d &&& c) := by unfold mixN; rw [if_neg h0, if_pos h1]
      have ep : pickN i = (5 * i + 1) % 16 := by unfold pickN; rw [if_neg h0, if_pos h1]
      rw [em, ep]
      have ev : Go.bits .or .u32 (Go.bits .and .u32 d b) (Go.bits .and .u32 (Go.bits .xor .u32 IntKind.u32.max d) c) = (((d &&& b) ||| (notN d &&& c) : Nat) : Int) := by
        rw [not_u32 d hd, and_u32 d b hd hb, and_u32 _ c (notN_lt hd) hc, or_u32 _ _ (l1 _ _ hb) (l1 _ _ hc)]
      generalize (d &&& b) ||| (notN d &&& c) = r at ev
      clear l1 em ep h0 h1
      go_enter Tryz.func102, Tryz.ntmps102
      go_wp2
      all_goals (go_ret2; exact ⟨int_ret rfl (by omega), rfl⟩)
    · by_cases h2 : i / 16 = 2
      · have e : (i : Int) / 16 = 2 := by omega
        have em : mixN i b c d = b ^^^ c ^^^ d := by unfold mixN; rw [if_neg h0, if_neg h1, if_pos h2]
        have ep : pickN i = (3 * i + 5) % 16 := by unfold pickN; rw [if_neg h0, if_neg h1, if_pos h2]
        rw [em, ep]
        have ev : Go.bits .xor .u32 (Go.bits .xor .u32 b c) d = ((b ^^^ c ^^^ d : Nat) : Int) := by
          rw [xor_u32 b c hb hc, xor_u32 _ d (Nat.xor_lt_two_pow (n := 32) hb hc) hd]
        generalize b ^^^ c ^^^ d = r at ev
        clear l1 em ep h0 h1 h2
        go_enter Tryz.func102, Tryz.ntmps102
        go_wp2
        all_goals (go_ret2; exact ⟨int_ret rfl (by omega), rfl⟩)
      · have e : (i : Int) / 16 = 3 := by omega
        have em : mixN i b c d = c ^^^ (b ||| notN d) := by unfold mixN; rw [if_neg h0, if_neg h1, if_neg h2]
        have ep : pickN i = 7 * i % 16 := by unfold pickN; rw [if_neg h0, if_neg h1, if_neg h2]
        rw [em, ep]
        have ev : Go.bits .xor .u32 c (Go.bits .or .u32 b (Go.bits .xor .u32 IntKind.u32.max d)) = ((c ^^^ (b ||| notN d) : Nat) : Int) := by
          rw [not_u32 d hd, or_u32 b _ hb (notN_lt hd), xor_u32 c _ hc (Nat.or_lt_two_pow (n := 32) hb (notN_lt hd))]
        generalize c ^^^ (b ||| notN d) = r at ev
        clear l1 em ep h0 h1 h2
        go_enter Tryz.func102, Tryz.ntmps102
        go_wp2
        all_goals (go_ret2; exact ⟨int_ret rfl (by omega), rfl⟩)

def rotA : Array Value := (rotT.map fun (x : Nat) => Value.int .i64 (x : Int)).toArray
def rotRows : List Value := [.agg #[.int .i64 7, .int .i64 12, .int .i64 17, .int .i64 22], .agg #[.int .i64 5, .int .i64 9, .int .i64 14, .int .i64 20], .agg #[.int .i64 4, .int .i64 11, .int .i64 16, .int .i64 23], .agg #[.int .i64 6, .int .i64 10, .int .i64 15, .int .i64 21]]
def rotRow (q : Nat) : Value := rotRows.getD q undef
theorem rot_row (q : Nat) (x : Int) (hx : x = (q : Int)) (h : q < 4) : ∀ w0 : World, (Instr.index 154 (.agg rotA) (.int .i64 x)).run Tryz.prog w0 = .ok (rotRow q) w0 := by
  subst hx
  have : q = 0 ∨ q = 1 ∨ q = 2 ∨ q = 3 := by omega
  rcases this with rfl | rfl | rfl | rfl <;> (intro w0; kernel_rfl)
theorem rot_col (i : Nat) (x : Int) (hx : x = ((i % 4 : Nat) : Int)) (h : i < 64) : ∀ w0 : World, (Instr.index 153 (rotRow (i / 16)) (.int .i64 x)).run Tryz.prog w0 = .ok (.int .i64 (rotN i)) w0 := by
  subst hx
  have e : rotN i = rotT.getD (i / 16 * 4 + i % 4) 0 := rfl
  rw [e]
  have h1 : i / 16 = 0 ∨ i / 16 = 1 ∨ i / 16 = 2 ∨ i / 16 = 3 := by omega
  have h2 : i % 4 = 0 ∨ i % 4 = 1 ∨ i % 4 = 2 ∨ i % 4 = 3 := by omega
  rcases h1 with h1 | h1 | h1 | h1 <;> rcases h2 with h2 | h2 | h2 | h2 <;> (rw [h1, h2]; intro w0; kernel_rfl)

set_option maxHeartbeats 1000000 in
set_option maxRecDepth 100000 in
theorem turns_any (i : Nat) (w : World) (hi : i < 64) :
    Calls Tryz.prog 104 #[.int .i64 i] w fun e w' => e = .returned (.int .i64 (rotN i)) ∧ w' = w := by
  have r1 := rot_row (i / 16) ((i : Int) / 16) (by omega) (by omega)
  have r2 := rot_col i ((i : Int) % 4) (by omega) hi
  generalize rotN i = r at r2
  generalize rotRow (i / 16) = v at r1 r2
  go_enter Tryz.func104, Tryz.ntmps104
  go_wp2_with ((with_reducible refine wpList_build rfl 154 _ rfl 153 4 4 (.agg (List.replicate 16 (Value.int .i64 0)).toArray) rotRows rfl (fun w => by kernel_rfl) (fun w => by kernel_rfl) (by decide) ?hv ?h1 ?hn (.agg rotA) ?ha ?_); (go_loud (case hv => exact (by kernel_rfl))); (go_loud (case h1 => exact (by decide))); (go_loud (case hn => exact (by kernel_rfl))); (go_loud (case ha => exact (by kernel_rfl))))
  go_ret
  exact ⟨rfl, rfl⟩

set_option maxHeartbeats 1000000 in
theorem rotl_any (x t : Nat) (w : World) (hx : x < 4294967296) (h0 : 0 < t) (h1 : t < 32) :
    Calls Tryz.prog 103 #[.int .u32 x, .int .i64 t] w fun e w' => e = .returned (.int .u32 (rotlN x t)) ∧ w' = w := by
  have e : Go.bits .and .u64 (t : Int) 31 = (t : Int) := by
    have h : ∀ n : Fin 32, Go.bits .and .u64 (n.val : Int) 31 = (n.val : Int) := by decide +kernel
    exact h ⟨t, h1⟩
  go_enter Tryz.func103, Tryz.ntmps103
  go_wp2
  go_ret
  refine ⟨?_, rfl⟩
  have h2 : x * 2 ^ t % 4294967296 < 2 ^ 32 := Nat.mod_lt _ (by decide)
  have h3 : x / 2 ^ (32 - t) < 2 ^ 32 := Nat.lt_of_le_of_lt (Nat.div_le_self _ _) hx
  have h4 := or_u32 _ _ h2 h3
  have h5 : rotlN x t = x * 2 ^ t % 4294967296 ||| x / 2 ^ (32 - t) := rfl
  rw [h5, ← h4]
  rfl
end Go.Proofs.YtlpibobpfafooaaGreatDoor.H
/-
  Contracts at this seat: MD5's words and constants.
-/
set_option linter.unusedVariables false
set_option linter.unusedSimpArgs false
namespace Go.Proofs.YtlpibobpfafooaaGreatDoor.H
open Go.RowKit Go.Proofs.Wy Go.Proofs.YtlpibobpfafooaaGreatDoorW.PrintWords

def nbs (l : List UInt8) : List Int := l.map fun b => (b.toNat : Int)
theorem nbs_len (l : List UInt8) : (nbs l).length = l.length := by simp [nbs]
theorem nbs_str (l : List UInt8) : strOfNums (nbs l) = ⟨l.toArray⟩ := Go.Lib.Lz.strOfNums_map l
theorem nbs_le4 (x : Nat) : nbs (le4 x) = [(x : Int) % 256, (x : Int) / 256 % 256, (x : Int) / 65536 % 256, (x : Int) / 16777216 % 256] := by
  have h : ∀ y : Nat, ((UInt8.ofNat (y % 256)).toNat : Int) = (y : Int) % 256 := fun y => by
    rw [UInt8.toNat_ofNat']; omega
  simp only [nbs, le4, List.map_cons, List.map_nil, h]
  rfl
theorem info_u8 : (Tryz.prog.info? 5).map (fun i => (i.zero, i.size, i.bytes)) = some (some (.int .u8 0), 1, 1) := by kernel_rfl
section
variable {P : Program} {ops : Array Oper} {rest : List Oper} {o : Oper} {a : Act} {Q : Exit → Act → World → Prop}
/-- append(v, y1, y2, y3, y4). -/
theorem append_four {w0 W : World} (base : Nat) (hgd : o.guard = none) (s x : Operand) (t e : TypeId) (k : IntKind) (bytes : Nat)
    (ho : o.op = .call { callee := .builtin .append, args := #[s, x], argTypes := #[t, t] })
    (ht : P.underlying t = some (.slice e)) (hinfo : (P.info? e).map (fun i => (i.zero, i.size, i.bytes)) = some (some (.int k 0), 1, bytes)) (hb0 : 0 < bytes)
    (v : Value) (xs : List Int) (y1 y2 y3 y4 : Int) (hs : a.eval s = v) (hx : a.eval x = .slice (some ⟨W.heap.size, 0, none⟩) 4 4)
    (HO : W.ownsRow base e 1 v xs.length (nums k xs)) (HB : Below base w0 W) (hbase : base ≤ W.heap.size) (hl : (xs.length + 4) * bytes ≤ 140737488355328)
    (h : ∀ v1 w1, w1.ownsRow base e 1 v1 (xs ++ [y1, y2, y3, y4]).length (nums k (xs ++ [y1, y2, y3, y4])) → Below base w0 w1 → wpList P ops Q rest (a.put o.dst v1) w1) :
    wpList P ops Q (o :: rest) a (W.alloc (.cells #[.int k y1, .int k y2, .int k y3, .int k y4] e)) := by
  obtain ⟨i0, hi, hzz⟩ := Option.map_eq_some_iff.1 hinfo
  simp only [Prod.mk.injEq] at hzz
  obtain ⟨hz0, hz1, hz2⟩ := hzz
  have hlen : xs.length + 4 ≤ 140737488355328 := Nat.le_trans (Nat.le_mul_of_pos_right _ hb0) hl
  have hnl : (nums k xs).length = xs.length := nums_length k xs
  refine wpList_append_own_at (W.alloc (.cells #[.int k y1, .int k y2, .int k y3, .int k y4] e)) hgd s x t ho base e i0 (.int k 0) 1 bytes ht hi hz0 hz1 hz2 rfl (by omega) v xs.length (nums k xs) hs (HO.alloc _) ⟨W.heap.size, 0, none⟩ 4 4 [.int k y1, .int k y2, .int k y3, .int k y4] hx rfl
    (World.news_of_block (cs := #[.int k y1, .int k y2, .int k y3, .int k y4]) (t := e) (fr := (0, 0)) (heap_alloc_new W _)) (by simp only [List.mem_cons, List.not_mem_nil, or_false, forall_eq_or_imp, forall_eq]; exact ⟨rfl, rfl, rfl, rfl⟩) (by simp only [maxLen]; omega) hl (by simp; omega) ?_
  intro v1 w1 hown hg _ hat
  have hnn : nums k (xs ++ [y1, y2, y3, y4]) = nums k xs ++ [.int k y1, .int k y2, .int k y3, .int k y4] := by simp [nums]
  refine h v1 w1 (by rw [hnn, List.length_append]; exact hown) ((HB.alloc hbase _).grown hg (by simp; omega) (own_base HO))
end

theorem le4_take (xs : List Nat) (k : Nat) (h : k < xs.length) : (xs.take (k + 1)).flatMap le4 = (xs.take k).flatMap le4 ++ le4 xs[k] := by
  rw [List.take_succ_eq_append_getElem h, List.flatMap_append]
  simp only [List.flatMap_cons, List.flatMap_nil, List.append_nil]
theorem le4_len (xs : List Nat) : (xs.flatMap le4).length = 4 * xs.length := by
  induction xs with
  | nil => rfl
  | cons x r ih => rw [List.flatMap_cons, List.length_append, ih, le4_length, List.length_cons]; omega
set_option maxHeartbeats 1000000 in
theorem words_any (b o : Nat) (xs : List Nat) (cap : Nat) (w : World) (hn : xs.length ≤ 1000) (hx : ∀ x ∈ xs, x < 4294967296) (hcap : xs.length ≤ cap) (hc : ∀ i (h : i < xs.length), w.cell? ⟨b, o + i, none⟩ = some (.int .u32 (xs[i] : Int))) :
    Calls Tryz.prog 86 #[.slice (some ⟨b, o, none⟩) xs.length cap] w fun e w' => e = .returned (.string ⟨(xs.flatMap le4).toArray⟩) ∧ Below w.heap.size w w' := by
  have hc := Lib.hid hc
  have hx := Lib.hid hx
  go_enter Tryz.func86, Tryz.ntmps86
  go_wp2
  go_loopw [3, 8] (fun v3 v8 wr => ∃ k : Nat, k ≤ xs.length ∧ v8 = .int .i64 k ∧ Hid (wr.ownsRow w.heap.size 5 1 v3 (nbs ((xs.take k).flatMap le4)).length (nums .u8 (nbs ((xs.take k).flatMap le4)))) ∧ Hid (Below w.heap.size w wr)) (fun _ v8 _ => xs.length - (intOf v8).toNat)
  case atStart => exact ⟨0, Nat.zero_le _, rfl, World.ownsRow_nil _ _ _ _, Below.refl _ w⟩
  case round =>
    obtain ⟨k, hk, rfl, hO, hB⟩ := hrel
    by_cases hlt : k < xs.length
    · have hcell := pw_cell_below hB.out (hc.out k hlt)
      have hT := Lib.hid (le4_take xs k hlt)
      have hL : Hid (((xs.take k).flatMap le4).length ≤ 4 * k) := Lib.hid (by rw [le4_len]; have : (xs.take k).length ≤ k := List.length_take_le _ _; omega)
      have hx32 := hx.out xs[k] (List.getElem_mem hlt)
      generalize xs[k] = x at hcell hT hx32
      have h8 := Lib.hid (nbs_le4 x)
      go_wp2_with (at_builtin; refine append_four (w0 := w) w.heap.size rfl (.tmp 12) (.tmp 24) 34 5 .u8 1 rfl Tryz.underlying34 info_u8 (by decide) u3 (nbs ((xs.take k).flatMap le4)) _ _ _ _ rfl rfl hO.out hB.out hB.out.size ?aL ?_; (case aL => (have := hL.out; rw [nbs_len]; omega)); intro v5 w5 ho hb)
      have hO5 : Hid (w5.ownsRow w.heap.size 5 1 v5 (nbs ((xs.take (k + 1)).flatMap le4)).length (nums .u8 (nbs ((xs.take (k + 1)).flatMap le4)))) := Lib.hid (by
        have e : nbs ((xs.take (k + 1)).flatMap le4) = nbs ((xs.take k).flatMap le4) ++ nbs (le4 x) := by rw [hT.out]; simp [nbs]
        have e24 : (x : Int) / 16777216 % 256 = (x : Int) / 16777216 := by omega
        rw [e, h8.out, e24]; exact ho)
      have hB5 := Lib.hid hb
      clear ho hb hO hB
      go_roundw
      case rel => exact ⟨k + 1, by omega, by go_num, hO5, hB5⟩
      case measure => simp [intOf]; omega
    · have hks : xs.take k = xs := List.take_of_length_le (by omega)
      have hconv := own_string (P := Tryz.prog) Tryz.underlying34 Tryz.underlying5 Tryz.underlying9 hO.out
      rw [nbs_str, hks] at hconv
      clear hks
      go_wp2
      go_ret
      exact ⟨rfl, hB.out⟩

/-- The constants' cells. -/
def sinA : Array Value := (sinT.map fun (x : Nat) => Value.int .u32 (x : Int)).toArray
theorem sinA_size : sinA.size = 64 := by simp [sinA, sinT_length]
theorem sinA_at (i : Nat) (h : i < 64) : sinA[i]? = some (.int .u32 ((sinT.getD i 0 : Nat) : Int)) := by
  have hl : i < sinT.length := by rw [sinT_length]; exact h
  simp only [sinA, List.getElem?_toArray, List.getElem?_map, List.getElem?_eq_getElem hl, Option.map_some, List.getD_eq_getElem?_getD, Option.getD_some]
theorem zeroSin : ∀ w : World, (zeroValue 119).run Tryz.prog w = .ok (.agg (List.replicate 64 (Value.int .u32 0)).toArray) w := fun w => by kernel_rfl
theorem infoSin : (Tryz.prog.info? 119).map (·.size) = some 64 := by kernel_rfl
theorem sinA_one : sinA.all (·.oneCell') = true := by
  rw [Array.all_eq_true_iff_forall_mem]
  intro v hv
  simp only [sinA, List.mem_toArray, List.mem_map] at hv
  obtain ⟨i, _, rfl⟩ := hv
  rfl
set_option maxHeartbeats 1000000 in
set_option maxRecDepth 100000 in
theorem constants_any (w : World) :
    Calls Tryz.prog 87 #[] w fun e w' => e = .returned (.agg sinA) ∧ Below w.heap.size w w' := by
  have hz := zeroSin
  have hi : (Tryz.prog.info? 119).map (·.size) = some sinA.size := by rw [sinA_size]; exact infoSin
  have hd : sinA.size = (List.replicate 64 (Value.int .u32 0)).toArray.size := by rw [sinA_size]; rfl
  go_enter Tryz.func87, Tryz.ntmps87
  go_wp2_with (first | ((with_reducible refine wpList_build rfl 119 _ rfl 73 64 1 (.agg (List.replicate 64 (Value.int .u32 0)).toArray) sinA.toList rfl (fun w => by kernel_rfl) (fun w => by kernel_rfl) (by decide) ?hv ?h1 ?hn (.agg sinA) ?ha ?_); (go_loud (case hv => exact (by kernel_rfl))); (go_loud (case h1 => exact (by decide))); (go_loud (case hn => exact (by kernel_rfl))); (go_loud (case ha => exact (by kernel_rfl)))) | ((refine wpList_store_row rfl 119 (.tmp 0) (.tmp 1) rfl w.heap.size sinA rfl ?he 119 (List.replicate 64 (Value.int .u32 0)).toArray (heap_alloc_new _ _) hi hd sinA_one ?_); (go_loud (case he => exact (by kernel_rfl)))))
  refine bodyPost_ret (v := .agg sinA) (results_cell_row rfl _ _ w.heap.size 119 sinA (0, 0) _ rfl (setRow_heap _ _ _ _ _ _ (heap_alloc_new _ _)) Tryz.underlying119 rfl hi) rfl ⟨rfl, ?_⟩
  exact below_setRow ((Below.refl _ w).alloc (Nat.le_refl _) _) (Nat.le_refl _) _
end Go.Proofs.YtlpibobpfafooaaGreatDoor.H
/-
  Contract at this seat: MD5's turn over a block.
-/
set_option linter.unusedVariables false
set_option linter.unusedSimpArgs false
namespace Go.Proofs.YtlpibobpfafooaaGreatDoor.H
open Go.RowKit Go.Proofs.Wy Go.Proofs.YtlpibobpfafooaaGreatDoorW.PrintWords

/-! ### a block's words, byte by byte -/
theorem take_getD (l : List UInt8) (i n : Nat) : (l.take i).getD n 0 = if n < i then l.getD n 0 else 0 := by
  simp only [List.getD_eq_getElem?_getD, List.getElem?_take]
  split <;> rfl
theorem or_add (a b r : Nat) (h : b < 2 ^ r) : b ||| (a * 2 ^ r) = b + a * 2 ^ r := by
  have := Nat.two_pow_add_eq_or_of_lt h a
  rw [Nat.or_comm, Nat.mul_comm a, ← this, Nat.add_comm]
theorem wordN_other (l : List UInt8) (i j : Nat) (h : j ≠ i / 4) : wordN (l.take (i + 1)) j = wordN (l.take i) j := by
  have e : ∀ t, t < 4 → (l.take (i + 1)).getD (4 * j + t) 0 = (l.take i).getD (4 * j + t) 0 := fun t ht => by
    rw [take_getD, take_getD]
    by_cases h1 : 4 * j + t < i
    · rw [if_pos h1, if_pos (by omega)]
    · rw [if_neg h1, if_neg (by omega)]
  have e0 : (l.take (i + 1)).getD (4 * j) 0 = (l.take i).getD (4 * j) 0 := e 0 (by decide)
  unfold wordN
  rw [e0, e 1 (by decide), e 2 (by decide), e 3 (by decide)]
theorem wordN_step (l : List UInt8) (i : Nat) : wordN (l.take (i + 1)) (i / 4) = wordN (l.take i) (i / 4) ||| ((l.getD i 0).toNat * 2 ^ (8 * (i % 4)) % 4294967296) := by
  have hb := fun n => (l.getD n 0).toNat_lt
  have z : (0 : UInt8).toNat = 0 := rfl
  obtain ⟨j, r, rfl, hr⟩ : ∃ j r, i = 4 * j + r ∧ r < 4 := ⟨i / 4, i % 4, by omega, by omega⟩
  have e1 : (4 * j + r) / 4 = j := by omega
  have e2 : (4 * j + r) % 4 = r := by omega
  rw [e1, e2]
  have h0 := hb (4 * j); have h1 := hb (4 * j + 1); have h2 := hb (4 * j + 2); have h3 := hb (4 * j + 3)
  unfold wordN
  simp only [take_getD]
  have : r = 0 ∨ r = 1 ∨ r = 2 ∨ r = 3 := by omega
  rcases this with rfl | rfl | rfl | rfl
  · rw [if_pos (by omega), if_neg (by omega), if_neg (by omega), if_neg (by omega), if_neg (by omega), if_neg (by omega), if_neg (by omega), if_neg (by omega), z]
    simp only [Nat.mul_zero, Nat.add_zero, Nat.pow_zero, Nat.mul_one, Nat.zero_or]
    omega
  · rw [if_pos (by omega), if_pos (by omega), if_neg (by omega), if_neg (by omega), if_pos (by omega), if_neg (by omega), if_neg (by omega), if_neg (by omega), z]
    rw [Nat.mod_eq_of_lt (by omega : (l.getD (4 * j + 1) 0).toNat * 2 ^ (8 * 1) < 4294967296), or_add _ _ _ (by omega)]
    omega
  · rw [if_pos (by omega), if_pos (by omega), if_pos (by omega), if_neg (by omega), if_pos (by omega), if_pos (by omega), if_neg (by omega), if_neg (by omega), z]
    rw [Nat.mod_eq_of_lt (by omega : (l.getD (4 * j + 2) 0).toNat * 2 ^ (8 * 2) < 4294967296), or_add _ _ _ (by omega)]
    omega
  · rw [if_pos (by omega), if_pos (by omega), if_pos (by omega), if_pos (by omega), if_pos (by omega), if_pos (by omega), if_pos (by omega), if_neg (by omega), z]
    rw [Nat.mod_eq_of_lt (by omega : (l.getD (4 * j + 3) 0).toNat * 2 ^ (8 * 3) < 4294967296), or_add _ _ _ (by omega)]
    omega
def u32 (x : Nat) : Value := .int .u32 (x : Int)
def wA (l : List UInt8) : Array Value := ((wordsN l).map u32).toArray
theorem wA_size (l : List UInt8) : (wA l).size = 16 := by simp [wA, wordsN_length]
theorem wA_at (l : List UInt8) (j : Nat) (h : j < 16) : (wA l)[j]? = some (.int .u32 (wordN l j : Int)) := by
  have hl : j < (wordsN l).length := by rw [wordsN_length]; exact h
  have e := wordsN_get l j h
  simp only [List.getD_eq_getElem?_getD, List.getElem?_eq_getElem hl, Option.getD_some] at e
  simp only [wA, List.getElem?_toArray, List.getElem?_map, List.getElem?_eq_getElem hl, Option.map_some, e, u32]
theorem wA_zero (l : List UInt8) : wA (l.take 0) = (List.replicate 16 (Value.int .u32 0)).toArray := by
  rw [List.take_zero]; rfl
theorem wA_set (l : List UInt8) (i : Nat) (h : i < 64) : (wA (l.take i)).setIfInBounds (i / 4) (.int .u32 ((wordN (l.take i) (i / 4) ||| ((l.getD i 0).toNat * 2 ^ (8 * (i % 4)) % 4294967296) : Nat) : Int)) = wA (l.take (i + 1)) := by
  rw [← wordN_step]
  apply Array.ext
  · rw [Array.size_setIfInBounds, wA_size, wA_size]
  · intro j h1 h2
    rw [wA_size] at h2
    rw [Array.getElem_setIfInBounds]
    · have e2 := wA_at (l.take (i + 1)) j h2
      have e1 := wA_at (l.take i) j h2
      rw [Array.getElem?_eq_getElem (by rw [wA_size]; exact h2)] at e1 e2
      have e1 := Option.some.inj e1
      have e2 := Option.some.inj e2
      rw [e1, e2]
      split
      · rename_i e; rw [e]
      · rename_i e; rw [wordN_other l i j (by omega)]
    · rw [wA_size]; exact h2

theorem getD_at (s : ByteArray) (k : Nat) (h : k < s.size) : s.data.toList.getD k 0 = s[k] := by
  have hl : k < s.data.toList.length := by simpa using h
  rw [List.getD_eq_getElem?_getD, List.getElem?_eq_getElem hl]
  rfl
theorem or_word (x b r : Nat) (hx : x < 4294967296) (hb : b < 256) : Go.bits .or .u32 (x : Int) (IntKind.u32.wrap (IntKind.u32.wrap (b : Int) * 2 ^ r)) = ((x ||| (b * 2 ^ r % 4294967296) : Nat) : Int) := by
  have h1 : IntKind.u32.wrap (b : Int) = (b : Int) := wraps_u32 _ (by omega) (by omega)
  have h2 : (b : Int) * 2 ^ r = ((b * 2 ^ r : Nat) : Int) := by push_cast; rfl
  have h3 : IntKind.u32.wrap ((b * 2 ^ r : Nat) : Int) = ((b * 2 ^ r % 4294967296 : Nat) : Int) := by
    simp only [IntKind.wrap, IntKind.bits, IntKind.signed]
    simp
  rw [h1, h2, h3]
  exact or_u32 _ _ hx (Nat.mod_lt _ (by decide))
/-! ### the state's cells -/
def stL (a b c d : Nat) : Array Value := ([u32 a, u32 b, u32 c, u32 d] ++ sinT.map u32).toArray
def stA (q : Q4) : Array Value := stL q.a q.b q.c q.d
theorem stL_hi (a b c d i : Nat) (h : i < 64) : (stL a b c d)[4 + i]? = some (.int .u32 ((sinT.getD i 0 : Nat) : Int)) := by
  have hl : i < sinT.length := by rw [sinT_length]; exact h
  unfold stL
  rw [List.getElem?_toArray, List.getElem?_append_right (by simp)]
  simp only [List.length_cons, List.length_nil, Nat.zero_add, Nat.reduceAdd, Nat.add_sub_cancel_left, List.getElem?_map, List.getElem?_eq_getElem hl, Option.map_some, u32, List.getD_eq_getElem?_getD, Option.getD_some]
theorem stL_0 (a b c d : Nat) : (stL a b c d)[0]? = some (.int .u32 (a : Int)) := rfl
theorem stL_1 (a b c d : Nat) : (stL a b c d)[1]? = some (.int .u32 (b : Int)) := rfl
theorem stL_2 (a b c d : Nat) : (stL a b c d)[2]? = some (.int .u32 (c : Int)) := rfl
theorem stL_3 (a b c d : Nat) : (stL a b c d)[3]? = some (.int .u32 (d : Int)) := rfl
theorem stL_s0 (a b c d x : Nat) : (stL a b c d).setIfInBounds 0 (.int .u32 (x : Int)) = stL x b c d := by unfold stL; rw [List.setIfInBounds_toArray]; rfl
theorem stL_s1 (a b c d x : Nat) : (stL a b c d).setIfInBounds 1 (.int .u32 (x : Int)) = stL a x c d := by unfold stL; rw [List.setIfInBounds_toArray]; rfl
theorem stL_s2 (a b c d x : Nat) : (stL a b c d).setIfInBounds 2 (.int .u32 (x : Int)) = stL a b x d := by unfold stL; rw [List.setIfInBounds_toArray]; rfl
theorem stL_s3 (a b c d x : Nat) : (stL a b c d).setIfInBounds 3 (.int .u32 (x : Int)) = stL a b c x := by unfold stL; rw [List.setIfInBounds_toArray]; rfl
/-- The state when the first j words are added. -/
def stP (q p : Q4) (j : Nat) : Array Value :=
  stL (if 0 < j then (q.a + p.a) % 4294967296 else q.a) (if 1 < j then (q.b + p.b) % 4294967296 else q.b) (if 2 < j then (q.c + p.c) % 4294967296 else q.c) (if 3 < j then (q.d + p.d) % 4294967296 else q.d)
theorem stP_0 (q p : Q4) : stP q p 0 = stA q := rfl
theorem stP_4 (q p : Q4) : stP q p 4 = stA (addN q p) := rfl
theorem stP_at0 (q p : Q4) : (stP q p 0)[0]? = some (.int .u32 (q.a : Int)) := rfl
theorem stP_set0 (q p : Q4) : (stP q p 0).setIfInBounds 0 (.int .u32 (((q.a + p.a) % 4294967296 : Nat) : Int)) = stP q p 1 := stL_s0 _ _ _ _ _
theorem stP_at1 (q p : Q4) : (stP q p 1)[1]? = some (.int .u32 (q.b : Int)) := rfl
theorem stP_set1 (q p : Q4) : (stP q p 1).setIfInBounds 1 (.int .u32 (((q.b + p.b) % 4294967296 : Nat) : Int)) = stP q p 2 := stL_s1 _ _ _ _ _
theorem stP_at2 (q p : Q4) : (stP q p 2)[2]? = some (.int .u32 (q.c : Int)) := rfl
theorem stP_set2 (q p : Q4) : (stP q p 2).setIfInBounds 2 (.int .u32 (((q.c + p.c) % 4294967296 : Nat) : Int)) = stP q p 3 := stL_s2 _ _ _ _ _
theorem stP_at3 (q p : Q4) : (stP q p 3)[3]? = some (.int .u32 (q.d : Int)) := rfl
theorem stP_set3 (q p : Q4) : (stP q p 3).setIfInBounds 3 (.int .u32 (((q.d + p.d) % 4294967296 : Nat) : Int)) = stP q p 4 := stL_s3 _ _ _ _ _
theorem grown_of_below {w W : World} (h : Below w.heap.size w W) (r : Option Nat) : w.grownBy W r := ⟨h.os, h.tape, h.output, h.size, fun k hk _ => h.block k hk⟩
theorem grown_drew {w W : World} {r : Option Nat} (h : w.grownBy W r) : w.grownBy W.drew r := ⟨h.os, h.tape, h.output, h.size, h.block⟩
theorem grown_drewN {w W : World} {r : Option Nat} (h : w.grownBy W r) (n : Nat) : w.grownBy (W.drewN n) r := ⟨h.os, h.tape, h.output, h.size, h.block⟩
theorem grown_set {w W : World} {b : Nat} (h : w.grownBy W (some b)) (j : Nat) (u : Value) : w.grownBy (W.setCell ⟨b, j, none⟩ u) (some b) :=
  ⟨h.os, h.tape, h.output, by rw [World.size_setCell]; exact h.size, fun k hk hne => (Below.heap_setCell W ⟨b, j, none⟩ u k (fun e => hne (by rw [e]))).trans (h.block k hk hne)⟩
theorem wrap_u32 (x : Nat) : IntKind.u32.wrap (x : Int) = ((x % 4294967296 : Nat) : Int) := by
  simp only [IntKind.wrap, IntKind.bits, IntKind.signed]
  simp
theorem sum_u32 (a f k x : Nat) : IntKind.u32.wrap (IntKind.u32.wrap (IntKind.u32.wrap ((a : Int) + (f : Int)) + (k : Int)) + (x : Int)) = (((a + f + k + x) % 4294967296 : Nat) : Int) := by
  rw [← Int.natCast_add, wrap_u32, ← Int.natCast_add, wrap_u32, ← Int.natCast_add, wrap_u32]
  congr 1
  omega
theorem add_u32 (a b : Nat) : IntKind.u32.wrap ((a : Int) + (b : Int)) = (((a + b) % 4294967296 : Nat) : Int) := by
  rw [← Int.natCast_add, wrap_u32]

set_option maxHeartbeats 4000000 in
set_option maxRecDepth 100000 in
theorem turn_any (bx : Nat) (q : Q4) (s : ByteArray) (w : World) (hq : q.ok) (hs : s.size = 64) (hx : w.heap[bx]? = some (.cells (stA q) 122 (0, 0))) :
    Calls Tryz.prog 88 #[.pointer (some ⟨bx, 0, none⟩), .string s] w fun e w' => e = .returned (.tuple #[]) ∧ w'.heap[bx]? = some (.cells (stA (blockN q s.data.toList)) 122 (0, 0)) ∧ w.grownBy w' (some bx) := by
  have hz : ∀ w : World, (zeroValue 136).run Tryz.prog w = .ok (.agg (wA (s.data.toList.take 0))) w := fun w => by rw [wA_zero]; kernel_rfl
  have HS := Lib.hid hs
  have HX := Lib.hid hx
  have HQ := Lib.hid hq
  clear hs hx hq
  go_enter Tryz.func88, Tryz.ntmps88
  go_wp2
  clear hz
  go_loopw [15] (fun v15 wr => ∃ k : Nat, k ≤ 64 ∧ v15 = .int .i64 k ∧ Hid (wr.heap[w.heap.size]? = some (.cells (wA (s.data.toList.take k)) 136 (0, 0))) ∧ Hid (Below w.heap.size w wr)) (fun v15 _ => 64 - (intOf v15).toNat)
  case atStart => exact ⟨0, by omega, rfl, blk_new w _, (Below.refl _ w).alloc (Nat.le_refl _) _⟩
  case round =>
    obtain ⟨k, hk, rfl, hW, hB⟩ := hrel
    by_cases hlt : k < 64
    · have hks : k < s.size := by have := HS.out; omega
      have r1 := run_index_string (P := Tryz.prog)
      have hcell : wr.drew.cell? ⟨w.heap.size, k / 4, none⟩ = some (.int .u32 (wordN (s.data.toList.take k) (k / 4) : Int)) := by
        rw [← wA_at _ _ (by omega)]
        exact blk_cell (blk_drew hW.out) _
      have hfr : wr.drew.frozen? ⟨w.heap.size, k / 4, none⟩ = false := blk_frozen (blk_drew hW.out) _
      have hW1 : Hid (wr.drew.heap[w.heap.size]? = some (.cells (wA (s.data.toList.take k)) 136 (0, 0))) := Lib.hid (blk_drew hW.out)
      have hB1 : Hid (Below w.heap.size w wr.drew) := Lib.hid (below_drew1 hB.out)
      have hset := wA_set s.data.toList k hlt
      have hgd : s.data.toList.getD k 0 = s[k] := getD_at s k hks
      rw [hgd] at hset
      have e_or : Go.bits .or .u32 ((wordN (s.data.toList.take k) (k / 4) : Nat) : Int) (IntKind.u32.wrap (IntKind.u32.wrap (s[k].toNat : Int) * 2 ^ (8 * (k % 4)))) = ((wordN (s.data.toList.take k) (k / 4) ||| (s[k].toNat * 2 ^ (8 * (k % 4)) % 4294967296) : Nat) : Int) := or_word _ _ _ (wordN_lt _ _) s[k].toNat_lt
      generalize (wordN (s.data.toList.take k) (k / 4) ||| (s[k].toNat * 2 ^ (8 * (k % 4)) % 4294967296)) = y at hset e_or
      have HSet := Lib.hid hset
      clear hW hB hgd hset
      have i5 : ((k : Int).tmod 4) = (k : Int) % 4 := Int.tmod_eq_emod_of_nonneg (by omega)
      go_wp2
      have i1 : IntKind.i64.wrap ((k : Int) / 4) = (k : Int) / 4 := IntWalk.i64_in _ (by omega)
      have i2 : (0 : Int) ≤ (k : Int) / 4 := by omega
      have i3 : ((k : Int) / 4).toNat = k / 4 := by omega
      have i4 : (k : Int) / 4 < 16 := by omega
      have i6 : IntKind.i64.wrap ((k : Int) % 4) = (k : Int) % 4 := IntWalk.i64_in _ (by omega)
      have i7 : IntKind.i64.wrap (8 * ((k : Int) % 4)) = 8 * ((k : Int) % 4) := IntWalk.i64_in _ (by omega)
      have i8 : (0 : Int) ≤ 8 * ((k : Int) % 4) := by omega
      have i9 : (8 * ((k : Int) % 4)).toNat = 8 * (k % 4) := by omega
      have rs : ∀ w0, (Instr.index 9 (.string s) (.int .i64 (k : Int))).run Tryz.prog w0 = .ok (.int .u8 (s[k].toNat : Int)) w0 := fun w0 => by
        rw [r1 w0 9 s .i64 (k : Int) Tryz.underlying9, dif_pos ⟨by omega, by omega⟩]
        rfl
      refine wp_region_still_tail 14 (by kernel_rfl) (by kernel_rfl) ?_
      simp only [List.take_succ_cons, List.take_zero, List.drop_succ_cons, List.drop_zero]
      have hrec : ({ heap := wr.heap, tape := wr.tape, drawn := wr.drawn + 1, os := wr.os, output := wr.output } : World) = wr.drew := rfl
      rw [hrec]
      clear hrec
      generalize wr.drew = W2 at hcell hfr hW1 hB1 ⊢
      repeat still_step
      refine wpStill_nil ?_
      clear i1 i2 i3 i4 i5 i6 i7 i8 i9 rs r1
      go_wp2
      go_roundw
      case rel => exact ⟨k + 1, by omega, by go_num, Lib.hid (blk_put hW1.out _ _ HSet.out), Lib.hid (hB1.out.setCell (Nat.le_refl _) _)⟩
      case measure => simp [intOf]; omega
    · have hall : s.data.toList.take k = s.data.toList := List.take_of_length_le (by have := HS.out; simp; omega)
      have hW1 : Hid (wr.heap[w.heap.size]? = some (.cells (wA s.data.toList) 136 (0, 0))) := Lib.hid (by have := hW.out; rw [hall] at this; exact this)
      have hX1 : Hid (wr.heap[bx]? = some (.cells (stA q) 122 (0, 0))) := Lib.hid (blk_below HX.out hB.out)
      have c0 : wr.cell? ⟨bx, 0, none⟩ = some (.int .u32 (q.a : Int)) := (blk_cell hX1.out 0).trans (stL_0 _ _ _ _)
      have c1 : wr.cell? ⟨bx, 1, none⟩ = some (.int .u32 (q.b : Int)) := (blk_cell hX1.out 1).trans (stL_1 _ _ _ _)
      have c2 : wr.cell? ⟨bx, 2, none⟩ = some (.int .u32 (q.c : Int)) := (blk_cell hX1.out 2).trans (stL_2 _ _ _ _)
      have c3 : wr.cell? ⟨bx, 3, none⟩ = some (.int .u32 (q.d : Int)) := (blk_cell hX1.out 3).trans (stL_3 _ _ _ _)
      clear hW hall
      go_wp2
      go_quiet (fail)
      clear c0 c1 c2 c3
      go_wp2
      go_loopw [6, 7, 8, 9, 53] (fun v6 v7 v8 v9 v53 wr2 => ∃ (k2 : Nat) (p : Q4), k2 ≤ 64 ∧ v53 = .int .i64 k2 ∧ v6 = .int .u32 (p.a : Int) ∧ v7 = .int .u32 (p.b : Int) ∧ v8 = .int .u32 (p.c : Int) ∧ v9 = .int .u32 (p.d : Int) ∧ Hid (p = roundsN (wordsN s.data.toList) k2 q) ∧ Hid p.ok ∧
        Hid (wr2.heap[w.heap.size]? = some (.cells (wA s.data.toList) 136 (0, 0))) ∧ Hid (wr2.heap[bx]? = some (.cells (stA q) 122 (0, 0))) ∧ Hid (Below w.heap.size w wr2)) (fun _ _ _ _ v53 _ => 64 - (intOf v53).toNat)
      case atStart => exact ⟨0, q, by omega, rfl, rfl, rfl, rfl, rfl, rfl, HQ, Lib.hid (blk_drewN hW1.out _), Lib.hid (blk_drewN hX1.out _), Lib.hid (pw_below_drewN hB.out _)⟩
      case round =>
        clear hW1 hX1 hB hlt hk
        obtain ⟨k2, p, hk2, rfl, rfl, rfl, rfl, rfl, hp, hok, hW1, hX1, hB⟩ := hrel
        by_cases hlt2 : k2 < 64
        · obtain ⟨ha, hb, hc, hd⟩ := hok.out
          have hmix := fun w0 => mix_any k2 p.b p.c p.d w0 hlt2 hb hc hd
          have hpick := pickN_lt k2 hlt2
          obtain ⟨hr0, hr1⟩ := rotN_in k2 hlt2
          have hcW : wr.cell? ⟨w.heap.size, pickN k2, none⟩ = some (.int .u32 ((wordsN s.data.toList).getD (pickN k2) 0 : Nat)) := by
            rw [wordsN_get _ _ hpick]
            exact (blk_cell hW1.out _).trans (wA_at _ _ hpick)
          have hcK : wr.cell? ⟨bx, 4 + k2, none⟩ = some (.int .u32 ((sinT.getD k2 0 : Nat) : Int)) := (blk_cell hX1.out _).trans (stL_hi _ _ _ _ _ hlt2)
          have hp2 : Hid (roundN (wordsN s.data.toList) k2 p = roundsN (wordsN s.data.toList) (k2 + 1) q) := Lib.hid (by rw [hp.out]; rfl)
          have hok2 : Hid (roundN (wordsN s.data.toList) k2 p).ok := Lib.hid (roundN_ok _ _ hok.out)
          have hrn : roundN (wordsN s.data.toList) k2 p = ⟨p.d, (p.b + rotlN ((p.a + mixN k2 p.b p.c p.d + sinT.getD k2 0 + (wordsN s.data.toList).getD (pickN k2) 0) % 4294967296) (rotN k2)) % 4294967296, p.b, p.c⟩ := rfl
          have ht := fun w0 => turns_any k2 w0 hlt2
          generalize mixN k2 p.b p.c p.d = f at hmix hrn
          generalize pickN k2 = g at hmix hpick hcW hrn
          generalize (wordsN s.data.toList).getD g 0 = xw at hcW hrn
          generalize sinT.getD k2 0 = kk at hcK hrn
          generalize rotN k2 = rt at ht hr0 hr1 hrn
          have hxlt : (p.a + f + kk + xw) % 4294967296 < 4294967296 := Nat.mod_lt _ (by decide)
          have hr := fun w0 => rotl_any ((p.a + f + kk + xw) % 4294967296) rt w0 hxlt hr0 hr1
          have e1 : ((p.a : Int) + (f : Int) + (kk : Int) + (xw : Int)) % 4294967296 = (((p.a + f + kk + xw) % 4294967296 : Nat) : Int) := by omega
          generalize (p.a + f + kk + xw) % 4294967296 = x at hr e1 hrn hxlt
          generalize hR : rotlN x rt = R at hr hrn
          have e2 : ((p.b : Int) + (R : Int)) % 4294967296 = (((p.b + R) % 4294967296 : Nat) : Int) := by omega
          generalize (p.b + R) % 4294967296 = y at e2 hrn
          have HRn := Lib.hid hrn
          have HMix := Lib.hid hmix
          have HT := Lib.hid ht
          have HR := Lib.hid hr
          have hpk2 : (0 : Int) ≤ (g : Int) := by omega
          clear ha hb hc hd hR hr0 hr1 hrn hmix ht hr
          go_wp2_with fail
          ((with_reducible refine (HMix.out _).mono ?_); rintro e w1 ⟨rfl, hw⟩; obtain rfl : wr = w1 := hw.symm)
          go_wp2_with fail
          go_quiet (first | ((go_at_call 104; with_reducible exact Calls.quiet_of_same (HT.out _))) | ((go_at_call 103; with_reducible exact Calls.quiet_of_same (HR.out _))))
          clear e1 HMix HT HR hcW hcK
          go_wp2
          go_roundw
          case rel => exact ⟨k2 + 1, ⟨p.d, y, p.b, p.c⟩, by omega, by go_num, rfl, by first | rfl | rw [e2], rfl, rfl, Lib.hid (by rw [← HRn.out]; exact hp2.out), Lib.hid (by rw [← HRn.out]; exact hok2.out), Lib.hid (blk_drewN hW1.out _), Lib.hid (blk_drewN hX1.out _), Lib.hid (pw_below_drewN hB.out _)⟩
          case measure => simp [intOf]; omega
        · obtain rfl : k2 = 64 := by omega
          have HP : Hid (addN q p = blockN q s.data.toList) := Lib.hid (by rw [hp.out]; rfl)
          have HX1 : Hid (wr.heap[bx]? = some (.cells (stP q p 0) 122 (0, 0))) := hX1
          have HG : Hid (w.grownBy wr (some bx)) := Lib.hid (grown_of_below hB.out _)
          clear hp hok hW1 hX1 hB hk2
          go_wp2
          go_loopw [92] (fun v92 wr3 => ∃ j : Nat, j ≤ 4 ∧ v92 = .int .i64 (j : Int) ∧ Hid (wr3.heap[bx]? = some (.cells (stP q p j) 122 (0, 0))) ∧ Hid (w.grownBy wr3 (some bx))) (fun v92 _ => 4 - (intOf v92).toNat)
          case atStart => exact ⟨0, by omega, rfl, HX1, HG⟩
          case round =>
            clear HX1 HG hlt2
            obtain ⟨j, hj, rfl, hX3, hG3⟩ := hrel
            have hj4 : j = 0 ∨ j = 1 ∨ j = 2 ∨ j = 3 ∨ j = 4 := by omega
            clear hj
            rcases hj4 with rfl | rfl | rfl | rfl | rfl
            · have e0 : ((0 : Nat) : Int) = 0 := rfl
              have c0 : wr.drew.cell? ⟨bx, 0, none⟩ = some (.int .u32 (q.a : Int)) := (blk_cell (blk_drew hX3.out) 0).trans (stP_at0 q p)
              have f0 : wr.drew.frozen? ⟨bx, 0, none⟩ = false := blk_frozen (blk_drew hX3.out) 0
              have hX4 : Hid (wr.drew.heap[bx]? = some (.cells (stP q p 0) 122 (0, 0))) := Lib.hid (blk_drew hX3.out)
              have hG4 : Hid (w.grownBy wr.drew (some bx)) := Lib.hid (grown_drew hG3.out)
              have e2 : ((q.a : Int) + (p.a : Int)) % 4294967296 = (((q.a + p.a) % 4294967296 : Nat) : Int) := by omega
              have e3 : IntKind.u32.wrap ((q.a : Int) + (p.a : Int)) = (((q.a + p.a) % 4294967296 : Nat) : Int) := add_u32 _ _
              have HSt := Lib.hid (stP_set0 q p)
              have ix : ∀ w0, (Instr.index 118 (.agg #[.int .u32 (p.a : Int), .int .u32 (p.b : Int), .int .u32 (p.c : Int), .int .u32 (p.d : Int)]) (.int .i64 0)).run Tryz.prog w0 = .ok (.int .u32 (p.a : Int)) w0 := fun _ => by kernel_rfl
              generalize (q.a + p.a) % 4294967296 = y at e2 e3 HSt
              clear hX3 hG3
              rw [e0]
              clear e0
              go_wp2
              refine wp_region_still_tail 11 (by kernel_rfl) (by kernel_rfl) ?_
              simp only [List.take_succ_cons, List.take_zero, List.drop_succ_cons, List.drop_zero]
              have hrec : ({ heap := wr.heap, tape := wr.tape, drawn := wr.drawn + 1, os := wr.os, output := wr.output } : World) = wr.drew := rfl
              rw [hrec]
              clear hrec
              generalize wr.drew = W2 at c0 f0 hX4 hG4 ⊢
              repeat still_step
              refine wpStill_nil ?_
              go_wp2
              go_roundw
              case rel => ((repeat apply Exists.intro); exact ⟨⟨1, by omega, by go_num, Lib.hid (blk_put hX4.out _ _ HSt.out), Lib.hid (grown_set hG4.out _ _)⟩, rfl⟩)
              case measure => simp [intOf]
            · have e0 : ((1 : Nat) : Int) = 1 := rfl
              have c0 : wr.drew.cell? ⟨bx, 1, none⟩ = some (.int .u32 (q.b : Int)) := (blk_cell (blk_drew hX3.out) 1).trans (stP_at1 q p)
              have f0 : wr.drew.frozen? ⟨bx, 1, none⟩ = false := blk_frozen (blk_drew hX3.out) 1
              have hX4 : Hid (wr.drew.heap[bx]? = some (.cells (stP q p 1) 122 (0, 0))) := Lib.hid (blk_drew hX3.out)
              have hG4 : Hid (w.grownBy wr.drew (some bx)) := Lib.hid (grown_drew hG3.out)
              have e2 : ((q.b : Int) + (p.b : Int)) % 4294967296 = (((q.b + p.b) % 4294967296 : Nat) : Int) := by omega
              have e3 : IntKind.u32.wrap ((q.b : Int) + (p.b : Int)) = (((q.b + p.b) % 4294967296 : Nat) : Int) := add_u32 _ _
              have HSt := Lib.hid (stP_set1 q p)
              have ix : ∀ w0, (Instr.index 118 (.agg #[.int .u32 (p.a : Int), .int .u32 (p.b : Int), .int .u32 (p.c : Int), .int .u32 (p.d : Int)]) (.int .i64 1)).run Tryz.prog w0 = .ok (.int .u32 (p.b : Int)) w0 := fun _ => by kernel_rfl
              generalize (q.b + p.b) % 4294967296 = y at e2 e3 HSt
              clear hX3 hG3
              rw [e0]
              clear e0
              go_wp2
              refine wp_region_still_tail 11 (by kernel_rfl) (by kernel_rfl) ?_
              simp only [List.take_succ_cons, List.take_zero, List.drop_succ_cons, List.drop_zero]
              have hrec : ({ heap := wr.heap, tape := wr.tape, drawn := wr.drawn + 1, os := wr.os, output := wr.output } : World) = wr.drew := rfl
              rw [hrec]
              clear hrec
              generalize wr.drew = W2 at c0 f0 hX4 hG4 ⊢
              repeat still_step
              refine wpStill_nil ?_
              go_wp2
              go_roundw
              case rel => ((repeat apply Exists.intro); exact ⟨⟨2, by omega, by go_num, Lib.hid (blk_put hX4.out _ _ HSt.out), Lib.hid (grown_set hG4.out _ _)⟩, rfl⟩)
              case measure => simp [intOf]
            · have e0 : ((2 : Nat) : Int) = 2 := rfl
              have c0 : wr.drew.cell? ⟨bx, 2, none⟩ = some (.int .u32 (q.c : Int)) := (blk_cell (blk_drew hX3.out) 2).trans (stP_at2 q p)
              have f0 : wr.drew.frozen? ⟨bx, 2, none⟩ = false := blk_frozen (blk_drew hX3.out) 2
              have hX4 : Hid (wr.drew.heap[bx]? = some (.cells (stP q p 2) 122 (0, 0))) := Lib.hid (blk_drew hX3.out)
              have hG4 : Hid (w.grownBy wr.drew (some bx)) := Lib.hid (grown_drew hG3.out)
              have e2 : ((q.c : Int) + (p.c : Int)) % 4294967296 = (((q.c + p.c) % 4294967296 : Nat) : Int) := by omega
              have e3 : IntKind.u32.wrap ((q.c : Int) + (p.c : Int)) = (((q.c + p.c) % 4294967296 : Nat) : Int) := add_u32 _ _
              have HSt := Lib.hid (stP_set2 q p)
              have ix : ∀ w0, (Instr.index 118 (.agg #[.int .u32 (p.a : Int), .int .u32 (p.b : Int), .int .u32 (p.c : Int), .int .u32 (p.d : Int)]) (.int .i64 2)).run Tryz.prog w0 = .ok (.int .u32 (p.c : Int)) w0 := fun _ => by kernel_rfl
              generalize (q.c + p.c) % 4294967296 = y at e2 e3 HSt
              clear hX3 hG3
              rw [e0]
              clear e0
              go_wp2
              refine wp_region_still_tail 11 (by kernel_rfl) (by kernel_rfl) ?_
              simp only [List.take_succ_cons, List.take_zero, List.drop_succ_cons, List.drop_zero]
              have hrec : ({ heap := wr.heap, tape := wr.tape, drawn := wr.drawn + 1, os := wr.os, output := wr.output } : World) = wr.drew := rfl
              rw [hrec]
              clear hrec
              generalize wr.drew = W2 at c0 f0 hX4 hG4 ⊢
              repeat still_step
              refine wpStill_nil ?_
              go_wp2
              go_roundw
              case rel => ((repeat apply Exists.intro); exact ⟨⟨3, by omega, by go_num, Lib.hid (blk_put hX4.out _ _ HSt.out), Lib.hid (grown_set hG4.out _ _)⟩, rfl⟩)
              case measure => simp [intOf]
            · have e0 : ((3 : Nat) : Int) = 3 := rfl
              have c0 : wr.drew.cell? ⟨bx, 3, none⟩ = some (.int .u32 (q.d : Int)) := (blk_cell (blk_drew hX3.out) 3).trans (stP_at3 q p)
              have f0 : wr.drew.frozen? ⟨bx, 3, none⟩ = false := blk_frozen (blk_drew hX3.out) 3
              have hX4 : Hid (wr.drew.heap[bx]? = some (.cells (stP q p 3) 122 (0, 0))) := Lib.hid (blk_drew hX3.out)
              have hG4 : Hid (w.grownBy wr.drew (some bx)) := Lib.hid (grown_drew hG3.out)
              have e2 : ((q.d : Int) + (p.d : Int)) % 4294967296 = (((q.d + p.d) % 4294967296 : Nat) : Int) := by omega
              have e3 : IntKind.u32.wrap ((q.d : Int) + (p.d : Int)) = (((q.d + p.d) % 4294967296 : Nat) : Int) := add_u32 _ _
              have HSt := Lib.hid (stP_set3 q p)
              have ix : ∀ w0, (Instr.index 118 (.agg #[.int .u32 (p.a : Int), .int .u32 (p.b : Int), .int .u32 (p.c : Int), .int .u32 (p.d : Int)]) (.int .i64 3)).run Tryz.prog w0 = .ok (.int .u32 (p.d : Int)) w0 := fun _ => by kernel_rfl
              generalize (q.d + p.d) % 4294967296 = y at e2 e3 HSt
              clear hX3 hG3
              rw [e0]
              clear e0
              go_wp2
              refine wp_region_still_tail 11 (by kernel_rfl) (by kernel_rfl) ?_
              simp only [List.take_succ_cons, List.take_zero, List.drop_succ_cons, List.drop_zero]
              have hrec : ({ heap := wr.heap, tape := wr.tape, drawn := wr.drawn + 1, os := wr.os, output := wr.output } : World) = wr.drew := rfl
              rw [hrec]
              clear hrec
              generalize wr.drew = W2 at c0 f0 hX4 hG4 ⊢
              repeat still_step
              refine wpStill_nil ?_
              go_wp2
              go_roundw
              case rel => ((repeat apply Exists.intro); exact ⟨⟨4, by omega, by go_num, Lib.hid (blk_put hX4.out _ _ HSt.out), Lib.hid (grown_set hG4.out _ _)⟩, rfl⟩)
              case measure => simp [intOf]
            · have e0 : ((4 : Nat) : Int) = 4 := rfl
              rw [e0]
              clear e0
              have HX5 : Hid (wr.heap[bx]? = some (.cells (stA (blockN q s.data.toList)) 122 (0, 0))) := Lib.hid (by rw [← HP.out, ← stP_4]; exact hX3.out)
              clear hX3
              go_wp2
              go_end0
              exact ⟨rfl, HX5.out, hG3.out⟩
end Go.Proofs.YtlpibobpfafooaaGreatDoor.H
/-
  Contract at this seat: MD5 of a text.
-/
set_option linter.unusedVariables false
set_option linter.unusedSimpArgs false
namespace Go.Proofs.YtlpibobpfafooaaGreatDoor.H
open Go.RowKit Go.Proofs.Wy Go.Proofs.YtlpibobpfafooaaGreatDoorW.PrintWords

theorem info_u8' : (Tryz.prog.info? 5).map (fun i => (i.zero, i.size, i.bytes)) = some (some (.int .u8 0), 1, 1) := by kernel_rfl
/-- The padding's bytes. -/
def padB (m : Nat) : List UInt8 := 128 :: List.replicate (m - 1) 0
def padC (m : Nat) : Array Value := ((padB m).map fun b => Value.int .u8 (b.toNat : Int)).toArray
theorem padB_len (m : Nat) (h : 0 < m) : (padB m).length = m := by simp [padB]; omega
theorem pad_made (m : Nat) (h : 0 < m) : (madeCells #[Value.int .u8 0] m).setIfInBounds 0 (.int .u8 128) = padC m := by
  obtain ⟨k, rfl⟩ : ∃ k, m = k + 1 := ⟨m - 1, by omega⟩
  have hsz : (madeCells #[Value.int .u8 0] (k + 1)).size = k + 1 := by simp [madeCells]
  have hsp : (padC (k + 1)).size = k + 1 := by simp [padC, padB]
  apply Array.ext
  · rw [Array.size_setIfInBounds, hsz, hsp]
  · intro i h1 h2
    rw [hsp] at h2
    rw [Array.getElem_setIfInBounds]
    · split
      · rename_i e; subst e; simp [padC, padB]
      · rename_i e
        obtain ⟨j, rfl⟩ : ∃ j, i = j + 1 := ⟨i - 1, by omega⟩
        have hz : ∀ x : Nat, x % 1 = 0 := fun x => Nat.mod_one x
        simp [madeCells, padC, padB, hz]
    · rw [hsz]; exact h2
theorem pad_first (m : Nat) (h : 0 < m) : (madeCells #[Value.int .u8 0] m)[0]? = some (.int .u8 0) := by
  have hsz : (madeCells #[Value.int .u8 0] m).size = m := by simp [madeCells]
  rw [Array.getElem?_eq_getElem (by rw [hsz]; exact h)]
  simp [madeCells]
set_option maxRecDepth 100000 in
theorem pad_run (m b : Nat) (h : 0 < m) (W : World) (hb : W.heap[b]? = some (.cells (padC m) 5 (0, 0))) :
    (convert 34 9 (.slice (some ⟨b, 0, none⟩) m m)).run Tryz.prog W = .ok (.string ⟨(padB m).toArray⟩) W := by
  have e := run_convert_bytes_back (P := Tryz.prog) W 34 9 5 ⟨b, 0, none⟩ m (padB m) rfl rfl rfl (fun j hj => by
    have ha : (⟨b, 0, none⟩ : Addr).add j = ⟨b, j, none⟩ := by unfold Addr.add; split <;> simp_all
    rw [ha, blk_cell hb j]
    simp [padC, hj])
  rw [padB_len m h] at e
  exact e

theorem words_two (b n1 n2 : Nat) (w : World) (h1 : n1 < 4294967296) (h2 : n2 < 4294967296) (hb : w.heap[b]? = some (.cells #[.int .u32 (n1 : Int), .int .u32 (n2 : Int)] 73 (0, 0))) :
    Calls Tryz.prog 86 #[.slice (some ⟨b, 0, none⟩) 2 2] w fun e w' => e = .returned (.string ⟨(le4 n1 ++ le4 n2).toArray⟩) ∧ Below w.heap.size w w' := by
  refine (words_any b 0 [n1, n2] 2 w (by simp) (by simp; exact ⟨h1, h2⟩) (Nat.le_refl _) (fun i hi => ?_)).mono fun e w' ⟨he, hB⟩ => ⟨by rw [he]; simp, hB⟩
  rw [Nat.zero_add, blk_cell hb i]
  have : i = 0 ∨ i = 1 := by simp at hi; omega
  rcases this with rfl | rfl <;> rfl
theorem words_state (b : Nat) (q : Q4) (w : World) (hq : q.ok) (hb : w.heap[b]? = some (.cells (stA q) 122 (0, 0))) :
    Calls Tryz.prog 86 #[.slice (some ⟨b, 0, none⟩) 4 4] w fun e w' => e = .returned (.string ⟨(outN q).toArray⟩) ∧ Below w.heap.size w w' := by
  obtain ⟨h1, h2, h3, h4⟩ := hq
  refine (words_any b 0 [q.a, q.b, q.c, q.d] 4 w (by simp) (by simp; exact ⟨h1, h2, h3, h4⟩) (Nat.le_refl _) (fun i hi => ?_)).mono fun e w' ⟨he, hB⟩ => ⟨by rw [he]; simp [outN], hB⟩
  rw [Nat.zero_add, blk_cell hb i]
  have : i = 0 ∨ i = 1 ∨ i = 2 ∨ i = 3 := by simp at hi; omega
  rcases this with rfl | rfl | rfl | rfl <;> rfl
theorem wrap_len (n : Nat) : IntKind.u32.wrap ((n : Int) * 8) = ((n * 8 % 4294967296 : Nat) : Int) := by
  have h := wrap_u32 (n * 8)
  rw [Int.natCast_mul] at h
  exact h
theorem wrap_high (n : Nat) : IntKind.u32.wrap ((n : Int) * 8 / 4294967296) = ((n * 8 / 4294967296 % 4294967296 : Nat) : Int) := by
  have h := wrap_u32 (n * 8 / 4294967296)
  rw [Int.natCast_ediv, Int.natCast_mul] at h
  exact h
def q0 : Q4 := ⟨0x67452301, 0xefcdab89, 0x98badcfe, 0x10325476⟩
theorem q0_ok : q0.ok := by unfold Q4.ok q0; decide
theorem take_64 (L : ByteArray) (n : Nat) : (L.extract 0 n).data.toList = L.data.toList.take n := by simp
theorem drop_64 (L : ByteArray) (n : Nat) : (L.extract n L.size).data.toList = L.data.toList.drop n := by
  rw [ByteArray.data_extract, Array.toList_extract]
  simp [List.take_of_length_le]
theorem isEmpty_size' (p : ByteArray) : p.toList.isEmpty = (p.size == 0) := by
  rw [Lib.toList_data]
  have h : p.data.toList.length = p.size := Array.length_toList
  rw [← h]
  cases p.data.toList <;> rfl
def sizeOfS (v : Value) : Nat := match v with | .string s => s.size | _ => 0

set_option maxHeartbeats 1500000 in
set_option maxRecDepth 100000 in
theorem md5_any (s : ByteArray) (w : World) (hs : s.size ≤ 10000000) :
    Calls Tryz.prog 65 #[.string s] w fun e w' => e = .returned (.string ⟨(md5L s.data.toList).toArray⟩) ∧ Below w.heap.size w w' := by
  obtain ⟨m, hm⟩ : ∃ m : Nat, m = 1 + padZ s.size := ⟨_, rfl⟩
  have e1 : 1 + (119 - (s.size : Int)) % 64 = (m : Int) := by rw [hm]; unfold padZ; omega
  have hm0 : 0 < m := by omega
  have hm1 : m ≤ 64 := by rw [hm]; unfold padZ; omega
  have hmk := print_make (P := Tryz.prog) 34 5 .u8 1 Tryz.underlying34 info_u8' (by decide) m (by omega)
  have hpm := pad_made m hm0
  have hc0 := pad_first m hm0
  have hlist : (s ++ (⟨(padB m).toArray⟩ ++ ⟨(le4 (s.size * 8 % 4294967296) ++ le4 (s.size * 8 / 4294967296 % 4294967296)).toArray⟩)).data.toList = padL s.data.toList := by
    have hl : s.data.toList.length = s.size := Array.length_toList
    simp only [ByteArray.data_append, Array.toList_append]
    unfold padL padB
    rw [hl, hm]
    simp
  have HM := Lib.hid hm
  clear hm
  obtain ⟨n1, hn1⟩ : ∃ n, n = s.size * 8 % 4294967296 := ⟨_, rfl⟩
  obtain ⟨n2, hn2⟩ : ∃ n, n = s.size * 8 / 4294967296 % 4294967296 := ⟨_, rfl⟩
  rw [← hn1, ← hn2] at hlist
  have hl1 : n1 < 4294967296 := by omega
  have hl2 : n2 < 4294967296 := by omega
  have hpr := fun W hb => pad_run m w.heap.size hm0 W hb
  have hwt : ∀ W : World, W.heap[w.heap.size + 1]? = some (.cells #[.int .u32 (IntKind.u32.wrap ((s.size : Int) * 8)), .int .u32 (IntKind.u32.wrap ((s.size : Int) * 8 / 4294967296))] 73 (0, 0)) →
      Calls Tryz.prog 86 #[.slice (some ⟨w.heap.size + 1, 0, none⟩) 2 2] W fun e w' => e = .returned (.string ⟨(le4 n1 ++ le4 n2).toArray⟩) ∧ Below W.heap.size W w' := fun W hb => by
    rw [wrap_len, wrap_high, ← hn1, ← hn2] at hb
    exact words_two (w.heap.size + 1) n1 n2 W hl1 hl2 hb
  have hsA : (⟨(padB m).toArray⟩ : ByteArray).size = m := by rw [size_lit, padB_len m hm0]
  have hsB : (⟨(le4 n1 ++ le4 n2).toArray⟩ : ByteArray).size = 8 := by rw [size_lit]; rfl
  generalize (⟨(padB m).toArray⟩ : ByteArray) = A at hpr hsA hlist
  generalize (⟨(le4 n1 ++ le4 n2).toArray⟩ : ByteArray) = B at hwt hsB hlist
  have hA1 : ∀ w0, (Op.stringOp .add A B).run Tryz.prog w0 = .ok (.string (A ++ B)) w0 := fun w0 => run_string_add_sum w0 A B (by omega)
  have hA2 : ∀ w0, (Op.stringOp .add s (A ++ B)).run Tryz.prog w0 = .ok (.string (s ++ (A ++ B))) w0 := fun w0 => run_string_add_sum w0 s (A ++ B) (by rw [ByteArray.size_append]; omega)
  clear hn1 hn2 hl1 hl2
  have HL := Lib.hid hlist
  have HPR := Lib.hid hpr
  have HWT := Lib.hid hwt
  clear hlist hsA hsB hpr hwt
  go_enter Tryz.func65, Tryz.ntmps65
  go_wp2
  clear hmk hpm hc0 e1
  have hblk : ((w.alloc (.cells (padC m) 5))).heap[w.heap.size]? = some (.cells (padC m) 5 (0, 0)) := blk_new _ _
  have hz1 : (w.alloc (.cells (padC m) 5)).heap.size = w.heap.size + 1 := by simp
  have hblq : ((w.alloc (.cells (padC m) 5)).alloc (.cells #[.int .u32 (IntKind.u32.wrap ((s.size : Int) * 8)), .int .u32 (IntKind.u32.wrap ((s.size : Int) * 8 / 4294967296))] 73)).heap[w.heap.size + 1]? = some (.cells #[.int .u32 (IntKind.u32.wrap ((s.size : Int) * 8)), .int .u32 (IntKind.u32.wrap ((s.size : Int) * 8 / 4294967296))] 73 (0, 0)) := by
    have := blk_new (w.alloc (.cells (padC m) 5)) (.cells #[.int .u32 (IntKind.u32.wrap ((s.size : Int) * 8)), .int .u32 (IntKind.u32.wrap ((s.size : Int) * 8 / 4294967296))] 73)
    rwa [hz1] at this
  have hB2 : Hid (Below w.heap.size w ((w.alloc (.cells (padC m) 5)).alloc (.cells #[.int .u32 (IntKind.u32.wrap ((s.size : Int) * 8)), .int .u32 (IntKind.u32.wrap ((s.size : Int) * 8 / 4294967296))] 73)).drew) := Lib.hid (below_drew1 (((Below.refl _ w).alloc (Nat.le_refl _) _).alloc (by simp) _))
  have k1 : (w.alloc (.cells (padC m) 5)).drew.heap[w.heap.size]? = some (Obj.cells (padC m) 5 (0, 0)) := blk_drew hblk
  have k2 : ((w.alloc (.cells (padC m) 5)).alloc (.cells #[.int .u32 (IntKind.u32.wrap ((s.size : Int) * 8)), .int .u32 (IntKind.u32.wrap ((s.size : Int) * 8 / 4294967296))] 73)).drew.heap[w.heap.size]? = some (Obj.cells (padC m) 5 (0, 0)) := blk_drew (blk_alloc hblk _)
  have k3 : ((w.alloc (.cells (padC m) 5)).alloc (.cells #[.int .u32 (IntKind.u32.wrap ((s.size : Int) * 8)), .int .u32 (IntKind.u32.wrap ((s.size : Int) * 8 / 4294967296))] 73)).drew.heap[w.heap.size + 1]? = some (Obj.cells #[.int .u32 (IntKind.u32.wrap ((s.size : Int) * 8)), .int .u32 (IntKind.u32.wrap ((s.size : Int) * 8 / 4294967296))] 73 (0, 0)) := blk_drew hblq
  have K1 := Lib.hid k1
  have K2 := Lib.hid k2
  have R1 := Lib.hid (HPR.out _ k1)
  have R2 := Lib.hid (HPR.out _ k2)
  have C3 := Lib.hid (HWT.out _ k3)
  clear hblk hblq hz1 k1 k2 k3
  go_region_held3 (fun w' => w'.heap[w.heap.size]? = some (Obj.cells (padC m) 5 (0, 0)) ∧ Sem.run Tryz.prog (convert 34 9 (.slice (some ⟨w.heap.size, 0, none⟩) m m)) w' = .ok (.string A) w') (first | (with_reducible exact ⟨K1.out, R1.out⟩) | (with_reducible exact ⟨K2.out, R2.out⟩) | (with_reducible exact ⟨blk_below K2.out hb3.out, HPR.out _ (blk_below K2.out hb3.out)⟩)) ((go_at_call 86; (with_reducible refine C3.out.mono ?_); rintro e w3 ⟨rfl, hb3_⟩; have hb3 := Lib.hid hb3_; clear hb3_))
  have hb4 := Lib.hid (hB2.out.trans (hb3.out.mono hB2.out.size))
  clear hb3 K1 K2 R1 R2 C3 HPR HWT hB2 hA1 hA2
  go_wp2_with fail
  ((with_reducible refine (constants_any _).mono ?_); rintro e w4 ⟨rfl, hb5⟩)
  have hb6 := Lib.hid (hb4.out.trans (hb5.mono hb4.out.size))
  clear hb5 hb4
  go_wp2_with fail
  have hN : (s ++ (A ++ B)).size = 64 * ((padL s.data.toList).length / 64) := by
    have h1 := padL_length s.data.toList
    have h2 : (s ++ (A ++ B)).data.toList.length = (s ++ (A ++ B)).size := Array.length_toList
    rw [← h2, HL.out]
    omega
  have hmx : (s ++ (A ++ B)).size ≤ 20000000 := by
    have h1 := padL_length s.data.toList
    have h2 : (s ++ (A ++ B)).data.toList.length = (s ++ (A ++ B)).size := Array.length_toList
    have h3 : s.data.toList.length = s.size := Array.length_toList
    rw [← h2, HL.out]
    omega
  have hD : md5L s.data.toList = outN (blocksN ((padL s.data.toList).length / 64) q0 (s ++ (A ++ B)).data.toList) := by rw [HL.out]; rfl
  generalize (padL s.data.toList).length / 64 = N at hN hD
  obtain ⟨D, hDD⟩ : ∃ D, D = md5L s.data.toList := ⟨_, rfl⟩
  rw [← hDD] at hD
  have HDD := Lib.hid hDD
  clear hDD
  generalize (s ++ (A ++ B)) = L0 at hN hD hmx ⊢
  have HN := Lib.hid hN
  have HD := Lib.hid hD
  clear hN hD HL HM hm0 hm1
  go_loopw [0] (fun v0 wr => ∃ (L : ByteArray) (j : Nat) (q : Q4), v0 = .string L ∧ L.size ≤ 20000000 ∧ Hid (L.size = 64 * j) ∧ Hid (D = outN (blocksN j q L.data.toList)) ∧ Hid q.ok ∧ Hid (wr.heap[w4.heap.size]? = some (.cells (stA q) 122 (0, 0))) ∧ Hid (Below w.heap.size w wr)) (fun v0 _ => sizeOfS v0)
  case atStart => exact ⟨L0, N, q0, rfl, hmx, HN, HD, q0_ok, Lib.hid ((blk_new w4 _).trans (congrArg (fun c => some (Obj.cells c 122 (0, 0))) (by kernel_rfl))), Lib.hid (hb6.out.alloc hb6.out.size _)⟩
  case round =>
    obtain ⟨L, j, q, rfl, hLm, hLj, hDj, hq, hX, hB⟩ := hrel
    cases j with
    | zero =>
      have b0 : L.toList.isEmpty = true := by rw [isEmpty_size', hLj.out]; rfl
      have hw := Lib.hid (fun W hb => words_state w4.heap.size q W hq.out hb)
      have hD0 : Hid (D = outN q) := hDj
      clear hDj hLj
      go_wp2_with fail
      ((with_reducible refine (hw.out _ hX.out).mono ?_); rintro e w5 ⟨rfl, hb5⟩)
      have hb7 := Lib.hid (hB.out.trans (hb5.mono hB.out.size))
      clear hb5
      go_wp2_with fail
      go_ret
      exact ⟨by rw [← HDD.out, hD0.out]; rfl, hb7.out⟩
    | succ j =>
      have hge : 64 ≤ L.size := by have := hLj.out; omega
      have b0 : L.toList.isEmpty = false := by rw [isEmpty_size', beq_eq_false_iff_ne]; omega
      have hs1 : (L.extract 0 64).size = 64 := by rw [ByteArray.size_extract]; omega
      have ht := turn_any w4.heap.size q (L.extract 0 64) wr hq.out hs1 hX.out
      rw [take_64] at ht
      have hq2 : Hid (blockN q (L.data.toList.take 64)).ok := Lib.hid (blockN_ok _ _)
      have hD2 : Hid (D = outN (blocksN j (blockN q (L.data.toList.take 64)) (L.extract 64 L.size).data.toList)) := Lib.hid (by rw [drop_64]; exact hDj.out)
      have hL2 : Hid ((L.extract 64 L.size).size = 64 * j) := Lib.hid (by have := hLj.out; rw [ByteArray.size_extract]; omega)
      have hLs : (L.extract 64 L.size).size ≤ 20000000 ∧ (L.extract 64 L.size).size < L.size := by rw [ByteArray.size_extract]; omega
      generalize blockN q (L.data.toList.take 64) = q2 at ht hq2 hD2
      have HT := Lib.hid ht
      clear ht hDj hLj hs1 hX hq
      go_wp2_with fail
      ((with_reducible refine (HT.out).mono ?_); rintro e w5 ⟨rfl, hX2, hG⟩)
      have hX3 := Lib.hid hX2
      have hB3 : Hid (Below w.heap.size w w5) := Lib.hid ⟨hG.os.trans hB.out.os, hG.tape.trans hB.out.tape, hG.output.trans hB.out.output, Nat.le_trans hB.out.size hG.size, fun k hk => (hG.block k (Nat.lt_of_lt_of_le hk hB.out.size) (fun e => by have h := Option.some.inj e; have := hb6.out.size; omega)).trans (hB.out.block k hk)⟩
      clear hX2 hG hB HT
      go_wp2_with fail
      go_roundw
      case rel => exact ⟨L.extract 64 L.size, j, q2, rfl, hLs.1, hL2, hD2, hq2, hX3, hB3⟩
      case measure => exact hLs.2
end Go.Proofs.YtlpibobpfafooaaGreatDoor.H
