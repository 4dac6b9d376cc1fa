/-
  ConsoleMany, walked.
-/
import Derived.Test.YtlpibobpfafooaaGreatDoorLawB
set_option linter.unusedVariables false
set_option linter.unusedSimpArgs false
namespace Go.Proofs.YtlpibobpfafooaaGreatDoor.H
open Go.RowKit Go.Proofs.Wy Go.Proofs.YtlpibobpfafooaaGreatDoorW.PrintWords Go.Proofs

/-- The lines that ConsoleMany draws of. -/
def allL : List (List UInt8) := [[102, 99, 115, 32, 48, 48], [109, 100, 53, 32, 45], [102, 115, 109, 32, 54, 32, 54], [102, 114, 111, 98], [35, 32, 99],
  [100, 101, 108, 97, 121, 32, 50, 32, 51, 32, 52, 48, 32, 49], [116, 97, 114, 103, 101, 116, 32, 57, 48, 48, 32, 50, 53, 54, 32, 49, 32, 54], [117, 110, 102, 114, 97, 109, 101, 32, 48, 48]]
theorem all_len : ∀ x ∈ allL, x.length ≤ 20 := by decide
def manyS (xs : List (List UInt8)) : List UInt8 := xs.flatMap fun x => x ++ [10]
def manyW (xs : List (List UInt8)) : List UInt8 := xs.flatMap outL
theorem many_out (xs : List (List UInt8)) : outL (manyS xs) = manyW xs := by
  induction xs with
  | nil => exact outL_nil
  | cons x xs ih =>
    show outL ((x ++ [10]) ++ manyS xs) = outL x ++ manyW xs
    rw [← ih, ← outL_app]
    congr 1
    simp
theorem manyS_len (xs : List (List UInt8)) (h : ∀ x ∈ xs, x ∈ allL) : (manyS xs).length ≤ 21 * xs.length := by
  induction xs with
  | nil => simp [manyS]
  | cons x xs ih =>
    have h1 := all_len x (h x (by simp))
    have h2 := ih (fun y hy => h y (by simp [hy]))
    show ((x ++ [10]) ++ manyS xs).length ≤ _
    simp only [List.length_append, List.length_cons, List.length_nil]
    omega
theorem manyW_len (xs : List (List UInt8)) (h : ∀ x ∈ xs, x ∈ allL) : (manyW xs).length ≤ 27000000000 * xs.length := by
  induction xs with
  | nil => simp [manyW]
  | cons x xs ih =>
    have h1 := outL_len x (by have := all_len x (h x (by simp)); omega)
    have h2 := ih (fun y hy => h y (by simp [hy]))
    show (outL x ++ manyW xs).length ≤ _
    simp only [List.length_append, List.length_cons]
    omega
theorem manyS_snoc (xs : List (List UInt8)) (x : List UInt8) : manyS (xs ++ [x]) = manyS xs ++ x ++ [10] := by simp [manyS]
theorem manyW_snoc (xs : List (List UInt8)) (x : List UInt8) : manyW (xs ++ [x]) = manyW xs ++ outL x := by simp [manyW]
theorem add_said (a b : List UInt8) (h : a.length + b.length ≤ 1000000000000) (w0 : World) : (Op.stringOp .add ⟨a.toArray⟩ ⟨b.toArray⟩).run Tryz.prog w0 = .ok (.string ⟨(a ++ b).toArray⟩) w0 := by
  have h := run_string_add_sum (P := Tryz.prog) w0 ⟨a.toArray⟩ ⟨b.toArray⟩ (by have z1 := size_lit a; have z2 := size_lit b; omega)
  have e : ((⟨a.toArray⟩ : ByteArray) ++ ⟨b.toArray⟩) = ⟨(a ++ b).toArray⟩ := by
    apply ByteArray.ext
    simp [ByteArray.data_append]
  rw [e] at h
  exact h
theorem rem8 (v : Int) : ∃ j : Nat, (IntKind.u64.wrap v).tmod 8 = (j : Int) ∧ j < 8 := by
  have h : 0 ≤ IntKind.u64.wrap v := by
    show 0 ≤ v % 18446744073709551616
    omega
  have h2 := Int.tmod_nonneg 8 h
  have h3 := Int.tmod_lt_of_pos (IntKind.u64.wrap v) (show (0 : Int) < 8 by omega)
  exact ⟨((IntKind.u64.wrap v).tmod 8).toNat, by omega, by omega⟩
/-- The state of the loop: what the lines told so far. -/
structure Mn (w wr : World) (g : Nat) : Prop where
  row : wr.heap[g]? = some (.cells ((allL.map fun x => Value.string ⟨x.toArray⟩).toArray) 9 (0, 0))
  low : Below w.heap.size w wr
theorem Mn.below {w wr w1 : World} {g : Nat} (h : Mn w wr g) (hb : Below wr.heap.size wr w1) : Mn w w1 g := ⟨map_below h.row hb, h.low.trans (hb.mono h.low.size)⟩
theorem Mn.cell {w wr : World} {g : Nat} (h : Mn w wr g) (j : Nat) (x : List UInt8) (hx : allL[j]? = some x) : wr.cell? ⟨g, j, none⟩ = some (.string ⟨x.toArray⟩) :=
  (blk_cell h.row j).trans (by rw [List.getElem?_toArray, List.getElem?_map, hx]; rfl)

def ManyRow (w : World) (a : Option Addr) (len : Nat) (zs : List Int) : Prop := ∀ i, i < len → ∃ x z, a = some x ∧ w.cell? (x.add i) = some (.int .i64 z)
set_option maxHeartbeats 4000000 in
theorem many_walk (a : Option Addr) (len cap : Nat) (z : List Int) (w : World) (hz : ManyRow w a len z) (hT : TabW w) :
    Calls Tryz.prog 4 #[.slice a len cap] w fun e w' => e = .returned (.bool true) ∧ Below w.heap.size w w' := by
  have HT := Lib.hid hT
  have HZ := Lib.hid hz
  have HAw := Lib.hid (awake_any w hT)
  clear hT hz
  go_enter Tryz.func4, Tryz.ntmps4
  go_wp2_with fail
  ((with_reducible refine HAw.out.mono ?_); rintro e w1 ⟨rfl, hb1⟩)
  have HB1 := Lib.hid hb1
  clear hb1
  go_wp2_with fail
  have HM0 : Hid (Mn w (w1.alloc (.cells ((allL.map fun x => Value.string ⟨x.toArray⟩).toArray) 9)) w1.heap.size) := Lib.hid ⟨blk_new w1 _, HB1.out.alloc HB1.out.size _⟩
  have e1 : (w1.alloc (.cells ((allL.map fun x => Value.string ⟨x.toArray⟩).toArray) 9)) = w1.alloc (.cells #[.string ⟨#[102, 99, 115, 32, 48, 48]⟩, .string ⟨#[109, 100, 53, 32, 45]⟩, .string ⟨#[102, 115, 109, 32, 54, 32, 54]⟩, .string ⟨#[102, 114, 111, 98]⟩, .string ⟨#[35, 32, 99]⟩,
    .string ⟨#[100, 101, 108, 97, 121, 32, 50, 32, 51, 32, 52, 48, 32, 49]⟩, .string ⟨#[116, 97, 114, 103, 101, 116, 32, 57, 48, 48, 32, 50, 53, 54, 32, 49, 32, 54]⟩, .string ⟨#[117, 110, 102, 114, 97, 109, 101, 32, 48, 48]⟩] 9) := rfl
  rw [e1] at HM0
  generalize (w1.alloc (.cells #[.string ⟨#[102, 99, 115, 32, 48, 48]⟩, .string ⟨#[109, 100, 53, 32, 45]⟩, .string ⟨#[102, 115, 109, 32, 54, 32, 54]⟩, .string ⟨#[102, 114, 111, 98]⟩, .string ⟨#[35, 32, 99]⟩,
    .string ⟨#[100, 101, 108, 97, 121, 32, 50, 32, 51, 32, 52, 48, 32, 49]⟩, .string ⟨#[116, 97, 114, 103, 101, 116, 32, 57, 48, 48, 32, 50, 53, 54, 32, 49, 32, 54]⟩, .string ⟨#[117, 110, 102, 114, 97, 109, 101, 32, 48, 48]⟩] 9)) = W0 at HM0 ⊢
  clear e1
  generalize w1.heap.size = g at HM0 ⊢
  clear HB1
  go_loopw [4, 5, 6] (fun v4 v5 v6 wr => ∃ xs : List (List UInt8), xs.length ≤ len ∧ xs.length ≤ 30 ∧ Hid (∀ x ∈ xs, x ∈ allL) ∧ v4 = .string ⟨(manyS xs).toArray⟩ ∧ v5 = .string ⟨(manyW xs).toArray⟩ ∧ v6 = .int .i64 (xs.length : Int) ∧ Hid (Mn w wr g)) (fun _ _ v6 _ => 30 - (intOf v6).toNat)
  case atStart => exact ⟨[], Nat.zero_le _, Nat.zero_le _, Lib.hid (fun x hx => by cases hx), rfl, rfl, rfl, HM0⟩
  case round =>
    obtain ⟨xs, hl, h30, hxs, rfl, rfl, rfl, hM⟩ := hrel
    by_cases hlt : xs.length < len ∧ xs.length < 30
    · obtain ⟨hlt1, hlt2⟩ := hlt
      obtain ⟨x, v, ha, hv⟩ := HZ.out xs.length hlt1
      subst ha
      have hcell := pw_cell_below hM.out.low hv
      obtain ⟨j, hj, hj8⟩ := rem8 v
      obtain ⟨y, hy⟩ : ∃ y, allL[j]? = some y := ⟨_, List.getElem?_eq_getElem (show j < allL.length from hj8)⟩
      have hym := List.mem_of_getElem? hy
      have hyl := all_len y hym
      have hyc := hM.out.cell j y hy
      have z1 : ((xs.length : Nat) : Int) < 30 := by omega
      have z2 : (j : Int) < 8 := by omega
      have hsl := manyS_len xs hxs.out
      have hwl := manyW_len xs hxs.out
      have hol := outL_len y (by omega)
      have ad1 := add_said (manyS xs) y (by omega)
      have ad2 := add_said (manyS xs ++ y) [10] (by rw [List.length_append]; simp only [List.length_cons, List.length_nil]; omega)
      have ad3 := add_said (manyW xs) (outL y) (by omega)
      rw [← manyS_snoc] at ad2
      rw [← manyW_snoc] at ad3
      have HRn := Lib.hid (fun w0 hT0 => run_said ⟨y.toArray⟩ y (outL y) 0 w0 rfl (runL_out (by omega)) hT0)
      have HX : Hid (∀ x ∈ xs ++ [y], x ∈ allL) := Lib.hid (fun x hx => by
        rcases List.mem_append.1 hx with h | h
        · exact hxs.out x h
        · rw [List.mem_singleton] at h
          exact h ▸ hym)
      have hlen : (xs ++ [y]).length = xs.length + 1 := by simp
      have HLn := Lib.hid hlen
      have HS2 : Hid (∃ S2 : ByteArray, S2 = ⟨(manyS (xs ++ [y])).toArray⟩) := Lib.hid ⟨_, rfl⟩
      obtain ⟨S2, hS2⟩ := HS2.out
      obtain ⟨W2, hW2⟩ : ∃ W2 : ByteArray, W2 = ⟨(manyW (xs ++ [y])).toArray⟩ := ⟨_, rfl⟩
      rw [← hS2] at ad2
      rw [← hW2] at ad3
      have HE2 := Lib.hid (And.intro hS2 hW2)
      clear hS2 hW2 HS2
      generalize (⟨(outL y).toArray⟩ : ByteArray) = oy at ad3 HRn
      generalize (⟨y.toArray⟩ : ByteArray) = yb at hyc ad1 HRn
      generalize (⟨(manyS xs ++ y).toArray⟩ : ByteArray) = S1 at ad1 ad2
      clear hsl hwl hol hym hyl hlen hxs hj8 hy HZ hv
      go_wp2_with fail
      ((with_reducible refine (HRn.out _ (HT.out.later hM.out.low)).mono ?_); rintro e w2 ⟨rfl, hb2⟩)
      have HM2 := Lib.hid (hM.out.below hb2)
      clear hb2 hyc hcell
      go_wp2_with fail
      ((with_reducible refine (num_any _ _).mono ?_); rintro e w3 ⟨rfl, rfl⟩)
      go_wp2_with fail
      go_roundw
      case rel => exact ⟨xs ++ [y], by rw [HLn.out]; omega, by rw [HLn.out]; omega, HX, by rw [HE2.out.1], by rw [HE2.out.2], by rw [HLn.out]; go_num, HM2⟩
      case measure => simp [intOf]; omega
    · have hr : outL (manyS xs) = manyW xs := many_out xs
      have hsl := manyS_len xs hxs.out
      have HRn := Lib.hid (fun w0 hT0 => run_said ⟨(manyS xs).toArray⟩ (manyS xs) (manyW xs) 0 w0 rfl ((runL_out (by omega)).trans (by rw [hr])) hT0)
      generalize (⟨(manyS xs).toArray⟩ : ByteArray) = S1 at HRn ⊢
      generalize (⟨(manyW xs).toArray⟩ : ByteArray) = W1 at HRn ⊢
      clear hr hsl
      by_cases hlt1 : xs.length < len
      · have z1 : ¬ ((xs.length : Nat) : Int) < 30 := by omega
        clear hlt
        go_wp2_with fail
        ((with_reducible refine (HRn.out _ (HT.out.later hM.out.low)).mono ?_); rintro e w2 ⟨rfl, hb2⟩)
        have HM2 := Lib.hid (hM.out.below hb2)
        clear hb2
        go_wp2_with fail
        ((with_reducible refine (num_any _ _).mono ?_); rintro e w3 ⟨rfl, rfl⟩)
        go_wp2_with fail
        go_ret
        exact ⟨by first | rfl | simp, HM2.out.low⟩
      · clear hlt
        go_wp2_with fail
        ((with_reducible refine (HRn.out _ (HT.out.later hM.out.low)).mono ?_); rintro e w2 ⟨rfl, hb2⟩)
        have HM2 := Lib.hid (hM.out.below hb2)
        clear hb2
        go_wp2_with fail
        ((with_reducible refine (num_any _ _).mono ?_); rintro e w3 ⟨rfl, rfl⟩)
        go_wp2_with fail
        go_ret
        exact ⟨by first | rfl | simp, HM2.out.low⟩
end Go.Proofs.YtlpibobpfafooaaGreatDoor.H
