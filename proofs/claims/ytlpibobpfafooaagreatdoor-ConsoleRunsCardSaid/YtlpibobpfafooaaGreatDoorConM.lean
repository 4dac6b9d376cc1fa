/-
  Contracts at this seat: what the console's commands tell (sums, digests, frames).
-/
import Derived.Test.YtlpibobpfafooaaGreatDoorConE
import Derived.Test.YtlpibobpfafooaaGreatDoorQb
import Derived.Test.YtlpibobpfafooaaGreatDoorMdE
import Derived.Test.YtlpibobpfafooaaGreatDoorHdC
import Derived.MapKept
import Derived.Carry
set_option linter.unusedVariables false
set_option linter.unusedSimpArgs false
namespace Go.Proofs.YtlpibobpfafooaaGreatDoor.H
open Go.RowKit Go.Proofs.Wy Go.Proofs.YtlpibobpfafooaaGreatDoorW.PrintWords

theorem TabW.later {w w1 : World} (h : TabW w) (hb : Below w.heap.size w w1) : TabW w1 :=
  Joins.var_stays (g := 3) (by kernel_rfl) h hb (Nat.le_refl _)
/-- A slice that reads as xs. -/
def RowAt (w : World) (v : Value) (xs : List Value) : Prop := xs = [] ∨ ∃ h cap, v = .slice (some ⟨h, 0, none⟩) xs.length cap ∧ xs.length ≤ cap ∧ ∀ i x, xs[i]? = some x → w.cell? ⟨h, i, none⟩ = some x
theorem RowAt.own {w : World} {v : Value} {B e : Nat} {xs : List Value} (h : w.ownsRow B e 1 v xs.length xs) : RowAt w v xs := by
  rcases h.2 with ⟨rfl, hn⟩ | ⟨g, cap, cur, rfl, hb, hg, hfr, hl, rest⟩
  · exact .inl (List.eq_nil_of_length_eq_zero hn)
  · refine .inr ⟨g, cap, rfl, hfr, fun i x hx => ?_⟩
    have hc := h.cells (g := g) rfl i x hx
    have ha : (⟨g, 0, none⟩ : Addr).add i = ⟨g, i, none⟩ := by unfold Addr.add; split <;> simp_all
    rwa [ha] at hc
theorem RowAt.below {w w1 : World} {v : Value} {xs : List Value} (h : RowAt w v xs) (hb : Below w.heap.size w w1) : RowAt w1 v xs := by
  rcases h with h | ⟨g, cap, hv, hl, hc⟩
  · exact .inl h
  · exact .inr ⟨g, cap, hv, hl, fun i x hx => pw_cell_below hb (hc i x hx)⟩
def ints (ns : List Int) : List Value := ns.map fun x => Value.int .i64 x
def strv (bs : List (List UInt8)) : List Value := bs.map fun b => Value.string ⟨b.toArray⟩
/-- Block g holds a line's numbers and bytes. -/
def ArgsAt (w : World) (g : Nat) (ns : List Int) (bs : List (List UInt8)) : Prop :=
  ∃ vn vb, w.heap[g]? = some (.cells #[vn, vb] 97 (0, 0)) ∧ RowAt w vn (ints ns) ∧ RowAt w vb (strv bs)
def TellPost (t : Nat) (ns : List Int) (bs : List (List UInt8)) (w : World) (e : Ending) (w' : World) : Prop := e = .returned (.tuple #[.string ⟨(tellL t ns bs).1.toArray⟩, .int .i64 (tellL t ns bs).2]) ∧ Below w.heap.size w w'
/-- The first of the bytes: its cells. -/
theorem ArgsAt.str {w : World} {g : Nat} {ns : List Int} {b : List UInt8} {bs : List (List UInt8)} (h : ArgsAt w g ns (b :: bs)) :
    ∃ gb cap, w.cell? ⟨g, 1, none⟩ = some (.slice (some ⟨gb, 0, none⟩) (bs.length + 1) cap) ∧ w.cell? ⟨gb, 0, none⟩ = some (.string ⟨b.toArray⟩) := by
  obtain ⟨vn, vb, hg, _, hb⟩ := h
  rcases hb with hb | ⟨gb, cap, rfl, _, hc⟩
  · simp [strv] at hb
  · refine ⟨gb, cap, ?_, hc 0 _ (by simp [strv])⟩
    rw [blk_cell hg 1]
    simp [strv]
theorem fcs_bd (l : List UInt8) : -9223372036854775808 ≤ ((fcsL l : Nat) : Int) ∧ ((fcsL l : Nat) : Int) ≤ 9223372036854775807 := by have := fcsL_lt l; omega

set_option maxHeartbeats 400000 in
theorem sum_any (g : Nat) (ns : List Int) (b : List UInt8) (w : World) (hb : b.length ≤ 200000) (hA : ArgsAt w g ns [b]) (hT : TabW w) :
    Calls Tryz.prog 41 #[.pointer (some ⟨g, 0, none⟩)] w (TellPost 0 ns [b] w) := by
  obtain ⟨gb, cap, c1, c2⟩ := hA.str
  have hF := fun w0 => H0.of_any ⟨b.toArray⟩ w0 (by rw [size_lit]; omega)
  obtain ⟨f1, f2⟩ := fcs_bd b
  have hI := fun w0 hT0 => itoa_any ((fcsL b : Nat) : Int) w0 f1 f2 hT0
  have HF := Lib.hid hF
  have HI := Lib.hid hI
  have HT := Lib.hid hT
  have hc : ((([b].length : Nat)) : Int) = 1 := rfl
  clear hF hI hT hA f1 f2 hb
  simp only [List.length_nil, Nat.zero_add] at c1
  go_enter Tryz.func41, Tryz.ntmps41
  go_wp2_with fail
  ((with_reducible refine (HF.out _).mono ?_); rintro e w1 ⟨rfl, hb1⟩)
  have HB1 := Lib.hid hb1
  clear hb1
  go_wp2_with fail
  ((with_reducible refine (HI.out _ (HT.out.later HB1.out)).mono ?_); rintro e w2 ⟨rfl, hb2⟩)
  have HB2 := Lib.hid (HB1.out.trans (hb2.mono HB1.out.size))
  clear hb2
  go_wp2_with fail
  go_ret2
  exact ⟨rfl, HB2.out⟩

theorem hexL_len (l : List UInt8) : (hexL l).length ≤ 2 * l.length + 1 := by
  have h : ∀ l : List UInt8, (l.flatMap hexB).length = 2 * l.length := by
    intro l
    induction l with
    | nil => rfl
    | cons b r ih => rw [List.flatMap_cons, List.length_append, ih]; simp [hexB]; omega
  unfold hexL
  split
  · simp
  · rw [h]; omega
set_option maxHeartbeats 400000 in
theorem md5t_any (g : Nat) (ns : List Int) (b : List UInt8) (w : World) (hb : b.length ≤ 200000) (hA : ArgsAt w g ns [b]) (hT : TabW w) :
    Calls Tryz.prog 45 #[.pointer (some ⟨g, 0, none⟩)] w (TellPost 4 ns [b] w) := by
  obtain ⟨gb, cap, c1, c2⟩ := hA.str
  have hF := fun w0 => md5_any ⟨b.toArray⟩ w0 (by rw [size_lit]; omega)
  have hI := fun w0 => hex_any ⟨(md5L b).toArray⟩ w0 (by rw [size_lit, md5L_length]; omega)
  have hF : ∀ w0, Calls Tryz.prog 65 #[.string ⟨b.toArray⟩] w0 fun e w' => e = .returned (.string ⟨(md5L b).toArray⟩) ∧ Below w0.heap.size w0 w' := hF
  have hI : ∀ w0, Calls Tryz.prog 62 #[.string ⟨(md5L b).toArray⟩] w0 fun e w' => e = .returned (.string ⟨(hexL (md5L b)).toArray⟩) ∧ Below w0.heap.size w0 w' := hI
  have HP : Hid (TellPost 4 ns [b] w = fun e w' => e = .returned (.tuple #[.string ⟨(hexL (md5L b)).toArray⟩, .int .i64 0]) ∧ Below w.heap.size w w') := rfl
  generalize (⟨b.toArray⟩ : ByteArray) = x at c2 hF
  generalize (⟨(md5L b).toArray⟩ : ByteArray) = y at hF hI
  have HF := Lib.hid hF
  have HI := Lib.hid hI
  clear hF hI hT hA hb
  simp only [List.length_nil, Nat.zero_add] at c1
  rw [HP.out]
  generalize (⟨(hexL (md5L b)).toArray⟩ : ByteArray) = z at HI ⊢
  go_enter Tryz.func45, Tryz.ntmps45
  go_wp2_with fail
  ((with_reducible refine (HF.out _).mono ?_); rintro e w1 ⟨rfl, hb1⟩)
  have HB1 := Lib.hid hb1
  clear hb1
  go_wp2_with fail
  ((with_reducible refine (HI.out _).mono ?_); rintro e w2 ⟨rfl, hb2⟩)
  have HB2 := Lib.hid (HB1.out.trans (hb2.mono HB1.out.size))
  clear hb2
  go_wp2_with fail
  go_ret2
  exact ⟨rfl, HB2.out⟩
theorem below_drew_then {w w1 : World} (h : Below w.drew.heap.size w.drew w1) : Below w.heap.size w w1 := ⟨h.os, h.tape, h.output, h.size, h.block⟩
/-- The numbers: their cells. -/
theorem ArgsAt.num {w : World} {g : Nat} {x : Int} {ns : List Int} {bs : List (List UInt8)} (h : ArgsAt w g (x :: ns) bs) :
    ∃ gn cap, w.cell? ⟨g, 0, none⟩ = some (.slice (some ⟨gn, 0, none⟩) (ns.length + 1) cap) ∧ ∀ i y, (x :: ns)[i]? = some y → w.cell? ⟨gn, i, none⟩ = some (.int .i64 y) := by
  obtain ⟨vn, vb, hg, hn, _⟩ := h
  rcases hn with hn | ⟨gn, cap, rfl, _, hc⟩
  · simp [ints] at hn
  · refine ⟨gn, cap, ?_, fun i y hy => hc i _ (by unfold ints; rw [List.getElem?_map, hy]; rfl)⟩
    rw [blk_cell hg 0]
    simp [ints]
theorem stuffL_two (l : List UInt8) : (stuffL 0 l).length ≤ 2 * l.length := stuffL_length 0 l
theorem frameL_len (p : Int) (d : List UInt8) : (frameL p d 0).1.length ≤ 5000 := by
  unfold frameL
  split
  · split
    · simp
    · have h := stuffL_length 0 (sumL (headL p ++ d))
      rw [sumL_length] at h
      simp [headL] at h ⊢
      omega
  · simp
set_option maxHeartbeats 1000000 in
theorem frame_any (g : Nat) (p : Int) (b : List UInt8) (w : World) (hb : b.length ≤ 200000) (hA : ArgsAt w g [p] [b]) (hT : TabW w) :
    Calls Tryz.prog 42 #[.pointer (some ⟨g, 0, none⟩)] w (TellPost 1 [p] [b] w) := by
  obtain ⟨gb, cap, c1, c2⟩ := hA.str
  obtain ⟨gn, cap2, d1, hd⟩ := hA.num
  have d2 := hd 0 p rfl
  have hF := fun w0 => SpQ.cput_any p ⟨b.toArray⟩ w0
  have hI := fun w0 => hex_any ⟨(frameL p b 0).1.toArray⟩ w0 (by rw [size_lit]; have := frameL_len p b; omega)
  have hF : ∀ w0, Calls Tryz.prog 61 #[.agg #[.int .i64 p, .string ⟨b.toArray⟩], .int .i64 0] w0 fun e w' => e = .returned (.tuple #[.string ⟨(frameL p b 0).1.toArray⟩, .int .i64 (frameL p b 0).2]) ∧ Below w0.heap.size w0 w' := hF
  have hI : ∀ w0, Calls Tryz.prog 62 #[.string ⟨(frameL p b 0).1.toArray⟩] w0 fun e w' => e = .returned (.string ⟨(hexL (frameL p b 0).1).toArray⟩) ∧ Below w0.heap.size w0 w' := hI
  have HP : Hid (TellPost 1 [p] [b] w = fun e w' => e = .returned (.tuple #[.string ⟨(hexL (frameL p b 0).1).toArray⟩, .int .i64 (frameL p b 0).2]) ∧ Below w.heap.size w w') := rfl
  generalize (⟨b.toArray⟩ : ByteArray) = x at c2 hF
  generalize (⟨(frameL p b 0).1.toArray⟩ : ByteArray) = y at hF hI
  have HF := Lib.hid hF
  have HI := Lib.hid hI
  simp only [List.length_nil, Nat.zero_add] at c1 d1
  clear hF hI hT hA hb hd
  rw [HP.out]
  generalize (⟨(hexL (frameL p b 0).1).toArray⟩ : ByteArray) = z at HI ⊢
  generalize (frameL p b 0).2 = er at HF ⊢
  have HS : Hid (w.cell? ⟨g, 0, none⟩ = some (.slice (some ⟨gn, 0, none⟩) 1 cap2) ∧ w.cell? ⟨gn, 0, none⟩ = some (.int .i64 p) ∧ w.cell? ⟨g, 1, none⟩ = some (.slice (some ⟨gb, 0, none⟩) 1 cap) ∧ w.cell? ⟨gb, 0, none⟩ = some (.string x)) := Lib.hid ⟨d1, d2, c1, c2⟩
  have HD : Hid (w.drew.cell? ⟨g, 0, none⟩ = some (.slice (some ⟨gn, 0, none⟩) 1 cap2) ∧ w.drew.cell? ⟨gn, 0, none⟩ = some (.int .i64 p) ∧ w.drew.cell? ⟨g, 1, none⟩ = some (.slice (some ⟨gb, 0, none⟩) 1 cap) ∧ w.drew.cell? ⟨gb, 0, none⟩ = some (.string x)) := HS
  clear c1 c2 d1 d2
  go_enter Tryz.func42, Tryz.ntmps42
  go_wp2_with fail
  go_region_held3 (fun w' => w'.cell? ⟨g, 0, none⟩ = some (.slice (some ⟨gn, 0, none⟩) 1 cap2) ∧ w'.cell? ⟨gn, 0, none⟩ = some (.int .i64 p) ∧ w'.cell? ⟨g, 1, none⟩ = some (.slice (some ⟨gb, 0, none⟩) 1 cap) ∧ w'.cell? ⟨gb, 0, none⟩ = some (.string x)) (first | (with_reducible exact HD.out) | (with_reducible exact ⟨pw_cell_below hb1.out HD.out.1, pw_cell_below hb1.out HD.out.2.1, pw_cell_below hb1.out HD.out.2.2.1, pw_cell_below hb1.out HD.out.2.2.2⟩)) ((go_at_call 61; (with_reducible refine (HF.out _).mono ?_); rintro e w1 ⟨rfl, hb1_⟩; have hb1 := Lib.hid hb1_; clear hb1_))
  have HB1 : Hid (Below w.heap.size w w1) := Lib.hid (below_drew_then hb1.out)
  clear HS HD HF hb1
  go_wp2_with fail
  ((with_reducible refine (HI.out _).mono ?_); rintro e w2 ⟨rfl, hb2⟩)
  have HB2 := Lib.hid (HB1.out.trans (hb2.mono HB1.out.size))
  clear hb2
  go_wp2_with fail
  go_ret2
  exact ⟨rfl, HB2.out⟩
end Go.Proofs.YtlpibobpfafooaaGreatDoor.H
/-
  Contracts at this seat: what the console's commands tell (frames read, the automaton, delays, targets).
-/
set_option linter.unusedVariables false
set_option linter.unusedSimpArgs false
namespace Go.Proofs.YtlpibobpfafooaaGreatDoor.H
open Go.RowKit Go.Proofs.Wy Go.Proofs.YtlpibobpfafooaaGreatDoorW.PrintWords

theorem unframeL_bd (l : List UInt8) : 0 ≤ (unframeL l).1 ∧ (unframeL l).1 ≤ 65535 ∧ (unframeL l).2.1.length ≤ l.length := by
  have h1 := unstuffL_length l
  unfold unframeL
  split
  · exact ⟨by simp, by simp, by simp⟩
  · split
    · exact ⟨by simp, by simp, by simp⟩
    · have h2 : (checkL (unstuffL l).1).1.length ≤ (unstuffL l).1.length := by
        unfold checkL
        split
        · simp
        · split
          · simp
          · simp
      generalize (checkL (unstuffL l).1).1 = u at h2
      unfold decodeL
      split
      · split
        · split
          · exact ⟨by simp, by simp, by simp⟩
          · have h3 : protoL u ≤ 65535 ∧ 0 ≤ protoL u := by
              unfold protoL
              have a := (u.getD 2 0).toNat_lt
              have b := (u.getD 3 0).toNat_lt
              omega
            exact ⟨h3.2, h3.1, by simp; omega⟩
        · exact ⟨by simp, by simp, by simp⟩
      · exact ⟨by simp, by simp, by simp⟩

set_option maxHeartbeats 2000000 in
theorem unframe_any (g : Nat) (ns : List Int) (b : List UInt8) (w : World) (hb : b.length ≤ 200000) (hA : ArgsAt w g ns [b]) (hT : TabW w) :
    Calls Tryz.prog 43 #[.pointer (some ⟨g, 0, none⟩)] w (TellPost 2 ns [b] w) := by
  obtain ⟨gb, cap, c1, c2⟩ := hA.str
  obtain ⟨u1, u2, u3⟩ := unframeL_bd b
  have hF := fun w0 => SpQ.cget_any ⟨b.toArray⟩ w0 (by rw [size_lit]; omega)
  have hF : ∀ w0, Calls Tryz.prog 63 #[.string ⟨b.toArray⟩] w0 fun e w' => e = .returned (.tuple #[.agg #[.int .i64 (unframeL b).1, .string ⟨(unframeL b).2.1.toArray⟩], .int .i64 (unframeL b).2.2]) ∧ Below w0.heap.size w0 w' := hF
  have hH := fun w0 => hex_any ⟨(unframeL b).2.1.toArray⟩ w0 (by rw [size_lit]; omega)
  have hH : ∀ w0, Calls Tryz.prog 62 #[.string ⟨(unframeL b).2.1.toArray⟩] w0 fun e w' => e = .returned (.string ⟨(hexL (unframeL b).2.1).toArray⟩) ∧ Below w0.heap.size w0 w' := hH
  have hI := fun w0 hT0 => itoa_any (unframeL b).1 w0 (by omega) (by omega) hT0
  have hl1 := itoaL_length (unframeL b).1
  have hl2 := hexL_len (unframeL b).2.1
  have HP : Hid (TellPost 2 ns [b] w = fun e w' => e = .returned (.tuple #[.string ⟨(itoaL (unframeL b).1 ++ 32 :: hexL (unframeL b).2.1).toArray⟩, .int .i64 (unframeL b).2.2]) ∧ Below w.heap.size w w') := rfl
  have hA1 : ∀ w0, (Op.stringOp .add ⟨(itoaL (unframeL b).1).toArray⟩ ⟨#[32]⟩).run Tryz.prog w0 = .ok (.string (⟨(itoaL (unframeL b).1).toArray⟩ ++ ⟨#[32]⟩)) w0 := fun w0 => run_string_add_sum w0 _ _ (by have z1 := size_lit (itoaL (unframeL b).1); have z3 : (⟨#[32]⟩ : ByteArray).size = 1 := rfl; omega)
  have hA2 : ∀ w0, (Op.stringOp .add (⟨(itoaL (unframeL b).1).toArray⟩ ++ ⟨#[32]⟩) ⟨(hexL (unframeL b).2.1).toArray⟩).run Tryz.prog w0 = .ok (.string ((⟨(itoaL (unframeL b).1).toArray⟩ ++ ⟨#[32]⟩) ++ ⟨(hexL (unframeL b).2.1).toArray⟩)) w0 := fun w0 => run_string_add_sum w0 _ _ (by have z1 := size_lit (itoaL (unframeL b).1); have z2 := size_lit (hexL (unframeL b).2.1); have z3 : (⟨#[32]⟩ : ByteArray).size = 1 := rfl; rw [ByteArray.size_append]; omega)
  have hZ : (((⟨(itoaL (unframeL b).1).toArray⟩ : ByteArray) ++ ⟨#[32]⟩) ++ ⟨(hexL (unframeL b).2.1).toArray⟩) = ⟨(itoaL (unframeL b).1 ++ 32 :: hexL (unframeL b).2.1).toArray⟩ := by
    apply ByteArray.ext
    simp [ByteArray.data_append]
  rw [HP.out]
  generalize (⟨b.toArray⟩ : ByteArray) = x at c2 hF
  generalize (⟨(unframeL b).2.1.toArray⟩ : ByteArray) = y at hF hH
  generalize (⟨(itoaL (unframeL b).1).toArray⟩ : ByteArray) = s1 at hI hA1 hA2 hZ
  generalize (⟨(hexL (unframeL b).2.1).toArray⟩ : ByteArray) = s2 at hH hA2 hZ
  generalize (⟨(itoaL (unframeL b).1 ++ 32 :: hexL (unframeL b).2.1).toArray⟩ : ByteArray) = z at hZ ⊢
  generalize (unframeL b).2.2 = er at hF ⊢
  generalize (unframeL b).1 = pr at hF hI
  have HF := Lib.hid hF
  have HH := Lib.hid hH
  have HI := Lib.hid hI
  have HT := Lib.hid hT
  have HZ := Lib.hid hZ
  simp only [List.length_nil, Nat.zero_add] at c1
  clear hF hH hI hT hA hb hZ u1 u2 u3 hl1 hl2
  go_enter Tryz.func43, Tryz.ntmps43
  go_wp2_with fail
  ((with_reducible refine (HF.out _).mono ?_); rintro e w1 ⟨rfl, hb1⟩)
  have HB1 := Lib.hid hb1
  have k0 : (w1.alloc (.cells #[.int .i64 pr, .string y] 69)).drew.cell? ⟨w1.heap.size, 0, none⟩ = some (.int .i64 pr) := (blk_cell (blk_drew (blk_new w1 _)) 0).trans rfl
  have k1 : (w1.alloc (.cells #[.int .i64 pr, .string y] 69)).drew.cell? ⟨w1.heap.size, 1, none⟩ = some (.string y) := (blk_cell (blk_drew (blk_new w1 _)) 1).trans rfl
  have hBz : Below w.heap.size w (w1.alloc (.cells #[.int .i64 pr, .string y] 69)).drew := below_drew1 (hb1.alloc hb1.size _)
  have HK := Lib.hid (And.intro k0 k1)
  have HBz := Lib.hid hBz
  have HT1 := Lib.hid (HT.out.later hBz)
  clear hb1 c1 c2 k0 k1 hBz
  go_wp2_with fail
  go_region_held3 (fun w' => w'.cell? ⟨w1.heap.size, 0, none⟩ = some (.int .i64 pr) ∧ w'.cell? ⟨w1.heap.size, 1, none⟩ = some (.string y)) (first | (with_reducible exact HK.out) | (with_reducible exact ⟨pw_cell_below hb2.out HK.out.1, pw_cell_below hb2.out HK.out.2⟩) | (with_reducible exact ⟨pw_cell_below hb3.out (pw_cell_below hb2.out HK.out.1), pw_cell_below hb3.out (pw_cell_below hb2.out HK.out.2)⟩)) (first | (go_at_call 50; (with_reducible refine (HI.out _ HT1.out).mono ?_); rintro e w2 ⟨rfl, hb2_⟩; have hb2 := Lib.hid hb2_; clear hb2_) | (go_at_call 62; (with_reducible refine (HH.out _).mono ?_); rintro e w3 ⟨rfl, hb3_⟩; have hb3 := Lib.hid hb3_; clear hb3_))
  have HB3 := Lib.hid (HBz.out.trans ((hb2.out.mono HBz.out.size).trans (hb3.out.mono (Nat.le_trans HBz.out.size hb2.out.size))))
  go_wp2_with fail
  go_ret2
  exact ⟨by rw [← HZ.out]; rfl, HB3.out⟩
end Go.Proofs.YtlpibobpfafooaaGreatDoor.H
/-
  Contracts at this seat: what the console's commands tell (the automaton, delays, targets).
-/
set_option linter.unusedVariables false
set_option linter.unusedSimpArgs false
namespace Go.Proofs.YtlpibobpfafooaaGreatDoor.H
open Go.RowKit Go.Proofs.Wy Go.Proofs.YtlpibobpfafooaaGreatDoorW.PrintWords

theorem actP_bd (p : List UInt8) : 0 ≤ actP p ∧ actP p ≤ 13 := by
  unfold actP
  split <;> omega
set_option maxRecDepth 100000 in
theorem tab_len : ∀ l ∈ tabL, l.length ≤ 20 := by decide +kernel
theorem stepP_bd (s v : Int) : (-48 ≤ (stepP s v).1 ∧ (stepP s v).1 ≤ 255) ∧ (stepP s v).2.1.length ≤ 5 ∧ (∀ x ∈ (stepP s v).2.1, 0 ≤ x ∧ x ≤ 13) := by
  unfold stepP
  split
  · rename_i h
    have hl : v.toNat * 10 + s.toNat < tabL.length := by rw [tabL_length]; omega
    have hm : tabL.getD (v.toNat * 10 + s.toNat) [] ∈ tabL := by
      rw [List.getD_eq_getElem?_getD, List.getElem?_eq_getElem hl]
      exact List.getElem_mem hl
    have h20 := tab_len _ hm
    generalize tabL.getD (v.toNat * 10 + s.toNat) [] = l at h20
    unfold cellP
    split
    · exact ⟨⟨by simp, by simp⟩, by simp, fun x hx => by simp at hx⟩
    · have := (l.getLastD 0).toNat_lt
      refine ⟨⟨by dsimp only; omega, by dsimp only; omega⟩, by simp; omega, fun x hx => ?_⟩
      simp only [List.mem_map] at hx
      obtain ⟨q, _, rfl⟩ := hx
      exact actP_bd _
  · exact ⟨⟨by simp, by simp⟩, by simp, fun x hx => by simp at hx⟩
theorem acts_take (acts : List Int) (k : Nat) (h : k < acts.length) : (acts.take (k + 1)).flatMap (fun x => 32 :: itoaL x) = (acts.take k).flatMap (fun x => 32 :: itoaL x) ++ 32 :: itoaL acts[k] := by
  rw [List.take_succ_eq_append_getElem h, List.flatMap_append]
  simp only [List.flatMap_cons, List.flatMap_nil, List.append_nil]

set_option maxHeartbeats 2000000 in
theorem fsmt_any (g : Nat) (s v : Int) (bs : List (List UInt8)) (w : World) (hA : ArgsAt w g [s, v] bs) (hT : TabW w) :
    Calls Tryz.prog 44 #[.pointer (some ⟨g, 0, none⟩)] w (TellPost 3 [s, v] bs w) := by
  obtain ⟨gn, cap2, d1, hd⟩ := hA.num
  have d2 := hd 0 s rfl
  have d3 := hd 1 v rfl
  obtain ⟨⟨b1, b2⟩, b3, b4⟩ := stepP_bd s v
  have hS := fun w0 => step_any s v w0
  have HP : Hid (TellPost 3 [s, v] bs w = fun e w' => e = .returned (.tuple #[.string ⟨(itoaL (stepP s v).1 ++ (stepP s v).2.1.flatMap fun x => 32 :: itoaL x).toArray⟩, .int .i64 (stepP s v).2.2]) ∧ Below w.heap.size w w') := rfl
  rw [HP.out]
  generalize (stepP s v).1 = st at hS b1 b2 ⊢
  generalize (stepP s v).2.1 = acts at hS b3 b4 ⊢
  generalize (stepP s v).2.2 = er at hS ⊢
  have hI := fun w0 hT0 => itoa_any st w0 (by omega) (by omega) hT0
  have hl1 := itoaL_length st
  have HI := Lib.hid hI
  have HT := Lib.hid hT
  have HB4 := Lib.hid b4
  simp only [List.length_cons, List.length_nil, Nat.zero_add, Nat.reduceAdd] at d1
  have HD : Hid (w.drew.cell? ⟨g, 0, none⟩ = some (.slice (some ⟨gn, 0, none⟩) 2 cap2) ∧ w.drew.cell? ⟨gn, 0, none⟩ = some (.int .i64 s) ∧ w.drew.cell? ⟨gn, 1, none⟩ = some (.int .i64 v)) := Lib.hid ⟨d1, d2, d3⟩
  clear hI hT b4 hA hd b1 b2 d1 d2 d3
  by_cases hn : acts = []
  · have hS0 : ∀ w0, Calls Tryz.prog 64 #[.int .i64 s, .int .i64 v] w0 fun e w' => ∃ A c, e = .returned (.tuple #[.int .i64 st, .slice A 0 c, .int .i64 er]) ∧ Below w0.heap.size w0 w' := fun w0 =>
      (hS w0).mono fun e w' ⟨vo, he, hR, hB⟩ => by
        obtain ⟨A, c, hv⟩ := Kd.R_slice hR
        rw [hn] at hv
        exact ⟨A, c, by rw [he, hv]; rfl, hB⟩
    have HS0 := Lib.hid hS0
    have HN := Lib.hid hn
    clear hS hS0 hn
    go_enter Tryz.func44, Tryz.ntmps44
    go_wp2_with fail
    go_region_held3 (fun w' => w'.cell? ⟨g, 0, none⟩ = some (.slice (some ⟨gn, 0, none⟩) 2 cap2) ∧ w'.cell? ⟨gn, 0, none⟩ = some (.int .i64 s) ∧ w'.cell? ⟨gn, 1, none⟩ = some (.int .i64 v)) (first | (with_reducible exact HD.out) | (with_reducible exact ⟨pw_cell_below hb1.out HD.out.1, pw_cell_below hb1.out HD.out.2.1, pw_cell_below hb1.out HD.out.2.2⟩)) ((go_at_call 64; (with_reducible refine (HS0.out _).mono ?_); rintro e w1 ⟨A, c, rfl, hb1_⟩; have hb1 := Lib.hid hb1_; clear hb1_))
    have HB1 : Hid (Below w.heap.size w w1) := Lib.hid (below_drew_then hb1.out)
    clear HD HS0 hb1
    go_wp2_with fail
    ((with_reducible refine (HI.out _ (HT.out.later HB1.out)).mono ?_); rintro e w2 ⟨rfl, hb2⟩)
    have HB2 := Lib.hid (HB1.out.trans (hb2.mono HB1.out.size))
    clear hb2
    go_wp2_with fail
    go_loop [7, 31] (fun v7 v31 => v7 = .string ⟨(itoaL st).toArray⟩ ∧ v31 = .int .i64 0) (fun _ _ => 0)
    case atStart => exact ⟨rfl, rfl⟩
    case round =>
      obtain ⟨rfl, rfl⟩ := hrel
      go_wp2_with fail
      go_ret2
      exact ⟨by rw [HN.out]; simp, HB2.out⟩
  · have hS0 : ∀ w0, Calls Tryz.prog 64 #[.int .i64 s, .int .i64 v] w0 fun e w' => ∃ h c, e = .returned (.tuple #[.int .i64 st, .slice (some ⟨h, 0, none⟩) acts.length c, .int .i64 er]) ∧ (∀ k (hk : k < acts.length), w'.cell? ⟨h, k, none⟩ = some (.int .i64 acts[k])) ∧ Below w0.heap.size w0 w' := fun w0 =>
      (hS w0).mono fun e w' ⟨vo, he, hR, hB⟩ => by
        have ho := Kd.own_of_R hR
        have hlen : (encs (Value.int .i64) acts).length = acts.length := encs_length _
        rw [← hlen] at ho
        rcases RowAt.own ho with h0 | ⟨h, c, hv, _, hc⟩
        · exact absurd (by simpa [encs] using h0) hn
        · rw [hlen] at hv
          refine ⟨h, c, by rw [he, hv], fun k hk => hc k _ ?_, hB⟩
          simp [encs, hk]
    have HS0 := Lib.hid hS0
    have hn0 : 0 < acts.length := by cases acts with
      | nil => exact absurd rfl hn
      | cons _ _ => simp
    clear hS hS0 hn
    go_enter Tryz.func44, Tryz.ntmps44
    go_wp2_with fail
    go_region_held3 (fun w' => w'.cell? ⟨g, 0, none⟩ = some (.slice (some ⟨gn, 0, none⟩) 2 cap2) ∧ w'.cell? ⟨gn, 0, none⟩ = some (.int .i64 s) ∧ w'.cell? ⟨gn, 1, none⟩ = some (.int .i64 v)) (first | (with_reducible exact HD.out) | (with_reducible exact ⟨pw_cell_below hb1.out HD.out.1, pw_cell_below hb1.out HD.out.2.1, pw_cell_below hb1.out HD.out.2.2⟩)) ((go_at_call 64; (with_reducible refine (HS0.out _).mono ?_); rintro e w1 ⟨h, c, rfl, hc_, hb1_⟩; have hb1 := Lib.hid hb1_; have hc := Lib.hid hc_; clear hb1_ hc_))
    have HB1 : Hid (Below w.heap.size w w1) := Lib.hid (below_drew_then hb1.out)
    clear HD HS0 hb1
    go_wp2_with fail
    ((with_reducible refine (HI.out _ (HT.out.later HB1.out)).mono ?_); rintro e w2 ⟨rfl, hb2⟩)
    have HC : Hid (∀ k (hk : k < acts.length), w2.cell? ⟨h, k, none⟩ = some (.int .i64 acts[k])) := Lib.hid (fun k hk => pw_cell_below hb2 (hc.out k hk))
    have HB2 := Lib.hid (HB1.out.trans (hb2.mono HB1.out.size))
    clear hb2 hc
    go_wp2_with fail
    go_loopw [7, 31] (fun v7 v31 wr => ∃ (k : Nat) (S : ByteArray), k ≤ acts.length ∧ v31 = .int .i64 (k : Int) ∧ v7 = .string S ∧ S.size ≤ 21 + 22 * k ∧ Hid (S.data.toList = itoaL st ++ (acts.take k).flatMap fun x => 32 :: itoaL x) ∧ Hid (Below w2.heap.size w2 wr)) (fun _ v31 _ => acts.length - (intOf v31).toNat)
    case atStart => exact ⟨0, ⟨(itoaL st).toArray⟩, Nat.zero_le _, rfl, rfl, by rw [size_lit]; omega, Lib.hid (by simp), Lib.hid (Below.refl _ _)⟩
    case round =>
      obtain ⟨k, S, hk, rfl, rfl, hSl, hSd, hB⟩ := hrel
      by_cases hlt : k < acts.length
      · have hcell := pw_cell_below hB.out (HC.out k hlt)
        have hbd := HB4.out acts[k] (List.getElem_mem hlt)
        have hT := Lib.hid (acts_take acts k hlt)
        generalize acts[k] = x at hcell hbd hT
        obtain ⟨x0, x1⟩ := hbd
        have hI := fun w0 hT0 => itoa_any x w0 (by omega) (by omega) hT0
        have hxl := itoaL_length x
        have hxs : (⟨(itoaL x).toArray⟩ : ByteArray).size = (itoaL x).length := size_lit _
        have hxd : (⟨(itoaL x).toArray⟩ : ByteArray).data.toList = itoaL x := rfl
        generalize (⟨(itoaL x).toArray⟩ : ByteArray) = X at hI hxs hxd
        have hA1 : ∀ w0, (Op.stringOp .add ⟨#[32]⟩ X).run Tryz.prog w0 = .ok (.string (⟨#[32]⟩ ++ X)) w0 := fun w0 => run_string_add_sum w0 _ _ (by have : (⟨#[32]⟩ : ByteArray).size = 1 := rfl; omega)
        have hA2 : ∀ w0, (Op.stringOp .add S (⟨#[32]⟩ ++ X)).run Tryz.prog w0 = .ok (.string (S ++ (⟨#[32]⟩ ++ X))) w0 := fun w0 => run_string_add_sum w0 _ _ (by rw [ByteArray.size_append]; have : (⟨#[32]⟩ : ByteArray).size = 1 := rfl; omega)
        have hS2 : (S ++ (⟨#[32]⟩ ++ X)).size ≤ 21 + 22 * (k + 1) := by rw [ByteArray.size_append, ByteArray.size_append]; have : (⟨#[32]⟩ : ByteArray).size = 1 := rfl; omega
        have hSd2 : Hid ((S ++ (⟨#[32]⟩ ++ X)).data.toList = itoaL st ++ (acts.take (k + 1)).flatMap fun x => 32 :: itoaL x) := Lib.hid (by
          rw [hT.out, ByteArray.data_append, ByteArray.data_append, Array.toList_append, Array.toList_append, hxd, hSd.out]
          simp)
        have HI2 := Lib.hid hI
        clear hI hxd hSd hT hxs hxl
        go_wp2_with fail
        ((with_reducible refine (HI2.out _ ((HT.out.later HB2.out).later hB.out)).mono ?_); rintro e w3 ⟨rfl, hb3⟩)
        have HB3 := Lib.hid (hB.out.trans (hb3.mono hB.out.size))
        clear hb3 hB
        go_wp2_with fail
        go_roundw
        case rel => exact ⟨k + 1, S ++ (⟨#[32]⟩ ++ X), by omega, by go_num, rfl, hS2, hSd2, HB3⟩
        case measure => simp [intOf]; omega
      · have hks : acts.take k = acts := List.take_of_length_le (by omega)
        have hZ : Hid (S = ⟨(itoaL st ++ acts.flatMap fun x => 32 :: itoaL x).toArray⟩) := Lib.hid (by
          have h := hSd.out
          rw [hks] at h
          apply ByteArray.ext
          apply Array.toList_inj.1
          exact h)
        clear hks hSd
        go_wp2_with fail
        go_ret2
        exact ⟨by rw [← hZ.out]; rfl, HB2.out.trans (hB.out.mono HB2.out.size)⟩
end Go.Proofs.YtlpibobpfafooaaGreatDoor.H
/-
  Contracts at this seat: what the console's commands tell (delays, targets).
-/
set_option linter.unusedVariables false
set_option linter.unusedSimpArgs false
namespace Go.Proofs.YtlpibobpfafooaaGreatDoor.H
open Go.RowKit Go.Proofs.Wy Go.Proofs.YtlpibobpfafooaaGreatDoorW.PrintWords

theorem double_bds : ∀ (n : Nat) (most d : Int), 1 ≤ d → d ≤ most → 1 ≤ doubleN n most d ∧ doubleN n most d ≤ most
  | 0, _, _, h1, h2 => ⟨h1, h2⟩
  | n + 1, most, d, h1, h2 => by
    unfold doubleN
    split
    · omega
    · exact double_bds n most (d * 2) (by omega) (by omega)
theorem delayL_bd (t base most jit : Int) : -10000 ≤ (delayL t base most jit).1 ∧ (delayL t base most jit).1 ≤ 10000 := by
  unfold delayL
  split
  · exact ⟨by simp, by simp⟩
  · rename_i h
    have hd := double_bds t.toNat most base (by omega) (by omega)
    generalize doubleN t.toNat most base = x at hd
    have h5 := Int.emod_nonneg jit (show x / 4 + 1 ≠ 0 by omega)
    have h6 := Int.emod_lt_of_pos jit (show 0 < x / 4 + 1 by omega)
    dsimp only
    omega
set_option maxHeartbeats 2000000 in
theorem delayt_any (g : Nat) (t base most jit : Int) (bs : List (List UInt8)) (w : World) (hj : jit ≤ 9223372036854775807) (hA : ArgsAt w g [t, base, most, jit] bs) (hT : TabW w) :
    Calls Tryz.prog 46 #[.pointer (some ⟨g, 0, none⟩)] w (TellPost 5 [t, base, most, jit] bs w) := by
  obtain ⟨gn, cap2, d1, hd⟩ := hA.num
  have d2 := hd 0 t rfl
  have d3 := hd 1 base rfl
  have d4 := hd 2 most rfl
  have d5 := hd 3 jit rfl
  obtain ⟨b1, b2⟩ := delayL_bd t base most jit
  have hS := fun w0 => SpQ.delay_any t base most jit w0 hj
  have HP : Hid (TellPost 5 [t, base, most, jit] bs w = fun e w' => e = .returned (.tuple #[.string ⟨(itoaL (delayL t base most jit).1).toArray⟩, .int .i64 (delayL t base most jit).2]) ∧ Below w.heap.size w w') := rfl
  rw [HP.out]
  generalize (delayL t base most jit).1 = st at hS b1 b2 ⊢
  generalize (delayL t base most jit).2 = er at hS ⊢
  have hI := fun w0 hT0 => itoa_any st w0 (by omega) (by omega) hT0
  have HI := Lib.hid hI
  have HT := Lib.hid hT
  have HS := Lib.hid hS
  simp only [List.length_cons, List.length_nil, Nat.zero_add, Nat.reduceAdd] at d1
  have HD : Hid (w.drew.cell? ⟨g, 0, none⟩ = some (.slice (some ⟨gn, 0, none⟩) 4 cap2) ∧ w.drew.cell? ⟨gn, 0, none⟩ = some (.int .i64 t) ∧ w.drew.cell? ⟨gn, 1, none⟩ = some (.int .i64 base) ∧ w.drew.cell? ⟨gn, 2, none⟩ = some (.int .i64 most) ∧ w.drew.cell? ⟨gn, 3, none⟩ = some (.int .i64 jit)) := Lib.hid ⟨d1, d2, d3, d4, d5⟩
  clear hI hT hS hA hd b1 b2 d1 d2 d3 d4 d5 hj
  go_enter Tryz.func46, Tryz.ntmps46
  go_wp2_with fail
  go_region_held3 (fun w' => w'.cell? ⟨g, 0, none⟩ = some (.slice (some ⟨gn, 0, none⟩) 4 cap2) ∧ w'.cell? ⟨gn, 0, none⟩ = some (.int .i64 t) ∧ w'.cell? ⟨gn, 1, none⟩ = some (.int .i64 base) ∧ w'.cell? ⟨gn, 2, none⟩ = some (.int .i64 most) ∧ w'.cell? ⟨gn, 3, none⟩ = some (.int .i64 jit)) (first | (with_reducible exact HD.out) | (with_reducible exact ⟨pw_cell_below hb1.out HD.out.1, pw_cell_below hb1.out HD.out.2.1, pw_cell_below hb1.out HD.out.2.2.1, pw_cell_below hb1.out HD.out.2.2.2.1, pw_cell_below hb1.out HD.out.2.2.2.2⟩)) ((go_at_call 66; (with_reducible refine (HS.out _).mono ?_); rintro e w1 ⟨rfl, hb1_⟩; have hb1 := Lib.hid hb1_; clear hb1_))
  have HB1 : Hid (Below w.heap.size w w1) := Lib.hid (below_drew_then hb1.out)
  clear HD HS hb1
  go_wp2_with fail
  ((with_reducible refine (HI.out _ (HT.out.later HB1.out)).mono ?_); rintro e w2 ⟨rfl, hb2⟩)
  have HB2 := Lib.hid (HB1.out.trans (hb2.mono HB1.out.size))
  clear hb2
  go_wp2_with fail
  go_ret2
  exact ⟨rfl, HB2.out⟩

theorem targetT (load rate least links : Int) (bs : List (List UInt8)) : tellL 6 [load, rate, least, links] bs = if load < 0 ∨ SpQ.shapeB rate least links = false then ([], 2400) else (itoaL (min (max (load / rate + if load % rate > 0 then 1 else 0) least) links), 0) := by
  show (if (targetL load rate least links).2 = 0 then (itoaL (targetL load rate least links).1, (0 : Int)) else ([], 2400)) = _
  unfold targetL SpQ.shapeB
  by_cases h : load < 0 ∨ ¬ (64 ≤ rate ∧ rate ≤ 4096 ∧ 1 ≤ links ∧ links ≤ 6 ∧ 1 ≤ least ∧ least ≤ links)
  · rw [if_pos h, if_neg (by decide), if_pos]
    rcases h with h | h
    · exact .inl h
    · exact .inr (by simpa using h)
  · have hn : ¬ (load < 0 ∨ decide (64 ≤ rate ∧ rate ≤ 4096 ∧ 1 ≤ links ∧ links ≤ 6 ∧ 1 ≤ least ∧ least ≤ links) = false) := by
      intro h2
      apply h
      rcases h2 with h2 | h2
      · exact .inl h2
      · exact .inr (by simpa using h2)
    rw [if_neg h, if_neg hn]
    generalize min (max (load / rate + if load % rate > 0 then 1 else 0) least) links = x
    rfl
set_option maxHeartbeats 2000000 in
theorem target_any (g : Nat) (load rate least links : Int) (bs : List (List UInt8)) (w : World) (hj : load ≤ 9223372036854775807) (hA : ArgsAt w g [load, rate, least, links] bs) (hT : TabW w) :
    Calls Tryz.prog 47 #[.pointer (some ⟨g, 0, none⟩)] w (TellPost 6 [load, rate, least, links] bs w) := by
  obtain ⟨gn, cap2, d1, hd⟩ := hA.num
  have d2 := hd 0 load rfl
  have d3 := hd 1 rate rfl
  have d4 := hd 2 least rfl
  have d5 := hd 3 links rfl
  have HT := Lib.hid hT
  simp only [List.length_cons, List.length_nil, Nat.zero_add, Nat.reduceAdd] at d1
  have hU := targetT load rate least links bs
  have HP : Hid (TellPost 6 [load, rate, least, links] bs w = fun e w' => e = .returned (.tuple #[.string ⟨(tellL 6 [load, rate, least, links] bs).1.toArray⟩, .int .i64 (tellL 6 [load, rate, least, links] bs).2]) ∧ Below w.heap.size w w') := rfl
  rw [HP.out]
  clear hT hA hd HP
  by_cases hl : load < 0
  · have b0 : decide (load < 0) = true := by simpa using hl
    rw [if_pos (.inl hl)] at hU
    rw [hU]
    clear hU hl HT
    go_enter Tryz.func47, Tryz.ntmps47
    go_wp2_with fail
    go_quiet (fail)
    go_wp2_with fail
    go_ret2
    exact ⟨rfl, pw_below_drewN (Below.refl _ _) _⟩
  · have b0 : decide (load < 0) = false := by simpa using hl
    have hS := fun w0 => SpQ.shape_any rate least links w0
    cases hsh : SpQ.shapeB rate least links with
    | false =>
      rw [if_pos (.inr hsh)] at hU
      rw [hU]
      rw [hsh] at hS
      have HS := Lib.hid hS
      clear hU hl HT hsh hS
      go_enter Tryz.func47, Tryz.ntmps47
      go_wp2_with fail
      go_quiet ((go_at_call 67; exact Calls.quiet_of (HS.out _)))
      go_wp2_with fail
      go_ret2
      exact ⟨rfl, pw_below_drewN (Below.refl _ _) _⟩
    | true =>
      rw [if_neg (by rw [hsh]; intro h; rcases h with h | h; exact hl h; cases h)] at hU
      rw [hU]
      rw [hsh] at hS
      have hsh2 : 64 ≤ rate ∧ rate ≤ 4096 ∧ 1 ≤ links ∧ links ≤ 6 ∧ 1 ≤ least ∧ least ≤ links := by unfold SpQ.shapeB at hsh; simpa using hsh
      have hC := fun w0 => SpQ.count_any load rate least links w0 (by omega) hsh2.1 hj
      have hbd : 1 ≤ min (max (load / rate + if load % rate > 0 then 1 else 0) least) links ∧ min (max (load / rate + if load % rate > 0 then 1 else 0) least) links ≤ 6 := by
        generalize (load / rate + if load % rate > 0 then 1 else 0) = y
        omega
      generalize min (max (load / rate + if load % rate > 0 then 1 else 0) least) links = st at hC hbd ⊢
      have hI := fun w0 hT0 => itoa_any st w0 (by omega) (by omega) hT0
      have HS := Lib.hid hS
      have HI := Lib.hid hI
      have HC := Lib.hid hC
      have HD : Hid (w.cell? ⟨g, 0, none⟩ = some (.slice (some ⟨gn, 0, none⟩) 4 cap2) ∧ w.cell? ⟨gn, 0, none⟩ = some (.int .i64 load) ∧ w.cell? ⟨gn, 1, none⟩ = some (.int .i64 rate) ∧ w.cell? ⟨gn, 2, none⟩ = some (.int .i64 least) ∧ w.cell? ⟨gn, 3, none⟩ = some (.int .i64 links)) := Lib.hid ⟨d1, d2, d3, d4, d5⟩
      clear hU hl hsh hS hI hC hbd hsh2 hj
      go_enter Tryz.func47, Tryz.ntmps47
      go_wp2_with fail
      go_quiet ((go_at_call 67; exact Calls.quiet_of (HS.out _)))
      go_wp2_with fail
      have HDn : Hid ((w.drewN (nq + 1)).cell? ⟨g, 0, none⟩ = some (.slice (some ⟨gn, 0, none⟩) 4 cap2) ∧ (w.drewN (nq + 1)).cell? ⟨gn, 0, none⟩ = some (.int .i64 load) ∧ (w.drewN (nq + 1)).cell? ⟨gn, 1, none⟩ = some (.int .i64 rate) ∧ (w.drewN (nq + 1)).cell? ⟨gn, 2, none⟩ = some (.int .i64 least) ∧ (w.drewN (nq + 1)).cell? ⟨gn, 3, none⟩ = some (.int .i64 links)) := HD
      have HDm : Hid ((w.drewN nq).drew.cell? ⟨g, 0, none⟩ = some (.slice (some ⟨gn, 0, none⟩) 4 cap2) ∧ (w.drewN nq).drew.cell? ⟨gn, 0, none⟩ = some (.int .i64 load) ∧ (w.drewN nq).drew.cell? ⟨gn, 1, none⟩ = some (.int .i64 rate) ∧ (w.drewN nq).drew.cell? ⟨gn, 2, none⟩ = some (.int .i64 least) ∧ (w.drewN nq).drew.cell? ⟨gn, 3, none⟩ = some (.int .i64 links)) := HD
      have HBn : Hid (Below w.heap.size w (w.drewN (nq + 1))) := Lib.hid (pw_below_drewN (Below.refl _ _) (nq + 1))
      clear d1 d2 d3 d4 d5 HS
      go_region_held3 (fun w' => w'.cell? ⟨g, 0, none⟩ = some (.slice (some ⟨gn, 0, none⟩) 4 cap2) ∧ w'.cell? ⟨gn, 0, none⟩ = some (.int .i64 load) ∧ w'.cell? ⟨gn, 1, none⟩ = some (.int .i64 rate) ∧ w'.cell? ⟨gn, 2, none⟩ = some (.int .i64 least) ∧ w'.cell? ⟨gn, 3, none⟩ = some (.int .i64 links)) (first | (with_reducible exact HDn.out) | (with_reducible exact HDm.out) | (with_reducible exact ⟨pw_cell_below hb1.out HDn.out.1, pw_cell_below hb1.out HDn.out.2.1, pw_cell_below hb1.out HDn.out.2.2.1, pw_cell_below hb1.out HDn.out.2.2.2.1, pw_cell_below hb1.out HDn.out.2.2.2.2⟩) | (with_reducible exact ⟨pw_cell_below hb2.out (pw_cell_below hb1.out HDn.out.1), pw_cell_below hb2.out (pw_cell_below hb1.out HDn.out.2.1), pw_cell_below hb2.out (pw_cell_below hb1.out HDn.out.2.2.1), pw_cell_below hb2.out (pw_cell_below hb1.out HDn.out.2.2.2.1), pw_cell_below hb2.out (pw_cell_below hb1.out HDn.out.2.2.2.2)⟩)) (first | (go_at_call 68; (with_reducible refine (HC.out _).mono ?_); rintro e w1 ⟨rfl, hb1_⟩; have hb1 := Lib.hid hb1_; have HT1 := Lib.hid (HT.out.later (HBn.out.trans (hb1_.mono HBn.out.size))); clear hb1_) | (go_at_call 50; (with_reducible refine (HI.out _ HT1.out).mono ?_); rintro e w2 ⟨rfl, hb2_⟩; have hb2 := Lib.hid hb2_; clear hb2_))
      have HB3 := Lib.hid (HBn.out.trans ((hb1.out.mono HBn.out.size).trans (hb2.out.mono (Nat.le_trans HBn.out.size hb1.out.size))))
      go_wp2_with fail
      go_ret2
      exact ⟨rfl, HB3.out⟩
end Go.Proofs.YtlpibobpfafooaaGreatDoor.H
/-
  Contract at this seat: a line's words read as its kinds ask.
-/
set_option linter.unusedVariables false
set_option linter.unusedSimpArgs false
namespace Go.Proofs.YtlpibobpfafooaaGreatDoor.H
open Go.RowKit Go.Proofs.Wy Go.Proofs.YtlpibobpfafooaaGreatDoorW.PrintWords

theorem own_ne {w : World} {v : Value} {B e n g t : Nat} {xs : List Value} {cs : Array Value} (h : w.ownsRow B e 1 v n xs) (hb : w.heap[g]? = some (.cells cs t (0, 0))) (ht : e ≠ t) : some g ≠ v.ownBlock := by
  rcases h.2 with ⟨rfl, hn⟩ | ⟨g2, cap, cur, rfl, hb2, hg, rest⟩
  · simp [Value.ownBlock]
  · intro e2
    simp only [Value.ownBlock, Option.some.injEq] at e2
    subst e2
    rw [hb] at hg
    injection hg with hg
    injection hg with _ h3 _
    exact ht h3.symm
theorem own_other {w : World} {v v2 : Value} {B B2 e e2 n n2 : Nat} {xs xs2 : List Value} (h : w.ownsRow B e 1 v n xs) (h2 : w.ownsRow B2 e2 1 v2 n2 xs2) (ht : e ≠ e2) {w1 : World} (hg : w.grownBy w1 v2.ownBlock) : w1.ownsRow B e 1 v n xs := by
  refine ⟨h.1, ?_⟩
  rcases h.2 with h0 | ⟨g, cap, cur, hv, hb, hgb, rest⟩
  · exact .inl h0
  · have hne : some g ≠ v2.ownBlock := own_ne h2 hgb (fun e => ht e.symm)
    refine .inr ⟨g, cap, cur, hv, hb, (hg.block g (blk_lt hgb) hne).trans hgb, rest⟩

/-! ### reading, word by word -/
def UnR (K : List UInt8) (W : List (List UInt8)) (k : Nat) (ns : List Int) (bs : List (List UInt8)) : Prop := readL K W = (readL (K.drop k) (W.drop k)).map fun r => (ns ++ r.1, bs ++ r.2)
theorem UnR.zero (K : List UInt8) (W : List (List UInt8)) : UnR K W 0 [] [] := by simp [UnR]
theorem readL_len : ∀ (K : List UInt8) (W : List (List UInt8)), W.length ≠ K.length → readL K W = none
  | [], [], h => absurd rfl h
  | [], _ :: _, _ => rfl
  | _ :: _, [], _ => rfl
  | k :: K, w :: W, h => by
    have ih := readL_len K W (by simpa using h)
    unfold readL
    rw [ih]
    split
    · cases numberL w <;> rfl
    · cases unhexL w <;> rfl
section
variable {K : List UInt8} {W : List (List UInt8)} {k : Nat} {ns : List Int} {bs : List (List UInt8)} {c : UInt8} {l : List UInt8}
theorem UnR.num (h : UnR K W k ns bs) (hc : K[k]? = some c) (hl : W[k]? = some l) (h1 : c = 110) {x : Int} (hx : numberL l = some x) : UnR K W (k + 1) (ns ++ [x]) bs := by
  obtain ⟨a1, a2⟩ := List.getElem?_eq_some_iff.1 hc
  obtain ⟨b1, b2⟩ := List.getElem?_eq_some_iff.1 hl
  unfold UnR at h ⊢
  rw [h, List.drop_eq_getElem_cons a1, List.drop_eq_getElem_cons b1, a2, b2, readL, if_pos h1, hx, Option.map_map]
  congr 1
  funext r
  simp
theorem UnR.numNo (h : UnR K W k ns bs) (hc : K[k]? = some c) (hl : W[k]? = some l) (h1 : c = 110) (hx : numberL l = none) : readL K W = none := by
  obtain ⟨a1, a2⟩ := List.getElem?_eq_some_iff.1 hc
  obtain ⟨b1, b2⟩ := List.getElem?_eq_some_iff.1 hl
  unfold UnR at h
  rw [h, List.drop_eq_getElem_cons a1, List.drop_eq_getElem_cons b1, a2, b2, readL, if_pos h1, hx]
  rfl
theorem UnR.str (h : UnR K W k ns bs) (hc : K[k]? = some c) (hl : W[k]? = some l) (h1 : c ≠ 110) {x : List UInt8} (hx : unhexL l = some x) : UnR K W (k + 1) ns (bs ++ [x]) := by
  obtain ⟨a1, a2⟩ := List.getElem?_eq_some_iff.1 hc
  obtain ⟨b1, b2⟩ := List.getElem?_eq_some_iff.1 hl
  unfold UnR at h ⊢
  rw [h, List.drop_eq_getElem_cons a1, List.drop_eq_getElem_cons b1, a2, b2, readL, if_neg h1, hx, Option.map_map]
  congr 1
  funext r
  simp
theorem UnR.strNo (h : UnR K W k ns bs) (hc : K[k]? = some c) (hl : W[k]? = some l) (h1 : c ≠ 110) (hx : unhexL l = none) : readL K W = none := by
  obtain ⟨a1, a2⟩ := List.getElem?_eq_some_iff.1 hc
  obtain ⟨b1, b2⟩ := List.getElem?_eq_some_iff.1 hl
  unfold UnR at h
  rw [h, List.drop_eq_getElem_cons a1, List.drop_eq_getElem_cons b1, a2, b2, readL, if_neg h1, hx]
  rfl
theorem UnR.done (h : UnR K W k ns bs) (h1 : K.length ≤ k) (h2 : W.length ≤ k) : readL K W = some (ns, bs) := by
  unfold UnR at h
  rw [h, List.drop_of_length_le h1, List.drop_of_length_le h2]
  simp [readL]
end
theorem ints_snoc (ns : List Int) (x : Int) : ints (ns ++ [x]) = nums .i64 (ns ++ [x]) := rfl
def ReadPost (K : List UInt8) (W : List (List UInt8)) (w : World) (e : Ending) (w' : World) : Prop :=
  ∃ g : Nat, e = .returned (.tuple #[.pointer (some ⟨g, 0, none⟩), .bool (readL K W).isSome]) ∧ (∀ r, readL K W = some r → ArgsAt w' g r.1 r.2) ∧ Below w.heap.size w w'
theorem ReadPost.no {K : List UInt8} {W : List (List UInt8)} {w w' : World} (g : Nat) (h : readL K W = none) (hb : Below w.heap.size w w') : ReadPost K W w (.returned (.tuple #[.pointer (some ⟨g, 0, none⟩), .bool false])) w' := ⟨g, by rw [h]; rfl, (fun r hr => by rw [h] at hr; cases hr), hb⟩
theorem ReadPost.yes {K : List UInt8} {W : List (List UInt8)} {w w' : World} (g : Nat) {ns : List Int} {bs : List (List UInt8)} (h : readL K W = some (ns, bs)) (ha : ArgsAt w' g ns bs) (hb : Below w.heap.size w w') : ReadPost K W w (.returned (.tuple #[.pointer (some ⟨g, 0, none⟩), .bool true])) w' := ⟨g, by rw [h]; rfl, (fun r hr => by rw [h] at hr; cases hr; exact ha), hb⟩

set_option maxHeartbeats 1000000 in
theorem read_len (kb : ByteArray) (A : Option Addr) (n c : Nat) (W : List (List UInt8)) (w : World) (hn : n = W.length) (hne : n ≠ kb.size) :
    Calls Tryz.prog 51 #[.string kb, .slice A n c] w (ReadPost kb.data.toList W w) := by
  have hl : kb.data.toList.length = kb.size := Array.length_toList
  have HN := Lib.hid (readL_len kb.data.toList W (by omega))
  have b0 : ((n : Int) != (kb.size : Int)) = true := by rw [bne_iff_ne]; omega
  have b1 : (n != kb.size) = true := by rw [bne_iff_ne]; omega
  clear hn hl hne
  go_enter Tryz.func51, Tryz.ntmps51
  go_wp2
  go_ret2
  exact ReadPost.no w.heap.size HN.out ((Below.refl _ w).alloc (Nat.le_refl _) _)

theorem info_int : (Tryz.prog.info? 3).map (fun i => (i.zero, i.size, i.bytes)) = some (some (.int .i64 0), 1, 8) := by kernel_rfl
theorem info_str : (Tryz.prog.info? 9).map (fun i => (i.zero, i.size, i.bytes)) = some (some (.string ⟨#[]⟩), 1, 16) := by kernel_rfl
theorem strv_snoc (bs : List (List UInt8)) (x : List UInt8) : strv (bs ++ [x]) = strv bs ++ [.string ⟨x.toArray⟩] := by simp [strv]
theorem strv_len (bs : List (List UInt8)) : (strv bs).length = bs.length := by simp [strv]
theorem ints_len (ns : List Int) : (ints ns).length = ns.length := by simp [ints]
/-- The state of the loop: block g holds the rows of numbers and of bytes, both made by the call. -/
structure Rd (w0 wr : World) (g : Nat) (vn vb : Value) (ns : List Int) (bs : List (List UInt8)) : Prop where
  blk : wr.heap[g]? = some (.cells #[vn, vb] 97 (0, 0))
  num : wr.ownsRow w0.heap.size 3 1 vn ns.length (nums .i64 ns)
  str : wr.ownsRow w0.heap.size 9 1 vb (strv bs).length (strv bs)
  low : Below w0.heap.size w0 wr
  at_ : w0.heap.size ≤ g
theorem Rd.below {w0 wr w1 : World} {g : Nat} {vn vb : Value} {ns : List Int} {bs : List (List UInt8)} (h : Rd w0 wr g vn vb ns bs) (hb : Below wr.heap.size wr w1) : Rd w0 w1 g vn vb ns bs :=
  ⟨blk_below h.blk hb, pw_own_below h.num hb, pw_own_below h.str hb, h.low.trans (hb.mono h.low.size), h.at_⟩
theorem Rd.c0 {w0 wr : World} {g : Nat} {vn vb : Value} {ns : List Int} {bs : List (List UInt8)} (h : Rd w0 wr g vn vb ns bs) : wr.cell? ⟨g, 0, none⟩ = some vn := (blk_cell h.blk 0).trans rfl
theorem Rd.c1 {w0 wr : World} {g : Nat} {vn vb : Value} {ns : List Int} {bs : List (List UInt8)} (h : Rd w0 wr g vn vb ns bs) : wr.cell? ⟨g, 1, none⟩ = some vb := (blk_cell h.blk 1).trans rfl
theorem Rd.f0 {w0 wr : World} {g : Nat} {vn vb : Value} {ns : List Int} {bs : List (List UInt8)} (h : Rd w0 wr g vn vb ns bs) (i : Nat) : wr.frozen? ⟨g, i, none⟩ = false := blk_frozen h.blk i
theorem Rd.args {w0 wr : World} {g : Nat} {vn vb : Value} {ns : List Int} {bs : List (List UInt8)} (h : Rd w0 wr g vn vb ns bs) : ArgsAt wr g ns bs :=
  ⟨vn, vb, h.blk, RowAt.own (by have := h.num; have e : nums .i64 ns = ints ns := rfl; rw [e] at this; rw [ints_len]; exact this), RowAt.own h.str⟩
/-- Behind the append to the numbers: the block stands, the bytes stand. -/
structure RdN (w0 w2 : World) (g : Nat) (v1 vn vb : Value) (ns : List Int) (bs : List (List UInt8)) : Prop where
  blk : w2.heap[g]? = some (.cells #[vn, vb] 97 (0, 0))
  num : w2.ownsRow w0.heap.size 3 1 v1 ns.length (nums .i64 ns)
  str : w2.ownsRow w0.heap.size 9 1 vb (strv bs).length (strv bs)
  low : Below w0.heap.size w0 w2
  at_ : w0.heap.size ≤ g
theorem RdN.set {w0 w2 : World} {g : Nat} {v1 vn vb : Value} {ns : List Int} {bs : List (List UInt8)} (h : RdN w0 w2 g v1 vn vb ns bs) : Rd w0 (w2.setCell ⟨g, 0, none⟩ v1) g v1 vb ns bs :=
  ⟨blk_put h.blk 0 v1 rfl, own_setCell h.num (own_ne h.num h.blk (by decide)) v1, own_setCell h.str (own_ne h.str h.blk (by decide)) v1, h.low.setCell h.at_ _, h.at_⟩
structure RdS (w0 w2 : World) (g : Nat) (v1 vn vb : Value) (ns : List Int) (bs : List (List UInt8)) : Prop where
  blk : w2.heap[g]? = some (.cells #[vn, vb] 97 (0, 0))
  num : w2.ownsRow w0.heap.size 3 1 vn ns.length (nums .i64 ns)
  str : w2.ownsRow w0.heap.size 9 1 v1 (strv bs).length (strv bs)
  low : Below w0.heap.size w0 w2
  at_ : w0.heap.size ≤ g
theorem RdS.set {w0 w2 : World} {g : Nat} {v1 vn vb : Value} {ns : List Int} {bs : List (List UInt8)} (h : RdS w0 w2 g v1 vn vb ns bs) : Rd w0 (w2.setCell ⟨g, 1, none⟩ v1) g vn v1 ns bs :=
  ⟨blk_put h.blk 1 v1 rfl, own_setCell h.num (own_ne h.num h.blk (by decide)) v1, own_setCell h.str (own_ne h.str h.blk (by decide)) v1, h.low.setCell h.at_ _, h.at_⟩

set_option maxHeartbeats 4000000 in
theorem read_eq (kb : ByteArray) (h o c : Nat) (W : List (List UInt8)) (w : World) (hn : W.length = kb.size) (hk : kb.size ≤ 100) (hW : ∀ l ∈ W, l.length ≤ 100000)
    (hc : ∀ i l, W[i]? = some l → w.cell? ⟨h, o + i, none⟩ = some (.string ⟨l.toArray⟩)) :
    Calls Tryz.prog 51 #[.string kb, .slice (some ⟨h, o, none⟩) W.length c] w (ReadPost kb.data.toList W w) := by
  have hl : kb.data.toList.length = kb.size := Array.length_toList
  have b0 : ((W.length : Int) != (kb.size : Int)) = false := by rw [bne_eq_false_iff_eq]; omega
  have b1 : (W.length != kb.size) = false := by rw [bne_eq_false_iff_eq]; omega
  have HL := Lib.hid hl
  have HC := Lib.hid hc
  have HW := Lib.hid hW
  have HN := Lib.hid hn
  clear hl hc hW hn
  go_enter Tryz.func51, Tryz.ntmps51
  go_wp2
  clear b0 b1
  go_loopw [23] (fun v23 wr => ∃ (k : Nat) (vn vb : Value) (ns : List Int) (bs : List (List UInt8)), k ≤ W.length ∧ v23 = .int .i64 (k : Int) ∧ Hid (ns.length ≤ k ∧ bs.length ≤ k) ∧ Hid (UnR kb.data.toList W k ns bs) ∧ Hid (Rd w wr w.heap.size vn vb ns bs)) (fun v23 _ => W.length - (intOf v23).toNat)
  case atStart => exact ⟨0, .slice none 0 0, .slice none 0 0, [], [], Nat.zero_le _, rfl, Lib.hid ⟨by simp, by simp⟩, Lib.hid (UnR.zero _ _), Lib.hid ⟨blk_new w _, World.ownsRow_nil _ _ _ _, World.ownsRow_nil _ _ _ _, (Below.refl _ w).alloc (Nat.le_refl _) _, Nat.le_refl _⟩⟩
  case round =>
    obtain ⟨k, vn, vb, ns, bs, hk2, rfl, hnb, hU, hR⟩ := hrel
    by_cases hlt : k < W.length
    · obtain ⟨l, hl⟩ : ∃ l, W[k]? = some l := ⟨_, List.getElem?_eq_getElem hlt⟩
      have hcell := pw_cell_below hR.out.low (HC.out k l hl)
      have hll := HW.out l (List.mem_of_getElem? hl)
      have hkk : k < kb.size := by have := HN.out; omega
      have hKc : kb.data.toList[k]? = some kb[k] := by
        rw [List.getElem?_eq_getElem (by rw [HL.out]; exact hkk)]
        rfl
      have r1 := idx_at kb k (k : Int) rfl hkk
      generalize kb[k] = ch at hKc r1
      have hls : (⟨l.toArray⟩ : ByteArray).size = l.length := size_lit l
      have hld : (⟨l.toArray⟩ : ByteArray).data.toList = l := rfl
      by_cases hch : ch = 110
      · have b2 : ((ch.toNat : Int) == 110) = true := by rw [hch]; rfl
        have hNum := fun w0 => number_any ⟨l.toArray⟩ w0 (by omega)
        rw [hld] at hNum
        generalize (⟨l.toArray⟩ : ByteArray) = L at hcell hls hld hNum
        cases hx : numberL l with
        | none =>
          have HNo := Lib.hid (hU.out.numNo hKc hl hch hx)
          have hNum2 : ∀ w0, Calls Tryz.prog 74 #[.string L] w0 fun e w' => e = .returned (.tuple #[.int .i64 0, .bool false]) ∧ Below w0.heap.size w0 w' := fun w0 => (hNum w0).mono fun e w' h => by unfold NumPost at h; rw [hx] at h; exact h
          have HNum := Lib.hid hNum2
          clear hNum hNum2 hx hch hl hKc hls hld hll
          go_wp2_with fail
          ((with_reducible refine (HNum.out _).mono ?_); rintro e w1 ⟨rfl, hb1⟩)
          have HB1 := Lib.hid (hR.out.below hb1).low
          clear hb1
          go_wp2_with fail
          go_ret2
          exact ReadPost.no _ HNo.out HB1.out
        | some x =>
          have HU2 := Lib.hid (hU.out.num hKc hl hch hx)
          have hNum2 : ∀ w0, Calls Tryz.prog 74 #[.string L] w0 fun e w' => e = .returned (.tuple #[.int .i64 x, .bool true]) ∧ Below w0.heap.size w0 w' := fun w0 => (hNum w0).mono fun e w' h => by unfold NumPost at h; rw [hx] at h; exact h
          have HNum := Lib.hid hNum2
          clear hNum hNum2 hx hch hl hKc hls hld hll
          go_wp2_with fail
          ((with_reducible refine (HNum.out _).mono ?_); rintro e w1 ⟨rfl, hb1⟩)
          have HR1 := Lib.hid (hR.out.below hb1)
          have k0 := HR1.out.c0
          clear hb1 hR hcell
          go_wp2_with (at_builtin; refine print_append_num (w0 := w) w.heap.size rfl (.tmp 44) (.tmp 46) 24 3 .i64 8 rfl Tryz.underlying24 info_int (by decide) vn ns x rfl rfl HR1.out.num HR1.out.low HR1.out.low.size ?aL ?_; (case aL => (have := hnb.out.1; omega)); intro v5 w5 ho hb hg hat; obtain ⟨A5, c5, rfl⟩ := own_slice ho; have HR5 : Hid (RdN w w5 w.heap.size (.slice A5 (ns.length + 1) c5) vn vb (ns ++ [x]) bs) := Lib.hid ⟨blk_grown HR1.out.blk hg (own_ne HR1.out.num HR1.out.blk (by decide)), (by have e : (ns ++ [x]).length = ns.length + 1 := (by simp); rw [← e]; exact ho), own_other HR1.out.str HR1.out.num (by decide) hg, hb, HR1.out.at_⟩; have m0 : w5.cell? ⟨w.heap.size, 0, none⟩ = some vn := (blk_cell HR5.out.blk 0).trans rfl; have m1 : w5.frozen? ⟨w.heap.size, 0, none⟩ = false := blk_frozen HR5.out.blk 0; clear ho hb hg hat)
          go_roundw
          case rel => exact ⟨k + 1, .slice A5 (ns.length + 1) c5, vb, ns ++ [x], bs, by omega, by go_num, Lib.hid (by have := hnb.out; simp; omega), HU2, Lib.hid HR5.out.set⟩
          case measure => simp [intOf]; omega
      · have b2 : ((ch.toNat : Int) == 110) = false := by
          rw [beq_eq_false_iff_ne]
          intro e
          exact hch (UInt8.toNat.inj (by have : (110 : UInt8).toNat = 110 := rfl; omega))
        have hUn := fun w0 => unhex_any ⟨l.toArray⟩ w0 (by omega)
        rw [hld] at hUn
        generalize (⟨l.toArray⟩ : ByteArray) = L at hcell hls hld hUn
        cases hx : unhexL l with
        | none =>
          have HNo := Lib.hid (hU.out.strNo hKc hl hch hx)
          have hUn2 : ∀ w0, Calls Tryz.prog 75 #[.string L] w0 fun e w' => ∃ y : ByteArray, e = .returned (.tuple #[.string y, .bool false]) ∧ Below w0.heap.size w0 w' := fun w0 => (hUn w0).mono fun e w' ⟨y, h1, _, h3⟩ => ⟨_, by rw [hx] at h1; exact h1, h3⟩
          have HUn := Lib.hid hUn2
          clear hUn hUn2 hx hch hl hKc hls hld hll
          go_wp2_with fail
          ((with_reducible refine (HUn.out _).mono ?_); rintro e w1 ⟨y, rfl, hb1⟩)
          have HB1 := Lib.hid (hR.out.below hb1).low
          clear hb1
          go_wp2_with fail
          go_ret2
          exact ReadPost.no _ HNo.out HB1.out
        | some x =>
          have HU2 := Lib.hid (hU.out.str hKc hl hch hx)
          have hUn2 : ∀ w0, Calls Tryz.prog 75 #[.string L] w0 fun e w' => e = .returned (.tuple #[.string ⟨x.toArray⟩, .bool true]) ∧ Below w0.heap.size w0 w' := fun w0 => (hUn w0).mono fun e w' ⟨y, h1, h2, h3⟩ => ⟨by rw [hx] at h1; rw [h1, h2 x hx]; rfl, h3⟩
          have hsn := strv_snoc bs x
          have hsl := strv_len bs
          generalize (⟨x.toArray⟩ : ByteArray) = X at hUn2 hsn
          have HUn := Lib.hid hUn2
          have HSn := Lib.hid hsn
          have HSl := Lib.hid hsl
          clear hUn hUn2 hx hch hl hKc hls hld hll hsn hsl
          go_wp2_with fail
          ((with_reducible refine (HUn.out _).mono ?_); rintro e w1 ⟨rfl, hb1⟩)
          have HR1 := Lib.hid (hR.out.below hb1)
          have k0 := HR1.out.c1
          clear hb1 hR hcell
          go_wp2_with (at_builtin; refine print_append (w0 := w) w.heap.size rfl (.tmp 62) (.tmp 64) 23 9 (.string ⟨#[]⟩) 16 rfl Tryz.underlying23 info_str rfl (by decide) vb (strv bs) (.string X) rfl rfl rfl HR1.out.str HR1.out.low HR1.out.low.size ?aL ?_; (case aL => (have h1 := hnb.out.2; have h2 := HSl.out; rw [h2]; omega)); intro v5 w5 ho hb hg hat; obtain ⟨A5, c5, rfl⟩ := own_slice ho; have HR5 : Hid (RdS w w5 w.heap.size (.slice A5 ((strv bs).length + 1) c5) vn vb ns (bs ++ [x])) := Lib.hid ⟨blk_grown HR1.out.blk hg (own_ne HR1.out.str HR1.out.blk (by decide)), own_other HR1.out.num HR1.out.str (by decide) hg, (by rw [HSn.out]; have e : (strv bs ++ [Value.string X]).length = (strv bs).length + 1 := (by simp); rw [← e]; exact ho), hb, HR1.out.at_⟩; have m0 : w5.cell? ⟨w.heap.size, 1, none⟩ = some vb := (blk_cell HR5.out.blk 1).trans rfl; have m1 : w5.frozen? ⟨w.heap.size, 1, none⟩ = false := blk_frozen HR5.out.blk 1; clear ho hb hg hat)
          go_roundw
          case rel => exact ⟨k + 1, vn, .slice A5 ((strv bs).length + 1) c5, ns, bs ++ [x], by omega, by go_num, Lib.hid (by have := hnb.out; simp; omega), HU2, Lib.hid HR5.out.set⟩
          case measure => simp [intOf]; omega
    · have HD := Lib.hid (hU.out.done (by rw [HL.out]; have := HN.out; omega) (by omega))
      have HAr := Lib.hid hR.out.args
      have HLo := Lib.hid hR.out.low
      go_wp2_with fail
      go_ret2
      exact ReadPost.yes _ HD.out HAr.out HLo.out
end Go.Proofs.YtlpibobpfafooaaGreatDoor.H
/-
  Contracts at this seat: the console's commands, as a map; looking one up.
-/
set_option linter.unusedVariables false
set_option linter.unusedSimpArgs false
namespace Go.Proofs.YtlpibobpfafooaaGreatDoor.H
open Go.RowKit Go.Proofs.Wy Go.Proofs.YtlpibobpfafooaaGreatDoorW.PrintWords

/-- The function of a command. -/
def fnT (t : Nat) : Nat := match t with
  | 0 => 41
  | 1 => 42
  | 2 => 43
  | 3 => 44
  | 4 => 45
  | 5 => 46
  | _ => 47
def cmdV (c : List UInt8 × List UInt8 × Nat) : Value := .agg #[.string ⟨c.2.1.toArray⟩, .func (.func (fnT c.2.2)) #[] #[]]
def entT (i : Nat) (c : List UInt8 × List UInt8 × Nat) : MapEntry := { key := .string ⟨c.1.toArray⟩, val := cmdV c, born := i }
/-- The map when the first n commands stand. -/
def mapT (n : Nat) : Array MapEntry := (((cmdsT.take n).zipIdx 0).map fun x => entT x.2 x.1).toArray

theorem run_find (es : List MapEntry) (k : ByteArray) (r : Option (Nat × Value)) (h : Instr.findNow .string (.string k) es 0 = some r) (w : World) : (Instr.findKey 9 (.string k) es).run Tryz.prog w = .ok r w := by
  unfold Instr.findKey
  simp [run_underlying Tryz.underlying9, h, Result.andThen]
theorem set_new (w : World) (o o' : Obj) : ({ w.alloc o with heap := (w.alloc o).heap.setIfInBounds w.heap.size o' } : World) = w.alloc o' := by
  have h : (w.heap.push o).setIfInBounds w.heap.size o' = w.heap.push o' := by
    apply Array.ext'
    rw [Array.toList_setIfInBounds, Array.toList_push, Array.toList_push, ← Array.length_toList, List.set_append_right _ _ (Nat.le_refl _)]
    simp
  show ({ w with heap := (w.heap.push o).setIfInBounds w.heap.size o' } : World) = _
  rw [h]
  rfl
theorem insert_run (w : World) (es : Array MapEntry) (clock : Nat) (k : ByteArray) (v : Value) (h : Instr.findNow .string (.string k) es.toList 0 = some none) :
    (Instr.mapUpdate 48 (.map (some w.heap.size)) (.string k) v).run Tryz.prog (w.alloc (.map es clock)) = .ok () (w.alloc (.map (es.push { key := .string k, val := v, born := clock }) (clock + 1))) := by
  have hb : (w.alloc (.map es clock)).heap[w.heap.size]? = some (.map es clock) := blk_new w _
  have hf := run_find es.toList k none h (w.alloc (.map es clock))
  have hc := MapKept.run_checkKey (P := Tryz.prog) (w := w.alloc (.map es clock)) Tryz.underlying9 (k := .string k) (by trivial) false 9999
  simp only [Instr.mapUpdate, Sem.run_bind, run_underlying Tryz.underlying48, Result.andThen_ok, MapKept.run_getObj_map hb, hc, hf, MapKept.run_setObj_map _ hb]
  rw [set_new]

theorem mapT_push (i : Nat) (c : List UInt8 × List UInt8 × Nat) (h : cmdsT[i]? = some c) (hi : i < 7) : (mapT i).push { key := .string ⟨c.1.toArray⟩, val := cmdV c, born := i } = mapT (i + 1) := by
  have : i = 0 ∨ i = 1 ∨ i = 2 ∨ i = 3 ∨ i = 4 ∨ i = 5 ∨ i = 6 := by omega
  rcases this with rfl | rfl | rfl | rfl | rfl | rfl | rfl <;> (cases h; rfl)
theorem put_0 (w : World) : (Instr.mapUpdate 48 (.map (some w.heap.size)) (.string ⟨#[102, 99, 115]⟩) (.agg #[.string ⟨#[120]⟩, .func (.func 41) #[] #[]])).run Tryz.prog (w.alloc (.map (mapT 0) 0)) = .ok () (w.alloc (.map (mapT 1) 1)) :=
  (insert_run w (mapT 0) 0 ⟨#[102, 99, 115]⟩ _ (by kernel_rfl)).trans rfl
theorem put_1 (w : World) : (Instr.mapUpdate 48 (.map (some w.heap.size)) (.string ⟨#[102, 114, 97, 109, 101]⟩) (.agg #[.string ⟨#[110, 120]⟩, .func (.func 42) #[] #[]])).run Tryz.prog (w.alloc (.map (mapT 1) 1)) = .ok () (w.alloc (.map (mapT 2) 2)) :=
  (insert_run w (mapT 1) 1 ⟨#[102, 114, 97, 109, 101]⟩ _ (by kernel_rfl)).trans rfl
theorem put_2 (w : World) : (Instr.mapUpdate 48 (.map (some w.heap.size)) (.string ⟨#[117, 110, 102, 114, 97, 109, 101]⟩) (.agg #[.string ⟨#[120]⟩, .func (.func 43) #[] #[]])).run Tryz.prog (w.alloc (.map (mapT 2) 2)) = .ok () (w.alloc (.map (mapT 3) 3)) :=
  (insert_run w (mapT 2) 2 ⟨#[117, 110, 102, 114, 97, 109, 101]⟩ _ (by kernel_rfl)).trans rfl
theorem put_3 (w : World) : (Instr.mapUpdate 48 (.map (some w.heap.size)) (.string ⟨#[102, 115, 109]⟩) (.agg #[.string ⟨#[110, 110]⟩, .func (.func 44) #[] #[]])).run Tryz.prog (w.alloc (.map (mapT 3) 3)) = .ok () (w.alloc (.map (mapT 4) 4)) :=
  (insert_run w (mapT 3) 3 ⟨#[102, 115, 109]⟩ _ (by kernel_rfl)).trans rfl
theorem put_4 (w : World) : (Instr.mapUpdate 48 (.map (some w.heap.size)) (.string ⟨#[109, 100, 53]⟩) (.agg #[.string ⟨#[120]⟩, .func (.func 45) #[] #[]])).run Tryz.prog (w.alloc (.map (mapT 4) 4)) = .ok () (w.alloc (.map (mapT 5) 5)) :=
  (insert_run w (mapT 4) 4 ⟨#[109, 100, 53]⟩ _ (by kernel_rfl)).trans rfl
theorem put_5 (w : World) : (Instr.mapUpdate 48 (.map (some w.heap.size)) (.string ⟨#[100, 101, 108, 97, 121]⟩) (.agg #[.string ⟨#[110, 110, 110, 110]⟩, .func (.func 46) #[] #[]])).run Tryz.prog (w.alloc (.map (mapT 5) 5)) = .ok () (w.alloc (.map (mapT 6) 6)) :=
  (insert_run w (mapT 5) 5 ⟨#[100, 101, 108, 97, 121]⟩ _ (by kernel_rfl)).trans rfl
theorem put_6 (w : World) : (Instr.mapUpdate 48 (.map (some w.heap.size)) (.string ⟨#[116, 97, 114, 103, 101, 116]⟩) (.agg #[.string ⟨#[110, 110, 110, 110]⟩, .func (.func 47) #[] #[]])).run Tryz.prog (w.alloc (.map (mapT 6) 6)) = .ok () (w.alloc (.map (mapT 7) 7)) :=
  (insert_run w (mapT 6) 6 ⟨#[116, 97, 114, 103, 101, 116]⟩ _ (by kernel_rfl)).trans rfl
set_option maxHeartbeats 1000000 in
theorem commands_any (w : World) : Calls Tryz.prog 24 #[] w fun e w' => e = .returned (.map (some w.heap.size)) ∧ w' = w.alloc (.map (mapT 7) 7) := by
  have hm : (Instr.makeMap 48 none).run Tryz.prog w = .ok (.map (some w.heap.size)) (w.alloc (.map (mapT 0) 0)) := rfl
  have p0 := put_0 w
  have p1 := put_1 w
  have p2 := put_2 w
  have p3 := put_3 w
  have p4 := put_4 w
  have p5 := put_5 w
  have p6 := put_6 w
  go_enter Tryz.func24, Tryz.ntmps24
  go_wp2
  go_ret
  exact ⟨rfl, rfl⟩
end Go.Proofs.YtlpibobpfafooaaGreatDoor.H
/-
  Contract at this seat: what a line tells.
-/
set_option linter.unusedVariables false
set_option linter.unusedSimpArgs false
namespace Go.Proofs.YtlpibobpfafooaaGreatDoor.H
open Go.RowKit Go.Proofs.Wy Go.Proofs.YtlpibobpfafooaaGreatDoorW.PrintWords

theorem name_eq (k : ByteArray) (n : List UInt8) : ((k == (⟨n.toArray⟩ : ByteArray)) : Bool) = (n == k.data.toList) := by
  show (k.data == n.toArray) = _
  rw [Bool.eq_iff_iff, beq_iff_eq, beq_iff_eq]
  constructor
  · intro h; rw [h]
  · intro h
    apply Array.toList_inj.1
    exact h.symm
theorem find_ents (k : ByteArray) : ∀ (cs : List (List UInt8 × List UInt8 × Nat)) (i : Nat),
    (cs.find? (fun c => c.1 == k.data.toList) = none → Instr.findNow .string (.string k) ((cs.zipIdx i).map fun x => entT x.2 x.1) i = some none) ∧
    (∀ c, cs.find? (fun c => c.1 == k.data.toList) = some c → ∃ j, Instr.findNow .string (.string k) ((cs.zipIdx i).map fun x => entT x.2 x.1) i = some (some (j, cmdV c)))
  | [], i => ⟨fun _ => rfl, fun c h => by cases h⟩
  | c0 :: cs, i => by
    obtain ⟨h1, h2⟩ := find_ents k cs (i + 1)
    have e : Instr.sameNow .string (.string k) (entT i c0).key = some (c0.1 == k.data.toList) := by
      show some (k == (⟨c0.1.toArray⟩ : ByteArray)) = _
      rw [name_eq]
    rw [List.find?_cons]
    cases hb : c0.1 == k.data.toList with
    | true =>
      rw [hb] at e
      refine ⟨(fun h => by cases h), fun c h => ?_⟩
      cases h
      refine ⟨i, ?_⟩
      rw [List.zipIdx_cons, List.map_cons]
      unfold Instr.findNow
      dsimp only
      rw [e]
      rfl
    | false =>
      rw [hb] at e
      refine ⟨fun h => ?_, fun c h => ?_⟩
      · rw [List.zipIdx_cons, List.map_cons]
        unfold Instr.findNow
        dsimp only
        rw [e]
        exact h1 h
      · obtain ⟨j, hj⟩ := h2 c h
        refine ⟨j, ?_⟩
        rw [List.zipIdx_cons, List.map_cons]
        unfold Instr.findNow
        dsimp only
        rw [e]
        exact hj
theorem look_none (W : World) (bm : Nat) (k : ByteArray) (hM : W.heap[bm]? = some (.map (mapT 7) 7)) (h : cmdsT.find? (fun c => c.1 == k.data.toList) = none) :
    (Instr.lookup 48 (.map (some bm)) (.string k) true).run Tryz.prog W = .ok (.tuple #[.agg #[.string ⟨#[]⟩, .nilFunc], .bool false]) W := by
  have hf := run_find (mapT 7).toList k none ((find_ents k cmdsT 0).1 h) W
  have hc := MapKept.run_checkKey (P := Tryz.prog) (w := W) Tryz.underlying9 (k := .string k) (by trivial) (mapT 7).isEmpty 9999
  have hc : (Instr.checkKey (mapT 7).isEmpty 10000 9 (.string k)).run Tryz.prog W = .ok () W := hc
  have hz : (zeroValue 82).run Tryz.prog W = .ok (.agg #[.string ⟨#[]⟩, .nilFunc]) W := by kernel_rfl
  generalize mapT 7 = es at hM hf hc
  simp only [Instr.lookup, Sem.run_bind, run_underlying Tryz.underlying48, Result.andThen_ok, MapKept.run_getObj_map hM, Sem.run_pure, hc, hf, hz, if_true]
theorem look_some (W : World) (bm : Nat) (k : ByteArray) (c : List UInt8 × List UInt8 × Nat) (hM : W.heap[bm]? = some (.map (mapT 7) 7)) (h : cmdsT.find? (fun c => c.1 == k.data.toList) = some c) :
    (Instr.lookup 48 (.map (some bm)) (.string k) true).run Tryz.prog W = .ok (.tuple #[cmdV c, .bool true]) W := by
  obtain ⟨j, hj⟩ := (find_ents k cmdsT 0).2 c h
  have hf := run_find (mapT 7).toList k _ hj W
  have hc := MapKept.run_checkKey (P := Tryz.prog) (w := W) Tryz.underlying9 (k := .string k) (by trivial) (mapT 7).isEmpty 9999
  have hc : (Instr.checkKey (mapT 7).isEmpty 10000 9 (.string k)).run Tryz.prog W = .ok () W := hc
  generalize mapT 7 = es at hM hf hc
  simp only [Instr.lookup, Sem.run_bind, run_underlying Tryz.underlying48, Result.andThen_ok, MapKept.run_getObj_map hM, Sem.run_pure, hc, hf, if_true]

/-! ### what reading gives -/
theorem unhexGo_len : ∀ (n : Nat) (l x : List UInt8), l.length ≤ n → unhexGo l = some x → x.length ≤ l.length
  | _, [], x, _, h => by cases h; simp
  | _, [_], x, _, h => by cases h
  | 0, _ :: _ :: _, x, hn, h => by simp at hn
  | n + 1, a :: b :: r, x, hn, h => by
    unfold unhexGo at h
    split at h
    · cases hr : unhexGo r with
      | none => rw [hr] at h; cases h
      | some t =>
        rw [hr] at h
        cases h
        have := unhexGo_len n r t (by simp at hn; omega) hr
        simp only [List.length_cons]
        omega
    · cases h
theorem unhexL_len (l x : List UInt8) (h : unhexL l = some x) : x.length ≤ l.length := by
  unfold unhexL at h
  split at h
  · cases h; simp
  · split at h
    · cases h
    · exact unhexGo_len l.length l x (Nat.le_refl _) h
/-- What is read: as many numbers and bytes as kinds, small ones. -/
theorem readL_facts : ∀ (K : List UInt8) (W : List (List UInt8)) (r : List Int × List (List UInt8)), readL K W = some r → (∀ l ∈ W, l.length ≤ 100000) →
    r.1.length = (K.filter (· == 110)).length ∧ r.2.length = (K.filter (fun k => !(k == 110))).length ∧ (∀ x ∈ r.1, -10000000000 < x ∧ x < 10000000000) ∧ ∀ b ∈ r.2, b.length ≤ 100000
  | [], [], r, h, _ => by cases h; simp
  | [], _ :: _, r, h, _ => by cases h
  | _ :: _, [], r, h, _ => by cases h
  | k :: K, w :: W, r, h, hW => by
    unfold readL at h
    split at h
    · rename_i hk
      cases hx : numberL w with
      | none => rw [hx] at h; cases h
      | some x =>
        rw [hx] at h
        cases hr : readL K W with
        | none => rw [hr] at h; cases h
        | some r1 =>
          rw [hr] at h
          cases h
          obtain ⟨a1, a2, a3, a4⟩ := readL_facts K W r1 hr (fun l hl => hW l (List.mem_cons_of_mem _ hl))
          have hb := (atoi_number w x hx).2
          subst hk
          refine ⟨by simp [a1], by simp [a2], ?_, a4⟩
          intro y hy
          rcases List.mem_cons.1 hy with rfl | hy
          · exact hb
          · exact a3 y hy
    · rename_i hk
      have hk' : (k == 110) = false := beq_eq_false_iff_ne.2 hk
      cases hx : unhexL w with
      | none => rw [hx] at h; cases h
      | some x =>
        rw [hx] at h
        cases hr : readL K W with
        | none => rw [hr] at h; cases h
        | some r1 =>
          rw [hr] at h
          cases h
          obtain ⟨a1, a2, a3, a4⟩ := readL_facts K W r1 hr (fun l hl => hW l (List.mem_cons_of_mem _ hl))
          have hb := unhexL_len w x hx
          have hw := hW w (by simp)
          refine ⟨by simp [a1, hk'], by simp [a2, hk'], a3, ?_⟩
          intro y hy
          rcases List.mem_cons.1 hy with rfl | hy
          · omega
          · exact a4 y hy
theorem two_of {α : Type} {l : List α} (h : l.length = 2) : ∃ a b, l = [a, b] := by
  match l, h with
  | [a, b], _ => exact ⟨a, b, rfl⟩
theorem one_of {α : Type} {l : List α} (h : l.length = 1) : ∃ a, l = [a] := by
  match l, h with
  | [a], _ => exact ⟨a, rfl⟩
theorem four_of {α : Type} {l : List α} (h : l.length = 4) : ∃ a b c d, l = [a, b, c, d] := by
  match l, h with
  | [a, b, c, d], _ => exact ⟨a, b, c, d, rfl⟩
theorem tell_any (c : List UInt8 × List UInt8 × Nat) (hc : c ∈ cmdsT) (W : List (List UInt8)) (hW : ∀ l ∈ W, l.length ≤ 100000) (r : List Int × List (List UInt8)) (hr : readL c.2.1 W = some r) (g : Nat) (w : World) (hA : ArgsAt w g r.1 r.2) (hT : TabW w) :
    Calls Tryz.prog (fnT c.2.2) #[.pointer (some ⟨g, 0, none⟩)] w (TellPost c.2.2 r.1 r.2 w) := by
  obtain ⟨ns, bs⟩ := r
  obtain ⟨h1, h2, h3, h4⟩ := readL_facts _ _ _ hr hW
  dsimp only at h1 h2 h3 h4 hA ⊢
  simp only [cmdsT, List.mem_cons, List.not_mem_nil, or_false] at hc
  rcases hc with rfl | rfl | rfl | rfl | rfl | rfl | rfl
  · obtain rfl := List.eq_nil_of_length_eq_zero h1
    obtain ⟨b, rfl⟩ := one_of h2
    exact sum_any g [] b w (by have := h4 b (by simp); omega) hA hT
  · obtain ⟨p, rfl⟩ := one_of h1
    obtain ⟨b, rfl⟩ := one_of h2
    exact frame_any g p b w (by have := h4 b (by simp); omega) hA hT
  · obtain rfl := List.eq_nil_of_length_eq_zero h1
    obtain ⟨b, rfl⟩ := one_of h2
    exact unframe_any g [] b w (by have := h4 b (by simp); omega) hA hT
  · obtain ⟨p, q, rfl⟩ := two_of h1
    exact fsmt_any g p q bs w hA hT
  · obtain rfl := List.eq_nil_of_length_eq_zero h1
    obtain ⟨b, rfl⟩ := one_of h2
    exact md5t_any g [] b w (by have := h4 b (by simp); omega) hA hT
  · obtain ⟨p, q, s, t, rfl⟩ := four_of h1
    exact delayt_any g p q s t bs w (by have := h3 t (by simp); omega) hA hT
  · obtain ⟨p, q, s, t, rfl⟩ := four_of h1
    exact target_any g p q s t bs w (by have := h3 p (by simp); omega) hA hT
theorem tell_code (t : Nat) (ns : List Int) (bs : List (List UInt8)) : 0 ≤ (tellL t ns bs).2 ∧ (tellL t ns bs).2 ≤ 10000 := by
  unfold tellL
  split
  · simp
  · dsimp only
    unfold frameL
    split
    · split <;> simp
    · simp
  · dsimp only
    unfold unframeL
    split
    · simp
    · split
      · simp
      · unfold decodeL
        split
        · split
          · split <;> simp
          · simp
        · simp
  · dsimp only
    unfold stepP
    split
    · unfold cellP
      split <;> simp
    · simp
  · simp
  · dsimp only
    unfold delayL
    split <;> simp
  · split <;> simp
theorem flat_len (l : List Int) : (l.flatMap fun x => 32 :: itoaL x).length ≤ 22 * l.length := by
  induction l with
  | nil => simp
  | cons a l ih =>
    have := itoaL_length a
    simp only [List.flatMap_cons, List.length_append, List.length_cons]
    omega
theorem tell_len (t : Nat) (ns : List Int) (bs : List (List UInt8)) (hb : ∀ b ∈ bs, b.length ≤ 100000) : (tellL t ns bs).1.length ≤ 400000 := by
  have h0 : (bs.getD 0 []).length ≤ 100000 := by
    cases bs with
    | nil => simp
    | cons b bs => exact hb b (by simp)
  unfold tellL
  split
  · have := itoaL_length (fcsL (bs.getD 0 []))
    dsimp only
    omega
  · have h1 := frameL_len (ns.getD 0 0) (bs.getD 0 [])
    have h2 := hexL_len (frameL (ns.getD 0 0) (bs.getD 0 []) 0).1
    dsimp only
    omega
  · have h1 := (unframeL_bd (bs.getD 0 [])).2.2
    have h2 := hexL_len (unframeL (bs.getD 0 [])).2.1
    have h3 := itoaL_length (unframeL (bs.getD 0 [])).1
    dsimp only
    unfold unframeT
    rw [List.length_append, List.length_cons]
    omega
  · have h1 := (stepP_bd (ns.getD 0 0) (ns.getD 1 0)).2.1
    have h2 := itoaL_length (stepP (ns.getD 0 0) (ns.getD 1 0)).1
    have h3 := flat_len (stepP (ns.getD 0 0) (ns.getD 1 0)).2.1
    dsimp only
    unfold Go.Proofs.Wy.stepT
    rw [List.length_append]
    omega
  · have h1 := hexL_len (md5L (bs.getD 0 []))
    have h2 := md5L_length (bs.getD 0 [])
    dsimp only
    omega
  · have := itoaL_length (delayL (ns.getD 0 0) (ns.getD 1 0) (ns.getD 2 0) (ns.getD 3 0)).1
    dsimp only
    omega
  · split
    · have := itoaL_length (targetL (ns.getD 0 0) (ns.getD 1 0) (ns.getD 2 0) (ns.getD 3 0)).1
      dsimp only
      omega
    · simp
theorem errL_len (e : Int) : (errL e).length ≤ 28 := by
  have := itoaL_length e
  unfold errL
  rw [List.length_append]
  simp only [List.length_cons, List.length_nil]
  omega
theorem lineL_len (w : List UInt8) (ws : List (List UInt8)) (hW : ∀ l ∈ ws, l.length ≤ 100000) : (lineL w ws).length ≤ 400000 := by
  unfold lineL
  split
  · have := errL_len 2800
    omega
  · unfold cmdL
    split
    · have := errL_len 2800
      omega
    · rename_i r hr
      split
      · exact tell_len _ _ _ (readL_facts _ _ _ hr hW).2.2.2
      · rename_i c _ _ _
        have := errL_len (tellL c.2.2 r.1 r.2).2
        omega
end Go.Proofs.YtlpibobpfafooaaGreatDoor.H
/-
  Contract at this seat: what a line tells (the walk).
-/
set_option linter.unusedVariables false
set_option linter.unusedSimpArgs false
namespace Go.Proofs.YtlpibobpfafooaaGreatDoor.H
open Go.RowKit Go.Proofs.Wy Go.Proofs.YtlpibobpfafooaaGreatDoorW.PrintWords

section
variable {P : Program} {w : World} (a : Addr) (m : Mode)
theorem run_store_func (f : Fn) (c : Array Value) (b : Array Value) : (store a (.func f c b) m).run P w = stored P w a (.func f c b) m := run_store P w a _ m rfl
theorem run_store_nilFunc : (store a .nilFunc m).run P w = stored P w a .nilFunc m := run_store P w a _ m rfl
end
attribute [local go_sem] run_store_func run_store_nilFunc
def errP : ByteArray := ⟨#[101, 114, 114, 111, 114, 32]⟩
theorem errP_add (n : Int) (w0 : World) : (Op.stringOp .add ⟨#[101, 114, 114, 111, 114, 32]⟩ ⟨(itoaL n).toArray⟩).run Tryz.prog w0 = .ok (.string ⟨(errL n).toArray⟩) w0 := by
  have h := run_string_add_sum (P := Tryz.prog) w0 ⟨#[101, 114, 114, 111, 114, 32]⟩ ⟨(itoaL n).toArray⟩ (by have z1 := size_lit (itoaL n); have z2 := itoaL_length n; have z3 : (⟨#[101, 114, 114, 111, 114, 32]⟩ : ByteArray).size = 6 := rfl; omega)
  have e : ((⟨#[101, 114, 114, 111, 114, 32]⟩ : ByteArray) ++ ⟨(itoaL n).toArray⟩) = ⟨(errL n).toArray⟩ := by
    apply ByteArray.ext
    simp [ByteArray.data_append, errL]
  rw [e] at h
  exact h
def LinePost (k : List UInt8) (W : List (List UInt8)) (w : World) (e : Ending) (w' : World) : Prop := e = .returned (.string ⟨(lineL k W).toArray⟩) ∧ Below w.heap.size w w'
theorem line_none {k : List UInt8} {W : List (List UInt8)} {w w' : World} (h : cmdsT.find? (fun c => c.1 == k) = none) (hb : Below w.heap.size w w') : LinePost k W w (.returned (.string ⟨(errL 2800).toArray⟩)) w' := ⟨by unfold lineL; rw [h], hb⟩
theorem line_read {k : List UInt8} {W : List (List UInt8)} {c : List UInt8 × List UInt8 × Nat} {w w' : World} (h : cmdsT.find? (fun c => c.1 == k) = some c) (hr : readL c.2.1 W = none) (hb : Below w.heap.size w w') : LinePost k W w (.returned (.string ⟨(errL 2800).toArray⟩)) w' := ⟨by unfold lineL cmdL; rw [h]; dsimp only; rw [hr], hb⟩
theorem line_code {k : List UInt8} {W : List (List UInt8)} {c : List UInt8 × List UInt8 × Nat} {r : List Int × List (List UInt8)} {w w' : World} (h : cmdsT.find? (fun c => c.1 == k) = some c) (hr : readL c.2.1 W = some r) (he : ¬ (tellL c.2.2 r.1 r.2).2 = 0) (hb : Below w.heap.size w w') : LinePost k W w (.returned (.string ⟨(errL (tellL c.2.2 r.1 r.2).2).toArray⟩)) w' := ⟨by unfold lineL cmdL; rw [h]; dsimp only; rw [hr]; dsimp only; rw [if_neg he], hb⟩
theorem line_tell {k : List UInt8} {W : List (List UInt8)} {c : List UInt8 × List UInt8 × Nat} {r : List Int × List (List UInt8)} {w w' : World} (h : cmdsT.find? (fun c => c.1 == k) = some c) (hr : readL c.2.1 W = some r) (he : (tellL c.2.2 r.1 r.2).2 = 0) (hb : Below w.heap.size w w') : LinePost k W w (.returned (.string ⟨(tellL c.2.2 r.1 r.2).1.toArray⟩)) w' := ⟨by unfold lineL cmdL; rw [h]; dsimp only; rw [hr]; dsimp only; rw [if_pos he], hb⟩
theorem map_below {w w' : World} {bm : Nat} {o : Obj} (h : w.heap[bm]? = some o) (hb : Below w.heap.size w w') : w'.heap[bm]? = some o := (hb.block bm (blk_lt h)).trans h

theorem cmd_len (c : List UInt8 × List UInt8 × Nat) (h : c ∈ cmdsT) : 1 ≤ c.2.1.length ∧ c.2.1.length ≤ 4 := by
  simp only [cmdsT, List.mem_cons, List.not_mem_nil, or_false] at h
  rcases h with rfl | rfl | rfl | rfl | rfl | rfl | rfl <;> exact ⟨by decide, by decide⟩
theorem read_none (kb : ByteArray) (K : List UInt8) (hkb : kb.data.toList = K) (h1 : 1 ≤ K.length) (A : Option Addr) (c : Nat) (w : World) :
    Calls Tryz.prog 51 #[.string kb, .slice A 0 c] w (ReadPost K [] w) := by
  subst hkb
  refine read_len kb A 0 c [] w rfl ?_
  rw [Array.length_toList] at h1
  show 0 ≠ kb.data.size
  omega
theorem read_some (kb : ByteArray) (K : List UInt8) (hkb : kb.data.toList = K) (h1 : K.length ≤ 4) (W : List (List UInt8)) (hW : ∀ l ∈ W, l.length ≤ 100000) (h c : Nat) (w : World)
    (hc : ∀ i l, W[i]? = some l → w.cell? ⟨h, 1 + i, none⟩ = some (.string ⟨l.toArray⟩)) :
    Calls Tryz.prog 51 #[.string kb, .slice (some ⟨h, 1, none⟩) W.length c] w (ReadPost K W w) := by
  subst hkb
  have e : kb.data.toList.length = kb.size := Array.length_toList
  by_cases hn : W.length = kb.size
  · exact read_eq kb h 1 c W w hn (by omega) hW hc
  · exact read_len kb _ _ c W w rfl hn

theorem slice_one (h m : Nat) (wx : World) : (Instr.slice 23 (.slice (some ⟨h, 0, none⟩) (m + 1 + 1) (m + 1 + 1)) (some (.int .i64 1)) none none).run Tryz.prog wx = .ok (.slice (some ⟨h, 1, none⟩) (m + 1) (m + 1)) wx := by
  have h1 : ((0 : Int) ≤ 1 ∧ (1 : Int) ≤ ((m + 1 + 1 : Nat) : Int)) := by omega
  have h2 : ¬ (m + 1 + 1 = 1) := by omega
  have h3 : (Instr.sliceBound (.int .i64 1) (m + 1 + 1) .sliceB).run Tryz.prog wx = .ok 1 wx := by
    unfold Instr.sliceBound
    simp only [asIntOf, Sem.run_bind, Sem.run_pure, Result.andThen_ok, if_pos h1]
    rfl
  unfold Instr.slice
  simp only [Sem.run_bind, run_underlying Tryz.underlying23, Result.andThen_ok, Instr.sliceBounds, Sem.run_pure, Option.isSome_none, Bool.false_eq_true, if_false, h3, Tryz.sizeOf9, if_neg h2]
  rfl
theorem callee_holds (t : Nat) : ∀ args w, (callFunc (fnT t) args).run Tryz.prog w = .ok (.enter (fnT t) args) w := by
  unfold fnT
  split
  · exact enters_of Tryz.func41 (by kernel_rfl) rfl
  · exact enters_of Tryz.func42 (by kernel_rfl) rfl
  · exact enters_of Tryz.func43 (by kernel_rfl) rfl
  · exact enters_of Tryz.func44 (by kernel_rfl) rfl
  · exact enters_of Tryz.func45 (by kernel_rfl) rfl
  · exact enters_of Tryz.func46 (by kernel_rfl) rfl
  · exact enters_of Tryz.func47 (by kernel_rfl) rfl
set_option maxHeartbeats 4000000 in
theorem line_any (bm : Nat) (k : ByteArray) (rest : List (List UInt8)) (h : Nat) (w : World) (hk : k.size ≤ 100000) (hn : rest.length ≤ 100000) (hW : ∀ l ∈ rest, l.length ≤ 100000) (hM : w.heap[bm]? = some (.map (mapT 7) 7))
    (h0 : w.cell? ⟨h, 0, none⟩ = some (.string k)) (hc : ∀ i l, rest[i]? = some l → w.cell? ⟨h, 1 + i, none⟩ = some (.string ⟨l.toArray⟩)) (hT : TabW w) :
    Calls Tryz.prog 29 #[.map (some bm), .slice (some ⟨h, 0, none⟩) (rest.length + 1) (rest.length + 1)] w (LinePost k.data.toList rest w) := by
  have hI := fun w0 hT0 => itoa_any 2800 w0 (by decide) (by decide) hT0
  have hA := errP_add 2800
  have hE : (⟨(errL 2800).toArray⟩ : ByteArray) = ⟨(errL 2800).toArray⟩ := rfl
  generalize (⟨(itoaL 2800).toArray⟩ : ByteArray) = s1 at hI hA
  have HLN : ∀ w', cmdsT.find? (fun c => c.1 == k.data.toList) = none → Below w.heap.size w w' → LinePost k.data.toList rest w (.returned (.string ⟨(errL 2800).toArray⟩)) w' := fun w' h1 h2 => line_none h1 h2
  have HLR : ∀ c w', cmdsT.find? (fun c => c.1 == k.data.toList) = some c → readL c.2.1 rest = none → Below w.heap.size w w' → LinePost k.data.toList rest w (.returned (.string ⟨(errL 2800).toArray⟩)) w' := fun c w' h1 h2 h3 => line_read h1 h2 h3
  generalize (⟨(errL 2800).toArray⟩ : ByteArray) = s2 at hA HLN HLR
  have HI := Lib.hid hI
  have HT := Lib.hid hT
  have HM := Lib.hid hM
  have HC := Lib.hid hc
  have HN := Lib.hid HLN
  have HR := Lib.hid HLR
  have HW := Lib.hid hW
  have H0 := Lib.hid h0
  clear hI hT hM hc HLN HLR hW hE h0
  go_enter Tryz.func29, Tryz.ntmps29
  go_wp2_with fail
  ((with_reducible refine (HI.out _ HT.out).mono ?_); rintro e w1 ⟨rfl, hb1⟩)
  have HB1 := Lib.hid hb1
  clear hb1
  have m0 := pw_cell_below HB1.out H0.out
  have HM1 := Lib.hid (map_below HM.out HB1.out)
  cases hf : cmdsT.find? (fun c => c.1 == k.data.toList) with
  | none =>
    have hlk := look_none w1 bm k HM1.out hf
    have HF := Lib.hid hf
    clear hf
    go_wp2_with fail
    go_ret
    exact HN.out _ HF.out (HB1.out.alloc HB1.out.size _)
  | some c =>
    have hlk : (Instr.lookup 48 (.map (some bm)) (.string k) true).run Tryz.prog w1 = .ok (.tuple #[.agg #[.string ⟨c.2.1.toArray⟩, .func (.func (fnT c.2.2)) #[] #[]], .bool true]) w1 := look_some w1 bm k c HM1.out hf
    have HF := Lib.hid hf
    have hkb : (⟨c.2.1.toArray⟩ : ByteArray).data.toList = c.2.1 := rfl
    generalize (⟨c.2.1.toArray⟩ : ByteArray) = kb at hlk hkb
    have hfd : fnT c.2.2 = fnT c.2.2 := rfl
    generalize hfn : fnT c.2.2 = fd at hlk
    have HFn := Lib.hid hfn
    clear hf hfd hfn
    have hmem := List.mem_of_find?_eq_some HF.out
    obtain ⟨hk1, hk2⟩ := cmd_len c hmem
    go_wp2_with fail
    have HB2 : Hid (Below w.heap.size w (w1.alloc (.cells #[.string kb, .func (.func fd) #[] #[]] 82))) := Lib.hid (HB1.out.alloc HB1.out.size _)
    have HK : Hid ((w1.alloc (.cells #[.string kb, .func (.func fd) #[] #[]] 82)).drew.cell? ⟨w1.heap.size, 0, none⟩ = some (.string kb)) := Lib.hid ((blk_cell (blk_drew (blk_new w1 _)) 0).trans rfl)
    have HK1 : Hid ((w1.alloc (.cells #[.string kb, .func (.func fd) #[] #[]] 82)).heap[w1.heap.size]? = some (.cells #[.string kb, .func (.func fd) #[] #[]] 82 (0, 0))) := Lib.hid (blk_new w1 _)
    generalize hg1 : w1.heap.size = g1 at HK HK1 ⊢
    generalize (w1.alloc (.cells #[.string kb, .func (.func fd) #[] #[]] 82)) = w2 at HB2 HK HK1 ⊢
    have HB2d : Hid (Below w.heap.size w w2.drew) := Lib.hid (below_drew1 HB2.out)
    have HK1d : Hid (w2.drew.heap[g1]? = some (.cells #[.string kb, .func (.func fd) #[] #[]] 82 (0, 0))) := Lib.hid (blk_drew HK1.out)
    have HCz : Hid (∀ i l, rest[i]? = some l → w2.drew.cell? ⟨h, 1 + i, none⟩ = some (.string ⟨l.toArray⟩)) := Lib.hid (fun i l hl => pw_cell_below HB2d.out (HC.out i l hl))
    clear HC H0 HM HM1 m0 HI hg1 HK1 HB2
    by_cases hz : rest = []
    · subst hz
      have HRd := Lib.hid (fun A c2 w0 => read_none kb c.2.1 hkb hk1 A c2 w0)
      have hN : readL c.2.1 [] = none := readL_len _ _ (by simp only [List.length_nil]; omega)
      have HF1 := Lib.hid (fun w' => HR.out c w' HF.out hN)
      clear hkb hk1 hk2 hlk HCz HR HN HW hn
      simp only [List.length_nil, Nat.zero_add]
      go_region_held3 (fun w' => w'.cell? ⟨g1, 0, none⟩ = some (.string kb)) (first | (with_reducible exact HK.out) | (with_reducible exact pw_cell_below hb1.out HK.out)) ((go_at_call 51; (with_reducible refine (HRd.out _ _ _).mono ?_); rintro e w3 ⟨gA, rfl, _, hb1_⟩; have hb1 := Lib.hid hb1_; clear hb1_))
      go_wp2_with fail
      go_ret
      exact HF1.out _ (HB2d.out.trans (hb1.out.mono HB2d.out.size))
    · obtain ⟨m, hm⟩ : ∃ m, rest.length = m + 1 := by
        rcases rest with _ | ⟨a, b⟩
        · exact absurd rfl hz
        · exact ⟨b.length, rfl⟩
      have HRd := Lib.hid (fun c2 w0 hw0 => read_some kb c.2.1 hkb hk2 rest HW.out h c2 w0 hw0)
      have HMem := Lib.hid hmem
      rw [hm] at HRd hn ⊢
      have hsl := slice_one h m
      clear hkb hk1 hk2 hlk hz hmem hm
      cases hx : readL c.2.1 rest with
      | none =>
        have HRd2 : Hid (∀ c2 w0, (∀ i l, rest[i]? = some l → w0.cell? ⟨h, 1 + i, none⟩ = some (.string ⟨l.toArray⟩)) → Calls Tryz.prog 51 #[.string kb, .slice (some ⟨h, 1, none⟩) (m + 1) c2] w0 fun e w' => ∃ g : Nat, e = .returned (.tuple #[.pointer (some ⟨g, 0, none⟩), .bool false]) ∧ Below w0.heap.size w0 w') := Lib.hid (fun c2 w0 hw0 => (HRd.out c2 w0 hw0).mono fun e w' ⟨g, h1, _, h3⟩ => ⟨g, by rw [hx] at h1; exact h1, h3⟩)
        have HF1 := Lib.hid (fun w' => HR.out c w' HF.out hx)
        clear HR HN HW HRd hx HMem
        go_region_held3 (fun w' => w'.cell? ⟨g1, 0, none⟩ = some (.string kb)) (first | (with_reducible exact HK.out) | (with_reducible exact pw_cell_below hb1.out HK.out)) ((go_at_call 51; (with_reducible refine (HRd2.out _ _ HCz.out).mono ?_); rintro e w3 ⟨gA, rfl, hb1_⟩; have hb1 := Lib.hid hb1_; clear hb1_))
        go_wp2_with fail
        go_ret
        exact HF1.out _ (HB2d.out.trans (hb1.out.mono HB2d.out.size))
      | some r =>
        have HRd2 : Hid (∀ c2 w0, (∀ i l, rest[i]? = some l → w0.cell? ⟨h, 1 + i, none⟩ = some (.string ⟨l.toArray⟩)) → Calls Tryz.prog 51 #[.string kb, .slice (some ⟨h, 1, none⟩) (m + 1) c2] w0 fun e w' => ∃ g : Nat, e = .returned (.tuple #[.pointer (some ⟨g, 0, none⟩), .bool true]) ∧ ArgsAt w' g r.1 r.2 ∧ Below w0.heap.size w0 w') := Lib.hid (fun c2 w0 hw0 => (HRd.out c2 w0 hw0).mono fun e w' ⟨g, h1, h2, h3⟩ => ⟨g, by rw [hx] at h1; exact h1, h2 _ hx, h3⟩)
        have HTl := Lib.hid (fun g w0 hA hT => tell_any c HMem.out rest HW.out r hx g w0 hA hT)
        have HF1 := Lib.hid (fun w' he hb => line_tell (w := w) (w' := w') HF.out hx he hb)
        have HF2 := Lib.hid (fun w' he hb => line_code (w := w) (w' := w') HF.out hx he hb)
        have hcd := tell_code c.2.2 r.1 r.2
        unfold TellPost at HTl
        generalize (⟨(tellL c.2.2 r.1 r.2).1.toArray⟩ : ByteArray) = tx at HTl HF1
        generalize (tellL c.2.2 r.1 r.2).2 = er at HTl HF1 HF2 hcd
        have HI := Lib.hid (fun w0 hT0 => itoa_any er w0 (by omega) (by omega) hT0)
        have hA2 := errP_add er
        have HHo := Lib.hid (callee_holds c.2.2)
        rw [HFn.out] at HTl HHo
        generalize (⟨(errL er).toArray⟩ : ByteArray) = ty at hA2 HF2
        generalize (⟨(itoaL er).toArray⟩ : ByteArray) = tz at hA2 HI
        clear HR HN HW HRd hx HMem HF HFn
        go_region_held3 (fun w' => w'.cell? ⟨g1, 0, none⟩ = some (.string kb)) (first | (with_reducible exact HK.out) | (with_reducible exact pw_cell_below hb1.out HK.out)) ((go_at_call 51; (with_reducible refine (HRd2.out _ _ HCz.out).mono ?_); rintro e w3 ⟨gA, rfl, hAr_, hb1_⟩; have hb1 := Lib.hid hb1_; have hAr := Lib.hid hAr_; clear hb1_ hAr_))
        have HB3 := Lib.hid (HB2d.out.trans (hb1.out.mono HB2d.out.size))
        have k1 : w3.cell? ⟨g1, 1, none⟩ = some (.func (.func fd) #[] #[]) := (blk_cell (map_below HK1d.out hb1.out) 1).trans rfl
        have eg := HHo.out
        have HAr := Lib.hid hAr.out
        have hT3 := Lib.hid (HT.out.later HB3.out)
        clear hAr HRd2 HCz HB2d HK1d HK hsl
        by_cases he : er = 0
        · have b1 : (er != 0) = false := by rw [bne_eq_false_iff_eq]; exact he
          have HX := Lib.hid (fun w' hb => HF1.out w' he hb)
          clear HI hA2 HF1 HF2 he hcd
          go_wp2_with fail
          ((with_reducible refine (HTl.out _ _ HAr.out hT3.out).mono ?_); rintro e w4 ⟨rfl, hb4⟩)
          have HB4 := Lib.hid (HB3.out.trans (hb4.mono HB3.out.size))
          clear hb4
          go_wp2_with fail
          go_ret
          exact HX.out _ HB4.out
        · have b1 : (er != 0) = true := by rw [bne_iff_ne]; exact he
          have HX := Lib.hid (fun w' hb => HF2.out w' he hb)
          clear HF1 HF2 he hcd
          go_wp2_with fail
          ((with_reducible refine (HTl.out _ _ HAr.out hT3.out).mono ?_); rintro e w4 ⟨rfl, hb4⟩)
          have HB4 := Lib.hid (HB3.out.trans (hb4.mono HB3.out.size))
          clear hb4
          go_wp2_with fail
          ((with_reducible refine (HI.out _ (HT.out.later HB4.out)).mono ?_); rintro e w5 ⟨rfl, hb5⟩)
          have HB5 := Lib.hid (HB4.out.trans (hb5.mono HB4.out.size))
          clear hb5
          go_wp2_with fail
          go_ret
          exact HX.out _ HB5.out
end Go.Proofs.YtlpibobpfafooaaGreatDoor.H
