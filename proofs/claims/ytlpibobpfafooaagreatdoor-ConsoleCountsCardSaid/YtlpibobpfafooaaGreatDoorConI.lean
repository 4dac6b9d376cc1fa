/-
  Contracts at this seat: what the console's commands tell (sums, digests, frames).
-/
import Derived.Test.YtlpibobpfafooaaGreatDoorConE
import Derived.Test.YtlpibobpfafooaaGreatDoorQb
import Derived.Test.YtlpibobpfafooaaGreatDoorMdE
import Derived.Test.YtlpibobpfafooaaGreatDoorHdC
set_option linter.unusedVariables false
set_option linter.unusedSimpArgs false
namespace Go.Proofs.YtlpibobpfafooaaGreatDoor.H
open Go.RowKit Go.Proofs.Wy Go.Proofs.YtlpibobpfafooaaGreatDoorW.PrintWords

theorem TabW.later {w w1 : World} (h : TabW w) (hb : Below w.heap.size w w1) : TabW w1 :=
  Joins.var_stays (g := 3) (by kernel_rfl) h hb (Nat.le_refl _)
/-- A slice that reads as xs. -/
def RowAt (w : World) (v : Value) (xs : List Value) : Prop := xs = [] ∨ ∃ h cap, v = .slice (some ⟨h, 0, none⟩) xs.length cap ∧ xs.length ≤ cap ∧ ∀ i x, xs[i]? = some x → w.cell? ⟨h, i, none⟩ = some x
theorem RowAt.own {w : World} {v : Value} {B e : Nat} {xs : List Value} (h : w.ownsRow B e 1 v xs.length xs) : RowAt w v xs := by
  rcases h.2 with ⟨rfl, hn⟩ | ⟨g, cap, cur, rfl, hb, hg, hfr, hl, rest⟩
  · exact .inl (List.eq_nil_of_length_eq_zero hn)
  · refine .inr ⟨g, cap, rfl, hfr, fun i x hx => ?_⟩
    have hc := h.cells (g := g) rfl i x hx
    have ha : (⟨g, 0, none⟩ : Addr).add i = ⟨g, i, none⟩ := by unfold Addr.add; split <;> simp_all
    rwa [ha] at hc
theorem RowAt.below {w w1 : World} {v : Value} {xs : List Value} (h : RowAt w v xs) (hb : Below w.heap.size w w1) : RowAt w1 v xs := by
  rcases h with h | ⟨g, cap, hv, hl, hc⟩
  · exact .inl h
  · exact .inr ⟨g, cap, hv, hl, fun i x hx => pw_cell_below hb (hc i x hx)⟩
def ints (ns : List Int) : List Value := ns.map fun x => Value.int .i64 x
def strv (bs : List (List UInt8)) : List Value := bs.map fun b => Value.string ⟨b.toArray⟩
/-- Block g holds a line's numbers and bytes. -/
def ArgsAt (w : World) (g : Nat) (ns : List Int) (bs : List (List UInt8)) : Prop :=
  ∃ vn vb, w.heap[g]? = some (.cells #[vn, vb] 97 (0, 0)) ∧ RowAt w vn (ints ns) ∧ RowAt w vb (strv bs)
def TellPost (t : Nat) (ns : List Int) (bs : List (List UInt8)) (w : World) (e : Ending) (w' : World) : Prop := e = .returned (.tuple #[.string ⟨(tellL t ns bs).1.toArray⟩, .int .i64 (tellL t ns bs).2]) ∧ Below w.heap.size w w'
/-- The first of the bytes: its cells. -/
theorem ArgsAt.str {w : World} {g : Nat} {ns : List Int} {b : List UInt8} {bs : List (List UInt8)} (h : ArgsAt w g ns (b :: bs)) :
    ∃ gb cap, w.cell? ⟨g, 1, none⟩ = some (.slice (some ⟨gb, 0, none⟩) (bs.length + 1) cap) ∧ w.cell? ⟨gb, 0, none⟩ = some (.string ⟨b.toArray⟩) := by
  obtain ⟨vn, vb, hg, _, hb⟩ := h
  rcases hb with hb | ⟨gb, cap, rfl, _, hc⟩
  · simp [strv] at hb
  · refine ⟨gb, cap, ?_, hc 0 _ (by simp [strv])⟩
    rw [blk_cell hg 1]
    simp [strv]
theorem fcs_bd (l : List UInt8) : -9223372036854775808 ≤ ((fcsL l : Nat) : Int) ∧ ((fcsL l : Nat) : Int) ≤ 9223372036854775807 := by have := fcsL_lt l; omega

set_option maxHeartbeats 400000 in
theorem sum_any (g : Nat) (ns : List Int) (b : List UInt8) (w : World) (hb : b.length ≤ 200000) (hA : ArgsAt w g ns [b]) (hT : TabW w) :
    Calls Tryz.prog 41 #[.pointer (some ⟨g, 0, none⟩)] w (TellPost 0 ns [b] w) := by
  obtain ⟨gb, cap, c1, c2⟩ := hA.str
  have hF := fun w0 => H0.of_any ⟨b.toArray⟩ w0 (by rw [size_lit]; omega)
  obtain ⟨f1, f2⟩ := fcs_bd b
  have hI := fun w0 hT0 => itoa_any ((fcsL b : Nat) : Int) w0 f1 f2 hT0
  have HF := Lib.hid hF
  have HI := Lib.hid hI
  have HT := Lib.hid hT
  have hc : ((([b].length : Nat)) : Int) = 1 := rfl
  clear hF hI hT hA f1 f2 hb
  simp only [List.length_nil, Nat.zero_add] at c1
  go_enter Tryz.func41, Tryz.ntmps41
  go_wp2_with fail
  ((with_reducible refine (HF.out _).mono ?_); rintro e w1 ⟨rfl, hb1⟩)
  have HB1 := Lib.hid hb1
  clear hb1
  go_wp2_with fail
  ((with_reducible refine (HI.out _ (HT.out.later HB1.out)).mono ?_); rintro e w2 ⟨rfl, hb2⟩)
  have HB2 := Lib.hid (HB1.out.trans (hb2.mono HB1.out.size))
  clear hb2
  go_wp2_with fail
  go_ret2
  exact ⟨rfl, HB2.out⟩

theorem hexL_len (l : List UInt8) : (hexL l).length ≤ 2 * l.length + 1 := by
  have h : ∀ l : List UInt8, (l.flatMap hexB).length = 2 * l.length := by
    intro l
    induction l with
    | nil => rfl
    | cons b r ih => rw [List.flatMap_cons, List.length_append, ih]; simp [hexB]; omega
  unfold hexL
  split
  · simp
  · rw [h]; omega
set_option maxHeartbeats 400000 in
theorem md5t_any (g : Nat) (ns : List Int) (b : List UInt8) (w : World) (hb : b.length ≤ 200000) (hA : ArgsAt w g ns [b]) (hT : TabW w) :
    Calls Tryz.prog 45 #[.pointer (some ⟨g, 0, none⟩)] w (TellPost 4 ns [b] w) := by
  obtain ⟨gb, cap, c1, c2⟩ := hA.str
  have hF := fun w0 => md5_any ⟨b.toArray⟩ w0 (by rw [size_lit]; omega)
  have hI := fun w0 => hex_any ⟨(md5L b).toArray⟩ w0 (by rw [size_lit, md5L_length]; omega)
  have hF : ∀ w0, Calls Tryz.prog 65 #[.string ⟨b.toArray⟩] w0 fun e w' => e = .returned (.string ⟨(md5L b).toArray⟩) ∧ Below w0.heap.size w0 w' := hF
  have hI : ∀ w0, Calls Tryz.prog 62 #[.string ⟨(md5L b).toArray⟩] w0 fun e w' => e = .returned (.string ⟨(hexL (md5L b)).toArray⟩) ∧ Below w0.heap.size w0 w' := hI
  have HP : Hid (TellPost 4 ns [b] w = fun e w' => e = .returned (.tuple #[.string ⟨(hexL (md5L b)).toArray⟩, .int .i64 0]) ∧ Below w.heap.size w w') := rfl
  generalize (⟨b.toArray⟩ : ByteArray) = x at c2 hF
  generalize (⟨(md5L b).toArray⟩ : ByteArray) = y at hF hI
  have HF := Lib.hid hF
  have HI := Lib.hid hI
  clear hF hI hT hA hb
  simp only [List.length_nil, Nat.zero_add] at c1
  rw [HP.out]
  generalize (⟨(hexL (md5L b)).toArray⟩ : ByteArray) = z at HI ⊢
  go_enter Tryz.func45, Tryz.ntmps45
  go_wp2_with fail
  ((with_reducible refine (HF.out _).mono ?_); rintro e w1 ⟨rfl, hb1⟩)
  have HB1 := Lib.hid hb1
  clear hb1
  go_wp2_with fail
  ((with_reducible refine (HI.out _).mono ?_); rintro e w2 ⟨rfl, hb2⟩)
  have HB2 := Lib.hid (HB1.out.trans (hb2.mono HB1.out.size))
  clear hb2
  go_wp2_with fail
  go_ret2
  exact ⟨rfl, HB2.out⟩
theorem below_drew_then {w w1 : World} (h : Below w.drew.heap.size w.drew w1) : Below w.heap.size w w1 := ⟨h.os, h.tape, h.output, h.size, h.block⟩
/-- The numbers: their cells. -/
theorem ArgsAt.num {w : World} {g : Nat} {x : Int} {ns : List Int} {bs : List (List UInt8)} (h : ArgsAt w g (x :: ns) bs) :
    ∃ gn cap, w.cell? ⟨g, 0, none⟩ = some (.slice (some ⟨gn, 0, none⟩) (ns.length + 1) cap) ∧ ∀ i y, (x :: ns)[i]? = some y → w.cell? ⟨gn, i, none⟩ = some (.int .i64 y) := by
  obtain ⟨vn, vb, hg, hn, _⟩ := h
  rcases hn with hn | ⟨gn, cap, rfl, _, hc⟩
  · simp [ints] at hn
  · refine ⟨gn, cap, ?_, fun i y hy => hc i _ (by unfold ints; rw [List.getElem?_map, hy]; rfl)⟩
    rw [blk_cell hg 0]
    simp [ints]
theorem stuffL_two (l : List UInt8) : (stuffL 0 l).length ≤ 2 * l.length := stuffL_length 0 l
theorem frameL_len (p : Int) (d : List UInt8) : (frameL p d 0).1.length ≤ 5000 := by
  unfold frameL
  split
  · split
    · simp
    · have h := stuffL_length 0 (sumL (headL p ++ d))
      rw [sumL_length] at h
      simp [headL] at h ⊢
      omega
  · simp
set_option maxHeartbeats 1000000 in
theorem frame_any (g : Nat) (p : Int) (b : List UInt8) (w : World) (hb : b.length ≤ 200000) (hA : ArgsAt w g [p] [b]) (hT : TabW w) :
    Calls Tryz.prog 42 #[.pointer (some ⟨g, 0, none⟩)] w (TellPost 1 [p] [b] w) := by
  obtain ⟨gb, cap, c1, c2⟩ := hA.str
  obtain ⟨gn, cap2, d1, hd⟩ := hA.num
  have d2 := hd 0 p rfl
  have hF := fun w0 => SpQ.cput_any p ⟨b.toArray⟩ w0
  have hI := fun w0 => hex_any ⟨(frameL p b 0).1.toArray⟩ w0 (by rw [size_lit]; have := frameL_len p b; omega)
  have hF : ∀ w0, Calls Tryz.prog 61 #[.agg #[.int .i64 p, .string ⟨b.toArray⟩], .int .i64 0] w0 fun e w' => e = .returned (.tuple #[.string ⟨(frameL p b 0).1.toArray⟩, .int .i64 (frameL p b 0).2]) ∧ Below w0.heap.size w0 w' := hF
  have hI : ∀ w0, Calls Tryz.prog 62 #[.string ⟨(frameL p b 0).1.toArray⟩] w0 fun e w' => e = .returned (.string ⟨(hexL (frameL p b 0).1).toArray⟩) ∧ Below w0.heap.size w0 w' := hI
  have HP : Hid (TellPost 1 [p] [b] w = fun e w' => e = .returned (.tuple #[.string ⟨(hexL (frameL p b 0).1).toArray⟩, .int .i64 (frameL p b 0).2]) ∧ Below w.heap.size w w') := rfl
  generalize (⟨b.toArray⟩ : ByteArray) = x at c2 hF
  generalize (⟨(frameL p b 0).1.toArray⟩ : ByteArray) = y at hF hI
  have HF := Lib.hid hF
  have HI := Lib.hid hI
  simp only [List.length_nil, Nat.zero_add] at c1 d1
  clear hF hI hT hA hb hd
  rw [HP.out]
  generalize (⟨(hexL (frameL p b 0).1).toArray⟩ : ByteArray) = z at HI ⊢
  generalize (frameL p b 0).2 = er at HF ⊢
  have HS : Hid (w.cell? ⟨g, 0, none⟩ = some (.slice (some ⟨gn, 0, none⟩) 1 cap2) ∧ w.cell? ⟨gn, 0, none⟩ = some (.int .i64 p) ∧ w.cell? ⟨g, 1, none⟩ = some (.slice (some ⟨gb, 0, none⟩) 1 cap) ∧ w.cell? ⟨gb, 0, none⟩ = some (.string x)) := Lib.hid ⟨d1, d2, c1, c2⟩
  have HD : Hid (w.drew.cell? ⟨g, 0, none⟩ = some (.slice (some ⟨gn, 0, none⟩) 1 cap2) ∧ w.drew.cell? ⟨gn, 0, none⟩ = some (.int .i64 p) ∧ w.drew.cell? ⟨g, 1, none⟩ = some (.slice (some ⟨gb, 0, none⟩) 1 cap) ∧ w.drew.cell? ⟨gb, 0, none⟩ = some (.string x)) := HS
  clear c1 c2 d1 d2
  go_enter Tryz.func42, Tryz.ntmps42
  go_wp2_with fail
  go_region_held3 (fun w' => w'.cell? ⟨g, 0, none⟩ = some (.slice (some ⟨gn, 0, none⟩) 1 cap2) ∧ w'.cell? ⟨gn, 0, none⟩ = some (.int .i64 p) ∧ w'.cell? ⟨g, 1, none⟩ = some (.slice (some ⟨gb, 0, none⟩) 1 cap) ∧ w'.cell? ⟨gb, 0, none⟩ = some (.string x)) (first | (with_reducible exact HD.out) | (with_reducible exact ⟨pw_cell_below hb1.out HD.out.1, pw_cell_below hb1.out HD.out.2.1, pw_cell_below hb1.out HD.out.2.2.1, pw_cell_below hb1.out HD.out.2.2.2⟩)) ((go_at_call 61; (with_reducible refine (HF.out _).mono ?_); rintro e w1 ⟨rfl, hb1_⟩; have hb1 := Lib.hid hb1_; clear hb1_))
  have HB1 : Hid (Below w.heap.size w w1) := Lib.hid (below_drew_then hb1.out)
  clear HS HD HF hb1
  go_wp2_with fail
  ((with_reducible refine (HI.out _).mono ?_); rintro e w2 ⟨rfl, hb2⟩)
  have HB2 := Lib.hid (HB1.out.trans (hb2.mono HB1.out.size))
  clear hb2
  go_wp2_with fail
  go_ret2
  exact ⟨rfl, HB2.out⟩
end Go.Proofs.YtlpibobpfafooaaGreatDoor.H
/-
  Contracts at this seat: what the console's commands tell (frames read, the automaton, delays, targets).
-/
set_option linter.unusedVariables false
set_option linter.unusedSimpArgs false
namespace Go.Proofs.YtlpibobpfafooaaGreatDoor.H
open Go.RowKit Go.Proofs.Wy Go.Proofs.YtlpibobpfafooaaGreatDoorW.PrintWords

theorem unframeL_bd (l : List UInt8) : 0 ≤ (unframeL l).1 ∧ (unframeL l).1 ≤ 65535 ∧ (unframeL l).2.1.length ≤ l.length := by
  have h1 := unstuffL_length l
  unfold unframeL
  split
  · exact ⟨by simp, by simp, by simp⟩
  · split
    · exact ⟨by simp, by simp, by simp⟩
    · have h2 : (checkL (unstuffL l).1).1.length ≤ (unstuffL l).1.length := by
        unfold checkL
        split
        · simp
        · split
          · simp
          · simp
      generalize (checkL (unstuffL l).1).1 = u at h2
      unfold decodeL
      split
      · split
        · split
          · exact ⟨by simp, by simp, by simp⟩
          · have h3 : protoL u ≤ 65535 ∧ 0 ≤ protoL u := by
              unfold protoL
              have a := (u.getD 2 0).toNat_lt
              have b := (u.getD 3 0).toNat_lt
              omega
            exact ⟨h3.2, h3.1, by simp; omega⟩
        · exact ⟨by simp, by simp, by simp⟩
      · exact ⟨by simp, by simp, by simp⟩

set_option maxHeartbeats 2000000 in
theorem unframe_any (g : Nat) (ns : List Int) (b : List UInt8) (w : World) (hb : b.length ≤ 200000) (hA : ArgsAt w g ns [b]) (hT : TabW w) :
    Calls Tryz.prog 43 #[.pointer (some ⟨g, 0, none⟩)] w (TellPost 2 ns [b] w) := by
  obtain ⟨gb, cap, c1, c2⟩ := hA.str
  obtain ⟨u1, u2, u3⟩ := unframeL_bd b
  have hF := fun w0 => SpQ.cget_any ⟨b.toArray⟩ w0 (by rw [size_lit]; omega)
  have hF : ∀ w0, Calls Tryz.prog 63 #[.string ⟨b.toArray⟩] w0 fun e w' => e = .returned (.tuple #[.agg #[.int .i64 (unframeL b).1, .string ⟨(unframeL b).2.1.toArray⟩], .int .i64 (unframeL b).2.2]) ∧ Below w0.heap.size w0 w' := hF
  have hH := fun w0 => hex_any ⟨(unframeL b).2.1.toArray⟩ w0 (by rw [size_lit]; omega)
  have hH : ∀ w0, Calls Tryz.prog 62 #[.string ⟨(unframeL b).2.1.toArray⟩] w0 fun e w' => e = .returned (.string ⟨(hexL (unframeL b).2.1).toArray⟩) ∧ Below w0.heap.size w0 w' := hH
  have hI := fun w0 hT0 => itoa_any (unframeL b).1 w0 (by omega) (by omega) hT0
  have hl1 := itoaL_length (unframeL b).1
  have hl2 := hexL_len (unframeL b).2.1
  have HP : Hid (TellPost 2 ns [b] w = fun e w' => e = .returned (.tuple #[.string ⟨(itoaL (unframeL b).1 ++ 32 :: hexL (unframeL b).2.1).toArray⟩, .int .i64 (unframeL b).2.2]) ∧ Below w.heap.size w w') := rfl
  have hA1 : ∀ w0, (Op.stringOp .add ⟨(itoaL (unframeL b).1).toArray⟩ ⟨#[32]⟩).run Tryz.prog w0 = .ok (.string (⟨(itoaL (unframeL b).1).toArray⟩ ++ ⟨#[32]⟩)) w0 := fun w0 => run_string_add_sum w0 _ _ (by have z1 := size_lit (itoaL (unframeL b).1); have z3 : (⟨#[32]⟩ : ByteArray).size = 1 := rfl; omega)
  have hA2 : ∀ w0, (Op.stringOp .add (⟨(itoaL (unframeL b).1).toArray⟩ ++ ⟨#[32]⟩) ⟨(hexL (unframeL b).2.1).toArray⟩).run Tryz.prog w0 = .ok (.string ((⟨(itoaL (unframeL b).1).toArray⟩ ++ ⟨#[32]⟩) ++ ⟨(hexL (unframeL b).2.1).toArray⟩)) w0 := fun w0 => run_string_add_sum w0 _ _ (by have z1 := size_lit (itoaL (unframeL b).1); have z2 := size_lit (hexL (unframeL b).2.1); have z3 : (⟨#[32]⟩ : ByteArray).size = 1 := rfl; rw [ByteArray.size_append]; omega)
  have hZ : (((⟨(itoaL (unframeL b).1).toArray⟩ : ByteArray) ++ ⟨#[32]⟩) ++ ⟨(hexL (unframeL b).2.1).toArray⟩) = ⟨(itoaL (unframeL b).1 ++ 32 :: hexL (unframeL b).2.1).toArray⟩ := by
    apply ByteArray.ext
    simp [ByteArray.data_append]
  rw [HP.out]
  generalize (⟨b.toArray⟩ : ByteArray) = x at c2 hF
  generalize (⟨(unframeL b).2.1.toArray⟩ : ByteArray) = y at hF hH
  generalize (⟨(itoaL (unframeL b).1).toArray⟩ : ByteArray) = s1 at hI hA1 hA2 hZ
  generalize (⟨(hexL (unframeL b).2.1).toArray⟩ : ByteArray) = s2 at hH hA2 hZ
  generalize (⟨(itoaL (unframeL b).1 ++ 32 :: hexL (unframeL b).2.1).toArray⟩ : ByteArray) = z at hZ ⊢
  generalize (unframeL b).2.2 = er at hF ⊢
  generalize (unframeL b).1 = pr at hF hI
  have HF := Lib.hid hF
  have HH := Lib.hid hH
  have HI := Lib.hid hI
  have HT := Lib.hid hT
  have HZ := Lib.hid hZ
  simp only [List.length_nil, Nat.zero_add] at c1
  clear hF hH hI hT hA hb hZ u1 u2 u3 hl1 hl2
  go_enter Tryz.func43, Tryz.ntmps43
  go_wp2_with fail
  ((with_reducible refine (HF.out _).mono ?_); rintro e w1 ⟨rfl, hb1⟩)
  have HB1 := Lib.hid hb1
  have k0 : (w1.alloc (.cells #[.int .i64 pr, .string y] 69)).drew.cell? ⟨w1.heap.size, 0, none⟩ = some (.int .i64 pr) := (blk_cell (blk_drew (blk_new w1 _)) 0).trans rfl
  have k1 : (w1.alloc (.cells #[.int .i64 pr, .string y] 69)).drew.cell? ⟨w1.heap.size, 1, none⟩ = some (.string y) := (blk_cell (blk_drew (blk_new w1 _)) 1).trans rfl
  have hBz : Below w.heap.size w (w1.alloc (.cells #[.int .i64 pr, .string y] 69)).drew := below_drew1 (hb1.alloc hb1.size _)
  have HK := Lib.hid (And.intro k0 k1)
  have HBz := Lib.hid hBz
  have HT1 := Lib.hid (HT.out.later hBz)
  clear hb1 c1 c2 k0 k1 hBz
  go_wp2_with fail
  go_region_held3 (fun w' => w'.cell? ⟨w1.heap.size, 0, none⟩ = some (.int .i64 pr) ∧ w'.cell? ⟨w1.heap.size, 1, none⟩ = some (.string y)) (first | (with_reducible exact HK.out) | (with_reducible exact ⟨pw_cell_below hb2.out HK.out.1, pw_cell_below hb2.out HK.out.2⟩) | (with_reducible exact ⟨pw_cell_below hb3.out (pw_cell_below hb2.out HK.out.1), pw_cell_below hb3.out (pw_cell_below hb2.out HK.out.2)⟩)) (first | (go_at_call 50; (with_reducible refine (HI.out _ HT1.out).mono ?_); rintro e w2 ⟨rfl, hb2_⟩; have hb2 := Lib.hid hb2_; clear hb2_) | (go_at_call 62; (with_reducible refine (HH.out _).mono ?_); rintro e w3 ⟨rfl, hb3_⟩; have hb3 := Lib.hid hb3_; clear hb3_))
  have HB3 := Lib.hid (HBz.out.trans ((hb2.out.mono HBz.out.size).trans (hb3.out.mono (Nat.le_trans HBz.out.size hb2.out.size))))
  go_wp2_with fail
  go_ret2
  exact ⟨by rw [← HZ.out]; rfl, HB3.out⟩
end Go.Proofs.YtlpibobpfafooaaGreatDoor.H
/-
  Contracts at this seat: what the console's commands tell (the automaton, delays, targets).
-/
set_option linter.unusedVariables false
set_option linter.unusedSimpArgs false
namespace Go.Proofs.YtlpibobpfafooaaGreatDoor.H
open Go.RowKit Go.Proofs.Wy Go.Proofs.YtlpibobpfafooaaGreatDoorW.PrintWords

theorem actP_bd (p : List UInt8) : 0 ≤ actP p ∧ actP p ≤ 13 := by
  unfold actP
  split <;> omega
set_option maxRecDepth 100000 in
theorem tab_len : ∀ l ∈ tabL, l.length ≤ 20 := by decide +kernel
theorem stepP_bd (s v : Int) : (-48 ≤ (stepP s v).1 ∧ (stepP s v).1 ≤ 255) ∧ (stepP s v).2.1.length ≤ 5 ∧ (∀ x ∈ (stepP s v).2.1, 0 ≤ x ∧ x ≤ 13) := by
  unfold stepP
  split
  · rename_i h
    have hl : v.toNat * 10 + s.toNat < tabL.length := by rw [tabL_length]; omega
    have hm : tabL.getD (v.toNat * 10 + s.toNat) [] ∈ tabL := by
      rw [List.getD_eq_getElem?_getD, List.getElem?_eq_getElem hl]
      exact List.getElem_mem hl
    have h20 := tab_len _ hm
    generalize tabL.getD (v.toNat * 10 + s.toNat) [] = l at h20
    unfold cellP
    split
    · exact ⟨⟨by simp, by simp⟩, by simp, fun x hx => by simp at hx⟩
    · have := (l.getLastD 0).toNat_lt
      refine ⟨⟨by dsimp only; omega, by dsimp only; omega⟩, by simp; omega, fun x hx => ?_⟩
      simp only [List.mem_map] at hx
      obtain ⟨q, _, rfl⟩ := hx
      exact actP_bd _
  · exact ⟨⟨by simp, by simp⟩, by simp, fun x hx => by simp at hx⟩
theorem acts_take (acts : List Int) (k : Nat) (h : k < acts.length) : (acts.take (k + 1)).flatMap (fun x => 32 :: itoaL x) = (acts.take k).flatMap (fun x => 32 :: itoaL x) ++ 32 :: itoaL acts[k] := by
  rw [List.take_succ_eq_append_getElem h, List.flatMap_append]
  simp only [List.flatMap_cons, List.flatMap_nil, List.append_nil]

set_option maxHeartbeats 2000000 in
theorem fsmt_any (g : Nat) (s v : Int) (bs : List (List UInt8)) (w : World) (hA : ArgsAt w g [s, v] bs) (hT : TabW w) :
    Calls Tryz.prog 44 #[.pointer (some ⟨g, 0, none⟩)] w (TellPost 3 [s, v] bs w) := by
  obtain ⟨gn, cap2, d1, hd⟩ := hA.num
  have d2 := hd 0 s rfl
  have d3 := hd 1 v rfl
  obtain ⟨⟨b1, b2⟩, b3, b4⟩ := stepP_bd s v
  have hS := fun w0 => step_any s v w0
  have HP : Hid (TellPost 3 [s, v] bs w = fun e w' => e = .returned (.tuple #[.string ⟨(itoaL (stepP s v).1 ++ (stepP s v).2.1.flatMap fun x => 32 :: itoaL x).toArray⟩, .int .i64 (stepP s v).2.2]) ∧ Below w.heap.size w w') := rfl
  rw [HP.out]
  generalize (stepP s v).1 = st at hS b1 b2 ⊢
  generalize (stepP s v).2.1 = acts at hS b3 b4 ⊢
  generalize (stepP s v).2.2 = er at hS ⊢
  have hI := fun w0 hT0 => itoa_any st w0 (by omega) (by omega) hT0
  have hl1 := itoaL_length st
  have HI := Lib.hid hI
  have HT := Lib.hid hT
  have HB4 := Lib.hid b4
  simp only [List.length_cons, List.length_nil, Nat.zero_add, Nat.reduceAdd] at d1
  have HD : Hid (w.drew.cell? ⟨g, 0, none⟩ = some (.slice (some ⟨gn, 0, none⟩) 2 cap2) ∧ w.drew.cell? ⟨gn, 0, none⟩ = some (.int .i64 s) ∧ w.drew.cell? ⟨gn, 1, none⟩ = some (.int .i64 v)) := Lib.hid ⟨d1, d2, d3⟩
  clear hI hT b4 hA hd b1 b2 d1 d2 d3
  by_cases hn : acts = []
  · have hS0 : ∀ w0, Calls Tryz.prog 64 #[.int .i64 s, .int .i64 v] w0 fun e w' => ∃ A c, e = .returned (.tuple #[.int .i64 st, .slice A 0 c, .int .i64 er]) ∧ Below w0.heap.size w0 w' := fun w0 =>
      (hS w0).mono fun e w' ⟨vo, he, hR, hB⟩ => by
        obtain ⟨A, c, hv⟩ := Kd.R_slice hR
        rw [hn] at hv
        exact ⟨A, c, by rw [he, hv]; rfl, hB⟩
    have HS0 := Lib.hid hS0
    have HN := Lib.hid hn
    clear hS hS0 hn
    go_enter Tryz.func44, Tryz.ntmps44
    go_wp2_with fail
    go_region_held3 (fun w' => w'.cell? ⟨g, 0, none⟩ = some (.slice (some ⟨gn, 0, none⟩) 2 cap2) ∧ w'.cell? ⟨gn, 0, none⟩ = some (.int .i64 s) ∧ w'.cell? ⟨gn, 1, none⟩ = some (.int .i64 v)) (first | (with_reducible exact HD.out) | (with_reducible exact ⟨pw_cell_below hb1.out HD.out.1, pw_cell_below hb1.out HD.out.2.1, pw_cell_below hb1.out HD.out.2.2⟩)) ((go_at_call 64; (with_reducible refine (HS0.out _).mono ?_); rintro e w1 ⟨A, c, rfl, hb1_⟩; have hb1 := Lib.hid hb1_; clear hb1_))
    have HB1 : Hid (Below w.heap.size w w1) := Lib.hid (below_drew_then hb1.out)
    clear HD HS0 hb1
    go_wp2_with fail
    ((with_reducible refine (HI.out _ (HT.out.later HB1.out)).mono ?_); rintro e w2 ⟨rfl, hb2⟩)
    have HB2 := Lib.hid (HB1.out.trans (hb2.mono HB1.out.size))
    clear hb2
    go_wp2_with fail
    go_loop [7, 31] (fun v7 v31 => v7 = .string ⟨(itoaL st).toArray⟩ ∧ v31 = .int .i64 0) (fun _ _ => 0)
    case atStart => exact ⟨rfl, rfl⟩
    case round =>
      obtain ⟨rfl, rfl⟩ := hrel
      go_wp2_with fail
      go_ret2
      exact ⟨by rw [HN.out]; simp, HB2.out⟩
  · have hS0 : ∀ w0, Calls Tryz.prog 64 #[.int .i64 s, .int .i64 v] w0 fun e w' => ∃ h c, e = .returned (.tuple #[.int .i64 st, .slice (some ⟨h, 0, none⟩) acts.length c, .int .i64 er]) ∧ (∀ k (hk : k < acts.length), w'.cell? ⟨h, k, none⟩ = some (.int .i64 acts[k])) ∧ Below w0.heap.size w0 w' := fun w0 =>
      (hS w0).mono fun e w' ⟨vo, he, hR, hB⟩ => by
        have ho := Kd.own_of_R hR
        have hlen : (encs (Value.int .i64) acts).length = acts.length := encs_length _
        rw [← hlen] at ho
        rcases RowAt.own ho with h0 | ⟨h, c, hv, _, hc⟩
        · exact absurd (by simpa [encs] using h0) hn
        · rw [hlen] at hv
          refine ⟨h, c, by rw [he, hv], fun k hk => hc k _ ?_, hB⟩
          simp [encs, hk]
    have HS0 := Lib.hid hS0
    have hn0 : 0 < acts.length := by cases acts with
      | nil => exact absurd rfl hn
      | cons _ _ => simp
    clear hS hS0 hn
    go_enter Tryz.func44, Tryz.ntmps44
    go_wp2_with fail
    go_region_held3 (fun w' => w'.cell? ⟨g, 0, none⟩ = some (.slice (some ⟨gn, 0, none⟩) 2 cap2) ∧ w'.cell? ⟨gn, 0, none⟩ = some (.int .i64 s) ∧ w'.cell? ⟨gn, 1, none⟩ = some (.int .i64 v)) (first | (with_reducible exact HD.out) | (with_reducible exact ⟨pw_cell_below hb1.out HD.out.1, pw_cell_below hb1.out HD.out.2.1, pw_cell_below hb1.out HD.out.2.2⟩)) ((go_at_call 64; (with_reducible refine (HS0.out _).mono ?_); rintro e w1 ⟨h, c, rfl, hc_, hb1_⟩; have hb1 := Lib.hid hb1_; have hc := Lib.hid hc_; clear hb1_ hc_))
    have HB1 : Hid (Below w.heap.size w w1) := Lib.hid (below_drew_then hb1.out)
    clear HD HS0 hb1
    go_wp2_with fail
    ((with_reducible refine (HI.out _ (HT.out.later HB1.out)).mono ?_); rintro e w2 ⟨rfl, hb2⟩)
    have HC : Hid (∀ k (hk : k < acts.length), w2.cell? ⟨h, k, none⟩ = some (.int .i64 acts[k])) := Lib.hid (fun k hk => pw_cell_below hb2 (hc.out k hk))
    have HB2 := Lib.hid (HB1.out.trans (hb2.mono HB1.out.size))
    clear hb2 hc
    go_wp2_with fail
    go_loopw [7, 31] (fun v7 v31 wr => ∃ (k : Nat) (S : ByteArray), k ≤ acts.length ∧ v31 = .int .i64 (k : Int) ∧ v7 = .string S ∧ S.size ≤ 21 + 22 * k ∧ Hid (S.data.toList = itoaL st ++ (acts.take k).flatMap fun x => 32 :: itoaL x) ∧ Hid (Below w2.heap.size w2 wr)) (fun _ v31 _ => acts.length - (intOf v31).toNat)
    case atStart => exact ⟨0, ⟨(itoaL st).toArray⟩, Nat.zero_le _, rfl, rfl, by rw [size_lit]; omega, Lib.hid (by simp), Lib.hid (Below.refl _ _)⟩
    case round =>
      obtain ⟨k, S, hk, rfl, rfl, hSl, hSd, hB⟩ := hrel
      by_cases hlt : k < acts.length
      · have hcell := pw_cell_below hB.out (HC.out k hlt)
        have hbd := HB4.out acts[k] (List.getElem_mem hlt)
        have hT := Lib.hid (acts_take acts k hlt)
        generalize acts[k] = x at hcell hbd hT
        obtain ⟨x0, x1⟩ := hbd
        have hI := fun w0 hT0 => itoa_any x w0 (by omega) (by omega) hT0
        have hxl := itoaL_length x
        have hxs : (⟨(itoaL x).toArray⟩ : ByteArray).size = (itoaL x).length := size_lit _
        have hxd : (⟨(itoaL x).toArray⟩ : ByteArray).data.toList = itoaL x := rfl
        generalize (⟨(itoaL x).toArray⟩ : ByteArray) = X at hI hxs hxd
        have hA1 : ∀ w0, (Op.stringOp .add ⟨#[32]⟩ X).run Tryz.prog w0 = .ok (.string (⟨#[32]⟩ ++ X)) w0 := fun w0 => run_string_add_sum w0 _ _ (by have : (⟨#[32]⟩ : ByteArray).size = 1 := rfl; omega)
        have hA2 : ∀ w0, (Op.stringOp .add S (⟨#[32]⟩ ++ X)).run Tryz.prog w0 = .ok (.string (S ++ (⟨#[32]⟩ ++ X))) w0 := fun w0 => run_string_add_sum w0 _ _ (by rw [ByteArray.size_append]; have : (⟨#[32]⟩ : ByteArray).size = 1 := rfl; omega)
        have hS2 : (S ++ (⟨#[32]⟩ ++ X)).size ≤ 21 + 22 * (k + 1) := by rw [ByteArray.size_append, ByteArray.size_append]; have : (⟨#[32]⟩ : ByteArray).size = 1 := rfl; omega
        have hSd2 : Hid ((S ++ (⟨#[32]⟩ ++ X)).data.toList = itoaL st ++ (acts.take (k + 1)).flatMap fun x => 32 :: itoaL x) := Lib.hid (by
          rw [hT.out, ByteArray.data_append, ByteArray.data_append, Array.toList_append, Array.toList_append, hxd, hSd.out]
          simp)
        have HI2 := Lib.hid hI
        clear hI hxd hSd hT hxs hxl
        go_wp2_with fail
        ((with_reducible refine (HI2.out _ ((HT.out.later HB2.out).later hB.out)).mono ?_); rintro e w3 ⟨rfl, hb3⟩)
        have HB3 := Lib.hid (hB.out.trans (hb3.mono hB.out.size))
        clear hb3 hB
        go_wp2_with fail
        go_roundw
        case rel => exact ⟨k + 1, S ++ (⟨#[32]⟩ ++ X), by omega, by go_num, rfl, hS2, hSd2, HB3⟩
        case measure => simp [intOf]; omega
      · have hks : acts.take k = acts := List.take_of_length_le (by omega)
        have hZ : Hid (S = ⟨(itoaL st ++ acts.flatMap fun x => 32 :: itoaL x).toArray⟩) := Lib.hid (by
          have h := hSd.out
          rw [hks] at h
          apply ByteArray.ext
          apply Array.toList_inj.1
          exact h)
        clear hks hSd
        go_wp2_with fail
        go_ret2
        exact ⟨by rw [← hZ.out]; rfl, HB2.out.trans (hB.out.mono HB2.out.size)⟩
end Go.Proofs.YtlpibobpfafooaaGreatDoor.H
/-
  Contracts at this seat: what the console's commands tell (delays, targets).
-/
set_option linter.unusedVariables false
set_option linter.unusedSimpArgs false
namespace Go.Proofs.YtlpibobpfafooaaGreatDoor.H
open Go.RowKit Go.Proofs.Wy Go.Proofs.YtlpibobpfafooaaGreatDoorW.PrintWords

theorem double_bds : ∀ (n : Nat) (most d : Int), 1 ≤ d → d ≤ most → 1 ≤ doubleN n most d ∧ doubleN n most d ≤ most
  | 0, _, _, h1, h2 => ⟨h1, h2⟩
  | n + 1, most, d, h1, h2 => by
    unfold doubleN
    split
    · omega
    · exact double_bds n most (d * 2) (by omega) (by omega)
theorem delayL_bd (t base most jit : Int) : -10000 ≤ (delayL t base most jit).1 ∧ (delayL t base most jit).1 ≤ 10000 := by
  unfold delayL
  split
  · exact ⟨by simp, by simp⟩
  · rename_i h
    have hd := double_bds t.toNat most base (by omega) (by omega)
    generalize doubleN t.toNat most base = x at hd
    have h5 := Int.emod_nonneg jit (show x / 4 + 1 ≠ 0 by omega)
    have h6 := Int.emod_lt_of_pos jit (show 0 < x / 4 + 1 by omega)
    dsimp only
    omega
set_option maxHeartbeats 2000000 in
theorem delayt_any (g : Nat) (t base most jit : Int) (bs : List (List UInt8)) (w : World) (hj : jit ≤ 9223372036854775807) (hA : ArgsAt w g [t, base, most, jit] bs) (hT : TabW w) :
    Calls Tryz.prog 46 #[.pointer (some ⟨g, 0, none⟩)] w (TellPost 5 [t, base, most, jit] bs w) := by
  obtain ⟨gn, cap2, d1, hd⟩ := hA.num
  have d2 := hd 0 t rfl
  have d3 := hd 1 base rfl
  have d4 := hd 2 most rfl
  have d5 := hd 3 jit rfl
  obtain ⟨b1, b2⟩ := delayL_bd t base most jit
  have hS := fun w0 => SpQ.delay_any t base most jit w0 hj
  have HP : Hid (TellPost 5 [t, base, most, jit] bs w = fun e w' => e = .returned (.tuple #[.string ⟨(itoaL (delayL t base most jit).1).toArray⟩, .int .i64 (delayL t base most jit).2]) ∧ Below w.heap.size w w') := rfl
  rw [HP.out]
  generalize (delayL t base most jit).1 = st at hS b1 b2 ⊢
  generalize (delayL t base most jit).2 = er at hS ⊢
  have hI := fun w0 hT0 => itoa_any st w0 (by omega) (by omega) hT0
  have HI := Lib.hid hI
  have HT := Lib.hid hT
  have HS := Lib.hid hS
  simp only [List.length_cons, List.length_nil, Nat.zero_add, Nat.reduceAdd] at d1
  have HD : Hid (w.drew.cell? ⟨g, 0, none⟩ = some (.slice (some ⟨gn, 0, none⟩) 4 cap2) ∧ w.drew.cell? ⟨gn, 0, none⟩ = some (.int .i64 t) ∧ w.drew.cell? ⟨gn, 1, none⟩ = some (.int .i64 base) ∧ w.drew.cell? ⟨gn, 2, none⟩ = some (.int .i64 most) ∧ w.drew.cell? ⟨gn, 3, none⟩ = some (.int .i64 jit)) := Lib.hid ⟨d1, d2, d3, d4, d5⟩
  clear hI hT hS hA hd b1 b2 d1 d2 d3 d4 d5 hj
  go_enter Tryz.func46, Tryz.ntmps46
  go_wp2_with fail
  go_region_held3 (fun w' => w'.cell? ⟨g, 0, none⟩ = some (.slice (some ⟨gn, 0, none⟩) 4 cap2) ∧ w'.cell? ⟨gn, 0, none⟩ = some (.int .i64 t) ∧ w'.cell? ⟨gn, 1, none⟩ = some (.int .i64 base) ∧ w'.cell? ⟨gn, 2, none⟩ = some (.int .i64 most) ∧ w'.cell? ⟨gn, 3, none⟩ = some (.int .i64 jit)) (first | (with_reducible exact HD.out) | (with_reducible exact ⟨pw_cell_below hb1.out HD.out.1, pw_cell_below hb1.out HD.out.2.1, pw_cell_below hb1.out HD.out.2.2.1, pw_cell_below hb1.out HD.out.2.2.2.1, pw_cell_below hb1.out HD.out.2.2.2.2⟩)) ((go_at_call 66; (with_reducible refine (HS.out _).mono ?_); rintro e w1 ⟨rfl, hb1_⟩; have hb1 := Lib.hid hb1_; clear hb1_))
  have HB1 : Hid (Below w.heap.size w w1) := Lib.hid (below_drew_then hb1.out)
  clear HD HS hb1
  go_wp2_with fail
  ((with_reducible refine (HI.out _ (HT.out.later HB1.out)).mono ?_); rintro e w2 ⟨rfl, hb2⟩)
  have HB2 := Lib.hid (HB1.out.trans (hb2.mono HB1.out.size))
  clear hb2
  go_wp2_with fail
  go_ret2
  exact ⟨rfl, HB2.out⟩

theorem targetT (load rate least links : Int) (bs : List (List UInt8)) : tellL 6 [load, rate, least, links] bs = if load < 0 ∨ SpQ.shapeB rate least links = false then ([], 2400) else (itoaL (min (max (load / rate + if load % rate > 0 then 1 else 0) least) links), 0) := by
  show (if (targetL load rate least links).2 = 0 then (itoaL (targetL load rate least links).1, (0 : Int)) else ([], 2400)) = _
  unfold targetL SpQ.shapeB
  by_cases h : load < 0 ∨ ¬ (64 ≤ rate ∧ rate ≤ 4096 ∧ 1 ≤ links ∧ links ≤ 6 ∧ 1 ≤ least ∧ least ≤ links)
  · rw [if_pos h, if_neg (by decide), if_pos]
    rcases h with h | h
    · exact .inl h
    · exact .inr (by simpa using h)
  · have hn : ¬ (load < 0 ∨ decide (64 ≤ rate ∧ rate ≤ 4096 ∧ 1 ≤ links ∧ links ≤ 6 ∧ 1 ≤ least ∧ least ≤ links) = false) := by
      intro h2
      apply h
      rcases h2 with h2 | h2
      · exact .inl h2
      · exact .inr (by simpa using h2)
    rw [if_neg h, if_neg hn]
    generalize min (max (load / rate + if load % rate > 0 then 1 else 0) least) links = x
    rfl
set_option maxHeartbeats 2000000 in
theorem target_any (g : Nat) (load rate least links : Int) (bs : List (List UInt8)) (w : World) (hj : load ≤ 9223372036854775807) (hA : ArgsAt w g [load, rate, least, links] bs) (hT : TabW w) :
    Calls Tryz.prog 47 #[.pointer (some ⟨g, 0, none⟩)] w (TellPost 6 [load, rate, least, links] bs w) := by
  obtain ⟨gn, cap2, d1, hd⟩ := hA.num
  have d2 := hd 0 load rfl
  have d3 := hd 1 rate rfl
  have d4 := hd 2 least rfl
  have d5 := hd 3 links rfl
  have HT := Lib.hid hT
  simp only [List.length_cons, List.length_nil, Nat.zero_add, Nat.reduceAdd] at d1
  have hU := targetT load rate least links bs
  have HP : Hid (TellPost 6 [load, rate, least, links] bs w = fun e w' => e = .returned (.tuple #[.string ⟨(tellL 6 [load, rate, least, links] bs).1.toArray⟩, .int .i64 (tellL 6 [load, rate, least, links] bs).2]) ∧ Below w.heap.size w w') := rfl
  rw [HP.out]
  clear hT hA hd HP
  by_cases hl : load < 0
  · have b0 : decide (load < 0) = true := by simpa using hl
    rw [if_pos (.inl hl)] at hU
    rw [hU]
    clear hU hl HT
    go_enter Tryz.func47, Tryz.ntmps47
    go_wp2_with fail
    go_quiet (fail)
    go_wp2_with fail
    go_ret2
    exact ⟨rfl, pw_below_drewN (Below.refl _ _) _⟩
  · have b0 : decide (load < 0) = false := by simpa using hl
    have hS := fun w0 => SpQ.shape_any rate least links w0
    cases hsh : SpQ.shapeB rate least links with
    | false =>
      rw [if_pos (.inr hsh)] at hU
      rw [hU]
      rw [hsh] at hS
      have HS := Lib.hid hS
      clear hU hl HT hsh hS
      go_enter Tryz.func47, Tryz.ntmps47
      go_wp2_with fail
      go_quiet ((go_at_call 67; exact Calls.quiet_of (HS.out _)))
      go_wp2_with fail
      go_ret2
      exact ⟨rfl, pw_below_drewN (Below.refl _ _) _⟩
    | true =>
      rw [if_neg (by rw [hsh]; intro h; rcases h with h | h; exact hl h; cases h)] at hU
      rw [hU]
      rw [hsh] at hS
      have hsh2 : 64 ≤ rate ∧ rate ≤ 4096 ∧ 1 ≤ links ∧ links ≤ 6 ∧ 1 ≤ least ∧ least ≤ links := by unfold SpQ.shapeB at hsh; simpa using hsh
      have hC := fun w0 => SpQ.count_any load rate least links w0 (by omega) hsh2.1 hj
      have hbd : 1 ≤ min (max (load / rate + if load % rate > 0 then 1 else 0) least) links ∧ min (max (load / rate + if load % rate > 0 then 1 else 0) least) links ≤ 6 := by
        generalize (load / rate + if load % rate > 0 then 1 else 0) = y
        omega
      generalize min (max (load / rate + if load % rate > 0 then 1 else 0) least) links = st at hC hbd ⊢
      have hI := fun w0 hT0 => itoa_any st w0 (by omega) (by omega) hT0
      have HS := Lib.hid hS
      have HI := Lib.hid hI
      have HC := Lib.hid hC
      have HD : Hid (w.cell? ⟨g, 0, none⟩ = some (.slice (some ⟨gn, 0, none⟩) 4 cap2) ∧ w.cell? ⟨gn, 0, none⟩ = some (.int .i64 load) ∧ w.cell? ⟨gn, 1, none⟩ = some (.int .i64 rate) ∧ w.cell? ⟨gn, 2, none⟩ = some (.int .i64 least) ∧ w.cell? ⟨gn, 3, none⟩ = some (.int .i64 links)) := Lib.hid ⟨d1, d2, d3, d4, d5⟩
      clear hU hl hsh hS hI hC hbd hsh2 hj
      go_enter Tryz.func47, Tryz.ntmps47
      go_wp2_with fail
      go_quiet ((go_at_call 67; exact Calls.quiet_of (HS.out _)))
      go_wp2_with fail
      have HDn : Hid ((w.drewN (nq + 1)).cell? ⟨g, 0, none⟩ = some (.slice (some ⟨gn, 0, none⟩) 4 cap2) ∧ (w.drewN (nq + 1)).cell? ⟨gn, 0, none⟩ = some (.int .i64 load) ∧ (w.drewN (nq + 1)).cell? ⟨gn, 1, none⟩ = some (.int .i64 rate) ∧ (w.drewN (nq + 1)).cell? ⟨gn, 2, none⟩ = some (.int .i64 least) ∧ (w.drewN (nq + 1)).cell? ⟨gn, 3, none⟩ = some (.int .i64 links)) := HD
      have HDm : Hid ((w.drewN nq).drew.cell? ⟨g, 0, none⟩ = some (.slice (some ⟨gn, 0, none⟩) 4 cap2) ∧ (w.drewN nq).drew.cell? ⟨gn, 0, none⟩ = some (.int .i64 load) ∧ (w.drewN nq).drew.cell? ⟨gn, 1, none⟩ = some (.int .i64 rate) ∧ (w.drewN nq).drew.cell? ⟨gn, 2, none⟩ = some (.int .i64 least) ∧ (w.drewN nq).drew.cell? ⟨gn, 3, none⟩ = some (.int .i64 links)) := HD
      have HBn : Hid (Below w.heap.size w (w.drewN (nq + 1))) := Lib.hid (pw_below_drewN (Below.refl _ _) (nq + 1))
      clear d1 d2 d3 d4 d5 HS
      go_region_held3 (fun w' => w'.cell? ⟨g, 0, none⟩ = some (.slice (some ⟨gn, 0, none⟩) 4 cap2) ∧ w'.cell? ⟨gn, 0, none⟩ = some (.int .i64 load) ∧ w'.cell? ⟨gn, 1, none⟩ = some (.int .i64 rate) ∧ w'.cell? ⟨gn, 2, none⟩ = some (.int .i64 least) ∧ w'.cell? ⟨gn, 3, none⟩ = some (.int .i64 links)) (first | (with_reducible exact HDn.out) | (with_reducible exact HDm.out) | (with_reducible exact ⟨pw_cell_below hb1.out HDn.out.1, pw_cell_below hb1.out HDn.out.2.1, pw_cell_below hb1.out HDn.out.2.2.1, pw_cell_below hb1.out HDn.out.2.2.2.1, pw_cell_below hb1.out HDn.out.2.2.2.2⟩) | (with_reducible exact ⟨pw_cell_below hb2.out (pw_cell_below hb1.out HDn.out.1), pw_cell_below hb2.out (pw_cell_below hb1.out HDn.out.2.1), pw_cell_below hb2.out (pw_cell_below hb1.out HDn.out.2.2.1), pw_cell_below hb2.out (pw_cell_below hb1.out HDn.out.2.2.2.1), pw_cell_below hb2.out (pw_cell_below hb1.out HDn.out.2.2.2.2)⟩)) (first | (go_at_call 68; (with_reducible refine (HC.out _).mono ?_); rintro e w1 ⟨rfl, hb1_⟩; have hb1 := Lib.hid hb1_; have HT1 := Lib.hid (HT.out.later (HBn.out.trans (hb1_.mono HBn.out.size))); clear hb1_) | (go_at_call 50; (with_reducible refine (HI.out _ HT1.out).mono ?_); rintro e w2 ⟨rfl, hb2_⟩; have hb2 := Lib.hid hb2_; clear hb2_))
      have HB3 := Lib.hid (HBn.out.trans ((hb1.out.mono HBn.out.size).trans (hb2.out.mono (Nat.le_trans HBn.out.size hb1.out.size))))
      go_wp2_with fail
      go_ret2
      exact ⟨rfl, HB3.out⟩
end Go.Proofs.YtlpibobpfafooaaGreatDoor.H
