/-
  Contract at this seat: the console's Run.
-/
import Derived.Test.YtlpibobpfafooaaGreatDoorConM
set_option linter.unusedVariables false
set_option linter.unusedSimpArgs false
namespace Go.Proofs.YtlpibobpfafooaaGreatDoor.H
open Go.RowKit Go.Proofs.Wy Go.Proofs.YtlpibobpfafooaaGreatDoorW.PrintWords Go.Proofs

theorem bat_below {T e : TypeId} {B b : Nat} {p : Value} {bs : List Value} {W W' : World} (h : Lib.BuilderAtF T e B b p bs W) (hb : Below W.heap.size W W') : Lib.BuilderAtF T e B b p bs W' := by
  have hlt := h.lt
  obtain ⟨hB, v, hv, hown, hne⟩ := h
  exact ⟨hB, v, (hb.block b hlt).trans hv, hown.kept (row := none) ⟨hb.os, hb.tape, hb.output, hb.size, fun k hk _ => hb.block k hk⟩ (Classical.em _), hne⟩
theorem isb_below {T e : TypeId} {B b : Nat} {bs : List Value} {W W' : World} (h : Lib.IsBuilderF T e B b bs W) (hb : Below W.heap.size W W') : Lib.IsBuilderF T e B b bs W' :=
  h.elim (fun x => .inl (bat_below x hb)) (fun x => .inr (bat_below x hb))
theorem blank_pred (w : World) : PredAt Tryz.prog 27 #[] encR blankR w := fun W r _ => by
  unfold FnGives
  by_cases h1 : r = 32
  · subst h1
    go_enter Tryz.func27, Tryz.ntmps27
    go_wp2
    go_ret
    exact ⟨by simp [blankR], 0, rfl⟩
  · by_cases h2 : r = 9
    · subst h2
      go_enter Tryz.func27, Tryz.ntmps27
      go_wp2
      go_ret
      exact ⟨by simp [blankR], 0, rfl⟩
    · have z1 : ((r : Int) == 32) = false := by rw [beq_eq_false_iff_ne]; omega
      have z2 : ((r : Int) == 9) = false := by rw [beq_eq_false_iff_ne]; omega
      go_enter Tryz.func27, Tryz.ntmps27
      go_wp2
      go_ret
      exact ⟨by simp [blankR, h1, h2], 0, rfl⟩
/-- A line's words: none; or a first one, with a first byte, and the rest. -/
theorem fwords_any (p : ByteArray) (w : World) (hs : p.size ≤ 65536) :
    Calls Tryz.prog 26 #[.string p, .func (.func 27) #[] #[]] w fun e w' => Below w.heap.size w w' ∧ ∃ A n, e = .returned (.slice (some ⟨A, 0, none⟩) n n) ∧ n = (fieldsL p.data.toList).length ∧
      ∀ i l, (fieldsL p.data.toList)[i]? = some l → w'.cell? ⟨A, i, none⟩ = some (.string ⟨l.toArray⟩) := by
  refine (Tryz.strings_FieldsFunc 27 #[] (enters_of Tryz.func27 (by kernel_rfl) rfl) blankR p w (by omega) (blank_pred w)).mono ?_
  rintro e w' ⟨A, rfl, hA, hown, hb⟩
  have he := fields_eq p
  refine ⟨hb, A, _, rfl, by rw [← he, List.length_map], fun i l hl => ?_⟩
  rw [← he, List.getElem?_map] at hl
  cases hq : (Lib.goFieldsP blankR p)[i]? with
  | none => rw [hq] at hl; cases hl
  | some q =>
    rw [hq] at hl
    cases hl
    have hown2 : w'.ownsRow w.heap.size 9 1 (.slice (some ⟨A, 0, none⟩) (Lib.goFieldsP blankR p).length (Lib.goFieldsP blankR p).length) ((Lib.goFieldsP blankR p).map Value.string).length ((Lib.goFieldsP blankR p).map Value.string) := by
      rw [List.length_map]; exact hown
    rcases RowAt.own hown2 with h0 | ⟨h, cap, hv, _, hc⟩
    · rw [List.map_eq_nil_iff] at h0
      rw [h0] at hq
      cases hq
    · injection hv with hv1 hv2 hv3
      injection hv1 with hv1
      injection hv1 with hv1
      subst hv1
      exact hc i (.string q) (by rw [List.getElem?_map, hq]; rfl)
theorem mem_sum : ∀ (ls : List Nat) (n : Nat), n ∈ ls → n ≤ ls.sum
  | [], n, h => by simp at h
  | a :: ls, n, h => by
    rw [List.sum_cons]
    rcases List.mem_cons.1 h with rfl | h
    · omega
    · have := mem_sum ls n h
      omega
theorem cutAt_sizes (c : UInt8) : ∀ l : List UInt8, (cutAt c l).length ≤ l.length + 1 ∧ ∀ p ∈ cutAt c l, p.length ≤ l.length
  | [] => ⟨by simp [cutAt], fun p hp => by simp [cutAt] at hp; simp [hp]⟩
  | b :: r => by
    obtain ⟨h1, h2⟩ := cutAt_sizes c r
    unfold cutAt
    split
    · refine ⟨by simp; exact h1, fun p hp => ?_⟩
      rcases List.mem_cons.1 hp with rfl | hp
      · simp
      · have := h2 p hp
        simp only [List.length_cons]
        omega
    · cases hc : cutAt c r with
      | nil => exact ⟨by simp, fun p hp => by simp at hp; simp [hp]⟩
      | cons q qs =>
        rw [hc] at h1 h2
        refine ⟨by simp at h1 ⊢; omega, fun p hp => ?_⟩
        rcases List.mem_cons.1 hp with rfl | hp
        · have := h2 q (by simp)
          simp only [List.length_cons]
          omega
        · have := h2 p (by simp [hp])
          simp only [List.length_cons]
          omega
theorem fieldsL_sizes (l : List UInt8) : (fieldsL l).length ≤ l.length ∧ ∀ p ∈ fieldsL l, p.length ≤ l.length := by
  obtain ⟨h1, h2⟩ := fieldsGo_bulk l []
  refine ⟨by simpa [fieldsL] using h2, fun p hp => ?_⟩
  have h3 : p.length ≤ ((fieldsL l).map List.length).sum := mem_sum _ _ (List.mem_map_of_mem hp)
  have h4 : ((fieldsL l).map List.length).sum ≤ l.length := by simpa [fieldsL] using h1
  omega
theorem tellsL_len (l : List UInt8) (h : l.length ≤ 65536) : (tellsL l).length ≤ 400001 := by
  obtain ⟨h1, h2⟩ := fieldsL_sizes l
  unfold tellsL
  split
  · simp
  · rename_i w ws hw
    rw [hw] at h2
    split
    · simp
    · have := lineL_len w ws (fun x hx => by have := h2 x (by simp [hx]); omega)
      rw [List.length_append]
      simp only [List.length_cons, List.length_nil]
      omega
theorem outs_len (L : List (List UInt8)) (h : ∀ p ∈ L, p.length ≤ 65536) (k : Nat) : ((L.take k).flatMap tellsL).length ≤ 400001 * k := by
  induction k with
  | zero => simp
  | succ k ih =>
    by_cases hk : k < L.length
    · rw [List.take_succ_eq_append_getElem hk, List.flatMap_append, List.length_append]
      simp only [List.flatMap_cons, List.flatMap_nil, List.append_nil]
      have := tellsL_len L[k] (h _ (List.getElem_mem hk))
      omega
    · rw [List.take_of_length_le (by omega)] at ih ⊢
      omega
theorem tells_take (L : List (List UInt8)) (k : Nat) (p : List UInt8) (h : L[k]? = some p) : (L.take (k + 1)).flatMap tellsL = (L.take k).flatMap tellsL ++ tellsL p := by
  obtain ⟨hk, rfl⟩ := List.getElem?_eq_some_iff.1 h
  rw [List.take_succ_eq_append_getElem hk, List.flatMap_append]
  simp only [List.flatMap_cons, List.flatMap_nil, List.append_nil]
def RunPost (l : List UInt8) (w : World) (e : Ending) (w' : World) : Prop := e = .returned (.tuple #[.string ⟨(runL l).1.toArray⟩, .int .i64 (runL l).2]) ∧ Below w.heap.size w w'
theorem run_long {l : List UInt8} {w : World} (h : 65536 < l.length) : RunPost l w (.returned (.tuple #[.string ⟨#[]⟩, .int .i64 2801])) w := ⟨by unfold runL; rw [if_pos h], Below.refl _ _⟩
theorem run_out {l : List UInt8} {w w' : World} (h : ¬ 65536 < l.length) (hb : Below w.heap.size w w') : RunPost l w (.returned (.tuple #[.string ⟨((cutAt 10 l).flatMap tellsL).toArray⟩, .int .i64 0])) w' := ⟨by unfold runL; rw [if_neg h], hb⟩
end Go.Proofs.YtlpibobpfafooaaGreatDoor.H
/-
  Contract at this seat: the console's Run (the walk).
-/
set_option linter.unusedVariables false
set_option linter.unusedSimpArgs false
namespace Go.Proofs.YtlpibobpfafooaaGreatDoor.H
open Go.RowKit Go.Proofs.Wy Go.Proofs.YtlpibobpfafooaaGreatDoorW.PrintWords Go.Proofs

/-- The state of the loop. -/
structure Rn (w wr : World) (bm bo bs : Nat) (C : Array Value) (l : List UInt8) : Prop where
  map : wr.heap[bm]? = some (.map (mapT 7) 7)
  bld : Lib.IsBuilderF 52 5 bo bo (Lib.byteCells l) wr
  row : wr.heap[bs]? = some (.cells C 9 (0, 0))
  low : Below w.heap.size w wr
  at_ : bo < wr.heap.size
  lt1 : bm < bo
  lt2 : bo < bs
  lt0 : w.heap.size ≤ bo
theorem Rn.below {w wr w1 : World} {bm bo bs : Nat} {C : Array Value} {l : List UInt8} (h : Rn w wr bm bo bs C l) (hb : Below wr.heap.size wr w1) : Rn w w1 bm bo bs C l :=
  ⟨map_below h.map hb, isb_below h.bld hb, map_below h.row hb, h.low.trans (hb.mono h.low.size), Nat.lt_of_lt_of_le h.at_ hb.size, h.lt1, h.lt2, h.lt0⟩
theorem Rn.wrote {w wr w1 : World} {bm bo bs : Nat} {C : Array Value} {l : List UInt8} (h : Rn w wr bm bo bs C l) (s : ByteArray) (h1 : Lib.BuilderAtF 52 5 bo bo (.pointer (some ⟨bo, 0, none⟩)) (Lib.byteCells l ++ Lib.strCells s) w1) (h2 : Below bo wr w1) (h3 : Lib.OthersKept 5 (some bo) wr w1) :
    Rn w w1 bm bo bs C (l ++ s.data.toList) :=
  ⟨(h2.block bm h.lt1).trans h.map, Or.inr (by rw [Lib.byteCells_append]; exact h1),
   h3 bs _ h.row (by intro e; injection e with e; have := h.lt2; omega) (by intro c fz e; injection e with _ e _; exact absurd e (by decide)),
   h.low.trans (h2.mono h.lt0), Nat.lt_of_lt_of_le h.at_ h2.size, h.lt1, h.lt2, h.lt0⟩
theorem Rn.cell {w wr : World} {bm bo bs : Nat} {C : Array Value} {l : List UInt8} (h : Rn w wr bm bo bs C l) (k : Nat) (v : Value) (hv : C[k]? = some v) : wr.cell? ⟨bs, k, none⟩ = some v := (blk_cell h.row k).trans hv

theorem tells_none {l : List UInt8} (h : fieldsL l = []) : tellsL l = [] := by unfold tellsL; rw [h]
theorem tells_note {l f : List UInt8} {r : List (List UInt8)} (h : fieldsL l = f :: r) (h1 : f.headD 0 = 35) : tellsL l = [] := by unfold tellsL; rw [h]; dsimp only; rw [if_pos h1]
theorem tells_line {l f : List UInt8} {r : List (List UInt8)} (h : fieldsL l = f :: r) (h1 : ¬ f.headD 0 = 35) : tellsL l = lineL f r ++ [10] := by unfold tellsL; rw [h]; dsimp only; rw [if_neg h1]
theorem first_byte (F : ByteArray) (f : List UInt8) (hf : F.data.toList = f) (h : f ≠ []) : ∃ c : UInt8, f.headD 0 = c ∧ 0 < F.size ∧ ∀ w : World, (Instr.index 9 (.string F) (.int .i64 0)).run Tryz.prog w = .ok (.int .u8 (c.toNat : Int)) w := by
  subst hf
  have e : F.data.toList.length = F.size := Array.length_toList
  have hz : 0 < F.size := by
    have := List.length_pos_iff.2 h
    omega
  refine ⟨F[0], ?_, hz, idx_at F 0 0 rfl hz⟩
  rw [List.headD_eq_head?_getD, List.head?_eq_getElem?, List.getElem?_eq_getElem (by omega)]
  rfl
theorem words_none {p : ByteArray} (hs : p.size ≤ 65536) (h : fieldsL p.data.toList = []) (w : World) :
    Calls Tryz.prog 26 #[.string p, .func (.func 27) #[] #[]] w fun e w' => ∃ A, e = .returned (.slice (some ⟨A, 0, none⟩) 0 0) ∧ Below w.heap.size w w' :=
  (fwords_any p w hs).mono fun e w' ⟨hb, A, n, h1, h2, _⟩ => by
    rw [h] at h2
    subst h2
    exact ⟨A, h1, hb⟩
theorem words_some {p : ByteArray} {f : List UInt8} {r : List (List UInt8)} (hs : p.size ≤ 65536) (h : fieldsL p.data.toList = f :: r) (w : World) :
    Calls Tryz.prog 26 #[.string p, .func (.func 27) #[] #[]] w fun e w' => ∃ A, e = .returned (.slice (some ⟨A, 0, none⟩) (r.length + 1) (r.length + 1)) ∧ Below w.heap.size w w' ∧
      w'.cell? ⟨A, 0, none⟩ = some (.string ⟨f.toArray⟩) ∧ ∀ i l, r[i]? = some l → w'.cell? ⟨A, 1 + i, none⟩ = some (.string ⟨l.toArray⟩) :=
  (fwords_any p w hs).mono fun e w' ⟨hb, A, n, h1, h2, h3⟩ => by
    rw [h] at h2 h3
    subst h2
    refine ⟨A, h1, hb, h3 0 f rfl, fun i l hl => h3 (1 + i) l ?_⟩
    rw [Nat.add_comm, List.getElem?_cons_succ]
    exact hl
theorem line_nl {t : List UInt8} (h : t.length ≤ 400000) (w0 : World) : (Op.stringOp .add ⟨t.toArray⟩ ⟨#[10]⟩).run Tryz.prog w0 = .ok (.string ⟨(t ++ [10]).toArray⟩) w0 := by
  have h := run_string_add_sum (P := Tryz.prog) w0 ⟨t.toArray⟩ ⟨#[10]⟩ (by have z1 := size_lit t; have z3 : (⟨#[10]⟩ : ByteArray).size = 1 := rfl; omega)
  have e : ((⟨t.toArray⟩ : ByteArray) ++ ⟨#[10]⟩) = ⟨(t ++ [10]).toArray⟩ := by
    apply ByteArray.ext
    simp [ByteArray.data_append]
  rw [e] at h
  exact h
theorem run_start (w : World) (C : Array Value) :
    Rn w (((w.alloc (.map (mapT 7) 7)).alloc (.cells #[.pointer none, .slice none 0 0] 52)).alloc (.cells C 9)) w.heap.size (w.heap.size + 1) (w.heap.size + 1 + 1) C [] := by
  have z1 : (w.alloc (.map (mapT 7) 7)).heap.size = w.heap.size + 1 := by simp
  have z2 : ((w.alloc (.map (mapT 7) 7)).alloc (.cells #[.pointer none, .slice none 0 0] 52)).heap.size = w.heap.size + 1 + 1 := by simp
  have b0 := Below.refl w.heap.size w
  have b1 := (Below.refl w.heap.size w).alloc (Nat.le_refl _) (.map (mapT 7) 7)
  have b2 := b1.alloc (by omega) (.cells #[.pointer none, .slice none 0 0] 52)
  have b3 := b2.alloc (by omega) (.cells C 9)
  have hm := blk_new w (.map (mapT 7) 7)
  have hb := Lib.IsBuilderF.of (Lib.fresh_isBuilder 52 5 (w.alloc (.map (mapT 7) 7)))
  rw [z1] at hb
  refine ⟨?_, hb.alloc _, ?_, b3, by simp, by omega, by omega, by omega⟩
  · exact map_below (map_below hm ((Below.refl _ _).alloc (Nat.le_refl _) _)) ((Below.refl _ _).alloc (Nat.le_refl _) _)
  · rw [← z2]
    exact blk_new _ _

set_option maxHeartbeats 4000000 in
theorem run_any (s : ByteArray) (w : World) (hT : TabW w) : Calls Tryz.prog 14 #[.string s] w (RunPost s.data.toList w) := by
  have hl : s.data.toList.length = s.size := Array.length_toList
  by_cases h0 : 65536 < s.size
  · have z0 : (65536 : Int) < (s.size : Int) := by omega
    have HP := Lib.hid (run_long (l := s.data.toList) (w := w) (by omega))
    clear hl h0
    go_enter Tryz.func14, Tryz.ntmps14
    go_wp2_with fail
    go_ret2
    exact HP.out
  · have z0 : ¬ (65536 : Int) < (s.size : Int) := by omega
    have hcut := splitB_cut 10 s.size s (Nat.le_refl _)
    have hcn := Lib.splitB_all ⟨#[10]⟩ (Nat.le_refl _) 0 _ s rfl
    have hsz := cutAt_sizes 10 s.data.toList
    have HP := Lib.hid (fun w' hb => run_out (l := s.data.toList) (w := w) (w' := w') (by omega) hb)
    have hSp := fun w0 => split_one s 10 w0 (by omega)
    generalize Lib.splitB ⟨#[10]⟩ 0 (Lib.countB s ⟨#[10]⟩) s = Ps at hcut hcn hSp
    generalize Lib.countB s ⟨#[10]⟩ + 1 = N at hcn hSp
    rw [← hcut] at hsz HP
    have hN : N ≤ 65537 := by have := hsz.1; rw [List.length_map] at this; omega
    have hPs : ∀ p ∈ Ps, p.size ≤ 65536 := fun p hp => by
      have := hsz.2 _ (List.mem_map_of_mem hp)
      rw [Array.length_toList] at this
      have e : p.data.size = p.size := rfl
      omega
    have hPl : ∀ p ∈ Ps.map (fun p => p.data.toList), p.length ≤ 65536 := fun p hp => by
      have := hsz.2 _ hp
      omega
    have HS := Lib.hid hSp
    have HPs := Lib.hid hPs
    have HPl := Lib.hid hPl
    have HT := Lib.hid hT
    have HCn := Lib.hid hcn
    clear hT hSp hcut hsz hl h0 hPs hPl hcn
    go_enter Tryz.func14, Tryz.ntmps14
    go_wp2_with fail
    ((with_reducible refine (commands_any _).mono ?_); rintro e w1 ⟨rfl, rfl⟩)
    go_wp2_with fail
    ((with_reducible refine (HS.out _).mono ?_); rintro e w1 ⟨rfl, rfl⟩)
    go_wp2_with fail
    have HR0 := Lib.hid (run_start w (Ps.map Value.string).toArray)
    generalize (((w.alloc (.map (mapT 7) 7)).alloc (.cells #[.pointer none, .slice none 0 0] 52)).alloc (.cells (Ps.map Value.string).toArray 9)) = W0 at HR0 ⊢
    generalize w.heap.size + 1 + 1 = bs at HR0 ⊢
    generalize w.heap.size + 1 = bo at HR0 ⊢
    generalize hbm : w.heap.size = bm at HR0 ⊢
    have HBm := Lib.hid hbm
    clear hbm
    go_loopw [16] (fun v16 wr => ∃ k : Nat, k ≤ N ∧ v16 = .int .i64 (k : Int) ∧ Hid (Rn w wr bm bo bs (Ps.map Value.string).toArray (((Ps.map fun p => p.data.toList).take k).flatMap tellsL))) (fun v16 _ => N - (intOf v16).toNat)
    case atStart => exact ⟨0, Nat.zero_le _, rfl, Lib.hid (by rw [List.take_zero]; exact HR0.out)⟩
    case round =>
      obtain ⟨k, hk, rfl, hR⟩ := hrel
      by_cases hlt : k < N
      · obtain ⟨p, hp⟩ : ∃ p, Ps[k]? = some p := ⟨_, List.getElem?_eq_getElem (by rw [HCn.out]; exact hlt)⟩
        have hcell : wr.cell? ⟨bs, k, none⟩ = some (.string p) := hR.out.cell k _ (by rw [List.getElem?_toArray, List.getElem?_map, hp]; rfl)
        have hpm := List.mem_of_getElem? hp
        have hps := HPs.out p hpm
        have HTk := Lib.hid (tells_take (Ps.map fun p => p.data.toList) k p.data.toList (by rw [List.getElem?_map, hp]; rfl))
        have hol := outs_len (Ps.map fun p => p.data.toList) HPl.out k
        generalize (((Ps.map fun p => p.data.toList).take k).flatMap tellsL) = O at HTk hR hol
        cases hF : fieldsL p.data.toList with
        | nil =>
          rw [tells_none hF, List.append_nil] at HTk
          have HWd := Lib.hid (fun w0 => words_none hps hF w0)
          clear hF hps hpm hp
          go_wp2_with fail
          ((with_reducible refine (HWd.out _).mono ?_); rintro e w1 ⟨A, rfl, hb1⟩)
          have HR1 := Lib.hid (hR.out.below hb1)
          clear hb1
          go_wp2_with fail
          go_roundw
          case rel => exact ⟨k + 1, by omega, by go_num, Lib.hid (by rw [HTk.out]; exact HR1.out)⟩
          case measure => simp [intOf]; omega
        | cons f r =>
          have HWd := Lib.hid (fun w0 => words_some hps hF w0)
          have hne := fieldsL_ne p.data.toList f (by rw [hF]; simp)
          obtain ⟨fs1, fs2⟩ := fieldsL_sizes p.data.toList
          have epl : p.data.toList.length = p.size := Array.length_toList
          rw [hF] at fs1 fs2
          have hFd : (⟨f.toArray⟩ : ByteArray).data.toList = f := rfl
          have hfl := fs2 f (by simp)
          have hrl : r.length ≤ 65536 := by simp only [List.length_cons] at fs1; omega
          have hrs : ∀ l ∈ r, l.length ≤ 100000 := fun l hl => by have := fs2 l (by simp [hl]); omega
          have hll := lineL_len f r hrs
          have hFs := size_lit f
          generalize (⟨f.toArray⟩ : ByteArray) = F at HWd hFd hFs
          obtain ⟨c, hc1, hc2, hidx⟩ := first_byte F f hFd hne
          by_cases h35 : c = 35
          · have b1 : ((c.toNat : Int) != 35) = false := by rw [h35]; rfl
            rw [tells_note hF (hc1.trans h35), List.append_nil] at HTk
            clear hF hps hpm hp hne fs1 fs2 epl hfl hrl hrs hll hFs hFd hc1 h35
            go_wp2_with fail
            ((with_reducible refine (HWd.out _).mono ?_); rintro e w1 ⟨A, rfl, hb1, m0, _⟩)
            have HR1 := Lib.hid (hR.out.below hb1)
            clear hb1
            go_wp2_with fail
            go_roundw
            case rel => exact ⟨k + 1, by omega, by go_num, Lib.hid (by rw [HTk.out]; exact HR1.out)⟩
            case measure => simp [intOf]; omega
          · have b1 : ((c.toNat : Int) != 35) = true := by
              rw [bne_iff_ne]
              intro e
              exact h35 (UInt8.toNat.inj (by have : (35 : UInt8).toNat = 35 := rfl; omega))
            rw [tells_line hF (fun e => h35 (hc1.symm.trans e))] at HTk
            have hadd := line_nl hll
            have HLn := Lib.hid (fun bm h w0 hM h0 hc hT => line_any bm F r h w0 (by omega) (by omega) hrs hM h0 hc hT)
            unfold LinePost at HLn
            rw [hFd] at HLn
            have htl : (lineL f r ++ [10]).length ≤ 400001 := by rw [List.length_append]; simp only [List.length_cons, List.length_nil]; omega
            have hZd : (⟨(lineL f r ++ [10]).toArray⟩ : ByteArray).data.toList = lineL f r ++ [10] := rfl
            have hZs := size_lit (lineL f r ++ [10])
            rw [← hZd] at HTk
            generalize (⟨(lineL f r ++ [10]).toArray⟩ : ByteArray) = Z at hadd hZs HTk
            generalize (⟨(lineL f r).toArray⟩ : ByteArray) = Y at hadd HLn
            have hbl : (Lib.byteCells O).length + Z.size ≤ 140737488355328 := by rw [Lib.byteCells_length]; omega
            have HBl := Lib.hid hbl
            clear hF hps hpm hp hne fs1 fs2 epl hfl hrl hrs hll hFs hFd hc1 h35 hbl htl hZs hol
            go_wp2_with fail
            ((with_reducible refine (HWd.out _).mono ?_); rintro e w1 ⟨A, rfl, hb1, m0, mc⟩)
            have HR1 := Lib.hid (hR.out.below hb1)
            have HMc := Lib.hid (And.intro m0 mc)
            clear hb1 mc
            go_wp2_with fail
            ((with_reducible refine (HLn.out bm A _ HR1.out.map HMc.out.1 HMc.out.2 (HT.out.later HR1.out.low)).mono ?_); rintro e w2 ⟨rfl, hb2⟩)
            have HR2 := Lib.hid (HR1.out.below hb2)
            clear hb2 m0 HMc
            go_wp2_with fail
            ((with_reducible refine (Tryz.Builder_WriteString_k bo bo _ Z _ HR2.out.bld HBl.out (Nat.le_of_lt HR2.out.at_)).mono ?_); rintro e w3 ⟨rfl, h3a, h3b, h3c⟩)
            have HR3 := Lib.hid (HR2.out.wrote Z h3a h3b h3c)
            clear h3a h3b h3c
            go_wp2_with fail
            go_roundw
            case rel => exact ⟨k + 1, by omega, by go_num, Lib.hid (by rw [HTk.out]; exact HR3.out)⟩
            case measure => simp [intOf]; omega
      · have hks : (Ps.map fun p => p.data.toList).take k = Ps.map fun p => p.data.toList := List.take_of_length_le (by rw [List.length_map, HCn.out]; omega)
        rw [hks] at hR
        clear hks
        go_wp2_with fail
        ((with_reducible refine (Tryz.Builder_String_any_k bo bo _ _ hR.out.bld (Nat.le_of_lt hR.out.at_)).mono ?_); rintro e w1 ⟨rfl, _, b1, _⟩)
        have HB := Lib.hid (hR.out.low.trans (b1.mono hR.out.lt0))
        clear b1
        go_wp2_with fail
        go_ret2
        exact HP.out _ HB.out
end Go.Proofs.YtlpibobpfafooaaGreatDoor.H
/-
  The laws of the console: what all of them ask first (awake), a number's code, a line alone.
-/
set_option linter.unusedVariables false
set_option linter.unusedSimpArgs false
namespace Go.Proofs.YtlpibobpfafooaaGreatDoor.H
open Go.RowKit Go.Proofs.Wy Go.Proofs.YtlpibobpfafooaaGreatDoorW.PrintWords Go.Proofs

def awakeS : List UInt8 := [102, 99, 115, 32, 51, 49, 51, 50, 51, 51, 51, 52, 51, 53, 51, 54, 51, 55, 51, 56, 51, 57, 10, 35, 32, 120, 10, 102, 115, 109, 32, 50, 32, 50, 10, 109, 100, 53, 32, 54, 49, 54, 50, 54, 51, 10, 100, 101, 108, 97, 121, 32, 51, 32, 50, 32, 49, 48, 32, 48, 10, 116, 97, 114, 103, 101, 116, 32, 50, 53, 55, 32, 50, 53, 54, 32, 49, 32, 51, 10, 102, 114, 111, 98, 10, 102, 114, 97, 109, 101, 32, 50, 32, 45, 10, 117, 110, 102, 114, 97, 109, 101, 32, 48, 48]
def awakeO : List UInt8 := [51, 54, 57, 55, 52, 10, 54, 32, 53, 32, 55, 10, 57, 48, 48, 49, 53, 48, 57, 56, 51, 99, 100, 50, 52, 102, 98, 48, 100, 54, 57, 54, 51, 102, 55, 100, 50, 56, 101, 49, 55, 102, 55, 50, 10, 49, 48, 10, 50, 10, 101, 114, 114, 111, 114, 32, 50, 56, 48, 48, 10, 101, 114, 114, 111, 114, 32, 51, 48, 51, 10, 101, 114, 114, 111, 114, 32, 51, 48, 48, 10]
set_option maxRecDepth 100000 in
theorem awake_runs : runL awakeS = (awakeO, 0) := by decide +kernel
theorem num_any (e : Int) (w : World) : Calls Tryz.prog 15 #[.int .i64 e] w fun x w' => x = .returned (.int .i64 e) ∧ w' = w := by
  go_enter Tryz.func15, Tryz.ntmps15
  go_wp2
  go_ret
  exact ⟨rfl, rfl⟩
theorem run_said (s : ByteArray) (l o : List UInt8) (n : Int) (w : World) (hs : s.data.toList = l) (hr : runL l = (o, n)) (hT : TabW w) : Calls Tryz.prog 14 #[.string s] w fun e w' => e = .returned (.tuple #[.string ⟨o.toArray⟩, .int .i64 n]) ∧ Below w.heap.size w w' :=
  (run_any s w hT).mono fun e w' ⟨h1, h2⟩ => ⟨by rw [hs, hr] at h1; exact h1, h2⟩
set_option maxHeartbeats 1000000 in
theorem awake_any (w : World) (hT : TabW w) : Calls Tryz.prog 11 #[] w fun e w' => e = .returned (.bool true) ∧ Below w.heap.size w w' := by
  have HR := Lib.hid (fun s w0 hs hT0 => run_said s awakeS awakeO 0 w0 hs awake_runs hT0)
  have HT := Lib.hid hT
  clear hT
  go_enter Tryz.func11, Tryz.ntmps11
  go_wp2_with fail
  ((refine (HR.out _ _ rfl HT.out).mono ?_); rintro e w1 ⟨rfl, hb1⟩)
  go_wp2_with fail
  ((with_reducible refine (num_any _ _).mono ?_); rintro e w2 ⟨rfl, rfl⟩)
  go_wp2_with fail
  go_ret
  exact ⟨congrArg (fun b => Ending.returned (.bool b)) (beq_iff_eq.2 rfl), hb1⟩

theorem ext_init (o : List UInt8) : (⟨(o ++ [10]).toArray⟩ : ByteArray).extract 0 o.length = ⟨o.toArray⟩ := by
  apply ByteArray.ext
  rw [ByteArray.data_extract]
  apply Array.toList_inj.1
  simp
set_option maxHeartbeats 1000000 in
/-- What one line tells, without its LF. -/
theorem one_any (s : ByteArray) (l o : List UInt8) (w : World) (hs : s.data.toList = l) (hr : runL l = (o ++ [10], 0)) (ho : o.length ≤ 1000000000) (hT : TabW w) :
    Calls Tryz.prog 13 #[.string s] w fun e w' => e = .returned (.string ⟨o.toArray⟩) ∧ Below w.heap.size w w' := by
  have HR := Lib.hid (fun w0 hT0 => run_said s l (o ++ [10]) 0 w0 hs hr hT0)
  have hz := size_lit (o ++ [10])
  rw [List.length_append] at hz
  simp only [List.length_cons, List.length_nil, Nat.zero_add] at hz
  have he := ext_init o
  have hb : ∀ h : o.length < (⟨(o ++ [10]).toArray⟩ : ByteArray).size, (((⟨(o ++ [10]).toArray⟩ : ByteArray)[o.length]'h).toNat : Int) = 10 := by
    intro h
    have e : (⟨(o ++ [10]).toArray⟩ : ByteArray)[o.length]'h = 10 := by
      show (o ++ [10])[o.length]'(by simp) = 10
      simp
    rw [e]
    rfl
  have b0 : (⟨(o ++ [10]).toArray⟩ : ByteArray).toList.isEmpty = false := by
    rw [Lib.toList_data]
    show (o ++ [10]).isEmpty = false
    cases o <;> rfl
  generalize (⟨(o ++ [10]).toArray⟩ : ByteArray) = O at HR hz he hb b0
  generalize (⟨o.toArray⟩ : ByteArray) = X at he ⊢
  generalize o.length = n at hz he hb ho
  have hn : ((O.size : Int) - 1) = (n : Int) := by omega
  have b3 : (((O[n]'(by omega)).toNat : Int) != 10) = false := by rw [hb]; rfl
  clear hb
  have HT := Lib.hid hT
  clear hT hs hr
  go_enter Tryz.func13, Tryz.ntmps13
  go_wp2_with fail
  ((with_reducible refine (HR.out _ HT.out).mono ?_); rintro e w1 ⟨rfl, hb1⟩)
  go_wp2_with fail
  ((with_reducible refine (num_any _ _).mono ?_); rintro e w2 ⟨rfl, rfl⟩)
  go_wp2_with fail
  go_ret
  exact ⟨rfl, hb1⟩
end Go.Proofs.YtlpibobpfafooaaGreatDoor.H
