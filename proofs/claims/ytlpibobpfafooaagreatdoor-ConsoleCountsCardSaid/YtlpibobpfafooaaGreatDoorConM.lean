/-
  Contract at this seat: what a line tells.
-/
import Derived.Test.YtlpibobpfafooaaGreatDoorConK
set_option linter.unusedVariables false
set_option linter.unusedSimpArgs false
namespace Go.Proofs.YtlpibobpfafooaaGreatDoor.H
open Go.RowKit Go.Proofs.Wy Go.Proofs.YtlpibobpfafooaaGreatDoorW.PrintWords

theorem name_eq (k : ByteArray) (n : List UInt8) : ((k == (⟨n.toArray⟩ : ByteArray)) : Bool) = (n == k.data.toList) := by
  show (k.data == n.toArray) = _
  rw [Bool.eq_iff_iff, beq_iff_eq, beq_iff_eq]
  constructor
  · intro h; rw [h]
  · intro h
    apply Array.toList_inj.1
    exact h.symm
theorem find_ents (k : ByteArray) : ∀ (cs : List (List UInt8 × List UInt8 × Nat)) (i : Nat),
    (cs.find? (fun c => c.1 == k.data.toList) = none → Instr.findNow .string (.string k) ((cs.zipIdx i).map fun x => entT x.2 x.1) i = some none) ∧
    (∀ c, cs.find? (fun c => c.1 == k.data.toList) = some c → ∃ j, Instr.findNow .string (.string k) ((cs.zipIdx i).map fun x => entT x.2 x.1) i = some (some (j, cmdV c)))
  | [], i => ⟨fun _ => rfl, fun c h => by cases h⟩
  | c0 :: cs, i => by
    obtain ⟨h1, h2⟩ := find_ents k cs (i + 1)
    have e : Instr.sameNow .string (.string k) (entT i c0).key = some (c0.1 == k.data.toList) := by
      show some (k == (⟨c0.1.toArray⟩ : ByteArray)) = _
      rw [name_eq]
    rw [List.find?_cons]
    cases hb : c0.1 == k.data.toList with
    | true =>
      rw [hb] at e
      refine ⟨(fun h => by cases h), fun c h => ?_⟩
      cases h
      refine ⟨i, ?_⟩
      rw [List.zipIdx_cons, List.map_cons]
      unfold Instr.findNow
      dsimp only
      rw [e]
      rfl
    | false =>
      rw [hb] at e
      refine ⟨fun h => ?_, fun c h => ?_⟩
      · rw [List.zipIdx_cons, List.map_cons]
        unfold Instr.findNow
        dsimp only
        rw [e]
        exact h1 h
      · obtain ⟨j, hj⟩ := h2 c h
        refine ⟨j, ?_⟩
        rw [List.zipIdx_cons, List.map_cons]
        unfold Instr.findNow
        dsimp only
        rw [e]
        exact hj
theorem look_none (W : World) (bm : Nat) (k : ByteArray) (hM : W.heap[bm]? = some (.map (mapT 7) 7)) (h : cmdsT.find? (fun c => c.1 == k.data.toList) = none) :
    (Instr.lookup 48 (.map (some bm)) (.string k) true).run Tryz.prog W = .ok (.tuple #[.agg #[.string ⟨#[]⟩, .nilFunc], .bool false]) W := by
  have hf := run_find (mapT 7).toList k none ((find_ents k cmdsT 0).1 h) W
  have hc := MapKept.run_checkKey (P := Tryz.prog) (w := W) Tryz.underlying9 (k := .string k) (by trivial) (mapT 7).isEmpty 9999
  have hc : (Instr.checkKey (mapT 7).isEmpty 10000 9 (.string k)).run Tryz.prog W = .ok () W := hc
  have hz : (zeroValue 82).run Tryz.prog W = .ok (.agg #[.string ⟨#[]⟩, .nilFunc]) W := by kernel_rfl
  generalize mapT 7 = es at hM hf hc
  simp only [Instr.lookup, Sem.run_bind, run_underlying Tryz.underlying48, Result.andThen_ok, MapKept.run_getObj_map hM, Sem.run_pure, hc, hf, hz, if_true]
theorem look_some (W : World) (bm : Nat) (k : ByteArray) (c : List UInt8 × List UInt8 × Nat) (hM : W.heap[bm]? = some (.map (mapT 7) 7)) (h : cmdsT.find? (fun c => c.1 == k.data.toList) = some c) :
    (Instr.lookup 48 (.map (some bm)) (.string k) true).run Tryz.prog W = .ok (.tuple #[cmdV c, .bool true]) W := by
  obtain ⟨j, hj⟩ := (find_ents k cmdsT 0).2 c h
  have hf := run_find (mapT 7).toList k _ hj W
  have hc := MapKept.run_checkKey (P := Tryz.prog) (w := W) Tryz.underlying9 (k := .string k) (by trivial) (mapT 7).isEmpty 9999
  have hc : (Instr.checkKey (mapT 7).isEmpty 10000 9 (.string k)).run Tryz.prog W = .ok () W := hc
  generalize mapT 7 = es at hM hf hc
  simp only [Instr.lookup, Sem.run_bind, run_underlying Tryz.underlying48, Result.andThen_ok, MapKept.run_getObj_map hM, Sem.run_pure, hc, hf, if_true]

/-! ### what reading gives -/
theorem unhexGo_len : ∀ (n : Nat) (l x : List UInt8), l.length ≤ n → unhexGo l = some x → x.length ≤ l.length
  | _, [], x, _, h => by cases h; simp
  | _, [_], x, _, h => by cases h
  | 0, _ :: _ :: _, x, hn, h => by simp at hn
  | n + 1, a :: b :: r, x, hn, h => by
    unfold unhexGo at h
    split at h
    · cases hr : unhexGo r with
      | none => rw [hr] at h; cases h
      | some t =>
        rw [hr] at h
        cases h
        have := unhexGo_len n r t (by simp at hn; omega) hr
        simp only [List.length_cons]
        omega
    · cases h
theorem unhexL_len (l x : List UInt8) (h : unhexL l = some x) : x.length ≤ l.length := by
  unfold unhexL at h
  split at h
  · cases h; simp
  · split at h
    · cases h
    · exact unhexGo_len l.length l x (Nat.le_refl _) h
/-- What is read: as many numbers and bytes as kinds, small ones. -/
theorem readL_facts : ∀ (K : List UInt8) (W : List (List UInt8)) (r : List Int × List (List UInt8)), readL K W = some r → (∀ l ∈ W, l.length ≤ 100000) →
    r.1.length = (K.filter (· == 110)).length ∧ r.2.length = (K.filter (fun k => !(k == 110))).length ∧ (∀ x ∈ r.1, -10000000000 < x ∧ x < 10000000000) ∧ ∀ b ∈ r.2, b.length ≤ 100000
  | [], [], r, h, _ => by cases h; simp
  | [], _ :: _, r, h, _ => by cases h
  | _ :: _, [], r, h, _ => by cases h
  | k :: K, w :: W, r, h, hW => by
    unfold readL at h
    split at h
    · rename_i hk
      cases hx : numberL w with
      | none => rw [hx] at h; cases h
      | some x =>
        rw [hx] at h
        cases hr : readL K W with
        | none => rw [hr] at h; cases h
        | some r1 =>
          rw [hr] at h
          cases h
          obtain ⟨a1, a2, a3, a4⟩ := readL_facts K W r1 hr (fun l hl => hW l (List.mem_cons_of_mem _ hl))
          have hb := (atoi_number w x hx).2
          subst hk
          refine ⟨by simp [a1], by simp [a2], ?_, a4⟩
          intro y hy
          rcases List.mem_cons.1 hy with rfl | hy
          · exact hb
          · exact a3 y hy
    · rename_i hk
      have hk' : (k == 110) = false := beq_eq_false_iff_ne.2 hk
      cases hx : unhexL w with
      | none => rw [hx] at h; cases h
      | some x =>
        rw [hx] at h
        cases hr : readL K W with
        | none => rw [hr] at h; cases h
        | some r1 =>
          rw [hr] at h
          cases h
          obtain ⟨a1, a2, a3, a4⟩ := readL_facts K W r1 hr (fun l hl => hW l (List.mem_cons_of_mem _ hl))
          have hb := unhexL_len w x hx
          have hw := hW w (by simp)
          refine ⟨by simp [a1, hk'], by simp [a2, hk'], a3, ?_⟩
          intro y hy
          rcases List.mem_cons.1 hy with rfl | hy
          · omega
          · exact a4 y hy
theorem two_of {α : Type} {l : List α} (h : l.length = 2) : ∃ a b, l = [a, b] := by
  match l, h with
  | [a, b], _ => exact ⟨a, b, rfl⟩
theorem one_of {α : Type} {l : List α} (h : l.length = 1) : ∃ a, l = [a] := by
  match l, h with
  | [a], _ => exact ⟨a, rfl⟩
theorem four_of {α : Type} {l : List α} (h : l.length = 4) : ∃ a b c d, l = [a, b, c, d] := by
  match l, h with
  | [a, b, c, d], _ => exact ⟨a, b, c, d, rfl⟩
theorem tell_any (c : List UInt8 × List UInt8 × Nat) (hc : c ∈ cmdsT) (W : List (List UInt8)) (hW : ∀ l ∈ W, l.length ≤ 100000) (r : List Int × List (List UInt8)) (hr : readL c.2.1 W = some r) (g : Nat) (w : World) (hA : ArgsAt w g r.1 r.2) (hT : TabW w) :
    Calls Tryz.prog (fnT c.2.2) #[.pointer (some ⟨g, 0, none⟩)] w (TellPost c.2.2 r.1 r.2 w) := by
  obtain ⟨ns, bs⟩ := r
  obtain ⟨h1, h2, h3, h4⟩ := readL_facts _ _ _ hr hW
  dsimp only at h1 h2 h3 h4 hA ⊢
  simp only [cmdsT, List.mem_cons, List.not_mem_nil, or_false] at hc
  rcases hc with rfl | rfl | rfl | rfl | rfl | rfl | rfl
  · obtain rfl := List.eq_nil_of_length_eq_zero h1
    obtain ⟨b, rfl⟩ := one_of h2
    exact sum_any g [] b w (by have := h4 b (by simp); omega) hA hT
  · obtain ⟨p, rfl⟩ := one_of h1
    obtain ⟨b, rfl⟩ := one_of h2
    exact frame_any g p b w (by have := h4 b (by simp); omega) hA hT
  · obtain rfl := List.eq_nil_of_length_eq_zero h1
    obtain ⟨b, rfl⟩ := one_of h2
    exact unframe_any g [] b w (by have := h4 b (by simp); omega) hA hT
  · obtain ⟨p, q, rfl⟩ := two_of h1
    exact fsmt_any g p q bs w hA hT
  · obtain rfl := List.eq_nil_of_length_eq_zero h1
    obtain ⟨b, rfl⟩ := one_of h2
    exact md5t_any g [] b w (by have := h4 b (by simp); omega) hA hT
  · obtain ⟨p, q, s, t, rfl⟩ := four_of h1
    exact delayt_any g p q s t bs w (by have := h3 t (by simp); omega) hA hT
  · obtain ⟨p, q, s, t, rfl⟩ := four_of h1
    exact target_any g p q s t bs w (by have := h3 p (by simp); omega) hA hT
theorem tell_code (t : Nat) (ns : List Int) (bs : List (List UInt8)) : 0 ≤ (tellL t ns bs).2 ∧ (tellL t ns bs).2 ≤ 10000 := by
  unfold tellL
  split
  · simp
  · dsimp only
    unfold frameL
    split
    · split <;> simp
    · simp
  · dsimp only
    unfold unframeL
    split
    · simp
    · split
      · simp
      · unfold decodeL
        split
        · split
          · split <;> simp
          · simp
        · simp
  · dsimp only
    unfold stepP
    split
    · unfold cellP
      split <;> simp
    · simp
  · simp
  · dsimp only
    unfold delayL
    split <;> simp
  · split <;> simp
theorem flat_len (l : List Int) : (l.flatMap fun x => 32 :: itoaL x).length ≤ 22 * l.length := by
  induction l with
  | nil => simp
  | cons a l ih =>
    have := itoaL_length a
    simp only [List.flatMap_cons, List.length_append, List.length_cons]
    omega
theorem tell_len (t : Nat) (ns : List Int) (bs : List (List UInt8)) (hb : ∀ b ∈ bs, b.length ≤ 100000) : (tellL t ns bs).1.length ≤ 400000 := by
  have h0 : (bs.getD 0 []).length ≤ 100000 := by
    cases bs with
    | nil => simp
    | cons b bs => exact hb b (by simp)
  unfold tellL
  split
  · have := itoaL_length (fcsL (bs.getD 0 []))
    dsimp only
    omega
  · have h1 := frameL_len (ns.getD 0 0) (bs.getD 0 [])
    have h2 := hexL_len (frameL (ns.getD 0 0) (bs.getD 0 []) 0).1
    dsimp only
    omega
  · have h1 := (unframeL_bd (bs.getD 0 [])).2.2
    have h2 := hexL_len (unframeL (bs.getD 0 [])).2.1
    have h3 := itoaL_length (unframeL (bs.getD 0 [])).1
    dsimp only
    unfold unframeT
    rw [List.length_append, List.length_cons]
    omega
  · have h1 := (stepP_bd (ns.getD 0 0) (ns.getD 1 0)).2.1
    have h2 := itoaL_length (stepP (ns.getD 0 0) (ns.getD 1 0)).1
    have h3 := flat_len (stepP (ns.getD 0 0) (ns.getD 1 0)).2.1
    dsimp only
    unfold Go.Proofs.Wy.stepT
    rw [List.length_append]
    omega
  · have h1 := hexL_len (md5L (bs.getD 0 []))
    have h2 := md5L_length (bs.getD 0 [])
    dsimp only
    omega
  · have := itoaL_length (delayL (ns.getD 0 0) (ns.getD 1 0) (ns.getD 2 0) (ns.getD 3 0)).1
    dsimp only
    omega
  · split
    · have := itoaL_length (targetL (ns.getD 0 0) (ns.getD 1 0) (ns.getD 2 0) (ns.getD 3 0)).1
      dsimp only
      omega
    · simp
theorem errL_len (e : Int) : (errL e).length ≤ 28 := by
  have := itoaL_length e
  unfold errL
  rw [List.length_append]
  simp only [List.length_cons, List.length_nil]
  omega
theorem lineL_len (w : List UInt8) (ws : List (List UInt8)) (hW : ∀ l ∈ ws, l.length ≤ 100000) : (lineL w ws).length ≤ 400000 := by
  unfold lineL
  split
  · have := errL_len 2800
    omega
  · unfold cmdL
    split
    · have := errL_len 2800
      omega
    · rename_i r hr
      split
      · exact tell_len _ _ _ (readL_facts _ _ _ hr hW).2.2.2
      · rename_i c _ _ _
        have := errL_len (tellL c.2.2 r.1 r.2).2
        omega
end Go.Proofs.YtlpibobpfafooaaGreatDoor.H
/-
  Contract at this seat: what a line tells (the walk).
-/
set_option linter.unusedVariables false
set_option linter.unusedSimpArgs false
namespace Go.Proofs.YtlpibobpfafooaaGreatDoor.H
open Go.RowKit Go.Proofs.Wy Go.Proofs.YtlpibobpfafooaaGreatDoorW.PrintWords

section
variable {P : Program} {w : World} (a : Addr) (m : Mode)
theorem run_store_func (f : Fn) (c : Array Value) (b : Array Value) : (store a (.func f c b) m).run P w = stored P w a (.func f c b) m := run_store P w a _ m rfl
theorem run_store_nilFunc : (store a .nilFunc m).run P w = stored P w a .nilFunc m := run_store P w a _ m rfl
end
attribute [local go_sem] run_store_func run_store_nilFunc
def errP : ByteArray := ⟨#[101, 114, 114, 111, 114, 32]⟩
theorem errP_add (n : Int) (w0 : World) : (Op.stringOp .add ⟨#[101, 114, 114, 111, 114, 32]⟩ ⟨(itoaL n).toArray⟩).run Tryz.prog w0 = .ok (.string ⟨(errL n).toArray⟩) w0 := by
  have h := run_string_add_sum (P := Tryz.prog) w0 ⟨#[101, 114, 114, 111, 114, 32]⟩ ⟨(itoaL n).toArray⟩ (by have z1 := size_lit (itoaL n); have z2 := itoaL_length n; have z3 : (⟨#[101, 114, 114, 111, 114, 32]⟩ : ByteArray).size = 6 := rfl; omega)
  have e : ((⟨#[101, 114, 114, 111, 114, 32]⟩ : ByteArray) ++ ⟨(itoaL n).toArray⟩) = ⟨(errL n).toArray⟩ := by
    apply ByteArray.ext
    simp [ByteArray.data_append, errL]
  rw [e] at h
  exact h
def LinePost (k : List UInt8) (W : List (List UInt8)) (w : World) (e : Ending) (w' : World) : Prop := e = .returned (.string ⟨(lineL k W).toArray⟩) ∧ Below w.heap.size w w'
theorem line_none {k : List UInt8} {W : List (List UInt8)} {w w' : World} (h : cmdsT.find? (fun c => c.1 == k) = none) (hb : Below w.heap.size w w') : LinePost k W w (.returned (.string ⟨(errL 2800).toArray⟩)) w' := ⟨by unfold lineL; rw [h], hb⟩
theorem line_read {k : List UInt8} {W : List (List UInt8)} {c : List UInt8 × List UInt8 × Nat} {w w' : World} (h : cmdsT.find? (fun c => c.1 == k) = some c) (hr : readL c.2.1 W = none) (hb : Below w.heap.size w w') : LinePost k W w (.returned (.string ⟨(errL 2800).toArray⟩)) w' := ⟨by unfold lineL cmdL; rw [h]; dsimp only; rw [hr], hb⟩
theorem line_code {k : List UInt8} {W : List (List UInt8)} {c : List UInt8 × List UInt8 × Nat} {r : List Int × List (List UInt8)} {w w' : World} (h : cmdsT.find? (fun c => c.1 == k) = some c) (hr : readL c.2.1 W = some r) (he : ¬ (tellL c.2.2 r.1 r.2).2 = 0) (hb : Below w.heap.size w w') : LinePost k W w (.returned (.string ⟨(errL (tellL c.2.2 r.1 r.2).2).toArray⟩)) w' := ⟨by unfold lineL cmdL; rw [h]; dsimp only; rw [hr]; dsimp only; rw [if_neg he], hb⟩
theorem line_tell {k : List UInt8} {W : List (List UInt8)} {c : List UInt8 × List UInt8 × Nat} {r : List Int × List (List UInt8)} {w w' : World} (h : cmdsT.find? (fun c => c.1 == k) = some c) (hr : readL c.2.1 W = some r) (he : (tellL c.2.2 r.1 r.2).2 = 0) (hb : Below w.heap.size w w') : LinePost k W w (.returned (.string ⟨(tellL c.2.2 r.1 r.2).1.toArray⟩)) w' := ⟨by unfold lineL cmdL; rw [h]; dsimp only; rw [hr]; dsimp only; rw [if_pos he], hb⟩
theorem map_below {w w' : World} {bm : Nat} {o : Obj} (h : w.heap[bm]? = some o) (hb : Below w.heap.size w w') : w'.heap[bm]? = some o := (hb.block bm (blk_lt h)).trans h

theorem cmd_len (c : List UInt8 × List UInt8 × Nat) (h : c ∈ cmdsT) : 1 ≤ c.2.1.length ∧ c.2.1.length ≤ 4 := by
  simp only [cmdsT, List.mem_cons, List.not_mem_nil, or_false] at h
  rcases h with rfl | rfl | rfl | rfl | rfl | rfl | rfl <;> exact ⟨by decide, by decide⟩
theorem read_none (kb : ByteArray) (K : List UInt8) (hkb : kb.data.toList = K) (h1 : 1 ≤ K.length) (A : Option Addr) (c : Nat) (w : World) :
    Calls Tryz.prog 51 #[.string kb, .slice A 0 c] w (ReadPost K [] w) := by
  subst hkb
  refine read_len kb A 0 c [] w rfl ?_
  rw [Array.length_toList] at h1
  show 0 ≠ kb.data.size
  omega
theorem read_some (kb : ByteArray) (K : List UInt8) (hkb : kb.data.toList = K) (h1 : K.length ≤ 4) (W : List (List UInt8)) (hW : ∀ l ∈ W, l.length ≤ 100000) (h c : Nat) (w : World)
    (hc : ∀ i l, W[i]? = some l → w.cell? ⟨h, 1 + i, none⟩ = some (.string ⟨l.toArray⟩)) :
    Calls Tryz.prog 51 #[.string kb, .slice (some ⟨h, 1, none⟩) W.length c] w (ReadPost K W w) := by
  subst hkb
  have e : kb.data.toList.length = kb.size := Array.length_toList
  by_cases hn : W.length = kb.size
  · exact read_eq kb h 1 c W w hn (by omega) hW hc
  · exact read_len kb _ _ c W w rfl hn

theorem slice_one (h m : Nat) (wx : World) : (Instr.slice 23 (.slice (some ⟨h, 0, none⟩) (m + 1 + 1) (m + 1 + 1)) (some (.int .i64 1)) none none).run Tryz.prog wx = .ok (.slice (some ⟨h, 1, none⟩) (m + 1) (m + 1)) wx := by
  have h1 : ((0 : Int) ≤ 1 ∧ (1 : Int) ≤ ((m + 1 + 1 : Nat) : Int)) := by omega
  have h2 : ¬ (m + 1 + 1 = 1) := by omega
  have h3 : (Instr.sliceBound (.int .i64 1) (m + 1 + 1) .sliceB).run Tryz.prog wx = .ok 1 wx := by
    unfold Instr.sliceBound
    simp only [asIntOf, Sem.run_bind, Sem.run_pure, Result.andThen_ok, if_pos h1]
    rfl
  unfold Instr.slice
  simp only [Sem.run_bind, run_underlying Tryz.underlying23, Result.andThen_ok, Instr.sliceBounds, Sem.run_pure, Option.isSome_none, Bool.false_eq_true, if_false, h3, Tryz.sizeOf9, if_neg h2]
  rfl
theorem callee_holds (t : Nat) : ∀ args w, (callFunc (fnT t) args).run Tryz.prog w = .ok (.enter (fnT t) args) w := by
  unfold fnT
  split
  · exact enters_of Tryz.func41 (by kernel_rfl) rfl
  · exact enters_of Tryz.func42 (by kernel_rfl) rfl
  · exact enters_of Tryz.func43 (by kernel_rfl) rfl
  · exact enters_of Tryz.func44 (by kernel_rfl) rfl
  · exact enters_of Tryz.func45 (by kernel_rfl) rfl
  · exact enters_of Tryz.func46 (by kernel_rfl) rfl
  · exact enters_of Tryz.func47 (by kernel_rfl) rfl
set_option maxHeartbeats 4000000 in
theorem line_any (bm : Nat) (k : ByteArray) (rest : List (List UInt8)) (h : Nat) (w : World) (hk : k.size ≤ 100000) (hn : rest.length ≤ 100000) (hW : ∀ l ∈ rest, l.length ≤ 100000) (hM : w.heap[bm]? = some (.map (mapT 7) 7))
    (h0 : w.cell? ⟨h, 0, none⟩ = some (.string k)) (hc : ∀ i l, rest[i]? = some l → w.cell? ⟨h, 1 + i, none⟩ = some (.string ⟨l.toArray⟩)) (hT : TabW w) :
    Calls Tryz.prog 29 #[.map (some bm), .slice (some ⟨h, 0, none⟩) (rest.length + 1) (rest.length + 1)] w (LinePost k.data.toList rest w) := by
  have hI := fun w0 hT0 => itoa_any 2800 w0 (by decide) (by decide) hT0
  have hA := errP_add 2800
  have hE : (⟨(errL 2800).toArray⟩ : ByteArray) = ⟨(errL 2800).toArray⟩ := rfl
  generalize (⟨(itoaL 2800).toArray⟩ : ByteArray) = s1 at hI hA
  have HLN : ∀ w', cmdsT.find? (fun c => c.1 == k.data.toList) = none → Below w.heap.size w w' → LinePost k.data.toList rest w (.returned (.string ⟨(errL 2800).toArray⟩)) w' := fun w' h1 h2 => line_none h1 h2
  have HLR : ∀ c w', cmdsT.find? (fun c => c.1 == k.data.toList) = some c → readL c.2.1 rest = none → Below w.heap.size w w' → LinePost k.data.toList rest w (.returned (.string ⟨(errL 2800).toArray⟩)) w' := fun c w' h1 h2 h3 => line_read h1 h2 h3
  generalize (⟨(errL 2800).toArray⟩ : ByteArray) = s2 at hA HLN HLR
  have HI := Lib.hid hI
  have HT := Lib.hid hT
  have HM := Lib.hid hM
  have HC := Lib.hid hc
  have HN := Lib.hid HLN
  have HR := Lib.hid HLR
  have HW := Lib.hid hW
  have H0 := Lib.hid h0
  clear hI hT hM hc HLN HLR hW hE h0
  go_enter Tryz.func29, Tryz.ntmps29
  go_wp2_with fail
  ((with_reducible refine (HI.out _ HT.out).mono ?_); rintro e w1 ⟨rfl, hb1⟩)
  have HB1 := Lib.hid hb1
  clear hb1
  have m0 := pw_cell_below HB1.out H0.out
  have HM1 := Lib.hid (map_below HM.out HB1.out)
  cases hf : cmdsT.find? (fun c => c.1 == k.data.toList) with
  | none =>
    have hlk := look_none w1 bm k HM1.out hf
    have HF := Lib.hid hf
    clear hf
    go_wp2_with fail
    go_ret
    exact HN.out _ HF.out (HB1.out.alloc HB1.out.size _)
  | some c =>
    have hlk : (Instr.lookup 48 (.map (some bm)) (.string k) true).run Tryz.prog w1 = .ok (.tuple #[.agg #[.string ⟨c.2.1.toArray⟩, .func (.func (fnT c.2.2)) #[] #[]], .bool true]) w1 := look_some w1 bm k c HM1.out hf
    have HF := Lib.hid hf
    have hkb : (⟨c.2.1.toArray⟩ : ByteArray).data.toList = c.2.1 := rfl
    generalize (⟨c.2.1.toArray⟩ : ByteArray) = kb at hlk hkb
    have hfd : fnT c.2.2 = fnT c.2.2 := rfl
    generalize hfn : fnT c.2.2 = fd at hlk
    have HFn := Lib.hid hfn
    clear hf hfd hfn
    have hmem := List.mem_of_find?_eq_some HF.out
    obtain ⟨hk1, hk2⟩ := cmd_len c hmem
    go_wp2_with fail
    have HB2 : Hid (Below w.heap.size w (w1.alloc (.cells #[.string kb, .func (.func fd) #[] #[]] 82))) := Lib.hid (HB1.out.alloc HB1.out.size _)
    have HK : Hid ((w1.alloc (.cells #[.string kb, .func (.func fd) #[] #[]] 82)).drew.cell? ⟨w1.heap.size, 0, none⟩ = some (.string kb)) := Lib.hid ((blk_cell (blk_drew (blk_new w1 _)) 0).trans rfl)
    have HK1 : Hid ((w1.alloc (.cells #[.string kb, .func (.func fd) #[] #[]] 82)).heap[w1.heap.size]? = some (.cells #[.string kb, .func (.func fd) #[] #[]] 82 (0, 0))) := Lib.hid (blk_new w1 _)
    generalize hg1 : w1.heap.size = g1 at HK HK1 ⊢
    generalize (w1.alloc (.cells #[.string kb, .func (.func fd) #[] #[]] 82)) = w2 at HB2 HK HK1 ⊢
    have HB2d : Hid (Below w.heap.size w w2.drew) := Lib.hid (below_drew1 HB2.out)
    have HK1d : Hid (w2.drew.heap[g1]? = some (.cells #[.string kb, .func (.func fd) #[] #[]] 82 (0, 0))) := Lib.hid (blk_drew HK1.out)
    have HCz : Hid (∀ i l, rest[i]? = some l → w2.drew.cell? ⟨h, 1 + i, none⟩ = some (.string ⟨l.toArray⟩)) := Lib.hid (fun i l hl => pw_cell_below HB2d.out (HC.out i l hl))
    clear HC H0 HM HM1 m0 HI hg1 HK1 HB2
    by_cases hz : rest = []
    · subst hz
      have HRd := Lib.hid (fun A c2 w0 => read_none kb c.2.1 hkb hk1 A c2 w0)
      have hN : readL c.2.1 [] = none := readL_len _ _ (by simp only [List.length_nil]; omega)
      have HF1 := Lib.hid (fun w' => HR.out c w' HF.out hN)
      clear hkb hk1 hk2 hlk HCz HR HN HW hn
      simp only [List.length_nil, Nat.zero_add]
      go_region_held3 (fun w' => w'.cell? ⟨g1, 0, none⟩ = some (.string kb)) (first | (with_reducible exact HK.out) | (with_reducible exact pw_cell_below hb1.out HK.out)) ((go_at_call 51; (with_reducible refine (HRd.out _ _ _).mono ?_); rintro e w3 ⟨gA, rfl, _, hb1_⟩; have hb1 := Lib.hid hb1_; clear hb1_))
      go_wp2_with fail
      go_ret
      exact HF1.out _ (HB2d.out.trans (hb1.out.mono HB2d.out.size))
    · obtain ⟨m, hm⟩ : ∃ m, rest.length = m + 1 := by
        rcases rest with _ | ⟨a, b⟩
        · exact absurd rfl hz
        · exact ⟨b.length, rfl⟩
      have HRd := Lib.hid (fun c2 w0 hw0 => read_some kb c.2.1 hkb hk2 rest HW.out h c2 w0 hw0)
      have HMem := Lib.hid hmem
      rw [hm] at HRd hn ⊢
      have hsl := slice_one h m
      clear hkb hk1 hk2 hlk hz hmem hm
      cases hx : readL c.2.1 rest with
      | none =>
        have HRd2 : Hid (∀ c2 w0, (∀ i l, rest[i]? = some l → w0.cell? ⟨h, 1 + i, none⟩ = some (.string ⟨l.toArray⟩)) → Calls Tryz.prog 51 #[.string kb, .slice (some ⟨h, 1, none⟩) (m + 1) c2] w0 fun e w' => ∃ g : Nat, e = .returned (.tuple #[.pointer (some ⟨g, 0, none⟩), .bool false]) ∧ Below w0.heap.size w0 w') := Lib.hid (fun c2 w0 hw0 => (HRd.out c2 w0 hw0).mono fun e w' ⟨g, h1, _, h3⟩ => ⟨g, by rw [hx] at h1; exact h1, h3⟩)
        have HF1 := Lib.hid (fun w' => HR.out c w' HF.out hx)
        clear HR HN HW HRd hx HMem
        go_region_held3 (fun w' => w'.cell? ⟨g1, 0, none⟩ = some (.string kb)) (first | (with_reducible exact HK.out) | (with_reducible exact pw_cell_below hb1.out HK.out)) ((go_at_call 51; (with_reducible refine (HRd2.out _ _ HCz.out).mono ?_); rintro e w3 ⟨gA, rfl, hb1_⟩; have hb1 := Lib.hid hb1_; clear hb1_))
        go_wp2_with fail
        go_ret
        exact HF1.out _ (HB2d.out.trans (hb1.out.mono HB2d.out.size))
      | some r =>
        have HRd2 : Hid (∀ c2 w0, (∀ i l, rest[i]? = some l → w0.cell? ⟨h, 1 + i, none⟩ = some (.string ⟨l.toArray⟩)) → Calls Tryz.prog 51 #[.string kb, .slice (some ⟨h, 1, none⟩) (m + 1) c2] w0 fun e w' => ∃ g : Nat, e = .returned (.tuple #[.pointer (some ⟨g, 0, none⟩), .bool true]) ∧ ArgsAt w' g r.1 r.2 ∧ Below w0.heap.size w0 w') := Lib.hid (fun c2 w0 hw0 => (HRd.out c2 w0 hw0).mono fun e w' ⟨g, h1, h2, h3⟩ => ⟨g, by rw [hx] at h1; exact h1, h2 _ hx, h3⟩)
        have HTl := Lib.hid (fun g w0 hA hT => tell_any c HMem.out rest HW.out r hx g w0 hA hT)
        have HF1 := Lib.hid (fun w' he hb => line_tell (w := w) (w' := w') HF.out hx he hb)
        have HF2 := Lib.hid (fun w' he hb => line_code (w := w) (w' := w') HF.out hx he hb)
        have hcd := tell_code c.2.2 r.1 r.2
        unfold TellPost at HTl
        generalize (⟨(tellL c.2.2 r.1 r.2).1.toArray⟩ : ByteArray) = tx at HTl HF1
        generalize (tellL c.2.2 r.1 r.2).2 = er at HTl HF1 HF2 hcd
        have HI := Lib.hid (fun w0 hT0 => itoa_any er w0 (by omega) (by omega) hT0)
        have hA2 := errP_add er
        have HHo := Lib.hid (callee_holds c.2.2)
        rw [HFn.out] at HTl HHo
        generalize (⟨(errL er).toArray⟩ : ByteArray) = ty at hA2 HF2
        generalize (⟨(itoaL er).toArray⟩ : ByteArray) = tz at hA2 HI
        clear HR HN HW HRd hx HMem HF HFn
        go_region_held3 (fun w' => w'.cell? ⟨g1, 0, none⟩ = some (.string kb)) (first | (with_reducible exact HK.out) | (with_reducible exact pw_cell_below hb1.out HK.out)) ((go_at_call 51; (with_reducible refine (HRd2.out _ _ HCz.out).mono ?_); rintro e w3 ⟨gA, rfl, hAr_, hb1_⟩; have hb1 := Lib.hid hb1_; have hAr := Lib.hid hAr_; clear hb1_ hAr_))
        have HB3 := Lib.hid (HB2d.out.trans (hb1.out.mono HB2d.out.size))
        have k1 : w3.cell? ⟨g1, 1, none⟩ = some (.func (.func fd) #[] #[]) := (blk_cell (map_below HK1d.out hb1.out) 1).trans rfl
        have eg := HHo.out
        have HAr := Lib.hid hAr.out
        have hT3 := Lib.hid (HT.out.later HB3.out)
        clear hAr HRd2 HCz HB2d HK1d HK hsl
        by_cases he : er = 0
        · have b1 : (er != 0) = false := by rw [bne_eq_false_iff_eq]; exact he
          have HX := Lib.hid (fun w' hb => HF1.out w' he hb)
          clear HI hA2 HF1 HF2 he hcd
          go_wp2_with fail
          ((with_reducible refine (HTl.out _ _ HAr.out hT3.out).mono ?_); rintro e w4 ⟨rfl, hb4⟩)
          have HB4 := Lib.hid (HB3.out.trans (hb4.mono HB3.out.size))
          clear hb4
          go_wp2_with fail
          go_ret
          exact HX.out _ HB4.out
        · have b1 : (er != 0) = true := by rw [bne_iff_ne]; exact he
          have HX := Lib.hid (fun w' hb => HF2.out w' he hb)
          clear HF1 HF2 he hcd
          go_wp2_with fail
          ((with_reducible refine (HTl.out _ _ HAr.out hT3.out).mono ?_); rintro e w4 ⟨rfl, hb4⟩)
          have HB4 := Lib.hid (HB3.out.trans (hb4.mono HB3.out.size))
          clear hb4
          go_wp2_with fail
          ((with_reducible refine (HI.out _ (HT.out.later HB4.out)).mono ?_); rintro e w5 ⟨rfl, hb5⟩)
          have HB5 := Lib.hid (HB4.out.trans (hb5.mono HB4.out.size))
          clear hb5
          go_wp2_with fail
          go_ret
          exact HX.out _ HB5.out
end Go.Proofs.YtlpibobpfafooaaGreatDoor.H
