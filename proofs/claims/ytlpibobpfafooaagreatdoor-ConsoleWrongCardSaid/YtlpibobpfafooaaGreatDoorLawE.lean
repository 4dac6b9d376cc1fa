/-
  ConsoleWrong, walked.
-/
import Derived.Test.YtlpibobpfafooaaGreatDoorLawD
set_option linter.unusedVariables false
set_option linter.unusedSimpArgs false
namespace Go.Proofs.YtlpibobpfafooaaGreatDoor.SpR
open Go.RowKit Go.Proofs.YtlpibobpfafooaaGreatDoor.SpQ Go.Proofs.YtlpibobpfafooaaGreatDoor.PR Go.Proofs.YtlpibobpfafooaaGreatDoorW.PrintWords Go.Proofs.YtlpibobpfafooaaGreatDoorW.PrintLast Go.Proofs.YtlpibobpfafooaaGreatDoorW.PrintMore Go.Proofs.Wy
theorem wrong_any (n : Int) (w : World) (h0 : -9223372036854775808 ≤ n) (h1 : n ≤ 9223372036854775807) :
    Calls Tryz.prog 12 #[.int .i64 n] w fun e w' => e = .returned (.string ⟨(errL n).toArray⟩) ∧ Below w.heap.size w w' := by
  have hs : Ev (fun k => withylaw28_wrong.f k n) ⟨(errL n).toArray⟩ := by
    unfold withylaw28_wrong.f
    refine Ev.bind (dec_spec n h0 h1) ?_
    have hz := size_lit (itoaL n)
    have hl := itoaL_length n
    refine Ev.ite_pos (by omega) ?_
    have e : (⟨#[101, 114, 114, 111, 114, 32]⟩ : ByteArray) ++ ⟨(itoaL n).toArray⟩ = ⟨(errL n).toArray⟩ := by
      apply ByteArray.ext
      simp [ByteArray.data_append, errL]
    rw [e]
    exact Ev.now _
  obtain ⟨k, h⟩ := hs.rounds
  exact withylaw28_wrong.calls k n _ w h
end Go.Proofs.YtlpibobpfafooaaGreatDoor.SpR
namespace Go.Proofs.YtlpibobpfafooaaGreatDoor.H
open Go.RowKit Go.Proofs.Wy Go.Proofs.YtlpibobpfafooaaGreatDoorW.PrintWords Go.Proofs

def wrongLs : List (List UInt8) := [[102, 99, 115], [102, 99, 115, 32, 48], [102, 99, 115, 32, 48, 103], [102, 114, 97, 109, 101, 32, 51, 51], [102, 114, 97, 109, 101, 32, 120, 32, 48, 48], [117, 110, 102, 114, 97, 109, 101], [102, 115, 109, 32, 49], [102, 115, 109, 32, 49, 32, 120], [109, 100, 53, 32, 48], [100, 101, 108, 97, 121, 32, 49, 32, 50, 32, 51], [116, 97, 114, 103, 101, 116, 32, 49, 32, 50, 32, 51], [70, 99, 115, 32, 48, 48], [102, 115, 109, 32, 49, 48, 32, 48], [102, 115, 109, 32, 48, 32, 49, 54], [102, 115, 109, 32, 57, 32, 48], [102, 114, 97, 109, 101, 32, 50, 32, 48, 48], [117, 110, 102, 114, 97, 109, 101, 32, 55, 101], [117, 110, 102, 114, 97, 109, 101, 32, 45], [100, 101, 108, 97, 121, 32, 45, 49, 32, 50, 32, 51, 32, 52], [116, 97, 114, 103, 101, 116, 32, 49, 32, 54, 51, 32, 49, 32, 50], [116, 97, 114, 103, 101, 116, 32, 45, 49, 32, 54, 52, 32, 49, 32, 50], [116, 97, 114, 103, 101, 116, 32, 53, 32, 54, 52, 32, 51, 32, 50]]
def tailE : List Int := [1000, 1000, 1001, 303, 300, 300, 1200, 2400, 2400, 2400]
def badL : List UInt8 := [101, 114, 114, 111, 114, 32, 50, 56, 48, 48]
def wantL : List (List UInt8) := List.replicate 12 badL ++ tailE.map errL
set_option maxRecDepth 100000 in
theorem wrongs_out : ∀ k : Fin 22, runL (wrongLs.getD k.val []) = (wantL.getD k.val [] ++ [10], 0) ∧ (wantL.getD k.val []).length ≤ 20 := by decide +kernel
/-- The wants when i of the twelve are laid. -/
def mixC (i : Nat) : Array Value := (List.replicate i (Value.string ⟨badL.toArray⟩) ++ List.replicate (12 - i) (Value.string ⟨#[]⟩)).toArray
theorem mix_next (i : Nat) (h : i < 12) : (mixC i).setIfInBounds i (.string ⟨badL.toArray⟩) = mixC (i + 1) := by
  have : i = 0 ∨ i = 1 ∨ i = 2 ∨ i = 3 ∨ i = 4 ∨ i = 5 ∨ i = 6 ∨ i = 7 ∨ i = 8 ∨ i = 9 ∨ i = 10 ∨ i = 11 := by omega
  rcases this with rfl | rfl | rfl | rfl | rfl | rfl | rfl | rfl | rfl | rfl | rfl | rfl <;> rfl
def wantV (k : Nat) : List Value := List.replicate 12 (Value.string ⟨badL.toArray⟩) ++ ((tailE.take k).map fun e => Value.string ⟨(errL e).toArray⟩)
theorem wantV_next (k : Nat) (e : Int) (h : tailE[k]? = some e) : wantV k ++ [.string ⟨(errL e).toArray⟩] = wantV (k + 1) := by
  obtain ⟨hk, rfl⟩ := List.getElem?_eq_some_iff.1 h
  unfold wantV
  rw [List.take_succ_eq_append_getElem hk, List.map_append, List.append_assoc]
  rfl
theorem wantV_len (k : Nat) (h : k ≤ 10) : (wantV k).length = 12 + k := by
  unfold wantV
  rw [List.length_append, List.length_replicate, List.length_map, List.length_take]
  have : tailE.length = 10 := rfl
  omega
theorem wantV_at (k : Nat) (h : k < 22) : (wantV 10)[k]? = some (.string ⟨(wantL.getD k []).toArray⟩) := by
  have e : wantV 10 = wantL.map fun x => Value.string ⟨x.toArray⟩ := by
    unfold wantV wantL
    rw [List.map_append, List.map_replicate, List.map_map]
    rfl
  have hl : k < wantL.length := h
  rw [e, List.getElem?_map, List.getElem?_eq_getElem hl, List.getD_eq_getElem?_getD, List.getElem?_eq_getElem hl]
  rfl
def lsC : Array Value := (wrongLs.map fun x => Value.string ⟨x.toArray⟩).toArray
def tlC : Array Value := (tailE.map fun e => Value.int .i64 e).toArray
theorem rem22 (v : Int) : ∃ j : Nat, (IntKind.u64.wrap v).tmod 22 = (j : Int) ∧ j < 22 := by
  have h : 0 ≤ IntKind.u64.wrap v := by
    show 0 ≤ v % 18446744073709551616
    omega
  have h2 := Int.tmod_nonneg 22 h
  have h3 := Int.tmod_lt_of_pos (IntKind.u64.wrap v) (show (0 : Int) < 22 by omega)
  exact ⟨((IntKind.u64.wrap v).tmod 22).toNat, by omega, by omega⟩
/-- The first loop: the lines' row, and the wants half laid. -/
structure W1 (w wr : World) (g : Nat) (i : Nat) : Prop where
  row : wr.heap[g]? = some (.cells lsC 9 (0, 0))
  mix : wr.heap[g + 1]? = some (.cells (mixC i) 9 (0, 0))
  low : Below w.heap.size w wr
  at_ : w.heap.size ≤ g
theorem W1.put {w wr : World} {g i : Nat} (h : W1 w wr g i) (hi : i < 12) : W1 w (wr.setCell ⟨g + 1, i, none⟩ (.string ⟨badL.toArray⟩)) g (i + 1) :=
  ⟨(Below.heap_setCell wr ⟨g + 1, i, none⟩ _ g (by show g ≠ g + 1; omega)).trans h.row, blk_put h.mix i _ (mix_next i hi), h.low.setCell (Nat.le_trans h.at_ (Nat.le_succ g)) _, h.at_⟩
/-- The second loop. -/
structure W2 (w W0 wr : World) (g gt : Nat) (v : Value) (k : Nat) : Prop where
  row : W0.heap[g]? = some (.cells lsC 9 (0, 0))
  own : wr.ownsRow (g + 1) 9 1 v (wantV k).length (wantV k)
  tl : wr.heap[gt]? = some (.cells tlC 3 (0, 0))
  kept : Below (g + 1) W0 wr
  low : Below w.heap.size w W0
  at_ : w.heap.size ≤ g
theorem W2.all {w W0 wr : World} {g gt k : Nat} {v : Value} (h : W2 w W0 wr g gt v k) : Below w.heap.size w wr := h.low.trans (h.kept.mono (Nat.le_trans h.at_ (Nat.le_succ g)))
theorem W2.line {w W0 wr : World} {g gt k : Nat} {v : Value} (h : W2 w W0 wr g gt v k) : wr.heap[g]? = some (.cells lsC 9 (0, 0)) := (h.kept.block g (Nat.lt_succ_self g)).trans h.row
theorem W2.below {w W0 wr w1 : World} {g gt k : Nat} {v : Value} (h : W2 w W0 wr g gt v k) (hb : Below wr.heap.size wr w1) : W2 w W0 w1 g gt v k :=
  ⟨h.row, pw_own_below h.own hb, map_below h.tl hb, h.kept.trans (hb.mono (blk_lt h.line)), h.low, h.at_⟩
theorem W1.second {w wr : World} {g : Nat} (h : W1 w wr g 12) : W2 w wr (wr.alloc (.cells tlC 3)) g wr.heap.size (.slice (some ⟨g + 1, 0, none⟩) 12 12) 0 := by
  have hb := (Below.refl wr.heap.size wr).alloc (Nat.le_refl _) (.cells tlC 3)
  have hg := blk_lt h.mix
  refine ⟨h.row, ⟨rfl, .inr ⟨g + 1, 12, mixC 12, rfl, Nat.le_refl _, map_below h.mix hb, Nat.le_refl _, by decide, rfl, rfl⟩⟩, blk_new _ _, hb.mono (by omega), h.low, h.at_⟩

theorem make_12 (w0 : World) : (Instr.makeSlice 23 (.int .i64 12) (.int .i64 12)).run Tryz.prog w0 = .ok (.slice (some ⟨w0.heap.size, 0, none⟩) 12 12) (w0.alloc (.cells (mixC 0) 9)) := by kernel_rfl
set_option maxHeartbeats 4000000 in
set_option maxRecDepth 10000 in
theorem wrong_walk (which : Int) (w : World) (hw : (Lit.int .i64 which).wf = true) (hT : TabW w) :
    Calls Tryz.prog 3 #[.int .i64 which] w fun e w' => e = .returned (.bool true) ∧ Below w.heap.size w w' := by
  have HT := Lib.hid hT
  have HAw := Lib.hid (awake_any w hT)
  have hmk := make_12
  clear hT hw
  go_enter Tryz.func3, Tryz.ntmps3
  go_wp2_with fail
  ((with_reducible refine HAw.out.mono ?_); rintro e w1 ⟨rfl, hb1⟩)
  have HB1 := Lib.hid hb1
  clear hb1
  go_wp2_with fail
  have HS : Hid (∀ X, X = w1.alloc (.cells lsC 9) → W1 w (X.alloc (.cells (mixC 0) 9)) w1.heap.size 0) := Lib.hid (fun X hX => by
    subst hX
    have z : (w1.alloc (.cells lsC 9)).heap.size = w1.heap.size + 1 := by simp
    have hb2 := HB1.out.alloc HB1.out.size (.cells lsC 9)
    refine ⟨map_below (blk_new w1 _) ((Below.refl _ _).alloc (Nat.le_refl _) _), ?_, hb2.alloc hb2.size _, HB1.out.size⟩
    rw [← z]
    exact blk_new _ _)
  clear hmk
  go_loopw [5] (fun v5 wr => ∃ i : Nat, i ≤ 12 ∧ v5 = .int .i64 (i : Int) ∧ Hid (W1 w wr w1.heap.size i)) (fun v5 _ => 12 - (intOf v5).toNat)
  case atStart => exact ⟨0, Nat.zero_le _, rfl, Lib.hid (HS.out _ rfl)⟩
  case round =>
    obtain ⟨i, hi, rfl, hR⟩ := hrel
    clear HS
    generalize w1.heap.size = g at hR ⊢
    by_cases hlt : i < 12
    · obtain ⟨old, ho⟩ : ∃ old, wr.cell? ⟨g + 1, i, none⟩ = some old := by
        rw [blk_cell hR.out.mix i]
        exact ⟨_, Array.getElem?_eq_getElem (by show i < (mixC i).size; unfold mixC; simp; omega)⟩
      have m1 : wr.frozen? ⟨g + 1, i, none⟩ = false := blk_frozen hR.out.mix i
      have z1 : (i : Int) < 12 := by omega
      have HN := Lib.hid (hR.out.put hlt)
      go_wp2_with fail
      go_roundw
      case rel => exact ⟨i + 1, by omega, by go_num, HN⟩
      case measure => simp [intOf]; omega
    · have hi12 : i = 12 := by omega
      have HS2 := Lib.hid (hi12 ▸ hR.out : W1 w wr g 12).second
      have zi : ¬ ((i : Int) < 12) := by omega
      generalize (i : Int) = ii at zi ⊢
      clear hR hlt hi hi12
      obtain ⟨W0, hW0⟩ : ∃ W0, W0 = wr := ⟨_, rfl⟩
      subst hW0
      go_wp2_with fail
      go_loopw [4, 7] (fun v4 v7 wr2 => ∃ k : Nat, k ≤ 10 ∧ v7 = .int .i64 (k : Int) ∧ Hid (W2 w W0 wr2 g W0.heap.size v4 k)) (fun _ v7 _ => 10 - (intOf v7).toNat)
      case atStart => exact ⟨0, Nat.zero_le _, rfl, HS2⟩
      case round =>
        obtain ⟨k, hk, rfl, hR⟩ := hrel
        clear HS2
        generalize hgt : W0.heap.size = gt at hR ⊢
        clear hgt
        by_cases hlt : k < 10
        · obtain ⟨er, her⟩ : ∃ er, tailE[k]? = some er := ⟨_, List.getElem?_eq_getElem (show k < tailE.length from hlt)⟩
          have hem := List.mem_of_getElem? her
          have heb : 0 ≤ er ∧ er ≤ 10000 := (show ∀ e ∈ tailE, 0 ≤ e ∧ e ≤ 10000 by decide) er hem
          have m0 : wr.cell? ⟨gt, k, none⟩ = some (.int .i64 er) := (blk_cell hR.out.tl k).trans (by unfold tlC; rw [List.getElem?_toArray, List.getElem?_map, her]; rfl)
          have z1 : (k : Int) < 10 := by omega
          have hnx := wantV_next k er her
          have hwl := wantV_len k hk
          have HWr := Lib.hid (fun w0 => SpR.wrong_any er w0 (by omega) (by omega))
          generalize (⟨(errL er).toArray⟩ : ByteArray) = Z at hnx HWr
          have HNx := Lib.hid hnx
          have HWl := Lib.hid (And.intro hwl (wantV_len (k + 1) hlt))
          clear hnx hwl her hem heb
          go_wp2_with fail
          ((with_reducible refine (HWr.out _).mono ?_); rintro e w3 ⟨rfl, hb3⟩)
          have HR3 := Lib.hid (hR.out.below hb3)
          clear hb3 m0 hR
          go_wp2_with (at_builtin; refine print_append (w0 := W0) (g + 1) rfl (.tmp 25) (.tmp 31) 23 9 (.string ⟨#[]⟩) 16 rfl Tryz.underlying23 info_str rfl (by decide) u4 (wantV k) (.string Z) rfl rfl rfl HR3.out.own HR3.out.kept (blk_lt HR3.out.line) ?aL ?_; (case aL => (have := HWl.out.1; omega)); intro v5 w5 ho hb hg hat; have HR5 : Hid (W2 w W0 w5 g gt v5 (k + 1)) := Lib.hid ⟨HR3.out.row, (by have := ho; rw [HNx.out] at this; exact this), blk_grown HR3.out.tl hg (own_ne HR3.out.own HR3.out.tl (by decide)), hb, HR3.out.low, HR3.out.at_⟩; clear ho hb hg hat)
          go_roundw
          case rel => exact ⟨k + 1, by omega, by go_num, HR5⟩
          case measure => simp [intOf]; omega
        · have hk10 : k = 10 := by omega
          have HR := Lib.hid (hk10 ▸ hR.out : W2 w W0 wr g gt u4 10)
          have zk : ¬ ((k : Int) < 10) := by omega
          generalize (k : Int) = kk at zk ⊢
          clear hR hlt hk hk10
          obtain ⟨q, hq, hq22⟩ := rem22 which
          have hq2 : IntKind.i64.wrap (q : Int) = (q : Int) := i64_id _ (by omega) (by omega)
          have zq : (q : Int) < 22 := by omega
          obtain ⟨hr, hrl⟩ := wrongs_out ⟨q, hq22⟩
          have hwv := wantV_at q hq22
          dsimp only at hr hrl
          have hcl : wr.cell? ⟨g, q, none⟩ = some (.string ⟨(wrongLs.getD q []).toArray⟩) := (blk_cell HR.out.line q).trans (by
            have hl : q < wrongLs.length := hq22
            unfold lsC
            rw [List.getElem?_toArray, List.getElem?_map, List.getElem?_eq_getElem hl, List.getD_eq_getElem?_getD, List.getElem?_eq_getElem hl]
            rfl)
          have HOne := Lib.hid (fun w0 hT0 => one_any ⟨(wrongLs.getD q []).toArray⟩ (wrongLs.getD q []) (wantL.getD q []) w0 rfl hr (by omega) hT0)
          generalize (⟨(wrongLs.getD q []).toArray⟩ : ByteArray) = Lq at hcl HOne
          generalize (⟨(wantL.getD q []).toArray⟩ : ByteArray) = Wq at hwv HOne
          obtain ⟨h, cap, hv, hcap, hcells⟩ := (RowAt.own HR.out.own).resolve_left (by intro e; have := congrArg List.length e; rw [wantV_len 10 (by decide)] at this; simp at this)
          have hl22 : (wantV 10).length = 22 := wantV_len 10 (by decide)
          rw [hl22] at hv hcap
          have hcw := hcells q _ hwv
          have HAll := Lib.hid HR.out.all
          subst hv
          clear hr hrl hwv hcells hl22 hcap HR hq22
          have HK : Hid (wr.drew.cell? ⟨g, q, none⟩ = some (.string Lq) ∧ wr.drew.cell? ⟨h, q, none⟩ = some (.string Wq)) := Lib.hid ⟨hcl, hcw⟩
          have HTd : Hid (TabW wr.drew) := Lib.hid (HT.out.later (below_drew1 HAll.out))
          clear hcl hcw
          go_wp2_with fail
          go_region_held3 (fun w' => w'.cell? ⟨g, q, none⟩ = some (.string Lq) ∧ w'.cell? ⟨h, q, none⟩ = some (.string Wq)) (first | (with_reducible exact HK.out) | (with_reducible exact ⟨pw_cell_below hb1.out HK.out.1, pw_cell_below hb1.out HK.out.2⟩)) ((go_at_call 13; (with_reducible refine (HOne.out _ HTd.out).mono ?_); rintro e w4 ⟨rfl, hb1_⟩; have hb1 := Lib.hid hb1_; clear hb1_))
          go_wp2_with fail
          go_ret
          exact ⟨rfl, HAll.out.trans ((below_drew_then hb1.out).mono HAll.out.size)⟩
end Go.Proofs.YtlpibobpfafooaaGreatDoor.H
