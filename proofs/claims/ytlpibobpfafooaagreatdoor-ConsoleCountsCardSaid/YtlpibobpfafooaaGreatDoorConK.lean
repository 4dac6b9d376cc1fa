/-
  Contract at this seat: a line's words read as its kinds ask.
-/
import Derived.Test.YtlpibobpfafooaaGreatDoorConI
import Derived.MapKept
import Derived.Carry
set_option linter.unusedVariables false
set_option linter.unusedSimpArgs false
namespace Go.Proofs.YtlpibobpfafooaaGreatDoor.H
open Go.RowKit Go.Proofs.Wy Go.Proofs.YtlpibobpfafooaaGreatDoorW.PrintWords

theorem own_ne {w : World} {v : Value} {B e n g t : Nat} {xs : List Value} {cs : Array Value} (h : w.ownsRow B e 1 v n xs) (hb : w.heap[g]? = some (.cells cs t (0, 0))) (ht : e ≠ t) : some g ≠ v.ownBlock := by
  rcases h.2 with ⟨rfl, hn⟩ | ⟨g2, cap, cur, rfl, hb2, hg, rest⟩
  · simp [Value.ownBlock]
  · intro e2
    simp only [Value.ownBlock, Option.some.injEq] at e2
    subst e2
    rw [hb] at hg
    injection hg with hg
    injection hg with _ h3 _
    exact ht h3.symm
theorem own_other {w : World} {v v2 : Value} {B B2 e e2 n n2 : Nat} {xs xs2 : List Value} (h : w.ownsRow B e 1 v n xs) (h2 : w.ownsRow B2 e2 1 v2 n2 xs2) (ht : e ≠ e2) {w1 : World} (hg : w.grownBy w1 v2.ownBlock) : w1.ownsRow B e 1 v n xs := by
  refine ⟨h.1, ?_⟩
  rcases h.2 with h0 | ⟨g, cap, cur, hv, hb, hgb, rest⟩
  · exact .inl h0
  · have hne : some g ≠ v2.ownBlock := own_ne h2 hgb (fun e => ht e.symm)
    refine .inr ⟨g, cap, cur, hv, hb, (hg.block g (blk_lt hgb) hne).trans hgb, rest⟩

/-! ### reading, word by word -/
def UnR (K : List UInt8) (W : List (List UInt8)) (k : Nat) (ns : List Int) (bs : List (List UInt8)) : Prop := readL K W = (readL (K.drop k) (W.drop k)).map fun r => (ns ++ r.1, bs ++ r.2)
theorem UnR.zero (K : List UInt8) (W : List (List UInt8)) : UnR K W 0 [] [] := by simp [UnR]
theorem readL_len : ∀ (K : List UInt8) (W : List (List UInt8)), W.length ≠ K.length → readL K W = none
  | [], [], h => absurd rfl h
  | [], _ :: _, _ => rfl
  | _ :: _, [], _ => rfl
  | k :: K, w :: W, h => by
    have ih := readL_len K W (by simpa using h)
    unfold readL
    rw [ih]
    split
    · cases numberL w <;> rfl
    · cases unhexL w <;> rfl
section
variable {K : List UInt8} {W : List (List UInt8)} {k : Nat} {ns : List Int} {bs : List (List UInt8)} {c : UInt8} {l : List UInt8}
theorem UnR.num (h : UnR K W k ns bs) (hc : K[k]? = some c) (hl : W[k]? = some l) (h1 : c = 110) {x : Int} (hx : numberL l = some x) : UnR K W (k + 1) (ns ++ [x]) bs := by
  obtain ⟨a1, a2⟩ := List.getElem?_eq_some_iff.1 hc
  obtain ⟨b1, b2⟩ := List.getElem?_eq_some_iff.1 hl
  unfold UnR at h ⊢
  rw [h, List.drop_eq_getElem_cons a1, List.drop_eq_getElem_cons b1, a2, b2, readL, if_pos h1, hx, Option.map_map]
  congr 1
  funext r
  simp
theorem UnR.numNo (h : UnR K W k ns bs) (hc : K[k]? = some c) (hl : W[k]? = some l) (h1 : c = 110) (hx : numberL l = none) : readL K W = none := by
  obtain ⟨a1, a2⟩ := List.getElem?_eq_some_iff.1 hc
  obtain ⟨b1, b2⟩ := List.getElem?_eq_some_iff.1 hl
  unfold UnR at h
  rw [h, List.drop_eq_getElem_cons a1, List.drop_eq_getElem_cons b1, a2, b2, readL, if_pos h1, hx]
  rfl
theorem UnR.str (h : UnR K W k ns bs) (hc : K[k]? = some c) (hl : W[k]? = some l) (h1 : c ≠ 110) {x : List UInt8} (hx : unhexL l = some x) : UnR K W (k + 1) ns (bs ++ [x]) := by
  obtain ⟨a1, a2⟩ := List.getElem?_eq_some_iff.1 hc
  obtain ⟨b1, b2⟩ := List.getElem?_eq_some_iff.1 hl
  unfold UnR at h ⊢
  rw [h, List.drop_eq_getElem_cons a1, List.drop_eq_getElem_cons b1, a2, b2, readL, if_neg h1, hx, Option.map_map]
  congr 1
  funext r
  simp
theorem UnR.strNo (h : UnR K W k ns bs) (hc : K[k]? = some c) (hl : W[k]? = some l) (h1 : c ≠ 110) (hx : unhexL l = none) : readL K W = none := by
  obtain ⟨a1, a2⟩ := List.getElem?_eq_some_iff.1 hc
  obtain ⟨b1, b2⟩ := List.getElem?_eq_some_iff.1 hl
  unfold UnR at h
  rw [h, List.drop_eq_getElem_cons a1, List.drop_eq_getElem_cons b1, a2, b2, readL, if_neg h1, hx]
  rfl
theorem UnR.done (h : UnR K W k ns bs) (h1 : K.length ≤ k) (h2 : W.length ≤ k) : readL K W = some (ns, bs) := by
  unfold UnR at h
  rw [h, List.drop_of_length_le h1, List.drop_of_length_le h2]
  simp [readL]
end
theorem ints_snoc (ns : List Int) (x : Int) : ints (ns ++ [x]) = nums .i64 (ns ++ [x]) := rfl
def ReadPost (K : List UInt8) (W : List (List UInt8)) (w : World) (e : Ending) (w' : World) : Prop :=
  ∃ g : Nat, e = .returned (.tuple #[.pointer (some ⟨g, 0, none⟩), .bool (readL K W).isSome]) ∧ (∀ r, readL K W = some r → ArgsAt w' g r.1 r.2) ∧ Below w.heap.size w w'
theorem ReadPost.no {K : List UInt8} {W : List (List UInt8)} {w w' : World} (g : Nat) (h : readL K W = none) (hb : Below w.heap.size w w') : ReadPost K W w (.returned (.tuple #[.pointer (some ⟨g, 0, none⟩), .bool false])) w' := ⟨g, by rw [h]; rfl, (fun r hr => by rw [h] at hr; cases hr), hb⟩
theorem ReadPost.yes {K : List UInt8} {W : List (List UInt8)} {w w' : World} (g : Nat) {ns : List Int} {bs : List (List UInt8)} (h : readL K W = some (ns, bs)) (ha : ArgsAt w' g ns bs) (hb : Below w.heap.size w w') : ReadPost K W w (.returned (.tuple #[.pointer (some ⟨g, 0, none⟩), .bool true])) w' := ⟨g, by rw [h]; rfl, (fun r hr => by rw [h] at hr; cases hr; exact ha), hb⟩

set_option maxHeartbeats 1000000 in
theorem read_len (kb : ByteArray) (A : Option Addr) (n c : Nat) (W : List (List UInt8)) (w : World) (hn : n = W.length) (hne : n ≠ kb.size) :
    Calls Tryz.prog 51 #[.string kb, .slice A n c] w (ReadPost kb.data.toList W w) := by
  have hl : kb.data.toList.length = kb.size := Array.length_toList
  have HN := Lib.hid (readL_len kb.data.toList W (by omega))
  have b0 : ((n : Int) != (kb.size : Int)) = true := by rw [bne_iff_ne]; omega
  have b1 : (n != kb.size) = true := by rw [bne_iff_ne]; omega
  clear hn hl hne
  go_enter Tryz.func51, Tryz.ntmps51
  go_wp2
  go_ret2
  exact ReadPost.no w.heap.size HN.out ((Below.refl _ w).alloc (Nat.le_refl _) _)

theorem info_int : (Tryz.prog.info? 3).map (fun i => (i.zero, i.size, i.bytes)) = some (some (.int .i64 0), 1, 8) := by kernel_rfl
theorem info_str : (Tryz.prog.info? 9).map (fun i => (i.zero, i.size, i.bytes)) = some (some (.string ⟨#[]⟩), 1, 16) := by kernel_rfl
theorem strv_snoc (bs : List (List UInt8)) (x : List UInt8) : strv (bs ++ [x]) = strv bs ++ [.string ⟨x.toArray⟩] := by simp [strv]
theorem strv_len (bs : List (List UInt8)) : (strv bs).length = bs.length := by simp [strv]
theorem ints_len (ns : List Int) : (ints ns).length = ns.length := by simp [ints]
/-- The state of the loop: block g holds the rows of numbers and of bytes, both made by the call. -/
structure Rd (w0 wr : World) (g : Nat) (vn vb : Value) (ns : List Int) (bs : List (List UInt8)) : Prop where
  blk : wr.heap[g]? = some (.cells #[vn, vb] 97 (0, 0))
  num : wr.ownsRow w0.heap.size 3 1 vn ns.length (nums .i64 ns)
  str : wr.ownsRow w0.heap.size 9 1 vb (strv bs).length (strv bs)
  low : Below w0.heap.size w0 wr
  at_ : w0.heap.size ≤ g
theorem Rd.below {w0 wr w1 : World} {g : Nat} {vn vb : Value} {ns : List Int} {bs : List (List UInt8)} (h : Rd w0 wr g vn vb ns bs) (hb : Below wr.heap.size wr w1) : Rd w0 w1 g vn vb ns bs :=
  ⟨blk_below h.blk hb, pw_own_below h.num hb, pw_own_below h.str hb, h.low.trans (hb.mono h.low.size), h.at_⟩
theorem Rd.c0 {w0 wr : World} {g : Nat} {vn vb : Value} {ns : List Int} {bs : List (List UInt8)} (h : Rd w0 wr g vn vb ns bs) : wr.cell? ⟨g, 0, none⟩ = some vn := (blk_cell h.blk 0).trans rfl
theorem Rd.c1 {w0 wr : World} {g : Nat} {vn vb : Value} {ns : List Int} {bs : List (List UInt8)} (h : Rd w0 wr g vn vb ns bs) : wr.cell? ⟨g, 1, none⟩ = some vb := (blk_cell h.blk 1).trans rfl
theorem Rd.f0 {w0 wr : World} {g : Nat} {vn vb : Value} {ns : List Int} {bs : List (List UInt8)} (h : Rd w0 wr g vn vb ns bs) (i : Nat) : wr.frozen? ⟨g, i, none⟩ = false := blk_frozen h.blk i
theorem Rd.args {w0 wr : World} {g : Nat} {vn vb : Value} {ns : List Int} {bs : List (List UInt8)} (h : Rd w0 wr g vn vb ns bs) : ArgsAt wr g ns bs :=
  ⟨vn, vb, h.blk, RowAt.own (by have := h.num; have e : nums .i64 ns = ints ns := rfl; rw [e] at this; rw [ints_len]; exact this), RowAt.own h.str⟩
/-- Behind the append to the numbers: the block stands, the bytes stand. -/
structure RdN (w0 w2 : World) (g : Nat) (v1 vn vb : Value) (ns : List Int) (bs : List (List UInt8)) : Prop where
  blk : w2.heap[g]? = some (.cells #[vn, vb] 97 (0, 0))
  num : w2.ownsRow w0.heap.size 3 1 v1 ns.length (nums .i64 ns)
  str : w2.ownsRow w0.heap.size 9 1 vb (strv bs).length (strv bs)
  low : Below w0.heap.size w0 w2
  at_ : w0.heap.size ≤ g
theorem RdN.set {w0 w2 : World} {g : Nat} {v1 vn vb : Value} {ns : List Int} {bs : List (List UInt8)} (h : RdN w0 w2 g v1 vn vb ns bs) : Rd w0 (w2.setCell ⟨g, 0, none⟩ v1) g v1 vb ns bs :=
  ⟨blk_put h.blk 0 v1 rfl, own_setCell h.num (own_ne h.num h.blk (by decide)) v1, own_setCell h.str (own_ne h.str h.blk (by decide)) v1, h.low.setCell h.at_ _, h.at_⟩
structure RdS (w0 w2 : World) (g : Nat) (v1 vn vb : Value) (ns : List Int) (bs : List (List UInt8)) : Prop where
  blk : w2.heap[g]? = some (.cells #[vn, vb] 97 (0, 0))
  num : w2.ownsRow w0.heap.size 3 1 vn ns.length (nums .i64 ns)
  str : w2.ownsRow w0.heap.size 9 1 v1 (strv bs).length (strv bs)
  low : Below w0.heap.size w0 w2
  at_ : w0.heap.size ≤ g
theorem RdS.set {w0 w2 : World} {g : Nat} {v1 vn vb : Value} {ns : List Int} {bs : List (List UInt8)} (h : RdS w0 w2 g v1 vn vb ns bs) : Rd w0 (w2.setCell ⟨g, 1, none⟩ v1) g vn v1 ns bs :=
  ⟨blk_put h.blk 1 v1 rfl, own_setCell h.num (own_ne h.num h.blk (by decide)) v1, own_setCell h.str (own_ne h.str h.blk (by decide)) v1, h.low.setCell h.at_ _, h.at_⟩

set_option maxHeartbeats 4000000 in
theorem read_eq (kb : ByteArray) (h o c : Nat) (W : List (List UInt8)) (w : World) (hn : W.length = kb.size) (hk : kb.size ≤ 100) (hW : ∀ l ∈ W, l.length ≤ 100000)
    (hc : ∀ i l, W[i]? = some l → w.cell? ⟨h, o + i, none⟩ = some (.string ⟨l.toArray⟩)) :
    Calls Tryz.prog 51 #[.string kb, .slice (some ⟨h, o, none⟩) W.length c] w (ReadPost kb.data.toList W w) := by
  have hl : kb.data.toList.length = kb.size := Array.length_toList
  have b0 : ((W.length : Int) != (kb.size : Int)) = false := by rw [bne_eq_false_iff_eq]; omega
  have b1 : (W.length != kb.size) = false := by rw [bne_eq_false_iff_eq]; omega
  have HL := Lib.hid hl
  have HC := Lib.hid hc
  have HW := Lib.hid hW
  have HN := Lib.hid hn
  clear hl hc hW hn
  go_enter Tryz.func51, Tryz.ntmps51
  go_wp2
  clear b0 b1
  go_loopw [23] (fun v23 wr => ∃ (k : Nat) (vn vb : Value) (ns : List Int) (bs : List (List UInt8)), k ≤ W.length ∧ v23 = .int .i64 (k : Int) ∧ Hid (ns.length ≤ k ∧ bs.length ≤ k) ∧ Hid (UnR kb.data.toList W k ns bs) ∧ Hid (Rd w wr w.heap.size vn vb ns bs)) (fun v23 _ => W.length - (intOf v23).toNat)
  case atStart => exact ⟨0, .slice none 0 0, .slice none 0 0, [], [], Nat.zero_le _, rfl, Lib.hid ⟨by simp, by simp⟩, Lib.hid (UnR.zero _ _), Lib.hid ⟨blk_new w _, World.ownsRow_nil _ _ _ _, World.ownsRow_nil _ _ _ _, (Below.refl _ w).alloc (Nat.le_refl _) _, Nat.le_refl _⟩⟩
  case round =>
    obtain ⟨k, vn, vb, ns, bs, hk2, rfl, hnb, hU, hR⟩ := hrel
    by_cases hlt : k < W.length
    · obtain ⟨l, hl⟩ : ∃ l, W[k]? = some l := ⟨_, List.getElem?_eq_getElem hlt⟩
      have hcell := pw_cell_below hR.out.low (HC.out k l hl)
      have hll := HW.out l (List.mem_of_getElem? hl)
      have hkk : k < kb.size := by have := HN.out; omega
      have hKc : kb.data.toList[k]? = some kb[k] := by
        rw [List.getElem?_eq_getElem (by rw [HL.out]; exact hkk)]
        rfl
      have r1 := idx_at kb k (k : Int) rfl hkk
      generalize kb[k] = ch at hKc r1
      have hls : (⟨l.toArray⟩ : ByteArray).size = l.length := size_lit l
      have hld : (⟨l.toArray⟩ : ByteArray).data.toList = l := rfl
      by_cases hch : ch = 110
      · have b2 : ((ch.toNat : Int) == 110) = true := by rw [hch]; rfl
        have hNum := fun w0 => number_any ⟨l.toArray⟩ w0 (by omega)
        rw [hld] at hNum
        generalize (⟨l.toArray⟩ : ByteArray) = L at hcell hls hld hNum
        cases hx : numberL l with
        | none =>
          have HNo := Lib.hid (hU.out.numNo hKc hl hch hx)
          have hNum2 : ∀ w0, Calls Tryz.prog 74 #[.string L] w0 fun e w' => e = .returned (.tuple #[.int .i64 0, .bool false]) ∧ Below w0.heap.size w0 w' := fun w0 => (hNum w0).mono fun e w' h => by unfold NumPost at h; rw [hx] at h; exact h
          have HNum := Lib.hid hNum2
          clear hNum hNum2 hx hch hl hKc hls hld hll
          go_wp2_with fail
          ((with_reducible refine (HNum.out _).mono ?_); rintro e w1 ⟨rfl, hb1⟩)
          have HB1 := Lib.hid (hR.out.below hb1).low
          clear hb1
          go_wp2_with fail
          go_ret2
          exact ReadPost.no _ HNo.out HB1.out
        | some x =>
          have HU2 := Lib.hid (hU.out.num hKc hl hch hx)
          have hNum2 : ∀ w0, Calls Tryz.prog 74 #[.string L] w0 fun e w' => e = .returned (.tuple #[.int .i64 x, .bool true]) ∧ Below w0.heap.size w0 w' := fun w0 => (hNum w0).mono fun e w' h => by unfold NumPost at h; rw [hx] at h; exact h
          have HNum := Lib.hid hNum2
          clear hNum hNum2 hx hch hl hKc hls hld hll
          go_wp2_with fail
          ((with_reducible refine (HNum.out _).mono ?_); rintro e w1 ⟨rfl, hb1⟩)
          have HR1 := Lib.hid (hR.out.below hb1)
          have k0 := HR1.out.c0
          clear hb1 hR hcell
          go_wp2_with (at_builtin; refine print_append_num (w0 := w) w.heap.size rfl (.tmp 44) (.tmp 46) 24 3 .i64 8 rfl Tryz.underlying24 info_int (by decide) vn ns x rfl rfl HR1.out.num HR1.out.low HR1.out.low.size ?aL ?_; (case aL => (have := hnb.out.1; omega)); intro v5 w5 ho hb hg hat; obtain ⟨A5, c5, rfl⟩ := own_slice ho; have HR5 : Hid (RdN w w5 w.heap.size (.slice A5 (ns.length + 1) c5) vn vb (ns ++ [x]) bs) := Lib.hid ⟨blk_grown HR1.out.blk hg (own_ne HR1.out.num HR1.out.blk (by decide)), (by have e : (ns ++ [x]).length = ns.length + 1 := (by simp); rw [← e]; exact ho), own_other HR1.out.str HR1.out.num (by decide) hg, hb, HR1.out.at_⟩; have m0 : w5.cell? ⟨w.heap.size, 0, none⟩ = some vn := (blk_cell HR5.out.blk 0).trans rfl; have m1 : w5.frozen? ⟨w.heap.size, 0, none⟩ = false := blk_frozen HR5.out.blk 0; clear ho hb hg hat)
          go_roundw
          case rel => exact ⟨k + 1, .slice A5 (ns.length + 1) c5, vb, ns ++ [x], bs, by omega, by go_num, Lib.hid (by have := hnb.out; simp; omega), HU2, Lib.hid HR5.out.set⟩
          case measure => simp [intOf]; omega
      · have b2 : ((ch.toNat : Int) == 110) = false := by
          rw [beq_eq_false_iff_ne]
          intro e
          exact hch (UInt8.toNat.inj (by have : (110 : UInt8).toNat = 110 := rfl; omega))
        have hUn := fun w0 => unhex_any ⟨l.toArray⟩ w0 (by omega)
        rw [hld] at hUn
        generalize (⟨l.toArray⟩ : ByteArray) = L at hcell hls hld hUn
        cases hx : unhexL l with
        | none =>
          have HNo := Lib.hid (hU.out.strNo hKc hl hch hx)
          have hUn2 : ∀ w0, Calls Tryz.prog 75 #[.string L] w0 fun e w' => ∃ y : ByteArray, e = .returned (.tuple #[.string y, .bool false]) ∧ Below w0.heap.size w0 w' := fun w0 => (hUn w0).mono fun e w' ⟨y, h1, _, h3⟩ => ⟨_, by rw [hx] at h1; exact h1, h3⟩
          have HUn := Lib.hid hUn2
          clear hUn hUn2 hx hch hl hKc hls hld hll
          go_wp2_with fail
          ((with_reducible refine (HUn.out _).mono ?_); rintro e w1 ⟨y, rfl, hb1⟩)
          have HB1 := Lib.hid (hR.out.below hb1).low
          clear hb1
          go_wp2_with fail
          go_ret2
          exact ReadPost.no _ HNo.out HB1.out
        | some x =>
          have HU2 := Lib.hid (hU.out.str hKc hl hch hx)
          have hUn2 : ∀ w0, Calls Tryz.prog 75 #[.string L] w0 fun e w' => e = .returned (.tuple #[.string ⟨x.toArray⟩, .bool true]) ∧ Below w0.heap.size w0 w' := fun w0 => (hUn w0).mono fun e w' ⟨y, h1, h2, h3⟩ => ⟨by rw [hx] at h1; rw [h1, h2 x hx]; rfl, h3⟩
          have hsn := strv_snoc bs x
          have hsl := strv_len bs
          generalize (⟨x.toArray⟩ : ByteArray) = X at hUn2 hsn
          have HUn := Lib.hid hUn2
          have HSn := Lib.hid hsn
          have HSl := Lib.hid hsl
          clear hUn hUn2 hx hch hl hKc hls hld hll hsn hsl
          go_wp2_with fail
          ((with_reducible refine (HUn.out _).mono ?_); rintro e w1 ⟨rfl, hb1⟩)
          have HR1 := Lib.hid (hR.out.below hb1)
          have k0 := HR1.out.c1
          clear hb1 hR hcell
          go_wp2_with (at_builtin; refine print_append (w0 := w) w.heap.size rfl (.tmp 62) (.tmp 64) 23 9 (.string ⟨#[]⟩) 16 rfl Tryz.underlying23 info_str rfl (by decide) vb (strv bs) (.string X) rfl rfl rfl HR1.out.str HR1.out.low HR1.out.low.size ?aL ?_; (case aL => (have h1 := hnb.out.2; have h2 := HSl.out; rw [h2]; omega)); intro v5 w5 ho hb hg hat; obtain ⟨A5, c5, rfl⟩ := own_slice ho; have HR5 : Hid (RdS w w5 w.heap.size (.slice A5 ((strv bs).length + 1) c5) vn vb ns (bs ++ [x])) := Lib.hid ⟨blk_grown HR1.out.blk hg (own_ne HR1.out.str HR1.out.blk (by decide)), own_other HR1.out.num HR1.out.str (by decide) hg, (by rw [HSn.out]; have e : (strv bs ++ [Value.string X]).length = (strv bs).length + 1 := (by simp); rw [← e]; exact ho), hb, HR1.out.at_⟩; have m0 : w5.cell? ⟨w.heap.size, 1, none⟩ = some vb := (blk_cell HR5.out.blk 1).trans rfl; have m1 : w5.frozen? ⟨w.heap.size, 1, none⟩ = false := blk_frozen HR5.out.blk 1; clear ho hb hg hat)
          go_roundw
          case rel => exact ⟨k + 1, vn, .slice A5 ((strv bs).length + 1) c5, ns, bs ++ [x], by omega, by go_num, Lib.hid (by have := hnb.out; simp; omega), HU2, Lib.hid HR5.out.set⟩
          case measure => simp [intOf]; omega
    · have HD := Lib.hid (hU.out.done (by rw [HL.out]; have := HN.out; omega) (by omega))
      have HAr := Lib.hid hR.out.args
      have HLo := Lib.hid hR.out.low
      go_wp2_with fail
      go_ret2
      exact ReadPost.yes _ HD.out HAr.out HLo.out
end Go.Proofs.YtlpibobpfafooaaGreatDoor.H
/-
  Contracts at this seat: the console's commands, as a map; looking one up.
-/
set_option linter.unusedVariables false
set_option linter.unusedSimpArgs false
namespace Go.Proofs.YtlpibobpfafooaaGreatDoor.H
open Go.RowKit Go.Proofs.Wy Go.Proofs.YtlpibobpfafooaaGreatDoorW.PrintWords

/-- The function of a command. -/
def fnT (t : Nat) : Nat := match t with
  | 0 => 41
  | 1 => 42
  | 2 => 43
  | 3 => 44
  | 4 => 45
  | 5 => 46
  | _ => 47
def cmdV (c : List UInt8 × List UInt8 × Nat) : Value := .agg #[.string ⟨c.2.1.toArray⟩, .func (.func (fnT c.2.2)) #[] #[]]
def entT (i : Nat) (c : List UInt8 × List UInt8 × Nat) : MapEntry := { key := .string ⟨c.1.toArray⟩, val := cmdV c, born := i }
/-- The map when the first n commands stand. -/
def mapT (n : Nat) : Array MapEntry := (((cmdsT.take n).zipIdx 0).map fun x => entT x.2 x.1).toArray

theorem run_find (es : List MapEntry) (k : ByteArray) (r : Option (Nat × Value)) (h : Instr.findNow .string (.string k) es 0 = some r) (w : World) : (Instr.findKey 9 (.string k) es).run Tryz.prog w = .ok r w := by
  unfold Instr.findKey
  simp [run_underlying Tryz.underlying9, h, Result.andThen]
theorem set_new (w : World) (o o' : Obj) : ({ w.alloc o with heap := (w.alloc o).heap.setIfInBounds w.heap.size o' } : World) = w.alloc o' := by
  have h : (w.heap.push o).setIfInBounds w.heap.size o' = w.heap.push o' := by
    apply Array.ext'
    rw [Array.toList_setIfInBounds, Array.toList_push, Array.toList_push, ← Array.length_toList, List.set_append_right _ _ (Nat.le_refl _)]
    simp
  show ({ w with heap := (w.heap.push o).setIfInBounds w.heap.size o' } : World) = _
  rw [h]
  rfl
theorem insert_run (w : World) (es : Array MapEntry) (clock : Nat) (k : ByteArray) (v : Value) (h : Instr.findNow .string (.string k) es.toList 0 = some none) :
    (Instr.mapUpdate 48 (.map (some w.heap.size)) (.string k) v).run Tryz.prog (w.alloc (.map es clock)) = .ok () (w.alloc (.map (es.push { key := .string k, val := v, born := clock }) (clock + 1))) := by
  have hb : (w.alloc (.map es clock)).heap[w.heap.size]? = some (.map es clock) := blk_new w _
  have hf := run_find es.toList k none h (w.alloc (.map es clock))
  have hc := MapKept.run_checkKey (P := Tryz.prog) (w := w.alloc (.map es clock)) Tryz.underlying9 (k := .string k) (by trivial) false 9999
  simp only [Instr.mapUpdate, Sem.run_bind, run_underlying Tryz.underlying48, Result.andThen_ok, MapKept.run_getObj_map hb, hc, hf, MapKept.run_setObj_map _ hb]
  rw [set_new]

theorem mapT_push (i : Nat) (c : List UInt8 × List UInt8 × Nat) (h : cmdsT[i]? = some c) (hi : i < 7) : (mapT i).push { key := .string ⟨c.1.toArray⟩, val := cmdV c, born := i } = mapT (i + 1) := by
  have : i = 0 ∨ i = 1 ∨ i = 2 ∨ i = 3 ∨ i = 4 ∨ i = 5 ∨ i = 6 := by omega
  rcases this with rfl | rfl | rfl | rfl | rfl | rfl | rfl <;> (cases h; rfl)
theorem put_0 (w : World) : (Instr.mapUpdate 48 (.map (some w.heap.size)) (.string ⟨#[102, 99, 115]⟩) (.agg #[.string ⟨#[120]⟩, .func (.func 41) #[] #[]])).run Tryz.prog (w.alloc (.map (mapT 0) 0)) = .ok () (w.alloc (.map (mapT 1) 1)) :=
  (insert_run w (mapT 0) 0 ⟨#[102, 99, 115]⟩ _ (by kernel_rfl)).trans rfl
theorem put_1 (w : World) : (Instr.mapUpdate 48 (.map (some w.heap.size)) (.string ⟨#[102, 114, 97, 109, 101]⟩) (.agg #[.string ⟨#[110, 120]⟩, .func (.func 42) #[] #[]])).run Tryz.prog (w.alloc (.map (mapT 1) 1)) = .ok () (w.alloc (.map (mapT 2) 2)) :=
  (insert_run w (mapT 1) 1 ⟨#[102, 114, 97, 109, 101]⟩ _ (by kernel_rfl)).trans rfl
theorem put_2 (w : World) : (Instr.mapUpdate 48 (.map (some w.heap.size)) (.string ⟨#[117, 110, 102, 114, 97, 109, 101]⟩) (.agg #[.string ⟨#[120]⟩, .func (.func 43) #[] #[]])).run Tryz.prog (w.alloc (.map (mapT 2) 2)) = .ok () (w.alloc (.map (mapT 3) 3)) :=
  (insert_run w (mapT 2) 2 ⟨#[117, 110, 102, 114, 97, 109, 101]⟩ _ (by kernel_rfl)).trans rfl
theorem put_3 (w : World) : (Instr.mapUpdate 48 (.map (some w.heap.size)) (.string ⟨#[102, 115, 109]⟩) (.agg #[.string ⟨#[110, 110]⟩, .func (.func 44) #[] #[]])).run Tryz.prog (w.alloc (.map (mapT 3) 3)) = .ok () (w.alloc (.map (mapT 4) 4)) :=
  (insert_run w (mapT 3) 3 ⟨#[102, 115, 109]⟩ _ (by kernel_rfl)).trans rfl
theorem put_4 (w : World) : (Instr.mapUpdate 48 (.map (some w.heap.size)) (.string ⟨#[109, 100, 53]⟩) (.agg #[.string ⟨#[120]⟩, .func (.func 45) #[] #[]])).run Tryz.prog (w.alloc (.map (mapT 4) 4)) = .ok () (w.alloc (.map (mapT 5) 5)) :=
  (insert_run w (mapT 4) 4 ⟨#[109, 100, 53]⟩ _ (by kernel_rfl)).trans rfl
theorem put_5 (w : World) : (Instr.mapUpdate 48 (.map (some w.heap.size)) (.string ⟨#[100, 101, 108, 97, 121]⟩) (.agg #[.string ⟨#[110, 110, 110, 110]⟩, .func (.func 46) #[] #[]])).run Tryz.prog (w.alloc (.map (mapT 5) 5)) = .ok () (w.alloc (.map (mapT 6) 6)) :=
  (insert_run w (mapT 5) 5 ⟨#[100, 101, 108, 97, 121]⟩ _ (by kernel_rfl)).trans rfl
theorem put_6 (w : World) : (Instr.mapUpdate 48 (.map (some w.heap.size)) (.string ⟨#[116, 97, 114, 103, 101, 116]⟩) (.agg #[.string ⟨#[110, 110, 110, 110]⟩, .func (.func 47) #[] #[]])).run Tryz.prog (w.alloc (.map (mapT 6) 6)) = .ok () (w.alloc (.map (mapT 7) 7)) :=
  (insert_run w (mapT 6) 6 ⟨#[116, 97, 114, 103, 101, 116]⟩ _ (by kernel_rfl)).trans rfl
set_option maxHeartbeats 1000000 in
theorem commands_any (w : World) : Calls Tryz.prog 24 #[] w fun e w' => e = .returned (.map (some w.heap.size)) ∧ w' = w.alloc (.map (mapT 7) 7) := by
  have hm : (Instr.makeMap 48 none).run Tryz.prog w = .ok (.map (some w.heap.size)) (w.alloc (.map (mapT 0) 0)) := rfl
  have p0 := put_0 w
  have p1 := put_1 w
  have p2 := put_2 w
  have p3 := put_3 w
  have p4 := put_4 w
  have p5 := put_5 w
  have p6 := put_6 w
  go_enter Tryz.func24, Tryz.ntmps24
  go_wp2
  go_ret
  exact ⟨rfl, rfl⟩
end Go.Proofs.YtlpibobpfafooaaGreatDoor.H
