/-
  The contracts of stuff's Flag and Split at this seat.
-/
import Derived.Test.YtnkjhlpdcffalaaDoorHandD
import Derived.Test.YtnkjhlpdcffalaaDoorWWords
set_option linter.unusedVariables false
set_option linter.unusedSimpArgs false
namespace Go.Proofs.YtnkjhlpdcffalaaDoor.H
open Go.RowKit Go.Proofs.Wy Go.Proofs.YtnkjhlpdcffalaaDoorW.PrintWords

theorem flag_any (w : World) :
    Calls Tryd.prog 26 #[] w fun e w' => e = .returned (.string ⟨#[126]⟩) ∧ w' = w.alloc (.cells #[.int .u8 126] 5) := by
  have hc : (convert 37 9 (.slice (some ⟨w.heap.size, 0, none⟩) 1 1)).run Tryd.prog (w.alloc (.cells #[.int .u8 126] 5)) = .ok (.string ⟨#[126]⟩) (w.alloc (.cells #[.int .u8 126] 5)) :=
    run_convert_bytes_back _ 37 9 5 ⟨w.heap.size, 0, none⟩ 1 [126] rfl rfl rfl (fun j hj => by
      have h0 : j = 0 := by simp at hj; omega
      subst h0
      exact World.news_of_block (cs := #[Value.int .u8 126]) (t := 5) (fr := (0, 0)) (heap_alloc_new w _) 0 _ rfl)
  go_enter Tryd.func26, Tryd.ntmps26
  go_wp2
  go_ret
  exact ⟨rfl, rfl⟩

/-- What Split keeps of its pieces: the inner ones that are not empty. -/
def keepP (ps : List ByteArray) (k : Nat) : List ByteArray := ((ps.drop 1).take k).filter (fun p => p.size != 0)
theorem keepP_zero (ps : List ByteArray) : keepP ps 0 = [] := by simp [keepP]
theorem keepP_succ (ps : List ByteArray) (k : Nat) (p : ByteArray) (h : ps[k + 1]? = some p) : keepP ps (k + 1) = keepP ps k ++ (if p.size = 0 then [] else [p]) := by
  have h2 : (ps.drop 1)[k]? = some p := by rw [List.getElem?_drop, Nat.add_comm]; exact h
  obtain ⟨hl, hp⟩ := List.getElem?_eq_some_iff.1 h2
  unfold keepP
  rw [List.take_succ_eq_append_getElem hl, hp, List.filter_append]
  congr 1
  by_cases e : p.size = 0 <;> simp [e]
theorem keepP_length (ps : List ByteArray) (k : Nat) : (keepP ps k).length ≤ k := by
  unfold keepP
  exact Nat.le_trans (List.length_filter_le _ _) (by simp; omega)
theorem size_zero_iff (p : ByteArray) : p.size = 0 ↔ p = ⟨#[]⟩ := by
  constructor
  · intro h
    apply ByteArray.ext
    exact Array.eq_empty_of_size_eq_zero h
  · rintro rfl; rfl

theorem isEmpty_size (p : ByteArray) : p.toList.isEmpty = (p.size == 0) := by
  rw [Lib.toList_data]
  have h : p.data.toList.length = p.size := Array.length_toList
  rw [← h]
  cases p.data.toList <;> rfl

theorem info_string : (Tryd.prog.info? 9).map (fun i => (i.zero, i.size, i.bytes)) = some (some (.string ⟨#[]⟩), 1, 16) := by kernel_rfl

set_option maxHeartbeats 2000000 in
theorem split_any (s : ByteArray) (w : World) (hs : s.size < 4294967281) :
    Calls Tryd.prog 12 #[.string s] w fun e w' => ∃ v, e = .returned (.tuple #[v, .string ((Lib.splitB ⟨#[126]⟩ 0 (Lib.countB s ⟨#[126]⟩) s).getLastD s)]) ∧
      Kd.R Kd.string 9 w' w.heap.size (fun _ => True) v (keepP (Lib.splitB ⟨#[126]⟩ 0 (Lib.countB s ⟨#[126]⟩) s) (Lib.countB s ⟨#[126]⟩ - 1)) ∧ Below w.heap.size w w' := by
  have h1 : 1 ≤ (⟨#[126]⟩ : ByteArray).size := Nat.le_refl _
  have hle := Lib.countB_le ⟨#[126]⟩ h1 s.size s (Nat.le_refl _)
  have hlen := Lib.splitB_all ⟨#[126]⟩ h1 0 _ s rfl
  have HC := split_one s 126 (w.alloc (.cells #[.int .u8 126] 5)) hs
  have h00 : Lib.countB s ⟨#[126]⟩ = 0 → Lib.splitB ⟨#[126]⟩ 0 (Lib.countB s ⟨#[126]⟩) s = [s] := by
    intro e; rw [e]; rfl
  generalize Lib.splitB ⟨#[126]⟩ 0 (Lib.countB s ⟨#[126]⟩) s = ps at HC hlen h00 ⊢
  generalize Lib.countB s ⟨#[126]⟩ = m at HC hlen hle h00 ⊢
  have HC := Lib.hid HC
  go_enter Tryd.func12, Tryd.ntmps12
  go_wp2_with fail
  ((with_reducible refine (flag_any _).mono ?_); rintro e w1 ⟨rfl, hw⟩; obtain rfl := hw)
  go_wp2_with fail
  ((with_reducible refine (HC.out).mono ?_); rintro e w2 ⟨rfl, hw⟩)
  have hb2 : Below w.heap.size w w2 := by rw [hw]; exact ((Below.refl _ w).alloc (Nat.le_refl _) _).alloc (by simp) _
  have hz2 : w2.heap.size = w.heap.size + 2 := by rw [hw]; simp
  have hz1 : (w.alloc (.cells #[.int .u8 126] 5)).heap.size = w.heap.size + 1 := by simp
  have hps : ∀ (j : Nat) (p : ByteArray), ps[j]? = some p → w2.cell? ⟨w.heap.size + 1, j, none⟩ = some (.string p) := by
    intro j p hj
    have := World.news_of_block (w := w2) (cs := (ps.map Value.string).toArray) (t := 9) (fr := (0, 0)) (B := w.heap.size + 1) (by rw [hw]; have := heap_alloc_new (w.alloc (.cells #[.int .u8 126] 5)) (.cells (ps.map Value.string).toArray 9); rwa [hz1] at this) j (.string p) (by simp [hj])
    have ha : (⟨w.heap.size + 1, 0, none⟩ : Addr).add j = ⟨w.heap.size + 1, j, none⟩ := by unfold Addr.add; split <;> simp_all
    rwa [ha] at this
  clear hw
  have hb2 := Lib.hid hb2
  have hps := Lib.hid hps
  clear HC h1
  by_cases h0 : m = 0
  · have hq := h00 h0
    clear h00
    subst h0
    clear hps
    obtain rfl : ps = [s] := hq
    have e0 : ((((0 : Nat) : Int) + 1) == 1) = true := rfl
    clear hlen
    go_wp2_with fail
    go_ret2
    refine ⟨.slice none 0 0, ?_, ?_, hb2.out⟩
    · rfl
    · exact Kd.R_nil _ _ _ _ _
  · have e0 : ((m : Int) + 1 == 1) = false := by rw [beq_eq_false_iff_ne]; omega
    have hm : Hid (1 ≤ m) := (by omega : 1 ≤ m)
    clear h00
    go_wp2_with fail
    go_loopw [5, 21] (fun v5 v21 wr => ∃ k : Nat, k ≤ m - 1 ∧ v21 = .int .i64 k ∧ Hid (wr.ownsRow w2.heap.size 9 1 v5 (encs Value.string (keepP ps k)).length (encs Value.string (keepP ps k))) ∧ Hid (Below w2.heap.size w2 wr)) (fun _ v21 _ => m - 1 - (intOf v21).toNat)
    case atStart => exact ⟨0, by omega, rfl, by rw [keepP_zero]; exact Lib.hid (World.ownsRow_nil _ _ _ _), Lib.hid (Below.refl _ _)⟩
    case round =>
      obtain ⟨k, hk, rfl, hO, hB⟩ := hrel
      by_cases hlt : k < m - 1
      · have hkl : k + 1 < ps.length := by rw [hlen]; omega
        obtain ⟨p, hp⟩ : ∃ p, ps[k + 1]? = some p := ⟨_, List.getElem?_eq_getElem hkl⟩
        have hc2 := hps.out (k + 1) p hp
        have hcell : wr.cell? ⟨w.heap.size + 1, 1 + k, none⟩ = some (.string p) := by
          rw [Nat.add_comm 1 k]
          exact pw_cell_below hB.out hc2
        have hKs := Lib.hid (keepP_succ ps k p hp)
        have hKl := Lib.hid (keepP_length ps k)
        clear hc2 hp hkl
        by_cases he : p.size = 0
        · have b1 : (!p.toList.isEmpty) = false := by rw [isEmpty_size, he]; rfl
          rw [if_pos he, List.append_nil] at hKs
          clear he
          go_wp2_with fail
          go_roundw
          case rel => exact ⟨k + 1, by omega, by go_num, by rw [hKs.out]; exact hO, hB⟩
          case measure => simp [intOf]; omega
        · have b1 : (!p.toList.isEmpty) = true := by rw [isEmpty_size]; simpa using he
          rw [if_neg he] at hKs
          clear he
          go_wp2_with (at_builtin; refine print_append (w0 := w2) w2.heap.size rfl (.tmp 27) (.tmp 29) 27 9 (.string ⟨#[]⟩) 16 rfl Tryd.underlying27 info_string rfl (by decide) u5 (encs Value.string (keepP ps k)) (.string p) rfl rfl rfl hO.out hB.out hB.out.size ?aL ?_; (case aL => (have := hKl.out; rw [encs_length]; omega)); intro v5 w5 ho hb hg hat)
          have hO2 : Hid (w5.ownsRow w2.heap.size 9 1 v5 (encs Value.string (keepP ps (k + 1))).length (encs Value.string (keepP ps (k + 1)))) := by
            have e : encs Value.string (keepP ps (k + 1)) = encs Value.string (keepP ps k) ++ [Value.string p] := by rw [hKs.out]; simp [encs]
            rw [e]; exact ho
          have hB2 := Lib.hid hb
          clear ho hb hg hat hO hB
          go_roundw
          case rel => exact ⟨k + 1, by omega, by go_num, hO2, hB2⟩
          case measure => simp [intOf]; omega
      · obtain rfl : k = m - 1 := by omega
        have hml : m < ps.length := by rw [hlen]; omega
        obtain ⟨p, hp⟩ : ∃ p, ps[m]? = some p := ⟨_, List.getElem?_eq_getElem hml⟩
        have hgl : Hid (ps.getLastD s = p) := by
          show _ = _
          rw [List.getLastD_eq_getLast?, List.getLast?_eq_getElem?, hlen]
          simp [hp]
        have hcell : wr.cell? ⟨w.heap.size + 1, m, none⟩ = some (.string p) := pw_cell_below hB.out (hps.out m p hp)
        have hBw := Lib.hid (below_weaken hb2.out (by omega : w.heap.size ≤ w2.heap.size) hB.out)
        have hR : Hid (Kd.R Kd.string 9 wr w.heap.size (fun _ => True) u5 (keepP ps (m - 1))) := by
          have h := hO.out
          rw [encs_length] at h
          exact Lib.hid (Kd.R_lower (Kd.R_of_own h (fun _ _ => trivial)) (by omega))
        clear hp hml hps
        have i1 : IntKind.i64.wrap (((m : Int) + 1) - 1) = m := by rw [Int.add_sub_cancel]; exact IntWalk.i64_in _ (by omega)
        have i2 : (0 : Int) ≤ m := by omega
        have i3 : (m : Int).toNat = m := rfl
        go_wp2_with fail
        go_quiet (fail)
        go_wp2_with fail
        go_ret2
        exact ⟨u5, by rw [hgl.out]; rfl, Kd.R_drewN hR.out _, pw_below_drewN hBw.out _⟩
end Go.Proofs.YtnkjhlpdcffalaaDoor.H
