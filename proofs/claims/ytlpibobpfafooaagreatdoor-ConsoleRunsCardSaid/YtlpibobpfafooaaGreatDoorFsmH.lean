/-
  The document's own Step at this seat: its row, its action, itself.
-/
import Derived.Test.YtlpibobpfafooaaGreatDoorFsmF
set_option linter.unusedVariables false
set_option linter.unusedSimpArgs false
namespace Go.Proofs.YtlpibobpfafooaaGreatDoor.H
open Go.RowKit Go.Proofs.YtlpibobpfafooaaGreatDoorW.PrintWords

set_option maxHeartbeats 4000000 in
set_option maxRecDepth 100000 in
theorem row_in (v : Nat) (hv : v < 16) (w : World) : Calls Tryz.prog 39 #[.int .i64 v] w fun e w' => e = .returned (.slice (some ⟨w.heap.size, 0, none⟩) 10 10) ∧ w' = w.alloc (.cells (strs (rowsL.getD v [])).toArray 9) := by
  have h : v = 0 ∨ v = 1 ∨ v = 2 ∨ v = 3 ∨ v = 4 ∨ v = 5 ∨ v = 6 ∨ v = 7 ∨ v = 8 ∨ v = 9 ∨ v = 10 ∨ v = 11 ∨ v = 12 ∨ v = 13 ∨ v = 14 ∨ v = 15 := by omega
  clear hv
  rcases h with rfl | rfl | rfl | rfl | rfl | rfl | rfl | rfl | rfl | rfl | rfl | rfl | rfl | rfl | rfl | rfl
  all_goals
    go_enter Tryz.func39, Tryz.ntmps39
    go_wp2
    go_ret
    exact ⟨rfl, rfl⟩
set_option maxHeartbeats 4000000 in
theorem row_out (v : Int) (h : ¬ (0 ≤ v ∧ v < 16)) (w : World) : Calls Tryz.prog 39 #[.int .i64 v] w fun e w' => e = .returned (.slice none 0 0) ∧ w' = w := by
  have ne : ∀ i : Int, 0 ≤ i → i < 16 → (v == i) = false := fun i h1 h2 => by rw [beq_eq_false_iff_ne]; rintro rfl; exact h ⟨h1, h2⟩
  have b0 := ne 0 (by decide) (by decide)
  have b1 := ne 1 (by decide) (by decide)
  have b2 := ne 2 (by decide) (by decide)
  have b3 := ne 3 (by decide) (by decide)
  have b4 := ne 4 (by decide) (by decide)
  have b5 := ne 5 (by decide) (by decide)
  have b6 := ne 6 (by decide) (by decide)
  have b7 := ne 7 (by decide) (by decide)
  have b8 := ne 8 (by decide) (by decide)
  have b9 := ne 9 (by decide) (by decide)
  have b10 := ne 10 (by decide) (by decide)
  have b11 := ne 11 (by decide) (by decide)
  have b12 := ne 12 (by decide) (by decide)
  have b13 := ne 13 (by decide) (by decide)
  have b14 := ne 14 (by decide) (by decide)
  have b15 := ne 15 (by decide) (by decide)
  clear ne h
  go_enter Tryz.func39, Tryz.ntmps39
  go_wp2
  go_ret
  exact ⟨rfl, rfl⟩

def N13 : List (List UInt8) := namesL.drop 1
theorem N13_length : N13.length = 13 := rfl
theorem n13_get (k : Nat) (hk : k < 13) : ∃ nm : ByteArray, N13[k]? = some nm.data.toList ∧ (strs N13).toArray[k]? = some (.string nm) := by
  have hl : k < N13.length := by rw [N13_length]; exact hk
  exact ⟨⟨N13[k].toArray⟩, by simp [List.getElem?_eq_getElem hl], strs_get N13 k _ (List.getElem?_eq_getElem hl)⟩
set_option maxHeartbeats 4000000 in
set_option maxRecDepth 100000 in
theorem action_any (p : ByteArray) (w : World) : Calls Tryz.prog 40 #[.string p] w fun e w' => e = .returned (.int .i64 (actP p.data.toList)) ∧ Below w.heap.size w w' := by
  have hw0 : Hid (Below w.heap.size w (w.alloc (.cells (strs N13).toArray 9))) := Lib.hid ((Below.refl _ w).alloc (Nat.le_refl _) _)
  have hc0 : ∀ (j : Nat) (u : Value), (strs N13).toArray[j]? = some u → (w.alloc (.cells (strs N13).toArray 9)).cell? ⟨w.heap.size, j, none⟩ = some u := fun j u hu => by
    have := World.news_of_block (w := w.alloc (.cells (strs N13).toArray 9)) (B := w.heap.size) (cs := (strs N13).toArray) (t := 9) (fr := (0, 0)) (heap_alloc_new _ _) j u (by simpa using hu)
    have ha : (⟨w.heap.size, 0, none⟩ : Addr).add j = ⟨w.heap.size, j, none⟩ := by unfold Addr.add; split <;> simp_all
    rwa [ha] at this
  have hc0 := Lib.hid hc0
  have hA : actP p.data.toList = if N13.findIdx (· == p.data.toList) < 13 then ((N13.findIdx (· == p.data.toList) : Nat) : Int) + 1 else 0 := rfl
  have hA := Lib.hid hA
  generalize actP p.data.toList = r at hA ⊢
  go_enter Tryz.func40, Tryz.ntmps40
  go_wp2_with fail
  show Code.wp _ _ _ _ (w.alloc (.cells (strs N13).toArray 9))
  generalize w.alloc (.cells (strs N13).toArray 9) = W at hw0 hc0 ⊢
  go_loop [4] (fun v4 => ∃ k : Nat, k ≤ 13 ∧ v4 = .int .i64 k ∧ Hid (N13.findIdx (· == p.data.toList) = k + (N13.drop k).findIdx (· == p.data.toList))) (fun v4 => 13 - (intOf v4).toNat)
  case atStart => exact ⟨0, by omega, rfl, Lib.hid (by simp)⟩
  case round =>
    obtain ⟨k, hk, rfl, hF⟩ := hrel
    by_cases hlt : k < 13
    · obtain ⟨nm, hnm, hget⟩ := n13_get k hlt
      have hcell := hc0.out k _ hget
      have hdrop : N13.drop k = nm.data.toList :: N13.drop (k + 1) := by
        obtain ⟨hl, hp⟩ := List.getElem?_eq_some_iff.1 hnm
        rw [List.drop_eq_getElem_cons hl, hp]
      have hF1 := hF.out
      rw [hdrop, List.findIdx_cons] at hF1
      have he : (nm.toList == p.toList) = (nm.data.toList == p.data.toList) := by rw [Lib.toList_data, Lib.toList_data]
      cases hq : (nm.data.toList == p.data.toList) with
      | false =>
        rw [hq] at hF1 he
        have hF2 : Hid (N13.findIdx (· == p.data.toList) = (k + 1) + (N13.drop (k + 1)).findIdx (· == p.data.toList)) := Lib.hid (by
          have h := hF1
          simp only [cond_false] at h
          rw [h]; omega)
        clear hF hF1 hdrop hnm hget hq
        go_wp2_with fail
        go_round
        case rel => exact ⟨k + 1, by omega, by go_num, hF2⟩
        case measure => simp [intOf]; omega
      | true =>
        rw [hq] at hF1 he
        have hF2 : Hid (N13.findIdx (· == p.data.toList) = k) := Lib.hid (by
          have h := hF1
          simp only [cond_true] at h
          rw [h]; rfl)
        clear hF hF1 hdrop hnm hget hq
        go_wp2_with fail
        go_ret
        rw [hA.out, hF2.out, if_pos hlt]
        exact ⟨rfl, hw0.out⟩
    · obtain rfl : k = 13 := by omega
      have hF2 : Hid (¬ N13.findIdx (· == p.data.toList) < 13) := Lib.hid (by have h := hF.out; omega)
      clear hF
      go_wp2_with fail
      go_ret
      rw [hA.out, if_neg hF2.out]
      exact ⟨rfl, hw0.out⟩
end Go.Proofs.YtlpibobpfafooaaGreatDoor.H
/-
  The document's own Step at this seat.
-/
set_option linter.unusedVariables false
set_option linter.unusedSimpArgs false
namespace Go.Proofs.YtlpibobpfafooaaGreatDoor.H
open Go.RowKit Go.Proofs.YtlpibobpfafooaaGreatDoorW.PrintWords
set_option maxRecDepth 100000 in
theorem rows_tab : ∀ v < 16, ∀ s < 10, (rowsL.getD v [])[s]? = some (tabL.getD (v * 10 + s) []) := by decide +kernel
def refGood (l : List UInt8) : Bool := 0 < l.length && l.length < 1000 && (l == [45] || 48 ≤ (l.getLastD 0).toNat)
set_option maxRecDepth 100000 in
theorem cells_ref : ∀ v < 16, ∀ s < 10, refGood (tabL.getD (v * 10 + s) []) = true := by decide +kernel
/-- The first j actions of a cell. -/
def accs (l : List UInt8) (j : Nat) : List Int := (List.range j).map fun q => actP ((l.drop (4 * q)).take 3)
theorem accs_succ (l : List UInt8) (j : Nat) : accs l (j + 1) = accs l j ++ [actP ((l.drop (4 * j)).take 3)] := by
  unfold accs
  rw [List.range_succ, List.map_append]
  rfl
theorem accs_length (l : List UInt8) (j : Nat) : (accs l j).length = j := by simp [accs]
theorem eq_some (A : Addr) (n c : Nat) (w : World) : (binOp .eql 23 (.slice (some A) n c) (.slice none 0 0)).run Tryz.prog w = .ok (.bool false) w := by kernel_rfl
theorem eq_none (w : World) : (binOp .eql 23 (.slice none 0 0) (.slice none 0 0)).run Tryz.prog w = .ok (.bool true) w := by kernel_rfl
set_option maxHeartbeats 4000000 in
set_option maxRecDepth 100000 in
theorem rstep_any (s v : Int) (w : World) :
    Calls Tryz.prog 21 #[.int .i64 s, .int .i64 v] w fun e w' => ∃ vo, e = .returned (.tuple #[.int .i64 (stepP s v).1, vo, .int .i64 (stepP s v).2.2]) ∧
      Kd.R (Kd.int .i64) 3 w' w.heap.size (fun _ => True) vo (stepP s v).2.1 ∧ Below w.heap.size w w' := by
  by_cases hv : 0 ≤ v ∧ v < 16
  · obtain ⟨h3, h4⟩ := hv
    by_cases h1 : 0 ≤ s
    · by_cases h2 : s < 10
      · obtain ⟨s, rfl⟩ : ∃ n : Nat, s = n := ⟨s.toNat, (Int.toNat_of_nonneg h1).symm⟩
        obtain ⟨v, rfl⟩ : ∃ n : Nat, v = n := ⟨v.toNat, (Int.toNat_of_nonneg h3).symm⟩
        have hs : s < 10 := by omega
        have hvv : v < 16 := by omega
        have e : stepP s v = cellP (tabL.getD (v * 10 + s) []) := by
          unfold stepP
          rw [if_pos ⟨h1, h2, h3, h4⟩]
          rfl
        have hrt := rows_tab v hvv s hs
        have hgood := cells_ref v hvv s hs
        rw [e]
        clear e h1 h2 h3 h4
        have hr := row_in v hvv w
        generalize hc : (⟨(tabL.getD (v * 10 + s) []).toArray⟩ : ByteArray) = c
        have hcl : c.data.toList = tabL.getD (v * 10 + s) [] := by rw [← hc]
        have hcell : (w.alloc (.cells (strs (rowsL.getD v [])).toArray 9)).cell? ⟨w.heap.size, s, none⟩ = some (.string c) := by
          have := World.news_of_block (w := w.alloc (.cells (strs (rowsL.getD v [])).toArray 9)) (B := w.heap.size) (cs := (strs (rowsL.getD v [])).toArray) (t := 9) (fr := (0, 0)) (heap_alloc_new _ _) s (.string c) (by have := strs_get _ _ _ hrt; rw [hc] at this; simpa using this)
          have ha : (⟨w.heap.size, 0, none⟩ : Addr).add s = ⟨w.heap.size, s, none⟩ := by unfold Addr.add; split <;> simp_all
          rwa [ha] at this
        have hw0 : Hid (Below w.heap.size w (w.alloc (.cells (strs (rowsL.getD v [])).toArray 9))) := Lib.hid ((Below.refl _ w).alloc (Nat.le_refl _) _)
        rw [← hcl] at hgood ⊢
        clear hcl hrt hc
        generalize w.alloc (.cells (strs (rowsL.getD v [])).toArray 9) = W at hr hcell hw0
        have hr := Lib.hid hr
        unfold refGood at hgood
        have hlen : c.data.toList.length = c.size := Array.length_toList
        rw [hlen] at hgood
        simp only [Bool.and_eq_true, decide_eq_true_eq, Bool.or_eq_true, beq_iff_eq] at hgood
        obtain ⟨⟨g1, g2⟩, g3⟩ := hgood
        have hes := eq_some
        by_cases hd : c.data.toList = [45]
        · have b1 : (c.toList == [45]) = true := by rw [Lib.toList_data, hd]; rfl
          have e : cellP c.data.toList = (0, [], 1001) := by unfold cellP; rw [if_pos hd]
          rw [e]
          clear e hd g3 hlen
          go_enter Tryz.func21, Tryz.ntmps21
          go_wp2_with fail
          ((with_reducible refine (hr.out).mono ?_); rintro e w1 ⟨rfl, hw⟩; obtain rfl : W = w1 := hw.symm)
          go_wp2_with fail
          go_ret3
          exact ⟨.slice none 0 0, rfl, Kd.R_nil _ _ _ _ _, hw0.out⟩
        · have b1 : (c.toList == [45]) = false := by rw [Lib.toList_data, beq_eq_false_iff_ne]; exact hd
          have e : cellP c.data.toList = (((c.data.toList.getLastD 0).toNat : Int) - 48, accs c.data.toList (c.size / 4), 0) := by unfold cellP accs; rw [if_neg hd, hlen]
          rw [e]
          replace g3 := g3.resolve_left hd
          have hlast : c.data.toList.getLastD 0 = c[c.size - 1] := by
            rw [List.getLastD_eq_getLast?, List.getLast?_eq_getElem?, hlen]
            have h : c.size - 1 < c.data.toList.length := by rw [hlen]; omega
            rw [List.getElem?_eq_getElem h]
            rfl
          rw [hlast] at g3 ⊢
          have h256 := c[c.size - 1].toNat_lt
          clear e hd hlen hlast
          have hinfo : Hid ((Tryz.prog.info? 3).map (fun i => (i.zero, i.size, i.bytes)) = some (some (.int .i64 0), 1, 8)) := Lib.hid (by kernel_rfl)
          go_enter Tryz.func21, Tryz.ntmps21
          go_wp2_with fail
          ((with_reducible refine (hr.out).mono ?_); rintro e w1 ⟨rfl, hw⟩; obtain rfl : W = w1 := hw.symm)
          go_wp2_with fail
          go_loopw [9, 10] (fun v9 v10 wr => ∃ j i : Nat, Hid (i = 4 * j) ∧ i ≤ c.size ∧ v10 = .int .i64 i ∧ Hid (wr.ownsRow w.heap.size 3 1 v9 (accs c.data.toList j).length (nums .i64 (accs c.data.toList j))) ∧ Hid (Below w.heap.size w wr)) (fun _ v10 _ => c.size - (intOf v10).toNat)
          case atStart => exact ⟨0, 0, Lib.hid rfl, by omega, rfl, Lib.hid (World.ownsRow_nil _ _ _ _), hw0⟩
          case round =>
            obtain ⟨j, i, hij, hic, rfl, hO, hB⟩ := hrel
            by_cases hlt : i + 3 < c.size
            · have hH := Lib.hid (accs_succ c.data.toList j)
              have hAL := Lib.hid (accs_length c.data.toList j)
              have hx : (c.extract i (i + 3)).data.toList = (c.data.toList.drop (4 * j)).take 3 := by
                rw [ByteArray.data_extract, Array.toList_extract, ← hij.out]
                simp [List.take_drop]
              have hact := action_any (c.extract i (i + 3)) wr
              rw [hx] at hact
              generalize actP ((c.data.toList.drop (4 * j)).take 3) = y at hact hH
              have hact := Lib.hid hact
              have hsl : ∀ w0, (Instr.slice 9 (.string c) (some (.int .i64 (i : Int))) (some (.int .i64 ((i : Int) + 3))) none).run Tryz.prog w0 = .ok (.string (c.extract i (i + 3))) w0 := fun w0 => by
                have h := run_slice_string (P := Tryz.prog) w0 9 c .i64 .i64 i ((i : Int) + 3) rfl (by omega) (by omega) (by omega)
                have e : ((i : Int) + 3).toNat = i + 3 := by omega
                rw [e, Int.toNat_natCast] at h
                exact h
              clear hx
              go_wp2_with (first | ((with_reducible refine (hact.out).mono ?_); rintro e w1 ⟨rfl, hb1⟩; have hO1 := Lib.hid (pw_own_below hO.out hb1); have hB1 := Lib.hid (below_then hB.out hB.out.size hb1); clear hO hB hb1) | (at_builtin; refine print_append_num (w0 := w) w.heap.size rfl (.tmp 36) (.tmp 43) 24 3 .i64 8 rfl Tryz.underlying24 hinfo.out (by decide) u9 (accs c.data.toList j) y rfl rfl hO1.out hB1.out hB1.out.size ?aL ?_; (case aL => (have h1 := hAL.out; have h2 := hij.out; rw [h1]; omega)); intro v5 w5 ho hb hg hat))
              have hO5 : Hid (w5.ownsRow w.heap.size 3 1 v5 (accs c.data.toList (j + 1)).length (nums .i64 (accs c.data.toList (j + 1)))) := Lib.hid (by rw [hH.out]; exact ho)
              have hB5 := Lib.hid hb
              clear ho hb hg hat
              go_roundw
              case rel => exact ⟨j + 1, i + 4, Lib.hid (by have := hij.out; omega), by omega, by go_num, hO5, hB5⟩
              case measure => simp [intOf]; omega
            · have hj : Hid (j = c.size / 4) := Lib.hid (by have := hij.out; omega)
              have hR : Hid (Kd.R (Kd.int .i64) 3 wr w.heap.size (fun _ => True) u9 (accs c.data.toList (c.size / 4))) := by
                have h := hO.out
                rw [hj.out] at h
                exact Lib.hid (Kd.R_of_own (by simpa [nums, encs] using h) (fun _ _ => trivial))
              clear hO hj
              have i1 : IntKind.i64.wrap ((c.size : Int) - 1) = ((c.size - 1 : Nat) : Int) := by rw [IntWalk.i64_in _ (by omega)]; omega
              go_wp2_with fail
              go_ret3
              exact ⟨u9, rfl, hR.out, hB.out⟩
      · have e : stepP s v = (0, [], 1000) := by unfold stepP; rw [if_neg (fun h => h2 h.2.1)]
        rw [e]
        clear e
        obtain ⟨v, rfl⟩ : ∃ n : Nat, v = n := ⟨v.toNat, (Int.toNat_of_nonneg h3).symm⟩
        have hr := Lib.hid (row_in v (by omega) w)
        have hes := eq_some
        go_enter Tryz.func21, Tryz.ntmps21
        go_wp2_with fail
        ((with_reducible refine (hr.out).mono ?_); rintro e w1 ⟨rfl, rfl⟩)
        go_wp2_with fail
        go_ret3
        exact ⟨.slice none 0 0, rfl, Kd.R_nil _ _ _ _ _, (Below.refl _ w).alloc (Nat.le_refl _) _⟩
    · have e : stepP s v = (0, [], 1000) := by unfold stepP; rw [if_neg (fun h => h1 h.1)]
      rw [e]
      clear e
      obtain ⟨v, rfl⟩ : ∃ n : Nat, v = n := ⟨v.toNat, (Int.toNat_of_nonneg h3).symm⟩
      have hr := Lib.hid (row_in v (by omega) w)
      have hes := eq_some
      go_enter Tryz.func21, Tryz.ntmps21
      go_wp2_with fail
      ((with_reducible refine (hr.out).mono ?_); rintro e w1 ⟨rfl, rfl⟩)
      go_wp2_with fail
      go_ret3
      exact ⟨.slice none 0 0, rfl, Kd.R_nil _ _ _ _ _, (Below.refl _ w).alloc (Nat.le_refl _) _⟩
  · have e : stepP s v = (0, [], 1000) := by unfold stepP; rw [if_neg (fun h => hv ⟨h.2.2.1, h.2.2.2⟩)]
    rw [e]
    clear e
    have hr := Lib.hid (row_out v hv w)
    have hen := eq_none
    go_enter Tryz.func21, Tryz.ntmps21
    go_wp2_with fail
    ((with_reducible refine (hr.out).mono ?_); rintro e w1 ⟨rfl, hw⟩; obtain rfl : w = w1 := hw.symm)
    go_wp2_with fail
    go_ret3
    exact ⟨.slice none 0 0, rfl, Kd.R_nil _ _ _ _ _, Below.refl _ w⟩
end Go.Proofs.YtlpibobpfafooaaGreatDoor.H
