/-
  The document's own Step at this seat: its row, its action, itself.
-/
import Derived.Test.YtcdlgiabpjkjoaaDoorFsmF
set_option linter.unusedVariables false
set_option linter.unusedSimpArgs false
namespace Go.Proofs.YtcdlgiabpjkjoaaDoor.H
open Go.RowKit Go.Proofs.YtcdlgiabpjkjoaaDoorW.PrintWords

set_option maxHeartbeats 4000000 in
set_option maxRecDepth 100000 in
theorem row_in (v : Nat) (hv : v < 16) (w : World) : Calls Tryd.prog 18 #[.int .i64 v] w fun e w' => e = .returned (.slice (some ⟨w.heap.size, 0, none⟩) 10 10) ∧ w' = w.alloc (.cells (strs (rowsL.getD v [])).toArray 9) := by
  have h : v = 0 ∨ v = 1 ∨ v = 2 ∨ v = 3 ∨ v = 4 ∨ v = 5 ∨ v = 6 ∨ v = 7 ∨ v = 8 ∨ v = 9 ∨ v = 10 ∨ v = 11 ∨ v = 12 ∨ v = 13 ∨ v = 14 ∨ v = 15 := by omega
  clear hv
  rcases h with rfl | rfl | rfl | rfl | rfl | rfl | rfl | rfl | rfl | rfl | rfl | rfl | rfl | rfl | rfl | rfl
  all_goals
    go_enter Tryd.func18, Tryd.ntmps18
    go_wp2
    go_ret
    exact ⟨rfl, rfl⟩
set_option maxHeartbeats 4000000 in
theorem row_out (v : Int) (h : ¬ (0 ≤ v ∧ v < 16)) (w : World) : Calls Tryd.prog 18 #[.int .i64 v] w fun e w' => e = .returned (.slice none 0 0) ∧ w' = w := by
  have ne : ∀ i : Int, 0 ≤ i → i < 16 → (v == i) = false := fun i h1 h2 => by rw [beq_eq_false_iff_ne]; rintro rfl; exact h ⟨h1, h2⟩
  have b0 := ne 0 (by decide) (by decide)
  have b1 := ne 1 (by decide) (by decide)
  have b2 := ne 2 (by decide) (by decide)
  have b3 := ne 3 (by decide) (by decide)
  have b4 := ne 4 (by decide) (by decide)
  have b5 := ne 5 (by decide) (by decide)
  have b6 := ne 6 (by decide) (by decide)
  have b7 := ne 7 (by decide) (by decide)
  have b8 := ne 8 (by decide) (by decide)
  have b9 := ne 9 (by decide) (by decide)
  have b10 := ne 10 (by decide) (by decide)
  have b11 := ne 11 (by decide) (by decide)
  have b12 := ne 12 (by decide) (by decide)
  have b13 := ne 13 (by decide) (by decide)
  have b14 := ne 14 (by decide) (by decide)
  have b15 := ne 15 (by decide) (by decide)
  clear ne h
  go_enter Tryd.func18, Tryd.ntmps18
  go_wp2
  go_ret
  exact ⟨rfl, rfl⟩

def N13 : List (List UInt8) := namesL.drop 1
theorem N13_length : N13.length = 13 := rfl
theorem n13_get (k : Nat) (hk : k < 13) : ∃ nm : ByteArray, N13[k]? = some nm.data.toList ∧ (strs N13).toArray[k]? = some (.string nm) := by
  have hl : k < N13.length := by rw [N13_length]; exact hk
  exact ⟨⟨N13[k].toArray⟩, by simp [List.getElem?_eq_getElem hl], strs_get N13 k _ (List.getElem?_eq_getElem hl)⟩
set_option maxHeartbeats 4000000 in
set_option maxRecDepth 100000 in
theorem action_any (p : ByteArray) (w : World) : Calls Tryd.prog 19 #[.string p] w fun e w' => e = .returned (.int .i64 (actP p.data.toList)) ∧ Below w.heap.size w w' := by
  have hw0 : Hid (Below w.heap.size w (w.alloc (.cells (strs N13).toArray 9))) := Lib.hid ((Below.refl _ w).alloc (Nat.le_refl _) _)
  have hc0 : ∀ (j : Nat) (u : Value), (strs N13).toArray[j]? = some u → (w.alloc (.cells (strs N13).toArray 9)).cell? ⟨w.heap.size, j, none⟩ = some u := fun j u hu => by
    have := World.news_of_block (w := w.alloc (.cells (strs N13).toArray 9)) (B := w.heap.size) (cs := (strs N13).toArray) (t := 9) (fr := (0, 0)) (heap_alloc_new _ _) j u (by simpa using hu)
    have ha : (⟨w.heap.size, 0, none⟩ : Addr).add j = ⟨w.heap.size, j, none⟩ := by unfold Addr.add; split <;> simp_all
    rwa [ha] at this
  have hc0 := Lib.hid hc0
  have hA : actP p.data.toList = if N13.findIdx (· == p.data.toList) < 13 then ((N13.findIdx (· == p.data.toList) : Nat) : Int) + 1 else 0 := rfl
  have hA := Lib.hid hA
  generalize actP p.data.toList = r at hA ⊢
  go_enter Tryd.func19, Tryd.ntmps19
  go_wp2_with fail
  show Code.wp _ _ _ _ (w.alloc (.cells (strs N13).toArray 9))
  generalize w.alloc (.cells (strs N13).toArray 9) = W at hw0 hc0 ⊢
  go_loop [4] (fun v4 => ∃ k : Nat, k ≤ 13 ∧ v4 = .int .i64 k ∧ Hid (N13.findIdx (· == p.data.toList) = k + (N13.drop k).findIdx (· == p.data.toList))) (fun v4 => 13 - (intOf v4).toNat)
  case atStart => exact ⟨0, by omega, rfl, Lib.hid (by simp)⟩
  case round =>
    obtain ⟨k, hk, rfl, hF⟩ := hrel
    by_cases hlt : k < 13
    · obtain ⟨nm, hnm, hget⟩ := n13_get k hlt
      have hcell := hc0.out k _ hget
      have hdrop : N13.drop k = nm.data.toList :: N13.drop (k + 1) := by
        obtain ⟨hl, hp⟩ := List.getElem?_eq_some_iff.1 hnm
        rw [List.drop_eq_getElem_cons hl, hp]
      have hF1 := hF.out
      rw [hdrop, List.findIdx_cons] at hF1
      have he : (nm.toList == p.toList) = (nm.data.toList == p.data.toList) := by rw [Lib.toList_data, Lib.toList_data]
      cases hq : (nm.data.toList == p.data.toList) with
      | false =>
        rw [hq] at hF1 he
        have hF2 : Hid (N13.findIdx (· == p.data.toList) = (k + 1) + (N13.drop (k + 1)).findIdx (· == p.data.toList)) := Lib.hid (by
          have h := hF1
          simp only [cond_false] at h
          rw [h]; omega)
        clear hF hF1 hdrop hnm hget hq
        go_wp2_with fail
        go_round
        case rel => exact ⟨k + 1, by omega, by go_num, hF2⟩
        case measure => simp [intOf]; omega
      | true =>
        rw [hq] at hF1 he
        have hF2 : Hid (N13.findIdx (· == p.data.toList) = k) := Lib.hid (by
          have h := hF1
          simp only [cond_true] at h
          rw [h]; rfl)
        clear hF hF1 hdrop hnm hget hq
        go_wp2_with fail
        go_ret
        rw [hA.out, hF2.out, if_pos hlt]
        exact ⟨rfl, hw0.out⟩
    · obtain rfl : k = 13 := by omega
      have hF2 : Hid (¬ N13.findIdx (· == p.data.toList) < 13) := Lib.hid (by have h := hF.out; omega)
      clear hF
      go_wp2_with fail
      go_ret
      rw [hA.out, if_neg hF2.out]
      exact ⟨rfl, hw0.out⟩
end Go.Proofs.YtcdlgiabpjkjoaaDoor.H
