/-
  fsm's Step by its table, a cell with actions, at this seat.
-/
import Derived.Test.YtcdlgiabpjkjoaaDoorFsmD
set_option linter.unusedVariables false
set_option linter.unusedSimpArgs false
namespace Go.Proofs.YtcdlgiabpjkjoaaDoor.H
open Go.RowKit Go.Proofs.YtcdlgiabpjkjoaaDoorW.PrintWords
theorem name_get (k : Nat) (hk : k < 14) : ∃ nm : ByteArray, nm.data.toList = namesL.getD k [] ∧ namesA[k]? = some (.string nm) := by
  have hl : k < namesL.length := by rw [namesL_length]; exact hk
  refine ⟨⟨namesL[k].toArray⟩, by simp [List.getD_eq_getElem?_getD, List.getElem?_eq_getElem hl], strs_get namesL k _ (List.getElem?_eq_getElem hl)⟩
set_option maxHeartbeats 4000000 in
theorem tstep_acts (b : Nat) (s v : Nat) (hs : s < 10) (hv : v < 16) (c : ByteArray) (w : World) (hc : w.cell? ⟨b, v * 10 + s, none⟩ = some (.string c)) (hsz : c.size < 1000)
    (hd : ¬ c.data.toList = [45]) (hi : ¬ Lib.indexByte c.data.toList 47 < 0) (a x : ByteArray) (ha : c.extract 0 (Lib.indexByte c.data.toList 47).toNat = a) (hx : c.extract ((Lib.indexByte c.data.toList 47).toNat + 1) c.size = x)
    (h0 : 0 < x.size) (h48 : 48 ≤ x[0].toNat) :
    Calls Tryd.prog 17 #[.pointer (some ⟨b, 0, none⟩), .int .i64 s, .int .i64 v] w fun e w' => ∃ vo, e = .returned (.tuple #[.int .i64 ((x[0].toNat : Int) - 48), vo, .int .i64 0]) ∧
      Kd.R (Kd.int .i64) 3 w' w.heap.size (fun _ => True) vo (outs (Lib.splitB ⟨#[44]⟩ 0 (Lib.countB a ⟨#[44]⟩) a)) ∧ Below w.heap.size w w' := by
  have b1 : (c.toList == [45]) = false := by rw [Lib.toList_data, beq_eq_false_iff_ne]; exact hd
  have HC := scut_one c 47 w (by omega)
  rw [if_neg hi, ha, hx] at HC
  have HC := Lib.hid HC
  have h256 := x[0].toNat_lt
  have hal : a.size ≤ c.size := by rw [← ha, ByteArray.size_extract]; omega
  have hS := fun w0 => split_one a 44 w0 (by omega)
  have hle := Lib.countB_le ⟨#[44]⟩ (Nat.le_refl _) a.size a (Nat.le_refl _)
  have hlen := Lib.splitB_all ⟨#[44]⟩ (Nat.le_refl _) 0 _ a rfl
  generalize Lib.splitB ⟨#[44]⟩ 0 (Lib.countB a ⟨#[44]⟩) a = ps at hS hlen ⊢
  generalize Lib.countB a ⟨#[44]⟩ = m at hS hlen hle
  have hS := Lib.hid hS
  have hinfo : Hid ((Tryd.prog.info? 3).map (fun i => (i.zero, i.size, i.bytes)) = some (some (.int .i64 0), 1, 8)) := Lib.hid (by kernel_rfl)
  clear hd hi ha hx
  go_enter Tryd.func17, Tryd.ntmps17
  go_wp2_with fail
  ((with_reducible refine (HC.out).mono ?_); rintro e w1 ⟨n, rfl, rfl⟩)
  go_wp2_with fail
  ((with_reducible refine (hS.out _).mono ?_); rintro e w1 ⟨rfl, hw⟩)
  have hB0 : Hid (Below w.heap.size w w1) := Lib.hid (by rw [hw]; exact (pw_below_drewN (Below.refl _ _) n).alloc (Nat.le_refl _) _)
  have hK0 : Hid (Kept w1 (.slice none 0 0) (w.drewN n).heap.size (ps.map Value.string).toArray) := Lib.hid ⟨by rw [hw]; exact heap_alloc_new _ _, by simp [Value.ownBlock]⟩
  clear hw HC hS
  generalize (w.drewN n).heap.size = pb at hK0 ⊢
  go_wp2_with fail
  go_loopw [13, 56] (fun v13 v56 wr => ∃ j : Nat, j ≤ m + 1 ∧ v56 = .int .i64 j ∧ Hid (wr.ownsRow w.heap.size 3 1 v13 (outs (ps.take j)).length (nums .i64 (outs (ps.take j)))) ∧ Hid (Below w.heap.size w wr) ∧ Hid (Kept wr v13 pb (ps.map Value.string).toArray)) (fun _ v56 _ => m + 1 - (intOf v56).toNat)
  case atStart => exact ⟨0, by omega, rfl, Lib.hid (World.ownsRow_nil _ _ _ _), hB0, hK0⟩
  case round =>
    obtain ⟨j, hj, rfl, hO, hB, hK⟩ := hrel
    by_cases hlt : j < m + 1
    · have hjl : j < ps.length := by rw [hlen]; exact hlt
      obtain ⟨p, hp⟩ : ∃ p, ps[j]? = some p := ⟨_, List.getElem?_eq_getElem hjl⟩
      have hcell := hK.out.cell j (.string p) (by simp [hp])
      have hT := Lib.hid (outs_take ps j p hp)
      have hol : Hid ((outs (ps.take j)).length ≤ 14 * 1000) := Lib.hid (by
        have h := outs_length (ps.take j)
        have h2 : (ps.take j).length ≤ j := List.length_take_le _ _
        omega)
      clear hp hjl
      go_wp2_with fail
      ((with_reducible refine (names_any _).mono ?_); rintro e w2 ⟨rfl, hw⟩)
      have hO2 : Hid (w2.ownsRow w.heap.size 3 1 u13 (outs (ps.take j) ++ hits p 0).length (nums .i64 (outs (ps.take j) ++ hits p 0))) := Lib.hid (by rw [hits_zero, List.append_nil, hw]; exact hO.out.alloc _)
      have hB2 : Hid (Below w.heap.size w w2) := Lib.hid (by rw [hw]; exact hB.out.alloc hB.out.size _)
      have hK2 : Hid (Kept w2 u13 pb (ps.map Value.string).toArray) := Lib.hid (by rw [hw]; exact hK.out.alloc _)
      have hN2 : Hid (Kept w2 u13 wr.heap.size namesA) := Lib.hid ⟨by rw [hw]; exact heap_alloc_new _ _, fun e => by have := own_lt hO.out _ e; omega⟩
      clear hw hO hB hK hcell
      generalize wr.heap.size = nb at hN2 ⊢
      go_wp2_with fail
      go_loopw [13, 62] (fun v13 v62 wi => ∃ k : Nat, k ≤ 14 ∧ v62 = .int .i64 k ∧ Hid (wi.ownsRow w.heap.size 3 1 v13 (outs (ps.take j) ++ hits p k).length (nums .i64 (outs (ps.take j) ++ hits p k))) ∧ Hid (Below w.heap.size w wi) ∧ Hid (Kept wi v13 pb (ps.map Value.string).toArray) ∧ Hid (Kept wi v13 nb namesA)) (fun _ v62 _ => 14 - (intOf v62).toNat)
      case atStart => exact ⟨0, by omega, rfl, hO2, hB2, hK2, hN2⟩
      case round =>
        obtain ⟨k, hk, rfl, hO, hB, hK, hN⟩ := hrel
        by_cases hkl : k < 14
        · obtain ⟨nm, hnm, hget⟩ := name_get k hkl
          have hcell := hN.out.cell k (.string nm) hget
          have hH := Lib.hid (hits_succ p k)
          have he : (nm.toList == p.toList) = (namesL.getD k [] == p.data.toList) := by rw [Lib.toList_data, Lib.toList_data, hnm]
          have hhl := Lib.hid (hits_length p k)
          clear hnm hget
          cases hq : (namesL.getD k [] == p.data.toList) with
          | false =>
            rw [hq] at hH he
            rw [if_neg (by decide), List.append_nil] at hH
            clear hq
            go_wp2_with fail
            go_roundw
            case rel => exact ⟨k + 1, by omega, by go_num, by rw [hH.out]; exact hO, hB, hK, hN⟩
            case measure => simp [intOf]; omega
          | true =>
            rw [hq] at hH he
            rw [if_pos rfl] at hH
            clear hq
            go_wp2_with (at_builtin; refine print_append_num (w0 := w) w.heap.size rfl (.tmp 70) (.tmp 72) 22 3 .i64 8 rfl Tryd.underlying22 hinfo.out (by decide) u13 (outs (ps.take j) ++ hits p k) k rfl rfl hO.out hB.out hB.out.size ?aL ?_; (case aL => (have h1 := hol.out; have h2 := hhl.out; rw [List.length_append]; omega)); intro v5 w5 ho hb hg hat)
            have hO5 : Hid (w5.ownsRow w.heap.size 3 1 v5 (outs (ps.take j) ++ hits p (k + 1)).length (nums .i64 (outs (ps.take j) ++ hits p (k + 1)))) := Lib.hid (by rw [hH.out, ← List.append_assoc]; exact ho)
            have hB5 := Lib.hid hb
            have hK5 := Lib.hid (hK.out.grown hg hat)
            have hN5 := Lib.hid (hN.out.grown hg hat)
            clear ho hb hg hat hO hB hK hN hcell
            go_roundw
            case rel => exact ⟨k + 1, by omega, by go_num, hO5, hB5, hK5, hN5⟩
            case measure => simp [intOf]; omega
        · obtain rfl : k = 14 := by omega
          go_wp2_with fail
          go_roundw
          case rel => exact ⟨j + 1, by omega, by go_num, by rw [hT.out]; exact hO, hB, hK⟩
          case measure => simp [intOf]; omega
    · obtain rfl : j = m + 1 := by omega
      have hR : Hid (Kd.R (Kd.int .i64) 3 wr w.heap.size (fun _ => True) u13 (outs ps)) := by
        have h := hO.out
        rw [List.take_of_length_le (by omega)] at h
        exact Lib.hid (Kd.R_of_own (by simpa [nums, encs] using h) (fun _ _ => trivial))
      clear hO
      go_wp2_with fail
      go_ret3
      exact ⟨u13, rfl, hR.out, hB.out⟩
end Go.Proofs.YtcdlgiabpjkjoaaDoor.H
