/-
  The contract of fsm's Step by its table at this seat.
-/
import Derived.Test.YtlpibobpfafooaaGreatDoorFsmB
import Derived.OwnWalk
set_option linter.unusedVariables false
set_option linter.unusedSimpArgs false
namespace Go.Proofs.YtlpibobpfafooaaGreatDoor.H
open Go.RowKit Go.Proofs.YtlpibobpfafooaaGreatDoorW.PrintWords

/-- A block of strings that the row v does not lie in. -/
def Kept (w : World) (v : Value) (b : Nat) (A : Array Value) : Prop := w.heap[b]? = some (.cells A 9 (0, 0)) ∧ v.ownBlock ≠ some b
theorem Kept.lt {w : World} {v : Value} {b : Nat} {A : Array Value} (h : Kept w v b A) : b < w.heap.size := blk_lt h.1
theorem Kept.alloc {w : World} {v : Value} {b : Nat} {A : Array Value} (h : Kept w v b A) (o : Obj) : Kept (w.alloc o) v b A := ⟨blk_alloc h.1 o, h.2⟩
theorem Kept.grown {w w1 : World} {v v1 : Value} {b : Nat} {A : Array Value} (h : Kept w v b A) (hg : w.grownBy w1 v.ownBlock) (hat : v1.ownBlock = v.ownBlock ∨ ∃ c, v1.ownBlock = some c ∧ w.heap.size ≤ c) : Kept w1 v1 b A := by
  have hl := h.lt
  refine ⟨(hg.block b hl (fun e => h.2 e.symm)).trans h.1, fun e => ?_⟩
  rcases hat with hat | ⟨c, hc, hle⟩
  · exact h.2 (hat ▸ e)
  · rw [hc] at e
    have : c = b := Option.some.inj e
    omega
theorem Kept.cell {w : World} {v : Value} {b : Nat} {A : Array Value} (h : Kept w v b A) (j : Nat) (u : Value) (hu : A[j]? = some u) : w.cell? ⟨b, j, none⟩ = some u := by
  have := World.news_of_block (w := w) (B := b) (cs := A) (t := 9) (fr := (0, 0)) h.1 j u (by simpa using hu)
  have ha : (⟨b, 0, none⟩ : Addr).add j = ⟨b, j, none⟩ := by unfold Addr.add; split <;> simp_all
  rwa [ha] at this

/-- Which names a word is, of the first k. -/
def hits (p : ByteArray) (k : Nat) : List Int := ((List.range k).filter (fun i => namesL.getD i [] == p.data.toList)).map Int.ofNat
theorem hits_zero (p : ByteArray) : hits p 0 = [] := rfl
theorem hits_succ (p : ByteArray) (k : Nat) : hits p (k + 1) = hits p k ++ (if namesL.getD k [] == p.data.toList then [(k : Int)] else []) := by
  unfold hits
  rw [List.range_succ, List.filter_append, List.map_append]
  congr 1
  rw [List.filter_cons, List.filter_nil]
  cases (namesL.getD k [] == p.data.toList) <;> rfl
theorem hits_length (p : ByteArray) (k : Nat) : (hits p k).length ≤ k := by
  unfold hits
  rw [List.length_map]
  exact Nat.le_trans (List.length_filter_le _ _) (by simp)
/-- What the words of a list are, side by side. -/
def outs (ps : List ByteArray) : List Int := ps.flatMap fun p => hits p 14
theorem outs_take (ps : List ByteArray) (j : Nat) (p : ByteArray) (h : ps[j]? = some p) : outs (ps.take (j + 1)) = outs (ps.take j) ++ hits p 14 := by
  obtain ⟨hl, hp⟩ := List.getElem?_eq_some_iff.1 h
  unfold outs
  rw [List.take_succ_eq_append_getElem hl, hp, List.flatMap_append]
  simp
theorem outs_length (ps : List ByteArray) : (outs ps).length ≤ 14 * ps.length := by
  unfold outs
  induction ps with
  | nil => simp
  | cons p r ih =>
    rw [List.flatMap_cons, List.length_append, List.length_cons]
    have := hits_length p 14
    omega

theorem split_one (s : ByteArray) (c : UInt8) (w : World) (hs : s.size < 4294967281) :
    Calls Tryz.prog 25 #[.string s, .string ⟨#[c]⟩] w fun e w' =>
      e = .returned (.slice (some ⟨w.heap.size, 0, none⟩) (Lib.countB s ⟨#[c]⟩ + 1) (Lib.countB s ⟨#[c]⟩ + 1)) ∧ w' = w.alloc (.cells ((Lib.splitB ⟨#[c]⟩ 0 (Lib.countB s ⟨#[c]⟩) s).map Value.string).toArray 9) := by
  have h1 : 1 ≤ (⟨#[c]⟩ : ByteArray).size := Nat.le_refl _
  have hle := Lib.countB_le ⟨#[c]⟩ h1 s.size s (Nat.le_refl _)
  have hlen := Lib.splitB_all ⟨#[c]⟩ h1 0 _ s rfl
  have hi9 : (Tryz.prog.info? 9).map (fun i => (i.zero, i.size, i.bytes)) = some (some (.string ByteArray.empty), 1, 16) := by kernel_rfl
  have hI : ∀ (x : ByteArray) (C : Array Value), x.size ≤ s.size → Calls Tryz.prog 71 #[.string x, .string ⟨#[c]⟩] (w.alloc (.cells C 9)) fun e w' => e = .returned (.int .i64 (Lib.indexB x ⟨#[c]⟩)) ∧ w' = w.alloc (.cells C 9) := by
    intro x C _
    refine (Tryz.strings_Index_one x c _).mono fun e w' ⟨he, hw⟩ => ⟨?_, hw⟩
    rw [he]
    show _ = Ending.returned (Value.int .i64 (Lib.index x.data.toList [c]))
    rw [Lib.index_one]
  have hC : Calls Tryz.prog 70 #[.string s, .string ⟨#[c]⟩] w fun e w' => e = .returned (.int .i64 (Lib.countB s ⟨#[c]⟩)) ∧ w' = w := by
    refine (Tryz.strings_Count_one s c w).mono fun e w' ⟨he, hw⟩ => ⟨?_, hw⟩
    rw [he]
    show _ = Ending.returned (Value.int .i64 ((Lib.count s.data.toList [c] : Nat) : Int))
    rw [Lib.count_one]
    rfl
  have C := Any.strings_genSplit_core Tryz.lays221 hi9 s ⟨#[c]⟩ 0 (-1) (Lib.countB s ⟨#[c]⟩ + 1) w hs h1 (Nat.zero_le _) hI hC (by decide) (by decide) (by rw [if_pos (by decide)]; omega)
  rw [Nat.add_sub_cancel, hlen] at C
  have e2 : Lib.cellsOf (Lib.splitB ⟨#[c]⟩ 0 (Lib.countB s ⟨#[c]⟩) s) (Lib.countB s ⟨#[c]⟩ + 1) = ((Lib.splitB ⟨#[c]⟩ 0 (Lib.countB s ⟨#[c]⟩) s).map Value.string).toArray := by rw [← hlen]; exact Lib.cellsOf_full _
  rw [e2] at C
  have C' : Calls Tryz.prog 48 #[.string s, .string ⟨#[c]⟩, .int .i64 0, .int .i64 (-1)] w fun e w' =>
      e = .returned (.slice (some ⟨w.heap.size, 0, none⟩) (Lib.countB s ⟨#[c]⟩ + 1) (Lib.countB s ⟨#[c]⟩ + 1)) ∧ w' = w.alloc (.cells ((Lib.splitB ⟨#[c]⟩ 0 (Lib.countB s ⟨#[c]⟩) s).map Value.string).toArray 9) := C
  have HC := Lib.hid C'
  clear C C' hI hC hlen hle e2
  go_enter Tryz.func25, Tryz.ntmps25
  go_wp2_with fail
  ((with_reducible refine (HC.out).mono ?_); rintro e w' ⟨rfl, rfl⟩)
  go_wp2_with fail
  go_ret
  exact ⟨rfl, rfl⟩

/-- What a cell says. -/
def cellT (c : ByteArray) : Int × List Int × Int :=
  if c.data.toList = [45] then (0, [], 1001) else
  if Lib.indexByte c.data.toList 47 < 0 then (((c.data.toList.headD 0).toNat : Int) - 48, [], 0)
  else ((((c.extract ((Lib.indexByte c.data.toList 47).toNat + 1) c.size).data.toList.headD 0).toNat : Int) - 48,
    outs (Lib.splitB ⟨#[44]⟩ 0 (Lib.countB (c.extract 0 (Lib.indexByte c.data.toList 47).toNat) ⟨#[44]⟩) (c.extract 0 (Lib.indexByte c.data.toList 47).toNat)), 0)

set_option maxHeartbeats 2000000 in
theorem tstep_out (t : Value) (s v : Int) (w : World) (h : ¬ (0 ≤ s ∧ s < 10 ∧ 0 ≤ v ∧ v < 16)) :
    Calls Tryz.prog 85 #[t, .int .i64 s, .int .i64 v] w fun e w' => e = .returned (.tuple #[.int .i64 0, .slice none 0 0, .int .i64 1000]) ∧ w' = w := by
  by_cases h1 : 0 ≤ s
  · by_cases h2 : s < 10
    · by_cases h3 : 0 ≤ v
      · have h4 : ¬ v < 16 := fun h4 => h ⟨h1, h2, h3, h4⟩
        go_enter Tryz.func85, Tryz.ntmps85
        go_wp2
        go_ret3
        exact ⟨rfl, rfl⟩
      · go_enter Tryz.func85, Tryz.ntmps85
        go_wp2
        go_ret3
        exact ⟨rfl, rfl⟩
    · go_enter Tryz.func85, Tryz.ntmps85
      go_wp2
      go_ret3
      exact ⟨rfl, rfl⟩
  · go_enter Tryz.func85, Tryz.ntmps85
    go_wp2
    go_ret3
    exact ⟨rfl, rfl⟩
end Go.Proofs.YtlpibobpfafooaaGreatDoor.H
/-
  fsm's Step by its table, inside the table, at this seat.
-/
set_option linter.unusedVariables false
set_option linter.unusedSimpArgs false
namespace Go.Proofs.YtlpibobpfafooaaGreatDoor.H
open Go.RowKit Go.Proofs.YtlpibobpfafooaaGreatDoorW.PrintWords
theorem head_zero (c : ByteArray) (h : 0 < c.size) : c.data.toList.headD 0 = c[0] := by
  have h2 : 0 < c.data.toList.length := by simpa using h
  cases hl : c.data.toList with
  | nil => rw [hl] at h2; simp at h2
  | cons x r =>
    have : c[0] = c.data.toList[0] := rfl
    rw [this]
    simp [hl]
set_option maxHeartbeats 2000000 in
theorem tstep_dash (b : Nat) (s v : Nat) (hs : s < 10) (hv : v < 16) (c : ByteArray) (w : World) (hc : w.cell? ⟨b, v * 10 + s, none⟩ = some (.string c)) (hd : c.data.toList = [45]) :
    Calls Tryz.prog 85 #[.pointer (some ⟨b, 0, none⟩), .int .i64 s, .int .i64 v] w fun e w' => e = .returned (.tuple #[.int .i64 0, .slice none 0 0, .int .i64 1001]) ∧ w' = w := by
  have b1 : (c.toList == [45]) = true := by rw [Lib.toList_data, hd]; rfl
  clear hd
  go_enter Tryz.func85, Tryz.ntmps85
  go_wp2_with fail
  go_ret3
  exact ⟨rfl, rfl⟩
set_option maxHeartbeats 2000000 in
theorem tstep_plain (b : Nat) (s v : Nat) (hs : s < 10) (hv : v < 16) (c : ByteArray) (w : World) (hc : w.cell? ⟨b, v * 10 + s, none⟩ = some (.string c)) (hsz : c.size < 4294967281) (h0 : 0 < c.size)
    (hd : ¬ c.data.toList = [45]) (hi : Lib.indexByte c.data.toList 47 < 0) (h48 : 48 ≤ c[0].toNat) :
    Calls Tryz.prog 85 #[.pointer (some ⟨b, 0, none⟩), .int .i64 s, .int .i64 v] w fun e w' => e = .returned (.tuple #[.int .i64 ((c[0].toNat : Int) - 48), .slice none 0 0, .int .i64 0]) ∧ ∃ n, w' = w.drewN n := by
  have b1 : (c.toList == [45]) = false := by rw [Lib.toList_data, beq_eq_false_iff_ne]; exact hd
  have HC := scut_one c 47 w hsz
  rw [if_pos hi] at HC
  have HC := Lib.hid HC
  have h256 := c[0].toNat_lt
  clear hd hi
  go_enter Tryz.func85, Tryz.ntmps85
  go_wp2_with fail
  ((with_reducible refine (HC.out).mono ?_); rintro e w1 ⟨n, rfl, rfl⟩)
  go_wp2_with fail
  go_ret3
  exact ⟨rfl, n, rfl⟩
end Go.Proofs.YtlpibobpfafooaaGreatDoor.H
/-
  fsm's Step by its table, a cell with actions, at this seat.
-/
set_option linter.unusedVariables false
set_option linter.unusedSimpArgs false
namespace Go.Proofs.YtlpibobpfafooaaGreatDoor.H
open Go.RowKit Go.Proofs.YtlpibobpfafooaaGreatDoorW.PrintWords
theorem name_get (k : Nat) (hk : k < 14) : ∃ nm : ByteArray, nm.data.toList = namesL.getD k [] ∧ namesA[k]? = some (.string nm) := by
  have hl : k < namesL.length := by rw [namesL_length]; exact hk
  refine ⟨⟨namesL[k].toArray⟩, by simp [List.getD_eq_getElem?_getD, List.getElem?_eq_getElem hl], strs_get namesL k _ (List.getElem?_eq_getElem hl)⟩
set_option maxHeartbeats 4000000 in
set_option maxRecDepth 100000 in
theorem tstep_acts (b : Nat) (s v : Nat) (hs : s < 10) (hv : v < 16) (c : ByteArray) (w : World) (hc : w.cell? ⟨b, v * 10 + s, none⟩ = some (.string c)) (hsz : c.size < 1000)
    (hd : ¬ c.data.toList = [45]) (hi : ¬ Lib.indexByte c.data.toList 47 < 0) (a x : ByteArray) (ha : c.extract 0 (Lib.indexByte c.data.toList 47).toNat = a) (hx : c.extract ((Lib.indexByte c.data.toList 47).toNat + 1) c.size = x)
    (h0 : 0 < x.size) (h48 : 48 ≤ x[0].toNat) :
    Calls Tryz.prog 85 #[.pointer (some ⟨b, 0, none⟩), .int .i64 s, .int .i64 v] w fun e w' => ∃ vo, e = .returned (.tuple #[.int .i64 ((x[0].toNat : Int) - 48), vo, .int .i64 0]) ∧
      Kd.R (Kd.int .i64) 3 w' w.heap.size (fun _ => True) vo (outs (Lib.splitB ⟨#[44]⟩ 0 (Lib.countB a ⟨#[44]⟩) a)) ∧ Below w.heap.size w w' := by
  have b1 : (c.toList == [45]) = false := by rw [Lib.toList_data, beq_eq_false_iff_ne]; exact hd
  have HC := scut_one c 47 w (by omega)
  rw [if_neg hi, ha, hx] at HC
  have HC := Lib.hid HC
  have h256 := x[0].toNat_lt
  have hal : a.size ≤ c.size := by rw [← ha, ByteArray.size_extract]; omega
  have hS := fun w0 => split_one a 44 w0 (by omega)
  have hle := Lib.countB_le ⟨#[44]⟩ (Nat.le_refl _) a.size a (Nat.le_refl _)
  have hlen := Lib.splitB_all ⟨#[44]⟩ (Nat.le_refl _) 0 _ a rfl
  generalize Lib.splitB ⟨#[44]⟩ 0 (Lib.countB a ⟨#[44]⟩) a = ps at hS hlen ⊢
  generalize Lib.countB a ⟨#[44]⟩ = m at hS hlen hle
  have hS := Lib.hid hS
  have hinfo : Hid ((Tryz.prog.info? 3).map (fun i => (i.zero, i.size, i.bytes)) = some (some (.int .i64 0), 1, 8)) := Lib.hid (by kernel_rfl)
  clear hd hi ha hx
  go_enter Tryz.func85, Tryz.ntmps85
  go_wp2_with fail
  ((with_reducible refine (HC.out).mono ?_); rintro e w1 ⟨n, rfl, rfl⟩)
  go_wp2_with fail
  ((with_reducible refine (hS.out _).mono ?_); rintro e w1 ⟨rfl, hw⟩)
  have hB0 : Hid (Below w.heap.size w w1) := Lib.hid (by rw [hw]; exact (pw_below_drewN (Below.refl _ _) n).alloc (Nat.le_refl _) _)
  have hK0 : Hid (Kept w1 (.slice none 0 0) (w.drewN n).heap.size (ps.map Value.string).toArray) := Lib.hid ⟨by rw [hw]; exact heap_alloc_new _ _, by simp [Value.ownBlock]⟩
  clear hw HC hS
  generalize (w.drewN n).heap.size = pb at hK0 ⊢
  go_wp2_with fail
  go_loopw [13, 56] (fun v13 v56 wr => ∃ j : Nat, j ≤ m + 1 ∧ v56 = .int .i64 j ∧ Hid (wr.ownsRow w.heap.size 3 1 v13 (outs (ps.take j)).length (nums .i64 (outs (ps.take j)))) ∧ Hid (Below w.heap.size w wr) ∧ Hid (Kept wr v13 pb (ps.map Value.string).toArray)) (fun _ v56 _ => m + 1 - (intOf v56).toNat)
  case atStart => exact ⟨0, by omega, rfl, Lib.hid (World.ownsRow_nil _ _ _ _), hB0, hK0⟩
  case round =>
    obtain ⟨j, hj, rfl, hO, hB, hK⟩ := hrel
    by_cases hlt : j < m + 1
    · have hjl : j < ps.length := by rw [hlen]; exact hlt
      obtain ⟨p, hp⟩ : ∃ p, ps[j]? = some p := ⟨_, List.getElem?_eq_getElem hjl⟩
      have hcell := hK.out.cell j (.string p) (by simp [hp])
      have hT := Lib.hid (outs_take ps j p hp)
      have hol : Hid ((outs (ps.take j)).length ≤ 14 * 1000) := Lib.hid (by
        have h := outs_length (ps.take j)
        have h2 : (ps.take j).length ≤ j := List.length_take_le _ _
        omega)
      clear hp hjl
      go_wp2_with fail
      ((with_reducible refine (names_any _).mono ?_); rintro e w2 ⟨rfl, hw⟩)
      have hO2 : Hid (w2.ownsRow w.heap.size 3 1 u13 (outs (ps.take j) ++ hits p 0).length (nums .i64 (outs (ps.take j) ++ hits p 0))) := Lib.hid (by rw [hits_zero, List.append_nil, hw]; exact hO.out.alloc _)
      have hB2 : Hid (Below w.heap.size w w2) := Lib.hid (by rw [hw]; exact hB.out.alloc hB.out.size _)
      have hK2 : Hid (Kept w2 u13 pb (ps.map Value.string).toArray) := Lib.hid (by rw [hw]; exact hK.out.alloc _)
      have hN2 : Hid (Kept w2 u13 wr.heap.size namesA) := Lib.hid ⟨by rw [hw]; exact heap_alloc_new _ _, fun e => by have := own_lt hO.out _ e; omega⟩
      clear hw hO hB hK hcell
      generalize wr.heap.size = nb at hN2 ⊢
      go_wp2_with fail
      go_loopw [13, 62] (fun v13 v62 wi => ∃ k : Nat, k ≤ 14 ∧ v62 = .int .i64 k ∧ Hid (wi.ownsRow w.heap.size 3 1 v13 (outs (ps.take j) ++ hits p k).length (nums .i64 (outs (ps.take j) ++ hits p k))) ∧ Hid (Below w.heap.size w wi) ∧ Hid (Kept wi v13 pb (ps.map Value.string).toArray) ∧ Hid (Kept wi v13 nb namesA)) (fun _ v62 _ => 14 - (intOf v62).toNat)
      case atStart => exact ⟨0, by omega, rfl, hO2, hB2, hK2, hN2⟩
      case round =>
        obtain ⟨k, hk, rfl, hO, hB, hK, hN⟩ := hrel
        by_cases hkl : k < 14
        · obtain ⟨nm, hnm, hget⟩ := name_get k hkl
          have hcell := hN.out.cell k (.string nm) hget
          have hH := Lib.hid (hits_succ p k)
          have he : (nm.toList == p.toList) = (namesL.getD k [] == p.data.toList) := by rw [Lib.toList_data, Lib.toList_data, hnm]
          have hhl := Lib.hid (hits_length p k)
          clear hnm hget
          cases hq : (namesL.getD k [] == p.data.toList) with
          | false =>
            rw [hq] at hH he
            rw [if_neg (by decide), List.append_nil] at hH
            clear hq
            go_wp2_with fail
            go_roundw
            case rel => exact ⟨k + 1, by omega, by go_num, by rw [hH.out]; exact hO, hB, hK, hN⟩
            case measure => simp [intOf]; omega
          | true =>
            rw [hq] at hH he
            rw [if_pos rfl] at hH
            clear hq
            go_wp2_with (at_builtin; refine print_append_num (w0 := w) w.heap.size rfl (.tmp 70) (.tmp 72) 24 3 .i64 8 rfl Tryz.underlying24 hinfo.out (by decide) u13 (outs (ps.take j) ++ hits p k) k rfl rfl hO.out hB.out hB.out.size ?aL ?_; (case aL => (have h1 := hol.out; have h2 := hhl.out; rw [List.length_append]; omega)); intro v5 w5 ho hb hg hat)
            have hO5 : Hid (w5.ownsRow w.heap.size 3 1 v5 (outs (ps.take j) ++ hits p (k + 1)).length (nums .i64 (outs (ps.take j) ++ hits p (k + 1)))) := Lib.hid (by rw [hH.out, ← List.append_assoc]; exact ho)
            have hB5 := Lib.hid hb
            have hK5 := Lib.hid (hK.out.grown hg hat)
            have hN5 := Lib.hid (hN.out.grown hg hat)
            clear ho hb hg hat hO hB hK hN hcell
            go_roundw
            case rel => exact ⟨k + 1, by omega, by go_num, hO5, hB5, hK5, hN5⟩
            case measure => simp [intOf]; omega
        · obtain rfl : k = 14 := by omega
          go_wp2_with fail
          go_roundw
          case rel => exact ⟨j + 1, by omega, by go_num, by rw [hT.out]; exact hO, hB, hK⟩
          case measure => simp [intOf]; omega
    · obtain rfl : j = m + 1 := by omega
      have hR : Hid (Kd.R (Kd.int .i64) 3 wr w.heap.size (fun _ => True) u13 (outs ps)) := by
        have h := hO.out
        rw [List.take_of_length_le (by omega)] at h
        exact Lib.hid (Kd.R_of_own (by simpa [nums, encs] using h) (fun _ _ => trivial))
      clear hO
      go_wp2_with fail
      go_ret3
      exact ⟨u13, rfl, hR.out, hB.out⟩
end Go.Proofs.YtlpibobpfafooaaGreatDoor.H
/-
  What fsm's Step comes to, as a plain function of numbers; its contract at this seat.
-/
set_option linter.unusedVariables false
set_option linter.unusedSimpArgs false
namespace Go.Proofs.YtlpibobpfafooaaGreatDoor.H
open Go.RowKit Go.Proofs.YtlpibobpfafooaaGreatDoorW.PrintWords

/-- A list of bytes cut at each c. -/
def cutAt (c : UInt8) : List UInt8 → List (List UInt8)
  | [] => [[]]
  | b :: r => if b = c then [] :: cutAt c r else match cutAt c r with
    | [] => [[b]]
    | p :: ps => (b :: p) :: ps
theorem cutAt_miss (c : UInt8) (l : List UInt8) (h : Lib.indexByte l c = -1) : cutAt c l = [l] := by
  induction l with
  | nil => rfl
  | cons b r ih =>
    unfold Lib.indexByte at h
    have hg := Lib.indexByte_ge r c
    split at h
    · omega
    · rename_i hb
      have hb' : ¬ b = c := by simpa using hb
      split at h
      · rename_i h2
        have hr := ih (by simpa using h2)
        unfold cutAt
        rw [if_neg hb', hr]
      · rename_i h2
        have : ¬ Lib.indexByte r c = -1 := by simpa using h2
        omega
theorem cutAt_hit (c : UInt8) (l : List UInt8) : ∀ i : Nat, Lib.indexByte l c = i → cutAt c l = l.take i :: cutAt c (l.drop (i + 1)) := by
  induction l with
  | nil => intro i h; simp [Lib.indexByte] at h
  | cons b r ih =>
    intro i h
    unfold Lib.indexByte at h
    have hg := Lib.indexByte_ge r c
    split at h
    · rename_i hb
      have hb' : b = c := by simpa using hb
      obtain rfl : i = 0 := by omega
      conv => lhs; unfold cutAt
      rw [if_pos hb']
      rfl
    · rename_i hb
      have hb' : ¬ b = c := by simpa using hb
      split at h
      · omega
      · rename_i h2
        have h3 : ¬ Lib.indexByte r c = -1 := by simpa using h2
        obtain ⟨j, rfl⟩ : ∃ j, i = j + 1 := ⟨i - 1, by omega⟩
        have hr := ih j (by omega)
        conv => lhs; unfold cutAt
        rw [if_neg hb', hr]
        rfl
theorem splitB_cut (c : UInt8) : ∀ (n : Nat) (s : ByteArray), s.size ≤ n → (Lib.splitB ⟨#[c]⟩ 0 (Lib.countB s ⟨#[c]⟩) s).map (fun p => p.data.toList) = cutAt c s.data.toList := by
  intro n
  induction n with
  | zero =>
    intro s hn
    have hl : s.data.toList.length = s.size := Array.length_toList
    have h0 : s.data.toList = [] := List.eq_nil_of_length_eq_zero (by rw [hl]; omega)
    have hx : Lib.indexB s ⟨#[c]⟩ = -1 := by
      show Lib.index s.data.toList [c] = -1
      rw [Lib.index_one, h0]
      rfl
    rw [Lib.splitB_miss _ _ _ _ hx, h0]
    simp [h0, cutAt]
  | succ n ih =>
    intro s hn
    have hx : Lib.indexB s ⟨#[c]⟩ = Lib.indexByte s.data.toList c := by
      show Lib.index s.data.toList [c] = _
      rw [Lib.index_one]
    have hge := Lib.indexByte_ge s.data.toList c
    by_cases hm : Lib.indexByte s.data.toList c = -1
    · rw [Lib.splitB_miss _ _ _ _ (by rw [hx, hm]), cutAt_miss c _ hm]
      rfl
    · obtain ⟨i, hi⟩ : ∃ i : Nat, Lib.indexByte s.data.toList c = i := ⟨(Lib.indexByte s.data.toList c).toNat, (Int.toNat_of_nonneg (by omega)).symm⟩
      have hlt : i < s.size := by
        have := (Lib.indexByte_some hi).1
        have h2 := (List.getElem?_eq_some_iff.1 this).1
        simpa using h2
      have hxi : Lib.indexB s ⟨#[c]⟩ = i := by rw [hx, hi]
      rw [Lib.countB_hit s ⟨#[c]⟩ i (Nat.le_refl _) hxi, Nat.add_comm, Lib.splitB_hit _ _ _ _ i hxi, cutAt_hit c _ i hi]
      have e1 : (⟨#[c]⟩ : ByteArray).size = 1 := rfl
      have hsz : (s.extract (i + 1) s.size).size = s.size - (i + 1) := by simp
      rw [e1, List.map_cons, ih (s.extract (i + 1) s.size) (by rw [hsz]; omega)]
      have e2 : (s.extract 0 (i + 0)).data.toList = s.data.toList.take i := by simp
      have e3 : (s.extract (i + 1) s.size).data.toList = s.data.toList.drop (i + 1) := by
        rw [ByteArray.data_extract, Array.toList_extract]
        simp [List.take_of_length_le]
      rw [e2, e3]

def hitsL (p : List UInt8) : List Int := ((List.range 14).filter (fun i => namesL.getD i [] == p)).map Int.ofNat
def outsL (ps : List (List UInt8)) : List Int := ps.flatMap hitsL
theorem outs_map (ps : List ByteArray) : outs ps = outsL (ps.map fun p => p.data.toList) := by
  unfold outs outsL
  rw [List.flatMap_map]
  rfl
def cellL (l : List UInt8) : Int × List Int × Int :=
  if l = [45] then (0, [], 1001) else
  if Lib.indexByte l 47 < 0 then (((l.headD 0).toNat : Int) - 48, [], 0)
  else ((((l.drop ((Lib.indexByte l 47).toNat + 1)).headD 0).toNat : Int) - 48, outsL (cutAt 44 (l.take (Lib.indexByte l 47).toNat)), 0)
theorem cellT_list (c : ByteArray) : cellT c = cellL c.data.toList := by
  unfold cellT cellL
  split
  · rfl
  · split
    · rfl
    · have e2 : ∀ i, (c.extract 0 i).data.toList = c.data.toList.take i := fun i => by simp
      have e3 : ∀ i, (c.extract i c.size).data.toList = c.data.toList.drop i := fun i => by
        rw [ByteArray.data_extract, Array.toList_extract]
        simp [List.take_of_length_le]
      rw [outs_map, splitB_cut _ _ _ (Nat.le_refl _), e2, e3]

/-- A word's number. -/
def actP (p : List UInt8) : Int := if (namesL.drop 1).findIdx (· == p) < 13 then (((namesL.drop 1).findIdx (· == p) : Nat) : Int) + 1 else 0
/-- A cell as the document has it. -/
def cellP (l : List UInt8) : Int × List Int × Int :=
  if l = [45] then (0, [], 1001) else (((l.getLastD 0).toNat : Int) - 48, (List.range (l.length / 4)).map fun q => actP ((l.drop (4 * q)).take 3), 0)
def stepP (s v : Int) : Int × List Int × Int := if 0 ≤ s ∧ s < 10 ∧ 0 ≤ v ∧ v < 16 then cellP (tabL.getD (v.toNat * 10 + s.toNat) []) else (0, [], 1000)

set_option maxRecDepth 100000 in
theorem cells_same : ∀ l ∈ tabL, cellL l = cellP l := by decide +kernel
def goodL (l : List UInt8) : Bool := 0 < l.length && l.length < 1000 && (l == [45] || if Lib.indexByte l 47 < 0 then 48 ≤ (l.headD 0).toNat else (0 < (l.drop ((Lib.indexByte l 47).toNat + 1)).length && 48 ≤ ((l.drop ((Lib.indexByte l 47).toNat + 1)).headD 0).toNat))
set_option maxRecDepth 100000 in
theorem cells_good : ∀ l ∈ tabL, goodL l = true := by decide +kernel

theorem head_list (x : ByteArray) (h : 0 < x.size) : ((x.data.toList.headD 0).toNat : Int) = (x[0].toNat : Int) := by rw [head_zero x h]
theorem tstep_any (b : Nat) (s v : Int) (w : World) (hw : ∀ (j : Nat) (u : Value), tabA[j]? = some u → w.cell? ⟨b, j, none⟩ = some u) :
    Calls Tryz.prog 85 #[.pointer (some ⟨b, 0, none⟩), .int .i64 s, .int .i64 v] w fun e w' => ∃ vo, e = .returned (.tuple #[.int .i64 (stepP s v).1, vo, .int .i64 (stepP s v).2.2]) ∧
      Kd.R (Kd.int .i64) 3 w' w.heap.size (fun _ => True) vo (stepP s v).2.1 ∧ Below w.heap.size w w' := by
  by_cases h : 0 ≤ s ∧ s < 10 ∧ 0 ≤ v ∧ v < 16
  · obtain ⟨h1, h2, h3, h4⟩ := h
    obtain ⟨s, rfl⟩ : ∃ n : Nat, s = n := ⟨s.toNat, (Int.toNat_of_nonneg h1).symm⟩
    obtain ⟨v, rfl⟩ : ∃ n : Nat, v = n := ⟨v.toNat, (Int.toNat_of_nonneg h3).symm⟩
    have hl : v * 10 + s < tabL.length := by rw [tabL_length]; omega
    have hg : tabL[v * 10 + s]? = some tabL[v * 10 + s] := List.getElem?_eq_getElem hl
    have hmem : tabL[v * 10 + s] ∈ tabL := List.getElem_mem hl
    have hsame := cells_same _ hmem
    have hgood := cells_good _ hmem
    have hcell := hw _ _ (strs_get tabL _ _ hg)
    have hstep : stepP s v = cellT ⟨tabL[v * 10 + s].toArray⟩ := by
      unfold stepP
      rw [if_pos ⟨h1, h2, h3, h4⟩, cellT_list, hsame]
      simp only [Int.toNat_natCast, List.getD_eq_getElem?_getD, hg, Option.getD_some]
    rw [hstep]
    generalize hc : (⟨tabL[v * 10 + s].toArray⟩ : ByteArray) = c at hcell
    have hcl : c.data.toList = tabL[v * 10 + s] := by rw [← hc]
    rw [← hcl] at hgood
    clear hsame hstep hmem hg hw hc hcl hl
    unfold goodL at hgood
    have hlen : c.data.toList.length = c.size := Array.length_toList
    rw [hlen] at hgood
    simp only [Bool.and_eq_true, decide_eq_true_eq, Bool.or_eq_true, beq_iff_eq] at hgood
    obtain ⟨⟨g1, g2⟩, g3⟩ := hgood
    by_cases hd : c.data.toList = [45]
    · have e : cellT c = (0, [], 1001) := by unfold cellT; rw [if_pos hd]
      rw [e]
      exact (tstep_dash b s v (by omega) (by omega) c w hcell hd).mono fun e w' ⟨he, hw⟩ => ⟨_, he, by rw [hw]; exact Kd.R_nil _ _ _ _ _, by rw [hw]; exact Below.refl _ _⟩
    · replace g3 := g3.resolve_left hd
      by_cases hi : Lib.indexByte c.data.toList 47 < 0
      · rw [if_pos hi] at g3
        simp only [decide_eq_true_eq] at g3
        rw [head_zero c g1] at g3
        have e : cellT c = ((c[0].toNat : Int) - 48, [], 0) := by unfold cellT; rw [if_neg hd, if_pos hi, head_zero c g1]
        rw [e]
        exact (tstep_plain b s v (by omega) (by omega) c w hcell (by omega) g1 hd hi g3).mono fun e w' ⟨he, n, hw⟩ => ⟨_, he, by rw [hw]; exact Kd.R_drewN (Kd.R_nil _ _ _ _ _) n, by rw [hw]; exact pw_below_drewN (Below.refl _ _) n⟩
      · rw [if_neg hi] at g3
        simp only [Bool.and_eq_true, decide_eq_true_eq] at g3
        have e3 : (c.extract ((Lib.indexByte c.data.toList 47).toNat + 1) c.size).data.toList = c.data.toList.drop ((Lib.indexByte c.data.toList 47).toNat + 1) := by
          rw [ByteArray.data_extract, Array.toList_extract]
          simp [List.take_of_length_le]
        generalize hx : c.extract ((Lib.indexByte c.data.toList 47).toNat + 1) c.size = x at e3
        have hxl : x.data.toList.length = x.size := Array.length_toList
        rw [← e3, hxl] at g3
        have g5 := g3.2
        rw [head_zero x g3.1] at g5
        have e : cellT c = ((x[0].toNat : Int) - 48, outs (Lib.splitB ⟨#[44]⟩ 0 (Lib.countB (c.extract 0 (Lib.indexByte c.data.toList 47).toNat) ⟨#[44]⟩) (c.extract 0 (Lib.indexByte c.data.toList 47).toNat)), 0) := by
          unfold cellT; rw [if_neg hd, if_neg hi, hx, head_zero x g3.1]
        rw [e]
        exact tstep_acts b s v (by omega) (by omega) c w hcell g2 hd hi _ x rfl hx g3.1 g5
  · have e : stepP s v = (0, [], 1000) := by unfold stepP; rw [if_neg h]
    rw [e]
    exact (tstep_out _ s v w h).mono fun e w' ⟨he, hw⟩ => ⟨_, he, by rw [hw]; exact Kd.R_nil _ _ _ _ _, by rw [hw]; exact Below.refl _ _⟩

theorem step_any (s v : Int) (w : World) :
    Calls Tryz.prog 64 #[.int .i64 s, .int .i64 v] w fun e w' => ∃ vo, e = .returned (.tuple #[.int .i64 (stepP s v).1, vo, .int .i64 (stepP s v).2.2]) ∧
      Kd.R (Kd.int .i64) 3 w' w.heap.size (fun _ => True) vo (stepP s v).2.1 ∧ Below w.heap.size w w' := by
  have hT := Lib.hid (tstep_any w.heap.size s v (w.alloc (.cells tabA 132)) (fun j u hu => by
    have := World.news_of_block (w := w.alloc (.cells tabA 132)) (B := w.heap.size) (cs := tabA) (t := 132) (fr := (0, 0)) (heap_alloc_new _ _) j u (by simpa using hu)
    have ha : (⟨w.heap.size, 0, none⟩ : Addr).add j = ⟨w.heap.size, j, none⟩ := by unfold Addr.add; split <;> simp_all
    rwa [ha] at this))
  generalize stepP s v = r at hT ⊢
  go_enter Tryz.func64, Tryz.ntmps64
  go_wp2_with fail
  ((with_reducible refine (made_any _).mono ?_); rintro e w1 ⟨rfl, rfl⟩)
  go_wp2_with fail
  ((with_reducible refine (hT.out).mono ?_); rintro e w2 ⟨vo, rfl, hR, hB⟩)
  have hR := Lib.hid hR
  have hB := Lib.hid hB
  go_wp2_with fail
  go_ret3
  exact ⟨vo, rfl, Kd.R_lower hR.out (by simp), below_weaken ((Below.refl _ w).alloc (Nat.le_refl _) _) (by simp) hB.out⟩
end Go.Proofs.YtlpibobpfafooaaGreatDoor.H
