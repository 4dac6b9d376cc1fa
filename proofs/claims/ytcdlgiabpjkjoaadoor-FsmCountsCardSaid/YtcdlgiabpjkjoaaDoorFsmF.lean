/-
  What fsm's Step comes to, as a plain function of numbers; its contract at this seat.
-/
import Derived.Test.YtcdlgiabpjkjoaaDoorFsmE
set_option linter.unusedVariables false
set_option linter.unusedSimpArgs false
namespace Go.Proofs.YtcdlgiabpjkjoaaDoor.H
open Go.RowKit Go.Proofs.YtcdlgiabpjkjoaaDoorW.PrintWords

/-- A list of bytes cut at each c. -/
def cutAt (c : UInt8) : List UInt8 → List (List UInt8)
  | [] => [[]]
  | b :: r => if b = c then [] :: cutAt c r else match cutAt c r with
    | [] => [[b]]
    | p :: ps => (b :: p) :: ps
theorem cutAt_miss (c : UInt8) (l : List UInt8) (h : Lib.indexByte l c = -1) : cutAt c l = [l] := by
  induction l with
  | nil => rfl
  | cons b r ih =>
    unfold Lib.indexByte at h
    have hg := Lib.indexByte_ge r c
    split at h
    · omega
    · rename_i hb
      have hb' : ¬ b = c := by simpa using hb
      split at h
      · rename_i h2
        have hr := ih (by simpa using h2)
        unfold cutAt
        rw [if_neg hb', hr]
      · rename_i h2
        have : ¬ Lib.indexByte r c = -1 := by simpa using h2
        omega
theorem cutAt_hit (c : UInt8) (l : List UInt8) : ∀ i : Nat, Lib.indexByte l c = i → cutAt c l = l.take i :: cutAt c (l.drop (i + 1)) := by
  induction l with
  | nil => intro i h; simp [Lib.indexByte] at h
  | cons b r ih =>
    intro i h
    unfold Lib.indexByte at h
    have hg := Lib.indexByte_ge r c
    split at h
    · rename_i hb
      have hb' : b = c := by simpa using hb
      obtain rfl : i = 0 := by omega
      conv => lhs; unfold cutAt
      rw [if_pos hb']
      rfl
    · rename_i hb
      have hb' : ¬ b = c := by simpa using hb
      split at h
      · omega
      · rename_i h2
        have h3 : ¬ Lib.indexByte r c = -1 := by simpa using h2
        obtain ⟨j, rfl⟩ : ∃ j, i = j + 1 := ⟨i - 1, by omega⟩
        have hr := ih j (by omega)
        conv => lhs; unfold cutAt
        rw [if_neg hb', hr]
        rfl
theorem splitB_cut (c : UInt8) : ∀ (n : Nat) (s : ByteArray), s.size ≤ n → (Lib.splitB ⟨#[c]⟩ 0 (Lib.countB s ⟨#[c]⟩) s).map (fun p => p.data.toList) = cutAt c s.data.toList := by
  intro n
  induction n with
  | zero =>
    intro s hn
    have hl : s.data.toList.length = s.size := Array.length_toList
    have h0 : s.data.toList = [] := List.eq_nil_of_length_eq_zero (by rw [hl]; omega)
    have hx : Lib.indexB s ⟨#[c]⟩ = -1 := by
      show Lib.index s.data.toList [c] = -1
      rw [Lib.index_one, h0]
      rfl
    rw [Lib.splitB_miss _ _ _ _ hx, h0]
    simp [h0, cutAt]
  | succ n ih =>
    intro s hn
    have hx : Lib.indexB s ⟨#[c]⟩ = Lib.indexByte s.data.toList c := by
      show Lib.index s.data.toList [c] = _
      rw [Lib.index_one]
    have hge := Lib.indexByte_ge s.data.toList c
    by_cases hm : Lib.indexByte s.data.toList c = -1
    · rw [Lib.splitB_miss _ _ _ _ (by rw [hx, hm]), cutAt_miss c _ hm]
      rfl
    · obtain ⟨i, hi⟩ : ∃ i : Nat, Lib.indexByte s.data.toList c = i := ⟨(Lib.indexByte s.data.toList c).toNat, (Int.toNat_of_nonneg (by omega)).symm⟩
      have hlt : i < s.size := by
        have := (Lib.indexByte_some hi).1
        have h2 := (List.getElem?_eq_some_iff.1 this).1
        simpa using h2
      have hxi : Lib.indexB s ⟨#[c]⟩ = i := by rw [hx, hi]
      rw [Lib.countB_hit s ⟨#[c]⟩ i (Nat.le_refl _) hxi, Nat.add_comm, Lib.splitB_hit _ _ _ _ i hxi, cutAt_hit c _ i hi]
      have e1 : (⟨#[c]⟩ : ByteArray).size = 1 := rfl
      have hsz : (s.extract (i + 1) s.size).size = s.size - (i + 1) := by simp
      rw [e1, List.map_cons, ih (s.extract (i + 1) s.size) (by rw [hsz]; omega)]
      have e2 : (s.extract 0 (i + 0)).data.toList = s.data.toList.take i := by simp
      have e3 : (s.extract (i + 1) s.size).data.toList = s.data.toList.drop (i + 1) := by
        rw [ByteArray.data_extract, Array.toList_extract]
        simp [List.take_of_length_le]
      rw [e2, e3]

def hitsL (p : List UInt8) : List Int := ((List.range 14).filter (fun i => namesL.getD i [] == p)).map Int.ofNat
def outsL (ps : List (List UInt8)) : List Int := ps.flatMap hitsL
theorem outs_map (ps : List ByteArray) : outs ps = outsL (ps.map fun p => p.data.toList) := by
  unfold outs outsL
  rw [List.flatMap_map]
  rfl
def cellL (l : List UInt8) : Int × List Int × Int :=
  if l = [45] then (0, [], 1001) else
  if Lib.indexByte l 47 < 0 then (((l.headD 0).toNat : Int) - 48, [], 0)
  else ((((l.drop ((Lib.indexByte l 47).toNat + 1)).headD 0).toNat : Int) - 48, outsL (cutAt 44 (l.take (Lib.indexByte l 47).toNat)), 0)
theorem cellT_list (c : ByteArray) : cellT c = cellL c.data.toList := by
  unfold cellT cellL
  split
  · rfl
  · split
    · rfl
    · have e2 : ∀ i, (c.extract 0 i).data.toList = c.data.toList.take i := fun i => by simp
      have e3 : ∀ i, (c.extract i c.size).data.toList = c.data.toList.drop i := fun i => by
        rw [ByteArray.data_extract, Array.toList_extract]
        simp [List.take_of_length_le]
      rw [outs_map, splitB_cut _ _ _ (Nat.le_refl _), e2, e3]

/-- A word's number. -/
def actP (p : List UInt8) : Int := if (namesL.drop 1).findIdx (· == p) < 13 then (((namesL.drop 1).findIdx (· == p) : Nat) : Int) + 1 else 0
/-- A cell as the document has it. -/
def cellP (l : List UInt8) : Int × List Int × Int :=
  if l = [45] then (0, [], 1001) else (((l.getLastD 0).toNat : Int) - 48, (List.range (l.length / 4)).map fun q => actP ((l.drop (4 * q)).take 3), 0)
def stepP (s v : Int) : Int × List Int × Int := if 0 ≤ s ∧ s < 10 ∧ 0 ≤ v ∧ v < 16 then cellP (tabL.getD (v.toNat * 10 + s.toNat) []) else (0, [], 1000)

set_option maxRecDepth 100000 in
theorem cells_same : ∀ l ∈ tabL, cellL l = cellP l := by decide +kernel
def goodL (l : List UInt8) : Bool := 0 < l.length && l.length < 1000 && (l == [45] || if Lib.indexByte l 47 < 0 then 48 ≤ (l.headD 0).toNat else (0 < (l.drop ((Lib.indexByte l 47).toNat + 1)).length && 48 ≤ ((l.drop ((Lib.indexByte l 47).toNat + 1)).headD 0).toNat))
set_option maxRecDepth 100000 in
theorem cells_good : ∀ l ∈ tabL, goodL l = true := by decide +kernel

theorem head_list (x : ByteArray) (h : 0 < x.size) : ((x.data.toList.headD 0).toNat : Int) = (x[0].toNat : Int) := by rw [head_zero x h]
theorem tstep_any (b : Nat) (s v : Int) (w : World) (hw : ∀ (j : Nat) (u : Value), tabA[j]? = some u → w.cell? ⟨b, j, none⟩ = some u) :
    Calls Tryd.prog 17 #[.pointer (some ⟨b, 0, none⟩), .int .i64 s, .int .i64 v] w fun e w' => ∃ vo, e = .returned (.tuple #[.int .i64 (stepP s v).1, vo, .int .i64 (stepP s v).2.2]) ∧
      Kd.R (Kd.int .i64) 3 w' w.heap.size (fun _ => True) vo (stepP s v).2.1 ∧ Below w.heap.size w w' := by
  by_cases h : 0 ≤ s ∧ s < 10 ∧ 0 ≤ v ∧ v < 16
  · obtain ⟨h1, h2, h3, h4⟩ := h
    obtain ⟨s, rfl⟩ : ∃ n : Nat, s = n := ⟨s.toNat, (Int.toNat_of_nonneg h1).symm⟩
    obtain ⟨v, rfl⟩ : ∃ n : Nat, v = n := ⟨v.toNat, (Int.toNat_of_nonneg h3).symm⟩
    have hl : v * 10 + s < tabL.length := by rw [tabL_length]; omega
    have hg : tabL[v * 10 + s]? = some tabL[v * 10 + s] := List.getElem?_eq_getElem hl
    have hmem : tabL[v * 10 + s] ∈ tabL := List.getElem_mem hl
    have hsame := cells_same _ hmem
    have hgood := cells_good _ hmem
    have hcell := hw _ _ (strs_get tabL _ _ hg)
    have hstep : stepP s v = cellT ⟨tabL[v * 10 + s].toArray⟩ := by
      unfold stepP
      rw [if_pos ⟨h1, h2, h3, h4⟩, cellT_list, hsame]
      simp only [Int.toNat_natCast, List.getD_eq_getElem?_getD, hg, Option.getD_some]
    rw [hstep]
    generalize hc : (⟨tabL[v * 10 + s].toArray⟩ : ByteArray) = c at hcell
    have hcl : c.data.toList = tabL[v * 10 + s] := by rw [← hc]
    rw [← hcl] at hgood
    clear hsame hstep hmem hg hw hc hcl hl
    unfold goodL at hgood
    have hlen : c.data.toList.length = c.size := Array.length_toList
    rw [hlen] at hgood
    simp only [Bool.and_eq_true, decide_eq_true_eq, Bool.or_eq_true, beq_iff_eq] at hgood
    obtain ⟨⟨g1, g2⟩, g3⟩ := hgood
    by_cases hd : c.data.toList = [45]
    · have e : cellT c = (0, [], 1001) := by unfold cellT; rw [if_pos hd]
      rw [e]
      exact (tstep_dash b s v (by omega) (by omega) c w hcell hd).mono fun e w' ⟨he, hw⟩ => ⟨_, he, by rw [hw]; exact Kd.R_nil _ _ _ _ _, by rw [hw]; exact Below.refl _ _⟩
    · replace g3 := g3.resolve_left hd
      by_cases hi : Lib.indexByte c.data.toList 47 < 0
      · rw [if_pos hi] at g3
        simp only [decide_eq_true_eq] at g3
        rw [head_zero c g1] at g3
        have e : cellT c = ((c[0].toNat : Int) - 48, [], 0) := by unfold cellT; rw [if_neg hd, if_pos hi, head_zero c g1]
        rw [e]
        exact (tstep_plain b s v (by omega) (by omega) c w hcell (by omega) g1 hd hi g3).mono fun e w' ⟨he, n, hw⟩ => ⟨_, he, by rw [hw]; exact Kd.R_drewN (Kd.R_nil _ _ _ _ _) n, by rw [hw]; exact pw_below_drewN (Below.refl _ _) n⟩
      · rw [if_neg hi] at g3
        simp only [Bool.and_eq_true, decide_eq_true_eq] at g3
        have e3 : (c.extract ((Lib.indexByte c.data.toList 47).toNat + 1) c.size).data.toList = c.data.toList.drop ((Lib.indexByte c.data.toList 47).toNat + 1) := by
          rw [ByteArray.data_extract, Array.toList_extract]
          simp [List.take_of_length_le]
        generalize hx : c.extract ((Lib.indexByte c.data.toList 47).toNat + 1) c.size = x at e3
        have hxl : x.data.toList.length = x.size := Array.length_toList
        rw [← e3, hxl] at g3
        have g5 := g3.2
        rw [head_zero x g3.1] at g5
        have e : cellT c = ((x[0].toNat : Int) - 48, outs (Lib.splitB ⟨#[44]⟩ 0 (Lib.countB (c.extract 0 (Lib.indexByte c.data.toList 47).toNat) ⟨#[44]⟩) (c.extract 0 (Lib.indexByte c.data.toList 47).toNat)), 0) := by
          unfold cellT; rw [if_neg hd, if_neg hi, hx, head_zero x g3.1]
        rw [e]
        exact tstep_acts b s v (by omega) (by omega) c w hcell g2 hd hi _ x rfl hx g3.1 g5
  · have e : stepP s v = (0, [], 1000) := by unfold stepP; rw [if_neg h]
    rw [e]
    exact (tstep_out _ s v w h).mono fun e w' ⟨he, hw⟩ => ⟨_, he, by rw [hw]; exact Kd.R_nil _ _ _ _ _, by rw [hw]; exact Below.refl _ _⟩

theorem step_any (s v : Int) (w : World) :
    Calls Tryd.prog 10 #[.int .i64 s, .int .i64 v] w fun e w' => ∃ vo, e = .returned (.tuple #[.int .i64 (stepP s v).1, vo, .int .i64 (stepP s v).2.2]) ∧
      Kd.R (Kd.int .i64) 3 w' w.heap.size (fun _ => True) vo (stepP s v).2.1 ∧ Below w.heap.size w w' := by
  have hT := Lib.hid (tstep_any w.heap.size s v (w.alloc (.cells tabA 44)) (fun j u hu => by
    have := World.news_of_block (w := w.alloc (.cells tabA 44)) (B := w.heap.size) (cs := tabA) (t := 44) (fr := (0, 0)) (heap_alloc_new _ _) j u (by simpa using hu)
    have ha : (⟨w.heap.size, 0, none⟩ : Addr).add j = ⟨w.heap.size, j, none⟩ := by unfold Addr.add; split <;> simp_all
    rwa [ha] at this))
  generalize stepP s v = r at hT ⊢
  go_enter Tryd.func10, Tryd.ntmps10
  go_wp2_with fail
  ((with_reducible refine (made_any _).mono ?_); rintro e w1 ⟨rfl, rfl⟩)
  go_wp2_with fail
  ((with_reducible refine (hT.out).mono ?_); rintro e w2 ⟨vo, rfl, hR, hB⟩)
  have hR := Lib.hid hR
  have hB := Lib.hid hB
  go_wp2_with fail
  go_ret3
  exact ⟨vo, rfl, Kd.R_lower hR.out (by simp), below_weaken ((Below.refl _ w).alloc (Nat.le_refl _) _) (by simp) hB.out⟩
end Go.Proofs.YtcdlgiabpjkjoaaDoor.H
