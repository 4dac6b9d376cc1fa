/-
  FrameTurned: the walk.
-/
import Derived.Test.YtnkjhlpdcffalaaPF5
import Derived.Test.YtnkjhlpdcffalaaFrame
import Derived.Lib.ConvBytes
import Derived.Laws.IdiomStrings
import Derived.Lib.Hide
set_option linter.unusedVariables false
set_option linter.unusedSimpArgs false
namespace Go.Proofs.Ytnkjhlpdcffalaa.Tu
open Go.RowKit Go.Proofs.Ytnkjhlpdcffalaa.PF Go.Proofs.YtnkjhlpdcffalaaW.PrintWords Go.Proofs.Wy

set_option maxHeartbeats 1000000 in
set_option maxRecDepth 100000 in
theorem early (p bit : Int) (s : ByteArray) (w : World) (k : Nat) (ha : withylaw3_awake.f k = some true) (hs : 1000 < s.size) (hm : s.size ≤ 9223372036854775807) :
    Calls Try.prog 5 #[.agg #[.int .i64 p, .string s], .int .i64 bit] w fun e w' => e = .returned (.bool true) ∧ Below w.heap.size w w' := by
  have HA := Lib.hid ha; clear ha
  have hu23 := Try.underlying23
  have b1 : decide ((1000 : Int) < (s.size : Int)) = true := by simp; omega
  go_enter Try.func5, Try.ntmps5
  go_wp2_with fail
  ((with_reducible refine (withylaw3_awake.calls k true _ HA.out).mono ?_); rintro e w1 ⟨rfl, hb1⟩)
  have hz1 := hb1.size
  simp at hz1
  have hc0 : w1.cell? ⟨w.heap.size, 0, none⟩ = some (.int .i64 p) := by rw [hb1.cell (p := ⟨w.heap.size, 0, none⟩) (by simp)]; simp
  have hc1 : w1.cell? ⟨w.heap.size, 1, none⟩ = some (.string s) := by rw [hb1.cell (p := ⟨w.heap.size, 1, none⟩) (by simp)]; simp
  go_wp2_with fail
  go_ret
  exact ⟨rfl, ((((Below.refl w.heap.size w).alloc (Nat.le_refl _) _).trans (hb1.mono (by simp))).alloc (by omega) _)⟩

theorem back_eq (W3 : World) (g cap kk nn : Nat) (X X' : ByteArray) (hnl : nn < 256) (hj : kk / 8 < X.size) (hcell : ∀ j, j < X.size → W3.cell? ⟨g, j, none⟩ = some (.int .u8 (X.data.toList.getD j 0).toNat))
    (hX' : X'.data.toList = X.data.toList.set (kk / 8) (UInt8.ofNat nn)) :
    (convert 39 9 (.slice (some ⟨g, 0, none⟩) X.size cap)).run Try.prog (W3.setCell ⟨g, kk / 8, none⟩ (.int .u8 (nn : Int))) = .ok (.string X') (W3.setCell ⟨g, kk / 8, none⟩ (.int .u8 (nn : Int))) := by
  have hl : (X.data.toList.set (kk / 8) (UInt8.ofNat nn)).length = X.size := by simp
  have h := run_convert_bytes_back (P := Try.prog) (W3.setCell ⟨g, kk / 8, none⟩ (.int .u8 (nn : Int))) 39 9 5 ⟨g, 0, none⟩ cap (X.data.toList.set (kk / 8) (UInt8.ofNat nn)) Try.underlying39 Try.underlying5 Try.underlying9 (by
    intro j hj2
    have hjX : j < X.size := by rw [hl] at hj2; exact hj2
    have hadd : (⟨g, 0, none⟩ : Addr).add j = ⟨g, j, none⟩ := by unfold Addr.add; split <;> simp_all
    rw [hadd]
    have hcj := hcell j hjX
    by_cases e : kk / 8 = j
    · subst e
      have hb : (UInt8.ofNat nn).toNat = nn := byte_of nn hnl
      rw [World.cell?_setCell_same _ _ _ hcj]
      simp [hb]
    · rw [World.cell?_setCell_other _ _ _ _ (by intro h; injection h with _ h2 _; exact e h2)]
      rw [hcj]
      simp [List.getElem_set, e, List.getD_eq_getElem?_getD, hjX])
  rw [hl, ← hX'] at h
  have e2 : (⟨X'.data.toList.toArray⟩ : ByteArray) = X' := by cases X'; simp
  rw [e2] at h
  exact h

set_option maxHeartbeats 4000000 in
set_option maxRecDepth 100000 in
theorem mA (p bit q : Int) (s t X X' : ByteArray) (w : World) (k k2 kk o nn : Nat) (r1 : Int) (r2 : ByteArray) (r3 : Int) (ha : withylaw3_awake.f k = some true) (hs : s.size ≤ 1000)
    (hq : Go.bits .or .i64 (Go.bits .and .i64 p 65278) 1 = q) (hp : frame_Put.f q s 0 = some (t, 0)) (hts : t.size = X.size + 2) (hX : t.extract 1 (X.size + 1) = X) (h2 : 6 ≤ X.size) (h3 : X.size ≤ 10000)
    (hk1 : wrap64 ((IntKind.u64.wrap bit).tmod (8 * (X.size : Int))) = (kk : Int)) (hkl : kk < 8 * X.size) (ho : (X.data.toList.getD (kk / 8) 0).toNat = o)
    (hn : Go.bits .xor .u8 (o : Int) (2 ^ (kk % 8) % 256) = (nn : Int)) (hnl : nn < 256) (hX' : X'.data.toList = X.data.toList.set (kk / 8) (UInt8.ofNat nn))
    (hg : frame_Get.f k2 X' = some (r1, r2, r3)) (t0 : ((o : Int) == 125) = true) :
    Calls Try.prog 5 #[.agg #[.int .i64 p, .string s], .int .i64 bit] w fun e w' => e = .returned (.bool true) ∧ Below w.heap.size w w' := by
  have HA := Lib.hid ha; clear ha
  have HP := Lib.hid hp; clear hp
  have HG := Lib.hid hg; clear hg
  have HX' := Lib.hid hX'; clear hX'
  have hu23 := Try.underlying23
  have b1 : decide ((1000 : Int) < (s.size : Int)) = false := by simp; omega
  have b4 : decide ((X.size : Int) + 2 < 4) = false := by simp; omega
  have e1 : (X.size : Int) + 2 - 1 = ((X.size + 1 : Nat) : Int) := by omega
  have hsl : ∀ W : World, (Instr.slice 9 (.string t) (some (.int .i64 1)) (some (.int .i64 ((X.size : Int) + 2 - 1))) none).run Try.prog W = .ok (.string X) W := by
    intro W
    have h := run_slice_string (P := Try.prog) W 9 t .i64 .i64 1 ((X.size + 1 : Nat) : Int) Try.underlying9 (by omega) (by omega) (by omega)
    rw [e1, h]
    have e2 : (((X.size + 1 : Nat) : Int)).toNat = X.size + 1 := by omega
    rw [e2]
    have e3 : t.extract (1 : Int).toNat (X.size + 1) = X := hX
    rw [e3]
  clear e1 hX
  go_enter Try.func5, Try.ntmps5
  go_wp2_with fail
  ((with_reducible refine (withylaw3_awake.calls k true _ HA.out).mono ?_); rintro e w1 ⟨rfl, hb1⟩)
  have hz1 := hb1.size
  simp at hz1
  have hc0 : w1.cell? ⟨w.heap.size, 0, none⟩ = some (.int .i64 p) := by rw [hb1.cell (p := ⟨w.heap.size, 0, none⟩) (by simp)]; simp
  have hc1 : w1.cell? ⟨w.heap.size, 1, none⟩ = some (.string s) := by rw [hb1.cell (p := ⟨w.heap.size, 1, none⟩) (by simp)]; simp
  go_wp2_with fail
  ((with_reducible refine (frame_Put.calls q s 0 t 0 _ HP.out).mono ?_); rintro e w2 ⟨rfl, hb2⟩)
  have hz2 := hb2.size
  simp at hz2
  have hB2 : Below w.heap.size w w2 := (((Below.refl w.heap.size w).alloc (Nat.le_refl _) _).trans (hb1.mono (by simp))).alloc (by omega) _ |>.trans (hb2.mono (by simp; omega))
  clear hc0 hc1 hb1 hb2
  go_wp2_with fail
  ((with_reducible refine (withylaw0_Num.calls 0 0 _ rfl).mono ?_); rintro e w3 ⟨rfl, ⟨⟨n3, rfl⟩⟩⟩)
  have hcv := Go.Lib.run_convert_string_bytes (P := Try.prog) (w2.drewN n3) 9 39 5 X Try.underlying9 Try.underlying39 Try.underlying5
  have hcell : ∀ j, j < X.size → (Go.Lib.bytesWorld (w2.drewN n3) 5 X).cell? ⟨w2.heap.size, j, none⟩ = some (.int .u8 (X.data.toList.getD j 0).toNat) := fun j hj => Go.Lib.bytesWorld_cell (w2.drewN n3) 5 X j hj
  have hfrz : ∀ j, j < X.size → (Go.Lib.bytesWorld (w2.drewN n3) 5 X).frozen? ⟨w2.heap.size, j, none⟩ = false := fun j hj => by
    have h := Go.Lib.bytesWorld_at_new (w2.drewN n3) 5 X
    have hsz : X.size ≤ (Go.Lib.bytesCells (w2.drewN n3) 5 X).size := by simp [Go.Lib.bytesCells]
    have h' : (Go.Lib.bytesWorld (w2.drewN n3) 5 X).heap[w2.heap.size]? = _ := h
    simp [World.frozen?, h']
    omega
  have hbel : Below w2.heap.size w2 (Go.Lib.bytesWorld (w2.drewN n3) 5 X) := ⟨rfl, rfl, rfl, by rw [Go.Lib.bytesWorld_size]; exact Nat.le_succ _, fun i hi => Go.Lib.bytesWorld_at_old (w2.drewN n3) 5 X i hi⟩
  have hsz3 : w2.heap.size < (Go.Lib.bytesWorld (w2.drewN n3) 5 X).heap.size := by rw [Go.Lib.bytesWorld_size]; exact Nat.lt_succ_self _
  generalize Go.Lib.bytesWorld (w2.drewN n3) 5 X = W3 at hcv hcell hfrz hbel hsz3
  generalize grownCap (w2.drewN n3) X.size 0 5 = cap at hcv
  have hcv' : (convert 9 39 (.string X)).run Try.prog (w2.drewN n3) = .ok (.slice (some ⟨w2.heap.size, 0, none⟩) X.size cap) W3 := hcv
  clear hcv
  have hj : kk / 8 < X.size := by omega
  have hback : (convert 39 9 (.slice (some ⟨w2.heap.size, 0, none⟩) X.size cap)).run Try.prog (W3.setCell ⟨w2.heap.size, kk / 8, none⟩ (.int .u8 (nn : Int))) = .ok (.string X') (W3.setCell ⟨w2.heap.size, kk / 8, none⟩ (.int .u8 (nn : Int))) :=
    back_eq W3 w2.heap.size cap kk nn X X' hnl hj hcell HX'.out
  have hB3 : Below w.heap.size w (W3.setCell ⟨w2.heap.size, kk / 8, none⟩ (.int .u8 (nn : Int))) := (hB2.trans (hbel.mono (by omega))).setCell (p := ⟨w2.heap.size, kk / 8, none⟩) (by show w.heap.size ≤ w2.heap.size; omega) _
  have hc0 := hcell (kk / 8) hj
  rw [ho] at hc0
  have hf0 := hfrz (kk / 8) hj
  clear hcell hfrz ho
  go_wp2_with fail
  ((with_reducible refine (frame_Get.calls k2 X' r1 r2 r3 _ HG.out).mono ?_); rintro e w5 ⟨rfl, hb5⟩)
  have hz5 := hb5.size
  simp at hz5
  have hB5 := hB3.trans (hb5.mono (by simp; omega))
  go_wp2_with fail
  go_ret
  exact ⟨rfl, hB5.alloc (by omega) _⟩

set_option maxHeartbeats 4000000 in
set_option maxRecDepth 100000 in
theorem mB (p bit q : Int) (s t X X' : ByteArray) (w : World) (k k2 kk o nn : Nat) (r1 : Int) (r2 : ByteArray) (r3 : Int) (ha : withylaw3_awake.f k = some true) (hs : s.size ≤ 1000)
    (hq : Go.bits .or .i64 (Go.bits .and .i64 p 65278) 1 = q) (hp : frame_Put.f q s 0 = some (t, 0)) (hts : t.size = X.size + 2) (hX : t.extract 1 (X.size + 1) = X) (h2 : 6 ≤ X.size) (h3 : X.size ≤ 10000)
    (hk1 : wrap64 ((IntKind.u64.wrap bit).tmod (8 * (X.size : Int))) = (kk : Int)) (hkl : kk < 8 * X.size) (ho : (X.data.toList.getD (kk / 8) 0).toNat = o)
    (hn : Go.bits .xor .u8 (o : Int) (2 ^ (kk % 8) % 256) = (nn : Int)) (hnl : nn < 256) (hX' : X'.data.toList = X.data.toList.set (kk / 8) (UInt8.ofNat nn))
    (hg : frame_Get.f k2 X' = some (r1, r2, r3)) (t0 : ((o : Int) == 125) = false) (t1 : ((o : Int) == 126) = true) :
    Calls Try.prog 5 #[.agg #[.int .i64 p, .string s], .int .i64 bit] w fun e w' => e = .returned (.bool true) ∧ Below w.heap.size w w' := by
  have HA := Lib.hid ha; clear ha
  have HP := Lib.hid hp; clear hp
  have HG := Lib.hid hg; clear hg
  have HX' := Lib.hid hX'; clear hX'
  have hu23 := Try.underlying23
  have b1 : decide ((1000 : Int) < (s.size : Int)) = false := by simp; omega
  have b4 : decide ((X.size : Int) + 2 < 4) = false := by simp; omega
  have e1 : (X.size : Int) + 2 - 1 = ((X.size + 1 : Nat) : Int) := by omega
  have hsl : ∀ W : World, (Instr.slice 9 (.string t) (some (.int .i64 1)) (some (.int .i64 ((X.size : Int) + 2 - 1))) none).run Try.prog W = .ok (.string X) W := by
    intro W
    have h := run_slice_string (P := Try.prog) W 9 t .i64 .i64 1 ((X.size + 1 : Nat) : Int) Try.underlying9 (by omega) (by omega) (by omega)
    rw [e1, h]
    have e2 : (((X.size + 1 : Nat) : Int)).toNat = X.size + 1 := by omega
    rw [e2]
    have e3 : t.extract (1 : Int).toNat (X.size + 1) = X := hX
    rw [e3]
  clear e1 hX
  go_enter Try.func5, Try.ntmps5
  go_wp2_with fail
  ((with_reducible refine (withylaw3_awake.calls k true _ HA.out).mono ?_); rintro e w1 ⟨rfl, hb1⟩)
  have hz1 := hb1.size
  simp at hz1
  have hc0 : w1.cell? ⟨w.heap.size, 0, none⟩ = some (.int .i64 p) := by rw [hb1.cell (p := ⟨w.heap.size, 0, none⟩) (by simp)]; simp
  have hc1 : w1.cell? ⟨w.heap.size, 1, none⟩ = some (.string s) := by rw [hb1.cell (p := ⟨w.heap.size, 1, none⟩) (by simp)]; simp
  go_wp2_with fail
  ((with_reducible refine (frame_Put.calls q s 0 t 0 _ HP.out).mono ?_); rintro e w2 ⟨rfl, hb2⟩)
  have hz2 := hb2.size
  simp at hz2
  have hB2 : Below w.heap.size w w2 := (((Below.refl w.heap.size w).alloc (Nat.le_refl _) _).trans (hb1.mono (by simp))).alloc (by omega) _ |>.trans (hb2.mono (by simp; omega))
  clear hc0 hc1 hb1 hb2
  go_wp2_with fail
  ((with_reducible refine (withylaw0_Num.calls 0 0 _ rfl).mono ?_); rintro e w3 ⟨rfl, ⟨⟨n3, rfl⟩⟩⟩)
  have hcv := Go.Lib.run_convert_string_bytes (P := Try.prog) (w2.drewN n3) 9 39 5 X Try.underlying9 Try.underlying39 Try.underlying5
  have hcell : ∀ j, j < X.size → (Go.Lib.bytesWorld (w2.drewN n3) 5 X).cell? ⟨w2.heap.size, j, none⟩ = some (.int .u8 (X.data.toList.getD j 0).toNat) := fun j hj => Go.Lib.bytesWorld_cell (w2.drewN n3) 5 X j hj
  have hfrz : ∀ j, j < X.size → (Go.Lib.bytesWorld (w2.drewN n3) 5 X).frozen? ⟨w2.heap.size, j, none⟩ = false := fun j hj => by
    have h := Go.Lib.bytesWorld_at_new (w2.drewN n3) 5 X
    have hsz : X.size ≤ (Go.Lib.bytesCells (w2.drewN n3) 5 X).size := by simp [Go.Lib.bytesCells]
    have h' : (Go.Lib.bytesWorld (w2.drewN n3) 5 X).heap[w2.heap.size]? = _ := h
    simp [World.frozen?, h']
    omega
  have hbel : Below w2.heap.size w2 (Go.Lib.bytesWorld (w2.drewN n3) 5 X) := ⟨rfl, rfl, rfl, by rw [Go.Lib.bytesWorld_size]; exact Nat.le_succ _, fun i hi => Go.Lib.bytesWorld_at_old (w2.drewN n3) 5 X i hi⟩
  have hsz3 : w2.heap.size < (Go.Lib.bytesWorld (w2.drewN n3) 5 X).heap.size := by rw [Go.Lib.bytesWorld_size]; exact Nat.lt_succ_self _
  generalize Go.Lib.bytesWorld (w2.drewN n3) 5 X = W3 at hcv hcell hfrz hbel hsz3
  generalize grownCap (w2.drewN n3) X.size 0 5 = cap at hcv
  have hcv' : (convert 9 39 (.string X)).run Try.prog (w2.drewN n3) = .ok (.slice (some ⟨w2.heap.size, 0, none⟩) X.size cap) W3 := hcv
  clear hcv
  have hj : kk / 8 < X.size := by omega
  have hback : (convert 39 9 (.slice (some ⟨w2.heap.size, 0, none⟩) X.size cap)).run Try.prog (W3.setCell ⟨w2.heap.size, kk / 8, none⟩ (.int .u8 (nn : Int))) = .ok (.string X') (W3.setCell ⟨w2.heap.size, kk / 8, none⟩ (.int .u8 (nn : Int))) :=
    back_eq W3 w2.heap.size cap kk nn X X' hnl hj hcell HX'.out
  have hB3 : Below w.heap.size w (W3.setCell ⟨w2.heap.size, kk / 8, none⟩ (.int .u8 (nn : Int))) := (hB2.trans (hbel.mono (by omega))).setCell (p := ⟨w2.heap.size, kk / 8, none⟩) (by show w.heap.size ≤ w2.heap.size; omega) _
  have hc0 := hcell (kk / 8) hj
  rw [ho] at hc0
  have hf0 := hfrz (kk / 8) hj
  clear hcell hfrz ho
  go_wp2_with fail
  ((with_reducible refine (frame_Get.calls k2 X' r1 r2 r3 _ HG.out).mono ?_); rintro e w5 ⟨rfl, hb5⟩)
  have hz5 := hb5.size
  simp at hz5
  have hB5 := hB3.trans (hb5.mono (by simp; omega))
  go_wp2_with fail
  go_ret
  exact ⟨rfl, hB5.alloc (by omega) _⟩

set_option maxHeartbeats 4000000 in
set_option maxRecDepth 100000 in
theorem mC (p bit q : Int) (s t X X' : ByteArray) (w : World) (k k2 kk o nn : Nat) (r1 : Int) (r2 : ByteArray) (r3 : Int) (ha : withylaw3_awake.f k = some true) (hs : s.size ≤ 1000)
    (hq : Go.bits .or .i64 (Go.bits .and .i64 p 65278) 1 = q) (hp : frame_Put.f q s 0 = some (t, 0)) (hts : t.size = X.size + 2) (hX : t.extract 1 (X.size + 1) = X) (h2 : 6 ≤ X.size) (h3 : X.size ≤ 10000)
    (hk1 : wrap64 ((IntKind.u64.wrap bit).tmod (8 * (X.size : Int))) = (kk : Int)) (hkl : kk < 8 * X.size) (ho : (X.data.toList.getD (kk / 8) 0).toNat = o)
    (hn : Go.bits .xor .u8 (o : Int) (2 ^ (kk % 8) % 256) = (nn : Int)) (hnl : nn < 256) (hX' : X'.data.toList = X.data.toList.set (kk / 8) (UInt8.ofNat nn))
    (hg : frame_Get.f k2 X' = some (r1, r2, r3)) (t0 : ((o : Int) == 125) = false) (t1 : ((o : Int) == 126) = false) (t2 : ((nn : Int) == 125) = true) :
    Calls Try.prog 5 #[.agg #[.int .i64 p, .string s], .int .i64 bit] w fun e w' => e = .returned (.bool true) ∧ Below w.heap.size w w' := by
  have HA := Lib.hid ha; clear ha
  have HP := Lib.hid hp; clear hp
  have HG := Lib.hid hg; clear hg
  have HX' := Lib.hid hX'; clear hX'
  have hu23 := Try.underlying23
  have b1 : decide ((1000 : Int) < (s.size : Int)) = false := by simp; omega
  have b4 : decide ((X.size : Int) + 2 < 4) = false := by simp; omega
  have e1 : (X.size : Int) + 2 - 1 = ((X.size + 1 : Nat) : Int) := by omega
  have hsl : ∀ W : World, (Instr.slice 9 (.string t) (some (.int .i64 1)) (some (.int .i64 ((X.size : Int) + 2 - 1))) none).run Try.prog W = .ok (.string X) W := by
    intro W
    have h := run_slice_string (P := Try.prog) W 9 t .i64 .i64 1 ((X.size + 1 : Nat) : Int) Try.underlying9 (by omega) (by omega) (by omega)
    rw [e1, h]
    have e2 : (((X.size + 1 : Nat) : Int)).toNat = X.size + 1 := by omega
    rw [e2]
    have e3 : t.extract (1 : Int).toNat (X.size + 1) = X := hX
    rw [e3]
  clear e1 hX
  go_enter Try.func5, Try.ntmps5
  go_wp2_with fail
  ((with_reducible refine (withylaw3_awake.calls k true _ HA.out).mono ?_); rintro e w1 ⟨rfl, hb1⟩)
  have hz1 := hb1.size
  simp at hz1
  have hc0 : w1.cell? ⟨w.heap.size, 0, none⟩ = some (.int .i64 p) := by rw [hb1.cell (p := ⟨w.heap.size, 0, none⟩) (by simp)]; simp
  have hc1 : w1.cell? ⟨w.heap.size, 1, none⟩ = some (.string s) := by rw [hb1.cell (p := ⟨w.heap.size, 1, none⟩) (by simp)]; simp
  go_wp2_with fail
  ((with_reducible refine (frame_Put.calls q s 0 t 0 _ HP.out).mono ?_); rintro e w2 ⟨rfl, hb2⟩)
  have hz2 := hb2.size
  simp at hz2
  have hB2 : Below w.heap.size w w2 := (((Below.refl w.heap.size w).alloc (Nat.le_refl _) _).trans (hb1.mono (by simp))).alloc (by omega) _ |>.trans (hb2.mono (by simp; omega))
  clear hc0 hc1 hb1 hb2
  go_wp2_with fail
  ((with_reducible refine (withylaw0_Num.calls 0 0 _ rfl).mono ?_); rintro e w3 ⟨rfl, ⟨⟨n3, rfl⟩⟩⟩)
  have hcv := Go.Lib.run_convert_string_bytes (P := Try.prog) (w2.drewN n3) 9 39 5 X Try.underlying9 Try.underlying39 Try.underlying5
  have hcell : ∀ j, j < X.size → (Go.Lib.bytesWorld (w2.drewN n3) 5 X).cell? ⟨w2.heap.size, j, none⟩ = some (.int .u8 (X.data.toList.getD j 0).toNat) := fun j hj => Go.Lib.bytesWorld_cell (w2.drewN n3) 5 X j hj
  have hfrz : ∀ j, j < X.size → (Go.Lib.bytesWorld (w2.drewN n3) 5 X).frozen? ⟨w2.heap.size, j, none⟩ = false := fun j hj => by
    have h := Go.Lib.bytesWorld_at_new (w2.drewN n3) 5 X
    have hsz : X.size ≤ (Go.Lib.bytesCells (w2.drewN n3) 5 X).size := by simp [Go.Lib.bytesCells]
    have h' : (Go.Lib.bytesWorld (w2.drewN n3) 5 X).heap[w2.heap.size]? = _ := h
    simp [World.frozen?, h']
    omega
  have hbel : Below w2.heap.size w2 (Go.Lib.bytesWorld (w2.drewN n3) 5 X) := ⟨rfl, rfl, rfl, by rw [Go.Lib.bytesWorld_size]; exact Nat.le_succ _, fun i hi => Go.Lib.bytesWorld_at_old (w2.drewN n3) 5 X i hi⟩
  have hsz3 : w2.heap.size < (Go.Lib.bytesWorld (w2.drewN n3) 5 X).heap.size := by rw [Go.Lib.bytesWorld_size]; exact Nat.lt_succ_self _
  generalize Go.Lib.bytesWorld (w2.drewN n3) 5 X = W3 at hcv hcell hfrz hbel hsz3
  generalize grownCap (w2.drewN n3) X.size 0 5 = cap at hcv
  have hcv' : (convert 9 39 (.string X)).run Try.prog (w2.drewN n3) = .ok (.slice (some ⟨w2.heap.size, 0, none⟩) X.size cap) W3 := hcv
  clear hcv
  have hj : kk / 8 < X.size := by omega
  have hback : (convert 39 9 (.slice (some ⟨w2.heap.size, 0, none⟩) X.size cap)).run Try.prog (W3.setCell ⟨w2.heap.size, kk / 8, none⟩ (.int .u8 (nn : Int))) = .ok (.string X') (W3.setCell ⟨w2.heap.size, kk / 8, none⟩ (.int .u8 (nn : Int))) :=
    back_eq W3 w2.heap.size cap kk nn X X' hnl hj hcell HX'.out
  have hB3 : Below w.heap.size w (W3.setCell ⟨w2.heap.size, kk / 8, none⟩ (.int .u8 (nn : Int))) := (hB2.trans (hbel.mono (by omega))).setCell (p := ⟨w2.heap.size, kk / 8, none⟩) (by show w.heap.size ≤ w2.heap.size; omega) _
  have hc0 := hcell (kk / 8) hj
  rw [ho] at hc0
  have hf0 := hfrz (kk / 8) hj
  clear hcell hfrz ho
  go_wp2_with fail
  ((with_reducible refine (frame_Get.calls k2 X' r1 r2 r3 _ HG.out).mono ?_); rintro e w5 ⟨rfl, hb5⟩)
  have hz5 := hb5.size
  simp at hz5
  have hB5 := hB3.trans (hb5.mono (by simp; omega))
  go_wp2_with fail
  go_ret
  exact ⟨rfl, hB5.alloc (by omega) _⟩

set_option maxHeartbeats 4000000 in
set_option maxRecDepth 100000 in
theorem mD (p bit q : Int) (s t X X' : ByteArray) (w : World) (k k2 kk o nn : Nat) (r1 : Int) (r2 : ByteArray) (r3 : Int) (ha : withylaw3_awake.f k = some true) (hs : s.size ≤ 1000)
    (hq : Go.bits .or .i64 (Go.bits .and .i64 p 65278) 1 = q) (hp : frame_Put.f q s 0 = some (t, 0)) (hts : t.size = X.size + 2) (hX : t.extract 1 (X.size + 1) = X) (h2 : 6 ≤ X.size) (h3 : X.size ≤ 10000)
    (hk1 : wrap64 ((IntKind.u64.wrap bit).tmod (8 * (X.size : Int))) = (kk : Int)) (hkl : kk < 8 * X.size) (ho : (X.data.toList.getD (kk / 8) 0).toNat = o)
    (hn : Go.bits .xor .u8 (o : Int) (2 ^ (kk % 8) % 256) = (nn : Int)) (hnl : nn < 256) (hX' : X'.data.toList = X.data.toList.set (kk / 8) (UInt8.ofNat nn))
    (hg : frame_Get.f k2 X' = some (r1, r2, r3)) (t0 : ((o : Int) == 125) = false) (t1 : ((o : Int) == 126) = false) (t2 : ((nn : Int) == 125) = false) (t3 : ((nn : Int) == 126) = true) :
    Calls Try.prog 5 #[.agg #[.int .i64 p, .string s], .int .i64 bit] w fun e w' => e = .returned (.bool true) ∧ Below w.heap.size w w' := by
  have HA := Lib.hid ha; clear ha
  have HP := Lib.hid hp; clear hp
  have HG := Lib.hid hg; clear hg
  have HX' := Lib.hid hX'; clear hX'
  have hu23 := Try.underlying23
  have b1 : decide ((1000 : Int) < (s.size : Int)) = false := by simp; omega
  have b4 : decide ((X.size : Int) + 2 < 4) = false := by simp; omega
  have e1 : (X.size : Int) + 2 - 1 = ((X.size + 1 : Nat) : Int) := by omega
  have hsl : ∀ W : World, (Instr.slice 9 (.string t) (some (.int .i64 1)) (some (.int .i64 ((X.size : Int) + 2 - 1))) none).run Try.prog W = .ok (.string X) W := by
    intro W
    have h := run_slice_string (P := Try.prog) W 9 t .i64 .i64 1 ((X.size + 1 : Nat) : Int) Try.underlying9 (by omega) (by omega) (by omega)
    rw [e1, h]
    have e2 : (((X.size + 1 : Nat) : Int)).toNat = X.size + 1 := by omega
    rw [e2]
    have e3 : t.extract (1 : Int).toNat (X.size + 1) = X := hX
    rw [e3]
  clear e1 hX
  go_enter Try.func5, Try.ntmps5
  go_wp2_with fail
  ((with_reducible refine (withylaw3_awake.calls k true _ HA.out).mono ?_); rintro e w1 ⟨rfl, hb1⟩)
  have hz1 := hb1.size
  simp at hz1
  have hc0 : w1.cell? ⟨w.heap.size, 0, none⟩ = some (.int .i64 p) := by rw [hb1.cell (p := ⟨w.heap.size, 0, none⟩) (by simp)]; simp
  have hc1 : w1.cell? ⟨w.heap.size, 1, none⟩ = some (.string s) := by rw [hb1.cell (p := ⟨w.heap.size, 1, none⟩) (by simp)]; simp
  go_wp2_with fail
  ((with_reducible refine (frame_Put.calls q s 0 t 0 _ HP.out).mono ?_); rintro e w2 ⟨rfl, hb2⟩)
  have hz2 := hb2.size
  simp at hz2
  have hB2 : Below w.heap.size w w2 := (((Below.refl w.heap.size w).alloc (Nat.le_refl _) _).trans (hb1.mono (by simp))).alloc (by omega) _ |>.trans (hb2.mono (by simp; omega))
  clear hc0 hc1 hb1 hb2
  go_wp2_with fail
  ((with_reducible refine (withylaw0_Num.calls 0 0 _ rfl).mono ?_); rintro e w3 ⟨rfl, ⟨⟨n3, rfl⟩⟩⟩)
  have hcv := Go.Lib.run_convert_string_bytes (P := Try.prog) (w2.drewN n3) 9 39 5 X Try.underlying9 Try.underlying39 Try.underlying5
  have hcell : ∀ j, j < X.size → (Go.Lib.bytesWorld (w2.drewN n3) 5 X).cell? ⟨w2.heap.size, j, none⟩ = some (.int .u8 (X.data.toList.getD j 0).toNat) := fun j hj => Go.Lib.bytesWorld_cell (w2.drewN n3) 5 X j hj
  have hfrz : ∀ j, j < X.size → (Go.Lib.bytesWorld (w2.drewN n3) 5 X).frozen? ⟨w2.heap.size, j, none⟩ = false := fun j hj => by
    have h := Go.Lib.bytesWorld_at_new (w2.drewN n3) 5 X
    have hsz : X.size ≤ (Go.Lib.bytesCells (w2.drewN n3) 5 X).size := by simp [Go.Lib.bytesCells]
    have h' : (Go.Lib.bytesWorld (w2.drewN n3) 5 X).heap[w2.heap.size]? = _ := h
    simp [World.frozen?, h']
    omega
  have hbel : Below w2.heap.size w2 (Go.Lib.bytesWorld (w2.drewN n3) 5 X) := ⟨rfl, rfl, rfl, by rw [Go.Lib.bytesWorld_size]; exact Nat.le_succ _, fun i hi => Go.Lib.bytesWorld_at_old (w2.drewN n3) 5 X i hi⟩
  have hsz3 : w2.heap.size < (Go.Lib.bytesWorld (w2.drewN n3) 5 X).heap.size := by rw [Go.Lib.bytesWorld_size]; exact Nat.lt_succ_self _
  generalize Go.Lib.bytesWorld (w2.drewN n3) 5 X = W3 at hcv hcell hfrz hbel hsz3
  generalize grownCap (w2.drewN n3) X.size 0 5 = cap at hcv
  have hcv' : (convert 9 39 (.string X)).run Try.prog (w2.drewN n3) = .ok (.slice (some ⟨w2.heap.size, 0, none⟩) X.size cap) W3 := hcv
  clear hcv
  have hj : kk / 8 < X.size := by omega
  have hback : (convert 39 9 (.slice (some ⟨w2.heap.size, 0, none⟩) X.size cap)).run Try.prog (W3.setCell ⟨w2.heap.size, kk / 8, none⟩ (.int .u8 (nn : Int))) = .ok (.string X') (W3.setCell ⟨w2.heap.size, kk / 8, none⟩ (.int .u8 (nn : Int))) :=
    back_eq W3 w2.heap.size cap kk nn X X' hnl hj hcell HX'.out
  have hB3 : Below w.heap.size w (W3.setCell ⟨w2.heap.size, kk / 8, none⟩ (.int .u8 (nn : Int))) := (hB2.trans (hbel.mono (by omega))).setCell (p := ⟨w2.heap.size, kk / 8, none⟩) (by show w.heap.size ≤ w2.heap.size; omega) _
  have hc0 := hcell (kk / 8) hj
  rw [ho] at hc0
  have hf0 := hfrz (kk / 8) hj
  clear hcell hfrz ho
  go_wp2_with fail
  ((with_reducible refine (frame_Get.calls k2 X' r1 r2 r3 _ HG.out).mono ?_); rintro e w5 ⟨rfl, hb5⟩)
  have hz5 := hb5.size
  simp at hz5
  have hB5 := hB3.trans (hb5.mono (by simp; omega))
  go_wp2_with fail
  go_ret
  exact ⟨rfl, hB5.alloc (by omega) _⟩

end Go.Proofs.Ytnkjhlpdcffalaa.Tu
