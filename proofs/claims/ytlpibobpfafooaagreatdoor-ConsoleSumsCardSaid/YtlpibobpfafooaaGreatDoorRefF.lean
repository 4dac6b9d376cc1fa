/-
  What the reference's sum comes to, in plain words; its contract.
-/
import Derived.Test.YtlpibobpfafooaaGreatDoorPHX1
import Derived.Test.YtlpibobpfafooaaGreatDoorPurD
set_option linter.unusedVariables false
set_option linter.unusedSimpArgs false
namespace Go.Proofs.YtlpibobpfafooaaGreatDoor.SpF
open Go.RowKit Go.Proofs.YtlpibobpfafooaaGreatDoor.SpQ Go.Proofs.YtlpibobpfafooaaGreatDoor.PHX Go.Proofs.YtlpibobpfafooaaGreatDoorW.PrintWords Go.Proofs.YtlpibobpfafooaaGreatDoorW.PrintLast Go.Proofs.YtlpibobpfafooaaGreatDoorW.PrintMore Go.Proofs.Wy

theorem fcs_l1 (s : ByteArray) (c : Nat) (d : Nat) : ∀ (k i x : Nat), i + d = 8 → x < 65536 → d < k → withyref1_Fcs.l1 k s (x : Int) (c : Int) (i : Int) = withyref1_Fcs.l0 (k - 1 - d) s ((stepN d x : Nat) : Int) (wrap64 ((c : Int) + 1)) := by
  induction d with
  | zero =>
    intro k i x hi hx hk
    obtain ⟨k, rfl⟩ : ∃ j, k = j + 1 := ⟨k - 1, by omega⟩
    simp only [withyref1_Fcs.l1]
    rw [if_neg (by omega)]
    rfl
  | succ d ih =>
    intro k i x hi hx hk
    obtain ⟨k, rfl⟩ : ∃ j, k = j + 1 := ⟨k - 1, by omega⟩
    have hs1 := step1_lt hx
    have hw : wrap64 ((i : Int) + 1) = ((i + 1 : Nat) : Int) := wrap_next (n := 8) (by omega) (by omega)
    have hr := ih k (i + 1) (step1 x) (by omega) hs1 (by omega)
    simp only [withyref1_Fcs.l1]
    rw [if_pos (by omega), and_one_i64, hw]
    have e : k + 1 - 1 - (d + 1) = k - 1 - d := by omega
    rw [e]
    have e2 : stepN (d + 1) x = stepN d (step1 x) := rfl
    rw [e2, ← hr]
    by_cases h2 : x % 2 = 1
    · rw [if_pos (by omega)]
      have ex : Go.bits .xor .i64 ((x : Int) / 2) 33800 = ((step1 x : Nat) : Int) := by
        unfold step1
        rw [if_pos h2]
        exact xor_i64 (x / 2) 33800 (by omega) (by omega)
      rw [ex]
    · rw [if_neg (by omega)]
      have ex : (x : Int) / 2 = ((step1 x : Nat) : Int) := by
        unfold step1
        rw [if_neg h2]
        omega
      rw [ex]
theorem fcs_l0 (s : ByteArray) (hs : s.size ≤ 4611686018427387904) (d : Nat) : ∀ (k i x : Nat), i + d = s.size → x = crcL 65535 (s.data.toList.take i) → 10 * d < k → withyref1_Fcs.l0 k s (x : Int) (i : Int) = some ((fcsL s.data.toList : Nat) : Int) := by
  induction d with
  | zero =>
    intro k i x hi hx hk
    obtain ⟨k, rfl⟩ : ∃ j, k = j + 1 := ⟨k - 1, by omega⟩
    have hlt : x < 65536 := by rw [hx]; exact crcL_lt _ (by decide)
    simp only [withyref1_Fcs.l0]
    rw [if_neg (by omega)]
    have e := xor_i64 x 65535 (by omega) (by omega)
    have e2 : Go.bits .xor .i64 (x : Int) 65535 = ((x ^^^ 65535 : Nat) : Int) := e
    rw [e2, hx, take_all s i (by omega)]
    rfl
  | succ d ih =>
    intro k i x hi hx hk
    obtain ⟨k, rfl⟩ : ∃ j, k = j + 1 := ⟨k - 1, by omega⟩
    have hlt : i < s.size := by omega
    have hxl : x < 65536 := by rw [hx]; exact crcL_lt _ (by decide)
    have hc := s[i].toNat_lt
    have hxb : x ^^^ s[i].toNat < 65536 := xor_lt16 hxl (by omega)
    simp only [withyref1_Fcs.l0]
    rw [if_pos (by omega), if_pos (by omega), bt_nat s i hlt, wrap_byte _ hc, xor_i64 _ _ (by omega) (by omega)]
    have h8 := fcs_l1 s i 8 k 0 (x ^^^ s[i].toNat) (by omega) hxb (by omega)
    rw [wrap_next hlt hs] at h8
    refine Eq.trans h8 ?_
    refine ih (k - 1 - 8) (i + 1) _ (by omega) ?_ (by omega)
    rw [take_snoc s i hlt, crcL_snoc, ← hx]
    rfl
theorem fcs_spec (s : ByteArray) (hs : s.size ≤ 4611686018427387904) : Ev (fun k => withyref1_Fcs.f k s) ((fcsL s.data.toList : Nat) : Int) :=
  Ev.of (fun k => withyref1_Fcs.mono s k) (k := 10 * s.size + 1) (fcs_l0 s hs s.size (10 * s.size + 1) 0 65535 (by omega) (by simp [crcL]) (by omega))

theorem fcsr_any (s : ByteArray) (w : World) (hs : s.size ≤ 4611686018427387904) :
    Calls Tryz.prog 19 #[.string s] w fun e w' => e = .returned (.int .i64 ((fcsL s.data.toList : Nat) : Int)) ∧ Below w.heap.size w w' := by
  obtain ⟨k, h⟩ := (fcs_spec s hs).rounds
  refine (withyref1_Fcs.calls k s _ w h).mono ?_
  rintro e w' ⟨rfl, hd⟩
  exact ⟨rfl, hd.below⟩
end Go.Proofs.YtlpibobpfafooaaGreatDoor.SpF
