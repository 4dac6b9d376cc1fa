/-
  The law's hex, at every string.
-/
import Derived.Test.YtlpibobpfafooaaGreatDoorPHX1
import Derived.Test.YtlpibobpfafooaaGreatDoorPurD
set_option linter.unusedVariables false
set_option linter.unusedSimpArgs false
namespace Go.Proofs.YtlpibobpfafooaaGreatDoor.SpR
open Go.RowKit Go.Proofs.YtlpibobpfafooaaGreatDoor.SpQ Go.Proofs.YtlpibobpfafooaaGreatDoor.PHX Go.Proofs.YtlpibobpfafooaaGreatDoorW.PrintWords Go.Proofs.YtlpibobpfafooaaGreatDoorW.PrintLast Go.Proofs.YtlpibobpfafooaaGreatDoorW.PrintMore Go.Proofs.Wy

def hexA : ByteArray := ⟨#[48, 49, 50, 51, 52, 53, 54, 55, 56, 57, 97, 98, 99, 100, 101, 102]⟩
theorem bt_hex : ∀ n : Nat, n < 16 → bt (⟨#[48, 49, 50, 51, 52, 53, 54, 55, 56, 57, 97, 98, 99, 100, 101, 102]⟩ : ByteArray) (n : Int) = ((hexD n).toNat : Int) := by decide +kernel
theorem hex_l0 (s : ByteArray) (hs : s.size ≤ 1000000000) : ∀ (m i : Nat), s.size - i = m → i ≤ s.size →
    Ev (fun k => withylaw28_hex.l0 k s (⟨#[48, 49, 50, 51, 52, 53, 54, 55, 56, 57, 97, 98, 99, 100, 101, 102]⟩ : ByteArray) (nb ((s.data.toList.take i).flatMap hexB)) (i : Int)) ⟨(s.data.toList.flatMap hexB).toArray⟩
  | 0, i, hm, hi => by
    refine Ev.next (f := fun k => _) (fun k => by simp only [withylaw28_hex.l0]; rfl) ?_
    refine Ev.ite_neg (by omega) ?_
    rw [nb_str, take_all s i (by omega)]
    exact Ev.now _
  | m + 1, i, hm, hi => by
    have hlt : i < s.size := by omega
    have hb := bt_nat s i hlt
    have hc := s[i].toNat_lt
    have hlen := H.hexs_len s i
    refine Ev.next (f := fun k => _) (fun k => by simp only [withylaw28_hex.l0]; rfl) ?_
    have e1 : (Int.tdiv (bt s (i : Int)) 16) % 256 = ((s[i].toNat / 16 : Nat) : Int) := by
      rw [hb, Int.tdiv_eq_ediv_of_nonneg (by omega)]
      omega
    have e2 : Int.tmod (bt s (i : Int)) 16 = ((s[i].toNat % 16 : Nat) : Int) := by
      rw [hb, Int.tmod_eq_emod_of_nonneg (by omega)]
      omega
    have hz : ((⟨#[48, 49, 50, 51, 52, 53, 54, 55, 56, 57, 97, 98, 99, 100, 101, 102]⟩ : ByteArray).size : Int) = 16 := rfl
    simp only [e1, e2, hz]
    refine Ev.ite_pos (by omega) ?_
    refine Ev.ite_pos (by omega) ?_
    refine Ev.ite_pos (by omega) ?_
    refine Ev.ite_pos (by omega) ?_
    refine Ev.ite_pos (by omega) ?_
    refine Ev.ite_pos (by omega) ?_
    refine Ev.pre rfl ?_
    refine Ev.ite_pos (by rw [nb_len]; simp only [List.length_cons, List.length_nil]; omega) ?_
    have e3 : nb ((s.data.toList.take i).flatMap hexB) ++ [bt (⟨#[48, 49, 50, 51, 52, 53, 54, 55, 56, 57, 97, 98, 99, 100, 101, 102]⟩ : ByteArray) ((s[i].toNat / 16 : Nat) : Int), bt (⟨#[48, 49, 50, 51, 52, 53, 54, 55, 56, 57, 97, 98, 99, 100, 101, 102]⟩ : ByteArray) ((s[i].toNat % 16 : Nat) : Int)] =
        nb ((s.data.toList.take (i + 1)).flatMap hexB) := by
      rw [bt_hex _ (by omega), bt_hex _ (by omega), H.hexs_take s i hlt, nb_app]
      rfl
    simp only [e3, wrap_next hlt (by omega)]
    exact hex_l0 s hs m (i + 1) (by omega) (by omega)
theorem hexl_any (s : ByteArray) (w : World) (hs : s.size ≤ 1000000000) : Calls Tryz.prog 18 #[.string s] w fun e w' => e = .returned (.string ⟨(hexL s.data.toList).toArray⟩) ∧ Below w.heap.size w w' := by
  have h : Ev (fun k => withylaw28_hex.f k s) ⟨(hexL s.data.toList).toArray⟩ := by
    unfold withylaw28_hex.f hexL
    by_cases h0 : s.data.toList = []
    · rw [if_pos h0]
      refine Ev.ite_pos (by rw [Lib.toList_data]; exact h0) ?_
      exact Ev.now _
    · rw [if_neg h0]
      refine Ev.ite_neg (by rw [Lib.toList_data]; exact h0) ?_
      have := hex_l0 s hs s.size 0 rfl (Nat.zero_le _)
      rw [List.take_zero] at this
      exact this
  obtain ⟨k, hk⟩ := h.rounds
  exact withylaw28_hex.calls k s _ w hk
end Go.Proofs.YtlpibobpfafooaaGreatDoor.SpR
