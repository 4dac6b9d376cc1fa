/-
  The reference's Decimal, at every number; and 'wrong', an error's line.
-/
import Derived.Test.YtlpibobpfafooaaGreatDoorPR1
import Derived.Test.YtlpibobpfafooaaGreatDoorLawA
set_option linter.unusedVariables false
set_option linter.unusedSimpArgs false
namespace Go.Proofs.YtlpibobpfafooaaGreatDoor.SpR
open Go.RowKit Go.Proofs.YtlpibobpfafooaaGreatDoor.SpQ Go.Proofs.YtlpibobpfafooaaGreatDoor.PR Go.Proofs.YtlpibobpfafooaaGreatDoorW.PrintWords Go.Proofs.YtlpibobpfafooaaGreatDoorW.PrintLast Go.Proofs.YtlpibobpfafooaaGreatDoorW.PrintMore Go.Proofs.Wy

theorem u64_id (x : Int) (h0 : 0 ≤ x) (h1 : x < 18446744073709551616) : IntKind.u64.wrap x = x := by
  have h : IntKind.u64.wrap x = x % 18446744073709551616 := by simp [IntKind.wrap, IntKind.bits, IntKind.signed]
  rw [h]
  omega
def fin (x0 : Int) (L : List UInt8) : ByteArray := if x0 < 0 then ⟨(45 :: L).toArray⟩ else ⟨L.toArray⟩
theorem dec_end (x0 : Int) (c : UInt8) (L : List UInt8) (h : L.length ≤ 1000) : Ev (fun k => withyref0_Decimal.l0 k x0 0 (nb (c :: L))) (fin x0 (c :: L)) := by
  refine Ev.next (f := fun k => _) (fun k => by simp only [withyref0_Decimal.l0]; rfl) ?_
  refine Ev.ite_neg (by decide) ?_
  refine Ev.ite_neg (by rw [nb_len]; simp only [List.length_cons]; omega) ?_
  by_cases hx : x0 < 0
  · have e0 : fin x0 (c :: L) = ⟨(45 :: c :: L).toArray⟩ := if_pos hx
    rw [e0]
    refine Ev.ite_pos hx ?_
    refine Ev.pre rfl ?_
    refine Ev.ite_pos (by rw [nb_len]; simp only [List.length_cons, List.length_nil]; omega) ?_
    have e : strOfNums ([45] ++ nb (c :: L)) = ⟨(45 :: c :: L).toArray⟩ := nb_str (45 :: c :: L)
    rw [e]
    exact Ev.now _
  · have e0 : fin x0 (c :: L) = ⟨(c :: L).toArray⟩ := if_neg hx
    rw [e0]
    refine Ev.ite_neg hx ?_
    rw [nb_str]
    exact Ev.now _
theorem digit_cons (u : Nat) (hu : u < 18446744073709551616) (L : List UInt8) : [(IntKind.u64.wrap (48 + (Int.tmod (u : Int) 10))) % 256] ++ nb L = nb (UInt8.ofNat (48 + u % 10) :: L) := by
  have h1 : Int.tmod (u : Int) 10 = ((u % 10 : Nat) : Int) := by rw [Int.tmod_eq_emod_of_nonneg (by omega)]; omega
  rw [h1, u64_id _ (by omega) (by omega)]
  have h2 : ((UInt8.ofNat (48 + u % 10)).toNat : Int) = (48 + ((u % 10 : Nat) : Int)) % 256 := by
    rw [UInt8.toNat_ofNat']
    omega
  show _ :: nb L = ((UInt8.ofNat (48 + u % 10)).toNat : Int) :: nb L
  rw [h2]
theorem quo_next (u : Nat) (hu : u < 18446744073709551616) : IntKind.u64.wrap (Int.tdiv (u : Int) 10) = ((u / 10 : Nat) : Int) := by
  have h1 : Int.tdiv (u : Int) 10 = ((u / 10 : Nat) : Int) := by rw [Int.tdiv_eq_ediv_of_nonneg (by omega)]; omega
  rw [h1, u64_id _ (by omega) (by omega)]
theorem dec_l0 : ∀ (f u : Nat) (x0 : Int) (L : List UInt8), u < 10 ^ f → u < 18446744073709551616 → 0 < u → f + L.length ≤ 900 →
    Ev (fun k => withyref0_Decimal.l0 k x0 (u : Int) (nb L)) (fin x0 (decF f u ++ L))
  | 0, u, x0, L, h, _, h0, _ => absurd h (by simp; omega)
  | f + 1, u, x0, L, h, hu, h0, hl => by
    refine Ev.next (f := fun k => _) (fun k => by simp only [withyref0_Decimal.l0]; rfl) ?_
    refine Ev.ite_pos (by omega) ?_
    refine Ev.pre rfl ?_
    refine Ev.ite_pos (by rw [nb_len]; simp only [List.length_cons, List.length_nil]; omega) ?_
    simp only [digit_cons u hu L, quo_next u hu]
    rw [decF]
    by_cases h10 : u < 10
    · rw [if_pos h10]
      have e1 : u / 10 = 0 := by omega
      have e2 : u % 10 = u := by omega
      rw [e1, e2]
      exact dec_end x0 _ L (by omega)
    · rw [if_neg h10]
      have ih := dec_l0 f (u / 10) x0 (UInt8.ofNat (48 + u % 10) :: L) (by rw [Nat.pow_succ] at h; omega) (by omega) (by omega) (by simp only [List.length_cons]; omega)
      rw [List.append_assoc]
      exact ih
theorem dec_zero (x0 : Int) : Ev (fun k => withyref0_Decimal.l0 k x0 0 []) (fin x0 [48]) := by
  refine Ev.next (f := fun k => _) (fun k => by simp only [withyref0_Decimal.l0]; rfl) ?_
  refine Ev.ite_neg (by decide) ?_
  refine Ev.ite_pos rfl ?_
  refine Ev.pre rfl ?_
  refine Ev.ite_pos (by decide) ?_
  exact dec_end x0 48 [] (by simp)
theorem dec_spec (n : Int) (h0 : -9223372036854775808 ≤ n) (h1 : n ≤ 9223372036854775807) : Ev (fun k => withyref0_Decimal.f k n) ⟨(itoaL n).toArray⟩ := by
  have h20 : (10 : Nat) ^ 20 = 100000000000000000000 := by decide
  unfold withyref0_Decimal.f itoaL
  by_cases hn : n < 0
  · rw [if_pos hn]
    refine Ev.ite_pos hn ?_
    have e1 : wrap64 (n + 1) = n + 1 := by unfold wrap64; omega
    have e2 : wrap64 (-(n + 1)) = -(n + 1) := by unfold wrap64; omega
    have e3 : IntKind.u64.wrap ((IntKind.u64.wrap (wrap64 (-(wrap64 (n + 1))))) + 1) = (n.natAbs : Int) := by
      rw [e1, e2, u64_id (-(n + 1)) (by omega) (by omega), u64_id (-(n + 1) + 1) (by omega) (by omega)]
      omega
    simp only [e3]
    refine Ev.next (f := fun k => _) (fun k => by simp only [withyref0_Decimal.j0]; rfl) ?_
    have h := dec_l0 20 n.natAbs n [] (by rw [h20]; omega) (by omega) (by omega) (by simp)
    unfold fin at h
    rw [if_pos hn, List.append_nil] at h
    exact h
  · rw [if_neg hn]
    refine Ev.ite_neg hn ?_
    have e3 : IntKind.u64.wrap n = (n.toNat : Int) := by
      rw [u64_id _ (by omega) (by omega)]
      omega
    simp only [e3]
    refine Ev.next (f := fun k => _) (fun k => by simp only [withyref0_Decimal.j0]; rfl) ?_
    by_cases hz : n.toNat = 0
    · rw [hz]
      have h := dec_zero n
      unfold fin at h
      rw [if_neg hn] at h
      exact h
    · have h := dec_l0 20 n.toNat n [] (by rw [h20]; omega) (by omega) (by omega) (by simp)
      unfold fin at h
      rw [if_neg hn, List.append_nil] at h
      exact h
theorem dec_any (n : Int) (w : World) (h0 : -9223372036854775808 ≤ n) (h1 : n ≤ 9223372036854775807) :
    Calls Tryz.prog 17 #[.int .i64 n] w fun e w' => e = .returned (.string ⟨(itoaL n).toArray⟩) ∧ Below w.heap.size w w' := by
  obtain ⟨k, h⟩ := (dec_spec n h0 h1).rounds
  exact withyref0_Decimal.calls k n _ w h
end Go.Proofs.YtlpibobpfafooaaGreatDoor.SpR
