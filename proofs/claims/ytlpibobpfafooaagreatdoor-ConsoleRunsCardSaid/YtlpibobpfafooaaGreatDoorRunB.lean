/-
  The law's and the reference's functions that a line asks, each at every argument that the law can hand it.
-/
import Derived.Test.YtlpibobpfafooaaGreatDoorRunA
import Derived.Test.YtlpibobpfafooaaGreatDoorPurH
import Derived.Test.YtlpibobpfafooaaGreatDoorFsmH
import Derived.Test.YtlpibobpfafooaaGreatDoorMdI
set_option linter.unusedVariables false
set_option linter.unusedSimpArgs false
namespace Go.Proofs.YtlpibobpfafooaaGreatDoor.SpR
open Go.RowKit Go.Proofs.YtlpibobpfafooaaGreatDoor.SpQ Go.Proofs.YtlpibobpfafooaaGreatDoor.PR Go.Proofs.YtlpibobpfafooaaGreatDoorW.PrintWords Go.Proofs.YtlpibobpfafooaaGreatDoorW.PrintLast Go.Proofs.YtlpibobpfafooaaGreatDoorW.PrintMore Go.Proofs.Wy

theorem wrongs_any (n : Int) (w : World) (h0 : -9223372036854775808 ≤ n) (h1 : n ≤ 9223372036854775807) :
    Calls Tryz.prog 12 #[.int .i64 n] w fun e w' => e = .returned (.string ⟨(errL n).toArray⟩) ∧ Below w.heap.size w w' := by
  have hs : Ev (fun k => withylaw28_wrong.f k n) ⟨(errL n).toArray⟩ := by
    unfold withylaw28_wrong.f
    refine Ev.bind (dec_spec n h0 h1) ?_
    have hz := size_lit (itoaL n)
    have hl := itoaL_length n
    refine Ev.ite_pos (by omega) ?_
    have e : (⟨#[101, 114, 114, 111, 114, 32]⟩ : ByteArray) ++ ⟨(itoaL n).toArray⟩ = ⟨(errL n).toArray⟩ := B_app [101, 114, 114, 111, 114, 32] _
    rw [e]
    exact Ev.now _
  obtain ⟨k, h⟩ := hs.rounds
  exact withylaw28_wrong.calls k n _ w h

/-! ### delays -/
theorem ws64 (x : Int) (h0 : -9223372036854775808 ≤ x) (h1 : x ≤ 9223372036854775807) : wrap64 x = x := by unfold wrap64; omega
theorem delay_last (D jit most : Int) (hm : most ≤ 4096) (h1 : 1 ≤ D) (h2 : D ≤ most) (h3 : 0 ≤ jit) (h4 : jit ≤ 9223372036854775807) :
    (if (wrap64 ((wrap64 (Int.tdiv D 4)) + 1)) = 0 then (none) else (some (wrap64 (D - (Int.tmod jit (wrap64 ((wrap64 (Int.tdiv D 4)) + 1)))), (0 : Int)))) = some (D - jit % (D / 4 + 1), 0) := by
  have e1 : Int.tdiv D 4 = D / 4 := Int.tdiv_eq_ediv_of_nonneg (by omega)
  rw [e1, ws64 (D / 4) (by omega) (by omega), ws64 (D / 4 + 1) (by omega) (by omega), if_neg (by omega)]
  have e2 : Int.tmod jit (D / 4 + 1) = jit % (D / 4 + 1) := Int.tmod_eq_emod_of_nonneg (by omega)
  have h5 := Int.emod_nonneg jit (show (D / 4 + 1) ≠ 0 by omega)
  have h6 := Int.emod_lt_of_pos jit (show 0 < D / 4 + 1 by omega)
  rw [e2, ws64 _ (by omega) (by omega)]
theorem mn_eq (a b : Int) : mn a b = min a b := by unfold mn; omega
theorem mx_eq (a b : Int) : mx a b = max a b := by unfold mx; omega
theorem delayr_l0 (most jit : Int) (hm : most ≤ 4096) (h3 : 0 ≤ jit) (h4 : jit ≤ 9223372036854775807) (t : Int) (ht : t ≤ 62) : ∀ (r k : Nat) (d i : Int), 1 ≤ d → 0 ≤ i → i + r = t → r < k →
    (d ≤ most → withyref10_Delay.l0 k t most jit d i = some (doubleN r most d - jit % (doubleN r most d / 4 + 1), 0)) ∧
    (1 ≤ most → most < d → d ≤ 8192 → withyref10_Delay.l0 k t most jit d i = some (most - jit % (most / 4 + 1), 0)) := by
  intro r
  induction r with
  | zero =>
    intro k d i hd hi hr hk
    obtain ⟨k, rfl⟩ : ∃ j, k = j + 1 := ⟨k - 1, by omega⟩
    constructor
    · intro hdm
      simp only [withyref10_Delay.l0]
      rw [if_neg (by omega), mn_eq, show min d most = d by omega]
      exact delay_last d jit most hm hd hdm h3 h4
    · intro hm1 hlt hd8
      simp only [withyref10_Delay.l0]
      rw [if_neg (by omega), mn_eq, show min d most = most by omega]
      exact delay_last most jit most hm hm1 (Int.le_refl _) h3 h4
  | succ r ih =>
    intro k d i hd hi hr hk
    obtain ⟨k, rfl⟩ : ∃ j, k = j + 1 := ⟨k - 1, by omega⟩
    constructor
    · intro hdm
      simp only [withyref10_Delay.l0]
      rw [if_pos (by omega)]
      by_cases hlt : d < most
      · have e1 : wrap64 (2 * d) = 2 * d := ws64 _ (by omega) (by omega)
        have e2 : wrap64 (i + 1) = i + 1 := ws64 _ (by omega) (by omega)
        obtain ⟨g1, g2⟩ := ih k (2 * d) (i + 1) (by omega) (by omega) (by omega) (by omega)
        rw [if_pos hlt, e1, e2, doubleN]
        by_cases h : d > most / 2
        · rw [if_pos h]
          exact g2 (by omega) (by omega) (by omega)
        · rw [if_neg h, Int.mul_comm d 2]
          exact g1 (by omega)
      · have hdm2 : d = most := by omega
        subst hdm2
        have e : doubleN (r + 1) d d = d := by
          rw [doubleN, if_pos (by omega)]
        rw [if_neg hlt, mn_eq, show min d d = d by omega, e]
        exact delay_last d jit d hm hd (Int.le_refl _) h3 h4
    · intro hm1 hlt hd8
      simp only [withyref10_Delay.l0]
      rw [if_pos (by omega), if_neg (by omega), mn_eq, show min d most = most by omega]
      exact delay_last most jit most hm hm1 (Int.le_refl _) h3 h4
theorem delayr_spec (t base most jit : Int) (h4 : jit ≤ 9223372036854775807) : withyref10_Delay.f 70 t base most jit = some ((delayL t base most jit).1, (delayL t base most jit).2) := by
  unfold withyref10_Delay.f delayL
  have bad : withyref10_Delay.j0 70 t base most jit true = some (0, 1200) := by simp only [withyref10_Delay.j0]; rfl
  by_cases a1 : t < 0
  · rw [if_pos a1, if_pos (by omega)]; exact bad
  · rw [if_neg a1]
    by_cases a2 : t > 62
    · rw [if_pos a2, if_pos (by omega)]; exact bad
    · rw [if_neg a2]
      by_cases a3 : base < 1
      · rw [if_pos a3, if_pos (by omega)]; exact bad
      · rw [if_neg a3]
        by_cases a4 : base > 4096
        · rw [if_pos a4, if_pos (by omega)]; exact bad
        · rw [if_neg a4]
          by_cases a5 : most < base
          · rw [if_pos a5, if_pos (by omega)]; exact bad
          · rw [if_neg a5]
            by_cases a6 : most > 4096
            · rw [if_pos a6, if_pos (by omega)]; exact bad
            · rw [if_neg a6]
              by_cases a7 : jit < 0
              · rw [if_pos (show t < 0 ∨ t > 62 ∨ base < 1 ∨ base > 4096 ∨ most < base ∨ most > 4096 ∨ jit < 0 by omega), show decide (jit < 0) = true by simpa using a7]; exact bad
              · rw [if_neg (show ¬ (t < 0 ∨ t > 62 ∨ base < 1 ∨ base > 4096 ∨ most < base ∨ most > 4096 ∨ jit < 0) by omega), show decide (jit < 0) = false by simpa using a7]
                have h := (delayr_l0 most jit (by omega) (by omega) h4 t (by omega) t.toNat 69 base 0 (by omega) (by omega) (by omega) (by omega)).1 (by omega)
                simp only [withyref10_Delay.j0]
                rw [if_neg (by decide)]
                exact h

/-! ### targets -/
theorem targetr_spec (load rate least links : Int) (h0 : 0 ≤ load) (h1 : load ≤ 9223372036854775807) (h2 : 64 ≤ rate ∧ rate ≤ 4096 ∧ 1 ≤ links ∧ links ≤ 6 ∧ 1 ≤ least ∧ least ≤ links) :
    withyref21_Target.f load rate least links = some (targetL load rate least links).1 := by
  have e1 : Int.tdiv load rate = load / rate := Int.tdiv_eq_ediv_of_nonneg h0
  have e2 : Int.tmod load rate = load % rate := Int.tmod_eq_emod_of_nonneg h0
  have q0 : 0 ≤ load / rate := Int.ediv_nonneg h0 (by omega)
  have q1 : load / rate ≤ load / 64 := by
    have h := Int.mul_ediv_self_le (x := load) (k := rate) (by omega)
    have h5 : 64 * (load / rate) ≤ rate * (load / rate) := Int.mul_le_mul_of_nonneg_right h2.1 q0
    omega
  have hT : (targetL load rate least links).1 = min (max (load / rate + if load % rate > 0 then 1 else 0) least) links := by
    unfold targetL
    rw [if_neg (by omega)]
  unfold withyref21_Target.f
  rw [if_neg (by omega), hT, e1, e2, ws64 (load / rate) (by omega) (by omega), ws64 (load / rate + 1) (by omega) (by omega), mx_eq, mn_eq, mx_eq, mn_eq]
  split
  · congr 1
    omega
  · congr 1
    omega
end Go.Proofs.YtlpibobpfafooaaGreatDoor.SpR
