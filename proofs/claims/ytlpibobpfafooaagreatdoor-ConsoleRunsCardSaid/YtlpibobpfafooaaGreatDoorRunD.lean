/-
  The law's 'counted' at every list of words that begins with one of its commands.
-/
import Derived.Test.YtlpibobpfafooaaGreatDoorRunC
set_option linter.unusedVariables false
set_option linter.unusedSimpArgs false
namespace Go.Proofs.YtlpibobpfafooaaGreatDoor.H
open Go.RowKit Go.Proofs.Wy Go.Proofs.YtlpibobpfafooaaGreatDoorW.PrintWords Go.Proofs
open Go.Proofs.YtlpibobpfafooaaGreatDoor.SpR (numsL)

theorem bad0_eq : bad0 = ⟨(errL 2800).toArray⟩ := by
  rw [show errL 2800 = [101, 114, 114, 111, 114, 32, 50, 56, 48, 48] by decide +kernel]
  rfl
theorem line_cnt (f : List UInt8) (k t : Nat) (r : List (List UInt8)) (hf : cmdsT.find? (fun c => c.1 == f) = some (f, List.replicate k 110, t)) :
    lineL f r = match numsL r with
      | none => errL 2800
      | some ns => if ns.length = k then outT (tellL t ns []) else errL 2800 := by
  unfold lineL
  rw [hf]
  unfold cmdL
  dsimp only
  rw [SpR.read_nums]
  cases numsL r with
  | none => rfl
  | some ns =>
    simp only [Option.bind_some]
    by_cases h : ns.length = k
    · rw [if_pos h, if_pos h]
      rfl
    · rw [if_neg h, if_neg h]
def cntW (f : List UInt8) : Bool := f == [102, 115, 109] || f == [100, 101, 108, 97, 121] || f == [116, 97, 114, 103, 101, 116]
theorem target_out (load rate least links : Int) : outT (tellL 6 [load, rate, least, links] []) = if load < 0 ∨ ¬ (64 ≤ rate ∧ rate ≤ 4096 ∧ 1 ≤ links ∧ links ≤ 6 ∧ 1 ≤ least ∧ least ≤ links) then errL 2400 else itoaL (targetL load rate least links).1 := by
  have ht : tellL 6 [load, rate, least, links] [] = if (targetL load rate least links).2 = 0 then (itoaL (targetL load rate least links).1, (0 : Int)) else ([], 2400) := rfl
  rw [ht]
  unfold targetL
  by_cases h : load < 0 ∨ ¬ (64 ≤ rate ∧ rate ≤ 4096 ∧ 1 ≤ links ∧ links ≤ 6 ∧ 1 ≤ least ∧ least ≤ links)
  · rw [if_pos h, if_pos h, if_neg (by decide)]
    rfl
  · rw [if_neg h, if_neg h, if_pos rfl]
    rfl
theorem four {ns : List Int} (h : ns.length = 4) : ∃ a b c d, ns = [a, b, c, d] := by
  match ns, h with
  | [a, b, c, d], _ => exact ⟨a, b, c, d, rfl⟩
theorem two {ns : List Int} (h : ns.length = 2) : ∃ a b, ns = [a, b] := by
  match ns, h with
  | [a, b], _ => exact ⟨a, b, rfl⟩
theorem str_eq {F : ByteArray} {l : List UInt8} (h : F.data.toList = l) : F = ⟨l.toArray⟩ := by
  apply ByteArray.ext
  apply Array.toList_inj.1
  exact h
theorem counted_any (A0 : Option Addr) (c0 : Nat) (F : ByteArray) (ws : List ByteArray) (w : World) (hr0 : Kd.C Kd.string w A0 (F :: ws).length (F :: ws)) (hc0 : (F :: ws).length ≤ c0) (hs : (F :: ws).length ≤ 1000000) (hF : cntW F.data.toList = true) :
    Calls Tryz.prog 32 #[.slice A0 (F :: ws).length c0] w fun e w' => e = .returned (.string ⟨(lineL F.data.toList (ws.map (·.data.toList))).toArray⟩) ∧ Below w.heap.size w w' := by
  have hN : Calls Tryz.prog 52 #[.slice A0 (F :: ws).length c0] w (NumsPost (numsL (ws.map (·.data.toList))) w) := SpR.numbersr_any A0 c0 (F :: ws) w hr0 hc0 hs
  obtain ⟨ad, rfl, h0⟩ := Kd.at_string hr0 0 (by omega) (by simp only [List.length_cons]; omega)
  rw [show (0 : Int).toNat = 0 from rfl, Addr.add_zero'] at h0
  have h0' : w.cell? ad = some (.string F) := h0
  clear h0 hr0 hc0 hs
  have hn : 0 < (F :: ws).length := by simp
  generalize (F :: ws).length = n at hN hn ⊢
  generalize hr : ws.map (·.data.toList) = r at hN ⊢
  clear hr
  have hbd := SpR.nums_bd r
  unfold cntW at hF
  simp only [Bool.or_eq_true, beq_iff_eq] at hF
  rcases hF with (hF | hF) | hF
  · have hFe := str_eq hF
    rw [hF, line_cnt [102, 115, 109] 2 3 r (by decide)]
    rw [hFe] at h0'
    cases hL : numsL r with
    | none =>
      rw [hL] at hN
      have h := counted_none ad n c0 w hN
      rw [bad0_eq] at h
      exact h
    | some ns =>
      rw [hL] at hN
      by_cases hk : ns.length = 2
      · obtain ⟨a, b, rfl⟩ := two hk
        exact counted_fsm ad n c0 a b w hn h0' hN
      · have h := counted_fsm_len ad n c0 ns w hn h0' hk hN
        rw [bad0_eq] at h
        simp only [if_neg hk]
        exact h
  · have hFe := str_eq hF
    rw [hF, line_cnt [100, 101, 108, 97, 121] 4 5 r (by decide)]
    rw [hFe] at h0'
    cases hL : numsL r with
    | none =>
      rw [hL] at hN
      have h := counted_none ad n c0 w hN
      rw [bad0_eq] at h
      exact h
    | some ns =>
      rw [hL] at hN
      by_cases hk : ns.length = 4
      · obtain ⟨a, b, c, d, rfl⟩ := four hk
        have h4 := hbd _ hL d (by simp)
        exact counted_delay ad n c0 a b c d w hn (by omega) h0' hN
      · have h := counted_delay_len ad n c0 ns w hn h0' hk hN
        rw [bad0_eq] at h
        simp only [if_neg hk]
        exact h
  · have hFe := str_eq hF
    rw [hF, line_cnt [116, 97, 114, 103, 101, 116] 4 6 r (by decide)]
    rw [hFe] at h0'
    cases hL : numsL r with
    | none =>
      rw [hL] at hN
      have h := counted_none ad n c0 w hN
      rw [bad0_eq] at h
      exact h
    | some ns =>
      rw [hL] at hN
      by_cases hk : ns.length = 4
      · obtain ⟨a, b, c, d, rfl⟩ := four hk
        have h4 := hbd _ hL a (by simp)
        have e : (if [a, b, c, d].length = 4 then outT (tellL 6 [a, b, c, d] []) else errL 2800) = outT (tellL 6 [a, b, c, d] []) := if_pos rfl
        show Calls Tryz.prog 32 #[.slice (some ad) n c0] w fun e w' => e = .returned (.string ⟨(if [a, b, c, d].length = 4 then outT (tellL 6 [a, b, c, d] []) else errL 2800).toArray⟩) ∧ Below w.heap.size w w'
        rw [e, target_out]
        by_cases hg : a < 0 ∨ ¬ (64 ≤ b ∧ b ≤ 4096 ∧ 1 ≤ d ∧ d ≤ 6 ∧ 1 ≤ c ∧ c ≤ d)
        · rw [if_pos hg]
          exact counted_target_no ad n c0 a b c d w hn (by omega) h0' hN
        · rw [if_neg hg]
          exact counted_target_yes ad n c0 a b c d w hn (by omega) (by omega) h0' hN
      · have h := counted_target_len ad n c0 ns w hn h0' hk hN
        rw [bad0_eq] at h
        simp only [if_neg hk]
        exact h
end Go.Proofs.YtlpibobpfafooaaGreatDoor.H
