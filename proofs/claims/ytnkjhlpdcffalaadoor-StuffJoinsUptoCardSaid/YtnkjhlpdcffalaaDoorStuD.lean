/-
  Chapter 2's laws, plainly: what was put comes back; sizes; marks; parts.
-/
import Derived.Test.YtnkjhlpdcffalaaDoorStuC
set_option linter.unusedVariables false
set_option linter.unusedSimpArgs false
namespace Go.Proofs.YtnkjhlpdcffalaaDoor.Sp
open Go.RowKit Go.Proofs.YtnkjhlpdcffalaaDoor.PF Go.Proofs.YtnkjhlpdcffalaaDoor.H Go.Proofs.YtnkjhlpdcffalaaDoorW.PrintWords Go.Proofs.YtnkjhlpdcffalaaDoorW.PrintLast Go.Proofs.YtnkjhlpdcffalaaDoorW.PrintMore Go.Proofs.Wy

/-- What a stuffed byte may not be. -/
def mayB (m : Int) (b : UInt8) : Bool := b != 126 && !(decide (b.toNat < 32) && (m / 2 ^ b.toNat) % 2 == 1)
theorem all_bytes {P : UInt8 → Prop} (h : ∀ n < 256, P (UInt8.ofNat n)) (c : UInt8) : P c := by
  have h2 := h c.toNat c.toNat_lt
  rwa [UInt8.ofNat_toNat] at h2
theorem mark_turn (c : UInt8) : c ^^^ 32 = 126 → c = 94 := all_bytes (P := fun c => c ^^^ 32 = 126 → c = 94) (by decide +kernel) c
theorem mark_low (c : UInt8) : (c ^^^ 32).toNat < 32 → 32 ≤ c.toNat ∧ c.toNat < 64 := all_bytes (P := fun c => (c ^^^ 32).toNat < 32 → 32 ≤ c.toNat ∧ c.toNat < 64) (by decide +kernel) c
theorem stuff_may (m : Int) (l : List UInt8) : ∀ b ∈ stuffL m l, mayB m b = true := by
  induction l with
  | nil => intro b hb; exact absurd hb (by simp [stuffL])
  | cons c r ih =>
    intro b hb
    have hb2 : b ∈ stuffB m c ++ stuffL m r := hb
    rcases List.mem_append.1 hb2 with h | h
    · unfold stuffB at h
      split at h
      · rename_i hn
        rcases List.mem_cons.1 h with rfl | h
        · rfl
        · obtain rfl : b = c ^^^ 32 := by simpa using h
          have h94 := mark_turn c
          have hlow := mark_low c
          unfold mayB
          simp only [Bool.and_eq_true, bne_iff_ne, Bool.not_eq_true', Bool.and_eq_false_iff, decide_eq_false_iff_not]
          refine ⟨fun e => ?_, .inl fun e => ?_⟩
          · rw [h94 e] at hn
            exact absurd hn (by simp [needs])
          · have h3 := hlow e
            unfold needs at hn
            simp at hn
            omega
      · rename_i hn
        obtain rfl : b = c := by simpa using h
        unfold needs at hn
        unfold mayB
        simp only [Bool.or_eq_true, not_or, Bool.and_eq_true, beq_iff_eq, decide_eq_true_eq] at hn
        simp only [Bool.and_eq_true, bne_iff_ne, Bool.not_eq_true']
        refine ⟨fun e => hn.1.2 (by rw [e]; rfl), ?_⟩
        rw [← Bool.not_eq_true, Bool.and_eq_true, beq_iff_eq, decide_eq_true_eq]
        exact hn.2
    · exact ih b h
theorem may_bit (m : Int) (b : UInt8) (h : mayB m b = true) : ¬ (b.toNat : Int) = 126 ∧ ((b.toNat : Int) < 32 → ¬ Go.bits .and .u64 (shr .u64 (IntKind.u64.wrap m) (b.toNat : Int)) 1 = 1) := by
  unfold mayB at h
  simp only [Bool.and_eq_true, bne_iff_ne, Bool.not_eq_true'] at h
  obtain ⟨h1, h2⟩ := h
  refine ⟨fun e => h1 (UInt8.toNat_inj.1 (by simpa using Int.ofNat_inj.1 e)), fun h3 e => ?_⟩
  rw [shr_u64 m b.toNat (by omega)] at e
  rw [← Bool.not_eq_true, Bool.and_eq_true, beq_iff_eq, decide_eq_true_eq] at h2
  exact h2 ⟨by omega, e⟩
theorem back_l0 (s t : ByteArray) (m : Int) (ht : t.size ≤ 4611686018427387904) (hs : s.size ≤ 1048576) (hm : ∀ b ∈ t.data.toList, mayB m b = true) (h1 : s.size ≤ t.size) (h2 : t.size ≤ 2 * s.size) (d : Nat) : ∀ (i : Nat), i + d = t.size → Ev (fun k => withylaw2_StuffBack.l0 k s m t s 0 (i : Int)) true := by
  induction d with
  | zero =>
    intro i hi
    refine Ev.next (f := fun k => _) (fun k => by simp only [withylaw2_StuffBack.l0]; rfl) ?_
    refine Ev.ite_neg (by omega) ?_
    refine Ev.ite_pos trivial ?_
    refine Ev.pre (num_spec _) ?_
    refine Ev.ite_pos rfl ?_
    refine Ev.ite_pos (by omega) ?_
    have e : decide ((t.size : Int) ≤ wrap64 (2 * (s.size : Int))) = true := by
      have : wrap64 (2 * (s.size : Int)) = 2 * (s.size : Int) := by unfold wrap64; omega
      rw [this]
      simp; omega
    rw [e]
    exact Ev.now _
  | succ d ih =>
    intro i hi
    have hlt : i < t.size := by omega
    have hw : wrap64 ((i : Int) + 1) = ((i + 1 : Nat) : Int) := wrap_next hlt (by omega)
    have hb := bt_nat t i hlt
    obtain ⟨g1, g2⟩ := may_bit m t[i] (hm _ (by show t.data.toList[i] ∈ _; exact List.getElem_mem _))
    refine Ev.next (f := fun k => _) (fun k => by simp only [withylaw2_StuffBack.l0]; rfl) ?_
    refine Ev.ite_pos (by omega) ?_
    refine Ev.ite_pos (by omega) ?_
    rw [hb, hw]
    refine Ev.ite_neg g1 ?_
    by_cases h32 : (t[i].toNat : Int) < 32
    · refine Ev.ite_pos h32 ?_
      refine Ev.ite_pos (by omega) ?_
      refine Ev.ite_neg (g2 h32) ?_
      exact ih (i + 1) (by omega)
    · refine Ev.ite_neg h32 ?_
      exact ih (i + 1) (by omega)
theorem back_pure (s : ByteArray) (m : Int) (h : s.size ≤ 1048576) : ∃ k, withylaw2_StuffBack.f k s m = some true := by
  refine Ev.rounds (g := fun k => withylaw2_StuffBack.f k s m) ?_
  unfold withylaw2_StuffBack.f
  have hz : s.data.toList.length = s.size := size_data s
  have hl := stuffL_length m s.data.toList
  have hg := stuffL_ge m s.data.toList
  refine Ev.bind awake_spec ?_
  refine Ev.ite_pos rfl ?_
  refine Ev.pre (put_spec s m (by omega)) ?_
  have hget := get_spec (B (stuffL m s.data.toList)) (by rw [B_size]; omega)
  rw [B_data, unstuff_stuff] at hget
  refine Ev.pre hget ?_
  show Ev (fun k => withylaw2_StuffBack.l0 k s m (B (stuffL m s.data.toList)) (B s.data.toList) 0 0) true
  rw [B_list]
  have b1 : (B (stuffL m s.data.toList)).size = (stuffL m s.data.toList).length := B_size _
  exact back_l0 s _ m (by omega) h (by rw [B_data]; exact stuff_may m _) (by omega) (by omega) _ 0 (Nat.zero_add _)

/-! ### sizes -/
def countN (m : Int) : List UInt8 → Nat
  | [] => 0
  | c :: r => (if needs m c = true then 1 else 0) + countN m r
theorem countN_cons (m : Int) (c : UInt8) (r : List UInt8) : countN m (c :: r) = (if needs m c = true then 1 else 0) + countN m r := rfl
theorem stuff_count (m : Int) (l : List UInt8) : (stuffL m l).length = l.length + countN m l := by
  induction l with
  | nil => rfl
  | cons c r ih =>
    show (stuffB m c ++ stuffL m r).length = _
    rw [List.length_append, ih]
    rw [countN_cons]
    unfold stuffB
    split <;> simp <;> omega
theorem countN_le (m : Int) (l : List UInt8) : countN m l ≤ l.length := by
  induction l with
  | nil => simp [countN]
  | cons c r ih =>
    rw [countN_cons, List.length_cons]
    split <;> omega
theorem needs_zero (c : UInt8) : needs 0 c = needs 1099511627776 c := all_bytes (P := fun c => needs 0 c = needs 1099511627776 c) (by decide +kernel) c
theorem stuff_zero (l : List UInt8) : stuffL 0 l = stuffL 1099511627776 l := by
  induction l with
  | nil => rfl
  | cons c r ih =>
    show stuffB 0 c ++ stuffL 0 r = stuffB 1099511627776 c ++ stuffL 1099511627776 r
    rw [ih]
    unfold stuffB
    rw [needs_zero]
theorem sizes_l0 (s : ByteArray) (m : Int) (h : s.size ≤ 1048576) (d : Nat) : ∀ (i c : Nat), i + d = s.size → c ≤ i → c + countN m (s.data.toList.drop i) = countN m s.data.toList → Ev (fun k => withylaw2_StuffSizes.l0 k s m (c : Int) (i : Int)) true := by
  induction d with
  | zero =>
    intro i c hi hci hc
    have h0 : s.data.toList.drop i = [] := List.drop_eq_nil_of_le (by rw [size_data]; omega)
    rw [h0] at hc
    have hz : s.data.toList.length = s.size := size_data s
    have hsc := stuff_count m s.data.toList
    have hc0 : c = countN m s.data.toList := hc
    refine Ev.next (f := fun k => _) (fun k => by simp only [withylaw2_StuffSizes.l0]; rfl) ?_
    refine Ev.ite_neg (by omega) ?_
    refine Ev.pre (put_spec s m (by omega)) ?_
    have hw : wrap64 ((s.size : Int) + (c : Int)) = (s.size : Int) + (c : Int) := by unfold wrap64; omega
    refine Ev.ite_pos (by rw [hw, B_size, hsc, hz, hc0]; omega) ?_
    refine Ev.pre (put_spec s 0 (by omega)) ?_
    refine Ev.pre (put_spec s 1099511627776 (by omega)) ?_
    refine Ev.ite_pos (by rw [stuff_zero]) ?_
    refine Ev.pre (num_spec _) ?_
    exact Ev.now _
  | succ d ih =>
    intro i c hi hci hc
    have hlt : i < s.size := by omega
    have hw : wrap64 ((i : Int) + 1) = ((i + 1 : Nat) : Int) := wrap_next hlt (by omega)
    have hwc : wrap64 ((c : Int) + 1) = ((c + 1 : Nat) : Int) := wrap_next (n := i + 1) (by omega) (by omega)
    have hb := bt_nat s i hlt
    rw [drop_at s i hlt, countN_cons] at hc
    have hyes : needs m s[i] = true → Ev (fun k => withylaw2_StuffSizes.l0 k s m ((c + 1 : Nat) : Int) ((i + 1 : Nat) : Int)) true := fun hn => ih (i + 1) (c + 1) (by omega) (by omega) (by rw [if_pos hn] at hc; omega)
    have hno : ¬ needs m s[i] = true → Ev (fun k => withylaw2_StuffSizes.l0 k s m (c : Int) ((i + 1 : Nat) : Int)) true := fun hn => ih (i + 1) c (by omega) (by omega) (by rw [if_neg hn] at hc; omega)
    refine Ev.next (f := fun k => _) (fun k => by simp only [withylaw2_StuffSizes.l0]; rfl) ?_
    refine Ev.ite_pos (by omega) ?_
    refine Ev.ite_pos (by omega) ?_
    rw [hb, hw, hwc]
    by_cases h5 : s[i].toNat = 125
    · refine Ev.ite_pos (by omega) ?_
      exact hyes (by simp [needs, h5])
    · refine Ev.ite_neg (by omega) ?_
      by_cases h6 : s[i].toNat = 126
      · refine Ev.ite_pos (by omega) ?_
        exact hyes (by simp [needs, h6])
      · refine Ev.ite_neg (by omega) ?_
        by_cases h32 : (s[i].toNat : Int) < 32
        · refine Ev.ite_pos h32 ?_
          refine Ev.ite_pos (by omega) ?_
          rw [shr_u64 m s[i].toNat (by omega)]
          have hn : needs m s[i] = ((m / 2 ^ s[i].toNat) % 2 == 1) := by
            have : s[i].toNat < 32 := by omega
            simp [needs, h5, h6, this]
          by_cases hq : (m / 2 ^ s[i].toNat) % 2 = 1
          · refine Ev.ite_pos hq ?_
            exact hyes (by rw [hn, hq]; rfl)
          · refine Ev.ite_neg hq ?_
            exact hno (by rw [hn]; simpa using hq)
        · refine Ev.ite_neg h32 ?_
          have : ¬ s[i].toNat < 32 := by omega
          exact hno (by simp [needs, h5, h6, this])
theorem sizes_pure (s : ByteArray) (m : Int) (h : s.size ≤ 1048576) : ∃ k, withylaw2_StuffSizes.f k s m = some true := by
  refine Ev.rounds (g := fun k => withylaw2_StuffSizes.f k s m) ?_
  unfold withylaw2_StuffSizes.f
  refine Ev.bind awake_spec ?_
  refine Ev.ite_pos rfl ?_
  exact sizes_l0 s m h s.size 0 0 (Nat.zero_add _) (Nat.le_refl _) (by rw [List.drop_zero]; omega)
end Go.Proofs.YtnkjhlpdcffalaaDoor.Sp
