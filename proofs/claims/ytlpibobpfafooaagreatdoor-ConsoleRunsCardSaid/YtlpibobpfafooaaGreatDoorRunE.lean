/-
  What the law's 'tells' comes to, in plain words.
-/
import Derived.Test.YtlpibobpfafooaaGreatDoorPU
set_option linter.unusedVariables false
set_option linter.unusedSimpArgs false
namespace Go.Proofs.YtlpibobpfafooaaGreatDoor.SpU
open Go.RowKit Go.Proofs.YtlpibobpfafooaaGreatDoor.SpQ Go.Proofs.YtlpibobpfafooaaGreatDoor.PU Go.Proofs.YtlpibobpfafooaaGreatDoorW.PrintWords Go.Proofs.YtlpibobpfafooaaGreatDoorW.PrintLast Go.Proofs.YtlpibobpfafooaaGreatDoorW.PrintMore Go.Proofs.Wy
open Go.Proofs.YtlpibobpfafooaaGreatDoor.H (cntW bad0_eq outT frameL_len unframeL_bd hexL_len unhexL_len tell_code readL_len)

theorem bad_eq : (⟨#[101, 114, 114, 111, 114, 32, 50, 56, 48, 48]⟩ : ByteArray) = B (errL 2800) := bad0_eq
theorem maps_back (r : List (List UInt8)) : (r.map B).map (·.data.toList) = r := by
  rw [List.map_map]
  have : ((fun s : ByteArray => s.data.toList) ∘ B) = id := rfl
  rw [this, List.map_id]
theorem counted_eq (f : List UInt8) (r : List (List UInt8)) (h : (B f :: r.map B).length ≤ 1000000) (hf : cntW f = true) : withylaw28_counted.f (B f :: r.map B) = some (B (lineL f r)) := by
  simp only [withylaw28_counted.f]
  rw [if_pos ⟨h, hf⟩, maps_back]
theorem line_of {f K : List UInt8} {t : Nat} (r : List (List UInt8)) (hf : cmdsT.find? (fun c => c.1 == f) = some (f, K, t)) : lineL f r = match readL K r with
    | none => errL 2800
    | some q => outT (tellL t q.1 q.2) := by
  unfold lineL
  rw [hf]
  rfl
theorem line_not {f : List UInt8} (r : List (List UInt8)) (hf : cmdsT.find? (fun c => c.1 == f) = none) : lineL f r = errL 2800 := by
  unfold lineL
  rw [hf]
theorem dec_of (n : Int) (h0 : -9223372036854775808 ≤ n) (h1 : n ≤ 9223372036854775807) : withyref0_Decimal.f n = some (B (itoaL n)) := if_pos ⟨h0, h1⟩
theorem wrong_of (n : Int) (h0 : -9223372036854775808 ≤ n) (h1 : n ≤ 9223372036854775807) : withylaw28_wrong.f n = some (B (errL n)) := if_pos ⟨h0, h1⟩
theorem hex_of (l : List UInt8) (h : l.length ≤ 1000000000) : withylaw28_hex.f (B l) = some (B (hexL l)) := if_pos (by rw [B_size]; exact h)
theorem bytes_of (l : List UInt8) (h : l.length ≤ 1000000) : withylaw28_bytes.f (B l) = some (B ((unhexL l).getD []), (unhexL l).isSome) := if_pos (by rw [B_size]; exact h)
theorem decimal_of (l : List UInt8) : withylaw28_decimal.f (B l) = some ((numberL l).getD 0, (numberL l).isSome) := rfl
theorem frame_of (p : Int) (d : List UInt8) : withyref1_Frame.f p (B d) 0 = some (B (frameL p d 0).1, (frameL p d 0).2) := rfl
theorem frame_line (a b : List UInt8) : lineL [102, 114, 97, 109, 101] [a, b] = match numberL a, unhexL b with
    | some p, some d => outT (tellL 1 [p] [d])
    | _, _ => errL 2800 := by
  rw [line_of (K := [110, 120]) (t := 1) [a, b] (by decide)]
  cases hn : numberL a with
  | none => simp [readL, hn]
  | some p => cases hd : unhexL b with
    | none => simp [readL, hn, hd]
    | some d => simp [readL, hn, hd]
theorem one_line_x {f : List UInt8} {t : Nat} (a : List UInt8) (hf : cmdsT.find? (fun c => c.1 == f) = some (f, [120], t)) : lineL f [a] = match unhexL a with
    | some d => outT (tellL t [] [d])
    | none => errL 2800 := by
  rw [line_of [a] hf]
  cases hd : unhexL a with
  | none => simp [readL, hd]
  | some d => simp [readL, hd]
theorem tells_j2 (k : Nat) (p : Int) (d : List UInt8) : withylaw28_tells.j2 (k + 1) p (B d) false = some (B (outT (tellL 1 [p] [d])), true) := by
  have hl := frameL_len p d
  have hc := tell_code 1 [p] [d]
  have ht : tellL 1 [p] [d] = (hexL (frameL p d 0).1, (frameL p d 0).2) := rfl
  rw [ht] at hc ⊢
  simp only [withylaw28_tells.j2]
  rw [if_neg (by decide), frame_of]
  simp only [Option.bind_some]
  generalize (frameL p d 0).1 = x at hl hc ⊢
  generalize (frameL p d 0).2 = e at hc ⊢
  by_cases h : e = 0
  · rw [if_pos h, hex_of x (by omega)]
    simp only [Option.bind_some]
    unfold outT
    rw [if_pos h]
  · rw [if_neg h, wrong_of e (by have h0 : 0 ≤ e ∧ e ≤ 10000 := hc; omega) (by have h0 : 0 ≤ e ∧ e ≤ 10000 := hc; omega)]
    simp only [Option.bind_some]
    unfold outT
    rw [if_neg h]
theorem tells_j1 (k : Nat) (f : List UInt8) (r : List (List UInt8)) (hr : ∀ l ∈ r, l.length ≤ 65536) (hnc : cntW f = false) :
    withylaw28_tells.j1 (k + 2) (B f :: r.map B) (B f) false = some (B (lineL f r), true) := by
  have hlen : ((B f :: r.map B).length : Int) = (r.length : Int) + 1 := by simp
  simp only [withylaw28_tells.j1]
  rw [if_neg (by decide), B_toList, hlen]
  by_cases hf : f = [102, 114, 97, 109, 101]
  · subst hf
    rw [if_pos rfl]
    by_cases h3 : r.length = 2
    · match r, h3 with
      | [a, b], _ =>
        have hb := hr b (by simp)
        have e1 : rdOf ByteArray.empty (B [102, 114, 97, 109, 101] :: List.map B [a, b]) 1 = B a := rfl
        have e2 : rdOf ByteArray.empty (B [102, 114, 97, 109, 101] :: List.map B [a, b]) 2 = B b := rfl
        rw [if_pos (by simp), if_pos (by simp), e1, e2, decimal_of]
        simp only [Option.bind_some]
        rw [if_pos (by simp), bytes_of b (by omega)]
        simp only [Option.bind_some]
        rw [frame_line]
        cases hn : numberL a with
        | none =>
          simp only [Option.getD_none, Option.isSome_none, Bool.false_eq_true, if_false]
          simp only [withylaw28_tells.j2]
          rw [if_pos trivial, bad_eq]
        | some p =>
          simp only [Option.getD_some, Option.isSome_some, if_true]
          cases hd : unhexL b with
          | none =>
            simp only [Option.getD_none, Option.isSome_none, Bool.not_false]
            simp only [withylaw28_tells.j2]
            rw [if_pos trivial, bad_eq]
          | some d =>
            simp only [Option.getD_some, Option.isSome_some, Bool.not_true]
            exact tells_j2 k p d
    · rw [if_neg (by omega), bad_eq, line_of (K := [110, 120]) (t := 1) r (by decide), readL_len _ _ (by simpa using h3)]
  · rw [if_neg hf]
    have n1 : f ≠ [102, 115, 109] := by intro e; rw [e] at hnc; exact absurd hnc (by decide)
    have n2 : f ≠ [100, 101, 108, 97, 121] := by intro e; rw [e] at hnc; exact absurd hnc (by decide)
    have n3 : f ≠ [116, 97, 114, 103, 101, 116] := by intro e; rw [e] at hnc; exact absurd hnc (by decide)
    by_cases h2 : r.length = 1
    · match r, h2 with
      | [a], _ =>
        have ha := hr a (by simp)
        have e0 : rdOf ByteArray.empty (B f :: List.map B [a]) 0 = B f := rfl
        have e1 : rdOf ByteArray.empty (B f :: List.map B [a]) 1 = B a := rfl
        rw [if_pos (by simp), if_pos (by simp), e0, e1, B_toList, bytes_of a (by omega)]
        simp only [Option.bind_some]
        by_cases q1 : f = [102, 99, 115]
        · subst q1
          rw [one_line_x (t := 0) a (by decide)]
          cases hd : unhexL a with
          | none =>
            simp only [Option.isSome_none, Bool.false_eq_true, if_false]
            rw [bad_eq]
          | some d =>
            have hdl := unhexL_len a d hd
            have hlt := fcsL_lt d
            have ef : withyref1_Fcs.f (B d) = some ((fcsL d : Nat) : Int) := if_pos (by rw [B_size]; omega)
            simp only [Option.getD_some, Option.isSome_some, if_true]
            rw [if_pos (by simp), ef]
            simp only [Option.bind_some]
            rw [dec_of _ (by omega) (by omega)]
            rfl
        · by_cases q2 : f = [109, 100, 53]
          · subst q2
            rw [one_line_x (t := 4) a (by decide)]
            cases hd : unhexL a with
            | none =>
              simp only [Option.isSome_none, Bool.false_eq_true, if_false]
              rw [bad_eq]
            | some d =>
              have hdl := unhexL_len a d hd
              have em : withyref10_Md5.f (B d) = some (B (md5L d)) := if_pos (by rw [B_size]; omega)
              simp only [Option.getD_some, Option.isSome_some, if_true]
              rw [if_pos (by simp), if_neg (by decide), em]
              simp only [Option.bind_some]
              rw [hex_of _ (by rw [md5L_length]; decide)]
              rfl
          · by_cases q3 : f = [117, 110, 102, 114, 97, 109, 101]
            · subst q3
              rw [one_line_x (t := 2) a (by decide)]
              cases hd : unhexL a with
              | none =>
                simp only [Option.isSome_none, Bool.false_eq_true, if_false]
                rw [bad_eq]
              | some d =>
                have hdl := unhexL_len a d hd
                have eu : withyref1_Unframe.f (B d) = some ((unframeL d).1, B (unframeL d).2.1, (unframeL d).2.2) := if_pos (by rw [B_size]; omega)
                obtain ⟨u1, u2, u3⟩ := unframeL_bd d
                have hc := tell_code 2 [] [d]
                have ht : tellL 2 [] [d] = (itoaL (unframeL d).1 ++ 32 :: hexL (unframeL d).2.1, (unframeL d).2.2) := rfl
                rw [ht] at hc
                simp only [Option.getD_some, Option.isSome_some, if_true]
                rw [if_pos (by simp), if_neg (by decide), if_neg (by decide), eu, ht]
                simp only [Option.bind_some]
                have hx := hexL_len (unframeL d).2.1
                generalize (unframeL d).1 = p at u1 u2 hc ⊢
                generalize (unframeL d).2.1 = x at u3 hx hc ⊢
                generalize (unframeL d).2.2 = e at hc ⊢
                have hi := itoaL_length p
                by_cases h : e = 0
                · have c32 : (⟨#[32]⟩ : ByteArray) = B [32] := rfl
                  rw [if_pos h, dec_of p (by omega) (by omega)]
                  simp only [Option.bind_some]
                  rw [if_pos (by rw [B_size]; omega), hex_of x (by omega)]
                  simp only [Option.bind_some]
                  rw [c32, B_app, if_pos (by rw [B_size, B_size]; simp only [List.length_append, List.length_cons, List.length_nil]; omega), B_app]
                  unfold outT
                  rw [if_pos h]
                  simp
                · rw [if_neg h, wrong_of e (by have h0 : 0 ≤ e ∧ e ≤ 10000 := hc; omega) (by have h0 : 0 ≤ e ∧ e ≤ 10000 := hc; omega)]
                  simp only [Option.bind_some]
                  unfold outT
                  rw [if_neg h]
            · have hnf : cmdsT.find? (fun c => c.1 == f) = none := by
                have b : ∀ {x : List UInt8}, f ≠ x → (x == f) = false := fun h => by
                  rw [beq_eq_false_iff_ne]
                  exact fun e => h e.symm
                simp [cmdsT, List.find?, b q1, b hf, b q3, b n1, b q2, b n2, b n3]
              rw [line_not [a] hnf]
              cases hd : unhexL a with
              | none =>
                simp only [Option.isSome_none, Bool.false_eq_true, if_false]
                rw [bad_eq]
              | some d =>
                simp only [Option.isSome_some, if_true]
                rw [if_pos (by simp), if_neg q1, if_neg q2, if_neg q3, bad_eq]
    · rw [if_neg (by omega), bad_eq]
      have hx : ∀ {t : Nat}, cmdsT.find? (fun c => c.1 == f) = some (f, [120], t) → lineL f r = errL 2800 := fun h => by
        rw [line_of r h, readL_len _ _ (by simpa using h2)]
      by_cases q1 : f = [102, 99, 115]
      · rw [hx (t := 0) (by rw [q1]; decide)]
      · by_cases q2 : f = [109, 100, 53]
        · rw [hx (t := 4) (by rw [q2]; decide)]
        · by_cases q3 : f = [117, 110, 102, 114, 97, 109, 101]
          · rw [hx (t := 2) (by rw [q3]; decide)]
          · have hnf : cmdsT.find? (fun c => c.1 == f) = none := by
              have b : ∀ {x : List UInt8}, f ≠ x → (x == f) = false := fun h => by
                rw [beq_eq_false_iff_ne]
                exact fun e => h e.symm
              simp [cmdsT, List.find?, b q1, b hf, b q3, b n1, b q2, b n2, b n3]
            rw [line_not r hnf]
/-- What a line tells. -/
def saidL (l : List UInt8) : List UInt8 × Bool := match fieldsL l with
  | [] => ([], false)
  | f :: r => if f.headD 0 = 35 then ([], false) else (lineL f r, true)
theorem tells_spec (l : List UInt8) (hl : l.length ≤ 65536) : withylaw28_tells.f 5 (B l) = some (B (saidL l).1, (saidL l).2) := by
  have hw : withylaw28_words.f (B l) = some ((fieldsL l).map B) := if_pos (by rw [B_size]; omega)
  obtain ⟨s1, s2⟩ := Go.Proofs.YtlpibobpfafooaaGreatDoor.H.fieldsL_sizes l
  have hne := fieldsL_ne l
  unfold withylaw28_tells.f saidL
  rw [hw]
  simp only [Option.bind_some]
  cases hF : fieldsL l with
  | nil =>
    rw [if_pos (by simp)]
    simp only [withylaw28_tells.j0]
    rfl
  | cons f r =>
    rw [hF] at s1 s2 hne
    have hf := hne f (by simp)
    have hr : ∀ x ∈ r, x.length ≤ 65536 := fun x hx => by have := s2 x (by simp [hx]); omega
    have hlr : r.length ≤ 65536 := by simp only [List.length_cons] at s1; omega
    rw [List.map_cons]
    have e0 : rdOf ByteArray.empty (B f :: r.map B) 0 = B f := rfl
    have hlen : ((B f :: r.map B).length : Int) = (r.length : Int) + 1 := by simp
    have hfl : 0 < f.length := by cases f with
      | nil => exact absurd rfl hf
      | cons _ _ => simp
    have hb := B_bt f 0 hfl
    have hb' : bt (B f) 0 = ((f.headD 0).toNat : Int) := by
      cases f with
      | nil => exact absurd rfl hf
      | cons c t => exact hb
    rw [hlen, if_neg (by omega), if_pos (by omega), e0, if_pos (by rw [B_size]; omega), hb']
    simp only [withylaw28_tells.j0]
    by_cases h35 : f.headD 0 = 35
    · have e : (((f.headD 0).toNat : Int) == 35) = true := by rw [h35]; rfl
      rw [e, if_pos rfl, if_pos h35]
    · have e : (((f.headD 0).toNat : Int) == 35) = false := by
        rw [beq_eq_false_iff_ne]
        intro e
        exact h35 (UInt8.toNat.inj (by have : (35 : UInt8).toNat = 35 := rfl; omega))
      rw [e, if_neg (by decide), if_neg h35, hlen, if_pos (by omega), e0, B_toList]
      have yes : cntW f = true → withylaw28_tells.j1 4 (B f :: r.map B) (B f) true = some (B (lineL f r), true) := fun hc => by
        simp only [withylaw28_tells.j1]
        rw [if_pos trivial, counted_eq f r (by simp; omega) hc]
        rfl
      by_cases c1 : f = [102, 115, 109]
      · rw [if_pos c1, show (f == ([102, 115, 109] : List UInt8)) = true by rw [c1]; rfl]
        exact yes (by rw [c1]; decide)
      · rw [if_neg c1]
        by_cases c2 : f = [100, 101, 108, 97, 121]
        · rw [if_pos c2, show (f == ([100, 101, 108, 97, 121] : List UInt8)) = true by rw [c2]; rfl]
          exact yes (by rw [c2]; decide)
        · rw [if_neg c2]
          by_cases c3 : f = [116, 97, 114, 103, 101, 116]
          · rw [show (f == ([116, 97, 114, 103, 101, 116] : List UInt8)) = true by rw [c3]; rfl]
            exact yes (by rw [c3]; decide)
          · have e3 : (f == ([116, 97, 114, 103, 101, 116] : List UInt8)) = false := by rw [beq_eq_false_iff_ne]; exact c3
            rw [e3]
            refine tells_j1 2 f r hr ?_
            unfold cntW
            have e1 : (f == ([102, 115, 109] : List UInt8)) = false := by rw [beq_eq_false_iff_ne]; exact c1
            have e2 : (f == ([100, 101, 108, 97, 121] : List UInt8)) = false := by rw [beq_eq_false_iff_ne]; exact c2
            rw [e1, e2, e3]
            rfl
theorem tells_any (s : ByteArray) (w : World) (hs : s.size ≤ 65536) :
    Calls Tryz.prog 16 #[.string s] w fun e w' => e = .returned (.tuple #[.string ⟨(saidL s.data.toList).1.toArray⟩, .bool (saidL s.data.toList).2]) ∧ Below w.heap.size w w' := by
  have hz : s.data.toList.length = s.size := Array.length_toList
  have h := tells_spec s.data.toList (by omega)
  rw [B_list] at h
  exact withylaw28_tells.calls 5 s _ _ w h
theorem said_tells (l : List UInt8) : tellsL l = if (saidL l).2 = true then (saidL l).1 ++ [10] else [] := by
  unfold tellsL saidL
  cases fieldsL l with
  | nil => rfl
  | cons f r =>
    by_cases h : f.headD 0 = 35
    · simp only [if_pos h]
      rfl
    · simp only [if_neg h]
      rfl
end Go.Proofs.YtlpibobpfafooaaGreatDoor.SpU
