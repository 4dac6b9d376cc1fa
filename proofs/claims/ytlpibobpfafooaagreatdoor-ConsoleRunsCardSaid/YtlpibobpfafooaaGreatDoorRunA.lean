/-
  The law's own readers of a line: words, numbers, bytes come to the plain words.
-/
import Derived.Test.YtlpibobpfafooaaGreatDoorRefA
import Derived.Test.YtlpibobpfafooaaGreatDoorLinP
set_option linter.unusedVariables false
set_option linter.unusedSimpArgs false
namespace Go.Proofs.YtlpibobpfafooaaGreatDoor.SpR
open Go.RowKit Go.Proofs.YtlpibobpfafooaaGreatDoor.SpQ Go.Proofs.YtlpibobpfafooaaGreatDoor.PR Go.Proofs.YtlpibobpfafooaaGreatDoorW.PrintWords Go.Proofs.YtlpibobpfafooaaGreatDoorW.PrintLast Go.Proofs.YtlpibobpfafooaaGreatDoorW.PrintMore Go.Proofs.Wy

/-! ### words -/
theorem drop_get (l : List UInt8) (i : Nat) (h : i < l.length) : l.drop i = l.getD i 0 :: l.drop (i + 1) := by
  rw [List.drop_eq_getElem_cons h, List.getD_eq_getElem?_getD, List.getElem?_eq_getElem h]
  rfl
theorem blank_bt (c : UInt8) : blankB c = (decide ((c.toNat : Int) = 32) || decide ((c.toNat : Int) = 9)) := by
  have h : ∀ n : Fin 256, blankB (UInt8.ofNat n.val) = (decide (((UInt8.ofNat n.val).toNat : Int) = 32) || decide (((UInt8.ofNat n.val).toNat : Int) = 9)) := by decide +kernel
  have h2 := h ⟨c.toNat, c.toNat_lt⟩
  have e : UInt8.ofNat c.toNat = c := by simp
  rw [e] at h2
  exact h2
/-- Where the word that is being read began: at a place behind which it has grown, or nowhere. -/
def Fr (l : List UInt8) (i : Nat) (fr : Int) (cur : List UInt8) : Prop := (fr = -1 ∧ cur = []) ∨ (∃ a : Nat, fr = (a : Int) ∧ a < i ∧ cur = (l.drop a).take (i - a) ∧ cur ≠ [])
theorem words_l0 (l : List UInt8) (hl : l.length ≤ 1000000) (d : Nat) : ∀ (k i : Nat) (fr : Int) (cur : List UInt8) (out : List ByteArray), i + d = l.length → 2 * d + 3 < k → Fr l i fr cur → out.length ≤ i →
    withylaw28_words.l0 k (B l) out fr (i : Int) = some (out ++ (fieldsGo cur (l.drop i)).map B) := by
  induction d with
  | zero =>
    intro k i fr cur out hi hk hf ho
    obtain ⟨k, rfl⟩ : ∃ j, k = j + 3 := ⟨k - 3, by omega⟩
    have hw : wrap64 ((i : Int) + 1) = ((i + 1 : Nat) : Int) := by unfold wrap64; omega
    rw [List.drop_of_length_le (by omega)]
    simp only [withylaw28_words.l0, withylaw28_words.j1]
    rw [if_pos (by rw [B_size]; omega), if_neg (by rw [B_size]; omega), if_neg (by decide)]
    rcases hf with ⟨rfl, rfl⟩ | ⟨a, rfl, ha, hc, hne⟩
    · rw [if_neg (by decide), hw, if_neg (by rw [B_size]; omega)]
      simp [fieldsGo]
    · rw [if_pos (by omega), if_pos (by omega), if_pos (by omega), if_pos (by rw [B_size]; omega), if_pos (by omega), hw, if_neg (by rw [B_size]; omega), B_ext]
      unfold fieldsGo
      rw [if_neg hne, hc]
      rfl
  | succ d ih =>
    intro k i fr cur out hi hk hf ho
    obtain ⟨k, rfl⟩ : ∃ j, k = j + 2 := ⟨k - 2, by omega⟩
    have hlt : i < l.length := by omega
    have hw : wrap64 ((i : Int) + 1) = ((i + 1 : Nat) : Int) := by unfold wrap64; omega
    have hb := B_bt l i hlt
    have hd := drop_get l i hlt
    have hbl := blank_bt (l.getD i 0)
    rw [hd]
    unfold fieldsGo
    generalize l.getD i 0 = c at hb hd hbl
    have go : ∀ z : Bool, z = !blankB c → withylaw28_words.j1 (k + 1) (B l) out fr (i : Int) z = some (out ++ (if blankB c = true then (if cur = [] then fieldsGo [] (l.drop (i + 1)) else cur :: fieldsGo [] (l.drop (i + 1))) else fieldsGo (cur ++ [c]) (l.drop (i + 1))).map B) := by
      intro z hz
      simp only [withylaw28_words.j1]
      by_cases hbc : blankB c = true
      · rw [hbc] at hz
        subst hz
        rw [if_neg (by decide), if_pos hbc]
        rcases hf with ⟨rfl, rfl⟩ | ⟨a, rfl, ha, hc, hne⟩
        · rw [if_neg (by decide), if_pos rfl, hw]
          exact ih k (i + 1) (-1) [] out (by omega) (by omega) (Or.inl ⟨rfl, rfl⟩) (by omega)
        · rw [if_pos (by omega), if_pos (by omega), if_pos (by omega), if_pos (by rw [B_size]; omega), if_pos (by omega), if_neg hne, hw, B_ext]
          have e := ih k (i + 1) (-1) [] (out ++ [B ((l.drop a).take (i - a))]) (by omega) (by omega) (Or.inl ⟨rfl, rfl⟩) (by simp; omega)
          refine Eq.trans e ?_
          rw [hc]
          simp
      · have hbc' : blankB c = false := by simpa using hbc
        rw [hbc'] at hz
        subst hz
        rw [if_pos (by decide), if_neg hbc]
        rcases hf with ⟨rfl, rfl⟩ | ⟨a, rfl, ha, hc, hne⟩
        · rw [if_pos (by decide), hw]
          refine ih k (i + 1) (i : Int) ([] ++ [c]) out (by omega) (by omega) (Or.inr ⟨i, rfl, by omega, ?_, by simp⟩) (by omega)
          have e : i + 1 - i = 1 := by omega
          rw [e, hd]
          rfl
        · rw [if_neg (by omega), hw]
          refine ih k (i + 1) (a : Int) (cur ++ [c]) out (by omega) (by omega) (Or.inr ⟨a, rfl, by omega, ?_, by simp⟩) (by omega)
          have e : i + 1 - a = (i - a) + 1 := by omega
          have h2 : (l.drop a)[i - a]? = some c := by
            rw [List.getElem?_drop]
            have e2 : a + (i - a) = i := by omega
            have h3 : l[i]? = (l.drop i)[0]? := by rw [List.getElem?_drop]; simp
            rw [e2, h3, hd]
            rfl
          rw [e, List.take_add_one, h2, hc]
          rfl
    have hk1 : k + 2 = (k + 1) + 1 := rfl
    rw [hk1]
    simp only [withylaw28_words.l0]
    rw [if_pos (by rw [B_size]; omega), if_pos (by rw [B_size]; omega), if_pos (by omega), hb]
    by_cases h32 : (c.toNat : Int) = 32
    · rw [if_pos h32]
      exact go false (by rw [hbl]; simp [h32])
    · rw [if_neg h32]
      refine go _ ?_
      rw [hbl]
      by_cases h9 : (c.toNat : Int) = 9
      · simp [h9]
      · have : ((c.toNat : Int) != 9) = true := by rw [bne_iff_ne]; exact h9
        rw [this]
        simp [h32, h9]
theorem words_spec (s : ByteArray) (hs : s.size ≤ 1000000) : withylaw28_words.f (2 * s.size + 4) s = some ((fieldsL s.data.toList).map B) := by
  have hz : s.data.toList.length = s.size := Array.length_toList
  have h := words_l0 s.data.toList (by omega) s.data.toList.length (2 * s.size + 4) 0 (-1) [] [] (by omega) (by omega) (Or.inl ⟨rfl, rfl⟩) (by simp)
  rw [B_list] at h
  exact h

/-! ### numbers -/
theorem dig_bt (c : UInt8) : isDig c = (decide (48 ≤ (c.toNat : Int)) && decide ((c.toNat : Int) ≤ 57)) := by
  unfold isDig
  congr 1
  · exact decide_eq_decide.2 (by omega)
  · exact decide_eq_decide.2 (by omega)
theorem dec_wrap (x c : Nat) (hx : x < 1000000000) (h1 : 48 ≤ c) (h2 : c ≤ 57) : wrap64 (wrap64 (10 * (x : Int)) + ((c : Int) - 48) % 256) = ((10 * x + (c - 48) : Nat) : Int) := by
  rw [show wrap64 (10 * (x : Int)) = 10 * (x : Int) by unfold wrap64; omega, show ((c : Int) - 48) % 256 = (c : Int) - 48 by omega]
  unfold wrap64
  omega
theorem pow_next (x c P : Nat) (h : x < P) (h2 : c ≤ 57) : 10 * x + (c - 48) < P * 10 := by omega
theorem dec_loop (x0 : ByteArray) (d : List UInt8) (hd : d.length ≤ 10) (m : Nat) : ∀ (k i x : Nat), i + m = d.length → m < k → x = valN (d.take i) → x < 10 ^ i →
    withylaw28_decimal.l0 k x0 (B d) (x : Int) (i : Int) = some (if (d.drop i).all isDig = true then (if (d.length : Int) < (x0.size : Int) then -(valN d : Int) else (valN d : Int)) else 0, (d.drop i).all isDig) := by
  induction m with
  | zero =>
    intro k i x hi hk hx hlt
    obtain ⟨k, rfl⟩ : ∃ j, k = j + 1 := ⟨k - 1, by omega⟩
    have hx10 : x < 10000000000 := Nat.lt_of_lt_of_le hlt (Nat.le_trans (Nat.pow_le_pow_right (by decide) (by omega : i ≤ 10)) (by decide))
    rw [List.take_of_length_le (by omega)] at hx
    rw [List.drop_of_length_le (by omega)]
    simp only [withylaw28_decimal.l0, List.all_nil, if_true]
    rw [if_neg (by rw [B_size]; omega), B_size, ← hx]
    have hw : wrap64 (-(x : Int)) = -(x : Int) := by unfold wrap64; omega
    rw [hw]
    split <;> rfl
  | succ m ih =>
    intro k i x hi hk hx hlt
    obtain ⟨k, rfl⟩ : ∃ j, k = j + 1 := ⟨k - 1, by omega⟩
    have hil : i < d.length := by omega
    have hx9 : x < 1000000000 := Nat.lt_of_lt_of_le hlt (Nat.le_trans (Nat.pow_le_pow_right (by decide) (by omega : i ≤ 9)) (by decide))
    have hb := B_bt d i hil
    have hdr := drop_get d i hil
    have hdg := dig_bt (d.getD i 0)
    have htk : d.take (i + 1) = d.take i ++ [d.getD i 0] := by
      rw [List.take_succ_eq_append_getElem hil, List.getD_eq_getElem?_getD, List.getElem?_eq_getElem hil]
      rfl
    have hw : wrap64 ((i : Int) + 1) = ((i + 1 : Nat) : Int) := by unfold wrap64; omega
    have hnx := ih k (i + 1) (10 * x + ((d.getD i 0).toNat - 48)) (by omega) (by omega) (by rw [htk, valN_snoc, hx])
    simp only [withylaw28_decimal.l0]
    rw [if_pos (by rw [B_size]; omega), if_pos (by omega), hb, hdr, List.all_cons, hdg]
    generalize d.getD i 0 = c at hb hdr hdg htk hnx
    have hc := c.toNat_lt
    by_cases h1 : (c.toNat : Int) < 48
    · rw [if_pos h1]
      have e : decide (48 ≤ (c.toNat : Int)) = false := by rw [decide_eq_false_iff_not]; omega
      simp [e]
    · rw [if_neg h1]
      by_cases h2 : (c.toNat : Int) > 57
      · rw [if_pos h2]
        have e : decide ((c.toNat : Int) ≤ 57) = false := by rw [decide_eq_false_iff_not]; omega
        simp [e]
      · rw [if_neg h2]
        have e1 : decide (48 ≤ (c.toNat : Int)) = true := by rw [decide_eq_true_eq]; omega
        have e2 : decide ((c.toNat : Int) ≤ 57) = true := by rw [decide_eq_true_eq]; omega
        have e3 := dec_wrap x c.toNat hx9 (by omega) (by omega)
        rw [e1, e2, e3, hw]
        simp only [Bool.and_self, Bool.true_and]
        exact hnx (by rw [Nat.pow_succ]; exact pow_next x _ _ hlt (by omega))
theorem dec_body (x0 : ByteArray) (d : List UInt8) (k : Nat) (hk : 13 < k) :
    withylaw28_decimal.j1 k x0 (B d) = some (if digOk d = true then (if (d.length : Int) < (x0.size : Int) then -(valN d : Int) else (valN d : Int)) else 0, digOk d) := by
  obtain ⟨k, rfl⟩ : ∃ j, k = j + 2 := ⟨k - 2, by omega⟩
  simp only [withylaw28_decimal.j1, withylaw28_decimal.j2]
  rw [B_size]
  by_cases h1 : (d.length : Int) < 1
  · have e : digOk d = false := by
      unfold digOk
      have : decide (0 < d.length) = false := by rw [decide_eq_false_iff_not]; omega
      rw [this]; rfl
    rw [if_pos h1, e]
    rfl
  · rw [if_neg h1]
    by_cases h2 : (d.length : Int) > 10
    · have e : digOk d = false := by
        unfold digOk
        have : decide (d.length ≤ 10) = false := by rw [decide_eq_false_iff_not]; omega
        rw [this]; simp
      rw [if_pos (by rw [decide_eq_true_eq]; exact h2), e]
      rfl
    · rw [if_neg (by rw [decide_eq_true_eq]; exact h2)]
      have e : digOk d = d.all isDig := by
        unfold digOk
        have a1 : decide (0 < d.length) = true := by rw [decide_eq_true_eq]; omega
        have a2 : decide (d.length ≤ 10) = true := by rw [decide_eq_true_eq]; omega
        rw [a1, a2]; simp
      have h := dec_loop x0 d (by omega) d.length k 0 0 (by omega) (by omega) (by simp [valN]) (by simp)
      rw [List.drop_zero] at h
      rw [e]
      exact h
theorem decimal_spec (l : List UInt8) : withylaw28_decimal.f 20 (B l) = some ((numberL l).getD 0, (numberL l).isSome) := by
  cases l with
  | nil => rfl
  | cons c r =>
    have hz : ((B (c :: r)).size : Int) = (r.length : Int) + 1 := by rw [B_size]; simp
    have hb : bt (B (c :: r)) 0 = (c.toNat : Int) := B_bt (c :: r) 0 (by simp)
    unfold withylaw28_decimal.f
    rw [if_pos (by omega), if_pos (by omega), hb]
    simp only [withylaw28_decimal.j0]
    by_cases h : c = 45
    · have e1 : ((c.toNat : Int) == 45) = true := by rw [h]; rfl
      have e2 : (B (c :: r)).extract 1 (B (c :: r)).size = B r := by
        rw [B_ext, B_size]
        simp
      rw [if_pos e1, if_pos (by omega), e2, dec_body _ r 19 (by omega)]
      unfold numberL
      simp only [h, if_true]
      by_cases h3 : digOk r = true
      · rw [if_pos h3, if_pos h3, if_pos (by rw [B_size]; simp; omega), h3]
        rfl
      · rw [if_neg h3, if_neg h3]
        have h4 : digOk r = false := by simpa using h3
        rw [h4]
        rfl
    · have e1 : ¬ ((c.toNat : Int) == 45) = true := by
        rw [beq_iff_eq]
        intro e
        exact h (UInt8.toNat.inj (by have : (45 : UInt8).toNat = 45 := rfl; omega))
      rw [if_neg e1, dec_body _ (c :: r) 19 (by omega)]
      unfold numberL
      simp only [if_neg h]
      by_cases h3 : digOk (c :: r) = true
      · rw [if_pos h3, if_pos h3, if_neg (by rw [B_size]; simp), h3]
        rfl
      · rw [if_neg h3, if_neg h3]
        have h4 : digOk (c :: r) = false := by simpa using h3
        rw [h4]
        rfl
/-- All of a line's words as numbers. -/
def numsL : List (List UInt8) → Option (List Int)
  | [] => some []
  | w :: r => (numberL w).bind fun x => (numsL r).map (x :: ·)
theorem rd_at (L : List (List UInt8)) (i : Nat) (h : i < L.length) : rdOf ByteArray.empty (L.map B) (i : Int) = B (L.getD i []) := by
  unfold rdOf
  simp [List.getD_eq_getElem?_getD, h]
theorem drop_getL (L : List (List UInt8)) (i : Nat) (h : i < L.length) : L.drop i = L.getD i [] :: L.drop (i + 1) := by
  rw [List.drop_eq_getElem_cons h, List.getD_eq_getElem?_getD, List.getElem?_eq_getElem h]
  rfl
theorem dec_ev (l : List UInt8) : Ev (fun k => withylaw28_decimal.f k (B l)) ((numberL l).getD 0, (numberL l).isSome) := Ev.of (fun k => withylaw28_decimal.mono (B l) k) (decimal_spec l)
theorem nums_l0 (L : List (List UInt8)) (hL : L.length ≤ 1000000) (d : Nat) : ∀ (i : Nat) (acc : List Int), L.length - i = d → acc.length ≤ i →
    Ev (fun k => withylaw28_numbers.l0 k (L.map B) acc (i : Int)) (((numsL (L.drop i)).map (acc ++ ·)).getD [], (numsL (L.drop i)).isSome) := by
  induction d with
  | zero =>
    intro i acc hi ha
    rw [List.drop_of_length_le (by omega)]
    refine Ev.next (f := fun k => _) (fun k => by simp only [withylaw28_numbers.l0]; rfl) ?_
    refine Ev.ite_neg (by rw [List.length_map]; omega) ?_
    simp only [numsL, Option.map_some, Option.getD_some, Option.isSome_some, List.append_nil]
    exact Ev.now _
  | succ d ih =>
    intro i acc hi ha
    have hlt : i < L.length := by omega
    have hw : wrap64 ((i : Int) + 1) = ((i + 1 : Nat) : Int) := by unfold wrap64; omega
    have hr := rd_at L i hlt
    rw [drop_getL L i hlt]
    generalize L.getD i [] = w at hr
    refine Ev.next (f := fun k => _) (fun k => by simp only [withylaw28_numbers.l0]; rfl) ?_
    refine Ev.ite_pos (by rw [List.length_map]; omega) ?_
    refine Ev.ite_pos (by omega) ?_
    rw [hr]
    refine Ev.bind (dec_ev w) ?_
    cases hn : numberL w with
    | none =>
      refine Ev.ite_neg (by simp) ?_
      simp only [numsL, hn, Option.bind_none, Option.map_none, Option.getD_none, Option.isSome_none]
      exact Ev.now _
    | some x =>
      refine Ev.ite_pos (by simp) ?_
      refine Ev.ite_pos (by omega) ?_
      rw [hw]
      have h := ih (i + 1) (acc ++ [x]) (by omega) (by simp; omega)
      have e : ((numsL (w :: L.drop (i + 1))).map (acc ++ ·)) = (numsL (L.drop (i + 1))).map ((acc ++ [x]) ++ ·) := by
        simp only [numsL, hn, Option.bind_some, Option.map_map]
        congr 1
        funext t
        simp
      have e2 : (numsL (w :: L.drop (i + 1))).isSome = (numsL (L.drop (i + 1))).isSome := by
        simp only [numsL, hn, Option.bind_some]
        cases numsL (L.drop (i + 1)) <;> rfl
      rw [e, e2]
      exact h

/-! ### bytes -/
theorem hex_dig (c : UInt8) : (∀ v, digH c = some v → v < 16 ∧ ((48 ≤ c.toNat ∧ c.toNat ≤ 57 ∧ v = c.toNat - 48) ∨ (97 ≤ c.toNat ∧ c.toNat ≤ 102 ∧ v = c.toNat - 87))) ∧ (digH c = none → ¬ (48 ≤ c.toNat ∧ c.toNat ≤ 57) ∧ ¬ (97 ≤ c.toNat ∧ c.toNat ≤ 102)) := by
  unfold digH
  constructor
  · intro v h
    split at h
    · rename_i h1
      have := Option.some.inj h
      omega
    · split at h
      · rename_i h1
        have := Option.some.inj h
        omega
      · cases h
  · intro h
    split at h
    · cases h
    · split at h
      · cases h
      · rename_i h1 h2
        exact ⟨h1, h2⟩
theorem bytes_char (l : List UInt8) (acc : List Int) (i : Int) (x n k : Nat) (hx : x < 16) (hn : n < l.length) (hl : l.length ≤ 1000000) (hi : (n : Int) < wrap64 (i + 2)) :
    withylaw28_bytes.l1 (k + 2) (B l) acc i (x : Int) (n : Int) = match digH (l.getD n 0) with
      | some v => withylaw28_bytes.l1 k (B l) acc i ((16 * x + v : Nat) : Int) ((n + 1 : Nat) : Int)
      | none => some ((⟨#[]⟩ : ByteArray), false) := by
  have hw : wrap64 ((n : Int) + 1) = ((n + 1 : Nat) : Int) := by unfold wrap64; omega
  have hb := B_bt l n hn
  have hd := hex_dig (l.getD n 0)
  simp only [withylaw28_bytes.l1, withylaw28_bytes.j3]
  rw [if_pos hi, if_pos (by omega), if_pos (by rw [B_size]; omega), hb, hw]
  generalize l.getD n 0 = c at hb hd
  have hc := c.toNat_lt
  have hx16 : wrap64 (16 * (x : Int)) = 16 * (x : Int) := by unfold wrap64; omega
  cases hv : digH c with
  | none =>
    obtain ⟨n1, n2⟩ := hd.2 hv
    have fin2 : (if (c.toNat : Int) ≥ 97 then (if (c.toNat : Int) ≤ 102 then (withylaw28_bytes.l1 k (B l) acc i (wrap64 (wrap64 (wrap64 (16 * (x : Int)) + ((c.toNat : Int) - 97) % 256) + 10)) ((n + 1 : Nat) : Int)) else (some ((⟨#[]⟩ : ByteArray), false))) else (some ((⟨#[]⟩ : ByteArray), false))) = some ((⟨#[]⟩ : ByteArray), false) := by
      by_cases h1 : (c.toNat : Int) ≥ 97
      · rw [if_pos h1, if_neg (by omega)]
      · rw [if_neg h1]
    by_cases h48 : (c.toNat : Int) ≥ 48
    · rw [if_pos h48, if_neg (by rw [decide_eq_true_eq]; omega)]
      exact fin2
    · rw [if_neg h48, if_neg (by decide)]
      exact fin2
  | some v =>
    obtain ⟨v16, hcase⟩ := hd.1 v hv
    rcases hcase with ⟨c1, c2, c3⟩ | ⟨c1, c2, c3⟩
    · have e : wrap64 (wrap64 (16 * (x : Int)) + ((c.toNat : Int) - 48) % 256) = ((16 * x + v : Nat) : Int) := by rw [hx16]; unfold wrap64; omega
      rw [if_pos (by omega), if_pos (by rw [decide_eq_true_eq]; omega), e]
    · have e : wrap64 (wrap64 (wrap64 (16 * (x : Int)) + ((c.toNat : Int) - 97) % 256) + 10) = ((16 * x + v : Nat) : Int) := by
        have e1 : wrap64 (16 * (x : Int) + ((c.toNat : Int) - 97) % 256) = 16 * (x : Int) + ((c.toNat : Int) - 97) := by unfold wrap64; omega
        rw [hx16, e1]; unfold wrap64; omega
      rw [if_pos (by omega), if_neg (by rw [decide_eq_true_eq]; omega), if_pos (by omega), if_pos (by omega), e]
theorem bytes_l0 (l : List UInt8) (hl : l.length ≤ 1000000) (m : Nat) : ∀ (k i : Nat) (acc : List UInt8), i + 2 * m = l.length → 6 * m + 1 < k → acc.length ≤ i →
    withylaw28_bytes.l0 k (B l) (nb acc) (i : Int) = some (B (((unhexGo (l.drop i)).map (acc ++ ·)).getD []), (unhexGo (l.drop i)).isSome) := by
  induction m with
  | zero =>
    intro k i acc hi hk ha
    obtain ⟨k, rfl⟩ : ∃ j, k = j + 1 := ⟨k - 1, by omega⟩
    rw [List.drop_of_length_le (by omega)]
    simp only [withylaw28_bytes.l0]
    rw [if_neg (by rw [B_size]; omega), nb_str]
    simp [unhexGo]
  | succ m ih =>
    intro k i acc hi hk ha
    obtain ⟨k, rfl⟩ : ∃ j, k = j + 6 := ⟨k - 6, by omega⟩
    have hi0 : i < l.length := by omega
    have hi1 : i + 1 < l.length := by omega
    have hw2 : wrap64 ((i : Int) + 2) = ((i + 2 : Nat) : Int) := by unfold wrap64; omega
    rw [drop_get l i hi0, drop_get l (i + 1) hi1]
    have c1 := bytes_char l (nb acc) (i : Int) 0 i (k + 3) (by decide) hi0 hl (by rw [hw2]; omega)
    have c2 := fun v (hv : v < 16) => bytes_char l (nb acc) (i : Int) (16 * 0 + v) (i + 1) (k + 1) (by omega) hi1 hl (by rw [hw2]; omega)
    have d1 := hex_dig (l.getD i 0)
    have d2 := hex_dig (l.getD (i + 1) 0)
    have hk1 : k + 6 = (k + 5) + 1 := rfl
    have hk2 : k + 5 = (k + 3) + 2 := rfl
    rw [hk1]
    simp only [withylaw28_bytes.l0]
    rw [if_pos (by rw [B_size]; omega), hk2]
    refine Eq.trans c1 ?_
    unfold unhexGo
    generalize l.getD i 0 = a at c1 d1
    generalize l.getD (i + 1) 0 = b at c2 d2
    cases ha1 : digH a with
    | none => rfl
    | some x =>
      obtain ⟨x16, _⟩ := d1.1 x ha1
      have hk3 : k + 3 = (k + 1) + 2 := rfl
      show withylaw28_bytes.l1 (k + 3) (B l) (nb acc) (i : Int) ((16 * 0 + x : Nat) : Int) ((i + 1 : Nat) : Int) = _
      rw [hk3]
      refine Eq.trans (c2 x x16) ?_
      cases hb1 : digH b with
      | none => rfl
      | some y =>
        obtain ⟨y16, _⟩ := d2.1 y hb1
        have hnl : (nb acc).length < 140737488355328 := by rw [nb_len]; omega
        have e : nb acc ++ [((16 * (16 * 0 + x) + y : Nat) : Int) % 256] = nb (acc ++ [UInt8.ofNat (16 * x + y)]) := by
          rw [nb_app]
          congr 1
          simp [nb]
        show withylaw28_bytes.l1 (k + 1) (B l) (nb acc) (i : Int) ((16 * (16 * 0 + x) + y : Nat) : Int) ((i + 1 + 1 : Nat) : Int) = _
        simp only [withylaw28_bytes.l1]
        rw [hw2, if_neg (by omega), if_pos hnl, e]
        refine Eq.trans (ih k (i + 2) _ (by omega) (by omega) (by simp; omega)) ?_
        have e2 : i + 1 + 1 = i + 2 := rfl
        simp only [e2, Option.map_map]
        cases unhexGo (l.drop (i + 2)) with
        | none => rfl
        | some t => simp
theorem unhex_odd : ∀ (n : Nat) (l : List UInt8), l.length ≤ n → l.length % 2 = 1 → unhexGo l = none
  | _, [], _, h => by simp at h
  | _, [_], _, _ => rfl
  | 0, a :: b :: r, hn, _ => by simp at hn
  | n + 1, a :: b :: r, hn, h => by
    have ih := unhex_odd n r (by simp at hn; omega) (by simp at h; omega)
    unfold unhexGo
    rw [ih]
    cases digH a <;> cases digH b <;> rfl
theorem bytes_spec (l : List UInt8) (hl : l.length ≤ 1000000) : withylaw28_bytes.f (6 * l.length + 10) (B l) = some (B ((unhexL l).getD []), (unhexL l).isSome) := by
  unfold withylaw28_bytes.f unhexL
  rw [B_toList, B_size]
  by_cases h45 : l = [45]
  · rw [if_pos h45, if_pos h45]
    rfl
  · rw [if_neg h45, if_neg h45]
    by_cases hodd : l.length % 2 = 1
    · have hne : l ≠ [] := by intro e; rw [e] at hodd; simp at hodd
      rw [if_pos (by omega), if_neg hne, unhex_odd l.length l (Nat.le_refl _) hodd]
      simp only [withylaw28_bytes.j0]
      rfl
    · rw [if_neg (by omega)]
      simp only [withylaw28_bytes.j0]
      by_cases hne : l = []
      · rw [if_pos (by rw [hne]; rfl), if_pos hne]
        rfl
      · rw [if_neg (by simpa using hne), if_neg hne]
        have h := bytes_l0 l hl (l.length / 2) (6 * l.length + 9) 0 [] (by omega) (by omega) (by simp)
        rw [List.drop_zero] at h
        refine Eq.trans h ?_
        cases unhexGo l <;> simp
end Go.Proofs.YtlpibobpfafooaaGreatDoor.SpR
