/-
  ConsoleRuns, walked.
-/
import Derived.Test.YtlpibobpfafooaaGreatDoorRunE
set_option linter.unusedVariables false
set_option linter.unusedSimpArgs false
namespace Go.Proofs.YtlpibobpfafooaaGreatDoor.H
open Go.RowKit Go.Proofs.Wy Go.Proofs.YtlpibobpfafooaaGreatDoorW.PrintWords Go.Proofs
open Go.Proofs.YtlpibobpfafooaaGreatDoor.SpU (saidL tells_any said_tells)

/-- Where the law stands at place i: the line at hand began at fr, what is before it told acc. -/
def Inv (l : List UInt8) (i fr : Nat) (acc : List UInt8) : Prop := fr ≤ i ∧ (i ≤ l.length → (10 : UInt8) ∉ (l.drop fr).take (i - fr) ∧ outL l = acc ++ outL (l.drop fr)) ∧ (l.length < i → acc = outL l)
theorem Inv.zero (l : List UInt8) : Inv l 0 0 [] := ⟨Nat.le_refl _, fun _ => ⟨by simp, by simp⟩, fun h => absurd h (Nat.not_lt_zero _)⟩
theorem take_one (l : List UInt8) (i fr : Nat) (hf : fr ≤ i) (hi : i < l.length) : (l.drop fr).take (i + 1 - fr) = (l.drop fr).take (i - fr) ++ [l.getD i 0] := by
  have e : i + 1 - fr = (i - fr) + 1 := by omega
  have e2 : fr + (i - fr) = i := by omega
  rw [e, List.take_add_one, List.getElem?_drop, e2, List.getD_eq_getElem?_getD, List.getElem?_eq_getElem hi]
  rfl
theorem Inv.skip {l : List UInt8} {i fr : Nat} {acc : List UInt8} (h : Inv l i fr acc) (hi : i < l.length) (hc : l.getD i 0 ≠ 10) : Inv l (i + 1) fr acc := by
  obtain ⟨h1, h2, h3⟩ := h
  obtain ⟨h4, h5⟩ := h2 (by omega)
  refine ⟨by omega, fun _ => ⟨?_, h5⟩, fun h => by omega⟩
  rw [take_one l i fr h1 hi, List.mem_append]
  rintro (h | h)
  · exact h4 h
  · rw [List.mem_singleton] at h
    exact hc h.symm
theorem Inv.last {l : List UInt8} {i fr : Nat} {acc : List UInt8} (h : Inv l i fr acc) (hi : i = l.length) (hf : fr = i) : Inv l (i + 1) fr acc := by
  obtain ⟨h1, h2, h3⟩ := h
  obtain ⟨h4, h5⟩ := h2 (by omega)
  refine ⟨by omega, fun h => by omega, fun _ => ?_⟩
  rw [h5, List.drop_of_length_le (by omega), outL_nil, List.append_nil]
theorem Inv.line {l : List UInt8} {i fr : Nat} {acc : List UInt8} (h : Inv l i fr acc) (hi : i < l.length) (hc : l.getD i 0 = 10) : Inv l (i + 1) (i + 1) (acc ++ tellsL ((l.drop fr).take (i - fr))) := by
  obtain ⟨h1, h2, h3⟩ := h
  obtain ⟨h4, h5⟩ := h2 (by omega)
  refine ⟨Nat.le_refl _, fun _ => ⟨by simp, ?_⟩, fun h => by omega⟩
  have e : l.drop fr = (l.drop fr).take (i - fr) ++ 10 :: l.drop (i + 1) := by
    have e1 : (l.drop fr).drop (i - fr) = l.drop i := by rw [List.drop_drop]; congr 1; omega
    have e2 : l.drop i = 10 :: l.drop (i + 1) := by rw [Go.Proofs.YtlpibobpfafooaaGreatDoor.SpR.drop_get l i hi, hc]
    rw [← e2, ← e1, List.take_append_drop]
  rw [h5, List.append_assoc]
  congr 1
  rw [← one_line _ h4, ← outL_app, ← e]
theorem Inv.over {l : List UInt8} {i fr : Nat} {acc : List UInt8} (h : Inv l i fr acc) (hi : i = l.length) : Inv l (i + 1) (i + 1) (acc ++ tellsL ((l.drop fr).take (i - fr))) := by
  obtain ⟨h1, h2, h3⟩ := h
  obtain ⟨h4, h5⟩ := h2 (by omega)
  refine ⟨Nat.le_refl _, fun h => by omega, fun _ => ?_⟩
  rw [h5, ← one_line _ h4, List.take_of_length_le (by rw [List.length_drop]; omega)]
theorem Inv.bound {l : List UInt8} {i fr : Nat} {acc : List UInt8} (h : Inv l i fr acc) (hi : i ≤ l.length) (hl : l.length ≤ 65536) : acc.length ≤ 27000000000 := by
  have h1 := outL_len l hl
  have h2 := congrArg List.length (h.2.1 hi).2
  rw [List.length_append] at h2
  omega
theorem piece (s : ByteArray) (a b : Nat) : (s.extract a b).data.toList = (s.data.toList.drop a).take (b - a) := by
  rw [ByteArray.data_extract]
  simp
theorem said_len (l : List UInt8) (h : l.length ≤ 65536) : (saidL l).1.length ≤ 400001 := by
  have h1 := tellsL_len l h
  rw [said_tells] at h1
  by_cases hb : (saidL l).2 = true
  · rw [if_pos hb, List.length_append] at h1
    omega
  · unfold saidL at hb ⊢
    revert hb
    cases fieldsL l with
    | nil => intro _; simp
    | cons f r =>
      dsimp only
      by_cases h35 : f.headD 0 = 35
      · rw [if_pos h35]; intro _; simp
      · rw [if_neg h35]; intro hb; exact absurd rfl hb
set_option maxRecDepth 10000 in
set_option maxHeartbeats 8000000 in
theorem runs_any (s : ByteArray) (w : World) (hT : TabW w) :
    Calls Tryz.prog 5 #[.string s] w fun e w' => e = .returned (.bool true) ∧ Below w.heap.size w w' := by
  have HT := Lib.hid hT
  have HAw := Lib.hid (fun w0 hT0 => awake_any w0 hT0)
  have hl : s.data.toList.length = s.size := Array.length_toList
  clear hT
  by_cases hbig : 65536 < s.size
  · have HR := Lib.hid (run_said s _ [] 2801 w rfl (runL_long (by omega)) HT.out)
    have z1 : (65536 : Int) < (s.size : Int) := by omega
    clear hl hbig
    go_enter Tryz.func5, Tryz.ntmps5
    go_wp2_with fail
    ((with_reducible refine HR.out.mono ?_); rintro e w1 ⟨rfl, hb1⟩)
    have HB1 := Lib.hid hb1
    clear hb1
    go_wp2_with fail
    ((with_reducible refine (num_any _ _).mono ?_); rintro e w2 ⟨rfl, rfl⟩)
    go_wp2_with fail
    ((with_reducible refine (HAw.out _ (HT.out.later HB1.out)).mono ?_); rintro e w3 ⟨rfl, hb3⟩)
    have HB3 := Lib.hid (HB1.out.trans (hb3.mono HB1.out.size))
    clear hb3
    go_wp2_with fail
    go_ret
    exact ⟨rfl, HB3.out⟩
  · have HR := Lib.hid (run_said s _ (outL s.data.toList) 0 w rfl (runL_out (by omega)) HT.out)
    have z1 : ¬ (65536 : Int) < (s.size : Int) := by omega
    have hs6 : s.size ≤ 65536 := by omega
    clear hbig
    go_enter Tryz.func5, Tryz.ntmps5
    go_wp2_with fail
    ((with_reducible refine HR.out.mono ?_); rintro e w1 ⟨rfl, hb1⟩)
    have HB1 := Lib.hid hb1
    have HT1 := Lib.hid (HT.out.later hb1)
    clear hb1 HR HT
    go_wp2_with fail
    go_loopw [5, 6, 7] (fun v5 v6 v7 wr => ∃ (i fr : Nat) (acc : List UInt8), i ≤ s.size + 1 ∧ v7 = .int .i64 (i : Int) ∧ v6 = .int .i64 (fr : Int) ∧ Hid (Inv s.data.toList i fr acc) ∧ Hid (wr.ownsRow w1.heap.size 5 1 v5 (nbs acc).length (nums .u8 (nbs acc))) ∧ Hid (Below w1.heap.size w1 wr)) (fun _ _ v7 _ => s.size + 1 - (intOf v7).toNat)
    case atStart => exact ⟨0, 0, [], Nat.zero_le _, rfl, rfl, Lib.hid (Inv.zero _), Lib.hid (World.ownsRow_nil _ _ _ _), Lib.hid (Below.refl _ _)⟩
    case round =>
      obtain ⟨i, fr, acc, hi, rfl, rfl, hI, hO, hB⟩ := hrel
      have hfi : fr ≤ i := hI.out.1
      by_cases hle : i ≤ s.size
      · have zle : (i : Int) ≤ (s.size : Int) := by omega
        have hab := hI.out.bound (by omega) (by omega)
        by_cases hlt : i < s.size
        · have zlt : (i : Int) < (s.size : Int) := by omega
          have hgd : s.data.toList.getD i 0 = s[i] := getD_at s i hlt
          by_cases h10 : s[i] = 10
          · have b1 : ((s[i].toNat : Int) != 10) = false := by rw [h10]; rfl
            have b2 : ((i : Int) == (s.size : Int)) = false := by rw [beq_eq_false_iff_ne]; omega
            have HI2 := Lib.hid (hI.out.line (by omega) (by rw [hgd]; exact h10))
            have p1 : (0 : Int) ≤ (fr : Int) := by omega
            have p2 : (fr : Int) ≤ (i : Int) := by omega
            have p3 : (0 : Int) ≤ (i : Int) := by omega
            have hpc := piece s fr i
            have hps : (s.extract fr i).size ≤ 65536 := by rw [ByteArray.size_extract]; omega
            rw [← hpc, said_tells] at HI2
            have hTl := fun w0 => tells_any (s.extract fr i) w0 hps
            have hxl := said_len (s.extract fr i).data.toList (by have : (s.extract fr i).data.toList.length = (s.extract fr i).size := Array.length_toList; omega)
            generalize (saidL (s.extract fr i).data.toList).1 = x at HI2 hTl hxl
            generalize (saidL (s.extract fr i).data.toList).2 = is at HI2 hTl
            have HTl := Lib.hid hTl
            clear hTl hps hpc hI
            cases is with
            | false =>
              have HI3 : Hid (Inv s.data.toList (i + 1) (i + 1) acc) := Lib.hid (by have h := HI2.out; rw [if_neg (by decide), List.append_nil] at h; exact h)
              clear HI2
              go_wp2_with fail
              ((with_reducible refine (HTl.out _).mono ?_); rintro e w2 ⟨rfl, hb2⟩)
              have HO2 := Lib.hid (pw_own_below hO.out hb2)
              have HB2 := Lib.hid (below_then hB.out hB.out.size hb2)
              clear hb2 hO hB HTl
              go_wp2_with fail
              go_roundw
              case rel => exact ⟨i + 1, i + 1, acc, by omega, by go_num, by go_num, HI3, HO2, HB2⟩
              case measure => (simp [intOf]; try omega)
            | true =>
              have HI3 : Hid (Inv s.data.toList (i + 1) (i + 1) (acc ++ (x ++ [10]))) := Lib.hid (by have h := HI2.out; rw [if_pos rfl] at h; exact h)
              have hXs := size_lit x
              have hbx : bytesOf (⟨x.toArray⟩ : ByteArray) = nbs x := rfl
              generalize (⟨x.toArray⟩ : ByteArray) = X at HTl hXs hbx
              have hax : nbs (acc ++ x) = nbs acc ++ bytesOf X := by rw [hbx]; simp [nbs]
              have hay : nbs (acc ++ (x ++ [10])) = nbs (acc ++ x) ++ [10] := by simp [nbs]
              clear HI2
              go_wp2_with fail
              ((with_reducible refine (HTl.out _).mono ?_); rintro e w2 ⟨rfl, hb2⟩)
              have HO2 := Lib.hid (pw_own_below hO.out hb2)
              have HB2 := Lib.hid (below_then hB.out hB.out.size hb2)
              clear hb2 hO hB HTl
              go_wp2_with (first | (at_builtin; refine print_append_str (w0 := w1) w1.heap.size rfl (.tmp 64) (.tmp 65) 34 9 5 rfl Tryz.underlying34 Tryz.underlying9 info_u8 u5 (nbs acc) X rfl rfl HO2.out HB2.out HB2.out.size ?aL ?_; (case aL => (rw [nbs_len]; omega)); intro v5b w5b ho hb hg; have HO3 : Hid (w5b.ownsRow w1.heap.size 5 1 v5b (nbs (acc ++ x)).length (nums .u8 (nbs (acc ++ x)))) := Lib.hid (by rw [hax]; exact ho); have HB3 := Lib.hid hb; clear ho hb hg) | (at_builtin; refine print_append_num (w0 := w1) w1.heap.size rfl (.tmp 67) (.tmp 68) 34 5 .u8 1 rfl Tryz.underlying34 info_u8 (by decide) v5b (nbs (acc ++ x)) 10 rfl rfl HO3.out HB3.out HB3.out.size ?aM ?_; (case aM => (rw [nbs_len, List.length_append]; omega)); intro v5c w5c ho hb hg hat; have HO4 : Hid (w5c.ownsRow w1.heap.size 5 1 v5c (nbs (acc ++ (x ++ [10]))).length (nums .u8 (nbs (acc ++ (x ++ [10]))))) := Lib.hid (by rw [hay]; exact ho); have HB4 := Lib.hid hb; clear ho hb hg hat))
              go_roundw
              case rel => exact ⟨i + 1, i + 1, acc ++ (x ++ [10]), by omega, by go_num, by go_num, HI3, HO4, HB4⟩
              case measure => (simp [intOf]; try omega)
          · have b1 : ((s[i].toNat : Int) != 10) = true := by
              rw [bne_iff_ne]
              intro e
              exact h10 (UInt8.toNat.inj (by have : (10 : UInt8).toNat = 10 := rfl; omega))
            have HI2 := Lib.hid (hI.out.skip (by omega) (by rw [hgd]; exact h10))
            clear h10 hgd hI hab hfi
            go_wp2_with fail
            go_roundw
            case rel => exact ⟨i + 1, fr, acc, by omega, by go_num, rfl, HI2, hO, hB⟩
            case measure => simp [intOf]; omega
        · have his : i = s.size := by omega
          have zlt : ¬ (i : Int) < (s.size : Int) := by omega
          by_cases hfe : fr = i
          · have b2 : ((i : Int) == (s.size : Int)) = true := by rw [beq_iff_eq]; omega
            have b3 : ((fr : Int) == (i : Int)) = true := by rw [beq_iff_eq]; omega
            have HI2 := Lib.hid (hI.out.last (by omega) hfe)
            clear hfe hI hab hfi
            go_wp2_with fail
            go_roundw
            case rel => exact ⟨i + 1, fr, acc, by omega, by go_num, rfl, HI2, hO, hB⟩
            case measure => simp [intOf]; omega
          · subst his
            have b3 : ((fr : Int) == (s.size : Int)) = false := by rw [beq_eq_false_iff_ne]; omega
            have HI2 := Lib.hid (hI.out.over (by omega))
            have p1 : (0 : Int) ≤ (fr : Int) := by omega
            have p2 : (fr : Int) ≤ (s.size : Int) := by omega
            have p3 : (0 : Int) ≤ (s.size : Int) := by omega
            have hpc := piece s fr s.size
            have hps : (s.extract fr s.size).size ≤ 65536 := by rw [ByteArray.size_extract]; omega
            rw [← hpc, said_tells] at HI2
            have hTl := fun w0 => tells_any (s.extract fr s.size) w0 hps
            have hxl := said_len (s.extract fr s.size).data.toList (by have : (s.extract fr s.size).data.toList.length = (s.extract fr s.size).size := Array.length_toList; omega)
            generalize (saidL (s.extract fr s.size).data.toList).1 = x at HI2 hTl hxl
            generalize (saidL (s.extract fr s.size).data.toList).2 = is at HI2 hTl
            have HTl := Lib.hid hTl
            clear hTl hps hpc hI
            cases is with
            | false =>
              have HI3 : Hid (Inv s.data.toList (s.size + 1) (s.size + 1) acc) := Lib.hid (by have h := HI2.out; rw [if_neg (by decide), List.append_nil] at h; exact h)
              clear HI2
              go_wp2_with fail
              ((with_reducible refine (HTl.out _).mono ?_); rintro e w2 ⟨rfl, hb2⟩)
              have HO2 := Lib.hid (pw_own_below hO.out hb2)
              have HB2 := Lib.hid (below_then hB.out hB.out.size hb2)
              clear hb2 hO hB HTl
              go_wp2_with fail
              go_roundw
              case rel => exact ⟨s.size + 1, s.size + 1, acc, by omega, by go_num, by go_num, HI3, HO2, HB2⟩
              case measure => (simp [intOf]; try omega)
            | true =>
              have HI3 : Hid (Inv s.data.toList (s.size + 1) (s.size + 1) (acc ++ (x ++ [10]))) := Lib.hid (by have h := HI2.out; rw [if_pos rfl] at h; exact h)
              have hXs := size_lit x
              have hbx : bytesOf (⟨x.toArray⟩ : ByteArray) = nbs x := rfl
              generalize (⟨x.toArray⟩ : ByteArray) = X at HTl hXs hbx
              have hax : nbs (acc ++ x) = nbs acc ++ bytesOf X := by rw [hbx]; simp [nbs]
              have hay : nbs (acc ++ (x ++ [10])) = nbs (acc ++ x) ++ [10] := by simp [nbs]
              clear HI2
              go_wp2_with fail
              ((with_reducible refine (HTl.out _).mono ?_); rintro e w2 ⟨rfl, hb2⟩)
              have HO2 := Lib.hid (pw_own_below hO.out hb2)
              have HB2 := Lib.hid (below_then hB.out hB.out.size hb2)
              clear hb2 hO hB HTl
              go_wp2_with (first | (at_builtin; refine print_append_str (w0 := w1) w1.heap.size rfl (.tmp 64) (.tmp 65) 34 9 5 rfl Tryz.underlying34 Tryz.underlying9 info_u8 u5 (nbs acc) X rfl rfl HO2.out HB2.out HB2.out.size ?aL ?_; (case aL => (rw [nbs_len]; omega)); intro v5b w5b ho hb hg; have HO3 : Hid (w5b.ownsRow w1.heap.size 5 1 v5b (nbs (acc ++ x)).length (nums .u8 (nbs (acc ++ x)))) := Lib.hid (by rw [hax]; exact ho); have HB3 := Lib.hid hb; clear ho hb hg) | (at_builtin; refine print_append_num (w0 := w1) w1.heap.size rfl (.tmp 67) (.tmp 68) 34 5 .u8 1 rfl Tryz.underlying34 info_u8 (by decide) v5b (nbs (acc ++ x)) 10 rfl rfl HO3.out HB3.out HB3.out.size ?aM ?_; (case aM => (rw [nbs_len, List.length_append]; omega)); intro v5c w5c ho hb hg hat; have HO4 : Hid (w5c.ownsRow w1.heap.size 5 1 v5c (nbs (acc ++ (x ++ [10]))).length (nums .u8 (nbs (acc ++ (x ++ [10]))))) := Lib.hid (by rw [hay]; exact ho); have HB4 := Lib.hid hb; clear ho hb hg hat))
              go_roundw
              case rel => exact ⟨s.size + 1, s.size + 1, acc ++ (x ++ [10]), by omega, by go_num, by go_num, HI3, HO4, HB4⟩
              case measure => (simp [intOf]; try omega)
      · have hacc : acc = outL s.data.toList := hI.out.2.2 (by omega)
        have zle : ¬ (i : Int) ≤ (s.size : Int) := by omega
        subst hacc
        have hconv := own_string (P := Tryz.prog) Tryz.underlying34 Tryz.underlying5 Tryz.underlying9 hO.out
        rw [nbs_str] at hconv
        have HB2 := Lib.hid (HB1.out.trans (hB.out.mono HB1.out.size))
        have HT2 := Lib.hid (HT1.out.later hB.out)
        clear hI hO hB hfi hle HT1 HB1
        go_wp2_with fail
        ((with_reducible refine (num_any _ _).mono ?_); rintro e w2 ⟨rfl, rfl⟩)
        go_wp2_with fail
        ((with_reducible refine (HAw.out _ HT2.out).mono ?_); rintro e w3 ⟨rfl, hb3⟩)
        have HB3 := Lib.hid (HB2.out.trans (hb3.mono HB2.out.size))
        clear hb3
        go_wp2_with fail
        go_ret
        exact ⟨rfl, HB3.out⟩
theorem runs_row (s : ByteArray) (w : World) (hs : s.size ≤ 140737488351232) (hT : TabW w) :
    Calls Tryz.prog 5 #[.string s] w fun e w' => e = .returned (.bool true) ∧ Below w.heap.size w w' := runs_any s w hT
end Go.Proofs.YtlpibobpfafooaaGreatDoor.H
