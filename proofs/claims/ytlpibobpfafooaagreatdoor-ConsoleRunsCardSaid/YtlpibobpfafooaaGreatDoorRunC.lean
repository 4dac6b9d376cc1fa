/-
  The law's 'counted': what the commands of numbers (fsm, delay, target) tell.
-/
import Derived.Test.YtlpibobpfafooaaGreatDoorRunB
set_option linter.unusedVariables false
set_option linter.unusedSimpArgs false
namespace Go.Proofs.YtlpibobpfafooaaGreatDoor.SpR
open Go.RowKit Go.Proofs.YtlpibobpfafooaaGreatDoor.SpQ Go.Proofs.YtlpibobpfafooaaGreatDoor.PR Go.Proofs.YtlpibobpfafooaaGreatDoorW.PrintWords Go.Proofs.YtlpibobpfafooaaGreatDoorW.PrintLast Go.Proofs.YtlpibobpfafooaaGreatDoorW.PrintMore Go.Proofs.Wy
theorem numbersr_any (A0 : Option Addr) (c0 : Nat) (l0 : List ByteArray) (w : World) (hr0 : Kd.C Kd.string w A0 l0.length l0) (hc0 : l0.length ≤ c0) (hs : l0.length ≤ 1000000) :
    Calls Tryz.prog 52 #[.slice A0 l0.length c0] w fun e w' => ∃ v0_ : Value, e = .returned (.tuple #[v0_, .bool (numsL ((l0.map (·.data.toList)).drop 1)).isSome]) ∧ Kd.R (Kd.int .i64) 3 w' w.heap.size (fun _ => True) v0_ ((numsL ((l0.map (·.data.toList)).drop 1)).getD []) ∧ Below w.heap.size w w' := by
  obtain ⟨k, hk⟩ := (nums_l0 (l0.map (·.data.toList)) (by simpa using hs) _ 1 [] rfl (by simp)).rounds
  have e : (l0.map (·.data.toList)).map B = l0 := by
    rw [List.map_map]
    have : (B ∘ fun s : ByteArray => s.data.toList) = id := funext fun s => B_list s
    rw [this, List.map_id]
  rw [e] at hk
  have e2 : ∀ o : Option (List Int), (o.map ([] ++ ·)).getD [] = o.getD [] := fun o => by cases o <;> simp
  rw [e2] at hk
  exact withylaw28_numbers.calls k A0 c0 l0 _ _ w hr0 hc0 hk
theorem read_nums : ∀ (k : Nat) (ws : List (List UInt8)), readL (List.replicate k 110) ws = (numsL ws).bind fun ns => if ns.length = k then some (ns, []) else none
  | 0, [] => rfl
  | 0, w :: r => by
    show none = _
    unfold numsL
    cases numberL w with
    | none => rfl
    | some x => cases numsL r with
      | none => rfl
      | some t => rfl
  | k + 1, [] => rfl
  | k + 1, w :: r => by
    have ih := read_nums k r
    rw [List.replicate_succ]
    unfold readL numsL
    rw [if_pos rfl, ih]
    cases numberL w with
    | none => rfl
    | some x => cases numsL r with
      | none => rfl
      | some t =>
        simp only [Option.bind_some, Option.map_some, List.length_cons, Nat.add_right_cancel_iff]
        split <;> rfl
theorem nums_bd : ∀ (ws : List (List UInt8)) (ns : List Int), numsL ws = some ns → ∀ x ∈ ns, -10000000000 < x ∧ x < 10000000000
  | [], ns, h, x, hx => by
    obtain rfl := Option.some.inj h
    cases hx
  | w :: r, ns, h, x, hx => by
    unfold numsL at h
    cases hw : numberL w with
    | none => rw [hw] at h; cases h
    | some y =>
      cases hr : numsL r with
      | none => rw [hw, hr] at h; cases h
      | some t =>
        rw [hw, hr] at h
        obtain rfl := Option.some.inj h
        rcases List.mem_cons.1 hx with rfl | hx
        · exact (atoi_number w x hw).2
        · exact nums_bd r t hr x hx
end Go.Proofs.YtlpibobpfafooaaGreatDoor.SpR
namespace Go.Proofs.YtlpibobpfafooaaGreatDoor.H
open Go.RowKit Go.Proofs.Wy Go.Proofs.YtlpibobpfafooaaGreatDoorW.PrintWords Go.Proofs
open Go.Proofs.YtlpibobpfafooaaGreatDoor.SpR (numsL)

/-- What 'numbers' answers. -/
def NumsPost (L : Option (List Int)) (w : World) (e : Ending) (w' : World) : Prop := ∃ v : Value, e = .returned (.tuple #[v, .bool L.isSome]) ∧ Kd.R (Kd.int .i64) 3 w' w.heap.size (fun _ => True) v (L.getD []) ∧ Below w.heap.size w w'
theorem nums_any {L : Option (List Int)} {w : World} {f : FuncId} {args : Array Value} (h : Calls Tryz.prog f args w (NumsPost L w)) : Calls Tryz.prog f args w fun e w' => ∃ A c, e = .returned (.tuple #[.slice A (L.getD []).length c, .bool L.isSome]) ∧ Below w.heap.size w w' :=
  h.mono fun e w' ⟨v, he, hR, hB⟩ => by
    obtain ⟨A, c, hv⟩ := Kd.R_slice hR
    exact ⟨A, c, by rw [he, hv], hB⟩
theorem nums_some {ns : List Int} (hn : 0 < ns.length) {w : World} {f : FuncId} {args : Array Value} (h : Calls Tryz.prog f args w (NumsPost (some ns) w)) : Calls Tryz.prog f args w fun e w' => ∃ g c, e = .returned (.tuple #[.slice (some ⟨g, 0, none⟩) ns.length c, .bool true]) ∧ (∀ k (hk : k < ns.length), w'.cell? ⟨g, k, none⟩ = some (.int .i64 ns[k])) ∧ Below w.heap.size w w' :=
  h.mono fun e w' ⟨v, he, hR, hB⟩ => by
    have ho := Kd.own_of_R hR
    simp only [Option.getD_some] at ho
    have hlen : (encs (Value.int .i64) ns).length = ns.length := encs_length _
    rw [← hlen] at ho
    rcases RowAt.own ho with h0 | ⟨g, c, hv, _, hc⟩
    · have : ns = [] := by simpa [encs] using h0
      rw [this] at hn
      exact absurd hn (by decide)
    · rw [hlen] at hv
      refine ⟨g, c, by rw [he, hv]; rfl, fun k hk => hc k _ ?_, hB⟩
      simp [encs, hk]
def bad0 : ByteArray := ⟨#[101, 114, 114, 111, 114, 32, 50, 56, 48, 48]⟩
theorem counted_none (ad : Addr) (n c : Nat) (w : World) (hN : Calls Tryz.prog 52 #[.slice (some ad) n c] w (NumsPost none w)) :
    Calls Tryz.prog 32 #[.slice (some ad) n c] w fun e w' => e = .returned (.string bad0) ∧ Below w.heap.size w w' := by
  have HN := Lib.hid (nums_any hN)
  clear hN
  go_enter Tryz.func32, Tryz.ntmps32
  go_wp2_with fail
  ((with_reducible refine HN.out.mono ?_); rintro e w1 ⟨A, c1, rfl, hb1⟩)
  go_wp2_with fail
  go_ret
  exact ⟨rfl, hb1⟩
theorem counted_fsm_len (ad : Addr) (n c : Nat) (ns : List Int) (w : World) (hn : 0 < n) (h0 : w.cell? ad = some (.string ⟨#[102, 115, 109]⟩)) (hl : ns.length ≠ 2) (hN : Calls Tryz.prog 52 #[.slice (some ad) n c] w (NumsPost (some ns) w)) :
    Calls Tryz.prog 32 #[.slice (some ad) n c] w fun e w' => e = .returned (.string bad0) ∧ Below w.heap.size w w' := by
  have HN := Lib.hid (nums_any hN)
  have b1 : ((ns.length : Int) == 2) = false := by rw [beq_eq_false_iff_ne]; omega
  simp only [Option.getD_some] at HN
  generalize ns.length = m at HN b1
  clear hN hl
  go_enter Tryz.func32, Tryz.ntmps32
  go_wp2_with fail
  ((with_reducible refine HN.out.mono ?_); rintro e w1 ⟨A, c1, rfl, hb1⟩)
  have hc1 := pw_cell_below hb1 h0
  have HB1 := Lib.hid hb1
  clear hb1 HN h0
  go_wp2_with fail
  go_ret
  exact ⟨rfl, HB1.out⟩
theorem counted_delay_len (ad : Addr) (n c : Nat) (ns : List Int) (w : World) (hn : 0 < n) (h0 : w.cell? ad = some (.string ⟨#[100, 101, 108, 97, 121]⟩)) (hl : ns.length ≠ 4) (hN : Calls Tryz.prog 52 #[.slice (some ad) n c] w (NumsPost (some ns) w)) :
    Calls Tryz.prog 32 #[.slice (some ad) n c] w fun e w' => e = .returned (.string bad0) ∧ Below w.heap.size w w' := by
  have HN := Lib.hid (nums_any hN)
  have b1 : ((ns.length : Int) == 4) = false := by rw [beq_eq_false_iff_ne]; omega
  simp only [Option.getD_some] at HN
  generalize ns.length = m at HN b1
  clear hN hl
  go_enter Tryz.func32, Tryz.ntmps32
  go_wp2_with fail
  ((with_reducible refine HN.out.mono ?_); rintro e w1 ⟨A, c1, rfl, hb1⟩)
  have hc1 := pw_cell_below hb1 h0
  have HB1 := Lib.hid hb1
  clear hb1 HN h0
  go_wp2_with fail
  go_ret
  exact ⟨rfl, HB1.out⟩
theorem counted_target_len (ad : Addr) (n c : Nat) (ns : List Int) (w : World) (hn : 0 < n) (h0 : w.cell? ad = some (.string ⟨#[116, 97, 114, 103, 101, 116]⟩)) (hl : ns.length ≠ 4) (hN : Calls Tryz.prog 52 #[.slice (some ad) n c] w (NumsPost (some ns) w)) :
    Calls Tryz.prog 32 #[.slice (some ad) n c] w fun e w' => e = .returned (.string bad0) ∧ Below w.heap.size w w' := by
  have HN := Lib.hid (nums_any hN)
  have b1 : ((ns.length : Int) == 4) = false := by rw [beq_eq_false_iff_ne]; omega
  simp only [Option.getD_some] at HN
  generalize ns.length = m at HN b1
  clear hN hl
  go_enter Tryz.func32, Tryz.ntmps32
  go_wp2_with fail
  ((with_reducible refine HN.out.mono ?_); rintro e w1 ⟨A, c1, rfl, hb1⟩)
  have hc1 := pw_cell_below hb1 h0
  have HB1 := Lib.hid hb1
  clear hb1 HN h0
  go_wp2_with fail
  go_ret
  exact ⟨rfl, HB1.out⟩
theorem step_codes (s v : Int) : (stepP s v).2.2 = 0 ∨ (stepP s v).2.2 = 1000 ∨ (stepP s v).2.2 = 1001 := by
  by_cases h : 0 ≤ s ∧ s < 10 ∧ 0 ≤ v ∧ v < 16
  · have hh : ∀ s : Fin 10, ∀ v : Fin 16, (stepP (s.val : Int) (v.val : Int)).2.2 = 0 ∨ (stepP (s.val : Int) (v.val : Int)).2.2 = 1001 := by decide +kernel
    have h2 := hh ⟨s.toNat, by omega⟩ ⟨v.toNat, by omega⟩
    have e1 : ((s.toNat : Nat) : Int) = s := by omega
    have e2 : ((v.toNat : Nat) : Int) = v := by omega
    simp only [e1, e2] at h2
    rcases h2 with h2 | h2
    · exact .inl h2
    · exact .inr (.inr h2)
  · right; left
    unfold stepP
    rw [if_neg h]
/-- What a command's numbers tell. -/
def outT (r : List UInt8 × Int) : List UInt8 := if r.2 = 0 then r.1 else errL r.2
set_option maxRecDepth 100000 in
set_option maxHeartbeats 4000000 in
theorem counted_fsm (ad : Addr) (n c : Nat) (s v : Int) (w : World) (hn : 0 < n) (h0 : w.cell? ad = some (.string ⟨#[102, 115, 109]⟩)) (hN : Calls Tryz.prog 52 #[.slice (some ad) n c] w (NumsPost (some [s, v]) w)) :
    Calls Tryz.prog 32 #[.slice (some ad) n c] w fun e w' => e = .returned (.string ⟨(outT (tellL 3 [s, v] [])).toArray⟩) ∧ Below w.heap.size w w' := by
  have hN2 := nums_some (by simp) hN
  have HN : Hid (Calls Tryz.prog 52 #[.slice (some ad) n c] w fun e w' => ∃ g c, e = .returned (.tuple #[.slice (some ⟨g, 0, none⟩) 2 c, .bool true]) ∧ w'.cell? ⟨g, 0, none⟩ = some (.int .i64 s) ∧ w'.cell? ⟨g, 1, none⟩ = some (.int .i64 v) ∧ Below w.heap.size w w') :=
    Lib.hid (hN2.mono fun e w' ⟨g, c, he, hc, hB⟩ => ⟨g, c, he, hc 0 (by simp), hc 1 (by simp), hB⟩)
  clear hN hN2
  obtain ⟨⟨b1, b2⟩, b3, b4⟩ := stepP_bd s v
  have hS := fun w0 => rstep_any s v w0
  have hcode := step_codes s v
  have ht : tellL 3 [s, v] [] = (itoaL (stepP s v).1 ++ (stepP s v).2.1.flatMap (fun x => 32 :: itoaL x), (stepP s v).2.2) := rfl
  rw [ht]
  clear ht
  generalize (stepP s v).1 = st at hS b1 b2 ⊢
  generalize (stepP s v).2.1 = acts at hS b3 b4 ⊢
  generalize (stepP s v).2.2 = er at hS hcode ⊢
  by_cases her : er = 0
  · subst her
    have ho : outT (itoaL st ++ acts.flatMap (fun x => 32 :: itoaL x), 0) = itoaL st ++ acts.flatMap (fun x => 32 :: itoaL x) := rfl
    rw [ho]
    clear ho hcode
    have hS1 : ∀ w0, Calls Tryz.prog 21 #[.int .i64 s, .int .i64 v] w0 fun e w' => ∃ A c, e = .returned (.tuple #[.int .i64 st, .slice A acts.length c, .int .i64 0]) ∧ (∀ k (hk : k < acts.length), ∃ h, A = some ⟨h, 0, none⟩ ∧ w'.cell? ⟨h, k, none⟩ = some (.int .i64 acts[k])) ∧ Below w0.heap.size w0 w' := fun w0 =>
      (hS w0).mono fun e w' ⟨vo, he, hR, hB⟩ => by
        have ho := Kd.own_of_R hR
        have hlen : (encs (Value.int .i64) acts).length = acts.length := encs_length _
        rw [← hlen] at ho
        rcases RowAt.own ho with h0 | ⟨h, c, hvo, _, hc⟩
        · have hn : acts = [] := by simpa [encs] using h0
          obtain ⟨A, c, hvo⟩ := Kd.R_slice hR
          subst hn
          exact ⟨A, c, by rw [he, hvo], fun k hk => absurd hk (Nat.not_lt_zero k), hB⟩
        · rw [hlen] at hvo
          refine ⟨some ⟨h, 0, none⟩, c, by rw [he, hvo], fun k hk => ⟨h, rfl, hc k _ ?_⟩, hB⟩
          simp [encs, hk]
    have HS1 := Lib.hid hS1
    have HIt := Lib.hid (fun w0 => SpR.dec_any st w0 (by omega) (by omega))
    have hl1 := itoaL_length st
    have HB4 := Lib.hid b4
    clear hS hS1 b4 b1 b2
    go_enter Tryz.func32, Tryz.ntmps32
    go_wp2_with fail
    ((with_reducible refine HN.out.mono ?_); rintro e w1 ⟨g, c1, rfl, hg0, hg1, hbx⟩)
    have hc1 := pw_cell_below hbx h0
    have HB1 := Lib.hid hbx
    have HD : Hid (w1.drew.cell? ⟨g, 0, none⟩ = some (.int .i64 s) ∧ w1.drew.cell? ⟨g, 1, none⟩ = some (.int .i64 v)) := Lib.hid ⟨hg0, hg1⟩
    clear hbx HN h0 hg0 hg1
    go_wp2_with fail
    go_region_held3 (fun w' => w'.cell? ⟨g, 0, none⟩ = some (.int .i64 s) ∧ w'.cell? ⟨g, 1, none⟩ = some (.int .i64 v)) (first | (with_reducible exact HD.out) | (with_reducible exact ⟨pw_cell_below hb1.out HD.out.1, pw_cell_below hb1.out HD.out.2⟩)) ((go_at_call 21; (with_reducible refine (HS1.out _).mono ?_); rintro e w2 ⟨A, c2, rfl, hc_, hb1_⟩; have hb1 := Lib.hid hb1_; have HC1 := Lib.hid hc_; clear hb1_ hc_))
    have HB2a : Hid (Below w.heap.size w w2) := Lib.hid (HB1.out.trans ((below_drew_then hb1.out).mono HB1.out.size))
    clear HD HS1 hb1 hc1
    go_wp2_with fail
    ((with_reducible refine (HIt.out _).mono ?_); rintro e w3 ⟨rfl, hb3⟩)
    have HB3a := Lib.hid (HB2a.out.trans (hb3.mono HB2a.out.size))
    have HC3 : Hid (∀ k (hk : k < acts.length), ∃ h, A = some ⟨h, 0, none⟩ ∧ w3.cell? ⟨h, k, none⟩ = some (.int .i64 acts[k])) := Lib.hid (fun k hk => by obtain ⟨h, e1, e2⟩ := HC1.out k hk; exact ⟨h, e1, pw_cell_below hb3 e2⟩)
    clear hb3 HC1 HB2a
    go_wp2_with fail
    go_loopw [8, 9] (fun v14 v15 wr => ∃ (k : Nat) (S : List UInt8), k ≤ acts.length ∧ v15 = .int .i64 (k : Int) ∧ v14 = .string ⟨S.toArray⟩ ∧ Hid (S = itoaL st ++ (acts.take k).flatMap fun x => 32 :: itoaL x) ∧ Hid (Below w3.heap.size w3 wr)) (fun _ v15 _ => acts.length - (intOf v15).toNat)
    case atStart => exact ⟨0, itoaL st, Nat.zero_le _, rfl, rfl, Lib.hid (by simp), Lib.hid (Below.refl _ _)⟩
    case round =>
      obtain ⟨k, S, hk, rfl, rfl, hSd, hB⟩ := hrel
      by_cases hlt : k < acts.length
      · obtain ⟨h, hA, hc0⟩ := HC3.out k hlt
        have hcell := pw_cell_below hB.out hc0
        subst hA
        have hbd := HB4.out acts[k] (List.getElem_mem hlt)
        have hT := Lib.hid (acts_take acts k hlt)
        have hfl := flat_len (acts.take k)
        have htk : (acts.take k).length ≤ 5 := by rw [List.length_take]; omega
        generalize acts[k] = y at hcell hbd hT
        obtain ⟨y0, y1⟩ := hbd
        have hSl : S.length ≤ 200 := by rw [hSd.out, List.length_append]; omega
        have hyl := itoaL_length y
        have HI2 := Lib.hid (fun w0 => SpR.dec_any y w0 (by omega) (by omega))
        have ad1 := add_said S [32] (by simp only [List.length_cons, List.length_nil]; omega)
        have ad2 := add_said (S ++ [32]) (itoaL y) (by simp only [List.length_append, List.length_cons, List.length_nil]; omega)
        have hSd2 : Hid (S ++ [32] ++ itoaL y = itoaL st ++ (acts.take (k + 1)).flatMap fun x => 32 :: itoaL x) := Lib.hid (by
          rw [hT.out, hSd.out]
          simp)
        obtain ⟨S2, hS2⟩ : ∃ S2, S2 = S ++ [32] ++ itoaL y := ⟨_, rfl⟩
        rw [← hS2] at ad2 hSd2
        generalize (⟨(S ++ [32]).toArray⟩ : ByteArray) = Sa at ad1 ad2
        generalize (⟨(itoaL y).toArray⟩ : ByteArray) = yb at ad2 HI2
        clear hSd hT hyl hS2 hfl htk hSl hc0
        go_wp2_with fail
        ((with_reducible refine (HI2.out _).mono ?_); rintro e w4 ⟨rfl, hb4⟩)
        have HB4b := Lib.hid (hB.out.trans (hb4.mono hB.out.size))
        clear hb4 hB
        go_wp2_with fail
        go_roundw
        case rel => exact ⟨k + 1, S2, by omega, by go_num, rfl, hSd2, HB4b⟩
        case measure => simp [intOf]; omega
      · have hks : acts.take k = acts := List.take_of_length_le (by omega)
        have hZ := hSd.out
        rw [hks] at hZ
        have HZ := Lib.hid hZ
        have HB2 := Lib.hid (HB3a.out.trans (hB.out.mono HB3a.out.size))
        have zk : ¬ ((k : Int) < (acts.length : Int)) := by omega
        clear hks hSd hB HB3a HC3 hlt hk hZ
        go_wp2_with fail
        go_ret
        exact ⟨by rw [HZ.out]; rfl, HB2.out⟩
  · have ho : outT (itoaL st ++ acts.flatMap (fun x => 32 :: itoaL x), er) = errL er := if_neg her
    rw [ho]
    have HS1 : Hid (∀ w0, Calls Tryz.prog 21 #[.int .i64 s, .int .i64 v] w0 fun e w' => ∃ vo, e = .returned (.tuple #[.int .i64 st, vo, .int .i64 er]) ∧ Below w0.heap.size w0 w') := Lib.hid (fun w0 => (hS w0).mono fun e w' ⟨vo, he, _, hB⟩ => ⟨vo, he, hB⟩)
    have HE := Lib.hid (fun w0 => SpR.wrongs_any er w0 (by omega) (by omega))
    have bE : (er != 0) = true := by rw [bne_iff_ne]; exact her
    clear hS ho b1 b2 b3 b4 hcode her
    go_enter Tryz.func32, Tryz.ntmps32
    go_wp2_with fail
    ((with_reducible refine HN.out.mono ?_); rintro e w1 ⟨g, c1, rfl, hg0, hg1, hbx⟩)
    have hc1 := pw_cell_below hbx h0
    have HB1 := Lib.hid hbx
    have HD : Hid (w1.drew.cell? ⟨g, 0, none⟩ = some (.int .i64 s) ∧ w1.drew.cell? ⟨g, 1, none⟩ = some (.int .i64 v)) := Lib.hid ⟨hg0, hg1⟩
    clear hbx HN h0 hg0 hg1
    go_wp2_with fail
    go_region_held3 (fun w' => w'.cell? ⟨g, 0, none⟩ = some (.int .i64 s) ∧ w'.cell? ⟨g, 1, none⟩ = some (.int .i64 v)) (first | (with_reducible exact HD.out) | (with_reducible exact ⟨pw_cell_below hb1.out HD.out.1, pw_cell_below hb1.out HD.out.2⟩)) ((go_at_call 21; (with_reducible refine (HS1.out _).mono ?_); rintro e w2 ⟨vo, rfl, hb1_⟩; have hb1 := Lib.hid hb1_; clear hb1_))
    have HB2 : Hid (Below w.heap.size w w2) := Lib.hid (HB1.out.trans ((below_drew_then hb1.out).mono HB1.out.size))
    clear HD HS1 hb1 hc1 HB1
    go_wp2_with fail
    ((with_reducible refine (HE.out _).mono ?_); rintro e w3 ⟨rfl, hb3⟩)
    have HB3 := Lib.hid (HB2.out.trans (hb3.mono HB2.out.size))
    clear hb3
    go_wp2_with fail
    go_ret
    exact ⟨rfl, HB3.out⟩
theorem delay_codes (t base most jit : Int) : (delayL t base most jit).2 = 0 ∨ (delayL t base most jit).2 = 1200 := by
  unfold delayL
  split
  · exact .inr rfl
  · exact .inl rfl
theorem delayr_any (t base most jit : Int) (w : World) (h4 : jit ≤ 9223372036854775807) :
    Calls Tryz.prog 22 #[.int .i64 t, .int .i64 base, .int .i64 most, .int .i64 jit] w fun e w' => e = .returned (.tuple #[.int .i64 (delayL t base most jit).1, .int .i64 (delayL t base most jit).2]) ∧ Below w.heap.size w w' :=
  PR.withyref10_Delay.calls 70 t base most jit _ _ w (SpR.delayr_spec t base most jit h4)
set_option maxRecDepth 100000 in
set_option maxHeartbeats 4000000 in
theorem counted_delay (ad : Addr) (n c : Nat) (t base most jit : Int) (w : World) (hn : 0 < n) (hj : jit ≤ 9223372036854775807) (h0 : w.cell? ad = some (.string ⟨#[100, 101, 108, 97, 121]⟩)) (hN : Calls Tryz.prog 52 #[.slice (some ad) n c] w (NumsPost (some [t, base, most, jit]) w)) :
    Calls Tryz.prog 32 #[.slice (some ad) n c] w fun e w' => e = .returned (.string ⟨(outT (tellL 5 [t, base, most, jit] [])).toArray⟩) ∧ Below w.heap.size w w' := by
  have hN2 := nums_some (by simp) hN
  have HN : Hid (Calls Tryz.prog 52 #[.slice (some ad) n c] w fun e w' => ∃ g c, e = .returned (.tuple #[.slice (some ⟨g, 0, none⟩) 4 c, .bool true]) ∧ (w'.cell? ⟨g, 0, none⟩ = some (.int .i64 t) ∧ w'.cell? ⟨g, 1, none⟩ = some (.int .i64 base) ∧ w'.cell? ⟨g, 2, none⟩ = some (.int .i64 most) ∧ w'.cell? ⟨g, 3, none⟩ = some (.int .i64 jit)) ∧ Below w.heap.size w w') :=
    Lib.hid (hN2.mono fun e w' ⟨g, c, he, hc, hB⟩ => ⟨g, c, he, ⟨hc 0 (by simp), hc 1 (by simp), hc 2 (by simp), hc 3 (by simp)⟩, hB⟩)
  clear hN hN2
  obtain ⟨b1, b2⟩ := delayL_bd t base most jit
  have hcode := delay_codes t base most jit
  have hS := fun w0 => delayr_any t base most jit w0 hj
  have ht : tellL 5 [t, base, most, jit] [] = (itoaL (delayL t base most jit).1, (delayL t base most jit).2) := rfl
  rw [ht]
  clear ht hj
  generalize (delayL t base most jit).1 = st at hS b1 b2 ⊢
  generalize (delayL t base most jit).2 = er at hS hcode ⊢
  rcases hcode with rfl | rfl
  · have ho : outT (itoaL st, 0) = itoaL st := rfl
    rw [ho]
    have HE := Lib.hid (fun w0 => SpR.dec_any st w0 (by omega) (by omega))
    have HS := Lib.hid hS
    clear hS ho b1 b2
    go_enter Tryz.func32, Tryz.ntmps32
    go_wp2_with fail
    ((with_reducible refine HN.out.mono ?_); rintro e w1 ⟨g, c1, rfl, hg, hbx⟩)
    have hc1 := pw_cell_below hbx h0
    have HB1 := Lib.hid hbx
    have HD : Hid (w1.drew.cell? ⟨g, 0, none⟩ = some (.int .i64 t) ∧ w1.drew.cell? ⟨g, 1, none⟩ = some (.int .i64 base) ∧ w1.drew.cell? ⟨g, 2, none⟩ = some (.int .i64 most) ∧ w1.drew.cell? ⟨g, 3, none⟩ = some (.int .i64 jit)) := Lib.hid hg
    clear hbx HN h0 hg
    go_wp2_with fail
    go_region_held3 (fun w' => w'.cell? ⟨g, 0, none⟩ = some (.int .i64 t) ∧ w'.cell? ⟨g, 1, none⟩ = some (.int .i64 base) ∧ w'.cell? ⟨g, 2, none⟩ = some (.int .i64 most) ∧ w'.cell? ⟨g, 3, none⟩ = some (.int .i64 jit)) (first | (with_reducible exact HD.out) | (with_reducible exact ⟨pw_cell_below hb1.out HD.out.1, pw_cell_below hb1.out HD.out.2.1, pw_cell_below hb1.out HD.out.2.2.1, pw_cell_below hb1.out HD.out.2.2.2⟩)) ((go_at_call 22; (with_reducible refine (HS.out _).mono ?_); rintro e w2 ⟨rfl, hb1_⟩; have hb1 := Lib.hid hb1_; clear hb1_))
    have HB2 : Hid (Below w.heap.size w w2) := Lib.hid (HB1.out.trans ((below_drew_then hb1.out).mono HB1.out.size))
    clear HD HS hb1 hc1 HB1
    go_wp2_with fail
    ((with_reducible refine (HE.out _).mono ?_); rintro e w3 ⟨rfl, hb3⟩)
    have HB3 := Lib.hid (HB2.out.trans (hb3.mono HB2.out.size))
    clear hb3
    go_wp2_with fail
    go_ret
    exact ⟨rfl, HB3.out⟩
  · have ho : outT (itoaL st, 1200) = errL 1200 := rfl
    rw [ho]
    have HE := Lib.hid (fun w0 => SpR.wrongs_any 1200 w0 (by decide) (by decide))
    have HS := Lib.hid hS
    clear hS ho b1 b2
    go_enter Tryz.func32, Tryz.ntmps32
    go_wp2_with fail
    ((with_reducible refine HN.out.mono ?_); rintro e w1 ⟨g, c1, rfl, hg, hbx⟩)
    have hc1 := pw_cell_below hbx h0
    have HB1 := Lib.hid hbx
    have HD : Hid (w1.drew.cell? ⟨g, 0, none⟩ = some (.int .i64 t) ∧ w1.drew.cell? ⟨g, 1, none⟩ = some (.int .i64 base) ∧ w1.drew.cell? ⟨g, 2, none⟩ = some (.int .i64 most) ∧ w1.drew.cell? ⟨g, 3, none⟩ = some (.int .i64 jit)) := Lib.hid hg
    clear hbx HN h0 hg
    go_wp2_with fail
    go_region_held3 (fun w' => w'.cell? ⟨g, 0, none⟩ = some (.int .i64 t) ∧ w'.cell? ⟨g, 1, none⟩ = some (.int .i64 base) ∧ w'.cell? ⟨g, 2, none⟩ = some (.int .i64 most) ∧ w'.cell? ⟨g, 3, none⟩ = some (.int .i64 jit)) (first | (with_reducible exact HD.out) | (with_reducible exact ⟨pw_cell_below hb1.out HD.out.1, pw_cell_below hb1.out HD.out.2.1, pw_cell_below hb1.out HD.out.2.2.1, pw_cell_below hb1.out HD.out.2.2.2⟩)) ((go_at_call 22; (with_reducible refine (HS.out _).mono ?_); rintro e w2 ⟨rfl, hb1_⟩; have hb1 := Lib.hid hb1_; clear hb1_))
    have HB2 : Hid (Below w.heap.size w w2) := Lib.hid (HB1.out.trans ((below_drew_then hb1.out).mono HB1.out.size))
    clear HD HS hb1 hc1 HB1
    go_wp2_with fail
    ((with_reducible refine (HE.out _).mono ?_); rintro e w3 ⟨rfl, hb3⟩)
    have HB3 := Lib.hid (HB2.out.trans (hb3.mono HB2.out.size))
    clear hb3
    go_wp2_with fail
    go_ret
    exact ⟨rfl, HB3.out⟩
theorem below_drewn_then {w w1 : World} (m : Nat) (h : Below (w.drewN m).heap.size (w.drewN m) w1) : Below w.heap.size w w1 := ⟨h.os, h.tape, h.output, h.size, h.block⟩
set_option maxRecDepth 100000 in
set_option maxHeartbeats 8000000 in
theorem counted_target_no (ad : Addr) (n c : Nat) (load rate least links : Int) (w : World) (hn : 0 < n) (hg : (rate < 64) ∨ (64 ≤ rate ∧ 4096 < rate) ∨ (64 ≤ rate ∧ rate ≤ 4096 ∧ links < 1) ∨ (64 ≤ rate ∧ rate ≤ 4096 ∧ 1 ≤ links ∧ 6 < links) ∨ (64 ≤ rate ∧ rate ≤ 4096 ∧ 1 ≤ links ∧ links ≤ 6 ∧ least < 1) ∨ (64 ≤ rate ∧ rate ≤ 4096 ∧ 1 ≤ links ∧ links ≤ 6 ∧ 1 ≤ least ∧ links < least) ∨ (64 ≤ rate ∧ rate ≤ 4096 ∧ 1 ≤ links ∧ links ≤ 6 ∧ 1 ≤ least ∧ least ≤ links ∧ load < 0)) (h0 : w.cell? ad = some (.string ⟨#[116, 97, 114, 103, 101, 116]⟩)) (hN : Calls Tryz.prog 52 #[.slice (some ad) n c] w (NumsPost (some [load, rate, least, links]) w)) :
    Calls Tryz.prog 32 #[.slice (some ad) n c] w fun e w' => e = .returned (.string ⟨(errL 2400).toArray⟩) ∧ Below w.heap.size w w' := by
  have hN2 := nums_some (by simp) hN
  have HN : Hid (Calls Tryz.prog 52 #[.slice (some ad) n c] w fun e w' => ∃ g c, e = .returned (.tuple #[.slice (some ⟨g, 0, none⟩) 4 c, .bool true]) ∧ (w'.cell? ⟨g, 0, none⟩ = some (.int .i64 load) ∧ w'.cell? ⟨g, 1, none⟩ = some (.int .i64 rate) ∧ w'.cell? ⟨g, 2, none⟩ = some (.int .i64 least) ∧ w'.cell? ⟨g, 3, none⟩ = some (.int .i64 links)) ∧ Below w.heap.size w w') :=
    Lib.hid (hN2.mono fun e w' ⟨g, c, he, hc, hB⟩ => ⟨g, c, he, ⟨hc 0 (by simp), hc 1 (by simp), hc 2 (by simp), hc 3 (by simp)⟩, hB⟩)
  clear hN hN2
  have HE := Lib.hid (fun w0 => SpR.wrongs_any 2400 w0 (by decide) (by decide))
  rcases hg with hg | hg | hg | hg | hg | hg | hg
  · have d0 : decide (rate < 64) = true := by rw [decide_eq_true_eq]; omega
    clear hg
    go_enter Tryz.func32, Tryz.ntmps32
    go_wp2_with fail
    ((with_reducible refine HN.out.mono ?_); rintro e w1 ⟨g, c1, rfl, ⟨hg0, hg1, hg2, hg3⟩, hbx⟩)
    have hc1 := pw_cell_below hbx h0
    have HB1 := Lib.hid hbx
    clear hbx HN h0
    go_wp2_with fail
    go_quiet (fail)
    go_wp2_with fail
    ((with_reducible refine (HE.out _).mono ?_); rintro e w3 ⟨rfl, hb3⟩)
    have HB3 := Lib.hid (HB1.out.trans ((below_drewn_then _ hb3).mono HB1.out.size))
    clear hb3
    go_wp2_with fail
    go_ret
    exact ⟨rfl, HB3.out⟩
  · have d0 : decide (rate < 64) = false := by rw [decide_eq_false_iff_not]; omega
    have d1 : decide (4096 < rate) = true := by rw [decide_eq_true_eq]; omega
    clear hg
    go_enter Tryz.func32, Tryz.ntmps32
    go_wp2_with fail
    ((with_reducible refine HN.out.mono ?_); rintro e w1 ⟨g, c1, rfl, ⟨hg0, hg1, hg2, hg3⟩, hbx⟩)
    have hc1 := pw_cell_below hbx h0
    have HB1 := Lib.hid hbx
    clear hbx HN h0
    go_wp2_with fail
    go_quiet (fail)
    go_wp2_with fail
    ((with_reducible refine (HE.out _).mono ?_); rintro e w3 ⟨rfl, hb3⟩)
    have HB3 := Lib.hid (HB1.out.trans ((below_drewn_then _ hb3).mono HB1.out.size))
    clear hb3
    go_wp2_with fail
    go_ret
    exact ⟨rfl, HB3.out⟩
  · have d0 : decide (rate < 64) = false := by rw [decide_eq_false_iff_not]; omega
    have d1 : decide (4096 < rate) = false := by rw [decide_eq_false_iff_not]; omega
    have d2 : decide (links < 1) = true := by rw [decide_eq_true_eq]; omega
    clear hg
    go_enter Tryz.func32, Tryz.ntmps32
    go_wp2_with fail
    ((with_reducible refine HN.out.mono ?_); rintro e w1 ⟨g, c1, rfl, ⟨hg0, hg1, hg2, hg3⟩, hbx⟩)
    have hc1 := pw_cell_below hbx h0
    have HB1 := Lib.hid hbx
    clear hbx HN h0
    go_wp2_with fail
    go_quiet (fail)
    go_wp2_with fail
    ((with_reducible refine (HE.out _).mono ?_); rintro e w3 ⟨rfl, hb3⟩)
    have HB3 := Lib.hid (HB1.out.trans ((below_drewn_then _ hb3).mono HB1.out.size))
    clear hb3
    go_wp2_with fail
    go_ret
    exact ⟨rfl, HB3.out⟩
  · have d0 : decide (rate < 64) = false := by rw [decide_eq_false_iff_not]; omega
    have d1 : decide (4096 < rate) = false := by rw [decide_eq_false_iff_not]; omega
    have d2 : decide (links < 1) = false := by rw [decide_eq_false_iff_not]; omega
    have d3 : decide (6 < links) = true := by rw [decide_eq_true_eq]; omega
    clear hg
    go_enter Tryz.func32, Tryz.ntmps32
    go_wp2_with fail
    ((with_reducible refine HN.out.mono ?_); rintro e w1 ⟨g, c1, rfl, ⟨hg0, hg1, hg2, hg3⟩, hbx⟩)
    have hc1 := pw_cell_below hbx h0
    have HB1 := Lib.hid hbx
    clear hbx HN h0
    go_wp2_with fail
    go_quiet (fail)
    go_wp2_with fail
    ((with_reducible refine (HE.out _).mono ?_); rintro e w3 ⟨rfl, hb3⟩)
    have HB3 := Lib.hid (HB1.out.trans ((below_drewn_then _ hb3).mono HB1.out.size))
    clear hb3
    go_wp2_with fail
    go_ret
    exact ⟨rfl, HB3.out⟩
  · have d0 : decide (rate < 64) = false := by rw [decide_eq_false_iff_not]; omega
    have d1 : decide (4096 < rate) = false := by rw [decide_eq_false_iff_not]; omega
    have d2 : decide (links < 1) = false := by rw [decide_eq_false_iff_not]; omega
    have d3 : decide (6 < links) = false := by rw [decide_eq_false_iff_not]; omega
    have d4 : decide (least < 1) = true := by rw [decide_eq_true_eq]; omega
    clear hg
    go_enter Tryz.func32, Tryz.ntmps32
    go_wp2_with fail
    ((with_reducible refine HN.out.mono ?_); rintro e w1 ⟨g, c1, rfl, ⟨hg0, hg1, hg2, hg3⟩, hbx⟩)
    have hc1 := pw_cell_below hbx h0
    have HB1 := Lib.hid hbx
    clear hbx HN h0
    go_wp2_with fail
    go_quiet (fail)
    go_wp2_with fail
    ((with_reducible refine (HE.out _).mono ?_); rintro e w3 ⟨rfl, hb3⟩)
    have HB3 := Lib.hid (HB1.out.trans ((below_drewn_then _ hb3).mono HB1.out.size))
    clear hb3
    go_wp2_with fail
    go_ret
    exact ⟨rfl, HB3.out⟩
  · have d0 : decide (rate < 64) = false := by rw [decide_eq_false_iff_not]; omega
    have d1 : decide (4096 < rate) = false := by rw [decide_eq_false_iff_not]; omega
    have d2 : decide (links < 1) = false := by rw [decide_eq_false_iff_not]; omega
    have d3 : decide (6 < links) = false := by rw [decide_eq_false_iff_not]; omega
    have d4 : decide (least < 1) = false := by rw [decide_eq_false_iff_not]; omega
    have d5 : decide (links < least) = true := by rw [decide_eq_true_eq]; omega
    clear hg
    go_enter Tryz.func32, Tryz.ntmps32
    go_wp2_with fail
    ((with_reducible refine HN.out.mono ?_); rintro e w1 ⟨g, c1, rfl, ⟨hg0, hg1, hg2, hg3⟩, hbx⟩)
    have hc1 := pw_cell_below hbx h0
    have HB1 := Lib.hid hbx
    clear hbx HN h0
    go_wp2_with fail
    go_quiet (fail)
    go_wp2_with fail
    ((with_reducible refine (HE.out _).mono ?_); rintro e w3 ⟨rfl, hb3⟩)
    have HB3 := Lib.hid (HB1.out.trans ((below_drewn_then _ hb3).mono HB1.out.size))
    clear hb3
    go_wp2_with fail
    go_ret
    exact ⟨rfl, HB3.out⟩
  · have d0 : decide (rate < 64) = false := by rw [decide_eq_false_iff_not]; omega
    have d1 : decide (4096 < rate) = false := by rw [decide_eq_false_iff_not]; omega
    have d2 : decide (links < 1) = false := by rw [decide_eq_false_iff_not]; omega
    have d3 : decide (6 < links) = false := by rw [decide_eq_false_iff_not]; omega
    have d4 : decide (least < 1) = false := by rw [decide_eq_false_iff_not]; omega
    have d5 : decide (links < least) = false := by rw [decide_eq_false_iff_not]; omega
    have d6 : decide (load < 0) = true := by rw [decide_eq_true_eq]; omega
    clear hg
    go_enter Tryz.func32, Tryz.ntmps32
    go_wp2_with fail
    ((with_reducible refine HN.out.mono ?_); rintro e w1 ⟨g, c1, rfl, ⟨hg0, hg1, hg2, hg3⟩, hbx⟩)
    have hc1 := pw_cell_below hbx h0
    have HB1 := Lib.hid hbx
    clear hbx HN h0
    go_wp2_with fail
    go_quiet (fail)
    go_wp2_with fail
    ((with_reducible refine (HE.out _).mono ?_); rintro e w3 ⟨rfl, hb3⟩)
    have HB3 := Lib.hid (HB1.out.trans ((below_drewn_then _ hb3).mono HB1.out.size))
    clear hb3
    go_wp2_with fail
    go_ret
    exact ⟨rfl, HB3.out⟩
set_option maxRecDepth 100000 in
set_option maxHeartbeats 8000000 in
theorem counted_target_yes (ad : Addr) (n c : Nat) (load rate least links : Int) (w : World) (hn : 0 < n) (hg : 64 ≤ rate ∧ rate ≤ 4096 ∧ 1 ≤ links ∧ links ≤ 6 ∧ 1 ≤ least ∧ least ≤ links ∧ 0 ≤ load) (hj : load ≤ 9223372036854775807) (h0 : w.cell? ad = some (.string ⟨#[116, 97, 114, 103, 101, 116]⟩)) (hN : Calls Tryz.prog 52 #[.slice (some ad) n c] w (NumsPost (some [load, rate, least, links]) w)) :
    Calls Tryz.prog 32 #[.slice (some ad) n c] w fun e w' => e = .returned (.string ⟨(itoaL (targetL load rate least links).1).toArray⟩) ∧ Below w.heap.size w w' := by
  have hN2 := nums_some (by simp) hN
  have HN : Hid (Calls Tryz.prog 52 #[.slice (some ad) n c] w fun e w' => ∃ g c, e = .returned (.tuple #[.slice (some ⟨g, 0, none⟩) 4 c, .bool true]) ∧ (w'.cell? ⟨g, 0, none⟩ = some (.int .i64 load) ∧ w'.cell? ⟨g, 1, none⟩ = some (.int .i64 rate) ∧ w'.cell? ⟨g, 2, none⟩ = some (.int .i64 least) ∧ w'.cell? ⟨g, 3, none⟩ = some (.int .i64 links)) ∧ Below w.heap.size w w') :=
    Lib.hid (hN2.mono fun e w' ⟨g, c, he, hc, hB⟩ => ⟨g, c, he, ⟨hc 0 (by simp), hc 1 (by simp), hc 2 (by simp), hc 3 (by simp)⟩, hB⟩)
  clear hN hN2
  have hbd : 1 ≤ (targetL load rate least links).1 ∧ (targetL load rate least links).1 ≤ 6 := by
    unfold targetL
    rw [if_neg (by omega)]
    generalize (load / rate + if load % rate > 0 then 1 else 0) = y
    show 1 ≤ min (max y least) links ∧ min (max y least) links ≤ 6
    omega
  have hT := fun w0 => PR.withyref21_Target.calls load rate least links _ w0 (SpR.targetr_spec load rate least links hg.2.2.2.2.2.2 hj ⟨hg.1, hg.2.1, hg.2.2.1, hg.2.2.2.1, hg.2.2.2.2.1, hg.2.2.2.2.2.1⟩)
  generalize (targetL load rate least links).1 = st at hT hbd ⊢
  have HI := Lib.hid (fun w0 => SpR.dec_any st w0 (by omega) (by omega))
  have HC := Lib.hid hT
  have d0 : decide (rate < 64) = false := by rw [decide_eq_false_iff_not]; omega
  have d1 : decide (4096 < rate) = false := by rw [decide_eq_false_iff_not]; omega
  have d2 : decide (links < 1) = false := by rw [decide_eq_false_iff_not]; omega
  have d3 : decide (6 < links) = false := by rw [decide_eq_false_iff_not]; omega
  have d4 : decide (least < 1) = false := by rw [decide_eq_false_iff_not]; omega
  have d5 : decide (links < least) = false := by rw [decide_eq_false_iff_not]; omega
  have d6 : decide (load < 0) = false := by rw [decide_eq_false_iff_not]; omega
  clear hg hj hT hbd
  go_enter Tryz.func32, Tryz.ntmps32
  go_wp2_with fail
  ((with_reducible refine HN.out.mono ?_); rintro e w1 ⟨g, c1, rfl, ⟨hg0, hg1, hg2, hg3⟩, hbx⟩)
  have hc1 := pw_cell_below hbx h0
  have HB1 := Lib.hid hbx
  clear hbx HN h0
  go_wp2_with fail
  go_quiet (fail)
  go_wp2_with fail
  have HDn : Hid ((w1.drewN (nq + 1)).cell? ⟨g, 0, none⟩ = some (.int .i64 load) ∧ (w1.drewN (nq + 1)).cell? ⟨g, 1, none⟩ = some (.int .i64 rate) ∧ (w1.drewN (nq + 1)).cell? ⟨g, 2, none⟩ = some (.int .i64 least) ∧ (w1.drewN (nq + 1)).cell? ⟨g, 3, none⟩ = some (.int .i64 links)) := Lib.hid ⟨hg0, hg1, hg2, hg3⟩
  have HDm : Hid ((w1.drewN nq).drew.cell? ⟨g, 0, none⟩ = some (.int .i64 load) ∧ (w1.drewN nq).drew.cell? ⟨g, 1, none⟩ = some (.int .i64 rate) ∧ (w1.drewN nq).drew.cell? ⟨g, 2, none⟩ = some (.int .i64 least) ∧ (w1.drewN nq).drew.cell? ⟨g, 3, none⟩ = some (.int .i64 links)) := HDn
  have HBn : Hid (Below w.heap.size w (w1.drewN (nq + 1))) := Lib.hid (pw_below_drewN HB1.out (nq + 1))
  clear hg0 hg1 hg2 hg3 HB1 hc1
  go_region_held3 (fun w' => w'.cell? ⟨g, 0, none⟩ = some (.int .i64 load) ∧ w'.cell? ⟨g, 1, none⟩ = some (.int .i64 rate) ∧ w'.cell? ⟨g, 2, none⟩ = some (.int .i64 least) ∧ w'.cell? ⟨g, 3, none⟩ = some (.int .i64 links)) (first | (with_reducible exact HDn.out) | (with_reducible exact HDm.out) | (with_reducible exact ⟨pw_cell_below hb1.out HDn.out.1, pw_cell_below hb1.out HDn.out.2.1, pw_cell_below hb1.out HDn.out.2.2.1, pw_cell_below hb1.out HDn.out.2.2.2⟩) | (with_reducible exact ⟨pw_cell_below hb2.out (pw_cell_below hb1.out HDn.out.1), pw_cell_below hb2.out (pw_cell_below hb1.out HDn.out.2.1), pw_cell_below hb2.out (pw_cell_below hb1.out HDn.out.2.2.1), pw_cell_below hb2.out (pw_cell_below hb1.out HDn.out.2.2.2)⟩)) (first | (go_at_call 23; (with_reducible refine (HC.out _).mono ?_); rintro e w2 ⟨rfl, hb1_⟩; have hb1 := Lib.hid hb1_; clear hb1_) | (go_at_call 17; (with_reducible refine (HI.out _).mono ?_); rintro e w3 ⟨rfl, hb2_⟩; have hb2 := Lib.hid hb2_; clear hb2_))
  have HB3 := Lib.hid (HBn.out.trans ((hb1.out.mono HBn.out.size).trans (hb2.out.mono (Nat.le_trans HBn.out.size hb1.out.size))))
  go_wp2_with fail
  go_ret
  exact ⟨rfl, HB3.out⟩
end Go.Proofs.YtlpibobpfafooaaGreatDoor.H
