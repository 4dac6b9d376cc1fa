/-
  FrameTurned: proved, for every frame and bit.
-/
import Derived.Test.YtnkjhlpdcffalaaRows
import Derived.Test.YtnkjhlpdcffalaaTurnedB
import Derived.Test.YtnkjhlpdcffalaaDetect
import Derived.Test.YtnkjhlpdcffalaaSpecD
import Derived.WalkKit
import Derived.ProofKit
import Derived.OpenShut
import Derived.ShutString
import Derived.ChangeOld
import Derived.Below
import Derived.SizedLaws
import Derived.Lib.SmallJoins
namespace Go.Proofs.Ytnkjhlpdcffalaa.frameTurned
open Go.ChangeShapes Go.WideShapes Go.ChangeAt Go.RowKit Go.Joins Go.Proofs.Wy Go.Proofs.Ytnkjhlpdcffalaa.PF Go.Proofs.YtnkjhlpdcffalaaW.PrintWords Go.Proofs.Ytnkjhlpdcffalaa.Sp
open Go.ChangeMaps (open_string shut_string)
set_option linter.unusedVariables false
theorem own : ownKnob Try.prog.godebug = none := by kernel_rfl
theorem cellsFrame : Try.prog.cellsOf 23 = 2 := by kernel_rfl

/-- The protocol that the law takes is one. -/
theorem proto_taken (p : Int) : ∃ q : Int, Go.bits .or .i64 (Go.bits .and .i64 p 65278) 1 = q ∧ protoB q = true := by
  refine ⟨_, rfl, ?_⟩
  have e : Go.bits .and .i64 p 65278 = (((BitVec.ofInt 64 p).toNat &&& 65278 : Nat) : Int) := by
    have h1 : (65278 : Int) = ((65278 : Nat) : Int) := rfl
    have h2 : ((BitVec.ofInt 64 p &&& BitVec.ofInt 64 ((65278 : Nat) : Int)).toNat) = (BitVec.ofInt 64 p).toNat &&& 65278 := by
      rw [BitVec.toNat_and, BitVec.ofInt_natCast, BitVec.toNat_ofNat]
    have h3 : (BitVec.ofInt 64 p).toNat &&& 65278 ≤ 65278 := Nat.and_le_right
    show IntKind.i64.wrap (((BitVec.ofInt 64 p &&& BitVec.ofInt 64 (65278 : Int)).toNat : Nat) : Int) = _
    rw [h1, h2]
    exact wraps_i64 _ (by omega) (by omega)
  rw [e]
  generalize (BitVec.ofInt 64 p).toNat = n
  have h3 : n &&& 65278 ≤ 65278 := Nat.and_le_right
  have h4 := (bits_nat .i64 62 (by decide) wraps_i64 (n &&& 65278) 1 (by omega) (by omega)).2
  have h5 : Go.bits .or .i64 ((n &&& 65278 : Nat) : Int) 1 = (((n &&& 65278) ||| 1 : Nat) : Int) := h4
  rw [h5]
  generalize hq : (n &&& 65278) ||| 1 = q
  have b0 : q.testBit 0 = true := by rw [← hq, Nat.testBit_or]; simp
  have b8 : q.testBit 8 = false := by
    rw [← hq, Nat.testBit_or, Nat.testBit_and]
    have : (65278 : Nat).testBit 8 = false := by decide
    have : (1 : Nat).testBit 8 = false := by decide
    simp [*]
  have hlt : q < 65536 := by
    rw [← hq]
    exact Nat.or_lt_two_pow (n := 16) (by omega) (by omega)
  have e0 : q % 2 = 1 := by
    have := b0
    rw [Nat.testBit_zero] at this
    simpa using this
  have e8 : q / 256 % 2 = 0 := by
    have := b8
    rw [Nat.testBit_eq_decide_div_mod_eq] at this
    have h2 : ¬ q / 2 ^ 8 % 2 = 1 := by simpa using this
    have : q / 2 ^ 8 = q / 256 := rfl
    omega
  simp only [protoB, Bool.and_eq_true, decide_eq_true_eq, beq_iff_eq]
  omega
theorem bit_taken (bit : Int) (n : Nat) (h0 : 0 < n) (h : n ≤ 10000) : ∃ kk : Nat, wrap64 ((IntKind.u64.wrap bit).tmod (8 * (n : Int))) = (kk : Int) ∧ kk < 8 * n := by
  have h1 : IntKind.u64.wrap bit = bit % 18446744073709551616 := by simp [IntKind.wrap, IntKind.bits, IntKind.signed]
  have h2 : 0 ≤ bit % 18446744073709551616 := Int.emod_nonneg _ (by decide)
  rw [h1, Int.tmod_eq_emod_of_nonneg h2]
  generalize bit % 18446744073709551616 = u at h2
  have h3 : 0 ≤ u % (8 * (n : Int)) := Int.emod_nonneg _ (by omega)
  have h4 : u % (8 * (n : Int)) < 8 * (n : Int) := Int.emod_lt_of_pos _ (by omega)
  generalize u % (8 * (n : Int)) = v at h3 h4
  obtain ⟨kk, rfl⟩ := Int.eq_ofNat_of_zero_le h3
  refine ⟨kk, ?_, by omega⟩
  unfold wrap64
  omega
theorem xor_taken (o e : Nat) (ho : o < 256) (he : e < 8) : Go.bits .xor .u8 (o : Int) (2 ^ e % 256) = ((o ^^^ 2 ^ e : Nat) : Int) ∧ o ^^^ 2 ^ e < 256 ∧ o ^^^ 2 ^ e ≠ o := by
  have h2 : 2 ^ e < 256 := by
    have : 2 ^ e ≤ 2 ^ 7 := Nat.pow_le_pow_right (by decide) (by omega)
    omega
  have h3 : ((2 : Int) ^ e % 256) = ((2 ^ e : Nat) : Int) := by
    have : ((2 : Int) ^ e) = ((2 ^ e : Nat) : Int) := by push_cast; rfl
    rw [this]
    generalize (2 ^ e : Nat) = z at h2
    omega
  rw [h3, xor_u8 o (2 ^ e) ho h2]
  refine ⟨rfl, Nat.xor_lt_two_pow (n := 8) ho h2, fun h => ?_⟩
  have h4 : o ^^^ 2 ^ e = o ^^^ 0 := by rw [Nat.xor_zero]; exact h
  have h5 := xor_lc h4
  have := Nat.two_pow_pos e
  omega

theorem walk (p bit : Int) (s : ByteArray) (w : World) (hm : s.size ≤ 9223372036854775807) :
    Calls Try.prog 5 #[.agg #[.int .i64 p, .string s], .int .i64 bit] w fun e w' => e = .returned (.bool true) ∧ Below w.heap.size w w' := by
  obtain ⟨k, ha⟩ := awake_spec.rounds
  by_cases hs : s.size ≤ 1000
  · obtain ⟨q, hq, hp⟩ := proto_taken p
    have hz : s.data.toList.length = s.size := size_data s
    have hf := put_frame q s.data.toList 0
    rw [frame_ok q _ 0 hp (by omega), B_list s] at hf
    have h6 : (sumL (headL q ++ s.data.toList)).length = s.size + 6 := by rw [sumL_length, List.length_append, head_length, hz]; omega
    have hl := stuffL_length 0 (sumL (headL q ++ s.data.toList))
    have hg := stuffL_ge 0 (sumL (headL q ++ s.data.toList))
    rw [h6] at hl hg
    have ht := unframe_turned (headL q ++ s.data.toList) (by rw [List.length_append, head_length]; omega)
    generalize stuffL 0 (sumL (headL q ++ s.data.toList)) = x at hf hl hg ht
    have h8 : 6 ≤ x.length := by omega
    obtain ⟨kk, hk1, hkl⟩ := bit_taken bit x.length (by omega) (by omega)
    have hj : kk / 8 < x.length := by omega
    obtain ⟨a, hxa⟩ : ∃ a, x[kk / 8]? = some a := ⟨_, List.getElem?_eq_getElem hj⟩
    have ha256 := a.toNat_lt
    obtain ⟨hx1, hx2, hx3⟩ := xor_taken a.toNat (kk % 8) ha256 (by omega)
    have hd : (x.getD (kk / 8) 0) = a := by rw [List.getD_eq_getElem?_getD, hxa]; rfl
    generalize a.toNat ^^^ 2 ^ (kk % 8) = nn at hx1 hx2 hx3
    have hnb : (UInt8.ofNat nn).toNat = nn := byte_of nn hx2
    have hgf := (get_frame (B (x.set (kk / 8) (UInt8.ofNat nn))) (by rw [B_size]; simp; omega)).rounds
    obtain ⟨k2, hgf⟩ := hgf
    have hX : (B (126 :: (x ++ [126]))).extract 1 ((B x).size + 1) = B x := by
      rw [B_ext, B_size]
      show B (List.take (x.length + 1 - 1) (x ++ [126])) = B x
      rw [Nat.add_sub_cancel, List.take_left' rfl]
    have hsz : (B (126 :: (x ++ [126]))).size = (B x).size + 2 := by rw [B_size, B_size]; simp
    have hBx : (B x).size = x.length := B_size x
    have hko : wrap64 ((IntKind.u64.wrap bit).tmod (8 * ((B x).size : Int))) = (kk : Int) := by rw [hBx]; exact hk1
    have hoo : ((B x).data.toList.getD (kk / 8) 0).toNat = a.toNat := by rw [B_data, hd]
    have hlen : kk < 8 * (B x).size := by rw [hBx]; exact hkl
    have hX' : (B (x.set (kk / 8) (UInt8.ofNat nn))).data.toList = (B x).data.toList.set (kk / 8) (UInt8.ofNat nn) := rfl
    have h8' : 6 ≤ (B x).size := by rw [hBx]; exact h8
    have h9' : (B x).size ≤ 10000 := by rw [hBx]; omega
    by_cases c1 : a.toNat = 125
    · exact Tu.mA p bit q s _ (B x) _ w k k2 kk a.toNat nn _ _ _ ha hs hq hf hsz hX h8' h9' hko hlen hoo hx1 hx2 hX' hgf (by rw [c1]; rfl)
    · have f1 : ((a.toNat : Int) == 125) = false := by rw [beq_eq_false_iff_ne]; omega
      by_cases c2 : a.toNat = 126
      · exact Tu.mB p bit q s _ (B x) _ w k k2 kk a.toNat nn _ _ _ ha hs hq hf hsz hX h8' h9' hko hlen hoo hx1 hx2 hX' hgf f1 (by rw [c2]; rfl)
      · have f2 : ((a.toNat : Int) == 126) = false := by rw [beq_eq_false_iff_ne]; omega
        by_cases c3 : nn = 125
        · exact Tu.mC p bit q s _ (B x) _ w k k2 kk a.toNat nn _ _ _ ha hs hq hf hsz hX h8' h9' hko hlen hoo hx1 hx2 hX' hgf f1 f2 (by rw [c3]; rfl)
        · have f3 : ((nn : Int) == 125) = false := by rw [beq_eq_false_iff_ne]; omega
          by_cases c4 : nn = 126
          · exact Tu.mD p bit q s _ (B x) _ w k k2 kk a.toNat nn _ _ _ ha hs hq hf hsz hX h8' h9' hko hlen hoo hx1 hx2 hX' hgf f1 f2 f3 (by rw [c4]; rfl)
          · have f4 : ((nn : Int) == 126) = false := by rw [beq_eq_false_iff_ne]; omega
            have hab : a ≠ UInt8.ofNat nn := fun h => hx3 (by rw [h, hnb])
            by_cases hz0 : kk / 8 ≤ 0
            · have hr := ht (kk / 8) a (UInt8.ofNat nn) hxa hab c1 (by rw [hnb]; exact c3) (by rw [hnb]; exact c4) (fun k p hk _ => absurd hk (by omega))
              rw [B_data, hr] at hgf
              exact Tu.mE p bit q s _ (B x) _ w k k2 kk a.toNat nn _ _ ha hs hq hf hsz hX h8' h9' hko hlen hoo hx1 hx2 hX' hgf f1 f2 f3 f4 hz0
            · by_cases c5 : (x.getD (kk / 8 - 1) 0).toNat = 125
              · exact Tu.mF p bit q s _ (B x) _ w k k2 kk a.toNat nn _ _ _ _ ha hs hq hf hsz hX h8' h9' hko hlen hoo hx1 hx2 hX' hgf f1 f2 f3 f4 (by omega) rfl (by rw [B_data, c5]; rfl)
              · have hr := ht (kk / 8) a (UInt8.ofNat nn) hxa hab c1 (by rw [hnb]; exact c3) (by rw [hnb]; exact c4) (fun k p hk hp => by
                  have e : kk / 8 - 1 = k := by omega
                  rw [e, List.getD_eq_getElem?_getD, hp] at c5
                  exact c5)
                rw [B_data, hr] at hgf
                exact Tu.mG p bit q s _ (B x) _ w k k2 kk a.toNat nn _ _ _ ha hs hq hf hsz hX h8' h9' hko hlen hoo hx1 hx2 hX' hgf f1 f2 f3 f4 (by omega) rfl (by rw [beq_eq_false_iff_ne, B_data]; omega)
  · exact Tu.early p bit s w k ha (by omega) hm

set_option maxRecDepth 100000 in
theorem lifted (os : Os) (started : os.Started) (H : Type) (enc : TypeId × Value → H) :
    ReturnsInHanded {} Try.checked os 5 .any (Rows.frameTurnedSpec.pre6 enc Try.prog Try.f5 Rows.frameTurnedRow.domain false) (Rows.frameTurnedSpec.post enc Try.prog Try.f5 false true false false) := by
  refine returnsInHanded_of_change_sized (C := Try.checked) own started (by kernel_rfl) Try.func5
    (ChangeSpec.witness6 (enc := enc) (C := Try.checked) false ⟨#[], #[.agg #[.int .i64 0, .string ByteArray.empty], .int .i64 0], []⟩ 8 (by kernel_rfl) (by kernel_rfl) (by kernel_rfl) (by kernel_rfl)) ?_
  intro W base args ds gs before hval0 hW _ _ _
  have hval : ∀ (j : Nat) t v, Try.f5.params[j]? = some t → args[j]? = some v → Value.okWide Try.prog W .any base t v := hval0
  have hW' := hW
  obtain ⟨p, q, hA0, hV, rfl, hfz, hnd⟩ := hW
  have hA : DataW.TrodAll enc Try.prog W 0 (fun _ => true) true Try.f5.params.toList args.toList ds p := hA0
  rw [Try.params5] at hA hval
  obtain ⟨v0, vs0, d0, ds0, p0, q0, hargs, rfl, rfl, h0, r0⟩ := trodAll_cons hA
  obtain ⟨v1, vs1, d1, ds1, p1, q1, rfl, rfl, rfl, h1, r1⟩ := trodAll_cons r0
  obtain ⟨rfl, rfl, rfl⟩ := trodAll_nil r1
  obtain rfl : args = #[v0, v1] := by cases args; simp_all
  obtain ⟨rfl, rfl⟩ := trodVars_none hV
  obtain ⟨c0, c1, z0, z1, m, rfl, rfl, rfl, hy0, hy1⟩ := open_agg2 Try.underlying23 (by kernel_rfl) cellsFrame (hval 0 23 v0 rfl rfl) h0
  obtain ⟨a, e0, rfl, wa⟩ := DataW.trod_int Try.underlying3 hy0
  obtain ⟨s, e1, rfl, ws⟩ := DataW.trod_string Try.underlying9 hy1
  simp only [List.cons.injEq, and_true] at e0 e1
  subst e0 e1
  obtain ⟨a1, rfl, rfl, rfl, w1⟩ := open_int Try.underlying3 (hval 1 3 v1 rfl rfl) h1
  clear hA0 hval0
  have structReads : ∀ (W' : World) (sp : Nat → Bool), DataW.Trod enc Try.prog W' 0 sp true 23 (.agg #[.int .i64 a, .string s]) (.agg [.lit (.int .i64 a), .lit (.string s.data.toList)]) [] := fun W' sp =>
    shut_agg2 (y0 := (.lit (.int .i64 a), [])) (y1 := (.lit (.string s.data.toList), [])) Try.underlying23 (by kernel_rfl) cellsFrame ⟨1, by simp [DataW.trod, Try.underlying3, wa]⟩ ⟨1, by simp [DataW.trod, Try.underlying9, ws]⟩
  refine (walk a a1 s W (by unfold maxLen at ws; omega)).mono fun e W' ⟨he, bel⟩ => ?_
  subst he
  exact ⟨_, rfl, _, _, _, [], _, [], hW', trodAll_mk1 (shut_bool Try.underlying4 _), (trodAll_cons_mk (structReads _ _) (trodAll_cons_mk (shut_int Try.underlying3 w1) trodAll_mk0)), rfl, bel.frame _, fun h => by cases h⟩
theorem over : Rows.frameTurnedRow.holds Try.pinned (OpenSpec.ofChange Rows.frameTurnedSpec) :=
  OpenClaim.holds_of_wide 5 Try.f5 rfl rfl rfl rfl rfl rfl rfl ⟨rfl, rfl, rfl, rfl, rfl⟩ rfl rfl rfl rfl rfl (by kernel_rfl) Try.func5 (by kernel_rfl)
    (of_decide_eq_true (by kernel_rfl)) (by unfold Func.isWrapper; first | (rw [if_pos (by decide +kernel)]; kernel_rfl) | (rw [if_neg (by decide +kernel)]; exact ⟨rfl, rfl⟩))
    (fun os started H enc _ => lifted os started H enc)
theorem proved : Rows.FrameTurnedSaid := over
end Go.Proofs.Ytnkjhlpdcffalaa.frameTurned
