/-
  What the printed functions of sums and frames come to, in lists of bytes.
-/
import Derived.Test.YtnkjhlpdcffalaaSpecA
import Derived.Test.YtnkjhlpdcffalaaFrame
set_option linter.unusedVariables false
set_option linter.unusedSimpArgs false
namespace Go.Proofs.Ytnkjhlpdcffalaa.Sp
open Go.RowKit Go.Proofs.Ytnkjhlpdcffalaa.PF Go.Proofs.YtnkjhlpdcffalaaW.PrintWords Go.Proofs.YtnkjhlpdcffalaaW.PrintLast Go.Proofs.YtnkjhlpdcffalaaW.PrintMore Go.Proofs.Wy

theorem B_ext (l : List UInt8) (a b : Nat) : (B l).extract a b = B ((l.drop a).take (b - a)) := ByteArray.extract_mk l a b
theorem B_toList (l : List UInt8) : (B l).toList = l := ByteArray.toList_mk l
theorem B_bt (l : List UInt8) (i : Nat) (h : i < l.length) : bt (B l) (i : Int) = ((l.getD i 0).toNat : Int) := by
  rw [bt_nat (B l) i (by rw [B_size]; exact h)]
  have : (B l)[i]'(by rw [B_size]; exact h) = l.getD i 0 := by
    rw [List.getD_eq_getElem?_getD, List.getElem?_eq_getElem h]
    rfl
  rw [this]
theorem Ev.map1 {α β : Type} {g : Nat → Option α} {f : α → Option β} {a : α} {r : β} (h : Ev g a) (k : f a = some r) : Ev (fun n => (g n).bind f) r := Ev.bind h ⟨0, fun _ _ => k⟩
theorem Ev.pre {α β : Type} {g : Option α} {f : Nat → α → Option β} {a : α} {r : β} (h : g = some a) (k : Ev (fun n => f n a) r) : Ev (fun n => g.bind (f n)) r := by
  rw [h]; exact k
theorem Ev.next {α : Type} {g f : Nat → Option α} {r : α} (h : ∀ k, g (k + 1) = f k) (k : Ev f r) : Ev g r := Ev.step h k
theorem Ev.ite_pos {α : Type} {c : Prop} [Decidable c] {g f : Nat → Option α} {r : α} (h : c) (k : Ev g r) : Ev (fun n => if c then g n else f n) r := Ev.congr (fun n => if_pos h) k
theorem Ev.ite_neg {α : Type} {c : Prop} [Decidable c] {g f : Nat → Option α} {r : α} (h : ¬ c) (k : Ev f r) : Ev (fun n => if c then g n else f n) r := Ev.congr (fun n => if_neg h) k

theorem sum_bytes (l : List UInt8) : strOfNums [((fcsL l : Nat) : Int) % 256, ((fcsL l : Nat) : Int) / 256 % 256] = B (sumB l) := by
  unfold sumB strOfNums
  have a : (((fcsL l : Nat) : Int) % 256).toNat = fcsL l % 256 := by omega
  have b : (((fcsL l : Nat) : Int) / 256 % 256).toNat = fcsL l / 256 % 256 := by omega
  simp only [List.map_cons, List.map_nil, a, b]
theorem fput_spec (l : List UInt8) (h : l.length ≤ 4611686018427387000) : fcs_Put.f (B l) = some (B (sumL l)) := by
  unfold fcs_Put.f fcs_Of.f
  rw [if_pos (by rw [B_size]; omega)]
  simp only [Option.bind_some, B_data]
  rw [sum_bytes, B_size, B_size, B_app, if_pos (by simp [sumB]; omega)]
  rfl
theorem and255 (n : Nat) (h : n < 65536) : Go.bits .and .i64 (n : Int) 255 = ((n % 256 : Nat) : Int) := by
  have e := (bits_nat .i64 62 (by decide) wraps_i64 n 255 (by omega) (by omega)).1
  have e2 : Go.bits .and .i64 (n : Int) 255 = ((n &&& 255 : Nat) : Int) := e
  have e3 := Nat.and_two_pow_sub_one_eq_mod n 8
  have e4 : n &&& 255 = n % 256 := e3
  rw [e2, e4]
theorem rsum_spec (l : List UInt8) (h : l.length ≤ 4611686018427387000) : Ev (fun k => withyref1_Sum.f k (B l)) (B (sumL l)) := by
  unfold withyref1_Sum.f
  have hf := fcs_spec (B l) (by rw [B_size]; omega)
  have hlt := fcsL_lt l
  refine Ev.map1 hf ?_
  simp only [Option.bind_some, B_data]
  rw [and255 _ hlt]
  have e : (((fcsL l % 256 : Nat) : Int)) % 256 = ((fcsL l : Nat) : Int) % 256 := by omega
  rw [e, sum_bytes, B_size, B_size, B_app, if_pos (by simp [sumB]; omega)]
  rfl
theorem proto_spec (p : Int) : frame_proto.f p = some (protoB p) := by
  unfold frame_proto.f protoB
  rw [and_one_i64, and_one_i64]
  by_cases h1 : p ≥ 1
  · rw [if_pos h1]
    by_cases h2 : p ≤ 65535
    · rw [if_pos h2]
      by_cases h3 : p % 2 = 1
      · rw [if_pos h3]
        simp [h1, h2, h3]
      · rw [if_neg h3]
        simp [h3]
    · rw [if_neg h2]
      simp [h2]
  · rw [if_neg h1]
    have : ¬ 1 ≤ p := h1
    simp [this]
theorem rproto_spec (p : Int) : withyref1_protoMay.f p = some (protoB p) := proto_spec p
theorem flag_spec : stuff_Flag.f = some (B [126]) := rfl
theorem head_bytes (p : Int) : strOfNums [255, 3, p / 256 % 256, p % 256] = B (headL p) := rfl
theorem put_frame (p : Int) (d : List UInt8) (m : Int) : frame_Put.f p (B d) m = some (B (frameL p d m).1, (frameL p d m).2) := by
  unfold frame_Put.f frameL
  rw [proto_spec]
  simp only [Option.bind_some, flag_spec, B_size]
  cases hp : protoB p
  · rw [if_neg (by decide), if_neg (by decide)]
  · rw [if_pos rfl, if_pos rfl]
    by_cases h2 : 2048 < d.length
    · rw [if_pos (by omega), if_pos h2]
    · rw [if_neg (by omega), if_neg h2, head_bytes, B_size, B_app, fput_spec _ (by simp [headL]; omega)]
      have hl := stuffL_length m (sumL (headL p ++ d))
      have h6 : (sumL (headL p ++ d)).length = d.length + 6 := by rw [sumL_length, List.length_append, head_length]; omega
      simp only [Option.bind_some]
      rw [put_spec _ _ (by rw [B_size, h6]; omega)]
      simp only [Option.bind_some, B_data, B_size, B_app]
      rw [if_pos (by rw [head_length]; omega), if_pos (by simp; omega), if_pos (by simp; omega)]
      rfl
theorem two_spec (p : Int) (h0 : 0 ≤ p) (h1 : p ≤ 65535) : withyref1_two.f p = some (B [UInt8.ofNat ((p / 256) % 256).toNat, UInt8.ofNat (p % 256).toNat]) := by
  unfold withyref1_two.f
  have a := and255 (p / 256).toNat (by omega)
  have b := and255 p.toNat (by omega)
  have a' : Go.bits .and .i64 (p / 256) 255 = (p / 256) % 256 := by
    have e : ((p / 256).toNat : Int) = p / 256 := by omega
    rw [e] at a
    rw [a]
    omega
  have b' : Go.bits .and .i64 p 255 = p % 256 := by
    have e : (p.toNat : Int) = p := by omega
    rw [e] at b
    rw [b]
    omega
  have a2 : p / 256 % 256 % 256 = p / 256 % 256 := by omega
  have b2 : p % 256 % 256 = p % 256 := by omega
  rw [a', b', a2, b2]
  rfl
theorem rframe_spec (p : Int) (d : List UInt8) (m : Int) : Ev (fun k => withyref1_Frame.f k p (B d) m) (B (frameL p d m).1, (frameL p d m).2) := by
  unfold withyref1_Frame.f frameL
  refine Ev.pre (rproto_spec p) ?_
  cases hp : protoB p
  · refine Ev.ite_neg (by decide) ?_
    rw [if_neg (by decide)]
    exact Ev.now _
  · have hr := protoB_range hp
    refine Ev.ite_pos rfl ?_
    rw [if_pos rfl]
    by_cases h2 : 2048 < d.length
    · refine Ev.ite_pos (by rw [B_size]; omega) ?_
      rw [if_pos h2]
      exact Ev.now _
    · refine Ev.ite_neg (by rw [B_size]; omega) ?_
      rw [if_neg h2]
      refine Ev.pre (two_spec p (by omega) hr.2) ?_
      refine Ev.ite_pos (by rw [B_size]; simp) ?_
      have e1 : (⟨#[255, 3]⟩ : ByteArray) ++ B [UInt8.ofNat ((p / 256) % 256).toNat, UInt8.ofNat (p % 256).toNat] = B (headL p) := B_app [255, 3] _
      have hl := stuffL_length m (sumL (headL p ++ d))
      have h6 : (sumL (headL p ++ d)).length = d.length + 6 := by rw [sumL_length, List.length_append, head_length]; omega
      rw [e1]
      refine Ev.ite_pos (by rw [B_size, B_size, head_length]; omega) ?_
      rw [B_app]
      refine Ev.bind (rsum_spec _ (by rw [List.length_append, head_length]; omega)) ?_
      refine Ev.bind (stuff_spec (B (sumL (headL p ++ d))) m (by rw [B_size, h6]; omega)) ?_
      rw [B_data]
      refine Ev.ite_pos (by rw [B_size]; omega) ?_
      have e2 : (⟨#[126]⟩ : ByteArray) ++ B (stuffL m (sumL (headL p ++ d))) = B (126 :: stuffL m (sumL (headL p ++ d))) := B_app [126] _
      rw [e2]
      refine Ev.ite_pos (by rw [B_size]; simp; omega) ?_
      have e3 : B (126 :: stuffL m (sumL (headL p ++ d))) ++ (⟨#[126]⟩ : ByteArray) = B (126 :: (stuffL m (sumL (headL p ++ d)) ++ [126])) := B_app _ [126]
      rw [e3]
      exact Ev.now _
end Go.Proofs.Ytnkjhlpdcffalaa.Sp
