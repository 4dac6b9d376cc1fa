/-
  What the printed functions of stuffing and of sums come to, in lists of bytes.
-/
import Derived.Test.YtlpibobpfafooaaGreatDoorPQ
import Derived.Test.YtlpibobpfafooaaGreatDoorFrame
import Derived.Lib.SmallJoins
import Derived.Test.YtlpibobpfafooaaGreatDoorConB
set_option linter.unusedVariables false
set_option linter.unusedSimpArgs false
namespace Go.Proofs.YtlpibobpfafooaaGreatDoor.SpQ
open Go.RowKit Go.Joins Go.Proofs.YtlpibobpfafooaaGreatDoor.PQ Go.Proofs.YtlpibobpfafooaaGreatDoor.H0 Go.Proofs.YtlpibobpfafooaaGreatDoorW.PrintWords Go.Proofs.YtlpibobpfafooaaGreatDoorW.PrintLast Go.Proofs.YtlpibobpfafooaaGreatDoorW.PrintMore Go.Proofs.Wy

/-! ### byte strings and lists -/
abbrev B (l : List UInt8) : ByteArray := ⟨l.toArray⟩
def nb (l : List UInt8) : List Int := l.map fun b => (b.toNat : Int)
theorem B_size (l : List UInt8) : (B l).size = l.length := size_lit l
theorem B_data (l : List UInt8) : (B l).data.toList = l := rfl
theorem B_list (s : ByteArray) : B s.data.toList = s := by cases s; simp [B]
theorem B_app (a b : List UInt8) : B a ++ B b = B (a ++ b) := ByteArray.mk_append_mk a b
theorem nb_str (l : List UInt8) : strOfNums (nb l) = B l := Go.Lib.Lz.strOfNums_map l
theorem nb_app (a b : List UInt8) : nb (a ++ b) = nb a ++ nb b := by simp [nb]
theorem nb_len (l : List UInt8) : (nb l).length = l.length := by simp [nb]
theorem size_data (s : ByteArray) : s.data.toList.length = s.size := by simp
theorem bt_nat (s : ByteArray) (i : Nat) (h : i < s.size) : bt s (i : Int) = (s[i].toNat : Int) := by
  unfold bt
  rw [dif_pos (by simpa using h)]
  rfl
theorem take_snoc (s : ByteArray) (k : Nat) (h : k < s.size) : s.data.toList.take (k + 1) = s.data.toList.take k ++ [s[k]] := by
  rw [List.take_succ_eq_append_getElem (by simpa using h)]; rfl
theorem take_all (s : ByteArray) (k : Nat) (h : s.size ≤ k) : s.data.toList.take k = s.data.toList := List.take_of_length_le (by simpa using h)
theorem wrap_next {i n : Nat} (h : i < n) (hn : n ≤ 4611686018427387904) : wrap64 ((i : Int) + 1) = ((i + 1 : Nat) : Int) := by
  unfold wrap64
  omega
theorem wrap_byte (x : Nat) (h : x < 256) : wrap64 (x : Int) = (x : Int) := by unfold wrap64; omega

theorem put_spec (s : ByteArray) (m : Int) (hs : s.size ≤ 70368744177000) : stuff_Put.f s m = some (B (stuffL m s.data.toList)) := by
  unfold stuff_Put.f
  rw [if_pos hs]

theorem B_ext (l : List UInt8) (a b : Nat) : (B l).extract a b = B ((l.drop a).take (b - a)) := ByteArray.extract_mk l a b
theorem B_toList (l : List UInt8) : (B l).toList = l := ByteArray.toList_mk l
theorem B_bt (l : List UInt8) (i : Nat) (h : i < l.length) : bt (B l) (i : Int) = ((l.getD i 0).toNat : Int) := by
  rw [bt_nat (B l) i (by rw [B_size]; exact h)]
  have : (B l)[i]'(by rw [B_size]; exact h) = l.getD i 0 := by
    rw [List.getD_eq_getElem?_getD, List.getElem?_eq_getElem h]
    rfl
  rw [this]
theorem Ev.map1 {α β : Type} {g : Nat → Option α} {f : α → Option β} {a : α} {r : β} (h : Ev g a) (k : f a = some r) : Ev (fun n => (g n).bind f) r := Ev.bind h ⟨0, fun _ _ => k⟩
theorem Ev.pre {α β : Type} {g : Option α} {f : Nat → α → Option β} {a : α} {r : β} (h : g = some a) (k : Ev (fun n => f n a) r) : Ev (fun n => g.bind (f n)) r := by
  rw [h]; exact k
theorem Ev.next {α : Type} {g f : Nat → Option α} {r : α} (h : ∀ k, g (k + 1) = f k) (k : Ev f r) : Ev g r := Ev.step h k
theorem Ev.ite_pos {α : Type} {c : Prop} [Decidable c] {g f : Nat → Option α} {r : α} (h : c) (k : Ev g r) : Ev (fun n => if c then g n else f n) r := Ev.congr (fun n => if_pos h) k
theorem Ev.ite_neg {α : Type} {c : Prop} [Decidable c] {g f : Nat → Option α} {r : α} (h : ¬ c) (k : Ev f r) : Ev (fun n => if c then g n else f n) r := Ev.congr (fun n => if_neg h) k

theorem sum_bytes (l : List UInt8) : strOfNums [((fcsL l : Nat) : Int) % 256, ((fcsL l : Nat) : Int) / 256 % 256] = B (sumB l) := by
  unfold sumB strOfNums
  have a : (((fcsL l : Nat) : Int) % 256).toNat = fcsL l % 256 := by omega
  have b : (((fcsL l : Nat) : Int) / 256 % 256).toNat = fcsL l / 256 % 256 := by omega
  simp only [List.map_cons, List.map_nil, a, b]
theorem fput_spec (l : List UInt8) (h : l.length ≤ 4611686018427387000) : fcs_Put.f (B l) = some (B (sumL l)) := by
  unfold fcs_Put.f fcs_Of.f
  rw [if_pos (by rw [B_size]; omega)]
  simp only [Option.bind_some, B_data]
  rw [sum_bytes, B_size, B_size, B_app, if_pos (by simp [sumB]; omega)]
  rfl
theorem and255 (n : Nat) (h : n < 65536) : Go.bits .and .i64 (n : Int) 255 = ((n % 256 : Nat) : Int) := by
  have e := (bits_nat .i64 62 (by decide) wraps_i64 n 255 (by omega) (by omega)).1
  have e2 : Go.bits .and .i64 (n : Int) 255 = ((n &&& 255 : Nat) : Int) := e
  have e3 := Nat.and_two_pow_sub_one_eq_mod n 8
  have e4 : n &&& 255 = n % 256 := e3
  rw [e2, e4]
theorem proto_spec (p : Int) : frame_proto.f p = some (protoB p) := by
  unfold frame_proto.f protoB
  rw [and_one_i64, and_one_i64]
  by_cases h1 : p ≥ 1
  · rw [if_pos h1]
    by_cases h2 : p ≤ 65535
    · rw [if_pos h2]
      by_cases h3 : p % 2 = 1
      · rw [if_pos h3]
        simp [h1, h2, h3]
      · rw [if_neg h3]
        simp [h3]
    · rw [if_neg h2]
      simp [h2]
  · rw [if_neg h1]
    have : ¬ 1 ≤ p := h1
    simp [this]
theorem flag_spec : stuff_Flag.f = some (B [126]) := rfl
theorem head_bytes (p : Int) : strOfNums [255, 3, p / 256 % 256, p % 256] = B (headL p) := rfl
theorem put_frame (p : Int) (d : List UInt8) (m : Int) : frame_Put.f p (B d) m = some (B (frameL p d m).1, (frameL p d m).2) := by
  unfold frame_Put.f frameL
  rw [proto_spec]
  simp only [Option.bind_some, flag_spec, B_size]
  cases hp : protoB p
  · rw [if_neg (by decide), if_neg (by decide)]
  · rw [if_pos rfl, if_pos rfl]
    by_cases h2 : 2048 < d.length
    · rw [if_pos (by omega), if_pos h2]
    · rw [if_neg (by omega), if_neg h2, head_bytes, B_size, B_app, fput_spec _ (by simp [headL]; omega)]
      have hl := stuffL_length m (sumL (headL p ++ d))
      have h6 : (sumL (headL p ++ d)).length = d.length + 6 := by rw [sumL_length, List.length_append, head_length]; omega
      simp only [Option.bind_some]
      rw [put_spec _ _ (by rw [B_size, h6]; omega)]
      simp only [Option.bind_some, B_data, B_size, B_app]
      rw [if_pos (by rw [head_length]; omega), if_pos (by simp; omega), if_pos (by simp; omega)]
      rfl
theorem drop_at (s : ByteArray) (k : Nat) (h : k < s.size) : s.data.toList.drop k = s[k] :: s.data.toList.drop (k + 1) := by
  rw [List.drop_eq_getElem_cons (by simpa using h)]; rfl
theorem get_spec (s : ByteArray) (hs : s.size ≤ 140737488355000) : stuff_Get.f s = some (B (unstuffL s.data.toList).1, (unstuffL s.data.toList).2) := by
  unfold stuff_Get.f
  rw [if_pos hs]

/-! ### the sum is checked -/
theorem wrap_less (n c : Nat) (h : n ≤ 4611686018427387904) (hc : c ≤ 100) : wrap64 ((n : Int) - (c : Int)) = (n : Int) - (c : Int) := by unfold wrap64; omega
theorem check_spec (l : List UInt8) (h : l.length ≤ 4611686018427387000) : fcs_Check.f (B l) = some (B (checkL l).1, (checkL l).2) := by
  unfold fcs_Check.f checkL
  have hw := wrap_less l.length 2 (by omega) (by omega)
  have hw' : wrap64 ((l.length : Int) - 2) = (l.length : Int) - 2 := hw
  rw [B_size, hw']
  by_cases h2 : l.length < 2
  · rw [if_pos (by omega), if_pos h2]
  · have e : ((l.length : Int) - 2).toNat = l.length - 2 := by omega
    rw [if_neg (by omega), if_neg h2, if_pos (by omega), if_pos (by omega), e, B_ext, List.drop_zero, Nat.sub_zero, fput_spec _ (by simp; omega)]
    simp only [Option.bind_some, B_toList]
    by_cases h3 : sumL (l.take (l.length - 2)) = l
    · rw [if_pos h3, if_pos h3]
    · rw [if_neg h3, if_neg h3]
/-! ### a frame is read -/
theorem or_bytes (a b : Nat) (ha : a < 256) (hb : b < 256) : Go.bits .or .i64 (wrap64 (wrap64 (a : Int) * 256)) (wrap64 (b : Int)) = (a : Int) * 256 + (b : Int) := by
  have e1 : wrap64 (wrap64 (a : Int) * 256) = ((2 ^ 8 * a : Nat) : Int) := by rw [wrap_byte a ha]; unfold wrap64; omega
  have e2 := Nat.two_pow_add_eq_or_of_lt (i := 8) (b := b) (by omega) a
  have e3 := (bits_nat .i64 62 (by decide) wraps_i64 (2 ^ 8 * a) b (by omega) (by omega)).2
  rw [e1, wrap_byte b hb, e3, ← e2]
  omega
theorem add_bytes (a b : Nat) (ha : a < 256) (hb : b < 256) : wrap64 (wrap64 (wrap64 (a : Int) * 256) + wrap64 (b : Int)) = (a : Int) * 256 + (b : Int) := by
  rw [wrap_byte a ha, wrap_byte b hb]; unfold wrap64; omega
theorem get_j1 (u : List UInt8) (h4 : 4 ≤ u.length) (hu : u.length ≤ 4611686018427387000) (z : Bool) (hz : z = true ↔ ¬ ((u.getD 0 0).toNat = 255 ∧ (u.getD 1 0).toNat = 3)) (k : Nat) :
    frame_Get.j1 (k + 1) (B u) z = some ((decodeL u).1, B (decodeL u).2.1, (decodeL u).2.2) := by
  simp only [frame_Get.j1]
  unfold decodeL
  cases z with
  | true =>
    rw [if_pos rfl, if_neg (hz.1 rfl)]
  | false =>
    have hh : (u.getD 0 0).toNat = 255 ∧ (u.getD 1 0).toNat = 3 := by
      by_cases hq : (u.getD 0 0).toNat = 255 ∧ (u.getD 1 0).toNat = 3
      · exact hq
      · exact absurd (hz.2 hq) (by decide)
    rw [if_neg (by decide), if_pos hh, B_size, if_pos (by omega), if_pos (by omega), if_pos (by omega)]
    have b2 := B_bt u 2 (by omega)
    have b3 := B_bt u 3 (by omega)
    have b2' : bt (B u) 2 = ((u.getD 2 0).toNat : Int) := b2
    have b3' : bt (B u) 3 = ((u.getD 3 0).toNat : Int) := b3
    have e : (List.drop 4 u).take (u.length - 4) = u.drop 4 := List.take_of_length_le (by simp)
    rw [b2', b3', or_bytes _ _ (UInt8.toNat_lt _) (UInt8.toNat_lt _), proto_spec, B_ext, e]
    simp only [Option.bind_some, B_size, List.length_drop]
    have hp : ((u.getD 2 0).toNat : Int) * 256 + ((u.getD 3 0).toNat : Int) = protoL u := rfl
    rw [hp]
    cases protoB (protoL u)
    · rw [if_neg (by decide), if_neg (by decide)]
    · rw [if_pos rfl, if_pos rfl]
      by_cases hl : 2048 < u.length - 4
      · rw [if_pos (by omega), if_pos hl]
      · rw [if_neg (by omega), if_neg hl]
theorem get_frame (s : ByteArray) (hs : s.size ≤ 140737488355000) : Ev (fun k => frame_Get.f k s) ((unframeL s.data.toList).1, B (unframeL s.data.toList).2.1, (unframeL s.data.toList).2.2) := by
  have hl := unstuffL_length s.data.toList
  rw [size_data] at hl
  unfold frame_Get.f unframeL
  refine Ev.pre (get_spec s hs) ?_
  generalize unstuffL s.data.toList = t at hl
  obtain ⟨t, e⟩ := t
  simp only at hl ⊢
  have main : ∀ z : Bool, (z = true ↔ (e ≠ 0 ∨ t.length < 6)) → Ev (fun k => frame_Get.j0 k (B t) z) ((if e ≠ 0 ∨ t.length < 6 then ((0 : Int), ([] : List UInt8), (300 : Int)) else if (checkL t).2 ≠ 0 then (0, [], 301) else decodeL (checkL t).1).1, B (if e ≠ 0 ∨ t.length < 6 then ((0 : Int), ([] : List UInt8), (300 : Int)) else if (checkL t).2 ≠ 0 then (0, [], 301) else decodeL (checkL t).1).2.1, (if e ≠ 0 ∨ t.length < 6 then ((0 : Int), ([] : List UInt8), (300 : Int)) else if (checkL t).2 ≠ 0 then (0, [], 301) else decodeL (checkL t).1).2.2) := by
    intro z hz
    refine Ev.next (f := fun k => _) (fun k => by simp only [frame_Get.j0]; rfl) ?_
    cases z with
    | true =>
      refine Ev.ite_pos rfl ?_
      rw [if_pos (hz.1 rfl)]
      exact Ev.now _
    | false =>
      have hn : ¬ (e ≠ 0 ∨ t.length < 6) := fun h => absurd (hz.2 h) (by decide)
      refine Ev.ite_neg (by decide) ?_
      rw [if_neg hn]
      refine Ev.pre (check_spec t (by omega)) ?_
      by_cases hc : (checkL t).2 = 0
      · refine Ev.ite_pos hc ?_
        rw [if_neg (by simpa using hc)]
        have hcl := check_length t hc
        generalize (checkL t).1 = u at hcl
        have hul : 4 ≤ u.length := by omega
        have b0' : bt (B u) 0 = ((u.getD 0 0).toNat : Int) := B_bt u 0 (by omega)
        have b1' : bt (B u) 1 = ((u.getD 1 0).toNat : Int) := B_bt u 1 (by omega)
        refine Ev.ite_pos (by rw [B_size]; omega) ?_
        rw [b0', b1']
        by_cases h0 : (u.getD 0 0).toNat = 255
        · refine Ev.ite_pos (by omega) ?_
          refine Ev.ite_pos (by rw [B_size]; omega) ?_
          refine ⟨1, fun k hk => ?_⟩
          obtain ⟨k, rfl⟩ : ∃ j, k = j + 1 := ⟨k - 1, by omega⟩
          refine get_j1 u hul (by omega) _ ?_ k
          rw [bne_iff_ne]
          omega
        · refine Ev.ite_neg (by omega) ?_
          refine ⟨1, fun k hk => ?_⟩
          obtain ⟨k, rfl⟩ : ∃ j, k = j + 1 := ⟨k - 1, by omega⟩
          exact get_j1 u hul (by omega) true ⟨fun _ h => h0 h.1, fun _ => rfl⟩ k
      · refine Ev.ite_neg hc ?_
        rw [if_pos hc]
        exact Ev.now _
  by_cases he : e = 0
  · refine Ev.ite_pos he ?_
    refine main _ ?_
    rw [B_size, decide_eq_true_eq]
    omega
  · refine Ev.ite_neg he ?_
    exact main true ⟨fun _ => .inl he, fun _ => rfl⟩
end Go.Proofs.YtlpibobpfafooaaGreatDoor.SpQ
/-
  Contracts at this seat in plain words: frames put and read, delays, targets.
-/
set_option linter.unusedVariables false
set_option linter.unusedSimpArgs false
namespace Go.Proofs.YtlpibobpfafooaaGreatDoor.SpQ
open Go.RowKit Go.Joins Go.Proofs.YtlpibobpfafooaaGreatDoor.PQ Go.Proofs.YtlpibobpfafooaaGreatDoor.H Go.Proofs.YtlpibobpfafooaaGreatDoorW.PrintWords Go.Proofs.YtlpibobpfafooaaGreatDoorW.PrintLast Go.Proofs.YtlpibobpfafooaaGreatDoorW.PrintMore Go.Proofs.Wy

theorem cput_any (p : Int) (d : ByteArray) (w : World) :
    Calls Tryz.prog 61 #[.agg #[.int .i64 p, .string d], .int .i64 0] w fun e w' => e = .returned (.tuple #[.string ⟨(frameL p d.data.toList 0).1.toArray⟩, .int .i64 (frameL p d.data.toList 0).2]) ∧ Below w.heap.size w w' := by
  have h := put_frame p d.data.toList 0
  rw [B_list] at h
  exact frame_Put.calls p d 0 _ _ w h
theorem cget_any (s : ByteArray) (w : World) (hs : s.size ≤ 140737488355000) :
    Calls Tryz.prog 63 #[.string s] w fun e w' => e = .returned (.tuple #[.agg #[.int .i64 (unframeL s.data.toList).1, .string ⟨(unframeL s.data.toList).2.1.toArray⟩], .int .i64 (unframeL s.data.toList).2.2]) ∧ Below w.heap.size w w' := by
  obtain ⟨k, hk⟩ := get_frame s hs
  exact frame_Get.calls k s _ _ _ w (hk k (Nat.le_refl _))

theorem double_bd : ∀ (n : Nat) (most d : Int), 1 ≤ d → d ≤ most → 1 ≤ doubleN n most d ∧ doubleN n most d ≤ most
  | 0, _, _, h1, h2 => ⟨h1, h2⟩
  | n + 1, most, d, h1, h2 => by
    unfold doubleN
    split
    · omega
    · exact double_bd n most (d * 2) (by omega) (by omega)
theorem delay_end (x jit : Int) (h1 : 1 ≤ x) (h2 : x ≤ 4096) (h3 : 0 ≤ jit) (h4 : jit ≤ 9223372036854775807) :
    (if (wrap64 ((wrap64 (Int.tdiv x 4)) + 1)) = 0 then none else some (wrap64 (x - (Int.tmod jit (wrap64 ((wrap64 (Int.tdiv x 4)) + 1)))), (0 : Int))) = some (x - jit % (x / 4 + 1), 0) := by
  have e1 : Int.tdiv x 4 = x / 4 := Int.tdiv_eq_ediv_of_nonneg (by omega)
  have e2 : wrap64 (x / 4) = x / 4 := by unfold wrap64; omega
  have e3 : wrap64 (x / 4 + 1) = x / 4 + 1 := by unfold wrap64; omega
  have e4 : Int.tmod jit (x / 4 + 1) = jit % (x / 4 + 1) := Int.tmod_eq_emod_of_nonneg h3
  have h5 := Int.emod_nonneg jit (show x / 4 + 1 ≠ 0 by omega)
  have h6 := Int.emod_lt_of_pos jit (show 0 < x / 4 + 1 by omega)
  rw [e1, e2, e3, e4, if_neg (by omega)]
  have e5 : wrap64 (x - jit % (x / 4 + 1)) = x - jit % (x / 4 + 1) := by
    generalize jit % (x / 4 + 1) = y at h5 h6
    unfold wrap64; omega
  rw [e5]
theorem delay_l0 (most jit : Int) (h2 : most ≤ 4096) (h3 : 0 ≤ jit) (h4 : jit ≤ 9223372036854775807) : ∀ (r k : Nat) (d i t : Int), 1 ≤ d → d ≤ most → 0 ≤ i → i + r = t → t ≤ 62 → r < k →
    backoff_Delay.l0 k most jit d t i = some (doubleN r most d - jit % (doubleN r most d / 4 + 1), 0)
  | r, k, d, i, t, hd1, hd2, hi, hit, ht, hk => by
    obtain ⟨k, rfl⟩ : ∃ m, k = m + 1 := ⟨k - 1, by omega⟩
    simp only [backoff_Delay.l0]
    cases r with
    | zero =>
      rw [if_neg (by omega)]
      exact delay_end d jit hd1 (by omega) h3 h4
    | succ r =>
      rw [if_pos (by omega)]
      have e1 : Int.tdiv most 2 = most / 2 := Int.tdiv_eq_ediv_of_nonneg (by omega)
      have e2 : wrap64 (most / 2) = most / 2 := by unfold wrap64; omega
      rw [e1, e2]
      unfold doubleN
      by_cases h : d > most / 2
      · rw [if_pos h, if_pos h]
        exact delay_end most jit (by omega) h2 h3 h4
      · rw [if_neg h, if_neg h]
        have e3 : wrap64 (d * 2) = d * 2 := by unfold wrap64; omega
        have e4 : wrap64 (i + 1) = i + 1 := by unfold wrap64; omega
        rw [e3, e4]
        exact delay_l0 most jit h2 h3 h4 r k (d * 2) (i + 1) t (by omega) (by omega) (by omega) (by omega) ht (by omega)
theorem delay_spec (t base most jit : Int) (h4 : jit ≤ 9223372036854775807) (k : Nat) (hk : 70 ≤ k) : backoff_Delay.f k t base most jit = some ((delayL t base most jit).1, (delayL t base most jit).2) := by
  obtain ⟨k, rfl⟩ : ∃ m, k = m + 1 := ⟨k - 1, by omega⟩
  unfold backoff_Delay.f delayL
  by_cases c1 : t < 0
  · rw [if_pos c1, if_pos (by omega)]; simp [backoff_Delay.j0]
  · rw [if_neg c1]
    by_cases c2 : t > 62
    · rw [if_pos c2, if_pos (by omega)]; simp [backoff_Delay.j0]
    · rw [if_neg c2]
      by_cases c3 : base < 1
      · rw [if_pos c3, if_pos (by omega)]; simp [backoff_Delay.j0]
      · rw [if_neg c3]
        by_cases c4 : base > 4096
        · rw [if_pos c4, if_pos (by omega)]; simp [backoff_Delay.j0]
        · rw [if_neg c4]
          by_cases c5 : most < base
          · rw [if_pos c5, if_pos (by omega)]; simp [backoff_Delay.j0]
          · rw [if_neg c5]
            by_cases c6 : most > 4096
            · rw [if_pos c6, if_pos (by omega)]; simp [backoff_Delay.j0]
            · rw [if_neg c6]
              by_cases c7 : jit < 0
              · rw [if_pos (show t < 0 ∨ _ by omega)]; simp [backoff_Delay.j0, c7]
              · rw [if_neg (show ¬ (t < 0 ∨ _) by omega)]
                have e : decide (jit < 0) = false := by simpa using c7
                simp only [backoff_Delay.j0, e, Bool.false_eq_true, if_false]
                exact delay_l0 most jit (by omega) (by omega) h4 t.toNat k base 0 t (by omega) (by omega) (by omega) (by omega) (by omega) (by omega)
theorem delay_any (t base most jit : Int) (w : World) (h4 : jit ≤ 9223372036854775807) :
    Calls Tryz.prog 66 #[.int .i64 t, .int .i64 base, .int .i64 most, .int .i64 jit] w fun e w' => e = .returned (.tuple #[.int .i64 (delayL t base most jit).1, .int .i64 (delayL t base most jit).2]) ∧ Below w.heap.size w w' := by
  refine (backoff_Delay.calls 70 t base most jit _ _ w (delay_spec t base most jit h4 70 (by decide))).mono fun e w' ⟨he, n, hw⟩ => ⟨he, ?_⟩
  rw [hw]
  exact pw_below_drewN (Below.refl _ _) n
def shapeB (rate least links : Int) : Bool := decide (64 ≤ rate ∧ rate ≤ 4096 ∧ 1 ≤ links ∧ links ≤ 6 ∧ 1 ≤ least ∧ least ≤ links)
theorem in_spec (x a b : Int) : target_in.f x a b = some (decide (a ≤ x ∧ x ≤ b)) := by
  unfold target_in.f
  split
  · rename_i h
    congr 1
    rw [Bool.eq_iff_iff, decide_eq_true_eq, decide_eq_true_eq]
    omega
  · rename_i h
    congr 1
    symm
    rw [decide_eq_false_iff_not]
    omega
theorem shape_spec (rate least links : Int) : target_Shape.f rate least links = some (shapeB rate least links) := by
  unfold target_Shape.f shapeB
  rw [in_spec, in_spec, in_spec]
  simp only [Option.bind_some]
  by_cases h1 : 64 ≤ rate ∧ rate ≤ 4096
  · rw [if_pos (by simpa using h1)]
    by_cases h2 : 1 ≤ links ∧ links ≤ 6
    · rw [if_pos (by simpa using h2)]
      congr 1
      rw [Bool.eq_iff_iff, decide_eq_true_eq, decide_eq_true_eq]
      omega
    · rw [if_neg (by simpa using h2)]
      congr 1
      symm
      rw [decide_eq_false_iff_not]
      omega
  · rw [if_neg (by simpa using h1)]
    congr 1
    symm
    rw [decide_eq_false_iff_not]
    omega
theorem shape_any (rate least links : Int) (w : World) :
    Calls Tryz.prog 67 #[.int .i64 rate, .int .i64 least, .int .i64 links] w fun e w' => e = .returned (.bool (shapeB rate least links)) ∧ ∃ n, w' = w.drewN n :=
  (target_Shape.calls rate least links _ w (shape_spec rate least links)).mono fun e w' ⟨he, n, hw⟩ => ⟨he, n, hw⟩
theorem count_spec (load rate least links : Int) (h0 : 0 ≤ load) (h1 : 64 ≤ rate) (h2 : load ≤ 9223372036854775807) : target_Count.f load rate least links = some (min (max (load / rate + if load % rate > 0 then 1 else 0) least) links) := by
  have e1 : Int.tdiv load rate = load / rate := Int.tdiv_eq_ediv_of_nonneg h0
  have e2 : Int.tmod load rate = load % rate := Int.tmod_eq_emod_of_nonneg h0
  have h3 : 0 ≤ load / rate := Int.ediv_nonneg h0 (by omega)
  have h4 : load / rate ≤ load := Int.ediv_le_self _ h0
  have h5 : load / rate < load + 1 := by omega
  have h6 : load / rate * 64 ≤ load := by
    have := Int.ediv_mul_le load (show rate ≠ 0 by omega)
    have h7 : load / rate * 64 ≤ load / rate * rate := Int.mul_le_mul_of_nonneg_left h1 h3
    omega
  unfold target_Count.f
  rw [if_neg (by omega), e1, e2]
  have mne : ∀ a b : Int, mn a b = min a b := fun a b => by unfold mn; omega
  have mxe : ∀ a b : Int, mx a b = max a b := fun a b => by unfold mx; omega
  have e3 : wrap64 (load / rate) = load / rate := by unfold wrap64; omega
  have e4 : wrap64 (load / rate + 1) = load / rate + 1 := by unfold wrap64; omega
  rw [e3, e4]
  split
  · rw [mne, mxe]
  · rw [mne, mxe, Int.add_zero]
theorem count_any (load rate least links : Int) (w : World) (h0 : 0 ≤ load) (h1 : 64 ≤ rate) (h2 : load ≤ 9223372036854775807) :
    Calls Tryz.prog 68 #[.int .i64 load, .int .i64 rate, .int .i64 least, .int .i64 links] w fun e w' => e = .returned (.int .i64 (min (max (load / rate + if load % rate > 0 then 1 else 0) least) links)) ∧ Below w.heap.size w w' :=
  target_Count.calls load rate least links _ w (count_spec load rate least links h0 h1 h2)
end Go.Proofs.YtlpibobpfafooaaGreatDoor.SpQ
