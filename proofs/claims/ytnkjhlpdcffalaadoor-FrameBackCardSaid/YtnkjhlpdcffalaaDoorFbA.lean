/-
  What the printed functions of stuffing and of sums come to, in lists of bytes.
-/
import Derived.Test.YtnkjhlpdcffalaaDoorPB
import Derived.Test.YtnkjhlpdcffalaaDoorFrame
import Derived.Lib.SmallJoins
set_option linter.unusedVariables false
set_option linter.unusedSimpArgs false
namespace Go.Proofs.YtnkjhlpdcffalaaDoor.SpB
open Go.RowKit Go.Joins Go.Proofs.YtnkjhlpdcffalaaDoor.PB Go.Proofs.YtnkjhlpdcffalaaDoor.H Go.Proofs.YtnkjhlpdcffalaaDoorW.PrintWords Go.Proofs.YtnkjhlpdcffalaaDoorW.PrintLast Go.Proofs.YtnkjhlpdcffalaaDoorW.PrintMore Go.Proofs.Wy

/-! ### byte strings and lists -/
abbrev B (l : List UInt8) : ByteArray := ⟨l.toArray⟩
def nb (l : List UInt8) : List Int := l.map fun b => (b.toNat : Int)
theorem B_size (l : List UInt8) : (B l).size = l.length := size_lit l
theorem B_data (l : List UInt8) : (B l).data.toList = l := rfl
theorem B_list (s : ByteArray) : B s.data.toList = s := by cases s; simp [B]
theorem B_app (a b : List UInt8) : B a ++ B b = B (a ++ b) := ByteArray.mk_append_mk a b
theorem nb_str (l : List UInt8) : strOfNums (nb l) = B l := Go.Lib.Lz.strOfNums_map l
theorem nb_app (a b : List UInt8) : nb (a ++ b) = nb a ++ nb b := by simp [nb]
theorem nb_len (l : List UInt8) : (nb l).length = l.length := by simp [nb]
theorem size_data (s : ByteArray) : s.data.toList.length = s.size := by simp
theorem bt_nat (s : ByteArray) (i : Nat) (h : i < s.size) : bt s (i : Int) = (s[i].toNat : Int) := by
  unfold bt
  rw [dif_pos (by simpa using h)]
  rfl
theorem take_snoc (s : ByteArray) (k : Nat) (h : k < s.size) : s.data.toList.take (k + 1) = s.data.toList.take k ++ [s[k]] := by
  rw [List.take_succ_eq_append_getElem (by simpa using h)]; rfl
theorem take_all (s : ByteArray) (k : Nat) (h : s.size ≤ k) : s.data.toList.take k = s.data.toList := List.take_of_length_le (by simpa using h)
theorem wrap_next {i n : Nat} (h : i < n) (hn : n ≤ 4611686018427387904) : wrap64 ((i : Int) + 1) = ((i + 1 : Nat) : Int) := by
  unfold wrap64
  omega
theorem wrap_byte (x : Nat) (h : x < 256) : wrap64 (x : Int) = (x : Int) := by unfold wrap64; omega

theorem put_spec (s : ByteArray) (m : Int) (hs : s.size ≤ 70368744177000) : stuff_Put.f s m = some (B (stuffL m s.data.toList)) := by
  unfold stuff_Put.f
  rw [if_pos hs]

theorem B_ext (l : List UInt8) (a b : Nat) : (B l).extract a b = B ((l.drop a).take (b - a)) := ByteArray.extract_mk l a b
theorem B_toList (l : List UInt8) : (B l).toList = l := ByteArray.toList_mk l
theorem B_bt (l : List UInt8) (i : Nat) (h : i < l.length) : bt (B l) (i : Int) = ((l.getD i 0).toNat : Int) := by
  rw [bt_nat (B l) i (by rw [B_size]; exact h)]
  have : (B l)[i]'(by rw [B_size]; exact h) = l.getD i 0 := by
    rw [List.getD_eq_getElem?_getD, List.getElem?_eq_getElem h]
    rfl
  rw [this]
theorem Ev.map1 {α β : Type} {g : Nat → Option α} {f : α → Option β} {a : α} {r : β} (h : Ev g a) (k : f a = some r) : Ev (fun n => (g n).bind f) r := Ev.bind h ⟨0, fun _ _ => k⟩
theorem Ev.pre {α β : Type} {g : Option α} {f : Nat → α → Option β} {a : α} {r : β} (h : g = some a) (k : Ev (fun n => f n a) r) : Ev (fun n => g.bind (f n)) r := by
  rw [h]; exact k
theorem Ev.next {α : Type} {g f : Nat → Option α} {r : α} (h : ∀ k, g (k + 1) = f k) (k : Ev f r) : Ev g r := Ev.step h k
theorem Ev.ite_pos {α : Type} {c : Prop} [Decidable c] {g f : Nat → Option α} {r : α} (h : c) (k : Ev g r) : Ev (fun n => if c then g n else f n) r := Ev.congr (fun n => if_pos h) k
theorem Ev.ite_neg {α : Type} {c : Prop} [Decidable c] {g f : Nat → Option α} {r : α} (h : ¬ c) (k : Ev f r) : Ev (fun n => if c then g n else f n) r := Ev.congr (fun n => if_neg h) k

theorem sum_bytes (l : List UInt8) : strOfNums [((fcsL l : Nat) : Int) % 256, ((fcsL l : Nat) : Int) / 256 % 256] = B (sumB l) := by
  unfold sumB strOfNums
  have a : (((fcsL l : Nat) : Int) % 256).toNat = fcsL l % 256 := by omega
  have b : (((fcsL l : Nat) : Int) / 256 % 256).toNat = fcsL l / 256 % 256 := by omega
  simp only [List.map_cons, List.map_nil, a, b]
theorem fput_spec (l : List UInt8) (h : l.length ≤ 4611686018427387000) : fcs_Put.f (B l) = some (B (sumL l)) := by
  unfold fcs_Put.f fcs_Of.f
  rw [if_pos (by rw [B_size]; omega)]
  simp only [Option.bind_some, B_data]
  rw [sum_bytes, B_size, B_size, B_app, if_pos (by simp [sumB]; omega)]
  rfl
theorem and255 (n : Nat) (h : n < 65536) : Go.bits .and .i64 (n : Int) 255 = ((n % 256 : Nat) : Int) := by
  have e := (bits_nat .i64 62 (by decide) wraps_i64 n 255 (by omega) (by omega)).1
  have e2 : Go.bits .and .i64 (n : Int) 255 = ((n &&& 255 : Nat) : Int) := e
  have e3 := Nat.and_two_pow_sub_one_eq_mod n 8
  have e4 : n &&& 255 = n % 256 := e3
  rw [e2, e4]
theorem proto_spec (p : Int) : frame_proto.f p = some (protoB p) := by
  unfold frame_proto.f protoB
  rw [and_one_i64, and_one_i64]
  by_cases h1 : p ≥ 1
  · rw [if_pos h1]
    by_cases h2 : p ≤ 65535
    · rw [if_pos h2]
      by_cases h3 : p % 2 = 1
      · rw [if_pos h3]
        simp [h1, h2, h3]
      · rw [if_neg h3]
        simp [h3]
    · rw [if_neg h2]
      simp [h2]
  · rw [if_neg h1]
    have : ¬ 1 ≤ p := h1
    simp [this]
theorem flag_spec : stuff_Flag.f = some (B [126]) := rfl
theorem head_bytes (p : Int) : strOfNums [255, 3, p / 256 % 256, p % 256] = B (headL p) := rfl
theorem put_frame (p : Int) (d : List UInt8) (m : Int) : frame_Put.f p (B d) m = some (B (frameL p d m).1, (frameL p d m).2) := by
  unfold frame_Put.f frameL
  rw [proto_spec]
  simp only [Option.bind_some, flag_spec, B_size]
  cases hp : protoB p
  · rw [if_neg (by decide), if_neg (by decide)]
  · rw [if_pos rfl, if_pos rfl]
    by_cases h2 : 2048 < d.length
    · rw [if_pos (by omega), if_pos h2]
    · rw [if_neg (by omega), if_neg h2, head_bytes, B_size, B_app, fput_spec _ (by simp [headL]; omega)]
      have hl := stuffL_length m (sumL (headL p ++ d))
      have h6 : (sumL (headL p ++ d)).length = d.length + 6 := by rw [sumL_length, List.length_append, head_length]; omega
      simp only [Option.bind_some]
      rw [put_spec _ _ (by rw [B_size, h6]; omega)]
      simp only [Option.bind_some, B_data, B_size, B_app]
      rw [if_pos (by rw [head_length]; omega), if_pos (by simp; omega), if_pos (by simp; omega)]
      rfl
theorem drop_at (s : ByteArray) (k : Nat) (h : k < s.size) : s.data.toList.drop k = s[k] :: s.data.toList.drop (k + 1) := by
  rw [List.drop_eq_getElem_cons (by simpa using h)]; rfl
theorem get_spec (s : ByteArray) (hs : s.size ≤ 140737488355000) : stuff_Get.f s = some (B (unstuffL s.data.toList).1, (unstuffL s.data.toList).2) := by
  unfold stuff_Get.f
  rw [if_pos hs]

/-! ### the sum is checked -/
theorem wrap_less (n c : Nat) (h : n ≤ 4611686018427387904) (hc : c ≤ 100) : wrap64 ((n : Int) - (c : Int)) = (n : Int) - (c : Int) := by unfold wrap64; omega
theorem check_spec (l : List UInt8) (h : l.length ≤ 4611686018427387000) : fcs_Check.f (B l) = some (B (checkL l).1, (checkL l).2) := by
  unfold fcs_Check.f checkL
  have hw := wrap_less l.length 2 (by omega) (by omega)
  have hw' : wrap64 ((l.length : Int) - 2) = (l.length : Int) - 2 := hw
  rw [B_size, hw']
  by_cases h2 : l.length < 2
  · rw [if_pos (by omega), if_pos h2]
  · have e : ((l.length : Int) - 2).toNat = l.length - 2 := by omega
    rw [if_neg (by omega), if_neg h2, if_pos (by omega), if_pos (by omega), e, B_ext, List.drop_zero, Nat.sub_zero, fput_spec _ (by simp; omega)]
    simp only [Option.bind_some, B_toList]
    by_cases h3 : sumL (l.take (l.length - 2)) = l
    · rw [if_pos h3, if_pos h3]
    · rw [if_neg h3, if_neg h3]
/-! ### a frame is read -/
theorem or_bytes (a b : Nat) (ha : a < 256) (hb : b < 256) : Go.bits .or .i64 (wrap64 (wrap64 (a : Int) * 256)) (wrap64 (b : Int)) = (a : Int) * 256 + (b : Int) := by
  have e1 : wrap64 (wrap64 (a : Int) * 256) = ((2 ^ 8 * a : Nat) : Int) := by rw [wrap_byte a ha]; unfold wrap64; omega
  have e2 := Nat.two_pow_add_eq_or_of_lt (i := 8) (b := b) (by omega) a
  have e3 := (bits_nat .i64 62 (by decide) wraps_i64 (2 ^ 8 * a) b (by omega) (by omega)).2
  rw [e1, wrap_byte b hb, e3, ← e2]
  omega
theorem add_bytes (a b : Nat) (ha : a < 256) (hb : b < 256) : wrap64 (wrap64 (wrap64 (a : Int) * 256) + wrap64 (b : Int)) = (a : Int) * 256 + (b : Int) := by
  rw [wrap_byte a ha, wrap_byte b hb]; unfold wrap64; omega
theorem get_j1 (u : List UInt8) (h4 : 4 ≤ u.length) (hu : u.length ≤ 4611686018427387000) (z : Bool) (hz : z = true ↔ ¬ ((u.getD 0 0).toNat = 255 ∧ (u.getD 1 0).toNat = 3)) (k : Nat) :
    frame_Get.j1 (k + 1) (B u) z = some ((decodeL u).1, B (decodeL u).2.1, (decodeL u).2.2) := by
  simp only [frame_Get.j1]
  unfold decodeL
  cases z with
  | true =>
    rw [if_pos rfl, if_neg (hz.1 rfl)]
  | false =>
    have hh : (u.getD 0 0).toNat = 255 ∧ (u.getD 1 0).toNat = 3 := by
      by_cases hq : (u.getD 0 0).toNat = 255 ∧ (u.getD 1 0).toNat = 3
      · exact hq
      · exact absurd (hz.2 hq) (by decide)
    rw [if_neg (by decide), if_pos hh, B_size, if_pos (by omega), if_pos (by omega), if_pos (by omega)]
    have b2 := B_bt u 2 (by omega)
    have b3 := B_bt u 3 (by omega)
    have b2' : bt (B u) 2 = ((u.getD 2 0).toNat : Int) := b2
    have b3' : bt (B u) 3 = ((u.getD 3 0).toNat : Int) := b3
    have e : (List.drop 4 u).take (u.length - 4) = u.drop 4 := List.take_of_length_le (by simp)
    rw [b2', b3', or_bytes _ _ (UInt8.toNat_lt _) (UInt8.toNat_lt _), proto_spec, B_ext, e]
    simp only [Option.bind_some, B_size, List.length_drop]
    have hp : ((u.getD 2 0).toNat : Int) * 256 + ((u.getD 3 0).toNat : Int) = protoL u := rfl
    rw [hp]
    cases protoB (protoL u)
    · rw [if_neg (by decide), if_neg (by decide)]
    · rw [if_pos rfl, if_pos rfl]
      by_cases hl : 2048 < u.length - 4
      · rw [if_pos (by omega), if_pos hl]
      · rw [if_neg (by omega), if_neg hl]
theorem get_frame (s : ByteArray) (hs : s.size ≤ 140737488355000) : Ev (fun k => frame_Get.f k s) ((unframeL s.data.toList).1, B (unframeL s.data.toList).2.1, (unframeL s.data.toList).2.2) := by
  have hl := unstuffL_length s.data.toList
  rw [size_data] at hl
  unfold frame_Get.f unframeL
  refine Ev.pre (get_spec s hs) ?_
  generalize unstuffL s.data.toList = t at hl
  obtain ⟨t, e⟩ := t
  simp only at hl ⊢
  have main : ∀ z : Bool, (z = true ↔ (e ≠ 0 ∨ t.length < 6)) → Ev (fun k => frame_Get.j0 k (B t) z) ((if e ≠ 0 ∨ t.length < 6 then ((0 : Int), ([] : List UInt8), (300 : Int)) else if (checkL t).2 ≠ 0 then (0, [], 301) else decodeL (checkL t).1).1, B (if e ≠ 0 ∨ t.length < 6 then ((0 : Int), ([] : List UInt8), (300 : Int)) else if (checkL t).2 ≠ 0 then (0, [], 301) else decodeL (checkL t).1).2.1, (if e ≠ 0 ∨ t.length < 6 then ((0 : Int), ([] : List UInt8), (300 : Int)) else if (checkL t).2 ≠ 0 then (0, [], 301) else decodeL (checkL t).1).2.2) := by
    intro z hz
    refine Ev.next (f := fun k => _) (fun k => by simp only [frame_Get.j0]; rfl) ?_
    cases z with
    | true =>
      refine Ev.ite_pos rfl ?_
      rw [if_pos (hz.1 rfl)]
      exact Ev.now _
    | false =>
      have hn : ¬ (e ≠ 0 ∨ t.length < 6) := fun h => absurd (hz.2 h) (by decide)
      refine Ev.ite_neg (by decide) ?_
      rw [if_neg hn]
      refine Ev.pre (check_spec t (by omega)) ?_
      by_cases hc : (checkL t).2 = 0
      · refine Ev.ite_pos hc ?_
        rw [if_neg (by simpa using hc)]
        have hcl := check_length t hc
        generalize (checkL t).1 = u at hcl
        have hul : 4 ≤ u.length := by omega
        have b0' : bt (B u) 0 = ((u.getD 0 0).toNat : Int) := B_bt u 0 (by omega)
        have b1' : bt (B u) 1 = ((u.getD 1 0).toNat : Int) := B_bt u 1 (by omega)
        refine Ev.ite_pos (by rw [B_size]; omega) ?_
        rw [b0', b1']
        by_cases h0 : (u.getD 0 0).toNat = 255
        · refine Ev.ite_pos (by omega) ?_
          refine Ev.ite_pos (by rw [B_size]; omega) ?_
          refine ⟨1, fun k hk => ?_⟩
          obtain ⟨k, rfl⟩ : ∃ j, k = j + 1 := ⟨k - 1, by omega⟩
          refine get_j1 u hul (by omega) _ ?_ k
          rw [bne_iff_ne]
          omega
        · refine Ev.ite_neg (by omega) ?_
          refine ⟨1, fun k hk => ?_⟩
          obtain ⟨k, rfl⟩ : ∃ j, k = j + 1 := ⟨k - 1, by omega⟩
          exact get_j1 u hul (by omega) true ⟨fun _ h => h0 h.1, fun _ => rfl⟩ k
      · refine Ev.ite_neg hc ?_
        rw [if_pos hc]
        exact Ev.now _
  by_cases he : e = 0
  · refine Ev.ite_pos he ?_
    refine main _ ?_
    rw [B_size, decide_eq_true_eq]
    omega
  · refine Ev.ite_neg he ?_
    exact main true ⟨fun _ => .inl he, fun _ => rfl⟩
/-! ### the sign of life -/
theorem num_spec (x : Int) : withylaw0_Num.f x = some x := rfl
/-- What stands between the flags of a frame. -/
theorem inner (x : List UInt8) : ((126 :: (x ++ [126])).drop 1).take ((126 :: (x ++ [126])).length - 1 - 1) = x := by
  have e : (126 :: (x ++ [126])).length - 1 - 1 = x.length := by simp
  rw [e]
  simp
theorem wrap_len (x : List UInt8) (h : x.length ≤ 140737488355000) : wrap64 (((126 :: (x ++ [126])).length : Int) - 1) = ((x.length + 1 : Nat) : Int) := by
  have := wrap_less (126 :: (x ++ [126])).length 1 (by simp; omega) (by omega)
  simp at this ⊢
  unfold wrap64 at this ⊢
  omega
theorem short_abc : unframeL [97, 98, 99] = (0, [], 300) := by decide
theorem short_abcde : unframeL [97, 98, 99, 100, 101] = (0, [], 300) := by decide
theorem awake_spec : Ev (fun k => withylaw3_awake.f k) true := by
  unfold withylaw3_awake.f
  have hp : protoB 49185 = true := by decide
  have hf := put_frame 49185 [104, 105] 0
  rw [frame_ok 49185 [104, 105] 0 hp (by decide)] at hf
  have hb := frame_back 49185 [104, 105] 0 hp (by decide)
  have hl2 := stuffL_length 0 (sumL (headL 49185 ++ [104, 105]))
  have hlg := stuffL_ge 0 (sumL (headL 49185 ++ [104, 105]))
  have h8 : (sumL (headL 49185 ++ [104, 105])).length = 8 := by rw [sumL_length]; rfl
  rw [h8] at hl2 hlg
  generalize stuffL 0 (sumL (headL 49185 ++ [104, 105])) = x at hf hb hl2 hlg
  refine Ev.pre hf ?_
  refine Ev.pre (num_spec _) ?_
  refine Ev.ite_pos rfl ?_
  simp only []
  have hz : decide ((((B (126 :: (x ++ [126]))).size : Nat) : Int) < 4) = false := by
    rw [B_size]; simp; omega
  rw [hz]
  refine Ev.next (f := fun k => _) (fun k => by simp only [withylaw3_awake.j0]; rfl) ?_
  refine Ev.ite_neg (by decide) ?_
  rw [B_size]
  have hw := wrap_len x (by omega)
  rw [hw]
  refine Ev.ite_pos (by omega) ?_
  refine Ev.ite_pos (by simp; omega) ?_
  have hi := inner x
  have e1 : ((((x.length + 1 : Nat) : Int)).toNat) - 1 = (126 :: (x ++ [126])).length - 1 - 1 := by simp
  rw [B_ext, e1, hi]
  have g1 := get_frame (B x) (by rw [B_size]; omega)
  rw [B_data, hb] at g1
  refine Ev.bind g1 ?_
  have g2 := get_frame (B [97, 98, 99]) (by decide)
  rw [B_data, short_abc] at g2
  refine Ev.bind g2 ?_
  have hf2 := put_frame 2 [] 0
  have e2 : frameL 2 [] 0 = ([], 303) := by decide
  rw [e2] at hf2
  refine Ev.pre hf2 ?_
  refine Ev.ite_pos (by rw [B_toList]; decide) ?_
  refine Ev.pre (num_spec _) ?_
  refine Ev.ite_pos rfl ?_
  refine Ev.pre (num_spec _) ?_
  refine Ev.ite_pos rfl ?_
  refine Ev.pre (num_spec _) ?_
  exact Ev.now _
/-! ### the plain law -/
def full (ps : List (List UInt8)) : List (List UInt8) := ps.filter fun p => p.length != 0
def keepL (l : List UInt8) : List (List UInt8) × List UInt8 := (full (cutAt 126 l).tail.dropLast, (cutAt 126 l).getLastD [])
/-- The pieces behind the first flag, forward: the open piece, what is to come. -/
def goL : List UInt8 → List UInt8 → List (List UInt8) × List UInt8
  | cur, [] => ([], cur)
  | cur, b :: r => if b = 126 then ((if cur.length = 0 then [] else [cur]) ++ (goL [] r).1, (goL [] r).2) else goL (cur ++ [b]) r
def firstL : List UInt8 → Option (List (List UInt8) × List UInt8)
  | [] => none
  | b :: r => if b = 126 then some (goL [] r) else firstL r
theorem full_cons (p : List UInt8) (ps : List (List UInt8)) : full (p :: ps) = (if p.length = 0 then [] else [p]) ++ full ps := by
  unfold full
  rw [List.filter_cons]
  by_cases h : p.length = 0 <;> simp [h]
theorem cut_cons (l : List UInt8) : ∃ h t, cutAt 126 l = h :: t := by
  cases e : cutAt 126 l with
  | nil => exact absurd e (cutAt_ne _ _)
  | cons h t => exact ⟨h, t, rfl⟩
theorem goL_cut (rest : List UInt8) : ∀ cur h t, cutAt 126 rest = h :: t → goL cur rest = (full ((cur ++ h) :: t).dropLast, ((cur ++ h) :: t).getLastD []) := by
  induction rest with
  | nil =>
    intro cur h t e
    unfold cutAt at e
    simp only [List.cons.injEq] at e
    obtain ⟨rfl, rfl⟩ := e
    simp [goL, full]
  | cons b r ih =>
    intro cur h t e
    obtain ⟨h', t', e'⟩ := cut_cons r
    unfold goL
    unfold cutAt at e
    split
    · rename_i hb
      rw [if_pos hb] at e
      simp only [List.cons.injEq] at e
      obtain ⟨rfl, rfl⟩ := e
      rw [ih [] h' t' e', e']
      have eD : ((cur ++ []) :: h' :: t').dropLast = cur :: (h' :: t').dropLast := by rw [List.append_nil]; rfl
      rw [eD, full_cons]
      refine Prod.ext rfl ?_
      simp
    · rename_i hb
      rw [if_neg hb, e'] at e
      simp only [List.cons.injEq] at e
      obtain ⟨rfl, rfl⟩ := e
      rw [ih (cur ++ [b]) h' t' e', List.append_assoc]
      rfl
theorem keepL_first (l : List UInt8) : keepL l = (match firstL l with | none => ([], l) | some x => x) ∧ (firstL l = none → cutAt 126 l = [l]) ∧ (∀ x, firstL l = some x → (cutAt 126 l).tail ≠ []) := by
  induction l with
  | nil => simp [keepL, firstL, cutAt, full]
  | cons b r ih =>
    obtain ⟨h', t', e'⟩ := cut_cons r
    obtain ⟨i1, i2, i3⟩ := ih
    unfold firstL keepL
    by_cases hb : b = 126
    · have e : cutAt 126 (b :: r) = [] :: h' :: t' := by unfold cutAt; rw [if_pos hb, e']
      rw [if_pos hb, e, goL_cut r [] h' t' e']
      simp
    · have e : cutAt 126 (b :: r) = (b :: h') :: t' := by unfold cutAt; rw [if_neg hb, e']
      rw [if_neg hb, e]
      unfold keepL at i1
      rw [e'] at i1 i2 i3
      cases hf : firstL r with
      | none =>
        have := i2 hf
        simp only [List.cons.injEq] at this
        obtain ⟨rfl, rfl⟩ := this
        simp [full]
      | some x =>
        rw [hf] at i1
        have h3 := i3 x hf
        simp only [List.tail_cons] at h3 i1 ⊢
        refine ⟨?_, fun h => absurd h (by simp), fun _ _ => h3⟩
        rw [← i1]
        obtain ⟨a, t2, rfl⟩ : ∃ a t2, t' = a :: t2 := by cases t' with | nil => exact absurd rfl h3 | cons a t2 => exact ⟨a, t2, rfl⟩
        simp

/-! ### the program's -/
theorem map_back (ps : List ByteArray) : (ps.map fun p => p.data.toList).map B = ps := by
  rw [List.map_map]
  conv => rhs; rw [← List.map_id ps]
  exact List.map_congr_left fun p _ => B_list p
theorem split_spec (s : ByteArray) (hs : s.size < 4294967281) : stuff_Split.f s = some ((keepL s.data.toList).1.map B, B (keepL s.data.toList).2) := by
  unfold stuff_Split.f
  rw [if_pos hs]
  have hcut := splitB_cut 126 s.size s (Nat.le_refl _)
  have hlen := Lib.splitB_all ⟨#[126]⟩ (Nat.le_refl _) 0 _ s rfl
  generalize Lib.splitB ⟨#[126]⟩ 0 (Lib.countB s ⟨#[126]⟩) s = ps at hcut hlen ⊢
  generalize Lib.countB s ⟨#[126]⟩ = m at hlen ⊢
  have hps : ps = (cutAt 126 s.data.toList).map B := by rw [← hcut]; exact (map_back ps).symm
  obtain ⟨h, t, e⟩ := cut_cons s.data.toList
  unfold keepL
  rw [e] at hps ⊢
  subst hps
  have hm : m = t.length := by simpa using hlen.symm
  congr 1
  refine Prod.ext ?_ ?_
  · show keepP ((h :: t).map B) (m - 1) = (full t.dropLast).map B
    unfold keepP full
    rw [List.map_cons, List.drop_one, List.tail_cons, hm, ← List.map_take, List.filter_map, List.dropLast_eq_take]
    congr 1
  · show ((h :: t).map B).getLastD s = B ((h :: t).getLastD [])
    rw [List.getLastD_eq_getLast?, List.getLastD_eq_getLast?, List.getLast?_map]
    cases e2 : (h :: t).getLast? with
    | none => exact absurd e2 (by simp)
    | some x => rfl

theorem cutAt_none (l : List UInt8) (h : (126 : UInt8) ∉ l) : cutAt 126 l = [l] := by
  induction l with
  | nil => rfl
  | cons b r ih =>
    have h1 : ¬ b = 126 := fun e => h (by rw [e]; exact List.mem_cons_self)
    have h2 := ih fun e => h (List.mem_cons_of_mem _ e)
    unfold cutAt
    rw [if_neg h1, h2]
theorem cutAt_then (l r : List UInt8) (h : (126 : UInt8) ∉ l) : cutAt 126 (l ++ 126 :: r) = l :: cutAt 126 r := by
  induction l with
  | nil =>
    show cutAt 126 (126 :: r) = _
    conv => lhs; unfold cutAt
    rw [if_pos rfl]
  | cons b q ih =>
    have h1 : ¬ b = 126 := fun e => h (by rw [e]; exact List.mem_cons_self)
    have h2 := ih fun e => h (List.mem_cons_of_mem _ e)
    show cutAt 126 (b :: (q ++ 126 :: r)) = _
    conv => lhs; unfold cutAt
    rw [if_neg h1, h2]
/-- The protocol that the law takes is one. -/
theorem proto_taken (p : Int) : ∃ q : Int, Go.bits .or .i64 (Go.bits .and .i64 p 65278) 1 = q ∧ protoB q = true := by
  refine ⟨_, rfl, ?_⟩
  have e : Go.bits .and .i64 p 65278 = (((BitVec.ofInt 64 p).toNat &&& 65278 : Nat) : Int) := by
    have h1 : (65278 : Int) = ((65278 : Nat) : Int) := rfl
    have h2 : ((BitVec.ofInt 64 p &&& BitVec.ofInt 64 ((65278 : Nat) : Int)).toNat) = (BitVec.ofInt 64 p).toNat &&& 65278 := by
      rw [BitVec.toNat_and, BitVec.ofInt_natCast, BitVec.toNat_ofNat]
    have h3 : (BitVec.ofInt 64 p).toNat &&& 65278 ≤ 65278 := Nat.and_le_right
    show IntKind.i64.wrap (((BitVec.ofInt 64 p &&& BitVec.ofInt 64 (65278 : Int)).toNat : Nat) : Int) = _
    rw [h1, h2]
    exact wraps_i64 _ (by omega) (by omega)
  rw [e]
  generalize (BitVec.ofInt 64 p).toNat = n
  have h3 : n &&& 65278 ≤ 65278 := Nat.and_le_right
  have h4 := (bits_nat .i64 62 (by decide) wraps_i64 (n &&& 65278) 1 (by omega) (by omega)).2
  have h5 : Go.bits .or .i64 ((n &&& 65278 : Nat) : Int) 1 = (((n &&& 65278) ||| 1 : Nat) : Int) := h4
  rw [h5]
  generalize hq : (n &&& 65278) ||| 1 = q
  have b0 : q.testBit 0 = true := by rw [← hq, Nat.testBit_or]; simp
  have b8 : q.testBit 8 = false := by
    rw [← hq, Nat.testBit_or, Nat.testBit_and]
    have : (65278 : Nat).testBit 8 = false := by decide
    have : (1 : Nat).testBit 8 = false := by decide
    simp [*]
  have hlt : q < 65536 := by
    rw [← hq]
    exact Nat.or_lt_two_pow (n := 16) (by omega) (by omega)
  have e0 : q % 2 = 1 := by
    have := b0
    rw [Nat.testBit_zero] at this
    simpa using this
  have e8 : q / 256 % 2 = 0 := by
    have := b8
    rw [Nat.testBit_eq_decide_div_mod_eq] at this
    have h2 : ¬ q / 2 ^ 8 % 2 = 1 := by simpa using this
    have : q / 2 ^ 8 = q / 256 := rfl
    omega
  simp only [protoB, Bool.and_eq_true, decide_eq_true_eq, beq_iff_eq]
  omega
end Go.Proofs.YtnkjhlpdcffalaaDoor.SpB
