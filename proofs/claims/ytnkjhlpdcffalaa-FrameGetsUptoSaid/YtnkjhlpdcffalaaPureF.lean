/-
  The frame laws as statements on the printed functions, proved: any frame as bytes, any bytes as a frame, which protocols, other heads, whatever map.
-/
import Derived.Test.YtnkjhlpdcffalaaSpecD
set_option linter.unusedVariables false
set_option linter.unusedSimpArgs false
namespace Go.Proofs.Ytnkjhlpdcffalaa.Sp
open Go.RowKit Go.Proofs.Ytnkjhlpdcffalaa.PF Go.Proofs.YtnkjhlpdcffalaaW.PrintWords Go.Proofs.YtnkjhlpdcffalaaW.PrintLast Go.Proofs.YtnkjhlpdcffalaaW.PrintMore Go.Proofs.Wy

theorem puts_pure (p : Int) (s : ByteArray) (m : Int) : ∃ k, withylaw3_FramePuts.f k p s m = some true := by
  refine Ev.rounds (g := fun k => withylaw3_FramePuts.f k p s m) ?_
  unfold withylaw3_FramePuts.f
  have hs := B_list s
  rw [← hs]
  refine Ev.pre (put_frame p s.data.toList m) ?_
  refine Ev.bind (rframe_spec p s.data.toList m) ?_
  refine Ev.ite_pos rfl ?_
  refine Ev.pre (num_spec _) ?_
  refine Ev.ite_pos rfl ?_
  refine Ev.bind awake_spec ?_
  exact Ev.now _

theorem gets_j0 (t : ByteArray) (h : t.size ≤ 140737488355000) : Ev (fun k => withylaw3_FrameGets.j0 k t) true := by
  refine Ev.next (f := fun k => _) (fun k => by simp only [withylaw3_FrameGets.j0]; rfl) ?_
  refine Ev.bind (get_frame t h) ?_
  refine Ev.bind (unframe_spec t h) ?_
  refine Ev.ite_pos (by simp) ?_
  refine Ev.pre (num_spec _) ?_
  refine Ev.ite_pos rfl ?_
  refine Ev.bind awake_spec ?_
  exact Ev.now _
theorem gets_pure (s : ByteArray) (seal_ : Bool) (m : Int) (h : s.size ≤ 1048576) : ∃ k, withylaw3_FrameGets.f k s seal_ m = some true := by
  refine Ev.rounds (g := fun k => withylaw3_FrameGets.f k s seal_ m) ?_
  unfold withylaw3_FrameGets.f
  cases seal_ with
  | false =>
    refine Ev.ite_neg (by decide) ?_
    exact gets_j0 s (by omega)
  | true =>
    refine Ev.ite_pos rfl ?_
    have hs := B_list s
    have hz : s.data.toList.length = s.size := size_data s
    rw [← hs]
    refine Ev.bind (rsum_spec s.data.toList (by omega)) ?_
    have h2 : (sumL s.data.toList).length = s.size + 2 := by rw [sumL_length, hz]
    refine Ev.bind (stuff_spec (B (sumL s.data.toList)) m (by rw [B_size]; omega)) ?_
    have hl := stuffL_length m (sumL s.data.toList)
    exact gets_j0 _ (by rw [B_size, B_data]; omega)

theorem maps_pure (s : ByteArray) (a b : Int) : ∃ k, withylaw3_FrameMaps.f k s a b = some true := by
  refine Ev.rounds (g := fun k => withylaw3_FrameMaps.f k s a b) ?_
  unfold withylaw3_FrameMaps.f
  refine Ev.bind awake_spec ?_
  refine Ev.ite_pos rfl ?_
  by_cases h : (s.size : Int) > 2048
  · refine Ev.ite_pos h ?_
    exact Ev.now _
  · refine Ev.ite_neg h ?_
    have hs := B_list s
    have hz : s.data.toList.length = s.size := size_data s
    have hp : protoB 33 = true := by decide
    have hd : s.data.toList.length ≤ 2048 := by omega
    have h6 : (sumL (headL 33 ++ s.data.toList)).length = s.size + 6 := by rw [sumL_length, List.length_append, head_length, hz]; omega
    have fa := put_frame 33 s.data.toList a
    have fb := put_frame 33 s.data.toList b
    rw [frame_ok 33 _ a hp hd, hs] at fa
    rw [frame_ok 33 _ b hp hd, hs] at fb
    have ba := frame_back 33 s.data.toList a hp hd
    have bb := frame_back 33 s.data.toList b hp hd
    have ua := unstuff_stuff a (sumL (headL 33 ++ s.data.toList))
    have ub := unstuff_stuff b (sumL (headL 33 ++ s.data.toList))
    have la := stuffL_length a (sumL (headL 33 ++ s.data.toList))
    have lb := stuffL_length b (sumL (headL 33 ++ s.data.toList))
    have ga := stuffL_ge a (sumL (headL 33 ++ s.data.toList))
    have gb := stuffL_ge b (sumL (headL 33 ++ s.data.toList))
    rw [h6] at la lb ga gb
    generalize stuffL a (sumL (headL 33 ++ s.data.toList)) = x at fa ba ua la ga
    generalize stuffL b (sumL (headL 33 ++ s.data.toList)) = y at fb bb ub lb gb
    refine Ev.pre fa ?_
    refine Ev.pre fb ?_
    refine Ev.pre (num_spec _) ?_
    refine Ev.ite_pos rfl ?_
    refine Ev.pre (num_spec _) ?_
    refine Ev.ite_pos rfl ?_
    simp only [B_size]
    refine Ev.ite_neg (by simp; omega) ?_
    have hy : decide ((((126 :: (y ++ [126])).length : Nat) : Int) < 4) = false := by simp; omega
    rw [hy]
    refine Ev.next (f := fun k => _) (fun k => by simp only [withylaw3_FrameMaps.j0]; rfl) ?_
    refine Ev.ite_neg (by decide) ?_
    have ix := inner x
    have iy := inner y
    have wx := wrap_len x (by omega)
    have wy := wrap_len y (by omega)
    have ex : ((((x.length + 1 : Nat) : Int)).toNat) - 1 = (126 :: (x ++ [126])).length - 1 - 1 := by simp
    have ey : ((((y.length + 1 : Nat) : Int)).toNat) - 1 = (126 :: (y ++ [126])).length - 1 - 1 := by simp
    simp only [B_size, wx, wy, B_ext, ex, ey, ix, iy]
    refine Ev.ite_pos (by omega) ?_
    refine Ev.ite_pos (by simp; omega) ?_
    have gx := get_frame (B x) (by rw [B_size]; omega)
    have gy := get_frame (B y) (by rw [B_size]; omega)
    rw [B_data, ba] at gx
    rw [B_data, bb] at gy
    refine Ev.bind gx ?_
    refine Ev.ite_pos (by omega) ?_
    refine Ev.ite_pos (by simp; omega) ?_
    refine Ev.bind gy ?_
    have sx := get_spec (B x) (by rw [B_size]; omega)
    have sy := get_spec (B y) (by rw [B_size]; omega)
    rw [B_data, ua] at sx
    rw [B_data, ub] at sy
    refine Ev.pre sx ?_
    refine Ev.pre sy ?_
    refine Ev.pre (num_spec _) ?_
    refine Ev.ite_pos rfl ?_
    refine Ev.pre (num_spec _) ?_
    refine Ev.ite_pos rfl ?_
    have ht : s.toList = s.data.toList := by rw [← B_toList s.data.toList, B_list]
    refine Ev.ite_pos (by simp [ht]) ?_
    refine Ev.ite_pos (by simp [ht]) ?_
    simp only [beq_self_eq_true]
    exact Ev.now _
end Go.Proofs.Ytnkjhlpdcffalaa.Sp
