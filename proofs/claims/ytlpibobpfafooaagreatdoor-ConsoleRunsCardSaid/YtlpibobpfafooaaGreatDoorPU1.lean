/- What the program's functions at this seat come to, each with its walk; written by a program of this repo. -/
import Derived.Test.YtlpibobpfafooaaGreatDoorPU0
namespace Go.Proofs.YtlpibobpfafooaaGreatDoor.PU
open Go.RowKit Go.Proofs.YtlpibobpfafooaaGreatDoorW.PrintWords Go.Proofs.YtlpibobpfafooaaGreatDoorW.PrintLast Go.Proofs.YtlpibobpfafooaaGreatDoorW.PrintMore
attribute [local go_sem] max2_int min2_int max_two min_two max_three min_three max_four min_four   -- for this text's walks alone
set_option linter.unusedVariables false
set_option linter.unusedSimpArgs false

/-! ### withylaw28_wrong: function 12 -/
def withylaw28_wrong.f (a0 : Int) : Option (ByteArray) := if -9223372036854775808 ≤ a0 ∧ a0 ≤ 9223372036854775807 then some ⟨(Go.Proofs.Wy.errL a0).toArray⟩ else none
theorem withylaw28_wrong.calls (a0 : Int) (r : ByteArray) (w : World) (h : withylaw28_wrong.f a0 = some r) :
    Calls Tryz.prog 12 #[.int .i64 a0] w fun e w' => e = .returned (.string r) ∧ Below w.heap.size w w' := by
  unfold withylaw28_wrong.f at h
  split at h
  · rename_i hs
    obtain rfl := Option.some.inj h
    exact Go.Proofs.YtlpibobpfafooaaGreatDoor.SpR.wrongs_any a0 w hs.1 hs.2
  · exact absurd h (by simp)

/-! ### withyref0_Decimal: function 17 -/
def withyref0_Decimal.f (a0 : Int) : Option (ByteArray) := if -9223372036854775808 ≤ a0 ∧ a0 ≤ 9223372036854775807 then some ⟨(Go.Proofs.Wy.itoaL a0).toArray⟩ else none
theorem withyref0_Decimal.calls (a0 : Int) (r : ByteArray) (w : World) (h : withyref0_Decimal.f a0 = some r) :
    Calls Tryz.prog 17 #[.int .i64 a0] w fun e w' => e = .returned (.string r) ∧ Below w.heap.size w w' := by
  unfold withyref0_Decimal.f at h
  split at h
  · rename_i hs
    obtain rfl := Option.some.inj h
    exact Go.Proofs.YtlpibobpfafooaaGreatDoor.SpR.dec_any a0 w hs.1 hs.2
  · exact absurd h (by simp)

/-! ### withylaw28_hex: function 18 -/
def withylaw28_hex.f (a0 : ByteArray) : Option (ByteArray) := if a0.size ≤ 1000000000 then some ⟨(Go.Proofs.Wy.hexL a0.data.toList).toArray⟩ else none
theorem withylaw28_hex.calls (a0 : ByteArray) (r : ByteArray) (w : World) (h : withylaw28_hex.f a0 = some r) :
    Calls Tryz.prog 18 #[.string a0] w fun e w' => e = .returned (.string r) ∧ Below w.heap.size w w' := by
  unfold withylaw28_hex.f at h
  split at h
  · rename_i hs
    obtain rfl := Option.some.inj h
    exact Go.Proofs.YtlpibobpfafooaaGreatDoor.SpR.hexl_any a0 w hs
  · exact absurd h (by simp)

/-! ### withyref1_Fcs: function 19 -/
def withyref1_Fcs.f (a0 : ByteArray) : Option (Int) := if a0.size ≤ 4611686018427387904 then some ((Go.Proofs.Wy.fcsL a0.data.toList : Nat) : Int) else none
theorem withyref1_Fcs.calls (a0 : ByteArray) (r : Int) (w : World) (h : withyref1_Fcs.f a0 = some r) :
    Calls Tryz.prog 19 #[.string a0] w fun e w' => e = .returned (.int .i64 r) ∧ Below w.heap.size w w' := by
  unfold withyref1_Fcs.f at h
  split at h
  · rename_i hs
    obtain rfl := Option.some.inj h
    exact Go.Proofs.YtlpibobpfafooaaGreatDoor.SpR.fcsr_any a0 w hs
  · exact absurd h (by simp)

/-! ### withyref10_Md5: function 20 -/
def withyref10_Md5.f (a0 : ByteArray) : Option (ByteArray) := if a0.size ≤ 100000 then some ⟨(Go.Proofs.Wy.md5L a0.data.toList).toArray⟩ else none
theorem withyref10_Md5.calls (a0 : ByteArray) (r : ByteArray) (w : World) (h : withyref10_Md5.f a0 = some r) :
    Calls Tryz.prog 20 #[.string a0] w fun e w' => e = .returned (.string r) ∧ Below w.heap.size w w' := by
  unfold withyref10_Md5.f at h
  split at h
  · rename_i hs
    obtain rfl := Option.some.inj h
    exact Go.Proofs.YtlpibobpfafooaaGreatDoor.H.rmd5_any a0 w hs
  · exact absurd h (by simp)

/-! ### withylaw28_words: function 31 -/
def withylaw28_words.f (a0 : ByteArray) : Option (List ByteArray) := if a0.size ≤ 1000000 then some ((Go.Proofs.Wy.fieldsL a0.data.toList).map fun l => ⟨l.toArray⟩) else none
theorem withylaw28_words.calls (a0 : ByteArray) (r : List ByteArray) (w : World) (h : withylaw28_words.f a0 = some r) :
    Calls Tryz.prog 31 #[.string a0] w fun e w' => ∃ v0_ : Value, e = .returned (v0_) ∧ Kd.R Kd.string 9 w' w.heap.size (fun _ => True) v0_ r ∧ Below w.heap.size w w' := by
  unfold withylaw28_words.f at h
  split at h
  · rename_i hs
    obtain rfl := Option.some.inj h
    exact Go.Proofs.YtlpibobpfafooaaGreatDoor.PR.withylaw28_words.calls _ a0 _ w (Go.Proofs.YtlpibobpfafooaaGreatDoor.SpR.words_spec a0 hs)
  · exact absurd h (by simp)

/-! ### withylaw28_counted: function 32 -/
def withylaw28_counted.f (l0 : List ByteArray) : Option (ByteArray) := match l0 with
  | [] => none
  | F :: ws => if (F :: ws).length ≤ 1000000 ∧ Go.Proofs.YtlpibobpfafooaaGreatDoor.H.cntW F.data.toList = true then some ⟨(Go.Proofs.Wy.lineL F.data.toList (ws.map (·.data.toList))).toArray⟩ else none
theorem withylaw28_counted.calls (A0 : Option Addr) (c0 : Nat) (l0 : List ByteArray) (r : ByteArray) (w : World) (hr0 : Kd.C Kd.string w A0 l0.length l0) (hc0 : l0.length ≤ c0) (h : withylaw28_counted.f l0 = some r) :
    Calls Tryz.prog 32 #[.slice A0 l0.length c0] w fun e w' => e = .returned (.string r) ∧ Below w.heap.size w w' := by
  cases l0 with
  | nil => exact absurd h (by simp [withylaw28_counted.f])
  | cons F ws =>
    simp only [withylaw28_counted.f] at h
    split at h
    · rename_i hs
      obtain rfl := Option.some.inj h
      exact Go.Proofs.YtlpibobpfafooaaGreatDoor.H.counted_any A0 c0 F ws w hr0 hc0 hs.1 hs.2
    · exact absurd h (by simp)

/-! ### withylaw28_decimal: function 33 -/
def withylaw28_decimal.f (a0 : ByteArray) : Option (Int × Bool) := some ((Go.Proofs.Wy.numberL a0.data.toList).getD 0, (Go.Proofs.Wy.numberL a0.data.toList).isSome)
theorem withylaw28_decimal.calls (a0 : ByteArray) (r1 : Int) (r2 : Bool) (w : World) (h : withylaw28_decimal.f a0 = some (r1, r2)) :
    Calls Tryz.prog 33 #[.string a0] w fun e w' => e = .returned (.tuple #[.int .i64 r1, .bool r2]) ∧ Drawn0 w w' := by
  unfold withylaw28_decimal.f at h
  simp only [Option.some.injEq, Prod.mk.injEq] at h
  obtain ⟨rfl, rfl⟩ := h
  have hs := Go.Proofs.YtlpibobpfafooaaGreatDoor.SpR.decimal_spec a0.data.toList
  rw [Go.Proofs.YtlpibobpfafooaaGreatDoor.SpQ.B_list] at hs
  exact Go.Proofs.YtlpibobpfafooaaGreatDoor.PR.withylaw28_decimal.calls _ a0 _ _ w hs

/-! ### withylaw28_bytes: function 34 -/
def withylaw28_bytes.f (a0 : ByteArray) : Option (ByteArray × Bool) := if a0.size ≤ 1000000 then some (⟨((Go.Proofs.Wy.unhexL a0.data.toList).getD []).toArray⟩, (Go.Proofs.Wy.unhexL a0.data.toList).isSome) else none
theorem withylaw28_bytes.calls (a0 : ByteArray) (r1 : ByteArray) (r2 : Bool) (w : World) (h : withylaw28_bytes.f a0 = some (r1, r2)) :
    Calls Tryz.prog 34 #[.string a0] w fun e w' => e = .returned (.tuple #[.string r1, .bool r2]) ∧ Below w.heap.size w w' := by
  unfold withylaw28_bytes.f at h
  split at h
  · rename_i hs
    simp only [Option.some.injEq, Prod.mk.injEq] at h
    obtain ⟨rfl, rfl⟩ := h
    have hz : a0.data.toList.length = a0.size := Array.length_toList
    have hs := Go.Proofs.YtlpibobpfafooaaGreatDoor.SpR.bytes_spec a0.data.toList (by omega)
    rw [Go.Proofs.YtlpibobpfafooaaGreatDoor.SpQ.B_list] at hs
    exact Go.Proofs.YtlpibobpfafooaaGreatDoor.PR.withylaw28_bytes.calls _ a0 _ _ w hs
  · exact absurd h (by simp)

/-! ### withyref1_Frame: function 35 -/
def withyref1_Frame.f (a0_0 : Int) (a0_1 : ByteArray) (a1 : Int) : Option (ByteArray × Int) := if a1 = 0 then some (⟨(Go.Proofs.Wy.frameL a0_0 a0_1.data.toList 0).1.toArray⟩, (Go.Proofs.Wy.frameL a0_0 a0_1.data.toList 0).2) else none
theorem withyref1_Frame.calls (a0_0 : Int) (a0_1 : ByteArray) (a1 : Int) (r1 : ByteArray) (r2 : Int) (w : World) (h : withyref1_Frame.f a0_0 a0_1 a1 = some (r1, r2)) :
    Calls Tryz.prog 35 #[.agg #[.int .i64 a0_0, .string a0_1], .int .i64 a1] w fun e w' => e = .returned (.tuple #[.string r1, .int .i64 r2]) ∧ Below w.heap.size w w' := by
  unfold withyref1_Frame.f at h
  split at h
  · rename_i hs
    subst hs
    simp only [Option.some.injEq, Prod.mk.injEq] at h
    obtain ⟨rfl, rfl⟩ := h
    exact Go.Proofs.YtlpibobpfafooaaGreatDoor.SpR.framer_any a0_0 a0_1 w
  · exact absurd h (by simp)

/-! ### withyref1_Unframe: function 36 -/
def withyref1_Unframe.f (a0 : ByteArray) : Option (Int × ByteArray × Int) := if a0.size ≤ 140737488355000 then some ((Go.Proofs.Wy.unframeL a0.data.toList).1, ⟨(Go.Proofs.Wy.unframeL a0.data.toList).2.1.toArray⟩, (Go.Proofs.Wy.unframeL a0.data.toList).2.2) else none
theorem withyref1_Unframe.calls (a0 : ByteArray) (r1 : Int) (r2 : ByteArray) (r3 : Int) (w : World) (h : withyref1_Unframe.f a0 = some (r1, r2, r3)) :
    Calls Tryz.prog 36 #[.string a0] w fun e w' => e = .returned (.tuple #[.agg #[.int .i64 r1, .string r2], .int .i64 r3]) ∧ Below w.heap.size w w' := by
  unfold withyref1_Unframe.f at h
  split at h
  · rename_i hs
    simp only [Option.some.injEq, Prod.mk.injEq] at h
    obtain ⟨rfl, rfl, rfl⟩ := h
    exact Go.Proofs.YtlpibobpfafooaaGreatDoor.SpR.unframer_any a0 w hs
  · exact absurd h (by simp)

end Go.Proofs.YtlpibobpfafooaaGreatDoor.PU
