-- Written by a program of this session (an adapted printer) out of the translation; Lean checks it.
import Derived.Test.YtbglcbjbjgjebaaPx0
import Derived.Test.YtbglcbjbjgjebaaPx4
namespace Go.Proofs.Ytbglcbjbjgjebaa.P
open Go.RowKit Go.Proofs.YtbglcbjbjgjebaaW.PrintWords Go.Proofs.YtbglcbjbjgjebaaW.PrintLast Go.Proofs.YtbglcbjbjgjebaaW.PrintMore
attribute [local go_sem] max2_int min2_int max_two min_two max_three min_three max_four min_four   -- for this text's walks alone
set_option linter.unusedVariables false
set_option linter.unusedSimpArgs false

/-! ### disk_Read: function 13 -/
/- it leans on disk_Check.f -/
def readF (l0_0 : List ByteArray) (l0_1 : List (S40)) (a0_2 : Int) (a0_3 : Bool) (a1 : Int) : ByteArray × Int :=
  if checkF l0_0 l0_1 a0_2 = 0 then if a0_3 = true then (⟨#[]⟩, 9) else if hasF l0_0.length a1 = false then (⟨#[]⟩, 1) else (holdsF l0_0 l0_1 a1, 0) else (⟨#[]⟩, 2)
def disk_Read.f (l0_0 : List ByteArray) (l0_1 : List (S40)) (a0_2 : Int) (a0_3 : Bool) (a1 : Int) : Option (ByteArray × Int) := some (readF l0_0 l0_1 a0_2 a0_3 a1)
theorem disk_Read.calls (A0_0 : Option Addr) (c0_0 : Nat) (l0_0 : List ByteArray) (A0_1 : Option Addr) (c0_1 : Nat) (l0_1 : List (S40)) (a0_2 : Int) (a0_3 : Bool) (a1 : Int) (r1 : ByteArray) (r2 : Int) (w : World) (hr0_0 : Kd.C Kd.string w A0_0 l0_0.length l0_0) (hc0_0 : l0_0.length ≤ c0_0) (hr0_1 : Kd.C k40 w A0_1 l0_1.length l0_1) (hc0_1 : l0_1.length ≤ c0_1) (h : disk_Read.f l0_0 l0_1 a0_2 a0_3 a1 = some (r1, r2)) :
    Calls Try.prog 13 #[.agg #[.slice A0_0 l0_0.length c0_0, .slice A0_1 l0_1.length c0_1, .int .i64 a0_2, .bool a0_3], .int .i64 a1] w fun e w' => e = .returned (.tuple #[.string r1, .int .i64 r2]) ∧ Below w.heap.size w w' := by
  have h := Option.some.inj h
  unfold readF at h
  by_cases c : checkF l0_0 l0_1 a0_2 = 0
  · rw [if_pos c] at h
    cases a0_3 with
    | true =>
      rw [if_pos rfl] at h
      cases h
      exact Read_off A0_0 A0_1 c0_0 c0_1 l0_0 l0_1 _ a1 w hr0_0 hc0_0 hr0_1 hc0_1 c
    | false =>
      rw [if_neg (by decide)] at h
      cases hh : hasF l0_0.length a1 with
      | false =>
        rw [hh, if_pos rfl] at h
        cases h
        exact Read_range A0_0 A0_1 c0_0 c0_1 l0_0 l0_1 _ a1 w hr0_0 hc0_0 hr0_1 hc0_1 c hh
      | true =>
        rw [hh, if_neg (by decide)] at h
        cases h
        exact Read_good A0_0 A0_1 c0_0 c0_1 l0_0 l0_1 _ a1 w hr0_0 hc0_0 hr0_1 hc0_1 c hh
  · rw [if_neg c] at h
    cases h
    exact Read_bad A0_0 A0_1 c0_0 c0_1 l0_0 l0_1 a0_2 a0_3 a1 w hr0_0 hc0_0 hr0_1 hc0_1 (checkF_two c)


end Go.Proofs.Ytbglcbjbjgjebaa.P
