-- Written by a program of this session (an adapted printer) out of the translation; Lean checks it.
import Derived.Test.YtbglcbjbjgjebaaPx0
import Derived.Test.YtbglcbjbjgjebaaPx4
namespace Go.Proofs.Ytbglcbjbjgjebaa.P
open Go.RowKit Go.Proofs.YtbglcbjbjgjebaaW.PrintWords Go.Proofs.YtbglcbjbjgjebaaW.PrintLast Go.Proofs.YtbglcbjbjgjebaaW.PrintMore
attribute [local go_sem] max2_int min2_int max_two min_two max_three min_three max_four min_four   -- for this text's walks alone
set_option linter.unusedVariables false
set_option linter.unusedSimpArgs false

/-! ### disk_Held: function 22 -/
/- it leans on disk_Check.f -/
def disk_Held.f (l0_0 : List ByteArray) (l0_1 : List (S40)) (a0_2 : Int) (a0_3 : Bool) : Option (List ByteArray × Int) := some (if checkF l0_0 l0_1 a0_2 = 0 then (applyF l0_0 l0_1, 0) else ([], 2))
theorem disk_Held.calls (A0_0 : Option Addr) (c0_0 : Nat) (l0_0 : List ByteArray) (A0_1 : Option Addr) (c0_1 : Nat) (l0_1 : List (S40)) (a0_2 : Int) (a0_3 : Bool) (r1 : List ByteArray) (r2 : Int) (w : World) (hr0_0 : Kd.C Kd.string w A0_0 l0_0.length l0_0) (hc0_0 : l0_0.length ≤ c0_0) (hr0_1 : Kd.C k40 w A0_1 l0_1.length l0_1) (hc0_1 : l0_1.length ≤ c0_1) (h : disk_Held.f l0_0 l0_1 a0_2 a0_3 = some (r1, r2)) :
    Calls Try.prog 22 #[.agg #[.slice A0_0 l0_0.length c0_0, .slice A0_1 l0_1.length c0_1, .int .i64 a0_2, .bool a0_3]] w fun e w' => ∃ v0_ : Value, e = .returned (.tuple #[v0_, .int .i64 r2]) ∧ Kd.R Kd.string 9 w' w.heap.size (fun _ => True) v0_ r1 ∧ Below w.heap.size w w' := by
  have h := Option.some.inj h
  by_cases c : checkF l0_0 l0_1 a0_2 = 0
  · rw [if_pos c] at h
    cases h
    exact Held_good A0_0 A0_1 c0_0 c0_1 l0_0 l0_1 a0_2 a0_3 w hr0_0 hc0_0 hr0_1 hc0_1 c _ rfl
  · rw [if_neg c] at h
    cases h
    exact Held_bad A0_0 A0_1 c0_0 c0_1 l0_0 l0_1 a0_2 a0_3 w hr0_0 hc0_0 hr0_1 hc0_1 (checkF_two c)


end Go.Proofs.Ytbglcbjbjgjebaa.P
