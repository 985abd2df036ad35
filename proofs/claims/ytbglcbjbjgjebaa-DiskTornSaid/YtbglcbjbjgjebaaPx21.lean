-- Written by a program of this session (an adapted printer) out of the translation; Lean checks it.
import Derived.Test.YtbglcbjbjgjebaaPx0
import Derived.Test.YtbglcbjbjgjebaaPx4
namespace Go.Proofs.Ytbglcbjbjgjebaa.P
open Go.RowKit Go.Proofs.YtbglcbjbjgjebaaW.PrintWords Go.Proofs.YtbglcbjbjgjebaaW.PrintLast Go.Proofs.YtbglcbjbjgjebaaW.PrintMore
attribute [local go_sem] max2_int min2_int max_two min_two max_three min_three max_four min_four   -- for this text's walks alone
set_option linter.unusedVariables false
set_option linter.unusedSimpArgs false

/-! ### disk_Crash: function 20 -/
/- it leans on disk_Check.f -/
def disk_Crash.f (l0_0 : List ByteArray) (l0_1 : List (S40)) (a0_2 : Int) (a0_3 : Bool) (l1 : List Bool) (a2 a3 : Int) : Option (List ByteArray × (List (S40)) × Int × Bool × Int) := some (if checkF l0_0 l0_1 a0_2 = 0 then (crashF l1 a2 (max 0 (min a3 128)).toNat l0_0 l0_1, [], -1, false, 0) else ([], [], 0, false, 2))
theorem disk_Crash.calls (A0_0 : Option Addr) (c0_0 : Nat) (l0_0 : List ByteArray) (A0_1 : Option Addr) (c0_1 : Nat) (l0_1 : List (S40)) (a0_2 : Int) (a0_3 : Bool) (A1 : Option Addr) (c1 : Nat) (l1 : List Bool) (a2 a3 : Int) (r1 : List ByteArray) (r2 : List (S40)) (r3 : Int) (r4 : Bool) (r5 : Int) (w : World) (hr0_0 : Kd.C Kd.string w A0_0 l0_0.length l0_0) (hc0_0 : l0_0.length ≤ c0_0) (hr0_1 : Kd.C k40 w A0_1 l0_1.length l0_1) (hc0_1 : l0_1.length ≤ c0_1) (hr1 : Kd.C Kd.bool w A1 l1.length l1) (hc1 : l1.length ≤ c1) (h : disk_Crash.f l0_0 l0_1 a0_2 a0_3 l1 a2 a3 = some (r1, r2, r3, r4, r5)) :
    Calls Try.prog 20 #[.agg #[.slice A0_0 l0_0.length c0_0, .slice A0_1 l0_1.length c0_1, .int .i64 a0_2, .bool a0_3], .slice A1 l1.length c1, .int .i64 a2, .int .i64 a3] w fun e w' => ∃ v0_ v1_ : Value, e = .returned (.tuple #[.agg #[v0_, v1_, .int .i64 r3, .bool r4], .int .i64 r5]) ∧ Kd.R Kd.string 9 w' w.heap.size (fun _ => True) v0_ r1 ∧ Kd.R k40 40 w' w.heap.size (fun _ => True) v1_ r2 ∧ Below w.heap.size w w' := by
  have h := Option.some.inj h
  by_cases c : checkF l0_0 l0_1 a0_2 = 0
  · rw [if_pos c] at h
    cases h
    exact Crash_good A0_0 A0_1 c0_0 c0_1 l0_0 l0_1 a0_2 a0_3 A1 c1 l1 a2 a3 w hr0_0 hc0_0 hr0_1 hc0_1 hr1 c _ (by omega) (by omega)
  · rw [if_neg c] at h
    cases h
    exact Crash_bad A0_0 A0_1 c0_0 c0_1 l0_0 l0_1 a0_2 a0_3 A1 c1 l1 a2 a3 w hr0_0 hc0_0 hr0_1 hc0_1 hr1 (checkF_two c)


end Go.Proofs.Ytbglcbjbjgjebaa.P
