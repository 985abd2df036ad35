-- Written by a program of this session (an adapted printer) out of the translation; Lean checks it.
import Derived.Test.YtbglcbjbjgjebaaPx0
import Derived.Test.YtbglcbjbjgjebaaPx4
namespace Go.Proofs.Ytbglcbjbjgjebaa.P
open Go.RowKit Go.Proofs.YtbglcbjbjgjebaaW.PrintWords Go.Proofs.YtbglcbjbjgjebaaW.PrintLast Go.Proofs.YtbglcbjbjgjebaaW.PrintMore
attribute [local go_sem] max2_int min2_int max_two min_two max_three min_three max_four min_four   -- for this text's walks alone
set_option linter.unusedVariables false
set_option linter.unusedSimpArgs false

/-! ### disk_Flush: function 11 -/
/- it leans on disk_Check.f -/
def flushF (l0_0 : List ByteArray) (l0_1 : List (S40)) (a0_2 : Int) (a0_3 : Bool) : List ByteArray × (List (S40)) × Int × Bool × Int :=
  if checkF l0_0 l0_1 a0_2 = 0 then
    if (powerF a0_2 a0_3).1 = 0 then (applyF l0_0 l0_1, [], (powerF a0_2 a0_3).2.1, (powerF a0_2 a0_3).2.2, 0) else (l0_0, l0_1, (powerF a0_2 a0_3).2.1, (powerF a0_2 a0_3).2.2, (powerF a0_2 a0_3).1)
  else ([], [], 0, false, 2)
def disk_Flush.f (l0_0 : List ByteArray) (l0_1 : List (S40)) (a0_2 : Int) (a0_3 : Bool) : Option (List ByteArray × (List (S40)) × Int × Bool × Int) := some (flushF l0_0 l0_1 a0_2 a0_3)
theorem disk_Flush.calls (A0_0 : Option Addr) (c0_0 : Nat) (l0_0 : List ByteArray) (A0_1 : Option Addr) (c0_1 : Nat) (l0_1 : List (S40)) (a0_2 : Int) (a0_3 : Bool) (r1 : List ByteArray) (r2 : List (S40)) (r3 : Int) (r4 : Bool) (r5 : Int) (w : World) (hr0_0 : Kd.C Kd.string w A0_0 l0_0.length l0_0) (hc0_0 : l0_0.length ≤ c0_0) (hr0_1 : Kd.C k40 w A0_1 l0_1.length l0_1) (hc0_1 : l0_1.length ≤ c0_1) (h : disk_Flush.f l0_0 l0_1 a0_2 a0_3 = some (r1, r2, r3, r4, r5)) :
    Calls Try.prog 11 #[.agg #[.slice A0_0 l0_0.length c0_0, .slice A0_1 l0_1.length c0_1, .int .i64 a0_2, .bool a0_3]] w fun e w' => ∃ v0_ v1_ : Value, e = .returned (.tuple #[.agg #[v0_, v1_, .int .i64 r3, .bool r4], .int .i64 r5]) ∧ Kd.R Kd.string 9 w' w.heap.size (fun _ => True) v0_ r1 ∧ Kd.R k40 40 w' w.heap.size (fun _ => True) v1_ r2 ∧ Below w.heap.size w w' := by
  have h := Option.some.inj h
  unfold flushF at h
  by_cases c : checkF l0_0 l0_1 a0_2 = 0
  · rw [if_pos c] at h
    by_cases hp : (powerF a0_2 a0_3).1 = 0
    · rw [if_pos hp] at h
      simp only [Prod.mk.injEq] at h
      obtain ⟨e1, rfl, rfl, rfl, rfl⟩ := h
      exact Flush_yes A0_0 A0_1 c0_0 c0_1 l0_0 l0_1 a0_2 a0_3 w hr0_0 hc0_0 hr0_1 hc0_1 c _ _ (by rw [← hp]) r1 e1.symm
    · rw [if_neg hp] at h
      cases h
      exact Flush_no A0_0 A0_1 c0_0 c0_1 l0_0 l0_1 a0_2 a0_3 w hr0_0 hc0_0 hr0_1 hc0_1 c _ _ _ rfl hp
  · rw [if_neg c] at h
    cases h
    exact Flush_bad A0_0 A0_1 c0_0 c0_1 l0_0 l0_1 a0_2 a0_3 w hr0_0 hc0_0 hr0_1 hc0_1 (checkF_two c)


end Go.Proofs.Ytbglcbjbjgjebaa.P
