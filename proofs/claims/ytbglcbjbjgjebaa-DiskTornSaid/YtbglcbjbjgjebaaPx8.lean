-- Written by a program of this session (an adapted printer) out of the translation; Lean checks it.
import Derived.Test.YtbglcbjbjgjebaaPx0
import Derived.Test.YtbglcbjbjgjebaaPx4
namespace Go.Proofs.Ytbglcbjbjgjebaa.P
open Go.RowKit Go.Proofs.YtbglcbjbjgjebaaW.PrintWords Go.Proofs.YtbglcbjbjgjebaaW.PrintLast Go.Proofs.YtbglcbjbjgjebaaW.PrintMore
attribute [local go_sem] max2_int min2_int max_two min_two max_three min_three max_four min_four   -- for this text's walks alone
set_option linter.unusedVariables false
set_option linter.unusedSimpArgs false

/-! ### disk_Write: function 9 -/
/- it leans on disk_Check.f -/
def writeF (l0_0 : List ByteArray) (l0_1 : List (S40)) (a0_2 : Int) (a0_3 : Bool) (a1 : Int) (a2 : ByteArray) : List ByteArray × (List (S40)) × Int × Bool × Int :=
  if checkF l0_0 l0_1 a0_2 = 0 then
    if a0_3 = true then (l0_0, l0_1, a0_2, a0_3, 9) else if hasF l0_0.length a1 = false then (l0_0, l0_1, a0_2, a0_3, 1) else if ¬ a2.size = 128 then (l0_0, l0_1, a0_2, a0_3, 11)
    else if l0_1.length = 4096 then (l0_0, l0_1, a0_2, a0_3, 8) else (l0_0, l0_1 ++ [⟨a1, a2⟩], (powerF a0_2 a0_3).2.1, (powerF a0_2 a0_3).2.2, (powerF a0_2 a0_3).1)
  else ([], [], 0, false, 2)
def disk_Write.f (l0_0 : List ByteArray) (l0_1 : List (S40)) (a0_2 : Int) (a0_3 : Bool) (a1 : Int) (a2 : ByteArray) : Option (List ByteArray × (List (S40)) × Int × Bool × Int) := some (writeF l0_0 l0_1 a0_2 a0_3 a1 a2)
theorem disk_Write.calls (A0_0 : Option Addr) (c0_0 : Nat) (l0_0 : List ByteArray) (A0_1 : Option Addr) (c0_1 : Nat) (l0_1 : List (S40)) (a0_2 : Int) (a0_3 : Bool) (a1 : Int) (a2 : ByteArray) (r1 : List ByteArray) (r2 : List (S40)) (r3 : Int) (r4 : Bool) (r5 : Int) (w : World) (hr0_0 : Kd.C Kd.string w A0_0 l0_0.length l0_0) (hc0_0 : l0_0.length ≤ c0_0) (hr0_1 : Kd.C k40 w A0_1 l0_1.length l0_1) (hc0_1 : l0_1.length ≤ c0_1) (h : disk_Write.f l0_0 l0_1 a0_2 a0_3 a1 a2 = some (r1, r2, r3, r4, r5)) :
    Calls Try.prog 9 #[.agg #[.slice A0_0 l0_0.length c0_0, .slice A0_1 l0_1.length c0_1, .int .i64 a0_2, .bool a0_3], .int .i64 a1, .string a2] w fun e w' => ∃ v0_ v1_ : Value, e = .returned (.tuple #[.agg #[v0_, v1_, .int .i64 r3, .bool r4], .int .i64 r5]) ∧ Kd.R Kd.string 9 w' w.heap.size (fun _ => True) v0_ r1 ∧ Kd.R k40 40 w' w.heap.size (fun _ => True) v1_ r2 ∧ Below w.heap.size w w' := by
  have h := Option.some.inj h
  unfold writeF at h
  by_cases c : checkF l0_0 l0_1 a0_2 = 0
  · rw [if_pos c] at h
    cases a0_3 with
    | true =>
      rw [if_pos rfl] at h
      cases h
      exact Write_off A0_0 A0_1 c0_0 c0_1 l0_0 l0_1 _ a1 a2 w hr0_0 hc0_0 hr0_1 hc0_1 c
    | false =>
      rw [if_neg (by decide)] at h
      cases hh : hasF l0_0.length a1 with
      | false =>
        rw [hh, if_pos rfl] at h
        cases h
        exact Write_range A0_0 A0_1 c0_0 c0_1 l0_0 l0_1 _ a1 a2 w hr0_0 hc0_0 hr0_1 hc0_1 c hh
      | true =>
        rw [hh, if_neg (by decide)] at h
        by_cases hd : a2.size = 128
        · rw [if_neg (fun z => z hd)] at h
          by_cases hl : l0_1.length = 4096
          · rw [if_pos hl] at h
            cases h
            exact Write_full A0_0 A0_1 c0_0 c0_1 l0_0 l0_1 _ a1 a2 w hr0_0 hc0_0 hr0_1 hc0_1 c hh hd hl
          · rw [if_neg hl] at h
            have hle := (checkF_in _ _ _ c).2.2
            simp only [Prod.mk.injEq] at h
            obtain ⟨rfl, e2, rfl, rfl, rfl⟩ := h
            exact Write_put A0_0 A0_1 c0_0 c0_1 l0_0 l0_1 a0_2 a1 a2 w hr0_0 hc0_0 hr0_1 hc0_1 c hh hd (by omega) r2 e2.symm _ _ _ rfl
        · rw [if_pos hd] at h
          cases h
          exact Write_long A0_0 A0_1 c0_0 c0_1 l0_0 l0_1 _ a1 a2 w hr0_0 hc0_0 hr0_1 hc0_1 c hh hd
  · rw [if_neg c] at h
    cases h
    exact Write_bad A0_0 A0_1 c0_0 c0_1 l0_0 l0_1 a0_2 a0_3 a1 a2 w hr0_0 hc0_0 hr0_1 hc0_1 (checkF_two c)


end Go.Proofs.Ytbglcbjbjgjebaa.P
