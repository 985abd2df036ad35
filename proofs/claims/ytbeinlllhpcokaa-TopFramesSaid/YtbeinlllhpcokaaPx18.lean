-- Written by a program of this session (an adapted printer) out of the translation; Lean checks it.
import Derived.Test.YtbeinlllhpcokaaPx0
import Derived.Test.YtbeinlllhpcokaaPx14
namespace Go.Proofs.Ytbeinlllhpcokaa.P
open Go.RowKit Go.Proofs.YtbeinlllhpcokaaW.PrintWords Go.Proofs.YtbeinlllhpcokaaW.PrintLast Go.Proofs.YtbeinlllhpcokaaW.PrintMore
attribute [local go_sem] max2_int min2_int max_two min_two max_three min_three max_four min_four   -- for this text's walks alone
set_option linter.unusedVariables false
set_option linter.unusedSimpArgs false

/-! ### disk_Flush: function 7 -/
/- it leans on disk_Check.f -/
def flushF (l0_0 : List ByteArray) (l0_1 : List (S61)) (a0_2 : Int) (a0_3 : Bool) : List ByteArray × (List (S61)) × Int × Bool × Int :=
  if checkF l0_0 l0_1 a0_2 = 0 then
    if (powerF a0_2 a0_3).1 = 0 then (applyF l0_0 l0_1, [], (powerF a0_2 a0_3).2.1, (powerF a0_2 a0_3).2.2, 0) else (l0_0, l0_1, (powerF a0_2 a0_3).2.1, (powerF a0_2 a0_3).2.2, (powerF a0_2 a0_3).1)
  else ([], [], 0, false, 2)
def disk_Flush.f (l0_0 : List ByteArray) (l0_1 : List (S61)) (a0_2 : Int) (a0_3 : Bool) : Option (List ByteArray × (List (S61)) × Int × Bool × Int) := some (flushF l0_0 l0_1 a0_2 a0_3)
theorem disk_Flush.calls (A0_0 : Option Addr) (c0_0 : Nat) (l0_0 : List ByteArray) (A0_1 : Option Addr) (c0_1 : Nat) (l0_1 : List (S61)) (a0_2 : Int) (a0_3 : Bool) (r1 : List ByteArray) (r2 : List (S61)) (r3 : Int) (r4 : Bool) (r5 : Int) (w : World) (hr0_0 : Kd.C Kd.string w A0_0 l0_0.length l0_0) (hc0_0 : l0_0.length ≤ c0_0) (hr0_1 : Kd.C k61 w A0_1 l0_1.length l0_1) (hc0_1 : l0_1.length ≤ c0_1) (h : disk_Flush.f l0_0 l0_1 a0_2 a0_3 = some (r1, r2, r3, r4, r5)) :
    Calls Try.prog 7 #[.agg #[.slice A0_0 l0_0.length c0_0, .slice A0_1 l0_1.length c0_1, .int .i64 a0_2, .bool a0_3]] w fun e w' => ∃ v0_ v1_ : Value, e = .returned (.tuple #[.agg #[v0_, v1_, .int .i64 r3, .bool r4], .int .i64 r5]) ∧ Kd.R Kd.string 9 w' w.heap.size (fun _ => True) v0_ r1 ∧ Kd.R k61 61 w' w.heap.size (fun _ => True) v1_ r2 ∧ Below w.heap.size w w' := by
  have h := Option.some.inj h
  unfold flushF at h
  by_cases c : checkF l0_0 l0_1 a0_2 = 0
  · rw [if_pos c] at h
    by_cases hp : (powerF a0_2 a0_3).1 = 0
    · rw [if_pos hp] at h
      simp only [Prod.mk.injEq] at h
      obtain ⟨e1, rfl, rfl, rfl, rfl⟩ := h
      exact Flush_yes A0_0 A0_1 c0_0 c0_1 l0_0 l0_1 a0_2 a0_3 w hr0_0 hc0_0 hr0_1 hc0_1 c _ _ (by rw [← hp]) r1 e1.symm
    · rw [if_neg hp] at h
      cases h
      exact Flush_no A0_0 A0_1 c0_0 c0_1 l0_0 l0_1 a0_2 a0_3 w hr0_0 hc0_0 hr0_1 hc0_1 c _ _ _ rfl hp
  · rw [if_neg c] at h
    cases h
    exact Flush_bad A0_0 A0_1 c0_0 c0_1 l0_0 l0_1 a0_2 a0_3 w hr0_0 hc0_0 hr0_1 hc0_1 (checkF_two c)


/-! ### disk_Write: function 8 -/
/- it leans on disk_Check.f -/
def writeF (l0_0 : List ByteArray) (l0_1 : List (S61)) (a0_2 : Int) (a0_3 : Bool) (a1 : Int) (a2 : ByteArray) : List ByteArray × (List (S61)) × Int × Bool × Int :=
  if checkF l0_0 l0_1 a0_2 = 0 then
    if a0_3 = true then (l0_0, l0_1, a0_2, a0_3, 9) else if hasF l0_0.length a1 = false then (l0_0, l0_1, a0_2, a0_3, 1) else if ¬ a2.size = 128 then (l0_0, l0_1, a0_2, a0_3, 11)
    else if l0_1.length = 4096 then (l0_0, l0_1, a0_2, a0_3, 8) else (l0_0, l0_1 ++ [⟨a1, a2⟩], (powerF a0_2 a0_3).2.1, (powerF a0_2 a0_3).2.2, (powerF a0_2 a0_3).1)
  else ([], [], 0, false, 2)
def disk_Write.f (l0_0 : List ByteArray) (l0_1 : List (S61)) (a0_2 : Int) (a0_3 : Bool) (a1 : Int) (a2 : ByteArray) : Option (List ByteArray × (List (S61)) × Int × Bool × Int) := some (writeF l0_0 l0_1 a0_2 a0_3 a1 a2)
theorem disk_Write.calls (A0_0 : Option Addr) (c0_0 : Nat) (l0_0 : List ByteArray) (A0_1 : Option Addr) (c0_1 : Nat) (l0_1 : List (S61)) (a0_2 : Int) (a0_3 : Bool) (a1 : Int) (a2 : ByteArray) (r1 : List ByteArray) (r2 : List (S61)) (r3 : Int) (r4 : Bool) (r5 : Int) (w : World) (hr0_0 : Kd.C Kd.string w A0_0 l0_0.length l0_0) (hc0_0 : l0_0.length ≤ c0_0) (hr0_1 : Kd.C k61 w A0_1 l0_1.length l0_1) (hc0_1 : l0_1.length ≤ c0_1) (h : disk_Write.f l0_0 l0_1 a0_2 a0_3 a1 a2 = some (r1, r2, r3, r4, r5)) :
    Calls Try.prog 8 #[.agg #[.slice A0_0 l0_0.length c0_0, .slice A0_1 l0_1.length c0_1, .int .i64 a0_2, .bool a0_3], .int .i64 a1, .string a2] w fun e w' => ∃ v0_ v1_ : Value, e = .returned (.tuple #[.agg #[v0_, v1_, .int .i64 r3, .bool r4], .int .i64 r5]) ∧ Kd.R Kd.string 9 w' w.heap.size (fun _ => True) v0_ r1 ∧ Kd.R k61 61 w' w.heap.size (fun _ => True) v1_ r2 ∧ Below w.heap.size w w' := by
  have h := Option.some.inj h
  unfold writeF at h
  by_cases c : checkF l0_0 l0_1 a0_2 = 0
  · rw [if_pos c] at h
    cases a0_3 with
    | true =>
      rw [if_pos rfl] at h
      cases h
      exact Write_off A0_0 A0_1 c0_0 c0_1 l0_0 l0_1 _ a1 a2 w hr0_0 hc0_0 hr0_1 hc0_1 c
    | false =>
      rw [if_neg (by decide)] at h
      cases hh : hasF l0_0.length a1 with
      | false =>
        rw [hh, if_pos rfl] at h
        cases h
        exact Write_range A0_0 A0_1 c0_0 c0_1 l0_0 l0_1 _ a1 a2 w hr0_0 hc0_0 hr0_1 hc0_1 c hh
      | true =>
        rw [hh, if_neg (by decide)] at h
        by_cases hd : a2.size = 128
        · rw [if_neg (fun z => z hd)] at h
          by_cases hl : l0_1.length = 4096
          · rw [if_pos hl] at h
            cases h
            exact Write_full A0_0 A0_1 c0_0 c0_1 l0_0 l0_1 _ a1 a2 w hr0_0 hc0_0 hr0_1 hc0_1 c hh hd hl
          · rw [if_neg hl] at h
            have hle := (checkF_in _ _ _ c).2.2
            simp only [Prod.mk.injEq] at h
            obtain ⟨rfl, e2, rfl, rfl, rfl⟩ := h
            exact Write_put A0_0 A0_1 c0_0 c0_1 l0_0 l0_1 a0_2 a1 a2 w hr0_0 hc0_0 hr0_1 hc0_1 c hh hd (by omega) r2 e2.symm _ _ _ rfl
        · rw [if_pos hd] at h
          cases h
          exact Write_long A0_0 A0_1 c0_0 c0_1 l0_0 l0_1 _ a1 a2 w hr0_0 hc0_0 hr0_1 hc0_1 c hh hd
  · rw [if_neg c] at h
    cases h
    exact Write_bad A0_0 A0_1 c0_0 c0_1 l0_0 l0_1 a0_2 a0_3 a1 a2 w hr0_0 hc0_0 hr0_1 hc0_1 (checkF_two c)


/-! ### disk_Crash: function 9 -/
/- it leans on disk_Check.f -/
def disk_Crash.f (l0_0 : List ByteArray) (l0_1 : List (S61)) (a0_2 : Int) (a0_3 : Bool) (l1 : List Bool) (a2 a3 : Int) : Option (List ByteArray × (List (S61)) × Int × Bool × Int) := some (if checkF l0_0 l0_1 a0_2 = 0 then (crashF l1 a2 (max 0 (min a3 128)).toNat l0_0 l0_1, [], -1, false, 0) else ([], [], 0, false, 2))
theorem disk_Crash.calls (A0_0 : Option Addr) (c0_0 : Nat) (l0_0 : List ByteArray) (A0_1 : Option Addr) (c0_1 : Nat) (l0_1 : List (S61)) (a0_2 : Int) (a0_3 : Bool) (A1 : Option Addr) (c1 : Nat) (l1 : List Bool) (a2 a3 : Int) (r1 : List ByteArray) (r2 : List (S61)) (r3 : Int) (r4 : Bool) (r5 : Int) (w : World) (hr0_0 : Kd.C Kd.string w A0_0 l0_0.length l0_0) (hc0_0 : l0_0.length ≤ c0_0) (hr0_1 : Kd.C k61 w A0_1 l0_1.length l0_1) (hc0_1 : l0_1.length ≤ c0_1) (hr1 : Kd.C Kd.bool w A1 l1.length l1) (hc1 : l1.length ≤ c1) (h : disk_Crash.f l0_0 l0_1 a0_2 a0_3 l1 a2 a3 = some (r1, r2, r3, r4, r5)) :
    Calls Try.prog 9 #[.agg #[.slice A0_0 l0_0.length c0_0, .slice A0_1 l0_1.length c0_1, .int .i64 a0_2, .bool a0_3], .slice A1 l1.length c1, .int .i64 a2, .int .i64 a3] w fun e w' => ∃ v0_ v1_ : Value, e = .returned (.tuple #[.agg #[v0_, v1_, .int .i64 r3, .bool r4], .int .i64 r5]) ∧ Kd.R Kd.string 9 w' w.heap.size (fun _ => True) v0_ r1 ∧ Kd.R k61 61 w' w.heap.size (fun _ => True) v1_ r2 ∧ Below w.heap.size w w' := by
  have h := Option.some.inj h
  by_cases c : checkF l0_0 l0_1 a0_2 = 0
  · rw [if_pos c] at h
    cases h
    exact Crash_good A0_0 A0_1 c0_0 c0_1 l0_0 l0_1 a0_2 a0_3 A1 c1 l1 a2 a3 w hr0_0 hc0_0 hr0_1 hc0_1 hr1 c _ (by omega) (by omega)
  · rw [if_neg c] at h
    cases h
    exact Crash_bad A0_0 A0_1 c0_0 c0_1 l0_0 l0_1 a0_2 a0_3 A1 c1 l1 a2 a3 w hr0_0 hc0_0 hr0_1 hc0_1 hr1 (checkF_two c)


/-! ### disk_Held: function 10 -/
/- it leans on disk_Check.f -/
def disk_Held.f (l0_0 : List ByteArray) (l0_1 : List (S61)) (a0_2 : Int) (a0_3 : Bool) : Option (List ByteArray × Int) := some (if checkF l0_0 l0_1 a0_2 = 0 then (applyF l0_0 l0_1, 0) else ([], 2))
theorem disk_Held.calls (A0_0 : Option Addr) (c0_0 : Nat) (l0_0 : List ByteArray) (A0_1 : Option Addr) (c0_1 : Nat) (l0_1 : List (S61)) (a0_2 : Int) (a0_3 : Bool) (r1 : List ByteArray) (r2 : Int) (w : World) (hr0_0 : Kd.C Kd.string w A0_0 l0_0.length l0_0) (hc0_0 : l0_0.length ≤ c0_0) (hr0_1 : Kd.C k61 w A0_1 l0_1.length l0_1) (hc0_1 : l0_1.length ≤ c0_1) (h : disk_Held.f l0_0 l0_1 a0_2 a0_3 = some (r1, r2)) :
    Calls Try.prog 10 #[.agg #[.slice A0_0 l0_0.length c0_0, .slice A0_1 l0_1.length c0_1, .int .i64 a0_2, .bool a0_3]] w fun e w' => ∃ v0_ : Value, e = .returned (.tuple #[v0_, .int .i64 r2]) ∧ Kd.R Kd.string 9 w' w.heap.size (fun _ => True) v0_ r1 ∧ Below w.heap.size w w' := by
  have h := Option.some.inj h
  by_cases c : checkF l0_0 l0_1 a0_2 = 0
  · rw [if_pos c] at h
    cases h
    exact Held_good A0_0 A0_1 c0_0 c0_1 l0_0 l0_1 a0_2 a0_3 w hr0_0 hc0_0 hr0_1 hc0_1 c _ rfl
  · rw [if_neg c] at h
    cases h
    exact Held_bad A0_0 A0_1 c0_0 c0_1 l0_0 l0_1 a0_2 a0_3 w hr0_0 hc0_0 hr0_1 hc0_1 (checkF_two c)


end Go.Proofs.Ytbeinlllhpcokaa.P
