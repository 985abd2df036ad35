/- Several frames, one behind the other: what is read of them, whole and cut; and of a number's bytes that are cut. -/
import Derived.Test.YtbeinlllhpcokaaFrame
set_option linter.unusedVariables false
set_option linter.unusedSimpArgs false
namespace Go.Proofs.Ytbeinlllhpcokaa.Pure
open Go.RowKit Go.Proofs.Ytbeinlllhpcokaa.P Go.Proofs.YtbeinlllhpcokaaW.PrintWords Go.Proofs.YtbeinlllhpcokaaW.PrintLast Go.Proofs.YtbeinlllhpcokaaW.PrintMore
/-- payloads' frames, one behind the other. -/
def cat : List ByteArray → ByteArray
  | [] => E0
  | p :: l => putS p ++ cat l
def good (l : List ByteArray) : Prop := l.length ≤ 20 ∧ ∀ p ∈ l, p.size ≤ 4096
instance (l : List ByteArray) : Decidable (good l) := inferInstanceAs (Decidable (_ ∧ _))
theorem B_E0 : B E0 = [] := rfl
theorem B_ext {s t : ByteArray} (h : B s = B t) : s = t := B_inj h
theorem app_assoc (a b c : ByteArray) : (a ++ b) ++ c = a ++ (b ++ c) := by apply B_inj; rw [B_app, B_app, B_app, B_app, List.append_assoc]
theorem E0_app (a : ByteArray) : E0 ++ a = a := by apply B_inj; rw [B_app, B_E0, List.nil_append]
theorem app_E0 (a : ByteArray) : a ++ E0 = a := by apply B_inj; rw [B_app, B_E0, List.append_nil]
theorem cat_snoc (l : List ByteArray) (p : ByteArray) : cat (l ++ [p]) = cat l ++ putS p := by
  induction l with
  | nil => show putS p ++ E0 = E0 ++ putS p; rw [E0_app, app_E0]
  | cons q l ih => show putS q ++ cat (l ++ [p]) = (putS q ++ cat l) ++ putS p; rw [ih, app_assoc]
theorem putS_le (p : ByteArray) (h : p.size ≤ 4096) : (putS p).size ≤ 4110 := by rw [putS_size]; have := nb_len64 p.size (by omega); omega
theorem cat_le (l : List ByteArray) (h : ∀ p ∈ l, p.size ≤ 4096) : (cat l).size ≤ 4110 * l.length := by
  induction l with
  | nil => exact Nat.zero_le _
  | cons p l ih =>
    show (putS p ++ cat l).size ≤ _
    rw [ByteArray.size_append, List.length_cons]
    have := ih (fun q hq => h q (List.mem_cons_of_mem _ hq))
    have := putS_le p (h p (by simp))
    omega
theorem nextS_E0 : ¬ (nextS E0).2.2 = 0 := fun h => by have := nextS_smaller E0 h; exact absurd this (Nat.not_lt_zero _)
/-- the frames of several payloads are just these. -/
theorem parse_cat (l : List ByteArray) (h : ∀ p ∈ l, p.size ≤ 4096) (m : ByteArray) (hm : ¬ (nextS m).2.2 = 0) : (parse (cat l ++ m)).map (·.1) = l ∧ (parse (cat l ++ m)).length = l.length ∧ (l ≠ [] → ∃ x, (parse (cat l ++ m)).getLast? = some x ∧ x.2 = m) := by
  induction l with
  | nil =>
    have e0 : cat [] ++ m = m := E0_app m
    rw [e0, parse_no hm]
    exact ⟨rfl, rfl, fun h => absurd rfl h⟩
  | cons p l ih =>
    have hn := nextS_put p (cat l ++ m) (h p (by simp))
    have e : cat (p :: l) ++ m = putS p ++ (cat l ++ m) := by show (putS p ++ cat l) ++ m = _; rw [app_assoc]
    obtain ⟨i1, i2, i3⟩ := ih (fun q hq => h q (List.mem_cons_of_mem _ hq))
    rw [e]
    have hy := parse_yes (s := putS p ++ (cat l ++ m)) (by rw [hn])
    rw [hn] at hy
    rw [hy]
    refine ⟨by simp [i1], by simp [i2], fun _ => ?_⟩
    by_cases hl : l = []
    · subst hl
      have e2 : cat [] ++ m = m := E0_app m
      rw [e2, parse_no hm]
      exact ⟨_, rfl, rfl⟩
    · obtain ⟨x, hx, hx2⟩ := i3 hl
      refine ⟨x, ?_, hx2⟩
      rw [List.getLast?_cons, hx]
      rfl
end Go.Proofs.Ytbeinlllhpcokaa.Pure
