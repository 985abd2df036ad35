/- The answers that each statement of the frames asks for are there; lists of texts that are one. -/
import Derived.Test.YthloehmpjemhlaaPx6
import Derived.Test.YthloehmpjemhlaaPx7
import Derived.Test.YthloehmpjemhlaaCrcEv
set_option linter.unusedVariables false
set_option linter.unusedSimpArgs false
namespace Go.Proofs.Ythloehmpjemhlaa.Pure
open Go.RowKit Go.Proofs.Ythloehmpjemhlaa.P Go.Proofs.YthloehmpjemhlaaW.PrintWords Go.Proofs.YthloehmpjemhlaaW.PrintLast
theorem lives_ev : Ev (fun k => spoorlaw04_lives.f k) true := by
  refine Ev.of (fun k => spoorlaw04_lives.mono k) (k := 120) ?_
  unfold spoorlaw04_lives.f
  simp only [ByteArray.toList_eq]
  decide +kernel
theorem rdOf_nat {α : Type} (d : α) (l : List α) (i : Nat) (h : i < l.length) : rdOf d l (i : Int) = l[i] := by
  unfold rdOf
  rw [Int.toNat_natCast, List.getD_eq_getElem?_getD, List.getElem?_eq_getElem h]
  rfl
theorem toList_eq_iff (a b : ByteArray) : a.toList = b.toList ↔ a = b := by
  rw [toList_B, toList_B]
  exact ⟨B_inj, fun h => by rw [h]⟩
theorem Same_l0 (l m : List ByteArray) (hl : l.length = m.length) (hb : l.length ≤ 9223372036854775806) (d : Nat) : ∀ i : Nat, i + d = l.length → (∀ j (h : j < i) (h1 : j < l.length) (h2 : j < m.length), l[j] = m[j]) → Ev (fun k => spoorref04_Same.l0 k l m (l.length : Int) i) (decide (l = m)) := by
  induction d with
  | zero =>
    intro i hi he
    have : l = m := List.ext_getElem hl (fun j h1 h2 => he j (by omega) h1 h2)
    rw [decide_eq_true this]
    refine Ev.step (fun k => ?_) (Ev.now _)
    simp only [spoorref04_Same.l0]
    rw [if_neg (by omega)]
  | succ d ih =>
    intro i hi he
    have h1 : i < l.length := by omega
    have h2 : i < m.length := by omega
    by_cases hc : l[i] = m[i]
    · refine Ev.step (fun k => ?_) (ih (i + 1) (by omega) (fun j hj a b => ?_))
      · simp only [spoorref04_Same.l0]
        rw [if_pos (by omega), if_pos (by omega), if_pos (by omega), if_pos (by omega), rdOf_nat _ _ i h1, rdOf_nat _ _ i h2, if_pos ((toList_eq_iff _ _).mpr hc), wrap_up i (by omega)]
      · rcases Nat.lt_or_ge j i with h | h
        · exact he j h a b
        · obtain rfl : j = i := by omega
          exact hc
    · have : ¬ l = m := fun e => hc (by subst e; rfl)
      rw [decide_eq_false this]
      refine Ev.step (fun k => ?_) (Ev.now _)
      simp only [spoorref04_Same.l0]
      rw [if_pos (by omega), if_pos (by omega), if_pos (by omega), if_pos (by omega), rdOf_nat _ _ i h1, rdOf_nat _ _ i h2, if_neg (fun z => hc ((toList_eq_iff _ _).mp z))]
theorem Same_ev (l m : List ByteArray) (hb : l.length ≤ 9223372036854775806) : Ev (fun k => spoorref04_Same.f k l m) (decide (l = m)) := by
  unfold spoorref04_Same.f
  by_cases h : l.length = m.length
  · have h' : (l.length : Int) = (m.length : Int) := by omega
    simp only [if_pos h']
    exact Same_l0 l m h hb l.length 0 (by omega) (fun j hj => absurd hj (by omega))
  · have h' : ¬ (l.length : Int) = (m.length : Int) := by omega
    have : ¬ l = m := fun e => h (by rw [e])
    simp only [if_neg h', decide_eq_false this]
    exact Ev.now _
end Go.Proofs.Ythloehmpjemhlaa.Pure
