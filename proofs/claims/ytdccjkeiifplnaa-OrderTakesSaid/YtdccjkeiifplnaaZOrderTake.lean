/- What is taken into right seats: the search finds the place; all other seats stay. -/
import Derived.Test.YtdccjkeiifplnaaZOrder
set_option linter.unusedVariables false
set_option linter.unusedSimpArgs false
namespace Go.Proofs.Ytdccjkeiifplnaa.Pure
open Go.RowKit Go.Proofs.Ytdccjkeiifplnaa.P Go.Proofs.YtdccjkeiifplnaaW.PrintWords Go.Proofs.YtdccjkeiifplnaaW.PrintLast Go.Proofs.YtdccjkeiifplnaaW.PrintMore
theorem sorted_lt {l : List Seat} (h : sorted l) {i j : Nat} (hij : i < j) (hj : j < l.length) : (l[i]'(by omega)).f0 < l[j].f0 := List.pairwise_iff_getElem.mp h i j (by omega) hj hij
theorem bsL_spec (l : List Seat) (t : Int) (hs : sorted l) (d : Nat) : ∀ lo hi, hi - lo ≤ d → lo ≤ hi → (hh : hi ≤ l.length) → (∀ j, (h : j < l.length) → j < lo → l[j].f0 < t) → (∀ j, (h : j < l.length) → hi ≤ j → t ≤ l[j].f0) →
    (∀ j, (h : j < l.length) → j < bsL l t lo hi → l[j].f0 < t) ∧ (∀ j, (h : j < l.length) → bsL l t lo hi ≤ j → t ≤ l[j].f0) := by
  induction d with
  | zero =>
    intro lo hi h1 h2 hh hA hB
    rw [bsL_stop (by omega)]
    exact ⟨hA, fun j h hj => hB j h (by omega)⟩
  | succ d ih =>
    intro lo hi h1 h2 hh hA hB
    by_cases h : lo < hi
    · have hm : (lo + hi) / 2 < l.length := by omega
      by_cases c : (rd_T38 l (((lo + hi) / 2 : Nat) : Int)).f0 < t
      · rw [bsL_up h c]
        rw [rdS_nat l _ hm] at c
        refine ih _ _ (by omega) (by omega) hh (fun j hj h3 => ?_) hB
        by_cases e : j = (lo + hi) / 2
        · subst e; exact c
        · have := sorted_lt hs (show j < (lo + hi) / 2 by omega) hm
          omega
      · rw [bsL_down h c]
        rw [rdS_nat l _ hm] at c
        refine ih _ _ (by omega) (by omega) (by omega) hA (fun j hj h3 => ?_)
        by_cases e : j = (lo + hi) / 2
        · subst e; omega
        · have := sorted_lt hs (show (lo + hi) / 2 < j by omega) hj
          omega
    · rw [bsL_stop h]
      exact ⟨hA, fun j h3 hj => hB j h3 (by omega)⟩
theorem take_split (l : List Seat) (x : Seat) (hs : sorted l) : ∃ A M C : List Seat, l = A ++ (M ++ C) ∧ takeF l x = A ++ x :: C ∧ (∀ a ∈ A, a.f0 < x.f0) ∧ (∀ c ∈ C, x.f0 < c.f0) ∧ (M = [] ∨ ∃ s, M = [s] ∧ s.f0 = x.f0) := by
  have hle := bsL_le l x.f0 l.length 0 l.length (by omega) (Nat.zero_le _)
  obtain ⟨h1, h2⟩ := bsL_spec l x.f0 hs l.length 0 l.length (by omega) (Nat.zero_le _) (Nat.le_refl _) (fun j _ hj => absurd hj (Nat.not_lt_zero _)) (fun j h hj => by omega)
  obtain ⟨i, hi⟩ : ∃ i, bsF l x.f0 = i := ⟨_, rfl⟩
  have hi' : bsL l x.f0 0 l.length = i := hi
  rw [hi'] at h1 h2 hle
  have hA : ∀ a ∈ l.take i, a.f0 < x.f0 := by
    intro a ha
    obtain ⟨j, hj, rfl⟩ := List.getElem_of_mem ha
    rw [List.length_take] at hj
    rw [List.getElem_take]
    exact h1 j (by omega) (by omega)
  unfold takeF bsI
  rw [hi]
  by_cases c : i < l.length
  · have ed : l.drop i = l[i] :: l.drop (i + 1) := List.drop_eq_getElem_cons c
    have hC0 : ∀ s ∈ l.drop (i + 1), l[i].f0 < s.f0 := by
      intro s hs'
      obtain ⟨j, hj, rfl⟩ := List.getElem_of_mem hs'
      rw [List.length_drop] at hj
      rw [List.getElem_drop]
      exact sorted_lt hs (by omega) (by omega)
    have h2i := h2 i c (Nat.le_refl _)
    rw [decide_eq_true c, Bool.true_and, rdS_nat l i c]
    by_cases e : l[i].f0 = x.f0
    · rw [beq_iff_eq.mpr e, if_pos rfl]
      refine ⟨l.take i, [l[i]], l.drop (i + 1), by rw [List.singleton_append, ← ed, List.take_append_drop], ?_, hA, fun s h => by have := hC0 s h; omega, .inr ⟨_, rfl, e⟩⟩
      rw [List.set_eq_take_append_cons_drop, if_pos c]
    · rw [beq_eq_false_iff_ne.mpr e, if_neg (by decide)]
      refine ⟨l.take i, [], l.drop i, by rw [List.nil_append, List.take_append_drop], rfl, hA, fun s h => ?_, .inl rfl⟩
      rw [ed] at h
      rcases List.mem_cons.mp h with rfl | h
      · omega
      · have := hC0 s h; omega
  · rw [decide_eq_false c, Bool.false_and, if_neg (by decide)]
    refine ⟨l.take i, [], l.drop i, by rw [List.nil_append, List.take_append_drop], rfl, hA, fun s h => ?_, .inl rfl⟩
    rw [List.drop_eq_nil_of_le (by omega)] at h
    cases h
theorem find_cons (x : Seat) (B : List Seat) (r : Int) : findS (x :: B) r = if x.f0 = r then some x else findS B r := by
  unfold findS
  rw [List.find?_cons]
  by_cases c : x.f0 = r
  · rw [if_pos c, beq_iff_eq.mpr c]
  · rw [if_neg c, beq_eq_false_iff_ne.mpr c]
theorem find_mem {l : List Seat} {r : Int} {s : Seat} (h : findS l r = some s) : s ∈ l ∧ s.f0 = r := by
  unfold findS at h
  exact ⟨List.mem_of_find?_eq_some h, by have := List.find?_some h; simpa using this⟩
theorem same_row (l : List Seat) (d : Nat) : ∀ i : Nat, i + d = l.length → l.length ≤ 1000000000 → Ev (fun k => spoorref14_Same.l0 k l l (l.length : Int) i) true := by
  induction d with
  | zero =>
    intro i hi hl
    refine Ev.step (fun k => ?_) (Ev.now _)
    simp only [spoorref14_Same.l0]
    rw [if_neg (by omega)]
  | succ d ih =>
    intro i hi hl
    refine Ev.step (fun k => ?_) (ih (i + 1) (by omega) hl)
    simp only [spoorref14_Same.l0]
    rw [if_pos (by omega), if_pos (by omega), if_pos (by omega), if_pos (by omega), wrap_up i (by omega), if_neg (by simp)]
theorem Same_refl (l : List Seat) (hl : l.length ≤ 1000000000) : Ev (fun k => spoorref14_Same.f k l l) true := by
  unfold spoorref14_Same.f
  simp only [if_true]
  exact same_row l l.length 0 (by omega) hl
end Go.Proofs.Ytdccjkeiifplnaa.Pure
