/- What is taken into right seats: the search finds the place; all other seats stay. -/
import Derived.Test.YtdccjkeiifplnaaZOrder
set_option linter.unusedVariables false
set_option linter.unusedSimpArgs false
namespace Go.Proofs.Ytdccjkeiifplnaa.Pure
open Go.RowKit Go.Proofs.Ytdccjkeiifplnaa.P Go.Proofs.YtdccjkeiifplnaaW.PrintWords Go.Proofs.YtdccjkeiifplnaaW.PrintLast Go.Proofs.YtdccjkeiifplnaaW.PrintMore
theorem sorted_lt {l : List Seat} (h : sorted l) {i j : Nat} (hij : i < j) (hj : j < l.length) : (l[i]'(by omega)).f0 < l[j].f0 := List.pairwise_iff_getElem.mp h i j (by omega) hj hij
theorem bsL_spec (l : List Seat) (t : Int) (hs : sorted l) (d : Nat) : ∀ lo hi, hi - lo ≤ d → lo ≤ hi → (hh : hi ≤ l.length) → (∀ j, (h : j < l.length) → j < lo → l[j].f0 < t) → (∀ j, (h : j < l.length) → hi ≤ j → t ≤ l[j].f0) →
    (∀ j, (h : j < l.length) → j < bsL l t lo hi → l[j].f0 < t) ∧ (∀ j, (h : j < l.length) → bsL l t lo hi ≤ j → t ≤ l[j].f0) := by
  induction d with
  | zero =>
    intro lo hi h1 h2 hh hA hB
    rw [bsL_stop (by omega)]
    exact ⟨hA, fun j h hj => hB j h (by omega)⟩
  | succ d ih =>
    intro lo hi h1 h2 hh hA hB
    by_cases h : lo < hi
    · have hm : (lo + hi) / 2 < l.length := by omega
      by_cases c : (rd_T38 l (((lo + hi) / 2 : Nat) : Int)).f0 < t
      · rw [bsL_up h c]
        rw [rdS_nat l _ hm] at c
        refine ih _ _ (by omega) (by omega) hh (fun j hj h3 => ?_) hB
        by_cases e : j = (lo + hi) / 2
        · subst e; exact c
        · have := sorted_lt hs (show j < (lo + hi) / 2 by omega) hm
          omega
      · rw [bsL_down h c]
        rw [rdS_nat l _ hm] at c
        refine ih _ _ (by omega) (by omega) (by omega) hA (fun j hj h3 => ?_)
        by_cases e : j = (lo + hi) / 2
        · subst e; omega
        · have := sorted_lt hs (show (lo + hi) / 2 < j by omega) hj
          omega
    · rw [bsL_stop h]
      exact ⟨hA, fun j h3 hj => hB j h3 (by omega)⟩
theorem take_split (l : List Seat) (x : Seat) (hs : sorted l) : ∃ A M C : List Seat, l = A ++ (M ++ C) ∧ takeF l x = A ++ x :: C ∧ (∀ a ∈ A, a.f0 < x.f0) ∧ (∀ c ∈ C, x.f0 < c.f0) ∧ (M = [] ∨ ∃ s, M = [s] ∧ s.f0 = x.f0) := by
  have hle := bsL_le l x.f0 l.length 0 l.length (by omega) (Nat.zero_le _)
  obtain ⟨h1, h2⟩ := bsL_spec l x.f0 hs l.length 0 l.length (by omega) (Nat.zero_le _) (Nat.le_refl _) (fun j _ hj => absurd hj (Nat.not_lt_zero _)) (fun j h hj => by omega)
  obtain ⟨i, hi⟩ : ∃ i, bsF l x.f0 = i := ⟨_, rfl⟩
  have hi' : bsL l x.f0 0 l.length = i := hi
  rw [hi'] at h1 h2 hle
  have hA : ∀ a ∈ l.take i, a.f0 < x.f0 := by
    intro a ha
    obtain ⟨j, hj, rfl⟩ := List.getElem_of_mem ha
    rw [List.length_take] at hj
    rw [List.getElem_take]
    exact h1 j (by omega) (by omega)
  unfold takeF bsI
  rw [hi]
  by_cases c : i < l.length
  · have ed : l.drop i = l[i] :: l.drop (i + 1) := List.drop_eq_getElem_cons c
    have hC0 : ∀ s ∈ l.drop (i + 1), l[i].f0 < s.f0 := by
      intro s hs'
      obtain ⟨j, hj, rfl⟩ := List.getElem_of_mem hs'
      rw [List.length_drop] at hj
      rw [List.getElem_drop]
      exact sorted_lt hs (by omega) (by omega)
    have h2i := h2 i c (Nat.le_refl _)
    rw [decide_eq_true c, Bool.true_and, rdS_nat l i c]
    by_cases e : l[i].f0 = x.f0
    · rw [beq_iff_eq.mpr e, if_pos rfl]
      refine ⟨l.take i, [l[i]], l.drop (i + 1), by rw [List.singleton_append, ← ed, List.take_append_drop], ?_, hA, fun s h => by have := hC0 s h; omega, .inr ⟨_, rfl, e⟩⟩
      rw [List.set_eq_take_append_cons_drop, if_pos c]
    · rw [beq_eq_false_iff_ne.mpr e, if_neg (by decide)]
      refine ⟨l.take i, [], l.drop i, by rw [List.nil_append, List.take_append_drop], rfl, hA, fun s h => ?_, .inl rfl⟩
      rw [ed] at h
      rcases List.mem_cons.mp h with rfl | h
      · omega
      · have := hC0 s h; omega
  · rw [decide_eq_false c, Bool.false_and, if_neg (by decide)]
    refine ⟨l.take i, [], l.drop i, by rw [List.nil_append, List.take_append_drop], rfl, hA, fun s h => ?_, .inl rfl⟩
    rw [List.drop_eq_nil_of_le (by omega)] at h
    cases h
theorem find_app (A B : List Seat) (r : Int) (h : ∀ a ∈ A, ¬ a.f0 = r) : findS (A ++ B) r = findS B r := by
  unfold findS
  rw [List.find?_append]
  have : A.find? (fun s => s.f0 == r) = none := by
    rw [List.find?_eq_none]
    intro a ha
    simpa using h a ha
  rw [this]
  rfl
theorem find_cons (x : Seat) (B : List Seat) (r : Int) : findS (x :: B) r = if x.f0 = r then some x else findS B r := by
  unfold findS
  rw [List.find?_cons]
  by_cases c : x.f0 = r
  · rw [if_pos c, beq_iff_eq.mpr c]
  · rw [if_neg c, beq_eq_false_iff_ne.mpr c]
theorem find_none (A : List Seat) (r : Int) (h : ∀ a ∈ A, ¬ a.f0 = r) : findS A r = none := by
  have := find_app A [] r h
  rw [List.append_nil] at this
  exact this
theorem find_take (l : List Seat) (x : Seat) (hs : sorted l) (r : Int) : findS (takeF l x) r = if x.f0 = r then some x else findS l r := by
  obtain ⟨A, M, C, e1, e2, hA, hC, hM⟩ := take_split l x hs
  rw [e2]
  by_cases c : x.f0 = r
  · rw [if_pos c, find_app A _ r (fun a ha => by have := hA a ha; omega), find_cons, if_pos c]
  · rw [if_neg c, e1]
    have key : findS (x :: C) r = findS (M ++ C) r := by
      rw [find_cons, if_neg c]
      rcases hM with rfl | ⟨s, rfl, hs'⟩
      · rfl
      · rw [List.singleton_append, find_cons, if_neg (by omega)]
    unfold findS at key ⊢
    rw [List.find?_append, List.find?_append, key]
theorem take_right (l : List Seat) (x : Seat) (hc : checkS l = 0) (hx : rightP x) (hfull : findS l x.f0 = none → l.length < 64) : checkS (takeF l x) = 0 ∧ (takeF l x).length = (if (findS l x.f0).isSome then l.length else l.length + 1) := by
  obtain ⟨h1, h2, h3⟩ := (checkS_iff l).mp hc
  obtain ⟨A, M, C, e1, e2, hA, hC, hM⟩ := take_split l x h3
  have hfM : (findS l x.f0).isSome = !M.isEmpty := by
    rw [e1, find_app A _ _ (fun a ha => by have := hA a ha; omega)]
    rcases hM with rfl | ⟨s, rfl, hs'⟩
    · rw [List.nil_append, find_none C _ (fun c hc => by have := hC c hc; omega)]; rfl
    · rw [List.singleton_append, find_cons, if_pos hs']; rfl
  have hlen : (takeF l x).length = (if (findS l x.f0).isSome then l.length else l.length + 1) := by
    rw [hfM, e2, e1]
    rcases hM with rfl | ⟨s, rfl, _⟩
    · simp only [List.isEmpty_nil, Bool.not_true, Bool.false_eq_true, if_false, List.nil_append, List.length_append, List.length_cons]; omega
    · simp only [List.isEmpty_cons, Bool.not_false, if_true, List.singleton_append, List.length_append, List.length_cons]
  refine ⟨(checkS_iff _).mpr ⟨?_, ?_, ?_⟩, hlen⟩
  · rw [hlen]
    cases hf : findS l x.f0 with
    | none => have := hfull hf; simp; omega
    | some s => simp; omega
  · rw [e2]
    intro s hs
    rcases List.mem_append.mp hs with h | h
    · exact h2 s (by rw [e1]; exact List.mem_append_left _ h)
    · rcases List.mem_cons.mp h with rfl | h
      · exact hx
      · exact h2 s (by rw [e1]; exact List.mem_append_right _ (List.mem_append_right _ h))
  · unfold sorted at h3 ⊢
    rw [e1, List.pairwise_append] at h3
    obtain ⟨p1, p2, p3⟩ := h3
    rw [List.pairwise_append] at p2
    rw [e2, List.pairwise_append, List.pairwise_cons]
    refine ⟨p1, ⟨hC, p2.2.1⟩, fun a ha b hb => ?_⟩
    rcases List.mem_cons.mp hb with rfl | hb
    · exact hA a ha
    · exact p3 a ha b (List.mem_append_right _ hb)
theorem seatOf_right (e : Event) (h : okEv e.f1 e.f2 e.f3) (h2 : 0 ≤ e.f2) : rightP (seatOf e) := by
  obtain ⟨h1, h3, h4, h5, h6, h7⟩ := h
  exact ⟨h1, h3, by show 1 ≤ e.f2; omega, h5, h6, h7⟩
theorem wrap_seq (a : Int) (h0 : 1 ≤ a) (h1 : a ≤ 1099511627776) : IntKind.u64.wrap (a - 1) = a - 1 := by
  obtain ⟨n, rfl⟩ : ∃ n : Nat, a = n + 1 := ⟨(a - 1).toNat, by omega⟩
  rw [show (n : Int) + 1 - 1 = (n : Int) by omega]
  have e : IntKind.u64.wrap (n : Int) = (n : Int) % 18446744073709551616 := by first | rfl | (unfold IntKind.wrap; rfl)
  rw [e]
  omega
theorem fits_room {l : List Seat} {e : Event} {h : Int} (hf : fitsF l e h = 0) : findS l e.f1 = none → l.length < 64 := by
  intro hn
  unfold fitsF at hf
  rw [hn] at hf
  simp only at hf
  by_cases c : l.length ≥ 64
  · exfalso
    revert hf
    rw [if_pos c]
    split
    · split
      · split <;> decide
      · decide
    · decide
  · omega
end Go.Proofs.Ytdccjkeiifplnaa.Pure
