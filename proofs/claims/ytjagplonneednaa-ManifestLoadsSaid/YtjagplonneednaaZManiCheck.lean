/- Which manifests are right: the program and the document say one thing. -/
import Derived.Test.YtjagplonneednaaZPx30013
import Derived.Test.YtjagplonneednaaZPx1014
import Derived.Test.YtjagplonneednaaZManiBytes
set_option linter.unusedVariables false
set_option linter.unusedSimpArgs false
namespace Go.Proofs.Ytjagplonneednaa.Pure
open Go.RowKit Go.Proofs.Ytjagplonneednaa.P Go.Proofs.YtjagplonneednaaW.PrintWords Go.Proofs.YtjagplonneednaaW.PrintLast Go.Proofs.YtjagplonneednaaW.PrintMore
def pa (l : List S56) (i : Nat) : S56 := l.getD i z56
theorem pa_at (l : List S56) (i : Nat) (h : i < l.length) : pa l i = l[i] := by unfold pa; rw [List.getD_eq_getElem?_getD, List.getElem?_eq_getElem h]; rfl
theorem rd_pa (l : List S56) (i : Nat) : rd_T56 l (i : Int) = pa l i := rfl
structure Ok (l : List S56) (i : Nat) : Prop where
  s0 : 0 ≤ (pa l i).f0
  s1 : (pa l i).f0 < 8
  t0 : 1 ≤ (pa l i).f1
  t1 : (pa l i).f1 ≤ 4611686018427387904
  m0 : -1 ≤ (pa l i).f2
  m1 : (pa l i).f2 ≤ 1048576
  last : (pa l i).f2 = -1 → i + 1 = l.length
  up : 0 < i → (pa l (i - 1)).f1 < (pa l i).f1
  other : ∀ j, j < i → ¬ (pa l j).f0 = (pa l i).f0
def AllOk (l : List S56) (i : Nat) : Prop := ∀ j, i ≤ j → j < l.length → Ok l j
theorem allOk_step {l : List S56} {i : Nat} (h : Ok l i) : AllOk l i ↔ AllOk l (i + 1) :=
  ⟨fun a j hj hl => a j (by omega) hl, fun a j hj hl => by
    by_cases e : i = j
    · subst e; exact h
    · exact a j (by omega) hl⟩
open Classical in
noncomputable def rightI (P : Prop) : Int := if P then 0 else 2
theorem rightI_yes {P : Prop} (h : P) : rightI P = 0 := by unfold rightI; exact if_pos h
theorem rightI_no {P : Prop} (h : ¬ P) : rightI P = 2 := by unfold rightI; exact if_neg h
theorem rightI_iff {P Q : Prop} (h : P ↔ Q) : rightI P = rightI Q := by rw [propext h]
theorem rightI_fail {l : List S56} {i : Nat} (hi : i < l.length) (h : ¬ Ok l i) : rightI (AllOk l i) = 2 := rightI_no fun a => h (a i (Nat.le_refl _) hi)
theorem mcheck_ev (l : List S56) (hl : l.length ≤ 8) (d : Nat) : ∀ (i : Nat) (a : Int) (s : List Bool), i + d = l.length → s.length = 8 → a = (if i = 0 then 0 else (pa l (i - 1)).f1) → 0 ≤ a →
    (∀ q : Nat, q < 8 → (s.getD q false = true ↔ ∃ j, j < i ∧ (pa l j).f0 = (q : Int))) → mcheck (l.drop i) a s = rightI (AllOk l i) := by
  induction d with
  | zero =>
    intro i a s hi _ _ _ _
    rw [List.drop_eq_nil_of_le (by omega), rightI_yes (show AllOk l i from fun j h1 h2 => absurd h1 (by omega))]
    rfl
  | succ d ih =>
    intro i a s hi hs ha h0 hseen
    have hlt : i < l.length := by omega
    rw [List.drop_eq_getElem_cons hlt, ← pa_at l i hlt]
    simp only [mcheck]
    by_cases c0 : (pa l i).f0 < 0
    · rw [if_pos c0, rightI_fail hlt (fun o => by have := o.s0; omega)]
    rw [if_neg c0]
    by_cases c1 : (pa l i).f0 ≥ 8
    · rw [if_pos c1, rightI_fail hlt (fun o => by have := o.s1; omega)]
    rw [if_neg c1]
    have hq := hseen (pa l i).f0.toNat (by omega)
    have hqq : ((pa l i).f0.toNat : Int) = (pa l i).f0 := by omega
    rw [hqq] at hq
    by_cases c2 : s.getD (pa l i).f0.toNat false = true
    · rw [if_pos c2, rightI_fail hlt (fun o => by obtain ⟨j, h1, h2⟩ := hq.1 c2; exact o.other j h1 h2)]
    rw [if_neg c2]
    have hother : ∀ j, j < i → ¬ (pa l j).f0 = (pa l i).f0 := fun j h1 h2 => c2 (hq.2 ⟨j, h1, h2⟩)
    have hup : (pa l i).f1 ≤ a ↔ ¬ (1 ≤ (pa l i).f1 ∧ (0 < i → (pa l (i - 1)).f1 < (pa l i).f1)) := by
      by_cases e : i = 0
      · rw [if_pos e] at ha
        constructor
        · rintro h ⟨h1, _⟩; omega
        · intro h
          apply Classical.byContradiction
          intro n
          exact h ⟨by omega, fun z => absurd z (by omega)⟩
      · rw [if_neg e] at ha
        constructor
        · rintro h ⟨_, h2⟩; have := h2 (by omega); omega
        · intro h
          apply Classical.byContradiction
          intro n
          exact h ⟨by omega, fun z => by omega⟩
    by_cases c3 : (pa l i).f1 ≤ a
    · rw [if_pos c3, rightI_fail hlt (fun o => hup.1 c3 ⟨o.t0, o.up⟩)]
    rw [if_neg c3]
    have hu : 1 ≤ (pa l i).f1 ∧ (0 < i → (pa l (i - 1)).f1 < (pa l i).f1) := Classical.byContradiction fun n => c3 (hup.2 n)
    by_cases c4 : (pa l i).f1 > 4611686018427387904
    · rw [if_pos c4, rightI_fail hlt (fun o => by have := o.t1; omega)]
    rw [if_neg c4]
    have hnil : (l.drop (i + 1) = []) ↔ i + 1 = l.length := by
      rw [List.drop_eq_nil_iff]
      omega
    by_cases c5 : (pa l i).f2 < (if l.drop (i + 1) = [] then (-1) else 0)
    · rw [if_pos c5, rightI_fail hlt (fun o => by
        have hm := o.m0
        by_cases e : l.drop (i + 1) = []
        · rw [if_pos e] at c5; omega
        · rw [if_neg e] at c5
          exact e (hnil.2 (o.last (by omega))))]
    rw [if_neg c5]
    have hm : -1 ≤ (pa l i).f2 ∧ ((pa l i).f2 = -1 → i + 1 = l.length) := by
      by_cases e : l.drop (i + 1) = []
      · rw [if_pos e] at c5; exact ⟨by omega, fun _ => hnil.1 e⟩
      · rw [if_neg e] at c5; exact ⟨by omega, fun z => by omega⟩
    by_cases c6 : (pa l i).f2 > 1048576
    · rw [if_pos c6, rightI_fail hlt (fun o => by have := o.m1; omega)]
    rw [if_neg c6]
    have hok : Ok l i := ⟨by omega, by omega, hu.1, by omega, hm.1, by omega, hm.2, hu.2, hother⟩
    rw [rightI_iff (allOk_step hok)]
    refine ih (i + 1) _ _ (by omega) (by rw [List.length_set]; exact hs) (by rw [if_neg (by omega), Nat.add_sub_cancel]) (by omega) (fun q hq8 => ?_)
    by_cases e : (pa l i).f0.toNat = q
    · subst e
      rw [List.getD_eq_getElem?_getD, List.getElem?_set_self (by omega)]
      exact ⟨fun _ => ⟨i, by omega, hqq.symm⟩, fun _ => rfl⟩
    · rw [List.getD_eq_getElem?_getD, List.getElem?_set_ne e, ← List.getD_eq_getElem?_getD, hseen q hq8]
      constructor
      · rintro ⟨j, h1, h2⟩; exact ⟨j, by omega, h2⟩
      · rintro ⟨j, h1, h2⟩
        by_cases ej : j = i
        · subst ej; exact absurd (by omega : (pa l j).f0.toNat = q) e
        · exact ⟨j, by omega, h2⟩
def RightM (e : Int) (l : List S56) : Prop := 1 ≤ e ∧ e ≤ 4611686018427387904 ∧ l.length ≤ 8 ∧ AllOk l 0
theorem checkM_ev (e : Int) (l : List S56) (h0 : 0 ≤ e) : checkM e l = rightI (RightM e l) := by
  unfold checkM
  by_cases c0 : e = 0
  · rw [if_pos c0, rightI_no (fun r => by have := r.1; omega)]
  rw [if_neg c0]
  by_cases c1 : e > 4611686018427387904
  · rw [if_pos c1, rightI_no (fun r => by have := r.2.1; omega)]
  rw [if_neg c1]
  by_cases c2 : (l.length : Int) > 8
  · rw [if_pos c2, rightI_no (fun r => by have := r.2.2.1; omega)]
  rw [if_neg c2]
  have := mcheck_ev l (by omega) l.length 0 0 (List.replicate 8 false) (by omega) (by rw [List.length_replicate]) rfl (by omega) (fun q hq => by
    rw [List.getD_eq_getElem?_getD, List.getElem?_replicate, if_pos hq]
    exact ⟨fun z => absurd z (by decide), fun ⟨j, hj, _⟩ => absurd hj (Nat.not_lt_zero _)⟩)
  rw [List.drop_zero] at this
  rw [this]
  exact rightI_iff ⟨fun a => ⟨by omega, by omega, by omega, a⟩, fun r => r.2.2.2⟩
theorem RMCheck_l1 (e : Int) (l : List S56) (hl : l.length ≤ 8) (i : Nat) (p0 p1 p2 r : Int) (hi : i < l.length) (hn : (∀ j, j < i → ¬ (pa l j).f0 = p0) → Ev (fun k => spoorref06_Check.l0 k l (l.length : Int) ((i + 1 : Nat) : Int) e l) r) (hy : ¬ (∀ j, j < i → ¬ (pa l j).f0 = p0) → r = 2) (d : Nat) :
    ∀ j : Nat, j + d = i → (∀ q, q < j → ¬ (pa l q).f0 = p0) → Ev (fun k => spoorref06_Check.l1 k l (l.length : Int) (i : Int) (l.take i) (i : Int) (j : Int) e l p0 p1 p2) r := by
  induction d with
  | zero =>
    intro j hj hq
    refine Ev.step (fun k => ?_) (hn (by intro q hq'; exact hq q (by omega)))
    simp only [spoorref06_Check.l1]
    rw [if_neg (by omega), wrap_up i (by omega)]
  | succ d ih =>
    intro j hj hq
    have hlen : (l.take i).length = i := by rw [List.length_take]; omega
    have hpa : rd_T56 (l.take i) (j : Int) = pa l j := by
      rw [rd_pa, pa_at _ _ (by omega), pa_at _ _ (by omega), List.getElem_take]
    by_cases c : (pa l j).f0 = p0
    · obtain rfl := hy (fun z => z j (by omega) c)
      refine Ev.step (f := fun _ => some 2) (fun k => ?_) (Ev.now _)
      simp only [spoorref06_Check.l1]
      rw [if_pos (by omega), if_pos (by omega), hlen, if_pos (by omega), hpa, if_pos c]
    · refine Ev.step (fun k => ?_) (ih (j + 1) (by omega) (fun q hq' => by
        by_cases e : q = j
        · subst e; exact c
        · exact hq q (by omega)))
      simp only [spoorref06_Check.l1]
      rw [if_pos (by omega), if_pos (by omega), hlen, if_pos (by omega), hpa, if_neg c, wrap_up j (by omega)]
theorem RMCheck_l0 (e : Int) (l : List S56) (hl : l.length ≤ 8) (d : Nat) : ∀ i : Nat, i + d = l.length → Ev (fun k => spoorref06_Check.l0 k l (l.length : Int) (i : Int) e l) (rightI (AllOk l i)) := by
  induction d with
  | zero =>
    intro i hi
    rw [rightI_yes (show AllOk l i from fun j h1 h2 => absurd h1 (by omega))]
    refine Ev.step (f := fun _ => some 0) (fun k => ?_) (Ev.now _)
    simp only [spoorref06_Check.l0]
    rw [if_neg (by omega)]
  | succ d ih =>
    intro i hi
    have hlt : i < l.length := by omega
    have j2t : ∀ p0 p1 p2 : Int, Ev (fun k => spoorref06_Check.j2 k (i : Int) l (l.length : Int) (i : Int) true e l p0 p1 p2) 2 := fun p0 p1 p2 => Ev.step (f := fun _ => some 2) (fun k => by simp only [spoorref06_Check.j2, if_true]) (Ev.now _)
    have j3t : ∀ p0 p1 p2 : Int, Ev (fun k => spoorref06_Check.j3 k (i : Int) l (l.length : Int) (i : Int) true e l p0 p1 p2) 2 := fun p0 p1 p2 => Ev.step (f := fun _ => some 2) (fun k => by simp only [spoorref06_Check.j3, if_true]) (Ev.now _)
    have start : ∀ {r : Int} {f : Nat → Option Int}, (∀ k, (if (pa l i).f0 < 0 then spoorref06_Check.j2 k (i : Int) l (l.length : Int) (i : Int) true e l (pa l i).f0 (pa l i).f1 (pa l i).f2 else if (pa l i).f0 ≥ 8 then spoorref06_Check.j2 k (i : Int) l (l.length : Int) (i : Int) true e l (pa l i).f0 (pa l i).f1 (pa l i).f2 else if (pa l i).f1 < 1 then spoorref06_Check.j2 k (i : Int) l (l.length : Int) (i : Int) true e l (pa l i).f0 (pa l i).f1 (pa l i).f2 else if (pa l i).f1 > 4611686018427387904 then spoorref06_Check.j2 k (i : Int) l (l.length : Int) (i : Int) true e l (pa l i).f0 (pa l i).f1 (pa l i).f2 else if (pa l i).f2 < (-1) then spoorref06_Check.j2 k (i : Int) l (l.length : Int) (i : Int) true e l (pa l i).f0 (pa l i).f1 (pa l i).f2 else spoorref06_Check.j2 k (i : Int) l (l.length : Int) (i : Int) (decide ((pa l i).f2 > 1048576)) e l (pa l i).f0 (pa l i).f1 (pa l i).f2) = f k) → Ev f r → Ev (fun k => spoorref06_Check.l0 k l (l.length : Int) (i : Int) e l) r := by
      intro r f h hf
      refine Ev.step (fun k => ?_) hf
      rw [← h k]
      simp only [spoorref06_Check.l0]
      rw [if_pos (by omega), if_pos (by omega), if_pos (by omega)]
      rfl
    by_cases c0 : (pa l i).f0 < 0
    · rw [rightI_fail hlt (fun o => by have := o.s0; omega)]
      exact start (fun k => by rw [if_pos c0]) (j2t _ _ _)
    by_cases c1 : (pa l i).f0 ≥ 8
    · rw [rightI_fail hlt (fun o => by have := o.s1; omega)]
      exact start (fun k => by rw [if_neg c0, if_pos c1]) (j2t _ _ _)
    by_cases c2 : (pa l i).f1 < 1
    · rw [rightI_fail hlt (fun o => by have := o.t0; omega)]
      exact start (fun k => by rw [if_neg c0, if_neg c1, if_pos c2]) (j2t _ _ _)
    by_cases c3 : (pa l i).f1 > 4611686018427387904
    · rw [rightI_fail hlt (fun o => by have := o.t1; omega)]
      exact start (fun k => by rw [if_neg c0, if_neg c1, if_neg c2, if_pos c3]) (j2t _ _ _)
    by_cases c4 : (pa l i).f2 < -1
    · rw [rightI_fail hlt (fun o => by have := o.m0; omega)]
      exact start (fun k => by rw [if_neg c0, if_neg c1, if_neg c2, if_neg c3, if_pos c4]) (j2t _ _ _)
    by_cases c5 : (pa l i).f2 > 1048576
    · rw [rightI_fail hlt (fun o => by have := o.m1; omega)]
      exact start (fun k => by rw [if_neg c0, if_neg c1, if_neg c2, if_neg c3, if_neg c4, decide_eq_true c5]) (j2t _ _ _)
    refine start (fun k => by rw [if_neg c0, if_neg c1, if_neg c2, if_neg c3, if_neg c4, decide_eq_false c5]) ?_
    have w1 : wrap64 ((l.length : Int) - 1) = (l.length : Int) - 1 := by unfold wrap64; omega
    have w2 : 0 < i → wrap64 ((i : Int) - 1) = ((i - 1 : Nat) : Int) := by intro h; unfold wrap64; omega
    have tail : ∀ p0 p1 p2 : Int, (p0, p1, p2) = ((pa l i).f0, (pa l i).f1, (pa l i).f2) → ((pa l i).f2 = -1 → i + 1 = l.length) → (0 < i → (pa l (i - 1)).f1 < (pa l i).f1) → Ev (fun k => spoorref06_Check.j3 k (i : Int) l (l.length : Int) (i : Int) false e l p0 p1 p2) (rightI (AllOk l i)) := by
      intro p0 p1 p2 hp hlast hup
      injection hp with hp0 hp
      injection hp with hp1 hp2
      subst hp0 hp1 hp2
      refine Ev.step (f := fun k => spoorref06_Check.l1 k l (l.length : Int) (i : Int) (l.take i) (i : Int) 0 e l (pa l i).f0 (pa l i).f1 (pa l i).f2) (fun k => ?_) ?_
      · simp only [spoorref06_Check.j3]
        have ht : ((l.take i).length : Int) = (i : Int) := by rw [List.length_take]; omega
        rw [if_neg nofun, if_pos (by omega), if_pos (by omega), Option.bind_some, Int.toNat_natCast, ht]
      · refine RMCheck_l1 e l hl i _ _ _ _ hlt (fun hn => ?_) (fun hy => rightI_fail hlt (fun o => hy o.other)) i 0 (by omega) (fun q hq => absurd hq (Nat.not_lt_zero _))
        rw [rightI_iff (allOk_step ⟨by omega, by omega, by omega, by omega, by omega, by omega, hlast, hup, hn⟩)]
        exact ih (i + 1) (by omega)
    have up3 : ((pa l i).f2 = -1 → i + 1 = l.length) → Ev (fun k => if (i : Int) > 0 then (if 0 ≤ wrap64 ((i : Int) - 1) then (if wrap64 ((i : Int) - 1) < (l.length : Int) then spoorref06_Check.j3 k (i : Int) l (l.length : Int) (i : Int) (decide ((pa l i).f1 ≤ (rd_T56 l (wrap64 ((i : Int) - 1))).f1)) e l (pa l i).f0 (pa l i).f1 (pa l i).f2 else none) else none) else spoorref06_Check.j3 k (i : Int) l (l.length : Int) (i : Int) false e l (pa l i).f0 (pa l i).f1 (pa l i).f2) (rightI (AllOk l i)) := by
      intro hlast
      by_cases h : 0 < i
      · refine Ev.congr (f := fun k => spoorref06_Check.j3 k (i : Int) l (l.length : Int) (i : Int) (decide ((pa l i).f1 ≤ (pa l (i - 1)).f1)) e l (pa l i).f0 (pa l i).f1 (pa l i).f2) (fun k => ?_) ?_
        · rw [if_pos (by omega), w2 h, if_pos (by omega), if_pos (by omega), rd_pa]
        · by_cases c : (pa l i).f1 ≤ (pa l (i - 1)).f1
          · rw [decide_eq_true c, rightI_fail hlt (fun o => by have := o.up h; omega)]
            exact j3t _ _ _
          · rw [decide_eq_false c]
            exact tail _ _ _ rfl hlast (fun _ => by omega)
      · refine Ev.congr (f := fun k => spoorref06_Check.j3 k (i : Int) l (l.length : Int) (i : Int) false e l (pa l i).f0 (pa l i).f1 (pa l i).f2) (fun k => ?_) (tail _ _ _ rfl hlast (fun z => absurd z h))
        rw [if_neg (by omega)]
    by_cases c6 : (pa l i).f2 = -1
    · by_cases c7 : i + 1 = l.length
      · refine Ev.step (fun k => ?_) (up3 (fun _ => c7))
        simp only [spoorref06_Check.j2]
        rw [if_neg nofun, if_pos c6, if_pos (by rw [w1]; omega)]
      · rw [rightI_fail hlt (fun o => c7 (o.last c6))]
        refine Ev.step (fun k => ?_) (j3t (pa l i).f0 (pa l i).f1 (pa l i).f2)
        simp only [spoorref06_Check.j2]
        rw [if_neg nofun, if_pos c6, if_neg (by rw [w1]; omega)]
    · refine Ev.step (fun k => ?_) (up3 (fun z => absurd z c6))
      simp only [spoorref06_Check.j2]
      rw [if_neg nofun, if_neg c6]
theorem RMCheck_ev (e : Int) (l : List S56) (hl : l.length < 9223372036854775807) : Ev (fun k => spoorref06_Check.f k e l) (rightI (RightM e l)) := by
  have j0t : Ev (fun k => spoorref06_Check.j0 k true e l) 2 := Ev.step (f := fun _ => some 2) (fun k => by simp only [spoorref06_Check.j0, if_true]) (Ev.now _)
  unfold spoorref06_Check.f
  by_cases c0 : e < 1
  · simp only [if_pos c0]
    rw [rightI_no (fun r => by have := r.1; omega)]
    exact j0t
  by_cases c1 : e > 4611686018427387904
  · simp only [if_neg c0, if_pos c1]
    rw [rightI_no (fun r => by have := r.2.1; omega)]
    exact j0t
  by_cases c2 : (l.length : Int) > 8
  · simp only [if_neg c0, if_neg c1, decide_eq_true c2]
    rw [rightI_no (fun r => by have := r.2.2.1; omega)]
    exact j0t
  · simp only [if_neg c0, if_neg c1, decide_eq_false c2]
    rw [rightI_iff (⟨fun r => r.2.2.2, fun a => ⟨by omega, by omega, by omega, a⟩⟩ : RightM e l ↔ AllOk l 0)]
    refine Ev.step (fun k => ?_) (RMCheck_l0 e l (by omega) l.length 0 (by omega))
    simp only [spoorref06_Check.j0]
    rw [if_neg nofun]
    rfl
end Go.Proofs.Ytjagplonneednaa.Pure
