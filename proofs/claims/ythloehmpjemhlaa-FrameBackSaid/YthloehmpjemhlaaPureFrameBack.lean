/- Frames that are put one behind the other are read as what they were, and what was behind them stays. No condition beyond the statement's own. -/
import Derived.Test.YthloehmpjemhlaaPx8
import Derived.Test.YthloehmpjemhlaaFrameMany
set_option linter.unusedVariables false
set_option linter.unusedSimpArgs false
namespace Go.Proofs.Ythloehmpjemhlaa.Pure
open Go.RowKit Go.Proofs.Ythloehmpjemhlaa.P Go.Proofs.YthloehmpjemhlaaW.PrintWords Go.Proofs.YthloehmpjemhlaaW.PrintLast
theorem FrameBack : spoorlaw04_FrameBack.Pure := by
  intro l more hl hm
  apply Ev.rounds
  unfold spoorlaw04_FrameBack.f
  refine Ev.bind lives_ev ?_
  simp only [if_true]
  refine Ev.bind (frames_ev l (by omega) hl.2) ?_
  by_cases hg : good l
  · simp only [if_pos hg, if_true]
    have hc := cat_le l hg.2
    have h20 := hg.1
    have c1 : (cat l).size + more.size ≤ 9223372036854775807 := by omega
    simp only [if_pos c1]
    have ht := Take_cat more hm l hg.2 [] (by simp; omega)
    obtain ⟨p1, p2, p3⟩ := parse_cat l hg.2 E0 nextS_E0
    rw [app_E0] at p1 p2 p3
    have hall := FAll_ev (cat l) (by omega) (by rw [p2]; omega)
    rw [p1] at hall
    refine Ev.bind (a := (l, more, 0)) ?_ (Ev.bind hall ?_)
    · unfold frame_Take.f
      have : ¬ (l.length : Int) < 0 := by omega
      simp only [if_neg this]
      simpa using ht
    · simp only [if_true]
      have same : Ev (fun k => spoorref04_Same.f k l l) true := by
        have := Same_ev l l (by omega)
        rw [decide_eq_true rfl] at this
        exact this
      refine Ev.bind same ?_
      simp only [if_true]
      refine Ev.bind same ?_
      simp only [if_true]
      have hu : usedOf (cat l) (parse (cat l)) = ((cat l).size : Int) := by
        by_cases hn : l = []
        · subst hn
          have : parse (cat []) = [] := parse_no nextS_E0
          rw [this]
          rfl
        · obtain ⟨x, hx, hx2⟩ := p3 hn
          unfold usedOf
          rw [hx]
          simp only [hx2]
          have : (E0.size : Int) = 0 := rfl
          rw [this]
          unfold wrap64
          omega
      simp only [hu, BEq.rfl]
      exact Ev.now _
  · simp only [if_neg hg]
    exact Ev.now _
end Go.Proofs.Ythloehmpjemhlaa.Pure
