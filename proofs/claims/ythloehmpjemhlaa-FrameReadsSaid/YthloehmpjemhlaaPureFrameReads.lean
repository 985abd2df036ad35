/- Any bytes begin with frames, or not, as the document says. No condition beyond the statement's own. -/
import Derived.Test.YthloehmpjemhlaaPx8
import Derived.Test.YthloehmpjemhlaaFrameLives
import Derived.Test.YthloehmpjemhlaaFrameRef
set_option linter.unusedVariables false
set_option linter.unusedSimpArgs false
namespace Go.Proofs.Ythloehmpjemhlaa.Pure
open Go.RowKit Go.Proofs.Ythloehmpjemhlaa.P Go.Proofs.YthloehmpjemhlaaW.PrintWords Go.Proofs.YthloehmpjemhlaaW.PrintLast
theorem FrameReads : spoorlaw04_FrameReads.Pure := by
  intro s many hs hm
  apply Ev.rounds
  unfold spoorlaw04_FrameReads.f
  by_cases h : (s.size : Int) > 20000
  · simp only [if_pos h]
    exact Ev.bind lives_ev (Ev.now _)
  · simp only [if_neg h]
    have hz : s.size ≤ 20000 := by omega
    have hpl := parse_len s.size s (Nat.le_refl _)
    have hbh := behind_le s.size s (Nat.le_refl _)
    have hall := RAll_l0 s s.size s [] (Nat.le_refl _) (by omega) (by simp; omega)
    rw [List.nil_append] at hall
    have hu := usedOf_behind s (parse s) (by omega) hbh
    obtain ⟨r, h1, h2, h3⟩ : ∃ r : List ByteArray × ByteArray × Int, Ev (fun k => frame_Take.f k s many) r ∧ Ev (fun k => spoorref04_Take.f k s many) r ∧ r.1.length ≤ s.size := by
      unfold frame_Take.f spoorref04_Take.f
      by_cases c : many < 0
      · simp only [if_pos c]
        exact ⟨_, Ev.now _, Ev.now _, by simp⟩
      · simp only [if_neg c]
        obtain ⟨r, h1, h2, h3⟩ := Take_both many s.size s [] (Nat.le_refl _) (by omega) (by simp; omega)
        exact ⟨r, h1, h2, by simpa using h3⟩
    refine Ev.bind (FNext_ev s (by omega)) (Ev.bind (RFNext_ev s (by omega)) (Ev.bind (FAll_ev s (by omega) (by omega)) (Ev.bind hall ?_)))
    refine Ev.bind h1 (Ev.bind h2 (Ev.bind lives_ev ?_))
    simp only [if_true]
    have same : ∀ l : List ByteArray, l.length ≤ 9223372036854775806 → Ev (fun k => spoorref04_Same.f k l l) true := fun l hl => by
      have := Same_ev l l hl
      rw [decide_eq_true rfl] at this
      exact this
    refine Ev.bind (same _ (by rw [List.length_map]; omega)) ?_
    simp only [hu, if_true]
    refine Ev.bind (same _ (by omega)) ?_
    simp only [if_true, BEq.rfl]
    exact Ev.now _
end Go.Proofs.Ythloehmpjemhlaa.Pure
