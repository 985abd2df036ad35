/- Any payload has its frame, and any number its size, or none, as the document says. No condition beyond the statement's own. -/
import Derived.Test.YthloehmpjemhlaaPx6
import Derived.Test.YthloehmpjemhlaaFrameLives
import Derived.Test.YthloehmpjemhlaaFrameRef
set_option linter.unusedVariables false
set_option linter.unusedSimpArgs false
namespace Go.Proofs.Ythloehmpjemhlaa.Pure
open Go.RowKit Go.Proofs.Ythloehmpjemhlaa.P Go.Proofs.YthloehmpjemhlaaW.PrintWords Go.Proofs.YthloehmpjemhlaaW.PrintLast
theorem FramePuts : spoorlaw04_FramePuts.Pure := by
  intro p n hp hn
  apply Ev.rounds
  unfold spoorlaw04_FramePuts.f
  refine Ev.bind (FPut_ev p hp) (Ev.bind (RFPut_ev p hp) (Ev.bind (FSize_ev n) (Ev.bind (RFSize_ev n) (Ev.bind (FSize_ev (p.size : Int)) (Ev.bind lives_ev ?_)))))
  simp only [if_true]
  by_cases h : p.size > 4096
  · simp only [if_pos h]
    have : ¬ (11 : Int) = 0 := by decide
    simp only [if_neg this]
    exact Ev.now _
  · have c : 0 ≤ (p.size : Int) ∧ (p.size : Int) ≤ 4096 := by omega
    simp only [if_neg h, if_pos c, if_true, Int.toNat_natCast]
    have : (((putS p).size : Int) == (sizeS p.size : Int)) = true := by
      rw [beq_iff_eq, putS_size]
      rfl
    simp only [this]
    exact Ev.now _
end Go.Proofs.Ythloehmpjemhlaa.Pure
