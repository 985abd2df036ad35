/- Any text has the sum that the document says, from any sum on: the program's sums and the document's are one function of the bytes. No condition beyond the statement's own. -/
import Derived.Test.YtlbcnbdliigkdaaPx2
import Derived.Test.YtlbcnbdliigkdaaCrcLives
import Derived.Test.YtlbcnbdliigkdaaWf
import Derived.Test.YtlbcnbdliigkdaaCrcRef
namespace Go.Proofs.Ytlbcnbdliigkdaa.Pure
open Go.RowKit Go.Proofs.Ytlbcnbdliigkdaa.P Go.Proofs.YtlbcnbdliigkdaaW.PrintWords Go.Proofs.YtlbcnbdliigkdaaW.PrintLast

theorem CrcSums : spoorlaw02_CrcSums.Pure := by
  intro a s ha hs
  obtain ⟨h0, h1⟩ := wf_u32 ha
  rw [I_of a h0 h1]
  generalize BitVec.ofNat 32 a.toNat = x
  apply Ev.rounds
  unfold spoorlaw02_CrcSums.f
  by_cases h : (s.size : Int) > 10000
  · simp only [if_pos h]
    exact Ev.bind lives_ev (Ev.now _)
  · simp only [if_neg h]
    refine Ev.bind lives_ev ?_
    simp only [if_true]
    refine Ev.bind (Of_ev s (by omega)) (Ev.bind (ROf_ev s (by omega)) ?_)
    simp only [if_true]
    refine Ev.bind (On_ev x s (by omega)) (Ev.bind (ROn_ev x s (by omega)) ?_)
    simp only [BEq.rfl]
    exact Ev.now _
end Go.Proofs.Ytlbcnbdliigkdaa.Pure
