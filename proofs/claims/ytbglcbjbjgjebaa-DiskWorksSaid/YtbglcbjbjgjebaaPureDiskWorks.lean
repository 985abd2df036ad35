/- Whatever a disk is, it is right or not, and is written to, flushed and read as the document says, or not; what is handed in stays. No condition beyond the statement's own. -/
import Derived.Test.YtbglcbjbjgjebaaPx11
import Derived.Test.YtbglcbjbjgjebaaDiskLives
set_option linter.unusedVariables false
set_option linter.unusedSimpArgs false
namespace Go.Proofs.Ytbglcbjbjgjebaa.Pure
open Go.RowKit Go.Proofs.Ytbglcbjbjgjebaa.P Go.Proofs.YtbglcbjbjgjebaaW.PrintWords Go.Proofs.YtbglcbjbjgjebaaW.PrintLast Go.Proofs.YtbglcbjbjgjebaaW.PrintMore
theorem DiskWorks : spoorlaw03_DiskWorks.Pure := by
  intro S C f o at_ data hd hat hdat
  have hS : S.length * 16 ≤ 140737488351232 := hd.1.1
  have hC : C.length * 24 ≤ 140737488351232 := hd.2.1.1
  apply Ev.rounds
  unfold spoorlaw03_DiskWorks.f
  have hw := writeF_len S C f o at_ data
  have hf := flushF_len S C f o
  simp only [RCopy_now S C f o (by omega) (by omega), disk_Write.f, disk_Flush.f, disk_Read.f, disk_Check.f, Option.bind_some]
  refine Ev.bind (RWrite_ev S C f o at_ data) (Ev.bind (RFlush_ev S C f o) (Ev.bind (RRead_ev S C f o at_) (Ev.bind lives_ev ?_)))
  simp only [if_true]
  refine Ev.bind (Same_ev _ _ _ _ (by omega) (by omega)) ?_
  simp only [if_true]
  refine Ev.bind (Same_ev _ _ _ _ (by omega) (by omega)) ?_
  simp only [if_true]
  refine Ev.bind (RCheck_ev S C f o) ?_
  simp only [if_true]
  exact Ev.bind (Same_ev S C f o (by omega) (by omega)) (Ev.now _)
end Go.Proofs.Ytbglcbjbjgjebaa.Pure
