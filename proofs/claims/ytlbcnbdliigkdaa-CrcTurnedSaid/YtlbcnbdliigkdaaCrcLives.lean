/- The answers that each statement of the check sums asks for are there. -/
import Derived.Test.YtlbcnbdliigkdaaPx2
namespace Go.Proofs.Ytlbcnbdliigkdaa.Pure
open Go.RowKit Go.Proofs.Ytlbcnbdliigkdaa.P Go.Proofs.YtlbcnbdliigkdaaW.PrintWords Go.Proofs.YtlbcnbdliigkdaaW.PrintLast
theorem lives_ev : Ev (fun k => spoorlaw02_lives.f k) true := by
  refine Ev.of (fun k => spoorlaw02_lives.mono k) (k := 120) ?_
  unfold spoorlaw02_lives.f
  simp only [ByteArray.toList_eq]
  decide +kernel
end Go.Proofs.Ytlbcnbdliigkdaa.Pure
