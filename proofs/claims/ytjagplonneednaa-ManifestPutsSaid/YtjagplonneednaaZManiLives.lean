/- Answers that the document gives. -/
import Derived.Test.YtjagplonneednaaZPx1012
set_option linter.unusedVariables false
set_option linter.unusedSimpArgs false
namespace Go.Proofs.Ytjagplonneednaa.Pure
open Go.RowKit Go.Proofs.Ytjagplonneednaa.P Go.Proofs.YtjagplonneednaaW.PrintWords Go.Proofs.YtjagplonneednaaW.PrintLast
theorem lives_ev : Ev (fun k => spoorlaw06_lives.f k) true := Ev.of spoorlaw06_lives.mono (k := 3000) (by kernel_rfl)
end Go.Proofs.Ytjagplonneednaa.Pure
