/- The document's four bytes of a sum. -/
import Derived.Test.YtjagplonneednaaZPx30026
import Derived.Test.YtjagplonneednaaZCrcEv2
set_option linter.unusedVariables false
set_option linter.unusedSimpArgs false
namespace Go.Proofs.Ytjagplonneednaa.Pure
open Go.RowKit Go.Proofs.Ytjagplonneednaa.P Go.Proofs.YtjagplonneednaaW.PrintWords Go.Proofs.YtjagplonneednaaW.PrintLast
theorem RText_f (x : Int) (h0 : 0 ≤ x) (h1 : x < 4294967296) : spoorref02_Text.f x = some (text4 x) := by
  unfold spoorref02_Text.f text4
  rw [Int.tdiv_eq_ediv_of_nonneg h0, Int.tdiv_eq_ediv_of_nonneg h0, Int.tdiv_eq_ediv_of_nonneg h0]
  have e1 : x / 16777216 % 4294967296 % 256 = x / 16777216 % 256 := by omega
  have e2 : x / 65536 % 4294967296 % 256 = x / 65536 % 256 := by omega
  have e3 : x / 256 % 4294967296 % 256 = x / 256 % 256 := by omega
  rw [e1, e2, e3]
end Go.Proofs.Ytjagplonneednaa.Pure
