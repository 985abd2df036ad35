-- kept, by a program of this session, of a text that the printer or this session wrote
import Derived.Test.YtjagplonneednaaZPx0
import Derived.Test.YtjagplonneednaaZPx30013
import Derived.Test.YtjagplonneednaaZPx30025
import Derived.Test.YtjagplonneednaaZPx1010
namespace Go.Proofs.Ytjagplonneednaa.P
open Go.RowKit Go.Proofs.YtjagplonneednaaW.PrintWords Go.Proofs.YtjagplonneednaaW.PrintLast Go.Proofs.YtjagplonneednaaW.PrintMore
attribute [local go_sem] max2_int min2_int max_two min_two max_three min_three max_four min_four
set_option linter.unusedVariables false
set_option linter.unusedSimpArgs false
def rparts (k : Nat) (s : ByteArray) : Nat → Nat → List S56 → Option (Option (List S56))
  | 0, _, l => some (some l)
  | d + 1, i, l => (spoorref05_Number.f k ((s.extract (9 + 13 * i) (9 + 13 * i + 13)).extract 9 13)).bind fun n => if n > 1048577 then some none else
      (spoorref05_Number.f k ((s.extract (9 + 13 * i) (9 + 13 * i + 13)).extract 1 9)).bind fun t => rparts k s d (i + 1) (l ++ [⟨wrap64 (bt (s.extract (9 + 13 * i) (9 + 13 * i + 13)) 0), t, wrap64 (wrap64 n - 1)⟩])
theorem rparts.mono (s : ByteArray) (k : Nat) : ∀ d i l, LeO (rparts k s d i l) (rparts (k + 1) s d i l) := by
  intro d
  induction d with
  | zero => intro i l; exact LeO.refl _
  | succ d ih =>
    intro i l
    exact LeO.bind (spoorref05_Number.mono _ _) (fun _ => LeO.ite (LeO.refl _) (LeO.bind (spoorref05_Number.mono _ _) (fun _ => ih _ _)))
end Go.Proofs.Ytjagplonneednaa.P
