/- One manifest is the same; what is put is read as it was. -/
import Derived.Test.YtjagplonneednaaZPx1015
import Derived.Test.YtjagplonneednaaZManiGet
set_option linter.unusedVariables false
set_option linter.unusedSimpArgs false
namespace Go.Proofs.Ytjagplonneednaa.Pure
open Go.RowKit Go.Proofs.Ytjagplonneednaa.P Go.Proofs.YtjagplonneednaaW.PrintWords Go.Proofs.YtjagplonneednaaW.PrintLast Go.Proofs.YtjagplonneednaaW.PrintMore
theorem MSame_l0 (e e' : Int) (l : List S56) (hl : l.length < 9223372036854775807) (d : Nat) : ∀ i : Nat, i + d = l.length → Ev (fun k => spoorref06_Same.l0 k (l.length : Int) (i : Int) e l e' l) true := by
  induction d with
  | zero =>
    intro i hi
    refine Ev.step (f := fun _ => some true) (fun k => ?_) (Ev.now _)
    simp only [spoorref06_Same.l0]
    rw [if_neg (by omega)]
  | succ d ih =>
    intro i hi
    refine Ev.step (fun k => ?_) (ih (i + 1) (by omega))
    simp only [spoorref06_Same.l0]
    rw [if_pos (by omega), if_pos (by omega), if_pos (by omega), if_pos (by omega), if_neg (by simp), wrap_up i (by omega)]
theorem MSame_ev (e : Int) (l : List S56) (hl : l.length < 9223372036854775807) : Ev (fun k => spoorref06_Same.f k e l e l) true := by
  unfold spoorref06_Same.f
  simp only [if_true, bne_self_eq_false]
  refine Ev.step (fun k => ?_) (MSame_l0 e e l hl l.length 0 (by omega))
  simp only [spoorref06_Same.j0]
  rw [if_neg nofun]
  rfl
theorem getM_len (s : ByteArray) : (getM s).2.1.length ≤ 8 := by
  unfold getM
  split
  · split
    · simp
    · split
      · simp
      · split
        · rename_i h
          show (parts s (many s)).length ≤ 8
          rw [parts_len]
          exact h.1
        · simp
  · simp
end Go.Proofs.Ytjagplonneednaa.Pure
