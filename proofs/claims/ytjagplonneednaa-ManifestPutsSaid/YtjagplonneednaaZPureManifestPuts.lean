/- Any manifest is right or not, and has its sector, and any sector its manifest, or none. No condition beyond the statement's own. -/
import Derived.Test.YtjagplonneednaaZPx1003
import Derived.Test.YtjagplonneednaaZManiSame
import Derived.Test.YtjagplonneednaaZManiLives
set_option linter.unusedVariables false
set_option linter.unusedSimpArgs false
namespace Go.Proofs.Ytjagplonneednaa.Pure
open Go.RowKit Go.Proofs.Ytjagplonneednaa.P Go.Proofs.YtjagplonneednaaW.PrintWords Go.Proofs.YtjagplonneednaaW.PrintLast Go.Proofs.YtjagplonneednaaW.PrintMore
theorem wf_u64 {n : Int} (h : (Lit.int .u64 n).wf = true) : 0 ≤ n := by
  simp only [Lit.wf, Bool.and_eq_true, decide_eq_true_eq] at h
  have h1 : IntKind.min .u64 = 0 := by rfl
  omega
theorem ManifestPuts : spoorlaw06_ManifestPuts.Pure := by
  intro e l s g0 _
  have he : 0 ≤ e := wf_u64 g0.1
  have hl : l.length * 24 ≤ 140737488351232 := g0.2.1
  apply Ev.rounds
  unfold spoorlaw06_ManifestPuts.f
  have put : ∃ r, Ev (fun k => manifest_Put.f k e l) r ∧ Ev (fun k => spoorref06_Put.f k e l) r := by
    by_cases h : RightM e l
    · exact ⟨_, Put_yes h, RPut_yes h⟩
    · exact ⟨_, Put_no he h, RPut_no (by omega) h⟩
  obtain ⟨r, h1, h2⟩ := put
  refine Ev.bind h1 (Ev.bind h2 (Ev.bind (Get_ev s) (Ev.bind (RGet_ev s) (Ev.bind lives_ev ?_))))
  simp only [if_true, manifest_Check.f, Option.bind_some]
  refine Ev.bind (RMCheck_ev e l (by omega)) ?_
  simp only [checkM_ev e l he, if_true]
  refine Ev.bind (MSame_ev _ _ (by have := getM_len s; omega)) ?_
  simp only [if_true, beq_self_eq_true]
  exact Ev.now _
end Go.Proofs.Ytjagplonneednaa.Pure
