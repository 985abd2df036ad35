/- Without the document: what is put is read as it was; what is read is right, and put as that sector. No condition beyond the statement's own. -/
import Derived.Test.YtjagplonneednaaZPx1005
import Derived.Test.YtjagplonneednaaZManiSame
import Derived.Test.YtjagplonneednaaZManiLives
set_option linter.unusedVariables false
set_option linter.unusedSimpArgs false
namespace Go.Proofs.Ytjagplonneednaa.Pure
open Go.RowKit Go.Proofs.Ytjagplonneednaa.P Go.Proofs.YtjagplonneednaaW.PrintWords Go.Proofs.YtjagplonneednaaW.PrintLast Go.Proofs.YtjagplonneednaaW.PrintMore
theorem wf_u64 {n : Int} (h : (Lit.int .u64 n).wf = true) : 0 ≤ n := by
  simp only [Lit.wf, Bool.and_eq_true, decide_eq_true_eq] at h
  have h1 : IntKind.min .u64 = 0 := by rfl
  omega
theorem Back_j0 (s : ByteArray) : Ev (fun k => spoorlaw06_ManifestBack.j0 k s false) true := by
  by_cases c : (getM s).2.2 = 0
  · obtain ⟨hs, hn, hb, hg⟩ := getM_ok c
    refine Ev.step (f := fun k => (manifest_Get.f k s).bind fun bt447 => (manifest_Put.f k bt447.1 bt447.2.1).bind fun bt453 => if bt447.2.2 = 0 then if bt453.2 = 0 then if bt453.1.toList = s.toList then (manifest_Check.f bt447.1 bt447.2.1).bind fun t455 => some (t455 == 0) else none else none else some true) (fun k => ?_) ?_
    · simp only [spoorlaw06_ManifestBack.j0]
      rw [if_neg nofun]
    · refine Ev.bind (Get_ev s) ?_
      rw [hg]
      refine Ev.bind (Put_yes hb.2.1) ?_
      simp only [if_true, hb.2.2, manifest_Check.f, Option.bind_some, checkM_ev _ _ (num_range s 0 8).1, rightI_yes hb.2.1]
      exact Ev.now _
  · have hp : ∃ r, Ev (fun k => manifest_Put.f k (getM s).1 (getM s).2.1) r := by
      have h0 : 0 ≤ (getM s).1 := by
        unfold getM
        have := (num_range s 0 8).1
        split
        · split
          · exact Int.le_refl _
          · split
            · exact Int.le_refl _
            · split
              · exact this
              · exact Int.le_refl _
        · exact Int.le_refl _
      by_cases h : RightM (getM s).1 (getM s).2.1
      · exact ⟨_, Put_yes h⟩
      · exact ⟨_, Put_no h0 h⟩
    obtain ⟨r, hr⟩ := hp
    refine Ev.step (f := fun k => (manifest_Get.f k s).bind fun bt447 => (manifest_Put.f k bt447.1 bt447.2.1).bind fun bt453 => if bt447.2.2 = 0 then if bt453.2 = 0 then if bt453.1.toList = s.toList then (manifest_Check.f bt447.1 bt447.2.1).bind fun t455 => some (t455 == 0) else none else none else some true) (fun k => ?_) (Ev.bind (Get_ev s) (Ev.bind hr ?_))
    · simp only [spoorlaw06_ManifestBack.j0]
      rw [if_neg nofun]
    · simp only [if_neg c]
      exact Ev.now _
theorem ManifestBack : spoorlaw06_ManifestBack.Pure := by
  intro e l s g0 _
  have he : 0 ≤ e := wf_u64 g0.1
  have hl : l.length * 24 ≤ 140737488351232 := g0.2.1
  apply Ev.rounds
  unfold spoorlaw06_ManifestBack.f
  refine Ev.bind lives_ev ?_
  simp only [if_true]
  by_cases h : RightM e l
  · refine Ev.bind (Put_yes h) (Ev.bind (Get_ev _) ?_)
    simp only [getM_put h, if_true]
    refine Ev.bind (MSame_ev e l (by omega)) ?_
    exact Back_j0 s
  · refine Ev.bind (Put_no he h) (Ev.bind (Get_ev _) ?_)
    simp only [if_neg (show ¬ (2 : Int) = 0 by decide)]
    exact Back_j0 s
end Go.Proofs.Ytjagplonneednaa.Pure
