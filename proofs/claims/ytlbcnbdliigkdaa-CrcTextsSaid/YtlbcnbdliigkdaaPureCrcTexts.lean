/- Any sum has its bytes, any bytes begin with a sum or not, and any text is sealed and opened or not, all as the document says. No condition beyond the statement's own. -/
import Derived.Test.YtlbcnbdliigkdaaPx3
import Derived.Test.YtlbcnbdliigkdaaCrcLives
import Derived.Test.YtlbcnbdliigkdaaCrcRef2
import Derived.Test.YtlbcnbdliigkdaaWf
set_option linter.unusedVariables false
set_option linter.unusedSimpArgs false
namespace Go.Proofs.Ytlbcnbdliigkdaa.Pure
open Go.RowKit Go.Proofs.Ytlbcnbdliigkdaa.P Go.Proofs.YtlbcnbdliigkdaaW.PrintWords Go.Proofs.YtlbcnbdliigkdaaW.PrintLast
theorem CrcTexts : spoorlaw02_CrcTexts.Pure := by
  intro a s ha hs
  obtain ⟨h0, h1⟩ := wf_u32 ha
  apply Ev.rounds
  have jt : Ev (fun k => spoorlaw02_CrcTexts.j0 k a s true) true := by
    refine Ev.step (f := fun k => (spoorlaw02_lives.f k).bind fun t156 => (some t156)) (fun k => ?_) (Ev.bind lives_ev (Ev.now _))
    simp only [spoorlaw02_CrcTexts.j0]
    rw [if_pos trivial]
  have jf : Ev (fun k => spoorlaw02_CrcTexts.j0 k a s false) true := by
    refine Ev.step (f := fun k => (crc_Read.f k s).bind fun bt157 => ((spoorref02_Read.f k s).bind fun bt160 => ((crc_Sealed.f k s).bind fun bt163 => ((spoorref02_Sealed.f k s).bind fun bt165 => ((crc_Open.f k s).bind fun bt167 => ((spoorref02_Open.f k s).bind fun bt169 => ((spoorlaw02_lives.f k).bind fun t171 => (if t171 = true then (if bt157.1 = bt160.1 then (if bt157.2.1.toList = bt160.2.1.toList then (if bt157.2.2 = bt160.2.2 then (if bt163.1.toList = bt165.1.toList then (if bt163.2 = bt165.2 then (if bt167.1.toList = bt169.1.toList then (some (bt167.2 == bt169.2)) else (some false)) else (some false)) else (some false)) else (some false)) else (some false)) else (some false)) else (some false)))))))))  (fun k => ?_) ?_
    · simp only [spoorlaw02_CrcTexts.j0, Bool.false_eq_true, if_false, Text_f, RText_f a h0 h1, Option.bind_some, if_true]
    · refine Ev.bind (Read_ev s) (Ev.bind (RRead_ev s) (Ev.bind (Sealed_ev s hs) (Ev.bind (RSealed_ev s hs) (Ev.bind (Open_ev s (by omega)) (Ev.bind (ROpen_ev s (by omega)) (Ev.bind lives_ev ?_))))))
      simp only [if_true, BEq.rfl]
      exact Ev.now _
  unfold spoorlaw02_CrcTexts.f
  by_cases h : (s.size : Int) > 10000
  · simp only [if_pos h]
    cases decide ((s.size : Int) ≤ 32768)
    · exact jf
    · exact jt
  · simp only [if_neg h]
    exact jf
end Go.Proofs.Ytlbcnbdliigkdaa.Pure
