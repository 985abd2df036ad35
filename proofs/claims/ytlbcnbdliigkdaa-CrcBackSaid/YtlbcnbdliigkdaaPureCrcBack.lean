/- A sum's bytes are read as it, whatever is behind; what is sealed is opened as it was, and what is opened is sealed so. No condition beyond the statement's own. -/
import Derived.Test.YtlbcnbdliigkdaaPx4
import Derived.Test.YtlbcnbdliigkdaaCrcLives
import Derived.Test.YtlbcnbdliigkdaaCrcBackLaw
import Derived.Test.YtlbcnbdliigkdaaWf
set_option linter.unusedVariables false
set_option linter.unusedSimpArgs false
namespace Go.Proofs.Ytlbcnbdliigkdaa.Pure
open Go.RowKit Go.Proofs.Ytlbcnbdliigkdaa.P Go.Proofs.YtlbcnbdliigkdaaW.PrintWords Go.Proofs.YtlbcnbdliigkdaaW.PrintLast
theorem CrcBack : spoorlaw02_CrcBack.Pure := by
  intro a s m ha hs hm
  obtain ⟨h0, h1⟩ := wf_u32 ha
  apply Ev.rounds
  have hsz : (text4 a ++ m).size = 4 + m.size := by rw [ByteArray.size_append, text4_size]
  have hr := Read_ev (text4 a ++ m)
  rw [if_neg (by omega)] at hr
  have e1 : be ((B (text4 a ++ m)).take 4) = a := by
    have : (B (text4 a)).length = 4 := by rw [B_len]; exact text4_size _
    rw [B_app, ← this, List.take_left, be_text4 _ h0 h1]
  have e2 : (text4 a ++ m).extract 4 (text4 a ++ m).size = m := by
    apply B_inj
    have : (B (text4 a)).length = 4 := by rw [B_len]; exact text4_size _
    rw [B_extract, List.take_of_length_le (by rw [B_len]; omega), B_app, ← this, List.drop_left]
  rw [e1, e2] at hr
  unfold spoorlaw02_CrcBack.f
  have hadd : (text4 a).size + m.size ≤ 9223372036854775807 := by rw [text4_size]; omega
  refine Ev.bind lives_ev ?_
  simp only [if_true, Text_f, Option.bind_some, if_pos hadd]
  refine Ev.bind hr (Ev.bind (Sealed_ev s hs) ?_)
  simp only [if_true]
  -- what is opened and sealed again
  have last : ∀ (t : ByteArray) (w : Int), Ev (fun k => crc_Open.f k s) (t, w) → t.size ≤ 140737488351232 → (w = 0 → 4 ≤ s.size ∧ t = front s ∧ be (back s) = I (CrcMath.of (B (front s)))) → ∀ x : ByteArray × Int, Ev (fun k => crc_Sealed.f k t) x → (if w = 0 then if x.2 = 0 then if x.1.toList = s.toList then some true else some (decide ((t.size : Int) > 32768)) else some (decide ((t.size : Int) > 32768)) else some true) = some true := by
    intro t w ht htz hw x hx
    by_cases hw0 : w = 0
    · rw [if_pos hw0]
      obtain ⟨h4, rfl, he⟩ := hw hw0
      have h := Sealed_ev (front s) htz
      obtain ⟨K1, g1⟩ := hx
      obtain ⟨K2, g2⟩ := h
      have q1 := g1 (K1 + K2) (by omega)
      rw [g2 (K1 + K2) (by omega)] at q1
      have q := Option.some.inj q1
      rw [← q]
      by_cases hb : (front s).size > 32768
      · simp only [if_pos hb]
        have : ((front s).size : Int) > 32768 := by omega
        rw [if_neg (by decide)]
        simp only [decide_eq_true this]
      · simp only [if_neg hb, if_true, sealed_front s h4 he]
    · rw [if_neg hw0]
  obtain ⟨t, w, hto, htz, htw⟩ : ∃ (t : ByteArray) (w : Int), Ev (fun k => crc_Open.f k s) (t, w) ∧ t.size ≤ s.size ∧ (w = 0 → 4 ≤ s.size ∧ t = front s ∧ be (back s) = I (CrcMath.of (B (front s)))) := by
    have h := Open_ev s (by omega)
    by_cases h4 : s.size < 4
    · rw [if_pos h4] at h
      exact ⟨_, _, h, Nat.zero_le _, fun z => absurd z (by decide)⟩
    · rw [if_neg h4] at h
      by_cases he : be (back s) = I (CrcMath.of (B (front s)))
      · rw [if_pos he] at h
        exact ⟨_, _, h, by rw [front_size]; omega, fun _ => ⟨by omega, rfl, he⟩⟩
      · rw [if_neg he] at h
        exact ⟨_, _, h, Nat.zero_le _, fun z => absurd z (by decide)⟩
  have hz := Sealed_ev t (by omega)
  have fin := last t w hto (by omega) htw _ hz
  by_cases hl : s.size > 32768
  · simp only [if_pos hl]
    have ho := Open_ev (⟨#[]⟩ : ByteArray) (by decide)
    rw [if_pos (by decide)] at ho
    refine Ev.bind ho (Ev.bind hto (Ev.bind hz ?_))
    refine Ev.congr (fun k => ?_) (Ev.now true)
    rw [if_neg (show ¬ (11 : Int) = 0 by decide)]
    exact fin
  · simp only [if_neg hl]
    refine Ev.bind (Open_sealed s hs) (Ev.bind hto (Ev.bind hz ?_))
    refine Ev.congr (fun k => ?_) (Ev.now true)
    simp only [if_true]
    exact fin
end Go.Proofs.Ytlbcnbdliigkdaa.Pure
