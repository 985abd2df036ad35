/- A text in which one byte is another one has another sum, and is not opened as sealed. No condition beyond the statement's own. -/
import Derived.Test.YtlbcnbdliigkdaaPx4
import Derived.Test.YtlbcnbdliigkdaaCrcLives
import Derived.Test.YtlbcnbdliigkdaaTurned
import Derived.Test.YtlbcnbdliigkdaaWf
set_option linter.unusedVariables false
set_option linter.unusedSimpArgs false
namespace Go.Proofs.Ytlbcnbdliigkdaa.Pure
open Go.RowKit Go.Proofs.Ytlbcnbdliigkdaa.P Go.Proofs.YtlbcnbdliigkdaaW.PrintWords Go.Proofs.YtlbcnbdliigkdaaW.PrintLast
theorem CrcTurned : spoorlaw02_CrcTurned.Pure := by
  intro s at_ by_ hs ha hb
  obtain ⟨b0, b1⟩ := wf_u8 hb
  apply Ev.rounds
  unfold spoorlaw02_CrcTurned.f
  refine Ev.bind lives_ev ?_
  simp only [if_true]
  by_cases c : at_ < 0 ∨ at_ ≥ (s.size : Int) ∨ by_ = 0 ∨ (s.size : Int) > 10000
  · simp only [if_pos c]
    exact Ev.now _
  · simp only [if_neg c]
    obtain ⟨i, rfl⟩ : ∃ i : Nat, at_ = i := ⟨at_.toNat, by omega⟩
    have hi : i < s.size := by omega
    have hne := of_turned_ne s i by_ hi (by omega) b1
    have hsz := turned_size s i by_
    simp only [Int.toNat_natCast]
    generalize Tools.turned s i by_ = T at hne hsz
    refine Ev.bind (Of_ev s (by omega)) ?_
    simp only [Text_f, Option.bind_some]
    have h4 : T.size + (text4 (I (CrcMath.of (B s)))).size ≤ 9223372036854775807 := by rw [text4_size]; omega
    simp only [if_pos h4]
    have ho := Open_ev (T ++ text4 (I (CrcMath.of (B s)))) (by rw [ByteArray.size_append, text4_size]; omega)
    have hz : (T ++ text4 (I (CrcMath.of (B s)))).size = T.size + 4 := by rw [ByteArray.size_append, text4_size]
    have hf : front (T ++ text4 (I (CrcMath.of (B s)))) = T := by
      apply B_inj
      rw [B_front, hz, B_app, Nat.add_sub_cancel, ← B_len, List.take_left]
    have hbk : back (T ++ text4 (I (CrcMath.of (B s)))) = B (text4 (I (CrcMath.of (B s)))) := by
      unfold back
      rw [hz, B_app, Nat.add_sub_cancel, ← B_len, List.drop_left]
    rw [if_neg (by omega), hf, hbk, be_text4 _ (I_lo _) (I_hi _), if_neg (fun e => hne (I_inj e).symm)] at ho
    refine Ev.bind ho (Ev.bind (Of_ev T (by omega)) ?_)
    have : (I (CrcMath.of (B T)) != I (CrcMath.of (B s))) = true := bne_iff_ne.mpr (fun e => hne (I_inj e))
    simp only [this]
    exact Ev.now _
end Go.Proofs.Ytlbcnbdliigkdaa.Pure
