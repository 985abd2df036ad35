/- What is sealed is opened as it was, and what is opened is sealed so. -/
import Derived.Test.YtlbcnbdliigkdaaCrcEv2
set_option linter.unusedVariables false
set_option linter.unusedSimpArgs false
namespace Go.Proofs.Ytlbcnbdliigkdaa.Pure
open Go.RowKit Go.Proofs.Ytlbcnbdliigkdaa.P Go.Proofs.YtlbcnbdliigkdaaW.PrintWords Go.Proofs.YtlbcnbdliigkdaaW.PrintLast
theorem sealed_size (s : ByteArray) : (sealed s).size = s.size + 4 := by unfold sealed; rw [ByteArray.size_append, text4_size]
theorem front_sealed (s : ByteArray) : front (sealed s) = s := by
  apply B_inj
  rw [B_front, sealed_size]
  unfold sealed
  rw [B_app, Nat.add_sub_cancel, ← B_len, List.take_left]
theorem back_sealed (s : ByteArray) : back (sealed s) = B (text4 (I (CrcMath.of (B s)))) := by
  unfold back
  rw [sealed_size]
  unfold sealed
  rw [B_app, Nat.add_sub_cancel, ← B_len, List.drop_left]
theorem be_back_sealed (s : ByteArray) : be (back (sealed s)) = I (CrcMath.of (B s)) := by rw [back_sealed, be_text4 _ (I_lo _) (I_hi _)]
/-- what is sealed is opened as it was. -/
theorem Open_sealed (s : ByteArray) (hs : s.size ≤ 140737488351232) : Ev (fun k => crc_Open.f k (sealed s)) (s, 0) := by
  have h := Open_ev (sealed s) (by rw [sealed_size]; omega)
  rw [if_neg (by rw [sealed_size]; omega), front_sealed, be_back_sealed, if_pos rfl] at h
  exact h
theorem sealed_front (s : ByteArray) (h : 4 ≤ s.size) (e : be (back s) = I (CrcMath.of (B (front s)))) : sealed (front s) = s := by
  have hl := back_len s h
  apply B_inj
  unfold sealed
  rw [B_app, ← e]
  have : B (text4 (be (back s))) = back s := be_inj (by rw [B_len]; exact text4_size _) hl (by have := be_range hl; exact be_text4 _ this.1 this.2)
  rw [this]
  exact B_split s
theorem front_size (s : ByteArray) : (front s).size = s.size - 4 := by unfold front; rw [ByteArray.size_extract]; omega
end Go.Proofs.Ytlbcnbdliigkdaa.Pure
