/- The document's reading, writing, sealing and opening of sums come to the same. -/
import Derived.Test.YtlbcnbdliigkdaaPx3
import Derived.Test.YtlbcnbdliigkdaaPx2
import Derived.Test.YtlbcnbdliigkdaaCrcRef
set_option linter.unusedVariables false
set_option linter.unusedSimpArgs false
namespace Go.Proofs.Ytlbcnbdliigkdaa.Pure
open Go.RowKit Go.Proofs.Ytlbcnbdliigkdaa.P Go.Proofs.YtlbcnbdliigkdaaW.PrintWords Go.Proofs.YtlbcnbdliigkdaaW.PrintLast
theorem RText_f (x : Int) (h0 : 0 ≤ x) (h1 : x < 4294967296) : spoorref02_Text.f x = some (text4 x) := by
  unfold spoorref02_Text.f text4
  rw [Int.tdiv_eq_ediv_of_nonneg h0, Int.tdiv_eq_ediv_of_nonneg h0, Int.tdiv_eq_ediv_of_nonneg h0]
  have e1 : x / 16777216 % 4294967296 % 256 = x / 16777216 % 256 := by omega
  have e2 : x / 65536 % 4294967296 % 256 = x / 65536 % 256 := by omega
  have e3 : x / 256 % 4294967296 % 256 = x / 256 % 256 := by omega
  rw [e1, e2, e3]
theorem RRead_l0 (s : ByteArray) (hs : 4 ≤ s.size) (d : Nat) : ∀ i : Nat, i + d = 4 → Ev (fun k => spoorref02_Read.l0 k s (be ((B s).take i)) i) (be ((B s).take 4), s.extract 4 s.size, 0) := by
  induction d with
  | zero =>
    intro i hi
    obtain rfl : i = 4 := by omega
    refine Ev.step (fun k => ?_) (Ev.now _)
    simp only [spoorref02_Read.l0]
    rw [if_neg (by omega), if_pos (by omega)]
  | succ d ih =>
    intro i hi
    refine Ev.step (fun k => ?_) (ih (i + 1) (by omega))
    simp only [spoorref02_Read.l0]
    have hb := bt_range s i
    have hn := be_take_lt s i (by omega)
    have e : ((256 * be ((B s).take i)) % 4294967296 + bt s (i : Int) % 4294967296) % 4294967296 = be ((B s).take (i + 1)) := by
      rw [be_take s i (by omega)]
      omega
    rw [if_pos (by omega), if_pos (by omega), if_pos (by omega), e, wrap_up i (by omega)]
theorem RRead_ev (s : ByteArray) : Ev (fun k => spoorref02_Read.f k s) (if s.size < 4 then (0, ⟨#[]⟩, 5) else (be ((B s).take 4), s.extract 4 s.size, 0)) := by
  unfold spoorref02_Read.f
  by_cases h : s.size < 4
  · have h' : (s.size : Int) < 4 := by omega
    simp only [if_pos h, if_pos h']
    exact Ev.now _
  · have h' : ¬ (s.size : Int) < 4 := by omega
    simp only [if_neg h, if_neg h']
    exact RRead_l0 s (by omega) 4 0 (by omega)
theorem RSealed_ev (s : ByteArray) (hs : s.size ≤ 140737488351232) : Ev (fun k => spoorref02_Sealed.f k s) (if s.size > 32768 then (⟨#[]⟩, 11) else (sealed s, 0)) := by
  unfold spoorref02_Sealed.f
  by_cases h : s.size > 32768
  · have h' : (s.size : Int) > 32768 := by omega
    simp only [if_pos h, if_pos h']
    exact Ev.now _
  · have h' : ¬ (s.size : Int) > 32768 := by omega
    simp only [if_neg h, if_neg h']
    refine Ev.bind (ROf_ev s (by omega)) ?_
    simp only [RText_f _ (I_lo _) (I_hi _), Option.bind_some]
    have e : s.size + (text4 (I (CrcMath.of (B s)))).size ≤ 9223372036854775807 := by rw [text4_size]; omega
    simp only [if_pos e]
    exact Ev.now _
theorem B_back (s : ByteArray) (h : 4 ≤ s.size) : B (s.extract (s.size - 4) s.size) = back s := by
  rw [B_extract, List.take_of_length_le (l := B s) (by rw [B_len]; omega)]
  rfl
theorem ROpen_ev (s : ByteArray) (hs : s.size ≤ 9223372036854775806) : Ev (fun k => spoorref02_Open.f k s) (if s.size < 4 then (⟨#[]⟩, 5) else if be (back s) = I (CrcMath.of (B (front s))) then (front s, 0) else (⟨#[]⟩, 6)) := by
  unfold spoorref02_Open.f
  simp only [wrap_sub4 s.size hs]
  by_cases h : s.size < 4
  · have h' : (s.size : Int) < 4 := by omega
    simp only [if_pos h, if_pos h']
    exact Ev.now _
  · have h' : ¬ (s.size : Int) < 4 := by omega
    have h0 : 0 ≤ (s.size : Int) - 4 := by omega
    have h1 : (s.size : Int) - 4 ≤ (s.size : Int) := by omega
    have e : ((s.size : Int) - 4).toNat = s.size - 4 := by omega
    simp only [if_neg h, if_neg h', if_pos h0, if_pos h1, e]
    refine Ev.bind (ROf_ev (s.extract 0 (s.size - 4)) (by rw [ByteArray.size_extract]; omega)) ?_
    have ef : s.extract 0 (s.size - 4) = front s := rfl
    simp only [ef, RText_f _ (I_lo _) (I_hi _), Option.bind_some, toList_B]
    rw [B_back s (by omega)]
    have hbl := back_len s (by omega)
    have iff : (B (text4 (I (CrcMath.of (B (front s))))) = back s) ↔ (be (back s) = I (CrcMath.of (B (front s)))) := by
      constructor
      · intro z
        rw [← z, be_text4 _ (I_lo _) (I_hi _)]
      · intro z
        rw [← z]
        exact be_inj (by rw [B_len]; exact text4_size _) hbl (by have := be_range hbl; exact be_text4 _ this.1 this.2)
    by_cases hc : be (back s) = I (CrcMath.of (B (front s)))
    · simp only [if_pos hc, if_pos (iff.mpr hc)]
      exact Ev.now _
    · simp only [if_neg hc, if_neg (fun z => hc (iff.mp z))]
      exact Ev.now _
end Go.Proofs.Ytlbcnbdliigkdaa.Pure
