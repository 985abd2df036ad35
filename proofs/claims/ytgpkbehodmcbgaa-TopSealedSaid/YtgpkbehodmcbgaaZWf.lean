-- kept, by a program of this session, of texts that the printer or this session wrote
import Derived.Test.YtgpkbehodmcbgaaZPx30018
import Derived.Test.YtgpkbehodmcbgaaZCrcEv2
import Derived.Test.YtgpkbehodmcbgaaZWLast
import GoSem.Claim
section
set_option linter.unusedVariables false
set_option linter.unusedSimpArgs false
namespace Go.Proofs.Ytgpkbehodmcbgaa.Pure
open Go.RowKit Go.Proofs.Ytgpkbehodmcbgaa.P Go.Proofs.YtgpkbehodmcbgaaW.PrintWords Go.Proofs.YtgpkbehodmcbgaaW.PrintLast
def sealed (s : ByteArray) : ByteArray := s ++ text4 (I (CrcMath.of (B s)))
theorem Sealed_ev (s : ByteArray) (hs : s.size ≤ 140737488351232) : Ev (fun k => crc_Sealed.f k s) (if s.size > 32768 then (⟨#[]⟩, 11) else (sealed s, 0)) := by
  unfold crc_Sealed.f
  by_cases h : s.size > 32768
  · have h' : (s.size : Int) > 32768 := by omega
    simp only [if_pos h, if_pos h']
    exact Ev.now _
  · have h' : ¬ (s.size : Int) > 32768 := by omega
    simp only [if_neg h, if_neg h']
    refine Ev.bind (Of_ev s (by omega)) ?_
    simp only [Text_f, Option.bind_some]
    have e : s.size + (text4 (I (CrcMath.of (B s)))).size ≤ 9223372036854775807 := by rw [text4_size]; omega
    simp only [if_pos e]
    exact Ev.now _
def front (s : ByteArray) : ByteArray := s.extract 0 (s.size - 4)
def back (s : ByteArray) : List UInt8 := (B s).drop (s.size - 4)
theorem back_len (s : ByteArray) (h : 4 ≤ s.size) : (back s).length = 4 := by unfold back; rw [List.length_drop, B_len]; omega
theorem B_front (s : ByteArray) : B (front s) = (B s).take (s.size - 4) := by unfold front; rw [B_extract, List.drop_zero]
theorem wrap_sub4 (n : Nat) (h : n ≤ 9223372036854775806) : wrap64 ((n : Int) - 4) = (n : Int) - 4 := by unfold wrap64; omega
theorem Open_ev (s : ByteArray) (hs : s.size ≤ 9223372036854775806) : Ev (fun k => crc_Open.f k s) (if s.size < 4 then (⟨#[]⟩, 5) else if be (back s) = I (CrcMath.of (B (front s))) then (front s, 0) else (⟨#[]⟩, 6)) := by
  unfold crc_Open.f
  simp only [wrap_sub4 s.size hs]
  by_cases h : s.size < 4
  · have h' : (s.size : Int) - 4 < 0 := by omega
    simp only [if_pos h, if_pos h']
    exact Ev.now _
  · have h' : ¬ (s.size : Int) - 4 < 0 := by omega
    have h0 : 0 ≤ (s.size : Int) - 4 := by omega
    have h1 : (s.size : Int) - 4 ≤ (s.size : Int) := by omega
    have e : ((s.size : Int) - 4).toNat = s.size - 4 := by omega
    simp only [if_neg h, if_neg h', if_pos h0, if_pos h1, e]
    have hr := Read_ev (s.extract (s.size - 4) s.size)
    have hz : (s.extract (s.size - 4) s.size).size = 4 := by rw [ByteArray.size_extract]; omega
    rw [if_neg (by omega)] at hr
    refine Ev.bind hr ?_
    refine Ev.bind (Of_ev (s.extract 0 (s.size - 4)) (by rw [ByteArray.size_extract]; omega)) ?_
    have eb : (B (s.extract (s.size - 4) s.size)).take 4 = back s := by
      rw [B_extract, List.take_of_length_le (l := B s) (by rw [B_len]; omega)]
      exact List.take_of_length_le (by have := back_len s (by omega); unfold back at this; omega)
    have ef : s.extract 0 (s.size - 4) = front s := rfl
    simp only [eb, ef]
    by_cases hc : be (back s) = I (CrcMath.of (B (front s)))
    · simp only [if_pos hc]
      exact Ev.now _
    · simp only [if_neg hc]
      exact Ev.now _
end Go.Proofs.Ytgpkbehodmcbgaa.Pure
end
section
set_option linter.unusedVariables false
set_option linter.unusedSimpArgs false
namespace Go.Proofs.Ytgpkbehodmcbgaa.Pure
open Go.RowKit Go.Proofs.Ytgpkbehodmcbgaa.P Go.Proofs.YtgpkbehodmcbgaaW.PrintWords Go.Proofs.YtgpkbehodmcbgaaW.PrintLast
theorem sealed_size (s : ByteArray) : (sealed s).size = s.size + 4 := by unfold sealed; rw [ByteArray.size_append, text4_size]
theorem front_sealed (s : ByteArray) : front (sealed s) = s := by
  apply B_inj
  rw [B_front, sealed_size]
  unfold sealed
  rw [B_app, Nat.add_sub_cancel, ← B_len, List.take_left]
theorem back_sealed (s : ByteArray) : back (sealed s) = B (text4 (I (CrcMath.of (B s)))) := by
  unfold back
  rw [sealed_size]
  unfold sealed
  rw [B_app, Nat.add_sub_cancel, ← B_len, List.drop_left]
theorem be_back_sealed (s : ByteArray) : be (back (sealed s)) = I (CrcMath.of (B s)) := by rw [back_sealed, be_text4 _ (I_lo _) (I_hi _)]
theorem Open_sealed (s : ByteArray) (hs : s.size ≤ 140737488351232) : Ev (fun k => crc_Open.f k (sealed s)) (s, 0) := by
  have h := Open_ev (sealed s) (by rw [sealed_size]; omega)
  rw [if_neg (by rw [sealed_size]; omega), front_sealed, be_back_sealed, if_pos rfl] at h
  exact h
end Go.Proofs.Ytgpkbehodmcbgaa.Pure
end
section
set_option linter.unusedVariables false
set_option linter.unusedSimpArgs false
namespace Go.Proofs.Ytgpkbehodmcbgaa.Pure
open Go.RowKit Go.Proofs.Ytgpkbehodmcbgaa.P Go.Proofs.YtgpkbehodmcbgaaW.PrintWords Go.Proofs.YtgpkbehodmcbgaaW.PrintLast
theorem turned_size (s : ByteArray) (i : Nat) (b : Int) : (Tools.turned s i b).size = s.size := by
  unfold Tools.turned
  rw [strOfNums_size, List.length_set, Tools.nums8_len]
theorem nums8_back (l : List UInt8) : (l.map fun b => (b.toNat : Int)).map (fun n : Int => UInt8.ofNat n.toNat) = l := by
  rw [List.map_map]
  conv => rhs; rw [← List.map_id l]
  apply List.map_congr_left
  intro b _
  simp
theorem B_turned (s : ByteArray) (i : Nat) (b : Int) : B (Tools.turned s i b) = (B s).set i (UInt8.ofNat (Go.bits .xor .u8 (bt s (i : Int)) b).toNat) := by
  unfold Tools.turned B
  rw [strOfNums_data, List.map_set]
  unfold Tools.nums8
  rw [nums8_back]
theorem xor_u8_ne (x b : Int) (h0 : 0 ≤ x) (h1 : x < 256) (g0 : 0 < b) (g1 : b < 256) : 0 ≤ Go.bits .xor .u8 x b ∧ Go.bits .xor .u8 x b < 256 ∧ Go.bits .xor .u8 x b ≠ x := by
  rw [u8_xor x b h0 h1 (by omega) g1]
  have hx : x.toNat ^^^ b.toNat < 2 ^ 8 := Nat.xor_lt_two_pow (by omega) (by omega)
  refine ⟨by omega, by omega, fun e => ?_⟩
  have e' : x.toNat ^^^ b.toNat = x.toNat := by omega
  have : x.toNat ^^^ (x.toNat ^^^ b.toNat) = x.toNat ^^^ x.toNat := by rw [e']
  rw [← Nat.xor_assoc, Nat.xor_self, Nat.zero_xor] at this
  omega
theorem turned_ne (s : ByteArray) (i : Nat) (b : Int) (hi : i < s.size) (g0 : 0 < b) (g1 : b < 256) : ∃ l x y m, B s = l ++ x :: m ∧ B (Tools.turned s i b) = l ++ y :: m ∧ x ≠ y ∧ l.length = i := by
  have hl : i < (B s).length := by rw [B_len]; exact hi
  have hb := bt_range s (i : Int)
  obtain ⟨c0, c1, c2⟩ := xor_u8_ne (bt s (i : Int)) b hb.1 (by omega) g0 g1
  refine ⟨(B s).take i, (B s)[i], UInt8.ofNat (Go.bits .xor .u8 (bt s (i : Int)) b).toNat, (B s).drop (i + 1), ?_, ?_, ?_, by rw [List.length_take]; omega⟩
  · rw [← List.drop_eq_getElem_cons hl, List.take_append_drop]
  · rw [B_turned, List.set_eq_take_append_cons_drop, if_pos hl]
  · intro e
    have := congrArg (fun z : UInt8 => (z.toNat : Int)) e
    rw [u8_of _ c0 c1, ← bt_B s i hi] at this
    exact c2 this.symm
end Go.Proofs.Ytgpkbehodmcbgaa.Pure
end
section
set_option linter.unusedVariables false
set_option linter.unusedSimpArgs false
namespace Go.Proofs.Ytgpkbehodmcbgaa.Pure
theorem wf_range {k : IntKind} {a : Int} (h : (Lit.int k a).wf = true) : k.min ≤ a ∧ a ≤ k.max := by
  unfold Lit.wf at h
  rw [Bool.and_eq_true, decide_eq_true_iff, decide_eq_true_iff] at h
  exact h
theorem wf_u64 {a : Int} (h : (Lit.int .u64 a).wf = true) : 0 ≤ a ∧ a < 18446744073709551616 := by
  have h' := wf_range h
  have e1 : IntKind.u64.min = 0 := by decide
  have e2 : IntKind.u64.max = 18446744073709551615 := by decide
  omega
theorem wf_u8 {a : Int} (h : (Lit.int .u8 a).wf = true) : 0 ≤ a ∧ a < 256 := by
  have h' := wf_range h
  have e1 : IntKind.u8.min = 0 := by decide
  have e2 : IntKind.u8.max = 255 := by decide
  omega
end Go.Proofs.Ytgpkbehodmcbgaa.Pure
end
