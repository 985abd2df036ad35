-- kept, by a program of this session, of texts that the printer or this session wrote
import Derived.Test.YtjagplonneednaaZPx30026
import Derived.Test.YtjagplonneednaaZCrcEv2
section
set_option linter.unusedVariables false
set_option linter.unusedSimpArgs false
namespace Go.Proofs.Ytjagplonneednaa.Pure
open Go.RowKit Go.Proofs.Ytjagplonneednaa.P Go.Proofs.YtjagplonneednaaW.PrintWords Go.Proofs.YtjagplonneednaaW.PrintLast
theorem tmod_nat (a : Nat) : Int.tmod (a : Int) 2 = ((a % 2 : Nat) : Int) := by
  rw [Int.tmod_eq_emod_of_nonneg (by omega)]; omega
theorem tdiv_nat (a : Nat) : Int.tdiv (a : Int) 2 = ((a / 2 : Nat) : Int) := by
  rw [Int.tdiv_eq_ediv_of_nonneg (by omega)]; omega
theorem rstep_round (x : BitVec 32) : (if Int.tmod (I x) 2 = 1 then Go.bits .xor .u32 (Int.tdiv (I x) 2 % 4294967296) 2197175160 else Int.tdiv (I x) 2 % 4294967296) = I (CrcMath.half x) := by
  have e1 : Int.tdiv (I x) 2 % 4294967296 = I (x >>> (1 : Nat)) := by
    unfold I
    rw [tdiv_nat, BitVec.toNat_ushiftRight, Nat.shiftRight_eq_div_pow]
    have := x.isLt
    omega
  have e2 : (Int.tmod (I x) 2 = 1) ↔ x.getLsbD 0 = true := by
    have h : x.getLsbD 0 = x.toNat.testBit 0 := rfl
    unfold I
    rw [tmod_nat, h, Nat.testBit_zero, decide_eq_true_iff]
    omega
  have e3 : (2197175160 : Int) = I CrcMath.poly := by decide
  unfold CrcMath.half
  rw [e1, e3]
  by_cases h : x.getLsbD 0 = true
  · rw [if_pos (e2.mpr h), if_pos h, I_xor]
  · rw [if_neg (fun z => h (e2.mp z)), if_neg h, BitVec.xor_zero]
theorem rstep_l0 (d : Nat) : ∀ (x : BitVec 32) (j : Nat), j + d = 8 → Ev (fun k => spoorref02_step.l0 k (I x) j) (I (CrcMath.halves d x)) := by
  induction d with
  | zero =>
    intro x j hj
    refine Ev.step (fun k => ?_) (Ev.now _)
    simp only [spoorref02_step.l0]
    rw [if_neg (by omega)]
    rfl
  | succ d ih =>
    intro x j hj
    refine Ev.step (fun k => ?_) (ih (CrcMath.half x) (j + 1) (by omega))
    simp only [spoorref02_step.l0]
    rw [if_pos (by omega), wrap_up j (by omega), ← rstep_round]
    split <;> rfl
theorem rstep_ev (x : BitVec 32) (s : ByteArray) (i : Nat) (h : i < s.size) : Ev (fun k => spoorref02_step.f k (I x) (bt s (i : Int))) (I (CrcMath.step x ((B s)[i]'(by rw [B_len]; exact h)))) := by
  unfold spoorref02_step.f CrcMath.step
  rw [I_byte x s i h]
  exact rstep_l0 8 _ 0 (by omega)
theorem ROn_l0 (s : ByteArray) (hs : s.size ≤ 9223372036854775806) (d : Nat) : ∀ (x : BitVec 32) (i : Nat), i + d = s.size → Ev (fun k => spoorref02_On.l0 k s (I x) i) (I (~~~ CrcMath.run x ((B s).drop i))) := by
  induction d with
  | zero =>
    intro x i hi
    refine Ev.step (fun k => ?_) (Ev.now _)
    simp only [spoorref02_On.l0]
    rw [if_neg (by omega), I_not', List.drop_eq_nil_of_le (by rw [B_len]; omega)]
    rfl
  | succ d ih =>
    intro x i hi
    have hl : i < s.size := by omega
    have e : (B s).drop i = ((B s)[i]'(by rw [B_len]; exact hl)) :: (B s).drop (i + 1) := List.drop_eq_getElem_cons (by rw [B_len]; exact hl)
    rw [e]
    refine Ev.step (f := fun k => (spoorref02_step.f k (I x) (bt s (i : Int))).bind fun t => spoorref02_On.l0 k s t ((i + 1 : Nat) : Int)) (fun k => ?_) (Ev.bind (rstep_ev x s i hl) (ih _ (i + 1) (by omega)))
    simp only [spoorref02_On.l0]
    rw [if_pos (by omega), if_pos (by omega), wrap_up i (by omega)]
theorem ROn_ev (x : BitVec 32) (s : ByteArray) (hs : s.size ≤ 9223372036854775806) : Ev (fun k => spoorref02_On.f k (I x) s) (I (CrcMath.on x (B s))) := by
  unfold spoorref02_On.f CrcMath.on
  rw [I_not']
  have := ROn_l0 s hs s.size (~~~ x) 0 (by omega)
  rw [List.drop_zero] at this
  exact this
theorem ROf_ev (s : ByteArray) (hs : s.size ≤ 9223372036854775806) : Ev (fun k => spoorref02_Of.f k s) (I (CrcMath.of (B s))) := by
  unfold spoorref02_Of.f
  have e : (0 : Int) = I 0#32 := by decide
  rw [e]
  exact Ev.bind (ROn_ev _ s hs) (Ev.now _)
end Go.Proofs.Ytjagplonneednaa.Pure
end
section
set_option linter.unusedVariables false
set_option linter.unusedSimpArgs false
namespace Go.Proofs.Ytjagplonneednaa.Pure
open Go.RowKit Go.Proofs.Ytjagplonneednaa.P Go.Proofs.YtjagplonneednaaW.PrintWords Go.Proofs.YtjagplonneednaaW.PrintLast
theorem RText_f (x : Int) (h0 : 0 ≤ x) (h1 : x < 4294967296) : spoorref02_Text.f x = some (text4 x) := by
  unfold spoorref02_Text.f text4
  rw [Int.tdiv_eq_ediv_of_nonneg h0, Int.tdiv_eq_ediv_of_nonneg h0, Int.tdiv_eq_ediv_of_nonneg h0]
  have e1 : x / 16777216 % 4294967296 % 256 = x / 16777216 % 256 := by omega
  have e2 : x / 65536 % 4294967296 % 256 = x / 65536 % 256 := by omega
  have e3 : x / 256 % 4294967296 % 256 = x / 256 % 256 := by omega
  rw [e1, e2, e3]
end Go.Proofs.Ytjagplonneednaa.Pure
end
