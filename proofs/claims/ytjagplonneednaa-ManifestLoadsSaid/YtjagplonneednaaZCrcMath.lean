-- kept, by a program of this session, of texts that the printer or this session wrote
import Derived.Test.YtjagplonneednaaZPx1012
import Derived.Laws.BitsAllLaws
import Derived.Laws.BytesArg
section
set_option linter.unusedVariables false
set_option linter.unusedSimpArgs false
namespace Go.Proofs.Ytjagplonneednaa.Pure
open Go.RowKit Go.Proofs.Ytjagplonneednaa.P Go.Proofs.YtjagplonneednaaW.PrintWords Go.Proofs.YtjagplonneednaaW.PrintLast
theorem lives_ev : Ev (fun k => spoorlaw06_lives.f k) true := Ev.of spoorlaw06_lives.mono (k := 3000) (by kernel_rfl)
end Go.Proofs.Ytjagplonneednaa.Pure
end
section
set_option linter.unusedVariables false
set_option linter.unusedSimpArgs false
namespace Go.Proofs.Ytjagplonneednaa.CrcMath
def poly : BitVec 32 := 0x82f63b78#32
def high : BitVec 32 := 0x80000000#32
def half (n : BitVec 32) : BitVec 32 := (n >>> 1) ^^^ (if n.getLsbD 0 then poly else 0#32)
def halves : Nat → BitVec 32 → BitVec 32
  | 0, x => x
  | n + 1, x => halves n (half x)
def step (n : BitVec 32) (b : UInt8) : BitVec 32 := halves 8 (n ^^^ BitVec.ofNat 32 b.toNat)
def run (n : BitVec 32) (l : List UInt8) : BitVec 32 := l.foldl step n
def on (s : BitVec 32) (l : List UInt8) : BitVec 32 := ~~~ (run (~~~ s) l)
def of (l : List UInt8) : BitVec 32 := on 0#32 l
theorem half_xor (x y : BitVec 32) : half (x ^^^ y) = half x ^^^ half y := by
  unfold half
  rw [BitVec.getLsbD_xor]
  have h : (x ^^^ y) >>> 1 = (x >>> 1) ^^^ (y >>> 1) := by
    apply BitVec.eq_of_getLsbD_eq
    intro i hi
    simp
  rw [h]
  cases x.getLsbD 0 <;> cases y.getLsbD 0 <;> simp [BitVec.xor_assoc]
  · exact BitVec.xor_comm _ _
  · have e : poly ^^^ (y >>> 1 ^^^ poly) = y >>> 1 := by
      rw [BitVec.xor_comm (y >>> 1), ← BitVec.xor_assoc, BitVec.xor_self, BitVec.zero_xor]
    rw [e]
theorem half_zero : half 0#32 = 0#32 := by decide
def mulN : Nat → BitVec 32 → BitVec 32 → BitVec 32
  | 0, _, _ => 0#32
  | n + 1, a, b => (if a.getLsbD n then b else 0#32) ^^^ mulN n a (half b)
def mul (a b : BitVec 32) : BitVec 32 := mulN 32 a b
theorem mulN_xor (n : Nat) (a : BitVec 32) : ∀ b c : BitVec 32, mulN n a (b ^^^ c) = mulN n a b ^^^ mulN n a c := by
  induction n with
  | zero => intro b c; simp [mulN]
  | succ n ih =>
    intro b c
    simp only [mulN]
    rw [half_xor, ih]
    cases a.getLsbD n
    · simp
    · simp only [if_true]
      rw [BitVec.xor_assoc, BitVec.xor_assoc]
      congr 1
      rw [← BitVec.xor_assoc, ← BitVec.xor_assoc, BitVec.xor_comm c]
theorem mulN_half (n : Nat) (a : BitVec 32) : ∀ b : BitVec 32, mulN n a (half b) = half (mulN n a b) := by
  induction n with
  | zero => intro b; exact half_zero.symm
  | succ n ih =>
    intro b
    simp only [mulN]
    rw [half_xor, ih]
    cases a.getLsbD n
    · simp [half_zero]
    · simp
theorem mulN_zero (n : Nat) (a : BitVec 32) : mulN n a 0#32 = 0#32 := by
  induction n with
  | zero => rfl
  | succ n ih => simp only [mulN]; rw [half_zero, ih]; simp
theorem mulN_comm (n m : Nat) (a b : BitVec 32) : ∀ x : BitVec 32, mulN n a (mulN m b x) = mulN m b (mulN n a x) := by
  induction m with
  | zero => intro x; simp only [mulN]; exact mulN_zero n a
  | succ m ih =>
    intro x
    simp only [mulN]
    rw [mulN_xor, ih, mulN_half]
    cases b.getLsbD m
    · simp [mulN_zero]
    · simp
theorem half_two (n : Nat) (h : n + 1 < 32) : half (BitVec.twoPow 32 (n + 1)) = BitVec.twoPow 32 n := by
  unfold half
  have h0 : (BitVec.twoPow 32 (n + 1)).getLsbD 0 = false := by simp [BitVec.getLsbD_twoPow]
  rw [h0]
  apply BitVec.eq_of_getLsbD_eq
  intro i hi
  rw [BitVec.getLsbD_xor, BitVec.getLsbD_ushiftRight, BitVec.getLsbD_twoPow, BitVec.getLsbD_twoPow]
  have : (n + 1 = 1 + i) ↔ (n = i) := by omega
  have h1 : n + 1 < 32 := h
  have h2 : n < 32 := by omega
  simp [this, h1, h2]
theorem mulN_two (n : Nat) (a : BitVec 32) (h : n < 32) : ∀ i, (mulN (n + 1) a (BitVec.twoPow 32 n)).getLsbD i = (decide (i ≤ n) && a.getLsbD i) := by
  induction n with
  | zero =>
    intro i
    simp only [mulN]
    rw [BitVec.xor_zero]
    rcases Nat.eq_zero_or_pos i with rfl | hi
    · cases h0 : a.getLsbD 0 <;> simp [h0, BitVec.getLsbD_twoPow]
    · have : ¬ i ≤ 0 := by omega
      have h0 : ¬ 0 = i := by omega
      cases a.getLsbD 0 <;> simp [BitVec.getLsbD_twoPow, this, h0]
  | succ n ih =>
    intro i
    rw [mulN, half_two n h, BitVec.getLsbD_xor, ih (by omega)]
    rcases Nat.lt_trichotomy i (n + 1) with hi | rfl | hi
    · have h1 : i ≤ n := by omega
      have h2 : i ≤ n + 1 := by omega
      have h3 : ¬ (n + 1 = i) := by omega
      cases a.getLsbD (n + 1) <;> simp [BitVec.getLsbD_twoPow, h1, h2, h3]
    · cases h4 : a.getLsbD (n + 1) <;> simp [BitVec.getLsbD_twoPow, h]
    · have h1 : ¬ i ≤ n := by omega
      have h2 : ¬ i ≤ n + 1 := by omega
      have h3 : ¬ (n + 1 = i) := by omega
      cases a.getLsbD (n + 1) <;> simp [BitVec.getLsbD_twoPow, h1, h2, h3]
theorem mul_high (a : BitVec 32) : mul a high = a := by
  apply BitVec.eq_of_getLsbD_eq
  intro i hi
  have e : high = BitVec.twoPow 32 31 := by decide
  unfold mul
  rw [e, mulN_two 31 a (by omega)]
  have : i ≤ 31 := by omega
  simp [this]
theorem mul_comm (a b : BitVec 32) : mul a b = mul b a := by
  have h := mulN_comm 32 32 a b high
  have ha : mulN 32 a high = a := mul_high a
  have hb : mulN 32 b high = b := mul_high b
  rw [ha, hb] at h
  exact h
end Go.Proofs.Ytjagplonneednaa.CrcMath
end
