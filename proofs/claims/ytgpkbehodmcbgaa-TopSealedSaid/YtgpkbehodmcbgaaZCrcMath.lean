/- The check sum as a function on lists of bytes, over 32 bits: its affine law, products of polynomials, and that a turned byte turns it. Plain mathematics, no program. -/
import Derived.Laws.BitsAllLaws
import Derived.Laws.BytesArg
set_option linter.unusedVariables false
set_option linter.unusedSimpArgs false
namespace Go.Proofs.Ytgpkbehodmcbgaa.CrcMath
def poly : BitVec 32 := 0x82f63b78#32
def high : BitVec 32 := 0x80000000#32
def half (n : BitVec 32) : BitVec 32 := (n >>> 1) ^^^ (if n.getLsbD 0 then poly else 0#32)
def halves : Nat → BitVec 32 → BitVec 32
  | 0, x => x
  | n + 1, x => halves n (half x)
def step (n : BitVec 32) (b : UInt8) : BitVec 32 := halves 8 (n ^^^ BitVec.ofNat 32 b.toNat)
def run (n : BitVec 32) (l : List UInt8) : BitVec 32 := l.foldl step n
def on (s : BitVec 32) (l : List UInt8) : BitVec 32 := ~~~ (run (~~~ s) l)
def of (l : List UInt8) : BitVec 32 := on 0#32 l
theorem half_xor (x y : BitVec 32) : half (x ^^^ y) = half x ^^^ half y := by
  unfold half
  rw [BitVec.getLsbD_xor]
  have h : (x ^^^ y) >>> 1 = (x >>> 1) ^^^ (y >>> 1) := by
    apply BitVec.eq_of_getLsbD_eq
    intro i hi
    simp
  rw [h]
  cases x.getLsbD 0 <;> cases y.getLsbD 0 <;> simp [BitVec.xor_assoc]
  · exact BitVec.xor_comm _ _
  · have e : poly ^^^ (y >>> 1 ^^^ poly) = y >>> 1 := by
      rw [BitVec.xor_comm (y >>> 1), ← BitVec.xor_assoc, BitVec.xor_self, BitVec.zero_xor]
    rw [e]
theorem half_zero : half 0#32 = 0#32 := by decide
theorem halves_xor (n : Nat) : ∀ x y : BitVec 32, halves n (x ^^^ y) = halves n x ^^^ halves n y := by
  induction n with
  | zero => intro x y; rfl
  | succ n ih => intro x y; show halves n (half (x ^^^ y)) = _; rw [half_xor, ih]; rfl
theorem halves_add (m : Nat) : ∀ (n : Nat) (x : BitVec 32), halves (m + n) x = halves n (halves m x) := by
  induction m with
  | zero => intro n x; rw [Nat.zero_add]; rfl
  | succ m ih => intro n x; rw [Nat.add_right_comm]; show halves (m + n) (half x) = _; rw [ih]; rfl
theorem half_eq_zero (z : BitVec 32) (h : half z = 0#32) : z = 0#32 := by
  have hb : ∀ i, (half z).getLsbD i = false := by intro i; rw [h]; simp
  have h31 := hb 31
  unfold half at hb h31
  cases h0 : z.getLsbD 0 with
  | true =>
    rw [h0] at h31
    rw [BitVec.getLsbD_xor] at h31
    have : (z >>> 1).getLsbD 31 = false := by simp
    rw [this] at h31
    exact absurd h31 (by decide)
  | false =>
    rw [h0] at hb
    apply BitVec.eq_of_getLsbD_eq
    intro i hi
    rw [BitVec.getLsbD_zero]
    cases i with
    | zero => exact h0
    | succ i =>
      have := hb i
      rw [BitVec.getLsbD_xor, BitVec.getLsbD_ushiftRight] at this
      simp at this
      rw [Nat.add_comm]
      exact this
theorem halves_eq_zero (n : Nat) : ∀ z : BitVec 32, halves n z = 0#32 → z = 0#32 := by
  induction n with
  | zero => intro z h; exact h
  | succ n ih => intro z h; exact half_eq_zero z (ih _ h)
theorem xor_eq_zero {x y : BitVec 32} (h : x ^^^ y = 0#32) : x = y := by
  have : (x ^^^ y) ^^^ y = 0#32 ^^^ y := by rw [h]
  rwa [BitVec.xor_assoc, BitVec.xor_self, BitVec.xor_zero, BitVec.zero_xor] at this
theorem step_xor (a b : BitVec 32) (x : UInt8) : step (a ^^^ b) x = halves 8 a ^^^ step b x := by
  unfold step
  rw [BitVec.xor_assoc, halves_xor]
theorem run_xor (l : List UInt8) : ∀ a b : BitVec 32, run (a ^^^ b) l = halves (8 * l.length) a ^^^ run b l := by
  induction l with
  | nil => intro a b; rfl
  | cons x l ih =>
    intro a b
    show run (step (a ^^^ b) x) l = _
    rw [step_xor, ih, List.length_cons, Nat.mul_succ, Nat.add_comm, halves_add]
    rfl
theorem run_append (n : BitVec 32) (l m : List UInt8) : run n (l ++ m) = run (run n l) m := by unfold run; rw [List.foldl_append]
theorem run_inj (l : List UInt8) (a b : BitVec 32) (h : run a l = run b l) : a = b := by
  have e : run ((a ^^^ b) ^^^ b) l = halves (8 * l.length) (a ^^^ b) ^^^ run b l := run_xor l _ _
  rw [BitVec.xor_assoc, BitVec.xor_self, BitVec.xor_zero, h] at e
  have z : halves (8 * l.length) (a ^^^ b) = 0#32 := by
    have : run b l ^^^ run b l = (halves (8 * l.length) (a ^^^ b) ^^^ run b l) ^^^ run b l := by rw [← e]
    rw [BitVec.xor_self, BitVec.xor_assoc, BitVec.xor_self, BitVec.xor_zero] at this
    exact this.symm
  exact xor_eq_zero (halves_eq_zero _ _ z)
theorem step_inj (n : BitVec 32) (x y : UInt8) (h : step n x = step n y) : x = y := by
  unfold step at h
  have e : halves 8 ((n ^^^ BitVec.ofNat 32 x.toNat) ^^^ (n ^^^ BitVec.ofNat 32 y.toNat)) = 0#32 := by rw [halves_xor, h, BitVec.xor_self]
  have z := xor_eq_zero (halves_eq_zero _ _ e)
  have w : BitVec.ofNat 32 x.toNat = BitVec.ofNat 32 y.toNat := by
    have : n ^^^ (n ^^^ BitVec.ofNat 32 x.toNat) = n ^^^ (n ^^^ BitVec.ofNat 32 y.toNat) := by rw [z]
    rwa [← BitVec.xor_assoc, ← BitVec.xor_assoc, BitVec.xor_self, BitVec.zero_xor, BitVec.zero_xor] at this
  have t := congrArg BitVec.toNat w
  rw [BitVec.toNat_ofNat, BitVec.toNat_ofNat] at t
  have hx := x.toNat_lt
  have hy := y.toNat_lt
  apply UInt8.toNat_inj.mp
  omega
theorem run_turned (n : BitVec 32) (l m : List UInt8) (x y : UInt8) (h : x ≠ y) : run n (l ++ x :: m) ≠ run n (l ++ y :: m) := by
  intro e
  rw [run_append, run_append] at e
  exact h (step_inj _ _ _ (run_inj m _ _ e))
theorem not_inj {x y : BitVec 32} (h : ~~~ x = ~~~ y) : x = y := by
  have := congrArg (fun z => ~~~ z) h
  simpa using this
theorem of_turned (l m : List UInt8) (x y : UInt8) (h : x ≠ y) : of (l ++ x :: m) ≠ of (l ++ y :: m) := fun e => run_turned _ l m x y h (not_inj e)
def mulN : Nat → BitVec 32 → BitVec 32 → BitVec 32
  | 0, _, _ => 0#32
  | n + 1, a, b => (if a.getLsbD n then b else 0#32) ^^^ mulN n a (half b)
def mul (a b : BitVec 32) : BitVec 32 := mulN 32 a b
theorem mulN_xor (n : Nat) (a : BitVec 32) : ∀ b c : BitVec 32, mulN n a (b ^^^ c) = mulN n a b ^^^ mulN n a c := by
  induction n with
  | zero => intro b c; simp [mulN]
  | succ n ih =>
    intro b c
    simp only [mulN]
    rw [half_xor, ih]
    cases a.getLsbD n
    · simp
    · simp only [if_true]
      rw [BitVec.xor_assoc, BitVec.xor_assoc]
      congr 1
      rw [← BitVec.xor_assoc, ← BitVec.xor_assoc, BitVec.xor_comm c]
theorem mulN_half (n : Nat) (a : BitVec 32) : ∀ b : BitVec 32, mulN n a (half b) = half (mulN n a b) := by
  induction n with
  | zero => intro b; exact half_zero.symm
  | succ n ih =>
    intro b
    simp only [mulN]
    rw [half_xor, ih]
    cases a.getLsbD n
    · simp [half_zero]
    · simp
theorem mulN_zero (n : Nat) (a : BitVec 32) : mulN n a 0#32 = 0#32 := by
  induction n with
  | zero => rfl
  | succ n ih => simp only [mulN]; rw [half_zero, ih]; simp
theorem mulN_comm (n m : Nat) (a b : BitVec 32) : ∀ x : BitVec 32, mulN n a (mulN m b x) = mulN m b (mulN n a x) := by
  induction m with
  | zero => intro x; simp only [mulN]; exact mulN_zero n a
  | succ m ih =>
    intro x
    simp only [mulN]
    rw [mulN_xor, ih, mulN_half]
    cases b.getLsbD m
    · simp [mulN_zero]
    · simp
theorem half_two (n : Nat) (h : n + 1 < 32) : half (BitVec.twoPow 32 (n + 1)) = BitVec.twoPow 32 n := by
  unfold half
  have h0 : (BitVec.twoPow 32 (n + 1)).getLsbD 0 = false := by simp [BitVec.getLsbD_twoPow]
  rw [h0]
  apply BitVec.eq_of_getLsbD_eq
  intro i hi
  rw [BitVec.getLsbD_xor, BitVec.getLsbD_ushiftRight, BitVec.getLsbD_twoPow, BitVec.getLsbD_twoPow]
  have : (n + 1 = 1 + i) ↔ (n = i) := by omega
  have h1 : n + 1 < 32 := h
  have h2 : n < 32 := by omega
  simp [this, h1, h2]
theorem mulN_two (n : Nat) (a : BitVec 32) (h : n < 32) : ∀ i, (mulN (n + 1) a (BitVec.twoPow 32 n)).getLsbD i = (decide (i ≤ n) && a.getLsbD i) := by
  induction n with
  | zero =>
    intro i
    simp only [mulN]
    rw [BitVec.xor_zero]
    rcases Nat.eq_zero_or_pos i with rfl | hi
    · cases h0 : a.getLsbD 0 <;> simp [h0, BitVec.getLsbD_twoPow]
    · have : ¬ i ≤ 0 := by omega
      have h0 : ¬ 0 = i := by omega
      cases a.getLsbD 0 <;> simp [BitVec.getLsbD_twoPow, this, h0]
  | succ n ih =>
    intro i
    rw [mulN, half_two n h, BitVec.getLsbD_xor, ih (by omega)]
    rcases Nat.lt_trichotomy i (n + 1) with hi | rfl | hi
    · have h1 : i ≤ n := by omega
      have h2 : i ≤ n + 1 := by omega
      have h3 : ¬ (n + 1 = i) := by omega
      cases a.getLsbD (n + 1) <;> simp [BitVec.getLsbD_twoPow, h1, h2, h3]
    · cases h4 : a.getLsbD (n + 1) <;> simp [BitVec.getLsbD_twoPow, h]
    · have h1 : ¬ i ≤ n := by omega
      have h2 : ¬ i ≤ n + 1 := by omega
      have h3 : ¬ (n + 1 = i) := by omega
      cases a.getLsbD (n + 1) <;> simp [BitVec.getLsbD_twoPow, h1, h2, h3]
theorem mul_high (a : BitVec 32) : mul a high = a := by
  apply BitVec.eq_of_getLsbD_eq
  intro i hi
  have e : high = BitVec.twoPow 32 31 := by decide
  unfold mul
  rw [e, mulN_two 31 a (by omega)]
  have : i ≤ 31 := by omega
  simp [this]
theorem mul_comm (a b : BitVec 32) : mul a b = mul b a := by
  have h := mulN_comm 32 32 a b high
  have ha : mulN 32 a high = a := mul_high a
  have hb : mulN 32 b high = b := mul_high b
  rw [ha, hb] at h
  exact h
theorem mul_assoc (a b c : BitVec 32) : mul (mul a b) c = mul a (mul b c) := by
  rw [mul_comm (mul a b) c, mul_comm b c]
  exact mulN_comm 32 32 c a b
end Go.Proofs.Ytgpkbehodmcbgaa.CrcMath
