-- kept, by a program of this session, of texts that the printer or this session wrote
import Derived.Test.YtjagplonneednaaZPx0
import Derived.Test.YtjagplonneednaaZPx30013
import Derived.Test.YtjagplonneednaaZPx1010
import Derived.Laws.BitsAllLaws
import Derived.Laws.BytesArg
section
namespace Go.Proofs.Ytjagplonneednaa.P
open Go.RowKit Go.Proofs.YtjagplonneednaaW.PrintWords Go.Proofs.YtjagplonneednaaW.PrintLast Go.Proofs.YtjagplonneednaaW.PrintMore
attribute [local go_sem] max2_int min2_int max_two min_two max_three min_three max_four min_four
set_option linter.unusedVariables false
set_option linter.unusedSimpArgs false
def spoorref05_Number.l0 : Nat → ByteArray → Int → Int → Option (Int)
 | 0, _, _, _ => none
 | k + 1, x0, x3, x4 => if x4 < (x0.size : Int) then (if 0 ≤ x4 then (spoorref05_Number.l0 k x0 (IntKind.u64.wrap ((IntKind.u64.wrap (256 * x3)) + (IntKind.u64.wrap (bt x0 x4)))) (wrap64 (x4 + 1))) else (none)) else (some x3)
def spoorref05_Number.f (k : Nat) (a0 : ByteArray) : Option (Int) := spoorref05_Number.l0 k a0 0 0
theorem spoorref05_Number.mono_l : ∀ k, (∀ y0 y1 y2, LeO (spoorref05_Number.l0 k y0 y1 y2) (spoorref05_Number.l0 (k + 1) y0 y1 y2))
 | 0 => fun _ _ _ r h => by simp [spoorref05_Number.l0] at h
 | k + 1 => by
  have ih0 := spoorref05_Number.mono_l k
  · intro y0 y1 y2
    unfold spoorref05_Number.l0
    repeat' first
    | (with_reducible exact ih0 _ _ _)
    | (with_reducible exact LeO.refl _)
    | (with_reducible exact LeO.none _)
    | (with_reducible refine LeO.ite ?_ ?_)
    | (with_reducible refine LeO.bind ?_ (fun _ => ?_))
    | exact ih0 _ _ _
    | exact LeO.none _
    | refine LeO.ite ?_ ?_
    | refine LeO.bind ?_ (fun _ => ?_)
theorem spoorref05_Number.mono : ∀ a0 k, LeO (spoorref05_Number.f k a0) (spoorref05_Number.f (k + 1) a0) := by
 intro a0 k
 have ih0 := spoorref05_Number.mono_l k
 unfold spoorref05_Number.f
 repeat' first
  | (with_reducible exact ih0 _ _ _)
  | (with_reducible exact LeO.refl _)
  | (with_reducible exact LeO.none _)
  | (with_reducible refine LeO.ite ?_ ?_)
  | (with_reducible refine LeO.bind ?_ (fun _ => ?_))
  | exact ih0 _ _ _
  | exact LeO.none _
  | refine LeO.ite ?_ ?_
  | refine LeO.bind ?_ (fun _ => ?_)
end Go.Proofs.Ytjagplonneednaa.P
end
section
namespace Go.Proofs.Ytjagplonneednaa.P
open Go.RowKit Go.Proofs.YtjagplonneednaaW.PrintWords Go.Proofs.YtjagplonneednaaW.PrintLast Go.Proofs.YtjagplonneednaaW.PrintMore
attribute [local go_sem] max2_int min2_int max_two min_two max_three min_three max_four min_four
set_option linter.unusedVariables false
set_option linter.unusedSimpArgs false
def rparts (k : Nat) (s : ByteArray) : Nat → Nat → List S56 → Option (Option (List S56))
 | 0, _, l => some (some l)
 | d + 1, i, l => (spoorref05_Number.f k ((s.extract (9 + 13 * i) (9 + 13 * i + 13)).extract 9 13)).bind fun n => if n > 1048577 then some none else
  (spoorref05_Number.f k ((s.extract (9 + 13 * i) (9 + 13 * i + 13)).extract 1 9)).bind fun t => rparts k s d (i + 1) (l ++ [⟨wrap64 (bt (s.extract (9 + 13 * i) (9 + 13 * i + 13)) 0), t, wrap64 (wrap64 n - 1)⟩])
theorem rparts.mono (s : ByteArray) (k : Nat) : ∀ d i l, LeO (rparts k s d i l) (rparts (k + 1) s d i l) := by
 intro d
 induction d with
 | zero => intro i l; exact LeO.refl _
 | succ d ih =>
  intro i l
  exact LeO.bind (spoorref05_Number.mono _ _) (fun _ => LeO.ite (LeO.refl _) (LeO.bind (spoorref05_Number.mono _ _) (fun _ => ih _ _)))
end Go.Proofs.Ytjagplonneednaa.P
end
section
set_option linter.unusedVariables false
set_option linter.unusedSimpArgs false
namespace Go.Proofs.Ytjagplonneednaa.CrcMath
def poly : BitVec 32 := 0x82f63b78#32
def high : BitVec 32 := 0x80000000#32
def half (n : BitVec 32) : BitVec 32 := (n >>> 1) ^^^ (if n.getLsbD 0 then poly else 0#32)
def halves : Nat → BitVec 32 → BitVec 32
  | 0, x => x
  | n + 1, x => halves n (half x)
def step (n : BitVec 32) (b : UInt8) : BitVec 32 := halves 8 (n ^^^ BitVec.ofNat 32 b.toNat)
def run (n : BitVec 32) (l : List UInt8) : BitVec 32 := l.foldl step n
def on (s : BitVec 32) (l : List UInt8) : BitVec 32 := ~~~ (run (~~~ s) l)
def of (l : List UInt8) : BitVec 32 := on 0#32 l
theorem half_xor (x y : BitVec 32) : half (x ^^^ y) = half x ^^^ half y := by
  unfold half
  rw [BitVec.getLsbD_xor]
  have h : (x ^^^ y) >>> 1 = (x >>> 1) ^^^ (y >>> 1) := by
    apply BitVec.eq_of_getLsbD_eq
    intro i hi
    simp
  rw [h]
  cases x.getLsbD 0 <;> cases y.getLsbD 0 <;> simp [BitVec.xor_assoc]
  · exact BitVec.xor_comm _ _
  · have e : poly ^^^ (y >>> 1 ^^^ poly) = y >>> 1 := by
      rw [BitVec.xor_comm (y >>> 1), ← BitVec.xor_assoc, BitVec.xor_self, BitVec.zero_xor]
    rw [e]
theorem half_zero : half 0#32 = 0#32 := by decide
def mulN : Nat → BitVec 32 → BitVec 32 → BitVec 32
  | 0, _, _ => 0#32
  | n + 1, a, b => (if a.getLsbD n then b else 0#32) ^^^ mulN n a (half b)
def mul (a b : BitVec 32) : BitVec 32 := mulN 32 a b
theorem mulN_xor (n : Nat) (a : BitVec 32) : ∀ b c : BitVec 32, mulN n a (b ^^^ c) = mulN n a b ^^^ mulN n a c := by
  induction n with
  | zero => intro b c; simp [mulN]
  | succ n ih =>
    intro b c
    simp only [mulN]
    rw [half_xor, ih]
    cases a.getLsbD n
    · simp
    · simp only [if_true]
      rw [BitVec.xor_assoc, BitVec.xor_assoc]
      congr 1
      rw [← BitVec.xor_assoc, ← BitVec.xor_assoc, BitVec.xor_comm c]
theorem mulN_half (n : Nat) (a : BitVec 32) : ∀ b : BitVec 32, mulN n a (half b) = half (mulN n a b) := by
  induction n with
  | zero => intro b; exact half_zero.symm
  | succ n ih =>
    intro b
    simp only [mulN]
    rw [half_xor, ih]
    cases a.getLsbD n
    · simp [half_zero]
    · simp
theorem mulN_zero (n : Nat) (a : BitVec 32) : mulN n a 0#32 = 0#32 := by
  induction n with
  | zero => rfl
  | succ n ih => simp only [mulN]; rw [half_zero, ih]; simp
theorem mulN_comm (n m : Nat) (a b : BitVec 32) : ∀ x : BitVec 32, mulN n a (mulN m b x) = mulN m b (mulN n a x) := by
  induction m with
  | zero => intro x; simp only [mulN]; exact mulN_zero n a
  | succ m ih =>
    intro x
    simp only [mulN]
    rw [mulN_xor, ih, mulN_half]
    cases b.getLsbD m
    · simp [mulN_zero]
    · simp
theorem half_two (n : Nat) (h : n + 1 < 32) : half (BitVec.twoPow 32 (n + 1)) = BitVec.twoPow 32 n := by
  unfold half
  have h0 : (BitVec.twoPow 32 (n + 1)).getLsbD 0 = false := by simp [BitVec.getLsbD_twoPow]
  rw [h0]
  apply BitVec.eq_of_getLsbD_eq
  intro i hi
  rw [BitVec.getLsbD_xor, BitVec.getLsbD_ushiftRight, BitVec.getLsbD_twoPow, BitVec.getLsbD_twoPow]
  have : (n + 1 = 1 + i) ↔ (n = i) := by omega
  have h1 : n + 1 < 32 := h
  have h2 : n < 32 := by omega
  simp [this, h1, h2]
theorem mulN_two (n : Nat) (a : BitVec 32) (h : n < 32) : ∀ i, (mulN (n + 1) a (BitVec.twoPow 32 n)).getLsbD i = (decide (i ≤ n) && a.getLsbD i) := by
  induction n with
  | zero =>
    intro i
    simp only [mulN]
    rw [BitVec.xor_zero]
    rcases Nat.eq_zero_or_pos i with rfl | hi
    · cases h0 : a.getLsbD 0 <;> simp [h0, BitVec.getLsbD_twoPow]
    · have : ¬ i ≤ 0 := by omega
      have h0 : ¬ 0 = i := by omega
      cases a.getLsbD 0 <;> simp [BitVec.getLsbD_twoPow, this, h0]
  | succ n ih =>
    intro i
    rw [mulN, half_two n h, BitVec.getLsbD_xor, ih (by omega)]
    rcases Nat.lt_trichotomy i (n + 1) with hi | rfl | hi
    · have h1 : i ≤ n := by omega
      have h2 : i ≤ n + 1 := by omega
      have h3 : ¬ (n + 1 = i) := by omega
      cases a.getLsbD (n + 1) <;> simp [BitVec.getLsbD_twoPow, h1, h2, h3]
    · cases h4 : a.getLsbD (n + 1) <;> simp [BitVec.getLsbD_twoPow, h]
    · have h1 : ¬ i ≤ n := by omega
      have h2 : ¬ i ≤ n + 1 := by omega
      have h3 : ¬ (n + 1 = i) := by omega
      cases a.getLsbD (n + 1) <;> simp [BitVec.getLsbD_twoPow, h1, h2, h3]
theorem mul_high (a : BitVec 32) : mul a high = a := by
  apply BitVec.eq_of_getLsbD_eq
  intro i hi
  have e : high = BitVec.twoPow 32 31 := by decide
  unfold mul
  rw [e, mulN_two 31 a (by omega)]
  have : i ≤ 31 := by omega
  simp [this]
theorem mul_comm (a b : BitVec 32) : mul a b = mul b a := by
  have h := mulN_comm 32 32 a b high
  have ha : mulN 32 a high = a := mul_high a
  have hb : mulN 32 b high = b := mul_high b
  rw [ha, hb] at h
  exact h
end Go.Proofs.Ytjagplonneednaa.CrcMath
end
