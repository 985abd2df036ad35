/- What products, powers, and sums put together come to. -/
import Derived.Test.YtlbcnbdliigkdaaPx1
import Derived.Test.YtlbcnbdliigkdaaCrcEv2
set_option linter.unusedSimpArgs false
namespace Go.Proofs.Ytlbcnbdliigkdaa.Pure
open Go.RowKit Go.Proofs.Ytlbcnbdliigkdaa.P Go.Proofs.YtlbcnbdliigkdaaW.PrintWords Go.Proofs.YtlbcnbdliigkdaaW.PrintLast

theorem two_half (n : Nat) (h : n + 1 < 32) : I (BitVec.twoPow 32 (n + 1)) / (2 : Int) = I (BitVec.twoPow 32 n) := by
  unfold I
  rw [BitVec.toNat_twoPow, BitVec.toNat_twoPow, Nat.mod_eq_of_lt (Nat.pow_lt_pow_right (by omega) h), Nat.mod_eq_of_lt (Nat.pow_lt_pow_right (by omega) (by omega)), Nat.pow_succ]
  omega
theorem and_two (a : BitVec 32) (n : Nat) (h : n < 32) : (Go.bits .and .u32 (I a) (I (BitVec.twoPow 32 n)) = 0) ↔ a.getLsbD n = false := by
  have e : Go.bits .and .u32 (I a) (I (BitVec.twoPow 32 n)) = I (a &&& BitVec.twoPow 32 n) := by
    unfold I
    rw [u32_and_nat _ _ a.isLt (BitVec.isLt _), BitVec.toNat_and]
  have z : (0 : Int) = I 0#32 := by decide
  rw [e, z]
  constructor
  · intro h0
    have := congrArg (fun v => v.getLsbD n) (I_inj h0)
    simpa [BitVec.getLsbD_twoPow, h] using this
  · intro h0
    apply congrArg
    apply BitVec.eq_of_getLsbD_eq
    intro i hi
    rw [BitVec.getLsbD_and, BitVec.getLsbD_twoPow, BitVec.getLsbD_zero]
    by_cases hn : n = i
    · subst hn; simp [h0]
    · simp [hn]
theorem two_ne (n : Nat) (h : n < 32) : I (BitVec.twoPow 32 n) ≠ 0 := by
  unfold I
  rw [BitVec.toNat_twoPow, Nat.mod_eq_of_lt (Nat.pow_lt_pow_right (by omega) h)]
  have := Nat.two_pow_pos n
  omega
theorem times_end (a b p : BitVec 32) : Ev (fun k => crc_times.l0 k (I a) (I b) (I p) 0) (I p) :=
  Ev.step (fun k => by simp only [crc_times.l0]; exact if_pos trivial) (Ev.now _)
theorem times_l0 (a : BitVec 32) (n : Nat) (h : n < 32) : ∀ b p : BitVec 32, Ev (fun k => crc_times.l0 k (I a) (I b) (I p) (I (BitVec.twoPow 32 n))) (I (p ^^^ CrcMath.mulN (n + 1) a b)) := by
  induction n with
  | zero =>
    intro b p
    have z : I (BitVec.twoPow 32 0) / (2 : Int) = 0 := by decide
    have ha := and_two a 0 h
    cases e : a.getLsbD 0 with
    | true =>
      have hb : ¬ Go.bits .and .u32 (I a) (I (BitVec.twoPow 32 0)) = 0 := fun x => by rw [ha.mp x] at e; cases e
      have : CrcMath.mulN 1 a b = b := by rw [CrcMath.mulN, e]; exact BitVec.xor_zero
      rw [this]
      refine Ev.step (fun k => ?_) (times_end a (CrcMath.half b) (p ^^^ b))
      simp only [crc_times.l0]
      rw [if_neg (two_ne 0 h), if_neg hb, half_f, z, I_xor]
      rfl
    | false =>
      have : CrcMath.mulN 1 a b = 0#32 := by rw [CrcMath.mulN, e]; simp [CrcMath.mulN]
      rw [this, BitVec.xor_zero]
      refine Ev.step (fun k => ?_) (times_end a (CrcMath.half b) p)
      simp only [crc_times.l0]
      rw [if_neg (two_ne 0 h), if_pos (ha.mpr e), half_f, z]
      rfl
  | succ n ih =>
    intro b p
    have ha := and_two a (n + 1) h
    cases e : a.getLsbD (n + 1) with
    | true =>
      have hb : ¬ Go.bits .and .u32 (I a) (I (BitVec.twoPow 32 (n + 1))) = 0 := fun x => by rw [ha.mp x] at e; cases e
      have : p ^^^ CrcMath.mulN (n + 1 + 1) a b = (p ^^^ b) ^^^ CrcMath.mulN (n + 1) a (CrcMath.half b) := by
        rw [CrcMath.mulN, e, if_pos rfl, BitVec.xor_assoc]
      rw [this]
      refine Ev.step (fun k => ?_) (ih (by omega) (CrcMath.half b) (p ^^^ b))
      simp only [crc_times.l0]
      rw [if_neg (two_ne _ h), if_neg hb, half_f, two_half n h, I_xor]
      rfl
    | false =>
      have : p ^^^ CrcMath.mulN (n + 1 + 1) a b = p ^^^ CrcMath.mulN (n + 1) a (CrcMath.half b) := by
        rw [CrcMath.mulN, e]
        simp
      rw [this]
      refine Ev.step (fun k => ?_) (ih (by omega) (CrcMath.half b) p)
      simp only [crc_times.l0]
      rw [if_neg (two_ne _ h), if_pos (ha.mpr e), half_f, two_half n h]
      rfl
theorem times_ev (a b : BitVec 32) : Ev (fun k => crc_times.f k (I a) (I b)) (I (CrcMath.mul a b)) := by
  have h := times_l0 a 31 (by omega) b 0#32
  rw [BitVec.zero_xor] at h
  exact h
theorem and1_i64 (n : Nat) (h : n < 9223372036854775808) : Go.bits .and .i64 (n : Int) 1 = ((n % 2 : Nat) : Int) := by
  show IntKind.i64.wrap ((BitVec.ofInt 64 (n : Int) &&& BitVec.ofInt 64 1).toNat : Int) = _
  rw [BitVec.toNat_and, ofInt_u64 n (by omega), show (BitVec.ofInt 64 1).toNat = 1 from rfl, Nat.and_one_is_mod, IntKind.wrap_i64]
  omega
theorem power_l0 (d : Nat) : ∀ (n c e : Nat), n ≤ d → n < 9223372036854775808 → Ev (fun k => crc_power.l0 k (n : Int) (I (CrcMath.pw c)) (I (CrcMath.pw e))) (I (CrcMath.pw (c + n * e))) := by
  induction d with
  | zero =>
    intro n c e hn _
    obtain rfl : n = 0 := by omega
    rw [Nat.zero_mul, Nat.add_zero]
    exact Ev.step (fun k => by simp only [crc_power.l0]; rw [if_neg (by omega)]) (Ev.now _)
  | succ d ih =>
    intro n c e hn hb
    rcases Nat.eq_zero_or_pos n with rfl | hp
    · rw [Nat.zero_mul, Nat.add_zero]
      exact Ev.step (fun k => by simp only [crc_power.l0]; rw [if_neg (by omega)]) (Ev.now _)
    · have hd : (n : Int) / (2 : Int) = ((n / 2 : Nat) : Int) := by omega
      have hxx := times_ev (CrcMath.pw e) (CrcMath.pw e)
      rw [CrcMath.pw_mul] at hxx
      rcases Nat.mod_two_eq_zero_or_one n with h2 | h2
      · have hz : Go.bits .and .i64 (n : Int) 1 = 0 := by rw [and1_i64 n hb, h2]; rfl
        have hs : c + n * e = c + n / 2 * (e + e) := by
          have : n = 2 * (n / 2) := by omega
          conv => lhs; rw [this]
          rw [Nat.mul_add, Nat.mul_comm 2, Nat.mul_assoc, Nat.two_mul, Nat.mul_add]
        rw [hs]
        refine Ev.step (f := fun k => (crc_times.f k (I (CrcMath.pw e)) (I (CrcMath.pw e))).bind fun t => crc_power.l0 k ((n / 2 : Nat) : Int) (I (CrcMath.pw c)) t) (fun k => ?_) (Ev.bind hxx (ih (n / 2) c (e + e) (by omega) (by omega)))
        simp only [crc_power.l0]
        rw [if_pos (by omega), if_pos hz, hd]
      · have hz : ¬ Go.bits .and .i64 (n : Int) 1 = 0 := by rw [and1_i64 n hb, h2]; decide
        have hpx := times_ev (CrcMath.pw c) (CrcMath.pw e)
        rw [CrcMath.pw_mul] at hpx
        have hs : c + n * e = (c + e) + n / 2 * (e + e) := by
          have : n = 2 * (n / 2) + 1 := by omega
          conv => lhs; rw [this]
          rw [Nat.add_mul, Nat.one_mul, Nat.mul_add, Nat.mul_comm 2, Nat.mul_assoc, Nat.two_mul, Nat.mul_add]
          omega
        rw [hs]
        refine Ev.step (f := fun k => (crc_times.f k (I (CrcMath.pw c)) (I (CrcMath.pw e))).bind fun q => (crc_times.f k (I (CrcMath.pw e)) (I (CrcMath.pw e))).bind fun t => crc_power.l0 k ((n / 2 : Nat) : Int) q t) (fun k => ?_) (Ev.bind hpx (Ev.bind hxx (ih (n / 2) (c + e) (e + e) (by omega) (by omega))))
        simp only [crc_power.l0]
        rw [if_pos (by omega), if_neg hz, hd]
theorem power_ev (n : Nat) (h : n < 9223372036854775808) : Ev (fun k => crc_power.f k (n : Int)) (I (CrcMath.pw n)) := by
  have e0 : (2147483648 : Int) = I (CrcMath.pw 0) := by decide
  have e1 : (8388608 : Int) = I (CrcMath.pw 1) := by decide
  have := power_l0 n n 0 1 (Nat.le_refl _) h
  rw [Nat.zero_add, Nat.mul_one] at this
  unfold crc_power.f
  rw [e0, e1]
  exact this
theorem right_f (n : Int) : crc_right.f n = some (decide (0 ≤ n ∧ n ≤ 1073741824)) := by
  unfold crc_right.f
  by_cases h : n ≥ 0
  · rw [if_pos h]
    have h' : 0 ≤ n := h
    simp [h']
  · rw [if_neg h]
    have h' : ¬ 0 ≤ n := h
    simp [h']
theorem Join_ev (a b : BitVec 32) (n : Int) : Ev (fun k => crc_Join.f k (I a) (I b) n) (if 0 ≤ n ∧ n ≤ 1073741824 then (I (CrcMath.mul a (CrcMath.pw n.toNat) ^^^ b), 0) else (0, 1)) := by
  unfold crc_Join.f
  simp only [right_f, Option.bind_some]
  by_cases h : 0 ≤ n ∧ n ≤ 1073741824
  · simp only [if_pos h, decide_eq_true h, if_true]
    obtain ⟨m, rfl⟩ : ∃ m : Nat, n = m := ⟨n.toNat, by omega⟩
    rw [Int.toNat_natCast]
    refine Ev.bind (power_ev m (by omega)) (Ev.bind (times_ev _ _) ?_)
    rw [I_xor]
    exact Ev.now _
  · simp only [if_neg h, decide_eq_false h]
    exact Ev.now _
end Go.Proofs.Ytlbcnbdliigkdaa.Pure
