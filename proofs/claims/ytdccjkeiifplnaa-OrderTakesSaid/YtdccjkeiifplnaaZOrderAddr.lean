/- A prefix is right, or not: the program's masks and the document's bits say the same. -/
import Derived.Test.YtdccjkeiifplnaaZPx1034
import Derived.Test.YtdccjkeiifplnaaZPx1030
import Derived.Test.YtdccjkeiifplnaaZPx30039
import Derived.Laws.BitsLemmas
set_option linter.unusedVariables false
set_option linter.unusedSimpArgs false
namespace Go.Proofs.Ytdccjkeiifplnaa.Pure
open Go.RowKit Go.Proofs.Ytdccjkeiifplnaa.P Go.Proofs.YtdccjkeiifplnaaW.PrintWords Go.Proofs.YtdccjkeiifplnaaW.PrintLast Go.Proofs.YtdccjkeiifplnaaW.PrintMore
def val (hi lo : Nat) : Nat := hi * 2 ^ 64 + lo
theorem shl1 (m : Nat) (hm : m ≤ 63) : IntKind.u64.wrap (shl .u64 1 (m : Int) - 1) = ((2 ^ m - 1 : Nat) : Int) := by
  have hp : (2 : Nat) ^ m ≤ 2 ^ 63 := Nat.pow_le_pow_right (by omega) hm
  have h1 : 1 ≤ (2 : Nat) ^ m := Nat.one_le_two_pow
  have e : shl .u64 1 (m : Int) = ((2 ^ m : Nat) : Int) := by
    unfold shl
    have e : min ((m : Nat) : Int).toNat (IntKind.bits .u64) = m := by
      rw [Int.toNat_natCast]
      exact Nat.min_eq_left (by show m ≤ 64; omega)
    rw [e, IntKind.wrap_u64]
    have : ((1 : Int) * 2 ^ m) = ((2 ^ m : Nat) : Int) := by rw [Int.one_mul, Int.natCast_pow]; rfl
    rw [this]
    omega
  rw [e, IntKind.wrap_u64]
  omega
theorem or_zero (a b : Nat) (ha : a < 18446744073709551616) (hb : b < 18446744073709551616) : (Go.bits .or .u64 (a : Int) (b : Int) = 0) ↔ (a = 0 ∧ b = 0) := by
  rw [u64_or_nat a b ha hb]
  constructor
  · intro h
    have : a ||| b = 0 := by exact_mod_cast h
    rw [Nat.or_eq_zero_iff] at this
    exact this
  · rintro ⟨rfl, rfl⟩; rfl
theorem and_mask (a m : Nat) (ha : a < 18446744073709551616) (hm : m ≤ 64) : Go.bits .and .u64 (a : Int) ((2 ^ m - 1 : Nat) : Int) = ((a % 2 ^ m : Nat) : Int) := by
  have hp : (2 : Nat) ^ m ≤ 2 ^ 64 := Nat.pow_le_pow_right (by omega) hm
  rw [u64_and_nat a (2 ^ m - 1) ha (by omega), Nat.and_two_pow_sub_one_eq_mod]
theorem val_mod_high (hi lo m : Nat) (hl : lo < 2 ^ 64) : val hi lo % 2 ^ (m + 64) = 0 ↔ (hi % 2 ^ m = 0 ∧ lo = 0) := by
  unfold val
  have hpos : 0 < (2 : Nat) ^ m := Nat.two_pow_pos m
  rw [Nat.pow_add, Nat.mul_comm (2 ^ m) (2 ^ 64), Nat.mod_mul]
  have e1 : (hi * 2 ^ 64 + lo) % 2 ^ 64 = lo := by omega
  have e2 : (hi * 2 ^ 64 + lo) / 2 ^ 64 = hi := by omega
  rw [e1, e2]
  generalize hi % 2 ^ m = q
  omega
theorem val_mod_low (hi lo m : Nat) (hm : m ≤ 64) : val hi lo % 2 ^ m = lo % 2 ^ m := by
  unfold val
  obtain ⟨d, hd⟩ : ∃ d, 64 = m + d := ⟨64 - m, by omega⟩
  rw [hd, Nat.pow_add, show hi * (2 ^ m * 2 ^ d) + lo = lo + 2 ^ m * (hi * 2 ^ d) by rw [← Nat.mul_assoc, Nat.mul_comm hi, Nat.mul_assoc, Nat.add_comm], Nat.add_mul_mod_self_left]
def wide (a : Bool) : Nat := if a = true then 128 else 32
def rightA (a : Bool) (hi lo : Nat) : Prop := a = true ∨ (hi = 0 ∧ lo < 4294967296)
instance (a : Bool) (hi lo : Nat) : Decidable (rightA a hi lo) := inferInstanceAs (Decidable (_ ∨ _))
def addrF (a : Bool) (hi lo : Nat) (len : Int) : Int := if len < 0 ∨ len > (wide a : Int) ∨ ¬ rightA a hi lo then 2 else if val hi lo % 2 ^ (wide a - len.toNat) = 0 then 0 else 2
theorem wide_f (a : Bool) : addr_Wide.f a = some (wide a : Int) := by cases a <;> rfl
theorem right_fA (a : Bool) (hi lo : Nat) : addr_Right.f a (hi : Int) (lo : Int) = some (decide (rightA a hi lo)) := by
  unfold addr_Right.f
  cases a with
  | true => rfl
  | false =>
    simp only [Bool.false_eq_true, if_false]
    by_cases c : hi = 0
    · rw [if_pos (by omega)]
      refine congrArg some ?_
      by_cases d : lo < 4294967296
      · rw [decide_eq_true (show rightA false hi lo from .inr ⟨c, d⟩)]
        exact beq_iff_eq.mpr (by omega)
      · rw [decide_eq_false (show ¬ rightA false hi lo by rintro (h | h); exact absurd h (by decide); exact d h.2)]
        exact beq_eq_false_iff_ne.mpr (by omega)
    · rw [if_neg (by omega), decide_eq_false (show ¬ rightA false hi lo by rintro (h | h); exact absurd h (by decide); exact c h.1)]
theorem host_ok (a : Bool) (hi lo : Nat) (h1 : hi < 2 ^ 64) (h2 : lo < 2 ^ 64) (n : Nat) (hn : n ≤ 128) (hr : rightA a hi lo) (hw : n ≤ wide a) : ∃ p q : Nat, addr_below.f (n : Int) = some ((p : Int), (q : Int)) ∧ ((Go.bits .or .u64 (Go.bits .and .u64 (hi : Int) (p : Int)) (Go.bits .and .u64 (lo : Int) (q : Int)) = 0) ↔ val hi lo % 2 ^ n = 0) := by
  have h1' : hi < 18446744073709551616 := h1
  have h2' : lo < 18446744073709551616 := h2
  have full : ((2 ^ 64 - 1 : Nat) : Int) = 18446744073709551615 := by decide
  unfold addr_below.f
  by_cases c1 : n ≥ 128
  · have : n = 128 := by omega
    subst this
    refine ⟨2 ^ 64 - 1, 2 ^ 64 - 1, by rw [if_pos (by omega), full], ?_⟩
    rw [and_mask hi 64 h1' (by omega), and_mask lo 64 h2' (by omega), or_zero _ _ (Nat.mod_lt _ (by decide)) (Nat.mod_lt _ (by decide)), show (128 : Nat) = 64 + 64 from rfl, val_mod_high hi lo 64 h2, Nat.mod_eq_of_lt h2]
  · by_cases c2 : n ≥ 64
    · obtain ⟨m, rfl⟩ : ∃ m, n = m + 64 := ⟨n - 64, by omega⟩
      have hw64 : wrap64 (((m + 64 : Nat) : Int) - 64) = (m : Int) := by unfold wrap64; omega
      refine ⟨2 ^ m - 1, 2 ^ 64 - 1, by rw [if_neg (by omega), if_pos (by omega), hw64, if_pos (by omega), shl1 m (by omega), full], ?_⟩
      have hp : (2 : Nat) ^ m ≤ 2 ^ 64 := Nat.pow_le_pow_right (by omega) (by omega)
      have hq : hi % 2 ^ m < 2 ^ m := Nat.mod_lt _ (Nat.two_pow_pos m)
      rw [and_mask hi m h1' (by omega), and_mask lo 64 h2' (by omega), or_zero _ _ (by omega) (Nat.mod_lt _ (by decide)), val_mod_high hi lo m h2, Nat.mod_eq_of_lt h2]
    · refine ⟨0, 2 ^ n - 1, by rw [if_neg (by omega), if_neg (by omega), if_pos (by omega), shl1 n (by omega)]; rfl, ?_⟩
      have hp : (2 : Nat) ^ n ≤ 2 ^ 64 := Nat.pow_le_pow_right (by omega) (by omega)
      have hq : lo % 2 ^ n < 2 ^ n := Nat.mod_lt _ (Nat.two_pow_pos n)
      have e0 : Go.bits .and .u64 (hi : Int) ((0 : Nat) : Int) = ((0 : Nat) : Int) := by
        have := and_mask hi 0 h1' (by omega)
        simpa [Nat.mod_one] using this
      rw [e0, and_mask lo n h2' (by omega), or_zero _ _ (by omega) (by omega), val_mod_low hi lo n (by omega)]
      constructor
      · rintro ⟨_, h⟩; exact h
      · intro h; exact ⟨rfl, h⟩
theorem addr_ev (a : Bool) (hi lo : Nat) (h1 : hi < 2 ^ 64) (h2 : lo < 2 ^ 64) (len : Int) : Ev (fun k => addr_Check.f k a (hi : Int) (lo : Int) len) (addrF a hi lo len) := by
  have jt : Ev (fun k => addr_Check.j0 k true a (hi : Int) (lo : Int) len) 2 := Ev.step (fun k => by simp only [addr_Check.j0]; rw [if_pos trivial]) (Ev.now _)
  unfold addr_Check.f addrF
  rw [wide_f, right_fA]
  simp only [Option.bind_some]
  by_cases c1 : len < 0
  · simp only [if_pos c1, if_pos (Or.inl c1)]; exact jt
  · simp only [if_neg c1]
    by_cases c2 : len > (wide a : Int)
    · simp only [if_pos c2]
      rw [if_pos (.inr (.inl c2))]; exact jt
    · simp only [if_neg c2]
      by_cases c3 : rightA a hi lo
      · rw [decide_eq_true c3, if_neg (by rintro (h | h | h); exact c1 h; exact c2 h; exact h c3)]
        have hwa : wide a ≤ 128 := by unfold wide; split <;> omega
        obtain ⟨p, q, e1, e2⟩ := host_ok a hi lo h1 h2 (wide a - len.toNat) (by omega) c3 (by omega)
        refine Ev.step (fun k => ?_) (Ev.now _)
        simp only [addr_Check.j0, Bool.not_true]
        rw [if_neg (by decide)]
        unfold addr_host.f
        rw [wide_f]
        simp only [Option.bind_some]
        have hw : wrap64 ((wide a : Int) - len) = ((wide a - len.toNat : Nat) : Int) := by unfold wrap64; omega
        rw [hw, e1]
        simp only [Option.bind_some]
        by_cases z : val hi lo % 2 ^ (wide a - len.toNat) = 0
        · rw [if_pos z, if_pos (e2.mpr z)]
        · rw [if_neg z, if_neg (fun y => z (e2.mp y))]
      · rw [decide_eq_false c3, if_pos (.inr (.inr c3))]
        exact jt
theorem rwide_f (a : Bool) : spoorref09_Wide.f a = some (wide a : Int) := by cases a <;> rfl
theorem rright_f (a : Bool) (hi lo : Nat) : spoorref09_Right.f a (hi : Int) (lo : Int) = some (decide (rightA a hi lo)) := by
  unfold spoorref09_Right.f
  cases a with
  | true => rfl
  | false =>
    simp only [Bool.false_eq_true, if_false]
    by_cases c : hi = 0
    · rw [if_pos (by omega)]
      refine congrArg some ?_
      by_cases d : lo < 4294967296
      · rw [decide_eq_true (show rightA false hi lo from .inr ⟨c, d⟩), decide_eq_true (by omega)]
      · rw [decide_eq_false (show ¬ rightA false hi lo by rintro (h | h); exact absurd h (by decide); exact d h.2), decide_eq_false (by omega)]
    · rw [if_neg (by omega), decide_eq_false (show ¬ rightA false hi lo by rintro (h | h); exact absurd h (by decide); exact c h.1)]
theorem rd_nat (l : List Int) (i : Nat) (h : i < l.length) : rd l (i : Int) = l[i] := by
  first
    | (unfold rd; rw [List.getD_eq_getElem?_getD, Int.toNat_natCast, List.getElem?_eq_getElem h]; rfl)
    | (unfold rd; simp [h])
theorem half_lo (hi lo : Nat) (h2 : lo < 2 ^ 64) : IntKind.u64.wrap ((IntKind.u64.wrap (Int.tdiv (lo : Int) 2)) + (IntKind.u64.wrap ((Int.tmod (hi : Int) 2) * 9223372036854775808))) = ((val hi lo / 2 % 2 ^ 64 : Nat) : Int) := by
  have e1 : Int.tdiv (lo : Int) 2 = ((lo / 2 : Nat) : Int) := rfl
  have e2 : Int.tmod (hi : Int) 2 = ((hi % 2 : Nat) : Int) := rfl
  rw [e1, e2]
  simp only [IntKind.wrap_u64]
  unfold val
  omega
theorem half_hi (hi lo : Nat) (h1 : hi < 2 ^ 64) (h2 : lo < 2 ^ 64) : IntKind.u64.wrap (Int.tdiv (hi : Int) 2) = ((val hi lo / 2 / 2 ^ 64 : Nat) : Int) := by
  have e1 : Int.tdiv (hi : Int) 2 = ((hi / 2 : Nat) : Int) := rfl
  rw [e1]
  simp only [IntKind.wrap_u64]
  unfold val
  omega
theorem val_parts (V : Nat) : val (V / 2 ^ 64) (V % 2 ^ 64) = V := by unfold val; rw [Nat.mul_comm]; exact Nat.div_add_mod V (2 ^ 64)
theorem bits_l0 (W : Nat) (hW : W ≤ 128) (V0 : Nat) (hV : V0 < 2 ^ 128) (d : Nat) : ∀ (x : List Int), d ≤ W → x.length = W → (∀ j, (h : j < x.length) → d ≤ j → x[j] = ((V0 / 2 ^ (W - 1 - j) % 2 : Nat) : Int)) →
    ∃ R : List Int, Ev (fun k => spoorref09_bits.l0 k x ((V0 / 2 ^ (W - d) % 2 ^ 64 : Nat) : Int) ((V0 / 2 ^ (W - d) / 2 ^ 64 : Nat) : Int) ((d : Int) - 1)) R ∧ R.length = W ∧ ∀ j, (h : j < R.length) → R[j] = ((V0 / 2 ^ (W - 1 - j) % 2 : Nat) : Int) := by
  induction d with
  | zero =>
    intro x _ hx hb
    refine ⟨x, Ev.step (fun k => ?_) (Ev.now _), hx, fun j h => hb j h (Nat.zero_le _)⟩
    simp only [spoorref09_bits.l0]
    rw [if_neg (by omega)]
  | succ d ih =>
    intro x hd hx hb
    obtain ⟨V, hVd⟩ : ∃ V, V0 / 2 ^ (W - (d + 1)) = V := ⟨_, rfl⟩
    have hVlt : V < 2 ^ 128 := by rw [← hVd]; exact Nat.lt_of_le_of_lt (Nat.div_le_self _ _) hV
    have hnext : V0 / 2 ^ (W - d) = V / 2 := by
      rw [show W - d = (W - (d + 1)) + 1 by omega, Nat.pow_succ, ← Nat.div_div_eq_div_mul, hVd]
    have hlo : V % 2 ^ 64 < 2 ^ 64 := Nat.mod_lt _ (by decide)
    have hhi : V / 2 ^ 64 < 2 ^ 64 := by rw [Nat.div_lt_iff_lt_mul (by decide)]; exact hVlt
    have hbit : wrap64 (Int.tmod ((V % 2 ^ 64 : Nat) : Int) 2) = ((V % 2 : Nat) : Int) := by
      have e2 : Int.tmod ((V % 2 ^ 64 : Nat) : Int) 2 = ((V % 2 ^ 64 % 2 : Nat) : Int) := rfl
      rw [e2]
      unfold wrap64
      omega
    obtain ⟨R, r1, r2, r3⟩ := ih (x.set d ((V % 2 : Nat) : Int)) (by omega) (by rw [List.length_set]; exact hx) (fun j h hj => by
      rw [List.getElem_set]
      by_cases e : d = j
      · subst e
        rw [if_pos rfl, ← hVd, show W - (d + 1) = W - 1 - d by omega]
      · rw [if_neg e]
        exact hb j (by rw [List.length_set] at h; exact h) (by omega))
    refine ⟨R, Ev.step (fun k => ?_) r1, r2, r3⟩
    rw [hVd]
    simp only [spoorref09_bits.l0]
    rw [if_pos (by omega), if_pos (by omega), if_pos (by omega), hbit, half_lo (V / 2 ^ 64) (V % 2 ^ 64) hlo, half_hi (V / 2 ^ 64) (V % 2 ^ 64) hhi hlo, val_parts, hnext]
    have e3 : (((d + 1 : Nat) : Int) - 1).toNat = d := by omega
    have e4 : wrap64 (((d + 1 : Nat) : Int) - 1 - 1) = (d : Int) - 1 := by unfold wrap64; omega
    rw [e3, e4]
theorem bits_ev (a : Bool) (hi lo : Nat) (h1 : hi < 2 ^ 64) (h2 : lo < 2 ^ 64) : ∃ R : List Int, Ev (fun k => spoorref09_bits.f k a (hi : Int) (lo : Int)) R ∧ R.length = wide a ∧ ∀ j, (h : j < R.length) → R[j] = ((val hi lo / 2 ^ (wide a - 1 - j) % 2 : Nat) : Int) := by
  have hwa : wide a ≤ 128 := by unfold wide; split <;> omega
  have hV : val hi lo < 2 ^ 128 := by unfold val; omega
  obtain ⟨R, r1, r2, r3⟩ := bits_l0 (wide a) hwa (val hi lo) hV (wide a) (List.replicate (wide a) 0) (Nat.le_refl _) List.length_replicate (fun j h hj => by rw [List.length_replicate] at h; omega)
  refine ⟨R, ?_, r2, r3⟩
  have e1 : val hi lo / 2 ^ (wide a - wide a) % 2 ^ 64 = lo := by rw [Nat.sub_self, Nat.pow_zero, Nat.div_one]; unfold val; omega
  have e2 : val hi lo / 2 ^ (wide a - wide a) / 2 ^ 64 = hi := by rw [Nat.sub_self, Nat.pow_zero, Nat.div_one]; unfold val; omega
  rw [e1, e2] at r1
  unfold spoorref09_bits.f
  rw [rwide_f]
  simp only [Option.bind_some]
  have c1 : (0 : Int) ≤ (wide a : Int) := by omega
  have c2 : wide a ≤ 35184372088832 := by omega
  simp only [if_pos c1, Int.toNat_natCast, if_pos c2, List.length_replicate]
  have e5 : wrap64 ((wide a : Int) - 1) = (wide a : Int) - 1 := by unfold wrap64; omega
  rw [e5]
  exact r1
theorem rcheck_l0 (R : List Int) (hR : R.length ≤ 128) (a : Bool) (x y len : Int) (d : Nat) : ∀ i : Nat, i + d = R.length → Ev (fun k => spoorref09_Check.l0 k R (R.length : Int) i a x y len) (if ∀ j, (h : j < R.length) → i ≤ j → len ≤ (j : Int) → R[j] = 0 then 0 else 2) := by
  induction d with
  | zero =>
    intro i hi
    refine Ev.step (fun k => ?_) (Ev.now _)
    simp only [spoorref09_Check.l0]
    rw [if_neg (by omega), if_pos (fun j h h2 => by omega)]
  | succ d ih =>
    intro i hi
    have hlt : i < R.length := by omega
    have hn := ih (i + 1) (by omega)
    have hw : wrap64 ((i : Int) + 1) = ((i + 1 : Nat) : Int) := by unfold wrap64; omega
    by_cases c : (i : Int) ≥ len
    · by_cases z : R[i] = 0
      · have e : (∀ j, (h : j < R.length) → i ≤ j → len ≤ (j : Int) → R[j] = 0) ↔ (∀ j, (h : j < R.length) → i + 1 ≤ j → len ≤ (j : Int) → R[j] = 0) := by
          constructor
          · intro q j h h2 h3; exact q j h (by omega) h3
          · intro q j h h2 h3
            by_cases e : j = i
            · subst e; exact z
            · exact q j h (by omega) h3
        have e' : (if ∀ j, (h : j < R.length) → i ≤ j → len ≤ (j : Int) → R[j] = 0 then (0 : Int) else 2) = (if ∀ j, (h : j < R.length) → i + 1 ≤ j → len ≤ (j : Int) → R[j] = 0 then 0 else 2) := by
          by_cases q : ∀ j, (h : j < R.length) → i + 1 ≤ j → len ≤ (j : Int) → R[j] = 0
          · rw [if_pos q, if_pos (e.mpr q)]
          · rw [if_neg q, if_neg (fun y => q (e.mp y))]
        rw [e']
        refine Ev.step (fun k => ?_) hn
        simp only [spoorref09_Check.l0]
        rw [if_pos (by omega), if_pos (by omega), if_pos (by omega), if_pos c, rd_nat R i hlt, if_pos z, hw]
      · rw [if_neg (fun q => z (q i hlt (Nat.le_refl _) c))]
        refine Ev.step (fun k => ?_) (Ev.now _)
        simp only [spoorref09_Check.l0]
        rw [if_pos (by omega), if_pos (by omega), if_pos (by omega), if_pos c, rd_nat R i hlt, if_neg z]
    · have e : (∀ j, (h : j < R.length) → i ≤ j → len ≤ (j : Int) → R[j] = 0) ↔ (∀ j, (h : j < R.length) → i + 1 ≤ j → len ≤ (j : Int) → R[j] = 0) := by
        constructor
        · intro q j h h2 h3; exact q j h (by omega) h3
        · intro q j h h2 h3
          by_cases e : j = i
          · subst e; omega
          · exact q j h (by omega) h3
      have e' : (if ∀ j, (h : j < R.length) → i ≤ j → len ≤ (j : Int) → R[j] = 0 then (0 : Int) else 2) = (if ∀ j, (h : j < R.length) → i + 1 ≤ j → len ≤ (j : Int) → R[j] = 0 then 0 else 2) := by
        by_cases q : ∀ j, (h : j < R.length) → i + 1 ≤ j → len ≤ (j : Int) → R[j] = 0
        · rw [if_pos q, if_pos (e.mpr q)]
        · rw [if_neg q, if_neg (fun y => q (e.mp y))]
      rw [e']
      refine Ev.step (fun k => ?_) hn
      simp only [spoorref09_Check.l0]
      rw [if_pos (by omega), if_pos (by omega), if_pos (by omega), if_neg c, hw]
theorem low_bits (V n : Nat) : V % 2 ^ n = 0 ↔ ∀ t, t < n → V / 2 ^ t % 2 = 0 := by
  constructor
  · intro h t ht
    obtain ⟨q, hq⟩ := Nat.dvd_of_mod_eq_zero h
    obtain ⟨d, rfl⟩ : ∃ d, n = t + (d + 1) := ⟨n - t - 1, by omega⟩
    rw [hq, Nat.pow_add, Nat.mul_assoc, Nat.mul_div_cancel_left _ (Nat.two_pow_pos t), Nat.pow_succ, Nat.mul_comm (2 ^ d) 2, Nat.mul_assoc, Nat.mul_mod_right]
  · intro h
    induction n with
    | zero => rw [Nat.pow_zero, Nat.mod_one]
    | succ n ih =>
      have h1 := ih (fun t ht => h t (by omega))
      have h2 := h n (by omega)
      rw [Nat.pow_succ, Nat.mod_mul, h1, h2]
      rfl
theorem raddr_ev (a : Bool) (hi lo : Nat) (h1 : hi < 2 ^ 64) (h2 : lo < 2 ^ 64) (len : Int) : Ev (fun k => spoorref09_Check.f k a (hi : Int) (lo : Int) len) (addrF a hi lo len) := by
  have jt : Ev (fun k => spoorref09_Check.j0 k true a (hi : Int) (lo : Int) len) 2 := Ev.step (fun k => by simp only [spoorref09_Check.j0]; rw [if_pos trivial]) (Ev.now _)
  unfold spoorref09_Check.f addrF
  rw [rwide_f, rright_f]
  simp only [Option.bind_some]
  by_cases c1 : len < 0
  · simp only [if_pos c1, if_pos (Or.inl c1)]; exact jt
  · simp only [if_neg c1]
    by_cases c2 : len > (wide a : Int)
    · simp only [if_pos c2]
      rw [if_pos (.inr (.inl c2))]; exact jt
    · simp only [if_neg c2]
      by_cases c3 : rightA a hi lo
      · rw [decide_eq_true c3, if_neg (by rintro (h | h | h); exact c1 h; exact c2 h; exact h c3)]
        have hwa : wide a ≤ 128 := by unfold wide; split <;> omega
        obtain ⟨R, r1, r2, r3⟩ := bits_ev a hi lo h1 h2
        have hl := rcheck_l0 R (by omega) a (hi : Int) (lo : Int) len R.length 0 (by omega)
        have e : (∀ j, (h : j < R.length) → 0 ≤ j → len ≤ (j : Int) → R[j] = 0) ↔ val hi lo % 2 ^ (wide a - len.toNat) = 0 := by
          rw [low_bits]
          constructor
          · intro q t ht
            have := q (wide a - 1 - t) (by omega) (Nat.zero_le _) (by omega)
            rw [r3 _ (by omega), show wide a - 1 - (wide a - 1 - t) = t by omega] at this
            exact_mod_cast this
          · intro q j h _ h3
            rw [r3 j h, q (wide a - 1 - j) (by omega)]
            rfl
        refine Ev.step (f := fun k => (spoorref09_bits.f k a (hi : Int) (lo : Int)).bind fun t188 => (spoorref09_Check.l0 k t188 (t188.length : Int) 0 a (hi : Int) (lo : Int) len)) (fun k => ?_) (Ev.bind r1 ?_)
        · simp only [spoorref09_Check.j0, Bool.not_true]
          rw [if_neg (by decide)]
        · by_cases z : val hi lo % 2 ^ (wide a - len.toNat) = 0
          · rw [if_pos (e.mpr z)] at hl
            rw [if_pos z]; exact hl
          · rw [if_neg (fun y => z (e.mp y))] at hl
            rw [if_neg z]; exact hl
      · rw [decide_eq_false c3, if_pos (.inr (.inr c3))]
        exact jt
end Go.Proofs.Ytdccjkeiifplnaa.Pure
