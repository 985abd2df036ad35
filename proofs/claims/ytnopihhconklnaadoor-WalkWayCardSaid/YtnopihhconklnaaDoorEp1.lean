import Derived.Test.YtnopihhconklnaaDoorEs13
/- Addresses as numbers: the program's test of a prefix is the document's. -/
namespace Go.Sp
open Go Go.En
set_option linter.unusedVariables false
set_option linter.unusedSimpArgs false
structure Addr.wf (a : Addr) : Prop where
  h0 : 0 ≤ a.hi
  h1 : a.hi < 18446744073709551616
  l0 : 0 ≤ a.lo
  l1 : a.lo < 18446744073709551616
/-- the bits of an address, from the lowest. -/
def Addr.bit (a : Addr) (j : Nat) : Bool := if j < 64 then a.lo.toNat.testBit j else a.hi.toNat.testBit (j - 64)
theorem u64_wrap_id {n : Int} (h0 : 0 ≤ n) (h1 : n < 18446744073709551616) : IntKind.u64.wrap n = n := by
  rw [IntKind.wrap_u64]; omega
theorem i64_wrap_id {n : Int} (h0 : 0 ≤ n) (h1 : n < 9223372036854775808) : IntKind.i64.wrap n = n := by
  rw [IntKind.wrap_i64]; omega
theorem and_nat (x y : Nat) (hx : x < 2 ^ 64) (hy : y < 2 ^ 64) : bitsOp .and .u64 (x : Int) (y : Int) = ((x &&& y : Nat) : Int) := by
  show IntKind.u64.wrap ((BitVec.ofInt 64 (x : Int) &&& BitVec.ofInt 64 (y : Int)).toNat : Int) = _
  rw [BitVec.ofInt_natCast, BitVec.ofInt_natCast, BitVec.toNat_and, BitVec.toNat_ofNat, BitVec.toNat_ofNat, Nat.mod_eq_of_lt hx, Nat.mod_eq_of_lt hy]
  have := Nat.and_lt_two_pow x hy
  exact u64_wrap_id (by omega) (by omega)
theorem or_nat (x y : Nat) (hx : x < 2 ^ 64) (hy : y < 2 ^ 64) : bitsOp .or .u64 (x : Int) (y : Int) = ((x ||| y : Nat) : Int) := by
  show IntKind.u64.wrap ((BitVec.ofInt 64 (x : Int) ||| BitVec.ofInt 64 (y : Int)).toNat : Int) = _
  rw [BitVec.ofInt_natCast, BitVec.ofInt_natCast, BitVec.toNat_or, BitVec.toNat_ofNat, BitVec.toNat_ofNat, Nat.mod_eq_of_lt hx, Nat.mod_eq_of_lt hy]
  have := Nat.or_lt_two_pow hx hy
  exact u64_wrap_id (by omega) (by omega)
def b2i (b : Bool) : Int := if b then 1 else 0
theorem bit_shift (x : Int) (h0 : 0 ≤ x) (h1 : x < 18446744073709551616) (k : Nat) : IntKind.i64.wrap (bitsOp .and .u64 (x.fdiv (2 ^ k)) 1) = b2i (x.toNat.testBit k) := by
  obtain ⟨n, rfl⟩ := Int.eq_ofNat_of_zero_le h0
  have e : Int.fdiv (n : Int) (2 ^ k) = ((n / 2 ^ k : Nat) : Int) := by
    rw [Int.fdiv_eq_ediv_of_nonneg _ (Int.le_of_lt (Int.pow_pos (by decide)))]
    push_cast
    rfl
  rw [e]
  have hlt : n / 2 ^ k < 2 ^ 64 := Nat.lt_of_le_of_lt (Nat.div_le_self _ _) (by omega)
  have := and_nat (n / 2 ^ k) 1 hlt (by decide)
  rw [show ((1 : Nat) : Int) = 1 from rfl] at this
  rw [this, Nat.and_one_is_mod]
  have e2 : (n : Int).toNat = n := rfl
  rw [e2, Nat.testBit_eq_decide_div_mod_eq]
  have hm : n / 2 ^ k % 2 = 0 ∨ n / 2 ^ k % 2 = 1 := by omega
  rcases hm with h | h <;> rw [h] <;> rfl
theorem bitP_bit {six : Bool} {a : Addr} (h : a.wf) {i : Int} (h0 : 0 ≤ i) (h1 : i < wide six) : bitP six a i = b2i (a.bit (wide six - 1 - i).toNat) := by
  obtain ⟨w1, w2⟩ := wide_le six
  unfold bitP Addr.bit
  split
  · rename_i c
    have e : min (wide six - 1 - i - 64).toNat 64 = (wide six - 1 - i).toNat - 64 := by omega
    rw [e, bit_shift _ h.h0 h.h1, if_neg (by omega)]
  · rename_i c
    have e : min (wide six - 1 - i).toNat 64 = (wide six - 1 - i).toNat := by omega
    rw [e, bit_shift _ h.l0 h.l1, if_pos (by omega)]
def halfA (a : Addr) : Addr := ⟨a.hi / 2, a.lo / 2 + a.hi % 2 * 9223372036854775808⟩
theorem halfA_wf {a : Addr} (h : a.wf) : (halfA a).wf := by
  obtain ⟨h0, h1, l0, l1⟩ := h
  exact ⟨by simp only [halfA]; omega, by simp only [halfA]; omega, by simp only [halfA]; omega, by simp only [halfA]; omega⟩
theorem halfA_bit {a : Addr} (h : a.wf) (j : Nat) (hj : j < 127) : (halfA a).bit j = a.bit (j + 1) := by
  obtain ⟨h0, h1, l0, l1⟩ := h
  obtain ⟨hi, lo⟩ := a
  obtain ⟨x, rfl⟩ := Int.eq_ofNat_of_zero_le h0
  obtain ⟨y, rfl⟩ := Int.eq_ofNat_of_zero_le l0
  simp only at h1 l1
  have e1 : ((x : Int) / 2).toNat = x / 2 := by omega
  have e2 : ((y : Int) / 2 + (x : Int) % 2 * 9223372036854775808).toNat = 2 ^ 63 * (x % 2) + y / 2 := by omega
  simp only [halfA, Addr.bit, e1, e2, Int.toNat_natCast]
  by_cases c : j < 63
  · rw [if_pos (by omega), if_pos (by omega), Nat.testBit_two_pow_mul_add _ (by omega), if_pos c, Nat.testBit_div_two]
  · by_cases c2 : j = 63
    · subst c2
      rw [if_pos (by omega), if_neg (by omega), Nat.testBit_two_pow_mul_add _ (by omega), if_neg (by omega)]
      simp [Nat.testBit_zero]
    · rw [if_neg (by omega), if_neg (by omega), Nat.testBit_div_two]
      congr 1
      omega
theorem bitsGo_bits : ∀ (k : Nat) (a : Addr) (acc : List Int), k ≤ 128 → a.wf → bitsGo k a.lo a.hi acc = ((List.range k).map fun i => b2i (a.bit (k - 1 - i))) ++ acc
  | 0, _, _, _, _ => rfl
  | k + 1, a, acc, hk, h => by
    have hw := halfA_wf h
    have h' := h
    obtain ⟨h0, h1, l0, l1⟩ := h
    have e1 : IntKind.u64.wrap (a.hi.tdiv 2) = (halfA a).hi := by
      rw [Int.tdiv_eq_ediv_of_nonneg h0]; exact u64_wrap_id hw.h0 hw.h1
    have e2 : IntKind.u64.wrap (IntKind.u64.wrap (a.lo.tdiv 2) + IntKind.u64.wrap (a.hi.tmod 2 * 9223372036854775808)) = (halfA a).lo := by
      rw [Int.tdiv_eq_ediv_of_nonneg l0, Int.tmod_eq_emod_of_nonneg h0, u64_wrap_id (n := a.lo / 2) (by omega) (by omega), u64_wrap_id (n := a.hi % 2 * 9223372036854775808) (by omega) (by omega)]
      exact u64_wrap_id hw.l0 hw.l1
    have e3 : IntKind.i64.wrap (a.lo.tmod 2) = b2i (a.bit 0) := by
      rw [Int.tmod_eq_emod_of_nonneg l0, i64_wrap_id (by omega) (by omega)]
      simp only [Addr.bit, if_pos (show (0 : Nat) < 64 by decide), Nat.testBit_zero, b2i]
      have : a.lo % 2 = 0 ∨ a.lo % 2 = 1 := by omega
      rcases this with e | e
      · have : ¬ a.lo.toNat % 2 = 1 := by omega
        simp [e, this]
      · have : a.lo.toNat % 2 = 1 := by omega
        simp [e, this]
    simp only [bitsGo, e1, e2, e3]
    rw [bitsGo_bits k (halfA a) _ (by omega) hw, List.range_succ, List.map_append, List.map_cons, List.map_nil, List.append_assoc]
    congr 1
    · apply List.map_congr_left
      intro i hi
      rw [List.mem_range] at hi
      rw [halfA_bit h' _ (by omega)]
      congr 2
      omega
    · simp
theorem bitsA_get {six : Bool} {a : Addr} (h : a.wf) {i : Nat} (hi : i < (wide six).toNat) : (bitsA six a)[i]? = some (bitP six a i) := by
  obtain ⟨w1, w2⟩ := wide_le six
  rw [bitP_bit h (by omega) (by omega), bitsA, bitsGo_bits _ _ _ (by omega) h, List.append_nil, List.getElem?_map, List.getElem?_range hi]
  simp only [Option.map_some]
  congr 3
  omega
/-- all bits from a place on are 0. -/
def Addr.zeroAt (six : Bool) (a : Addr) (n : Int) : Prop := ∀ j : Nat, (j : Int) < wide six - n → a.bit j = false
theorem zeroFrom_all {n : Int} : ∀ {l : List Int} {i : Nat}, zeroFrom n i l = true ↔ ∀ (k : Nat) (x : Int), l[k]? = some x → n ≤ ((i + k : Nat) : Int) → x = 0
  | [], i => by simp [zeroFrom]
  | b :: r, i => by
    simp only [zeroFrom, Bool.and_eq_true, Bool.not_eq_true', Bool.and_eq_false_iff]
    rw [zeroFrom_all (l := r) (i := i + 1)]
    constructor
    · rintro ⟨h1, h2⟩ k x hk hn
      cases k with
      | zero =>
        simp at hk
        subst hk
        rcases h1 with h1 | h1
        · simp at h1 hn; omega
        · simpa using h1
      | succ k => exact h2 k x (by simpa using hk) (by omega)
    · intro h
      refine ⟨?_, fun k x hk hn => h (k + 1) x (by simpa using hk) (by omega)⟩
      by_cases c : n ≤ (i : Int)
      · right; have := h 0 b (by simp) (by simpa using c); simp [this]
      · left; simpa using c
theorem zeroFrom_iff {six : Bool} {a : Addr} (h : a.wf) {n : Int} (h0 : 0 ≤ n) (h1 : n ≤ wide six) : zeroFrom n 0 (bitsA six a) = true ↔ a.zeroAt six n := by
  obtain ⟨w1, w2⟩ := wide_le six
  rw [zeroFrom_all]
  constructor
  · intro hz j hj
    have hi : (wide six).toNat - 1 - j < (wide six).toNat := by omega
    have hg := bitsA_get h hi
    have := hz _ _ hg (by omega)
    rw [bitP_bit h (by omega) (by omega)] at this
    have e : (wide six - 1 - (((wide six).toNat - 1 - j : Nat) : Int)).toNat = j := by omega
    rw [e] at this
    unfold b2i at this
    split at this
    · cases this
    · rename_i c; simpa using c
  · intro hz k x hk hn
    have hlen := bitsA_len six a
    have hk' : k < (wide six).toNat := by rw [← hlen]; exact (List.getElem?_eq_some_iff.1 hk).1
    rw [bitsA_get h hk'] at hk
    cases hk
    rw [bitP_bit h (by omega) (by omega), hz _ (by omega)]
    rfl
theorem mod_zero_iff (x k : Nat) : x % 2 ^ k = 0 ↔ ∀ j, j < k → x.testBit j = false := by
  constructor
  · intro h j hj
    have := Nat.testBit_mod_two_pow x k j
    rw [h] at this
    simp [hj] at this
    exact this
  · intro h
    apply Nat.eq_of_testBit_eq
    intro j
    rw [Nat.testBit_mod_two_pow, Nat.zero_testBit]
    by_cases c : j < k
    · simp [c, h j c]
    · simp [c]
theorem and_mask (x k : Nat) : (x &&& (2 ^ k - 1) = 0) ↔ ∀ j, j < k → x.testBit j = false := by
  rw [Nat.and_two_pow_sub_one_eq_mod, mod_zero_iff]
/-- the low bits' mask. -/
theorem below_nat (n : Int) (h0 : 0 ≤ n) (h1 : n ≤ 128) : belowP n = ⟨((2 ^ (n.toNat - 64) - 1 : Nat) : Int), ((2 ^ (min n.toNat 64) - 1 : Nat) : Int)⟩ := by
  have key : ∀ k : Nat, k < 64 → IntKind.u64.wrap (IntKind.u64.wrap (1 * 2 ^ min k 64) - 1) = ((2 ^ k - 1 : Nat) : Int) := by
    intro k hk
    have e : min k 64 = k := by omega
    have hp : (2 : Nat) ^ k < 2 ^ 64 := Nat.pow_lt_pow_right (by decide) hk
    have hp1 : 1 ≤ (2 : Nat) ^ k := Nat.one_le_two_pow
    have e1 : (1 : Int) * 2 ^ min k 64 = ((2 ^ k : Nat) : Int) := by rw [e]; push_cast; omega
    rw [e1, u64_wrap_id (n := ((2 ^ k : Nat) : Int)) (by omega) (by omega), u64_wrap_id (by omega) (by omega)]
    omega
  unfold belowP
  split
  · have e : n = 128 := by omega
    subst e
    rfl
  · split
    · have e : (n - 64).toNat = n.toNat - 64 := by omega
      rw [e, key _ (by omega)]
      have e2 : min n.toNat 64 = 64 := by omega
      rw [e2]
      rfl
    · have e : n.toNat - 64 = 0 := by omega
      rw [key _ (by omega), e]
      have e2 : min n.toNat 64 = n.toNat := by omega
      rw [e2]
      rfl
theorem prefOk_eq {p : Prefix} (h : p.addr.wf) : prefOk p = prefOkR p := by
  unfold prefOk prefOkR
  rw [rightAddr_eq h.l0]
  by_cases c : 0 ≤ p.len ∧ p.len ≤ wide p.six
  · obtain ⟨c1, c2⟩ := c
    obtain ⟨w1, w2⟩ := wide_le p.six
    congr 1
    rw [Bool.eq_iff_iff, zeroFrom_iff h c1 c2, beq_iff_eq]
    unfold hostP
    rw [below_nat _ (by omega) (by omega)]
    simp only
    obtain ⟨x, hx⟩ := Int.eq_ofNat_of_zero_le h.h0
    obtain ⟨y, hy⟩ := Int.eq_ofNat_of_zero_le h.l0
    have hx1 := h.h1
    have hy1 := h.l1
    rw [hx] at hx1
    rw [hy] at hy1
    have hm1 : (2 : Nat) ^ ((wide p.six - p.len).toNat - 64) - 1 < 2 ^ 64 := by
      have : (2 : Nat) ^ ((wide p.six - p.len).toNat - 64) ≤ 2 ^ 64 := Nat.pow_le_pow_right (by decide) (by omega)
      omega
    have hm2 : (2 : Nat) ^ (min (wide p.six - p.len).toNat 64) - 1 < 2 ^ 64 := by
      have : (2 : Nat) ^ (min (wide p.six - p.len).toNat 64) ≤ 2 ^ 64 := Nat.pow_le_pow_right (by decide) (by omega)
      omega
    rw [hx, hy, and_nat x _ (by omega) hm1, and_nat y _ (by omega) hm2, or_nat _ _ (Nat.lt_of_le_of_lt Nat.and_le_left (by omega)) (Nat.lt_of_le_of_lt Nat.and_le_left (by omega))]
    have e0 : (((x &&& (2 ^ ((wide p.six - p.len).toNat - 64) - 1)) ||| (y &&& (2 ^ (min (wide p.six - p.len).toNat 64) - 1)) : Nat) : Int) = 0 ↔ ((x &&& (2 ^ ((wide p.six - p.len).toNat - 64) - 1)) = 0 ∧ (y &&& (2 ^ (min (wide p.six - p.len).toNat 64) - 1)) = 0) := by
      rw [← Nat.or_eq_zero_iff]
      omega
    rw [e0, and_mask, and_mask]
    unfold Addr.zeroAt Addr.bit
    rw [hx, hy]
    simp only [Int.toNat_natCast]
    constructor
    · rintro ⟨k1, k2⟩ j hj
      split
      · exact k2 j (by omega)
      · exact k1 (j - 64) (by omega)
    · intro k
      refine ⟨fun j hj => ?_, fun j hj => ?_⟩
      · have := k (j + 64) (by omega)
        rw [if_neg (by omega), Nat.add_sub_cancel] at this
        exact this
      · have := k j (by omega)
        rw [if_pos (by omega)] at this
        exact this
  · have : (decide (p.len < 0) || decide (wide p.six < p.len) || !rightAddrR p.six p.addr) = true := by
      simp only [Bool.or_eq_true, decide_eq_true_eq]
      omega
    rw [this]
    rfl
end Go.Sp
