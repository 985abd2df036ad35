/- Frames that are cut: those that are whole are read, and no other one. -/
import Derived.Test.YtbeinlllhpcokaaFrameMany
set_option linter.unusedVariables false
set_option linter.unusedSimpArgs false
namespace Go.Proofs.Ytbeinlllhpcokaa.Pure
open Go.RowKit Go.Proofs.Ytbeinlllhpcokaa.P Go.Proofs.YtbeinlllhpcokaaW.PrintWords Go.Proofs.YtbeinlllhpcokaaW.PrintLast Go.Proofs.YtbeinlllhpcokaaW.PrintMore
theorem getN_nb_cut (d : Nat) : ∀ (n i acc j : Nat), n < 128 ^ (d + 1) → i + d = 9 → j < (nb n).length → getN i acc ((u8s (nb n)).take j) = (0, 0, 5) := by
  induction d with
  | zero =>
    intro n i acc j h hi hj
    rw [nb_small (by simpa using h)] at hj ⊢
    obtain rfl : j = 0 := by simp at hj; omega
    rfl
  | succ d ih =>
    intro n i acc j h hi hj
    cases j with
    | zero => rfl
    | succ j =>
      by_cases c : n < 128
      · rw [nb_small c] at hj
        simp at hj
      · rw [nb_big c] at hj ⊢
        show getN i acc (UInt8.ofNat ((n % 128 + 128 : Nat) : Int).toNat :: ((u8s (nb (n / 128))).take j)) = _
        have := u8_nat (n % 128 + 128) (by omega)
        simp only [getN, this]
        rw [if_neg (by omega), if_neg (by omega)]
        exact ih (n / 128) (i + 1) _ j (by rw [Nat.pow_succ] at h; omega) (by omega) (by simp at hj; omega)
theorem nextS_cut (p t : ByteArray) (hp : p.size ≤ 4096) (n : Nat) (hn : n < (putS p).size) (ht : B t = (B (putS p)).take n) : ¬ (nextS t).2.2 = 0 := by
  rw [B_putS] at ht
  by_cases c : n < (nb p.size).length
  · have e : B t = (u8s (nb p.size)).take n := by rw [ht, List.take_append_of_le_length (by rw [u8s_len]; omega)]
    have hg : getN 0 0 (B t) = (0, 0, 5) := by rw [e]; exact getN_nb_cut 9 p.size 0 0 n (by omega) (by omega) c
    have : getS t = (0, ⟨#[]⟩, 5) := by unfold getS; rw [hg]; rfl
    unfold nextS
    rw [this]
    simp
  · obtain ⟨m, hm⟩ : ∃ m : ByteArray, B m = (B (text4 (I (CrcMath.of (B p)))) ++ B p).take (n - (nb p.size).length) := ⟨⟨((B (text4 (I (CrcMath.of (B p)))) ++ B p).take (n - (nb p.size).length)).toArray⟩, rfl⟩
    have hB : B t = u8s (nb p.size) ++ B m := by
      rw [ht, hm, List.take_append, u8s_len, List.take_of_length_le (by rw [u8s_len]; omega)]
    have hg := getS_put p.size (by omega) t m hB
    unfold nextS
    rw [hg]
    simp only [if_true, Int.toNat_natCast]
    have hms : m.size < p.size + 4 := by
      rw [← B_len, hm, List.length_take, List.length_append, B_len, B_len, text4_size]
      rw [putS_size] at hn
      omega
    unfold tailF
    rw [if_neg (by omega), if_pos hms]
    simp
/-- how many payloads are whole. -/
def whole : List ByteArray → Nat → Nat
  | [], _ => 0
  | p :: l, n => if (putS p).size ≤ n then whole l (n - (putS p).size) + 1 else 0
theorem whole_le (l : List ByteArray) : ∀ n, whole l n ≤ l.length := by
  induction l with
  | nil => intro n; exact Nat.le_refl _
  | cons p l ih => intro n; simp only [whole]; split <;> simp; exact ih _
theorem cat_take_size (l : List ByteArray) : ∀ n i, i < l.length → ((cat (l.take (i + 1))).size ≤ n ↔ i < whole l n) := by
  induction l with
  | nil => intro n i hi; simp at hi
  | cons p l ih =>
    intro n i hi
    have e : (cat ((p :: l).take (i + 1))).size = (putS p).size + (cat (l.take i)).size := by
      show (putS p ++ cat (l.take i)).size = _
      rw [ByteArray.size_append]
    rw [e]
    simp only [whole]
    by_cases c : (putS p).size ≤ n
    · rw [if_pos c]
      cases i with
      | zero =>
        have : (cat (l.take 0)).size = 0 := rfl
        omega
      | succ i =>
        have := ih (n - (putS p).size) i (by simpa using hi)
        omega
    · rw [if_neg c]
      omega
theorem cat_whole_le (l : List ByteArray) : ∀ n, (cat (l.take (whole l n))).size ≤ n := by
  induction l with
  | nil => intro n; exact Nat.zero_le _
  | cons p l ih =>
    intro n
    simp only [whole]
    by_cases c : (putS p).size ≤ n
    · rw [if_pos c]
      show (putS p ++ cat (l.take _)).size ≤ n
      rw [ByteArray.size_append]
      have := ih (n - (putS p).size)
      omega
    · rw [if_neg c]
      exact Nat.zero_le _
/-- what is read of frames that are cut. -/
theorem parse_cut (l : List ByteArray) (h : ∀ p ∈ l, p.size ≤ 4096) : ∀ (t : ByteArray) (n : Nat), n ≤ (cat l).size → B t = (B (cat l)).take n → (parse t).map (·.1) = l.take (whole l n) ∧ (parse t).length = whole l n ∧ (whole l n ≠ 0 → ∃ x, (parse t).getLast? = some x ∧ x.2.size + (cat (l.take (whole l n))).size = n) := by
  induction l with
  | nil =>
    intro t n hn ht
    have hn0 : n = 0 := Nat.le_zero.mp hn
    subst hn0
    have : t = E0 := B_inj (by rw [ht]; rfl)
    rw [this, parse_no nextS_E0]
    exact ⟨rfl, rfl, fun h => absurd rfl h⟩
  | cons p l ih =>
    intro t n hn ht
    have hcat : cat (p :: l) = putS p ++ cat l := rfl
    rw [hcat, B_app] at ht
    rw [hcat, ByteArray.size_append] at hn
    simp only [whole]
    by_cases c : (putS p).size ≤ n
    · rw [if_pos c]
      obtain ⟨r, hr⟩ : ∃ r : ByteArray, B r = (B (cat l)).take (n - (putS p).size) := ⟨⟨((B (cat l)).take (n - (putS p).size)).toArray⟩, rfl⟩
      have et : t = putS p ++ r := by
        apply B_inj
        rw [ht, B_app, hr, List.take_append, B_len, List.take_of_length_le (by rw [B_len]; exact c)]
      have hnx := nextS_put p r (h p (by simp))
      obtain ⟨i1, i2, i3⟩ := ih (fun q hq => h q (List.mem_cons_of_mem _ hq)) r (n - (putS p).size) (by omega) hr
      have hy := parse_yes (s := putS p ++ r) (by rw [hnx])
      rw [hnx] at hy
      rw [et, hy]
      refine ⟨by simp [i1], by simp [i2], fun _ => ?_⟩
      have esz : (cat ((p :: l).take (whole l (n - (putS p).size) + 1))).size = (putS p).size + (cat (l.take (whole l (n - (putS p).size)))).size := by
        show (putS p ++ cat (l.take _)).size = _
        rw [ByteArray.size_append]
      rw [esz]
      by_cases hw : whole l (n - (putS p).size) = 0
      · have hpr : parse r = [] := List.eq_nil_of_length_eq_zero (by rw [i2, hw])
        rw [hpr, hw]
        refine ⟨(p, r), rfl, ?_⟩
        have hrs : r.size = n - (putS p).size := by rw [← B_len, hr, List.length_take, B_len]; omega
        have : (cat (l.take 0)).size = 0 := rfl
        show r.size + _ = n
        omega
      · obtain ⟨x, hx, hx2⟩ := i3 hw
        refine ⟨x, ?_, by omega⟩
        rw [List.getLast?_cons, hx]
        rfl
    · rw [if_neg c]
      have hnx := nextS_cut p t (h p (by simp)) n (by omega) (by rw [ht, List.take_append_of_le_length (by rw [B_len]; omega)])
      rw [parse_no hnx]
      exact ⟨rfl, rfl, fun h => absurd rfl h⟩
end Go.Proofs.Ytbeinlllhpcokaa.Pure
