/- The document's numbers as bytes come to the same. -/
import Derived.Test.YthloehmpjemhlaaPx1
import Derived.Test.YthloehmpjemhlaaPx6
import Derived.Test.YthloehmpjemhlaaNum
set_option linter.unusedVariables false
set_option linter.unusedSimpArgs false
namespace Go.Proofs.Ythloehmpjemhlaa.Pure
open Go.RowKit Go.Proofs.Ythloehmpjemhlaa.P Go.Proofs.YthloehmpjemhlaaW.PrintWords Go.Proofs.YthloehmpjemhlaaW.PrintLast Go.Proofs.YthloehmpjemhlaaW.PrintMore
theorem str_cons (x : Int) (l : List Int) : strOfNums [x] ++ strOfNums l = strOfNums (x :: l) := by
  apply B_inj
  rw [B_app]
  rfl
theorem RPut_aux (d : Nat) : ∀ n : Nat, n < 128 ^ (d + 1) → d ≤ 9 → n < 18446744073709551616 → Ev (fun k => spoorref01_Put.f k (n : Int)) (strOfNums (nb n)) := by
  induction d with
  | zero =>
    intro n h _ _
    rw [nb_small (by simpa using h)]
    refine Ev.step (fun k => ?_) (Ev.now _)
    simp only [spoorref01_Put.f]
    rw [if_pos (by omega)]
    congr 3
    omega
  | succ d ih =>
    intro n h hd hn
    by_cases c : n < 128
    · rw [nb_small c]
      refine Ev.step (fun k => ?_) (Ev.now _)
      simp only [spoorref01_Put.f]
      rw [if_pos (by omega)]
      congr 3
      omega
    · rw [nb_big c]
      have e1 : IntKind.u64.wrap (Int.tmod (n : Int) 128 + 128) % 256 = ((n % 128 + 128 : Nat) : Int) := by
        rw [Int.tmod_eq_emod_of_nonneg (by omega), IntKind.wrap_u64]; omega
      have e2 : IntKind.u64.wrap (Int.tdiv (n : Int) 128) = ((n / 128 : Nat) : Int) := by
        rw [Int.tdiv_eq_ediv_of_nonneg (by omega), IntKind.wrap_u64]; omega
      have hl := nb_len d (n / 128) (by rw [Nat.pow_succ] at h; omega)
      refine Ev.step (f := fun k => (spoorref01_Put.f k ((n / 128 : Nat) : Int)).bind fun t => if (strOfNums [((n % 128 + 128 : Nat) : Int)]).size + t.size ≤ 9223372036854775807 then some (strOfNums [((n % 128 + 128 : Nat) : Int)] ++ t) else none) (fun k => ?_) (Ev.bind (ih (n / 128) (by rw [Nat.pow_succ] at h; omega) (by omega) (by omega)) ?_)
      · simp only [spoorref01_Put.f]
        rw [if_neg (by omega), e1, e2]
        rfl
      · have : (strOfNums [((n % 128 + 128 : Nat) : Int)]).size + (strOfNums (nb (n / 128))).size ≤ 9223372036854775807 := by
          rw [strOfNums_size, strOfNums_size]; simp; omega
        simp only [if_pos this, str_cons]
        exact Ev.now _
theorem RPut_ev (n : Nat) (h : n < 18446744073709551616) : Ev (fun k => spoorref01_Put.f k (n : Int)) (strOfNums (nb n)) := RPut_aux 9 n (by omega) (by omega) h
theorem RGet_l0 (s : ByteArray) (hs : s.size ≤ 9223372036854775806) (d : Nat) : ∀ (i acc : Nat), i + d = s.size → i ≤ 9 → acc < 128 ^ i → Ev (fun k => spoorref01_Get.l0 k s (acc : Int) ((128 ^ i : Nat) : Int) i) (resN s (getN i acc ((B s).drop i))) := by
  induction d with
  | zero =>
    intro i acc hi h9 ha
    rw [List.drop_eq_nil_of_le (by rw [B_len]; omega)]
    refine Ev.step (fun k => ?_) (Ev.now _)
    simp only [spoorref01_Get.l0]
    rw [if_neg (by omega)]
    rfl
  | succ d ih =>
    intro i acc hi h9 ha
    have hl : i < s.size := by omega
    have hlB : i < (B s).length := by rw [B_len]; exact hl
    have e : (B s).drop i = (B s)[i] :: (B s).drop (i + 1) := List.drop_eq_getElem_cons hlB
    have hb := ((B s)[i]).toNat_lt
    have hbt := bt_B s i hl
    rw [e]
    generalize hbb : (B s)[i] = b at hb hbt
    have hp9 : (128 : Nat) ^ i ≤ 9223372036854775808 := Nat.le_trans (Nat.pow_le_pow_right (by omega) h9) (by decide)
    have hpos : 0 < (128 : Nat) ^ i := Nat.pow_pos (by omega)
    have hval : ¬ (i = 9 ∧ 1 < b.toNat) → IntKind.u64.wrap ((acc : Int) + IntKind.u64.wrap (IntKind.u64.wrap (Int.tmod (b.toNat : Int) 128) * ((128 ^ i : Nat) : Int))) = ((acc + b.toNat % 128 * 128 ^ i : Nat) : Int) := by
      intro hc
      have hlt : b.toNat % 128 * 128 ^ i + acc < 18446744073709551616 := by
        by_cases h8 : i = 9
        · have : b.toNat % 128 * 128 ^ i ≤ 1 * 128 ^ i := Nat.mul_le_mul_right _ (by omega)
          omega
        · have h1 : b.toNat % 128 * 128 ^ i ≤ 127 * 128 ^ 8 := Nat.mul_le_mul (by omega) (Nat.pow_le_pow_right (by omega) (by omega))
          have : (127 : Nat) * 128 ^ 8 = 9151314442816847872 := by decide
          omega
      rw [Int.tmod_eq_emod_of_nonneg (by omega)]
      have e1 : IntKind.u64.wrap ((b.toNat : Int) % 128) = ((b.toNat % 128 : Nat) : Int) := by rw [IntKind.wrap_u64]; omega
      have e2 : ((b.toNat % 128 : Nat) : Int) * ((128 ^ i : Nat) : Int) = ((b.toNat % 128 * 128 ^ i : Nat) : Int) := by rw [Int.natCast_mul]
      rw [e1, e2]
      generalize b.toNat % 128 * 128 ^ i = q at hlt
      rw [IntKind.wrap_u64, IntKind.wrap_u64]
      omega
    have hv0 : b.toNat < 128 → b.toNat % 128 = b.toNat := fun h => Nat.mod_eq_of_lt h
    have j1 : ∀ f : Bool, f = decide (i = 9 ∧ 1 < b.toNat) → Ev (fun k => spoorref01_Get.j1 k s (acc : Int) ((128 ^ i : Nat) : Int) (i : Int) (b.toNat : Int) f) (resN s (getN i acc (b :: (B s).drop (i + 1)))) := by
      intro f hf
      simp only [getN]
      by_cases hc : i = 9 ∧ 1 < b.toNat
      · rw [decide_eq_true hc] at hf
        subst hf
        rw [if_pos (.inl hc)]
        refine Ev.step (fun k => ?_) (Ev.now _)
        simp only [spoorref01_Get.j1]
        exact if_pos trivial
      · rw [decide_eq_false hc] at hf
        subst hf
        by_cases h128 : b.toNat < 128
        · by_cases h0 : b.toNat = 0
          · by_cases hi0 : 0 < i
            · rw [if_pos (.inr ⟨h0, hi0⟩)]
              refine Ev.step (fun k => ?_) (Ev.now _)
              simp only [spoorref01_Get.j1]
              rw [if_neg (by decide), if_neg (by omega), if_pos (by omega), if_pos (by omega)]
              rfl
            · rw [if_neg (by omega), if_pos h128]
              refine Ev.step (fun k => ?_) (Ev.now _)
              simp only [spoorref01_Get.j1]
              rw [if_neg (by decide), if_neg (by omega), if_pos (by omega), if_neg (by omega), wrap_up i (by omega), if_pos (by omega), if_pos (by omega), hval hc, hv0 h128, Int.toNat_natCast]
              rfl
          · rw [if_neg (by omega), if_pos h128]
            refine Ev.step (fun k => ?_) (Ev.now _)
            simp only [spoorref01_Get.j1]
            rw [if_neg (by decide), if_neg (by omega), if_neg (by omega), wrap_up i (by omega), if_pos (by omega), if_pos (by omega), hval hc, hv0 h128, Int.toNat_natCast]
            rfl
        · have em : b.toNat % 128 = b.toNat - 128 := by omega
          have hacc : acc + (b.toNat - 128) * 128 ^ i < 128 ^ (i + 1) := by
            rw [Nat.pow_succ]
            have : (b.toNat - 128) * 128 ^ i ≤ 127 * 128 ^ i := Nat.mul_le_mul_right _ (by omega)
            omega
          have hi9 : i ≤ 8 := by omega
          have hm : IntKind.u64.wrap (((128 ^ i : Nat) : Int) * 128) = ((128 ^ (i + 1) : Nat) : Int) := by
            have : (128 : Nat) ^ i ≤ 128 ^ 8 := Nat.pow_le_pow_right (by omega) hi9
            have h8 : (128 : Nat) ^ 8 = 72057594037927936 := by decide
            rw [Nat.pow_succ, IntKind.wrap_u64]
            omega
          rw [if_neg (by omega), if_neg h128]
          refine Ev.step (fun k => ?_) (ih (i + 1) _ (by omega) (by omega) hacc)
          simp only [spoorref01_Get.j1]
          rw [if_neg (by decide), if_pos (by omega), hval hc, em, hm, wrap_up i (by omega)]
    by_cases h9' : i = 9
    · refine Ev.step (fun k => ?_) (j1 (decide ((b.toNat : Int) > 1)) (by rw [Bool.eq_iff_iff]; simp [h9']; omega))
      simp only [spoorref01_Get.l0]
      rw [if_pos (by omega), if_pos (by omega), if_pos (by omega), hbt]
    · refine Ev.step (fun k => ?_) (j1 false (by rw [Bool.eq_iff_iff]; simp [h9']))
      simp only [spoorref01_Get.l0]
      rw [if_pos (by omega), if_pos (by omega), if_neg (by omega), hbt]
theorem RGet_ev (s : ByteArray) (hs : s.size ≤ 9223372036854775806) : Ev (fun k => spoorref01_Get.f k s) (getS s) := by
  have := RGet_l0 s hs s.size 0 0 (by omega) (by omega) (by decide)
  rw [List.drop_zero] at this
  exact this
end Go.Proofs.Ythloehmpjemhlaa.Pure
