/- Numbers as bytes, seven bits each, as the printed functions write and read them; the document's do the same. -/
import Derived.Test.YtgpkbehodmcbgaaZPx30005
import Derived.Test.YtgpkbehodmcbgaaZCrcEv2
set_option linter.unusedVariables false
set_option linter.unusedSimpArgs false
namespace Go.Proofs.Ytgpkbehodmcbgaa.Pure
open Go.RowKit Go.Proofs.Ytgpkbehodmcbgaa.P Go.Proofs.YtgpkbehodmcbgaaW.PrintWords Go.Proofs.YtgpkbehodmcbgaaW.PrintLast Go.Proofs.YtgpkbehodmcbgaaW.PrintMore
def nb (n : Nat) : List Int := if n < 128 then [(n : Int)] else ((n % 128 + 128 : Nat) : Int) :: nb (n / 128)
termination_by n
decreasing_by omega
theorem nb_small {n : Nat} (h : n < 128) : nb n = [(n : Int)] := by rw [nb]; exact if_pos h
theorem nb_big {n : Nat} (h : ¬ n < 128) : nb n = ((n % 128 + 128 : Nat) : Int) :: nb (n / 128) := by rw [nb]; exact if_neg h
theorem nb_len (d : Nat) : ∀ n : Nat, n < 128 ^ (d + 1) → (nb n).length ≤ d + 1 ∧ 1 ≤ (nb n).length := by
  induction d with
  | zero => intro n h; rw [nb_small (by simpa using h)]; simp
  | succ d ih =>
    intro n h
    by_cases c : n < 128
    · rw [nb_small c]; simp
    · rw [nb_big c]
      have := ih (n / 128) (by rw [Nat.pow_succ] at h; omega)
      simp
      omega
theorem nb_len64 (n : Nat) (h : n < 18446744073709551616) : (nb n).length ≤ 10 ∧ 1 ≤ (nb n).length := nb_len 9 n (by omega)
theorem or128 : ∀ x : Fin 256, Go.bits .or .u8 (x.val : Int) 128 = ((x.val % 128 + 128 : Nat) : Int) := by decide +kernel
theorem andNot128 : ∀ x : Fin 256, Go.bits .andNot .u8 (x.val : Int) 128 = ((x.val % 128 : Nat) : Int) := by decide +kernel
theorem or_128 (n : Nat) : Go.bits .or .u8 ((n : Int) % 256) 128 = ((n % 128 + 128 : Nat) : Int) := by
  have h := or128 ⟨n % 256, Nat.mod_lt _ (by omega)⟩
  have e1 : ((n : Int) % 256) = ((n % 256 : Nat) : Int) := by omega
  have e2 : n % 256 % 128 = n % 128 := by omega
  rw [e1, ← e2]
  exact h
theorem Add_l0 (d : Nat) : ∀ (n : Nat) (l : List Int), n < 128 ^ (d + 1) → l.length + d + 1 < 140737488355328 → Ev (fun k => num_Add.l0 k l (n : Int)) (l ++ nb n) := by
  induction d with
  | zero =>
    intro n l h hl
    rw [nb_small (by simpa using h)]
    refine Ev.step (fun k => ?_) (Ev.now _)
    simp only [num_Add.l0]
    rw [if_neg (by omega), if_pos (by omega)]
    congr 3
    omega
  | succ d ih =>
    intro n l h hl
    by_cases c : n < 128
    · rw [nb_small c]
      refine Ev.step (fun k => ?_) (Ev.now _)
      simp only [num_Add.l0]
      rw [if_neg (by omega), if_pos (by omega)]
      congr 3
      omega
    · rw [nb_big c]
      have e : l ++ ((n % 128 + 128 : Nat) : Int) :: nb (n / 128) = (l ++ [((n % 128 + 128 : Nat) : Int)]) ++ nb (n / 128) := by simp
      rw [e]
      refine Ev.step (fun k => ?_) (ih (n / 128) (l ++ [((n % 128 + 128 : Nat) : Int)]) (by rw [Nat.pow_succ] at h; omega) (by rw [List.length_append]; simp; omega))
      simp only [num_Add.l0]
      have e2 : (n : Int) / 128 = ((n / 128 : Nat) : Int) := by omega
      rw [if_pos (by omega), if_pos (by omega), or_128, e2]
theorem Add_ev (n : Nat) (h : n < 18446744073709551616) (l : List Int) (hl : l.length + 10 < 140737488355328) : Ev (fun k => num_Add.f k l (n : Int)) (l ++ nb n) := Add_l0 9 n l (by omega) (by omega)
def getN (i : Nat) (acc : Nat) : List UInt8 → Nat × Nat × Int
  | [] => (0, 0, 5)
  | b :: l => if (i = 9 ∧ 1 < b.toNat) ∨ (b.toNat = 0 ∧ 0 < i) then (0, 0, 7) else if b.toNat < 128 then (acc + b.toNat * 128 ^ i, i + 1, 0) else getN (i + 1) (acc + (b.toNat - 128) * 128 ^ i) l
def getS (s : ByteArray) : Int × ByteArray × Int := if (getN 0 0 (B s)).2.2 = 0 then (((getN 0 0 (B s)).1 : Int), s.extract (getN 0 0 (B s)).2.1 s.size, 0) else (0, ⟨#[]⟩, (getN 0 0 (B s)).2.2)
def resN (s : ByteArray) (r : Nat × Nat × Int) : Int × ByteArray × Int := if r.2.2 = 0 then ((r.1 : Int), s.extract r.2.1 s.size, 0) else (0, ⟨#[]⟩, r.2.2)
theorem or_disjoint (a c i : Nat) (ha : a < 2 ^ i) (h : c * 2 ^ i < 18446744073709551616) (hi : i ≤ 63) : Go.bits .or .u64 (a : Int) ((c * 2 ^ i : Nat) : Int) = ((a + c * 2 ^ i : Nat) : Int) := by
  have hp : (2 : Nat) ^ i ≤ 2 ^ 63 := Nat.pow_le_pow_right (by omega) hi
  rw [u64_or_nat a (c * 2 ^ i) (by omega) h]
  rw [Nat.or_comm, ← Nat.shiftLeft_eq, ← Nat.shiftLeft_add_eq_or_of_lt ha, Nat.add_comm]
theorem pow128 (i : Nat) : (128 : Nat) ^ i = 2 ^ (7 * i) := by
  rw [show (128 : Nat) = 2 ^ 7 from rfl, ← Nat.pow_mul]
theorem shl_ok (c i : Nat) (hi : i ≤ 9) : shl .u64 (c : Int) ((7 * i : Nat) : Int) = ((c * 2 ^ (7 * i) % 18446744073709551616 : Nat) : Int) := by
  unfold shl
  have e : min ((7 * i : Nat) : Int).toNat (IntKind.bits .u64) = 7 * i := by
    rw [Int.toNat_natCast]
    exact Nat.min_eq_left (by show 7 * i ≤ 64; omega)
  rw [e, IntKind.wrap_u64]
  have : ((c : Int) * 2 ^ (7 * i)) = ((c * 2 ^ (7 * i) : Nat) : Int) := by rw [Int.natCast_mul, Int.natCast_pow]; rfl
  rw [this]
  omega
theorem byte_andNot (s : ByteArray) (i : Nat) (h : i < s.size) : IntKind.u64.wrap (Go.bits .andNot .u8 (bt s (i : Int)) 128) = ((((B s)[i]'(by rw [B_len]; exact h)).toNat % 128 : Nat) : Int) := by
  rw [bt_B s i h]
  have hb := ((B s)[i]'(by rw [B_len]; exact h)).toNat_lt
  have e := andNot128 ⟨((B s)[i]'(by rw [B_len]; exact h)).toNat, by omega⟩
  simp only at e
  rw [e, IntKind.wrap_u64]
  omega
theorem mn_10 (n : Nat) : mn (n : Int) 10 = ((min n 10 : Nat) : Int) := by unfold mn; split <;> omega
theorem Get_l0 (s : ByteArray) (hs : s.size ≤ 9223372036854775806) (d : Nat) : ∀ (i acc : Nat), i + d = s.size → i ≤ 9 → acc < 128 ^ i → Ev (fun k => num_Get.l0 k s (acc : Int) (mn (s.size : Int) 10) i) (resN s (getN i acc ((B s).drop i))) := by
  induction d with
  | zero =>
    intro i acc hi h9 ha
    rw [List.drop_eq_nil_of_le (by rw [B_len]; omega)]
    refine Ev.step (fun k => ?_) (Ev.now _)
    simp only [num_Get.l0, mn_10]
    rw [if_neg (by omega)]
    rfl
  | succ d ih =>
    intro i acc hi h9 ha
    have hl : i < s.size := by omega
    have hlB : i < (B s).length := by rw [B_len]; exact hl
    have e : (B s).drop i = (B s)[i] :: (B s).drop (i + 1) := List.drop_eq_getElem_cons hlB
    have hb := ((B s)[i]).toNat_lt
    have hbt := bt_B s i hl
    have han := byte_andNot s i hl
    have hw : wrap64 (7 * (i : Int)) = ((7 * i : Nat) : Int) := by unfold wrap64; omega
    have hmin : i < min s.size 10 := by omega
    rw [e]
    generalize hbb : (B s)[i] = b at hb hbt han
    rw [pow128] at ha
    have hor : ((i = 9 ∧ 1 < b.toNat) ∨ (b.toNat = 0 ∧ 0 < i)) ∨ Go.bits .or .u64 (acc : Int) (shl .u64 ((b.toNat % 128 : Nat) : Int) ((7 * i : Nat) : Int)) = ((acc + b.toNat % 128 * 128 ^ i : Nat) : Int) := by
      by_cases hc : i = 9 ∧ 1 < b.toNat
      · exact .inl (.inl hc)
      · right
        have hlt : b.toNat % 128 * 2 ^ (7 * i) < 18446744073709551616 := by
          by_cases h8 : i = 9
          · subst h8
            have : b.toNat % 128 ≤ 1 := by omega
            calc b.toNat % 128 * 2 ^ (7 * 9) ≤ 1 * 2 ^ (7 * 9) := Nat.mul_le_mul_right _ this
              _ < _ := by decide
          · calc b.toNat % 128 * 2 ^ (7 * i) ≤ 127 * 2 ^ (7 * 8) := Nat.mul_le_mul (by omega) (Nat.pow_le_pow_right (by omega) (by omega))
              _ < _ := by decide
        rw [shl_ok _ _ h9, Nat.mod_eq_of_lt hlt, or_disjoint acc _ _ ha hlt (by omega), pow128]
    have hnext : ∀ x5 : Int, (¬ ((i = 9 ∧ 1 < b.toNat) ∨ (b.toNat = 0 ∧ 0 < i)) → x5 = ((acc + b.toNat % 128 * 128 ^ i : Nat) : Int)) →
        ∀ f : Bool, f = decide ((i = 9 ∧ 1 < b.toNat) ∨ (b.toNat = 0 ∧ 0 < i)) → Ev (fun k => num_Get.j2 k s x5 (i : Int) (b.toNat : Int) (mn (s.size : Int) 10) (i : Int) f) (resN s (getN i acc (b :: (B s).drop (i + 1)))) := by
      intro x5 hx5 f hf
      simp only [getN]
      by_cases hc : (i = 9 ∧ 1 < b.toNat) ∨ (b.toNat = 0 ∧ 0 < i)
      · rw [decide_eq_true hc] at hf
        subst hf
        rw [if_pos hc]
        refine Ev.step (fun k => ?_) (Ev.now _)
        simp only [num_Get.j2]
        exact if_pos trivial
      · rw [decide_eq_false hc] at hf
        subst hf
        rw [if_neg hc, hx5 hc]
        by_cases h128 : b.toNat < 128
        · rw [if_pos h128]
          refine Ev.step (fun k => ?_) (Ev.now _)
          simp only [num_Get.j2]
          rw [if_neg (by decide), if_pos (by omega), wrap_up i (by omega), if_pos (by omega), if_pos (by omega), Int.toNat_natCast, Nat.mod_eq_of_lt h128]
          rfl
        · rw [if_neg h128]
          have e9 : ¬ i = 9 := fun h => hc (.inl ⟨h, by omega⟩)
          have em : b.toNat % 128 = b.toNat - 128 := by omega
          have hacc : acc + (b.toNat - 128) * 128 ^ i < 128 ^ (i + 1) := by
            have h1 : acc < 128 ^ i := by rw [pow128]; exact ha
            rw [Nat.pow_succ]
            have : (b.toNat - 128) * 128 ^ i ≤ 127 * 128 ^ i := Nat.mul_le_mul_right _ (by omega)
            omega
          refine Ev.step (fun k => ?_) (ih (i + 1) _ (by omega) (by omega) hacc)
          simp only [num_Get.j2]
          rw [if_neg (by decide), if_neg (by omega), wrap_up i (by omega), em]
    have hx : ¬ ((i = 9 ∧ 1 < b.toNat) ∨ (b.toNat = 0 ∧ 0 < i)) → Go.bits .or .u64 (acc : Int) (shl .u64 ((b.toNat % 128 : Nat) : Int) ((7 * i : Nat) : Int)) = ((acc + b.toNat % 128 * 128 ^ i : Nat) : Int) := fun h => hor.resolve_left h
    have j1 : ∀ f : Bool, f = decide (i = 9 ∧ 1 < b.toNat) → Ev (fun k => num_Get.j1 k s (Go.bits .or .u64 (acc : Int) (shl .u64 ((b.toNat % 128 : Nat) : Int) ((7 * i : Nat) : Int))) (i : Int) (b.toNat : Int) (mn (s.size : Int) 10) (i : Int) f) (resN s (getN i acc (b :: (B s).drop (i + 1)))) := by
      intro f hf
      by_cases hc : i = 9 ∧ 1 < b.toNat
      · rw [decide_eq_true hc] at hf
        subst hf
        refine Ev.step (fun k => ?_) (hnext _ hx true (by rw [decide_eq_true (.inl hc)]))
        simp only [num_Get.j1]
        exact if_pos trivial
      · rw [decide_eq_false hc] at hf
        subst hf
        by_cases h0 : b.toNat = 0
        · refine Ev.step (fun k => ?_) (hnext _ hx (decide ((i : Int) > 0)) (by rw [Bool.eq_iff_iff]; simp [hc, h0]))
          simp only [num_Get.j1]
          rw [if_neg (by decide), if_pos (by omega)]
        · refine Ev.step (fun k => ?_) (hnext _ hx false (by rw [Bool.eq_iff_iff]; simp [hc, h0]))
          simp only [num_Get.j1]
          rw [if_neg (by decide), if_neg (by omega)]
    by_cases h9' : i = 9
    · refine Ev.step (fun k => ?_) (j1 (decide ((b.toNat : Int) > 1)) (by rw [Bool.eq_iff_iff]; simp [h9']; omega))
      simp only [num_Get.l0]
      rw [if_pos (by rw [mn_10]; omega), if_pos (by omega), if_pos (by omega), hw, if_pos (by omega), if_pos (by omega), hbt, ← hbt, han, hbt]
    · refine Ev.step (fun k => ?_) (j1 false (by rw [Bool.eq_iff_iff]; simp [h9']))
      simp only [num_Get.l0]
      rw [if_pos (by rw [mn_10]; omega), if_pos (by omega), if_pos (by omega), hw, if_pos (by omega), if_neg (by omega), hbt, ← hbt, han, hbt]
theorem Get_ev (s : ByteArray) (hs : s.size ≤ 9223372036854775806) : Ev (fun k => num_Get.f k s) (getS s) := by
  have := Get_l0 s hs s.size 0 0 (by omega) (by omega) (by decide)
  rw [List.drop_zero] at this
  exact this
def u8s (l : List Int) : List UInt8 := l.map fun n => UInt8.ofNat n.toNat
theorem B_str (l : List Int) : B (strOfNums l) = u8s l := rfl
theorem u8_nat (n : Nat) (h : n < 256) : (UInt8.ofNat ((n : Int).toNat)).toNat = n := by
  rw [Int.toNat_natCast, UInt8.toNat_ofNat']
  omega
theorem getN_nb (d : Nat) : ∀ (n i acc : Nat) (m : List UInt8), n < 128 ^ (d + 1) → i + d = 9 → (d = 0 → n ≤ 1) → (n = 0 → i = 0) → (1 ≤ d → n * 128 ^ i < 18446744073709551616) → getN i acc (u8s (nb n) ++ m) = (acc + n * 128 ^ i, i + (nb n).length, 0) := by
  induction d with
  | zero =>
    intro n i acc m h hi h1 h0 _
    have hn := h1 rfl
    rw [nb_small (by omega)]
    show getN i acc (UInt8.ofNat (n : Int).toNat :: m) = _
    have := u8_nat n (by omega)
    simp only [getN, this]
    rw [if_neg (by omega), if_pos (by omega)]
    simp
  | succ d ih =>
    intro n i acc m h hi h1 h0 h2
    by_cases c : n < 128
    · rw [nb_small c]
      show getN i acc (UInt8.ofNat (n : Int).toNat :: m) = _
      have := u8_nat n (by omega)
      simp only [getN, this]
      rw [if_neg (by omega), if_pos (by omega)]
      simp
    · rw [nb_big c]
      show getN i acc (UInt8.ofNat ((n % 128 + 128 : Nat) : Int).toNat :: (u8s (nb (n / 128)) ++ m)) = _
      have := u8_nat (n % 128 + 128) (by omega)
      simp only [getN, this]
      have hlt := h2 (by omega)
      rw [if_neg (by omega), if_neg (by omega), ih (n / 128) (i + 1) _ m (by rw [Nat.pow_succ] at h; omega) (by omega) ?_ (by omega) ?_]
      · refine Prod.ext ?_ (Prod.ext ?_ rfl)
        · simp only
          rw [Nat.add_sub_cancel, Nat.pow_succ, Nat.add_assoc]
          congr 1
          have e : n = n % 128 + 128 * (n / 128) := by omega
          conv => rhs; rw [e]
          rw [Nat.add_mul]
          congr 1
          rw [Nat.mul_comm (128 ^ i) 128, ← Nat.mul_assoc, Nat.mul_comm (n / 128) 128]
        · simp
          omega
      · intro hd
        subst hd
        obtain rfl : i = 8 := by omega
        have hp : (128 : Nat) ^ 8 = 72057594037927936 := by decide
        rw [hp] at hlt
        omega
      · intro _
        rw [Nat.pow_succ]
        have e : n / 128 * (128 ^ i * 128) = n / 128 * 128 * 128 ^ i := by rw [Nat.mul_comm (128 ^ i) 128, Nat.mul_assoc]
        rw [e]
        exact Nat.lt_of_le_of_lt (Nat.mul_le_mul_right _ (by omega)) hlt
theorem getN_put (n : Nat) (h : n < 18446744073709551616) (m : List UInt8) : getN 0 0 (u8s (nb n) ++ m) = (n, (nb n).length, 0) := by
  have := getN_nb 9 n 0 0 m (by omega) (by omega) (by omega) (by omega) (by simp; omega)
  simpa using this
end Go.Proofs.Ytgpkbehodmcbgaa.Pure
