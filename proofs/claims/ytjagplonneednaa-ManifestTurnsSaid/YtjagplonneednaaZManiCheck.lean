-- kept, by a program of this session, of texts that the printer or this session wrote
import Derived.Test.YtjagplonneednaaZPx1043
import Derived.Test.YtjagplonneednaaZCrcMath
import Derived.Test.YtjagplonneednaaZCrcEv2
import Derived.Test.YtjagplonneednaaZPx30013
import Derived.Test.YtjagplonneednaaZPx0
section
set_option linter.unusedVariables false
set_option linter.unusedSimpArgs false
namespace Go.Proofs.Ytjagplonneednaa.Pure
open Go.RowKit Go.Proofs.Ytjagplonneednaa.P Go.Proofs.YtjagplonneednaaW.PrintWords Go.Proofs.YtjagplonneednaaW.PrintLast Go.Proofs.YtjagplonneednaaW.PrintMore
def beN (many : Nat) (n : Int) : List Int := (List.range many).map fun k => n / 2 ^ (8 * (many - 1 - k)) % 256
def u8l (l : List Int) : List UInt8 := l.map fun n => UInt8.ofNat n.toNat
theorem u8l_app (l m : List Int) : u8l (l ++ m) = u8l l ++ u8l m := by unfold u8l; rw [List.map_append]
theorem u8l_len (l : List Int) : (u8l l).length = l.length := by unfold u8l; rw [List.length_map]
theorem B_strN (l : List Int) : B (strOfNums l) = u8l l := rfl
theorem beN_len (many : Nat) (n : Int) : (beN many n).length = many := by unfold beN; rw [List.length_map, List.length_range]
theorem secPut_at (b : List Int) (a : Nat) (n : Int) (many : Nat) (k : Nat) (hk : k ≤ many) (ha : a + k ≤ b.length) : secPut b a n many k = b.take a ++ (beN many n).take k ++ b.drop (a + k) := by
  induction k with
  | zero => rw [List.take_zero, List.append_nil, Nat.add_zero, List.take_append_drop]; rfl
  | succ k ih =>
    have hl : (beN many n).length = many := beN_len many n
    show (secPut b a n many k).set (a + k) _ = _
    rw [ih (by omega) (by omega)]
    have e1 : (b.take a ++ (beN many n).take k).length = a + k := by rw [List.length_append, List.length_take, List.length_take, hl]; omega
    rw [List.set_append_right _ _ (by omega), e1, Nat.sub_self, List.drop_eq_getElem_cons (show a + k < b.length by omega), List.set_cons_zero]
    have e2 : (beN many n).take (k + 1) = (beN many n).take k ++ [n / 2 ^ (8 * (many - 1 - k)) % 256] := by
      rw [List.take_succ_eq_append_getElem (by omega)]
      congr 2
      unfold beN
      rw [List.getElem_map, List.getElem_range]
    rw [e2, show a + (k + 1) = a + k + 1 by omega]
    simp [List.append_assoc]
theorem secPut_eq (b : List Int) (a : Nat) (n : Int) (many : Nat) (ha : a + many ≤ b.length) : secPut b a n many many = b.take a ++ beN many n ++ b.drop (a + many) := by
  rw [secPut_at b a n many many (Nat.le_refl _) ha, List.take_of_length_le (l := beN many n) (by rw [beN_len]; exact Nat.le_refl _)]
theorem or_byte64 (n b : Int) (h0 : 0 ≤ n) (h1 : n < 72057594037927936) (g0 : 0 ≤ b) (g1 : b < 256) : Go.bits .or .u64 (IntKind.u64.wrap (n * 256)) (IntKind.u64.wrap b) = 256 * n + b := by
  obtain ⟨N, rfl⟩ : ∃ N : Nat, n = N := ⟨n.toNat, by omega⟩
  obtain ⟨C, rfl⟩ : ∃ C : Nat, b = C := ⟨b.toNat, by omega⟩
  have e1 : IntKind.u64.wrap ((N : Int) * 256) = ((N <<< 8 : Nat) : Int) := by rw [IntKind.wrap_u64, Nat.shiftLeft_eq]; omega
  have e2 : IntKind.u64.wrap (C : Int) = (C : Int) := by rw [IntKind.wrap_u64]; omega
  have l1 : N <<< 8 < 18446744073709551616 := by rw [Nat.shiftLeft_eq]; omega
  rw [e1, e2, u64_or_nat _ _ l1 (by omega), ← Nat.shiftLeft_add_eq_or_of_lt (by omega), Nat.shiftLeft_eq]
  omega
theorem pow256_le {k m : Nat} (h : k ≤ m) : (256 : Int) ^ k ≤ 256 ^ m := by
  have : (256 : Nat) ^ k ≤ 256 ^ m := Nat.pow_le_pow_right (by omega) h
  have e1 : ((256 ^ k : Nat) : Int) = (256 : Int) ^ k := by rw [Int.natCast_pow]; rfl
  have e2 : ((256 ^ m : Nat) : Int) = (256 : Int) ^ m := by rw [Int.natCast_pow]; rfl
  omega
theorem be_upto (l : List UInt8) (m : Nat) (h : l.length ≤ m) : 0 ≤ be l ∧ be l < 256 ^ m := by
  have := be_lt l
  have := pow256_le h
  omega
theorem be_snoc' (l : List UInt8) (i : Nat) (h : i < l.length) : be (l.take (i + 1)) = 256 * be (l.take i) + (l[i].toNat : Int) := by
  rw [List.take_succ_eq_append_getElem h, be_snoc]
theorem secGet_be (l : List UInt8) (a : Nat) : ∀ k, k ≤ 8 → a + k ≤ l.length → secGet (l.map fun b => (b.toNat : Int)) a k = be ((l.drop a).take k) := by
  intro k
  induction k with
  | zero => intro _ _; rfl
  | succ k ih =>
    intro hk ha
    have hr := be_upto ((l.drop a).take k) 7 (by rw [List.length_take]; omega)
    have hlt : k < (l.drop a).length := by rw [List.length_drop]; omega
    have hb := (l.drop a)[k].toNat_lt
    show Go.bits .or .u64 (IntKind.u64.wrap (secGet _ a k * 256)) (IntKind.u64.wrap ((l.map fun b => (b.toNat : Int)).getD (a + k) 0)) = _
    rw [ih (by omega) (by omega), be_snoc' _ _ hlt]
    have e : (l.map fun b => (b.toNat : Int)).getD (a + k) 0 = (((l.drop a)[k]).toNat : Int) := by
      rw [List.getD_eq_getElem?_getD, List.getElem?_map, List.getElem?_eq_getElem (by omega), List.getElem_drop]
      rfl
    rw [e, or_byte64 _ _ hr.1 (by have := hr.2; omega) (by omega) (by omega)]
theorem be_one (l : List UInt8) : ∀ m : List UInt8, l.length = m.length → be l = be m → l = m := by
  induction h : l.length generalizing l with
  | zero =>
    intro m hm _
    rw [List.eq_nil_of_length_eq_zero h, List.eq_nil_of_length_eq_zero hm.symm]
  | succ n ih =>
    intro m hm he
    have h1 : l ≠ [] := by intro e; rw [e] at h; simp at h
    have h2 : m ≠ [] := by intro e; rw [e] at hm; simp at hm
    obtain ⟨q, b, rfl⟩ : ∃ q b, l = q ++ [b] := ⟨l.dropLast, l.getLast h1, (List.dropLast_concat_getLast h1).symm⟩
    obtain ⟨q', b', rfl⟩ : ∃ q b, m = q ++ [b] := ⟨m.dropLast, m.getLast h2, (List.dropLast_concat_getLast h2).symm⟩
    rw [be_snoc, be_snoc] at he
    have hb := b.toNat_lt
    have hb' := b'.toNat_lt
    have e1 : be q = be q' := by omega
    have e2 : b.toNat = b'.toNat := by omega
    rw [ih q (by simpa using h) q' (by simpa using hm) e1, UInt8.toNat_inj.mp e2]
theorem be_u8l_snoc (l : List Int) (x : Int) (h0 : 0 ≤ x) (h1 : x < 256) : be (u8l (l ++ [x])) = 256 * be (u8l l) + x := by
  rw [u8l_app]
  show be (u8l l ++ [UInt8.ofNat x.toNat]) = _
  rw [be_snoc, u8_of x h0 h1]
theorem beN_succ (many : Nat) (n : Int) : beN (many + 1) n = beN many (n / 256) ++ [n % 256] := by
  unfold beN
  rw [List.range_succ, List.map_append]
  congr 1
  · apply List.map_congr_left
    intro k hk
    have hk' := List.mem_range.1 hk
    have e : (2 : Int) ^ (8 * (many + 1 - 1 - k)) = 256 * 2 ^ (8 * (many - 1 - k)) := by
      rw [show 8 * (many + 1 - 1 - k) = 8 + 8 * (many - 1 - k) by omega, Int.pow_add]
      rfl
    rw [e, ← Int.ediv_ediv_of_nonneg (by omega)]
  · show [n / 2 ^ (8 * (many + 1 - 1 - many)) % 256] = _
    rw [show 8 * (many + 1 - 1 - many) = 0 by omega, Int.pow_zero, Int.ediv_one]
theorem be_beN (many : Nat) : ∀ n : Int, 0 ≤ n → n < 256 ^ many → be (u8l (beN many n)) = n := by
  induction many with
  | zero => intro n h0 h1; have : n = 0 := by simp at h1; omega
            subst this; rfl
  | succ m ih =>
    intro n h0 h1
    rw [Int.pow_succ] at h1
    rw [beN_succ, be_u8l_snoc _ _ (by omega) (by omega), ih (n / 256) (by omega) (by omega)]
    omega
theorem beN_be (l : List UInt8) : u8l (beN l.length (be l)) = l := by
  have h := be_lt l
  exact be_one _ _ (by rw [u8l_len, beN_len]) (be_beN _ _ h.1 h.2)
end Go.Proofs.Ytjagplonneednaa.Pure
end
section
set_option linter.unusedVariables false
set_option linter.unusedSimpArgs false
namespace Go.Proofs.Ytjagplonneednaa.Pure
open Go.RowKit Go.Proofs.Ytjagplonneednaa.P Go.Proofs.YtjagplonneednaaW.PrintWords Go.Proofs.YtjagplonneednaaW.PrintLast Go.Proofs.YtjagplonneednaaW.PrintMore
def pa (l : List S56) (i : Nat) : S56 := l.getD i z56
theorem pa_at (l : List S56) (i : Nat) (h : i < l.length) : pa l i = l[i] := by unfold pa; rw [List.getD_eq_getElem?_getD, List.getElem?_eq_getElem h]; rfl
structure Ok (l : List S56) (i : Nat) : Prop where
  s0 : 0 ≤ (pa l i).f0
  s1 : (pa l i).f0 < 8
  t0 : 1 ≤ (pa l i).f1
  t1 : (pa l i).f1 ≤ 4611686018427387904
  m0 : -1 ≤ (pa l i).f2
  m1 : (pa l i).f2 ≤ 1048576
  last : (pa l i).f2 = -1 → i + 1 = l.length
  up : 0 < i → (pa l (i - 1)).f1 < (pa l i).f1
  other : ∀ j, j < i → ¬ (pa l j).f0 = (pa l i).f0
def AllOk (l : List S56) (i : Nat) : Prop := ∀ j, i ≤ j → j < l.length → Ok l j
theorem allOk_step {l : List S56} {i : Nat} (h : Ok l i) : AllOk l i ↔ AllOk l (i + 1) :=
  ⟨fun a j hj hl => a j (by omega) hl, fun a j hj hl => by
    by_cases e : i = j
    · subst e; exact h
    · exact a j (by omega) hl⟩
open Classical in
noncomputable def rightI (P : Prop) : Int := if P then 0 else 2
theorem rightI_yes {P : Prop} (h : P) : rightI P = 0 := by unfold rightI; exact if_pos h
theorem rightI_no {P : Prop} (h : ¬ P) : rightI P = 2 := by unfold rightI; exact if_neg h
theorem rightI_iff {P Q : Prop} (h : P ↔ Q) : rightI P = rightI Q := by rw [propext h]
theorem rightI_fail {l : List S56} {i : Nat} (hi : i < l.length) (h : ¬ Ok l i) : rightI (AllOk l i) = 2 := rightI_no fun a => h (a i (Nat.le_refl _) hi)
theorem mcheck_ev (l : List S56) (hl : l.length ≤ 8) (d : Nat) : ∀ (i : Nat) (a : Int) (s : List Bool), i + d = l.length → s.length = 8 → a = (if i = 0 then 0 else (pa l (i - 1)).f1) → 0 ≤ a →
    (∀ q : Nat, q < 8 → (s.getD q false = true ↔ ∃ j, j < i ∧ (pa l j).f0 = (q : Int))) → mcheck (l.drop i) a s = rightI (AllOk l i) := by
  induction d with
  | zero =>
    intro i a s hi _ _ _ _
    rw [List.drop_eq_nil_of_le (by omega), rightI_yes (show AllOk l i from fun j h1 h2 => absurd h1 (by omega))]
    rfl
  | succ d ih =>
    intro i a s hi hs ha h0 hseen
    have hlt : i < l.length := by omega
    rw [List.drop_eq_getElem_cons hlt, ← pa_at l i hlt]
    simp only [mcheck]
    by_cases c0 : (pa l i).f0 < 0
    · rw [if_pos c0, rightI_fail hlt (fun o => by have := o.s0; omega)]
    rw [if_neg c0]
    by_cases c1 : (pa l i).f0 ≥ 8
    · rw [if_pos c1, rightI_fail hlt (fun o => by have := o.s1; omega)]
    rw [if_neg c1]
    have hq := hseen (pa l i).f0.toNat (by omega)
    have hqq : ((pa l i).f0.toNat : Int) = (pa l i).f0 := by omega
    rw [hqq] at hq
    by_cases c2 : s.getD (pa l i).f0.toNat false = true
    · rw [if_pos c2, rightI_fail hlt (fun o => by obtain ⟨j, h1, h2⟩ := hq.1 c2; exact o.other j h1 h2)]
    rw [if_neg c2]
    have hother : ∀ j, j < i → ¬ (pa l j).f0 = (pa l i).f0 := fun j h1 h2 => c2 (hq.2 ⟨j, h1, h2⟩)
    have hup : (pa l i).f1 ≤ a ↔ ¬ (1 ≤ (pa l i).f1 ∧ (0 < i → (pa l (i - 1)).f1 < (pa l i).f1)) := by
      by_cases e : i = 0
      · rw [if_pos e] at ha
        constructor
        · rintro h ⟨h1, _⟩; omega
        · intro h
          apply Classical.byContradiction
          intro n
          exact h ⟨by omega, fun z => absurd z (by omega)⟩
      · rw [if_neg e] at ha
        constructor
        · rintro h ⟨_, h2⟩; have := h2 (by omega); omega
        · intro h
          apply Classical.byContradiction
          intro n
          exact h ⟨by omega, fun z => by omega⟩
    by_cases c3 : (pa l i).f1 ≤ a
    · rw [if_pos c3, rightI_fail hlt (fun o => hup.1 c3 ⟨o.t0, o.up⟩)]
    rw [if_neg c3]
    have hu : 1 ≤ (pa l i).f1 ∧ (0 < i → (pa l (i - 1)).f1 < (pa l i).f1) := Classical.byContradiction fun n => c3 (hup.2 n)
    by_cases c4 : (pa l i).f1 > 4611686018427387904
    · rw [if_pos c4, rightI_fail hlt (fun o => by have := o.t1; omega)]
    rw [if_neg c4]
    have hnil : (l.drop (i + 1) = []) ↔ i + 1 = l.length := by
      rw [List.drop_eq_nil_iff]
      omega
    by_cases c5 : (pa l i).f2 < (if l.drop (i + 1) = [] then (-1) else 0)
    · rw [if_pos c5, rightI_fail hlt (fun o => by
        have hm := o.m0
        by_cases e : l.drop (i + 1) = []
        · rw [if_pos e] at c5; omega
        · rw [if_neg e] at c5
          exact e (hnil.2 (o.last (by omega))))]
    rw [if_neg c5]
    have hm : -1 ≤ (pa l i).f2 ∧ ((pa l i).f2 = -1 → i + 1 = l.length) := by
      by_cases e : l.drop (i + 1) = []
      · rw [if_pos e] at c5; exact ⟨by omega, fun _ => hnil.1 e⟩
      · rw [if_neg e] at c5; exact ⟨by omega, fun z => by omega⟩
    by_cases c6 : (pa l i).f2 > 1048576
    · rw [if_pos c6, rightI_fail hlt (fun o => by have := o.m1; omega)]
    rw [if_neg c6]
    have hok : Ok l i := ⟨by omega, by omega, hu.1, by omega, hm.1, by omega, hm.2, hu.2, hother⟩
    rw [rightI_iff (allOk_step hok)]
    refine ih (i + 1) _ _ (by omega) (by rw [List.length_set]; exact hs) (by rw [if_neg (by omega), Nat.add_sub_cancel]) (by omega) (fun q hq8 => ?_)
    by_cases e : (pa l i).f0.toNat = q
    · subst e
      rw [List.getD_eq_getElem?_getD, List.getElem?_set_self (by omega)]
      exact ⟨fun _ => ⟨i, by omega, hqq.symm⟩, fun _ => rfl⟩
    · rw [List.getD_eq_getElem?_getD, List.getElem?_set_ne e, ← List.getD_eq_getElem?_getD, hseen q hq8]
      constructor
      · rintro ⟨j, h1, h2⟩; exact ⟨j, by omega, h2⟩
      · rintro ⟨j, h1, h2⟩
        by_cases ej : j = i
        · subst ej; exact absurd (by omega : (pa l j).f0.toNat = q) e
        · exact ⟨j, by omega, h2⟩
def RightM (e : Int) (l : List S56) : Prop := 1 ≤ e ∧ e ≤ 4611686018427387904 ∧ l.length ≤ 8 ∧ AllOk l 0
theorem checkM_ev (e : Int) (l : List S56) (h0 : 0 ≤ e) : checkM e l = rightI (RightM e l) := by
  unfold checkM
  by_cases c0 : e = 0
  · rw [if_pos c0, rightI_no (fun r => by have := r.1; omega)]
  rw [if_neg c0]
  by_cases c1 : e > 4611686018427387904
  · rw [if_pos c1, rightI_no (fun r => by have := r.2.1; omega)]
  rw [if_neg c1]
  by_cases c2 : (l.length : Int) > 8
  · rw [if_pos c2, rightI_no (fun r => by have := r.2.2.1; omega)]
  rw [if_neg c2]
  have := mcheck_ev l (by omega) l.length 0 0 (List.replicate 8 false) (by omega) (by rw [List.length_replicate]) rfl (by omega) (fun q hq => by
    rw [List.getD_eq_getElem?_getD, List.getElem?_replicate, if_pos hq]
    exact ⟨fun z => absurd z (by decide), fun ⟨j, hj, _⟩ => absurd hj (Nat.not_lt_zero _)⟩)
  rw [List.drop_zero] at this
  rw [this]
  exact rightI_iff ⟨fun a => ⟨by omega, by omega, by omega, a⟩, fun r => r.2.2.2⟩
end Go.Proofs.Ytjagplonneednaa.Pure
end
