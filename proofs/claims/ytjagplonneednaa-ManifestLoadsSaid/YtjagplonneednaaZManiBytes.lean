/- Numbers as so many bytes, the greatest first: as a sector at work writes and reads them, and as the document does. -/
import Derived.Test.YtjagplonneednaaZPx1043
import Derived.Test.YtjagplonneednaaZPx30025
import Derived.Test.YtjagplonneednaaZCrcEv2
set_option linter.unusedVariables false
set_option linter.unusedSimpArgs false
namespace Go.Proofs.Ytjagplonneednaa.Pure
open Go.RowKit Go.Proofs.Ytjagplonneednaa.P Go.Proofs.YtjagplonneednaaW.PrintWords Go.Proofs.YtjagplonneednaaW.PrintLast Go.Proofs.YtjagplonneednaaW.PrintMore
def beN (many : Nat) (n : Int) : List Int := (List.range many).map fun k => n / 2 ^ (8 * (many - 1 - k)) % 256
def u8l (l : List Int) : List UInt8 := l.map fun n => UInt8.ofNat n.toNat
theorem u8l_app (l m : List Int) : u8l (l ++ m) = u8l l ++ u8l m := by unfold u8l; rw [List.map_append]
theorem B_strN (l : List Int) : B (strOfNums l) = u8l l := rfl
theorem beN_len (many : Nat) (n : Int) : (beN many n).length = many := by unfold beN; rw [List.length_map, List.length_range]
theorem secPut_at (b : List Int) (a : Nat) (n : Int) (many : Nat) (k : Nat) (hk : k ≤ many) (ha : a + k ≤ b.length) : secPut b a n many k = b.take a ++ (beN many n).take k ++ b.drop (a + k) := by
  induction k with
  | zero => rw [List.take_zero, List.append_nil, Nat.add_zero, List.take_append_drop]; rfl
  | succ k ih =>
    have hl : (beN many n).length = many := beN_len many n
    show (secPut b a n many k).set (a + k) _ = _
    rw [ih (by omega) (by omega)]
    have e1 : (b.take a ++ (beN many n).take k).length = a + k := by rw [List.length_append, List.length_take, List.length_take, hl]; omega
    rw [List.set_append_right _ _ (by omega), e1, Nat.sub_self, List.drop_eq_getElem_cons (show a + k < b.length by omega), List.set_cons_zero]
    have e2 : (beN many n).take (k + 1) = (beN many n).take k ++ [n / 2 ^ (8 * (many - 1 - k)) % 256] := by
      rw [List.take_succ_eq_append_getElem (by omega)]
      congr 2
      unfold beN
      rw [List.getElem_map, List.getElem_range]
    rw [e2, show a + (k + 1) = a + k + 1 by omega]
    simp [List.append_assoc]
theorem secPut_eq (b : List Int) (a : Nat) (n : Int) (many : Nat) (ha : a + many ≤ b.length) : secPut b a n many many = b.take a ++ beN many n ++ b.drop (a + many) := by
  rw [secPut_at b a n many many (Nat.le_refl _) ha, List.take_of_length_le (l := beN many n) (by rw [beN_len]; exact Nat.le_refl _)]
theorem or_byte64 (n b : Int) (h0 : 0 ≤ n) (h1 : n < 72057594037927936) (g0 : 0 ≤ b) (g1 : b < 256) : Go.bits .or .u64 (IntKind.u64.wrap (n * 256)) (IntKind.u64.wrap b) = 256 * n + b := by
  obtain ⟨N, rfl⟩ : ∃ N : Nat, n = N := ⟨n.toNat, by omega⟩
  obtain ⟨C, rfl⟩ : ∃ C : Nat, b = C := ⟨b.toNat, by omega⟩
  have e1 : IntKind.u64.wrap ((N : Int) * 256) = ((N <<< 8 : Nat) : Int) := by rw [IntKind.wrap_u64, Nat.shiftLeft_eq]; omega
  have e2 : IntKind.u64.wrap (C : Int) = (C : Int) := by rw [IntKind.wrap_u64]; omega
  have l1 : N <<< 8 < 18446744073709551616 := by rw [Nat.shiftLeft_eq]; omega
  rw [e1, e2, u64_or_nat _ _ l1 (by omega), ← Nat.shiftLeft_add_eq_or_of_lt (by omega), Nat.shiftLeft_eq]
  omega
theorem pow256_le {k m : Nat} (h : k ≤ m) : (256 : Int) ^ k ≤ 256 ^ m := by
  have : (256 : Nat) ^ k ≤ 256 ^ m := Nat.pow_le_pow_right (by omega) h
  have e1 : ((256 ^ k : Nat) : Int) = (256 : Int) ^ k := by rw [Int.natCast_pow]; rfl
  have e2 : ((256 ^ m : Nat) : Int) = (256 : Int) ^ m := by rw [Int.natCast_pow]; rfl
  omega
theorem be_upto (l : List UInt8) (m : Nat) (h : l.length ≤ m) : 0 ≤ be l ∧ be l < 256 ^ m := by
  have := be_lt l
  have := pow256_le h
  omega
theorem be_snoc' (l : List UInt8) (i : Nat) (h : i < l.length) : be (l.take (i + 1)) = 256 * be (l.take i) + (l[i].toNat : Int) := by
  rw [List.take_succ_eq_append_getElem h, be_snoc]
theorem secGet_be (l : List UInt8) (a : Nat) : ∀ k, k ≤ 8 → a + k ≤ l.length → secGet (l.map fun b => (b.toNat : Int)) a k = be ((l.drop a).take k) := by
  intro k
  induction k with
  | zero => intro _ _; rfl
  | succ k ih =>
    intro hk ha
    have hr := be_upto ((l.drop a).take k) 7 (by rw [List.length_take]; omega)
    have hlt : k < (l.drop a).length := by rw [List.length_drop]; omega
    have hb := (l.drop a)[k].toNat_lt
    show Go.bits .or .u64 (IntKind.u64.wrap (secGet _ a k * 256)) (IntKind.u64.wrap ((l.map fun b => (b.toNat : Int)).getD (a + k) 0)) = _
    rw [ih (by omega) (by omega), be_snoc' _ _ hlt]
    have e : (l.map fun b => (b.toNat : Int)).getD (a + k) 0 = (((l.drop a)[k]).toNat : Int) := by
      rw [List.getD_eq_getElem?_getD, List.getElem?_map, List.getElem?_eq_getElem (by omega), List.getElem_drop]
      rfl
    rw [e, or_byte64 _ _ hr.1 (by have := hr.2; omega) (by omega) (by omega)]
theorem be_one (l : List UInt8) : ∀ m : List UInt8, l.length = m.length → be l = be m → l = m := by
  induction h : l.length generalizing l with
  | zero =>
    intro m hm _
    rw [List.eq_nil_of_length_eq_zero h, List.eq_nil_of_length_eq_zero hm.symm]
  | succ n ih =>
    intro m hm he
    have h1 : l ≠ [] := by intro e; rw [e] at h; simp at h
    have h2 : m ≠ [] := by intro e; rw [e] at hm; simp at hm
    obtain ⟨q, b, rfl⟩ : ∃ q b, l = q ++ [b] := ⟨l.dropLast, l.getLast h1, (List.dropLast_concat_getLast h1).symm⟩
    obtain ⟨q', b', rfl⟩ : ∃ q b, m = q ++ [b] := ⟨m.dropLast, m.getLast h2, (List.dropLast_concat_getLast h2).symm⟩
    rw [be_snoc, be_snoc] at he
    have hb := b.toNat_lt
    have hb' := b'.toNat_lt
    have e1 : be q = be q' := by omega
    have e2 : b.toNat = b'.toNat := by omega
    rw [ih q (by simpa using h) q' (by simpa using hm) e1, UInt8.toNat_inj.mp e2]
theorem beN_succ (many : Nat) (n : Int) : beN (many + 1) n = beN many (n / 256) ++ [n % 256] := by
  unfold beN
  rw [List.range_succ, List.map_append]
  congr 1
  · apply List.map_congr_left
    intro k hk
    have hk' := List.mem_range.1 hk
    have e : (2 : Int) ^ (8 * (many + 1 - 1 - k)) = 256 * 2 ^ (8 * (many - 1 - k)) := by
      rw [show 8 * (many + 1 - 1 - k) = 8 + 8 * (many - 1 - k) by omega, Int.pow_add]
      rfl
    rw [e, ← Int.ediv_ediv_of_nonneg (by omega)]
  · show [n / 2 ^ (8 * (many + 1 - 1 - many)) % 256] = _
    rw [show 8 * (many + 1 - 1 - many) = 0 by omega, Int.pow_zero, Int.ediv_one]
theorem Eight_l0 (N : Int) : ∀ (i : Nat) (n : Int) (t : List Int), i + t.length = 8 → 0 ≤ n → n < 18446744073709551616 → beN i n ++ t = beN 8 N → Ev (fun k => spoorref05_Eight.l0 k n (List.replicate i 0 ++ t) ((i : Int) - 1)) (strOfNums (beN 8 N)) := by
  intro i
  induction i with
  | zero =>
    intro n t hl h0 h1 he
    refine Ev.step (f := fun _ => some (strOfNums (beN 8 N))) (fun k => ?_) (Ev.now _)
    simp only [spoorref05_Eight.l0]
    rw [if_neg (by omega), ← he]
    rfl
  | succ i ih =>
    intro n t hl h0 h1 he
    have := ih (n / 256) ((n % 256) :: t) (by rw [List.length_cons]; omega) (by omega) (by omega) (by rw [← he, beN_succ]; simp [List.append_assoc])
    refine Ev.step (fun k => ?_) this
    simp only [spoorref05_Eight.l0]
    have e1 : (((i + 1 : Nat) : Int) - 1) = (i : Int) := by omega
    have e2 : IntKind.u64.wrap (Int.tdiv n 256) = n / 256 := by rw [Int.tdiv_eq_ediv_of_nonneg h0, IntKind.wrap_u64]; omega
    have e3 : Int.tmod n 256 % 256 = n % 256 := by rw [Int.tmod_eq_emod_of_nonneg h0]; omega
    have e4 : wrap64 ((i : Int) - 1) = (i : Int) - 1 := by unfold wrap64; omega
    have e5 : (List.replicate (i + 1) (0 : Int) ++ t).set i (n % 256) = List.replicate i 0 ++ (n % 256) :: t := by
      rw [List.replicate_succ', List.append_assoc, List.set_append_right _ _ (by rw [List.length_replicate]; exact Nat.le_refl _), List.length_replicate, Nat.sub_self]
      rfl
    have e6 : (i : Int) < ((List.replicate (i + 1) (0 : Int) ++ t).length : Int) := by rw [List.length_append, List.length_replicate]; omega
    rw [e1, if_pos (by omega), if_pos (by omega), if_pos e6, e2, e3, e4, Int.toNat_natCast, e5]
theorem Eight_ev (n : Int) (h0 : 0 ≤ n) (h1 : n < 18446744073709551616) : Ev (fun k => spoorref05_Eight.f k n) (strOfNums (beN 8 n)) := by
  unfold spoorref05_Eight.f
  simp only [if_pos (show (8 : Nat) ≤ 281474976710656 by omega)]
  have := Eight_l0 n 8 n [] rfl h0 h1 (by rw [List.append_nil])
  rw [List.append_nil] at this
  exact this
theorem Number_l0 (s : ByteArray) (hs : s.size ≤ 8) (d : Nat) : ∀ i : Nat, i + d = s.size → Ev (fun k => spoorref05_Number.l0 k s (be ((B s).take i)) i) (be (B s)) := by
  induction d with
  | zero =>
    intro i hi
    refine Ev.step (f := fun _ => some (be (B s))) (fun k => ?_) (Ev.now _)
    simp only [spoorref05_Number.l0]
    rw [if_neg (by omega), List.take_of_length_le (by rw [B_len]; omega)]
  | succ d ih =>
    intro i hi
    refine Ev.step (fun k => ?_) (ih (i + 1) (by omega))
    have hr := be_upto ((B s).take i) 7 (by rw [List.length_take]; omega)
    have hb := bt_range s i
    have hr2 : be ((B s).take i) < 72057594037927936 := hr.2
    simp only [spoorref05_Number.l0]
    rw [if_pos (by omega), if_pos (by omega), wrap_up i (by omega), be_take s i (by omega)]
    have e : IntKind.u64.wrap (IntKind.u64.wrap (256 * be ((B s).take i)) + IntKind.u64.wrap (bt s (i : Int))) = 256 * be ((B s).take i) + bt s (i : Int) := by
      simp only [IntKind.wrap_u64]
      omega
    rw [e]
theorem Number_ev (s : ByteArray) (hs : s.size ≤ 8) : Ev (fun k => spoorref05_Number.f k s) (be (B s)) := Number_l0 s hs s.size 0 (by omega)
end Go.Proofs.Ytjagplonneednaa.Pure
