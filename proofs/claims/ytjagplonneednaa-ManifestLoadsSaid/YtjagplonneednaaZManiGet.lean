/- What is read of a sector: the program and the document read one manifest, or none. -/
import Derived.Test.YtjagplonneednaaZPx1010
import Derived.Test.YtjagplonneednaaZPx1011
import Derived.Test.YtjagplonneednaaZManiPut
set_option linter.unusedVariables false
set_option linter.unusedSimpArgs false
namespace Go.Proofs.Ytjagplonneednaa.Pure
open Go.RowKit Go.Proofs.Ytjagplonneednaa.P Go.Proofs.YtjagplonneednaaW.PrintWords Go.Proofs.YtjagplonneednaaW.PrintLast Go.Proofs.YtjagplonneednaaW.PrintMore
def num (s : ByteArray) (a n : Nat) : Int := be (((B s).drop a).take n)
theorem nums8_B (s : ByteArray) : Tools.nums8 s = (B s).map fun b => (b.toNat : Int) := rfl
theorem secGet_num (s : ByteArray) (a n : Nat) (hn : n ≤ 8) (h : a + n ≤ s.size) : secGet (Tools.nums8 s) a n = num s a n := by
  rw [nums8_B]
  exact secGet_be (B s) a n hn (by rw [B_len]; exact h)
theorem num_range (s : ByteArray) (a n : Nat) : 0 ≤ num s a n ∧ num s a n < 256 ^ n := be_upto _ n (by rw [List.length_take]; omega)
theorem num_extract (s : ByteArray) (a b : Nat) (h : a ≤ b) : be (B (s.extract a b)) = num s a (b - a) := by
  unfold num
  rw [B_extract, List.drop_take]
theorem nums8_str (s : ByteArray) : strOfNums (Tools.nums8 s) = s := by
  apply B_inj
  rw [B_strN, nums8_B]
  unfold u8l
  rw [List.map_map]
  have : ((fun n : Int => UInt8.ofNat n.toNat) ∘ fun b : UInt8 => (b.toNat : Int)) = id := by
    funext b
    show UInt8.ofNat ((b.toNat : Int).toNat) = b
    rw [Int.toNat_natCast]
    exact UInt8.ofNat_toNat
  rw [this, List.map_id]
theorem str_take (l : List Int) (n : Nat) : strOfNums (l.take n) = (strOfNums l).extract 0 n := by
  apply B_inj
  rw [B_extract, B_strN, B_strN, List.drop_zero]
  unfold u8l
  rw [List.map_take]
theorem B_eq_num {s t : ByteArray} (a b a' b' : Nat) (h : a ≤ b) (h' : a' ≤ b') (hs : b ≤ s.size) (ht : b' ≤ t.size) (he : b - a = b' - a') : s.extract a b = t.extract a' b' ↔ num s a (b - a) = num t a' (b' - a') := by
  rw [← num_extract s a b h, ← num_extract t a' b' h']
  constructor
  · intro e; rw [e]
  · intro e
    refine B_inj (be_one _ _ ?_ e)
    rw [B_len, B_len, ByteArray.size_extract, ByteArray.size_extract]
    omega
theorem toList_iff {s t : ByteArray} : s.toList = t.toList ↔ s = t := by
  rw [toList_B, toList_B]
  exact ⟨B_inj, fun h => by rw [h]⟩
def part (s : ByteArray) (j : Nat) : S56 := ⟨num s (9 + 13 * j) 1, num s (10 + 13 * j) 8, num s (18 + 13 * j) 4 - 1⟩
def parts (s : ByteArray) (n : Nat) : List S56 := (List.range n).map (part s)
theorem parts_len (s : ByteArray) (n : Nat) : (parts s n).length = n := by unfold parts; rw [List.length_map, List.length_range]
theorem parts_pa (s : ByteArray) (n i : Nat) (h : i < n) : pa (parts s n) i = part s i := by
  rw [pa_at _ _ (by rw [parts_len]; exact h)]
  unfold parts
  rw [List.getElem_map, List.getElem_range]
theorem partAt_eq (s : ByteArray) (hs : s.size = 128) (j : Nat) (hj : j < 8) : P.partAt (Tools.nums8 s) j = part s j := by
  unfold P.partAt part
  have h1 := num_range s (9 + 13 * j) 1
  have h2 := num_range s (18 + 13 * j) 4
  rw [secGet_num s _ 1 (by omega) (by omega), secGet_num s _ 8 (by omega) (by omega), secGet_num s _ 4 (by omega) (by omega), show 9 + 13 * j + 1 = 10 + 13 * j by omega, show 10 + 13 * j + 8 = 18 + 13 * j by omega]
  have e1 : wrap64 (num s (9 + 13 * j) 1) = num s (9 + 13 * j) 1 := by unfold wrap64; omega
  have e2 : wrap64 (wrap64 (num s (18 + 13 * j) 4) - 1) = num s (18 + 13 * j) 4 - 1 := by unfold wrap64; omega
  rw [e1, e2]
theorem partsOf_eq (s : ByteArray) (hs : s.size = 128) (n : Nat) (hn : n ≤ 8) : partsOf (Tools.nums8 s) n = parts s n := by
  unfold partsOf parts
  exact List.map_congr_left (fun j hj => partAt_eq s hs j (by have := List.mem_range.1 hj; omega))
theorem parts_succ (s : ByteArray) (n : Nat) : parts s (n + 1) = parts s n ++ [part s n] := by unfold parts; rw [List.range_succ, List.map_append]; rfl
noncomputable def many (s : ByteArray) : Nat := (num s 8 1).toNat
def Bears (s : ByteArray) : Prop := many s ≤ 8 ∧ RightM (num s 0 8) (parts s (many s)) ∧ sectorS (num s 0 8) (parts s (many s)) = s
open Classical in
noncomputable def getM (s : ByteArray) : Int × List S56 × Int :=
  if s.size = 128 then
    if num s 0 8 = 0 ∨ num s 0 8 ≠ num s 120 8 then (0, [], 3) else
    if num s 116 4 ≠ crcB ((Tools.nums8 s).take 116) then (0, [], 6) else
    if Bears s then (num s 0 8, parts s (many s), 0) else (0, [], 7)
  else (0, [], 11)
theorem byte8 (s : ByteArray) (hs : s.size = 128) : bt s 8 = num s 8 1 := by
  have h8 : 8 < (B s).length := by rw [B_len]; omega
  have := bt_B s 8 (by omega)
  unfold num
  rw [List.drop_eq_getElem_cons h8, List.take_succ_cons, List.take_zero]
  rw [show be [(B s)[8]] = ((B s)[8].toNat : Int) from by show 256 * 0 + _ = _; omega]
  exact this
theorem Get_ev (s : ByteArray) : Ev (fun k => manifest_Get.f k s) (getM s) := by
  unfold manifest_Get.f getM
  by_cases hs : s.size = 128
  rotate_left
  · simp only [if_neg hs]
    exact Ev.now _
  simp only [if_pos hs]
  rw [secGet_num s 0 8 (by omega) (by omega), secGet_num s 120 8 (by omega) (by omega), secGet_num s 116 4 (by omega) (by omega), secGet_num s 8 1 (by omega) (by omega)]
  by_cases c0 : num s 0 8 = 0
  · simp only [if_pos c0, if_pos (Or.inl c0 : num s 0 8 = 0 ∨ num s 0 8 ≠ num s 120 8)]
    exact Ev.now _
  by_cases c1 : num s 0 8 ≠ num s 120 8
  · simp only [if_neg c0, if_pos c1, if_pos (Or.inr c1 : num s 0 8 = 0 ∨ num s 0 8 ≠ num s 120 8)]
    exact Ev.now _
  simp only [if_neg c0, if_neg c1, if_neg (fun z => z.elim c0 c1 : ¬ (num s 0 8 = 0 ∨ num s 0 8 ≠ num s 120 8))]
  refine Ev.bind (Of_ev (strOfNums ((Tools.nums8 s).take 116)) (by rw [strOfNums_size, List.length_take]; omega)) ?_
  have hc : I (CrcMath.of (B (strOfNums ((Tools.nums8 s).take 116)))) = crcB ((Tools.nums8 s).take 116) := rfl
  have hr := crcB_range ((Tools.nums8 s).take 116)
  have hw : IntKind.u64.wrap (crcB ((Tools.nums8 s).take 116)) = crcB ((Tools.nums8 s).take 116) := by rw [IntKind.wrap_u64]; omega
  rw [hc, hw]
  by_cases c2 : num s 116 4 ≠ crcB ((Tools.nums8 s).take 116)
  · simp only [if_pos c2]
    exact Ev.now _
  simp only [if_neg c2]
  have hm := num_range s 8 1
  by_cases c3 : num s 8 1 > 8
  · simp only [if_pos c3, if_neg (show ¬ Bears s from fun b => by have := b.1; unfold many at this; omega)]
    exact Ev.now _
  have hmany : (num s 8 1).toNat = many s := rfl
  have h8 : many s ≤ 8 := by unfold many; omega
  simp only [if_neg c3, if_neg (show ¬ num s 8 1 < 0 by omega), hmany, partsOf_eq s hs (many s) h8, checkM_ev (num s 0 8) (parts s (many s)) (num_range s 0 8).1]
  by_cases c4 : RightM (num s 0 8) (parts s (many s))
  · simp only [rightI_yes c4, ne_eq, not_true_eq_false, if_false]
    refine Ev.bind (written_ev _ _ (by rw [parts_len]; exact h8) (fit_of c4.2.2.2)) ?_
    by_cases c5 : sectorS (num s 0 8) (parts s (many s)) = s
    · have e5 : (sectorS (num s 0 8) (parts s (many s))).toList = s.toList := by rw [c5]
      simp only [e5, not_true_eq_false, if_false, if_pos (show Bears s from ⟨h8, c4, c5⟩)]
      exact Ev.now _
    · simp only [if_pos (show ¬ (sectorS (num s 0 8) (parts s (many s))).toList = s.toList from fun z => c5 (toList_iff.1 z)), if_neg (show ¬ Bears s from fun b => c5 b.2.2)]
      exact Ev.now _
  · simp only [rightI_no c4, if_neg (show ¬ Bears s from fun b => c4 b.2.1)]
    exact Ev.now _
theorem rparts_ev (s : ByteArray) (hs : s.size = 128) (n : Nat) (hn : n ≤ 8) (d : Nat) : ∀ i : Nat, i + d = n →
    (∃ o, Ev (fun k => rparts k s d i (parts s i)) o ∧ (o = some (parts s n) ∨ o = none ∧ ¬ AllOk (parts s n) 0)) := by
  induction d with
  | zero =>
    intro i hi
    obtain rfl : i = n := by omega
    exact ⟨some (parts s i), Ev.congr (fun _ => rfl) (Ev.now _), .inl rfl⟩
  | succ d ih =>
    intro i hi
    have hsz : (s.extract (9 + 13 * i) (9 + 13 * i + 13)).size = 13 := by rw [ByteArray.size_extract]; omega
    have hnum : ∀ a b, a ≤ b → b ≤ 13 → be (B ((s.extract (9 + 13 * i) (9 + 13 * i + 13)).extract a b)) = num s (9 + 13 * i + a) (b - a) := by
      intro a b hab hb
      rw [num_extract _ a b hab]
      unfold num
      rw [B_extract, List.drop_take, Nat.add_sub_cancel_left, List.drop_take, List.drop_drop, List.take_take]
      congr 2
      omega
    have hb0 : bt (s.extract (9 + 13 * i) (9 + 13 * i + 13)) 0 = num s (9 + 13 * i) 1 := by
      have h0 : 0 < (B (s.extract (9 + 13 * i) (9 + 13 * i + 13))).length := by rw [B_len]; omega
      have h1 := bt_B (s.extract (9 + 13 * i) (9 + 13 * i + 13)) 0 (by omega)
      have h2 := hnum 0 1 (by omega) (by omega)
      rw [B_extract, List.drop_zero, List.take_succ_eq_append_getElem h0, List.take_zero, List.nil_append] at h2
      have h3 : be [(B (s.extract (9 + 13 * i) (9 + 13 * i + 13)))[0]] = ((B (s.extract (9 + 13 * i) (9 + 13 * i + 13)))[0].toNat : Int) := by
        show 256 * 0 + _ = _
        omega
      rw [h3] at h2
      exact h1.trans h2
    have hq := num_range s (18 + 13 * i) 4
    have ev1 : Ev (fun k => spoorref05_Number.f k ((s.extract (9 + 13 * i) (9 + 13 * i + 13)).extract 9 13)) (num s (18 + 13 * i) 4) := by
      have := Number_ev ((s.extract (9 + 13 * i) (9 + 13 * i + 13)).extract 9 13) (by rw [ByteArray.size_extract]; omega)
      rw [hnum 9 13 (by omega) (by omega), show 9 + 13 * i + 9 = 18 + 13 * i by omega] at this
      exact this
    have ev2 : Ev (fun k => spoorref05_Number.f k ((s.extract (9 + 13 * i) (9 + 13 * i + 13)).extract 1 9)) (num s (10 + 13 * i) 8) := by
      have := Number_ev ((s.extract (9 + 13 * i) (9 + 13 * i + 13)).extract 1 9) (by rw [ByteArray.size_extract]; omega)
      rw [hnum 1 9 (by omega) (by omega), show 9 + 13 * i + 1 = 10 + 13 * i by omega] at this
      exact this
    by_cases c : num s (18 + 13 * i) 4 > 1048577
    · refine ⟨none, ?_, .inr ⟨rfl, fun a => ?_⟩⟩
      · refine Ev.congr (fun k => by rw [rparts]) (Ev.bind ev1 ?_)
        simp only [if_pos c]
        exact Ev.now _
      · have := (a i (Nat.zero_le _) (by rw [parts_len]; omega)).m1
        rw [parts_pa s n i (by omega)] at this
        have e : (part s i).f2 = num s (18 + 13 * i) 4 - 1 := rfl
        omega
    · obtain ⟨o, ho, hoo⟩ := ih (i + 1) (by omega)
      refine ⟨o, ?_, hoo⟩
      refine Ev.congr (fun k => by rw [rparts]) (Ev.bind ev1 ?_)
      simp only [if_neg c]
      refine Ev.bind ev2 ?_
      have e2 : wrap64 (wrap64 (num s (18 + 13 * i) 4) - 1) = num s (18 + 13 * i) 4 - 1 := by unfold wrap64; omega
      have hr1 := num_range s (9 + 13 * i) 1
      have e1 : wrap64 (num s (9 + 13 * i) 1) = num s (9 + 13 * i) 1 := by unfold wrap64; omega
      rw [hb0, e1, e2]
      rw [parts_succ] at ho
      exact ho
theorem RGet_ev (s : ByteArray) : Ev (fun k => spoorref06_Get.f k s) (getM s) := by
  unfold spoorref06_Get.f getM
  by_cases hs : s.size = 128
  rotate_left
  · simp only [if_neg hs]
    exact Ev.now _
  simp only [if_pos hs]
  have hE := num_extract s 0 8 (by omega)
  refine Ev.bind (Number_ev (s.extract 0 8) (by rw [ByteArray.size_extract]; omega)) ?_
  rw [hE]
  show Ev _ _
  have hl : (s.extract 0 8).toList = (s.extract 120 128).toList ↔ num s 0 8 = num s 120 8 := by
    rw [toList_iff]
    exact B_eq_num 0 8 120 128 (by omega) (by omega) (by omega) (by omega) (by omega)
  by_cases c1 : (s.extract 0 8).toList ≠ (s.extract 120 128).toList
  · simp only [if_pos c1, if_pos (Or.inr (fun z => c1 (hl.2 z)) : num s 0 8 = 0 ∨ num s 0 8 ≠ num s 120 8)]
    exact Ev.now _
  have c1' : num s 0 8 = num s 120 8 := hl.1 (Decidable.byContradiction c1)
  by_cases c0 : num s 0 (8 - 0) = 0
  · simp only [if_neg c1, if_pos c0, if_pos (Or.inl c0 : num s 0 8 = 0 ∨ num s 0 8 ≠ num s 120 8)]
    exact Ev.now _
  simp only [if_neg c1, if_neg c0, if_neg (fun z => z.elim c0 (fun y => y c1') : ¬ (num s 0 8 = 0 ∨ num s 0 8 ≠ num s 120 8))]
  refine Ev.bind (ROf_ev (s.extract 0 116) (by rw [ByteArray.size_extract]; omega)) ?_
  have hc : I (CrcMath.of (B (s.extract 0 116))) = crcB ((Tools.nums8 s).take 116) := by
    have : s.extract 0 116 = strOfNums ((Tools.nums8 s).take 116) := by rw [str_take, nums8_str]
    rw [this]
    rfl
  have hr := crcB_range ((Tools.nums8 s).take 116)
  rw [hc]
  simp only [RText_f _ hr.1 hr.2, Option.bind_some]
  have ht : (text4 (crcB ((Tools.nums8 s).take 116))).toList = (s.extract 116 120).toList ↔ ¬ num s 116 4 ≠ crcB ((Tools.nums8 s).take 116) := by
    rw [toList_iff]
    have h4 : (s.extract 116 120).size = 4 := by rw [ByteArray.size_extract]; omega
    have hn := num_extract s 116 120 (by omega)
    constructor
    · intro e z
      apply z
      show num s 116 (120 - 116) = _
      rw [← hn, ← e, be_text4 _ hr.1 hr.2]
    · intro z
      have z' : num s 116 4 = crcB ((Tools.nums8 s).take 116) := Decidable.byContradiction z
      rw [← z', show num s 116 4 = num s 116 (120 - 116) from rfl, ← hn]
      exact text4_be h4
  by_cases c2 : num s 116 4 ≠ crcB ((Tools.nums8 s).take 116)
  · simp only [if_pos c2, if_pos (show (text4 (crcB ((Tools.nums8 s).take 116))).toList ≠ (s.extract 116 120).toList from fun z => ht.1 z c2)]
    exact Ev.now _
  simp only [if_neg c2, if_neg (show ¬ (text4 (crcB ((Tools.nums8 s).take 116))).toList ≠ (s.extract 116 120).toList from fun z => z (ht.2 c2)), byte8 s hs]
  have hm := num_range s 8 1
  by_cases c3 : num s 8 1 > 8
  · simp only [if_pos c3, if_neg (show ¬ Bears s from fun b => by have := b.1; unfold many at this; omega)]
    exact Ev.now _
  have hmany : (num s 8 1).toNat = many s := rfl
  have h8 : many s ≤ 8 := by unfold many; omega
  simp only [if_neg c3, hmany]
  obtain ⟨o, ho, hoo⟩ := rparts_ev s hs (many s) h8 (many s) 0 (by omega)
  refine Ev.bind ho ?_
  rcases hoo with rfl | ⟨rfl, hno⟩
  · by_cases c4 : RightM (num s 0 8) (parts s (many s))
    · refine Ev.bind (RPut_yes c4) ?_
      by_cases c5 : sectorS (num s 0 8) (parts s (many s)) = s
      · have e5 : (sectorS (num s 0 8) (parts s (many s))).toList = s.toList := by rw [c5]
        simp only [ne_eq, not_true_eq_false, if_false, e5, if_pos (show Bears s from ⟨h8, c4, c5⟩)]
        exact Ev.now _
      · simp only [ne_eq, not_true_eq_false, if_false, if_pos (show ¬ (sectorS (num s 0 8) (parts s (many s))).toList = s.toList from fun z => c5 (toList_iff.1 z)), if_neg (show ¬ Bears s from fun b => c5 b.2.2)]
        exact Ev.now _
    · refine Ev.bind (RPut_no (by rw [parts_len]; omega) c4) ?_
      simp only [if_neg (show ¬ Bears s from fun b => c4 b.2.1)]
      exact Ev.now _
  · simp only [if_neg (show ¬ Bears s from fun b => hno b.2.1.2.2.2)]
    exact Ev.now _
end Go.Proofs.Ytjagplonneednaa.Pure
