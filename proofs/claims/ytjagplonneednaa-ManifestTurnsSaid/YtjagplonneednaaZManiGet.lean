/- What is read of a sector: the program and the document read one manifest, or none. -/
import Derived.Test.YtjagplonneednaaZPx1010
import Derived.Test.YtjagplonneednaaZCrcMath
import Derived.Test.YtjagplonneednaaZManiPut
set_option linter.unusedVariables false
set_option linter.unusedSimpArgs false
namespace Go.Proofs.Ytjagplonneednaa.Pure
open Go.RowKit Go.Proofs.Ytjagplonneednaa.P Go.Proofs.YtjagplonneednaaW.PrintWords Go.Proofs.YtjagplonneednaaW.PrintLast Go.Proofs.YtjagplonneednaaW.PrintMore
def num (s : ByteArray) (a n : Nat) : Int := be (((B s).drop a).take n)
theorem nums8_B (s : ByteArray) : Tools.nums8 s = (B s).map fun b => (b.toNat : Int) := rfl
theorem secGet_num (s : ByteArray) (a n : Nat) (hn : n ≤ 8) (h : a + n ≤ s.size) : secGet (Tools.nums8 s) a n = num s a n := by
  rw [nums8_B]
  exact secGet_be (B s) a n hn (by rw [B_len]; exact h)
theorem num_range (s : ByteArray) (a n : Nat) : 0 ≤ num s a n ∧ num s a n < 256 ^ n := be_upto _ n (by rw [List.length_take]; omega)
theorem toList_iff {s t : ByteArray} : s.toList = t.toList ↔ s = t := by
  rw [toList_B, toList_B]
  exact ⟨B_inj, fun h => by rw [h]⟩
def part (s : ByteArray) (j : Nat) : S56 := ⟨num s (9 + 13 * j) 1, num s (10 + 13 * j) 8, num s (18 + 13 * j) 4 - 1⟩
def parts (s : ByteArray) (n : Nat) : List S56 := (List.range n).map (part s)
theorem parts_len (s : ByteArray) (n : Nat) : (parts s n).length = n := by unfold parts; rw [List.length_map, List.length_range]
theorem parts_pa (s : ByteArray) (n i : Nat) (h : i < n) : pa (parts s n) i = part s i := by
  rw [pa_at _ _ (by rw [parts_len]; exact h)]
  unfold parts
  rw [List.getElem_map, List.getElem_range]
theorem partAt_eq (s : ByteArray) (hs : s.size = 128) (j : Nat) (hj : j < 8) : P.partAt (Tools.nums8 s) j = part s j := by
  unfold P.partAt part
  have h1 := num_range s (9 + 13 * j) 1
  have h2 := num_range s (18 + 13 * j) 4
  rw [secGet_num s _ 1 (by omega) (by omega), secGet_num s _ 8 (by omega) (by omega), secGet_num s _ 4 (by omega) (by omega), show 9 + 13 * j + 1 = 10 + 13 * j by omega, show 10 + 13 * j + 8 = 18 + 13 * j by omega]
  have e1 : wrap64 (num s (9 + 13 * j) 1) = num s (9 + 13 * j) 1 := by unfold wrap64; omega
  have e2 : wrap64 (wrap64 (num s (18 + 13 * j) 4) - 1) = num s (18 + 13 * j) 4 - 1 := by unfold wrap64; omega
  rw [e1, e2]
theorem partsOf_eq (s : ByteArray) (hs : s.size = 128) (n : Nat) (hn : n ≤ 8) : partsOf (Tools.nums8 s) n = parts s n := by
  unfold partsOf parts
  exact List.map_congr_left (fun j hj => partAt_eq s hs j (by have := List.mem_range.1 hj; omega))
noncomputable def many (s : ByteArray) : Nat := (num s 8 1).toNat
def Bears (s : ByteArray) : Prop := many s ≤ 8 ∧ RightM (num s 0 8) (parts s (many s)) ∧ sectorS (num s 0 8) (parts s (many s)) = s
open Classical in
noncomputable def getM (s : ByteArray) : Int × List S56 × Int :=
  if s.size = 128 then
    if num s 0 8 = 0 ∨ num s 0 8 ≠ num s 120 8 then (0, [], 3) else
    if num s 116 4 ≠ crcB ((Tools.nums8 s).take 116) then (0, [], 6) else
    if Bears s then (num s 0 8, parts s (many s), 0) else (0, [], 7)
  else (0, [], 11)
theorem Get_ev (s : ByteArray) : Ev (fun k => manifest_Get.f k s) (getM s) := by
  unfold manifest_Get.f getM
  by_cases hs : s.size = 128
  rotate_left
  · simp only [if_neg hs]
    exact Ev.now _
  simp only [if_pos hs]
  rw [secGet_num s 0 8 (by omega) (by omega), secGet_num s 120 8 (by omega) (by omega), secGet_num s 116 4 (by omega) (by omega), secGet_num s 8 1 (by omega) (by omega)]
  by_cases c0 : num s 0 8 = 0
  · simp only [if_pos c0, if_pos (Or.inl c0 : num s 0 8 = 0 ∨ num s 0 8 ≠ num s 120 8)]
    exact Ev.now _
  by_cases c1 : num s 0 8 ≠ num s 120 8
  · simp only [if_neg c0, if_pos c1, if_pos (Or.inr c1 : num s 0 8 = 0 ∨ num s 0 8 ≠ num s 120 8)]
    exact Ev.now _
  simp only [if_neg c0, if_neg c1, if_neg (fun z => z.elim c0 c1 : ¬ (num s 0 8 = 0 ∨ num s 0 8 ≠ num s 120 8))]
  refine Ev.bind (Of_ev (strOfNums ((Tools.nums8 s).take 116)) (by rw [strOfNums_size, List.length_take]; omega)) ?_
  have hc : I (CrcMath.of (B (strOfNums ((Tools.nums8 s).take 116)))) = crcB ((Tools.nums8 s).take 116) := rfl
  have hr := crcB_range ((Tools.nums8 s).take 116)
  have hw : IntKind.u64.wrap (crcB ((Tools.nums8 s).take 116)) = crcB ((Tools.nums8 s).take 116) := by rw [IntKind.wrap_u64]; omega
  rw [hc, hw]
  by_cases c2 : num s 116 4 ≠ crcB ((Tools.nums8 s).take 116)
  · simp only [if_pos c2]
    exact Ev.now _
  simp only [if_neg c2]
  have hm := num_range s 8 1
  by_cases c3 : num s 8 1 > 8
  · simp only [if_pos c3, if_neg (show ¬ Bears s from fun b => by have := b.1; unfold many at this; omega)]
    exact Ev.now _
  have hmany : (num s 8 1).toNat = many s := rfl
  have h8 : many s ≤ 8 := by unfold many; omega
  simp only [if_neg c3, if_neg (show ¬ num s 8 1 < 0 by omega), hmany, partsOf_eq s hs (many s) h8, checkM_ev (num s 0 8) (parts s (many s)) (num_range s 0 8).1]
  by_cases c4 : RightM (num s 0 8) (parts s (many s))
  · simp only [rightI_yes c4, ne_eq, not_true_eq_false, if_false]
    refine Ev.bind (written_ev _ _ (by rw [parts_len]; exact h8) (fit_of c4.2.2.2)) ?_
    by_cases c5 : sectorS (num s 0 8) (parts s (many s)) = s
    · have e5 : (sectorS (num s 0 8) (parts s (many s))).toList = s.toList := by rw [c5]
      simp only [e5, not_true_eq_false, if_false, if_pos (show Bears s from ⟨h8, c4, c5⟩)]
      exact Ev.now _
    · simp only [if_pos (show ¬ (sectorS (num s 0 8) (parts s (many s))).toList = s.toList from fun z => c5 (toList_iff.1 z)), if_neg (show ¬ Bears s from fun b => c5 b.2.2)]
      exact Ev.now _
  · simp only [rightI_no c4, if_neg (show ¬ Bears s from fun b => c4 b.2.1)]
    exact Ev.now _
end Go.Proofs.Ytjagplonneednaa.Pure
