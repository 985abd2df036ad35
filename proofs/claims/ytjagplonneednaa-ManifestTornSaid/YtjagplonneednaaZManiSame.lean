/- One manifest is the same; what is put is read as it was. -/
import Derived.Test.YtjagplonneednaaZPx0
import Derived.Test.YtjagplonneednaaZPx30056
import Derived.Test.YtjagplonneednaaZManiGet
set_option linter.unusedVariables false
set_option linter.unusedSimpArgs false
namespace Go.Proofs.Ytjagplonneednaa.Pure
open Go.RowKit Go.Proofs.Ytjagplonneednaa.P Go.Proofs.YtjagplonneednaaW.PrintWords Go.Proofs.YtjagplonneednaaW.PrintLast Go.Proofs.YtjagplonneednaaW.PrintMore
theorem getM_ok {s : ByteArray} (h : (getM s).2.2 = 0) : s.size = 128 ∧ num s 0 8 = num s 120 8 ∧ Bears s ∧ getM s = (num s 0 8, parts s (many s), 0) := by
  unfold getM at h ⊢
  by_cases c : s.size = 128
  · rw [if_pos c] at h ⊢
    by_cases c1 : num s 0 8 = 0 ∨ num s 0 8 ≠ num s 120 8
    · rw [if_pos c1] at h; exact absurd h (by decide)
    · rw [if_neg c1] at h ⊢
      by_cases c2 : num s 116 4 ≠ crcB ((Tools.nums8 s).take 116)
      · rw [if_pos c2] at h; exact absurd h (by decide)
      · rw [if_neg c2] at h ⊢
        by_cases c3 : Bears s
        · exact ⟨c, Decidable.byContradiction fun z => c1 (.inr z), c3, by rw [if_pos c3]⟩
        · rw [if_neg c3] at h; exact absurd h (by decide)
  · rw [if_neg c] at h; exact absurd h (by decide)
theorem num_mid {s : ByteArray} {A C : List UInt8} {a n : Nat} {x : Int} (hB : B s = A ++ u8l (beN n x) ++ C) (ha : A.length = a) (h0 : 0 ≤ x) (h1 : x < 256 ^ n) : num s a n = x := by
  unfold num
  rw [hB, List.append_assoc, List.drop_append, List.drop_eq_nil_of_le (by omega), List.nil_append, ← ha, Nat.sub_self, List.drop_zero, List.take_append_of_le_length (by rw [u8l_len, beN_len]; exact Nat.le_refl _), List.take_of_length_le (by rw [u8l_len, beN_len]; exact Nat.le_refl _)]
  exact be_beN n x h0 h1
theorem B_sector (e : Int) (l : List S56) : B (sectorS e l) = u8l (beN 8 e) ++ u8l (beN 1 (l.length : Int)) ++ u8l (l.flatMap partB) ++ u8l (List.replicate (107 - 13 * l.length) 0) ++ u8l (beN 4 (crcB (bodyB e l))) ++ u8l (beN 8 e) := by
  unfold sectorS
  rw [B_strN]
  unfold sectorB
  rw [u8l_app, u8l_app]
  congr 2
  unfold bodyB
  rw [u8l_app, u8l_app, u8l_app]
theorem sector_bears {e : Int} {l : List S56} (h : RightM e l) : num (sectorS e l) 0 8 = e ∧ num (sectorS e l) 120 8 = e ∧ num (sectorS e l) 116 4 = crcB (bodyB e l) ∧ many (sectorS e l) = l.length ∧ parts (sectorS e l) l.length = l := by
  obtain ⟨he0, he1, hl, ha⟩ := h
  have hB := B_sector e l
  have h8 : (256 : Int) ^ 8 = 18446744073709551616 := by decide
  have h4 : (256 : Int) ^ 4 = 4294967296 := by decide
  have hr := crcB_range (bodyB e l)
  have n0 : num (sectorS e l) 0 8 = e := num_mid (A := []) (C := u8l (beN 1 (l.length : Int)) ++ u8l (l.flatMap partB) ++ u8l (List.replicate (107 - 13 * l.length) 0) ++ u8l (beN 4 (crcB (bodyB e l))) ++ u8l (beN 8 e)) (by rw [hB]; simp [List.append_assoc]) rfl (by omega) (by omega)
  have n1 : num (sectorS e l) 120 8 = e := num_mid (A := u8l (bodyB e l ++ beN 4 (crcB (bodyB e l)))) (C := []) (by unfold sectorS; rw [B_strN]; unfold sectorB; rw [u8l_app, List.append_nil]) (by rw [u8l_len, List.length_append, bodyB_len e l hl, beN_len]) (by omega) (by omega)
  have n2 : num (sectorS e l) 116 4 = crcB (bodyB e l) := num_mid (A := u8l (bodyB e l)) (C := u8l (beN 8 e)) (by unfold sectorS; rw [B_strN]; unfold sectorB; rw [u8l_app, u8l_app]) (by rw [u8l_len, bodyB_len e l hl]) hr.1 (by omega)
  have n3 : num (sectorS e l) 8 1 = (l.length : Int) := num_mid (A := u8l (beN 8 e)) (C := u8l (l.flatMap partB) ++ u8l (List.replicate (107 - 13 * l.length) 0) ++ u8l (beN 4 (crcB (bodyB e l))) ++ u8l (beN 8 e)) (by rw [hB]; simp [List.append_assoc]) (by rw [u8l_len, beN_len]) (by omega) (by have : (256 : Int) ^ 1 = 256 := rfl; omega)
  refine ⟨n0, n1, n2, by unfold many; rw [n3, Int.toNat_natCast], ?_⟩
  apply List.ext_getElem
  · rw [parts_len]
  · intro j h1 h2
    have o := ha j (Nat.zero_le _) h2
    have hsplit : l.flatMap partB = (l.take j).flatMap partB ++ partB l[j] ++ (l.drop (j + 1)).flatMap partB := by
      have e1 : l = l.take j ++ [l[j]] ++ l.drop (j + 1) := by rw [← List.take_succ_eq_append_getElem h2, List.take_append_drop]
      conv => lhs; rw [e1]
      rw [List.flatMap_append, List.flatMap_append, List.flatMap_cons, List.flatMap_nil, List.append_nil]
    rw [← pa_at _ _ h1, ← pa_at _ _ h2, parts_pa _ _ _ h2]
    obtain ⟨os0, os1, ot0, ot1, om0, om1, _, _, _⟩ := o
    rw [pa_at l j h2] at os0 os1 ot0 ot1 om0 om1 ⊢
    have hlen : ((l.take j).flatMap partB).length = 13 * j := by rw [flat_len, List.length_take]; congr 1; omega
    have key : ∀ (X Y : List Int) (n a : Nat) (x : Int), partB l[j] = X ++ beN n x ++ Y → X.length = a → 0 ≤ x → x < 256 ^ n → num (sectorS e l) (9 + 13 * j + a) n = x := by
      intro X Y n a x hp hX hx0 hx1
      refine num_mid (A := u8l (beN 8 e) ++ u8l (beN 1 (l.length : Int)) ++ u8l ((l.take j).flatMap partB) ++ u8l X) (C := u8l Y ++ u8l ((l.drop (j + 1)).flatMap partB) ++ u8l (List.replicate (107 - 13 * l.length) 0) ++ u8l (beN 4 (crcB (bodyB e l))) ++ u8l (beN 8 e)) ?_ ?_ hx0 hx1
      · rw [hB, hsplit, u8l_app, u8l_app, hp, u8l_app, u8l_app]
        simp [List.append_assoc]
      · simp only [List.length_append, u8l_len, beN_len, hlen, hX]
    have k0 := key [] (beN 8 l[j].f1 ++ beN 4 (l[j].f2 + 1)) 1 0 l[j].f0 (by unfold partB; simp [List.append_assoc]) rfl os0 (by have : (256 : Int) ^ 1 = 256 := rfl; omega)
    have k1 := key (beN 1 l[j].f0) (beN 4 (l[j].f2 + 1)) 8 1 l[j].f1 (by unfold partB; simp [List.append_assoc]) (beN_len _ _) (by omega) (by omega)
    have k2 := key (beN 1 l[j].f0 ++ beN 8 l[j].f1) [] 4 9 (l[j].f2 + 1) (by unfold partB; simp [List.append_assoc]) (by rw [List.length_append, beN_len, beN_len]) (by omega) (by omega)
    unfold part
    rw [show 10 + 13 * j = 9 + 13 * j + 1 by omega, show 18 + 13 * j = 9 + 13 * j + 9 by omega, show num (sectorS e l) (9 + 13 * j) 1 = num (sectorS e l) (9 + 13 * j + 0) 1 from rfl, k0, k1, k2, show l[j].f2 + 1 - 1 = l[j].f2 by omega]
end Go.Proofs.Ytjagplonneednaa.Pure
