-- kept, by a program of this session, of texts that the printer or this session wrote
import Derived.Test.YtjagplonneednaaZPx1015
import Derived.Test.YtjagplonneednaaZManiGet
import Derived.Test.YtjagplonneednaaZPx1033
import Derived.Test.YtjagplonneednaaZPx30022
section
set_option linter.unusedVariables false
set_option linter.unusedSimpArgs false
namespace Go.Proofs.Ytjagplonneednaa.Pure
open Go.RowKit Go.Proofs.Ytjagplonneednaa.P Go.Proofs.YtjagplonneednaaW.PrintWords Go.Proofs.YtjagplonneednaaW.PrintLast Go.Proofs.YtjagplonneednaaW.PrintMore
theorem MSame_l0 (e e' : Int) (l : List S56) (hl : l.length < 9223372036854775807) (d : Nat) : ∀ i : Nat, i + d = l.length → Ev (fun k => spoorref06_Same.l0 k (l.length : Int) (i : Int) e l e' l) true := by
  induction d with
  | zero =>
    intro i hi
    refine Ev.step (f := fun _ => some true) (fun k => ?_) (Ev.now _)
    simp only [spoorref06_Same.l0]
    rw [if_neg (by omega)]
  | succ d ih =>
    intro i hi
    refine Ev.step (fun k => ?_) (ih (i + 1) (by omega))
    simp only [spoorref06_Same.l0]
    rw [if_pos (by omega), if_pos (by omega), if_pos (by omega), if_pos (by omega), if_neg (by simp), wrap_up i (by omega)]
theorem MSame_ev (e : Int) (l : List S56) (hl : l.length < 9223372036854775807) : Ev (fun k => spoorref06_Same.f k e l e l) true := by
  unfold spoorref06_Same.f
  simp only [if_true, bne_self_eq_false]
  refine Ev.step (fun k => ?_) (MSame_l0 e e l hl l.length 0 (by omega))
  simp only [spoorref06_Same.j0]
  rw [if_neg nofun]
  rfl
theorem getM_len (s : ByteArray) : (getM s).2.1.length ≤ 8 := by
  unfold getM
  split
  · split
    · simp
    · split
      · simp
      · split
        · rename_i h
          show (parts s (many s)).length ≤ 8
          rw [parts_len]
          exact h.1
        · simp
  · simp
theorem getM_ok {s : ByteArray} (h : (getM s).2.2 = 0) : s.size = 128 ∧ num s 0 8 = num s 120 8 ∧ Bears s ∧ getM s = (num s 0 8, parts s (many s), 0) := by
  unfold getM at h ⊢
  by_cases c : s.size = 128
  · rw [if_pos c] at h ⊢
    by_cases c1 : num s 0 8 = 0 ∨ num s 0 8 ≠ num s 120 8
    · rw [if_pos c1] at h; exact absurd h (by decide)
    · rw [if_neg c1] at h ⊢
      by_cases c2 : num s 116 4 ≠ crcB ((Tools.nums8 s).take 116)
      · rw [if_pos c2] at h; exact absurd h (by decide)
      · rw [if_neg c2] at h ⊢
        by_cases c3 : Bears s
        · exact ⟨c, Decidable.byContradiction fun z => c1 (.inr z), c3, by rw [if_pos c3]⟩
        · rw [if_neg c3] at h; exact absurd h (by decide)
  · rw [if_neg c] at h; exact absurd h (by decide)
theorem num_mid {s : ByteArray} {A C : List UInt8} {a n : Nat} {x : Int} (hB : B s = A ++ u8l (beN n x) ++ C) (ha : A.length = a) (h0 : 0 ≤ x) (h1 : x < 256 ^ n) : num s a n = x := by
  unfold num
  rw [hB, List.append_assoc, List.drop_append, List.drop_eq_nil_of_le (by omega), List.nil_append, ← ha, Nat.sub_self, List.drop_zero, List.take_append_of_le_length (by rw [u8l_len, beN_len]; exact Nat.le_refl _), List.take_of_length_le (by rw [u8l_len, beN_len]; exact Nat.le_refl _)]
  exact be_beN n x h0 h1
theorem B_sector (e : Int) (l : List S56) : B (sectorS e l) = u8l (beN 8 e) ++ u8l (beN 1 (l.length : Int)) ++ u8l (l.flatMap partB) ++ u8l (List.replicate (107 - 13 * l.length) 0) ++ u8l (beN 4 (crcB (bodyB e l))) ++ u8l (beN 8 e) := by
  unfold sectorS
  rw [B_strN]
  unfold sectorB
  rw [u8l_app, u8l_app]
  congr 2
  unfold bodyB
  rw [u8l_app, u8l_app, u8l_app]
theorem sector_bears {e : Int} {l : List S56} (h : RightM e l) : num (sectorS e l) 0 8 = e ∧ num (sectorS e l) 120 8 = e ∧ num (sectorS e l) 116 4 = crcB (bodyB e l) ∧ many (sectorS e l) = l.length ∧ parts (sectorS e l) l.length = l := by
  obtain ⟨he0, he1, hl, ha⟩ := h
  have hB := B_sector e l
  have h8 : (256 : Int) ^ 8 = 18446744073709551616 := by decide
  have h4 : (256 : Int) ^ 4 = 4294967296 := by decide
  have hr := crcB_range (bodyB e l)
  have n0 : num (sectorS e l) 0 8 = e := num_mid (A := []) (C := u8l (beN 1 (l.length : Int)) ++ u8l (l.flatMap partB) ++ u8l (List.replicate (107 - 13 * l.length) 0) ++ u8l (beN 4 (crcB (bodyB e l))) ++ u8l (beN 8 e)) (by rw [hB]; simp [List.append_assoc]) rfl (by omega) (by omega)
  have n1 : num (sectorS e l) 120 8 = e := num_mid (A := u8l (bodyB e l ++ beN 4 (crcB (bodyB e l)))) (C := []) (by unfold sectorS; rw [B_strN]; unfold sectorB; rw [u8l_app, List.append_nil]) (by rw [u8l_len, List.length_append, bodyB_len e l hl, beN_len]) (by omega) (by omega)
  have n2 : num (sectorS e l) 116 4 = crcB (bodyB e l) := num_mid (A := u8l (bodyB e l)) (C := u8l (beN 8 e)) (by unfold sectorS; rw [B_strN]; unfold sectorB; rw [u8l_app, u8l_app]) (by rw [u8l_len, bodyB_len e l hl]) hr.1 (by omega)
  have n3 : num (sectorS e l) 8 1 = (l.length : Int) := num_mid (A := u8l (beN 8 e)) (C := u8l (l.flatMap partB) ++ u8l (List.replicate (107 - 13 * l.length) 0) ++ u8l (beN 4 (crcB (bodyB e l))) ++ u8l (beN 8 e)) (by rw [hB]; simp [List.append_assoc]) (by rw [u8l_len, beN_len]) (by omega) (by have : (256 : Int) ^ 1 = 256 := rfl; omega)
  refine ⟨n0, n1, n2, by unfold many; rw [n3, Int.toNat_natCast], ?_⟩
  apply List.ext_getElem
  · rw [parts_len]
  · intro j h1 h2
    have o := ha j (Nat.zero_le _) h2
    have hsplit : l.flatMap partB = (l.take j).flatMap partB ++ partB l[j] ++ (l.drop (j + 1)).flatMap partB := by
      have e1 : l = l.take j ++ [l[j]] ++ l.drop (j + 1) := by rw [← List.take_succ_eq_append_getElem h2, List.take_append_drop]
      conv => lhs; rw [e1]
      rw [List.flatMap_append, List.flatMap_append, List.flatMap_cons, List.flatMap_nil, List.append_nil]
    rw [← pa_at _ _ h1, ← pa_at _ _ h2, parts_pa _ _ _ h2]
    obtain ⟨os0, os1, ot0, ot1, om0, om1, _, _, _⟩ := o
    rw [pa_at l j h2] at os0 os1 ot0 ot1 om0 om1 ⊢
    have hlen : ((l.take j).flatMap partB).length = 13 * j := by rw [flat_len, List.length_take]; congr 1; omega
    have key : ∀ (X Y : List Int) (n a : Nat) (x : Int), partB l[j] = X ++ beN n x ++ Y → X.length = a → 0 ≤ x → x < 256 ^ n → num (sectorS e l) (9 + 13 * j + a) n = x := by
      intro X Y n a x hp hX hx0 hx1
      refine num_mid (A := u8l (beN 8 e) ++ u8l (beN 1 (l.length : Int)) ++ u8l ((l.take j).flatMap partB) ++ u8l X) (C := u8l Y ++ u8l ((l.drop (j + 1)).flatMap partB) ++ u8l (List.replicate (107 - 13 * l.length) 0) ++ u8l (beN 4 (crcB (bodyB e l))) ++ u8l (beN 8 e)) ?_ ?_ hx0 hx1
      · rw [hB, hsplit, u8l_app, u8l_app, hp, u8l_app, u8l_app]
        simp [List.append_assoc]
      · simp only [List.length_append, u8l_len, beN_len, hlen, hX]
    have k0 := key [] (beN 8 l[j].f1 ++ beN 4 (l[j].f2 + 1)) 1 0 l[j].f0 (by unfold partB; simp [List.append_assoc]) rfl os0 (by have : (256 : Int) ^ 1 = 256 := rfl; omega)
    have k1 := key (beN 1 l[j].f0) (beN 4 (l[j].f2 + 1)) 8 1 l[j].f1 (by unfold partB; simp [List.append_assoc]) (beN_len _ _) (by omega) (by omega)
    have k2 := key (beN 1 l[j].f0 ++ beN 8 l[j].f1) [] 4 9 (l[j].f2 + 1) (by unfold partB; simp [List.append_assoc]) (by rw [List.length_append, beN_len, beN_len]) (by omega) (by omega)
    unfold part
    rw [show 10 + 13 * j = 9 + 13 * j + 1 by omega, show 18 + 13 * j = 9 + 13 * j + 9 by omega, show num (sectorS e l) (9 + 13 * j) 1 = num (sectorS e l) (9 + 13 * j + 0) 1 from rfl, k0, k1, k2, show l[j].f2 + 1 - 1 = l[j].f2 by omega]
theorem getM_put {e : Int} {l : List S56} (h : RightM e l) : getM (sectorS e l) = (e, l, 0) := by
  obtain ⟨n0, n1, n2, n3, n4⟩ := sector_bears h
  have hs := sectorS_size e l h.2.2.1
  have hb : (Tools.nums8 (sectorS e l)).take 116 = bodyB e l → getM (sectorS e l) = (e, l, 0) := by
    intro hbody
    unfold getM
    rw [if_pos hs, n0, n1, n2, hbody, n3, n4, if_neg (fun z => z.elim (fun y => by have := h.1; omega) (fun y => y rfl)), if_neg (fun z => z rfl), if_pos ⟨by rw [n3]; exact h.2.2.1, by rw [n0, n3, n4]; exact h, by rw [n0, n3, n4]⟩]
  apply hb
  have hbl := bodyB_len e l h.2.2.1
  have : Tools.nums8 (sectorS e l) = (u8l (sectorB e l)).map fun b => (b.toNat : Int) := rfl
  rw [this]
  have hin : ∀ x ∈ bodyB e l, 0 ≤ x ∧ x < 256 := by
    have hbe : ∀ (n : Nat) (y : Int), ∀ x ∈ beN n y, 0 ≤ x ∧ x < 256 := by
      intro n y x hx
      unfold beN at hx
      obtain ⟨k, _, rfl⟩ := List.mem_map.1 hx
      omega
    intro x hx
    unfold bodyB at hx
    simp only [List.mem_append, List.mem_flatMap, List.mem_replicate] at hx
    rcases hx with ((hx | hx) | ⟨p, _, hx⟩) | ⟨_, hx⟩
    · exact hbe _ _ x hx
    · exact hbe _ _ x hx
    · unfold partB at hx
      simp only [List.mem_append] at hx
      rcases hx with (hx | hx) | hx <;> exact hbe _ _ x hx
    · omega
  have e1 : (u8l (sectorB e l)).take 116 = u8l (bodyB e l) := by
    unfold sectorB
    rw [u8l_app, u8l_app, List.append_assoc, List.take_append_of_le_length (by rw [u8l_len, hbl]; exact Nat.le_refl _), List.take_of_length_le (by rw [u8l_len, hbl]; exact Nat.le_refl _)]
  rw [← List.map_take, e1]
  unfold u8l
  rw [List.map_map]
  conv => rhs; rw [← List.map_id (bodyB e l)]
  apply List.map_congr_left
  intro x hx
  have := hin x hx
  show ((UInt8.ofNat x.toNat).toNat : Int) = x
  exact u8_of x this.1 this.2
end Go.Proofs.Ytjagplonneednaa.Pure
end
section
set_option linter.unusedVariables false
set_option linter.unusedSimpArgs false
namespace Go.Proofs.Ytjagplonneednaa.Pure
open Go.RowKit Go.Proofs.Ytjagplonneednaa.P Go.Proofs.YtjagplonneednaaW.PrintWords Go.Proofs.YtjagplonneednaaW.PrintLast Go.Proofs.YtjagplonneednaaW.PrintMore
theorem badF_iff (n : Nat) (p : S74) : badF n p = true ↔ p.f0 < 0 ∨ p.f0 ≥ (n : Int) ∨ ¬ (p.f1.size : Int) = 128 := by
  unfold badF hasF
  simp only [Bool.or_eq_true, Bool.not_eq_true', Bool.and_eq_false_iff, decide_eq_false_iff_not, bne_iff_ne, ne_eq]
  omega
theorem backs_find (C : List S74) (at_ : Int) (s : ByteArray) : ∀ n, n ≤ C.length → (match (backs C n).find? (fun x => x.2.f0 == at_) with | some x => x.2.f1 | none => s) = (C.take n).foldl (fun s p => if p.f0 = at_ then p.f1 else s) s := by
  intro n
  induction n with
  | zero => intro _; rfl
  | succ n ih =>
    intro h
    have hlt : n < C.length := h
    rw [List.take_succ_eq_append_getElem hlt, List.foldl_append, ← ih (by omega)]
    show (match (((n : Int), C.getD n z74) :: backs C n).find? (fun x => x.2.f0 == at_) with | some x => x.2.f1 | none => s) = _
    have hg : C.getD n z74 = C[n] := by rw [List.getD_eq_getElem?_getD, List.getElem?_eq_getElem hlt]; rfl
    rw [hg, List.find?_cons]
    simp only [List.foldl_cons, List.foldl_nil]
    by_cases e : C[n].f0 = at_
    · rw [if_pos e]
      simp [e]
    · rw [if_neg e]
      have : (C[n].f0 == at_) = false := beq_eq_false_iff_ne.mpr e
      simp [this]
theorem holdsF_fold (S : List ByteArray) (C : List S74) (at_ : Int) : holdsF S C at_ = C.foldl (fun s p => if p.f0 = at_ then p.f1 else s) (rdOf ByteArray.empty S at_) := by
  have := backs_find C at_ (rdOf ByteArray.empty S at_) C.length (Nat.le_refl _)
  rw [List.take_length] at this
  exact this
end Go.Proofs.Ytjagplonneednaa.Pure
end
