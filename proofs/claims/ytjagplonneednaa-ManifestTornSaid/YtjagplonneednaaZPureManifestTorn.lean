/- Without the document: of a manifest's sector that is written over another sector, whose last eight bytes are another epoch's, and torn, what is read is it, or what was there, or nothing. No condition beyond the statement's own. -/
import Derived.Test.YtjagplonneednaaZPx1006
import Derived.Test.YtjagplonneednaaZManiSame
import Derived.Test.YtjagplonneednaaZManiLives
set_option linter.unusedVariables false
set_option linter.unusedSimpArgs false
namespace Go.Proofs.Ytjagplonneednaa.Pure
open Go.RowKit Go.Proofs.Ytjagplonneednaa.P Go.Proofs.YtjagplonneednaaW.PrintWords Go.Proofs.YtjagplonneednaaW.PrintLast Go.Proofs.YtjagplonneednaaW.PrintMore
theorem wf_u64 {n : Int} (h : (Lit.int .u64 n).wf = true) : 0 ≤ n := by
  simp only [Lit.wf, Bool.and_eq_true, decide_eq_true_eq] at h
  have h1 : IntKind.min .u64 = 0 := by rfl
  omega
theorem torn_is (s o : ByteArray) (hs : s.size = 128) (ho : o.size = 128) (a : Nat) (ha : a ≤ 128) (ns : num s 0 8 = num s 120 8) (no : num o 0 8 = num o 120 8) (hne : ¬ num o 120 8 = num s 120 8)
    (ht : num (s.extract 0 a ++ o.extract a 128) 0 8 = num (s.extract 0 a ++ o.extract a 128) 120 8) : s.extract 0 a ++ o.extract a 128 = s ∨ s.extract 0 a ++ o.extract a 128 = o := by
  have hB : B (s.extract 0 a ++ o.extract a 128) = (B s).take a ++ (B o).drop a := by
    rw [B_app, B_extract, B_extract, List.drop_zero, List.take_of_length_le (l := B o) (by rw [B_len]; omega)]
  have ls : (B s).length = 128 := by rw [B_len]; exact hs
  have lo : (B o).length = 128 := by rw [B_len]; exact ho
  have eqv : ∀ (x y : ByteArray) (i j : Nat), (B x).length = 128 → (B y).length = 128 → i + 8 ≤ 128 → j + 8 ≤ 128 → num x i 8 = num y j 8 → ((B x).drop i).take 8 = ((B y).drop j).take 8 := by
    intro x y i j hx hy hi hj h
    refine be_one _ _ ?_ h
    rw [List.length_take, List.length_take, List.length_drop, List.length_drop]
    omega
  have lt : (B (s.extract 0 a ++ o.extract a 128)).length = 128 := by rw [hB, List.length_append, List.length_take, List.length_drop]; omega
  have e1 := eqv _ _ 0 120 ls ls (by omega) (by omega) ns
  have e2 := eqv _ _ 0 120 lo lo (by omega) (by omega) no
  have e3 := eqv _ _ 0 120 lt lt (by omega) (by omega) ht
  have hne' : ¬ ((B o).drop 120).take 8 = ((B s).drop 120).take 8 := fun z => hne (congrArg be z)
  rw [List.drop_zero] at e1 e2 e3
  rw [hB] at e3
  by_cases c1 : a ≤ 8
  ·
    right
    apply B_inj
    rw [hB]
    have t1 : ((B s).take a ++ (B o).drop a).take 8 = (B s).take a ++ ((B o).drop a).take (8 - a) := by
      rw [List.take_append, List.length_take, List.take_of_length_le (by rw [List.length_take]; omega), show min a (B s).length = a by omega]
    have t2 : ((B s).take a ++ (B o).drop a).drop 120 = (B o).drop 120 := by
      rw [List.drop_append, List.drop_eq_nil_of_le (by rw [List.length_take]; omega), List.nil_append, List.length_take, List.drop_drop]
      congr 1
      omega
    rw [t1, t2, ← e2] at e3
    have t3 : (B o).take 8 = (B o).take a ++ ((B o).drop a).take (8 - a) := by
      rw [← List.take_add]
      congr 1
      omega
    rw [t3] at e3
    have := List.append_inj_left e3 (by rw [List.length_take, List.length_take]; omega)
    rw [this, List.take_append_drop]
  · by_cases c2 : a ≤ 120
    · exfalso
      have t1 : ((B s).take a ++ (B o).drop a).take 8 = (B s).take 8 := by
        rw [List.take_append_of_le_length (by rw [List.length_take]; omega), List.take_take]
        congr 1
        omega
      have t2 : ((B s).take a ++ (B o).drop a).drop 120 = (B o).drop 120 := by
        rw [List.drop_append, List.drop_eq_nil_of_le (by rw [List.length_take]; omega), List.nil_append, List.length_take, List.drop_drop]
        congr 1
        omega
      rw [t1, t2, e1] at e3
      exact hne' e3.symm
    · left
      apply B_inj
      rw [hB]
      have t1 : ((B s).take a ++ (B o).drop a).take 8 = (B s).take 8 := by
        rw [List.take_append_of_le_length (by rw [List.length_take]; omega), List.take_take]
        congr 1
        omega
      have t2 : ((B s).take a ++ (B o).drop a).drop 120 = ((B s).take a).drop 120 ++ (B o).drop a := by
        rw [List.drop_append_of_le_length (by rw [List.length_take]; omega)]
      rw [t1, t2, e1, List.take_of_length_le (l := (B s).drop 120) (by rw [List.length_drop]; omega), List.take_of_length_le (by rw [List.length_append, List.length_drop, List.length_drop, List.length_take]; omega)] at e3
      have t3 : (B s).drop 120 = ((B s).take a).drop 120 ++ (B s).drop a := by
        conv => lhs; rw [← List.take_append_drop a (B s)]
        rw [List.drop_append_of_le_length (by rw [List.length_take]; omega)]
      rw [t3] at e3
      have := List.append_cancel_left e3
      rw [← this, List.take_append_drop]
theorem ManifestTorn : spoorlaw06_ManifestTorn.Pure := by
  intro e l o a g0 ho ga
  have he : 0 ≤ e := wf_u64 g0.1
  apply Ev.rounds
  unfold spoorlaw06_ManifestTorn.f
  refine Ev.bind lives_ev ?_
  simp only [if_true]
  by_cases h : RightM e l
  rotate_left
  · refine Ev.bind (Put_no he h) ?_
    simp only [if_neg (show ¬ (2 : Int) = 0 by decide)]
    exact Ev.now _
  refine Ev.bind (Put_yes h) ?_
  obtain ⟨n0, n1, _, _, _⟩ := sector_bears h
  have hs := sectorS_size e l h.2.2.1
  generalize sectorS e l = s at n0 n1 hs
  simp only [if_true]
  by_cases c0 : (o.size : Int) = 128
  rotate_left
  · simp only [if_neg c0]
    exact Ev.now _
  have hos : o.size = 128 := by omega
  simp only [if_pos c0]
  by_cases c1 : a < 0
  · simp only [if_pos c1]
    exact Ev.now _
  simp only [if_neg c1]
  by_cases c2 : a > 128
  · simp only [if_pos c2]
    exact Ev.now _
  simp only [if_neg c2, if_pos (show 120 ≤ (o.size : Int) by omega), if_pos (show 120 ≤ (s.size : Int) by omega)]
  by_cases c3 : (o.extract 120 o.size).toList = (s.extract 120 s.size).toList
  · simp only [if_pos c3]
    exact Ev.now _
  obtain ⟨n, rfl⟩ : ∃ n : Nat, a = n := ⟨a.toNat, by omega⟩
  have g1 : (s.extract 0 (n : Int).toNat).size + (o.extract (n : Int).toNat o.size).size ≤ 9223372036854775807 := by rw [ByteArray.size_extract, ByteArray.size_extract]; omega
  simp only [if_neg c3, if_pos (show (0 : Int) ≤ (n : Int) by omega), if_pos (show (n : Int) ≤ (s.size : Int) by omega), if_pos (show (n : Int) ≤ (o.size : Int) by omega), if_pos g1]
  rw [Int.toNat_natCast]
  refine Ev.bind (Get_ev _) ?_
  by_cases c4 : (getM (s.extract 0 n ++ o.extract n o.size)).2.2 = 0
  rotate_left
  · simp only [if_neg c4]
    exact Ev.now _
  obtain ⟨ht, hn, _, _⟩ := getM_ok c4
  simp only [if_pos c4]
  have c3' : ¬ num o 120 8 = num s 120 8 := by
    intro z
    apply c3
    rw [toList_iff]
    refine (B_eq_num 120 o.size 120 s.size (by omega) (by omega) (by omega) (by omega) (by omega)).2 ?_
    rw [hos, hs]
    exact z
  by_cases c5 : (s.extract 0 n ++ o.extract n o.size).toList = s.toList
  · simp only [if_pos c5]
    exact Ev.now _
  by_cases c6 : (s.extract 0 n ++ o.extract n o.size).toList = o.toList
  · simp only [if_neg c5, if_pos c6]
    exact Ev.now _
  simp only [if_neg c5, if_neg c6, if_pos (show (0 : Int) ≤ 8 by decide), if_pos (show (8 : Int) ≤ (o.size : Int) by omega)]
  have c7 : ((o.extract 0 8).toList != (o.extract 120 o.size).toList) = true := by
    rw [bne_iff_ne]
    intro z
    have z' := (B_eq_num 0 8 120 o.size (by omega) (by omega) (by omega) (by omega) (by omega)).1 (toList_iff.1 z)
    rw [hos] at z'
    have := torn_is s o hs hos n (by omega) (by rw [n0, n1]) z' c3' (by rw [hos] at hn; exact hn)
    rw [hos] at c5 c6
    rcases this with t | t
    · exact c5 (by rw [t])
    · exact c6 (by rw [t])
  rw [c7]
  exact Ev.now _
end Go.Proofs.Ytjagplonneednaa.Pure
