-- kept, by a program of this session, of a text that the printer or this session wrote
import Derived.Test.YtjagplonneednaaZPx0
import Derived.Test.YtjagplonneednaaZPx1014
import Derived.Test.YtjagplonneednaaZPx30025
import Derived.Test.YtjagplonneednaaZPx30026
namespace Go.Proofs.Ytjagplonneednaa.P
open Go.RowKit Go.Proofs.YtjagplonneednaaW.PrintWords Go.Proofs.YtjagplonneednaaW.PrintLast Go.Proofs.YtjagplonneednaaW.PrintMore
attribute [local go_sem] max2_int min2_int max_two min_two max_three min_three max_four min_four
set_option linter.unusedVariables false
set_option linter.unusedSimpArgs false
def spoorref06_Put.l0 : Nat → ByteArray → List (S56) → Int → Int → Int → List (S56) → Option (ByteArray × Int)
 | 0, _, _, _, _, _, _ => none
 | k + 1, x4, x21, x22, x23, x130000, x130001 => if x23 < x22 then (if 0 ≤ x23 then (if x23 < (x21.length : Int) then ((some (([((rd_T56 x21 x23).f0) % 256] : List Int) : List Int)).bind fun y137 => ((spoorref05_Eight.f k ((rd_T56 x21 x23).f1)).bind fun t140 => (if (strOfNums y137).size + t140.size ≤ 9223372036854775807 then ((spoorref02_Text.f ((wrap64 (((rd_T56 x21 x23).f2) + 1)) % 4294967296)).bind fun t141 => (if ((strOfNums y137) ++ t140).size + t141.size ≤ 9223372036854775807 then (if x4.size + (((strOfNums y137) ++ t140) ++ t141).size ≤ 9223372036854775807 then (spoorref06_Put.l0 k (x4 ++ (((strOfNums y137) ++ t140) ++ t141)) x21 x22 (wrap64 (x23 + 1)) x130000 x130001) else (none)) else (none))) else (none)))) else (none)) else (none)) else ((spoorref05_Zeros.f (wrap64 (116 - (x4.size : Int)))).bind fun t142 => (if x4.size + t142.size ≤ 9223372036854775807 then ((spoorref02_Of.f k (x4 ++ t142)).bind fun t143 => ((spoorref02_Text.f t143).bind fun t144 => (if (x4 ++ t142).size + t144.size ≤ 9223372036854775807 then ((spoorref05_Eight.f k x130000).bind fun t145 => (if ((x4 ++ t142) ++ t144).size + t145.size ≤ 9223372036854775807 then (some (((x4 ++ t142) ++ t144) ++ t145, 0)) else (none))) else (none)))) else (none)))
def spoorref06_Put.f (k : Nat) (a0_0 : Int) (l0_1 : List (S56)) : Option (ByteArray × Int) := (spoorref06_Check.f k a0_0 l0_1).bind fun t130 => (if t130 = 0 then ((spoorref05_Eight.f k a0_0).bind fun t131 => ((some (([((l0_1.length : Int)) % 256] : List Int) : List Int)).bind fun y132 => (if t131.size + (strOfNums y132).size ≤ 9223372036854775807 then (spoorref06_Put.l0 k (t131 ++ (strOfNums y132)) l0_1 (l0_1.length : Int) 0 a0_0 l0_1) else (none)))) else (some ((⟨#[]⟩ : ByteArray), 2)))
def spoorref06_Put.T3 : Bool × List (List Nat × List Nat) := (true, [([], []), ([0], [0]), ([1], [1]), ([], []), ([3], [3]), ([4], [4]), ([5], [5]), ([6], [6]), ([7], [7]), ([2, 8], [2, 8]), ([9, 2, 0, 1, 2, 3, 4, 5, 6, 7, 8, 9], [9])])
def spoorref06_Put.B3 : List Nat := [0, 1, 3, 0, 8, 24, 56, 120, 248, 511, 1023]
theorem spoorref06_Put.tab3 : rtab .any (opsOf Try.f9 3) = spoorref06_Put.T3 := by kernel_rfl
theorem spoorref06_Put.bits3 : waitsOk spoorref06_Put.T3.2 spoorref06_Put.B3 = true := by kernel_rfl
def spoorref06_Put.T7 : Bool × List (List Nat × List Nat) := (true, [([], []), ([], []), ([1], [1]), ([2], [2]), ([3], [3]), ([4], [4]), ([], []), ([6], [6]), ([7], [7]), ([5, 8], [5, 8]), ([], []), ([10], [10]), ([11], [11]), ([12], [12]), ([13, 8], [13]), ([9, 14], [9, 14]), ([0, 15], [0, 15]), ([16, 14, 0, 1, 2, 3, 4, 5, 6, 7, 8, 9, 10, 11, 12, 13, 14, 15, 16], [0, 16])])
def spoorref06_Put.B7 : List Nat := [0, 0, 2, 6, 14, 30, 0, 64, 192, 510, 0, 1024, 3072, 7168, 15808, 32766, 65535, 131071]
theorem spoorref06_Put.tab7 : rtab .any (opsOf Try.f9 7) = spoorref06_Put.T7 := by kernel_rfl
theorem spoorref06_Put.bits7 : waitsOk spoorref06_Put.T7.2 spoorref06_Put.B7 = true := by kernel_rfl
def spoorref06_Put.T10 : Bool × List (List Nat × List Nat) := (true, [([], []), ([], []), ([1], [1]), ([2, 2], [2]), ([0, 3], [0, 3]), ([], []), ([5], [5]), ([6, 3], [6]), ([4, 7], [4, 7]), ([8, 7, 0, 1, 2, 3, 4, 5, 6, 7, 8], [8]), ([9, 0, 1, 2, 3, 4, 5, 6, 7, 8, 9], [])])
def spoorref06_Put.B10 : List Nat := [0, 0, 2, 6, 15, 0, 32, 110, 255, 511, 1023]
theorem spoorref06_Put.tab10 : rtab .any (opsOf Try.f9 10) = spoorref06_Put.T10 := by kernel_rfl
theorem spoorref06_Put.bits10 : waitsOk spoorref06_Put.T10.2 spoorref06_Put.B10 = true := by kernel_rfl
set_option maxHeartbeats 8000000 in
set_option maxRecDepth 100000 in
theorem spoorref06_Put.calls (k : Nat) (a0_0 : Int) (A0_1 : Option Addr) (c0_1 : Nat) (l0_1 : List (S56)) (r1 : ByteArray) (r2 : Int) (w : World) (hr0_1 : Kd.C k56 w A0_1 l0_1.length l0_1) (hc0_1 : l0_1.length ≤ c0_1) (h : spoorref06_Put.f k a0_0 l0_1 = some (r1, r2)) :
 Calls Try.prog 9 #[.agg #[.int .u64 a0_0, .slice A0_1 l0_1.length c0_1]] w fun e w' => e = .returned (.tuple #[.string r1, .int .i64 r2]) ∧ Below w.heap.size w w' := by
 have hu25 := Try.underlying25
 have hu56 := Try.underlying56
 have HR0_1 := Aside0.mk hr0_1
 have HC0_1 := Aside0.mk hc0_1
 clear hr0_1 hc0_1
 have HB := Aside0.mk (Below.refl w.heap.size w)
 have H : ((spoorref06_Check.f k a0_0 l0_1).bind fun t130 => (if t130 = 0 then ((spoorref05_Eight.f k a0_0).bind fun t131 => ((some (([((l0_1.length : Int)) % 256] : List Int) : List Int)).bind fun y132 => (if t131.size + (strOfNums y132).size ≤ 9223372036854775807 then (spoorref06_Put.l0 k (t131 ++ (strOfNums y132)) l0_1 (l0_1.length : Int) 0 a0_0 l0_1) else (none)))) else (some ((⟨#[]⟩ : ByteArray), 2)))) = some (r1, r2) := h
 clear h
 replace H := Option.bind_eq_some_iff.mp H
 obtain ⟨t130, A20, H⟩ := H
 replace H : (if t130 = 0 then ((spoorref05_Eight.f k a0_0).bind fun t131 => ((some (([((l0_1.length : Int)) % 256] : List Int) : List Int)).bind fun y132 => (if t131.size + (strOfNums y132).size ≤ 9223372036854775807 then (spoorref06_Put.l0 k (t131 ++ (strOfNums y132)) l0_1 (l0_1.length : Int) 0 a0_0 l0_1) else (none)))) else (some ((⟨#[]⟩ : ByteArray), 2))) = some (r1, r2) := H
 have A2 := Aside0.mk A20
 clear A20
 by_cases c3 : t130 = 0
 · rw [if_pos c3] at H
   have c3b0 : (t130 == 0) = true := beq_iff_eq.mpr c3
   have c3b1 : (t130 != 0) = false := bne_eq_false_iff_eq.mpr c3
   clear c3
   replace H := Option.bind_eq_some_iff.mp H
   obtain ⟨t131, A40, H⟩ := H
   replace H : ((some (([((l0_1.length : Int)) % 256] : List Int) : List Int)).bind fun y132 => (if t131.size + (strOfNums y132).size ≤ 9223372036854775807 then (spoorref06_Put.l0 k (t131 ++ (strOfNums y132)) l0_1 (l0_1.length : Int) 0 a0_0 l0_1) else (none))) = some (r1, r2) := H
   have A4 := Aside0.mk A40
   clear A40
   obtain ⟨y132, hy132⟩ : ∃ y_ : List Int, y_ = (([((l0_1.length : Int)) % 256] : List Int)) := ⟨_, rfl⟩
   replace H : (if t131.size + (strOfNums y132).size ≤ 9223372036854775807 then (spoorref06_Put.l0 k (t131 ++ (strOfNums y132)) l0_1 (l0_1.length : Int) 0 a0_0 l0_1) else (none)) = some (r1, r2) := by first | (rw [hy132]; with_reducible exact H) | (have H2_ := (Option.bind_some _ _).symm.trans H; rw [hy132]; with_reducible exact H2_) | (have H2_ := (Option.bind_some _ _).symm.trans H; with_reducible exact H2_) | with_reducible exact H | (rw [hy132]; exact H) | exact H
   have Ny132 := Aside0.mk hy132
   clear hy132
   by_cases c5 : t131.size + (strOfNums y132).size ≤ 9223372036854775807
   · rw [if_pos c5] at H
     have c5b0 := eq_true c5
     have c5b1 : decide (t131.size + (strOfNums y132).size ≤ 9223372036854775807) = true := decide_eq_true c5
     try have c5b2 : (9223372036854775807 < t131.size + (strOfNums y132).size) = False := eq_false (Nat.not_lt.2 c5)
     have H' := Aside0.mk H
     clear H
     go_enter Try.func9, Try.ntmps9
     try go_wp2_with (first | ((with_reducible refine gate_dst (N := 1) rfl ?_); refine box_event ?hg (N := 1) ?hd (cs := #[.int .u64 a0_0, .slice A0_1 l0_1.length c0_1]) (t := 25) ?hr ?_; (case hd => rfl); (case hg => rfl); (case hr => first | (go_simp; done) | (go_simp; rfl)); intro gb129 hg w6 hbox hb; have n0_ := Aside0.mk (below_step bel_ hb); have n1_ := Aside0.mk (hbox); have n2_ := Aside0.mk ((by rw [hg]; exact (below_size bel_) : w.heap.size ≤ gb129)); have n3_ := Aside0.mk ((by rw [hg]; exact (below_size bel_) : w.heap.size ≤ gb129)); clear HB; have HB := n0_; have BK129 := n1_; have GW129 := n2_; have GE129 := n3_; clear n0_ n1_ n2_ n3_; clear hb hbox hg; obtain ⟨hcz7_0, hcz7_1, hfz7_0, hfz7_1⟩ := c2_ BK129.out) | ((with_reducible refine gate_callee (f := 14) rfl ?_); refine goesL_ (some 8) rfl rfl Try.func14 (by kernel_rfl) rfl #[.agg #[.int .u64 a0_0, .slice A0_1 l0_1.length c0_1]] rfl args_ ?_; (with_reducible refine (spoorref06_Check.calls k a0_0 _ _ l0_1 t130 _ ?side1 ?side2 A2.out).mono ?_); (case side1 => exact CU (Kd.C_below HR0_1.out HB.out)); (case side2 => exact HC0_1.out); rintro e w8 ⟨rfl, hb⟩; refine ⟨_, rfl, ?_⟩; have n0_ := Aside0.mk (blk_below (blkU BK129.out) hb); have n1_ := Aside0.mk (below_step bel_ hb); clear BK129; clear HB; have BK129 := n0_; have HB := n1_; clear n0_ n1_; (try clear hb); (try clear hb2); (try clear hk); (try clear hi)))
     have n0_ := Aside0.mk (blk_drew BK129.out)
     have n1_ := Aside0.mk (below_drew1 HB.out)
     clear BK129; clear HB
     have BK129 := n0_
     have HB := n1_
     clear n0_ n1_
     refine start_ (n := 11) (S := fun w' => w'.cell? ⟨gb129, 0, none⟩ = some (.int .u64 a0_0) ∧ w'.cell? ⟨gb129, 1, none⟩ = some (.slice A0_1 l0_1.length c0_1)) (ds := []) #[false, false, false, false, false, false, false, false, false, false, false] (by kernel_rfl) rfl rfl ⟨(blk_cell BK129.out 0).trans rfl, (blk_cell BK129.out 1).trans rfl⟩ (fun hHeld => ?_); refine with_tabW spoorref06_Put.tab3 spoorref06_Put.bits3 (fun HT_ HW_ => ?_)
     generalize w8.drew = w9 at BK129 HB hHeld ⊢
     refine pure_ (i := 0) (N := some 10) (v := ?_) (a' := ?_) #[true, false, false, false, false, false, false, false, false, false, false] rfl rfl (any_of HT_.out (by kernel_rfl)) (fun _ _ _ h => h) (Or.inl ⟨by rfl, ?_⟩) ?_ ?_
     rotate_left
     · intro w'
       go_simp
       with_reducible rfl
     rotate_left
     · simp only [Act.put, List.setIfInBounds_toArray, List.set_cons_zero, List.set_cons_succ, i64_w, i32_w]
       rfl
     refine pure_ (i := 3) (N := some 13) (v := ?_) (a' := ?_) #[true, false, false, true, false, false, false, false, false, false, false] rfl rfl (any_of HT_.out (by kernel_rfl)) (fun _ _ _ h => h) (Or.inl ⟨by rfl, ?_⟩) ?_ ?_
     rotate_left
     · intro w'
       go_simp
       with_reducible rfl
     rotate_left
     · simp only [Act.put, List.setIfInBounds_toArray, List.set_cons_zero, List.set_cons_succ, i64_w, i32_w]
       rfl
     refine take_ (i := 1) (N := some 11) (v := ?_) (a' := ?_) #[true, true, false, true, false, false, false, false, false, false, false] rfl rfl (take_ofW HT_.out HW_.out (by kernel_rfl)) (fun _ _ _ h => h) (Or.inl ⟨by rfl, ?_⟩) hHeld ?_ ?_
     rotate_left
     · rintro w' ⟨s0, s1⟩
       go_simp
       with_reducible rfl
     rotate_left
     · simp only [Act.put, List.setIfInBounds_toArray, List.set_cons_zero, List.set_cons_succ, i64_w, i32_w]
       rfl
     refine take_ (i := 4) (N := some 14) (v := ?_) (a' := ?_) #[true, true, false, true, true, false, false, false, false, false, false] rfl rfl (take_ofW HT_.out HW_.out (by kernel_rfl)) (fun _ _ _ h => h) (Or.inl ⟨by rfl, ?_⟩) hHeld ?_ ?_
     rotate_left
     · rintro w' ⟨s0, s1⟩
       go_simp
       with_reducible rfl
     rotate_left
     · simp only [Act.put, List.setIfInBounds_toArray, List.set_cons_zero, List.set_cons_succ, i64_w, i32_w]
       rfl
     refine pure_ (i := 5) (N := some 15) (v := ?_) (a' := ?_) #[true, true, false, true, true, true, false, false, false, false, false] rfl rfl (any_of HT_.out (by kernel_rfl)) (fun _ _ _ h => h) (Or.inl ⟨by rfl, ?_⟩) ?_ ?_
     rotate_left
     · intro w'
       go_simp
       with_reducible rfl
     rotate_left
     · simp only [Act.put, List.setIfInBounds_toArray, List.set_cons_zero, List.set_cons_succ, i64_w, i32_w]
       rfl
     refine pure_ (i := 6) (N := some 16) (v := ?_) (a' := ?_) #[true, true, false, true, true, true, true, false, false, false, false] rfl rfl (any_of HT_.out (by kernel_rfl)) (fun _ _ _ h => h) (Or.inl ⟨by rfl, ?_⟩) ?_ ?_
     rotate_left
     · intro w'
       go_simp
       with_reducible rfl
     rotate_left
     · simp only [Act.put, List.setIfInBounds_toArray, List.set_cons_zero, List.set_cons_succ, i64_w, i32_w]
       rfl
     refine join_ (σ := Value) 2 #[true, true, true, true, true, true, true, true, true, false, false] (fun s_ => [(12, .string t131), (17, s_), (18, .string (strOfNums y132))]) (fun s_ w' => (w'.cell? ⟨gb129, 0, none⟩ = some (.int .u64 a0_0) ∧ w'.cell? ⟨gb129, 1, none⟩ = some (.slice A0_1 l0_1.length c0_1)) ∧ (Kd.R (Kd.int .u8) 5 w' w.heap.size (fun _ => True) s_ y132) ∧ (w'.heap[gb129]? = some (.cells #[.int .u64 a0_0, .slice A0_1 l0_1.length c0_1] 25 (0, 0))) ∧ (Below w.heap.size w w')) ?_ ?_
     rotate_left
     · intro hCont
       refine two_ (i := 2) (j := 7) (Ni := some 12) (Nj := some 17) #[true, true, true, true, true, true, true, false, false, false, false] #[true, true, false, true, true, true, true, true, false, false, false] rfl rfl rfl rfl (two_of HT_.out (by kernel_rfl)) (by decide) (by decide) (fun K hK => ?_) (fun K hK => ?_)
       · skip
         refine goes_ Try.func25 (by kernel_rfl) rfl #[.int .u64 a0_0] (by rfl) rfl rfl args_ ?_
         with_reducible refine (spoorref05_Eight.calls k a0_0 t131 _ A4.out).mono ?_
         rintro e w10 ⟨rfl, hb⟩
         refine ⟨_, rfl, ?_⟩
         have n0_ := Aside0.mk (blk_below (blkU BK129.out) hb)
         have n1_ := Aside0.mk (below_step bel_ hb)
         clear BK129; clear HB
         have BK129 := n0_
         have HB := n1_
         clear n0_ n1_
         (try clear hb)
         (try clear hb2)
         (try clear hk)
         (try clear hi)
         refine hK.out _ _ ⟨(blk_cell BK129.out 0).trans rfl, (blk_cell BK129.out 1).trans rfl⟩ (fun hHeld => ?_)
         clear hK K
         refine norm_ (a' := ?_) ?_ ?_
         rotate_left
         · show Act.put _ (some 12) _ = _
           simp only [Act.put, List.setIfInBounds_toArray, List.set_cons_zero, List.set_cons_succ, i64_w, i32_w]
           rfl
         refine one_ (i := 7) (N := some 17) #[true, true, true, true, true, true, true, true, false, false, false] rfl rfl (one_of HT_.out (by kernel_rfl)) (by decide) (fun K hK => ?_)
         refine Kd.R_lit_step (Kd.int .u8) _ 5 ?hg (N := 17) ?hd (xs := ([((l0_1.length : Int)) % 256] : List Int)) (inner := [.int .u8 (((l0_1.length : Int)) % 256)]) (ok := fun _ => True) (okp := fun _ => True) ?hr ?hp (fun _ hk => hk) trivial (Below.refl _ _) (Nat.le_refl _) (by simp) ?_; (case hd => rfl); (case hg => rfl); (case hr => first | (go_simp; done) | (go_simp; rfl)); (case hp => exact (Reps.one (show Kd.M (Kd.int .u8) _ _ _ (((l0_1.length : Int)) % 256) [.int .u8 (((l0_1.length : Int)) % 256)] from rfl) (Reps.none _ _)))
         intro v133 w11 ho12 hb hg_ hnew_
         clear hg_ hnew_
         (first | rw [← Ny132.out] at ho12 | (simp only [Int.reduceToNat] at ho12; rw [← Ny132.out] at ho12))
         have n0_ := Aside0.mk (Kd.R_lower ho12 (below_size bel_))
         have n1_ := Aside0.mk (blk_below (blkU BK129.out) hb)
         have n2_ := Aside0.mk (below_step bel_ hb)
         clear BK129; clear HB
         have HO134 := n0_
         have BK129 := n1_
         have HB := n2_
         clear n0_ n1_ n2_
         clear hb ho12
         refine hK.out _ _ ⟨(blk_cell BK129.out 0).trans rfl, (blk_cell BK129.out 1).trans rfl⟩ (fun hHeld => ?_)
         clear hK K
         refine norm_ (a' := ?_) ?_ ?_
         rotate_left
         · show Act.put _ (some 17) _ = _
           simp only [Act.put, List.setIfInBounds_toArray, List.set_cons_zero, List.set_cons_succ, i64_w, i32_w]
           rfl
         refine one_ (i := 8) (N := some 18) #[true, true, true, true, true, true, true, true, true, false, false] rfl rfl (one_of HT_.out (by kernel_rfl)) (by decide) (fun K hK => ?_)
         have hcv13 := own_string (P := Try.prog) Try.underlying54 Try.underlying5 Try.underlying9 (Kd.own_of_R HO134.out)
         refine value_ (w1 := ?_) (v := ?_) (by rfl) rfl ?_ ?_
         rotate_left 2
         · go_simp
           constructor
           · rfl
           · rfl
         clear hcv13
         refine hK.out _ _ ⟨(blk_cell BK129.out 0).trans rfl, (blk_cell BK129.out 1).trans rfl⟩ (fun hHeld => ?_)
         clear hK K
         refine norm_ (a' := ?_) ?_ ?_
         rotate_left
         · show Act.put _ (some 18) _ = _
           simp only [Act.put, List.setIfInBounds_toArray, List.set_cons_zero, List.set_cons_succ, i64_w, i32_w]
           rfl
         exact norm_ (by simp only [putAll, Act.put, List.setIfInBounds_toArray, List.set_cons_zero, List.set_cons_succ]) (hCont (v133) _ ⟨hHeld, (by (try apply RU); exact HO134.out), (blkU BK129.out), bel_⟩)
       · skip
         refine Kd.R_lit_step (Kd.int .u8) _ 5 ?hg (N := 17) ?hd (xs := ([((l0_1.length : Int)) % 256] : List Int)) (inner := [.int .u8 (((l0_1.length : Int)) % 256)]) (ok := fun _ => True) (okp := fun _ => True) ?hr ?hp (fun _ hk => hk) trivial (Below.refl _ _) (Nat.le_refl _) (by simp) ?_; (case hd => rfl); (case hg => rfl); (case hr => first | (go_simp; done) | (go_simp; rfl)); (case hp => exact (Reps.one (show Kd.M (Kd.int .u8) _ _ _ (((l0_1.length : Int)) % 256) [.int .u8 (((l0_1.length : Int)) % 256)] from rfl) (Reps.none _ _)))
         intro v133 w10 ho11 hb hg_ hnew_
         clear hg_ hnew_
         (first | rw [← Ny132.out] at ho11 | (simp only [Int.reduceToNat] at ho11; rw [← Ny132.out] at ho11))
         have n0_ := Aside0.mk (Kd.R_lower ho11 (below_size bel_))
         have n1_ := Aside0.mk (blk_below (blkU BK129.out) hb)
         have n2_ := Aside0.mk (below_step bel_ hb)
         clear BK129; clear HB
         have HO134 := n0_
         have BK129 := n1_
         have HB := n2_
         clear n0_ n1_ n2_
         clear hb ho11
         refine hK.out _ _ ⟨(blk_cell BK129.out 0).trans rfl, (blk_cell BK129.out 1).trans rfl⟩ (fun hHeld => ?_)
         clear hK K
         refine norm_ (a' := ?_) ?_ ?_
         rotate_left
         · show Act.put _ (some 17) _ = _
           simp only [Act.put, List.setIfInBounds_toArray, List.set_cons_zero, List.set_cons_succ, i64_w, i32_w]
           rfl
         refine two_ (i := 2) (j := 8) (Ni := some 12) (Nj := some 18) #[true, true, true, true, true, true, true, true, false, false, false] #[true, true, false, true, true, true, true, true, true, false, false] rfl rfl rfl rfl (two_of HT_.out (by kernel_rfl)) (by decide) (by decide) (fun K hK => ?_) (fun K hK => ?_)
         · skip
           refine goes_ Try.func25 (by kernel_rfl) rfl #[.int .u64 a0_0] (by rfl) rfl rfl args_ ?_
           with_reducible refine (spoorref05_Eight.calls k a0_0 t131 _ A4.out).mono ?_
           rintro e w12 ⟨rfl, hb⟩
           refine ⟨_, rfl, ?_⟩
           have n0_ := Aside0.mk (Kd.R_below (by (try apply RU); exact HO134.out) hb)
           have n1_ := Aside0.mk (blk_below (blkU BK129.out) hb)
           have n2_ := Aside0.mk (below_step bel_ hb)
           clear HO134; clear BK129; clear HB
           have HO134 := n0_
           have BK129 := n1_
           have HB := n2_
           clear n0_ n1_ n2_
           (try clear hb)
           (try clear hb2)
           (try clear hk)
           (try clear hi)
           refine hK.out _ _ ⟨(blk_cell BK129.out 0).trans rfl, (blk_cell BK129.out 1).trans rfl⟩ (fun hHeld => ?_)
           clear hK K
           refine norm_ (a' := ?_) ?_ ?_
           rotate_left
           · show Act.put _ (some 12) _ = _
             simp only [Act.put, List.setIfInBounds_toArray, List.set_cons_zero, List.set_cons_succ, i64_w, i32_w]
             rfl
           refine one_ (i := 8) (N := some 18) #[true, true, true, true, true, true, true, true, true, false, false] rfl rfl (one_of HT_.out (by kernel_rfl)) (by decide) (fun K hK => ?_)
           have hcv13 := own_string (P := Try.prog) Try.underlying54 Try.underlying5 Try.underlying9 (Kd.own_of_R HO134.out)
           refine value_ (w1 := ?_) (v := ?_) (by rfl) rfl ?_ ?_
           rotate_left 2
           · go_simp
             constructor
             · rfl
             · rfl
           clear hcv13
           refine hK.out _ _ ⟨(blk_cell BK129.out 0).trans rfl, (blk_cell BK129.out 1).trans rfl⟩ (fun hHeld => ?_)
           clear hK K
           refine norm_ (a' := ?_) ?_ ?_
           rotate_left
           · show Act.put _ (some 18) _ = _
             simp only [Act.put, List.setIfInBounds_toArray, List.set_cons_zero, List.set_cons_succ, i64_w, i32_w]
             rfl
           exact norm_ (by simp only [putAll, Act.put, List.setIfInBounds_toArray, List.set_cons_zero, List.set_cons_succ]) (hCont (v133) _ ⟨hHeld, (by (try apply RU); exact HO134.out), (blkU BK129.out), bel_⟩)
         · skip
           have hcv12 := own_string (P := Try.prog) Try.underlying54 Try.underlying5 Try.underlying9 (Kd.own_of_R HO134.out)
           refine value_ (w1 := ?_) (v := ?_) (by rfl) rfl ?_ ?_
           rotate_left 2
           · go_simp
             constructor
             · rfl
             · rfl
           clear hcv12
           refine hK.out _ _ ⟨(blk_cell BK129.out 0).trans rfl, (blk_cell BK129.out 1).trans rfl⟩ (fun hHeld => ?_)
           clear hK K
           refine norm_ (a' := ?_) ?_ ?_
           rotate_left
           · show Act.put _ (some 18) _ = _
             simp only [Act.put, List.setIfInBounds_toArray, List.set_cons_zero, List.set_cons_succ, i64_w, i32_w]
             rfl
           refine one_ (i := 2) (N := some 12) #[true, true, true, true, true, true, true, true, true, false, false] rfl rfl (one_of HT_.out (by kernel_rfl)) (by decide) (fun K hK => ?_)
           refine goes_ Try.func25 (by kernel_rfl) rfl #[.int .u64 a0_0] (by rfl) rfl rfl args_ ?_
           with_reducible refine (spoorref05_Eight.calls k a0_0 t131 _ A4.out).mono ?_
           rintro e w13 ⟨rfl, hb⟩
           refine ⟨_, rfl, ?_⟩
           have n0_ := Aside0.mk (Kd.R_below (by (try apply RU); exact HO134.out) hb)
           have n1_ := Aside0.mk (blk_below (blkU BK129.out) hb)
           have n2_ := Aside0.mk (below_step bel_ hb)
           clear HO134; clear BK129; clear HB
           have HO134 := n0_
           have BK129 := n1_
           have HB := n2_
           clear n0_ n1_ n2_
           (try clear hb)
           (try clear hb2)
           (try clear hk)
           (try clear hi)
           refine hK.out _ _ ⟨(blk_cell BK129.out 0).trans rfl, (blk_cell BK129.out 1).trans rfl⟩ (fun hHeld => ?_)
           clear hK K
           refine norm_ (a' := ?_) ?_ ?_
           rotate_left
           · show Act.put _ (some 12) _ = _
             simp only [Act.put, List.setIfInBounds_toArray, List.set_cons_zero, List.set_cons_succ, i64_w, i32_w]
             rfl
           exact norm_ (by simp only [putAll, Act.put, List.setIfInBounds_toArray, List.set_cons_zero, List.set_cons_succ]) (hCont (v133) _ ⟨hHeld, (by (try apply RU); exact HO134.out), (blkU BK129.out), bel_⟩)
     rintro v133 w14 ⟨hS_, h0_, h1_, h2_⟩
     have n0_ : Aside0 (Kd.R (Kd.int .u8) 5 w14 w.heap.size (fun _ => True) v133 y132) := ⟨h0_⟩
     have n1_ : Aside0 (w14.heap[gb129]? = some (.cells #[.int .u64 a0_0, .slice A0_1 l0_1.length c0_1] 25 (0, 0))) := ⟨h1_⟩
     have n2_ : Aside0 (Below w.heap.size w w14) := ⟨h2_⟩
     clear BK129; clear HB
     clear h0_ h1_ h2_
     have HO134 := n0_
     have BK129 := n1_
     have HB := n2_
     clear n0_ n1_ n2_
     have hHeld : w14.cell? ⟨gb129, 0, none⟩ = some (.int .u64 a0_0) ∧ w14.cell? ⟨gb129, 1, none⟩ = some (.slice A0_1 l0_1.length c0_1) := hS_
     refine norm_ (a' := ?_) ?_ ?_
     rotate_left
     · simp only [putAll, Act.put, List.setIfInBounds_toArray, List.set_cons_zero, List.set_cons_succ]
       rfl
     refine pure_ (i := 9) (N := some 19) (v := ?_) (a' := ?_) #[true, true, true, true, true, true, true, true, true, true, false] rfl rfl (any_of HT_.out (by kernel_rfl)) (fun _ _ _ h => h) (Or.inl ⟨by rfl, ?_⟩) ?_ ?_
     rotate_left
     · intro w'
       go_simp
       with_reducible rfl
     rotate_left
     · simp only [Act.put, List.setIfInBounds_toArray, List.set_cons_zero, List.set_cons_succ, i64_w, i32_w]
       rfl
     refine pure_ (i := 10) (N := some 4) (v := ?_) (a' := ?_) #[true, true, true, true, true, true, true, true, true, true, true] rfl rfl (any_of HT_.out (by kernel_rfl)) (fun _ _ _ h => h) (Or.inl ⟨by rfl, ?_⟩) ?_ ?_
     rotate_left
     · intro w'
       go_simp
       with_reducible rfl
     rotate_left
     · simp only [Act.put, List.setIfInBounds_toArray, List.set_cons_zero, List.set_cons_succ, i64_w, i32_w]
       rfl
     refine done_ (done_of HT_.out (by kernel_rfl)) ?_
     obtain ⟨hcz15_0, hcz15_1, hfz15_0, hfz15_1⟩ := c2_ BK129.out
     try go_wp2
     go_loopg [4, 23] k (fun kq v4 v23 w' => ∃ (x4_1 : ByteArray) (x23_1 : Int), v4 = .string x4_1 ∧ v23 = .int .i64 x23_1 ∧ Aside0 (spoorref06_Put.l0 kq x4_1 l0_1 (l0_1.length : Int) x23_1 a0_0 l0_1 = some (r1, r2)) ∧ Aside0 (kq ≤ k) ∧ Aside0 (w'.heap[gb129]? = some (.cells #[.int .u64 a0_0, (.slice A0_1 l0_1.length c0_1)] 25 (0, 0))) ∧ Aside0 (Below w.heap.size w w'))
     case atStart => exact ⟨(t131 ++ (strOfNums y132)), (0), (by first | rfl | (simp; done) | (simp [*]; done)), (by first | rfl | (simp; done) | (simp [*]; done)), H', ⟨Nat.le_refl _⟩, ⟨by refine blkU ?_; exact BK129.out⟩, ⟨bel_⟩⟩
     case round =>
      clear H'; try clear c1; try clear hcv1; try clear c2; try clear p2; try clear c3; try clear c3b0; try clear c3b1; try clear c5; try clear c5b0; try clear c5b1; try clear c5b2; try clear c9; try clear hcv12; try clear hcv13; try clear c14; try clear hcz15_0; try clear hcz15_1; try clear hcz7_0; try clear hcz7_1; try clear hfz15_0; try clear hfz15_1; try clear hfz7_0; try clear hfz7_1
      obtain ⟨x4_1, x23_1, rfl, rfl, HA, HK1, BK129, HB⟩ := hrel
      cases gk with
      | zero => exact absurd HA.out (by simp [spoorref06_Put.l0])
      | succ k1 =>
       have H := HA.out
       clear HA
       simp only [spoorref06_Put.l0] at H
       by_cases c16 : x23_1 < (l0_1.length : Int)
       · rw [if_pos c16] at H
         have c16b0 : decide (x23_1 < (l0_1.length : Int)) = true := decide_eq_true c16
         clear c16
         by_cases c17 : 0 ≤ x23_1
         · rw [if_pos c17] at H
           have c17b0 : decide (0 ≤ x23_1) = true := decide_eq_true c17
           clear c17
           by_cases c18 : x23_1 < (l0_1.length : Int)
           · rw [if_pos c18] at H
             have c18b0 : decide (x23_1 < (l0_1.length : Int)) = true := decide_eq_true c18
             clear c18
             obtain ⟨y137, hy137⟩ : ∃ y_ : List Int, y_ = (([((rd_T56 l0_1 x23_1).f0) % 256] : List Int)) := ⟨_, rfl⟩
             replace H : ((spoorref05_Eight.f k1 ((rd_T56 l0_1 x23_1).f1)).bind fun t140 => (if (strOfNums y137).size + t140.size ≤ 9223372036854775807 then ((spoorref02_Text.f ((wrap64 (((rd_T56 l0_1 x23_1).f2) + 1)) % 4294967296)).bind fun t141 => (if ((strOfNums y137) ++ t140).size + t141.size ≤ 9223372036854775807 then (if x4_1.size + (((strOfNums y137) ++ t140) ++ t141).size ≤ 9223372036854775807 then (spoorref06_Put.l0 k1 (x4_1 ++ (((strOfNums y137) ++ t140) ++ t141)) l0_1 (l0_1.length : Int) (wrap64 (x23_1 + 1)) a0_0 l0_1) else (none)) else (none))) else (none))) = some (r1, r2) := by first | (rw [hy137]; with_reducible exact H) | (have H2_ := (Option.bind_some _ _).symm.trans H; rw [hy137]; with_reducible exact H2_) | (have H2_ := (Option.bind_some _ _).symm.trans H; with_reducible exact H2_) | with_reducible exact H | (rw [hy137]; exact H) | exact H
             have Ny137 := Aside0.mk hy137
             clear hy137
             replace H := Option.bind_eq_some_iff.mp H
             obtain ⟨t140, A190, H⟩ := H
             replace H : (if (strOfNums y137).size + t140.size ≤ 9223372036854775807 then ((spoorref02_Text.f ((wrap64 (((rd_T56 l0_1 x23_1).f2) + 1)) % 4294967296)).bind fun t141 => (if ((strOfNums y137) ++ t140).size + t141.size ≤ 9223372036854775807 then (if x4_1.size + (((strOfNums y137) ++ t140) ++ t141).size ≤ 9223372036854775807 then (spoorref06_Put.l0 k1 (x4_1 ++ (((strOfNums y137) ++ t140) ++ t141)) l0_1 (l0_1.length : Int) (wrap64 (x23_1 + 1)) a0_0 l0_1) else (none)) else (none))) else (none)) = some (r1, r2) := H
             have A19 := Aside0.mk A190
             clear A190
             by_cases c20 : (strOfNums y137).size + t140.size ≤ 9223372036854775807
             · rw [if_pos c20] at H
               have c20b0 := eq_true c20
               have c20b1 : decide ((strOfNums y137).size + t140.size ≤ 9223372036854775807) = true := decide_eq_true c20
               try have c20b2 : (9223372036854775807 < (strOfNums y137).size + t140.size) = False := eq_false (Nat.not_lt.2 c20)
               replace H := Option.bind_eq_some_iff.mp H
               obtain ⟨t141, A210, H⟩ := H
               replace H : (if ((strOfNums y137) ++ t140).size + t141.size ≤ 9223372036854775807 then (if x4_1.size + (((strOfNums y137) ++ t140) ++ t141).size ≤ 9223372036854775807 then (spoorref06_Put.l0 k1 (x4_1 ++ (((strOfNums y137) ++ t140) ++ t141)) l0_1 (l0_1.length : Int) (wrap64 (x23_1 + 1)) a0_0 l0_1) else (none)) else (none)) = some (r1, r2) := H
               have A21 := Aside0.mk A210
               clear A210
               by_cases c22 : ((strOfNums y137) ++ t140).size + t141.size ≤ 9223372036854775807
               · rw [if_pos c22] at H
                 have c22b0 := eq_true c22
                 have c22b1 : decide (((strOfNums y137) ++ t140).size + t141.size ≤ 9223372036854775807) = true := decide_eq_true c22
                 try have c22b2 : (9223372036854775807 < ((strOfNums y137) ++ t140).size + t141.size) = False := eq_false (Nat.not_lt.2 c22)
                 try (have c22b4 := c22b2; simp only [ByteArray.size_append] at c22b4)
                 by_cases c23 : x4_1.size + (((strOfNums y137) ++ t140) ++ t141).size ≤ 9223372036854775807
                 · rw [if_pos c23] at H
                   have c23b0 := eq_true c23
                   have c23b1 : decide (x4_1.size + (((strOfNums y137) ++ t140) ++ t141).size ≤ 9223372036854775807) = true := decide_eq_true c23
                   try have c23b2 : (9223372036854775807 < x4_1.size + (((strOfNums y137) ++ t140) ++ t141).size) = False := eq_false (Nat.not_lt.2 c23)
                   try (have c23b4 := c23b2; simp only [ByteArray.size_append] at c23b4)
                   have H' := Aside0.mk H
                   clear H
                   have p135 : 0 ≤ (x23_1 : Int) := of_decide_eq_true (by first | (with_reducible assumption) | assumption)
                   have q135 : x23_1 < (l0_1.length : Int) := of_decide_eq_true (by first | (with_reducible assumption) | assumption)
                   obtain ⟨ad135, e135, hx135_0, hx135_1, hx135_2⟩ := at_T56 HR0_1.out x23_1 p135 q135
                   cases e135
                   replace hx135_0 := (HB.out.cell (World.block_lt_of_cell? w _ hx135_0)).trans hx135_0
                   replace hx135_1 := (HB.out.cell (World.block_lt_of_cell? w _ hx135_1)).trans hx135_1
                   replace hx135_2 := (HB.out.cell (World.block_lt_of_cell? w _ hx135_2)).trans hx135_2
                   replace p135 := eq_true p135
                   replace q135 := eq_true q135
                   try go_wp2_with (first | ((with_reducible refine gate_dst (N := 6) rfl ?_); refine box_event ?hg (N := 6) ?hd (cs := #[.int .i64 0, .int .u64 0, .int .i64 0]) (t := 56) ?hr ?_; (case hd => rfl); (case hg => rfl); (case hr => first | (go_simp; done) | (go_simp; rfl)); intro gb136 hg w24 hbox hb; have n0_ := Aside0.mk (blk_below (blkU BK129.out) hb); have n1_ := Aside0.mk (below_step bel_ hb); have n2_ := Aside0.mk (hbox); have n3_ := Aside0.mk ((by rw [hg]; exact (below_size bel_) : w.heap.size ≤ gb136)); have n4_ := Aside0.mk ((by rw [hg]; exact (below_size bel_) : w.heap.size ≤ gb136)); have n5_ := Aside0.mk ((by rw [hg]; exact Nat.ne_of_lt (blk_lt (blkU BK129.out)) : gb129 ≠ gb136)); have n6_ := Aside0.mk ((by rw [hg]; exact Nat.ne_of_gt (blk_lt (blkU BK129.out)) : gb136 ≠ gb129)); clear BK129; clear HB; have BK129 := n0_; have HB := n1_; have BK136 := n2_; have GW136 := n3_; have GE136 := n4_; have NB129_136 := n5_; have NB136_129 := n6_; clear n0_ n1_ n2_ n3_ n4_ n5_ n6_; clear hb hbox hg; have hnb25 := NB136_129.out; have hnc25 := NB129_136.out; obtain ⟨hcz26_0, hcz26_1, hcz26_2, hfz26_0, hfz26_1, hfz26_2⟩ := c3_ BK136.out))
                   have n0_ : Aside0 ((((w24.setCell ⟨gb136, 0, none⟩ (.int .i64 ((rd_T56 l0_1 x23_1).f0))).setCell ⟨gb136, 1, none⟩ (.int .u64 ((rd_T56 l0_1 x23_1).f1))).setCell ⟨gb136, 2, none⟩ (.int .i64 ((rd_T56 l0_1 x23_1).f2))).heap[gb129]? = some (.cells #[.int .u64 a0_0, .slice (some ad135) l0_1.length c0_1] 25 (0, 0))) := ⟨by refine blkU ?_; refine blk_far ?_ NB129_136.out _; refine blkU ?_; refine blk_far ?_ NB129_136.out _; refine blkU ?_; refine blk_far ?_ NB129_136.out _; refine blkU ?_; exact BK129.out⟩
                   have n1_ : Aside0 ((((w24.setCell ⟨gb136, 0, none⟩ (.int .i64 ((rd_T56 l0_1 x23_1).f0))).setCell ⟨gb136, 1, none⟩ (.int .u64 ((rd_T56 l0_1 x23_1).f1))).setCell ⟨gb136, 2, none⟩ (.int .i64 ((rd_T56 l0_1 x23_1).f2))).heap[gb136]? = some (.cells #[.int .i64 ((rd_T56 l0_1 x23_1).f0), .int .u64 ((rd_T56 l0_1 x23_1).f1), .int .i64 ((rd_T56 l0_1 x23_1).f2)] 56 (0, 0))) := ⟨by refine blkU ?_; refine blk_put (cs := #[.int .i64 ((rd_T56 l0_1 x23_1).f0), .int .u64 ((rd_T56 l0_1 x23_1).f1), .int .i64 0]) ?_ 2 _ rfl; refine blkU ?_; refine blk_put (cs := #[.int .i64 ((rd_T56 l0_1 x23_1).f0), .int .u64 0, .int .i64 0]) ?_ 1 _ rfl; refine blkU ?_; refine blk_put (cs := #[.int .i64 0, .int .u64 0, .int .i64 0]) ?_ 0 _ rfl; refine blkU ?_; exact BK136.out⟩
                   have n2_ : Aside0 (Below w.heap.size w (((w24.setCell ⟨gb136, 0, none⟩ (.int .i64 ((rd_T56 l0_1 x23_1).f0))).setCell ⟨gb136, 1, none⟩ (.int .u64 ((rd_T56 l0_1 x23_1).f1))).setCell ⟨gb136, 2, none⟩ (.int .i64 ((rd_T56 l0_1 x23_1).f2)))) := ⟨bel_⟩
                   (try clear BK129)
                   (try clear BK136)
                   (try clear HB)
                   generalize (((w24.setCell ⟨gb136, 0, none⟩ (.int .i64 ((rd_T56 l0_1 x23_1).f0))).setCell ⟨gb136, 1, none⟩ (.int .u64 ((rd_T56 l0_1 x23_1).f1))).setCell ⟨gb136, 2, none⟩ (.int .i64 ((rd_T56 l0_1 x23_1).f2))) = w27 at n0_ n1_ n2_ ⊢
                   have BK129 := n0_
                   have BK136 := n1_
                   have HB := n2_
                   clear n0_ n1_ n2_
                   have n0_ := Aside0.mk (blk_drew BK129.out)
                   have n1_ := Aside0.mk (blk_drew BK136.out)
                   have n2_ := Aside0.mk (below_drew1 HB.out)
                   clear BK129; clear BK136; clear HB
                   have BK129 := n0_
                   have BK136 := n1_
                   have HB := n2_
                   clear n0_ n1_ n2_
                   refine start_ (n := 18) (S := fun w' => w'.cell? ⟨gb136, 0, none⟩ = some (.int .i64 ((rd_T56 l0_1 x23_1).f0)) ∧ w'.cell? ⟨gb136, 1, none⟩ = some (.int .u64 ((rd_T56 l0_1 x23_1).f1)) ∧ w'.cell? ⟨gb136, 2, none⟩ = some (.int .i64 ((rd_T56 l0_1 x23_1).f2))) (ds := []) #[false, false, false, false, false, false, false, false, false, false, false, false, false, false, false, false, false, false] (by kernel_rfl) rfl rfl ⟨(blk_cell BK136.out 0).trans rfl, (blk_cell BK136.out 1).trans rfl, (blk_cell BK136.out 2).trans rfl⟩ (fun hHeld => ?_); refine with_tabW spoorref06_Put.tab7 spoorref06_Put.bits7 (fun HT_ HW_ => ?_)
                   generalize w27.drew = w28 at BK129 BK136 HB hHeld ⊢
                   refine pure_ (i := 0) (N := some 27) (v := ?_) (a' := ?_) #[true, false, false, false, false, false, false, false, false, false, false, false, false, false, false, false, false, false] rfl rfl (any_of HT_.out (by kernel_rfl)) (fun _ _ _ h => h) (Or.inl ⟨by rfl, ?_⟩) ?_ ?_
                   rotate_left
                   · intro w'
                     go_simp
                     with_reducible rfl
                   rotate_left
                   · simp only [Act.put, List.setIfInBounds_toArray, List.set_cons_zero, List.set_cons_succ, i64_w, i32_w]
                     rfl
                   refine pure_ (i := 1) (N := some 28) (v := ?_) (a' := ?_) #[true, true, false, false, false, false, false, false, false, false, false, false, false, false, false, false, false, false] rfl rfl (any_of HT_.out (by kernel_rfl)) (fun _ _ _ h => h) (Or.inl ⟨by rfl, ?_⟩) ?_ ?_
                   rotate_left
                   · intro w'
                     go_simp
                     with_reducible rfl
                   rotate_left
                   · simp only [Act.put, List.setIfInBounds_toArray, List.set_cons_zero, List.set_cons_succ, i64_w, i32_w]
                     rfl
                   refine pure_ (i := 6) (N := some 33) (v := ?_) (a' := ?_) #[true, true, false, false, false, false, true, false, false, false, false, false, false, false, false, false, false, false] rfl rfl (any_of HT_.out (by kernel_rfl)) (fun _ _ _ h => h) (Or.inl ⟨by rfl, ?_⟩) ?_ ?_
                   rotate_left
                   · intro w'
                     go_simp
                     with_reducible rfl
                   rotate_left
                   · simp only [Act.put, List.setIfInBounds_toArray, List.set_cons_zero, List.set_cons_succ, i64_w, i32_w]
                     rfl
                   refine pure_ (i := 10) (N := some 37) (v := ?_) (a' := ?_) #[true, true, false, false, false, false, true, false, false, false, true, false, false, false, false, false, false, false] rfl rfl (any_of HT_.out (by kernel_rfl)) (fun _ _ _ h => h) (Or.inl ⟨by rfl, ?_⟩) ?_ ?_
                   rotate_left
                   · intro w'
                     go_simp
                     with_reducible rfl
                   rotate_left
                   · simp only [Act.put, List.setIfInBounds_toArray, List.set_cons_zero, List.set_cons_succ, i64_w, i32_w]
                     rfl
                   refine take_ (i := 2) (N := some 29) (v := ?_) (a' := ?_) #[true, true, true, false, false, false, true, false, false, false, true, false, false, false, false, false, false, false] rfl rfl (take_ofW HT_.out HW_.out (by kernel_rfl)) (fun _ _ _ h => h) (Or.inl ⟨by rfl, ?_⟩) hHeld ?_ ?_
                   rotate_left
                   · rintro w' ⟨s0, s1, s2⟩
                     go_simp
                     with_reducible rfl
                   rotate_left
                   · simp only [Act.put, List.setIfInBounds_toArray, List.set_cons_zero, List.set_cons_succ, i64_w, i32_w]
                     rfl
                   refine pure_ (i := 3) (N := some 30) (v := ?_) (a' := ?_) #[true, true, true, true, false, false, true, false, false, false, true, false, false, false, false, false, false, false] rfl rfl (any_of HT_.out (by kernel_rfl)) (fun _ _ _ h => h) (Or.inl ⟨by rfl, ?_⟩) ?_ ?_
                   rotate_left
                   · intro w'
                     go_simp
                     with_reducible rfl
                   rotate_left
                   · simp only [Act.put, List.setIfInBounds_toArray, List.set_cons_zero, List.set_cons_succ, i64_w, i32_w]
                     rfl
                   refine take_ (i := 7) (N := some 34) (v := ?_) (a' := ?_) #[true, true, true, true, false, false, true, true, false, false, true, false, false, false, false, false, false, false] rfl rfl (take_ofW HT_.out HW_.out (by kernel_rfl)) (fun _ _ _ h => h) (Or.inl ⟨by rfl, ?_⟩) hHeld ?_ ?_
                   rotate_left
                   · rintro w' ⟨s0, s1, s2⟩
                     go_simp
                     with_reducible rfl
                   rotate_left
                   · simp only [Act.put, List.setIfInBounds_toArray, List.set_cons_zero, List.set_cons_succ, i64_w, i32_w]
                     rfl
                   refine take_ (i := 11) (N := some 38) (v := ?_) (a' := ?_) #[true, true, true, true, false, false, true, true, false, false, true, true, false, false, false, false, false, false] rfl rfl (take_ofW HT_.out HW_.out (by kernel_rfl)) (fun _ _ _ h => h) (Or.inl ⟨by rfl, ?_⟩) hHeld ?_ ?_
                   rotate_left
                   · rintro w' ⟨s0, s1, s2⟩
                     go_simp
                     with_reducible rfl
                   rotate_left
                   · simp only [Act.put, List.setIfInBounds_toArray, List.set_cons_zero, List.set_cons_succ, i64_w, i32_w]
                     rfl
                   refine pure_ (i := 12) (N := some 39) (v := ?_) (a' := ?_) #[true, true, true, true, false, false, true, true, false, false, true, true, true, false, false, false, false, false] rfl rfl (any_of HT_.out (by kernel_rfl)) (fun _ _ _ h => h) (Or.inl ⟨by rfl, ?_⟩) ?_ ?_
                   rotate_left
                   · intro w'
                     go_simp
                     with_reducible rfl
                   rotate_left
                   · simp only [Act.put, List.setIfInBounds_toArray, List.set_cons_zero, List.set_cons_succ, i64_w, i32_w]
                     rfl
                   refine pure_ (i := 13) (N := some 40) (v := ?_) (a' := ?_) #[true, true, true, true, false, false, true, true, false, false, true, true, true, true, false, false, false, false] rfl rfl (any_of HT_.out (by kernel_rfl)) (fun _ _ _ h => h) (Or.inl ⟨by rfl, ?_⟩) ?_ ?_
                   rotate_left
                   · intro w'
                     go_simp
                     with_reducible rfl
                   rotate_left
                   · simp only [Act.put, List.setIfInBounds_toArray, List.set_cons_zero, List.set_cons_succ, i64_w, i32_w]
                     rfl
                   refine join_ (σ := Value) 3 #[true, true, true, true, true, true, true, true, true, true, true, true, true, true, true, false, false, false] (fun s_ => [(31, s_), (32, .string (strOfNums y137)), (35, .string t140), (41, .string t141), (36, .string ((strOfNums y137) ++ t140))]) (fun s_ w' => (w'.cell? ⟨gb136, 0, none⟩ = some (.int .i64 ((rd_T56 l0_1 x23_1).f0)) ∧ w'.cell? ⟨gb136, 1, none⟩ = some (.int .u64 ((rd_T56 l0_1 x23_1).f1)) ∧ w'.cell? ⟨gb136, 2, none⟩ = some (.int .i64 ((rd_T56 l0_1 x23_1).f2))) ∧ (Kd.R (Kd.int .u8) 5 w' w.heap.size (fun _ => True) s_ y137) ∧ (w'.heap[gb129]? = some (.cells #[.int .u64 a0_0, .slice (some ad135) l0_1.length c0_1] 25 (0, 0))) ∧ (w'.heap[gb136]? = some (.cells #[.int .i64 ((rd_T56 l0_1 x23_1).f0), .int .u64 ((rd_T56 l0_1 x23_1).f1), .int .i64 ((rd_T56 l0_1 x23_1).f2)] 56 (0, 0))) ∧ (Below w.heap.size w w')) ?_ ?_
                   rotate_left
                   · intro hJ4_5_8_14
                     refine join_ (σ := Value) 4 #[true, true, true, true, true, true, true, true, true, true, true, true, true, true, false, false, false, false] (fun s_ => [(31, s_), (32, .string (strOfNums y137)), (35, .string t140), (36, .string ((strOfNums y137) ++ t140))]) (fun s_ w' => (w'.cell? ⟨gb136, 0, none⟩ = some (.int .i64 ((rd_T56 l0_1 x23_1).f0)) ∧ w'.cell? ⟨gb136, 1, none⟩ = some (.int .u64 ((rd_T56 l0_1 x23_1).f1)) ∧ w'.cell? ⟨gb136, 2, none⟩ = some (.int .i64 ((rd_T56 l0_1 x23_1).f2))) ∧ (Kd.R (Kd.int .u8) 5 w' w.heap.size (fun _ => True) s_ y137) ∧ (w'.heap[gb129]? = some (.cells #[.int .u64 a0_0, .slice (some ad135) l0_1.length c0_1] 25 (0, 0))) ∧ (w'.heap[gb136]? = some (.cells #[.int .i64 ((rd_T56 l0_1 x23_1).f0), .int .u64 ((rd_T56 l0_1 x23_1).f1), .int .i64 ((rd_T56 l0_1 x23_1).f2)] 56 (0, 0))) ∧ (Below w.heap.size w w')) ?_ ?_
                     rotate_left
                     · intro hJ4_5_8
                       refine join_ (σ := Value) 5 #[true, true, true, true, true, false, true, true, true, false, true, true, true, true, true, false, false, false] (fun s_ => [(31, s_), (35, .string t140), (41, .string t141)]) (fun s_ w' => (w'.cell? ⟨gb136, 0, none⟩ = some (.int .i64 ((rd_T56 l0_1 x23_1).f0)) ∧ w'.cell? ⟨gb136, 1, none⟩ = some (.int .u64 ((rd_T56 l0_1 x23_1).f1)) ∧ w'.cell? ⟨gb136, 2, none⟩ = some (.int .i64 ((rd_T56 l0_1 x23_1).f2))) ∧ (Kd.R (Kd.int .u8) 5 w' w.heap.size (fun _ => True) s_ y137) ∧ (w'.heap[gb129]? = some (.cells #[.int .u64 a0_0, .slice (some ad135) l0_1.length c0_1] 25 (0, 0))) ∧ (w'.heap[gb136]? = some (.cells #[.int .i64 ((rd_T56 l0_1 x23_1).f0), .int .u64 ((rd_T56 l0_1 x23_1).f1), .int .i64 ((rd_T56 l0_1 x23_1).f2)] 56 (0, 0))) ∧ (Below w.heap.size w w')) ?_ ?_
                       rotate_left
                       · intro hJ4_8_14
                         refine join_ (σ := Value) 6 #[true, true, true, true, true, true, true, true, false, false, true, true, true, true, false, false, false, false] (fun s_ => [(31, s_), (32, .string (strOfNums y137))]) (fun s_ w' => (w'.cell? ⟨gb136, 0, none⟩ = some (.int .i64 ((rd_T56 l0_1 x23_1).f0)) ∧ w'.cell? ⟨gb136, 1, none⟩ = some (.int .u64 ((rd_T56 l0_1 x23_1).f1)) ∧ w'.cell? ⟨gb136, 2, none⟩ = some (.int .i64 ((rd_T56 l0_1 x23_1).f2))) ∧ (Kd.R (Kd.int .u8) 5 w' w.heap.size (fun _ => True) s_ y137) ∧ (w'.heap[gb129]? = some (.cells #[.int .u64 a0_0, .slice (some ad135) l0_1.length c0_1] 25 (0, 0))) ∧ (w'.heap[gb136]? = some (.cells #[.int .i64 ((rd_T56 l0_1 x23_1).f0), .int .u64 ((rd_T56 l0_1 x23_1).f1), .int .i64 ((rd_T56 l0_1 x23_1).f2)] 56 (0, 0))) ∧ (Below w.heap.size w w')) ?_ ?_
                         rotate_left
                         · intro hJ4_5
                           refine join_ (σ := Value) 6 #[true, true, true, true, true, false, true, true, true, false, true, true, true, true, false, false, false, false] (fun s_ => [(31, s_), (35, .string t140)]) (fun s_ w' => (w'.cell? ⟨gb136, 0, none⟩ = some (.int .i64 ((rd_T56 l0_1 x23_1).f0)) ∧ w'.cell? ⟨gb136, 1, none⟩ = some (.int .u64 ((rd_T56 l0_1 x23_1).f1)) ∧ w'.cell? ⟨gb136, 2, none⟩ = some (.int .i64 ((rd_T56 l0_1 x23_1).f2))) ∧ (Kd.R (Kd.int .u8) 5 w' w.heap.size (fun _ => True) s_ y137) ∧ (w'.heap[gb129]? = some (.cells #[.int .u64 a0_0, .slice (some ad135) l0_1.length c0_1] 25 (0, 0))) ∧ (w'.heap[gb136]? = some (.cells #[.int .i64 ((rd_T56 l0_1 x23_1).f0), .int .u64 ((rd_T56 l0_1 x23_1).f1), .int .i64 ((rd_T56 l0_1 x23_1).f2)] 56 (0, 0))) ∧ (Below w.heap.size w w')) ?_ ?_
                           rotate_left
                           · intro hJ4_8
                             refine join_ (σ := Unit) 6 #[true, true, true, true, false, false, true, true, true, false, true, true, true, true, true, false, false, false] (fun s_ => [(35, .string t140), (41, .string t141)]) (fun s_ w' => (w'.cell? ⟨gb136, 0, none⟩ = some (.int .i64 ((rd_T56 l0_1 x23_1).f0)) ∧ w'.cell? ⟨gb136, 1, none⟩ = some (.int .u64 ((rd_T56 l0_1 x23_1).f1)) ∧ w'.cell? ⟨gb136, 2, none⟩ = some (.int .i64 ((rd_T56 l0_1 x23_1).f2))) ∧ (w'.heap[gb129]? = some (.cells #[.int .u64 a0_0, .slice (some ad135) l0_1.length c0_1] 25 (0, 0))) ∧ (w'.heap[gb136]? = some (.cells #[.int .i64 ((rd_T56 l0_1 x23_1).f0), .int .u64 ((rd_T56 l0_1 x23_1).f1), .int .i64 ((rd_T56 l0_1 x23_1).f2)] 56 (0, 0))) ∧ (Below w.heap.size w w')) ?_ ?_
                             rotate_left
                             · intro hJ8_14
                               refine join_ (σ := Value) 7 #[true, true, true, true, true, false, true, true, false, false, true, true, true, true, false, false, false, false] (fun s_ => [(31, s_)]) (fun s_ w' => (w'.cell? ⟨gb136, 0, none⟩ = some (.int .i64 ((rd_T56 l0_1 x23_1).f0)) ∧ w'.cell? ⟨gb136, 1, none⟩ = some (.int .u64 ((rd_T56 l0_1 x23_1).f1)) ∧ w'.cell? ⟨gb136, 2, none⟩ = some (.int .i64 ((rd_T56 l0_1 x23_1).f2))) ∧ (Kd.R (Kd.int .u8) 5 w' w.heap.size (fun _ => True) s_ y137) ∧ (w'.heap[gb129]? = some (.cells #[.int .u64 a0_0, .slice (some ad135) l0_1.length c0_1] 25 (0, 0))) ∧ (w'.heap[gb136]? = some (.cells #[.int .i64 ((rd_T56 l0_1 x23_1).f0), .int .u64 ((rd_T56 l0_1 x23_1).f1), .int .i64 ((rd_T56 l0_1 x23_1).f2)] 56 (0, 0))) ∧ (Below w.heap.size w w')) ?_ ?_
                               rotate_left
                               · intro hJ4
                                 refine join_ (σ := Unit) 7 #[true, true, true, true, false, false, true, true, true, false, true, true, true, true, false, false, false, false] (fun s_ => [(35, .string t140)]) (fun s_ w' => (w'.cell? ⟨gb136, 0, none⟩ = some (.int .i64 ((rd_T56 l0_1 x23_1).f0)) ∧ w'.cell? ⟨gb136, 1, none⟩ = some (.int .u64 ((rd_T56 l0_1 x23_1).f1)) ∧ w'.cell? ⟨gb136, 2, none⟩ = some (.int .i64 ((rd_T56 l0_1 x23_1).f2))) ∧ (w'.heap[gb129]? = some (.cells #[.int .u64 a0_0, .slice (some ad135) l0_1.length c0_1] 25 (0, 0))) ∧ (w'.heap[gb136]? = some (.cells #[.int .i64 ((rd_T56 l0_1 x23_1).f0), .int .u64 ((rd_T56 l0_1 x23_1).f1), .int .i64 ((rd_T56 l0_1 x23_1).f2)] 56 (0, 0))) ∧ (Below w.heap.size w w')) ?_ ?_
                                 rotate_left
                                 · intro hJ8
                                   refine two_ (i := 4) (j := 8) (Ni := some 31) (Nj := some 35) #[true, true, true, true, true, false, true, true, false, false, true, true, true, true, false, false, false, false] #[true, true, true, true, false, false, true, true, true, false, true, true, true, true, false, false, false, false] rfl rfl rfl rfl (two_of HT_.out (by kernel_rfl)) (by decide) (by decide) (fun K hK => ?_) (fun K hK => ?_)
                                   · skip
                                     refine Kd.R_lit_step (Kd.int .u8) _ 5 ?hg (N := 31) ?hd (xs := ([((rd_T56 l0_1 x23_1).f0) % 256] : List Int)) (inner := [.int .u8 (((rd_T56 l0_1 x23_1).f0) % 256)]) (ok := fun _ => True) (okp := fun _ => True) ?hr ?hp (fun _ hk => hk) trivial (Below.refl _ _) (Nat.le_refl _) (by simp) ?_; (case hd => rfl); (case hg => rfl); (case hr => first | (go_simp; done) | (go_simp; rfl)); (case hp => exact (Reps.one (show Kd.M (Kd.int .u8) _ _ _ (((rd_T56 l0_1 x23_1).f0) % 256) [.int .u8 (((rd_T56 l0_1 x23_1).f0) % 256)] from rfl) (Reps.none _ _)))
                                     intro v138 w29 ho30 hb hg_ hnew_
                                     clear hg_ hnew_
                                     (first | rw [← Ny137.out] at ho30 | (simp only [Int.reduceToNat] at ho30; rw [← Ny137.out] at ho30))
                                     have n0_ := Aside0.mk (Kd.R_lower ho30 (below_size bel_))
                                     have n1_ := Aside0.mk (blk_below (blkU BK129.out) hb)
                                     have n2_ := Aside0.mk (blk_below (blkU BK136.out) hb)
                                     have n3_ := Aside0.mk (below_step bel_ hb)
                                     clear BK129; clear BK136; clear HB
                                     have HO139 := n0_
                                     have BK129 := n1_
                                     have BK136 := n2_
                                     have HB := n3_
                                     clear n0_ n1_ n2_ n3_
                                     clear hb ho30
                                     refine hK.out _ _ ⟨(blk_cell BK136.out 0).trans rfl, (blk_cell BK136.out 1).trans rfl, (blk_cell BK136.out 2).trans rfl⟩ (fun hHeld => ?_)
                                     clear hK K
                                     refine norm_ (a' := ?_) ?_ ?_
                                     rotate_left
                                     · show Act.put _ (some 31) _ = _
                                       simp only [Act.put, List.setIfInBounds_toArray, List.set_cons_zero, List.set_cons_succ, i64_w, i32_w]
                                       rfl
                                     exact norm_ (by first | (simp only [putAll, Act.put, List.setIfInBounds_toArray, List.set_cons_zero, List.set_cons_succ]; done) | (simp only [putAll, Act.put, List.setIfInBounds_toArray, List.set_cons_zero, List.set_cons_succ]; rfl)) (hJ4 (v138) _ ⟨hHeld, (by (try apply RU); exact HO139.out), (blkU BK129.out), (blkU BK136.out), bel_⟩)
                                   · skip
                                     refine goes_ Try.func25 (by kernel_rfl) rfl #[.int .u64 ((rd_T56 l0_1 x23_1).f1)] (by rfl) rfl rfl args_ ?_
                                     with_reducible refine (spoorref05_Eight.calls k1 ((rd_T56 l0_1 x23_1).f1) t140 _ A19.out).mono ?_
                                     rintro e w29 ⟨rfl, hb⟩
                                     refine ⟨_, rfl, ?_⟩
                                     have n0_ := Aside0.mk (blk_below (blkU BK129.out) hb)
                                     have n1_ := Aside0.mk (blk_below (blkU BK136.out) hb)
                                     have n2_ := Aside0.mk (below_step bel_ hb)
                                     clear BK129; clear BK136; clear HB
                                     have BK129 := n0_
                                     have BK136 := n1_
                                     have HB := n2_
                                     clear n0_ n1_ n2_
                                     (try clear hb)
                                     (try clear hb2)
                                     (try clear hk)
                                     (try clear hi)
                                     refine hK.out _ _ ⟨(blk_cell BK136.out 0).trans rfl, (blk_cell BK136.out 1).trans rfl, (blk_cell BK136.out 2).trans rfl⟩ (fun hHeld => ?_)
                                     clear hK K
                                     refine norm_ (a' := ?_) ?_ ?_
                                     rotate_left
                                     · show Act.put _ (some 35) _ = _
                                       simp only [Act.put, List.setIfInBounds_toArray, List.set_cons_zero, List.set_cons_succ, i64_w, i32_w]
                                       rfl
                                     exact norm_ (by first | (simp only [putAll, Act.put, List.setIfInBounds_toArray, List.set_cons_zero, List.set_cons_succ]; done) | (simp only [putAll, Act.put, List.setIfInBounds_toArray, List.set_cons_zero, List.set_cons_succ]; rfl)) (hJ8 () _ ⟨hHeld, (blkU BK129.out), (blkU BK136.out), bel_⟩)
                                 · skip
                                   rintro _ w30 ⟨hS_, h0_, h1_, h2_⟩
                                   have n0_ : Aside0 (w30.heap[gb129]? = some (.cells #[.int .u64 a0_0, .slice (some ad135) l0_1.length c0_1] 25 (0, 0))) := ⟨h0_⟩
                                   have n1_ : Aside0 (w30.heap[gb136]? = some (.cells #[.int .i64 ((rd_T56 l0_1 x23_1).f0), .int .u64 ((rd_T56 l0_1 x23_1).f1), .int .i64 ((rd_T56 l0_1 x23_1).f2)] 56 (0, 0))) := ⟨h1_⟩
                                   have n2_ : Aside0 (Below w.heap.size w w30) := ⟨h2_⟩
                                   clear BK129; clear BK136; clear HB
                                   clear h0_ h1_ h2_
                                   have BK129 := n0_
                                   have BK136 := n1_
                                   have HB := n2_
                                   clear n0_ n1_ n2_
                                   have hHeld : w30.cell? ⟨gb136, 0, none⟩ = some (.int .i64 ((rd_T56 l0_1 x23_1).f0)) ∧ w30.cell? ⟨gb136, 1, none⟩ = some (.int .u64 ((rd_T56 l0_1 x23_1).f1)) ∧ w30.cell? ⟨gb136, 2, none⟩ = some (.int .i64 ((rd_T56 l0_1 x23_1).f2)) := hS_
                                   refine norm_ (a' := ?_) ?_ ?_
                                   rotate_left
                                   · simp only [putAll, Act.put, List.setIfInBounds_toArray, List.set_cons_zero, List.set_cons_succ]
                                     rfl
                                   refine two_ (i := 4) (j := 14) (Ni := some 31) (Nj := some 41) #[true, true, true, true, true, false, true, true, true, false, true, true, true, true, false, false, false, false] #[true, true, true, true, false, false, true, true, true, false, true, true, true, true, true, false, false, false] rfl rfl rfl rfl (two_of HT_.out (by kernel_rfl)) (by decide) (by decide) (fun K hK => ?_) (fun K hK => ?_)
                                   · skip
                                     refine Kd.R_lit_step (Kd.int .u8) _ 5 ?hg (N := 31) ?hd (xs := ([((rd_T56 l0_1 x23_1).f0) % 256] : List Int)) (inner := [.int .u8 (((rd_T56 l0_1 x23_1).f0) % 256)]) (ok := fun _ => True) (okp := fun _ => True) ?hr ?hp (fun _ hk => hk) trivial (Below.refl _ _) (Nat.le_refl _) (by simp) ?_; (case hd => rfl); (case hg => rfl); (case hr => first | (go_simp; done) | (go_simp; rfl)); (case hp => exact (Reps.one (show Kd.M (Kd.int .u8) _ _ _ (((rd_T56 l0_1 x23_1).f0) % 256) [.int .u8 (((rd_T56 l0_1 x23_1).f0) % 256)] from rfl) (Reps.none _ _)))
                                     intro v138 w31 ho32 hb hg_ hnew_
                                     clear hg_ hnew_
                                     (first | rw [← Ny137.out] at ho32 | (simp only [Int.reduceToNat] at ho32; rw [← Ny137.out] at ho32))
                                     have n0_ := Aside0.mk (Kd.R_lower ho32 (below_size bel_))
                                     have n1_ := Aside0.mk (blk_below (blkU BK129.out) hb)
                                     have n2_ := Aside0.mk (blk_below (blkU BK136.out) hb)
                                     have n3_ := Aside0.mk (below_step bel_ hb)
                                     clear BK129; clear BK136; clear HB
                                     have HO139 := n0_
                                     have BK129 := n1_
                                     have BK136 := n2_
                                     have HB := n3_
                                     clear n0_ n1_ n2_ n3_
                                     clear hb ho32
                                     refine hK.out _ _ ⟨(blk_cell BK136.out 0).trans rfl, (blk_cell BK136.out 1).trans rfl, (blk_cell BK136.out 2).trans rfl⟩ (fun hHeld => ?_)
                                     clear hK K
                                     refine norm_ (a' := ?_) ?_ ?_
                                     rotate_left
                                     · show Act.put _ (some 31) _ = _
                                       simp only [Act.put, List.setIfInBounds_toArray, List.set_cons_zero, List.set_cons_succ, i64_w, i32_w]
                                       rfl
                                     exact norm_ (by first | (simp only [putAll, Act.put, List.setIfInBounds_toArray, List.set_cons_zero, List.set_cons_succ]; done) | (simp only [putAll, Act.put, List.setIfInBounds_toArray, List.set_cons_zero, List.set_cons_succ]; rfl)) (hJ4_8 (v138) _ ⟨hHeld, (by (try apply RU); exact HO139.out), (blkU BK129.out), (blkU BK136.out), bel_⟩)
                                   · skip
                                     refine goes_ Try.func26 (by kernel_rfl) rfl #[.int .u32 ((wrap64 (((rd_T56 l0_1 x23_1).f2) + 1)) % 4294967296)] (by rfl) rfl rfl args_ ?_
                                     with_reducible refine (spoorref02_Text.calls ((wrap64 (((rd_T56 l0_1 x23_1).f2) + 1)) % 4294967296) t141 _ A21.out).mono ?_
                                     rintro e w31 ⟨rfl, hb⟩
                                     refine ⟨_, rfl, ?_⟩
                                     have n0_ := Aside0.mk (blk_below (blkU BK129.out) hb)
                                     have n1_ := Aside0.mk (blk_below (blkU BK136.out) hb)
                                     have n2_ := Aside0.mk (below_step bel_ hb)
                                     clear BK129; clear BK136; clear HB
                                     have BK129 := n0_
                                     have BK136 := n1_
                                     have HB := n2_
                                     clear n0_ n1_ n2_
                                     (try clear hb)
                                     (try clear hb2)
                                     (try clear hk)
                                     (try clear hi)
                                     refine hK.out _ _ ⟨(blk_cell BK136.out 0).trans rfl, (blk_cell BK136.out 1).trans rfl, (blk_cell BK136.out 2).trans rfl⟩ (fun hHeld => ?_)
                                     clear hK K
                                     refine norm_ (a' := ?_) ?_ ?_
                                     rotate_left
                                     · show Act.put _ (some 41) _ = _
                                       simp only [Act.put, List.setIfInBounds_toArray, List.set_cons_zero, List.set_cons_succ, i64_w, i32_w]
                                       rfl
                                     exact norm_ (by first | (simp only [putAll, Act.put, List.setIfInBounds_toArray, List.set_cons_zero, List.set_cons_succ]; done) | (simp only [putAll, Act.put, List.setIfInBounds_toArray, List.set_cons_zero, List.set_cons_succ]; rfl)) (hJ8_14 () _ ⟨hHeld, (blkU BK129.out), (blkU BK136.out), bel_⟩)
                               · skip
                                 rintro v138 w31 ⟨hS_, h0_, h1_, h2_, h3_⟩
                                 have n0_ : Aside0 (Kd.R (Kd.int .u8) 5 w31 w.heap.size (fun _ => True) v138 y137) := ⟨h0_⟩
                                 have n1_ : Aside0 (w31.heap[gb129]? = some (.cells #[.int .u64 a0_0, .slice (some ad135) l0_1.length c0_1] 25 (0, 0))) := ⟨h1_⟩
                                 have n2_ : Aside0 (w31.heap[gb136]? = some (.cells #[.int .i64 ((rd_T56 l0_1 x23_1).f0), .int .u64 ((rd_T56 l0_1 x23_1).f1), .int .i64 ((rd_T56 l0_1 x23_1).f2)] 56 (0, 0))) := ⟨h2_⟩
                                 have n3_ : Aside0 (Below w.heap.size w w31) := ⟨h3_⟩
                                 clear BK129; clear BK136; clear HB
                                 clear h0_ h1_ h2_ h3_
                                 have HO139 := n0_
                                 have BK129 := n1_
                                 have BK136 := n2_
                                 have HB := n3_
                                 clear n0_ n1_ n2_ n3_
                                 have hHeld : w31.cell? ⟨gb136, 0, none⟩ = some (.int .i64 ((rd_T56 l0_1 x23_1).f0)) ∧ w31.cell? ⟨gb136, 1, none⟩ = some (.int .u64 ((rd_T56 l0_1 x23_1).f1)) ∧ w31.cell? ⟨gb136, 2, none⟩ = some (.int .i64 ((rd_T56 l0_1 x23_1).f2)) := hS_
                                 refine norm_ (a' := ?_) ?_ ?_
                                 rotate_left
                                 · simp only [putAll, Act.put, List.setIfInBounds_toArray, List.set_cons_zero, List.set_cons_succ]
                                   rfl
                                 refine two_ (i := 5) (j := 8) (Ni := some 32) (Nj := some 35) #[true, true, true, true, true, true, true, true, false, false, true, true, true, true, false, false, false, false] #[true, true, true, true, true, false, true, true, true, false, true, true, true, true, false, false, false, false] rfl rfl rfl rfl (two_of HT_.out (by kernel_rfl)) (by decide) (by decide) (fun K hK => ?_) (fun K hK => ?_)
                                 · skip
                                   have hcv32 := own_string (P := Try.prog) Try.underlying54 Try.underlying5 Try.underlying9 (Kd.own_of_R HO139.out)
                                   refine value_ (w1 := ?_) (v := ?_) (by rfl) rfl ?_ ?_
                                   rotate_left 2
                                   · go_simp
                                     constructor
                                     · rfl
                                     · rfl
                                   clear hcv32
                                   refine hK.out _ _ ⟨(blk_cell BK136.out 0).trans rfl, (blk_cell BK136.out 1).trans rfl, (blk_cell BK136.out 2).trans rfl⟩ (fun hHeld => ?_)
                                   clear hK K
                                   refine norm_ (a' := ?_) ?_ ?_
                                   rotate_left
                                   · show Act.put _ (some 32) _ = _
                                     simp only [Act.put, List.setIfInBounds_toArray, List.set_cons_zero, List.set_cons_succ, i64_w, i32_w]
                                     rfl
                                   exact norm_ (by first | (simp only [putAll, Act.put, List.setIfInBounds_toArray, List.set_cons_zero, List.set_cons_succ]; done) | (simp only [putAll, Act.put, List.setIfInBounds_toArray, List.set_cons_zero, List.set_cons_succ]; rfl)) (hJ4_5 (v138) _ ⟨hHeld, (by (try apply RU); exact HO139.out), (blkU BK129.out), (blkU BK136.out), bel_⟩)
                                 · skip
                                   refine goes_ Try.func25 (by kernel_rfl) rfl #[.int .u64 ((rd_T56 l0_1 x23_1).f1)] (by rfl) rfl rfl args_ ?_
                                   with_reducible refine (spoorref05_Eight.calls k1 ((rd_T56 l0_1 x23_1).f1) t140 _ A19.out).mono ?_
                                   rintro e w32 ⟨rfl, hb⟩
                                   refine ⟨_, rfl, ?_⟩
                                   have n0_ := Aside0.mk (Kd.R_below (by (try apply RU); exact HO139.out) hb)
                                   have n1_ := Aside0.mk (blk_below (blkU BK129.out) hb)
                                   have n2_ := Aside0.mk (blk_below (blkU BK136.out) hb)
                                   have n3_ := Aside0.mk (below_step bel_ hb)
                                   clear HO139; clear BK129; clear BK136; clear HB
                                   have HO139 := n0_
                                   have BK129 := n1_
                                   have BK136 := n2_
                                   have HB := n3_
                                   clear n0_ n1_ n2_ n3_
                                   (try clear hb)
                                   (try clear hb2)
                                   (try clear hk)
                                   (try clear hi)
                                   refine hK.out _ _ ⟨(blk_cell BK136.out 0).trans rfl, (blk_cell BK136.out 1).trans rfl, (blk_cell BK136.out 2).trans rfl⟩ (fun hHeld => ?_)
                                   clear hK K
                                   refine norm_ (a' := ?_) ?_ ?_
                                   rotate_left
                                   · show Act.put _ (some 35) _ = _
                                     simp only [Act.put, List.setIfInBounds_toArray, List.set_cons_zero, List.set_cons_succ, i64_w, i32_w]
                                     rfl
                                   exact norm_ (by first | (simp only [putAll, Act.put, List.setIfInBounds_toArray, List.set_cons_zero, List.set_cons_succ]; done) | (simp only [putAll, Act.put, List.setIfInBounds_toArray, List.set_cons_zero, List.set_cons_succ]; rfl)) (hJ4_8 (v138) _ ⟨hHeld, (by (try apply RU); exact HO139.out), (blkU BK129.out), (blkU BK136.out), bel_⟩)
                             · skip
                               rintro _ w31 ⟨hS_, h0_, h1_, h2_⟩
                               have n0_ : Aside0 (w31.heap[gb129]? = some (.cells #[.int .u64 a0_0, .slice (some ad135) l0_1.length c0_1] 25 (0, 0))) := ⟨h0_⟩
                               have n1_ : Aside0 (w31.heap[gb136]? = some (.cells #[.int .i64 ((rd_T56 l0_1 x23_1).f0), .int .u64 ((rd_T56 l0_1 x23_1).f1), .int .i64 ((rd_T56 l0_1 x23_1).f2)] 56 (0, 0))) := ⟨h1_⟩
                               have n2_ : Aside0 (Below w.heap.size w w31) := ⟨h2_⟩
                               clear BK129; clear BK136; clear HB
                               clear h0_ h1_ h2_
                               have BK129 := n0_
                               have BK136 := n1_
                               have HB := n2_
                               clear n0_ n1_ n2_
                               have hHeld : w31.cell? ⟨gb136, 0, none⟩ = some (.int .i64 ((rd_T56 l0_1 x23_1).f0)) ∧ w31.cell? ⟨gb136, 1, none⟩ = some (.int .u64 ((rd_T56 l0_1 x23_1).f1)) ∧ w31.cell? ⟨gb136, 2, none⟩ = some (.int .i64 ((rd_T56 l0_1 x23_1).f2)) := hS_
                               refine norm_ (a' := ?_) ?_ ?_
                               rotate_left
                               · simp only [putAll, Act.put, List.setIfInBounds_toArray, List.set_cons_zero, List.set_cons_succ]
                                 rfl
                               refine one_ (i := 4) (N := some 31) #[true, true, true, true, true, false, true, true, true, false, true, true, true, true, true, false, false, false] rfl rfl (one_of HT_.out (by kernel_rfl)) (by decide) (fun K hK => ?_)
                               refine Kd.R_lit_step (Kd.int .u8) _ 5 ?hg (N := 31) ?hd (xs := ([((rd_T56 l0_1 x23_1).f0) % 256] : List Int)) (inner := [.int .u8 (((rd_T56 l0_1 x23_1).f0) % 256)]) (ok := fun _ => True) (okp := fun _ => True) ?hr ?hp (fun _ hk => hk) trivial (Below.refl _ _) (Nat.le_refl _) (by simp) ?_; (case hd => rfl); (case hg => rfl); (case hr => first | (go_simp; done) | (go_simp; rfl)); (case hp => exact (Reps.one (show Kd.M (Kd.int .u8) _ _ _ (((rd_T56 l0_1 x23_1).f0) % 256) [.int .u8 (((rd_T56 l0_1 x23_1).f0) % 256)] from rfl) (Reps.none _ _)))
                               intro v138 w32 ho33 hb hg_ hnew_
                               clear hg_ hnew_
                               (first | rw [← Ny137.out] at ho33 | (simp only [Int.reduceToNat] at ho33; rw [← Ny137.out] at ho33))
                               have n0_ := Aside0.mk (Kd.R_lower ho33 (below_size bel_))
                               have n1_ := Aside0.mk (blk_below (blkU BK129.out) hb)
                               have n2_ := Aside0.mk (blk_below (blkU BK136.out) hb)
                               have n3_ := Aside0.mk (below_step bel_ hb)
                               clear BK129; clear BK136; clear HB
                               have HO139 := n0_
                               have BK129 := n1_
                               have BK136 := n2_
                               have HB := n3_
                               clear n0_ n1_ n2_ n3_
                               clear hb ho33
                               refine hK.out _ _ ⟨(blk_cell BK136.out 0).trans rfl, (blk_cell BK136.out 1).trans rfl, (blk_cell BK136.out 2).trans rfl⟩ (fun hHeld => ?_)
                               clear hK K
                               refine norm_ (a' := ?_) ?_ ?_
                               rotate_left
                               · show Act.put _ (some 31) _ = _
                                 simp only [Act.put, List.setIfInBounds_toArray, List.set_cons_zero, List.set_cons_succ, i64_w, i32_w]
                                 rfl
                               exact norm_ (by first | (simp only [putAll, Act.put, List.setIfInBounds_toArray, List.set_cons_zero, List.set_cons_succ]; done) | (simp only [putAll, Act.put, List.setIfInBounds_toArray, List.set_cons_zero, List.set_cons_succ]; rfl)) (hJ4_8_14 (v138) _ ⟨hHeld, (by (try apply RU); exact HO139.out), (blkU BK129.out), (blkU BK136.out), bel_⟩)
                           · skip
                             rintro v138 w32 ⟨hS_, h0_, h1_, h2_, h3_⟩
                             have n0_ : Aside0 (Kd.R (Kd.int .u8) 5 w32 w.heap.size (fun _ => True) v138 y137) := ⟨h0_⟩
                             have n1_ : Aside0 (w32.heap[gb129]? = some (.cells #[.int .u64 a0_0, .slice (some ad135) l0_1.length c0_1] 25 (0, 0))) := ⟨h1_⟩
                             have n2_ : Aside0 (w32.heap[gb136]? = some (.cells #[.int .i64 ((rd_T56 l0_1 x23_1).f0), .int .u64 ((rd_T56 l0_1 x23_1).f1), .int .i64 ((rd_T56 l0_1 x23_1).f2)] 56 (0, 0))) := ⟨h2_⟩
                             have n3_ : Aside0 (Below w.heap.size w w32) := ⟨h3_⟩
                             clear BK129; clear BK136; clear HB
                             clear h0_ h1_ h2_ h3_
                             have HO139 := n0_
                             have BK129 := n1_
                             have BK136 := n2_
                             have HB := n3_
                             clear n0_ n1_ n2_ n3_
                             have hHeld : w32.cell? ⟨gb136, 0, none⟩ = some (.int .i64 ((rd_T56 l0_1 x23_1).f0)) ∧ w32.cell? ⟨gb136, 1, none⟩ = some (.int .u64 ((rd_T56 l0_1 x23_1).f1)) ∧ w32.cell? ⟨gb136, 2, none⟩ = some (.int .i64 ((rd_T56 l0_1 x23_1).f2)) := hS_
                             refine norm_ (a' := ?_) ?_ ?_
                             rotate_left
                             · simp only [putAll, Act.put, List.setIfInBounds_toArray, List.set_cons_zero, List.set_cons_succ]
                               rfl
                             refine two_ (i := 5) (j := 14) (Ni := some 32) (Nj := some 41) #[true, true, true, true, true, true, true, true, true, false, true, true, true, true, false, false, false, false] #[true, true, true, true, true, false, true, true, true, false, true, true, true, true, true, false, false, false] rfl rfl rfl rfl (two_of HT_.out (by kernel_rfl)) (by decide) (by decide) (fun K hK => ?_) (fun K hK => ?_)
                             · skip
                               have hcv33 := own_string (P := Try.prog) Try.underlying54 Try.underlying5 Try.underlying9 (Kd.own_of_R HO139.out)
                               refine value_ (w1 := ?_) (v := ?_) (by rfl) rfl ?_ ?_
                               rotate_left 2
                               · go_simp
                                 constructor
                                 · rfl
                                 · rfl
                               clear hcv33
                               refine hK.out _ _ ⟨(blk_cell BK136.out 0).trans rfl, (blk_cell BK136.out 1).trans rfl, (blk_cell BK136.out 2).trans rfl⟩ (fun hHeld => ?_)
                               clear hK K
                               refine norm_ (a' := ?_) ?_ ?_
                               rotate_left
                               · show Act.put _ (some 32) _ = _
                                 simp only [Act.put, List.setIfInBounds_toArray, List.set_cons_zero, List.set_cons_succ, i64_w, i32_w]
                                 rfl
                               refine pure_ (i := 9) (N := some 36) (v := ?_) (a' := ?_) #[true, true, true, true, true, true, true, true, true, true, true, true, true, true, false, false, false, false] rfl rfl (any_of HT_.out (by kernel_rfl)) (fun _ _ _ h => h) (Or.inl ⟨by rfl, ?_⟩) ?_ ?_
                               rotate_left
                               · intro w'
                                 go_simp
                                 with_reducible rfl
                               rotate_left
                               · simp only [Act.put, List.setIfInBounds_toArray, List.set_cons_zero, List.set_cons_succ, i64_w, i32_w]
                                 rfl
                               exact norm_ (by first | (simp only [putAll, Act.put, List.setIfInBounds_toArray, List.set_cons_zero, List.set_cons_succ]; done) | (simp only [putAll, Act.put, List.setIfInBounds_toArray, List.set_cons_zero, List.set_cons_succ]; rfl)) (hJ4_5_8 (v138) _ ⟨hHeld, (by (try apply RU); exact HO139.out), (blkU BK129.out), (blkU BK136.out), bel_⟩)
                             · skip
                               refine goes_ Try.func26 (by kernel_rfl) rfl #[.int .u32 ((wrap64 (((rd_T56 l0_1 x23_1).f2) + 1)) % 4294967296)] (by rfl) rfl rfl args_ ?_
                               with_reducible refine (spoorref02_Text.calls ((wrap64 (((rd_T56 l0_1 x23_1).f2) + 1)) % 4294967296) t141 _ A21.out).mono ?_
                               rintro e w33 ⟨rfl, hb⟩
                               refine ⟨_, rfl, ?_⟩
                               have n0_ := Aside0.mk (Kd.R_below (by (try apply RU); exact HO139.out) hb)
                               have n1_ := Aside0.mk (blk_below (blkU BK129.out) hb)
                               have n2_ := Aside0.mk (blk_below (blkU BK136.out) hb)
                               have n3_ := Aside0.mk (below_step bel_ hb)
                               clear HO139; clear BK129; clear BK136; clear HB
                               have HO139 := n0_
                               have BK129 := n1_
                               have BK136 := n2_
                               have HB := n3_
                               clear n0_ n1_ n2_ n3_
                               (try clear hb)
                               (try clear hb2)
                               (try clear hk)
                               (try clear hi)
                               refine hK.out _ _ ⟨(blk_cell BK136.out 0).trans rfl, (blk_cell BK136.out 1).trans rfl, (blk_cell BK136.out 2).trans rfl⟩ (fun hHeld => ?_)
                               clear hK K
                               refine norm_ (a' := ?_) ?_ ?_
                               rotate_left
                               · show Act.put _ (some 41) _ = _
                                 simp only [Act.put, List.setIfInBounds_toArray, List.set_cons_zero, List.set_cons_succ, i64_w, i32_w]
                                 rfl
                               exact norm_ (by first | (simp only [putAll, Act.put, List.setIfInBounds_toArray, List.set_cons_zero, List.set_cons_succ]; done) | (simp only [putAll, Act.put, List.setIfInBounds_toArray, List.set_cons_zero, List.set_cons_succ]; rfl)) (hJ4_8_14 (v138) _ ⟨hHeld, (by (try apply RU); exact HO139.out), (blkU BK129.out), (blkU BK136.out), bel_⟩)
                         · skip
                           rintro v138 w32 ⟨hS_, h0_, h1_, h2_, h3_⟩
                           have n0_ : Aside0 (Kd.R (Kd.int .u8) 5 w32 w.heap.size (fun _ => True) v138 y137) := ⟨h0_⟩
                           have n1_ : Aside0 (w32.heap[gb129]? = some (.cells #[.int .u64 a0_0, .slice (some ad135) l0_1.length c0_1] 25 (0, 0))) := ⟨h1_⟩
                           have n2_ : Aside0 (w32.heap[gb136]? = some (.cells #[.int .i64 ((rd_T56 l0_1 x23_1).f0), .int .u64 ((rd_T56 l0_1 x23_1).f1), .int .i64 ((rd_T56 l0_1 x23_1).f2)] 56 (0, 0))) := ⟨h2_⟩
                           have n3_ : Aside0 (Below w.heap.size w w32) := ⟨h3_⟩
                           clear BK129; clear BK136; clear HB
                           clear h0_ h1_ h2_ h3_
                           have HO139 := n0_
                           have BK129 := n1_
                           have BK136 := n2_
                           have HB := n3_
                           clear n0_ n1_ n2_ n3_
                           have hHeld : w32.cell? ⟨gb136, 0, none⟩ = some (.int .i64 ((rd_T56 l0_1 x23_1).f0)) ∧ w32.cell? ⟨gb136, 1, none⟩ = some (.int .u64 ((rd_T56 l0_1 x23_1).f1)) ∧ w32.cell? ⟨gb136, 2, none⟩ = some (.int .i64 ((rd_T56 l0_1 x23_1).f2)) := hS_
                           refine norm_ (a' := ?_) ?_ ?_
                           rotate_left
                           · simp only [putAll, Act.put, List.setIfInBounds_toArray, List.set_cons_zero, List.set_cons_succ]
                             rfl
                           refine one_ (i := 8) (N := some 35) #[true, true, true, true, true, true, true, true, true, false, true, true, true, true, false, false, false, false] rfl rfl (one_of HT_.out (by kernel_rfl)) (by decide) (fun K hK => ?_)
                           refine goes_ Try.func25 (by kernel_rfl) rfl #[.int .u64 ((rd_T56 l0_1 x23_1).f1)] (by rfl) rfl rfl args_ ?_
                           with_reducible refine (spoorref05_Eight.calls k1 ((rd_T56 l0_1 x23_1).f1) t140 _ A19.out).mono ?_
                           rintro e w33 ⟨rfl, hb⟩
                           refine ⟨_, rfl, ?_⟩
                           have n0_ := Aside0.mk (Kd.R_below (by (try apply RU); exact HO139.out) hb)
                           have n1_ := Aside0.mk (blk_below (blkU BK129.out) hb)
                           have n2_ := Aside0.mk (blk_below (blkU BK136.out) hb)
                           have n3_ := Aside0.mk (below_step bel_ hb)
                           clear HO139; clear BK129; clear BK136; clear HB
                           have HO139 := n0_
                           have BK129 := n1_
                           have BK136 := n2_
                           have HB := n3_
                           clear n0_ n1_ n2_ n3_
                           (try clear hb)
                           (try clear hb2)
                           (try clear hk)
                           (try clear hi)
                           refine hK.out _ _ ⟨(blk_cell BK136.out 0).trans rfl, (blk_cell BK136.out 1).trans rfl, (blk_cell BK136.out 2).trans rfl⟩ (fun hHeld => ?_)
                           clear hK K
                           refine norm_ (a' := ?_) ?_ ?_
                           rotate_left
                           · show Act.put _ (some 35) _ = _
                             simp only [Act.put, List.setIfInBounds_toArray, List.set_cons_zero, List.set_cons_succ, i64_w, i32_w]
                             rfl
                           refine pure_ (i := 9) (N := some 36) (v := ?_) (a' := ?_) #[true, true, true, true, true, true, true, true, true, true, true, true, true, true, false, false, false, false] rfl rfl (any_of HT_.out (by kernel_rfl)) (fun _ _ _ h => h) (Or.inl ⟨by rfl, ?_⟩) ?_ ?_
                           rotate_left
                           · intro w'
                             go_simp
                             with_reducible rfl
                           rotate_left
                           · simp only [Act.put, List.setIfInBounds_toArray, List.set_cons_zero, List.set_cons_succ, i64_w, i32_w]
                             rfl
                           exact norm_ (by first | (simp only [putAll, Act.put, List.setIfInBounds_toArray, List.set_cons_zero, List.set_cons_succ]; done) | (simp only [putAll, Act.put, List.setIfInBounds_toArray, List.set_cons_zero, List.set_cons_succ]; rfl)) (hJ4_5_8 (v138) _ ⟨hHeld, (by (try apply RU); exact HO139.out), (blkU BK129.out), (blkU BK136.out), bel_⟩)
                       · skip
                         rintro v138 w33 ⟨hS_, h0_, h1_, h2_, h3_⟩
                         have n0_ : Aside0 (Kd.R (Kd.int .u8) 5 w33 w.heap.size (fun _ => True) v138 y137) := ⟨h0_⟩
                         have n1_ : Aside0 (w33.heap[gb129]? = some (.cells #[.int .u64 a0_0, .slice (some ad135) l0_1.length c0_1] 25 (0, 0))) := ⟨h1_⟩
                         have n2_ : Aside0 (w33.heap[gb136]? = some (.cells #[.int .i64 ((rd_T56 l0_1 x23_1).f0), .int .u64 ((rd_T56 l0_1 x23_1).f1), .int .i64 ((rd_T56 l0_1 x23_1).f2)] 56 (0, 0))) := ⟨h2_⟩
                         have n3_ : Aside0 (Below w.heap.size w w33) := ⟨h3_⟩
                         clear BK129; clear BK136; clear HB
                         clear h0_ h1_ h2_ h3_
                         have HO139 := n0_
                         have BK129 := n1_
                         have BK136 := n2_
                         have HB := n3_
                         clear n0_ n1_ n2_ n3_
                         have hHeld : w33.cell? ⟨gb136, 0, none⟩ = some (.int .i64 ((rd_T56 l0_1 x23_1).f0)) ∧ w33.cell? ⟨gb136, 1, none⟩ = some (.int .u64 ((rd_T56 l0_1 x23_1).f1)) ∧ w33.cell? ⟨gb136, 2, none⟩ = some (.int .i64 ((rd_T56 l0_1 x23_1).f2)) := hS_
                         refine norm_ (a' := ?_) ?_ ?_
                         rotate_left
                         · simp only [putAll, Act.put, List.setIfInBounds_toArray, List.set_cons_zero, List.set_cons_succ]
                           rfl
                         refine one_ (i := 5) (N := some 32) #[true, true, true, true, true, true, true, true, true, false, true, true, true, true, true, false, false, false] rfl rfl (one_of HT_.out (by kernel_rfl)) (by decide) (fun K hK => ?_)
                         have hcv34 := own_string (P := Try.prog) Try.underlying54 Try.underlying5 Try.underlying9 (Kd.own_of_R HO139.out)
                         refine value_ (w1 := ?_) (v := ?_) (by rfl) rfl ?_ ?_
                         rotate_left 2
                         · go_simp
                           constructor
                           · rfl
                           · rfl
                         clear hcv34
                         refine hK.out _ _ ⟨(blk_cell BK136.out 0).trans rfl, (blk_cell BK136.out 1).trans rfl, (blk_cell BK136.out 2).trans rfl⟩ (fun hHeld => ?_)
                         clear hK K
                         refine norm_ (a' := ?_) ?_ ?_
                         rotate_left
                         · show Act.put _ (some 32) _ = _
                           simp only [Act.put, List.setIfInBounds_toArray, List.set_cons_zero, List.set_cons_succ, i64_w, i32_w]
                           rfl
                         refine pure_ (i := 9) (N := some 36) (v := ?_) (a' := ?_) #[true, true, true, true, true, true, true, true, true, true, true, true, true, true, true, false, false, false] rfl rfl (any_of HT_.out (by kernel_rfl)) (fun _ _ _ h => h) (Or.inl ⟨by rfl, ?_⟩) ?_ ?_
                         rotate_left
                         · intro w'
                           go_simp
                           with_reducible rfl
                         rotate_left
                         · simp only [Act.put, List.setIfInBounds_toArray, List.set_cons_zero, List.set_cons_succ, i64_w, i32_w]
                           rfl
                         exact norm_ (by first | (simp only [putAll, Act.put, List.setIfInBounds_toArray, List.set_cons_zero, List.set_cons_succ]; done) | (simp only [putAll, Act.put, List.setIfInBounds_toArray, List.set_cons_zero, List.set_cons_succ]; rfl)) (hJ4_5_8_14 (v138) _ ⟨hHeld, (by (try apply RU); exact HO139.out), (blkU BK129.out), (blkU BK136.out), bel_⟩)
                     · skip
                       rintro v138 w33 ⟨hS_, h0_, h1_, h2_, h3_⟩
                       have n0_ : Aside0 (Kd.R (Kd.int .u8) 5 w33 w.heap.size (fun _ => True) v138 y137) := ⟨h0_⟩
                       have n1_ : Aside0 (w33.heap[gb129]? = some (.cells #[.int .u64 a0_0, .slice (some ad135) l0_1.length c0_1] 25 (0, 0))) := ⟨h1_⟩
                       have n2_ : Aside0 (w33.heap[gb136]? = some (.cells #[.int .i64 ((rd_T56 l0_1 x23_1).f0), .int .u64 ((rd_T56 l0_1 x23_1).f1), .int .i64 ((rd_T56 l0_1 x23_1).f2)] 56 (0, 0))) := ⟨h2_⟩
                       have n3_ : Aside0 (Below w.heap.size w w33) := ⟨h3_⟩
                       clear BK129; clear BK136; clear HB
                       clear h0_ h1_ h2_ h3_
                       have HO139 := n0_
                       have BK129 := n1_
                       have BK136 := n2_
                       have HB := n3_
                       clear n0_ n1_ n2_ n3_
                       have hHeld : w33.cell? ⟨gb136, 0, none⟩ = some (.int .i64 ((rd_T56 l0_1 x23_1).f0)) ∧ w33.cell? ⟨gb136, 1, none⟩ = some (.int .u64 ((rd_T56 l0_1 x23_1).f1)) ∧ w33.cell? ⟨gb136, 2, none⟩ = some (.int .i64 ((rd_T56 l0_1 x23_1).f2)) := hS_
                       refine norm_ (a' := ?_) ?_ ?_
                       rotate_left
                       · simp only [putAll, Act.put, List.setIfInBounds_toArray, List.set_cons_zero, List.set_cons_succ]
                         rfl
                       refine one_ (i := 14) (N := some 41) #[true, true, true, true, true, true, true, true, true, true, true, true, true, true, true, false, false, false] rfl rfl (one_of HT_.out (by kernel_rfl)) (by decide) (fun K hK => ?_)
                       refine goes_ Try.func26 (by kernel_rfl) rfl #[.int .u32 ((wrap64 (((rd_T56 l0_1 x23_1).f2) + 1)) % 4294967296)] (by rfl) rfl rfl args_ ?_
                       with_reducible refine (spoorref02_Text.calls ((wrap64 (((rd_T56 l0_1 x23_1).f2) + 1)) % 4294967296) t141 _ A21.out).mono ?_
                       rintro e w34 ⟨rfl, hb⟩
                       refine ⟨_, rfl, ?_⟩
                       have n0_ := Aside0.mk (Kd.R_below (by (try apply RU); exact HO139.out) hb)
                       have n1_ := Aside0.mk (blk_below (blkU BK129.out) hb)
                       have n2_ := Aside0.mk (blk_below (blkU BK136.out) hb)
                       have n3_ := Aside0.mk (below_step bel_ hb)
                       clear HO139; clear BK129; clear BK136; clear HB
                       have HO139 := n0_
                       have BK129 := n1_
                       have BK136 := n2_
                       have HB := n3_
                       clear n0_ n1_ n2_ n3_
                       (try clear hb)
                       (try clear hb2)
                       (try clear hk)
                       (try clear hi)
                       refine hK.out _ _ ⟨(blk_cell BK136.out 0).trans rfl, (blk_cell BK136.out 1).trans rfl, (blk_cell BK136.out 2).trans rfl⟩ (fun hHeld => ?_)
                       clear hK K
                       refine norm_ (a' := ?_) ?_ ?_
                       rotate_left
                       · show Act.put _ (some 41) _ = _
                         simp only [Act.put, List.setIfInBounds_toArray, List.set_cons_zero, List.set_cons_succ, i64_w, i32_w]
                         rfl
                       exact norm_ (by first | (simp only [putAll, Act.put, List.setIfInBounds_toArray, List.set_cons_zero, List.set_cons_succ]; done) | (simp only [putAll, Act.put, List.setIfInBounds_toArray, List.set_cons_zero, List.set_cons_succ]; rfl)) (hJ4_5_8_14 (v138) _ ⟨hHeld, (by (try apply RU); exact HO139.out), (blkU BK129.out), (blkU BK136.out), bel_⟩)
                   rintro v138 w34 ⟨hS_, h0_, h1_, h2_, h3_⟩
                   have n0_ : Aside0 (Kd.R (Kd.int .u8) 5 w34 w.heap.size (fun _ => True) v138 y137) := ⟨h0_⟩
                   have n1_ : Aside0 (w34.heap[gb129]? = some (.cells #[.int .u64 a0_0, .slice (some ad135) l0_1.length c0_1] 25 (0, 0))) := ⟨h1_⟩
                   have n2_ : Aside0 (w34.heap[gb136]? = some (.cells #[.int .i64 ((rd_T56 l0_1 x23_1).f0), .int .u64 ((rd_T56 l0_1 x23_1).f1), .int .i64 ((rd_T56 l0_1 x23_1).f2)] 56 (0, 0))) := ⟨h2_⟩
                   have n3_ : Aside0 (Below w.heap.size w w34) := ⟨h3_⟩
                   clear BK129; clear BK136; clear HB
                   clear h0_ h1_ h2_ h3_
                   have HO139 := n0_
                   have BK129 := n1_
                   have BK136 := n2_
                   have HB := n3_
                   clear n0_ n1_ n2_ n3_
                   have hHeld : w34.cell? ⟨gb136, 0, none⟩ = some (.int .i64 ((rd_T56 l0_1 x23_1).f0)) ∧ w34.cell? ⟨gb136, 1, none⟩ = some (.int .u64 ((rd_T56 l0_1 x23_1).f1)) ∧ w34.cell? ⟨gb136, 2, none⟩ = some (.int .i64 ((rd_T56 l0_1 x23_1).f2)) := hS_
                   refine norm_ (a' := ?_) ?_ ?_
                   rotate_left
                   · simp only [putAll, Act.put, List.setIfInBounds_toArray, List.set_cons_zero, List.set_cons_succ]
                     rfl
                   refine pure_ (i := 15) (N := some 42) (v := ?_) (a' := ?_) #[true, true, true, true, true, true, true, true, true, true, true, true, true, true, true, true, false, false] rfl rfl (any_of HT_.out (by kernel_rfl)) (fun _ _ _ h => h) (Or.inl ⟨by rfl, ?_⟩) ?_ ?_
                   rotate_left
                   · intro w'
                     go_simp
                     with_reducible rfl
                   rotate_left
                   · simp only [Act.put, List.setIfInBounds_toArray, List.set_cons_zero, List.set_cons_succ, i64_w, i32_w]
                     rfl
                   refine pure_ (i := 16) (N := some 43) (v := ?_) (a' := ?_) #[true, true, true, true, true, true, true, true, true, true, true, true, true, true, true, true, true, false] rfl rfl (any_of HT_.out (by kernel_rfl)) (fun _ _ _ h => h) (Or.inl ⟨by rfl, ?_⟩) ?_ ?_
                   rotate_left
                   · intro w'
                     go_simp
                     with_reducible rfl
                   rotate_left
                   · simp only [Act.put, List.setIfInBounds_toArray, List.set_cons_zero, List.set_cons_succ, i64_w, i32_w]
                     rfl
                   refine pure_ (i := 17) (N := some 4) (v := ?_) (a' := ?_) #[true, true, true, true, true, true, true, true, true, true, true, true, true, true, true, true, true, true] rfl rfl (any_of HT_.out (by kernel_rfl)) (fun _ _ _ h => h) (Or.inl ⟨by rfl, ?_⟩) ?_ ?_
                   rotate_left
                   · intro w'
                     go_simp
                     with_reducible rfl
                   rotate_left
                   · simp only [Act.put, List.setIfInBounds_toArray, List.set_cons_zero, List.set_cons_succ, i64_w, i32_w]
                     rfl
                   refine done_ (done_of HT_.out (by kernel_rfl)) ?_
                   try go_wp2
                   go_roundg k1
                   case measure => have := HK1.out; omega
                   case rel => exact ⟨(x4_1 ++ (((strOfNums y137) ++ t140) ++ t141)), (wrap64 (x23_1 + 1)), (by first | rfl | (simp; done) | (simp [*]; done)), (by first | rfl | (simp; done) | (simp [*]; done)), H', ⟨by have := HK1.out; omega⟩, ⟨by refine blkU ?_; exact BK129.out⟩, ⟨bel_⟩⟩
                 · rw [if_neg c23] at H
                   exact absurd H (by simp)
               · rw [if_neg c22] at H
                 exact absurd H (by simp)
             · rw [if_neg c20] at H
               exact absurd H (by simp)
           · rw [if_neg c18] at H
             exact absurd H (by simp)
         · rw [if_neg c17] at H
           exact absurd H (by simp)
       · rw [if_neg c16] at H
         have c16b0 : decide (x23_1 < (l0_1.length : Int)) = false := decide_eq_false c16
         clear c16
         replace H := Option.bind_eq_some_iff.mp H
         obtain ⟨t142, A350, H⟩ := H
         replace H : (if x4_1.size + t142.size ≤ 9223372036854775807 then ((spoorref02_Of.f k1 (x4_1 ++ t142)).bind fun t143 => ((spoorref02_Text.f t143).bind fun t144 => (if (x4_1 ++ t142).size + t144.size ≤ 9223372036854775807 then ((spoorref05_Eight.f k1 a0_0).bind fun t145 => (if ((x4_1 ++ t142) ++ t144).size + t145.size ≤ 9223372036854775807 then (some (((x4_1 ++ t142) ++ t144) ++ t145, 0)) else (none))) else (none)))) else (none)) = some (r1, r2) := H
         have A35 := Aside0.mk A350
         clear A350
         by_cases c36 : x4_1.size + t142.size ≤ 9223372036854775807
         · rw [if_pos c36] at H
           have c36b0 := eq_true c36
           have c36b1 : decide (x4_1.size + t142.size ≤ 9223372036854775807) = true := decide_eq_true c36
           try have c36b2 : (9223372036854775807 < x4_1.size + t142.size) = False := eq_false (Nat.not_lt.2 c36)
           replace H := Option.bind_eq_some_iff.mp H
           obtain ⟨t143, A370, H⟩ := H
           replace H : ((spoorref02_Text.f t143).bind fun t144 => (if (x4_1 ++ t142).size + t144.size ≤ 9223372036854775807 then ((spoorref05_Eight.f k1 a0_0).bind fun t145 => (if ((x4_1 ++ t142) ++ t144).size + t145.size ≤ 9223372036854775807 then (some (((x4_1 ++ t142) ++ t144) ++ t145, 0)) else (none))) else (none))) = some (r1, r2) := H
           have A37 := Aside0.mk A370
           clear A370
           replace H := Option.bind_eq_some_iff.mp H
           obtain ⟨t144, A380, H⟩ := H
           replace H : (if (x4_1 ++ t142).size + t144.size ≤ 9223372036854775807 then ((spoorref05_Eight.f k1 a0_0).bind fun t145 => (if ((x4_1 ++ t142) ++ t144).size + t145.size ≤ 9223372036854775807 then (some (((x4_1 ++ t142) ++ t144) ++ t145, 0)) else (none))) else (none)) = some (r1, r2) := H
           have A38 := Aside0.mk A380
           clear A380
           by_cases c39 : (x4_1 ++ t142).size + t144.size ≤ 9223372036854775807
           · rw [if_pos c39] at H
             have c39b0 := eq_true c39
             have c39b1 : decide ((x4_1 ++ t142).size + t144.size ≤ 9223372036854775807) = true := decide_eq_true c39
             try have c39b2 : (9223372036854775807 < (x4_1 ++ t142).size + t144.size) = False := eq_false (Nat.not_lt.2 c39)
             try (have c39b4 := c39b2; simp only [ByteArray.size_append] at c39b4)
             replace H := Option.bind_eq_some_iff.mp H
             obtain ⟨t145, A400, H⟩ := H
             replace H : (if ((x4_1 ++ t142) ++ t144).size + t145.size ≤ 9223372036854775807 then (some (((x4_1 ++ t142) ++ t144) ++ t145, 0)) else (none)) = some (r1, r2) := H
             have A40 := Aside0.mk A400
             clear A400
             by_cases c41 : ((x4_1 ++ t142) ++ t144).size + t145.size ≤ 9223372036854775807
             · rw [if_pos c41] at H
               have c41b0 := eq_true c41
               have c41b1 : decide (((x4_1 ++ t142) ++ t144).size + t145.size ≤ 9223372036854775807) = true := decide_eq_true c41
               try have c41b2 : (9223372036854775807 < ((x4_1 ++ t142) ++ t144).size + t145.size) = False := eq_false (Nat.not_lt.2 c41)
               try (have c41b4 := c41b2; simp only [ByteArray.size_append] at c41b4)
               simp only [Option.some.injEq, Prod.mk.injEq] at H
               obtain ⟨rfl, rfl⟩ := H
               try go_wp2_with (first | ((with_reducible refine gate_callee (f := 27) rfl ?_); refine goesL_ (some 49) rfl rfl Try.func27 (by kernel_rfl) rfl #[.int .i64 (wrap64 (116 - (x4_1.size : Int)))] rfl (by (try simp only [List.map_toArray, List.map_cons, List.map_nil]); first | done | rfl | (simp only [List.length_drop, List.length_take]; rfl) | (rw [show wrap64 (116 - (x4_1.size : Int)) = (116 - (x4_1.size : Int)) from by unfold wrap64; omega]; rfl)) ?_; (with_reducible refine (spoorref05_Zeros.calls (wrap64 (116 - (x4_1.size : Int))) t142 _ A35.out).mono ?_); rintro e w42 ⟨rfl, hb⟩; refine ⟨_, rfl, ?_⟩; have n0_ := Aside0.mk (blk_below (blkU BK129.out) hb); have n1_ := Aside0.mk (below_step bel_ hb); clear BK129; clear HB; have BK129 := n0_; have HB := n1_; clear n0_ n1_; (try clear hb); (try clear hb2); (try clear hk); (try clear hi)))
               have n0_ := Aside0.mk (blk_drew BK129.out)
               have n1_ := Aside0.mk (below_drew1 HB.out)
               clear BK129; clear HB
               have BK129 := n0_
               have HB := n1_
               clear n0_ n1_
               refine start_ (n := 11) (S := fun w' => w'.cell? ⟨gb129, 0, none⟩ = some (.int .u64 a0_0) ∧ w'.cell? ⟨gb129, 1, none⟩ = some (.slice A0_1 l0_1.length c0_1)) (ds := []) #[false, false, false, false, false, false, false, false, false, false, false] (by kernel_rfl) rfl rfl ⟨(blk_cell BK129.out 0).trans rfl, (blk_cell BK129.out 1).trans rfl⟩ (fun hHeld => ?_); refine with_tabW spoorref06_Put.tab10 spoorref06_Put.bits10 (fun HT_ HW_ => ?_)
               generalize w42.drew = w43 at BK129 HB hHeld ⊢
               refine pure_ (i := 0) (N := some 51) (v := ?_) (a' := ?_) #[true, false, false, false, false, false, false, false, false, false, false] rfl rfl (any_of HT_.out (by kernel_rfl)) (fun _ _ _ h => h) (Or.inl ⟨by rfl, ?_⟩) ?_ ?_
               rotate_left
               · intro w'
                 go_simp
                 with_reducible rfl
               rotate_left
               · simp only [Act.put, List.setIfInBounds_toArray, List.set_cons_zero, List.set_cons_succ, i64_w, i32_w]
                 rfl
               refine pure_ (i := 1) (N := some 52) (v := ?_) (a' := ?_) #[true, true, false, false, false, false, false, false, false, false, false] rfl rfl (any_of HT_.out (by kernel_rfl)) (fun _ _ _ h => h) (Or.inl ⟨by rfl, ?_⟩) ?_ ?_
               rotate_left
               · intro w'
                 go_simp
                 with_reducible rfl
               rotate_left
               · simp only [Act.put, List.setIfInBounds_toArray, List.set_cons_zero, List.set_cons_succ, i64_w, i32_w]
                 rfl
               refine pure_ (i := 5) (N := some 56) (v := ?_) (a' := ?_) #[true, true, false, false, false, true, false, false, false, false, false] rfl rfl (any_of HT_.out (by kernel_rfl)) (fun _ _ _ h => h) (Or.inl ⟨by rfl, ?_⟩) ?_ ?_
               rotate_left
               · intro w'
                 go_simp
                 with_reducible rfl
               rotate_left
               · simp only [Act.put, List.setIfInBounds_toArray, List.set_cons_zero, List.set_cons_succ, i64_w, i32_w]
                 rfl
               refine take_ (i := 6) (N := some 57) (v := ?_) (a' := ?_) #[true, true, false, false, false, true, true, false, false, false, false] rfl rfl (take_ofW HT_.out HW_.out (by kernel_rfl)) (fun _ _ _ h => h) (Or.inl ⟨by rfl, ?_⟩) hHeld ?_ ?_
               rotate_left
               · rintro w' ⟨s0, s1⟩
                 go_simp
                 with_reducible rfl
               rotate_left
               · simp only [Act.put, List.setIfInBounds_toArray, List.set_cons_zero, List.set_cons_succ, i64_w, i32_w]
                 rfl
               refine one_ (i := 2) (N := some 53) #[true, true, true, false, false, true, true, false, false, false, false] rfl rfl (one_of HT_.out (by kernel_rfl)) (by decide) (fun K hK => ?_)
               refine goes_ Try.func28 (by kernel_rfl) rfl #[.string (x4_1 ++ t142)] (by rfl) rfl rfl args_ ?_
               with_reducible refine (spoorref02_Of.calls k1 (x4_1 ++ t142) t143 _ A37.out).mono ?_
               rintro e w' ⟨rfl, ⟨nd, rfl⟩⟩
               refine ⟨_, rfl, ?_⟩
               refine hK.out _ _ ⟨(blk_cell BK129.out 0).trans rfl, (blk_cell BK129.out 1).trans rfl⟩ (fun hHeld => ?_)
               clear hK K
               refine norm_ (a' := ?_) ?_ ?_
               rotate_left
               · show Act.put _ (some 53) _ = _
                 simp only [Act.put, List.setIfInBounds_toArray, List.set_cons_zero, List.set_cons_succ, i64_w, i32_w]
                 rfl
               refine one_ (i := 3) (N := some 54) #[true, true, true, true, false, true, true, false, false, false, false] rfl rfl (one_of HT_.out (by kernel_rfl)) (by decide) (fun K hK => ?_)
               refine goes_ Try.func26 (by kernel_rfl) rfl #[.int .u32 t143] (by rfl) rfl rfl args_ ?_
               with_reducible refine (spoorref02_Text.calls t143 t144 _ A38.out).mono ?_
               rintro e w44 ⟨rfl, hb⟩
               refine ⟨_, rfl, ?_⟩
               have n0_ := Aside0.mk (blk_below (blkU BK129.out) hb)
               have n1_ := Aside0.mk (below_step bel_ hb)
               clear BK129; clear HB
               have BK129 := n0_
               have HB := n1_
               clear n0_ n1_
               (try clear hb)
               (try clear hb2)
               (try clear hk)
               (try clear hi)
               refine hK.out _ _ ⟨(blk_cell BK129.out 0).trans rfl, (blk_cell BK129.out 1).trans rfl⟩ (fun hHeld => ?_)
               clear hK K
               refine norm_ (a' := ?_) ?_ ?_
               rotate_left
               · show Act.put _ (some 54) _ = _
                 simp only [Act.put, List.setIfInBounds_toArray, List.set_cons_zero, List.set_cons_succ, i64_w, i32_w]
                 rfl
               refine pure_ (i := 4) (N := some 55) (v := ?_) (a' := ?_) #[true, true, true, true, true, true, true, false, false, false, false] rfl rfl (any_of HT_.out (by kernel_rfl)) (fun _ _ _ h => h) (Or.inl ⟨by rfl, ?_⟩) ?_ ?_
               rotate_left
               · intro w'
                 go_simp
                 with_reducible rfl
               rotate_left
               · simp only [Act.put, List.setIfInBounds_toArray, List.set_cons_zero, List.set_cons_succ, i64_w, i32_w]
                 rfl
               refine one_ (i := 7) (N := some 58) #[true, true, true, true, true, true, true, true, false, false, false] rfl rfl (one_of HT_.out (by kernel_rfl)) (by decide) (fun K hK => ?_)
               refine goes_ Try.func25 (by kernel_rfl) rfl #[.int .u64 a0_0] (by rfl) rfl rfl args_ ?_
               with_reducible refine (spoorref05_Eight.calls k1 a0_0 t145 _ A40.out).mono ?_
               rintro e w45 ⟨rfl, hb⟩
               refine ⟨_, rfl, ?_⟩
               have n0_ := Aside0.mk (blk_below (blkU BK129.out) hb)
               have n1_ := Aside0.mk (below_step bel_ hb)
               clear BK129; clear HB
               have BK129 := n0_
               have HB := n1_
               clear n0_ n1_
               (try clear hb)
               (try clear hb2)
               (try clear hk)
               (try clear hi)
               refine hK.out _ _ ⟨(blk_cell BK129.out 0).trans rfl, (blk_cell BK129.out 1).trans rfl⟩ (fun hHeld => ?_)
               clear hK K
               refine norm_ (a' := ?_) ?_ ?_
               rotate_left
               · show Act.put _ (some 58) _ = _
                 simp only [Act.put, List.setIfInBounds_toArray, List.set_cons_zero, List.set_cons_succ, i64_w, i32_w]
                 rfl
               refine pure_ (i := 8) (N := some 59) (v := ?_) (a' := ?_) #[true, true, true, true, true, true, true, true, true, false, false] rfl rfl (any_of HT_.out (by kernel_rfl)) (fun _ _ _ h => h) (Or.inl ⟨by rfl, ?_⟩) ?_ ?_
               rotate_left
               · intro w'
                 go_simp
                 with_reducible rfl
               rotate_left
               · simp only [Act.put, List.setIfInBounds_toArray, List.set_cons_zero, List.set_cons_succ, i64_w, i32_w]
                 rfl
               refine pure_ (i := 9) (N := some 2) (v := ?_) (a' := ?_) #[true, true, true, true, true, true, true, true, true, true, false] rfl rfl (any_of HT_.out (by kernel_rfl)) (fun _ _ _ h => h) (Or.inl ⟨by rfl, ?_⟩) ?_ ?_
               rotate_left
               · intro w'
                 go_simp
                 with_reducible rfl
               rotate_left
               · simp only [Act.put, List.setIfInBounds_toArray, List.set_cons_zero, List.set_cons_succ, i64_w, i32_w]
                 rfl
               refine pure_ (i := 10) (N := some 3) (v := ?_) (a' := ?_) #[true, true, true, true, true, true, true, true, true, true, true] rfl rfl (any_of HT_.out (by kernel_rfl)) (fun _ _ _ h => h) (Or.inl ⟨by rfl, ?_⟩) ?_ ?_
               rotate_left
               · intro w'
                 go_simp
                 with_reducible rfl
               rotate_left
               · simp only [Act.put, List.setIfInBounds_toArray, List.set_cons_zero, List.set_cons_succ, i64_w, i32_w]
                 rfl
               refine done_ (done_of HT_.out (by kernel_rfl)) ?_
               try go_wp2
               go_ret2
               exact ⟨by first | rfl | (simp [errW_none, errW_some] <;> rfl) | (simp [*, errW_none, errW_some] <;> rfl), bel_⟩
             · rw [if_neg c41] at H
               exact absurd H (by simp)
           · rw [if_neg c39] at H
             exact absurd H (by simp)
         · rw [if_neg c36] at H
           exact absurd H (by simp)
   · rw [if_neg c5] at H
     exact absurd H (by simp)
 · rw [if_neg c3] at H
   have c3b0 : (t130 == 0) = false := beq_eq_false_iff_ne.mpr c3
   have c3b1 : (t130 != 0) = true := bne_iff_ne.mpr c3
   simp only [Option.some.injEq, Prod.mk.injEq] at H
   obtain ⟨rfl, rfl⟩ := H
   go_enter Try.func9, Try.ntmps9
   go_wp2_with (first | ((with_reducible refine gate_dst (N := 1) rfl ?_); refine box_event ?hg (N := 1) ?hd (cs := #[.int .u64 a0_0, .slice A0_1 l0_1.length c0_1]) (t := 25) ?hr ?_; (case hd => rfl); (case hg => rfl); (case hr => first | (go_simp; done) | (go_simp; rfl)); intro gb129 hg w46 hbox hb; have n0_ := Aside0.mk (below_step bel_ hb); have n1_ := Aside0.mk (hbox); have n2_ := Aside0.mk ((by rw [hg]; exact (below_size bel_) : w.heap.size ≤ gb129)); have n3_ := Aside0.mk ((by rw [hg]; exact (below_size bel_) : w.heap.size ≤ gb129)); clear HB; have HB := n0_; have BK129 := n1_; have GW129 := n2_; have GE129 := n3_; clear n0_ n1_ n2_ n3_; clear hb hbox hg; obtain ⟨hcz47_0, hcz47_1, hfz47_0, hfz47_1⟩ := c2_ BK129.out) | ((with_reducible refine gate_callee (f := 14) rfl ?_); refine goesL_ (some 8) rfl rfl Try.func14 (by kernel_rfl) rfl #[.agg #[.int .u64 a0_0, .slice A0_1 l0_1.length c0_1]] rfl args_ ?_; (with_reducible refine (spoorref06_Check.calls k a0_0 _ _ l0_1 t130 _ ?side1 ?side2 A2.out).mono ?_); (case side1 => exact CU (Kd.C_below HR0_1.out HB.out)); (case side2 => exact HC0_1.out); rintro e w48 ⟨rfl, hb⟩; refine ⟨_, rfl, ?_⟩; have n0_ := Aside0.mk (blk_below (blkU BK129.out) hb); have n1_ := Aside0.mk (below_step bel_ hb); clear BK129; clear HB; have BK129 := n0_; have HB := n1_; clear n0_ n1_; (try clear hb); (try clear hb2); (try clear hk); (try clear hi)))
   go_ret2
   exact ⟨by first | rfl | (simp [errW_none, errW_some] <;> rfl) | (simp [*, errW_none, errW_some] <;> rfl), bel_⟩
end Go.Proofs.Ytjagplonneednaa.P
