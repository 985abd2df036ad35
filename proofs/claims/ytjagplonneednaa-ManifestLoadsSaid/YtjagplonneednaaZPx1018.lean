-- kept, by a program of this session, of a text that the printer or this session wrote
import Derived.Test.YtjagplonneednaaZPx0
import Derived.Test.YtjagplonneednaaZPx1011
import Derived.Test.YtjagplonneednaaZPx1034
import Derived.Test.YtjagplonneednaaZPx30016
namespace Go.Proofs.Ytjagplonneednaa.P
open Go.RowKit Go.Proofs.YtjagplonneednaaW.PrintWords Go.Proofs.YtjagplonneednaaW.PrintLast Go.Proofs.YtjagplonneednaaW.PrintMore
attribute [local go_sem] max2_int min2_int max_two min_two max_three min_three max_four min_four
set_option linter.unusedVariables false
set_option linter.unusedSimpArgs false
def spoorref06_Load.j0 : Nat → Int → Int → Bool → Int → List (S56) → Int → List (S56) → Option (Int × (List (S56)) × Int)
 | 0, _, _, _, _, _, _, _ => none
 | k + 1, x9, x11, x49, x325000, x325001, x331000, x331001 => if x49 = true then (some (0, ([] : List (S56)), 3)) else (if x9 = 0 then (if x11 = 0 then (if x331000 > x325000 then (some (x331000, x331001, 0)) else (some (x325000, x325001, 0))) else (some (x325000, x325001, 0))) else (some (x331000, x331001, 0)))
def spoorref06_Load.f (k : Nat) (l0_0 : List ByteArray) (l0_1 : List (S74)) (a0_2 : Int) (a0_3 : Bool) : Option (Int × (List (S56)) × Int) := (spoorref03_Check.f k l0_0 l0_1 a0_2 a0_3).bind fun t314 => (if t314 = 0 then (if a0_3 = true then (some (0, ([] : List (S56)), 9)) else (if (l0_0.length : Int) < 2 then (some (0, ([] : List (S56)), 1)) else ((spoorref03_Read.f k l0_0 l0_1 a0_2 a0_3 0).bind fun bt315 => ((spoorref03_Read.f k l0_0 l0_1 a0_2 a0_3 1).bind fun bt317 => ((spoorref06_Get.f k bt315.1).bind fun bt319 => ((spoorref06_Get.f k bt317.1).bind fun bt325 => (if bt319.2.2 = 0 then (spoorref06_Load.j0 k bt319.2.2 bt325.2.2 false bt319.1 bt319.2.1 bt325.1 bt325.2.1) else (spoorref06_Load.j0 k bt319.2.2 bt325.2.2 (bt325.2.2 != 0) bt319.1 bt319.2.1 bt325.1 bt325.2.1)))))))) else (some (0, ([] : List (S56)), 2)))
set_option maxHeartbeats 8000000 in
set_option maxRecDepth 100000 in
theorem spoorref06_Load.calls (k : Nat) (A0_0 : Option Addr) (c0_0 : Nat) (l0_0 : List ByteArray) (A0_1 : Option Addr) (c0_1 : Nat) (l0_1 : List (S74)) (a0_2 : Int) (a0_3 : Bool) (r1 : Int) (r2 : List (S56)) (r3 : Int) (w : World) (hr0_0 : Kd.C Kd.string w A0_0 l0_0.length l0_0) (hc0_0 : l0_0.length ≤ c0_0) (hr0_1 : Kd.C k74 w A0_1 l0_1.length l0_1) (hc0_1 : l0_1.length ≤ c0_1) (h : spoorref06_Load.f k l0_0 l0_1 a0_2 a0_3 = some (r1, r2, r3)) :
 Calls Try.prog 18 #[.agg #[.slice A0_0 l0_0.length c0_0, .slice A0_1 l0_1.length c0_1, .int .i64 a0_2, .bool a0_3]] w fun e w' => ∃ v1_ : Value, e = .returned (.tuple #[.agg #[.int .u64 r1, v1_], .int .i64 r3]) ∧ Kd.R k56 56 w' w.heap.size (fun _ => True) v1_ r2 ∧ Below w.heap.size w w' := by
 have hu38 := Try.underlying38
 have hu25 := Try.underlying25
 have HR0_0 := Aside0.mk hr0_0
 have HC0_0 := Aside0.mk hc0_0
 clear hr0_0 hc0_0
 have HR0_1 := Aside0.mk hr0_1
 have HC0_1 := Aside0.mk hc0_1
 clear hr0_1 hc0_1
 have HB := Aside0.mk (Below.refl w.heap.size w)
 have H : ((spoorref03_Check.f k l0_0 l0_1 a0_2 a0_3).bind fun t314 => (if t314 = 0 then (if a0_3 = true then (some (0, ([] : List (S56)), 9)) else (if (l0_0.length : Int) < 2 then (some (0, ([] : List (S56)), 1)) else ((spoorref03_Read.f k l0_0 l0_1 a0_2 a0_3 0).bind fun bt315 => ((spoorref03_Read.f k l0_0 l0_1 a0_2 a0_3 1).bind fun bt317 => ((spoorref06_Get.f k bt315.1).bind fun bt319 => ((spoorref06_Get.f k bt317.1).bind fun bt325 => (if bt319.2.2 = 0 then (spoorref06_Load.j0 k bt319.2.2 bt325.2.2 false bt319.1 bt319.2.1 bt325.1 bt325.2.1) else (spoorref06_Load.j0 k bt319.2.2 bt325.2.2 (bt325.2.2 != 0) bt319.1 bt319.2.1 bt325.1 bt325.2.1)))))))) else (some (0, ([] : List (S56)), 2)))) = some (r1, r2, r3) := h
 clear h
 replace H := Option.bind_eq_some_iff.mp H
 obtain ⟨t314, A20, H⟩ := H
 replace H : (if t314 = 0 then (if a0_3 = true then (some (0, ([] : List (S56)), 9)) else (if (l0_0.length : Int) < 2 then (some (0, ([] : List (S56)), 1)) else ((spoorref03_Read.f k l0_0 l0_1 a0_2 a0_3 0).bind fun bt315 => ((spoorref03_Read.f k l0_0 l0_1 a0_2 a0_3 1).bind fun bt317 => ((spoorref06_Get.f k bt315.1).bind fun bt319 => ((spoorref06_Get.f k bt317.1).bind fun bt325 => (if bt319.2.2 = 0 then (spoorref06_Load.j0 k bt319.2.2 bt325.2.2 false bt319.1 bt319.2.1 bt325.1 bt325.2.1) else (spoorref06_Load.j0 k bt319.2.2 bt325.2.2 (bt325.2.2 != 0) bt319.1 bt319.2.1 bt325.1 bt325.2.1)))))))) else (some (0, ([] : List (S56)), 2))) = some (r1, r2, r3) := H
 have A2 := Aside0.mk A20
 clear A20
 by_cases c3 : t314 = 0
 · rw [if_pos c3] at H
   have c3b0 : (t314 == 0) = true := beq_iff_eq.mpr c3
   have c3b1 : (t314 != 0) = false := bne_eq_false_iff_eq.mpr c3
   clear c3
   by_cases c4 : a0_3 = true
   · subst c4
     have H1 : (some (0, ([] : List (S56)), 9)) = some (r1, r2, r3) := by rw [if_pos rfl] at H; exact H
     clear H
     have H := H1
     clear H1
     simp only [Option.some.injEq, Prod.mk.injEq] at H
     obtain ⟨rfl, rfl, rfl⟩ := H
     go_enter Try.func18, Try.ntmps18
     go_wp2_with (first | ((with_reducible refine gate_dst (N := 1) rfl ?_); refine box_event ?hg (N := 1) ?hd (cs := #[.slice A0_0 l0_0.length c0_0, .slice A0_1 l0_1.length c0_1, .int .i64 a0_2, .bool true]) (t := 38) ?hr ?_; (case hd => rfl); (case hg => rfl); (case hr => first | (go_simp; done) | (go_simp; rfl)); intro gb312 hg w5 hbox hb; have n0_ := Aside0.mk (below_step bel_ hb); have n1_ := Aside0.mk (hbox); have n2_ := Aside0.mk ((by rw [hg]; exact (below_size bel_) : w.heap.size ≤ gb312)); have n3_ := Aside0.mk ((by rw [hg]; exact (below_size bel_) : w.heap.size ≤ gb312)); clear HB; have HB := n0_; have BK312 := n1_; have GW312 := n2_; have GE312 := n3_; clear n0_ n1_ n2_ n3_; clear hb hbox hg) | ((with_reducible refine gate_dst (N := 2) rfl ?_); refine box_event ?hg (N := 2) ?hd (cs := #[.int .u64 0, .slice none 0 0]) (t := 25) ?hr ?_; (case hd => rfl); (case hg => rfl); (case hr => first | (go_simp; done) | (go_simp; rfl)); intro gb313 hg w6 hbox hb; have n0_ := Aside0.mk (blk_below (blkU BK312.out) hb); have n1_ := Aside0.mk (below_step bel_ hb); have n2_ := Aside0.mk (hbox); have n3_ := Aside0.mk ((by rw [hg]; exact (below_size bel_) : w.heap.size ≤ gb313)); have n4_ := Aside0.mk ((by rw [hg]; exact (below_size bel_) : w.heap.size ≤ gb313)); have n5_ := Aside0.mk ((by rw [hg]; exact Nat.ne_of_lt (blk_lt (blkU BK312.out)) : gb312 ≠ gb313)); have n6_ := Aside0.mk ((by rw [hg]; exact Nat.ne_of_gt (blk_lt (blkU BK312.out)) : gb313 ≠ gb312)); clear BK312; clear HB; have BK312 := n0_; have HB := n1_; have BK313 := n2_; have GW313 := n3_; have GE313 := n4_; have NB312_313 := n5_; have NB313_312 := n6_; clear n0_ n1_ n2_ n3_ n4_ n5_ n6_; clear hb hbox hg; have hnb7 := NB312_313.out; have hnc7 := NB313_312.out; obtain ⟨hcz8_0, hcz8_1, hcz8_2, hcz8_3, hfz8_0, hfz8_1, hfz8_2, hfz8_3⟩ := c4_ BK312.out) | ((with_reducible refine gate_callee (f := 34) rfl ?_); refine goesL_ (some 13) rfl rfl Try.func34 (by kernel_rfl) rfl #[.agg #[.slice A0_0 l0_0.length c0_0, .slice A0_1 l0_1.length c0_1, .int .i64 a0_2, .bool true]] rfl args_ ?_; (with_reducible refine (spoorref03_Check.calls k _ _ l0_0 _ _ l0_1 a0_2 true t314 _ ?side1 ?side2 ?side3 ?side4 A2.out).mono ?_); (case side1 => exact CU (Kd.C_below HR0_0.out HB.out)); (case side2 => exact HC0_0.out); (case side3 => exact CU (Kd.C_below HR0_1.out HB.out)); (case side4 => exact HC0_1.out); rintro e w9 ⟨rfl, hb⟩; refine ⟨_, rfl, ?_⟩; have n0_ := Aside0.mk (blk_below (blkU BK312.out) hb); have n1_ := Aside0.mk (blk_below (blkU BK313.out) hb); have n2_ := Aside0.mk (below_step bel_ hb); clear BK312; clear BK313; clear HB; have BK312 := n0_; have BK313 := n1_; have HB := n2_; clear n0_ n1_ n2_; (try clear hb); (try clear hb2); (try clear hk); (try clear hi); obtain ⟨hcz10_0, hcz10_1, hcz10_2, hcz10_3, hfz10_0, hfz10_1, hfz10_2, hfz10_3⟩ := c4_ BK312.out; obtain ⟨hcz11_0, hcz11_1, hfz11_0, hfz11_1⟩ := c2_ BK313.out))
     refine bodyPost_ret (results_ct rfl _ _ gb313 25 #[.int .u64 0, .slice none 0 0] (0, 0) _ rfl (by refine blkU ?_; refine blk_put (cs := #[.int .u64 0, .slice none 0 0]) ?_ 1 _ rfl; refine blkU ?_; refine blk_put (cs := #[.int .u64 0, .slice none 0 0]) ?_ 0 _ rfl; refine blkU ?_; exact BK313.out) Try.underlying25 rfl (by kernel_rfl)) rfl ?_
     exact ⟨_, by first | rfl | (simp [errW_none, errW_some] <;> rfl) | (simp [*, errW_none, errW_some] <;> rfl), by first | exact Kd.R_nil _ _ _ _ _ | exact Kd.N_nil _ _ _ _ _ | exact Kd.V_nil _ _ _ _ _ | exact Kd.Q_nil _ _ _ _ _ | exact Kd.S_nil _ _ _ _ _, bel_⟩
   · replace c4 := Bool.eq_false_iff.mpr c4
     subst c4
     have H1 : (if (l0_0.length : Int) < 2 then (some (0, ([] : List (S56)), 1)) else ((spoorref03_Read.f k l0_0 l0_1 a0_2 false 0).bind fun bt315 => ((spoorref03_Read.f k l0_0 l0_1 a0_2 false 1).bind fun bt317 => ((spoorref06_Get.f k bt315.1).bind fun bt319 => ((spoorref06_Get.f k bt317.1).bind fun bt325 => (if bt319.2.2 = 0 then (spoorref06_Load.j0 k bt319.2.2 bt325.2.2 false bt319.1 bt319.2.1 bt325.1 bt325.2.1) else (spoorref06_Load.j0 k bt319.2.2 bt325.2.2 (bt325.2.2 != 0) bt319.1 bt319.2.1 bt325.1 bt325.2.1))))))) = some (r1, r2, r3) := by rw [if_neg (show ¬ (false = true) by decide)] at H; exact H
     clear H
     have H := H1
     clear H1
     by_cases c12 : (l0_0.length : Int) < 2
     · rw [if_pos c12] at H
       have c12b0 : decide ((l0_0.length : Int) < 2) = true := decide_eq_true c12
       have c12b1 : decide (l0_0.length < 2) = true := decide_eq_true (by omega)
       clear c12
       simp only [Option.some.injEq, Prod.mk.injEq] at H
       obtain ⟨rfl, rfl, rfl⟩ := H
       go_enter Try.func18, Try.ntmps18
       go_wp2_with (first | ((with_reducible refine gate_dst (N := 1) rfl ?_); refine box_event ?hg (N := 1) ?hd (cs := #[.slice A0_0 l0_0.length c0_0, .slice A0_1 l0_1.length c0_1, .int .i64 a0_2, .bool false]) (t := 38) ?hr ?_; (case hd => rfl); (case hg => rfl); (case hr => first | (go_simp; done) | (go_simp; rfl)); intro gb312 hg w13 hbox hb; have n0_ := Aside0.mk (below_step bel_ hb); have n1_ := Aside0.mk (hbox); have n2_ := Aside0.mk ((by rw [hg]; exact (below_size bel_) : w.heap.size ≤ gb312)); have n3_ := Aside0.mk ((by rw [hg]; exact (below_size bel_) : w.heap.size ≤ gb312)); clear HB; have HB := n0_; have BK312 := n1_; have GW312 := n2_; have GE312 := n3_; clear n0_ n1_ n2_ n3_; clear hb hbox hg) | ((with_reducible refine gate_dst (N := 2) rfl ?_); refine box_event ?hg (N := 2) ?hd (cs := #[.int .u64 0, .slice none 0 0]) (t := 25) ?hr ?_; (case hd => rfl); (case hg => rfl); (case hr => first | (go_simp; done) | (go_simp; rfl)); intro gb313 hg w14 hbox hb; have n0_ := Aside0.mk (blk_below (blkU BK312.out) hb); have n1_ := Aside0.mk (below_step bel_ hb); have n2_ := Aside0.mk (hbox); have n3_ := Aside0.mk ((by rw [hg]; exact (below_size bel_) : w.heap.size ≤ gb313)); have n4_ := Aside0.mk ((by rw [hg]; exact (below_size bel_) : w.heap.size ≤ gb313)); have n5_ := Aside0.mk ((by rw [hg]; exact Nat.ne_of_lt (blk_lt (blkU BK312.out)) : gb312 ≠ gb313)); have n6_ := Aside0.mk ((by rw [hg]; exact Nat.ne_of_gt (blk_lt (blkU BK312.out)) : gb313 ≠ gb312)); clear BK312; clear HB; have BK312 := n0_; have HB := n1_; have BK313 := n2_; have GW313 := n3_; have GE313 := n4_; have NB312_313 := n5_; have NB313_312 := n6_; clear n0_ n1_ n2_ n3_ n4_ n5_ n6_; clear hb hbox hg; have hnb15 := NB312_313.out; have hnc15 := NB313_312.out; obtain ⟨hcz16_0, hcz16_1, hcz16_2, hcz16_3, hfz16_0, hfz16_1, hfz16_2, hfz16_3⟩ := c4_ BK312.out) | ((with_reducible refine gate_callee (f := 34) rfl ?_); refine goesL_ (some 13) rfl rfl Try.func34 (by kernel_rfl) rfl #[.agg #[.slice A0_0 l0_0.length c0_0, .slice A0_1 l0_1.length c0_1, .int .i64 a0_2, .bool false]] rfl args_ ?_; (with_reducible refine (spoorref03_Check.calls k _ _ l0_0 _ _ l0_1 a0_2 false t314 _ ?side1 ?side2 ?side3 ?side4 A2.out).mono ?_); (case side1 => exact CU (Kd.C_below HR0_0.out HB.out)); (case side2 => exact HC0_0.out); (case side3 => exact CU (Kd.C_below HR0_1.out HB.out)); (case side4 => exact HC0_1.out); rintro e w17 ⟨rfl, hb⟩; refine ⟨_, rfl, ?_⟩; have n0_ := Aside0.mk (blk_below (blkU BK312.out) hb); have n1_ := Aside0.mk (blk_below (blkU BK313.out) hb); have n2_ := Aside0.mk (below_step bel_ hb); clear BK312; clear BK313; clear HB; have BK312 := n0_; have BK313 := n1_; have HB := n2_; clear n0_ n1_ n2_; (try clear hb); (try clear hb2); (try clear hk); (try clear hi); obtain ⟨hcz18_0, hcz18_1, hcz18_2, hcz18_3, hfz18_0, hfz18_1, hfz18_2, hfz18_3⟩ := c4_ BK312.out; obtain ⟨hcz19_0, hcz19_1, hfz19_0, hfz19_1⟩ := c2_ BK313.out))
       refine bodyPost_ret (results_ct rfl _ _ gb313 25 #[.int .u64 0, .slice none 0 0] (0, 0) _ rfl (by refine blkU ?_; refine blk_put (cs := #[.int .u64 0, .slice none 0 0]) ?_ 1 _ rfl; refine blkU ?_; refine blk_put (cs := #[.int .u64 0, .slice none 0 0]) ?_ 0 _ rfl; refine blkU ?_; exact BK313.out) Try.underlying25 rfl (by kernel_rfl)) rfl ?_
       exact ⟨_, by first | rfl | (simp [errW_none, errW_some] <;> rfl) | (simp [*, errW_none, errW_some] <;> rfl), by first | exact Kd.R_nil _ _ _ _ _ | exact Kd.N_nil _ _ _ _ _ | exact Kd.V_nil _ _ _ _ _ | exact Kd.Q_nil _ _ _ _ _ | exact Kd.S_nil _ _ _ _ _, bel_⟩
     · rw [if_neg c12] at H
       have c12b0 : decide ((l0_0.length : Int) < 2) = false := decide_eq_false c12
       have c12b1 : decide (l0_0.length < 2) = false := decide_eq_false (by omega)
       clear c12
       replace H := Option.bind_eq_some_iff.mp H
       obtain ⟨⟨t315, t316⟩, A200, H⟩ := H
       replace H : ((spoorref03_Read.f k l0_0 l0_1 a0_2 false 1).bind fun bt317 => ((spoorref06_Get.f k t315).bind fun bt319 => ((spoorref06_Get.f k bt317.1).bind fun bt325 => (if bt319.2.2 = 0 then (spoorref06_Load.j0 k bt319.2.2 bt325.2.2 false bt319.1 bt319.2.1 bt325.1 bt325.2.1) else (spoorref06_Load.j0 k bt319.2.2 bt325.2.2 (bt325.2.2 != 0) bt319.1 bt319.2.1 bt325.1 bt325.2.1))))) = some (r1, r2, r3) := H
       have A20 := Aside0.mk A200
       clear A200
       replace H := Option.bind_eq_some_iff.mp H
       obtain ⟨⟨t317, t318⟩, A210, H⟩ := H
       replace H : ((spoorref06_Get.f k t315).bind fun bt319 => ((spoorref06_Get.f k t317).bind fun bt325 => (if bt319.2.2 = 0 then (spoorref06_Load.j0 k bt319.2.2 bt325.2.2 false bt319.1 bt319.2.1 bt325.1 bt325.2.1) else (spoorref06_Load.j0 k bt319.2.2 bt325.2.2 (bt325.2.2 != 0) bt319.1 bt319.2.1 bt325.1 bt325.2.1)))) = some (r1, r2, r3) := H
       have A21 := Aside0.mk A210
       clear A210
       replace H := Option.bind_eq_some_iff.mp H
       obtain ⟨⟨t319, t320, t323⟩, A220, H⟩ := H
       replace H : ((spoorref06_Get.f k t317).bind fun bt325 => (if t323 = 0 then (spoorref06_Load.j0 k t323 bt325.2.2 false t319 t320 bt325.1 bt325.2.1) else (spoorref06_Load.j0 k t323 bt325.2.2 (bt325.2.2 != 0) t319 t320 bt325.1 bt325.2.1))) = some (r1, r2, r3) := H
       have A22 := Aside0.mk A220
       clear A220
       replace H := Option.bind_eq_some_iff.mp H
       obtain ⟨⟨t325, t326, t329⟩, A230, H⟩ := H
       replace H : (if t323 = 0 then (spoorref06_Load.j0 k t323 t329 false t319 t320 t325 t326) else (spoorref06_Load.j0 k t323 t329 (t329 != 0) t319 t320 t325 t326)) = some (r1, r2, r3) := H
       have A23 := Aside0.mk A230
       clear A230
       have HC24 := Aside0.mk H
       clear H
       go_enter Try.func18, Try.ntmps18
       go_upto_region 11 with (first | ((with_reducible refine gate_dst (N := 1) rfl ?_); refine box_event ?hg (N := 1) ?hd (cs := #[.slice A0_0 l0_0.length c0_0, .slice A0_1 l0_1.length c0_1, .int .i64 a0_2, .bool false]) (t := 38) ?hr ?_; (case hd => rfl); (case hg => rfl); (case hr => first | (go_simp; done) | (go_simp; rfl)); intro gb312 hg w25 hbox hb; have n0_ := Aside0.mk (below_step bel_ hb); have n1_ := Aside0.mk (hbox); have n2_ := Aside0.mk ((by rw [hg]; exact (below_size bel_) : w.heap.size ≤ gb312)); have n3_ := Aside0.mk ((by rw [hg]; exact (below_size bel_) : w.heap.size ≤ gb312)); clear HB; have HB := n0_; have BK312 := n1_; have GW312 := n2_; have GE312 := n3_; clear n0_ n1_ n2_ n3_; clear hb hbox hg) | ((with_reducible refine gate_dst (N := 2) rfl ?_); refine box_event ?hg (N := 2) ?hd (cs := #[.int .u64 0, .slice none 0 0]) (t := 25) ?hr ?_; (case hd => rfl); (case hg => rfl); (case hr => first | (go_simp; done) | (go_simp; rfl)); intro gb313 hg w26 hbox hb; have n0_ := Aside0.mk (blk_below (blkU BK312.out) hb); have n1_ := Aside0.mk (below_step bel_ hb); have n2_ := Aside0.mk (hbox); have n3_ := Aside0.mk ((by rw [hg]; exact (below_size bel_) : w.heap.size ≤ gb313)); have n4_ := Aside0.mk ((by rw [hg]; exact (below_size bel_) : w.heap.size ≤ gb313)); have n5_ := Aside0.mk ((by rw [hg]; exact Nat.ne_of_lt (blk_lt (blkU BK312.out)) : gb312 ≠ gb313)); have n6_ := Aside0.mk ((by rw [hg]; exact Nat.ne_of_gt (blk_lt (blkU BK312.out)) : gb313 ≠ gb312)); clear BK312; clear HB; have BK312 := n0_; have HB := n1_; have BK313 := n2_; have GW313 := n3_; have GE313 := n4_; have NB312_313 := n5_; have NB313_312 := n6_; clear n0_ n1_ n2_ n3_ n4_ n5_ n6_; clear hb hbox hg; have hnb27 := NB312_313.out; have hnc27 := NB313_312.out; obtain ⟨hcz28_0, hcz28_1, hcz28_2, hcz28_3, hfz28_0, hfz28_1, hfz28_2, hfz28_3⟩ := c4_ BK312.out) | ((with_reducible refine gate_callee (f := 34) rfl ?_); refine goesL_ (some 13) rfl rfl Try.func34 (by kernel_rfl) rfl #[.agg #[.slice A0_0 l0_0.length c0_0, .slice A0_1 l0_1.length c0_1, .int .i64 a0_2, .bool false]] rfl args_ ?_; (with_reducible refine (spoorref03_Check.calls k _ _ l0_0 _ _ l0_1 a0_2 false t314 _ ?side1 ?side2 ?side3 ?side4 A2.out).mono ?_); (case side1 => exact CU (Kd.C_below HR0_0.out HB.out)); (case side2 => exact HC0_0.out); (case side3 => exact CU (Kd.C_below HR0_1.out HB.out)); (case side4 => exact HC0_1.out); rintro e w29 ⟨rfl, hb⟩; refine ⟨_, rfl, ?_⟩; have n0_ := Aside0.mk (blk_below (blkU BK312.out) hb); have n1_ := Aside0.mk (blk_below (blkU BK313.out) hb); have n2_ := Aside0.mk (below_step bel_ hb); clear BK312; clear BK313; clear HB; have BK312 := n0_; have BK313 := n1_; have HB := n2_; clear n0_ n1_ n2_; (try clear hb); (try clear hb2); (try clear hk); (try clear hi); obtain ⟨hcz30_0, hcz30_1, hcz30_2, hcz30_3, hfz30_0, hfz30_1, hfz30_2, hfz30_3⟩ := c4_ BK312.out) | ((with_reducible refine gate_callee (f := 35) rfl ?_); refine goesL_ (some 26) rfl rfl Try.func35 (by kernel_rfl) rfl #[.agg #[.slice A0_0 l0_0.length c0_0, .slice A0_1 l0_1.length c0_1, .int .i64 a0_2, .bool false], .int .i64 0] rfl args_ ?_; (with_reducible refine (spoorref03_Read.calls k _ _ l0_0 _ _ l0_1 a0_2 false 0 t315 t316 _ ?side1 ?side2 ?side3 ?side4 A20.out).mono ?_); (case side1 => exact CU (Kd.C_below HR0_0.out HB.out)); (case side2 => exact HC0_0.out); (case side3 => exact CU (Kd.C_below HR0_1.out HB.out)); (case side4 => exact HC0_1.out); rintro e w31 ⟨rfl, hb⟩; refine ⟨_, rfl, ?_⟩; have n0_ := Aside0.mk (blk_below (blkU BK312.out) hb); have n1_ := Aside0.mk (blk_below (blkU BK313.out) hb); have n2_ := Aside0.mk (below_step bel_ hb); clear BK312; clear BK313; clear HB; have BK312 := n0_; have BK313 := n1_; have HB := n2_; clear n0_ n1_ n2_; (try clear hb); (try clear hb2); (try clear hk); (try clear hi); obtain ⟨hcz32_0, hcz32_1, hcz32_2, hcz32_3, hfz32_0, hfz32_1, hfz32_2, hfz32_3⟩ := c4_ BK312.out) | ((with_reducible refine gate_callee (f := 35) rfl ?_); refine goesL_ (some 31) rfl rfl Try.func35 (by kernel_rfl) rfl #[.agg #[.slice A0_0 l0_0.length c0_0, .slice A0_1 l0_1.length c0_1, .int .i64 a0_2, .bool false], .int .i64 1] rfl args_ ?_; (with_reducible refine (spoorref03_Read.calls k _ _ l0_0 _ _ l0_1 a0_2 false 1 t317 t318 _ ?side1 ?side2 ?side3 ?side4 A21.out).mono ?_); (case side1 => exact CU (Kd.C_below HR0_0.out HB.out)); (case side2 => exact HC0_0.out); (case side3 => exact CU (Kd.C_below HR0_1.out HB.out)); (case side4 => exact HC0_1.out); rintro e w33 ⟨rfl, hb⟩; refine ⟨_, rfl, ?_⟩; have n0_ := Aside0.mk (blk_below (blkU BK312.out) hb); have n1_ := Aside0.mk (blk_below (blkU BK313.out) hb); have n2_ := Aside0.mk (below_step bel_ hb); clear BK312; clear BK313; clear HB; have BK312 := n0_; have BK313 := n1_; have HB := n2_; clear n0_ n1_ n2_; (try clear hb); (try clear hb2); (try clear hk); (try clear hi)) | ((with_reducible refine gate_callee (f := 11) rfl ?_); refine goesL_ (some 36) rfl rfl Try.func11 (by kernel_rfl) rfl #[.string t315] rfl args_ ?_; (with_reducible refine (spoorref06_Get.calls k t315 t319 t320 t323 _ A22.out).mono ?_); rintro e w34 ⟨v321, rfl, ho0, hb⟩; refine ⟨_, rfl, ?_⟩; have n0_ := Aside0.mk (Kd.R_lower ho0 (below_size bel_)); have n1_ := Aside0.mk (blk_below (blkU BK312.out) hb); have n2_ := Aside0.mk (blk_below (blkU BK313.out) hb); have n3_ := Aside0.mk (below_step bel_ hb); clear BK312; clear BK313; clear HB; have HO322 := n0_; have BK312 := n1_; have BK313 := n2_; have HB := n3_; clear n0_ n1_ n2_ n3_; (try clear hb); (try clear hb2); (try clear hk); (try clear hi); (try clear ho0)) | ((with_reducible refine gate_dst (N := 8) rfl ?_); refine box_event ?hg (N := 8) ?hd (cs := #[.int .u64 0, .slice none 0 0]) (t := 25) ?hr ?_; (case hd => rfl); (case hg => rfl); (case hr => first | (go_simp; done) | (go_simp; rfl)); intro gb324 hg w35 hbox hb; have n0_ := Aside0.mk (Kd.R_below (by (try apply RU); exact HO322.out) hb); have n1_ := Aside0.mk (blk_below (blkU BK312.out) hb); have n2_ := Aside0.mk (blk_below (blkU BK313.out) hb); have n3_ := Aside0.mk (below_step bel_ hb); have n4_ := Aside0.mk (hbox); have n5_ := Aside0.mk ((by rw [hg]; exact (below_size bel_) : w.heap.size ≤ gb324)); have n6_ := Aside0.mk ((by rw [hg]; exact (below_size bel_) : w.heap.size ≤ gb324)); have n7_ := Aside0.mk ((by rw [hg]; exact Nat.ne_of_lt (blk_lt (blkU BK312.out)) : gb312 ≠ gb324)); have n8_ := Aside0.mk ((by rw [hg]; exact Nat.ne_of_gt (blk_lt (blkU BK312.out)) : gb324 ≠ gb312)); have n9_ := Aside0.mk ((by rw [hg]; exact Nat.ne_of_lt (blk_lt (blkU BK313.out)) : gb313 ≠ gb324)); have n10_ := Aside0.mk ((by rw [hg]; exact Nat.ne_of_gt (blk_lt (blkU BK313.out)) : gb324 ≠ gb313)); clear HO322; clear BK312; clear BK313; clear HB; have HO322 := n0_; have BK312 := n1_; have BK313 := n2_; have HB := n3_; have BK324 := n4_; have GW324 := n5_; have GE324 := n6_; have NB312_324 := n7_; have NB324_312 := n8_; have NB313_324 := n9_; have NB324_313 := n10_; clear n0_ n1_ n2_ n3_ n4_ n5_ n6_ n7_ n8_ n9_ n10_; clear hb hbox hg; have hnb36 := NB324_312.out; have hnc36 := NB312_324.out; have hnb37 := NB324_313.out; have hnc37 := NB313_324.out; obtain ⟨hcz38_0, hcz38_1, hfz38_0, hfz38_1⟩ := c2_ BK324.out; obtain ⟨Ao39, co39, eo39⟩ := Kd.R_slice HO322.out; subst eo39) | ((with_reducible refine gate_callee (f := 11) rfl ?_); refine goesL_ (some 41) rfl rfl Try.func11 (by kernel_rfl) rfl #[.string t317] rfl args_ ?_; (with_reducible refine (spoorref06_Get.calls k t317 t325 t326 t329 _ A23.out).mono ?_); rintro e w40 ⟨v327, rfl, ho0, hb⟩; refine ⟨_, rfl, ?_⟩; have n0_ := Aside0.mk (Kd.R_elder' (by (try apply RU); exact (Kd.R_mono (Kd.R_far (p := ⟨gb324, 1, none⟩) (Kd.R_far (p := ⟨gb324, 0, none⟩) (Kd.R_types HO322.out BK324.out (by decide)) (fun _ hk => hk.2) (.int .u64 t319)) (fun _ hk => hk.2) (.slice Ao39 t320.length co39)) (fun _ h_ => h_.1))) (Kd.R_base ho0) hb); have n1_ := Aside0.mk (Kd.R_lower (Kd.R_new' ho0 (Kd.R_lt (by (try apply RU); exact (Kd.R_mono (Kd.R_far (p := ⟨gb324, 1, none⟩) (Kd.R_far (p := ⟨gb324, 0, none⟩) (Kd.R_types HO322.out BK324.out (by decide)) (fun _ hk => hk.2) (.int .u64 t319)) (fun _ hk => hk.2) (.slice Ao39 t320.length co39)) (fun _ h_ => h_.1))))) (below_size bel_)); have n2_ := Aside0.mk (blk_below (g := gb312) (o := .cells #[.slice A0_0 l0_0.length c0_0, .slice A0_1 l0_1.length c0_1, .int .i64 a0_2, .bool false] 38 (0, 0)) (by refine blkU ?_; refine blk_far ?_ NB312_324.out _; refine blkU ?_; refine blk_far ?_ NB312_324.out _; refine blkU ?_; exact BK312.out) hb); have n3_ := Aside0.mk (blk_below (g := gb313) (o := .cells #[.int .u64 0, .slice none 0 0] 25 (0, 0)) (by refine blkU ?_; refine blk_far ?_ NB313_324.out _; refine blkU ?_; refine blk_far ?_ NB313_324.out _; refine blkU ?_; exact BK313.out) hb); have n4_ := Aside0.mk (blk_below (g := gb324) (o := .cells #[.int .u64 t319, .slice Ao39 t320.length co39] 25 (0, 0)) (by refine blkU ?_; refine blk_put (cs := #[.int .u64 t319, .slice none 0 0]) ?_ 1 _ rfl; refine blkU ?_; refine blk_put (cs := #[.int .u64 0, .slice none 0 0]) ?_ 0 _ rfl; refine blkU ?_; exact BK324.out) hb); have n5_ := Aside0.mk (below_step bel_ hb); clear HO322; clear BK312; clear BK313; clear BK324; clear HB; have HO322 := n0_; have HO328 := n1_; have BK312 := n2_; have BK313 := n3_; have BK324 := n4_; have HB := n5_; clear n0_ n1_ n2_ n3_ n4_ n5_; (try clear hb); (try clear hb2); (try clear hk); (try clear hi); (try clear ho0)) | ((with_reducible refine gate_dst (N := 10) rfl ?_); refine box_event ?hg (N := 10) ?hd (cs := #[.int .u64 0, .slice none 0 0]) (t := 25) ?hr ?_; (case hd => rfl); (case hg => rfl); (case hr => first | (go_simp; done) | (go_simp; rfl)); intro gb330 hg w41 hbox hb; have n0_ := Aside0.mk (Kd.R_below (by (try apply RU); exact HO322.out) hb); have n1_ := Aside0.mk (Kd.R_below (by (try apply RU); exact HO328.out) hb); have n2_ := Aside0.mk (blk_below (blkU BK312.out) hb); have n3_ := Aside0.mk (blk_below (blkU BK313.out) hb); have n4_ := Aside0.mk (blk_below (blkU BK324.out) hb); have n5_ := Aside0.mk (below_step bel_ hb); have n6_ := Aside0.mk (hbox); have n7_ := Aside0.mk ((by rw [hg]; exact (below_size bel_) : w.heap.size ≤ gb330)); have n8_ := Aside0.mk ((by rw [hg]; exact (below_size bel_) : w.heap.size ≤ gb330)); have n9_ := Aside0.mk ((by rw [hg]; exact Nat.ne_of_lt (blk_lt (blkU BK312.out)) : gb312 ≠ gb330)); have n10_ := Aside0.mk ((by rw [hg]; exact Nat.ne_of_gt (blk_lt (blkU BK312.out)) : gb330 ≠ gb312)); have n11_ := Aside0.mk ((by rw [hg]; exact Nat.ne_of_lt (blk_lt (blkU BK313.out)) : gb313 ≠ gb330)); have n12_ := Aside0.mk ((by rw [hg]; exact Nat.ne_of_gt (blk_lt (blkU BK313.out)) : gb330 ≠ gb313)); have n13_ := Aside0.mk ((by rw [hg]; exact Nat.ne_of_lt (blk_lt (blkU BK324.out)) : gb324 ≠ gb330)); have n14_ := Aside0.mk ((by rw [hg]; exact Nat.ne_of_gt (blk_lt (blkU BK324.out)) : gb330 ≠ gb324)); clear HO322; clear HO328; clear BK312; clear BK313; clear BK324; clear HB; have HO322 := n0_; have HO328 := n1_; have BK312 := n2_; have BK313 := n3_; have BK324 := n4_; have HB := n5_; have BK330 := n6_; have GW330 := n7_; have GE330 := n8_; have NB312_330 := n9_; have NB330_312 := n10_; have NB313_330 := n11_; have NB330_313 := n12_; have NB324_330 := n13_; have NB330_324 := n14_; clear n0_ n1_ n2_ n3_ n4_ n5_ n6_ n7_ n8_ n9_ n10_ n11_ n12_ n13_ n14_; clear hb hbox hg; have hnb42 := NB330_312.out; have hnc42 := NB312_330.out; have hnb43 := NB330_313.out; have hnc43 := NB313_330.out; have hnb44 := NB330_324.out; have hnc44 := NB324_330.out; obtain ⟨hcz45_0, hcz45_1, hfz45_0, hfz45_1⟩ := c2_ BK330.out; obtain ⟨Ao46, co46, eo46⟩ := Kd.R_slice HO328.out; subst eo46))
       (try simp only [Act.put, List.setIfInBounds_toArray, List.set_cons_zero, List.set_cons_succ])
       go_cut [49] (fun v49 wc => ∃ (kq : Nat) (x49_23 : Bool), v49 = .bool x49_23 ∧ Aside0 (spoorref06_Load.j0 kq t323 t329 x49_23 t319 t320 t325 t326 = some (r1, r2, r3)) ∧ Aside0 (kq ≤ k) ∧ Aside0 (Kd.R k56 56 wc w.heap.size (fun k_ => some k_ ≠ ((.slice Ao46 t326.length co46) : Value).ownBlock) (.slice Ao39 t320.length co39) t320) ∧ Aside0 (Kd.R k56 56 wc w.heap.size (fun k_ => some k_ ≠ ((.slice Ao39 t320.length co39) : Value).ownBlock) (.slice Ao46 t326.length co46) t326) ∧ Aside0 (wc.heap[gb312]? = some (.cells #[(.slice A0_0 l0_0.length c0_0), (.slice A0_1 l0_1.length c0_1), .int .i64 a0_2, .bool false] 38 (0, 0))) ∧ Aside0 (wc.heap[gb313]? = some (.cells #[.int .u64 0, (.slice none 0 0)] 25 (0, 0))) ∧ Aside0 (wc.heap[gb324]? = some (.cells #[.int .u64 t319, (.slice Ao39 t320.length co39)] 25 (0, 0))) ∧ Aside0 (wc.heap[gb330]? = some (.cells #[.int .u64 t325, (.slice Ao46 t326.length co46)] 25 (0, 0))) ∧ Aside0 (Below w.heap.size w wc))
       case first =>
        have H := HC24.out
        clear HC24
        by_cases c47 : t323 = 0
        · rw [if_pos c47] at H
          have c47b0 : (t323 == 0) = true := beq_iff_eq.mpr c47
          have c47b1 : (t323 != 0) = false := bne_eq_false_iff_eq.mpr c47
          clear c47
          (first | rw [c47b0] | (simp only [i64_w, i32_w]; rw [c47b0]) | skip)
          have H' := Aside0.mk H
          clear H
          go_wp2
          go_meet
          case rel => exact ⟨_, (false), (by first | rfl | (simp; done) | (simp [*]; done)), H', ⟨by first | omega | exact Nat.le_refl _⟩, ⟨by (try apply RU); exact Kd.R_mono (Kd.R_far (p := ⟨gb330, 1, none⟩) (Kd.R_far (p := ⟨gb330, 0, none⟩) (Kd.R_types HO322.out BK330.out (by decide)) (fun _ hk => hk.2) (.int .u64 t325)) (fun _ hk => hk.2) (.slice Ao46 t326.length co46)) (fun _ hk => hk.1.2)⟩, ⟨by (try apply RU); exact Kd.R_mono (Kd.R_far (p := ⟨gb330, 1, none⟩) (Kd.R_far (p := ⟨gb330, 0, none⟩) (Kd.R_types HO328.out BK330.out (by decide)) (fun _ hk => hk.2) (.int .u64 t325)) (fun _ hk => hk.2) (.slice Ao46 t326.length co46)) (fun _ hk => hk.1.2)⟩, ⟨by refine blkU ?_; refine blk_far ?_ NB312_330.out _; refine blkU ?_; refine blk_far ?_ NB312_330.out _; refine blkU ?_; exact BK312.out⟩, ⟨by refine blkU ?_; refine blk_far ?_ NB313_330.out _; refine blkU ?_; refine blk_far ?_ NB313_330.out _; refine blkU ?_; exact BK313.out⟩, ⟨by refine blkU ?_; refine blk_far ?_ NB324_330.out _; refine blkU ?_; refine blk_far ?_ NB324_330.out _; refine blkU ?_; exact BK324.out⟩, ⟨by refine blkU ?_; refine blk_put (cs := #[.int .u64 t325, .slice none 0 0]) ?_ 1 _ rfl; refine blkU ?_; refine blk_put (cs := #[.int .u64 0, .slice none 0 0]) ?_ 0 _ rfl; refine blkU ?_; exact BK330.out⟩, ⟨bel_⟩⟩
        · rw [if_neg c47] at H
          have c47b0 : (t323 == 0) = false := beq_eq_false_iff_ne.mpr c47
          have c47b1 : (t323 != 0) = true := bne_iff_ne.mpr c47
          (first | rw [c47b0] | (simp only [i64_w, i32_w]; rw [c47b0]) | skip)
          have H' := Aside0.mk H
          clear H
          go_wp2
          go_meet
          case rel => exact ⟨_, ((t329 != 0)), (by first | rfl | (simp; done) | (simp [*]; done)), H', ⟨by first | omega | exact Nat.le_refl _⟩, ⟨by (try apply RU); exact Kd.R_mono (Kd.R_far (p := ⟨gb330, 1, none⟩) (Kd.R_far (p := ⟨gb330, 0, none⟩) (Kd.R_types HO322.out BK330.out (by decide)) (fun _ hk => hk.2) (.int .u64 t325)) (fun _ hk => hk.2) (.slice Ao46 t326.length co46)) (fun _ hk => hk.1.2)⟩, ⟨by (try apply RU); exact Kd.R_mono (Kd.R_far (p := ⟨gb330, 1, none⟩) (Kd.R_far (p := ⟨gb330, 0, none⟩) (Kd.R_types HO328.out BK330.out (by decide)) (fun _ hk => hk.2) (.int .u64 t325)) (fun _ hk => hk.2) (.slice Ao46 t326.length co46)) (fun _ hk => hk.1.2)⟩, ⟨by refine blkU ?_; refine blk_far ?_ NB312_330.out _; refine blkU ?_; refine blk_far ?_ NB312_330.out _; refine blkU ?_; exact BK312.out⟩, ⟨by refine blkU ?_; refine blk_far ?_ NB313_330.out _; refine blkU ?_; refine blk_far ?_ NB313_330.out _; refine blkU ?_; exact BK313.out⟩, ⟨by refine blkU ?_; refine blk_far ?_ NB324_330.out _; refine blkU ?_; refine blk_far ?_ NB324_330.out _; refine blkU ?_; exact BK324.out⟩, ⟨by refine blkU ?_; refine blk_put (cs := #[.int .u64 t325, .slice none 0 0]) ?_ 1 _ rfl; refine blkU ?_; refine blk_put (cs := #[.int .u64 0, .slice none 0 0]) ?_ 0 _ rfl; refine blkU ?_; exact BK330.out⟩, ⟨bel_⟩⟩
       case rest =>
        clear HC24; try clear c1; try clear c2; try clear p2; try clear c3; try clear c3b0; try clear c3b1; try clear c4; try clear c7; try clear c11; try clear c12; try clear c12b0; try clear c12b1; try clear c15; try clear c18; try clear c27; try clear c34; try clear c35; try clear c36; try clear c37; try clear c42; try clear c43; try clear c44; try clear c47; try clear c47b0; try clear c47b1; try clear hcz10_0; try clear hcz10_1; try clear hcz10_2; try clear hcz10_3; try clear hcz11_0; try clear hcz11_1; try clear hcz16_0; try clear hcz16_1; try clear hcz16_2; try clear hcz16_3; try clear hcz18_0; try clear hcz18_1; try clear hcz18_2; try clear hcz18_3; try clear hcz19_0; try clear hcz19_1; try clear hcz28_0; try clear hcz28_1; try clear hcz28_2; try clear hcz28_3; try clear hcz30_0; try clear hcz30_1; try clear hcz30_2; try clear hcz30_3; try clear hcz32_0; try clear hcz32_1; try clear hcz32_2; try clear hcz32_3; try clear hcz38_0; try clear hcz38_1; try clear hcz45_0; try clear hcz45_1; try clear hcz8_0; try clear hcz8_1; try clear hcz8_2; try clear hcz8_3; try clear hfz10_0; try clear hfz10_1; try clear hfz10_2; try clear hfz10_3; try clear hfz11_0; try clear hfz11_1; try clear hfz16_0; try clear hfz16_1; try clear hfz16_2; try clear hfz16_3; try clear hfz18_0; try clear hfz18_1; try clear hfz18_2; try clear hfz18_3; try clear hfz19_0; try clear hfz19_1; try clear hfz28_0; try clear hfz28_1; try clear hfz28_2; try clear hfz28_3; try clear hfz30_0; try clear hfz30_1; try clear hfz30_2; try clear hfz30_3; try clear hfz32_0; try clear hfz32_1; try clear hfz32_2; try clear hfz32_3; try clear hfz38_0; try clear hfz38_1; try clear hfz45_0; try clear hfz45_1; try clear hfz8_0; try clear hfz8_1; try clear hfz8_2; try clear hfz8_3
        obtain ⟨kq, x49_23, rfl, HA, HJ23, HO_325001, HO_331001, BK312, BK313, BK324, BK330, HB⟩ := hcut
        cases kq with
        | zero => exact absurd HA.out (by simp [spoorref06_Load.j0])
        | succ kj23 =>
         have H := HA.out
         clear HA
         simp only [spoorref06_Load.j0] at H
         by_cases c48 : x49_23 = true
         · subst c48
           have H1 : (some (0, ([] : List (S56)), 3)) = some (r1, r2, r3) := by rw [if_pos rfl] at H; exact H
           clear H
           have H := H1
           clear H1
           simp only [Option.some.injEq, Prod.mk.injEq] at H
           obtain ⟨rfl, rfl, rfl⟩ := H
           have hnb49 := NB313_312.out
           have hnc49 := NB312_313.out
           have hnb50 := NB313_324.out
           have hnc50 := NB324_313.out
           have hnb51 := NB313_330.out
           have hnc51 := NB330_313.out
           obtain ⟨hcz52_0, hcz52_1, hfz52_0, hfz52_1⟩ := c2_ BK313.out
           go_wp2
           refine bodyPost_ret (results_ct rfl _ _ gb313 25 #[.int .u64 0, .slice none 0 0] (0, 0) _ rfl (by refine blkU ?_; refine blk_put (cs := #[.int .u64 0, .slice none 0 0]) ?_ 1 _ rfl; refine blkU ?_; refine blk_put (cs := #[.int .u64 0, .slice none 0 0]) ?_ 0 _ rfl; refine blkU ?_; exact BK313.out) Try.underlying25 rfl (by kernel_rfl)) rfl ?_
           exact ⟨_, by first | rfl | (simp [errW_none, errW_some] <;> rfl) | (simp [*, errW_none, errW_some] <;> rfl), by first | exact Kd.R_nil _ _ _ _ _ | exact Kd.N_nil _ _ _ _ _ | exact Kd.V_nil _ _ _ _ _ | exact Kd.Q_nil _ _ _ _ _ | exact Kd.S_nil _ _ _ _ _, bel_⟩
         · replace c48 := Bool.eq_false_iff.mpr c48
           subst c48
           have H1 : (if t323 = 0 then (if t329 = 0 then (if t325 > t319 then (some (t325, t326, 0)) else (some (t319, t320, 0))) else (some (t319, t320, 0))) else (some (t325, t326, 0))) = some (r1, r2, r3) := by rw [if_neg (show ¬ (false = true) by decide)] at H; exact H
           clear H
           have H := H1
           clear H1
           by_cases c53 : t323 = 0
           · rw [if_pos c53] at H
             have c53b0 : (t323 == 0) = true := beq_iff_eq.mpr c53
             have c53b1 : (t323 != 0) = false := bne_eq_false_iff_eq.mpr c53
             clear c53
             by_cases c54 : t329 = 0
             · rw [if_pos c54] at H
               have c54b0 : (t329 == 0) = true := beq_iff_eq.mpr c54
               have c54b1 : (t329 != 0) = false := bne_eq_false_iff_eq.mpr c54
               clear c54
               by_cases c55 : t325 > t319
               · rw [if_pos c55] at H
                 have c55b0 : decide (t319 < t325) = true := decide_eq_true c55
                 clear c55
                 simp only [Option.some.injEq, Prod.mk.injEq] at H
                 obtain ⟨rfl, rfl, rfl⟩ := H
                 have hnb56 := NB330_312.out
                 have hnc56 := NB312_330.out
                 have hnb57 := NB330_313.out
                 have hnc57 := NB313_330.out
                 have hnb58 := NB330_324.out
                 have hnc58 := NB324_330.out
                 obtain ⟨hcz59_0, hcz59_1, hfz59_0, hfz59_1⟩ := c2_ BK330.out
                 have hnb60 := NB324_312.out
                 have hnc60 := NB312_324.out
                 have hnb61 := NB324_313.out
                 have hnc61 := NB313_324.out
                 obtain ⟨hcz62_0, hcz62_1, hfz62_0, hfz62_1⟩ := c2_ BK324.out
                 have hnb63 := NB313_312.out
                 have hnc63 := NB312_313.out
                 obtain ⟨hcz64_0, hcz64_1, hfz64_0, hfz64_1⟩ := c2_ BK313.out
                 go_wp2
                 refine bodyPost_ret (results_ct rfl _ _ gb313 25 #[.int .u64 t325, .slice Ao46 t326.length co46] (0, 0) _ rfl (by refine blkU ?_; refine blk_put (cs := #[.int .u64 t325, .slice none 0 0]) ?_ 1 _ rfl; refine blkU ?_; refine blk_put (cs := #[.int .u64 0, .slice none 0 0]) ?_ 0 _ rfl; refine blkU ?_; exact BK313.out) Try.underlying25 rfl (by kernel_rfl)) rfl ?_
                 exact ⟨_, by first | rfl | (simp [errW_none, errW_some] <;> rfl) | (simp [*, errW_none, errW_some] <;> rfl), by (try apply RU); exact Kd.R_mono (Kd.R_far (p := ⟨gb313, 1, none⟩) (Kd.R_far (p := ⟨gb313, 0, none⟩) (Kd.R_types HO_331001.out BK313.out (by decide)) (fun _ hk => hk.2) (.int .u64 t325)) (fun _ hk => hk.2) (.slice Ao46 t326.length co46)) (fun _ hk => trivial), bel_⟩
               · rw [if_neg c55] at H
                 have c55b0 : decide (t319 < t325) = false := decide_eq_false c55
                 clear c55
                 simp only [Option.some.injEq, Prod.mk.injEq] at H
                 obtain ⟨rfl, rfl, rfl⟩ := H
                 have hnb65 := NB330_312.out
                 have hnc65 := NB312_330.out
                 have hnb66 := NB330_313.out
                 have hnc66 := NB313_330.out
                 have hnb67 := NB330_324.out
                 have hnc67 := NB324_330.out
                 obtain ⟨hcz68_0, hcz68_1, hfz68_0, hfz68_1⟩ := c2_ BK330.out
                 have hnb69 := NB324_312.out
                 have hnc69 := NB312_324.out
                 have hnb70 := NB324_313.out
                 have hnc70 := NB313_324.out
                 obtain ⟨hcz71_0, hcz71_1, hfz71_0, hfz71_1⟩ := c2_ BK324.out
                 have hnb72 := NB313_312.out
                 have hnc72 := NB312_313.out
                 obtain ⟨hcz73_0, hcz73_1, hfz73_0, hfz73_1⟩ := c2_ BK313.out
                 go_wp2
                 refine bodyPost_ret (results_ct rfl _ _ gb313 25 #[.int .u64 t319, .slice Ao39 t320.length co39] (0, 0) _ rfl (by refine blkU ?_; refine blk_put (cs := #[.int .u64 t319, .slice none 0 0]) ?_ 1 _ rfl; refine blkU ?_; refine blk_put (cs := #[.int .u64 0, .slice none 0 0]) ?_ 0 _ rfl; refine blkU ?_; exact BK313.out) Try.underlying25 rfl (by kernel_rfl)) rfl ?_
                 exact ⟨_, by first | rfl | (simp [errW_none, errW_some] <;> rfl) | (simp [*, errW_none, errW_some] <;> rfl), by (try apply RU); exact Kd.R_mono (Kd.R_far (p := ⟨gb313, 1, none⟩) (Kd.R_far (p := ⟨gb313, 0, none⟩) (Kd.R_types HO_325001.out BK313.out (by decide)) (fun _ hk => hk.2) (.int .u64 t319)) (fun _ hk => hk.2) (.slice Ao39 t320.length co39)) (fun _ hk => trivial), bel_⟩
             · rw [if_neg c54] at H
               have c54b0 : (t329 == 0) = false := beq_eq_false_iff_ne.mpr c54
               have c54b1 : (t329 != 0) = true := bne_iff_ne.mpr c54
               simp only [Option.some.injEq, Prod.mk.injEq] at H
               obtain ⟨rfl, rfl, rfl⟩ := H
               have hnb74 := NB324_312.out
               have hnc74 := NB312_324.out
               have hnb75 := NB324_313.out
               have hnc75 := NB313_324.out
               have hnb76 := NB324_330.out
               have hnc76 := NB330_324.out
               obtain ⟨hcz77_0, hcz77_1, hfz77_0, hfz77_1⟩ := c2_ BK324.out
               have hnb78 := NB313_312.out
               have hnc78 := NB312_313.out
               have hnb79 := NB313_330.out
               have hnc79 := NB330_313.out
               obtain ⟨hcz80_0, hcz80_1, hfz80_0, hfz80_1⟩ := c2_ BK313.out
               go_wp2
               refine bodyPost_ret (results_ct rfl _ _ gb313 25 #[.int .u64 t319, .slice Ao39 t320.length co39] (0, 0) _ rfl (by refine blkU ?_; refine blk_put (cs := #[.int .u64 t319, .slice none 0 0]) ?_ 1 _ rfl; refine blkU ?_; refine blk_put (cs := #[.int .u64 0, .slice none 0 0]) ?_ 0 _ rfl; refine blkU ?_; exact BK313.out) Try.underlying25 rfl (by kernel_rfl)) rfl ?_
               exact ⟨_, by first | rfl | (simp [errW_none, errW_some] <;> rfl) | (simp [*, errW_none, errW_some] <;> rfl), by (try apply RU); exact Kd.R_mono (Kd.R_far (p := ⟨gb313, 1, none⟩) (Kd.R_far (p := ⟨gb313, 0, none⟩) (Kd.R_types HO_325001.out BK313.out (by decide)) (fun _ hk => hk.2) (.int .u64 t319)) (fun _ hk => hk.2) (.slice Ao39 t320.length co39)) (fun _ hk => trivial), bel_⟩
           · rw [if_neg c53] at H
             have c53b0 : (t323 == 0) = false := beq_eq_false_iff_ne.mpr c53
             have c53b1 : (t323 != 0) = true := bne_iff_ne.mpr c53
             simp only [Option.some.injEq, Prod.mk.injEq] at H
             obtain ⟨rfl, rfl, rfl⟩ := H
             have hnb81 := NB330_312.out
             have hnc81 := NB312_330.out
             have hnb82 := NB330_313.out
             have hnc82 := NB313_330.out
             have hnb83 := NB330_324.out
             have hnc83 := NB324_330.out
             obtain ⟨hcz84_0, hcz84_1, hfz84_0, hfz84_1⟩ := c2_ BK330.out
             have hnb85 := NB313_312.out
             have hnc85 := NB312_313.out
             have hnb86 := NB313_324.out
             have hnc86 := NB324_313.out
             obtain ⟨hcz87_0, hcz87_1, hfz87_0, hfz87_1⟩ := c2_ BK313.out
             go_wp2
             refine bodyPost_ret (results_ct rfl _ _ gb313 25 #[.int .u64 t325, .slice Ao46 t326.length co46] (0, 0) _ rfl (by refine blkU ?_; refine blk_put (cs := #[.int .u64 t325, .slice none 0 0]) ?_ 1 _ rfl; refine blkU ?_; refine blk_put (cs := #[.int .u64 0, .slice none 0 0]) ?_ 0 _ rfl; refine blkU ?_; exact BK313.out) Try.underlying25 rfl (by kernel_rfl)) rfl ?_
             exact ⟨_, by first | rfl | (simp [errW_none, errW_some] <;> rfl) | (simp [*, errW_none, errW_some] <;> rfl), by (try apply RU); exact Kd.R_mono (Kd.R_far (p := ⟨gb313, 1, none⟩) (Kd.R_far (p := ⟨gb313, 0, none⟩) (Kd.R_types HO_331001.out BK313.out (by decide)) (fun _ hk => hk.2) (.int .u64 t325)) (fun _ hk => hk.2) (.slice Ao46 t326.length co46)) (fun _ hk => trivial), bel_⟩
 · rw [if_neg c3] at H
   have c3b0 : (t314 == 0) = false := beq_eq_false_iff_ne.mpr c3
   have c3b1 : (t314 != 0) = true := bne_iff_ne.mpr c3
   simp only [Option.some.injEq, Prod.mk.injEq] at H
   obtain ⟨rfl, rfl, rfl⟩ := H
   go_enter Try.func18, Try.ntmps18
   go_wp2_with (first | ((with_reducible refine gate_dst (N := 1) rfl ?_); refine box_event ?hg (N := 1) ?hd (cs := #[.slice A0_0 l0_0.length c0_0, .slice A0_1 l0_1.length c0_1, .int .i64 a0_2, .bool a0_3]) (t := 38) ?hr ?_; (case hd => rfl); (case hg => rfl); (case hr => first | (go_simp; done) | (go_simp; rfl)); intro gb312 hg w88 hbox hb; have n0_ := Aside0.mk (below_step bel_ hb); have n1_ := Aside0.mk (hbox); have n2_ := Aside0.mk ((by rw [hg]; exact (below_size bel_) : w.heap.size ≤ gb312)); have n3_ := Aside0.mk ((by rw [hg]; exact (below_size bel_) : w.heap.size ≤ gb312)); clear HB; have HB := n0_; have BK312 := n1_; have GW312 := n2_; have GE312 := n3_; clear n0_ n1_ n2_ n3_; clear hb hbox hg) | ((with_reducible refine gate_dst (N := 2) rfl ?_); refine box_event ?hg (N := 2) ?hd (cs := #[.int .u64 0, .slice none 0 0]) (t := 25) ?hr ?_; (case hd => rfl); (case hg => rfl); (case hr => first | (go_simp; done) | (go_simp; rfl)); intro gb313 hg w89 hbox hb; have n0_ := Aside0.mk (blk_below (blkU BK312.out) hb); have n1_ := Aside0.mk (below_step bel_ hb); have n2_ := Aside0.mk (hbox); have n3_ := Aside0.mk ((by rw [hg]; exact (below_size bel_) : w.heap.size ≤ gb313)); have n4_ := Aside0.mk ((by rw [hg]; exact (below_size bel_) : w.heap.size ≤ gb313)); have n5_ := Aside0.mk ((by rw [hg]; exact Nat.ne_of_lt (blk_lt (blkU BK312.out)) : gb312 ≠ gb313)); have n6_ := Aside0.mk ((by rw [hg]; exact Nat.ne_of_gt (blk_lt (blkU BK312.out)) : gb313 ≠ gb312)); clear BK312; clear HB; have BK312 := n0_; have HB := n1_; have BK313 := n2_; have GW313 := n3_; have GE313 := n4_; have NB312_313 := n5_; have NB313_312 := n6_; clear n0_ n1_ n2_ n3_ n4_ n5_ n6_; clear hb hbox hg; have hnb90 := NB312_313.out; have hnc90 := NB313_312.out; obtain ⟨hcz91_0, hcz91_1, hcz91_2, hcz91_3, hfz91_0, hfz91_1, hfz91_2, hfz91_3⟩ := c4_ BK312.out) | ((with_reducible refine gate_callee (f := 34) rfl ?_); refine goesL_ (some 13) rfl rfl Try.func34 (by kernel_rfl) rfl #[.agg #[.slice A0_0 l0_0.length c0_0, .slice A0_1 l0_1.length c0_1, .int .i64 a0_2, .bool a0_3]] rfl args_ ?_; (with_reducible refine (spoorref03_Check.calls k _ _ l0_0 _ _ l0_1 a0_2 a0_3 t314 _ ?side1 ?side2 ?side3 ?side4 A2.out).mono ?_); (case side1 => exact CU (Kd.C_below HR0_0.out HB.out)); (case side2 => exact HC0_0.out); (case side3 => exact CU (Kd.C_below HR0_1.out HB.out)); (case side4 => exact HC0_1.out); rintro e w92 ⟨rfl, hb⟩; refine ⟨_, rfl, ?_⟩; have n0_ := Aside0.mk (blk_below (blkU BK312.out) hb); have n1_ := Aside0.mk (blk_below (blkU BK313.out) hb); have n2_ := Aside0.mk (below_step bel_ hb); clear BK312; clear BK313; clear HB; have BK312 := n0_; have BK313 := n1_; have HB := n2_; clear n0_ n1_ n2_; (try clear hb); (try clear hb2); (try clear hk); (try clear hi); obtain ⟨hcz93_0, hcz93_1, hfz93_0, hfz93_1⟩ := c2_ BK313.out))
   refine bodyPost_ret (results_ct rfl _ _ gb313 25 #[.int .u64 0, .slice none 0 0] (0, 0) _ rfl (by refine blkU ?_; refine blk_put (cs := #[.int .u64 0, .slice none 0 0]) ?_ 1 _ rfl; refine blkU ?_; refine blk_put (cs := #[.int .u64 0, .slice none 0 0]) ?_ 0 _ rfl; refine blkU ?_; exact BK313.out) Try.underlying25 rfl (by kernel_rfl)) rfl ?_
   exact ⟨_, by first | rfl | (simp [errW_none, errW_some] <;> rfl) | (simp [*, errW_none, errW_some] <;> rfl), by first | exact Kd.R_nil _ _ _ _ _ | exact Kd.N_nil _ _ _ _ _ | exact Kd.V_nil _ _ _ _ _ | exact Kd.Q_nil _ _ _ _ _ | exact Kd.S_nil _ _ _ _ _, bel_⟩
end Go.Proofs.Ytjagplonneednaa.P
