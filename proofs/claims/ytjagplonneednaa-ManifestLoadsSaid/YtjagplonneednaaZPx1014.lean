-- kept, by a program of this session, of a text that the printer or this session wrote
import Derived.Test.YtjagplonneednaaZPx0
namespace Go.Proofs.Ytjagplonneednaa.P
open Go.RowKit Go.Proofs.YtjagplonneednaaW.PrintWords Go.Proofs.YtjagplonneednaaW.PrintLast Go.Proofs.YtjagplonneednaaW.PrintMore
attribute [local go_sem] max2_int min2_int max_two min_two max_three min_three max_four min_four
set_option linter.unusedVariables false
set_option linter.unusedSimpArgs false
mutual
def spoorref06_Check.j0 : Nat → Bool → Int → List (S56) → Option (Int)
 | 0, _, _, _ => none
 | k + 1, x20, x107000, x107001 => if x20 = true then (some 2) else (spoorref06_Check.l0 k x107001 (x107001.length : Int) 0 x107000 x107001)
def spoorref06_Check.l0 : Nat → List (S56) → Int → Int → Int → List (S56) → Option (Int)
 | 0, _, _, _, _, _ => none
 | k + 1, x22, x23, x24, x107000, x107001 => if x24 < x23 then (if 0 ≤ x24 then (if x24 < (x22.length : Int) then (if ((rd_T56 x22 x24).f0) < 0 then (spoorref06_Check.j2 k x24 x22 x23 x24 true x107000 x107001 ((rd_T56 x22 x24).f0) ((rd_T56 x22 x24).f1) ((rd_T56 x22 x24).f2)) else (if ((rd_T56 x22 x24).f0) ≥ 8 then (spoorref06_Check.j2 k x24 x22 x23 x24 true x107000 x107001 ((rd_T56 x22 x24).f0) ((rd_T56 x22 x24).f1) ((rd_T56 x22 x24).f2)) else (if ((rd_T56 x22 x24).f1) < 1 then (spoorref06_Check.j2 k x24 x22 x23 x24 true x107000 x107001 ((rd_T56 x22 x24).f0) ((rd_T56 x22 x24).f1) ((rd_T56 x22 x24).f2)) else (if ((rd_T56 x22 x24).f1) > 4611686018427387904 then (spoorref06_Check.j2 k x24 x22 x23 x24 true x107000 x107001 ((rd_T56 x22 x24).f0) ((rd_T56 x22 x24).f1) ((rd_T56 x22 x24).f2)) else (if ((rd_T56 x22 x24).f2) < (-1) then (spoorref06_Check.j2 k x24 x22 x23 x24 true x107000 x107001 ((rd_T56 x22 x24).f0) ((rd_T56 x22 x24).f1) ((rd_T56 x22 x24).f2)) else (spoorref06_Check.j2 k x24 x22 x23 x24 (decide (((rd_T56 x22 x24).f2) > 1048576)) x107000 x107001 ((rd_T56 x22 x24).f0) ((rd_T56 x22 x24).f1) ((rd_T56 x22 x24).f2))))))) else (none)) else (none)) else (some 0)
def spoorref06_Check.j2 : Nat → Int → List (S56) → Int → Int → Bool → Int → List (S56) → Int → Int → Int → Option (Int)
 | 0, _, _, _, _, _, _, _, _, _, _ => none
 | k + 1, x3, x22, x23, x24, x56, x107000, x107001, x109000, x109001, x109002 => if x56 = true then (some 2) else (if x109002 = (-1) then (if x3 = (wrap64 ((x107001.length : Int) - 1)) then (if x3 > 0 then (if 0 ≤ (wrap64 (x3 - 1)) then (if (wrap64 (x3 - 1)) < (x107001.length : Int) then (spoorref06_Check.j3 k x3 x22 x23 x24 (decide (x109001 ≤ ((rd_T56 x107001 (wrap64 (x3 - 1))).f1))) x107000 x107001 x109000 x109001 x109002) else (none)) else (none)) else (spoorref06_Check.j3 k x3 x22 x23 x24 false x107000 x107001 x109000 x109001 x109002)) else (spoorref06_Check.j3 k x3 x22 x23 x24 true x107000 x107001 x109000 x109001 x109002)) else (if x3 > 0 then (if 0 ≤ (wrap64 (x3 - 1)) then (if (wrap64 (x3 - 1)) < (x107001.length : Int) then (spoorref06_Check.j3 k x3 x22 x23 x24 (decide (x109001 ≤ ((rd_T56 x107001 (wrap64 (x3 - 1))).f1))) x107000 x107001 x109000 x109001 x109002) else (none)) else (none)) else (spoorref06_Check.j3 k x3 x22 x23 x24 false x107000 x107001 x109000 x109001 x109002)))
def spoorref06_Check.j3 : Nat → Int → List (S56) → Int → Int → Bool → Int → List (S56) → Int → Int → Int → Option (Int)
 | 0, _, _, _, _, _, _, _, _, _, _ => none
 | k + 1, x3, x22, x23, x24, x83, x107000, x107001, x109000, x109001, x109002 => if x83 = true then (some 2) else (if 0 ≤ x3 then (if x3 ≤ (x107001.length : Int) then ((some (x107001.take (x3 : Int).toNat : List (S56))).bind fun y111 => (spoorref06_Check.l1 k x22 x23 x24 y111 (y111.length : Int) 0 x107000 x107001 x109000 x109001 x109002)) else (none)) else (none))
def spoorref06_Check.l1 : Nat → List (S56) → Int → Int → List (S56) → Int → Int → Int → List (S56) → Int → Int → Int → Option (Int)
 | 0, _, _, _, _, _, _, _, _, _, _, _ => none
 | k + 1, x22, x23, x24, x87, x88, x89, x107000, x107001, x109000, x109001, x109002 => if x89 < x88 then (if 0 ≤ x89 then (if x89 < (x87.length : Int) then (if ((rd_T56 x87 x89).f0) = x109000 then (some 2) else (spoorref06_Check.l1 k x22 x23 x24 x87 x88 (wrap64 (x89 + 1)) x107000 x107001 x109000 x109001 x109002)) else (none)) else (none)) else (spoorref06_Check.l0 k x22 x23 (wrap64 (x24 + 1)) x107000 x107001)
end
def spoorref06_Check.f (k : Nat) (a0_0 : Int) (l0_1 : List (S56)) : Option (Int) := if a0_0 < 1 then (spoorref06_Check.j0 k true a0_0 l0_1) else (if a0_0 > 4611686018427387904 then (spoorref06_Check.j0 k true a0_0 l0_1) else (spoorref06_Check.j0 k (decide ((l0_1.length : Int) > 8)) a0_0 l0_1))
set_option maxHeartbeats 8000000 in
set_option maxRecDepth 100000 in
theorem spoorref06_Check.calls (k : Nat) (a0_0 : Int) (A0_1 : Option Addr) (c0_1 : Nat) (l0_1 : List (S56)) (r : Int) (w : World) (hr0_1 : Kd.C k56 w A0_1 l0_1.length l0_1) (hc0_1 : l0_1.length ≤ c0_1) (h : spoorref06_Check.f k a0_0 l0_1 = some r) :
 Calls Try.prog 14 #[.agg #[.int .u64 a0_0, .slice A0_1 l0_1.length c0_1]] w fun e w' => e = .returned (.int .i64 r) ∧ Below w.heap.size w w' := by
 have hu25 := Try.underlying25
 have hu56 := Try.underlying56
 have HR0_1 := Aside0.mk hr0_1
 have HC0_1 := Aside0.mk hc0_1
 clear hr0_1 hc0_1
 have HB := Aside0.mk (Below.refl w.heap.size w)
 have H : (if a0_0 < 1 then (spoorref06_Check.j0 k true a0_0 l0_1) else (if a0_0 > 4611686018427387904 then (spoorref06_Check.j0 k true a0_0 l0_1) else (spoorref06_Check.j0 k (decide ((l0_1.length : Int) > 8)) a0_0 l0_1))) = some r := h
 clear h
 have HC2 := Aside0.mk H
 clear H
 go_enter Try.func14, Try.ntmps14
 go_upto_region 1 with (first | ((with_reducible refine gate_dst (N := 1) rfl ?_); (try (refine gate_guard (by rfl) ?_; dsimp only)); refine box_event ?hg (N := 1) ?hd (cs := #[.int .u64 a0_0, .slice A0_1 l0_1.length c0_1]) (t := 25) ?hr ?_; (case hd => rfl); (case hg => rfl); (case hr => first | (go_simp; done) | (go_simp; rfl)); intro gb106 hg w3 hbox hb; have n0_ := Aside0.mk (below_step bel_ hb); have n1_ := Aside0.mk (hbox); have n2_ := Aside0.mk ((by rw [hg]; exact (below_size bel_) : w.heap.size ≤ gb106)); have n3_ := Aside0.mk ((by rw [hg]; exact (below_size bel_) : w.heap.size ≤ gb106)); clear HB; have HB := n0_; have BK106 := n1_; have GW106 := n2_; have GE106 := n3_; clear n0_ n1_ n2_ n3_; clear hb hbox hg))
 repeat (go_quiet (first | ((with_reducible refine gate_dst (N := 1) rfl ?_); (try (refine gate_guard (by rfl) ?_; dsimp only)); refine box_event ?hg (N := 1) ?hd (cs := #[.int .u64 a0_0, .slice A0_1 l0_1.length c0_1]) (t := 25) ?hr ?_; (case hd => rfl); (case hg => rfl); (case hr => first | (go_simp; done) | (go_simp; rfl)); intro gb106 hg w3 hbox hb; have n0_ := Aside0.mk (below_step bel_ hb); have n1_ := Aside0.mk (hbox); have n2_ := Aside0.mk ((by rw [hg]; exact (below_size bel_) : w.heap.size ≤ gb106)); have n3_ := Aside0.mk ((by rw [hg]; exact (below_size bel_) : w.heap.size ≤ gb106)); clear HB; have HB := n0_; have BK106 := n1_; have GW106 := n2_; have GE106 := n3_; clear n0_ n1_ n2_ n3_; clear hb hbox hg)); go_upto_region 1 with (first | ((with_reducible refine gate_dst (N := 1) rfl ?_); (try (refine gate_guard (by rfl) ?_; dsimp only)); refine box_event ?hg (N := 1) ?hd (cs := #[.int .u64 a0_0, .slice A0_1 l0_1.length c0_1]) (t := 25) ?hr ?_; (case hd => rfl); (case hg => rfl); (case hr => first | (go_simp; done) | (go_simp; rfl)); intro gb106 hg w3 hbox hb; have n0_ := Aside0.mk (below_step bel_ hb); have n1_ := Aside0.mk (hbox); have n2_ := Aside0.mk ((by rw [hg]; exact (below_size bel_) : w.heap.size ≤ gb106)); have n3_ := Aside0.mk ((by rw [hg]; exact (below_size bel_) : w.heap.size ≤ gb106)); clear HB; have HB := n0_; have BK106 := n1_; have GW106 := n2_; have GE106 := n3_; clear n0_ n1_ n2_ n3_; clear hb hbox hg)))
 (try simp only [Act.put, List.setIfInBounds_toArray, List.set_cons_zero, List.set_cons_succ])
 go_cut [20] (fun v20 wc => ∃ (kq : Nat) (x20_1 : Bool), v20 = .bool x20_1 ∧ Aside0 (spoorref06_Check.j0 kq x20_1 a0_0 l0_1 = some r) ∧ Aside0 (kq ≤ k) ∧ Aside0 (wc.heap[gb106]? = some (.cells #[.int .u64 a0_0, (.slice A0_1 l0_1.length c0_1)] 25 (0, 0))) ∧ Aside0 (Below w.heap.size w wc))
 case first =>
  have H := HC2.out
  clear HC2
  by_cases c4 : a0_0 < 1
  · rw [if_pos c4] at H
    have c4b0 : decide (a0_0 < 1) = true := decide_eq_true c4
    clear c4
    (first | rw [c4b0] | (simp only [i64_w, i32_w]; rw [c4b0]) | skip)
    have H' := Aside0.mk H
    clear H
    obtain ⟨hcz5_0, hcz5_1, hfz5_0, hfz5_1⟩ := c2_ BK106.out
    go_wp2
    repeat (go_quiet (fail); try go_wp2)
    go_meet
    case rel => exact ⟨_, (true), (by first | rfl | (simp; done) | (simp [*]; done)), H', ⟨by first | omega | exact Nat.le_refl _⟩, ⟨by refine blkU ?_; exact BK106.out⟩, ⟨bel_⟩⟩
  · rw [if_neg c4] at H
    have c4b0 : decide (a0_0 < 1) = false := decide_eq_false c4
    clear c4
    (first | rw [c4b0] | (simp only [i64_w, i32_w]; rw [c4b0]) | skip)
    by_cases c6 : a0_0 > 4611686018427387904
    · rw [if_pos c6] at H
      have c6b0 : decide (4611686018427387904 < a0_0) = true := decide_eq_true c6
      clear c6
      have H' := Aside0.mk H
      clear H
      obtain ⟨hcz7_0, hcz7_1, hfz7_0, hfz7_1⟩ := c2_ BK106.out
      go_wp2
      repeat (go_quiet (fail); try go_wp2)
      go_meet
      case rel => exact ⟨_, (true), (by first | rfl | (simp; done) | (simp [*]; done)), H', ⟨by first | omega | exact Nat.le_refl _⟩, ⟨by refine blkU ?_; exact BK106.out⟩, ⟨bel_⟩⟩
    · rw [if_neg c6] at H
      have c6b0 : decide (4611686018427387904 < a0_0) = false := decide_eq_false c6
      clear c6
      have H' := Aside0.mk H
      clear H
      obtain ⟨hcz8_0, hcz8_1, hfz8_0, hfz8_1⟩ := c2_ BK106.out
      go_wp2
      repeat (go_quiet (fail); try go_wp2)
      go_meet
      case rel => exact ⟨_, (decide ((l0_1.length : Int) > 8)), (by first | rfl | (simp; done) | (simp [*]; done)), H', ⟨by first | omega | exact Nat.le_refl _⟩, ⟨by refine blkU ?_; exact BK106.out⟩, ⟨bel_⟩⟩
 case rest =>
  clear HC2; try clear c1; try clear p2; try clear c4; try clear c4b0; try clear c6; try clear c6b0; try clear hcz5_0; try clear hcz5_1; try clear hcz7_0; try clear hcz7_1; try clear hcz8_0; try clear hcz8_1; try clear hfz5_0; try clear hfz5_1; try clear hfz7_0; try clear hfz7_1; try clear hfz8_0; try clear hfz8_1
  obtain ⟨kq, x20_1, rfl, HA, HJ1, BK106, HB⟩ := hcut
  cases kq with
  | zero => exact absurd HA.out (by simp [spoorref06_Check.j0])
  | succ kj1 =>
   have H := HA.out
   clear HA
   simp only [spoorref06_Check.j0] at H
   by_cases c9 : x20_1 = true
   · subst c9
     have H1 : (some 2) = some r := by rw [if_pos rfl] at H; exact H
     clear H
     have H := H1
     clear H1
     obtain rfl := Option.some.inj H
     go_wp2
     repeat (go_quiet (fail); try go_wp2)
     go_ret
     exact ⟨by first | rfl | (simp [errW_none, errW_some] <;> rfl) | (simp [*, errW_none, errW_some] <;> rfl), bel_⟩
   · replace c9 := Bool.eq_false_iff.mpr c9
     subst c9
     have H1 : (spoorref06_Check.l0 kj1 l0_1 (l0_1.length : Int) 0 a0_0 l0_1) = some r := by rw [if_neg (show ¬ (false = true) by decide)] at H; exact H
     clear H
     have H := H1
     clear H1
     have H' := Aside0.mk H
     clear H
     obtain ⟨hcz10_0, hcz10_1, hfz10_0, hfz10_1⟩ := c2_ BK106.out
     go_wp2
     repeat (go_quiet (fail); try go_wp2)
     go_loopg [24] kj1 (fun kq v24 w' => ∃ (x24_2 : Int), v24 = .int .i64 x24_2 ∧ Aside0 (spoorref06_Check.l0 kq l0_1 (l0_1.length : Int) x24_2 a0_0 l0_1 = some r) ∧ Aside0 (kq ≤ kj1) ∧ Aside0 (w'.heap[gb106]? = some (.cells #[.int .u64 a0_0, (.slice A0_1 l0_1.length c0_1)] 25 (0, 0))) ∧ Aside0 (Below w.heap.size w w'))
     case atStart => exact ⟨(0), (by first | rfl | (simp; done) | (simp [*]; done)), H', ⟨Nat.le_refl _⟩, ⟨by refine blkU ?_; exact BK106.out⟩, ⟨bel_⟩⟩
     case round =>
      clear H'; try clear c1; try clear p2; try clear c4; try clear c4b0; try clear c6; try clear c6b0; try clear c9; try clear hcz10_0; try clear hcz10_1; try clear hcz5_0; try clear hcz5_1; try clear hcz7_0; try clear hcz7_1; try clear hcz8_0; try clear hcz8_1; try clear hfz10_0; try clear hfz10_1; try clear hfz5_0; try clear hfz5_1; try clear hfz7_0; try clear hfz7_1; try clear hfz8_0; try clear hfz8_1; try clear p2
      obtain ⟨x24_2, rfl, HA, HK2, BK106, HB⟩ := hrel
      cases gk with
      | zero => exact absurd HA.out (by simp [spoorref06_Check.l0])
      | succ k2 =>
       have H := HA.out
       clear HA
       simp only [spoorref06_Check.l0] at H
       by_cases c11 : x24_2 < (l0_1.length : Int)
       · rw [if_pos c11] at H
         have c11b0 : decide (x24_2 < (l0_1.length : Int)) = true := decide_eq_true c11
         clear c11
         by_cases c12 : 0 ≤ x24_2
         · rw [if_pos c12] at H
           have c12b0 : decide (0 ≤ x24_2) = true := decide_eq_true c12
           clear c12
           by_cases c13 : x24_2 < (l0_1.length : Int)
           · rw [if_pos c13] at H
             have c13b0 : decide (x24_2 < (l0_1.length : Int)) = true := decide_eq_true c13
             clear c13
             have HC14 := Aside0.mk H
             clear H
             have p107 : 0 ≤ (x24_2 : Int) := of_decide_eq_true (by first | (with_reducible assumption) | assumption)
             have q107 : x24_2 < (l0_1.length : Int) := of_decide_eq_true (by first | (with_reducible assumption) | assumption)
             obtain ⟨ad107, e107, hx107_0, hx107_1, hx107_2⟩ := at_T56 HR0_1.out x24_2 p107 q107
             cases e107
             replace hx107_0 := (HB.out.cell (World.block_lt_of_cell? w _ hx107_0)).trans hx107_0
             replace hx107_1 := (HB.out.cell (World.block_lt_of_cell? w _ hx107_1)).trans hx107_1
             replace hx107_2 := (HB.out.cell (World.block_lt_of_cell? w _ hx107_2)).trans hx107_2
             replace p107 := eq_true p107
             replace q107 := eq_true q107
             go_upto_region 6 with (first | ((with_reducible refine gate_dst (N := 4) rfl ?_); (try (refine gate_guard (by rfl) ?_; dsimp only)); refine box_event ?hg (N := 4) ?hd (cs := #[.int .i64 0, .int .u64 0, .int .i64 0]) (t := 56) ?hr ?_; (case hd => rfl); (case hg => rfl); (case hr => first | (go_simp; done) | (go_simp; rfl)); intro gb108 hg w15 hbox hb; have n0_ := Aside0.mk (blk_below (blkU BK106.out) hb); have n1_ := Aside0.mk (below_step bel_ hb); have n2_ := Aside0.mk (hbox); have n3_ := Aside0.mk ((by rw [hg]; exact (below_size bel_) : w.heap.size ≤ gb108)); have n4_ := Aside0.mk ((by rw [hg]; exact (below_size bel_) : w.heap.size ≤ gb108)); have n5_ := Aside0.mk ((by rw [hg]; exact Nat.ne_of_lt (blk_lt (blkU BK106.out)) : gb106 ≠ gb108)); have n6_ := Aside0.mk ((by rw [hg]; exact Nat.ne_of_gt (blk_lt (blkU BK106.out)) : gb108 ≠ gb106)); clear BK106; clear HB; have BK106 := n0_; have HB := n1_; have BK108 := n2_; have GW108 := n3_; have GE108 := n4_; have NB106_108 := n5_; have NB108_106 := n6_; clear n0_ n1_ n2_ n3_ n4_ n5_ n6_; clear hb hbox hg; have hnb16 := NB108_106.out; have hnc16 := NB106_108.out; obtain ⟨hcz17_0, hcz17_1, hcz17_2, hfz17_0, hfz17_1, hfz17_2⟩ := c3_ BK108.out))
             repeat (go_quiet (first | ((with_reducible refine gate_dst (N := 4) rfl ?_); (try (refine gate_guard (by rfl) ?_; dsimp only)); refine box_event ?hg (N := 4) ?hd (cs := #[.int .i64 0, .int .u64 0, .int .i64 0]) (t := 56) ?hr ?_; (case hd => rfl); (case hg => rfl); (case hr => first | (go_simp; done) | (go_simp; rfl)); intro gb108 hg w15 hbox hb; have n0_ := Aside0.mk (blk_below (blkU BK106.out) hb); have n1_ := Aside0.mk (below_step bel_ hb); have n2_ := Aside0.mk (hbox); have n3_ := Aside0.mk ((by rw [hg]; exact (below_size bel_) : w.heap.size ≤ gb108)); have n4_ := Aside0.mk ((by rw [hg]; exact (below_size bel_) : w.heap.size ≤ gb108)); have n5_ := Aside0.mk ((by rw [hg]; exact Nat.ne_of_lt (blk_lt (blkU BK106.out)) : gb106 ≠ gb108)); have n6_ := Aside0.mk ((by rw [hg]; exact Nat.ne_of_gt (blk_lt (blkU BK106.out)) : gb108 ≠ gb106)); clear BK106; clear HB; have BK106 := n0_; have HB := n1_; have BK108 := n2_; have GW108 := n3_; have GE108 := n4_; have NB106_108 := n5_; have NB108_106 := n6_; clear n0_ n1_ n2_ n3_ n4_ n5_ n6_; clear hb hbox hg; have hnb16 := NB108_106.out; have hnc16 := NB106_108.out; obtain ⟨hcz17_0, hcz17_1, hcz17_2, hfz17_0, hfz17_1, hfz17_2⟩ := c3_ BK108.out)); go_upto_region 6 with (first | ((with_reducible refine gate_dst (N := 4) rfl ?_); (try (refine gate_guard (by rfl) ?_; dsimp only)); refine box_event ?hg (N := 4) ?hd (cs := #[.int .i64 0, .int .u64 0, .int .i64 0]) (t := 56) ?hr ?_; (case hd => rfl); (case hg => rfl); (case hr => first | (go_simp; done) | (go_simp; rfl)); intro gb108 hg w15 hbox hb; have n0_ := Aside0.mk (blk_below (blkU BK106.out) hb); have n1_ := Aside0.mk (below_step bel_ hb); have n2_ := Aside0.mk (hbox); have n3_ := Aside0.mk ((by rw [hg]; exact (below_size bel_) : w.heap.size ≤ gb108)); have n4_ := Aside0.mk ((by rw [hg]; exact (below_size bel_) : w.heap.size ≤ gb108)); have n5_ := Aside0.mk ((by rw [hg]; exact Nat.ne_of_lt (blk_lt (blkU BK106.out)) : gb106 ≠ gb108)); have n6_ := Aside0.mk ((by rw [hg]; exact Nat.ne_of_gt (blk_lt (blkU BK106.out)) : gb108 ≠ gb106)); clear BK106; clear HB; have BK106 := n0_; have HB := n1_; have BK108 := n2_; have GW108 := n3_; have GE108 := n4_; have NB106_108 := n5_; have NB108_106 := n6_; clear n0_ n1_ n2_ n3_ n4_ n5_ n6_; clear hb hbox hg; have hnb16 := NB108_106.out; have hnc16 := NB106_108.out; obtain ⟨hcz17_0, hcz17_1, hcz17_2, hfz17_0, hfz17_1, hfz17_2⟩ := c3_ BK108.out)))
             (try simp only [Act.put, List.setIfInBounds_toArray, List.set_cons_zero, List.set_cons_succ])
             go_cut [56] (fun v56 wc => ∃ (kq : Nat) (x56_13 : Bool), v56 = .bool x56_13 ∧ Aside0 (spoorref06_Check.j2 kq x24_2 l0_1 (l0_1.length : Int) x24_2 x56_13 a0_0 l0_1 ((rd_T56 l0_1 x24_2).f0) ((rd_T56 l0_1 x24_2).f1) ((rd_T56 l0_1 x24_2).f2) = some r) ∧ Aside0 (kq ≤ k2) ∧ Aside0 (wc.heap[gb106]? = some (.cells #[.int .u64 a0_0, (.slice (some ad107) l0_1.length c0_1)] 25 (0, 0))) ∧ Aside0 (wc.heap[gb108]? = some (.cells #[.int .i64 ((rd_T56 l0_1 x24_2).f0), .int .u64 ((rd_T56 l0_1 x24_2).f1), .int .i64 ((rd_T56 l0_1 x24_2).f2)] 56 (0, 0))) ∧ Aside0 (Below w.heap.size w wc))
             case first =>
              have H := HC14.out
              clear HC14
              by_cases c18 : ((rd_T56 l0_1 x24_2).f0) < 0
              · rw [if_pos c18] at H
                have c18b0 : decide (((rd_T56 l0_1 x24_2).f0) < 0) = true := decide_eq_true c18
                clear c18
                (first | rw [c18b0] | (simp only [i64_w, i32_w]; rw [c18b0]) | skip)
                have H' := Aside0.mk H
                clear H
                have hnb19 := NB108_106.out
                have hnc19 := NB106_108.out
                obtain ⟨hcz20_0, hcz20_1, hcz20_2, hfz20_0, hfz20_1, hfz20_2⟩ := c3_ BK108.out
                go_wp2
                repeat (go_quiet (fail); try go_wp2)
                go_meet
                case rel => exact ⟨_, (true), (by first | rfl | (simp; done) | (simp [*]; done)), H', ⟨by have := HJ1.out; have := HK2.out; first | omega | exact Nat.le_refl _⟩, ⟨by refine blkU ?_; refine blk_far ?_ NB106_108.out _; refine blkU ?_; refine blk_far ?_ NB106_108.out _; refine blkU ?_; refine blk_far ?_ NB106_108.out _; refine blkU ?_; exact BK106.out⟩, ⟨by refine blkU ?_; refine blk_put (cs := #[.int .i64 ((rd_T56 l0_1 x24_2).f0), .int .u64 ((rd_T56 l0_1 x24_2).f1), .int .i64 0]) ?_ 2 _ rfl; refine blkU ?_; refine blk_put (cs := #[.int .i64 ((rd_T56 l0_1 x24_2).f0), .int .u64 0, .int .i64 0]) ?_ 1 _ rfl; refine blkU ?_; refine blk_put (cs := #[.int .i64 0, .int .u64 0, .int .i64 0]) ?_ 0 _ rfl; refine blkU ?_; exact BK108.out⟩, ⟨bel_⟩⟩
              · rw [if_neg c18] at H
                have c18b0 : decide (((rd_T56 l0_1 x24_2).f0) < 0) = false := decide_eq_false c18
                clear c18
                (first | rw [c18b0] | (simp only [i64_w, i32_w]; rw [c18b0]) | skip)
                by_cases c21 : ((rd_T56 l0_1 x24_2).f0) ≥ 8
                · rw [if_pos c21] at H
                  have c21b0 : decide (8 ≤ ((rd_T56 l0_1 x24_2).f0)) = true := decide_eq_true c21
                  clear c21
                  have H' := Aside0.mk H
                  clear H
                  have hnb22 := NB108_106.out
                  have hnc22 := NB106_108.out
                  obtain ⟨hcz23_0, hcz23_1, hcz23_2, hfz23_0, hfz23_1, hfz23_2⟩ := c3_ BK108.out
                  go_wp2
                  repeat (go_quiet (fail); try go_wp2)
                  go_meet
                  case rel => exact ⟨_, (true), (by first | rfl | (simp; done) | (simp [*]; done)), H', ⟨by have := HJ1.out; have := HK2.out; first | omega | exact Nat.le_refl _⟩, ⟨by refine blkU ?_; refine blk_far ?_ NB106_108.out _; refine blkU ?_; refine blk_far ?_ NB106_108.out _; refine blkU ?_; refine blk_far ?_ NB106_108.out _; refine blkU ?_; exact BK106.out⟩, ⟨by refine blkU ?_; refine blk_put (cs := #[.int .i64 ((rd_T56 l0_1 x24_2).f0), .int .u64 ((rd_T56 l0_1 x24_2).f1), .int .i64 0]) ?_ 2 _ rfl; refine blkU ?_; refine blk_put (cs := #[.int .i64 ((rd_T56 l0_1 x24_2).f0), .int .u64 0, .int .i64 0]) ?_ 1 _ rfl; refine blkU ?_; refine blk_put (cs := #[.int .i64 0, .int .u64 0, .int .i64 0]) ?_ 0 _ rfl; refine blkU ?_; exact BK108.out⟩, ⟨bel_⟩⟩
                · rw [if_neg c21] at H
                  have c21b0 : decide (8 ≤ ((rd_T56 l0_1 x24_2).f0)) = false := decide_eq_false c21
                  clear c21
                  by_cases c24 : ((rd_T56 l0_1 x24_2).f1) < 1
                  · rw [if_pos c24] at H
                    have c24b0 : decide (((rd_T56 l0_1 x24_2).f1) < 1) = true := decide_eq_true c24
                    clear c24
                    have H' := Aside0.mk H
                    clear H
                    have hnb25 := NB108_106.out
                    have hnc25 := NB106_108.out
                    obtain ⟨hcz26_0, hcz26_1, hcz26_2, hfz26_0, hfz26_1, hfz26_2⟩ := c3_ BK108.out
                    go_wp2
                    repeat (go_quiet (fail); try go_wp2)
                    go_meet
                    case rel => exact ⟨_, (true), (by first | rfl | (simp; done) | (simp [*]; done)), H', ⟨by have := HJ1.out; have := HK2.out; first | omega | exact Nat.le_refl _⟩, ⟨by refine blkU ?_; refine blk_far ?_ NB106_108.out _; refine blkU ?_; refine blk_far ?_ NB106_108.out _; refine blkU ?_; refine blk_far ?_ NB106_108.out _; refine blkU ?_; exact BK106.out⟩, ⟨by refine blkU ?_; refine blk_put (cs := #[.int .i64 ((rd_T56 l0_1 x24_2).f0), .int .u64 ((rd_T56 l0_1 x24_2).f1), .int .i64 0]) ?_ 2 _ rfl; refine blkU ?_; refine blk_put (cs := #[.int .i64 ((rd_T56 l0_1 x24_2).f0), .int .u64 0, .int .i64 0]) ?_ 1 _ rfl; refine blkU ?_; refine blk_put (cs := #[.int .i64 0, .int .u64 0, .int .i64 0]) ?_ 0 _ rfl; refine blkU ?_; exact BK108.out⟩, ⟨bel_⟩⟩
                  · rw [if_neg c24] at H
                    have c24b0 : decide (((rd_T56 l0_1 x24_2).f1) < 1) = false := decide_eq_false c24
                    clear c24
                    by_cases c27 : ((rd_T56 l0_1 x24_2).f1) > 4611686018427387904
                    · rw [if_pos c27] at H
                      have c27b0 : decide (4611686018427387904 < ((rd_T56 l0_1 x24_2).f1)) = true := decide_eq_true c27
                      clear c27
                      have H' := Aside0.mk H
                      clear H
                      have hnb28 := NB108_106.out
                      have hnc28 := NB106_108.out
                      obtain ⟨hcz29_0, hcz29_1, hcz29_2, hfz29_0, hfz29_1, hfz29_2⟩ := c3_ BK108.out
                      go_wp2
                      repeat (go_quiet (fail); try go_wp2)
                      go_meet
                      case rel => exact ⟨_, (true), (by first | rfl | (simp; done) | (simp [*]; done)), H', ⟨by have := HJ1.out; have := HK2.out; first | omega | exact Nat.le_refl _⟩, ⟨by refine blkU ?_; refine blk_far ?_ NB106_108.out _; refine blkU ?_; refine blk_far ?_ NB106_108.out _; refine blkU ?_; refine blk_far ?_ NB106_108.out _; refine blkU ?_; exact BK106.out⟩, ⟨by refine blkU ?_; refine blk_put (cs := #[.int .i64 ((rd_T56 l0_1 x24_2).f0), .int .u64 ((rd_T56 l0_1 x24_2).f1), .int .i64 0]) ?_ 2 _ rfl; refine blkU ?_; refine blk_put (cs := #[.int .i64 ((rd_T56 l0_1 x24_2).f0), .int .u64 0, .int .i64 0]) ?_ 1 _ rfl; refine blkU ?_; refine blk_put (cs := #[.int .i64 0, .int .u64 0, .int .i64 0]) ?_ 0 _ rfl; refine blkU ?_; exact BK108.out⟩, ⟨bel_⟩⟩
                    · rw [if_neg c27] at H
                      have c27b0 : decide (4611686018427387904 < ((rd_T56 l0_1 x24_2).f1)) = false := decide_eq_false c27
                      clear c27
                      by_cases c30 : ((rd_T56 l0_1 x24_2).f2) < (-1)
                      · rw [if_pos c30] at H
                        have c30b0 : decide (((rd_T56 l0_1 x24_2).f2) < (-1)) = true := decide_eq_true c30
                        clear c30
                        have H' := Aside0.mk H
                        clear H
                        have hnb31 := NB108_106.out
                        have hnc31 := NB106_108.out
                        obtain ⟨hcz32_0, hcz32_1, hcz32_2, hfz32_0, hfz32_1, hfz32_2⟩ := c3_ BK108.out
                        go_wp2
                        repeat (go_quiet (fail); try go_wp2)
                        go_meet
                        case rel => exact ⟨_, (true), (by first | rfl | (simp; done) | (simp [*]; done)), H', ⟨by have := HJ1.out; have := HK2.out; first | omega | exact Nat.le_refl _⟩, ⟨by refine blkU ?_; refine blk_far ?_ NB106_108.out _; refine blkU ?_; refine blk_far ?_ NB106_108.out _; refine blkU ?_; refine blk_far ?_ NB106_108.out _; refine blkU ?_; exact BK106.out⟩, ⟨by refine blkU ?_; refine blk_put (cs := #[.int .i64 ((rd_T56 l0_1 x24_2).f0), .int .u64 ((rd_T56 l0_1 x24_2).f1), .int .i64 0]) ?_ 2 _ rfl; refine blkU ?_; refine blk_put (cs := #[.int .i64 ((rd_T56 l0_1 x24_2).f0), .int .u64 0, .int .i64 0]) ?_ 1 _ rfl; refine blkU ?_; refine blk_put (cs := #[.int .i64 0, .int .u64 0, .int .i64 0]) ?_ 0 _ rfl; refine blkU ?_; exact BK108.out⟩, ⟨bel_⟩⟩
                      · rw [if_neg c30] at H
                        have c30b0 : decide (((rd_T56 l0_1 x24_2).f2) < (-1)) = false := decide_eq_false c30
                        clear c30
                        have H' := Aside0.mk H
                        clear H
                        have hnb33 := NB108_106.out
                        have hnc33 := NB106_108.out
                        obtain ⟨hcz34_0, hcz34_1, hcz34_2, hfz34_0, hfz34_1, hfz34_2⟩ := c3_ BK108.out
                        go_wp2
                        repeat (go_quiet (fail); try go_wp2)
                        go_meet
                        case rel => exact ⟨_, (decide (((rd_T56 l0_1 x24_2).f2) > 1048576)), (by first | rfl | (simp; done) | (simp [*]; done)), H', ⟨by have := HJ1.out; have := HK2.out; first | omega | exact Nat.le_refl _⟩, ⟨by refine blkU ?_; refine blk_far ?_ NB106_108.out _; refine blkU ?_; refine blk_far ?_ NB106_108.out _; refine blkU ?_; refine blk_far ?_ NB106_108.out _; refine blkU ?_; exact BK106.out⟩, ⟨by refine blkU ?_; refine blk_put (cs := #[.int .i64 ((rd_T56 l0_1 x24_2).f0), .int .u64 ((rd_T56 l0_1 x24_2).f1), .int .i64 0]) ?_ 2 _ rfl; refine blkU ?_; refine blk_put (cs := #[.int .i64 ((rd_T56 l0_1 x24_2).f0), .int .u64 0, .int .i64 0]) ?_ 1 _ rfl; refine blkU ?_; refine blk_put (cs := #[.int .i64 0, .int .u64 0, .int .i64 0]) ?_ 0 _ rfl; refine blkU ?_; exact BK108.out⟩, ⟨bel_⟩⟩
             case rest =>
              clear HC14; try clear c1; try clear p1; try clear q1; try clear hx1; try clear c2; try clear p2; try clear c3; try clear c4; try clear c4b0; try clear c6; try clear c6b0; try clear c9; try clear p10; try clear q10; try clear hx10; try clear c11; try clear c11b0; try clear c12; try clear c12b0; try clear c13; try clear c13b0; try clear c14; try clear c16; try clear c18; try clear c18b0; try clear c19; try clear c21; try clear c21b0; try clear c22; try clear c24; try clear c24b0; try clear c25; try clear c27; try clear c27b0; try clear c28; try clear c30; try clear c30b0; try clear c31; try clear c33; try clear hcz10_0; try clear hcz10_1; try clear hcz17_0; try clear hcz17_1; try clear hcz17_2; try clear hcz20_0; try clear hcz20_1; try clear hcz20_2; try clear hcz23_0; try clear hcz23_1; try clear hcz23_2; try clear hcz26_0; try clear hcz26_1; try clear hcz26_2; try clear hcz29_0; try clear hcz29_1; try clear hcz29_2; try clear hcz32_0; try clear hcz32_1; try clear hcz32_2; try clear hcz34_0; try clear hcz34_1; try clear hcz34_2; try clear hcz5_0; try clear hcz5_1; try clear hcz7_0; try clear hcz7_1; try clear hcz8_0; try clear hcz8_1; try clear hfz10_0; try clear hfz10_1; try clear hfz17_0; try clear hfz17_1; try clear hfz17_2; try clear hfz20_0; try clear hfz20_1; try clear hfz20_2; try clear hfz23_0; try clear hfz23_1; try clear hfz23_2; try clear hfz26_0; try clear hfz26_1; try clear hfz26_2; try clear hfz29_0; try clear hfz29_1; try clear hfz29_2; try clear hfz32_0; try clear hfz32_1; try clear hfz32_2; try clear hfz34_0; try clear hfz34_1; try clear hfz34_2; try clear hfz5_0; try clear hfz5_1; try clear hfz7_0; try clear hfz7_1; try clear hfz8_0; try clear hfz8_1; try clear hx107_0; try clear hx107_1; try clear hx107_2; try clear p107; try clear p2; try clear q107
              obtain ⟨kq, x56_13, rfl, HA, HJ13, BK106, BK108, HB⟩ := hcut
              cases kq with
              | zero => exact absurd HA.out (by simp [spoorref06_Check.j2])
              | succ kj13 =>
               have H := HA.out
               clear HA
               simp only [spoorref06_Check.j2] at H
               by_cases c35 : x56_13 = true
               · subst c35
                 have H1 : (some 2) = some r := by rw [if_pos rfl] at H; exact H
                 clear H
                 have H := H1
                 clear H1
                 obtain rfl := Option.some.inj H
                 go_wp2
                 repeat (go_quiet (fail); try go_wp2)
                 go_ret
                 exact ⟨by first | rfl | (simp [errW_none, errW_some] <;> rfl) | (simp [*, errW_none, errW_some] <;> rfl), bel_⟩
               · replace c35 := Bool.eq_false_iff.mpr c35
                 subst c35
                 have H1 : (if ((rd_T56 l0_1 x24_2).f2) = (-1) then (if x24_2 = (wrap64 ((l0_1.length : Int) - 1)) then (if x24_2 > 0 then (if 0 ≤ (wrap64 (x24_2 - 1)) then (if (wrap64 (x24_2 - 1)) < (l0_1.length : Int) then (spoorref06_Check.j3 kj13 x24_2 l0_1 (l0_1.length : Int) x24_2 (decide (((rd_T56 l0_1 x24_2).f1) ≤ ((rd_T56 l0_1 (wrap64 (x24_2 - 1))).f1))) a0_0 l0_1 ((rd_T56 l0_1 x24_2).f0) ((rd_T56 l0_1 x24_2).f1) ((rd_T56 l0_1 x24_2).f2)) else (none)) else (none)) else (spoorref06_Check.j3 kj13 x24_2 l0_1 (l0_1.length : Int) x24_2 false a0_0 l0_1 ((rd_T56 l0_1 x24_2).f0) ((rd_T56 l0_1 x24_2).f1) ((rd_T56 l0_1 x24_2).f2))) else (spoorref06_Check.j3 kj13 x24_2 l0_1 (l0_1.length : Int) x24_2 true a0_0 l0_1 ((rd_T56 l0_1 x24_2).f0) ((rd_T56 l0_1 x24_2).f1) ((rd_T56 l0_1 x24_2).f2))) else (if x24_2 > 0 then (if 0 ≤ (wrap64 (x24_2 - 1)) then (if (wrap64 (x24_2 - 1)) < (l0_1.length : Int) then (spoorref06_Check.j3 kj13 x24_2 l0_1 (l0_1.length : Int) x24_2 (decide (((rd_T56 l0_1 x24_2).f1) ≤ ((rd_T56 l0_1 (wrap64 (x24_2 - 1))).f1))) a0_0 l0_1 ((rd_T56 l0_1 x24_2).f0) ((rd_T56 l0_1 x24_2).f1) ((rd_T56 l0_1 x24_2).f2)) else (none)) else (none)) else (spoorref06_Check.j3 kj13 x24_2 l0_1 (l0_1.length : Int) x24_2 false a0_0 l0_1 ((rd_T56 l0_1 x24_2).f0) ((rd_T56 l0_1 x24_2).f1) ((rd_T56 l0_1 x24_2).f2)))) = some r := by rw [if_neg (show ¬ (false = true) by decide)] at H; exact H
                 clear H
                 have H := H1
                 clear H1
                 have HC36 := Aside0.mk H
                 clear H
                 go_upto_region 8 with (fail)
                 repeat (go_quiet (fail); go_upto_region 8 with (fail))
                 go_cut [83] (fun v83 wc => ∃ (kq : Nat) (x83_35 : Bool), v83 = .bool x83_35 ∧ Aside0 (spoorref06_Check.j3 kq x24_2 l0_1 (l0_1.length : Int) x24_2 x83_35 a0_0 l0_1 ((rd_T56 l0_1 x24_2).f0) ((rd_T56 l0_1 x24_2).f1) ((rd_T56 l0_1 x24_2).f2) = some r) ∧ Aside0 (kq ≤ kj13) ∧ Aside0 (wc.heap[gb106]? = some (.cells #[.int .u64 a0_0, (.slice (some ad107) l0_1.length c0_1)] 25 (0, 0))) ∧ Aside0 (wc.heap[gb108]? = some (.cells #[.int .i64 ((rd_T56 l0_1 x24_2).f0), .int .u64 ((rd_T56 l0_1 x24_2).f1), .int .i64 ((rd_T56 l0_1 x24_2).f2)] 56 (0, 0))) ∧ Aside0 (Below w.heap.size w wc))
                 case first =>
                  have H := HC36.out
                  clear HC36
                  by_cases c37 : ((rd_T56 l0_1 x24_2).f2) = (-1)
                  · rw [if_pos c37] at H
                    have c37b0 : (((rd_T56 l0_1 x24_2).f2) == (-1)) = true := beq_iff_eq.mpr c37
                    have c37b1 : (((rd_T56 l0_1 x24_2).f2) != (-1)) = false := bne_eq_false_iff_eq.mpr c37
                    clear c37
                    (first | rw [c37b0] | (simp only [i64_w, i32_w]; rw [c37b0]) | skip)
                    by_cases c38 : x24_2 = (wrap64 ((l0_1.length : Int) - 1))
                    · rw [if_pos c38] at H
                      have c38b0 : (x24_2 == (wrap64 ((l0_1.length : Int) - 1))) = true := beq_iff_eq.mpr c38
                      have c38b1 : (x24_2 != (wrap64 ((l0_1.length : Int) - 1))) = false := bne_eq_false_iff_eq.mpr c38
                      clear c38
                      by_cases c39 : x24_2 > 0
                      · rw [if_pos c39] at H
                        have c39b0 : decide (0 < x24_2) = true := decide_eq_true c39
                        clear c39
                        obtain ⟨ji40, hji40⟩ : ∃ j_ : Int, (wrap64 (x24_2 - 1)) = j_ := ⟨_, rfl⟩
                        replace H : (if 0 ≤ (ji40) then (if (ji40) < (l0_1.length : Int) then (spoorref06_Check.j3 kj13 x24_2 l0_1 (l0_1.length : Int) x24_2 (decide (((rd_T56 l0_1 x24_2).f1) ≤ ((rd_T56 l0_1 (ji40)).f1))) a0_0 l0_1 ((rd_T56 l0_1 x24_2).f0) ((rd_T56 l0_1 x24_2).f1) ((rd_T56 l0_1 x24_2).f2)) else (none)) else (none)) = some r := by first | (rw [hji40] at H; exact H) | (simp only [hji40] at H ⊢; exact H)
                        have hji40w : (IntKind.i64.wrap (x24_2 - 1)) = ji40 := (i64_w _).trans hji40
                        by_cases c41 : 0 ≤ (ji40)
                        · rw [if_pos c41] at H
                          have c41b0 : decide (0 ≤ (ji40)) = true := decide_eq_true c41
                          clear c41
                          by_cases c42 : (ji40) < (l0_1.length : Int)
                          · rw [if_pos c42] at H
                            have c42b0 : decide ((ji40) < (l0_1.length : Int)) = true := decide_eq_true c42
                            clear c42
                            have H' := Aside0.mk H
                            clear H
                            have hnb43 := NB108_106.out
                            have hnc43 := NB106_108.out
                            obtain ⟨hcz44_0, hcz44_1, hcz44_2, hfz44_0, hfz44_1, hfz44_2⟩ := c3_ BK108.out
                            obtain ⟨hcz45_0, hcz45_1, hfz45_0, hfz45_1⟩ := c2_ BK106.out
                            have p109 : 0 ≤ ((ji40) : Int) := of_decide_eq_true (by first | (with_reducible assumption) | assumption)
                            have q109 : (ji40) < (l0_1.length : Int) := of_decide_eq_true (by first | (with_reducible assumption) | assumption)
                            obtain ⟨ad109, e109, hx109_0, hx109_1, hx109_2⟩ := at_T56 HR0_1.out (ji40) p109 q109
                            obtain rfl : ad107 = ad109 := (by injection e109)
                            replace hx109_0 := (HB.out.cell (World.block_lt_of_cell? w _ hx109_0)).trans hx109_0
                            replace hx109_1 := (HB.out.cell (World.block_lt_of_cell? w _ hx109_1)).trans hx109_1
                            replace hx109_2 := (HB.out.cell (World.block_lt_of_cell? w _ hx109_2)).trans hx109_2
                            replace p109 := eq_true p109
                            replace q109 := eq_true q109
                            go_wp2
                            repeat (go_quiet (fail); try go_wp2)
                            go_meet
                            case rel => exact ⟨_, (decide (((rd_T56 l0_1 x24_2).f1) ≤ ((rd_T56 l0_1 (ji40)).f1))), (by first | rfl | (simp; done) | (simp only [← hji40] <;> (first | rfl | simp)) | (simp [*]; done)), H', ⟨by have := HJ1.out; have := HK2.out; have := HJ13.out; first | omega | exact Nat.le_refl _⟩, ⟨by refine blkU ?_; exact BK106.out⟩, ⟨by refine blkU ?_; exact BK108.out⟩, ⟨bel_⟩⟩
                          · rw [if_neg c42] at H
                            exact absurd H (by simp)
                        · rw [if_neg c41] at H
                          exact absurd H (by simp)
                      · rw [if_neg c39] at H
                        have c39b0 : decide (0 < x24_2) = false := decide_eq_false c39
                        clear c39
                        have H' := Aside0.mk H
                        clear H
                        have hnb46 := NB108_106.out
                        have hnc46 := NB106_108.out
                        obtain ⟨hcz47_0, hcz47_1, hcz47_2, hfz47_0, hfz47_1, hfz47_2⟩ := c3_ BK108.out
                        obtain ⟨hcz48_0, hcz48_1, hfz48_0, hfz48_1⟩ := c2_ BK106.out
                        go_wp2
                        repeat (go_quiet (fail); try go_wp2)
                        go_meet
                        case rel => exact ⟨_, (false), (by first | rfl | (simp; done) | (simp [*]; done)), H', ⟨by have := HJ1.out; have := HK2.out; have := HJ13.out; first | omega | exact Nat.le_refl _⟩, ⟨by refine blkU ?_; exact BK106.out⟩, ⟨by refine blkU ?_; exact BK108.out⟩, ⟨bel_⟩⟩
                    · rw [if_neg c38] at H
                      have c38b0 : (x24_2 == (wrap64 ((l0_1.length : Int) - 1))) = false := beq_eq_false_iff_ne.mpr c38
                      have c38b1 : (x24_2 != (wrap64 ((l0_1.length : Int) - 1))) = true := bne_iff_ne.mpr c38
                      have H' := Aside0.mk H
                      clear H
                      have hnb49 := NB108_106.out
                      have hnc49 := NB106_108.out
                      obtain ⟨hcz50_0, hcz50_1, hcz50_2, hfz50_0, hfz50_1, hfz50_2⟩ := c3_ BK108.out
                      obtain ⟨hcz51_0, hcz51_1, hfz51_0, hfz51_1⟩ := c2_ BK106.out
                      go_wp2
                      repeat (go_quiet (fail); try go_wp2)
                      go_meet
                      case rel => exact ⟨_, (true), (by first | rfl | (simp; done) | (simp [*]; done)), H', ⟨by have := HJ1.out; have := HK2.out; have := HJ13.out; first | omega | exact Nat.le_refl _⟩, ⟨by refine blkU ?_; exact BK106.out⟩, ⟨by refine blkU ?_; exact BK108.out⟩, ⟨bel_⟩⟩
                  · rw [if_neg c37] at H
                    have c37b0 : (((rd_T56 l0_1 x24_2).f2) == (-1)) = false := beq_eq_false_iff_ne.mpr c37
                    have c37b1 : (((rd_T56 l0_1 x24_2).f2) != (-1)) = true := bne_iff_ne.mpr c37
                    (first | rw [c37b0] | (simp only [i64_w, i32_w]; rw [c37b0]) | skip)
                    by_cases c52 : x24_2 > 0
                    · rw [if_pos c52] at H
                      have c52b0 : decide (0 < x24_2) = true := decide_eq_true c52
                      clear c52
                      obtain ⟨ji53, hji53⟩ : ∃ j_ : Int, (wrap64 (x24_2 - 1)) = j_ := ⟨_, rfl⟩
                      replace H : (if 0 ≤ (ji53) then (if (ji53) < (l0_1.length : Int) then (spoorref06_Check.j3 kj13 x24_2 l0_1 (l0_1.length : Int) x24_2 (decide (((rd_T56 l0_1 x24_2).f1) ≤ ((rd_T56 l0_1 (ji53)).f1))) a0_0 l0_1 ((rd_T56 l0_1 x24_2).f0) ((rd_T56 l0_1 x24_2).f1) ((rd_T56 l0_1 x24_2).f2)) else (none)) else (none)) = some r := by first | (rw [hji53] at H; exact H) | (simp only [hji53] at H ⊢; exact H)
                      have hji53w : (IntKind.i64.wrap (x24_2 - 1)) = ji53 := (i64_w _).trans hji53
                      by_cases c54 : 0 ≤ (ji53)
                      · rw [if_pos c54] at H
                        have c54b0 : decide (0 ≤ (ji53)) = true := decide_eq_true c54
                        clear c54
                        by_cases c55 : (ji53) < (l0_1.length : Int)
                        · rw [if_pos c55] at H
                          have c55b0 : decide ((ji53) < (l0_1.length : Int)) = true := decide_eq_true c55
                          clear c55
                          have H' := Aside0.mk H
                          clear H
                          have hnb56 := NB108_106.out
                          have hnc56 := NB106_108.out
                          obtain ⟨hcz57_0, hcz57_1, hcz57_2, hfz57_0, hfz57_1, hfz57_2⟩ := c3_ BK108.out
                          obtain ⟨hcz58_0, hcz58_1, hfz58_0, hfz58_1⟩ := c2_ BK106.out
                          have p110 : 0 ≤ ((ji53) : Int) := of_decide_eq_true (by first | (with_reducible assumption) | assumption)
                          have q110 : (ji53) < (l0_1.length : Int) := of_decide_eq_true (by first | (with_reducible assumption) | assumption)
                          obtain ⟨ad110, e110, hx110_0, hx110_1, hx110_2⟩ := at_T56 HR0_1.out (ji53) p110 q110
                          obtain rfl : ad107 = ad110 := (by injection e110)
                          replace hx110_0 := (HB.out.cell (World.block_lt_of_cell? w _ hx110_0)).trans hx110_0
                          replace hx110_1 := (HB.out.cell (World.block_lt_of_cell? w _ hx110_1)).trans hx110_1
                          replace hx110_2 := (HB.out.cell (World.block_lt_of_cell? w _ hx110_2)).trans hx110_2
                          replace p110 := eq_true p110
                          replace q110 := eq_true q110
                          go_wp2
                          repeat (go_quiet (fail); try go_wp2)
                          go_meet
                          case rel => exact ⟨_, (decide (((rd_T56 l0_1 x24_2).f1) ≤ ((rd_T56 l0_1 (ji53)).f1))), (by first | rfl | (simp; done) | (simp only [← hji53] <;> (first | rfl | simp)) | (simp [*]; done)), H', ⟨by have := HJ1.out; have := HK2.out; have := HJ13.out; first | omega | exact Nat.le_refl _⟩, ⟨by refine blkU ?_; exact BK106.out⟩, ⟨by refine blkU ?_; exact BK108.out⟩, ⟨bel_⟩⟩
                        · rw [if_neg c55] at H
                          exact absurd H (by simp)
                      · rw [if_neg c54] at H
                        exact absurd H (by simp)
                    · rw [if_neg c52] at H
                      have c52b0 : decide (0 < x24_2) = false := decide_eq_false c52
                      clear c52
                      have H' := Aside0.mk H
                      clear H
                      have hnb59 := NB108_106.out
                      have hnc59 := NB106_108.out
                      obtain ⟨hcz60_0, hcz60_1, hcz60_2, hfz60_0, hfz60_1, hfz60_2⟩ := c3_ BK108.out
                      go_wp2
                      repeat (go_quiet (fail); try go_wp2)
                      go_meet
                      case rel => exact ⟨_, (false), (by first | rfl | (simp; done) | (simp [*]; done)), H', ⟨by have := HJ1.out; have := HK2.out; have := HJ13.out; first | omega | exact Nat.le_refl _⟩, ⟨by refine blkU ?_; exact BK106.out⟩, ⟨by refine blkU ?_; exact BK108.out⟩, ⟨bel_⟩⟩
                 case rest =>
                  clear HC36; try clear c1; try clear p1; try clear q1; try clear hx1; try clear c2; try clear p2; try clear c3; try clear c4; try clear c4b0; try clear c5; try clear c6; try clear c6b0; try clear p6; try clear c9; try clear p10; try clear q10; try clear hx10; try clear c11; try clear c11b0; try clear p11; try clear q11; try clear hx11; try clear c12; try clear c12b0; try clear c13; try clear c13b0; try clear c14; try clear c16; try clear c18; try clear c18b0; try clear c19; try clear c21; try clear c21b0; try clear c22; try clear c24; try clear c24b0; try clear c25; try clear c27; try clear c27b0; try clear c28; try clear c30; try clear c30b0; try clear c31; try clear c33; try clear c35; try clear c37; try clear c37b0; try clear c37b1; try clear c38; try clear c38b0; try clear c38b1; try clear c39; try clear c39b0; try clear c41; try clear c41b0; try clear c42; try clear c42b0; try clear c43; try clear c46; try clear c49; try clear c52; try clear c52b0; try clear c54; try clear c54b0; try clear c55; try clear c55b0; try clear c56; try clear c59; try clear hcz10_0; try clear hcz10_1; try clear hcz17_0; try clear hcz17_1; try clear hcz17_2; try clear hcz20_0; try clear hcz20_1; try clear hcz20_2; try clear hcz23_0; try clear hcz23_1; try clear hcz23_2; try clear hcz26_0; try clear hcz26_1; try clear hcz26_2; try clear hcz29_0; try clear hcz29_1; try clear hcz29_2; try clear hcz32_0; try clear hcz32_1; try clear hcz32_2; try clear hcz34_0; try clear hcz34_1; try clear hcz34_2; try clear hcz44_0; try clear hcz44_1; try clear hcz44_2; try clear hcz45_0; try clear hcz45_1; try clear hcz47_0; try clear hcz47_1; try clear hcz47_2; try clear hcz48_0; try clear hcz48_1; try clear hcz50_0; try clear hcz50_1; try clear hcz50_2; try clear hcz51_0; try clear hcz51_1; try clear hcz57_0; try clear hcz57_1; try clear hcz57_2; try clear hcz58_0; try clear hcz58_1; try clear hcz5_0; try clear hcz5_1; try clear hcz60_0; try clear hcz60_1; try clear hcz60_2; try clear hcz7_0; try clear hcz7_1; try clear hcz8_0; try clear hcz8_1; try clear hfz10_0; try clear hfz10_1; try clear hfz17_0; try clear hfz17_1; try clear hfz17_2; try clear hfz20_0; try clear hfz20_1; try clear hfz20_2; try clear hfz23_0; try clear hfz23_1; try clear hfz23_2; try clear hfz26_0; try clear hfz26_1; try clear hfz26_2; try clear hfz29_0; try clear hfz29_1; try clear hfz29_2; try clear hfz32_0; try clear hfz32_1; try clear hfz32_2; try clear hfz34_0; try clear hfz34_1; try clear hfz34_2; try clear hfz44_0; try clear hfz44_1; try clear hfz44_2; try clear hfz45_0; try clear hfz45_1; try clear hfz47_0; try clear hfz47_1; try clear hfz47_2; try clear hfz48_0; try clear hfz48_1; try clear hfz50_0; try clear hfz50_1; try clear hfz50_2; try clear hfz51_0; try clear hfz51_1; try clear hfz57_0; try clear hfz57_1; try clear hfz57_2; try clear hfz58_0; try clear hfz58_1; try clear hfz5_0; try clear hfz5_1; try clear hfz60_0; try clear hfz60_1; try clear hfz60_2; try clear hfz7_0; try clear hfz7_1; try clear hfz8_0; try clear hfz8_1; try clear hx107_0; try clear hx107_1; try clear hx107_2; try clear hx109_0; try clear hx109_1; try clear hx109_2; try clear hx110_0; try clear hx110_1; try clear hx110_2; try clear p1; try clear p10; try clear p107; try clear p109; try clear p110; try clear p2; try clear q1; try clear q10; try clear q107; try clear q109; try clear q110
                  obtain ⟨kq, x83_35, rfl, HA, HJ35, BK106, BK108, HB⟩ := hcut
                  cases kq with
                  | zero => exact absurd HA.out (by simp [spoorref06_Check.j3])
                  | succ kj35 =>
                   have H := HA.out
                   clear HA
                   simp only [spoorref06_Check.j3] at H
                   by_cases c61 : x83_35 = true
                   · subst c61
                     have H1 : (some 2) = some r := by rw [if_pos rfl] at H; exact H
                     clear H
                     have H := H1
                     clear H1
                     obtain rfl := Option.some.inj H
                     go_wp2
                     repeat (go_quiet (fail); try go_wp2)
                     go_ret
                     exact ⟨by first | rfl | (simp [errW_none, errW_some] <;> rfl) | (simp [*, errW_none, errW_some] <;> rfl), bel_⟩
                   · replace c61 := Bool.eq_false_iff.mpr c61
                     subst c61
                     have H1 : (if 0 ≤ x24_2 then (if x24_2 ≤ (l0_1.length : Int) then ((some (l0_1.take (x24_2 : Int).toNat : List (S56))).bind fun y111 => (spoorref06_Check.l1 kj35 l0_1 (l0_1.length : Int) x24_2 y111 (y111.length : Int) 0 a0_0 l0_1 ((rd_T56 l0_1 x24_2).f0) ((rd_T56 l0_1 x24_2).f1) ((rd_T56 l0_1 x24_2).f2))) else (none)) else (none)) = some r := by rw [if_neg (show ¬ (false = true) by decide)] at H; exact H
                     clear H
                     have H := H1
                     clear H1
                     by_cases c62 : 0 ≤ x24_2
                     · rw [if_pos c62] at H
                       have c62b0 := eq_true c62
                       have c62b1 : decide (0 ≤ x24_2) = true := decide_eq_true c62
                       clear c62
                       by_cases c63 : x24_2 ≤ (l0_1.length : Int)
                       · rw [if_pos c63] at H
                         have c63b0 := eq_true c63
                         have c63b1 : decide (x24_2 ≤ (l0_1.length : Int)) = true := decide_eq_true c63
                         clear c63
                         obtain ⟨y111, hy111⟩ : ∃ y_ : List (S56), y_ = (l0_1.take (x24_2 : Int).toNat) := ⟨_, rfl⟩
                         replace H : (spoorref06_Check.l1 kj35 l0_1 (l0_1.length : Int) x24_2 y111 (y111.length : Int) 0 a0_0 l0_1 ((rd_T56 l0_1 x24_2).f0) ((rd_T56 l0_1 x24_2).f1) ((rd_T56 l0_1 x24_2).f2)) = some r := by first | (rw [hy111]; with_reducible exact H) | (have H2_ := (Option.bind_some _ _).symm.trans H; rw [hy111]; with_reducible exact H2_) | (have H2_ := (Option.bind_some _ _).symm.trans H; with_reducible exact H2_) | with_reducible exact H | (rw [hy111]; exact H) | exact H
                         have Ny111 := Aside0.mk hy111
                         clear hy111
                         have H' := Aside0.mk H
                         clear H
                         have hnb64 := NB106_108.out
                         have hnc64 := NB108_106.out
                         obtain ⟨hcz65_0, hcz65_1, hfz65_0, hfz65_1⟩ := c2_ BK106.out
                         have q66 : (x24_2 : Int) ≤ ((l0_1.length : Int) : Int) := of_decide_eq_true (by first | (with_reducible assumption) | assumption)
                         obtain ⟨i066, hi066, _, hsz66, _⟩ := info_parts info56
                         have hroom66 : l0_1.length ≤ c0_1 := HC0_1.out
                         have hC66 : Kd.C k56 _ (some ad107) l0_1.length l0_1 := HR0_1.out
                         have hcut66 := cut_to (P := Try.prog) 23 56 .i64 Try.underlying23 hi066 (some ad107) l0_1.length c0_1 x24_2 (of_decide_eq_true (by first | (with_reducible assumption) | assumption)) q66 hroom66
                         have hr66 := Kd.C_take (m := (x24_2 : Int).toNat) hC66 (by omega)
                         have hy66 : y111.length = (x24_2 : Int).toNat := (by rw [Ny111.out, List.length_take]; omega)
                         rw [← Ny111.out] at hr66
                         rw [← hy66] at hcut66
                         have HR114 := Aside0.mk hr66
                         have HC114 := Aside0.mk (show y111.length ≤ c0_1 from by omega)
                         clear hr66 hC66 hroom66 hi066 hsz66
                         have KY66 := Aside0.mk hy66
                         clear hy66
                         replace q66 := eq_true q66
                         go_wp2
                         repeat (go_quiet (fail); try go_wp2)
                         go_loopg [89] kj35 (fun kq v89 w' => ∃ (x89_5 : Int), v89 = .int .i64 x89_5 ∧ Aside0 (spoorref06_Check.l1 kq l0_1 (l0_1.length : Int) x24_2 y111 (y111.length : Int) x89_5 a0_0 l0_1 ((rd_T56 l0_1 x24_2).f0) ((rd_T56 l0_1 x24_2).f1) ((rd_T56 l0_1 x24_2).f2) = some r) ∧ Aside0 (kq ≤ kj35) ∧ Aside0 (w'.heap[gb106]? = some (.cells #[.int .u64 a0_0, (.slice (some ad107) l0_1.length c0_1)] 25 (0, 0))) ∧ Aside0 (w'.heap[gb108]? = some (.cells #[.int .i64 ((rd_T56 l0_1 x24_2).f0), .int .u64 ((rd_T56 l0_1 x24_2).f1), .int .i64 ((rd_T56 l0_1 x24_2).f2)] 56 (0, 0))) ∧ Aside0 (Below w.heap.size w w'))
                         case atStart => exact ⟨(0), (by first | rfl | (simp; done) | (simp [*]; done)), H', ⟨Nat.le_refl _⟩, ⟨by refine blkU ?_; exact BK106.out⟩, ⟨by refine blkU ?_; exact BK108.out⟩, ⟨bel_⟩⟩
                         case round =>
                          clear H'; try clear c1; try clear p1; try clear q1; try clear hx1; try clear c2; try clear p2; try clear c3; try clear c4; try clear c4b0; try clear c5; try clear c6; try clear c6b0; try clear p6; try clear q6; try clear c9; try clear p10; try clear q10; try clear hx10; try clear c11; try clear c11b0; try clear p11; try clear q11; try clear hx11; try clear c12; try clear c12b0; try clear c13; try clear c13b0; try clear c14; try clear c16; try clear c18; try clear c18b0; try clear c19; try clear c21; try clear c21b0; try clear c22; try clear c24; try clear c24b0; try clear c25; try clear c27; try clear c27b0; try clear c28; try clear c30; try clear c30b0; try clear c31; try clear c33; try clear c35; try clear c37; try clear c37b0; try clear c37b1; try clear c38; try clear c38b0; try clear c38b1; try clear c39; try clear c39b0; try clear c41; try clear c41b0; try clear c42; try clear c42b0; try clear c43; try clear c46; try clear c49; try clear c52; try clear c52b0; try clear c54; try clear c54b0; try clear c55; try clear c55b0; try clear c56; try clear c59; try clear c61; try clear c62; try clear c62b0; try clear c62b1; try clear c63; try clear c63b0; try clear c63b1; try clear c64; try clear p64; try clear q66; try clear hcz10_0; try clear hcz10_1; try clear hcz17_0; try clear hcz17_1; try clear hcz17_2; try clear hcz20_0; try clear hcz20_1; try clear hcz20_2; try clear hcz23_0; try clear hcz23_1; try clear hcz23_2; try clear hcz26_0; try clear hcz26_1; try clear hcz26_2; try clear hcz29_0; try clear hcz29_1; try clear hcz29_2; try clear hcz32_0; try clear hcz32_1; try clear hcz32_2; try clear hcz34_0; try clear hcz34_1; try clear hcz34_2; try clear hcz44_0; try clear hcz44_1; try clear hcz44_2; try clear hcz45_0; try clear hcz45_1; try clear hcz47_0; try clear hcz47_1; try clear hcz47_2; try clear hcz48_0; try clear hcz48_1; try clear hcz50_0; try clear hcz50_1; try clear hcz50_2; try clear hcz51_0; try clear hcz51_1; try clear hcz57_0; try clear hcz57_1; try clear hcz57_2; try clear hcz58_0; try clear hcz58_1; try clear hcz5_0; try clear hcz5_1; try clear hcz60_0; try clear hcz60_1; try clear hcz60_2; try clear hcz65_0; try clear hcz65_1; try clear hcz7_0; try clear hcz7_1; try clear hcz8_0; try clear hcz8_1; try clear hfz10_0; try clear hfz10_1; try clear hfz17_0; try clear hfz17_1; try clear hfz17_2; try clear hfz20_0; try clear hfz20_1; try clear hfz20_2; try clear hfz23_0; try clear hfz23_1; try clear hfz23_2; try clear hfz26_0; try clear hfz26_1; try clear hfz26_2; try clear hfz29_0; try clear hfz29_1; try clear hfz29_2; try clear hfz32_0; try clear hfz32_1; try clear hfz32_2; try clear hfz34_0; try clear hfz34_1; try clear hfz34_2; try clear hfz44_0; try clear hfz44_1; try clear hfz44_2; try clear hfz45_0; try clear hfz45_1; try clear hfz47_0; try clear hfz47_1; try clear hfz47_2; try clear hfz48_0; try clear hfz48_1; try clear hfz50_0; try clear hfz50_1; try clear hfz50_2; try clear hfz51_0; try clear hfz51_1; try clear hfz57_0; try clear hfz57_1; try clear hfz57_2; try clear hfz58_0; try clear hfz58_1; try clear hfz5_0; try clear hfz5_1; try clear hfz60_0; try clear hfz60_1; try clear hfz60_2; try clear hfz65_0; try clear hfz65_1; try clear hfz7_0; try clear hfz7_1; try clear hfz8_0; try clear hfz8_1; try clear hx107_0; try clear hx107_1; try clear hx107_2; try clear hx109_0; try clear hx109_1; try clear hx109_2; try clear hx110_0; try clear hx110_1; try clear hx110_2; try clear p1; try clear p10; try clear p107; try clear p109; try clear p11; try clear p110; try clear p2; try clear p6; try clear q1; try clear q10; try clear q107; try clear q109; try clear q11; try clear q110; try clear q66
                          obtain ⟨x89_5, rfl, HA, HK5, BK106, BK108, HB⟩ := hrel
                          cases gk with
                          | zero => exact absurd HA.out (by simp [spoorref06_Check.l1])
                          | succ k5 =>
                           have H := HA.out
                           clear HA
                           simp only [spoorref06_Check.l1] at H
                           by_cases c67 : x89_5 < (y111.length : Int)
                           · rw [if_pos c67] at H
                             have c67b0 : decide (x89_5 < (y111.length : Int)) = true := decide_eq_true c67
                             clear c67
                             by_cases c68 : 0 ≤ x89_5
                             · rw [if_pos c68] at H
                               have c68b0 : decide (0 ≤ x89_5) = true := decide_eq_true c68
                               clear c68
                               by_cases c69 : x89_5 < (y111.length : Int)
                               · rw [if_pos c69] at H
                                 have c69b0 : decide (x89_5 < (y111.length : Int)) = true := decide_eq_true c69
                                 clear c69
                                 by_cases c70 : ((rd_T56 y111 x89_5).f0) = ((rd_T56 l0_1 x24_2).f0)
                                 · rw [if_pos c70] at H
                                   have c70b0 : (((rd_T56 y111 x89_5).f0) == ((rd_T56 l0_1 x24_2).f0)) = true := beq_iff_eq.mpr c70
                                   have c70b1 : (((rd_T56 y111 x89_5).f0) != ((rd_T56 l0_1 x24_2).f0)) = false := bne_eq_false_iff_eq.mpr c70
                                   clear c70
                                   obtain rfl := Option.some.inj H
                                   have p115 : 0 ≤ (x89_5 : Int) := of_decide_eq_true (by first | (with_reducible assumption) | assumption)
                                   have q115 : x89_5 < (y111.length : Int) := of_decide_eq_true (by first | (with_reducible assumption) | assumption)
                                   obtain ⟨ad115, e115, hx115_0, hx115_1, hx115_2⟩ := at_T56 HR114.out x89_5 p115 q115
                                   obtain rfl : ad107 = ad115 := (by injection e115)
                                   replace hx115_0 := (HB.out.cell (World.block_lt_of_cell? w _ hx115_0)).trans hx115_0
                                   replace hx115_1 := (HB.out.cell (World.block_lt_of_cell? w _ hx115_1)).trans hx115_1
                                   replace hx115_2 := (HB.out.cell (World.block_lt_of_cell? w _ hx115_2)).trans hx115_2
                                   replace p115 := eq_true p115
                                   replace q115 := eq_true q115
                                   go_wp2_with (first | ((with_reducible refine gate_dst (N := 6) rfl ?_); (try (refine gate_guard (by rfl) ?_; dsimp only)); refine box_event ?hg (N := 6) ?hd (cs := #[.int .i64 0, .int .u64 0, .int .i64 0]) (t := 56) ?hr ?_; (case hd => rfl); (case hg => rfl); (case hr => first | (go_simp; done) | (go_simp; rfl)); intro gb116 hg w71 hbox hb; have n0_ := Aside0.mk (blk_below (blkU BK106.out) hb); have n1_ := Aside0.mk (blk_below (blkU BK108.out) hb); have n2_ := Aside0.mk (below_step bel_ hb); have n3_ := Aside0.mk (hbox); have n4_ := Aside0.mk ((by rw [hg]; exact (below_size bel_) : w.heap.size ≤ gb116)); have n5_ := Aside0.mk ((by rw [hg]; exact (below_size bel_) : w.heap.size ≤ gb116)); have n6_ := Aside0.mk ((by rw [hg]; exact Nat.ne_of_lt (blk_lt (blkU BK106.out)) : gb106 ≠ gb116)); have n7_ := Aside0.mk ((by rw [hg]; exact Nat.ne_of_gt (blk_lt (blkU BK106.out)) : gb116 ≠ gb106)); have n8_ := Aside0.mk ((by rw [hg]; exact Nat.ne_of_lt (blk_lt (blkU BK108.out)) : gb108 ≠ gb116)); have n9_ := Aside0.mk ((by rw [hg]; exact Nat.ne_of_gt (blk_lt (blkU BK108.out)) : gb116 ≠ gb108)); clear BK106; clear BK108; clear HB; have BK106 := n0_; have BK108 := n1_; have HB := n2_; have BK116 := n3_; have GW116 := n4_; have GE116 := n5_; have NB106_116 := n6_; have NB116_106 := n7_; have NB108_116 := n8_; have NB116_108 := n9_; clear n0_ n1_ n2_ n3_ n4_ n5_ n6_ n7_ n8_ n9_; clear hb hbox hg; have hnb72 := NB116_106.out; have hnc72 := NB106_116.out; have hnb73 := NB116_108.out; have hnc73 := NB108_116.out; obtain ⟨hcz74_0, hcz74_1, hcz74_2, hfz74_0, hfz74_1, hfz74_2⟩ := c3_ BK116.out; have hnb75 := NB108_106.out; have hnc75 := NB106_108.out; obtain ⟨hcz76_0, hcz76_1, hcz76_2, hfz76_0, hfz76_1, hfz76_2⟩ := c3_ BK108.out))
                                   repeat (go_quiet (first | ((with_reducible refine gate_dst (N := 6) rfl ?_); (try (refine gate_guard (by rfl) ?_; dsimp only)); refine box_event ?hg (N := 6) ?hd (cs := #[.int .i64 0, .int .u64 0, .int .i64 0]) (t := 56) ?hr ?_; (case hd => rfl); (case hg => rfl); (case hr => first | (go_simp; done) | (go_simp; rfl)); intro gb116 hg w71 hbox hb; have n0_ := Aside0.mk (blk_below (blkU BK106.out) hb); have n1_ := Aside0.mk (blk_below (blkU BK108.out) hb); have n2_ := Aside0.mk (below_step bel_ hb); have n3_ := Aside0.mk (hbox); have n4_ := Aside0.mk ((by rw [hg]; exact (below_size bel_) : w.heap.size ≤ gb116)); have n5_ := Aside0.mk ((by rw [hg]; exact (below_size bel_) : w.heap.size ≤ gb116)); have n6_ := Aside0.mk ((by rw [hg]; exact Nat.ne_of_lt (blk_lt (blkU BK106.out)) : gb106 ≠ gb116)); have n7_ := Aside0.mk ((by rw [hg]; exact Nat.ne_of_gt (blk_lt (blkU BK106.out)) : gb116 ≠ gb106)); have n8_ := Aside0.mk ((by rw [hg]; exact Nat.ne_of_lt (blk_lt (blkU BK108.out)) : gb108 ≠ gb116)); have n9_ := Aside0.mk ((by rw [hg]; exact Nat.ne_of_gt (blk_lt (blkU BK108.out)) : gb116 ≠ gb108)); clear BK106; clear BK108; clear HB; have BK106 := n0_; have BK108 := n1_; have HB := n2_; have BK116 := n3_; have GW116 := n4_; have GE116 := n5_; have NB106_116 := n6_; have NB116_106 := n7_; have NB108_116 := n8_; have NB116_108 := n9_; clear n0_ n1_ n2_ n3_ n4_ n5_ n6_ n7_ n8_ n9_; clear hb hbox hg; have hnb72 := NB116_106.out; have hnc72 := NB106_116.out; have hnb73 := NB116_108.out; have hnc73 := NB108_116.out; obtain ⟨hcz74_0, hcz74_1, hcz74_2, hfz74_0, hfz74_1, hfz74_2⟩ := c3_ BK116.out; have hnb75 := NB108_106.out; have hnc75 := NB106_108.out; obtain ⟨hcz76_0, hcz76_1, hcz76_2, hfz76_0, hfz76_1, hfz76_2⟩ := c3_ BK108.out)); try go_wp2_with (first | ((with_reducible refine gate_dst (N := 6) rfl ?_); (try (refine gate_guard (by rfl) ?_; dsimp only)); refine box_event ?hg (N := 6) ?hd (cs := #[.int .i64 0, .int .u64 0, .int .i64 0]) (t := 56) ?hr ?_; (case hd => rfl); (case hg => rfl); (case hr => first | (go_simp; done) | (go_simp; rfl)); intro gb116 hg w71 hbox hb; have n0_ := Aside0.mk (blk_below (blkU BK106.out) hb); have n1_ := Aside0.mk (blk_below (blkU BK108.out) hb); have n2_ := Aside0.mk (below_step bel_ hb); have n3_ := Aside0.mk (hbox); have n4_ := Aside0.mk ((by rw [hg]; exact (below_size bel_) : w.heap.size ≤ gb116)); have n5_ := Aside0.mk ((by rw [hg]; exact (below_size bel_) : w.heap.size ≤ gb116)); have n6_ := Aside0.mk ((by rw [hg]; exact Nat.ne_of_lt (blk_lt (blkU BK106.out)) : gb106 ≠ gb116)); have n7_ := Aside0.mk ((by rw [hg]; exact Nat.ne_of_gt (blk_lt (blkU BK106.out)) : gb116 ≠ gb106)); have n8_ := Aside0.mk ((by rw [hg]; exact Nat.ne_of_lt (blk_lt (blkU BK108.out)) : gb108 ≠ gb116)); have n9_ := Aside0.mk ((by rw [hg]; exact Nat.ne_of_gt (blk_lt (blkU BK108.out)) : gb116 ≠ gb108)); clear BK106; clear BK108; clear HB; have BK106 := n0_; have BK108 := n1_; have HB := n2_; have BK116 := n3_; have GW116 := n4_; have GE116 := n5_; have NB106_116 := n6_; have NB116_106 := n7_; have NB108_116 := n8_; have NB116_108 := n9_; clear n0_ n1_ n2_ n3_ n4_ n5_ n6_ n7_ n8_ n9_; clear hb hbox hg; have hnb72 := NB116_106.out; have hnc72 := NB106_116.out; have hnb73 := NB116_108.out; have hnc73 := NB108_116.out; obtain ⟨hcz74_0, hcz74_1, hcz74_2, hfz74_0, hfz74_1, hfz74_2⟩ := c3_ BK116.out; have hnb75 := NB108_106.out; have hnc75 := NB106_108.out; obtain ⟨hcz76_0, hcz76_1, hcz76_2, hfz76_0, hfz76_1, hfz76_2⟩ := c3_ BK108.out)))
                                   go_ret
                                   exact ⟨by first | rfl | (simp [errW_none, errW_some] <;> rfl) | (simp [*, errW_none, errW_some] <;> rfl), bel_⟩
                                 · rw [if_neg c70] at H
                                   have c70b0 : (((rd_T56 y111 x89_5).f0) == ((rd_T56 l0_1 x24_2).f0)) = false := beq_eq_false_iff_ne.mpr c70
                                   have c70b1 : (((rd_T56 y111 x89_5).f0) != ((rd_T56 l0_1 x24_2).f0)) = true := bne_iff_ne.mpr c70
                                   have H' := Aside0.mk H
                                   clear H
                                   have p115 : 0 ≤ (x89_5 : Int) := of_decide_eq_true (by first | (with_reducible assumption) | assumption)
                                   have q115 : x89_5 < (y111.length : Int) := of_decide_eq_true (by first | (with_reducible assumption) | assumption)
                                   obtain ⟨ad115, e115, hx115_0, hx115_1, hx115_2⟩ := at_T56 HR114.out x89_5 p115 q115
                                   obtain rfl : ad107 = ad115 := (by injection e115)
                                   replace hx115_0 := (HB.out.cell (World.block_lt_of_cell? w _ hx115_0)).trans hx115_0
                                   replace hx115_1 := (HB.out.cell (World.block_lt_of_cell? w _ hx115_1)).trans hx115_1
                                   replace hx115_2 := (HB.out.cell (World.block_lt_of_cell? w _ hx115_2)).trans hx115_2
                                   replace p115 := eq_true p115
                                   replace q115 := eq_true q115
                                   go_wp2_with (first | ((with_reducible refine gate_dst (N := 6) rfl ?_); (try (refine gate_guard (by rfl) ?_; dsimp only)); refine box_event ?hg (N := 6) ?hd (cs := #[.int .i64 0, .int .u64 0, .int .i64 0]) (t := 56) ?hr ?_; (case hd => rfl); (case hg => rfl); (case hr => first | (go_simp; done) | (go_simp; rfl)); intro gb116 hg w77 hbox hb; have n0_ := Aside0.mk (blk_below (blkU BK106.out) hb); have n1_ := Aside0.mk (blk_below (blkU BK108.out) hb); have n2_ := Aside0.mk (below_step bel_ hb); have n3_ := Aside0.mk (hbox); have n4_ := Aside0.mk ((by rw [hg]; exact (below_size bel_) : w.heap.size ≤ gb116)); have n5_ := Aside0.mk ((by rw [hg]; exact (below_size bel_) : w.heap.size ≤ gb116)); have n6_ := Aside0.mk ((by rw [hg]; exact Nat.ne_of_lt (blk_lt (blkU BK106.out)) : gb106 ≠ gb116)); have n7_ := Aside0.mk ((by rw [hg]; exact Nat.ne_of_gt (blk_lt (blkU BK106.out)) : gb116 ≠ gb106)); have n8_ := Aside0.mk ((by rw [hg]; exact Nat.ne_of_lt (blk_lt (blkU BK108.out)) : gb108 ≠ gb116)); have n9_ := Aside0.mk ((by rw [hg]; exact Nat.ne_of_gt (blk_lt (blkU BK108.out)) : gb116 ≠ gb108)); clear BK106; clear BK108; clear HB; have BK106 := n0_; have BK108 := n1_; have HB := n2_; have BK116 := n3_; have GW116 := n4_; have GE116 := n5_; have NB106_116 := n6_; have NB116_106 := n7_; have NB108_116 := n8_; have NB116_108 := n9_; clear n0_ n1_ n2_ n3_ n4_ n5_ n6_ n7_ n8_ n9_; clear hb hbox hg; have hnb78 := NB116_106.out; have hnc78 := NB106_116.out; have hnb79 := NB116_108.out; have hnc79 := NB108_116.out; obtain ⟨hcz80_0, hcz80_1, hcz80_2, hfz80_0, hfz80_1, hfz80_2⟩ := c3_ BK116.out; have hnb81 := NB108_106.out; have hnc81 := NB106_108.out; obtain ⟨hcz82_0, hcz82_1, hcz82_2, hfz82_0, hfz82_1, hfz82_2⟩ := c3_ BK108.out))
                                   repeat (go_quiet (first | ((with_reducible refine gate_dst (N := 6) rfl ?_); (try (refine gate_guard (by rfl) ?_; dsimp only)); refine box_event ?hg (N := 6) ?hd (cs := #[.int .i64 0, .int .u64 0, .int .i64 0]) (t := 56) ?hr ?_; (case hd => rfl); (case hg => rfl); (case hr => first | (go_simp; done) | (go_simp; rfl)); intro gb116 hg w77 hbox hb; have n0_ := Aside0.mk (blk_below (blkU BK106.out) hb); have n1_ := Aside0.mk (blk_below (blkU BK108.out) hb); have n2_ := Aside0.mk (below_step bel_ hb); have n3_ := Aside0.mk (hbox); have n4_ := Aside0.mk ((by rw [hg]; exact (below_size bel_) : w.heap.size ≤ gb116)); have n5_ := Aside0.mk ((by rw [hg]; exact (below_size bel_) : w.heap.size ≤ gb116)); have n6_ := Aside0.mk ((by rw [hg]; exact Nat.ne_of_lt (blk_lt (blkU BK106.out)) : gb106 ≠ gb116)); have n7_ := Aside0.mk ((by rw [hg]; exact Nat.ne_of_gt (blk_lt (blkU BK106.out)) : gb116 ≠ gb106)); have n8_ := Aside0.mk ((by rw [hg]; exact Nat.ne_of_lt (blk_lt (blkU BK108.out)) : gb108 ≠ gb116)); have n9_ := Aside0.mk ((by rw [hg]; exact Nat.ne_of_gt (blk_lt (blkU BK108.out)) : gb116 ≠ gb108)); clear BK106; clear BK108; clear HB; have BK106 := n0_; have BK108 := n1_; have HB := n2_; have BK116 := n3_; have GW116 := n4_; have GE116 := n5_; have NB106_116 := n6_; have NB116_106 := n7_; have NB108_116 := n8_; have NB116_108 := n9_; clear n0_ n1_ n2_ n3_ n4_ n5_ n6_ n7_ n8_ n9_; clear hb hbox hg; have hnb78 := NB116_106.out; have hnc78 := NB106_116.out; have hnb79 := NB116_108.out; have hnc79 := NB108_116.out; obtain ⟨hcz80_0, hcz80_1, hcz80_2, hfz80_0, hfz80_1, hfz80_2⟩ := c3_ BK116.out; have hnb81 := NB108_106.out; have hnc81 := NB106_108.out; obtain ⟨hcz82_0, hcz82_1, hcz82_2, hfz82_0, hfz82_1, hfz82_2⟩ := c3_ BK108.out)); try go_wp2_with (first | ((with_reducible refine gate_dst (N := 6) rfl ?_); (try (refine gate_guard (by rfl) ?_; dsimp only)); refine box_event ?hg (N := 6) ?hd (cs := #[.int .i64 0, .int .u64 0, .int .i64 0]) (t := 56) ?hr ?_; (case hd => rfl); (case hg => rfl); (case hr => first | (go_simp; done) | (go_simp; rfl)); intro gb116 hg w77 hbox hb; have n0_ := Aside0.mk (blk_below (blkU BK106.out) hb); have n1_ := Aside0.mk (blk_below (blkU BK108.out) hb); have n2_ := Aside0.mk (below_step bel_ hb); have n3_ := Aside0.mk (hbox); have n4_ := Aside0.mk ((by rw [hg]; exact (below_size bel_) : w.heap.size ≤ gb116)); have n5_ := Aside0.mk ((by rw [hg]; exact (below_size bel_) : w.heap.size ≤ gb116)); have n6_ := Aside0.mk ((by rw [hg]; exact Nat.ne_of_lt (blk_lt (blkU BK106.out)) : gb106 ≠ gb116)); have n7_ := Aside0.mk ((by rw [hg]; exact Nat.ne_of_gt (blk_lt (blkU BK106.out)) : gb116 ≠ gb106)); have n8_ := Aside0.mk ((by rw [hg]; exact Nat.ne_of_lt (blk_lt (blkU BK108.out)) : gb108 ≠ gb116)); have n9_ := Aside0.mk ((by rw [hg]; exact Nat.ne_of_gt (blk_lt (blkU BK108.out)) : gb116 ≠ gb108)); clear BK106; clear BK108; clear HB; have BK106 := n0_; have BK108 := n1_; have HB := n2_; have BK116 := n3_; have GW116 := n4_; have GE116 := n5_; have NB106_116 := n6_; have NB116_106 := n7_; have NB108_116 := n8_; have NB116_108 := n9_; clear n0_ n1_ n2_ n3_ n4_ n5_ n6_ n7_ n8_ n9_; clear hb hbox hg; have hnb78 := NB116_106.out; have hnc78 := NB106_116.out; have hnb79 := NB116_108.out; have hnc79 := NB108_116.out; obtain ⟨hcz80_0, hcz80_1, hcz80_2, hfz80_0, hfz80_1, hfz80_2⟩ := c3_ BK116.out; have hnb81 := NB108_106.out; have hnc81 := NB106_108.out; obtain ⟨hcz82_0, hcz82_1, hcz82_2, hfz82_0, hfz82_1, hfz82_2⟩ := c3_ BK108.out)))
                                   go_roundg k5
                                   case measure => have := HJ1.out; have := HK2.out; have := HJ13.out; have := HJ35.out; have := HK5.out; omega
                                   case rel => exact ⟨(wrap64 (x89_5 + 1)), (by first | rfl | (simp; done) | (simp [*]; done)), H', ⟨by have := HJ1.out; have := HK2.out; have := HJ13.out; have := HJ35.out; have := HK5.out; omega⟩, ⟨by refine blkU ?_; refine blk_far ?_ NB106_116.out _; refine blkU ?_; refine blk_far ?_ NB106_116.out _; refine blkU ?_; refine blk_far ?_ NB106_116.out _; refine blkU ?_; exact BK106.out⟩, ⟨by refine blkU ?_; refine blk_far ?_ NB108_116.out _; refine blkU ?_; refine blk_far ?_ NB108_116.out _; refine blkU ?_; refine blk_far ?_ NB108_116.out _; refine blkU ?_; exact BK108.out⟩, ⟨bel_⟩⟩
                               · rw [if_neg c69] at H
                                 exact absurd H (by simp)
                             · rw [if_neg c68] at H
                               exact absurd H (by simp)
                           · rw [if_neg c67] at H
                             have c67b0 : decide (x89_5 < (y111.length : Int)) = false := decide_eq_false c67
                             clear c67
                             have H' := Aside0.mk H
                             clear H
                             go_wp2
                             repeat (go_quiet (fail); try go_wp2)
                             go_roundg k5
                             case measure => have := HJ1.out; have := HK2.out; have := HJ13.out; have := HJ35.out; have := HK5.out; omega
                             case rel => exact ⟨(wrap64 (x24_2 + 1)), (by first | rfl | (simp; done) | (simp [*]; done)), H', ⟨by have := HJ1.out; have := HK2.out; have := HJ13.out; have := HJ35.out; have := HK5.out; omega⟩, ⟨by refine blkU ?_; exact BK106.out⟩, ⟨bel_⟩⟩
                       · rw [if_neg c63] at H
                         exact absurd H (by simp)
                     · rw [if_neg c62] at H
                       exact absurd H (by simp)
           · rw [if_neg c13] at H
             exact absurd H (by simp)
         · rw [if_neg c12] at H
           exact absurd H (by simp)
       · rw [if_neg c11] at H
         have c11b0 : decide (x24_2 < (l0_1.length : Int)) = false := decide_eq_false c11
         clear c11
         obtain rfl := Option.some.inj H
         go_wp2
         repeat (go_quiet (fail); try go_wp2)
         go_ret
         exact ⟨by first | rfl | (simp [errW_none, errW_some] <;> rfl) | (simp [*, errW_none, errW_some] <;> rfl), bel_⟩
end Go.Proofs.Ytjagplonneednaa.P
