-- kept, by a program of this session, of a text that the printer or this session wrote
import Derived.Test.YtjagplonneednaaZPx0
import Derived.Test.YtjagplonneednaaZPx30056
namespace Go.Proofs.Ytjagplonneednaa.P
open Go.RowKit Go.Proofs.YtjagplonneednaaW.PrintWords Go.Proofs.YtjagplonneednaaW.PrintLast Go.Proofs.YtjagplonneednaaW.PrintMore
attribute [local go_sem] max2_int min2_int max_two min_two max_three min_three max_four min_four
set_option linter.unusedVariables false
set_option linter.unusedSimpArgs false
attribute [local go_sem high] eqA56
mutual
def spoorref06_Same.j0 : Nat → Bool → Int → List (S56) → Int → List (S56) → Option (Bool)
 | 0, _, _, _, _, _ => none
 | k + 1, x19, x263000, x263001, x264000, x264001 => if x19 = true then (some false) else (spoorref06_Same.l0 k (x263001.length : Int) 0 x263000 x263001 x264000 x264001)
def spoorref06_Same.l0 : Nat → Int → Int → Int → List (S56) → Int → List (S56) → Option (Bool)
 | 0, _, _, _, _, _, _ => none
 | k + 1, x22, x23, x263000, x263001, x264000, x264001 => if x23 < x22 then (if 0 ≤ x23 then (if x23 < (x263001.length : Int) then (if x23 < (x264001.length : Int) then (if (!(((rd_T56 x263001 x23).f0) == ((rd_T56 x264001 x23).f0)) || (!(((rd_T56 x263001 x23).f1) == ((rd_T56 x264001 x23).f1)) || (!(((rd_T56 x263001 x23).f2) == ((rd_T56 x264001 x23).f2))))) = true then (some false) else (spoorref06_Same.l0 k x22 (wrap64 (x23 + 1)) x263000 x263001 x264000 x264001)) else (none)) else (none)) else (none)) else (some true)
end
def spoorref06_Same.f (k : Nat) (a0_0 : Int) (l0_1 : List (S56)) (a1_0 : Int) (l1_1 : List (S56)) : Option (Bool) := if a0_0 = a1_0 then (spoorref06_Same.j0 k ((l0_1.length : Int) != (l1_1.length : Int)) a0_0 l0_1 a1_0 l1_1) else (spoorref06_Same.j0 k true a0_0 l0_1 a1_0 l1_1)
set_option maxHeartbeats 8000000 in
set_option maxRecDepth 100000 in
theorem spoorref06_Same.calls (k : Nat) (a0_0 : Int) (A0_1 : Option Addr) (c0_1 : Nat) (l0_1 : List (S56)) (a1_0 : Int) (A1_1 : Option Addr) (c1_1 : Nat) (l1_1 : List (S56)) (r : Bool) (w : World) (hr0_1 : Kd.C k56 w A0_1 l0_1.length l0_1) (hc0_1 : l0_1.length ≤ c0_1) (hr1_1 : Kd.C k56 w A1_1 l1_1.length l1_1) (hc1_1 : l1_1.length ≤ c1_1) (h : spoorref06_Same.f k a0_0 l0_1 a1_0 l1_1 = some r) :
 Calls Try.prog 15 #[.agg #[.int .u64 a0_0, .slice A0_1 l0_1.length c0_1], .agg #[.int .u64 a1_0, .slice A1_1 l1_1.length c1_1]] w fun e w' => e = .returned (.bool r) ∧ Below w.heap.size w w' := by
 have hu25 := Try.underlying25
 have hu56 := Try.underlying56
 have HR0_1 := Aside0.mk hr0_1
 have HC0_1 := Aside0.mk hc0_1
 clear hr0_1 hc0_1
 have HR1_1 := Aside0.mk hr1_1
 have HC1_1 := Aside0.mk hc1_1
 clear hr1_1 hc1_1
 have HB := Aside0.mk (Below.refl w.heap.size w)
 have H : (if a0_0 = a1_0 then (spoorref06_Same.j0 k ((l0_1.length : Int) != (l1_1.length : Int)) a0_0 l0_1 a1_0 l1_1) else (spoorref06_Same.j0 k true a0_0 l0_1 a1_0 l1_1)) = some r := h
 clear h
 have HC3 := Aside0.mk H
 clear H
 go_enter Try.func15, Try.ntmps15
 go_upto_region 1 with (first | ((with_reducible refine gate_dst (N := 2) rfl ?_); (try (refine gate_guard (by rfl) ?_; dsimp only)); refine box_event ?hg (N := 2) ?hd (cs := #[.int .u64 a0_0, .slice A0_1 l0_1.length c0_1]) (t := 25) ?hr ?_; (case hd => rfl); (case hg => rfl); (case hr => first | (go_simp; done) | (go_simp; rfl)); intro gb262 hg w4 hbox hb; have n0_ := Aside0.mk (below_step bel_ hb); have n1_ := Aside0.mk (hbox); have n2_ := Aside0.mk ((gE_ hg : w.heap.size ≤ gb262)); have n3_ := Aside0.mk ((gE_ hg : w.heap.size ≤ gb262)); clear HB; have HB := n0_; have BK262 := n1_; have GW262 := n2_; have GE262 := n3_; clear n0_ n1_ n2_ n3_; clear hb hbox hg) | ((with_reducible refine gate_dst (N := 3) rfl ?_); (try (refine gate_guard (by rfl) ?_; dsimp only)); refine box_event ?hg (N := 3) ?hd (cs := #[.int .u64 a1_0, .slice A1_1 l1_1.length c1_1]) (t := 25) ?hr ?_; (case hd => rfl); (case hg => rfl); (case hr => first | (go_simp; done) | (go_simp; rfl)); intro gb263 hg w5 hbox hb; have n0_ := Aside0.mk (blk_below (blkU BK262.out) hb); have n1_ := Aside0.mk (below_step bel_ hb); have n2_ := Aside0.mk (hbox); have n3_ := Aside0.mk ((gE_ hg : w.heap.size ≤ gb263)); have n4_ := Aside0.mk ((gE_ hg : w.heap.size ≤ gb263)); have n5_ := Aside0.mk ((by rw [hg]; exact Nat.ne_of_lt (blk_lt (blkU BK262.out)) : gb262 ≠ gb263)); have n6_ := Aside0.mk ((by rw [hg]; exact Nat.ne_of_gt (blk_lt (blkU BK262.out)) : gb263 ≠ gb262)); clear BK262; clear HB; have BK262 := n0_; have HB := n1_; have BK263 := n2_; have GW263 := n3_; have GE263 := n4_; have NB262_263 := n5_; have NB263_262 := n6_; clear n0_ n1_ n2_ n3_ n4_ n5_ n6_; clear hb hbox hg))
 repeat (go_quiet (first | ((with_reducible refine gate_dst (N := 2) rfl ?_); (try (refine gate_guard (by rfl) ?_; dsimp only)); refine box_event ?hg (N := 2) ?hd (cs := #[.int .u64 a0_0, .slice A0_1 l0_1.length c0_1]) (t := 25) ?hr ?_; (case hd => rfl); (case hg => rfl); (case hr => first | (go_simp; done) | (go_simp; rfl)); intro gb262 hg w4 hbox hb; have n0_ := Aside0.mk (below_step bel_ hb); have n1_ := Aside0.mk (hbox); have n2_ := Aside0.mk ((gE_ hg : w.heap.size ≤ gb262)); have n3_ := Aside0.mk ((gE_ hg : w.heap.size ≤ gb262)); clear HB; have HB := n0_; have BK262 := n1_; have GW262 := n2_; have GE262 := n3_; clear n0_ n1_ n2_ n3_; clear hb hbox hg) | ((with_reducible refine gate_dst (N := 3) rfl ?_); (try (refine gate_guard (by rfl) ?_; dsimp only)); refine box_event ?hg (N := 3) ?hd (cs := #[.int .u64 a1_0, .slice A1_1 l1_1.length c1_1]) (t := 25) ?hr ?_; (case hd => rfl); (case hg => rfl); (case hr => first | (go_simp; done) | (go_simp; rfl)); intro gb263 hg w5 hbox hb; have n0_ := Aside0.mk (blk_below (blkU BK262.out) hb); have n1_ := Aside0.mk (below_step bel_ hb); have n2_ := Aside0.mk (hbox); have n3_ := Aside0.mk ((gE_ hg : w.heap.size ≤ gb263)); have n4_ := Aside0.mk ((gE_ hg : w.heap.size ≤ gb263)); have n5_ := Aside0.mk ((by rw [hg]; exact Nat.ne_of_lt (blk_lt (blkU BK262.out)) : gb262 ≠ gb263)); have n6_ := Aside0.mk ((by rw [hg]; exact Nat.ne_of_gt (blk_lt (blkU BK262.out)) : gb263 ≠ gb262)); clear BK262; clear HB; have BK262 := n0_; have HB := n1_; have BK263 := n2_; have GW263 := n3_; have GE263 := n4_; have NB262_263 := n5_; have NB263_262 := n6_; clear n0_ n1_ n2_ n3_ n4_ n5_ n6_; clear hb hbox hg)); go_upto_region 1 with (first | ((with_reducible refine gate_dst (N := 2) rfl ?_); (try (refine gate_guard (by rfl) ?_; dsimp only)); refine box_event ?hg (N := 2) ?hd (cs := #[.int .u64 a0_0, .slice A0_1 l0_1.length c0_1]) (t := 25) ?hr ?_; (case hd => rfl); (case hg => rfl); (case hr => first | (go_simp; done) | (go_simp; rfl)); intro gb262 hg w4 hbox hb; have n0_ := Aside0.mk (below_step bel_ hb); have n1_ := Aside0.mk (hbox); have n2_ := Aside0.mk ((gE_ hg : w.heap.size ≤ gb262)); have n3_ := Aside0.mk ((gE_ hg : w.heap.size ≤ gb262)); clear HB; have HB := n0_; have BK262 := n1_; have GW262 := n2_; have GE262 := n3_; clear n0_ n1_ n2_ n3_; clear hb hbox hg) | ((with_reducible refine gate_dst (N := 3) rfl ?_); (try (refine gate_guard (by rfl) ?_; dsimp only)); refine box_event ?hg (N := 3) ?hd (cs := #[.int .u64 a1_0, .slice A1_1 l1_1.length c1_1]) (t := 25) ?hr ?_; (case hd => rfl); (case hg => rfl); (case hr => first | (go_simp; done) | (go_simp; rfl)); intro gb263 hg w5 hbox hb; have n0_ := Aside0.mk (blk_below (blkU BK262.out) hb); have n1_ := Aside0.mk (below_step bel_ hb); have n2_ := Aside0.mk (hbox); have n3_ := Aside0.mk ((gE_ hg : w.heap.size ≤ gb263)); have n4_ := Aside0.mk ((gE_ hg : w.heap.size ≤ gb263)); have n5_ := Aside0.mk ((by rw [hg]; exact Nat.ne_of_lt (blk_lt (blkU BK262.out)) : gb262 ≠ gb263)); have n6_ := Aside0.mk ((by rw [hg]; exact Nat.ne_of_gt (blk_lt (blkU BK262.out)) : gb263 ≠ gb262)); clear BK262; clear HB; have BK262 := n0_; have HB := n1_; have BK263 := n2_; have GW263 := n3_; have GE263 := n4_; have NB262_263 := n5_; have NB263_262 := n6_; clear n0_ n1_ n2_ n3_ n4_ n5_ n6_; clear hb hbox hg)))
 (try simp only [Act.put, List.setIfInBounds_toArray, List.set_cons_zero, List.set_cons_succ])
 go_cut [19] (fun v19 wc => ∃ (kq : Nat) (x19_2 : Bool), v19 = .bool x19_2 ∧ Aside0 (spoorref06_Same.j0 kq x19_2 a0_0 l0_1 a1_0 l1_1 = some r) ∧ Aside0 (kq ≤ k) ∧ Aside0 (wc.heap[gb262]? = some (.cells #[.int .u64 a0_0, (.slice A0_1 l0_1.length c0_1)] 25 (0, 0))) ∧ Aside0 (wc.heap[gb263]? = some (.cells #[.int .u64 a1_0, (.slice A1_1 l1_1.length c1_1)] 25 (0, 0))) ∧ Aside0 (Below w.heap.size w wc))
 case first =>
  have H := HC3.out
  clear HC3
  by_cases c6 : a0_0 = a1_0
  · rw [if_pos c6] at H
    have c6b0 : (a0_0 == a1_0) = true := beq_iff_eq.mpr c6
    have c6b1 : (a0_0 != a1_0) = false := bne_eq_false_iff_eq.mpr c6
    clear c6
    (first | rw [c6b0] | (simp only [i64_w, i32_w]; rw [c6b0]) | skip)
    have H' := Aside0.mk H
    clear H
    have hnb7 := NB262_263.out
    have hnc7 := NB263_262.out
    obtain ⟨hcz8_0, hcz8_1, hfz8_0, hfz8_1⟩ := cz2_ BK262.out
    obtain ⟨hcz9_0, hcz9_1, hfz9_0, hfz9_1⟩ := cz2_ BK263.out
    go_wp2
    repeat (go_quiet (fail); try go_wp2)
    go_meet
    case rel => exact ⟨_, (((l0_1.length : Int) != (l1_1.length : Int))), st_, H', ⟨by first | omega | exact Nat.le_refl _⟩, ⟨by refine blkU ?_; exact BK262.out⟩, ⟨by refine blkU ?_; exact BK263.out⟩, ⟨bel_⟩⟩
  · rw [if_neg c6] at H
    have c6b0 : (a0_0 == a1_0) = false := beq_eq_false_iff_ne.mpr c6
    have c6b1 : (a0_0 != a1_0) = true := bne_iff_ne.mpr c6
    (first | rw [c6b0] | (simp only [i64_w, i32_w]; rw [c6b0]) | skip)
    have H' := Aside0.mk H
    clear H
    have hnb10 := NB262_263.out
    have hnc10 := NB263_262.out
    obtain ⟨hcz11_0, hcz11_1, hfz11_0, hfz11_1⟩ := cz2_ BK262.out
    obtain ⟨hcz12_0, hcz12_1, hfz12_0, hfz12_1⟩ := cz2_ BK263.out
    go_wp2
    repeat (go_quiet (fail); try go_wp2)
    go_meet
    case rel => exact ⟨_, (true), st_, H', ⟨by first | omega | exact Nat.le_refl _⟩, ⟨by refine blkU ?_; exact BK262.out⟩, ⟨by refine blkU ?_; exact BK263.out⟩, ⟨bel_⟩⟩
 case rest =>
  clear HC3; try clear c1; try clear p2; try clear c6; try clear c6b0; try clear c6b1; try clear c7; try clear c10; try clear hcz11_0; try clear hcz11_1; try clear hcz12_0; try clear hcz12_1; try clear hcz8_0; try clear hcz8_1; try clear hcz9_0; try clear hcz9_1; try clear hfz11_0; try clear hfz11_1; try clear hfz12_0; try clear hfz12_1; try clear hfz8_0; try clear hfz8_1; try clear hfz9_0; try clear hfz9_1
  obtain ⟨kq, x19_2, rfl, HA, HJ2, BK262, BK263, HB⟩ := hcut
  cases kq with
  | zero => exact absurd HA.out (by simp [spoorref06_Same.j0])
  | succ kj2 =>
   have H := HA.out
   clear HA
   simp only [spoorref06_Same.j0] at H
   by_cases c13 : x19_2 = true
   · subst c13
     have H1 : (some false) = some r := by rw [if_pos rfl] at H; exact H
     clear H
     have H := H1
     clear H1
     obtain rfl := Option.some.inj H
     go_wp2
     repeat (go_quiet (fail); try go_wp2)
     go_ret
     exact fin_ bel_
   · replace c13 := Bool.eq_false_iff.mpr c13
     subst c13
     have H1 : (spoorref06_Same.l0 kj2 (l0_1.length : Int) 0 a0_0 l0_1 a1_0 l1_1) = some r := by rw [if_neg (show ¬ (false = true) by decide)] at H; exact H
     clear H
     have H := H1
     clear H1
     have H' := Aside0.mk H
     clear H
     have hnb14 := NB262_263.out
     have hnc14 := NB263_262.out
     obtain ⟨hcz15_0, hcz15_1, hfz15_0, hfz15_1⟩ := cz2_ BK262.out
     go_wp2
     repeat (go_quiet (fail); try go_wp2)
     go_loopg [23] kj2 (fun kq v23 w' => ∃ (x23_2 : Int), v23 = .int .i64 x23_2 ∧ Aside0 (spoorref06_Same.l0 kq (l0_1.length : Int) x23_2 a0_0 l0_1 a1_0 l1_1 = some r) ∧ Aside0 (kq ≤ kj2) ∧ Aside0 (w'.heap[gb262]? = some (.cells #[.int .u64 a0_0, (.slice A0_1 l0_1.length c0_1)] 25 (0, 0))) ∧ Aside0 (w'.heap[gb263]? = some (.cells #[.int .u64 a1_0, (.slice A1_1 l1_1.length c1_1)] 25 (0, 0))) ∧ Aside0 (Below w.heap.size w w'))
     case atStart => exact ⟨(0), st_, H', ⟨Nat.le_refl _⟩, ⟨by refine blkU ?_; exact BK262.out⟩, ⟨by refine blkU ?_; exact BK263.out⟩, ⟨bel_⟩⟩
     case round =>
      clear H'; try clear c1; try clear p2; try clear c6; try clear c6b0; try clear c6b1; try clear c7; try clear c10; try clear c13; try clear c14; try clear c15; try clear hcz11_0; try clear hcz11_1; try clear hcz12_0; try clear hcz12_1; try clear hcz15_0; try clear hcz15_1; try clear hcz8_0; try clear hcz8_1; try clear hcz9_0; try clear hcz9_1; try clear hfz11_0; try clear hfz11_1; try clear hfz12_0; try clear hfz12_1; try clear hfz15_0; try clear hfz15_1; try clear hfz8_0; try clear hfz8_1; try clear hfz9_0; try clear hfz9_1; try clear p2
      obtain ⟨x23_2, rfl, HA, HK2, BK262, BK263, HB⟩ := hrel
      cases gk with
      | zero => exact absurd HA.out (by simp [spoorref06_Same.l0])
      | succ k2 =>
       have H := HA.out
       clear HA
       simp only [spoorref06_Same.l0] at H
       by_cases c16 : x23_2 < (l0_1.length : Int)
       · rw [if_pos c16] at H
         have c16b0 : decide (x23_2 < (l0_1.length : Int)) = true := decide_eq_true c16
         clear c16
         by_cases c17 : 0 ≤ x23_2
         · rw [if_pos c17] at H
           have c17b0 : decide (0 ≤ x23_2) = true := decide_eq_true c17
           clear c17
           by_cases c18 : x23_2 < (l0_1.length : Int)
           · rw [if_pos c18] at H
             have c18b0 : decide (x23_2 < (l0_1.length : Int)) = true := decide_eq_true c18
             clear c18
             by_cases c19 : x23_2 < (l1_1.length : Int)
             · rw [if_pos c19] at H
               have c19b0 : decide (x23_2 < (l1_1.length : Int)) = true := decide_eq_true c19
               clear c19
               by_cases c20 : (!(((rd_T56 l0_1 x23_2).f0) == ((rd_T56 l1_1 x23_2).f0)) || (!(((rd_T56 l0_1 x23_2).f1) == ((rd_T56 l1_1 x23_2).f1)) || (!(((rd_T56 l0_1 x23_2).f2) == ((rd_T56 l1_1 x23_2).f2))))) = true
               · rw [if_pos c20] at H
                 have c20b0 : (!(((rd_T56 l0_1 x23_2).f0) == ((rd_T56 l1_1 x23_2).f0)) || (!(((rd_T56 l0_1 x23_2).f1) == ((rd_T56 l1_1 x23_2).f1)) || (!(((rd_T56 l0_1 x23_2).f2) == ((rd_T56 l1_1 x23_2).f2))))) = true := c20
                 clear c20
                 obtain rfl := Option.some.inj H
                 have hnb21 := NB262_263.out
                 have hnc21 := NB263_262.out
                 obtain ⟨hcz22_0, hcz22_1, hfz22_0, hfz22_1⟩ := cz2_ BK262.out
                 have p264 : 0 ≤ (x23_2 : Int) := of_decide_eq_true (by first | (with_reducible assumption) | assumption)
                 have q264 : x23_2 < (l0_1.length : Int) := of_decide_eq_true (by first | (with_reducible assumption) | assumption)
                 obtain ⟨ad264, e264, hx264_0, hx264_1, hx264_2⟩ := at_T56 HR0_1.out x23_2 p264 q264
                 cases e264
                 replace hx264_0 := (HB.out.cell (World.block_lt_of_cell? w _ hx264_0)).trans hx264_0
                 replace hx264_1 := (HB.out.cell (World.block_lt_of_cell? w _ hx264_1)).trans hx264_1
                 replace hx264_2 := (HB.out.cell (World.block_lt_of_cell? w _ hx264_2)).trans hx264_2
                 replace p264 := eq_true p264
                 replace q264 := eq_true q264
                 obtain ⟨hcz23_0, hcz23_1, hfz23_0, hfz23_1⟩ := cz2_ BK263.out
                 have p265 : 0 ≤ (x23_2 : Int) := of_decide_eq_true (by first | (with_reducible assumption) | assumption)
                 have q265 : x23_2 < (l1_1.length : Int) := of_decide_eq_true (by first | (with_reducible assumption) | assumption)
                 obtain ⟨ad265, e265, hx265_0, hx265_1, hx265_2⟩ := at_T56 HR1_1.out x23_2 p265 q265
                 cases e265
                 replace hx265_0 := (HB.out.cell (World.block_lt_of_cell? w _ hx265_0)).trans hx265_0
                 replace hx265_1 := (HB.out.cell (World.block_lt_of_cell? w _ hx265_1)).trans hx265_1
                 replace hx265_2 := (HB.out.cell (World.block_lt_of_cell? w _ hx265_2)).trans hx265_2
                 replace p265 := eq_true p265
                 replace q265 := eq_true q265
                 go_wp2
                 repeat (go_quiet (fail); try go_wp2)
                 go_ret
                 exact fin_ bel_
               · rw [if_neg c20] at H
                 have c20b0 : (!(((rd_T56 l0_1 x23_2).f0) == ((rd_T56 l1_1 x23_2).f0)) || (!(((rd_T56 l0_1 x23_2).f1) == ((rd_T56 l1_1 x23_2).f1)) || (!(((rd_T56 l0_1 x23_2).f2) == ((rd_T56 l1_1 x23_2).f2))))) = false := by simpa using c20
                 clear c20
                 have H' := Aside0.mk H
                 clear H
                 have hnb24 := NB262_263.out
                 have hnc24 := NB263_262.out
                 obtain ⟨hcz25_0, hcz25_1, hfz25_0, hfz25_1⟩ := cz2_ BK262.out
                 have p264 : 0 ≤ (x23_2 : Int) := of_decide_eq_true (by first | (with_reducible assumption) | assumption)
                 have q264 : x23_2 < (l0_1.length : Int) := of_decide_eq_true (by first | (with_reducible assumption) | assumption)
                 obtain ⟨ad264, e264, hx264_0, hx264_1, hx264_2⟩ := at_T56 HR0_1.out x23_2 p264 q264
                 cases e264
                 replace hx264_0 := (HB.out.cell (World.block_lt_of_cell? w _ hx264_0)).trans hx264_0
                 replace hx264_1 := (HB.out.cell (World.block_lt_of_cell? w _ hx264_1)).trans hx264_1
                 replace hx264_2 := (HB.out.cell (World.block_lt_of_cell? w _ hx264_2)).trans hx264_2
                 replace p264 := eq_true p264
                 replace q264 := eq_true q264
                 obtain ⟨hcz26_0, hcz26_1, hfz26_0, hfz26_1⟩ := cz2_ BK263.out
                 have p265 : 0 ≤ (x23_2 : Int) := of_decide_eq_true (by first | (with_reducible assumption) | assumption)
                 have q265 : x23_2 < (l1_1.length : Int) := of_decide_eq_true (by first | (with_reducible assumption) | assumption)
                 obtain ⟨ad265, e265, hx265_0, hx265_1, hx265_2⟩ := at_T56 HR1_1.out x23_2 p265 q265
                 cases e265
                 replace hx265_0 := (HB.out.cell (World.block_lt_of_cell? w _ hx265_0)).trans hx265_0
                 replace hx265_1 := (HB.out.cell (World.block_lt_of_cell? w _ hx265_1)).trans hx265_1
                 replace hx265_2 := (HB.out.cell (World.block_lt_of_cell? w _ hx265_2)).trans hx265_2
                 replace p265 := eq_true p265
                 replace q265 := eq_true q265
                 go_wp2
                 repeat (go_quiet (fail); try go_wp2)
                 go_roundg k2
                 case measure => have := HJ2.out; have := HK2.out; omega
                 case rel => exact ⟨(wrap64 (x23_2 + 1)), st_, H', ⟨by have := HJ2.out; have := HK2.out; omega⟩, ⟨by refine blkU ?_; exact BK262.out⟩, ⟨by refine blkU ?_; exact BK263.out⟩, ⟨bel_⟩⟩
             · rw [if_neg c19] at H
               exact absurd H (by simp)
           · rw [if_neg c18] at H
             exact absurd H (by simp)
         · rw [if_neg c17] at H
           exact absurd H (by simp)
       · rw [if_neg c16] at H
         have c16b0 : decide (x23_2 < (l0_1.length : Int)) = false := decide_eq_false c16
         clear c16
         obtain rfl := Option.some.inj H
         go_wp2
         repeat (go_quiet (fail); try go_wp2)
         go_ret
         exact fin_ bel_
end Go.Proofs.Ytjagplonneednaa.P
