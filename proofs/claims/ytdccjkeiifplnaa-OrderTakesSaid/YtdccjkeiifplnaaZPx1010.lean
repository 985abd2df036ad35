-- kept, by a program of this session, of a text that the printer or this session wrote
import Derived.Test.YtdccjkeiifplnaaZPx0
namespace Go.Proofs.Ytdccjkeiifplnaa.P
open Go.RowKit Go.Proofs.YtdccjkeiifplnaaW.PrintWords Go.Proofs.YtdccjkeiifplnaaW.PrintLast Go.Proofs.YtdccjkeiifplnaaW.PrintMore
attribute [local go_sem] max2_int min2_int max_two min_two max_three min_three max_four min_four
set_option linter.unusedVariables false
set_option linter.unusedSimpArgs false
def spoorref14_Find.l0 : Nat → Int → List (S38) → Int → Int → Option (Int × Int × Int × Bool × Bool)
 | 0, _, _, _, _ => none
 | k + 1, x1, x8, x9, x10 => if x10 < x9 then (if 0 ≤ x10 then (if x10 < (x8.length : Int) then (if ((rd_T38 x8 x10).f0) = x1 then (some ((rd_T38 x8 x10).f0, (rd_T38 x8 x10).f1, (rd_T38 x8 x10).f2, (rd_T38 x8 x10).f3, true)) else (spoorref14_Find.l0 k x1 x8 x9 (wrap64 (x10 + 1)))) else (none)) else (none)) else (some (0, 0, 0, false, false))
def spoorref14_Find.f (k : Nat) (l0 : List (S38)) (a1 : Int) : Option (Int × Int × Int × Bool × Bool) := spoorref14_Find.l0 k a1 l0 (l0.length : Int) 0
set_option maxHeartbeats 8000000 in
set_option maxRecDepth 100000 in
theorem spoorref14_Find.calls (k : Nat) (A0 : Option Addr) (c0 : Nat) (l0 : List (S38)) (a1 : Int) (r1 : Int) (r2 : Int) (r3 : Int) (r4 : Bool) (r5 : Bool) (w : World) (hr0 : Kd.C k38 w A0 l0.length l0) (hc0 : l0.length ≤ c0) (h : spoorref14_Find.f k l0 a1 = some (r1, r2, r3, r4, r5)) :
 Calls Try.prog 10 #[.slice A0 l0.length c0, .int .i64 a1] w fun e w' => e = .returned (.tuple #[.agg #[.int .i64 r1, .int .u64 r2, .int .i64 r3, .bool r4], .bool r5]) ∧ Below w.heap.size w w' := by
 have hu38 := Try.underlying38
 have HR0 := Aside0.mk hr0
 have HC0 := Aside0.mk hc0
 clear hr0 hc0
 have HB := Aside0.mk (Below.refl w.heap.size w)
 have H : (spoorref14_Find.l0 k a1 l0 (l0.length : Int) 0) = some (r1, r2, r3, r4, r5) := h
 clear h
 have H' := Aside0.mk H
 clear H
 go_enter Try.func10, Try.ntmps10
 go_wp2_with (first | ((with_reducible refine gate_dst (N := 4) rfl ?_); refine box_event ?hg (N := 4) ?hd (cs := #[.int .i64 0, .int .u64 0, .int .i64 0, .bool false]) (t := 38) ?hr ?_; (case hd => rfl); (case hg => rfl); (case hr => first | (go_simp; done) | (go_simp; rfl)); intro gb172 hg w3 hbox hb; have n0_ := Aside0.mk (below_step bel_ hb); have n1_ := Aside0.mk (hbox); have n2_ := Aside0.mk ((gE_ hg : w.heap.size ≤ gb172)); have n3_ := Aside0.mk ((gE_ hg : w.heap.size ≤ gb172)); clear HB; have HB := n0_; have BK172 := n1_; have GW172 := n2_; have GE172 := n3_; clear n0_ n1_ n2_ n3_; clear hb hbox hg))
 go_loopg [10] k (fun kq v10 w' => ∃ (x10_1 : Int) (x173000_1 : Int) (x173001_1 : Int) (x173002_1 : Int) (x173003_1 : Bool), v10 = .int .i64 x10_1 ∧ Aside0 (spoorref14_Find.l0 kq a1 l0 (l0.length : Int) x10_1 = some (r1, r2, r3, r4, r5)) ∧ Aside0 (kq ≤ k) ∧ Aside0 (w'.heap[gb172]? = some (.cells #[.int .i64 x173000_1, .int .u64 x173001_1, .int .i64 x173002_1, .bool x173003_1] 38 (0, 0))) ∧ Aside0 (Below w.heap.size w w'))
 case atStart => exact ⟨(0), (0), (0), (0), (false), st_, H', ⟨Nat.le_refl _⟩, ⟨by refine blkU ?_; exact BK172.out⟩, ⟨bel_⟩⟩
 case round =>
  clear H'; try clear c1; try clear p2
  obtain ⟨x10_1, x173000_1, x173001_1, x173002_1, x173003_1, rfl, HA, HK1, BK172, HB⟩ := hrel
  cases gk with
  | zero => exact absurd HA.out (by simp [spoorref14_Find.l0])
  | succ k1 =>
   have H := HA.out
   clear HA
   simp only [spoorref14_Find.l0] at H
   by_cases c4 : x10_1 < (l0.length : Int)
   · rw [if_pos c4] at H
     have c4b0 : decide (x10_1 < (l0.length : Int)) = true := decide_eq_true c4
     clear c4
     by_cases c5 : 0 ≤ x10_1
     · rw [if_pos c5] at H
       have c5b0 : decide (0 ≤ x10_1) = true := decide_eq_true c5
       clear c5
       by_cases c6 : x10_1 < (l0.length : Int)
       · rw [if_pos c6] at H
         have c6b0 : decide (x10_1 < (l0.length : Int)) = true := decide_eq_true c6
         clear c6
         by_cases c7 : ((rd_T38 l0 x10_1).f0) = a1
         · rw [if_pos c7] at H
           have c7b0 : (((rd_T38 l0 x10_1).f0) == a1) = true := beq_iff_eq.mpr c7
           have c7b1 : (((rd_T38 l0 x10_1).f0) != a1) = false := bne_eq_false_iff_eq.mpr c7
           clear c7
           simp only [Option.some.injEq, Prod.mk.injEq] at H
           obtain ⟨rfl, rfl, rfl, rfl, rfl⟩ := H
           have p173 : 0 ≤ (x10_1 : Int) := of_decide_eq_true (by first | (with_reducible assumption) | assumption)
           have q173 : x10_1 < (l0.length : Int) := of_decide_eq_true (by first | (with_reducible assumption) | assumption)
           obtain ⟨ad173, e173, hx173_0, hx173_1, hx173_2, hx173_3⟩ := at_T38 HR0.out x10_1 p173 q173
           cases e173
           replace hx173_0 := (HB.out.cell (World.block_lt_of_cell? w _ hx173_0)).trans hx173_0
           replace hx173_1 := (HB.out.cell (World.block_lt_of_cell? w _ hx173_1)).trans hx173_1
           replace hx173_2 := (HB.out.cell (World.block_lt_of_cell? w _ hx173_2)).trans hx173_2
           replace hx173_3 := (HB.out.cell (World.block_lt_of_cell? w _ hx173_3)).trans hx173_3
           replace p173 := eq_true p173
           replace q173 := eq_true q173
           go_wp2_with (first | ((with_reducible refine gate_dst (N := 7) rfl ?_); refine box_event ?hg (N := 7) ?hd (cs := #[.int .i64 0, .int .u64 0, .int .i64 0, .bool false]) (t := 38) ?hr ?_; (case hd => rfl); (case hg => rfl); (case hr => first | (go_simp; done) | (go_simp; rfl)); intro gb174 hg w8 hbox hb; have n0_ := Aside0.mk (blk_below (blkU BK172.out) hb); have n1_ := Aside0.mk (below_step bel_ hb); have n2_ := Aside0.mk (hbox); have n3_ := Aside0.mk ((gE_ hg : w.heap.size ≤ gb174)); have n4_ := Aside0.mk ((gE_ hg : w.heap.size ≤ gb174)); have n5_ := Aside0.mk ((by rw [hg]; exact Nat.ne_of_lt (blk_lt (blkU BK172.out)) : gb172 ≠ gb174)); have n6_ := Aside0.mk ((by rw [hg]; exact Nat.ne_of_gt (blk_lt (blkU BK172.out)) : gb174 ≠ gb172)); clear BK172; clear HB; have BK172 := n0_; have HB := n1_; have BK174 := n2_; have GW174 := n3_; have GE174 := n4_; have NB172_174 := n5_; have NB174_172 := n6_; clear n0_ n1_ n2_ n3_ n4_ n5_ n6_; clear hb hbox hg; have hnb9 := NB174_172.out; have hnc9 := NB172_174.out; obtain ⟨hcz10_0, hcz10_1, hcz10_2, hcz10_3, hfz10_0, hfz10_1, hfz10_2, hfz10_3⟩ := cz4_ BK174.out; obtain ⟨hcz11_0, hcz11_1, hcz11_2, hcz11_3, hfz11_0, hfz11_1, hfz11_2, hfz11_3⟩ := cz4_ BK172.out))
           refine bodyPost_ret (results_ct rfl _ _ gb172 38 #[.int .i64 ((rd_T38 l0 x10_1).f0), .int .u64 ((rd_T38 l0 x10_1).f1), .int .i64 ((rd_T38 l0 x10_1).f2), .bool ((rd_T38 l0 x10_1).f3)] (0, 0) _ rfl (by refine blkU ?_; refine blk_put (cs := #[.int .i64 ((rd_T38 l0 x10_1).f0), .int .u64 ((rd_T38 l0 x10_1).f1), .int .i64 ((rd_T38 l0 x10_1).f2), .bool x173003_1]) ?_ 3 _ rfl; refine blkU ?_; refine blk_put (cs := #[.int .i64 ((rd_T38 l0 x10_1).f0), .int .u64 ((rd_T38 l0 x10_1).f1), .int .i64 x173002_1, .bool x173003_1]) ?_ 2 _ rfl; refine blkU ?_; refine blk_put (cs := #[.int .i64 ((rd_T38 l0 x10_1).f0), .int .u64 x173001_1, .int .i64 x173002_1, .bool x173003_1]) ?_ 1 _ rfl; refine blkU ?_; refine blk_put (cs := #[.int .i64 x173000_1, .int .u64 x173001_1, .int .i64 x173002_1, .bool x173003_1]) ?_ 0 _ rfl; refine blkU ?_; refine blk_far ?_ NB172_174.out _; refine blkU ?_; refine blk_far ?_ NB172_174.out _; refine blkU ?_; refine blk_far ?_ NB172_174.out _; refine blkU ?_; refine blk_far ?_ NB172_174.out _; refine blkU ?_; exact BK172.out) Try.underlying38 rfl (by kernel_rfl)) rfl ?_
           exact fin_ bel_
         · rw [if_neg c7] at H
           have c7b0 : (((rd_T38 l0 x10_1).f0) == a1) = false := beq_eq_false_iff_ne.mpr c7
           have c7b1 : (((rd_T38 l0 x10_1).f0) != a1) = true := bne_iff_ne.mpr c7
           have H' := Aside0.mk H
           clear H
           have p173 : 0 ≤ (x10_1 : Int) := of_decide_eq_true (by first | (with_reducible assumption) | assumption)
           have q173 : x10_1 < (l0.length : Int) := of_decide_eq_true (by first | (with_reducible assumption) | assumption)
           obtain ⟨ad173, e173, hx173_0, hx173_1, hx173_2, hx173_3⟩ := at_T38 HR0.out x10_1 p173 q173
           cases e173
           replace hx173_0 := (HB.out.cell (World.block_lt_of_cell? w _ hx173_0)).trans hx173_0
           replace hx173_1 := (HB.out.cell (World.block_lt_of_cell? w _ hx173_1)).trans hx173_1
           replace hx173_2 := (HB.out.cell (World.block_lt_of_cell? w _ hx173_2)).trans hx173_2
           replace hx173_3 := (HB.out.cell (World.block_lt_of_cell? w _ hx173_3)).trans hx173_3
           replace p173 := eq_true p173
           replace q173 := eq_true q173
           go_wp2_with (first | ((with_reducible refine gate_dst (N := 7) rfl ?_); refine box_event ?hg (N := 7) ?hd (cs := #[.int .i64 0, .int .u64 0, .int .i64 0, .bool false]) (t := 38) ?hr ?_; (case hd => rfl); (case hg => rfl); (case hr => first | (go_simp; done) | (go_simp; rfl)); intro gb174 hg w12 hbox hb; have n0_ := Aside0.mk (blk_below (blkU BK172.out) hb); have n1_ := Aside0.mk (below_step bel_ hb); have n2_ := Aside0.mk (hbox); have n3_ := Aside0.mk ((gE_ hg : w.heap.size ≤ gb174)); have n4_ := Aside0.mk ((gE_ hg : w.heap.size ≤ gb174)); have n5_ := Aside0.mk ((by rw [hg]; exact Nat.ne_of_lt (blk_lt (blkU BK172.out)) : gb172 ≠ gb174)); have n6_ := Aside0.mk ((by rw [hg]; exact Nat.ne_of_gt (blk_lt (blkU BK172.out)) : gb174 ≠ gb172)); clear BK172; clear HB; have BK172 := n0_; have HB := n1_; have BK174 := n2_; have GW174 := n3_; have GE174 := n4_; have NB172_174 := n5_; have NB174_172 := n6_; clear n0_ n1_ n2_ n3_ n4_ n5_ n6_; clear hb hbox hg; have hnb13 := NB174_172.out; have hnc13 := NB172_174.out; obtain ⟨hcz14_0, hcz14_1, hcz14_2, hcz14_3, hfz14_0, hfz14_1, hfz14_2, hfz14_3⟩ := cz4_ BK174.out))
           go_roundg k1
           case measure => have := HK1.out; omega
           case rel => exact ⟨(wrap64 (x10_1 + 1)), (x173000_1), (x173001_1), (x173002_1), (x173003_1), st_, H', ⟨by have := HK1.out; omega⟩, ⟨by refine blkU ?_; refine blk_far ?_ NB172_174.out _; refine blkU ?_; refine blk_far ?_ NB172_174.out _; refine blkU ?_; refine blk_far ?_ NB172_174.out _; refine blkU ?_; refine blk_far ?_ NB172_174.out _; refine blkU ?_; exact BK172.out⟩, ⟨bel_⟩⟩
       · rw [if_neg c6] at H
         exact absurd H (by simp)
     · rw [if_neg c5] at H
       exact absurd H (by simp)
   · rw [if_neg c4] at H
     have c4b0 : decide (x10_1 < (l0.length : Int)) = false := decide_eq_false c4
     clear c4
     simp only [Option.some.injEq, Prod.mk.injEq] at H
     obtain ⟨rfl, rfl, rfl, rfl, rfl⟩ := H
     obtain ⟨hcz15_0, hcz15_1, hcz15_2, hcz15_3, hfz15_0, hfz15_1, hfz15_2, hfz15_3⟩ := cz4_ BK172.out
     go_wp2
     refine bodyPost_ret (results_ct rfl _ _ gb172 38 #[.int .i64 0, .int .u64 0, .int .i64 0, .bool false] (0, 0) _ rfl (by refine blkU ?_; refine blk_put (cs := #[.int .i64 0, .int .u64 0, .int .i64 0, .bool x173003_1]) ?_ 3 _ rfl; refine blkU ?_; refine blk_put (cs := #[.int .i64 0, .int .u64 0, .int .i64 x173002_1, .bool x173003_1]) ?_ 2 _ rfl; refine blkU ?_; refine blk_put (cs := #[.int .i64 0, .int .u64 x173001_1, .int .i64 x173002_1, .bool x173003_1]) ?_ 1 _ rfl; refine blkU ?_; refine blk_put (cs := #[.int .i64 x173000_1, .int .u64 x173001_1, .int .i64 x173002_1, .bool x173003_1]) ?_ 0 _ rfl; refine blkU ?_; exact BK172.out) Try.underlying38 rfl (by kernel_rfl)) rfl ?_
     exact fin_ bel_
end Go.Proofs.Ytdccjkeiifplnaa.P
