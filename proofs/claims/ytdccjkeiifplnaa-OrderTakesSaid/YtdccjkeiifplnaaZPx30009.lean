-- kept, by a program of this session, of a text that the printer or this session wrote
import Derived.Test.YtdccjkeiifplnaaZPx0
import Derived.Test.YtdccjkeiifplnaaZPx1026
import Derived.Deep.RegionWith
import Derived.LoopIn
import Derived.LoopNIn
import Derived.Maps.AppendAt
import Derived.OwnWalkIn
import Derived.RangeFuncBound
import Derived.RangeFuncBox
import Derived.RangeFuncCalls
import Derived.RangeFuncLeaves
import Derived.RangeFuncNested
import Derived.Shelf.Abstract
import Derived.Sort.LoopGhostIn
import Derived.TacticsInMore
import Derived.WalkSpells
import Derived.Test.YtdccjkeiifplnaaZPx1045
namespace Go.Proofs.Ytdccjkeiifplnaa.P
open Go.RowKit Go.Proofs.YtdccjkeiifplnaaW.PrintWords Go.Proofs.YtdccjkeiifplnaaW.PrintLast Go.Proofs.YtdccjkeiifplnaaW.PrintMore
attribute [local go_sem] max2_int min2_int max_two min_two max_three min_three max_four min_four
set_option linter.unusedVariables false
set_option linter.unusedSimpArgs false
def order_right.f (a0_0 : Int) (a0_1 : Int) (a0_2 : Int) (a0_3 : Bool) : Option (Bool) := if a0_0 ≥ 0 then (if a0_0 ≤ 1048576 then (if a0_1 ≥ 1 then (if a0_1 ≤ 1099511627776 then (if a0_2 ≥ 0 then (some (decide (a0_2 ≤ 1099511627776))) else (some false)) else (some false)) else (some false)) else (some false)) else (some false)
set_option maxHeartbeats 8000000 in
set_option maxRecDepth 100000 in
theorem order_right.calls (a0_0 : Int) (a0_1 : Int) (a0_2 : Int) (a0_3 : Bool) (r : Bool) (w : World) (h : order_right.f a0_0 a0_1 a0_2 a0_3 = some r) :
 Calls Try.prog 24 #[.agg #[.int .i64 a0_0, .int .u64 a0_1, .int .i64 a0_2, .bool a0_3]] w fun e w' => e = .returned (.bool r) ∧ Below w.heap.size w w' := by
 have hu38 := Try.underlying38
 have HB := Aside0.mk (Below.refl w.heap.size w)
 have H : (if a0_0 ≥ 0 then (if a0_0 ≤ 1048576 then (if a0_1 ≥ 1 then (if a0_1 ≤ 1099511627776 then (if a0_2 ≥ 0 then (some (decide (a0_2 ≤ 1099511627776))) else (some false)) else (some false)) else (some false)) else (some false)) else (some false)) = some r := h
 clear h
 by_cases c2 : a0_0 ≥ 0
 · rw [if_pos c2] at H
   have c2b0 : decide (0 ≤ a0_0) = true := decide_eq_true c2
   clear c2
   by_cases c3 : a0_0 ≤ 1048576
   · rw [if_pos c3] at H
     have c3b0 : decide (a0_0 ≤ 1048576) = true := decide_eq_true c3
     clear c3
     by_cases c4 : a0_1 ≥ 1
     · rw [if_pos c4] at H
       have c4b0 : decide (1 ≤ a0_1) = true := decide_eq_true c4
       clear c4
       by_cases c5 : a0_1 ≤ 1099511627776
       · rw [if_pos c5] at H
         have c5b0 : decide (a0_1 ≤ 1099511627776) = true := decide_eq_true c5
         clear c5
         by_cases c6 : a0_2 ≥ 0
         · rw [if_pos c6] at H
           have c6b0 : decide (0 ≤ a0_2) = true := decide_eq_true c6
           clear c6
           obtain rfl := Option.some.inj H
           go_enter Try.func24, Try.ntmps24
           go_wp2_with (first | ((with_reducible refine gate_dst (N := 1) rfl ?_); refine box_event ?hg (N := 1) ?hd (cs := #[.int .i64 a0_0, .int .u64 a0_1, .int .i64 a0_2, .bool a0_3]) (t := 38) ?hr ?_; (case hd => rfl); (case hg => rfl); (case hr => first | (go_simp; done) | (go_simp; rfl)); intro gb101 hg w7 hbox hb; have n0_ := Aside0.mk (below_step bel_ hb); have n1_ := Aside0.mk (hbox); have n2_ := Aside0.mk ((gE_ hg : w.heap.size ≤ gb101)); have n3_ := Aside0.mk ((gE_ hg : w.heap.size ≤ gb101)); clear HB; have HB := n0_; have BK101 := n1_; have GW101 := n2_; have GE101 := n3_; clear n0_ n1_ n2_ n3_; clear hb hbox hg; obtain ⟨hcz8_0, hcz8_1, hcz8_2, hcz8_3, hfz8_0, hfz8_1, hfz8_2, hfz8_3⟩ := cz4_ BK101.out))
           go_ret
           exact fin_ bel_
         · rw [if_neg c6] at H
           have c6b0 : decide (0 ≤ a0_2) = false := decide_eq_false c6
           clear c6
           obtain rfl := Option.some.inj H
           go_enter Try.func24, Try.ntmps24
           go_wp2_with (first | ((with_reducible refine gate_dst (N := 1) rfl ?_); refine box_event ?hg (N := 1) ?hd (cs := #[.int .i64 a0_0, .int .u64 a0_1, .int .i64 a0_2, .bool a0_3]) (t := 38) ?hr ?_; (case hd => rfl); (case hg => rfl); (case hr => first | (go_simp; done) | (go_simp; rfl)); intro gb101 hg w9 hbox hb; have n0_ := Aside0.mk (below_step bel_ hb); have n1_ := Aside0.mk (hbox); have n2_ := Aside0.mk ((gE_ hg : w.heap.size ≤ gb101)); have n3_ := Aside0.mk ((gE_ hg : w.heap.size ≤ gb101)); clear HB; have HB := n0_; have BK101 := n1_; have GW101 := n2_; have GE101 := n3_; clear n0_ n1_ n2_ n3_; clear hb hbox hg; obtain ⟨hcz10_0, hcz10_1, hcz10_2, hcz10_3, hfz10_0, hfz10_1, hfz10_2, hfz10_3⟩ := cz4_ BK101.out))
           go_ret
           exact fin_ bel_
       · rw [if_neg c5] at H
         have c5b0 : decide (a0_1 ≤ 1099511627776) = false := decide_eq_false c5
         clear c5
         obtain rfl := Option.some.inj H
         go_enter Try.func24, Try.ntmps24
         go_wp2_with (first | ((with_reducible refine gate_dst (N := 1) rfl ?_); refine box_event ?hg (N := 1) ?hd (cs := #[.int .i64 a0_0, .int .u64 a0_1, .int .i64 a0_2, .bool a0_3]) (t := 38) ?hr ?_; (case hd => rfl); (case hg => rfl); (case hr => first | (go_simp; done) | (go_simp; rfl)); intro gb101 hg w11 hbox hb; have n0_ := Aside0.mk (below_step bel_ hb); have n1_ := Aside0.mk (hbox); have n2_ := Aside0.mk ((gE_ hg : w.heap.size ≤ gb101)); have n3_ := Aside0.mk ((gE_ hg : w.heap.size ≤ gb101)); clear HB; have HB := n0_; have BK101 := n1_; have GW101 := n2_; have GE101 := n3_; clear n0_ n1_ n2_ n3_; clear hb hbox hg; obtain ⟨hcz12_0, hcz12_1, hcz12_2, hcz12_3, hfz12_0, hfz12_1, hfz12_2, hfz12_3⟩ := cz4_ BK101.out))
         go_ret
         exact fin_ bel_
     · rw [if_neg c4] at H
       have c4b0 : decide (1 ≤ a0_1) = false := decide_eq_false c4
       clear c4
       obtain rfl := Option.some.inj H
       go_enter Try.func24, Try.ntmps24
       go_wp2_with (first | ((with_reducible refine gate_dst (N := 1) rfl ?_); refine box_event ?hg (N := 1) ?hd (cs := #[.int .i64 a0_0, .int .u64 a0_1, .int .i64 a0_2, .bool a0_3]) (t := 38) ?hr ?_; (case hd => rfl); (case hg => rfl); (case hr => first | (go_simp; done) | (go_simp; rfl)); intro gb101 hg w13 hbox hb; have n0_ := Aside0.mk (below_step bel_ hb); have n1_ := Aside0.mk (hbox); have n2_ := Aside0.mk ((gE_ hg : w.heap.size ≤ gb101)); have n3_ := Aside0.mk ((gE_ hg : w.heap.size ≤ gb101)); clear HB; have HB := n0_; have BK101 := n1_; have GW101 := n2_; have GE101 := n3_; clear n0_ n1_ n2_ n3_; clear hb hbox hg; obtain ⟨hcz14_0, hcz14_1, hcz14_2, hcz14_3, hfz14_0, hfz14_1, hfz14_2, hfz14_3⟩ := cz4_ BK101.out))
       go_ret
       exact fin_ bel_
   · rw [if_neg c3] at H
     have c3b0 : decide (a0_0 ≤ 1048576) = false := decide_eq_false c3
     clear c3
     obtain rfl := Option.some.inj H
     go_enter Try.func24, Try.ntmps24
     go_wp2_with (first | ((with_reducible refine gate_dst (N := 1) rfl ?_); refine box_event ?hg (N := 1) ?hd (cs := #[.int .i64 a0_0, .int .u64 a0_1, .int .i64 a0_2, .bool a0_3]) (t := 38) ?hr ?_; (case hd => rfl); (case hg => rfl); (case hr => first | (go_simp; done) | (go_simp; rfl)); intro gb101 hg w15 hbox hb; have n0_ := Aside0.mk (below_step bel_ hb); have n1_ := Aside0.mk (hbox); have n2_ := Aside0.mk ((gE_ hg : w.heap.size ≤ gb101)); have n3_ := Aside0.mk ((gE_ hg : w.heap.size ≤ gb101)); clear HB; have HB := n0_; have BK101 := n1_; have GW101 := n2_; have GE101 := n3_; clear n0_ n1_ n2_ n3_; clear hb hbox hg; obtain ⟨hcz16_0, hcz16_1, hcz16_2, hcz16_3, hfz16_0, hfz16_1, hfz16_2, hfz16_3⟩ := cz4_ BK101.out))
     go_ret
     exact fin_ bel_
 · rw [if_neg c2] at H
   have c2b0 : decide (0 ≤ a0_0) = false := decide_eq_false c2
   clear c2
   obtain rfl := Option.some.inj H
   go_enter Try.func24, Try.ntmps24
   go_wp2_with (first | ((with_reducible refine gate_dst (N := 1) rfl ?_); refine box_event ?hg (N := 1) ?hd (cs := #[.int .i64 a0_0, .int .u64 a0_1, .int .i64 a0_2, .bool a0_3]) (t := 38) ?hr ?_; (case hd => rfl); (case hg => rfl); (case hr => first | (go_simp; done) | (go_simp; rfl)); intro gb101 hg w17 hbox hb; have n0_ := Aside0.mk (below_step bel_ hb); have n1_ := Aside0.mk (hbox); have n2_ := Aside0.mk ((gE_ hg : w.heap.size ≤ gb101)); have n3_ := Aside0.mk ((gE_ hg : w.heap.size ≤ gb101)); clear HB; have HB := n0_; have BK101 := n1_; have GW101 := n2_; have GE101 := n3_; clear n0_ n1_ n2_ n3_; clear hb hbox hg; obtain ⟨hcz18_0, hcz18_1, hcz18_2, hcz18_3, hfz18_0, hfz18_1, hfz18_2, hfz18_3⟩ := cz4_ BK101.out))
   go_ret
   exact fin_ bel_
def order_Check.l0 : Nat → Int → List (S38) → Int → Int → Option (Int)
 | 0, _, _, _, _ => none
 | k + 1, x3, x9, x10, x11 => if x11 < x10 then (if 0 ≤ x11 then (if x11 < (x9.length : Int) then ((order_right.f ((rd_T38 x9 x11).f0) ((rd_T38 x9 x11).f1) ((rd_T38 x9 x11).f2) ((rd_T38 x9 x11).f3)).bind fun t104 => (if t104 = true then (if ((rd_T38 x9 x11).f0) ≤ x3 then (some 2) else (order_Check.l0 k ((rd_T38 x9 x11).f0) x9 x10 (wrap64 (x11 + 1)))) else (some 2))) else (none)) else (none)) else (some 0)
def order_Check.f (k : Nat) (l0 : List (S38)) : Option (Int) := if (l0.length : Int) > 64 then (some 2) else (order_Check.l0 k (-1) l0 (l0.length : Int) 0)
theorem order_Check.mono_l : ∀ k, (∀ y0 y1 y2 y3, LeO (order_Check.l0 k y0 y1 y2 y3) (order_Check.l0 (k + 1) y0 y1 y2 y3))
 | 0 => fun _ _ _ _ r h => by simp [order_Check.l0] at h
 | k + 1 => by
  have ih0 := order_Check.mono_l k
  · intro y0 y1 y2 y3
    unfold order_Check.l0
    repeat' first
    | (with_reducible exact ih0 _ _ _ _)
    | (with_reducible exact LeO.refl _)
    | (with_reducible exact LeO.none _)
    | (with_reducible refine LeO.ite ?_ ?_)
    | (with_reducible refine LeO.bind ?_ (fun _ => ?_))
    | exact ih0 _ _ _ _
    | exact LeO.none _
    | refine LeO.ite ?_ ?_
    | refine LeO.bind ?_ (fun _ => ?_)
theorem order_Check.mono : ∀ a0 k, LeO (order_Check.f k a0) (order_Check.f (k + 1) a0) := by
 intro a0 k
 have ih0 := order_Check.mono_l k
 unfold order_Check.f
 repeat' first
  | (with_reducible exact ih0 _ _ _ _)
  | (with_reducible exact LeO.refl _)
  | (with_reducible exact LeO.none _)
  | (with_reducible refine LeO.ite ?_ ?_)
  | (with_reducible refine LeO.bind ?_ (fun _ => ?_))
  | exact ih0 _ _ _ _
  | exact LeO.none _
  | refine LeO.ite ?_ ?_
  | refine LeO.bind ?_ (fun _ => ?_)
set_option maxHeartbeats 8000000 in
set_option maxRecDepth 100000 in
theorem order_Check.calls (k : Nat) (A0 : Option Addr) (c0 : Nat) (l0 : List (S38)) (r : Int) (w : World) (hr0 : Kd.C k38 w A0 l0.length l0) (hc0 : l0.length ≤ c0) (h : order_Check.f k l0 = some r) :
 Calls Try.prog 12 #[.slice A0 l0.length c0] w fun e w' => e = .returned (.int .i64 r) ∧ Below w.heap.size w w' := by
 have hu38 := Try.underlying38
 have HR0 := Aside0.mk hr0
 have HC0 := Aside0.mk hc0
 clear hr0 hc0
 have HB := Aside0.mk (Below.refl w.heap.size w)
 have H : (if (l0.length : Int) > 64 then (some 2) else (order_Check.l0 k (-1) l0 (l0.length : Int) 0)) = some r := h
 clear h
 by_cases c2 : (l0.length : Int) > 64
 · rw [if_pos c2] at H
   have c2b0 : decide (64 < (l0.length : Int)) = true := decide_eq_true c2
   have c2b1 : decide (64 < l0.length) = true := decide_eq_true (by omega)
   clear c2
   obtain rfl := Option.some.inj H
   go_enter Try.func12, Try.ntmps12
   go_wp2
   go_ret
   exact fin_ bel_
 · rw [if_neg c2] at H
   have c2b0 : decide (64 < (l0.length : Int)) = false := decide_eq_false c2
   try have c2bw : IntKind.u64.wrap (l0.length : Int) = (l0.length : Int) := by have q_ := of_decide_eq_false c2b0; rw [IntKind.wrap_u64]; omega
   have c2b1 : decide (64 < l0.length) = false := decide_eq_false (by omega)
   clear c2
   have H' := Aside0.mk H
   clear H
   go_enter Try.func12, Try.ntmps12
   go_wp2
   go_loopg [3, 11] k (fun kq v3 v11 w' => ∃ (x3_1 : Int) (x11_1 : Int), v3 = .int .i64 x3_1 ∧ v11 = .int .i64 x11_1 ∧ Aside0 (order_Check.l0 kq x3_1 l0 (l0.length : Int) x11_1 = some r) ∧ Aside0 (kq ≤ k) ∧ Aside0 (Below w.heap.size w w'))
   case atStart => exact ⟨((-1)), (0), st_, st_, H', ⟨Nat.le_refl _⟩, ⟨bel_⟩⟩
   case round =>
    clear H'; try clear c1; try clear c2; try clear c2b0; try clear c2b1; try clear p2
    obtain ⟨x3_1, x11_1, rfl, rfl, HA, HK1, HB⟩ := hrel
    cases gk with
    | zero => exact absurd HA.out (by simp [order_Check.l0])
    | succ k1 =>
     have H := HA.out
     clear HA
     simp only [order_Check.l0] at H
     by_cases c3 : x11_1 < (l0.length : Int)
     · rw [if_pos c3] at H
       have c3b0 : decide (x11_1 < (l0.length : Int)) = true := decide_eq_true c3
       clear c3
       by_cases c4 : 0 ≤ x11_1
       · rw [if_pos c4] at H
         have c4b0 : decide (0 ≤ x11_1) = true := decide_eq_true c4
         clear c4
         by_cases c5 : x11_1 < (l0.length : Int)
         · rw [if_pos c5] at H
           have c5b0 : decide (x11_1 < (l0.length : Int)) = true := decide_eq_true c5
           clear c5
           replace H := Option.bind_eq_some_iff.mp H
           obtain ⟨t104, A60, H⟩ := H
           replace H : (if t104 = true then (if ((rd_T38 l0 x11_1).f0) ≤ x3_1 then (some 2) else (order_Check.l0 k1 ((rd_T38 l0 x11_1).f0) l0 (l0.length : Int) (wrap64 (x11_1 + 1)))) else (some 2)) = some r := H
           have A6 := Aside0.mk A60
           clear A60
           by_cases c7 : t104 = true
           · subst c7
             have H1 : (if ((rd_T38 l0 x11_1).f0) ≤ x3_1 then (some 2) else (order_Check.l0 k1 ((rd_T38 l0 x11_1).f0) l0 (l0.length : Int) (wrap64 (x11_1 + 1)))) = some r := by rw [if_pos rfl] at H; exact H
             clear H
             have H := H1
             clear H1
             by_cases c8 : ((rd_T38 l0 x11_1).f0) ≤ x3_1
             · rw [if_pos c8] at H
               have c8b0 : decide (((rd_T38 l0 x11_1).f0) ≤ x3_1) = true := decide_eq_true c8
               clear c8
               obtain rfl := Option.some.inj H
               have p102 : 0 ≤ (x11_1 : Int) := of_decide_eq_true (by first | (with_reducible assumption) | assumption)
               have q102 : x11_1 < (l0.length : Int) := of_decide_eq_true (by first | (with_reducible assumption) | assumption)
               obtain ⟨ad102, e102, hx102_0, hx102_1, hx102_2, hx102_3⟩ := at_T38 HR0.out x11_1 p102 q102
               cases e102
               replace hx102_0 := (HB.out.cell (World.block_lt_of_cell? w _ hx102_0)).trans hx102_0
               replace hx102_1 := (HB.out.cell (World.block_lt_of_cell? w _ hx102_1)).trans hx102_1
               replace hx102_2 := (HB.out.cell (World.block_lt_of_cell? w _ hx102_2)).trans hx102_2
               replace hx102_3 := (HB.out.cell (World.block_lt_of_cell? w _ hx102_3)).trans hx102_3
               replace p102 := eq_true p102
               replace q102 := eq_true q102
               go_wp2_with (first | ((with_reducible refine gate_dst (N := 5) rfl ?_); refine box_event ?hg (N := 5) ?hd (cs := #[.int .i64 0, .int .u64 0, .int .i64 0, .bool false]) (t := 38) ?hr ?_; (case hd => rfl); (case hg => rfl); (case hr => first | (go_simp; done) | (go_simp; rfl)); intro gb103 hg w9 hbox hb; have n0_ := Aside0.mk (below_step bel_ hb); have n1_ := Aside0.mk (hbox); have n2_ := Aside0.mk ((gE_ hg : w.heap.size ≤ gb103)); have n3_ := Aside0.mk ((gE_ hg : w.heap.size ≤ gb103)); clear HB; have HB := n0_; have BK103 := n1_; have GW103 := n2_; have GE103 := n3_; clear n0_ n1_ n2_ n3_; clear hb hbox hg; obtain ⟨hcz10_0, hcz10_1, hcz10_2, hcz10_3, hfz10_0, hfz10_1, hfz10_2, hfz10_3⟩ := cz4_ BK103.out) | ((with_reducible refine gate_callee (f := 24) rfl ?_); refine goesL_ (some 16) rfl rfl Try.func24 (by kernel_rfl) rfl #[.agg #[.int .i64 ((rd_T38 l0 x11_1).f0), .int .u64 ((rd_T38 l0 x11_1).f1), .int .i64 ((rd_T38 l0 x11_1).f2), .bool ((rd_T38 l0 x11_1).f3)]] rfl args_ ?_; (with_reducible refine (order_right.calls ((rd_T38 l0 x11_1).f0) ((rd_T38 l0 x11_1).f1) ((rd_T38 l0 x11_1).f2) ((rd_T38 l0 x11_1).f3) true _ A6.out).mono ?_); rintro e w11 ⟨rfl, hb⟩; refine ⟨_, rfl, ?_⟩; have n0_ := Aside0.mk (blk_below (g := gb103) (o := .cells #[.int .i64 ((rd_T38 l0 x11_1).f0), .int .u64 ((rd_T38 l0 x11_1).f1), .int .i64 ((rd_T38 l0 x11_1).f2), .bool ((rd_T38 l0 x11_1).f3)] 38 (0, 0)) (by refine blkU ?_; refine blk_put (cs := #[.int .i64 ((rd_T38 l0 x11_1).f0), .int .u64 ((rd_T38 l0 x11_1).f1), .int .i64 ((rd_T38 l0 x11_1).f2), .bool false]) ?_ 3 _ rfl; refine blkU ?_; refine blk_put (cs := #[.int .i64 ((rd_T38 l0 x11_1).f0), .int .u64 ((rd_T38 l0 x11_1).f1), .int .i64 0, .bool false]) ?_ 2 _ rfl; refine blkU ?_; refine blk_put (cs := #[.int .i64 ((rd_T38 l0 x11_1).f0), .int .u64 0, .int .i64 0, .bool false]) ?_ 1 _ rfl; refine blkU ?_; refine blk_put (cs := #[.int .i64 0, .int .u64 0, .int .i64 0, .bool false]) ?_ 0 _ rfl; refine blkU ?_; exact BK103.out) hb); have n1_ := Aside0.mk (below_step bel_ hb); clear BK103; clear HB; have BK103 := n0_; have HB := n1_; clear n0_ n1_; (try clear hb); (try clear hb2); (try clear hk); (try clear hi); obtain ⟨hcz12_0, hcz12_1, hcz12_2, hcz12_3, hfz12_0, hfz12_1, hfz12_2, hfz12_3⟩ := cz4_ BK103.out))
               go_ret
               exact fin_ bel_
             · rw [if_neg c8] at H
               have c8b0 : decide (((rd_T38 l0 x11_1).f0) ≤ x3_1) = false := decide_eq_false c8
               clear c8
               have H' := Aside0.mk H
               clear H
               have p102 : 0 ≤ (x11_1 : Int) := of_decide_eq_true (by first | (with_reducible assumption) | assumption)
               have q102 : x11_1 < (l0.length : Int) := of_decide_eq_true (by first | (with_reducible assumption) | assumption)
               obtain ⟨ad102, e102, hx102_0, hx102_1, hx102_2, hx102_3⟩ := at_T38 HR0.out x11_1 p102 q102
               cases e102
               replace hx102_0 := (HB.out.cell (World.block_lt_of_cell? w _ hx102_0)).trans hx102_0
               replace hx102_1 := (HB.out.cell (World.block_lt_of_cell? w _ hx102_1)).trans hx102_1
               replace hx102_2 := (HB.out.cell (World.block_lt_of_cell? w _ hx102_2)).trans hx102_2
               replace hx102_3 := (HB.out.cell (World.block_lt_of_cell? w _ hx102_3)).trans hx102_3
               replace p102 := eq_true p102
               replace q102 := eq_true q102
               go_wp2_with (first | ((with_reducible refine gate_dst (N := 5) rfl ?_); refine box_event ?hg (N := 5) ?hd (cs := #[.int .i64 0, .int .u64 0, .int .i64 0, .bool false]) (t := 38) ?hr ?_; (case hd => rfl); (case hg => rfl); (case hr => first | (go_simp; done) | (go_simp; rfl)); intro gb103 hg w13 hbox hb; have n0_ := Aside0.mk (below_step bel_ hb); have n1_ := Aside0.mk (hbox); have n2_ := Aside0.mk ((gE_ hg : w.heap.size ≤ gb103)); have n3_ := Aside0.mk ((gE_ hg : w.heap.size ≤ gb103)); clear HB; have HB := n0_; have BK103 := n1_; have GW103 := n2_; have GE103 := n3_; clear n0_ n1_ n2_ n3_; clear hb hbox hg; obtain ⟨hcz14_0, hcz14_1, hcz14_2, hcz14_3, hfz14_0, hfz14_1, hfz14_2, hfz14_3⟩ := cz4_ BK103.out) | ((with_reducible refine gate_callee (f := 24) rfl ?_); refine goesL_ (some 16) rfl rfl Try.func24 (by kernel_rfl) rfl #[.agg #[.int .i64 ((rd_T38 l0 x11_1).f0), .int .u64 ((rd_T38 l0 x11_1).f1), .int .i64 ((rd_T38 l0 x11_1).f2), .bool ((rd_T38 l0 x11_1).f3)]] rfl args_ ?_; (with_reducible refine (order_right.calls ((rd_T38 l0 x11_1).f0) ((rd_T38 l0 x11_1).f1) ((rd_T38 l0 x11_1).f2) ((rd_T38 l0 x11_1).f3) true _ A6.out).mono ?_); rintro e w15 ⟨rfl, hb⟩; refine ⟨_, rfl, ?_⟩; have n0_ := Aside0.mk (blk_below (g := gb103) (o := .cells #[.int .i64 ((rd_T38 l0 x11_1).f0), .int .u64 ((rd_T38 l0 x11_1).f1), .int .i64 ((rd_T38 l0 x11_1).f2), .bool ((rd_T38 l0 x11_1).f3)] 38 (0, 0)) (by refine blkU ?_; refine blk_put (cs := #[.int .i64 ((rd_T38 l0 x11_1).f0), .int .u64 ((rd_T38 l0 x11_1).f1), .int .i64 ((rd_T38 l0 x11_1).f2), .bool false]) ?_ 3 _ rfl; refine blkU ?_; refine blk_put (cs := #[.int .i64 ((rd_T38 l0 x11_1).f0), .int .u64 ((rd_T38 l0 x11_1).f1), .int .i64 0, .bool false]) ?_ 2 _ rfl; refine blkU ?_; refine blk_put (cs := #[.int .i64 ((rd_T38 l0 x11_1).f0), .int .u64 0, .int .i64 0, .bool false]) ?_ 1 _ rfl; refine blkU ?_; refine blk_put (cs := #[.int .i64 0, .int .u64 0, .int .i64 0, .bool false]) ?_ 0 _ rfl; refine blkU ?_; exact BK103.out) hb); have n1_ := Aside0.mk (below_step bel_ hb); clear BK103; clear HB; have BK103 := n0_; have HB := n1_; clear n0_ n1_; (try clear hb); (try clear hb2); (try clear hk); (try clear hi); obtain ⟨hcz16_0, hcz16_1, hcz16_2, hcz16_3, hfz16_0, hfz16_1, hfz16_2, hfz16_3⟩ := cz4_ BK103.out))
               go_roundg k1
               case measure => have := HK1.out; omega
               case rel => exact ⟨((rd_T38 l0 x11_1).f0), (wrap64 (x11_1 + 1)), st_, st_, H', ⟨by have := HK1.out; omega⟩, ⟨bel_⟩⟩
           · replace c7 := Bool.eq_false_iff.mpr c7
             subst c7
             have H1 : (some 2) = some r := by rw [if_neg (show ¬ (false = true) by decide)] at H; exact H
             clear H
             have H := H1
             clear H1
             obtain rfl := Option.some.inj H
             have p102 : 0 ≤ (x11_1 : Int) := of_decide_eq_true (by first | (with_reducible assumption) | assumption)
             have q102 : x11_1 < (l0.length : Int) := of_decide_eq_true (by first | (with_reducible assumption) | assumption)
             obtain ⟨ad102, e102, hx102_0, hx102_1, hx102_2, hx102_3⟩ := at_T38 HR0.out x11_1 p102 q102
             cases e102
             replace hx102_0 := (HB.out.cell (World.block_lt_of_cell? w _ hx102_0)).trans hx102_0
             replace hx102_1 := (HB.out.cell (World.block_lt_of_cell? w _ hx102_1)).trans hx102_1
             replace hx102_2 := (HB.out.cell (World.block_lt_of_cell? w _ hx102_2)).trans hx102_2
             replace hx102_3 := (HB.out.cell (World.block_lt_of_cell? w _ hx102_3)).trans hx102_3
             replace p102 := eq_true p102
             replace q102 := eq_true q102
             go_wp2_with (first | ((with_reducible refine gate_dst (N := 5) rfl ?_); refine box_event ?hg (N := 5) ?hd (cs := #[.int .i64 0, .int .u64 0, .int .i64 0, .bool false]) (t := 38) ?hr ?_; (case hd => rfl); (case hg => rfl); (case hr => first | (go_simp; done) | (go_simp; rfl)); intro gb103 hg w17 hbox hb; have n0_ := Aside0.mk (below_step bel_ hb); have n1_ := Aside0.mk (hbox); have n2_ := Aside0.mk ((gE_ hg : w.heap.size ≤ gb103)); have n3_ := Aside0.mk ((gE_ hg : w.heap.size ≤ gb103)); clear HB; have HB := n0_; have BK103 := n1_; have GW103 := n2_; have GE103 := n3_; clear n0_ n1_ n2_ n3_; clear hb hbox hg; obtain ⟨hcz18_0, hcz18_1, hcz18_2, hcz18_3, hfz18_0, hfz18_1, hfz18_2, hfz18_3⟩ := cz4_ BK103.out) | ((with_reducible refine gate_callee (f := 24) rfl ?_); refine goesL_ (some 16) rfl rfl Try.func24 (by kernel_rfl) rfl #[.agg #[.int .i64 ((rd_T38 l0 x11_1).f0), .int .u64 ((rd_T38 l0 x11_1).f1), .int .i64 ((rd_T38 l0 x11_1).f2), .bool ((rd_T38 l0 x11_1).f3)]] rfl args_ ?_; (with_reducible refine (order_right.calls ((rd_T38 l0 x11_1).f0) ((rd_T38 l0 x11_1).f1) ((rd_T38 l0 x11_1).f2) ((rd_T38 l0 x11_1).f3) false _ A6.out).mono ?_); rintro e w19 ⟨rfl, hb⟩; refine ⟨_, rfl, ?_⟩; have n0_ := Aside0.mk (blk_below (g := gb103) (o := .cells #[.int .i64 ((rd_T38 l0 x11_1).f0), .int .u64 ((rd_T38 l0 x11_1).f1), .int .i64 ((rd_T38 l0 x11_1).f2), .bool ((rd_T38 l0 x11_1).f3)] 38 (0, 0)) (by refine blkU ?_; refine blk_put (cs := #[.int .i64 ((rd_T38 l0 x11_1).f0), .int .u64 ((rd_T38 l0 x11_1).f1), .int .i64 ((rd_T38 l0 x11_1).f2), .bool false]) ?_ 3 _ rfl; refine blkU ?_; refine blk_put (cs := #[.int .i64 ((rd_T38 l0 x11_1).f0), .int .u64 ((rd_T38 l0 x11_1).f1), .int .i64 0, .bool false]) ?_ 2 _ rfl; refine blkU ?_; refine blk_put (cs := #[.int .i64 ((rd_T38 l0 x11_1).f0), .int .u64 0, .int .i64 0, .bool false]) ?_ 1 _ rfl; refine blkU ?_; refine blk_put (cs := #[.int .i64 0, .int .u64 0, .int .i64 0, .bool false]) ?_ 0 _ rfl; refine blkU ?_; exact BK103.out) hb); have n1_ := Aside0.mk (below_step bel_ hb); clear BK103; clear HB; have BK103 := n0_; have HB := n1_; clear n0_ n1_; (try clear hb); (try clear hb2); (try clear hk); (try clear hi)))
             go_ret
             exact fin_ bel_
         · rw [if_neg c5] at H
           exact absurd H (by simp)
       · rw [if_neg c4] at H
         exact absurd H (by simp)
     · rw [if_neg c3] at H
       have c3b0 : decide (x11_1 < (l0.length : Int)) = false := decide_eq_false c3
       clear c3
       obtain rfl := Option.some.inj H
       go_wp2
       go_ret
       exact fin_ bel_
def order_asked.j0 : Nat → Int → Bool → Option (Int)
 | 0, _, _ => none
 | k + 1, x2, x7 => if x7 = true then (some 2) else (if x2 < (-1) then (some 1) else (if x2 > 1099511627776 then (some 1) else (some 0)))
def order_asked.f (k : Nat) (l0 : List (S38)) (a1_0 : Int) (a1_1 : Int) (a1_2 : Int) (a1_3 : Int) (a1_4 : Bool) (a1_5 : Int) (a1_6 : Int) (a1_7 : Int) (a1_8 : Int) (a1_9 : Int) (a1_10 : Int) (a1_11 : Int) (a2 : Int) : Option (Int) := (order_Check.f k l0).bind fun t139 => (if t139 = 0 then ((msg_Check.f k a1_0 a1_1 a1_2 a1_3 a1_4 a1_5 a1_6 a1_7 a1_8 a1_9 a1_10 a1_11).bind fun t140 => (order_asked.j0 k a2 (t140 != 0))) else (order_asked.j0 k a2 true))
theorem order_asked.mono_l : ∀ k, (∀ y0 y1, LeO (order_asked.j0 k y0 y1) (order_asked.j0 (k + 1) y0 y1))
 | 0 => fun _ _ r h => by simp [order_asked.j0] at h
 | k + 1 => by
  have ih0 := order_asked.mono_l k
  · intro y0 y1
    unfold order_asked.j0
    repeat' first
    | (with_reducible exact ih0 _ _)
    | (with_reducible exact msg_Check.mono _ _ _ _ _ _ _ _ _ _ _ _ _)
    | (with_reducible exact order_Check.mono _ _)
    | (with_reducible exact LeO.refl _)
    | (with_reducible exact LeO.none _)
    | (with_reducible refine LeO.ite ?_ ?_)
    | (with_reducible refine LeO.bind ?_ (fun _ => ?_))
    | exact ih0 _ _
    | exact msg_Check.mono _ _ _ _ _ _ _ _ _ _ _ _ _
    | exact order_Check.mono _ _
    | exact LeO.none _
    | refine LeO.ite ?_ ?_
    | refine LeO.bind ?_ (fun _ => ?_)
theorem order_asked.mono : ∀ a0 a1 a2 a3 a4 a5 a6 a7 a8 a9 a10 a11 a12 a13 k, LeO (order_asked.f k a0 a1 a2 a3 a4 a5 a6 a7 a8 a9 a10 a11 a12 a13) (order_asked.f (k + 1) a0 a1 a2 a3 a4 a5 a6 a7 a8 a9 a10 a11 a12 a13) := by
 intro a0 a1 a2 a3 a4 a5 a6 a7 a8 a9 a10 a11 a12 a13 k
 have ih0 := order_asked.mono_l k
 unfold order_asked.f
 repeat' first
  | (with_reducible exact ih0 _ _)
  | (with_reducible exact msg_Check.mono _ _ _ _ _ _ _ _ _ _ _ _ _)
  | (with_reducible exact order_Check.mono _ _)
  | (with_reducible exact LeO.refl _)
  | (with_reducible exact LeO.none _)
  | (with_reducible refine LeO.ite ?_ ?_)
  | (with_reducible refine LeO.bind ?_ (fun _ => ?_))
  | exact ih0 _ _
  | exact msg_Check.mono _ _ _ _ _ _ _ _ _ _ _ _ _
  | exact order_Check.mono _ _
  | exact LeO.none _
  | refine LeO.ite ?_ ?_
  | refine LeO.bind ?_ (fun _ => ?_)
set_option maxHeartbeats 8000000 in
set_option maxRecDepth 100000 in
theorem order_asked.calls (k : Nat) (A0 : Option Addr) (c0 : Nat) (l0 : List (S38)) (a1_0 : Int) (a1_1 : Int) (a1_2 : Int) (a1_3 : Int) (a1_4 : Bool) (a1_5 : Int) (a1_6 : Int) (a1_7 : Int) (a1_8 : Int) (a1_9 : Int) (a1_10 : Int) (a1_11 : Int) (a2 : Int) (r : Int) (w : World) (hr0 : Kd.C k38 w A0 l0.length l0) (hc0 : l0.length ≤ c0) (h : order_asked.f k l0 a1_0 a1_1 a1_2 a1_3 a1_4 a1_5 a1_6 a1_7 a1_8 a1_9 a1_10 a1_11 a2 = some r) :
 Calls Try.prog 18 #[.slice A0 l0.length c0, .agg #[.int .u8 a1_0, .int .i64 a1_1, .int .u64 a1_2, .int .i64 a1_3, .bool a1_4, .int .u64 a1_5, .int .u64 a1_6, .int .i64 a1_7, .int .u8 a1_8, .int .i64 a1_9, .int .i64 a1_10, .int .i64 a1_11], .int .i64 a2] w fun e w' => e = .returned (.int .i64 r) ∧ Below w.heap.size w w' := by
 have hu33 := Try.underlying33
 have HR0 := Aside0.mk hr0
 have HC0 := Aside0.mk hc0
 clear hr0 hc0
 have HB := Aside0.mk (Below.refl w.heap.size w)
 have H : ((order_Check.f k l0).bind fun t139 => (if t139 = 0 then ((msg_Check.f k a1_0 a1_1 a1_2 a1_3 a1_4 a1_5 a1_6 a1_7 a1_8 a1_9 a1_10 a1_11).bind fun t140 => (order_asked.j0 k a2 (t140 != 0))) else (order_asked.j0 k a2 true))) = some r := h
 clear h
 have HC4 := Aside0.mk H
 clear H
 go_enter Try.func18, Try.ntmps18
 go_upto_region 1 with (first | ((with_reducible refine gate_dst (N := 4) rfl ?_); refine box_event ?hg (N := 4) ?hd (cs := #[.int .u8 a1_0, .int .i64 a1_1, .int .u64 a1_2, .int .i64 a1_3, .bool a1_4, .int .u64 a1_5, .int .u64 a1_6, .int .i64 a1_7, .int .u8 a1_8, .int .i64 a1_9, .int .i64 a1_10, .int .i64 a1_11]) (t := 33) ?hr ?_; (case hd => rfl); (case hg => rfl); (case hr => first | (go_simp; done) | (go_simp; rfl)); intro gb138 hg w5 hbox hb; have n0_ := Aside0.mk (below_step bel_ hb); have n1_ := Aside0.mk (hbox); have n2_ := Aside0.mk ((gE_ hg : w.heap.size ≤ gb138)); have n3_ := Aside0.mk ((gE_ hg : w.heap.size ≤ gb138)); clear HB; have HB := n0_; have BK138 := n1_; have GW138 := n2_; have GE138 := n3_; clear n0_ n1_ n2_ n3_; clear hb hbox hg))
 (try simp only [Act.put, List.setIfInBounds_toArray, List.set_cons_zero, List.set_cons_succ])
 go_cut [7] (fun v7 wc => ∃ (kq : Nat) (x7_3 : Bool), v7 = .bool x7_3 ∧ Aside0 (order_asked.j0 kq a2 x7_3 = some r) ∧ Aside0 (kq ≤ k) ∧ Aside0 (wc.heap[gb138]? = some (.cells #[.int .u8 a1_0, .int .i64 a1_1, .int .u64 a1_2, .int .i64 a1_3, .bool a1_4, .int .u64 a1_5, .int .u64 a1_6, .int .i64 a1_7, .int .u8 a1_8, .int .i64 a1_9, .int .i64 a1_10, .int .i64 a1_11] 33 (0, 0))) ∧ Aside0 (Below w.heap.size w wc))
 case first =>
  have H := HC4.out
  clear HC4
  replace H := Option.bind_eq_some_iff.mp H
  obtain ⟨t139, A60, H⟩ := H
  replace H : (if t139 = 0 then ((msg_Check.f k a1_0 a1_1 a1_2 a1_3 a1_4 a1_5 a1_6 a1_7 a1_8 a1_9 a1_10 a1_11).bind fun t140 => (order_asked.j0 k a2 (t140 != 0))) else (order_asked.j0 k a2 true)) = some r := H
  have A6 := Aside0.mk A60
  clear A60
  by_cases c7 : t139 = 0
  · rw [if_pos c7] at H
    have c7b0 : (t139 == 0) = true := beq_iff_eq.mpr c7
    have c7b1 : (t139 != 0) = false := bne_eq_false_iff_eq.mpr c7
    clear c7
    (first | rw [c7b0] | (simp only [i64_w, i32_w]; rw [c7b0]) | skip)
    replace H := Option.bind_eq_some_iff.mp H
    obtain ⟨t140, A80, H⟩ := H
    replace H : (order_asked.j0 k a2 (t140 != 0)) = some r := H
    have A8 := Aside0.mk A80
    clear A80
    have H' := Aside0.mk H
    clear H
    go_wp2_with (first | ((with_reducible refine gate_callee (f := 12) rfl ?_); refine goesL_ (some 9) rfl rfl Try.func12 (by kernel_rfl) rfl #[.slice A0 l0.length c0] rfl args_ ?_; (with_reducible refine (order_Check.calls k _ _ l0 t139 _ ?side1 ?side2 A6.out).mono ?_); (case side1 => exact CU (Kd.C_below HR0.out HB.out)); (case side2 => exact HC0.out); rintro e w9 ⟨rfl, hb⟩; refine ⟨_, rfl, ?_⟩; have n0_ := Aside0.mk (blk_below (blkU BK138.out) hb); have n1_ := Aside0.mk (below_step bel_ hb); clear BK138; clear HB; have BK138 := n0_; have HB := n1_; clear n0_ n1_; (try clear hb); (try clear hb2); (try clear hk); (try clear hi); obtain ⟨hcz10_0, hcz10_1, hcz10_2, hcz10_3, hcz10_4, hcz10_5, hcz10_6, hcz10_7, hcz10_8, hcz10_9, hcz10_10, hcz10_11, hfz10_0, hfz10_1, hfz10_2, hfz10_3, hfz10_4, hfz10_5, hfz10_6, hfz10_7, hfz10_8, hfz10_9, hfz10_10, hfz10_11⟩ := cz12_ BK138.out) | (go_at_call 26; (with_reducible refine (msg_Check.calls k a1_0 a1_1 a1_2 a1_3 a1_4 a1_5 a1_6 a1_7 a1_8 a1_9 a1_10 a1_11 t140 _ A8.out).mono ?_); rintro e w11 ⟨rfl, hb⟩; have n0_ := Aside0.mk (blk_below (blkU BK138.out) hb); have n1_ := Aside0.mk (below_step bel_ hb); clear BK138; clear HB; have BK138 := n0_; have HB := n1_; clear n0_ n1_; (try clear hb); (try clear hb2); (try clear hk); (try clear hi)))
    go_meet
    case rel => exact ⟨_, ((t140 != 0)), st_, H', ⟨by first | omega | exact Nat.le_refl _⟩, ⟨by refine blkU ?_; exact BK138.out⟩, ⟨bel_⟩⟩
  · rw [if_neg c7] at H
    have c7b0 : (t139 == 0) = false := beq_eq_false_iff_ne.mpr c7
    have c7b1 : (t139 != 0) = true := bne_iff_ne.mpr c7
    (first | rw [c7b0] | (simp only [i64_w, i32_w]; rw [c7b0]) | skip)
    have H' := Aside0.mk H
    clear H
    go_wp2_with (first | ((with_reducible refine gate_callee (f := 12) rfl ?_); refine goesL_ (some 9) rfl rfl Try.func12 (by kernel_rfl) rfl #[.slice A0 l0.length c0] rfl args_ ?_; (with_reducible refine (order_Check.calls k _ _ l0 t139 _ ?side1 ?side2 A6.out).mono ?_); (case side1 => exact CU (Kd.C_below HR0.out HB.out)); (case side2 => exact HC0.out); rintro e w12 ⟨rfl, hb⟩; refine ⟨_, rfl, ?_⟩; have n0_ := Aside0.mk (blk_below (blkU BK138.out) hb); have n1_ := Aside0.mk (below_step bel_ hb); clear BK138; clear HB; have BK138 := n0_; have HB := n1_; clear n0_ n1_; (try clear hb); (try clear hb2); (try clear hk); (try clear hi)))
    go_meet
    case rel => exact ⟨_, (true), st_, H', ⟨by first | omega | exact Nat.le_refl _⟩, ⟨by refine blkU ?_; exact BK138.out⟩, ⟨bel_⟩⟩
 case rest =>
  clear HC4; try clear c1; try clear p2; try clear c7; try clear c7b0; try clear c7b1; try clear c12; try clear hcz10_0; try clear hcz10_1; try clear hcz10_10; try clear hcz10_11; try clear hcz10_2; try clear hcz10_3; try clear hcz10_4; try clear hcz10_5; try clear hcz10_6; try clear hcz10_7; try clear hcz10_8; try clear hcz10_9; try clear hfz10_0; try clear hfz10_1; try clear hfz10_10; try clear hfz10_11; try clear hfz10_2; try clear hfz10_3; try clear hfz10_4; try clear hfz10_5; try clear hfz10_6; try clear hfz10_7; try clear hfz10_8; try clear hfz10_9
  obtain ⟨kq, x7_3, rfl, HA, HJ3, BK138, HB⟩ := hcut
  cases kq with
  | zero => exact absurd HA.out (by simp [order_asked.j0])
  | succ kj3 =>
   have H := HA.out
   clear HA
   simp only [order_asked.j0] at H
   by_cases c13 : x7_3 = true
   · subst c13
     have H1 : (some 2) = some r := by rw [if_pos rfl] at H; exact H
     clear H
     have H := H1
     clear H1
     obtain rfl := Option.some.inj H
     go_wp2
     go_ret
     exact fin_ bel_
   · replace c13 := Bool.eq_false_iff.mpr c13
     subst c13
     have H1 : (if a2 < (-1) then (some 1) else (if a2 > 1099511627776 then (some 1) else (some 0))) = some r := by rw [if_neg (show ¬ (false = true) by decide)] at H; exact H
     clear H
     have H := H1
     clear H1
     by_cases c14 : a2 < (-1)
     · rw [if_pos c14] at H
       have c14b0 : decide (a2 < (-1)) = true := decide_eq_true c14
       clear c14
       obtain rfl := Option.some.inj H
       go_wp2
       go_ret
       exact fin_ bel_
     · rw [if_neg c14] at H
       have c14b0 : decide (a2 < (-1)) = false := decide_eq_false c14
       clear c14
       by_cases c15 : a2 > 1099511627776
       · rw [if_pos c15] at H
         have c15b0 : decide (1099511627776 < a2) = true := decide_eq_true c15
         clear c15
         obtain rfl := Option.some.inj H
         go_wp2
         go_ret
         exact fin_ bel_
       · rw [if_neg c15] at H
         have c15b0 : decide (1099511627776 < a2) = false := decide_eq_false c15
         clear c15
         obtain rfl := Option.some.inj H
         go_wp2
         go_ret
         exact fin_ bel_
section
def idxF {α : Type} (p : α → Bool) (l : List α) : Int := match l.findIdx? p with | some i => (i : Int) | none => -1
theorem idxF_hit {α : Type} (p : α → Bool) (l : List α) (i : Nat) (hi : i < l.length) (hp : p l[i] = true) (hb : ∀ j, (h : j < l.length) → j < i → p l[j] = false) : idxF p l = i := by
 unfold idxF
 have : l.findIdx? p = some i := by
  rw [List.findIdx?_eq_some_iff_getElem]
  exact ⟨hi, hp, fun j hj => by rw [hb j (by omega) hj]; simp⟩
 rw [this]
theorem idxF_miss {α : Type} (p : α → Bool) (l : List α) (hb : ∀ j, (h : j < l.length) → p l[j] = false) : idxF p l = -1 := by
 unfold idxF
 have : l.findIdx? p = none := by
  rw [List.findIdx?_eq_none_iff]
  intro x hx
  obtain ⟨j, hj, rfl⟩ := List.getElem_of_mem hx
  exact hb j hj
 rw [this]
theorem idxF_cases {α : Type} (p : α → Bool) (l : List α) : (idxF p l = -1 ∧ l.find? p = none) ∨ ∃ (i : Nat) (h : i < l.length), idxF p l = i ∧ l.find? p = some l[i] := by
 unfold idxF
 cases h : l.findIdx? p with
 | none =>
  refine .inl ⟨rfl, ?_⟩
  rw [List.find?_eq_none]
  intro x hx
  rw [List.findIdx?_eq_none_iff] at h
  rw [h x hx]
  simp
 | some i =>
  obtain ⟨hi, hp, hb⟩ := List.findIdx?_eq_some_iff_getElem.mp h
  refine .inr ⟨i, hi, rfl, ?_⟩
  rw [List.find?_eq_some_iff_getElem]
  exact ⟨hp, i, hi, rfl, fun j hj => by simpa using hb j hj⟩
theorem rdT_at (l : List S38) (i : Nat) (h : i < l.length) : rd_T38 l (i : Int) = l[i] := by
 unfold rd_T38
 rw [Int.toNat_natCast, List.getD_eq_getElem?_getD, List.getElem?_eq_getElem h]
 rfl
set_option maxHeartbeats 4000000 in
theorem IndexFunc_Seat (A0 : Option Addr) (c0 : Nat) (l0 : List S38) (p : S38 → Bool) (g : Nat) (lb : Array Value) (eg : ∀ args w, (callFunc g args).run Try.prog w = .ok (.enter g args) w) (w0 w : World) (hw : Below w0.heap.size w0 w)
 (hp : ∀ (W : World) x, Below w.heap.size w W → Calls Try.prog g (#[.agg #[.int .i64 x.f0, .int .u64 x.f1, .int .i64 x.f2, .bool x.f3]] ++ lb) W fun e w' => e = .returned (.bool (p x)) ∧ Below W.heap.size W w')
 (hr : Kd.C k38 w A0 l0.length l0) (hn : l0.length ≤ 9223372036854775806) :
 Calls Try.prog 22 #[.slice A0 l0.length c0, .func (.func g) #[] lb] w fun e w' => e = .returned (.int .i64 (idxF p l0)) ∧ Below w.heap.size w w' := by
 have HR := Aside0.mk hr
 have HP := Aside0.mk hp
 clear hr hp
 go_enter Try.func22, Try.ntmps22
 go_wp2
 go_loopg [5, 8] l0.length (fun gg _ s8 wr => ∃ kk : Nat, kk ≤ l0.length ∧ l0.length - kk ≤ gg ∧ s8 = .int .i64 kk ∧ Aside0 (Below w.heap.size w wr) ∧ Aside0 (∀ j, (h : j < l0.length) → j < kk → p l0[j] = false))
 case atStart => exact ⟨0, Nat.zero_le _, by omega, rfl, ⟨Below.refl _ w⟩, ⟨fun j _ hj => absurd hj (Nat.not_lt_zero _)⟩⟩
 case round =>
  obtain ⟨kk, hkk, hg, rfl, BW, A⟩ := hrel
  by_cases hlt : kk < l0.length
  · have hltz : (kk : Int) < (l0.length : Int) := by omega
    obtain ⟨ad, rfl, hx, hx1, hx2, hx3⟩ := at_T38 (Kd.C_below HR.out BW.out) (kk : Int) (by omega) (by omega)
    have hcall := HP.out wr l0[kk] BW.out
    have hrd : rd_T38 l0 (kk : Int) = l0[kk] := rdT_at l0 kk hlt
    rw [hrd, Int.toNat_natCast] at hx hx1 hx2 hx3
    generalize hy : l0[kk] = y at hx hx1 hx2 hx3 hcall
    have Y := Aside0.mk hy
    clear hy
    cases hq : p y with
    | true =>
     rw [hq] at hcall
     go_wp2_with (go_at_fn g; refine hcall.mono ?_; rintro e w' ⟨rfl, hb'⟩)
     go_ret
     refine ⟨?_, below_step BW.out hb'⟩
     rw [idxF_hit p l0 kk hlt (by rw [Y.out]; exact hq) (fun j h hj => A.out j h hj)]
     rfl
    | false =>
     rw [hq] at hcall
     go_wp2_with (go_at_fn g; refine hcall.mono ?_; rintro e w' ⟨rfl, hb'⟩)
     go_roundg (l0.length - (kk + 1))
     case measure => omega
     case rel =>
      refine ⟨kk + 1, by omega, by omega, by go_num, ⟨below_step BW.out hb'⟩, ⟨fun j h hj => ?_⟩⟩
      by_cases e : j = kk
      · subst e
        rw [Y.out]; exact hq
      · exact A.out j h (by omega)
  · have hltz : ¬ (kk : Int) < (l0.length : Int) := by omega
    obtain rfl : kk = l0.length := by omega
    go_wp2
    go_ret
    refine ⟨?_, BW.out⟩
    rw [idxF_miss p l0 (fun j h => A.out j h h)]
    rfl
theorem c4_ {W : World} {gb t : Nat} {a b c d : Value} (hb : W.heap[gb]? = some (.cells #[a, b, c, d] t (0, 0))) : W.cell? ⟨gb, 0, none⟩ = some a ∧ W.cell? ⟨gb, 1, none⟩ = some b ∧ W.cell? ⟨gb, 2, none⟩ = some c ∧ W.cell? ⟨gb, 3, none⟩ = some d := ⟨(blk_cell hb 0).trans rfl, (blk_cell hb 1).trans rfl, (blk_cell hb 2).trans rfl, (blk_cell hb 3).trans rfl⟩
theorem f4_ {W : World} {gb t : Nat} {a b c d : Value} (hb : W.heap[gb]? = some (.cells #[a, b, c, d] t (0, 0))) : W.frozen? ⟨gb, 0, none⟩ = false ∧ W.frozen? ⟨gb, 1, none⟩ = false ∧ W.frozen? ⟨gb, 2, none⟩ = false ∧ W.frozen? ⟨gb, 3, none⟩ = false := ⟨blk_frozen hb 0, blk_frozen hb 1, blk_frozen hb 2, blk_frozen hb 3⟩
theorem four_puts {W : World} {gr t : Nat} {a b c d : Value} (h : W.heap[gr]? = some (.cells #[a, b, c, d] t (0, 0))) (a' b' c' d' : Value) : ((((W.setCell ⟨gr, 0, none⟩ a').setCell ⟨gr, 1, none⟩ b').setCell ⟨gr, 2, none⟩ c').setCell ⟨gr, 3, none⟩ d').heap[gr]? = some (.cells #[a', b', c', d'] t (0, 0)) :=
 blk_put (cs := #[a', b', c', d]) (blk_put (cs := #[a', b', c, d]) (blk_put (cs := #[a', b, c, d]) (blk_put (cs := #[a, b, c, d]) h 0 _ rfl) 1 _ rfl) 2 _ rfl) 3 _ rfl
theorem four_below {w0 W : World} {gr : Nat} (h : Below w0.heap.size w0 W) (hg : w0.heap.size ≤ gr) (a' b' c' d' : Value) : Below w0.heap.size w0 ((((W.setCell ⟨gr, 0, none⟩ a').setCell ⟨gr, 1, none⟩ b').setCell ⟨gr, 2, none⟩ c').setCell ⟨gr, 3, none⟩ d') := below_set (below_set (below_set (below_set h hg) hg) hg) hg
set_option maxHeartbeats 4000000 in
theorem Find_is (x : S38) (a : Int) (go : Nat) (W : World) (ho : W.heap[go]? = some (.cells #[.int .i64 a] 3 (0, 0))) :
 Calls Try.prog 23 #[.agg #[.int .i64 x.f0, .int .u64 x.f1, .int .i64 x.f2, .bool x.f3], .pointer (some ⟨go, 0, none⟩)] W fun e w' => e = .returned (.bool (x.f0 == a)) ∧ Below W.heap.size W w' := by
 have BO := Aside0.mk ho
 clear ho
 by_cases h : x.f0 = a
 all_goals
  first | have d1 : (x.f0 == a) = true := beq_iff_eq.mpr h | have d1 : (x.f0 == a) = false := beq_eq_false_iff_ne.mpr h
  have D := Aside0.mk d1
  clear h
  go_enter Try.func23, Try.ntmps23
  go_wp2_with (((with_reducible refine gate_dst (N := 2) rfl ?_); refine box_event ?hg (N := 2) ?hd (cs := #[.int .i64 x.f0, .int .u64 x.f1, .int .i64 x.f2, .bool x.f3]) (t := 38) ?hr ?_; (case hd => rfl); (case hg => rfl); (case hr => first | (go_simp; done) | (go_simp; rfl)); intro gx hg w3 hbox hb3; obtain ⟨h0, h1, h2, h3⟩ := c4_ hbox; have HB := Aside0.mk (Below.trans (Below.refl _ _) hb3); have h4 : w3.cell? ⟨go, 0, none⟩ = some (.int .i64 a) := (blk_cell (blk_below BO.out hb3) 0).trans rfl; clear hg hbox hb3))
  go_ret
  exact ⟨by rw [D.out]; rfl, HB.out⟩
end
def order_Find.r : Option S38 → Int × Int × Int × Bool × Bool
 | some s => (s.f0, s.f1, s.f2, s.f3, true)
 | none => (0, 0, 0, false, false)
def order_Find.f (l0 : List (S38)) (a1 : Int) : Option (Int × Int × Int × Bool × Bool) := if l0.length ≤ 9223372036854775806 then some (order_Find.r (l0.find? fun s => s.f0 == a1)) else none
set_option maxHeartbeats 8000000 in
theorem order_Find.calls (A0 : Option Addr) (c0 : Nat) (l0 : List (S38)) (a1 : Int) (r1 : Int) (r2 : Int) (r3 : Int) (r4 : Bool) (r5 : Bool) (w : World) (hr0 : Kd.C k38 w A0 l0.length l0) (hc0 : l0.length ≤ c0) (h : order_Find.f l0 a1 = some (r1, r2, r3, r4, r5)) :
 Calls Try.prog 9 #[.slice A0 l0.length c0, .int .i64 a1] w fun e w' => e = .returned (.tuple #[.agg #[.int .i64 r1, .int .u64 r2, .int .i64 r3, .bool r4], .bool r5]) ∧ Below w.heap.size w w' := by
 unfold order_Find.f at h
 by_cases hn : l0.length ≤ 9223372036854775806
 · rw [if_pos hn] at h
   have hu38 := Try.underlying38
   have HR0 := Aside0.mk hr0
   have HN := Aside0.mk hn
   have eg := enters_of Try.func23 (by kernel_rfl) rfl
   have EG := Aside0.mk eg
   clear hr0 hc0 hn eg
   rcases idxF_cases (fun s : S38 => s.f0 == a1) l0 with ⟨e1, e2⟩ | ⟨i, hi, e1, e2⟩
   · rw [e2] at h
     unfold order_Find.r at h
     simp only [Option.some.injEq, Prod.mk.injEq] at h
     obtain ⟨rfl, rfl, rfl, rfl, rfl⟩ := h
     have E := Aside0.mk e1
     clear e1 e2
     go_enter Try.func9, Try.ntmps9
     go_wp2_with (first
      | ((with_reducible refine gate_dst (N := 3) rfl ?_); refine box_event ?hg (N := 3) ?hd (cs := #[.int .i64 a1]) (t := 3) ?hr ?_; (case hd => rfl); (case hg => rfl); (case hr => first | (go_simp; done) | (go_simp; rfl)); intro go hg w1 hbox hb1; have HX := Aside0.mk hbox; have HB := Aside0.mk (Below.trans (Below.refl _ _) hb1); clear hg hbox hb1)
      | ((with_reducible refine gate_dst (N := 4) rfl ?_); refine box_event ?hg (N := 4) ?hd (cs := #[.int .i64 0, .int .u64 0, .int .i64 0, .bool false]) (t := 38) ?hr ?_; (case hd => rfl); (case hg => rfl); (case hr => first | (go_simp; done) | (go_simp; rfl)); intro gr hg w2 hbox hb2; have HG := Aside0.mk (by rw [hg]; exact HB.out.size : w.heap.size ≤ gr); have HZ := Aside0.mk hbox; have HX2 := Aside0.mk (blk_below HX.out hb2); have HB2 := Aside0.mk (below_step HB.out hb2); clear hg hbox hb2)
      | (go_at_call 22; refine (IndexFunc_Seat A0 c0 l0 (fun s => s.f0 == a1) 23 #[.pointer (some ⟨go, 0, none⟩)] EG.out w _ HB2.out (fun W x hW => Find_is x a1 go W (blk_below HX2.out hW)) (Kd.C_below HR0.out HB2.out) HN.out).mono ?_; rintro e w5 ⟨rfl, hb5⟩; rw [E.out]; have HZ5 := Aside0.mk (blk_below HZ.out hb5); have HB5 := Aside0.mk (below_step HB2.out hb5); obtain ⟨y0, y1, y2, y3⟩ := c4_ HZ5.out; obtain ⟨q0, q1, q2, q3⟩ := f4_ HZ5.out; clear hb5))
     refine bodyPost_ret (results_ct rfl _ _ gr 38 #[.int .i64 0, .int .u64 0, .int .i64 0, .bool false] (0, 0) _ rfl (four_puts HZ5.out _ _ _ _) Try.underlying38 rfl (by kernel_rfl)) rfl ?_
     exact ⟨rfl, four_below HB5.out HG.out _ _ _ _⟩
   · rw [e2] at h
     generalize hy : l0[i] = y at h
     have HY := Aside0.mk hy
     unfold order_Find.r at h
     simp only [Option.some.injEq, Prod.mk.injEq] at h
     obtain ⟨rfl, rfl, rfl, rfl, rfl⟩ := h
     have E := Aside0.mk e1
     have HRD := Aside0.mk (rdT_at l0 i hi)
     have hi1 : (i : Int) < (l0.length : Int) := by omega
     have hi0 : ¬ (i : Int) < 0 := by omega
     clear e1 e2 hy
     go_enter Try.func9, Try.ntmps9
     go_wp2_with (first
      | ((with_reducible refine gate_dst (N := 3) rfl ?_); refine box_event ?hg (N := 3) ?hd (cs := #[.int .i64 a1]) (t := 3) ?hr ?_; (case hd => rfl); (case hg => rfl); (case hr => first | (go_simp; done) | (go_simp; rfl)); intro go hg w1 hbox hb1; have HX := Aside0.mk hbox; have HB := Aside0.mk (Below.trans (Below.refl _ _) hb1); clear hg hbox hb1)
      | ((with_reducible refine gate_dst (N := 4) rfl ?_); refine box_event ?hg (N := 4) ?hd (cs := #[.int .i64 0, .int .u64 0, .int .i64 0, .bool false]) (t := 38) ?hr ?_; (case hd => rfl); (case hg => rfl); (case hr => first | (go_simp; done) | (go_simp; rfl)); intro gr hg w2 hbox hb2; have HG := Aside0.mk (by rw [hg]; exact HB.out.size : w.heap.size ≤ gr); have HZ := Aside0.mk hbox; have HX2 := Aside0.mk (blk_below HX.out hb2); have HB2 := Aside0.mk (below_step HB.out hb2); clear hg hbox hb2)
      | (go_at_call 22; refine (IndexFunc_Seat A0 c0 l0 (fun s => s.f0 == a1) 23 #[.pointer (some ⟨go, 0, none⟩)] EG.out w _ HB2.out (fun W x hW => Find_is x a1 go W (blk_below HX2.out hW)) (Kd.C_below HR0.out HB2.out) HN.out).mono ?_; rintro e w5 ⟨rfl, hb5⟩; rw [E.out]; obtain ⟨ad, ead, hx, hx1, hx2, hx3⟩ := at_T38 (Kd.C_below HR0.out (below_step HB2.out hb5)) (i : Int) (by omega) (by omega); subst ead; rw [HRD.out, Int.toNat_natCast, HY.out] at hx hx1 hx2 hx3; have HZ5 := Aside0.mk (blk_below HZ.out hb5); have HB5 := Aside0.mk (below_step HB2.out hb5); obtain ⟨y0, y1, y2, y3⟩ := c4_ HZ5.out; obtain ⟨q0, q1, q2, q3⟩ := f4_ HZ5.out; clear hb5))
     refine bodyPost_ret (results_ct rfl _ _ gr 38 #[.int .i64 y.f0, .int .u64 y.f1, .int .i64 y.f2, .bool y.f3] (0, 0) _ rfl (four_puts HZ5.out _ _ _ _) Try.underlying38 rfl (by kernel_rfl)) rfl ?_
     exact ⟨rfl, four_below HB5.out HG.out _ _ _ _⟩
 · rw [if_neg hn] at h
   exact absurd h (by simp)
def order_by.f (a0_0 : Int) (a0_1 : Int) (a0_2 : Int) (a0_3 : Bool) (a1 : Int) : Option (Int) := (cmp_Compare_int.f a0_0 a1).bind fun t151 => (some t151)
set_option maxHeartbeats 8000000 in
set_option maxRecDepth 100000 in
theorem order_by.calls (a0_0 : Int) (a0_1 : Int) (a0_2 : Int) (a0_3 : Bool) (a1 : Int) (r : Int) (w : World) (h : order_by.f a0_0 a0_1 a0_2 a0_3 a1 = some r) :
 Calls Try.prog 28 #[.agg #[.int .i64 a0_0, .int .u64 a0_1, .int .i64 a0_2, .bool a0_3], .int .i64 a1] w fun e w' => e = .returned (.int .i64 r) ∧ Below w.heap.size w w' := by
 have hu38 := Try.underlying38
 have HB := Aside0.mk (Below.refl w.heap.size w)
 have H : ((cmp_Compare_int.f a0_0 a1).bind fun t151 => (some t151)) = some r := h
 clear h
 replace H := Option.bind_eq_some_iff.mp H
 obtain ⟨t151, A30, H⟩ := H
 replace H : (some t151) = some r := H
 have A3 := Aside0.mk A30
 clear A30
 obtain rfl := Option.some.inj H
 go_enter Try.func28, Try.ntmps28
 go_wp2_with (first | ((with_reducible refine gate_dst (N := 2) rfl ?_); refine box_event ?hg (N := 2) ?hd (cs := #[.int .i64 a0_0, .int .u64 a0_1, .int .i64 a0_2, .bool a0_3]) (t := 38) ?hr ?_; (case hd => rfl); (case hg => rfl); (case hr => first | (go_simp; done) | (go_simp; rfl)); intro gb150 hg w4 hbox hb; have n0_ := Aside0.mk (below_step bel_ hb); have n1_ := Aside0.mk (hbox); have n2_ := Aside0.mk ((gE_ hg : w.heap.size ≤ gb150)); have n3_ := Aside0.mk ((gE_ hg : w.heap.size ≤ gb150)); clear HB; have HB := n0_; have BK150 := n1_; have GW150 := n2_; have GE150 := n3_; clear n0_ n1_ n2_ n3_; clear hb hbox hg; obtain ⟨hcz5_0, hcz5_1, hcz5_2, hcz5_3, hfz5_0, hfz5_1, hfz5_2, hfz5_3⟩ := cz4_ BK150.out) | ((with_reducible refine gate_callee (f := 36) rfl ?_); refine goesL_ (some 8) rfl rfl Try.func36 (by kernel_rfl) rfl #[.int .i64 a0_0, .int .i64 a1] rfl args_ ?_; (with_reducible refine (cmp_Compare_int.calls a0_0 a1 t151 _ A3.out).mono ?_); rintro e w' ⟨rfl, ⟨nd, rfl⟩⟩; refine ⟨_, rfl, ?_⟩))
 go_ret
 exact fin_ bel_
end Go.Proofs.Ytdccjkeiifplnaa.P
