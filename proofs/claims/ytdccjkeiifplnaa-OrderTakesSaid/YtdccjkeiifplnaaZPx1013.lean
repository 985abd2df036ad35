-- kept, by a program of this session, of a text that the printer or this session wrote
import Derived.Test.YtdccjkeiifplnaaZPx0
namespace Go.Proofs.Ytdccjkeiifplnaa.P
open Go.RowKit Go.Proofs.YtdccjkeiifplnaaW.PrintWords Go.Proofs.YtdccjkeiifplnaaW.PrintLast Go.Proofs.YtdccjkeiifplnaaW.PrintMore
attribute [local go_sem] max2_int min2_int max_two min_two max_three min_three max_four min_four
set_option linter.unusedVariables false
set_option linter.unusedSimpArgs false
mutual
def spoorref14_Check.l0 : Nat → List (S38) → List (S38) → Int → Int → Option (Int)
 | 0, _, _, _, _ => none
 | k + 1, x0, x8, x9, x10 => if x10 < x9 then (if 0 ≤ x10 then (if x10 < (x8.length : Int) then (if ((rd_T38 x8 x10).f0) < 0 then (spoorref14_Check.j1 k x0 x10 x8 x9 x10 true ((rd_T38 x8 x10).f0) ((rd_T38 x8 x10).f1) ((rd_T38 x8 x10).f2) ((rd_T38 x8 x10).f3)) else (if ((rd_T38 x8 x10).f0) > 1048576 then (spoorref14_Check.j1 k x0 x10 x8 x9 x10 true ((rd_T38 x8 x10).f0) ((rd_T38 x8 x10).f1) ((rd_T38 x8 x10).f2) ((rd_T38 x8 x10).f3)) else (if ((rd_T38 x8 x10).f1) < 1 then (spoorref14_Check.j1 k x0 x10 x8 x9 x10 true ((rd_T38 x8 x10).f0) ((rd_T38 x8 x10).f1) ((rd_T38 x8 x10).f2) ((rd_T38 x8 x10).f3)) else (if ((rd_T38 x8 x10).f1) > 1099511627776 then (spoorref14_Check.j1 k x0 x10 x8 x9 x10 true ((rd_T38 x8 x10).f0) ((rd_T38 x8 x10).f1) ((rd_T38 x8 x10).f2) ((rd_T38 x8 x10).f3)) else (if ((rd_T38 x8 x10).f2) < 0 then (spoorref14_Check.j1 k x0 x10 x8 x9 x10 true ((rd_T38 x8 x10).f0) ((rd_T38 x8 x10).f1) ((rd_T38 x8 x10).f2) ((rd_T38 x8 x10).f3)) else (spoorref14_Check.j1 k x0 x10 x8 x9 x10 (decide (((rd_T38 x8 x10).f2) > 1099511627776)) ((rd_T38 x8 x10).f0) ((rd_T38 x8 x10).f1) ((rd_T38 x8 x10).f2) ((rd_T38 x8 x10).f3))))))) else (none)) else (none)) else (some 0)
def spoorref14_Check.j1 : Nat → List (S38) → Int → List (S38) → Int → Int → Bool → Int → Int → Int → Bool → Option (Int)
 | 0, _, _, _, _, _, _, _, _, _, _ => none
 | k + 1, x0, x3, x8, x9, x10, x42, x177000, x177001, x177002, x177003 => if x42 = true then (some 2) else (if x3 > 0 then (if 0 ≤ (wrap64 (x3 - 1)) then (if (wrap64 (x3 - 1)) < (x0.length : Int) then (if x177000 ≤ ((rd_T38 x0 (wrap64 (x3 - 1))).f0) then (some 2) else (spoorref14_Check.l0 k x0 x8 x9 (wrap64 (x10 + 1)))) else (none)) else (none)) else (spoorref14_Check.l0 k x0 x8 x9 (wrap64 (x10 + 1))))
end
def spoorref14_Check.f (k : Nat) (l0 : List (S38)) : Option (Int) := if (l0.length : Int) > 64 then (some 2) else (spoorref14_Check.l0 k l0 l0 (l0.length : Int) 0)
set_option maxHeartbeats 8000000 in
set_option maxRecDepth 100000 in
theorem spoorref14_Check.calls (k : Nat) (A0 : Option Addr) (c0 : Nat) (l0 : List (S38)) (r : Int) (w : World) (hr0 : Kd.C k38 w A0 l0.length l0) (hc0 : l0.length ≤ c0) (h : spoorref14_Check.f k l0 = some r) :
 Calls Try.prog 13 #[.slice A0 l0.length c0] w fun e w' => e = .returned (.int .i64 r) ∧ Below w.heap.size w w' := by
 have hu38 := Try.underlying38
 have HR0 := Aside0.mk hr0
 have HC0 := Aside0.mk hc0
 clear hr0 hc0
 have HB := Aside0.mk (Below.refl w.heap.size w)
 have H : (if (l0.length : Int) > 64 then (some 2) else (spoorref14_Check.l0 k l0 l0 (l0.length : Int) 0)) = some r := h
 clear h
 by_cases c2 : (l0.length : Int) > 64
 · rw [if_pos c2] at H
   have c2b0 : decide (64 < (l0.length : Int)) = true := decide_eq_true c2
   have c2b1 : decide (64 < l0.length) = true := decide_eq_true (by omega)
   clear c2
   obtain rfl := Option.some.inj H
   go_enter Try.func13, Try.ntmps13
   go_wp2
   repeat (go_quiet (fail); try go_wp2)
   go_ret
   exact fin_ bel_
 · rw [if_neg c2] at H
   have c2b0 : decide (64 < (l0.length : Int)) = false := decide_eq_false c2
   try have c2bw : IntKind.u64.wrap (l0.length : Int) = (l0.length : Int) := by have q_ := of_decide_eq_false c2b0; rw [IntKind.wrap_u64]; omega
   have c2b1 : decide (64 < l0.length) = false := decide_eq_false (by omega)
   clear c2
   have H' := Aside0.mk H
   clear H
   go_enter Try.func13, Try.ntmps13
   go_wp2
   repeat (go_quiet (fail); try go_wp2)
   go_loopg [10] k (fun kq v10 w' => ∃ (x10_1 : Int), v10 = .int .i64 x10_1 ∧ Aside0 (spoorref14_Check.l0 kq l0 l0 (l0.length : Int) x10_1 = some r) ∧ Aside0 (kq ≤ k) ∧ Aside0 (Below w.heap.size w w'))
   case atStart => exact ⟨(0), st_, H', ⟨Nat.le_refl _⟩, ⟨bel_⟩⟩
   case round =>
    clear H'; try clear c1; try clear c2; try clear c2b0; try clear c2b1; try clear p2
    obtain ⟨x10_1, rfl, HA, HK1, HB⟩ := hrel
    cases gk with
    | zero => exact absurd HA.out (by simp [spoorref14_Check.l0])
    | succ k1 =>
     have H := HA.out
     clear HA
     simp only [spoorref14_Check.l0] at H
     by_cases c3 : x10_1 < (l0.length : Int)
     · rw [if_pos c3] at H
       have c3b0 : decide (x10_1 < (l0.length : Int)) = true := decide_eq_true c3
       clear c3
       by_cases c4 : 0 ≤ x10_1
       · rw [if_pos c4] at H
         have c4b0 : decide (0 ≤ x10_1) = true := decide_eq_true c4
         clear c4
         by_cases c5 : x10_1 < (l0.length : Int)
         · rw [if_pos c5] at H
           have c5b0 : decide (x10_1 < (l0.length : Int)) = true := decide_eq_true c5
           clear c5
           have HC6 := Aside0.mk H
           clear H
           have p175 : 0 ≤ (x10_1 : Int) := of_decide_eq_true (by first | (with_reducible assumption) | assumption)
           have q175 : x10_1 < (l0.length : Int) := of_decide_eq_true (by first | (with_reducible assumption) | assumption)
           obtain ⟨ad175, e175, hx175_0, hx175_1, hx175_2, hx175_3⟩ := at_T38 HR0.out x10_1 p175 q175
           cases e175
           replace hx175_0 := (HB.out.cell (World.block_lt_of_cell? w _ hx175_0)).trans hx175_0
           replace hx175_1 := (HB.out.cell (World.block_lt_of_cell? w _ hx175_1)).trans hx175_1
           replace hx175_2 := (HB.out.cell (World.block_lt_of_cell? w _ hx175_2)).trans hx175_2
           replace hx175_3 := (HB.out.cell (World.block_lt_of_cell? w _ hx175_3)).trans hx175_3
           replace p175 := eq_true p175
           replace q175 := eq_true q175
           go_upto_region 6 with (first | ((with_reducible refine gate_dst (N := 4) rfl ?_); refine box_event ?hg (N := 4) ?hd (cs := #[.int .i64 0, .int .u64 0, .int .i64 0, .bool false]) (t := 38) ?hr ?_; (case hd => rfl); (case hg => rfl); (case hr => first | (go_simp; done) | (go_simp; rfl)); intro gb176 hg w7 hbox hb; have n0_ := Aside0.mk (below_step bel_ hb); have n1_ := Aside0.mk (hbox); have n2_ := Aside0.mk ((gE_ hg : w.heap.size ≤ gb176)); have n3_ := Aside0.mk ((gE_ hg : w.heap.size ≤ gb176)); clear HB; have HB := n0_; have BK176 := n1_; have GW176 := n2_; have GE176 := n3_; clear n0_ n1_ n2_ n3_; clear hb hbox hg; obtain ⟨hcz8_0, hcz8_1, hcz8_2, hcz8_3, hfz8_0, hfz8_1, hfz8_2, hfz8_3⟩ := cz4_ BK176.out))
           repeat (go_quiet (first | ((with_reducible refine gate_dst (N := 4) rfl ?_); refine box_event ?hg (N := 4) ?hd (cs := #[.int .i64 0, .int .u64 0, .int .i64 0, .bool false]) (t := 38) ?hr ?_; (case hd => rfl); (case hg => rfl); (case hr => first | (go_simp; done) | (go_simp; rfl)); intro gb176 hg w7 hbox hb; have n0_ := Aside0.mk (below_step bel_ hb); have n1_ := Aside0.mk (hbox); have n2_ := Aside0.mk ((gE_ hg : w.heap.size ≤ gb176)); have n3_ := Aside0.mk ((gE_ hg : w.heap.size ≤ gb176)); clear HB; have HB := n0_; have BK176 := n1_; have GW176 := n2_; have GE176 := n3_; clear n0_ n1_ n2_ n3_; clear hb hbox hg; obtain ⟨hcz8_0, hcz8_1, hcz8_2, hcz8_3, hfz8_0, hfz8_1, hfz8_2, hfz8_3⟩ := cz4_ BK176.out)); go_upto_region 6 with (first | ((with_reducible refine gate_dst (N := 4) rfl ?_); refine box_event ?hg (N := 4) ?hd (cs := #[.int .i64 0, .int .u64 0, .int .i64 0, .bool false]) (t := 38) ?hr ?_; (case hd => rfl); (case hg => rfl); (case hr => first | (go_simp; done) | (go_simp; rfl)); intro gb176 hg w7 hbox hb; have n0_ := Aside0.mk (below_step bel_ hb); have n1_ := Aside0.mk (hbox); have n2_ := Aside0.mk ((gE_ hg : w.heap.size ≤ gb176)); have n3_ := Aside0.mk ((gE_ hg : w.heap.size ≤ gb176)); clear HB; have HB := n0_; have BK176 := n1_; have GW176 := n2_; have GE176 := n3_; clear n0_ n1_ n2_ n3_; clear hb hbox hg; obtain ⟨hcz8_0, hcz8_1, hcz8_2, hcz8_3, hfz8_0, hfz8_1, hfz8_2, hfz8_3⟩ := cz4_ BK176.out)))
           (try simp only [Act.put, List.setIfInBounds_toArray, List.set_cons_zero, List.set_cons_succ])
           go_cut [42] (fun v42 wc => ∃ (kq : Nat) (x42_5 : Bool), v42 = .bool x42_5 ∧ Aside0 (spoorref14_Check.j1 kq l0 x10_1 l0 (l0.length : Int) x10_1 x42_5 ((rd_T38 l0 x10_1).f0) ((rd_T38 l0 x10_1).f1) ((rd_T38 l0 x10_1).f2) ((rd_T38 l0 x10_1).f3) = some r) ∧ Aside0 (kq ≤ k1) ∧ Aside0 (wc.heap[gb176]? = some (.cells #[.int .i64 ((rd_T38 l0 x10_1).f0), .int .u64 ((rd_T38 l0 x10_1).f1), .int .i64 ((rd_T38 l0 x10_1).f2), .bool ((rd_T38 l0 x10_1).f3)] 38 (0, 0))) ∧ Aside0 (Below w.heap.size w wc))
           case first =>
            have H := HC6.out
            clear HC6
            by_cases c9 : ((rd_T38 l0 x10_1).f0) < 0
            · rw [if_pos c9] at H
              have c9b0 : decide (((rd_T38 l0 x10_1).f0) < 0) = true := decide_eq_true c9
              clear c9
              (first | rw [c9b0] | (simp only [i64_w, i32_w]; rw [c9b0]) | skip)
              have H' := Aside0.mk H
              clear H
              obtain ⟨hcz10_0, hcz10_1, hcz10_2, hcz10_3, hfz10_0, hfz10_1, hfz10_2, hfz10_3⟩ := cz4_ BK176.out
              go_wp2
              repeat (go_quiet (fail); try go_wp2)
              go_meet
              case rel => exact ⟨_, (true), st_, H', ⟨by have := HK1.out; first | omega | exact Nat.le_refl _⟩, ⟨by refine blkU ?_; refine blk_put (cs := #[.int .i64 ((rd_T38 l0 x10_1).f0), .int .u64 ((rd_T38 l0 x10_1).f1), .int .i64 ((rd_T38 l0 x10_1).f2), .bool false]) ?_ 3 _ rfl; refine blkU ?_; refine blk_put (cs := #[.int .i64 ((rd_T38 l0 x10_1).f0), .int .u64 ((rd_T38 l0 x10_1).f1), .int .i64 0, .bool false]) ?_ 2 _ rfl; refine blkU ?_; refine blk_put (cs := #[.int .i64 ((rd_T38 l0 x10_1).f0), .int .u64 0, .int .i64 0, .bool false]) ?_ 1 _ rfl; refine blkU ?_; refine blk_put (cs := #[.int .i64 0, .int .u64 0, .int .i64 0, .bool false]) ?_ 0 _ rfl; refine blkU ?_; exact BK176.out⟩, ⟨bel_⟩⟩
            · rw [if_neg c9] at H
              have c9b0 : decide (((rd_T38 l0 x10_1).f0) < 0) = false := decide_eq_false c9
              clear c9
              (first | rw [c9b0] | (simp only [i64_w, i32_w]; rw [c9b0]) | skip)
              by_cases c11 : ((rd_T38 l0 x10_1).f0) > 1048576
              · rw [if_pos c11] at H
                have c11b0 : decide (1048576 < ((rd_T38 l0 x10_1).f0)) = true := decide_eq_true c11
                clear c11
                have H' := Aside0.mk H
                clear H
                obtain ⟨hcz12_0, hcz12_1, hcz12_2, hcz12_3, hfz12_0, hfz12_1, hfz12_2, hfz12_3⟩ := cz4_ BK176.out
                go_wp2
                repeat (go_quiet (fail); try go_wp2)
                go_meet
                case rel => exact ⟨_, (true), st_, H', ⟨by have := HK1.out; first | omega | exact Nat.le_refl _⟩, ⟨by refine blkU ?_; refine blk_put (cs := #[.int .i64 ((rd_T38 l0 x10_1).f0), .int .u64 ((rd_T38 l0 x10_1).f1), .int .i64 ((rd_T38 l0 x10_1).f2), .bool false]) ?_ 3 _ rfl; refine blkU ?_; refine blk_put (cs := #[.int .i64 ((rd_T38 l0 x10_1).f0), .int .u64 ((rd_T38 l0 x10_1).f1), .int .i64 0, .bool false]) ?_ 2 _ rfl; refine blkU ?_; refine blk_put (cs := #[.int .i64 ((rd_T38 l0 x10_1).f0), .int .u64 0, .int .i64 0, .bool false]) ?_ 1 _ rfl; refine blkU ?_; refine blk_put (cs := #[.int .i64 0, .int .u64 0, .int .i64 0, .bool false]) ?_ 0 _ rfl; refine blkU ?_; exact BK176.out⟩, ⟨bel_⟩⟩
              · rw [if_neg c11] at H
                have c11b0 : decide (1048576 < ((rd_T38 l0 x10_1).f0)) = false := decide_eq_false c11
                clear c11
                by_cases c13 : ((rd_T38 l0 x10_1).f1) < 1
                · rw [if_pos c13] at H
                  have c13b0 : decide (((rd_T38 l0 x10_1).f1) < 1) = true := decide_eq_true c13
                  clear c13
                  have H' := Aside0.mk H
                  clear H
                  obtain ⟨hcz14_0, hcz14_1, hcz14_2, hcz14_3, hfz14_0, hfz14_1, hfz14_2, hfz14_3⟩ := cz4_ BK176.out
                  go_wp2
                  repeat (go_quiet (fail); try go_wp2)
                  go_meet
                  case rel => exact ⟨_, (true), st_, H', ⟨by have := HK1.out; first | omega | exact Nat.le_refl _⟩, ⟨by refine blkU ?_; refine blk_put (cs := #[.int .i64 ((rd_T38 l0 x10_1).f0), .int .u64 ((rd_T38 l0 x10_1).f1), .int .i64 ((rd_T38 l0 x10_1).f2), .bool false]) ?_ 3 _ rfl; refine blkU ?_; refine blk_put (cs := #[.int .i64 ((rd_T38 l0 x10_1).f0), .int .u64 ((rd_T38 l0 x10_1).f1), .int .i64 0, .bool false]) ?_ 2 _ rfl; refine blkU ?_; refine blk_put (cs := #[.int .i64 ((rd_T38 l0 x10_1).f0), .int .u64 0, .int .i64 0, .bool false]) ?_ 1 _ rfl; refine blkU ?_; refine blk_put (cs := #[.int .i64 0, .int .u64 0, .int .i64 0, .bool false]) ?_ 0 _ rfl; refine blkU ?_; exact BK176.out⟩, ⟨bel_⟩⟩
                · rw [if_neg c13] at H
                  have c13b0 : decide (((rd_T38 l0 x10_1).f1) < 1) = false := decide_eq_false c13
                  clear c13
                  by_cases c15 : ((rd_T38 l0 x10_1).f1) > 1099511627776
                  · rw [if_pos c15] at H
                    have c15b0 : decide (1099511627776 < ((rd_T38 l0 x10_1).f1)) = true := decide_eq_true c15
                    clear c15
                    have H' := Aside0.mk H
                    clear H
                    obtain ⟨hcz16_0, hcz16_1, hcz16_2, hcz16_3, hfz16_0, hfz16_1, hfz16_2, hfz16_3⟩ := cz4_ BK176.out
                    go_wp2
                    repeat (go_quiet (fail); try go_wp2)
                    go_meet
                    case rel => exact ⟨_, (true), st_, H', ⟨by have := HK1.out; first | omega | exact Nat.le_refl _⟩, ⟨by refine blkU ?_; refine blk_put (cs := #[.int .i64 ((rd_T38 l0 x10_1).f0), .int .u64 ((rd_T38 l0 x10_1).f1), .int .i64 ((rd_T38 l0 x10_1).f2), .bool false]) ?_ 3 _ rfl; refine blkU ?_; refine blk_put (cs := #[.int .i64 ((rd_T38 l0 x10_1).f0), .int .u64 ((rd_T38 l0 x10_1).f1), .int .i64 0, .bool false]) ?_ 2 _ rfl; refine blkU ?_; refine blk_put (cs := #[.int .i64 ((rd_T38 l0 x10_1).f0), .int .u64 0, .int .i64 0, .bool false]) ?_ 1 _ rfl; refine blkU ?_; refine blk_put (cs := #[.int .i64 0, .int .u64 0, .int .i64 0, .bool false]) ?_ 0 _ rfl; refine blkU ?_; exact BK176.out⟩, ⟨bel_⟩⟩
                  · rw [if_neg c15] at H
                    have c15b0 : decide (1099511627776 < ((rd_T38 l0 x10_1).f1)) = false := decide_eq_false c15
                    clear c15
                    by_cases c17 : ((rd_T38 l0 x10_1).f2) < 0
                    · rw [if_pos c17] at H
                      have c17b0 : decide (((rd_T38 l0 x10_1).f2) < 0) = true := decide_eq_true c17
                      clear c17
                      have H' := Aside0.mk H
                      clear H
                      obtain ⟨hcz18_0, hcz18_1, hcz18_2, hcz18_3, hfz18_0, hfz18_1, hfz18_2, hfz18_3⟩ := cz4_ BK176.out
                      go_wp2
                      repeat (go_quiet (fail); try go_wp2)
                      go_meet
                      case rel => exact ⟨_, (true), st_, H', ⟨by have := HK1.out; first | omega | exact Nat.le_refl _⟩, ⟨by refine blkU ?_; refine blk_put (cs := #[.int .i64 ((rd_T38 l0 x10_1).f0), .int .u64 ((rd_T38 l0 x10_1).f1), .int .i64 ((rd_T38 l0 x10_1).f2), .bool false]) ?_ 3 _ rfl; refine blkU ?_; refine blk_put (cs := #[.int .i64 ((rd_T38 l0 x10_1).f0), .int .u64 ((rd_T38 l0 x10_1).f1), .int .i64 0, .bool false]) ?_ 2 _ rfl; refine blkU ?_; refine blk_put (cs := #[.int .i64 ((rd_T38 l0 x10_1).f0), .int .u64 0, .int .i64 0, .bool false]) ?_ 1 _ rfl; refine blkU ?_; refine blk_put (cs := #[.int .i64 0, .int .u64 0, .int .i64 0, .bool false]) ?_ 0 _ rfl; refine blkU ?_; exact BK176.out⟩, ⟨bel_⟩⟩
                    · rw [if_neg c17] at H
                      have c17b0 : decide (((rd_T38 l0 x10_1).f2) < 0) = false := decide_eq_false c17
                      clear c17
                      have H' := Aside0.mk H
                      clear H
                      obtain ⟨hcz19_0, hcz19_1, hcz19_2, hcz19_3, hfz19_0, hfz19_1, hfz19_2, hfz19_3⟩ := cz4_ BK176.out
                      go_wp2
                      repeat (go_quiet (fail); try go_wp2)
                      go_meet
                      case rel => exact ⟨_, (decide (((rd_T38 l0 x10_1).f2) > 1099511627776)), st_, H', ⟨by have := HK1.out; first | omega | exact Nat.le_refl _⟩, ⟨by refine blkU ?_; refine blk_put (cs := #[.int .i64 ((rd_T38 l0 x10_1).f0), .int .u64 ((rd_T38 l0 x10_1).f1), .int .i64 ((rd_T38 l0 x10_1).f2), .bool false]) ?_ 3 _ rfl; refine blkU ?_; refine blk_put (cs := #[.int .i64 ((rd_T38 l0 x10_1).f0), .int .u64 ((rd_T38 l0 x10_1).f1), .int .i64 0, .bool false]) ?_ 2 _ rfl; refine blkU ?_; refine blk_put (cs := #[.int .i64 ((rd_T38 l0 x10_1).f0), .int .u64 0, .int .i64 0, .bool false]) ?_ 1 _ rfl; refine blkU ?_; refine blk_put (cs := #[.int .i64 0, .int .u64 0, .int .i64 0, .bool false]) ?_ 0 _ rfl; refine blkU ?_; exact BK176.out⟩, ⟨bel_⟩⟩
           case rest =>
            clear HC6; try clear c1; try clear p1; try clear q1; try clear hx1; try clear c2; try clear c2b0; try clear c2b1; try clear p2; try clear c3; try clear c3b0; try clear c4; try clear c4b0; try clear c5; try clear c5b0; try clear c9; try clear c9b0; try clear c11; try clear c11b0; try clear c13; try clear c13b0; try clear c15; try clear c15b0; try clear c17; try clear c17b0; try clear p17; try clear q17; try clear hx17; try clear hcz10_0; try clear hcz10_1; try clear hcz10_2; try clear hcz10_3; try clear hcz12_0; try clear hcz12_1; try clear hcz12_2; try clear hcz12_3; try clear hcz14_0; try clear hcz14_1; try clear hcz14_2; try clear hcz14_3; try clear hcz16_0; try clear hcz16_1; try clear hcz16_2; try clear hcz16_3; try clear hcz18_0; try clear hcz18_1; try clear hcz18_2; try clear hcz18_3; try clear hcz19_0; try clear hcz19_1; try clear hcz19_2; try clear hcz19_3; try clear hcz8_0; try clear hcz8_1; try clear hcz8_2; try clear hcz8_3; try clear hfz10_0; try clear hfz10_1; try clear hfz10_2; try clear hfz10_3; try clear hfz12_0; try clear hfz12_1; try clear hfz12_2; try clear hfz12_3; try clear hfz14_0; try clear hfz14_1; try clear hfz14_2; try clear hfz14_3; try clear hfz16_0; try clear hfz16_1; try clear hfz16_2; try clear hfz16_3; try clear hfz18_0; try clear hfz18_1; try clear hfz18_2; try clear hfz18_3; try clear hfz19_0; try clear hfz19_1; try clear hfz19_2; try clear hfz19_3; try clear hfz8_0; try clear hfz8_1; try clear hfz8_2; try clear hfz8_3; try clear hx175_0; try clear hx175_1; try clear hx175_2; try clear hx175_3; try clear p175; try clear p2; try clear q175
            obtain ⟨kq, x42_5, rfl, HA, HJ5, BK176, HB⟩ := hcut
            cases kq with
            | zero => exact absurd HA.out (by simp [spoorref14_Check.j1])
            | succ kj5 =>
             have H := HA.out
             clear HA
             simp only [spoorref14_Check.j1] at H
             by_cases c20 : x42_5 = true
             · subst c20
               have H1 : (some 2) = some r := by rw [if_pos rfl] at H; exact H
               clear H
               have H := H1
               clear H1
               obtain rfl := Option.some.inj H
               go_wp2
               repeat (go_quiet (fail); try go_wp2)
               go_ret
               exact fin_ bel_
             · replace c20 := Bool.eq_false_iff.mpr c20
               subst c20
               have H1 : (if x10_1 > 0 then (if 0 ≤ (wrap64 (x10_1 - 1)) then (if (wrap64 (x10_1 - 1)) < (l0.length : Int) then (if ((rd_T38 l0 x10_1).f0) ≤ ((rd_T38 l0 (wrap64 (x10_1 - 1))).f0) then (some 2) else (spoorref14_Check.l0 kj5 l0 l0 (l0.length : Int) (wrap64 (x10_1 + 1)))) else (none)) else (none)) else (spoorref14_Check.l0 kj5 l0 l0 (l0.length : Int) (wrap64 (x10_1 + 1)))) = some r := by rw [if_neg (show ¬ (false = true) by decide)] at H; exact H
               clear H
               have H := H1
               clear H1
               by_cases c21 : x10_1 > 0
               · rw [if_pos c21] at H
                 have c21b0 : decide (0 < x10_1) = true := decide_eq_true c21
                 clear c21
                 obtain ⟨ji22, hji22⟩ : ∃ j_ : Int, (wrap64 (x10_1 - 1)) = j_ := ⟨_, rfl⟩
                 replace H : (if 0 ≤ (ji22) then (if (ji22) < (l0.length : Int) then (if ((rd_T38 l0 x10_1).f0) ≤ ((rd_T38 l0 (ji22)).f0) then (some 2) else (spoorref14_Check.l0 kj5 l0 l0 (l0.length : Int) (wrap64 (x10_1 + 1)))) else (none)) else (none)) = some r := by first | (rw [hji22] at H; exact H) | (simp only [hji22] at H ⊢; exact H)
                 have hji22w : (IntKind.i64.wrap (x10_1 - 1)) = ji22 := (i64_w _).trans hji22
                 by_cases c23 : 0 ≤ (ji22)
                 · rw [if_pos c23] at H
                   have c23b0 : decide (0 ≤ (ji22)) = true := decide_eq_true c23
                   clear c23
                   by_cases c24 : (ji22) < (l0.length : Int)
                   · rw [if_pos c24] at H
                     have c24b0 : decide ((ji22) < (l0.length : Int)) = true := decide_eq_true c24
                     clear c24
                     by_cases c25 : ((rd_T38 l0 x10_1).f0) ≤ ((rd_T38 l0 (ji22)).f0)
                     · rw [if_pos c25] at H
                       have c25b0 : decide (((rd_T38 l0 x10_1).f0) ≤ ((rd_T38 l0 (ji22)).f0)) = true := decide_eq_true c25
                       clear c25
                       obtain rfl := Option.some.inj H
                       obtain ⟨hcz26_0, hcz26_1, hcz26_2, hcz26_3, hfz26_0, hfz26_1, hfz26_2, hfz26_3⟩ := cz4_ BK176.out
                       have p177 : 0 ≤ ((ji22) : Int) := of_decide_eq_true (by first | (with_reducible assumption) | assumption)
                       have q177 : (ji22) < (l0.length : Int) := of_decide_eq_true (by first | (with_reducible assumption) | assumption)
                       obtain ⟨ad177, e177, hx177_0, hx177_1, hx177_2, hx177_3⟩ := at_T38 HR0.out (ji22) p177 q177
                       obtain rfl : ad175 = ad177 := (by injection e177)
                       replace hx177_0 := (HB.out.cell (World.block_lt_of_cell? w _ hx177_0)).trans hx177_0
                       replace hx177_1 := (HB.out.cell (World.block_lt_of_cell? w _ hx177_1)).trans hx177_1
                       replace hx177_2 := (HB.out.cell (World.block_lt_of_cell? w _ hx177_2)).trans hx177_2
                       replace hx177_3 := (HB.out.cell (World.block_lt_of_cell? w _ hx177_3)).trans hx177_3
                       replace p177 := eq_true p177
                       replace q177 := eq_true q177
                       go_wp2
                       repeat (go_quiet (fail); try go_wp2)
                       go_ret
                       exact ⟨by first | rfl | (simp [errW_none, errW_some] <;> rfl) | (simp only [← hji22]; first | rfl | (simp [errW_none, errW_some] <;> rfl)) | (simp [*, errW_none, errW_some] <;> rfl), bel_⟩
                     · rw [if_neg c25] at H
                       have c25b0 : decide (((rd_T38 l0 x10_1).f0) ≤ ((rd_T38 l0 (ji22)).f0)) = false := decide_eq_false c25
                       clear c25
                       have H' := Aside0.mk H
                       clear H
                       obtain ⟨hcz27_0, hcz27_1, hcz27_2, hcz27_3, hfz27_0, hfz27_1, hfz27_2, hfz27_3⟩ := cz4_ BK176.out
                       have p177 : 0 ≤ ((ji22) : Int) := of_decide_eq_true (by first | (with_reducible assumption) | assumption)
                       have q177 : (ji22) < (l0.length : Int) := of_decide_eq_true (by first | (with_reducible assumption) | assumption)
                       obtain ⟨ad177, e177, hx177_0, hx177_1, hx177_2, hx177_3⟩ := at_T38 HR0.out (ji22) p177 q177
                       obtain rfl : ad175 = ad177 := (by injection e177)
                       replace hx177_0 := (HB.out.cell (World.block_lt_of_cell? w _ hx177_0)).trans hx177_0
                       replace hx177_1 := (HB.out.cell (World.block_lt_of_cell? w _ hx177_1)).trans hx177_1
                       replace hx177_2 := (HB.out.cell (World.block_lt_of_cell? w _ hx177_2)).trans hx177_2
                       replace hx177_3 := (HB.out.cell (World.block_lt_of_cell? w _ hx177_3)).trans hx177_3
                       replace p177 := eq_true p177
                       replace q177 := eq_true q177
                       go_wp2
                       repeat (go_quiet (fail); try go_wp2)
                       go_roundg kj5
                       case measure => have := HK1.out; have := HJ5.out; omega
                       case rel => exact ⟨(wrap64 (x10_1 + 1)), st_, H', ⟨by have := HK1.out; have := HJ5.out; omega⟩, ⟨bel_⟩⟩
                   · rw [if_neg c24] at H
                     exact absurd H (by simp)
                 · rw [if_neg c23] at H
                   exact absurd H (by simp)
               · rw [if_neg c21] at H
                 have c21b0 : decide (0 < x10_1) = false := decide_eq_false c21
                 clear c21
                 have H' := Aside0.mk H
                 clear H
                 go_wp2
                 repeat (go_quiet (fail); try go_wp2)
                 go_roundg kj5
                 case measure => have := HK1.out; have := HJ5.out; omega
                 case rel => exact ⟨(wrap64 (x10_1 + 1)), st_, H', ⟨by have := HK1.out; have := HJ5.out; omega⟩, ⟨bel_⟩⟩
         · rw [if_neg c5] at H
           exact absurd H (by simp)
       · rw [if_neg c4] at H
         exact absurd H (by simp)
     · rw [if_neg c3] at H
       have c3b0 : decide (x10_1 < (l0.length : Int)) = false := decide_eq_false c3
       clear c3
       obtain rfl := Option.some.inj H
       go_wp2
       repeat (go_quiet (fail); try go_wp2)
       go_ret
       exact fin_ bel_
end Go.Proofs.Ytdccjkeiifplnaa.P
