-- kept, by a program of this session, of a text that the printer or this session wrote
import Derived.Test.YtdccjkeiifplnaaZPx0
import Derived.Test.YtdccjkeiifplnaaZPx1032
import Derived.Test.YtdccjkeiifplnaaZPx1034
namespace Go.Proofs.Ytdccjkeiifplnaa.P
open Go.RowKit Go.Proofs.YtdccjkeiifplnaaW.PrintWords Go.Proofs.YtdccjkeiifplnaaW.PrintLast Go.Proofs.YtdccjkeiifplnaaW.PrintMore
attribute [local go_sem] max2_int min2_int max_two min_two max_three min_three max_four min_four
set_option linter.unusedVariables false
set_option linter.unusedSimpArgs false
attribute [local go_sem high] eqA33
mutual
def msg_Check.j0 : Nat → Bool → Int → Int → Int → Int → Bool → Int → Int → Int → Int → Int → Int → Int → Option (Int)
 | 0, _, _, _, _, _, _, _, _, _, _, _, _, _ => none
 | k + 1, x29, x121000, x121001, x121002, x121003, x121004, x121005, x121006, x121007, x121008, x121009, x121010, x121011 => if x29 = true then (some 2) else (if x121000 = 1 then (msg_Check.j1 k true x121000 (x121000 == 1) x121000 x121001 x121002 x121003 x121004 x121005 x121006 x121007 x121008 x121009 x121010 x121011 0 0 0 0 x121004 x121005 x121006 x121007 x121008 x121009 x121010 x121011) else (msg_Check.j1 k true x121000 (x121000 == 2) x121000 x121001 x121002 x121003 x121004 x121005 x121006 x121007 x121008 x121009 x121010 x121011 0 0 0 0 x121004 x121005 x121006 x121007 x121008 x121009 x121010 x121011))
def msg_Check.j1 : Nat → Bool → Int → Bool → Int → Int → Int → Int → Bool → Int → Int → Int → Int → Int → Int → Int → Int → Int → Int → Int → Bool → Int → Int → Int → Int → Int → Int → Int → Option (Int)
 | 0, _, _, _, _, _, _, _, _, _, _, _, _, _, _, _, _, _, _, _, _, _, _, _, _, _, _, _ => none
 | k + 1, x4, x36, x37, x121000, x121001, x121002, x121003, x121004, x121005, x121006, x121007, x121008, x121009, x121010, x121011, x123000, x123001, x123002, x123003, x123004, x123005, x123006, x123007, x123008, x123009, x123010, x123011 => if x37 = true then (if x4 = true then (if (!(x123000 == 0) || (!(x123001 == 0) || (!(x123002 == 0) || (!(x123003 == 0) || ((x123004 || ((!(x123005 == 0) || (!(x123006 == 0))) || (!(x123007 == 0)))) || ((!(x123008 == 0) || (!(x123009 == 0))) || (!(x123010 == 0) || (!(x123011 == 0))))))))) = true then (some 2) else (some 0)) else (some 2)) else (if x36 = 3 then ((msg_acts.f x121008 x121009).bind fun t124 => (if t124 = true then ((addr_Check.f k x121004 x121005 x121006 x121007).bind fun t125 => (if t125 = 0 then (if (!(x123000 == 0) || (!(x123001 == 0) || (!(x123002 == 0) || (!(x123003 == 0) || (!(x123010 == 0) || (!(x123011 == 0))))))) = true then (some 2) else (some 0)) else (some 2))) else (some 2))) else (if x36 = 4 then (if x4 = true then ((addr_Check.f k x121004 x121005 x121006 x121007).bind fun t128 => (if t128 = 0 then (if (!(x123000 == 0) || (!(x123001 == 0) || (!(x123002 == 0) || (!(x123003 == 0) || ((!(x123008 == 0) || (!(x123009 == 0))) || (!(x123010 == 0) || (!(x123011 == 0)))))))) = true then (some 2) else (some 0)) else (some 2))) else (some 2)) else (if x36 = 5 then ((msg_id.f x121011).bind fun t134 => (if t134 = true then ((msg_iface.f x121010).bind fun t135 => (if t135 = true then (if (!(x123000 == 0) || (!(x123001 == 0) || (!(x123002 == 0) || (!(x123003 == 0) || ((x123004 || ((!(x123005 == 0) || (!(x123006 == 0))) || (!(x123007 == 0)))) || ((!(x123008 == 0) || (!(x123009 == 0))))))))) = true then (some 2) else (some 0)) else (some 2))) else (some 2))) else (if x36 = 6 then (if x4 = true then ((msg_iface.f x121010).bind fun t131 => (if t131 = true then (if (!(x123000 == 0) || (!(x123001 == 0) || (!(x123002 == 0) || (!(x123003 == 0) || ((x123004 || ((!(x123005 == 0) || (!(x123006 == 0))) || (!(x123007 == 0)))) || ((!(x123008 == 0) || (!(x123009 == 0))) || (!(x123011 == 0)))))))) = true then (some 2) else (some 0)) else (some 2))) else (some 2)) else (some 2)))))
end
def msg_Check.f (k : Nat) (a0_0 : Int) (a0_1 : Int) (a0_2 : Int) (a0_3 : Int) (a0_4 : Bool) (a0_5 : Int) (a0_6 : Int) (a0_7 : Int) (a0_8 : Int) (a0_9 : Int) (a0_10 : Int) (a0_11 : Int) : Option (Int) := (msg_id.f a0_1).bind fun t121 => (if t121 = true then (if a0_2 = 0 then (msg_Check.j0 k true a0_0 a0_1 a0_2 a0_3 a0_4 a0_5 a0_6 a0_7 a0_8 a0_9 a0_10 a0_11) else (if a0_2 > 1099511627776 then (msg_Check.j0 k true a0_0 a0_1 a0_2 a0_3 a0_4 a0_5 a0_6 a0_7 a0_8 a0_9 a0_10 a0_11) else (if a0_3 < 0 then (msg_Check.j0 k true a0_0 a0_1 a0_2 a0_3 a0_4 a0_5 a0_6 a0_7 a0_8 a0_9 a0_10 a0_11) else (msg_Check.j0 k (decide (a0_3 > 1099511627776)) a0_0 a0_1 a0_2 a0_3 a0_4 a0_5 a0_6 a0_7 a0_8 a0_9 a0_10 a0_11)))) else (msg_Check.j0 k true a0_0 a0_1 a0_2 a0_3 a0_4 a0_5 a0_6 a0_7 a0_8 a0_9 a0_10 a0_11))
theorem msg_Check.mono_l : ∀ k, (∀ y0 y1 y2 y3 y4 y5 y6 y7 y8 y9 y10 y11 y12, LeO (msg_Check.j0 k y0 y1 y2 y3 y4 y5 y6 y7 y8 y9 y10 y11 y12) (msg_Check.j0 (k + 1) y0 y1 y2 y3 y4 y5 y6 y7 y8 y9 y10 y11 y12)) ∧ (∀ y0 y1 y2 y3 y4 y5 y6 y7 y8 y9 y10 y11 y12 y13 y14 y15 y16 y17 y18 y19 y20 y21 y22 y23 y24 y25 y26, LeO (msg_Check.j1 k y0 y1 y2 y3 y4 y5 y6 y7 y8 y9 y10 y11 y12 y13 y14 y15 y16 y17 y18 y19 y20 y21 y22 y23 y24 y25 y26) (msg_Check.j1 (k + 1) y0 y1 y2 y3 y4 y5 y6 y7 y8 y9 y10 y11 y12 y13 y14 y15 y16 y17 y18 y19 y20 y21 y22 y23 y24 y25 y26))
 | 0 => ⟨fun _ _ _ _ _ _ _ _ _ _ _ _ _ r h => by simp [msg_Check.j0] at h, fun _ _ _ _ _ _ _ _ _ _ _ _ _ _ _ _ _ _ _ _ _ _ _ _ _ _ _ r h => by simp [msg_Check.j1] at h⟩
 | k + 1 => by
  obtain ⟨ih0, ih1⟩ := msg_Check.mono_l k
  refine ⟨?_, ?_⟩
  · intro y0 y1 y2 y3 y4 y5 y6 y7 y8 y9 y10 y11 y12
    unfold msg_Check.j0
    repeat' first
    | (with_reducible exact ih0 _ _ _ _ _ _ _ _ _ _ _ _ _)
    | (with_reducible exact ih1 _ _ _ _ _ _ _ _ _ _ _ _ _ _ _ _ _ _ _ _ _ _ _ _ _ _ _)
    | (with_reducible exact addr_Check.mono _ _ _ _ _)
    | (with_reducible exact LeO.refl _)
    | (with_reducible exact LeO.none _)
    | (with_reducible refine LeO.ite ?_ ?_)
    | (with_reducible refine LeO.bind ?_ (fun _ => ?_))
    | exact ih0 _ _ _ _ _ _ _ _ _ _ _ _ _
    | exact ih1 _ _ _ _ _ _ _ _ _ _ _ _ _ _ _ _ _ _ _ _ _ _ _ _ _ _ _
    | exact addr_Check.mono _ _ _ _ _
    | exact LeO.none _
    | refine LeO.ite ?_ ?_
    | refine LeO.bind ?_ (fun _ => ?_)
  · intro y0 y1 y2 y3 y4 y5 y6 y7 y8 y9 y10 y11 y12 y13 y14 y15 y16 y17 y18 y19 y20 y21 y22 y23 y24 y25 y26
    unfold msg_Check.j1
    repeat' first
    | (with_reducible exact ih0 _ _ _ _ _ _ _ _ _ _ _ _ _)
    | (with_reducible exact ih1 _ _ _ _ _ _ _ _ _ _ _ _ _ _ _ _ _ _ _ _ _ _ _ _ _ _ _)
    | (with_reducible exact addr_Check.mono _ _ _ _ _)
    | (with_reducible exact LeO.refl _)
    | (with_reducible exact LeO.none _)
    | (with_reducible refine LeO.ite ?_ ?_)
    | (with_reducible refine LeO.bind ?_ (fun _ => ?_))
    | exact ih0 _ _ _ _ _ _ _ _ _ _ _ _ _
    | exact ih1 _ _ _ _ _ _ _ _ _ _ _ _ _ _ _ _ _ _ _ _ _ _ _ _ _ _ _
    | exact addr_Check.mono _ _ _ _ _
    | exact LeO.none _
    | refine LeO.ite ?_ ?_
    | refine LeO.bind ?_ (fun _ => ?_)
theorem msg_Check.mono : ∀ a0 a1 a2 a3 a4 a5 a6 a7 a8 a9 a10 a11 k, LeO (msg_Check.f k a0 a1 a2 a3 a4 a5 a6 a7 a8 a9 a10 a11) (msg_Check.f (k + 1) a0 a1 a2 a3 a4 a5 a6 a7 a8 a9 a10 a11) := by
 intro a0 a1 a2 a3 a4 a5 a6 a7 a8 a9 a10 a11 k
 obtain ⟨ih0, ih1⟩ := msg_Check.mono_l k
 unfold msg_Check.f
 repeat' first
  | (with_reducible exact ih0 _ _ _ _ _ _ _ _ _ _ _ _ _)
  | (with_reducible exact ih1 _ _ _ _ _ _ _ _ _ _ _ _ _ _ _ _ _ _ _ _ _ _ _ _ _ _ _)
  | (with_reducible exact addr_Check.mono _ _ _ _ _)
  | (with_reducible exact LeO.refl _)
  | (with_reducible exact LeO.none _)
  | (with_reducible refine LeO.ite ?_ ?_)
  | (with_reducible refine LeO.bind ?_ (fun _ => ?_))
  | exact ih0 _ _ _ _ _ _ _ _ _ _ _ _ _
  | exact ih1 _ _ _ _ _ _ _ _ _ _ _ _ _ _ _ _ _ _ _ _ _ _ _ _ _ _ _
  | exact addr_Check.mono _ _ _ _ _
  | exact LeO.none _
  | refine LeO.ite ?_ ?_
  | refine LeO.bind ?_ (fun _ => ?_)
set_option maxHeartbeats 8000000 in
set_option maxRecDepth 100000 in
theorem msg_Check.calls (k : Nat) (a0_0 : Int) (a0_1 : Int) (a0_2 : Int) (a0_3 : Int) (a0_4 : Bool) (a0_5 : Int) (a0_6 : Int) (a0_7 : Int) (a0_8 : Int) (a0_9 : Int) (a0_10 : Int) (a0_11 : Int) (r : Int) (w : World) (h : msg_Check.f k a0_0 a0_1 a0_2 a0_3 a0_4 a0_5 a0_6 a0_7 a0_8 a0_9 a0_10 a0_11 = some r) :
 Calls Try.prog 26 #[.agg #[.int .u8 a0_0, .int .i64 a0_1, .int .u64 a0_2, .int .i64 a0_3, .bool a0_4, .int .u64 a0_5, .int .u64 a0_6, .int .i64 a0_7, .int .u8 a0_8, .int .i64 a0_9, .int .i64 a0_10, .int .i64 a0_11]] w fun e w' => e = .returned (.int .i64 r) ∧ Below w.heap.size w w' := by
 have hu33 := Try.underlying33
 have hu31 := Try.underlying31
 have hu28 := Try.underlying28
 have HB := Aside0.mk (Below.refl w.heap.size w)
 have H : ((msg_id.f a0_1).bind fun t121 => (if t121 = true then (if a0_2 = 0 then (msg_Check.j0 k true a0_0 a0_1 a0_2 a0_3 a0_4 a0_5 a0_6 a0_7 a0_8 a0_9 a0_10 a0_11) else (if a0_2 > 1099511627776 then (msg_Check.j0 k true a0_0 a0_1 a0_2 a0_3 a0_4 a0_5 a0_6 a0_7 a0_8 a0_9 a0_10 a0_11) else (if a0_3 < 0 then (msg_Check.j0 k true a0_0 a0_1 a0_2 a0_3 a0_4 a0_5 a0_6 a0_7 a0_8 a0_9 a0_10 a0_11) else (msg_Check.j0 k (decide (a0_3 > 1099511627776)) a0_0 a0_1 a0_2 a0_3 a0_4 a0_5 a0_6 a0_7 a0_8 a0_9 a0_10 a0_11)))) else (msg_Check.j0 k true a0_0 a0_1 a0_2 a0_3 a0_4 a0_5 a0_6 a0_7 a0_8 a0_9 a0_10 a0_11))) = some r := h
 clear h
 have HC2 := Aside0.mk H
 clear H
 go_enter Try.func26, Try.ntmps26
 go_upto_region 1 with (first | ((with_reducible refine gate_dst (N := 1) rfl ?_); refine box_event ?hg (N := 1) ?hd (cs := #[.int .u8 a0_0, .int .i64 a0_1, .int .u64 a0_2, .int .i64 a0_3, .bool a0_4, .int .u64 a0_5, .int .u64 a0_6, .int .i64 a0_7, .int .u8 a0_8, .int .i64 a0_9, .int .i64 a0_10, .int .i64 a0_11]) (t := 33) ?hr ?_; (case hd => rfl); (case hg => rfl); (case hr => first | (go_simp; done) | (go_simp; rfl)); intro gb120 hg w3 hbox hb; have n0_ := Aside0.mk (below_step bel_ hb); have n1_ := Aside0.mk (hbox); have n2_ := Aside0.mk ((by rw [hg]; exact (below_size bel_) : w.heap.size ≤ gb120)); have n3_ := Aside0.mk ((by rw [hg]; exact (below_size bel_) : w.heap.size ≤ gb120)); clear HB; have HB := n0_; have BK120 := n1_; have GW120 := n2_; have GE120 := n3_; clear n0_ n1_ n2_ n3_; clear hb hbox hg))
 (try simp only [Act.put, List.setIfInBounds_toArray, List.set_cons_zero, List.set_cons_succ])
 go_cut [29] (fun v29 wc => ∃ (kq : Nat) (x29_1 : Bool), v29 = .bool x29_1 ∧ Aside0 (msg_Check.j0 kq x29_1 a0_0 a0_1 a0_2 a0_3 a0_4 a0_5 a0_6 a0_7 a0_8 a0_9 a0_10 a0_11 = some r) ∧ Aside0 (kq ≤ k) ∧ Aside0 (wc.heap[gb120]? = some (.cells #[.int .u8 a0_0, .int .i64 a0_1, .int .u64 a0_2, .int .i64 a0_3, .bool a0_4, .int .u64 a0_5, .int .u64 a0_6, .int .i64 a0_7, .int .u8 a0_8, .int .i64 a0_9, .int .i64 a0_10, .int .i64 a0_11] 33 (0, 0))) ∧ Aside0 (Below w.heap.size w wc))
 case first =>
  have H := HC2.out
  clear HC2
  replace H := Option.bind_eq_some_iff.mp H
  obtain ⟨t121, A40, H⟩ := H
  replace H : (if t121 = true then (if a0_2 = 0 then (msg_Check.j0 k true a0_0 a0_1 a0_2 a0_3 a0_4 a0_5 a0_6 a0_7 a0_8 a0_9 a0_10 a0_11) else (if a0_2 > 1099511627776 then (msg_Check.j0 k true a0_0 a0_1 a0_2 a0_3 a0_4 a0_5 a0_6 a0_7 a0_8 a0_9 a0_10 a0_11) else (if a0_3 < 0 then (msg_Check.j0 k true a0_0 a0_1 a0_2 a0_3 a0_4 a0_5 a0_6 a0_7 a0_8 a0_9 a0_10 a0_11) else (msg_Check.j0 k (decide (a0_3 > 1099511627776)) a0_0 a0_1 a0_2 a0_3 a0_4 a0_5 a0_6 a0_7 a0_8 a0_9 a0_10 a0_11)))) else (msg_Check.j0 k true a0_0 a0_1 a0_2 a0_3 a0_4 a0_5 a0_6 a0_7 a0_8 a0_9 a0_10 a0_11)) = some r := H
  have A4 := Aside0.mk A40
  clear A40
  by_cases c5 : t121 = true
  · subst c5
    have H1 : (if a0_2 = 0 then (msg_Check.j0 k true a0_0 a0_1 a0_2 a0_3 a0_4 a0_5 a0_6 a0_7 a0_8 a0_9 a0_10 a0_11) else (if a0_2 > 1099511627776 then (msg_Check.j0 k true a0_0 a0_1 a0_2 a0_3 a0_4 a0_5 a0_6 a0_7 a0_8 a0_9 a0_10 a0_11) else (if a0_3 < 0 then (msg_Check.j0 k true a0_0 a0_1 a0_2 a0_3 a0_4 a0_5 a0_6 a0_7 a0_8 a0_9 a0_10 a0_11) else (msg_Check.j0 k (decide (a0_3 > 1099511627776)) a0_0 a0_1 a0_2 a0_3 a0_4 a0_5 a0_6 a0_7 a0_8 a0_9 a0_10 a0_11)))) = some r := by rw [if_pos rfl] at H; exact H
    clear H
    have H := H1
    clear H1
    by_cases c6 : a0_2 = 0
    · rw [if_pos c6] at H
      have c6b0 : (a0_2 == 0) = true := beq_iff_eq.mpr c6
      have c6b1 : (a0_2 != 0) = false := bne_eq_false_iff_eq.mpr c6
      clear c6
      (first | rw [c6b0] | (simp only [i64_w, i32_w]; rw [c6b0]) | skip)
      have H' := Aside0.mk H
      clear H
      have hcz7_0 : w3.cell? ⟨gb120, 0, none⟩ = some (.int .u8 a0_0) := (blk_cell BK120.out 0).trans rfl
      have hcz7_1 : w3.cell? ⟨gb120, 1, none⟩ = some (.int .i64 a0_1) := (blk_cell BK120.out 1).trans rfl
      have hcz7_2 : w3.cell? ⟨gb120, 2, none⟩ = some (.int .u64 a0_2) := (blk_cell BK120.out 2).trans rfl
      have hcz7_3 : w3.cell? ⟨gb120, 3, none⟩ = some (.int .i64 a0_3) := (blk_cell BK120.out 3).trans rfl
      have hcz7_4 : w3.cell? ⟨gb120, 4, none⟩ = some (.bool a0_4) := (blk_cell BK120.out 4).trans rfl
      have hcz7_5 : w3.cell? ⟨gb120, 5, none⟩ = some (.int .u64 a0_5) := (blk_cell BK120.out 5).trans rfl
      have hcz7_6 : w3.cell? ⟨gb120, 6, none⟩ = some (.int .u64 a0_6) := (blk_cell BK120.out 6).trans rfl
      have hcz7_7 : w3.cell? ⟨gb120, 7, none⟩ = some (.int .i64 a0_7) := (blk_cell BK120.out 7).trans rfl
      have hcz7_8 : w3.cell? ⟨gb120, 8, none⟩ = some (.int .u8 a0_8) := (blk_cell BK120.out 8).trans rfl
      have hcz7_9 : w3.cell? ⟨gb120, 9, none⟩ = some (.int .i64 a0_9) := (blk_cell BK120.out 9).trans rfl
      have hcz7_10 : w3.cell? ⟨gb120, 10, none⟩ = some (.int .i64 a0_10) := (blk_cell BK120.out 10).trans rfl
      have hcz7_11 : w3.cell? ⟨gb120, 11, none⟩ = some (.int .i64 a0_11) := (blk_cell BK120.out 11).trans rfl
      have hfz7_0 := blk_frozen BK120.out 0
      have hfz7_1 := blk_frozen BK120.out 1
      have hfz7_2 := blk_frozen BK120.out 2
      have hfz7_3 := blk_frozen BK120.out 3
      have hfz7_4 := blk_frozen BK120.out 4
      have hfz7_5 := blk_frozen BK120.out 5
      have hfz7_6 := blk_frozen BK120.out 6
      have hfz7_7 := blk_frozen BK120.out 7
      have hfz7_8 := blk_frozen BK120.out 8
      have hfz7_9 := blk_frozen BK120.out 9
      have hfz7_10 := blk_frozen BK120.out 10
      have hfz7_11 := blk_frozen BK120.out 11
      go_wp2_with (first | ((with_reducible refine gate_callee (f := 32) rfl ?_); refine goesL_ (some 8) rfl rfl Try.func32 (by kernel_rfl) rfl #[.int .i64 a0_1] rfl args_ ?_; (with_reducible refine (msg_id.calls a0_1 true _ A4.out).mono ?_); rintro e w' ⟨rfl, ⟨nd, rfl⟩⟩; refine ⟨_, rfl, ?_⟩))
      go_meet
      case rel => exact ⟨_, (true), (by first | rfl | (simp; done) | (simp [*]; done)), H', ⟨by first | omega | exact Nat.le_refl _⟩, ⟨by refine blkU ?_; exact BK120.out⟩, ⟨bel_⟩⟩
    · rw [if_neg c6] at H
      have c6b0 : (a0_2 == 0) = false := beq_eq_false_iff_ne.mpr c6
      have c6b1 : (a0_2 != 0) = true := bne_iff_ne.mpr c6
      (first | rw [c6b0] | (simp only [i64_w, i32_w]; rw [c6b0]) | skip)
      by_cases c8 : a0_2 > 1099511627776
      · rw [if_pos c8] at H
        have c8b0 : decide (1099511627776 < a0_2) = true := decide_eq_true c8
        clear c8
        have H' := Aside0.mk H
        clear H
        have hcz9_0 : w3.cell? ⟨gb120, 0, none⟩ = some (.int .u8 a0_0) := (blk_cell BK120.out 0).trans rfl
        have hcz9_1 : w3.cell? ⟨gb120, 1, none⟩ = some (.int .i64 a0_1) := (blk_cell BK120.out 1).trans rfl
        have hcz9_2 : w3.cell? ⟨gb120, 2, none⟩ = some (.int .u64 a0_2) := (blk_cell BK120.out 2).trans rfl
        have hcz9_3 : w3.cell? ⟨gb120, 3, none⟩ = some (.int .i64 a0_3) := (blk_cell BK120.out 3).trans rfl
        have hcz9_4 : w3.cell? ⟨gb120, 4, none⟩ = some (.bool a0_4) := (blk_cell BK120.out 4).trans rfl
        have hcz9_5 : w3.cell? ⟨gb120, 5, none⟩ = some (.int .u64 a0_5) := (blk_cell BK120.out 5).trans rfl
        have hcz9_6 : w3.cell? ⟨gb120, 6, none⟩ = some (.int .u64 a0_6) := (blk_cell BK120.out 6).trans rfl
        have hcz9_7 : w3.cell? ⟨gb120, 7, none⟩ = some (.int .i64 a0_7) := (blk_cell BK120.out 7).trans rfl
        have hcz9_8 : w3.cell? ⟨gb120, 8, none⟩ = some (.int .u8 a0_8) := (blk_cell BK120.out 8).trans rfl
        have hcz9_9 : w3.cell? ⟨gb120, 9, none⟩ = some (.int .i64 a0_9) := (blk_cell BK120.out 9).trans rfl
        have hcz9_10 : w3.cell? ⟨gb120, 10, none⟩ = some (.int .i64 a0_10) := (blk_cell BK120.out 10).trans rfl
        have hcz9_11 : w3.cell? ⟨gb120, 11, none⟩ = some (.int .i64 a0_11) := (blk_cell BK120.out 11).trans rfl
        have hfz9_0 := blk_frozen BK120.out 0
        have hfz9_1 := blk_frozen BK120.out 1
        have hfz9_2 := blk_frozen BK120.out 2
        have hfz9_3 := blk_frozen BK120.out 3
        have hfz9_4 := blk_frozen BK120.out 4
        have hfz9_5 := blk_frozen BK120.out 5
        have hfz9_6 := blk_frozen BK120.out 6
        have hfz9_7 := blk_frozen BK120.out 7
        have hfz9_8 := blk_frozen BK120.out 8
        have hfz9_9 := blk_frozen BK120.out 9
        have hfz9_10 := blk_frozen BK120.out 10
        have hfz9_11 := blk_frozen BK120.out 11
        go_wp2_with (first | ((with_reducible refine gate_callee (f := 32) rfl ?_); refine goesL_ (some 8) rfl rfl Try.func32 (by kernel_rfl) rfl #[.int .i64 a0_1] rfl args_ ?_; (with_reducible refine (msg_id.calls a0_1 true _ A4.out).mono ?_); rintro e w' ⟨rfl, ⟨nd, rfl⟩⟩; refine ⟨_, rfl, ?_⟩))
        go_meet
        case rel => exact ⟨_, (true), (by first | rfl | (simp; done) | (simp [*]; done)), H', ⟨by first | omega | exact Nat.le_refl _⟩, ⟨by refine blkU ?_; exact BK120.out⟩, ⟨bel_⟩⟩
      · rw [if_neg c8] at H
        have c8b0 : decide (1099511627776 < a0_2) = false := decide_eq_false c8
        clear c8
        by_cases c10 : a0_3 < 0
        · rw [if_pos c10] at H
          have c10b0 : decide (a0_3 < 0) = true := decide_eq_true c10
          clear c10
          have H' := Aside0.mk H
          clear H
          have hcz11_0 : w3.cell? ⟨gb120, 0, none⟩ = some (.int .u8 a0_0) := (blk_cell BK120.out 0).trans rfl
          have hcz11_1 : w3.cell? ⟨gb120, 1, none⟩ = some (.int .i64 a0_1) := (blk_cell BK120.out 1).trans rfl
          have hcz11_2 : w3.cell? ⟨gb120, 2, none⟩ = some (.int .u64 a0_2) := (blk_cell BK120.out 2).trans rfl
          have hcz11_3 : w3.cell? ⟨gb120, 3, none⟩ = some (.int .i64 a0_3) := (blk_cell BK120.out 3).trans rfl
          have hcz11_4 : w3.cell? ⟨gb120, 4, none⟩ = some (.bool a0_4) := (blk_cell BK120.out 4).trans rfl
          have hcz11_5 : w3.cell? ⟨gb120, 5, none⟩ = some (.int .u64 a0_5) := (blk_cell BK120.out 5).trans rfl
          have hcz11_6 : w3.cell? ⟨gb120, 6, none⟩ = some (.int .u64 a0_6) := (blk_cell BK120.out 6).trans rfl
          have hcz11_7 : w3.cell? ⟨gb120, 7, none⟩ = some (.int .i64 a0_7) := (blk_cell BK120.out 7).trans rfl
          have hcz11_8 : w3.cell? ⟨gb120, 8, none⟩ = some (.int .u8 a0_8) := (blk_cell BK120.out 8).trans rfl
          have hcz11_9 : w3.cell? ⟨gb120, 9, none⟩ = some (.int .i64 a0_9) := (blk_cell BK120.out 9).trans rfl
          have hcz11_10 : w3.cell? ⟨gb120, 10, none⟩ = some (.int .i64 a0_10) := (blk_cell BK120.out 10).trans rfl
          have hcz11_11 : w3.cell? ⟨gb120, 11, none⟩ = some (.int .i64 a0_11) := (blk_cell BK120.out 11).trans rfl
          have hfz11_0 := blk_frozen BK120.out 0
          have hfz11_1 := blk_frozen BK120.out 1
          have hfz11_2 := blk_frozen BK120.out 2
          have hfz11_3 := blk_frozen BK120.out 3
          have hfz11_4 := blk_frozen BK120.out 4
          have hfz11_5 := blk_frozen BK120.out 5
          have hfz11_6 := blk_frozen BK120.out 6
          have hfz11_7 := blk_frozen BK120.out 7
          have hfz11_8 := blk_frozen BK120.out 8
          have hfz11_9 := blk_frozen BK120.out 9
          have hfz11_10 := blk_frozen BK120.out 10
          have hfz11_11 := blk_frozen BK120.out 11
          go_wp2_with (first | ((with_reducible refine gate_callee (f := 32) rfl ?_); refine goesL_ (some 8) rfl rfl Try.func32 (by kernel_rfl) rfl #[.int .i64 a0_1] rfl args_ ?_; (with_reducible refine (msg_id.calls a0_1 true _ A4.out).mono ?_); rintro e w' ⟨rfl, ⟨nd, rfl⟩⟩; refine ⟨_, rfl, ?_⟩))
          go_meet
          case rel => exact ⟨_, (true), (by first | rfl | (simp; done) | (simp [*]; done)), H', ⟨by first | omega | exact Nat.le_refl _⟩, ⟨by refine blkU ?_; exact BK120.out⟩, ⟨bel_⟩⟩
        · rw [if_neg c10] at H
          have c10b0 : decide (a0_3 < 0) = false := decide_eq_false c10
          clear c10
          have H' := Aside0.mk H
          clear H
          have hcz12_0 : w3.cell? ⟨gb120, 0, none⟩ = some (.int .u8 a0_0) := (blk_cell BK120.out 0).trans rfl
          have hcz12_1 : w3.cell? ⟨gb120, 1, none⟩ = some (.int .i64 a0_1) := (blk_cell BK120.out 1).trans rfl
          have hcz12_2 : w3.cell? ⟨gb120, 2, none⟩ = some (.int .u64 a0_2) := (blk_cell BK120.out 2).trans rfl
          have hcz12_3 : w3.cell? ⟨gb120, 3, none⟩ = some (.int .i64 a0_3) := (blk_cell BK120.out 3).trans rfl
          have hcz12_4 : w3.cell? ⟨gb120, 4, none⟩ = some (.bool a0_4) := (blk_cell BK120.out 4).trans rfl
          have hcz12_5 : w3.cell? ⟨gb120, 5, none⟩ = some (.int .u64 a0_5) := (blk_cell BK120.out 5).trans rfl
          have hcz12_6 : w3.cell? ⟨gb120, 6, none⟩ = some (.int .u64 a0_6) := (blk_cell BK120.out 6).trans rfl
          have hcz12_7 : w3.cell? ⟨gb120, 7, none⟩ = some (.int .i64 a0_7) := (blk_cell BK120.out 7).trans rfl
          have hcz12_8 : w3.cell? ⟨gb120, 8, none⟩ = some (.int .u8 a0_8) := (blk_cell BK120.out 8).trans rfl
          have hcz12_9 : w3.cell? ⟨gb120, 9, none⟩ = some (.int .i64 a0_9) := (blk_cell BK120.out 9).trans rfl
          have hcz12_10 : w3.cell? ⟨gb120, 10, none⟩ = some (.int .i64 a0_10) := (blk_cell BK120.out 10).trans rfl
          have hcz12_11 : w3.cell? ⟨gb120, 11, none⟩ = some (.int .i64 a0_11) := (blk_cell BK120.out 11).trans rfl
          have hfz12_0 := blk_frozen BK120.out 0
          have hfz12_1 := blk_frozen BK120.out 1
          have hfz12_2 := blk_frozen BK120.out 2
          have hfz12_3 := blk_frozen BK120.out 3
          have hfz12_4 := blk_frozen BK120.out 4
          have hfz12_5 := blk_frozen BK120.out 5
          have hfz12_6 := blk_frozen BK120.out 6
          have hfz12_7 := blk_frozen BK120.out 7
          have hfz12_8 := blk_frozen BK120.out 8
          have hfz12_9 := blk_frozen BK120.out 9
          have hfz12_10 := blk_frozen BK120.out 10
          have hfz12_11 := blk_frozen BK120.out 11
          go_wp2_with (first | ((with_reducible refine gate_callee (f := 32) rfl ?_); refine goesL_ (some 8) rfl rfl Try.func32 (by kernel_rfl) rfl #[.int .i64 a0_1] rfl args_ ?_; (with_reducible refine (msg_id.calls a0_1 true _ A4.out).mono ?_); rintro e w' ⟨rfl, ⟨nd, rfl⟩⟩; refine ⟨_, rfl, ?_⟩))
          go_meet
          case rel => exact ⟨_, (decide (a0_3 > 1099511627776)), (by first | rfl | (simp; done) | (simp [*]; done)), H', ⟨by first | omega | exact Nat.le_refl _⟩, ⟨by refine blkU ?_; exact BK120.out⟩, ⟨bel_⟩⟩
  · replace c5 := Bool.eq_false_iff.mpr c5
    subst c5
    have H1 : (msg_Check.j0 k true a0_0 a0_1 a0_2 a0_3 a0_4 a0_5 a0_6 a0_7 a0_8 a0_9 a0_10 a0_11) = some r := by rw [if_neg (show ¬ (false = true) by decide)] at H; exact H
    clear H
    have H := H1
    clear H1
    have H' := Aside0.mk H
    clear H
    have hcz13_0 : w3.cell? ⟨gb120, 0, none⟩ = some (.int .u8 a0_0) := (blk_cell BK120.out 0).trans rfl
    have hcz13_1 : w3.cell? ⟨gb120, 1, none⟩ = some (.int .i64 a0_1) := (blk_cell BK120.out 1).trans rfl
    have hcz13_2 : w3.cell? ⟨gb120, 2, none⟩ = some (.int .u64 a0_2) := (blk_cell BK120.out 2).trans rfl
    have hcz13_3 : w3.cell? ⟨gb120, 3, none⟩ = some (.int .i64 a0_3) := (blk_cell BK120.out 3).trans rfl
    have hcz13_4 : w3.cell? ⟨gb120, 4, none⟩ = some (.bool a0_4) := (blk_cell BK120.out 4).trans rfl
    have hcz13_5 : w3.cell? ⟨gb120, 5, none⟩ = some (.int .u64 a0_5) := (blk_cell BK120.out 5).trans rfl
    have hcz13_6 : w3.cell? ⟨gb120, 6, none⟩ = some (.int .u64 a0_6) := (blk_cell BK120.out 6).trans rfl
    have hcz13_7 : w3.cell? ⟨gb120, 7, none⟩ = some (.int .i64 a0_7) := (blk_cell BK120.out 7).trans rfl
    have hcz13_8 : w3.cell? ⟨gb120, 8, none⟩ = some (.int .u8 a0_8) := (blk_cell BK120.out 8).trans rfl
    have hcz13_9 : w3.cell? ⟨gb120, 9, none⟩ = some (.int .i64 a0_9) := (blk_cell BK120.out 9).trans rfl
    have hcz13_10 : w3.cell? ⟨gb120, 10, none⟩ = some (.int .i64 a0_10) := (blk_cell BK120.out 10).trans rfl
    have hcz13_11 : w3.cell? ⟨gb120, 11, none⟩ = some (.int .i64 a0_11) := (blk_cell BK120.out 11).trans rfl
    have hfz13_0 := blk_frozen BK120.out 0
    have hfz13_1 := blk_frozen BK120.out 1
    have hfz13_2 := blk_frozen BK120.out 2
    have hfz13_3 := blk_frozen BK120.out 3
    have hfz13_4 := blk_frozen BK120.out 4
    have hfz13_5 := blk_frozen BK120.out 5
    have hfz13_6 := blk_frozen BK120.out 6
    have hfz13_7 := blk_frozen BK120.out 7
    have hfz13_8 := blk_frozen BK120.out 8
    have hfz13_9 := blk_frozen BK120.out 9
    have hfz13_10 := blk_frozen BK120.out 10
    have hfz13_11 := blk_frozen BK120.out 11
    go_wp2_with (first | ((with_reducible refine gate_callee (f := 32) rfl ?_); refine goesL_ (some 8) rfl rfl Try.func32 (by kernel_rfl) rfl #[.int .i64 a0_1] rfl args_ ?_; (with_reducible refine (msg_id.calls a0_1 false _ A4.out).mono ?_); rintro e w' ⟨rfl, ⟨nd, rfl⟩⟩; refine ⟨_, rfl, ?_⟩))
    go_meet
    case rel => exact ⟨_, (true), (by first | rfl | (simp; done) | (simp [*]; done)), H', ⟨by first | omega | exact Nat.le_refl _⟩, ⟨by refine blkU ?_; exact BK120.out⟩, ⟨bel_⟩⟩
 case rest =>
  clear HC2; try clear c1; try clear c2; try clear p2; try clear c3; try clear c5; try clear c6; try clear c6b0; try clear c6b1; try clear c8; try clear c8b0; try clear c10; try clear c10b0; try clear hcz11_0; try clear hcz11_1; try clear hcz11_10; try clear hcz11_11; try clear hcz11_2; try clear hcz11_3; try clear hcz11_4; try clear hcz11_5; try clear hcz11_6; try clear hcz11_7; try clear hcz11_8; try clear hcz11_9; try clear hcz12_0; try clear hcz12_1; try clear hcz12_10; try clear hcz12_11; try clear hcz12_2; try clear hcz12_3; try clear hcz12_4; try clear hcz12_5; try clear hcz12_6; try clear hcz12_7; try clear hcz12_8; try clear hcz12_9; try clear hcz13_0; try clear hcz13_1; try clear hcz13_10; try clear hcz13_11; try clear hcz13_2; try clear hcz13_3; try clear hcz13_4; try clear hcz13_5; try clear hcz13_6; try clear hcz13_7; try clear hcz13_8; try clear hcz13_9; try clear hcz7_0; try clear hcz7_1; try clear hcz7_10; try clear hcz7_11; try clear hcz7_2; try clear hcz7_3; try clear hcz7_4; try clear hcz7_5; try clear hcz7_6; try clear hcz7_7; try clear hcz7_8; try clear hcz7_9; try clear hcz9_0; try clear hcz9_1; try clear hcz9_10; try clear hcz9_11; try clear hcz9_2; try clear hcz9_3; try clear hcz9_4; try clear hcz9_5; try clear hcz9_6; try clear hcz9_7; try clear hcz9_8; try clear hcz9_9; try clear hfz11_0; try clear hfz11_1; try clear hfz11_10; try clear hfz11_11; try clear hfz11_2; try clear hfz11_3; try clear hfz11_4; try clear hfz11_5; try clear hfz11_6; try clear hfz11_7; try clear hfz11_8; try clear hfz11_9; try clear hfz12_0; try clear hfz12_1; try clear hfz12_10; try clear hfz12_11; try clear hfz12_2; try clear hfz12_3; try clear hfz12_4; try clear hfz12_5; try clear hfz12_6; try clear hfz12_7; try clear hfz12_8; try clear hfz12_9; try clear hfz13_0; try clear hfz13_1; try clear hfz13_10; try clear hfz13_11; try clear hfz13_2; try clear hfz13_3; try clear hfz13_4; try clear hfz13_5; try clear hfz13_6; try clear hfz13_7; try clear hfz13_8; try clear hfz13_9; try clear hfz7_0; try clear hfz7_1; try clear hfz7_10; try clear hfz7_11; try clear hfz7_2; try clear hfz7_3; try clear hfz7_4; try clear hfz7_5; try clear hfz7_6; try clear hfz7_7; try clear hfz7_8; try clear hfz7_9; try clear hfz9_0; try clear hfz9_1; try clear hfz9_10; try clear hfz9_11; try clear hfz9_2; try clear hfz9_3; try clear hfz9_4; try clear hfz9_5; try clear hfz9_6; try clear hfz9_7; try clear hfz9_8; try clear hfz9_9
  obtain ⟨kq, x29_1, rfl, HA, HJ1, BK120, HB⟩ := hcut
  cases kq with
  | zero => exact absurd HA.out (by simp [msg_Check.j0])
  | succ kj1 =>
   have H := HA.out
   clear HA
   simp only [msg_Check.j0] at H
   by_cases c14 : x29_1 = true
   · subst c14
     have H1 : (some 2) = some r := by rw [if_pos rfl] at H; exact H
     clear H
     have H := H1
     clear H1
     obtain rfl := Option.some.inj H
     go_wp2
     go_ret
     exact ⟨by first | rfl | (simp [errW_none, errW_some] <;> rfl) | (simp [*, errW_none, errW_some] <;> rfl), bel_⟩
   · replace c14 := Bool.eq_false_iff.mpr c14
     subst c14
     have H1 : (if a0_0 = 1 then (msg_Check.j1 kj1 true a0_0 (a0_0 == 1) a0_0 a0_1 a0_2 a0_3 a0_4 a0_5 a0_6 a0_7 a0_8 a0_9 a0_10 a0_11 0 0 0 0 a0_4 a0_5 a0_6 a0_7 a0_8 a0_9 a0_10 a0_11) else (msg_Check.j1 kj1 true a0_0 (a0_0 == 2) a0_0 a0_1 a0_2 a0_3 a0_4 a0_5 a0_6 a0_7 a0_8 a0_9 a0_10 a0_11 0 0 0 0 a0_4 a0_5 a0_6 a0_7 a0_8 a0_9 a0_10 a0_11)) = some r := by rw [if_neg (show ¬ (false = true) by decide)] at H; exact H
     clear H
     have H := H1
     clear H1
     have HC15 := Aside0.mk H
     clear H
     have hcz16_0 : wc.cell? ⟨gb120, 0, none⟩ = some (.int .u8 a0_0) := (blk_cell BK120.out 0).trans rfl
     have hcz16_1 : wc.cell? ⟨gb120, 1, none⟩ = some (.int .i64 a0_1) := (blk_cell BK120.out 1).trans rfl
     have hcz16_2 : wc.cell? ⟨gb120, 2, none⟩ = some (.int .u64 a0_2) := (blk_cell BK120.out 2).trans rfl
     have hcz16_3 : wc.cell? ⟨gb120, 3, none⟩ = some (.int .i64 a0_3) := (blk_cell BK120.out 3).trans rfl
     have hcz16_4 : wc.cell? ⟨gb120, 4, none⟩ = some (.bool a0_4) := (blk_cell BK120.out 4).trans rfl
     have hcz16_5 : wc.cell? ⟨gb120, 5, none⟩ = some (.int .u64 a0_5) := (blk_cell BK120.out 5).trans rfl
     have hcz16_6 : wc.cell? ⟨gb120, 6, none⟩ = some (.int .u64 a0_6) := (blk_cell BK120.out 6).trans rfl
     have hcz16_7 : wc.cell? ⟨gb120, 7, none⟩ = some (.int .i64 a0_7) := (blk_cell BK120.out 7).trans rfl
     have hcz16_8 : wc.cell? ⟨gb120, 8, none⟩ = some (.int .u8 a0_8) := (blk_cell BK120.out 8).trans rfl
     have hcz16_9 : wc.cell? ⟨gb120, 9, none⟩ = some (.int .i64 a0_9) := (blk_cell BK120.out 9).trans rfl
     have hcz16_10 : wc.cell? ⟨gb120, 10, none⟩ = some (.int .i64 a0_10) := (blk_cell BK120.out 10).trans rfl
     have hcz16_11 : wc.cell? ⟨gb120, 11, none⟩ = some (.int .i64 a0_11) := (blk_cell BK120.out 11).trans rfl
     have hfz16_0 := blk_frozen BK120.out 0
     have hfz16_1 := blk_frozen BK120.out 1
     have hfz16_2 := blk_frozen BK120.out 2
     have hfz16_3 := blk_frozen BK120.out 3
     have hfz16_4 := blk_frozen BK120.out 4
     have hfz16_5 := blk_frozen BK120.out 5
     have hfz16_6 := blk_frozen BK120.out 6
     have hfz16_7 := blk_frozen BK120.out 7
     have hfz16_8 := blk_frozen BK120.out 8
     have hfz16_9 := blk_frozen BK120.out 9
     have hfz16_10 := blk_frozen BK120.out 10
     have hfz16_11 := blk_frozen BK120.out 11
     go_upto_if 37 with (first | ((with_reducible refine gate_dst (N := 3) rfl ?_); refine box_event ?hg (N := 3) ?hd (cs := #[.int .u8 0, .int .i64 0, .int .u64 0, .int .i64 0, .bool false, .int .u64 0, .int .u64 0, .int .i64 0, .int .u8 0, .int .i64 0, .int .i64 0, .int .i64 0]) (t := 33) ?hr ?_; (case hd => rfl); (case hg => rfl); (case hr => first | (go_simp; done) | (go_simp; rfl)); intro gb122 hg w17 hbox hb; have n0_ := Aside0.mk (blk_below (blkU BK120.out) hb); have n1_ := Aside0.mk (below_step bel_ hb); have n2_ := Aside0.mk (hbox); have n3_ := Aside0.mk ((by rw [hg]; exact (below_size bel_) : w.heap.size ≤ gb122)); have n4_ := Aside0.mk ((by rw [hg]; exact (below_size bel_) : w.heap.size ≤ gb122)); have n5_ := Aside0.mk ((by rw [hg]; exact Nat.ne_of_lt (blk_lt (blkU BK120.out)) : gb120 ≠ gb122)); have n6_ := Aside0.mk ((by rw [hg]; exact Nat.ne_of_gt (blk_lt (blkU BK120.out)) : gb122 ≠ gb120)); clear BK120; clear HB; have BK120 := n0_; have HB := n1_; have BK122 := n2_; have GW122 := n3_; have GE122 := n4_; have NB120_122 := n5_; have NB122_120 := n6_; clear n0_ n1_ n2_ n3_ n4_ n5_ n6_; clear hb hbox hg; have hnb18 := NB122_120.out; have hnc18 := NB120_122.out; have hcz19_0 : w17.cell? ⟨gb122, 0, none⟩ = some (.int .u8 0) := (blk_cell BK122.out 0).trans rfl; have hcz19_1 : w17.cell? ⟨gb122, 1, none⟩ = some (.int .i64 0) := (blk_cell BK122.out 1).trans rfl; have hcz19_2 : w17.cell? ⟨gb122, 2, none⟩ = some (.int .u64 0) := (blk_cell BK122.out 2).trans rfl; have hcz19_3 : w17.cell? ⟨gb122, 3, none⟩ = some (.int .i64 0) := (blk_cell BK122.out 3).trans rfl; have hcz19_4 : w17.cell? ⟨gb122, 4, none⟩ = some (.bool false) := (blk_cell BK122.out 4).trans rfl; have hcz19_5 : w17.cell? ⟨gb122, 5, none⟩ = some (.int .u64 0) := (blk_cell BK122.out 5).trans rfl; have hcz19_6 : w17.cell? ⟨gb122, 6, none⟩ = some (.int .u64 0) := (blk_cell BK122.out 6).trans rfl; have hcz19_7 : w17.cell? ⟨gb122, 7, none⟩ = some (.int .i64 0) := (blk_cell BK122.out 7).trans rfl; have hcz19_8 : w17.cell? ⟨gb122, 8, none⟩ = some (.int .u8 0) := (blk_cell BK122.out 8).trans rfl; have hcz19_9 : w17.cell? ⟨gb122, 9, none⟩ = some (.int .i64 0) := (blk_cell BK122.out 9).trans rfl; have hcz19_10 : w17.cell? ⟨gb122, 10, none⟩ = some (.int .i64 0) := (blk_cell BK122.out 10).trans rfl; have hcz19_11 : w17.cell? ⟨gb122, 11, none⟩ = some (.int .i64 0) := (blk_cell BK122.out 11).trans rfl; have hfz19_0 := blk_frozen BK122.out 0; have hfz19_1 := blk_frozen BK122.out 1; have hfz19_2 := blk_frozen BK122.out 2; have hfz19_3 := blk_frozen BK122.out 3; have hfz19_4 := blk_frozen BK122.out 4; have hfz19_5 := blk_frozen BK122.out 5; have hfz19_6 := blk_frozen BK122.out 6; have hfz19_7 := blk_frozen BK122.out 7; have hfz19_8 := blk_frozen BK122.out 8; have hfz19_9 := blk_frozen BK122.out 9; have hfz19_10 := blk_frozen BK122.out 10; have hfz19_11 := blk_frozen BK122.out 11; have hcz20_0 : w17.cell? ⟨gb120, 0, none⟩ = some (.int .u8 a0_0) := (blk_cell BK120.out 0).trans rfl; have hcz20_1 : w17.cell? ⟨gb120, 1, none⟩ = some (.int .i64 a0_1) := (blk_cell BK120.out 1).trans rfl; have hcz20_2 : w17.cell? ⟨gb120, 2, none⟩ = some (.int .u64 a0_2) := (blk_cell BK120.out 2).trans rfl; have hcz20_3 : w17.cell? ⟨gb120, 3, none⟩ = some (.int .i64 a0_3) := (blk_cell BK120.out 3).trans rfl; have hcz20_4 : w17.cell? ⟨gb120, 4, none⟩ = some (.bool a0_4) := (blk_cell BK120.out 4).trans rfl; have hcz20_5 : w17.cell? ⟨gb120, 5, none⟩ = some (.int .u64 a0_5) := (blk_cell BK120.out 5).trans rfl; have hcz20_6 : w17.cell? ⟨gb120, 6, none⟩ = some (.int .u64 a0_6) := (blk_cell BK120.out 6).trans rfl; have hcz20_7 : w17.cell? ⟨gb120, 7, none⟩ = some (.int .i64 a0_7) := (blk_cell BK120.out 7).trans rfl; have hcz20_8 : w17.cell? ⟨gb120, 8, none⟩ = some (.int .u8 a0_8) := (blk_cell BK120.out 8).trans rfl; have hcz20_9 : w17.cell? ⟨gb120, 9, none⟩ = some (.int .i64 a0_9) := (blk_cell BK120.out 9).trans rfl; have hcz20_10 : w17.cell? ⟨gb120, 10, none⟩ = some (.int .i64 a0_10) := (blk_cell BK120.out 10).trans rfl; have hcz20_11 : w17.cell? ⟨gb120, 11, none⟩ = some (.int .i64 a0_11) := (blk_cell BK120.out 11).trans rfl; have hfz20_0 := blk_frozen BK120.out 0; have hfz20_1 := blk_frozen BK120.out 1; have hfz20_2 := blk_frozen BK120.out 2; have hfz20_3 := blk_frozen BK120.out 3; have hfz20_4 := blk_frozen BK120.out 4; have hfz20_5 := blk_frozen BK120.out 5; have hfz20_6 := blk_frozen BK120.out 6; have hfz20_7 := blk_frozen BK120.out 7; have hfz20_8 := blk_frozen BK120.out 8; have hfz20_9 := blk_frozen BK120.out 9; have hfz20_10 := blk_frozen BK120.out 10; have hfz20_11 := blk_frozen BK120.out 11))
     (try simp only [Act.put, List.setIfInBounds_toArray, List.set_cons_zero, List.set_cons_succ])
     go_cut [37] (fun v37 wc => ∃ (kq : Nat) (x37_14 : Bool), v37 = .bool x37_14 ∧ Aside0 (msg_Check.j1 kq true a0_0 x37_14 a0_0 a0_1 a0_2 a0_3 a0_4 a0_5 a0_6 a0_7 a0_8 a0_9 a0_10 a0_11 0 0 0 0 a0_4 a0_5 a0_6 a0_7 a0_8 a0_9 a0_10 a0_11 = some r) ∧ Aside0 (kq ≤ kj1) ∧ Aside0 (wc.heap[gb120]? = some (.cells #[.int .u8 a0_0, .int .i64 a0_1, .int .u64 a0_2, .int .i64 a0_3, .bool a0_4, .int .u64 a0_5, .int .u64 a0_6, .int .i64 a0_7, .int .u8 a0_8, .int .i64 a0_9, .int .i64 a0_10, .int .i64 a0_11] 33 (0, 0))) ∧ Aside0 (wc.heap[gb122]? = some (.cells #[.int .u8 0, .int .i64 0, .int .u64 0, .int .i64 0, .bool a0_4, .int .u64 a0_5, .int .u64 a0_6, .int .i64 a0_7, .int .u8 a0_8, .int .i64 a0_9, .int .i64 a0_10, .int .i64 a0_11] 33 (0, 0))) ∧ Aside0 (Below w.heap.size w wc))
     case first =>
      have H := HC15.out
      clear HC15
      by_cases c21 : a0_0 = 1
      · rw [if_pos c21] at H
        have c21b0 : (a0_0 == 1) = true := beq_iff_eq.mpr c21
        have c21b1 : (a0_0 != 1) = false := bne_eq_false_iff_eq.mpr c21
        clear c21
        (first | rw [c21b0] | (simp only [i64_w, i32_w]; rw [c21b0]) | skip)
        have H' := Aside0.mk H
        clear H
        go_wp2
        go_meet
        case rel => exact ⟨_, ((a0_0 == 1)), (by first | rfl | (simp; done) | (simp [*]; done)), H', ⟨by have := HJ1.out; first | omega | exact Nat.le_refl _⟩, ⟨by refine blkU ?_; (repeat (first | (with_reducible refine blk_far ?_ NB120_122.out _) | (with_reducible refine blk_drewN ?_ _) | (with_reducible refine blk_drew ?_) | (with_reducible refine blk_alloc ?_ _))); exact BK120.out⟩, ⟨by refine blkU ?_; refine blk_put (cs := #[.int .u8 a0_0, .int .i64 0, .int .u64 0, .int .i64 0, .bool a0_4, .int .u64 a0_5, .int .u64 a0_6, .int .i64 a0_7, .int .u8 a0_8, .int .i64 a0_9, .int .i64 a0_10, .int .i64 a0_11]) ?_ 0 _ rfl; refine blkU ?_; refine blk_put (cs := #[.int .u8 a0_0, .int .i64 0, .int .u64 0, .int .i64 a0_3, .bool a0_4, .int .u64 a0_5, .int .u64 a0_6, .int .i64 a0_7, .int .u8 a0_8, .int .i64 a0_9, .int .i64 a0_10, .int .i64 a0_11]) ?_ 3 _ rfl; refine blkU ?_; refine blk_put (cs := #[.int .u8 a0_0, .int .i64 0, .int .u64 a0_2, .int .i64 a0_3, .bool a0_4, .int .u64 a0_5, .int .u64 a0_6, .int .i64 a0_7, .int .u8 a0_8, .int .i64 a0_9, .int .i64 a0_10, .int .i64 a0_11]) ?_ 2 _ rfl; refine blkU ?_; refine blk_put (cs := #[.int .u8 a0_0, .int .i64 a0_1, .int .u64 a0_2, .int .i64 a0_3, .bool a0_4, .int .u64 a0_5, .int .u64 a0_6, .int .i64 a0_7, .int .u8 a0_8, .int .i64 a0_9, .int .i64 a0_10, .int .i64 a0_11]) ?_ 1 _ rfl; refine blkU ?_; refine blk_put (cs := #[.int .u8 a0_0, .int .i64 a0_1, .int .u64 a0_2, .int .i64 a0_3, .bool a0_4, .int .u64 a0_5, .int .u64 a0_6, .int .i64 a0_7, .int .u8 a0_8, .int .i64 a0_9, .int .i64 a0_10, .int .i64 0]) ?_ 11 _ rfl; refine blkU ?_; refine blk_put (cs := #[.int .u8 a0_0, .int .i64 a0_1, .int .u64 a0_2, .int .i64 a0_3, .bool a0_4, .int .u64 a0_5, .int .u64 a0_6, .int .i64 a0_7, .int .u8 a0_8, .int .i64 a0_9, .int .i64 0, .int .i64 0]) ?_ 10 _ rfl; refine blkU ?_; refine blk_put (cs := #[.int .u8 a0_0, .int .i64 a0_1, .int .u64 a0_2, .int .i64 a0_3, .bool a0_4, .int .u64 a0_5, .int .u64 a0_6, .int .i64 a0_7, .int .u8 a0_8, .int .i64 0, .int .i64 0, .int .i64 0]) ?_ 9 _ rfl; refine blkU ?_; refine blk_put (cs := #[.int .u8 a0_0, .int .i64 a0_1, .int .u64 a0_2, .int .i64 a0_3, .bool a0_4, .int .u64 a0_5, .int .u64 a0_6, .int .i64 a0_7, .int .u8 0, .int .i64 0, .int .i64 0, .int .i64 0]) ?_ 8 _ rfl; refine blkU ?_; refine blk_put (cs := #[.int .u8 a0_0, .int .i64 a0_1, .int .u64 a0_2, .int .i64 a0_3, .bool a0_4, .int .u64 a0_5, .int .u64 a0_6, .int .i64 0, .int .u8 0, .int .i64 0, .int .i64 0, .int .i64 0]) ?_ 7 _ rfl; refine blkU ?_; refine blk_put (cs := #[.int .u8 a0_0, .int .i64 a0_1, .int .u64 a0_2, .int .i64 a0_3, .bool a0_4, .int .u64 a0_5, .int .u64 0, .int .i64 0, .int .u8 0, .int .i64 0, .int .i64 0, .int .i64 0]) ?_ 6 _ rfl; refine blkU ?_; refine blk_put (cs := #[.int .u8 a0_0, .int .i64 a0_1, .int .u64 a0_2, .int .i64 a0_3, .bool a0_4, .int .u64 0, .int .u64 0, .int .i64 0, .int .u8 0, .int .i64 0, .int .i64 0, .int .i64 0]) ?_ 5 _ rfl; refine blkU ?_; refine blk_put (cs := #[.int .u8 a0_0, .int .i64 a0_1, .int .u64 a0_2, .int .i64 a0_3, .bool false, .int .u64 0, .int .u64 0, .int .i64 0, .int .u8 0, .int .i64 0, .int .i64 0, .int .i64 0]) ?_ 4 _ rfl; refine blkU ?_; refine blk_put (cs := #[.int .u8 a0_0, .int .i64 a0_1, .int .u64 a0_2, .int .i64 0, .bool false, .int .u64 0, .int .u64 0, .int .i64 0, .int .u8 0, .int .i64 0, .int .i64 0, .int .i64 0]) ?_ 3 _ rfl; refine blkU ?_; refine blk_put (cs := #[.int .u8 a0_0, .int .i64 a0_1, .int .u64 0, .int .i64 0, .bool false, .int .u64 0, .int .u64 0, .int .i64 0, .int .u8 0, .int .i64 0, .int .i64 0, .int .i64 0]) ?_ 2 _ rfl; refine blkU ?_; refine blk_put (cs := #[.int .u8 a0_0, .int .i64 0, .int .u64 0, .int .i64 0, .bool false, .int .u64 0, .int .u64 0, .int .i64 0, .int .u8 0, .int .i64 0, .int .i64 0, .int .i64 0]) ?_ 1 _ rfl; refine blkU ?_; refine blk_put (cs := #[.int .u8 0, .int .i64 0, .int .u64 0, .int .i64 0, .bool false, .int .u64 0, .int .u64 0, .int .i64 0, .int .u8 0, .int .i64 0, .int .i64 0, .int .i64 0]) ?_ 0 _ rfl; refine blkU ?_; exact BK122.out⟩, ⟨bel_⟩⟩
      · rw [if_neg c21] at H
        have c21b0 : (a0_0 == 1) = false := beq_eq_false_iff_ne.mpr c21
        have c21b1 : (a0_0 != 1) = true := bne_iff_ne.mpr c21
        (first | rw [c21b0] | (simp only [i64_w, i32_w]; rw [c21b0]) | skip)
        have H' := Aside0.mk H
        clear H
        go_wp2
        go_meet
        case rel => exact ⟨_, ((a0_0 == 2)), (by first | rfl | (simp; done) | (simp [*]; done)), H', ⟨by have := HJ1.out; first | omega | exact Nat.le_refl _⟩, ⟨by refine blkU ?_; (repeat (first | (with_reducible refine blk_far ?_ NB120_122.out _) | (with_reducible refine blk_drewN ?_ _) | (with_reducible refine blk_drew ?_) | (with_reducible refine blk_alloc ?_ _))); exact BK120.out⟩, ⟨by refine blkU ?_; refine blk_put (cs := #[.int .u8 a0_0, .int .i64 0, .int .u64 0, .int .i64 0, .bool a0_4, .int .u64 a0_5, .int .u64 a0_6, .int .i64 a0_7, .int .u8 a0_8, .int .i64 a0_9, .int .i64 a0_10, .int .i64 a0_11]) ?_ 0 _ rfl; refine blkU ?_; refine blk_put (cs := #[.int .u8 a0_0, .int .i64 0, .int .u64 0, .int .i64 a0_3, .bool a0_4, .int .u64 a0_5, .int .u64 a0_6, .int .i64 a0_7, .int .u8 a0_8, .int .i64 a0_9, .int .i64 a0_10, .int .i64 a0_11]) ?_ 3 _ rfl; refine blkU ?_; refine blk_put (cs := #[.int .u8 a0_0, .int .i64 0, .int .u64 a0_2, .int .i64 a0_3, .bool a0_4, .int .u64 a0_5, .int .u64 a0_6, .int .i64 a0_7, .int .u8 a0_8, .int .i64 a0_9, .int .i64 a0_10, .int .i64 a0_11]) ?_ 2 _ rfl; refine blkU ?_; refine blk_put (cs := #[.int .u8 a0_0, .int .i64 a0_1, .int .u64 a0_2, .int .i64 a0_3, .bool a0_4, .int .u64 a0_5, .int .u64 a0_6, .int .i64 a0_7, .int .u8 a0_8, .int .i64 a0_9, .int .i64 a0_10, .int .i64 a0_11]) ?_ 1 _ rfl; refine blkU ?_; refine blk_put (cs := #[.int .u8 a0_0, .int .i64 a0_1, .int .u64 a0_2, .int .i64 a0_3, .bool a0_4, .int .u64 a0_5, .int .u64 a0_6, .int .i64 a0_7, .int .u8 a0_8, .int .i64 a0_9, .int .i64 a0_10, .int .i64 0]) ?_ 11 _ rfl; refine blkU ?_; refine blk_put (cs := #[.int .u8 a0_0, .int .i64 a0_1, .int .u64 a0_2, .int .i64 a0_3, .bool a0_4, .int .u64 a0_5, .int .u64 a0_6, .int .i64 a0_7, .int .u8 a0_8, .int .i64 a0_9, .int .i64 0, .int .i64 0]) ?_ 10 _ rfl; refine blkU ?_; refine blk_put (cs := #[.int .u8 a0_0, .int .i64 a0_1, .int .u64 a0_2, .int .i64 a0_3, .bool a0_4, .int .u64 a0_5, .int .u64 a0_6, .int .i64 a0_7, .int .u8 a0_8, .int .i64 0, .int .i64 0, .int .i64 0]) ?_ 9 _ rfl; refine blkU ?_; refine blk_put (cs := #[.int .u8 a0_0, .int .i64 a0_1, .int .u64 a0_2, .int .i64 a0_3, .bool a0_4, .int .u64 a0_5, .int .u64 a0_6, .int .i64 a0_7, .int .u8 0, .int .i64 0, .int .i64 0, .int .i64 0]) ?_ 8 _ rfl; refine blkU ?_; refine blk_put (cs := #[.int .u8 a0_0, .int .i64 a0_1, .int .u64 a0_2, .int .i64 a0_3, .bool a0_4, .int .u64 a0_5, .int .u64 a0_6, .int .i64 0, .int .u8 0, .int .i64 0, .int .i64 0, .int .i64 0]) ?_ 7 _ rfl; refine blkU ?_; refine blk_put (cs := #[.int .u8 a0_0, .int .i64 a0_1, .int .u64 a0_2, .int .i64 a0_3, .bool a0_4, .int .u64 a0_5, .int .u64 0, .int .i64 0, .int .u8 0, .int .i64 0, .int .i64 0, .int .i64 0]) ?_ 6 _ rfl; refine blkU ?_; refine blk_put (cs := #[.int .u8 a0_0, .int .i64 a0_1, .int .u64 a0_2, .int .i64 a0_3, .bool a0_4, .int .u64 0, .int .u64 0, .int .i64 0, .int .u8 0, .int .i64 0, .int .i64 0, .int .i64 0]) ?_ 5 _ rfl; refine blkU ?_; refine blk_put (cs := #[.int .u8 a0_0, .int .i64 a0_1, .int .u64 a0_2, .int .i64 a0_3, .bool false, .int .u64 0, .int .u64 0, .int .i64 0, .int .u8 0, .int .i64 0, .int .i64 0, .int .i64 0]) ?_ 4 _ rfl; refine blkU ?_; refine blk_put (cs := #[.int .u8 a0_0, .int .i64 a0_1, .int .u64 a0_2, .int .i64 0, .bool false, .int .u64 0, .int .u64 0, .int .i64 0, .int .u8 0, .int .i64 0, .int .i64 0, .int .i64 0]) ?_ 3 _ rfl; refine blkU ?_; refine blk_put (cs := #[.int .u8 a0_0, .int .i64 a0_1, .int .u64 0, .int .i64 0, .bool false, .int .u64 0, .int .u64 0, .int .i64 0, .int .u8 0, .int .i64 0, .int .i64 0, .int .i64 0]) ?_ 2 _ rfl; refine blkU ?_; refine blk_put (cs := #[.int .u8 a0_0, .int .i64 0, .int .u64 0, .int .i64 0, .bool false, .int .u64 0, .int .u64 0, .int .i64 0, .int .u8 0, .int .i64 0, .int .i64 0, .int .i64 0]) ?_ 1 _ rfl; refine blkU ?_; refine blk_put (cs := #[.int .u8 0, .int .i64 0, .int .u64 0, .int .i64 0, .bool false, .int .u64 0, .int .u64 0, .int .i64 0, .int .u8 0, .int .i64 0, .int .i64 0, .int .i64 0]) ?_ 0 _ rfl; refine blkU ?_; exact BK122.out⟩, ⟨bel_⟩⟩
     case rest =>
      clear HC15; try clear c1; try clear c2; try clear p2; try clear c3; try clear c5; try clear c6; try clear c6b0; try clear c6b1; try clear c8; try clear c8b0; try clear c10; try clear c10b0; try clear c14; try clear c18; try clear c21; try clear c21b0; try clear c21b1; try clear hcz11_0; try clear hcz11_1; try clear hcz11_10; try clear hcz11_11; try clear hcz11_2; try clear hcz11_3; try clear hcz11_4; try clear hcz11_5; try clear hcz11_6; try clear hcz11_7; try clear hcz11_8; try clear hcz11_9; try clear hcz12_0; try clear hcz12_1; try clear hcz12_10; try clear hcz12_11; try clear hcz12_2; try clear hcz12_3; try clear hcz12_4; try clear hcz12_5; try clear hcz12_6; try clear hcz12_7; try clear hcz12_8; try clear hcz12_9; try clear hcz13_0; try clear hcz13_1; try clear hcz13_10; try clear hcz13_11; try clear hcz13_2; try clear hcz13_3; try clear hcz13_4; try clear hcz13_5; try clear hcz13_6; try clear hcz13_7; try clear hcz13_8; try clear hcz13_9; try clear hcz16_0; try clear hcz16_1; try clear hcz16_10; try clear hcz16_11; try clear hcz16_2; try clear hcz16_3; try clear hcz16_4; try clear hcz16_5; try clear hcz16_6; try clear hcz16_7; try clear hcz16_8; try clear hcz16_9; try clear hcz19_0; try clear hcz19_1; try clear hcz19_10; try clear hcz19_11; try clear hcz19_2; try clear hcz19_3; try clear hcz19_4; try clear hcz19_5; try clear hcz19_6; try clear hcz19_7; try clear hcz19_8; try clear hcz19_9; try clear hcz20_0; try clear hcz20_1; try clear hcz20_10; try clear hcz20_11; try clear hcz20_2; try clear hcz20_3; try clear hcz20_4; try clear hcz20_5; try clear hcz20_6; try clear hcz20_7; try clear hcz20_8; try clear hcz20_9; try clear hcz7_0; try clear hcz7_1; try clear hcz7_10; try clear hcz7_11; try clear hcz7_2; try clear hcz7_3; try clear hcz7_4; try clear hcz7_5; try clear hcz7_6; try clear hcz7_7; try clear hcz7_8; try clear hcz7_9; try clear hcz9_0; try clear hcz9_1; try clear hcz9_10; try clear hcz9_11; try clear hcz9_2; try clear hcz9_3; try clear hcz9_4; try clear hcz9_5; try clear hcz9_6; try clear hcz9_7; try clear hcz9_8; try clear hcz9_9; try clear hfz11_0; try clear hfz11_1; try clear hfz11_10; try clear hfz11_11; try clear hfz11_2; try clear hfz11_3; try clear hfz11_4; try clear hfz11_5; try clear hfz11_6; try clear hfz11_7; try clear hfz11_8; try clear hfz11_9; try clear hfz12_0; try clear hfz12_1; try clear hfz12_10; try clear hfz12_11; try clear hfz12_2; try clear hfz12_3; try clear hfz12_4; try clear hfz12_5; try clear hfz12_6; try clear hfz12_7; try clear hfz12_8; try clear hfz12_9; try clear hfz13_0; try clear hfz13_1; try clear hfz13_10; try clear hfz13_11; try clear hfz13_2; try clear hfz13_3; try clear hfz13_4; try clear hfz13_5; try clear hfz13_6; try clear hfz13_7; try clear hfz13_8; try clear hfz13_9; try clear hfz16_0; try clear hfz16_1; try clear hfz16_10; try clear hfz16_11; try clear hfz16_2; try clear hfz16_3; try clear hfz16_4; try clear hfz16_5; try clear hfz16_6; try clear hfz16_7; try clear hfz16_8; try clear hfz16_9; try clear hfz19_0; try clear hfz19_1; try clear hfz19_10; try clear hfz19_11; try clear hfz19_2; try clear hfz19_3; try clear hfz19_4; try clear hfz19_5; try clear hfz19_6; try clear hfz19_7; try clear hfz19_8; try clear hfz19_9; try clear hfz20_0; try clear hfz20_1; try clear hfz20_10; try clear hfz20_11; try clear hfz20_2; try clear hfz20_3; try clear hfz20_4; try clear hfz20_5; try clear hfz20_6; try clear hfz20_7; try clear hfz20_8; try clear hfz20_9; try clear hfz7_0; try clear hfz7_1; try clear hfz7_10; try clear hfz7_11; try clear hfz7_2; try clear hfz7_3; try clear hfz7_4; try clear hfz7_5; try clear hfz7_6; try clear hfz7_7; try clear hfz7_8; try clear hfz7_9; try clear hfz9_0; try clear hfz9_1; try clear hfz9_10; try clear hfz9_11; try clear hfz9_2; try clear hfz9_3; try clear hfz9_4; try clear hfz9_5; try clear hfz9_6; try clear hfz9_7; try clear hfz9_8; try clear hfz9_9; try clear p2
      obtain ⟨kq, x37_14, rfl, HA, HJ14, BK120, BK122, HB⟩ := hcut
      cases kq with
      | zero => exact absurd HA.out (by simp [msg_Check.j1])
      | succ kj14 =>
       have H := HA.out
       clear HA
       simp only [msg_Check.j1] at H
       by_cases c22 : x37_14 = true
       · subst c22
         have H1 : (if true = true then (if ((((((a0_4 || ((!(a0_5 == 0) || (!(a0_6 == 0))) || (!(a0_7 == 0)))) || ((!(a0_8 == 0) || (!(a0_9 == 0))) || (!(a0_10 == 0) || (!(a0_11 == 0))))))))) = true then (some 2) else (some 0)) else (some 2)) = some r := by rw [if_pos rfl] at H; exact H
         clear H
         have H := H1
         clear H1
         by_cases c23 : true = true
         · clear c23
           have H1 : (if ((((((a0_4 || ((!(a0_5 == 0) || (!(a0_6 == 0))) || (!(a0_7 == 0)))) || ((!(a0_8 == 0) || (!(a0_9 == 0))) || (!(a0_10 == 0) || (!(a0_11 == 0))))))))) = true then (some 2) else (some 0)) = some r := by rw [if_pos rfl] at H; exact H
           clear H
           have H := H1
           clear H1
           by_cases c24 : ((((((a0_4 || ((!(a0_5 == 0) || (!(a0_6 == 0))) || (!(a0_7 == 0)))) || ((!(a0_8 == 0) || (!(a0_9 == 0))) || (!(a0_10 == 0) || (!(a0_11 == 0))))))))) = true
           · rw [if_pos c24] at H
             have c24b0 : ((((((a0_4 || ((!(a0_5 == 0) || (!(a0_6 == 0))) || (!(a0_7 == 0)))) || ((!(a0_8 == 0) || (!(a0_9 == 0))) || (!(a0_10 == 0) || (!(a0_11 == 0))))))))) = true := c24
             clear c24
             obtain rfl := Option.some.inj H
             go_wp2_with (first | ((with_reducible refine gate_dst (N := 5) rfl ?_); refine box_event ?hg (N := 5) ?hd (cs := #[.int .u8 0, .int .i64 0, .int .u64 0, .int .i64 0, .bool false, .int .u64 0, .int .u64 0, .int .i64 0, .int .u8 0, .int .i64 0, .int .i64 0, .int .i64 0]) (t := 33) ?hr ?_; (case hd => rfl); (case hg => rfl); (case hr => first | (go_simp; done) | (go_simp; rfl)); intro gb123 hg w25 hbox hb; have n0_ := Aside0.mk (blk_below (blkU BK120.out) hb); have n1_ := Aside0.mk (blk_below (blkU BK122.out) hb); have n2_ := Aside0.mk (below_step bel_ hb); have n3_ := Aside0.mk (hbox); have n4_ := Aside0.mk ((by rw [hg]; exact (below_size bel_) : w.heap.size ≤ gb123)); have n5_ := Aside0.mk ((by rw [hg]; exact (below_size bel_) : w.heap.size ≤ gb123)); have n6_ := Aside0.mk ((by rw [hg]; exact Nat.ne_of_lt (blk_lt (blkU BK120.out)) : gb120 ≠ gb123)); have n7_ := Aside0.mk ((by rw [hg]; exact Nat.ne_of_gt (blk_lt (blkU BK120.out)) : gb123 ≠ gb120)); have n8_ := Aside0.mk ((by rw [hg]; exact Nat.ne_of_lt (blk_lt (blkU BK122.out)) : gb122 ≠ gb123)); have n9_ := Aside0.mk ((by rw [hg]; exact Nat.ne_of_gt (blk_lt (blkU BK122.out)) : gb123 ≠ gb122)); clear BK120; clear BK122; clear HB; have BK120 := n0_; have BK122 := n1_; have HB := n2_; have BK123 := n3_; have GW123 := n4_; have GE123 := n5_; have NB120_123 := n6_; have NB123_120 := n7_; have NB122_123 := n8_; have NB123_122 := n9_; clear n0_ n1_ n2_ n3_ n4_ n5_ n6_ n7_ n8_ n9_; clear hb hbox hg; have hnb26 := NB123_120.out; have hnc26 := NB120_123.out; have hnb27 := NB123_122.out; have hnc27 := NB122_123.out; have hcz28_0 : w25.cell? ⟨gb123, 0, none⟩ = some (.int .u8 0) := (blk_cell BK123.out 0).trans rfl; have hcz28_1 : w25.cell? ⟨gb123, 1, none⟩ = some (.int .i64 0) := (blk_cell BK123.out 1).trans rfl; have hcz28_2 : w25.cell? ⟨gb123, 2, none⟩ = some (.int .u64 0) := (blk_cell BK123.out 2).trans rfl; have hcz28_3 : w25.cell? ⟨gb123, 3, none⟩ = some (.int .i64 0) := (blk_cell BK123.out 3).trans rfl; have hcz28_4 : w25.cell? ⟨gb123, 4, none⟩ = some (.bool false) := (blk_cell BK123.out 4).trans rfl; have hcz28_5 : w25.cell? ⟨gb123, 5, none⟩ = some (.int .u64 0) := (blk_cell BK123.out 5).trans rfl; have hcz28_6 : w25.cell? ⟨gb123, 6, none⟩ = some (.int .u64 0) := (blk_cell BK123.out 6).trans rfl; have hcz28_7 : w25.cell? ⟨gb123, 7, none⟩ = some (.int .i64 0) := (blk_cell BK123.out 7).trans rfl; have hcz28_8 : w25.cell? ⟨gb123, 8, none⟩ = some (.int .u8 0) := (blk_cell BK123.out 8).trans rfl; have hcz28_9 : w25.cell? ⟨gb123, 9, none⟩ = some (.int .i64 0) := (blk_cell BK123.out 9).trans rfl; have hcz28_10 : w25.cell? ⟨gb123, 10, none⟩ = some (.int .i64 0) := (blk_cell BK123.out 10).trans rfl; have hcz28_11 : w25.cell? ⟨gb123, 11, none⟩ = some (.int .i64 0) := (blk_cell BK123.out 11).trans rfl; have hfz28_0 := blk_frozen BK123.out 0; have hfz28_1 := blk_frozen BK123.out 1; have hfz28_2 := blk_frozen BK123.out 2; have hfz28_3 := blk_frozen BK123.out 3; have hfz28_4 := blk_frozen BK123.out 4; have hfz28_5 := blk_frozen BK123.out 5; have hfz28_6 := blk_frozen BK123.out 6; have hfz28_7 := blk_frozen BK123.out 7; have hfz28_8 := blk_frozen BK123.out 8; have hfz28_9 := blk_frozen BK123.out 9; have hfz28_10 := blk_frozen BK123.out 10; have hfz28_11 := blk_frozen BK123.out 11; have hnb29 := NB122_120.out; have hnc29 := NB120_122.out; have hcz30_0 : w25.cell? ⟨gb122, 0, none⟩ = some (.int .u8 0) := (blk_cell BK122.out 0).trans rfl; have hcz30_1 : w25.cell? ⟨gb122, 1, none⟩ = some (.int .i64 0) := (blk_cell BK122.out 1).trans rfl; have hcz30_2 : w25.cell? ⟨gb122, 2, none⟩ = some (.int .u64 0) := (blk_cell BK122.out 2).trans rfl; have hcz30_3 : w25.cell? ⟨gb122, 3, none⟩ = some (.int .i64 0) := (blk_cell BK122.out 3).trans rfl; have hcz30_4 : w25.cell? ⟨gb122, 4, none⟩ = some (.bool a0_4) := (blk_cell BK122.out 4).trans rfl; have hcz30_5 : w25.cell? ⟨gb122, 5, none⟩ = some (.int .u64 a0_5) := (blk_cell BK122.out 5).trans rfl; have hcz30_6 : w25.cell? ⟨gb122, 6, none⟩ = some (.int .u64 a0_6) := (blk_cell BK122.out 6).trans rfl; have hcz30_7 : w25.cell? ⟨gb122, 7, none⟩ = some (.int .i64 a0_7) := (blk_cell BK122.out 7).trans rfl; have hcz30_8 : w25.cell? ⟨gb122, 8, none⟩ = some (.int .u8 a0_8) := (blk_cell BK122.out 8).trans rfl; have hcz30_9 : w25.cell? ⟨gb122, 9, none⟩ = some (.int .i64 a0_9) := (blk_cell BK122.out 9).trans rfl; have hcz30_10 : w25.cell? ⟨gb122, 10, none⟩ = some (.int .i64 a0_10) := (blk_cell BK122.out 10).trans rfl; have hcz30_11 : w25.cell? ⟨gb122, 11, none⟩ = some (.int .i64 a0_11) := (blk_cell BK122.out 11).trans rfl; have hfz30_0 := blk_frozen BK122.out 0; have hfz30_1 := blk_frozen BK122.out 1; have hfz30_2 := blk_frozen BK122.out 2; have hfz30_3 := blk_frozen BK122.out 3; have hfz30_4 := blk_frozen BK122.out 4; have hfz30_5 := blk_frozen BK122.out 5; have hfz30_6 := blk_frozen BK122.out 6; have hfz30_7 := blk_frozen BK122.out 7; have hfz30_8 := blk_frozen BK122.out 8; have hfz30_9 := blk_frozen BK122.out 9; have hfz30_10 := blk_frozen BK122.out 10; have hfz30_11 := blk_frozen BK122.out 11))
             go_ret
             exact ⟨by first | rfl | (simp [errW_none, errW_some] <;> rfl) | (simp [*, errW_none, errW_some] <;> rfl), bel_⟩
           · rw [if_neg c24] at H
             have c24b0 : ((((((a0_4 || ((!(a0_5 == 0) || (!(a0_6 == 0))) || (!(a0_7 == 0)))) || ((!(a0_8 == 0) || (!(a0_9 == 0))) || (!(a0_10 == 0) || (!(a0_11 == 0))))))))) = false := by simpa using c24
             clear c24
             obtain rfl := Option.some.inj H
             go_wp2_with (first | ((with_reducible refine gate_dst (N := 5) rfl ?_); refine box_event ?hg (N := 5) ?hd (cs := #[.int .u8 0, .int .i64 0, .int .u64 0, .int .i64 0, .bool false, .int .u64 0, .int .u64 0, .int .i64 0, .int .u8 0, .int .i64 0, .int .i64 0, .int .i64 0]) (t := 33) ?hr ?_; (case hd => rfl); (case hg => rfl); (case hr => first | (go_simp; done) | (go_simp; rfl)); intro gb123 hg w31 hbox hb; have n0_ := Aside0.mk (blk_below (blkU BK120.out) hb); have n1_ := Aside0.mk (blk_below (blkU BK122.out) hb); have n2_ := Aside0.mk (below_step bel_ hb); have n3_ := Aside0.mk (hbox); have n4_ := Aside0.mk ((by rw [hg]; exact (below_size bel_) : w.heap.size ≤ gb123)); have n5_ := Aside0.mk ((by rw [hg]; exact (below_size bel_) : w.heap.size ≤ gb123)); have n6_ := Aside0.mk ((by rw [hg]; exact Nat.ne_of_lt (blk_lt (blkU BK120.out)) : gb120 ≠ gb123)); have n7_ := Aside0.mk ((by rw [hg]; exact Nat.ne_of_gt (blk_lt (blkU BK120.out)) : gb123 ≠ gb120)); have n8_ := Aside0.mk ((by rw [hg]; exact Nat.ne_of_lt (blk_lt (blkU BK122.out)) : gb122 ≠ gb123)); have n9_ := Aside0.mk ((by rw [hg]; exact Nat.ne_of_gt (blk_lt (blkU BK122.out)) : gb123 ≠ gb122)); clear BK120; clear BK122; clear HB; have BK120 := n0_; have BK122 := n1_; have HB := n2_; have BK123 := n3_; have GW123 := n4_; have GE123 := n5_; have NB120_123 := n6_; have NB123_120 := n7_; have NB122_123 := n8_; have NB123_122 := n9_; clear n0_ n1_ n2_ n3_ n4_ n5_ n6_ n7_ n8_ n9_; clear hb hbox hg; have hnb32 := NB123_120.out; have hnc32 := NB120_123.out; have hnb33 := NB123_122.out; have hnc33 := NB122_123.out; have hcz34_0 : w31.cell? ⟨gb123, 0, none⟩ = some (.int .u8 0) := (blk_cell BK123.out 0).trans rfl; have hcz34_1 : w31.cell? ⟨gb123, 1, none⟩ = some (.int .i64 0) := (blk_cell BK123.out 1).trans rfl; have hcz34_2 : w31.cell? ⟨gb123, 2, none⟩ = some (.int .u64 0) := (blk_cell BK123.out 2).trans rfl; have hcz34_3 : w31.cell? ⟨gb123, 3, none⟩ = some (.int .i64 0) := (blk_cell BK123.out 3).trans rfl; have hcz34_4 : w31.cell? ⟨gb123, 4, none⟩ = some (.bool false) := (blk_cell BK123.out 4).trans rfl; have hcz34_5 : w31.cell? ⟨gb123, 5, none⟩ = some (.int .u64 0) := (blk_cell BK123.out 5).trans rfl; have hcz34_6 : w31.cell? ⟨gb123, 6, none⟩ = some (.int .u64 0) := (blk_cell BK123.out 6).trans rfl; have hcz34_7 : w31.cell? ⟨gb123, 7, none⟩ = some (.int .i64 0) := (blk_cell BK123.out 7).trans rfl; have hcz34_8 : w31.cell? ⟨gb123, 8, none⟩ = some (.int .u8 0) := (blk_cell BK123.out 8).trans rfl; have hcz34_9 : w31.cell? ⟨gb123, 9, none⟩ = some (.int .i64 0) := (blk_cell BK123.out 9).trans rfl; have hcz34_10 : w31.cell? ⟨gb123, 10, none⟩ = some (.int .i64 0) := (blk_cell BK123.out 10).trans rfl; have hcz34_11 : w31.cell? ⟨gb123, 11, none⟩ = some (.int .i64 0) := (blk_cell BK123.out 11).trans rfl; have hfz34_0 := blk_frozen BK123.out 0; have hfz34_1 := blk_frozen BK123.out 1; have hfz34_2 := blk_frozen BK123.out 2; have hfz34_3 := blk_frozen BK123.out 3; have hfz34_4 := blk_frozen BK123.out 4; have hfz34_5 := blk_frozen BK123.out 5; have hfz34_6 := blk_frozen BK123.out 6; have hfz34_7 := blk_frozen BK123.out 7; have hfz34_8 := blk_frozen BK123.out 8; have hfz34_9 := blk_frozen BK123.out 9; have hfz34_10 := blk_frozen BK123.out 10; have hfz34_11 := blk_frozen BK123.out 11; have hnb35 := NB122_120.out; have hnc35 := NB120_122.out; have hcz36_0 : w31.cell? ⟨gb122, 0, none⟩ = some (.int .u8 0) := (blk_cell BK122.out 0).trans rfl; have hcz36_1 : w31.cell? ⟨gb122, 1, none⟩ = some (.int .i64 0) := (blk_cell BK122.out 1).trans rfl; have hcz36_2 : w31.cell? ⟨gb122, 2, none⟩ = some (.int .u64 0) := (blk_cell BK122.out 2).trans rfl; have hcz36_3 : w31.cell? ⟨gb122, 3, none⟩ = some (.int .i64 0) := (blk_cell BK122.out 3).trans rfl; have hcz36_4 : w31.cell? ⟨gb122, 4, none⟩ = some (.bool a0_4) := (blk_cell BK122.out 4).trans rfl; have hcz36_5 : w31.cell? ⟨gb122, 5, none⟩ = some (.int .u64 a0_5) := (blk_cell BK122.out 5).trans rfl; have hcz36_6 : w31.cell? ⟨gb122, 6, none⟩ = some (.int .u64 a0_6) := (blk_cell BK122.out 6).trans rfl; have hcz36_7 : w31.cell? ⟨gb122, 7, none⟩ = some (.int .i64 a0_7) := (blk_cell BK122.out 7).trans rfl; have hcz36_8 : w31.cell? ⟨gb122, 8, none⟩ = some (.int .u8 a0_8) := (blk_cell BK122.out 8).trans rfl; have hcz36_9 : w31.cell? ⟨gb122, 9, none⟩ = some (.int .i64 a0_9) := (blk_cell BK122.out 9).trans rfl; have hcz36_10 : w31.cell? ⟨gb122, 10, none⟩ = some (.int .i64 a0_10) := (blk_cell BK122.out 10).trans rfl; have hcz36_11 : w31.cell? ⟨gb122, 11, none⟩ = some (.int .i64 a0_11) := (blk_cell BK122.out 11).trans rfl; have hfz36_0 := blk_frozen BK122.out 0; have hfz36_1 := blk_frozen BK122.out 1; have hfz36_2 := blk_frozen BK122.out 2; have hfz36_3 := blk_frozen BK122.out 3; have hfz36_4 := blk_frozen BK122.out 4; have hfz36_5 := blk_frozen BK122.out 5; have hfz36_6 := blk_frozen BK122.out 6; have hfz36_7 := blk_frozen BK122.out 7; have hfz36_8 := blk_frozen BK122.out 8; have hfz36_9 := blk_frozen BK122.out 9; have hfz36_10 := blk_frozen BK122.out 10; have hfz36_11 := blk_frozen BK122.out 11))
             go_ret
             exact ⟨by first | rfl | (simp [errW_none, errW_some] <;> rfl) | (simp [*, errW_none, errW_some] <;> rfl), bel_⟩
         · exact absurd rfl c23
       · replace c22 := Bool.eq_false_iff.mpr c22
         subst c22
         have H1 : (if a0_0 = 3 then ((msg_acts.f a0_8 a0_9).bind fun t124 => (if t124 = true then ((addr_Check.f kj14 a0_4 a0_5 a0_6 a0_7).bind fun t125 => (if t125 = 0 then (if (((((!(a0_10 == 0) || (!(a0_11 == 0))))))) = true then (some 2) else (some 0)) else (some 2))) else (some 2))) else (if a0_0 = 4 then (if true = true then ((addr_Check.f kj14 a0_4 a0_5 a0_6 a0_7).bind fun t128 => (if t128 = 0 then (if ((((((!(a0_8 == 0) || (!(a0_9 == 0))) || (!(a0_10 == 0) || (!(a0_11 == 0)))))))) = true then (some 2) else (some 0)) else (some 2))) else (some 2)) else (if a0_0 = 5 then ((msg_id.f a0_11).bind fun t134 => (if t134 = true then ((msg_iface.f a0_10).bind fun t135 => (if t135 = true then (if ((((((a0_4 || ((!(a0_5 == 0) || (!(a0_6 == 0))) || (!(a0_7 == 0)))) || ((!(a0_8 == 0) || (!(a0_9 == 0))))))))) = true then (some 2) else (some 0)) else (some 2))) else (some 2))) else (if a0_0 = 6 then (if true = true then ((msg_iface.f a0_10).bind fun t131 => (if t131 = true then (if ((((((a0_4 || ((!(a0_5 == 0) || (!(a0_6 == 0))) || (!(a0_7 == 0)))) || ((!(a0_8 == 0) || (!(a0_9 == 0))) || (!(a0_11 == 0)))))))) = true then (some 2) else (some 0)) else (some 2))) else (some 2)) else (some 2))))) = some r := by rw [if_neg (show ¬ (false = true) by decide)] at H; exact H
         clear H
         have H := H1
         clear H1
         by_cases c41 : a0_0 = 3
         · rw [if_pos c41] at H
           have c41b0 : (a0_0 == 3) = true := beq_iff_eq.mpr c41
           have c41b1 : (a0_0 != 3) = false := bne_eq_false_iff_eq.mpr c41
           clear c41
           replace H := Option.bind_eq_some_iff.mp H
           obtain ⟨t124, A420, H⟩ := H
           replace H : (if t124 = true then ((addr_Check.f kj14 a0_4 a0_5 a0_6 a0_7).bind fun t125 => (if t125 = 0 then (if (((((!(a0_10 == 0) || (!(a0_11 == 0))))))) = true then (some 2) else (some 0)) else (some 2))) else (some 2)) = some r := H
           have A42 := Aside0.mk A420
           clear A420
           by_cases c43 : t124 = true
           · subst c43
             have H1 : ((addr_Check.f kj14 a0_4 a0_5 a0_6 a0_7).bind fun t125 => (if t125 = 0 then (if (((((!(a0_10 == 0) || (!(a0_11 == 0))))))) = true then (some 2) else (some 0)) else (some 2))) = some r := by rw [if_pos rfl] at H; exact H
             clear H
             have H := H1
             clear H1
             replace H := Option.bind_eq_some_iff.mp H
             obtain ⟨t125, A440, H⟩ := H
             replace H : (if t125 = 0 then (if (((((!(a0_10 == 0) || (!(a0_11 == 0))))))) = true then (some 2) else (some 0)) else (some 2)) = some r := H
             have A44 := Aside0.mk A440
             clear A440
             by_cases c45 : t125 = 0
             · rw [if_pos c45] at H
               have c45b0 : (t125 == 0) = true := beq_iff_eq.mpr c45
               have c45b1 : (t125 != 0) = false := bne_eq_false_iff_eq.mpr c45
               clear c45
               by_cases c46 : (((((!(a0_10 == 0) || (!(a0_11 == 0))))))) = true
               · rw [if_pos c46] at H
                 have c46b0 : (((((!(a0_10 == 0) || (!(a0_11 == 0))))))) = true := c46
                 clear c46
                 obtain rfl := Option.some.inj H
                 have hnb47 := NB122_120.out
                 have hnc47 := NB120_122.out
                 have hcz48_0 : wc.cell? ⟨gb122, 0, none⟩ = some (.int .u8 0) := (blk_cell BK122.out 0).trans rfl
                 have hcz48_1 : wc.cell? ⟨gb122, 1, none⟩ = some (.int .i64 0) := (blk_cell BK122.out 1).trans rfl
                 have hcz48_2 : wc.cell? ⟨gb122, 2, none⟩ = some (.int .u64 0) := (blk_cell BK122.out 2).trans rfl
                 have hcz48_3 : wc.cell? ⟨gb122, 3, none⟩ = some (.int .i64 0) := (blk_cell BK122.out 3).trans rfl
                 have hcz48_4 : wc.cell? ⟨gb122, 4, none⟩ = some (.bool a0_4) := (blk_cell BK122.out 4).trans rfl
                 have hcz48_5 : wc.cell? ⟨gb122, 5, none⟩ = some (.int .u64 a0_5) := (blk_cell BK122.out 5).trans rfl
                 have hcz48_6 : wc.cell? ⟨gb122, 6, none⟩ = some (.int .u64 a0_6) := (blk_cell BK122.out 6).trans rfl
                 have hcz48_7 : wc.cell? ⟨gb122, 7, none⟩ = some (.int .i64 a0_7) := (blk_cell BK122.out 7).trans rfl
                 have hcz48_8 : wc.cell? ⟨gb122, 8, none⟩ = some (.int .u8 a0_8) := (blk_cell BK122.out 8).trans rfl
                 have hcz48_9 : wc.cell? ⟨gb122, 9, none⟩ = some (.int .i64 a0_9) := (blk_cell BK122.out 9).trans rfl
                 have hcz48_10 : wc.cell? ⟨gb122, 10, none⟩ = some (.int .i64 a0_10) := (blk_cell BK122.out 10).trans rfl
                 have hcz48_11 : wc.cell? ⟨gb122, 11, none⟩ = some (.int .i64 a0_11) := (blk_cell BK122.out 11).trans rfl
                 have hfz48_0 := blk_frozen BK122.out 0
                 have hfz48_1 := blk_frozen BK122.out 1
                 have hfz48_2 := blk_frozen BK122.out 2
                 have hfz48_3 := blk_frozen BK122.out 3
                 have hfz48_4 := blk_frozen BK122.out 4
                 have hfz48_5 := blk_frozen BK122.out 5
                 have hfz48_6 := blk_frozen BK122.out 6
                 have hfz48_7 := blk_frozen BK122.out 7
                 have hfz48_8 := blk_frozen BK122.out 8
                 have hfz48_9 := blk_frozen BK122.out 9
                 have hfz48_10 := blk_frozen BK122.out 10
                 have hfz48_11 := blk_frozen BK122.out 11
                 have hcz49_0 : wc.cell? ⟨gb120, 0, none⟩ = some (.int .u8 a0_0) := (blk_cell BK120.out 0).trans rfl
                 have hcz49_1 : wc.cell? ⟨gb120, 1, none⟩ = some (.int .i64 a0_1) := (blk_cell BK120.out 1).trans rfl
                 have hcz49_2 : wc.cell? ⟨gb120, 2, none⟩ = some (.int .u64 a0_2) := (blk_cell BK120.out 2).trans rfl
                 have hcz49_3 : wc.cell? ⟨gb120, 3, none⟩ = some (.int .i64 a0_3) := (blk_cell BK120.out 3).trans rfl
                 have hcz49_4 : wc.cell? ⟨gb120, 4, none⟩ = some (.bool a0_4) := (blk_cell BK120.out 4).trans rfl
                 have hcz49_5 : wc.cell? ⟨gb120, 5, none⟩ = some (.int .u64 a0_5) := (blk_cell BK120.out 5).trans rfl
                 have hcz49_6 : wc.cell? ⟨gb120, 6, none⟩ = some (.int .u64 a0_6) := (blk_cell BK120.out 6).trans rfl
                 have hcz49_7 : wc.cell? ⟨gb120, 7, none⟩ = some (.int .i64 a0_7) := (blk_cell BK120.out 7).trans rfl
                 have hcz49_8 : wc.cell? ⟨gb120, 8, none⟩ = some (.int .u8 a0_8) := (blk_cell BK120.out 8).trans rfl
                 have hcz49_9 : wc.cell? ⟨gb120, 9, none⟩ = some (.int .i64 a0_9) := (blk_cell BK120.out 9).trans rfl
                 have hcz49_10 : wc.cell? ⟨gb120, 10, none⟩ = some (.int .i64 a0_10) := (blk_cell BK120.out 10).trans rfl
                 have hcz49_11 : wc.cell? ⟨gb120, 11, none⟩ = some (.int .i64 a0_11) := (blk_cell BK120.out 11).trans rfl
                 have hfz49_0 := blk_frozen BK120.out 0
                 have hfz49_1 := blk_frozen BK120.out 1
                 have hfz49_2 := blk_frozen BK120.out 2
                 have hfz49_3 := blk_frozen BK120.out 3
                 have hfz49_4 := blk_frozen BK120.out 4
                 have hfz49_5 := blk_frozen BK120.out 5
                 have hfz49_6 := blk_frozen BK120.out 6
                 have hfz49_7 := blk_frozen BK120.out 7
                 have hfz49_8 := blk_frozen BK120.out 8
                 have hfz49_9 := blk_frozen BK120.out 9
                 have hfz49_10 := blk_frozen BK120.out 10
                 have hfz49_11 := blk_frozen BK120.out 11
                 go_wp2_with (first | ((with_reducible refine gate_callee (f := 33) rfl ?_); refine goesL_ (some 52) rfl rfl Try.func33 (by kernel_rfl) rfl #[.agg #[.int .u8 a0_8, .int .i64 a0_9]] rfl args_ ?_; (with_reducible refine (msg_acts.calls a0_8 a0_9 true _ A42.out).mono ?_); rintro e w50 ⟨rfl, hb⟩; refine ⟨_, rfl, ?_⟩; have n0_ := Aside0.mk (blk_below (g := gb120) (o := .cells #[.int .u8 a0_0, .int .i64 a0_1, .int .u64 a0_2, .int .i64 a0_3, .bool a0_4, .int .u64 a0_5, .int .u64 a0_6, .int .i64 a0_7, .int .u8 a0_8, .int .i64 a0_9, .int .i64 a0_10, .int .i64 a0_11] 33 (0, 0)) (by refine blkU ?_; refine blk_far ?_ NB120_122.out _; refine blkU ?_; refine blk_far ?_ NB120_122.out _; refine blkU ?_; exact BK120.out) hb); have n1_ := Aside0.mk (blk_below (g := gb122) (o := .cells #[.int .u8 0, .int .i64 0, .int .u64 0, .int .i64 0, .bool a0_4, .int .u64 a0_5, .int .u64 a0_6, .int .i64 a0_7, .int .u8 0, .int .i64 0, .int .i64 a0_10, .int .i64 a0_11] 33 (0, 0)) (by refine blkU ?_; refine blk_put (cs := #[.int .u8 0, .int .i64 0, .int .u64 0, .int .i64 0, .bool a0_4, .int .u64 a0_5, .int .u64 a0_6, .int .i64 a0_7, .int .u8 0, .int .i64 a0_9, .int .i64 a0_10, .int .i64 a0_11]) ?_ 9 _ rfl; refine blkU ?_; refine blk_put (cs := #[.int .u8 0, .int .i64 0, .int .u64 0, .int .i64 0, .bool a0_4, .int .u64 a0_5, .int .u64 a0_6, .int .i64 a0_7, .int .u8 a0_8, .int .i64 a0_9, .int .i64 a0_10, .int .i64 a0_11]) ?_ 8 _ rfl; refine blkU ?_; exact BK122.out) hb); have n2_ := Aside0.mk (below_step bel_ hb); clear BK120; clear BK122; clear HB; have BK120 := n0_; have BK122 := n1_; have HB := n2_; clear n0_ n1_ n2_; (try clear hb); (try clear hb2); (try clear hk); (try clear hi); have hcz51_0 : w50.cell? ⟨gb122, 0, none⟩ = some (.int .u8 0) := (blk_cell BK122.out 0).trans rfl; have hcz51_1 : w50.cell? ⟨gb122, 1, none⟩ = some (.int .i64 0) := (blk_cell BK122.out 1).trans rfl; have hcz51_2 : w50.cell? ⟨gb122, 2, none⟩ = some (.int .u64 0) := (blk_cell BK122.out 2).trans rfl; have hcz51_3 : w50.cell? ⟨gb122, 3, none⟩ = some (.int .i64 0) := (blk_cell BK122.out 3).trans rfl; have hcz51_4 : w50.cell? ⟨gb122, 4, none⟩ = some (.bool a0_4) := (blk_cell BK122.out 4).trans rfl; have hcz51_5 : w50.cell? ⟨gb122, 5, none⟩ = some (.int .u64 a0_5) := (blk_cell BK122.out 5).trans rfl; have hcz51_6 : w50.cell? ⟨gb122, 6, none⟩ = some (.int .u64 a0_6) := (blk_cell BK122.out 6).trans rfl; have hcz51_7 : w50.cell? ⟨gb122, 7, none⟩ = some (.int .i64 a0_7) := (blk_cell BK122.out 7).trans rfl; have hcz51_8 : w50.cell? ⟨gb122, 8, none⟩ = some (.int .u8 0) := (blk_cell BK122.out 8).trans rfl; have hcz51_9 : w50.cell? ⟨gb122, 9, none⟩ = some (.int .i64 0) := (blk_cell BK122.out 9).trans rfl; have hcz51_10 : w50.cell? ⟨gb122, 10, none⟩ = some (.int .i64 a0_10) := (blk_cell BK122.out 10).trans rfl; have hcz51_11 : w50.cell? ⟨gb122, 11, none⟩ = some (.int .i64 a0_11) := (blk_cell BK122.out 11).trans rfl; have hfz51_0 := blk_frozen BK122.out 0; have hfz51_1 := blk_frozen BK122.out 1; have hfz51_2 := blk_frozen BK122.out 2; have hfz51_3 := blk_frozen BK122.out 3; have hfz51_4 := blk_frozen BK122.out 4; have hfz51_5 := blk_frozen BK122.out 5; have hfz51_6 := blk_frozen BK122.out 6; have hfz51_7 := blk_frozen BK122.out 7; have hfz51_8 := blk_frozen BK122.out 8; have hfz51_9 := blk_frozen BK122.out 9; have hfz51_10 := blk_frozen BK122.out 10; have hfz51_11 := blk_frozen BK122.out 11; have hcz52_0 : w50.cell? ⟨gb120, 0, none⟩ = some (.int .u8 a0_0) := (blk_cell BK120.out 0).trans rfl; have hcz52_1 : w50.cell? ⟨gb120, 1, none⟩ = some (.int .i64 a0_1) := (blk_cell BK120.out 1).trans rfl; have hcz52_2 : w50.cell? ⟨gb120, 2, none⟩ = some (.int .u64 a0_2) := (blk_cell BK120.out 2).trans rfl; have hcz52_3 : w50.cell? ⟨gb120, 3, none⟩ = some (.int .i64 a0_3) := (blk_cell BK120.out 3).trans rfl; have hcz52_4 : w50.cell? ⟨gb120, 4, none⟩ = some (.bool a0_4) := (blk_cell BK120.out 4).trans rfl; have hcz52_5 : w50.cell? ⟨gb120, 5, none⟩ = some (.int .u64 a0_5) := (blk_cell BK120.out 5).trans rfl; have hcz52_6 : w50.cell? ⟨gb120, 6, none⟩ = some (.int .u64 a0_6) := (blk_cell BK120.out 6).trans rfl; have hcz52_7 : w50.cell? ⟨gb120, 7, none⟩ = some (.int .i64 a0_7) := (blk_cell BK120.out 7).trans rfl; have hcz52_8 : w50.cell? ⟨gb120, 8, none⟩ = some (.int .u8 a0_8) := (blk_cell BK120.out 8).trans rfl; have hcz52_9 : w50.cell? ⟨gb120, 9, none⟩ = some (.int .i64 a0_9) := (blk_cell BK120.out 9).trans rfl; have hcz52_10 : w50.cell? ⟨gb120, 10, none⟩ = some (.int .i64 a0_10) := (blk_cell BK120.out 10).trans rfl; have hcz52_11 : w50.cell? ⟨gb120, 11, none⟩ = some (.int .i64 a0_11) := (blk_cell BK120.out 11).trans rfl; have hfz52_0 := blk_frozen BK120.out 0; have hfz52_1 := blk_frozen BK120.out 1; have hfz52_2 := blk_frozen BK120.out 2; have hfz52_3 := blk_frozen BK120.out 3; have hfz52_4 := blk_frozen BK120.out 4; have hfz52_5 := blk_frozen BK120.out 5; have hfz52_6 := blk_frozen BK120.out 6; have hfz52_7 := blk_frozen BK120.out 7; have hfz52_8 := blk_frozen BK120.out 8; have hfz52_9 := blk_frozen BK120.out 9; have hfz52_10 := blk_frozen BK120.out 10; have hfz52_11 := blk_frozen BK120.out 11) | (go_at_call 34; (with_reducible refine (addr_Check.calls kj14 a0_4 a0_5 a0_6 a0_7 t125 _ A44.out).mono ?_); rintro e w53 ⟨rfl, hb⟩; have n0_ := Aside0.mk (blk_below (g := gb120) (o := .cells #[.int .u8 a0_0, .int .i64 a0_1, .int .u64 a0_2, .int .i64 a0_3, .bool a0_4, .int .u64 a0_5, .int .u64 a0_6, .int .i64 a0_7, .int .u8 a0_8, .int .i64 a0_9, .int .i64 a0_10, .int .i64 a0_11] 33 (0, 0)) (by refine blkU ?_; refine blk_far ?_ NB120_122.out _; refine blkU ?_; refine blk_far ?_ NB120_122.out _; refine blkU ?_; refine blk_far ?_ NB120_122.out _; refine blkU ?_; refine blk_far ?_ NB120_122.out _; refine blkU ?_; exact BK120.out) hb); have n1_ := Aside0.mk (blk_below (g := gb122) (o := .cells #[.int .u8 0, .int .i64 0, .int .u64 0, .int .i64 0, .bool false, .int .u64 0, .int .u64 0, .int .i64 0, .int .u8 0, .int .i64 0, .int .i64 a0_10, .int .i64 a0_11] 33 (0, 0)) (by refine blkU ?_; refine blk_put (cs := #[.int .u8 0, .int .i64 0, .int .u64 0, .int .i64 0, .bool false, .int .u64 0, .int .u64 0, .int .i64 a0_7, .int .u8 0, .int .i64 0, .int .i64 a0_10, .int .i64 a0_11]) ?_ 7 _ rfl; refine blkU ?_; refine blk_put (cs := #[.int .u8 0, .int .i64 0, .int .u64 0, .int .i64 0, .bool false, .int .u64 0, .int .u64 a0_6, .int .i64 a0_7, .int .u8 0, .int .i64 0, .int .i64 a0_10, .int .i64 a0_11]) ?_ 6 _ rfl; refine blkU ?_; refine blk_put (cs := #[.int .u8 0, .int .i64 0, .int .u64 0, .int .i64 0, .bool false, .int .u64 a0_5, .int .u64 a0_6, .int .i64 a0_7, .int .u8 0, .int .i64 0, .int .i64 a0_10, .int .i64 a0_11]) ?_ 5 _ rfl; refine blkU ?_; refine blk_put (cs := #[.int .u8 0, .int .i64 0, .int .u64 0, .int .i64 0, .bool a0_4, .int .u64 a0_5, .int .u64 a0_6, .int .i64 a0_7, .int .u8 0, .int .i64 0, .int .i64 a0_10, .int .i64 a0_11]) ?_ 4 _ rfl; refine blkU ?_; exact BK122.out) hb); have n2_ := Aside0.mk (below_step bel_ hb); clear BK120; clear BK122; clear HB; have BK120 := n0_; have BK122 := n1_; have HB := n2_; clear n0_ n1_ n2_; (try clear hb); (try clear hb2); (try clear hk); (try clear hi)) | ((with_reducible refine gate_dst (N := 5) rfl ?_); refine box_event ?hg (N := 5) ?hd (cs := #[.int .u8 0, .int .i64 0, .int .u64 0, .int .i64 0, .bool false, .int .u64 0, .int .u64 0, .int .i64 0, .int .u8 0, .int .i64 0, .int .i64 0, .int .i64 0]) (t := 33) ?hr ?_; (case hd => rfl); (case hg => rfl); (case hr => first | (go_simp; done) | (go_simp; rfl)); intro gb126 hg w54 hbox hb; have n0_ := Aside0.mk (blk_below (blkU BK120.out) hb); have n1_ := Aside0.mk (blk_below (blkU BK122.out) hb); have n2_ := Aside0.mk (below_step bel_ hb); have n3_ := Aside0.mk (hbox); have n4_ := Aside0.mk ((by rw [hg]; exact (below_size bel_) : w.heap.size ≤ gb126)); have n5_ := Aside0.mk ((by rw [hg]; exact (below_size bel_) : w.heap.size ≤ gb126)); have n6_ := Aside0.mk ((by rw [hg]; exact Nat.ne_of_lt (blk_lt (blkU BK120.out)) : gb120 ≠ gb126)); have n7_ := Aside0.mk ((by rw [hg]; exact Nat.ne_of_gt (blk_lt (blkU BK120.out)) : gb126 ≠ gb120)); have n8_ := Aside0.mk ((by rw [hg]; exact Nat.ne_of_lt (blk_lt (blkU BK122.out)) : gb122 ≠ gb126)); have n9_ := Aside0.mk ((by rw [hg]; exact Nat.ne_of_gt (blk_lt (blkU BK122.out)) : gb126 ≠ gb122)); clear BK120; clear BK122; clear HB; have BK120 := n0_; have BK122 := n1_; have HB := n2_; have BK126 := n3_; have GW126 := n4_; have GE126 := n5_; have NB120_126 := n6_; have NB126_120 := n7_; have NB122_126 := n8_; have NB126_122 := n9_; clear n0_ n1_ n2_ n3_ n4_ n5_ n6_ n7_ n8_ n9_; clear hb hbox hg; have hnb55 := NB126_120.out; have hnc55 := NB120_126.out; have hnb56 := NB126_122.out; have hnc56 := NB122_126.out; have hcz57_0 : w54.cell? ⟨gb126, 0, none⟩ = some (.int .u8 0) := (blk_cell BK126.out 0).trans rfl; have hcz57_1 : w54.cell? ⟨gb126, 1, none⟩ = some (.int .i64 0) := (blk_cell BK126.out 1).trans rfl; have hcz57_2 : w54.cell? ⟨gb126, 2, none⟩ = some (.int .u64 0) := (blk_cell BK126.out 2).trans rfl; have hcz57_3 : w54.cell? ⟨gb126, 3, none⟩ = some (.int .i64 0) := (blk_cell BK126.out 3).trans rfl; have hcz57_4 : w54.cell? ⟨gb126, 4, none⟩ = some (.bool false) := (blk_cell BK126.out 4).trans rfl; have hcz57_5 : w54.cell? ⟨gb126, 5, none⟩ = some (.int .u64 0) := (blk_cell BK126.out 5).trans rfl; have hcz57_6 : w54.cell? ⟨gb126, 6, none⟩ = some (.int .u64 0) := (blk_cell BK126.out 6).trans rfl; have hcz57_7 : w54.cell? ⟨gb126, 7, none⟩ = some (.int .i64 0) := (blk_cell BK126.out 7).trans rfl; have hcz57_8 : w54.cell? ⟨gb126, 8, none⟩ = some (.int .u8 0) := (blk_cell BK126.out 8).trans rfl; have hcz57_9 : w54.cell? ⟨gb126, 9, none⟩ = some (.int .i64 0) := (blk_cell BK126.out 9).trans rfl; have hcz57_10 : w54.cell? ⟨gb126, 10, none⟩ = some (.int .i64 0) := (blk_cell BK126.out 10).trans rfl; have hcz57_11 : w54.cell? ⟨gb126, 11, none⟩ = some (.int .i64 0) := (blk_cell BK126.out 11).trans rfl; have hfz57_0 := blk_frozen BK126.out 0; have hfz57_1 := blk_frozen BK126.out 1; have hfz57_2 := blk_frozen BK126.out 2; have hfz57_3 := blk_frozen BK126.out 3; have hfz57_4 := blk_frozen BK126.out 4; have hfz57_5 := blk_frozen BK126.out 5; have hfz57_6 := blk_frozen BK126.out 6; have hfz57_7 := blk_frozen BK126.out 7; have hfz57_8 := blk_frozen BK126.out 8; have hfz57_9 := blk_frozen BK126.out 9; have hfz57_10 := blk_frozen BK126.out 10; have hfz57_11 := blk_frozen BK126.out 11; have hcz58_0 : w54.cell? ⟨gb122, 0, none⟩ = some (.int .u8 0) := (blk_cell BK122.out 0).trans rfl; have hcz58_1 : w54.cell? ⟨gb122, 1, none⟩ = some (.int .i64 0) := (blk_cell BK122.out 1).trans rfl; have hcz58_2 : w54.cell? ⟨gb122, 2, none⟩ = some (.int .u64 0) := (blk_cell BK122.out 2).trans rfl; have hcz58_3 : w54.cell? ⟨gb122, 3, none⟩ = some (.int .i64 0) := (blk_cell BK122.out 3).trans rfl; have hcz58_4 : w54.cell? ⟨gb122, 4, none⟩ = some (.bool false) := (blk_cell BK122.out 4).trans rfl; have hcz58_5 : w54.cell? ⟨gb122, 5, none⟩ = some (.int .u64 0) := (blk_cell BK122.out 5).trans rfl; have hcz58_6 : w54.cell? ⟨gb122, 6, none⟩ = some (.int .u64 0) := (blk_cell BK122.out 6).trans rfl; have hcz58_7 : w54.cell? ⟨gb122, 7, none⟩ = some (.int .i64 0) := (blk_cell BK122.out 7).trans rfl; have hcz58_8 : w54.cell? ⟨gb122, 8, none⟩ = some (.int .u8 0) := (blk_cell BK122.out 8).trans rfl; have hcz58_9 : w54.cell? ⟨gb122, 9, none⟩ = some (.int .i64 0) := (blk_cell BK122.out 9).trans rfl; have hcz58_10 : w54.cell? ⟨gb122, 10, none⟩ = some (.int .i64 a0_10) := (blk_cell BK122.out 10).trans rfl; have hcz58_11 : w54.cell? ⟨gb122, 11, none⟩ = some (.int .i64 a0_11) := (blk_cell BK122.out 11).trans rfl; have hfz58_0 := blk_frozen BK122.out 0; have hfz58_1 := blk_frozen BK122.out 1; have hfz58_2 := blk_frozen BK122.out 2; have hfz58_3 := blk_frozen BK122.out 3; have hfz58_4 := blk_frozen BK122.out 4; have hfz58_5 := blk_frozen BK122.out 5; have hfz58_6 := blk_frozen BK122.out 6; have hfz58_7 := blk_frozen BK122.out 7; have hfz58_8 := blk_frozen BK122.out 8; have hfz58_9 := blk_frozen BK122.out 9; have hfz58_10 := blk_frozen BK122.out 10; have hfz58_11 := blk_frozen BK122.out 11))
                 go_ret
                 exact ⟨by first | rfl | (simp [errW_none, errW_some] <;> rfl) | (simp [*, errW_none, errW_some] <;> rfl), bel_⟩
               · rw [if_neg c46] at H
                 have c46b0 : (((((!(a0_10 == 0) || (!(a0_11 == 0))))))) = false := by simpa using c46
                 clear c46
                 obtain rfl := Option.some.inj H
                 have hnb59 := NB122_120.out
                 have hnc59 := NB120_122.out
                 have hcz60_0 : wc.cell? ⟨gb122, 0, none⟩ = some (.int .u8 0) := (blk_cell BK122.out 0).trans rfl
                 have hcz60_1 : wc.cell? ⟨gb122, 1, none⟩ = some (.int .i64 0) := (blk_cell BK122.out 1).trans rfl
                 have hcz60_2 : wc.cell? ⟨gb122, 2, none⟩ = some (.int .u64 0) := (blk_cell BK122.out 2).trans rfl
                 have hcz60_3 : wc.cell? ⟨gb122, 3, none⟩ = some (.int .i64 0) := (blk_cell BK122.out 3).trans rfl
                 have hcz60_4 : wc.cell? ⟨gb122, 4, none⟩ = some (.bool a0_4) := (blk_cell BK122.out 4).trans rfl
                 have hcz60_5 : wc.cell? ⟨gb122, 5, none⟩ = some (.int .u64 a0_5) := (blk_cell BK122.out 5).trans rfl
                 have hcz60_6 : wc.cell? ⟨gb122, 6, none⟩ = some (.int .u64 a0_6) := (blk_cell BK122.out 6).trans rfl
                 have hcz60_7 : wc.cell? ⟨gb122, 7, none⟩ = some (.int .i64 a0_7) := (blk_cell BK122.out 7).trans rfl
                 have hcz60_8 : wc.cell? ⟨gb122, 8, none⟩ = some (.int .u8 a0_8) := (blk_cell BK122.out 8).trans rfl
                 have hcz60_9 : wc.cell? ⟨gb122, 9, none⟩ = some (.int .i64 a0_9) := (blk_cell BK122.out 9).trans rfl
                 have hcz60_10 : wc.cell? ⟨gb122, 10, none⟩ = some (.int .i64 a0_10) := (blk_cell BK122.out 10).trans rfl
                 have hcz60_11 : wc.cell? ⟨gb122, 11, none⟩ = some (.int .i64 a0_11) := (blk_cell BK122.out 11).trans rfl
                 have hfz60_0 := blk_frozen BK122.out 0
                 have hfz60_1 := blk_frozen BK122.out 1
                 have hfz60_2 := blk_frozen BK122.out 2
                 have hfz60_3 := blk_frozen BK122.out 3
                 have hfz60_4 := blk_frozen BK122.out 4
                 have hfz60_5 := blk_frozen BK122.out 5
                 have hfz60_6 := blk_frozen BK122.out 6
                 have hfz60_7 := blk_frozen BK122.out 7
                 have hfz60_8 := blk_frozen BK122.out 8
                 have hfz60_9 := blk_frozen BK122.out 9
                 have hfz60_10 := blk_frozen BK122.out 10
                 have hfz60_11 := blk_frozen BK122.out 11
                 have hcz61_0 : wc.cell? ⟨gb120, 0, none⟩ = some (.int .u8 a0_0) := (blk_cell BK120.out 0).trans rfl
                 have hcz61_1 : wc.cell? ⟨gb120, 1, none⟩ = some (.int .i64 a0_1) := (blk_cell BK120.out 1).trans rfl
                 have hcz61_2 : wc.cell? ⟨gb120, 2, none⟩ = some (.int .u64 a0_2) := (blk_cell BK120.out 2).trans rfl
                 have hcz61_3 : wc.cell? ⟨gb120, 3, none⟩ = some (.int .i64 a0_3) := (blk_cell BK120.out 3).trans rfl
                 have hcz61_4 : wc.cell? ⟨gb120, 4, none⟩ = some (.bool a0_4) := (blk_cell BK120.out 4).trans rfl
                 have hcz61_5 : wc.cell? ⟨gb120, 5, none⟩ = some (.int .u64 a0_5) := (blk_cell BK120.out 5).trans rfl
                 have hcz61_6 : wc.cell? ⟨gb120, 6, none⟩ = some (.int .u64 a0_6) := (blk_cell BK120.out 6).trans rfl
                 have hcz61_7 : wc.cell? ⟨gb120, 7, none⟩ = some (.int .i64 a0_7) := (blk_cell BK120.out 7).trans rfl
                 have hcz61_8 : wc.cell? ⟨gb120, 8, none⟩ = some (.int .u8 a0_8) := (blk_cell BK120.out 8).trans rfl
                 have hcz61_9 : wc.cell? ⟨gb120, 9, none⟩ = some (.int .i64 a0_9) := (blk_cell BK120.out 9).trans rfl
                 have hcz61_10 : wc.cell? ⟨gb120, 10, none⟩ = some (.int .i64 a0_10) := (blk_cell BK120.out 10).trans rfl
                 have hcz61_11 : wc.cell? ⟨gb120, 11, none⟩ = some (.int .i64 a0_11) := (blk_cell BK120.out 11).trans rfl
                 have hfz61_0 := blk_frozen BK120.out 0
                 have hfz61_1 := blk_frozen BK120.out 1
                 have hfz61_2 := blk_frozen BK120.out 2
                 have hfz61_3 := blk_frozen BK120.out 3
                 have hfz61_4 := blk_frozen BK120.out 4
                 have hfz61_5 := blk_frozen BK120.out 5
                 have hfz61_6 := blk_frozen BK120.out 6
                 have hfz61_7 := blk_frozen BK120.out 7
                 have hfz61_8 := blk_frozen BK120.out 8
                 have hfz61_9 := blk_frozen BK120.out 9
                 have hfz61_10 := blk_frozen BK120.out 10
                 have hfz61_11 := blk_frozen BK120.out 11
                 go_wp2_with (first | ((with_reducible refine gate_callee (f := 33) rfl ?_); refine goesL_ (some 52) rfl rfl Try.func33 (by kernel_rfl) rfl #[.agg #[.int .u8 a0_8, .int .i64 a0_9]] rfl args_ ?_; (with_reducible refine (msg_acts.calls a0_8 a0_9 true _ A42.out).mono ?_); rintro e w62 ⟨rfl, hb⟩; refine ⟨_, rfl, ?_⟩; have n0_ := Aside0.mk (blk_below (g := gb120) (o := .cells #[.int .u8 a0_0, .int .i64 a0_1, .int .u64 a0_2, .int .i64 a0_3, .bool a0_4, .int .u64 a0_5, .int .u64 a0_6, .int .i64 a0_7, .int .u8 a0_8, .int .i64 a0_9, .int .i64 a0_10, .int .i64 a0_11] 33 (0, 0)) (by refine blkU ?_; refine blk_far ?_ NB120_122.out _; refine blkU ?_; refine blk_far ?_ NB120_122.out _; refine blkU ?_; exact BK120.out) hb); have n1_ := Aside0.mk (blk_below (g := gb122) (o := .cells #[.int .u8 0, .int .i64 0, .int .u64 0, .int .i64 0, .bool a0_4, .int .u64 a0_5, .int .u64 a0_6, .int .i64 a0_7, .int .u8 0, .int .i64 0, .int .i64 a0_10, .int .i64 a0_11] 33 (0, 0)) (by refine blkU ?_; refine blk_put (cs := #[.int .u8 0, .int .i64 0, .int .u64 0, .int .i64 0, .bool a0_4, .int .u64 a0_5, .int .u64 a0_6, .int .i64 a0_7, .int .u8 0, .int .i64 a0_9, .int .i64 a0_10, .int .i64 a0_11]) ?_ 9 _ rfl; refine blkU ?_; refine blk_put (cs := #[.int .u8 0, .int .i64 0, .int .u64 0, .int .i64 0, .bool a0_4, .int .u64 a0_5, .int .u64 a0_6, .int .i64 a0_7, .int .u8 a0_8, .int .i64 a0_9, .int .i64 a0_10, .int .i64 a0_11]) ?_ 8 _ rfl; refine blkU ?_; exact BK122.out) hb); have n2_ := Aside0.mk (below_step bel_ hb); clear BK120; clear BK122; clear HB; have BK120 := n0_; have BK122 := n1_; have HB := n2_; clear n0_ n1_ n2_; (try clear hb); (try clear hb2); (try clear hk); (try clear hi); have hcz63_0 : w62.cell? ⟨gb122, 0, none⟩ = some (.int .u8 0) := (blk_cell BK122.out 0).trans rfl; have hcz63_1 : w62.cell? ⟨gb122, 1, none⟩ = some (.int .i64 0) := (blk_cell BK122.out 1).trans rfl; have hcz63_2 : w62.cell? ⟨gb122, 2, none⟩ = some (.int .u64 0) := (blk_cell BK122.out 2).trans rfl; have hcz63_3 : w62.cell? ⟨gb122, 3, none⟩ = some (.int .i64 0) := (blk_cell BK122.out 3).trans rfl; have hcz63_4 : w62.cell? ⟨gb122, 4, none⟩ = some (.bool a0_4) := (blk_cell BK122.out 4).trans rfl; have hcz63_5 : w62.cell? ⟨gb122, 5, none⟩ = some (.int .u64 a0_5) := (blk_cell BK122.out 5).trans rfl; have hcz63_6 : w62.cell? ⟨gb122, 6, none⟩ = some (.int .u64 a0_6) := (blk_cell BK122.out 6).trans rfl; have hcz63_7 : w62.cell? ⟨gb122, 7, none⟩ = some (.int .i64 a0_7) := (blk_cell BK122.out 7).trans rfl; have hcz63_8 : w62.cell? ⟨gb122, 8, none⟩ = some (.int .u8 0) := (blk_cell BK122.out 8).trans rfl; have hcz63_9 : w62.cell? ⟨gb122, 9, none⟩ = some (.int .i64 0) := (blk_cell BK122.out 9).trans rfl; have hcz63_10 : w62.cell? ⟨gb122, 10, none⟩ = some (.int .i64 a0_10) := (blk_cell BK122.out 10).trans rfl; have hcz63_11 : w62.cell? ⟨gb122, 11, none⟩ = some (.int .i64 a0_11) := (blk_cell BK122.out 11).trans rfl; have hfz63_0 := blk_frozen BK122.out 0; have hfz63_1 := blk_frozen BK122.out 1; have hfz63_2 := blk_frozen BK122.out 2; have hfz63_3 := blk_frozen BK122.out 3; have hfz63_4 := blk_frozen BK122.out 4; have hfz63_5 := blk_frozen BK122.out 5; have hfz63_6 := blk_frozen BK122.out 6; have hfz63_7 := blk_frozen BK122.out 7; have hfz63_8 := blk_frozen BK122.out 8; have hfz63_9 := blk_frozen BK122.out 9; have hfz63_10 := blk_frozen BK122.out 10; have hfz63_11 := blk_frozen BK122.out 11; have hcz64_0 : w62.cell? ⟨gb120, 0, none⟩ = some (.int .u8 a0_0) := (blk_cell BK120.out 0).trans rfl; have hcz64_1 : w62.cell? ⟨gb120, 1, none⟩ = some (.int .i64 a0_1) := (blk_cell BK120.out 1).trans rfl; have hcz64_2 : w62.cell? ⟨gb120, 2, none⟩ = some (.int .u64 a0_2) := (blk_cell BK120.out 2).trans rfl; have hcz64_3 : w62.cell? ⟨gb120, 3, none⟩ = some (.int .i64 a0_3) := (blk_cell BK120.out 3).trans rfl; have hcz64_4 : w62.cell? ⟨gb120, 4, none⟩ = some (.bool a0_4) := (blk_cell BK120.out 4).trans rfl; have hcz64_5 : w62.cell? ⟨gb120, 5, none⟩ = some (.int .u64 a0_5) := (blk_cell BK120.out 5).trans rfl; have hcz64_6 : w62.cell? ⟨gb120, 6, none⟩ = some (.int .u64 a0_6) := (blk_cell BK120.out 6).trans rfl; have hcz64_7 : w62.cell? ⟨gb120, 7, none⟩ = some (.int .i64 a0_7) := (blk_cell BK120.out 7).trans rfl; have hcz64_8 : w62.cell? ⟨gb120, 8, none⟩ = some (.int .u8 a0_8) := (blk_cell BK120.out 8).trans rfl; have hcz64_9 : w62.cell? ⟨gb120, 9, none⟩ = some (.int .i64 a0_9) := (blk_cell BK120.out 9).trans rfl; have hcz64_10 : w62.cell? ⟨gb120, 10, none⟩ = some (.int .i64 a0_10) := (blk_cell BK120.out 10).trans rfl; have hcz64_11 : w62.cell? ⟨gb120, 11, none⟩ = some (.int .i64 a0_11) := (blk_cell BK120.out 11).trans rfl; have hfz64_0 := blk_frozen BK120.out 0; have hfz64_1 := blk_frozen BK120.out 1; have hfz64_2 := blk_frozen BK120.out 2; have hfz64_3 := blk_frozen BK120.out 3; have hfz64_4 := blk_frozen BK120.out 4; have hfz64_5 := blk_frozen BK120.out 5; have hfz64_6 := blk_frozen BK120.out 6; have hfz64_7 := blk_frozen BK120.out 7; have hfz64_8 := blk_frozen BK120.out 8; have hfz64_9 := blk_frozen BK120.out 9; have hfz64_10 := blk_frozen BK120.out 10; have hfz64_11 := blk_frozen BK120.out 11) | (go_at_call 34; (with_reducible refine (addr_Check.calls kj14 a0_4 a0_5 a0_6 a0_7 t125 _ A44.out).mono ?_); rintro e w65 ⟨rfl, hb⟩; have n0_ := Aside0.mk (blk_below (g := gb120) (o := .cells #[.int .u8 a0_0, .int .i64 a0_1, .int .u64 a0_2, .int .i64 a0_3, .bool a0_4, .int .u64 a0_5, .int .u64 a0_6, .int .i64 a0_7, .int .u8 a0_8, .int .i64 a0_9, .int .i64 a0_10, .int .i64 a0_11] 33 (0, 0)) (by refine blkU ?_; refine blk_far ?_ NB120_122.out _; refine blkU ?_; refine blk_far ?_ NB120_122.out _; refine blkU ?_; refine blk_far ?_ NB120_122.out _; refine blkU ?_; refine blk_far ?_ NB120_122.out _; refine blkU ?_; exact BK120.out) hb); have n1_ := Aside0.mk (blk_below (g := gb122) (o := .cells #[.int .u8 0, .int .i64 0, .int .u64 0, .int .i64 0, .bool false, .int .u64 0, .int .u64 0, .int .i64 0, .int .u8 0, .int .i64 0, .int .i64 a0_10, .int .i64 a0_11] 33 (0, 0)) (by refine blkU ?_; refine blk_put (cs := #[.int .u8 0, .int .i64 0, .int .u64 0, .int .i64 0, .bool false, .int .u64 0, .int .u64 0, .int .i64 a0_7, .int .u8 0, .int .i64 0, .int .i64 a0_10, .int .i64 a0_11]) ?_ 7 _ rfl; refine blkU ?_; refine blk_put (cs := #[.int .u8 0, .int .i64 0, .int .u64 0, .int .i64 0, .bool false, .int .u64 0, .int .u64 a0_6, .int .i64 a0_7, .int .u8 0, .int .i64 0, .int .i64 a0_10, .int .i64 a0_11]) ?_ 6 _ rfl; refine blkU ?_; refine blk_put (cs := #[.int .u8 0, .int .i64 0, .int .u64 0, .int .i64 0, .bool false, .int .u64 a0_5, .int .u64 a0_6, .int .i64 a0_7, .int .u8 0, .int .i64 0, .int .i64 a0_10, .int .i64 a0_11]) ?_ 5 _ rfl; refine blkU ?_; refine blk_put (cs := #[.int .u8 0, .int .i64 0, .int .u64 0, .int .i64 0, .bool a0_4, .int .u64 a0_5, .int .u64 a0_6, .int .i64 a0_7, .int .u8 0, .int .i64 0, .int .i64 a0_10, .int .i64 a0_11]) ?_ 4 _ rfl; refine blkU ?_; exact BK122.out) hb); have n2_ := Aside0.mk (below_step bel_ hb); clear BK120; clear BK122; clear HB; have BK120 := n0_; have BK122 := n1_; have HB := n2_; clear n0_ n1_ n2_; (try clear hb); (try clear hb2); (try clear hk); (try clear hi)) | ((with_reducible refine gate_dst (N := 5) rfl ?_); refine box_event ?hg (N := 5) ?hd (cs := #[.int .u8 0, .int .i64 0, .int .u64 0, .int .i64 0, .bool false, .int .u64 0, .int .u64 0, .int .i64 0, .int .u8 0, .int .i64 0, .int .i64 0, .int .i64 0]) (t := 33) ?hr ?_; (case hd => rfl); (case hg => rfl); (case hr => first | (go_simp; done) | (go_simp; rfl)); intro gb126 hg w66 hbox hb; have n0_ := Aside0.mk (blk_below (blkU BK120.out) hb); have n1_ := Aside0.mk (blk_below (blkU BK122.out) hb); have n2_ := Aside0.mk (below_step bel_ hb); have n3_ := Aside0.mk (hbox); have n4_ := Aside0.mk ((by rw [hg]; exact (below_size bel_) : w.heap.size ≤ gb126)); have n5_ := Aside0.mk ((by rw [hg]; exact (below_size bel_) : w.heap.size ≤ gb126)); have n6_ := Aside0.mk ((by rw [hg]; exact Nat.ne_of_lt (blk_lt (blkU BK120.out)) : gb120 ≠ gb126)); have n7_ := Aside0.mk ((by rw [hg]; exact Nat.ne_of_gt (blk_lt (blkU BK120.out)) : gb126 ≠ gb120)); have n8_ := Aside0.mk ((by rw [hg]; exact Nat.ne_of_lt (blk_lt (blkU BK122.out)) : gb122 ≠ gb126)); have n9_ := Aside0.mk ((by rw [hg]; exact Nat.ne_of_gt (blk_lt (blkU BK122.out)) : gb126 ≠ gb122)); clear BK120; clear BK122; clear HB; have BK120 := n0_; have BK122 := n1_; have HB := n2_; have BK126 := n3_; have GW126 := n4_; have GE126 := n5_; have NB120_126 := n6_; have NB126_120 := n7_; have NB122_126 := n8_; have NB126_122 := n9_; clear n0_ n1_ n2_ n3_ n4_ n5_ n6_ n7_ n8_ n9_; clear hb hbox hg; have hnb67 := NB126_120.out; have hnc67 := NB120_126.out; have hnb68 := NB126_122.out; have hnc68 := NB122_126.out; have hcz69_0 : w66.cell? ⟨gb126, 0, none⟩ = some (.int .u8 0) := (blk_cell BK126.out 0).trans rfl; have hcz69_1 : w66.cell? ⟨gb126, 1, none⟩ = some (.int .i64 0) := (blk_cell BK126.out 1).trans rfl; have hcz69_2 : w66.cell? ⟨gb126, 2, none⟩ = some (.int .u64 0) := (blk_cell BK126.out 2).trans rfl; have hcz69_3 : w66.cell? ⟨gb126, 3, none⟩ = some (.int .i64 0) := (blk_cell BK126.out 3).trans rfl; have hcz69_4 : w66.cell? ⟨gb126, 4, none⟩ = some (.bool false) := (blk_cell BK126.out 4).trans rfl; have hcz69_5 : w66.cell? ⟨gb126, 5, none⟩ = some (.int .u64 0) := (blk_cell BK126.out 5).trans rfl; have hcz69_6 : w66.cell? ⟨gb126, 6, none⟩ = some (.int .u64 0) := (blk_cell BK126.out 6).trans rfl; have hcz69_7 : w66.cell? ⟨gb126, 7, none⟩ = some (.int .i64 0) := (blk_cell BK126.out 7).trans rfl; have hcz69_8 : w66.cell? ⟨gb126, 8, none⟩ = some (.int .u8 0) := (blk_cell BK126.out 8).trans rfl; have hcz69_9 : w66.cell? ⟨gb126, 9, none⟩ = some (.int .i64 0) := (blk_cell BK126.out 9).trans rfl; have hcz69_10 : w66.cell? ⟨gb126, 10, none⟩ = some (.int .i64 0) := (blk_cell BK126.out 10).trans rfl; have hcz69_11 : w66.cell? ⟨gb126, 11, none⟩ = some (.int .i64 0) := (blk_cell BK126.out 11).trans rfl; have hfz69_0 := blk_frozen BK126.out 0; have hfz69_1 := blk_frozen BK126.out 1; have hfz69_2 := blk_frozen BK126.out 2; have hfz69_3 := blk_frozen BK126.out 3; have hfz69_4 := blk_frozen BK126.out 4; have hfz69_5 := blk_frozen BK126.out 5; have hfz69_6 := blk_frozen BK126.out 6; have hfz69_7 := blk_frozen BK126.out 7; have hfz69_8 := blk_frozen BK126.out 8; have hfz69_9 := blk_frozen BK126.out 9; have hfz69_10 := blk_frozen BK126.out 10; have hfz69_11 := blk_frozen BK126.out 11; have hcz70_0 : w66.cell? ⟨gb122, 0, none⟩ = some (.int .u8 0) := (blk_cell BK122.out 0).trans rfl; have hcz70_1 : w66.cell? ⟨gb122, 1, none⟩ = some (.int .i64 0) := (blk_cell BK122.out 1).trans rfl; have hcz70_2 : w66.cell? ⟨gb122, 2, none⟩ = some (.int .u64 0) := (blk_cell BK122.out 2).trans rfl; have hcz70_3 : w66.cell? ⟨gb122, 3, none⟩ = some (.int .i64 0) := (blk_cell BK122.out 3).trans rfl; have hcz70_4 : w66.cell? ⟨gb122, 4, none⟩ = some (.bool false) := (blk_cell BK122.out 4).trans rfl; have hcz70_5 : w66.cell? ⟨gb122, 5, none⟩ = some (.int .u64 0) := (blk_cell BK122.out 5).trans rfl; have hcz70_6 : w66.cell? ⟨gb122, 6, none⟩ = some (.int .u64 0) := (blk_cell BK122.out 6).trans rfl; have hcz70_7 : w66.cell? ⟨gb122, 7, none⟩ = some (.int .i64 0) := (blk_cell BK122.out 7).trans rfl; have hcz70_8 : w66.cell? ⟨gb122, 8, none⟩ = some (.int .u8 0) := (blk_cell BK122.out 8).trans rfl; have hcz70_9 : w66.cell? ⟨gb122, 9, none⟩ = some (.int .i64 0) := (blk_cell BK122.out 9).trans rfl; have hcz70_10 : w66.cell? ⟨gb122, 10, none⟩ = some (.int .i64 a0_10) := (blk_cell BK122.out 10).trans rfl; have hcz70_11 : w66.cell? ⟨gb122, 11, none⟩ = some (.int .i64 a0_11) := (blk_cell BK122.out 11).trans rfl; have hfz70_0 := blk_frozen BK122.out 0; have hfz70_1 := blk_frozen BK122.out 1; have hfz70_2 := blk_frozen BK122.out 2; have hfz70_3 := blk_frozen BK122.out 3; have hfz70_4 := blk_frozen BK122.out 4; have hfz70_5 := blk_frozen BK122.out 5; have hfz70_6 := blk_frozen BK122.out 6; have hfz70_7 := blk_frozen BK122.out 7; have hfz70_8 := blk_frozen BK122.out 8; have hfz70_9 := blk_frozen BK122.out 9; have hfz70_10 := blk_frozen BK122.out 10; have hfz70_11 := blk_frozen BK122.out 11))
                 go_ret
                 exact ⟨by first | rfl | (simp [errW_none, errW_some] <;> rfl) | (simp [*, errW_none, errW_some] <;> rfl), bel_⟩
             · rw [if_neg c45] at H
               have c45b0 : (t125 == 0) = false := beq_eq_false_iff_ne.mpr c45
               have c45b1 : (t125 != 0) = true := bne_iff_ne.mpr c45
               obtain rfl := Option.some.inj H
               have hnb71 := NB122_120.out
               have hnc71 := NB120_122.out
               have hcz72_0 : wc.cell? ⟨gb122, 0, none⟩ = some (.int .u8 0) := (blk_cell BK122.out 0).trans rfl
               have hcz72_1 : wc.cell? ⟨gb122, 1, none⟩ = some (.int .i64 0) := (blk_cell BK122.out 1).trans rfl
               have hcz72_2 : wc.cell? ⟨gb122, 2, none⟩ = some (.int .u64 0) := (blk_cell BK122.out 2).trans rfl
               have hcz72_3 : wc.cell? ⟨gb122, 3, none⟩ = some (.int .i64 0) := (blk_cell BK122.out 3).trans rfl
               have hcz72_4 : wc.cell? ⟨gb122, 4, none⟩ = some (.bool a0_4) := (blk_cell BK122.out 4).trans rfl
               have hcz72_5 : wc.cell? ⟨gb122, 5, none⟩ = some (.int .u64 a0_5) := (blk_cell BK122.out 5).trans rfl
               have hcz72_6 : wc.cell? ⟨gb122, 6, none⟩ = some (.int .u64 a0_6) := (blk_cell BK122.out 6).trans rfl
               have hcz72_7 : wc.cell? ⟨gb122, 7, none⟩ = some (.int .i64 a0_7) := (blk_cell BK122.out 7).trans rfl
               have hcz72_8 : wc.cell? ⟨gb122, 8, none⟩ = some (.int .u8 a0_8) := (blk_cell BK122.out 8).trans rfl
               have hcz72_9 : wc.cell? ⟨gb122, 9, none⟩ = some (.int .i64 a0_9) := (blk_cell BK122.out 9).trans rfl
               have hcz72_10 : wc.cell? ⟨gb122, 10, none⟩ = some (.int .i64 a0_10) := (blk_cell BK122.out 10).trans rfl
               have hcz72_11 : wc.cell? ⟨gb122, 11, none⟩ = some (.int .i64 a0_11) := (blk_cell BK122.out 11).trans rfl
               have hfz72_0 := blk_frozen BK122.out 0
               have hfz72_1 := blk_frozen BK122.out 1
               have hfz72_2 := blk_frozen BK122.out 2
               have hfz72_3 := blk_frozen BK122.out 3
               have hfz72_4 := blk_frozen BK122.out 4
               have hfz72_5 := blk_frozen BK122.out 5
               have hfz72_6 := blk_frozen BK122.out 6
               have hfz72_7 := blk_frozen BK122.out 7
               have hfz72_8 := blk_frozen BK122.out 8
               have hfz72_9 := blk_frozen BK122.out 9
               have hfz72_10 := blk_frozen BK122.out 10
               have hfz72_11 := blk_frozen BK122.out 11
               have hcz73_0 : wc.cell? ⟨gb120, 0, none⟩ = some (.int .u8 a0_0) := (blk_cell BK120.out 0).trans rfl
               have hcz73_1 : wc.cell? ⟨gb120, 1, none⟩ = some (.int .i64 a0_1) := (blk_cell BK120.out 1).trans rfl
               have hcz73_2 : wc.cell? ⟨gb120, 2, none⟩ = some (.int .u64 a0_2) := (blk_cell BK120.out 2).trans rfl
               have hcz73_3 : wc.cell? ⟨gb120, 3, none⟩ = some (.int .i64 a0_3) := (blk_cell BK120.out 3).trans rfl
               have hcz73_4 : wc.cell? ⟨gb120, 4, none⟩ = some (.bool a0_4) := (blk_cell BK120.out 4).trans rfl
               have hcz73_5 : wc.cell? ⟨gb120, 5, none⟩ = some (.int .u64 a0_5) := (blk_cell BK120.out 5).trans rfl
               have hcz73_6 : wc.cell? ⟨gb120, 6, none⟩ = some (.int .u64 a0_6) := (blk_cell BK120.out 6).trans rfl
               have hcz73_7 : wc.cell? ⟨gb120, 7, none⟩ = some (.int .i64 a0_7) := (blk_cell BK120.out 7).trans rfl
               have hcz73_8 : wc.cell? ⟨gb120, 8, none⟩ = some (.int .u8 a0_8) := (blk_cell BK120.out 8).trans rfl
               have hcz73_9 : wc.cell? ⟨gb120, 9, none⟩ = some (.int .i64 a0_9) := (blk_cell BK120.out 9).trans rfl
               have hcz73_10 : wc.cell? ⟨gb120, 10, none⟩ = some (.int .i64 a0_10) := (blk_cell BK120.out 10).trans rfl
               have hcz73_11 : wc.cell? ⟨gb120, 11, none⟩ = some (.int .i64 a0_11) := (blk_cell BK120.out 11).trans rfl
               have hfz73_0 := blk_frozen BK120.out 0
               have hfz73_1 := blk_frozen BK120.out 1
               have hfz73_2 := blk_frozen BK120.out 2
               have hfz73_3 := blk_frozen BK120.out 3
               have hfz73_4 := blk_frozen BK120.out 4
               have hfz73_5 := blk_frozen BK120.out 5
               have hfz73_6 := blk_frozen BK120.out 6
               have hfz73_7 := blk_frozen BK120.out 7
               have hfz73_8 := blk_frozen BK120.out 8
               have hfz73_9 := blk_frozen BK120.out 9
               have hfz73_10 := blk_frozen BK120.out 10
               have hfz73_11 := blk_frozen BK120.out 11
               go_wp2_with (first | ((with_reducible refine gate_callee (f := 33) rfl ?_); refine goesL_ (some 52) rfl rfl Try.func33 (by kernel_rfl) rfl #[.agg #[.int .u8 a0_8, .int .i64 a0_9]] rfl args_ ?_; (with_reducible refine (msg_acts.calls a0_8 a0_9 true _ A42.out).mono ?_); rintro e w74 ⟨rfl, hb⟩; refine ⟨_, rfl, ?_⟩; have n0_ := Aside0.mk (blk_below (g := gb120) (o := .cells #[.int .u8 a0_0, .int .i64 a0_1, .int .u64 a0_2, .int .i64 a0_3, .bool a0_4, .int .u64 a0_5, .int .u64 a0_6, .int .i64 a0_7, .int .u8 a0_8, .int .i64 a0_9, .int .i64 a0_10, .int .i64 a0_11] 33 (0, 0)) (by refine blkU ?_; refine blk_far ?_ NB120_122.out _; refine blkU ?_; refine blk_far ?_ NB120_122.out _; refine blkU ?_; exact BK120.out) hb); have n1_ := Aside0.mk (blk_below (g := gb122) (o := .cells #[.int .u8 0, .int .i64 0, .int .u64 0, .int .i64 0, .bool a0_4, .int .u64 a0_5, .int .u64 a0_6, .int .i64 a0_7, .int .u8 0, .int .i64 0, .int .i64 a0_10, .int .i64 a0_11] 33 (0, 0)) (by refine blkU ?_; refine blk_put (cs := #[.int .u8 0, .int .i64 0, .int .u64 0, .int .i64 0, .bool a0_4, .int .u64 a0_5, .int .u64 a0_6, .int .i64 a0_7, .int .u8 0, .int .i64 a0_9, .int .i64 a0_10, .int .i64 a0_11]) ?_ 9 _ rfl; refine blkU ?_; refine blk_put (cs := #[.int .u8 0, .int .i64 0, .int .u64 0, .int .i64 0, .bool a0_4, .int .u64 a0_5, .int .u64 a0_6, .int .i64 a0_7, .int .u8 a0_8, .int .i64 a0_9, .int .i64 a0_10, .int .i64 a0_11]) ?_ 8 _ rfl; refine blkU ?_; exact BK122.out) hb); have n2_ := Aside0.mk (below_step bel_ hb); clear BK120; clear BK122; clear HB; have BK120 := n0_; have BK122 := n1_; have HB := n2_; clear n0_ n1_ n2_; (try clear hb); (try clear hb2); (try clear hk); (try clear hi); have hcz75_0 : w74.cell? ⟨gb122, 0, none⟩ = some (.int .u8 0) := (blk_cell BK122.out 0).trans rfl; have hcz75_1 : w74.cell? ⟨gb122, 1, none⟩ = some (.int .i64 0) := (blk_cell BK122.out 1).trans rfl; have hcz75_2 : w74.cell? ⟨gb122, 2, none⟩ = some (.int .u64 0) := (blk_cell BK122.out 2).trans rfl; have hcz75_3 : w74.cell? ⟨gb122, 3, none⟩ = some (.int .i64 0) := (blk_cell BK122.out 3).trans rfl; have hcz75_4 : w74.cell? ⟨gb122, 4, none⟩ = some (.bool a0_4) := (blk_cell BK122.out 4).trans rfl; have hcz75_5 : w74.cell? ⟨gb122, 5, none⟩ = some (.int .u64 a0_5) := (blk_cell BK122.out 5).trans rfl; have hcz75_6 : w74.cell? ⟨gb122, 6, none⟩ = some (.int .u64 a0_6) := (blk_cell BK122.out 6).trans rfl; have hcz75_7 : w74.cell? ⟨gb122, 7, none⟩ = some (.int .i64 a0_7) := (blk_cell BK122.out 7).trans rfl; have hcz75_8 : w74.cell? ⟨gb122, 8, none⟩ = some (.int .u8 0) := (blk_cell BK122.out 8).trans rfl; have hcz75_9 : w74.cell? ⟨gb122, 9, none⟩ = some (.int .i64 0) := (blk_cell BK122.out 9).trans rfl; have hcz75_10 : w74.cell? ⟨gb122, 10, none⟩ = some (.int .i64 a0_10) := (blk_cell BK122.out 10).trans rfl; have hcz75_11 : w74.cell? ⟨gb122, 11, none⟩ = some (.int .i64 a0_11) := (blk_cell BK122.out 11).trans rfl; have hfz75_0 := blk_frozen BK122.out 0; have hfz75_1 := blk_frozen BK122.out 1; have hfz75_2 := blk_frozen BK122.out 2; have hfz75_3 := blk_frozen BK122.out 3; have hfz75_4 := blk_frozen BK122.out 4; have hfz75_5 := blk_frozen BK122.out 5; have hfz75_6 := blk_frozen BK122.out 6; have hfz75_7 := blk_frozen BK122.out 7; have hfz75_8 := blk_frozen BK122.out 8; have hfz75_9 := blk_frozen BK122.out 9; have hfz75_10 := blk_frozen BK122.out 10; have hfz75_11 := blk_frozen BK122.out 11; have hcz76_0 : w74.cell? ⟨gb120, 0, none⟩ = some (.int .u8 a0_0) := (blk_cell BK120.out 0).trans rfl; have hcz76_1 : w74.cell? ⟨gb120, 1, none⟩ = some (.int .i64 a0_1) := (blk_cell BK120.out 1).trans rfl; have hcz76_2 : w74.cell? ⟨gb120, 2, none⟩ = some (.int .u64 a0_2) := (blk_cell BK120.out 2).trans rfl; have hcz76_3 : w74.cell? ⟨gb120, 3, none⟩ = some (.int .i64 a0_3) := (blk_cell BK120.out 3).trans rfl; have hcz76_4 : w74.cell? ⟨gb120, 4, none⟩ = some (.bool a0_4) := (blk_cell BK120.out 4).trans rfl; have hcz76_5 : w74.cell? ⟨gb120, 5, none⟩ = some (.int .u64 a0_5) := (blk_cell BK120.out 5).trans rfl; have hcz76_6 : w74.cell? ⟨gb120, 6, none⟩ = some (.int .u64 a0_6) := (blk_cell BK120.out 6).trans rfl; have hcz76_7 : w74.cell? ⟨gb120, 7, none⟩ = some (.int .i64 a0_7) := (blk_cell BK120.out 7).trans rfl; have hcz76_8 : w74.cell? ⟨gb120, 8, none⟩ = some (.int .u8 a0_8) := (blk_cell BK120.out 8).trans rfl; have hcz76_9 : w74.cell? ⟨gb120, 9, none⟩ = some (.int .i64 a0_9) := (blk_cell BK120.out 9).trans rfl; have hcz76_10 : w74.cell? ⟨gb120, 10, none⟩ = some (.int .i64 a0_10) := (blk_cell BK120.out 10).trans rfl; have hcz76_11 : w74.cell? ⟨gb120, 11, none⟩ = some (.int .i64 a0_11) := (blk_cell BK120.out 11).trans rfl; have hfz76_0 := blk_frozen BK120.out 0; have hfz76_1 := blk_frozen BK120.out 1; have hfz76_2 := blk_frozen BK120.out 2; have hfz76_3 := blk_frozen BK120.out 3; have hfz76_4 := blk_frozen BK120.out 4; have hfz76_5 := blk_frozen BK120.out 5; have hfz76_6 := blk_frozen BK120.out 6; have hfz76_7 := blk_frozen BK120.out 7; have hfz76_8 := blk_frozen BK120.out 8; have hfz76_9 := blk_frozen BK120.out 9; have hfz76_10 := blk_frozen BK120.out 10; have hfz76_11 := blk_frozen BK120.out 11) | (go_at_call 34; (with_reducible refine (addr_Check.calls kj14 a0_4 a0_5 a0_6 a0_7 t125 _ A44.out).mono ?_); rintro e w77 ⟨rfl, hb⟩; have n0_ := Aside0.mk (blk_below (g := gb120) (o := .cells #[.int .u8 a0_0, .int .i64 a0_1, .int .u64 a0_2, .int .i64 a0_3, .bool a0_4, .int .u64 a0_5, .int .u64 a0_6, .int .i64 a0_7, .int .u8 a0_8, .int .i64 a0_9, .int .i64 a0_10, .int .i64 a0_11] 33 (0, 0)) (by refine blkU ?_; refine blk_far ?_ NB120_122.out _; refine blkU ?_; refine blk_far ?_ NB120_122.out _; refine blkU ?_; refine blk_far ?_ NB120_122.out _; refine blkU ?_; refine blk_far ?_ NB120_122.out _; refine blkU ?_; exact BK120.out) hb); have n1_ := Aside0.mk (blk_below (g := gb122) (o := .cells #[.int .u8 0, .int .i64 0, .int .u64 0, .int .i64 0, .bool false, .int .u64 0, .int .u64 0, .int .i64 0, .int .u8 0, .int .i64 0, .int .i64 a0_10, .int .i64 a0_11] 33 (0, 0)) (by refine blkU ?_; refine blk_put (cs := #[.int .u8 0, .int .i64 0, .int .u64 0, .int .i64 0, .bool false, .int .u64 0, .int .u64 0, .int .i64 a0_7, .int .u8 0, .int .i64 0, .int .i64 a0_10, .int .i64 a0_11]) ?_ 7 _ rfl; refine blkU ?_; refine blk_put (cs := #[.int .u8 0, .int .i64 0, .int .u64 0, .int .i64 0, .bool false, .int .u64 0, .int .u64 a0_6, .int .i64 a0_7, .int .u8 0, .int .i64 0, .int .i64 a0_10, .int .i64 a0_11]) ?_ 6 _ rfl; refine blkU ?_; refine blk_put (cs := #[.int .u8 0, .int .i64 0, .int .u64 0, .int .i64 0, .bool false, .int .u64 a0_5, .int .u64 a0_6, .int .i64 a0_7, .int .u8 0, .int .i64 0, .int .i64 a0_10, .int .i64 a0_11]) ?_ 5 _ rfl; refine blkU ?_; refine blk_put (cs := #[.int .u8 0, .int .i64 0, .int .u64 0, .int .i64 0, .bool a0_4, .int .u64 a0_5, .int .u64 a0_6, .int .i64 a0_7, .int .u8 0, .int .i64 0, .int .i64 a0_10, .int .i64 a0_11]) ?_ 4 _ rfl; refine blkU ?_; exact BK122.out) hb); have n2_ := Aside0.mk (below_step bel_ hb); clear BK120; clear BK122; clear HB; have BK120 := n0_; have BK122 := n1_; have HB := n2_; clear n0_ n1_ n2_; (try clear hb); (try clear hb2); (try clear hk); (try clear hi)) | ((with_reducible refine gate_dst (N := 5) rfl ?_); refine box_event ?hg (N := 5) ?hd (cs := #[.int .u8 0, .int .i64 0, .int .u64 0, .int .i64 0, .bool false, .int .u64 0, .int .u64 0, .int .i64 0, .int .u8 0, .int .i64 0, .int .i64 0, .int .i64 0]) (t := 33) ?hr ?_; (case hd => rfl); (case hg => rfl); (case hr => first | (go_simp; done) | (go_simp; rfl)); intro gb126 hg w78 hbox hb; have n0_ := Aside0.mk (blk_below (blkU BK120.out) hb); have n1_ := Aside0.mk (blk_below (blkU BK122.out) hb); have n2_ := Aside0.mk (below_step bel_ hb); have n3_ := Aside0.mk (hbox); have n4_ := Aside0.mk ((by rw [hg]; exact (below_size bel_) : w.heap.size ≤ gb126)); have n5_ := Aside0.mk ((by rw [hg]; exact (below_size bel_) : w.heap.size ≤ gb126)); have n6_ := Aside0.mk ((by rw [hg]; exact Nat.ne_of_lt (blk_lt (blkU BK120.out)) : gb120 ≠ gb126)); have n7_ := Aside0.mk ((by rw [hg]; exact Nat.ne_of_gt (blk_lt (blkU BK120.out)) : gb126 ≠ gb120)); have n8_ := Aside0.mk ((by rw [hg]; exact Nat.ne_of_lt (blk_lt (blkU BK122.out)) : gb122 ≠ gb126)); have n9_ := Aside0.mk ((by rw [hg]; exact Nat.ne_of_gt (blk_lt (blkU BK122.out)) : gb126 ≠ gb122)); clear BK120; clear BK122; clear HB; have BK120 := n0_; have BK122 := n1_; have HB := n2_; have BK126 := n3_; have GW126 := n4_; have GE126 := n5_; have NB120_126 := n6_; have NB126_120 := n7_; have NB122_126 := n8_; have NB126_122 := n9_; clear n0_ n1_ n2_ n3_ n4_ n5_ n6_ n7_ n8_ n9_; clear hb hbox hg; have hnb79 := NB126_120.out; have hnc79 := NB120_126.out; have hnb80 := NB126_122.out; have hnc80 := NB122_126.out; have hcz81_0 : w78.cell? ⟨gb126, 0, none⟩ = some (.int .u8 0) := (blk_cell BK126.out 0).trans rfl; have hcz81_1 : w78.cell? ⟨gb126, 1, none⟩ = some (.int .i64 0) := (blk_cell BK126.out 1).trans rfl; have hcz81_2 : w78.cell? ⟨gb126, 2, none⟩ = some (.int .u64 0) := (blk_cell BK126.out 2).trans rfl; have hcz81_3 : w78.cell? ⟨gb126, 3, none⟩ = some (.int .i64 0) := (blk_cell BK126.out 3).trans rfl; have hcz81_4 : w78.cell? ⟨gb126, 4, none⟩ = some (.bool false) := (blk_cell BK126.out 4).trans rfl; have hcz81_5 : w78.cell? ⟨gb126, 5, none⟩ = some (.int .u64 0) := (blk_cell BK126.out 5).trans rfl; have hcz81_6 : w78.cell? ⟨gb126, 6, none⟩ = some (.int .u64 0) := (blk_cell BK126.out 6).trans rfl; have hcz81_7 : w78.cell? ⟨gb126, 7, none⟩ = some (.int .i64 0) := (blk_cell BK126.out 7).trans rfl; have hcz81_8 : w78.cell? ⟨gb126, 8, none⟩ = some (.int .u8 0) := (blk_cell BK126.out 8).trans rfl; have hcz81_9 : w78.cell? ⟨gb126, 9, none⟩ = some (.int .i64 0) := (blk_cell BK126.out 9).trans rfl; have hcz81_10 : w78.cell? ⟨gb126, 10, none⟩ = some (.int .i64 0) := (blk_cell BK126.out 10).trans rfl; have hcz81_11 : w78.cell? ⟨gb126, 11, none⟩ = some (.int .i64 0) := (blk_cell BK126.out 11).trans rfl; have hfz81_0 := blk_frozen BK126.out 0; have hfz81_1 := blk_frozen BK126.out 1; have hfz81_2 := blk_frozen BK126.out 2; have hfz81_3 := blk_frozen BK126.out 3; have hfz81_4 := blk_frozen BK126.out 4; have hfz81_5 := blk_frozen BK126.out 5; have hfz81_6 := blk_frozen BK126.out 6; have hfz81_7 := blk_frozen BK126.out 7; have hfz81_8 := blk_frozen BK126.out 8; have hfz81_9 := blk_frozen BK126.out 9; have hfz81_10 := blk_frozen BK126.out 10; have hfz81_11 := blk_frozen BK126.out 11))
               go_ret
               exact ⟨by first | rfl | (simp [errW_none, errW_some] <;> rfl) | (simp [*, errW_none, errW_some] <;> rfl), bel_⟩
           · replace c43 := Bool.eq_false_iff.mpr c43
             subst c43
             have H1 : (some 2) = some r := by rw [if_neg (show ¬ (false = true) by decide)] at H; exact H
             clear H
             have H := H1
             clear H1
             obtain rfl := Option.some.inj H
             have hnb82 := NB122_120.out
             have hnc82 := NB120_122.out
             have hcz83_0 : wc.cell? ⟨gb122, 0, none⟩ = some (.int .u8 0) := (blk_cell BK122.out 0).trans rfl
             have hcz83_1 : wc.cell? ⟨gb122, 1, none⟩ = some (.int .i64 0) := (blk_cell BK122.out 1).trans rfl
             have hcz83_2 : wc.cell? ⟨gb122, 2, none⟩ = some (.int .u64 0) := (blk_cell BK122.out 2).trans rfl
             have hcz83_3 : wc.cell? ⟨gb122, 3, none⟩ = some (.int .i64 0) := (blk_cell BK122.out 3).trans rfl
             have hcz83_4 : wc.cell? ⟨gb122, 4, none⟩ = some (.bool a0_4) := (blk_cell BK122.out 4).trans rfl
             have hcz83_5 : wc.cell? ⟨gb122, 5, none⟩ = some (.int .u64 a0_5) := (blk_cell BK122.out 5).trans rfl
             have hcz83_6 : wc.cell? ⟨gb122, 6, none⟩ = some (.int .u64 a0_6) := (blk_cell BK122.out 6).trans rfl
             have hcz83_7 : wc.cell? ⟨gb122, 7, none⟩ = some (.int .i64 a0_7) := (blk_cell BK122.out 7).trans rfl
             have hcz83_8 : wc.cell? ⟨gb122, 8, none⟩ = some (.int .u8 a0_8) := (blk_cell BK122.out 8).trans rfl
             have hcz83_9 : wc.cell? ⟨gb122, 9, none⟩ = some (.int .i64 a0_9) := (blk_cell BK122.out 9).trans rfl
             have hcz83_10 : wc.cell? ⟨gb122, 10, none⟩ = some (.int .i64 a0_10) := (blk_cell BK122.out 10).trans rfl
             have hcz83_11 : wc.cell? ⟨gb122, 11, none⟩ = some (.int .i64 a0_11) := (blk_cell BK122.out 11).trans rfl
             have hfz83_0 := blk_frozen BK122.out 0
             have hfz83_1 := blk_frozen BK122.out 1
             have hfz83_2 := blk_frozen BK122.out 2
             have hfz83_3 := blk_frozen BK122.out 3
             have hfz83_4 := blk_frozen BK122.out 4
             have hfz83_5 := blk_frozen BK122.out 5
             have hfz83_6 := blk_frozen BK122.out 6
             have hfz83_7 := blk_frozen BK122.out 7
             have hfz83_8 := blk_frozen BK122.out 8
             have hfz83_9 := blk_frozen BK122.out 9
             have hfz83_10 := blk_frozen BK122.out 10
             have hfz83_11 := blk_frozen BK122.out 11
             have hcz84_0 : wc.cell? ⟨gb120, 0, none⟩ = some (.int .u8 a0_0) := (blk_cell BK120.out 0).trans rfl
             have hcz84_1 : wc.cell? ⟨gb120, 1, none⟩ = some (.int .i64 a0_1) := (blk_cell BK120.out 1).trans rfl
             have hcz84_2 : wc.cell? ⟨gb120, 2, none⟩ = some (.int .u64 a0_2) := (blk_cell BK120.out 2).trans rfl
             have hcz84_3 : wc.cell? ⟨gb120, 3, none⟩ = some (.int .i64 a0_3) := (blk_cell BK120.out 3).trans rfl
             have hcz84_4 : wc.cell? ⟨gb120, 4, none⟩ = some (.bool a0_4) := (blk_cell BK120.out 4).trans rfl
             have hcz84_5 : wc.cell? ⟨gb120, 5, none⟩ = some (.int .u64 a0_5) := (blk_cell BK120.out 5).trans rfl
             have hcz84_6 : wc.cell? ⟨gb120, 6, none⟩ = some (.int .u64 a0_6) := (blk_cell BK120.out 6).trans rfl
             have hcz84_7 : wc.cell? ⟨gb120, 7, none⟩ = some (.int .i64 a0_7) := (blk_cell BK120.out 7).trans rfl
             have hcz84_8 : wc.cell? ⟨gb120, 8, none⟩ = some (.int .u8 a0_8) := (blk_cell BK120.out 8).trans rfl
             have hcz84_9 : wc.cell? ⟨gb120, 9, none⟩ = some (.int .i64 a0_9) := (blk_cell BK120.out 9).trans rfl
             have hcz84_10 : wc.cell? ⟨gb120, 10, none⟩ = some (.int .i64 a0_10) := (blk_cell BK120.out 10).trans rfl
             have hcz84_11 : wc.cell? ⟨gb120, 11, none⟩ = some (.int .i64 a0_11) := (blk_cell BK120.out 11).trans rfl
             have hfz84_0 := blk_frozen BK120.out 0
             have hfz84_1 := blk_frozen BK120.out 1
             have hfz84_2 := blk_frozen BK120.out 2
             have hfz84_3 := blk_frozen BK120.out 3
             have hfz84_4 := blk_frozen BK120.out 4
             have hfz84_5 := blk_frozen BK120.out 5
             have hfz84_6 := blk_frozen BK120.out 6
             have hfz84_7 := blk_frozen BK120.out 7
             have hfz84_8 := blk_frozen BK120.out 8
             have hfz84_9 := blk_frozen BK120.out 9
             have hfz84_10 := blk_frozen BK120.out 10
             have hfz84_11 := blk_frozen BK120.out 11
             go_wp2_with (first | ((with_reducible refine gate_callee (f := 33) rfl ?_); refine goesL_ (some 52) rfl rfl Try.func33 (by kernel_rfl) rfl #[.agg #[.int .u8 a0_8, .int .i64 a0_9]] rfl args_ ?_; (with_reducible refine (msg_acts.calls a0_8 a0_9 false _ A42.out).mono ?_); rintro e w85 ⟨rfl, hb⟩; refine ⟨_, rfl, ?_⟩; have n0_ := Aside0.mk (blk_below (g := gb120) (o := .cells #[.int .u8 a0_0, .int .i64 a0_1, .int .u64 a0_2, .int .i64 a0_3, .bool a0_4, .int .u64 a0_5, .int .u64 a0_6, .int .i64 a0_7, .int .u8 a0_8, .int .i64 a0_9, .int .i64 a0_10, .int .i64 a0_11] 33 (0, 0)) (by refine blkU ?_; refine blk_far ?_ NB120_122.out _; refine blkU ?_; refine blk_far ?_ NB120_122.out _; refine blkU ?_; exact BK120.out) hb); have n1_ := Aside0.mk (blk_below (g := gb122) (o := .cells #[.int .u8 0, .int .i64 0, .int .u64 0, .int .i64 0, .bool a0_4, .int .u64 a0_5, .int .u64 a0_6, .int .i64 a0_7, .int .u8 0, .int .i64 0, .int .i64 a0_10, .int .i64 a0_11] 33 (0, 0)) (by refine blkU ?_; refine blk_put (cs := #[.int .u8 0, .int .i64 0, .int .u64 0, .int .i64 0, .bool a0_4, .int .u64 a0_5, .int .u64 a0_6, .int .i64 a0_7, .int .u8 0, .int .i64 a0_9, .int .i64 a0_10, .int .i64 a0_11]) ?_ 9 _ rfl; refine blkU ?_; refine blk_put (cs := #[.int .u8 0, .int .i64 0, .int .u64 0, .int .i64 0, .bool a0_4, .int .u64 a0_5, .int .u64 a0_6, .int .i64 a0_7, .int .u8 a0_8, .int .i64 a0_9, .int .i64 a0_10, .int .i64 a0_11]) ?_ 8 _ rfl; refine blkU ?_; exact BK122.out) hb); have n2_ := Aside0.mk (below_step bel_ hb); clear BK120; clear BK122; clear HB; have BK120 := n0_; have BK122 := n1_; have HB := n2_; clear n0_ n1_ n2_; (try clear hb); (try clear hb2); (try clear hk); (try clear hi); have hcz86_0 : w85.cell? ⟨gb122, 0, none⟩ = some (.int .u8 0) := (blk_cell BK122.out 0).trans rfl; have hcz86_1 : w85.cell? ⟨gb122, 1, none⟩ = some (.int .i64 0) := (blk_cell BK122.out 1).trans rfl; have hcz86_2 : w85.cell? ⟨gb122, 2, none⟩ = some (.int .u64 0) := (blk_cell BK122.out 2).trans rfl; have hcz86_3 : w85.cell? ⟨gb122, 3, none⟩ = some (.int .i64 0) := (blk_cell BK122.out 3).trans rfl; have hcz86_4 : w85.cell? ⟨gb122, 4, none⟩ = some (.bool a0_4) := (blk_cell BK122.out 4).trans rfl; have hcz86_5 : w85.cell? ⟨gb122, 5, none⟩ = some (.int .u64 a0_5) := (blk_cell BK122.out 5).trans rfl; have hcz86_6 : w85.cell? ⟨gb122, 6, none⟩ = some (.int .u64 a0_6) := (blk_cell BK122.out 6).trans rfl; have hcz86_7 : w85.cell? ⟨gb122, 7, none⟩ = some (.int .i64 a0_7) := (blk_cell BK122.out 7).trans rfl; have hcz86_8 : w85.cell? ⟨gb122, 8, none⟩ = some (.int .u8 0) := (blk_cell BK122.out 8).trans rfl; have hcz86_9 : w85.cell? ⟨gb122, 9, none⟩ = some (.int .i64 0) := (blk_cell BK122.out 9).trans rfl; have hcz86_10 : w85.cell? ⟨gb122, 10, none⟩ = some (.int .i64 a0_10) := (blk_cell BK122.out 10).trans rfl; have hcz86_11 : w85.cell? ⟨gb122, 11, none⟩ = some (.int .i64 a0_11) := (blk_cell BK122.out 11).trans rfl; have hfz86_0 := blk_frozen BK122.out 0; have hfz86_1 := blk_frozen BK122.out 1; have hfz86_2 := blk_frozen BK122.out 2; have hfz86_3 := blk_frozen BK122.out 3; have hfz86_4 := blk_frozen BK122.out 4; have hfz86_5 := blk_frozen BK122.out 5; have hfz86_6 := blk_frozen BK122.out 6; have hfz86_7 := blk_frozen BK122.out 7; have hfz86_8 := blk_frozen BK122.out 8; have hfz86_9 := blk_frozen BK122.out 9; have hfz86_10 := blk_frozen BK122.out 10; have hfz86_11 := blk_frozen BK122.out 11) | ((with_reducible refine gate_dst (N := 5) rfl ?_); refine box_event ?hg (N := 5) ?hd (cs := #[.int .u8 0, .int .i64 0, .int .u64 0, .int .i64 0, .bool false, .int .u64 0, .int .u64 0, .int .i64 0, .int .u8 0, .int .i64 0, .int .i64 0, .int .i64 0]) (t := 33) ?hr ?_; (case hd => rfl); (case hg => rfl); (case hr => first | (go_simp; done) | (go_simp; rfl)); intro gb127 hg w87 hbox hb; have n0_ := Aside0.mk (blk_below (g := gb120) (o := .cells #[.int .u8 a0_0, .int .i64 a0_1, .int .u64 a0_2, .int .i64 a0_3, .bool a0_4, .int .u64 a0_5, .int .u64 a0_6, .int .i64 a0_7, .int .u8 a0_8, .int .i64 a0_9, .int .i64 a0_10, .int .i64 a0_11] 33 (0, 0)) (by refine blkU ?_; refine blk_far ?_ NB120_122.out _; refine blkU ?_; refine blk_far ?_ NB120_122.out _; refine blkU ?_; refine blk_far ?_ NB120_122.out _; refine blkU ?_; refine blk_far ?_ NB120_122.out _; refine blkU ?_; exact BK120.out) hb); have n1_ := Aside0.mk (blk_below (g := gb122) (o := .cells #[.int .u8 0, .int .i64 0, .int .u64 0, .int .i64 0, .bool false, .int .u64 0, .int .u64 0, .int .i64 0, .int .u8 0, .int .i64 0, .int .i64 a0_10, .int .i64 a0_11] 33 (0, 0)) (by refine blkU ?_; refine blk_put (cs := #[.int .u8 0, .int .i64 0, .int .u64 0, .int .i64 0, .bool false, .int .u64 0, .int .u64 0, .int .i64 a0_7, .int .u8 0, .int .i64 0, .int .i64 a0_10, .int .i64 a0_11]) ?_ 7 _ rfl; refine blkU ?_; refine blk_put (cs := #[.int .u8 0, .int .i64 0, .int .u64 0, .int .i64 0, .bool false, .int .u64 0, .int .u64 a0_6, .int .i64 a0_7, .int .u8 0, .int .i64 0, .int .i64 a0_10, .int .i64 a0_11]) ?_ 6 _ rfl; refine blkU ?_; refine blk_put (cs := #[.int .u8 0, .int .i64 0, .int .u64 0, .int .i64 0, .bool false, .int .u64 a0_5, .int .u64 a0_6, .int .i64 a0_7, .int .u8 0, .int .i64 0, .int .i64 a0_10, .int .i64 a0_11]) ?_ 5 _ rfl; refine blkU ?_; refine blk_put (cs := #[.int .u8 0, .int .i64 0, .int .u64 0, .int .i64 0, .bool a0_4, .int .u64 a0_5, .int .u64 a0_6, .int .i64 a0_7, .int .u8 0, .int .i64 0, .int .i64 a0_10, .int .i64 a0_11]) ?_ 4 _ rfl; refine blkU ?_; exact BK122.out) hb); have n2_ := Aside0.mk (below_step bel_ hb); have n3_ := Aside0.mk (hbox); have n4_ := Aside0.mk ((by rw [hg]; exact (below_size bel_) : w.heap.size ≤ gb127)); have n5_ := Aside0.mk ((by rw [hg]; exact (below_size bel_) : w.heap.size ≤ gb127)); have n6_ := Aside0.mk ((by rw [hg]; exact Nat.ne_of_lt (blk_lt (g := gb120) (o := .cells #[.int .u8 a0_0, .int .i64 a0_1, .int .u64 a0_2, .int .i64 a0_3, .bool a0_4, .int .u64 a0_5, .int .u64 a0_6, .int .i64 a0_7, .int .u8 a0_8, .int .i64 a0_9, .int .i64 a0_10, .int .i64 a0_11] 33 (0, 0)) (by refine blkU ?_; refine blk_far ?_ NB120_122.out _; refine blkU ?_; refine blk_far ?_ NB120_122.out _; refine blkU ?_; refine blk_far ?_ NB120_122.out _; refine blkU ?_; refine blk_far ?_ NB120_122.out _; refine blkU ?_; exact BK120.out)) : gb120 ≠ gb127)); have n7_ := Aside0.mk ((by rw [hg]; exact Nat.ne_of_gt (blk_lt (g := gb120) (o := .cells #[.int .u8 a0_0, .int .i64 a0_1, .int .u64 a0_2, .int .i64 a0_3, .bool a0_4, .int .u64 a0_5, .int .u64 a0_6, .int .i64 a0_7, .int .u8 a0_8, .int .i64 a0_9, .int .i64 a0_10, .int .i64 a0_11] 33 (0, 0)) (by refine blkU ?_; refine blk_far ?_ NB120_122.out _; refine blkU ?_; refine blk_far ?_ NB120_122.out _; refine blkU ?_; refine blk_far ?_ NB120_122.out _; refine blkU ?_; refine blk_far ?_ NB120_122.out _; refine blkU ?_; exact BK120.out)) : gb127 ≠ gb120)); have n8_ := Aside0.mk ((by rw [hg]; exact Nat.ne_of_lt (blk_lt (g := gb122) (o := .cells #[.int .u8 0, .int .i64 0, .int .u64 0, .int .i64 0, .bool false, .int .u64 0, .int .u64 0, .int .i64 0, .int .u8 0, .int .i64 0, .int .i64 a0_10, .int .i64 a0_11] 33 (0, 0)) (by refine blkU ?_; refine blk_put (cs := #[.int .u8 0, .int .i64 0, .int .u64 0, .int .i64 0, .bool false, .int .u64 0, .int .u64 0, .int .i64 a0_7, .int .u8 0, .int .i64 0, .int .i64 a0_10, .int .i64 a0_11]) ?_ 7 _ rfl; refine blkU ?_; refine blk_put (cs := #[.int .u8 0, .int .i64 0, .int .u64 0, .int .i64 0, .bool false, .int .u64 0, .int .u64 a0_6, .int .i64 a0_7, .int .u8 0, .int .i64 0, .int .i64 a0_10, .int .i64 a0_11]) ?_ 6 _ rfl; refine blkU ?_; refine blk_put (cs := #[.int .u8 0, .int .i64 0, .int .u64 0, .int .i64 0, .bool false, .int .u64 a0_5, .int .u64 a0_6, .int .i64 a0_7, .int .u8 0, .int .i64 0, .int .i64 a0_10, .int .i64 a0_11]) ?_ 5 _ rfl; refine blkU ?_; refine blk_put (cs := #[.int .u8 0, .int .i64 0, .int .u64 0, .int .i64 0, .bool a0_4, .int .u64 a0_5, .int .u64 a0_6, .int .i64 a0_7, .int .u8 0, .int .i64 0, .int .i64 a0_10, .int .i64 a0_11]) ?_ 4 _ rfl; refine blkU ?_; exact BK122.out)) : gb122 ≠ gb127)); have n9_ := Aside0.mk ((by rw [hg]; exact Nat.ne_of_gt (blk_lt (g := gb122) (o := .cells #[.int .u8 0, .int .i64 0, .int .u64 0, .int .i64 0, .bool false, .int .u64 0, .int .u64 0, .int .i64 0, .int .u8 0, .int .i64 0, .int .i64 a0_10, .int .i64 a0_11] 33 (0, 0)) (by refine blkU ?_; refine blk_put (cs := #[.int .u8 0, .int .i64 0, .int .u64 0, .int .i64 0, .bool false, .int .u64 0, .int .u64 0, .int .i64 a0_7, .int .u8 0, .int .i64 0, .int .i64 a0_10, .int .i64 a0_11]) ?_ 7 _ rfl; refine blkU ?_; refine blk_put (cs := #[.int .u8 0, .int .i64 0, .int .u64 0, .int .i64 0, .bool false, .int .u64 0, .int .u64 a0_6, .int .i64 a0_7, .int .u8 0, .int .i64 0, .int .i64 a0_10, .int .i64 a0_11]) ?_ 6 _ rfl; refine blkU ?_; refine blk_put (cs := #[.int .u8 0, .int .i64 0, .int .u64 0, .int .i64 0, .bool false, .int .u64 a0_5, .int .u64 a0_6, .int .i64 a0_7, .int .u8 0, .int .i64 0, .int .i64 a0_10, .int .i64 a0_11]) ?_ 5 _ rfl; refine blkU ?_; refine blk_put (cs := #[.int .u8 0, .int .i64 0, .int .u64 0, .int .i64 0, .bool a0_4, .int .u64 a0_5, .int .u64 a0_6, .int .i64 a0_7, .int .u8 0, .int .i64 0, .int .i64 a0_10, .int .i64 a0_11]) ?_ 4 _ rfl; refine blkU ?_; exact BK122.out)) : gb127 ≠ gb122)); clear BK120; clear BK122; clear HB; have BK120 := n0_; have BK122 := n1_; have HB := n2_; have BK127 := n3_; have GW127 := n4_; have GE127 := n5_; have NB120_127 := n6_; have NB127_120 := n7_; have NB122_127 := n8_; have NB127_122 := n9_; clear n0_ n1_ n2_ n3_ n4_ n5_ n6_ n7_ n8_ n9_; clear hb hbox hg; have hnb88 := NB127_120.out; have hnc88 := NB120_127.out; have hnb89 := NB127_122.out; have hnc89 := NB122_127.out; have hcz90_0 : w87.cell? ⟨gb127, 0, none⟩ = some (.int .u8 0) := (blk_cell BK127.out 0).trans rfl; have hcz90_1 : w87.cell? ⟨gb127, 1, none⟩ = some (.int .i64 0) := (blk_cell BK127.out 1).trans rfl; have hcz90_2 : w87.cell? ⟨gb127, 2, none⟩ = some (.int .u64 0) := (blk_cell BK127.out 2).trans rfl; have hcz90_3 : w87.cell? ⟨gb127, 3, none⟩ = some (.int .i64 0) := (blk_cell BK127.out 3).trans rfl; have hcz90_4 : w87.cell? ⟨gb127, 4, none⟩ = some (.bool false) := (blk_cell BK127.out 4).trans rfl; have hcz90_5 : w87.cell? ⟨gb127, 5, none⟩ = some (.int .u64 0) := (blk_cell BK127.out 5).trans rfl; have hcz90_6 : w87.cell? ⟨gb127, 6, none⟩ = some (.int .u64 0) := (blk_cell BK127.out 6).trans rfl; have hcz90_7 : w87.cell? ⟨gb127, 7, none⟩ = some (.int .i64 0) := (blk_cell BK127.out 7).trans rfl; have hcz90_8 : w87.cell? ⟨gb127, 8, none⟩ = some (.int .u8 0) := (blk_cell BK127.out 8).trans rfl; have hcz90_9 : w87.cell? ⟨gb127, 9, none⟩ = some (.int .i64 0) := (blk_cell BK127.out 9).trans rfl; have hcz90_10 : w87.cell? ⟨gb127, 10, none⟩ = some (.int .i64 0) := (blk_cell BK127.out 10).trans rfl; have hcz90_11 : w87.cell? ⟨gb127, 11, none⟩ = some (.int .i64 0) := (blk_cell BK127.out 11).trans rfl; have hfz90_0 := blk_frozen BK127.out 0; have hfz90_1 := blk_frozen BK127.out 1; have hfz90_2 := blk_frozen BK127.out 2; have hfz90_3 := blk_frozen BK127.out 3; have hfz90_4 := blk_frozen BK127.out 4; have hfz90_5 := blk_frozen BK127.out 5; have hfz90_6 := blk_frozen BK127.out 6; have hfz90_7 := blk_frozen BK127.out 7; have hfz90_8 := blk_frozen BK127.out 8; have hfz90_9 := blk_frozen BK127.out 9; have hfz90_10 := blk_frozen BK127.out 10; have hfz90_11 := blk_frozen BK127.out 11))
             go_ret
             exact ⟨by first | rfl | (simp [errW_none, errW_some] <;> rfl) | (simp [*, errW_none, errW_some] <;> rfl), bel_⟩
         · rw [if_neg c41] at H
           have c41b0 : (a0_0 == 3) = false := beq_eq_false_iff_ne.mpr c41
           have c41b1 : (a0_0 != 3) = true := bne_iff_ne.mpr c41
           by_cases c91 : a0_0 = 4
           · rw [if_pos c91] at H
             have c91b0 : (a0_0 == 4) = true := beq_iff_eq.mpr c91
             have c91b1 : (a0_0 != 4) = false := bne_eq_false_iff_eq.mpr c91
             clear c91
             by_cases c92 : true = true
             · clear c92
               have H1 : ((addr_Check.f kj14 a0_4 a0_5 a0_6 a0_7).bind fun t128 => (if t128 = 0 then (if ((((((!(a0_8 == 0) || (!(a0_9 == 0))) || (!(a0_10 == 0) || (!(a0_11 == 0)))))))) = true then (some 2) else (some 0)) else (some 2))) = some r := by rw [if_pos rfl] at H; exact H
               clear H
               have H := H1
               clear H1
               replace H := Option.bind_eq_some_iff.mp H
               obtain ⟨t128, A930, H⟩ := H
               replace H : (if t128 = 0 then (if ((((((!(a0_8 == 0) || (!(a0_9 == 0))) || (!(a0_10 == 0) || (!(a0_11 == 0)))))))) = true then (some 2) else (some 0)) else (some 2)) = some r := H
               have A93 := Aside0.mk A930
               clear A930
               by_cases c94 : t128 = 0
               · rw [if_pos c94] at H
                 have c94b0 : (t128 == 0) = true := beq_iff_eq.mpr c94
                 have c94b1 : (t128 != 0) = false := bne_eq_false_iff_eq.mpr c94
                 clear c94
                 by_cases c95 : ((((((!(a0_8 == 0) || (!(a0_9 == 0))) || (!(a0_10 == 0) || (!(a0_11 == 0)))))))) = true
                 · rw [if_pos c95] at H
                   have c95b0 : ((((((!(a0_8 == 0) || (!(a0_9 == 0))) || (!(a0_10 == 0) || (!(a0_11 == 0)))))))) = true := c95
                   clear c95
                   obtain rfl := Option.some.inj H
                   have hnb96 := NB122_120.out
                   have hnc96 := NB120_122.out
                   have hcz97_0 : wc.cell? ⟨gb122, 0, none⟩ = some (.int .u8 0) := (blk_cell BK122.out 0).trans rfl
                   have hcz97_1 : wc.cell? ⟨gb122, 1, none⟩ = some (.int .i64 0) := (blk_cell BK122.out 1).trans rfl
                   have hcz97_2 : wc.cell? ⟨gb122, 2, none⟩ = some (.int .u64 0) := (blk_cell BK122.out 2).trans rfl
                   have hcz97_3 : wc.cell? ⟨gb122, 3, none⟩ = some (.int .i64 0) := (blk_cell BK122.out 3).trans rfl
                   have hcz97_4 : wc.cell? ⟨gb122, 4, none⟩ = some (.bool a0_4) := (blk_cell BK122.out 4).trans rfl
                   have hcz97_5 : wc.cell? ⟨gb122, 5, none⟩ = some (.int .u64 a0_5) := (blk_cell BK122.out 5).trans rfl
                   have hcz97_6 : wc.cell? ⟨gb122, 6, none⟩ = some (.int .u64 a0_6) := (blk_cell BK122.out 6).trans rfl
                   have hcz97_7 : wc.cell? ⟨gb122, 7, none⟩ = some (.int .i64 a0_7) := (blk_cell BK122.out 7).trans rfl
                   have hcz97_8 : wc.cell? ⟨gb122, 8, none⟩ = some (.int .u8 a0_8) := (blk_cell BK122.out 8).trans rfl
                   have hcz97_9 : wc.cell? ⟨gb122, 9, none⟩ = some (.int .i64 a0_9) := (blk_cell BK122.out 9).trans rfl
                   have hcz97_10 : wc.cell? ⟨gb122, 10, none⟩ = some (.int .i64 a0_10) := (blk_cell BK122.out 10).trans rfl
                   have hcz97_11 : wc.cell? ⟨gb122, 11, none⟩ = some (.int .i64 a0_11) := (blk_cell BK122.out 11).trans rfl
                   have hfz97_0 := blk_frozen BK122.out 0
                   have hfz97_1 := blk_frozen BK122.out 1
                   have hfz97_2 := blk_frozen BK122.out 2
                   have hfz97_3 := blk_frozen BK122.out 3
                   have hfz97_4 := blk_frozen BK122.out 4
                   have hfz97_5 := blk_frozen BK122.out 5
                   have hfz97_6 := blk_frozen BK122.out 6
                   have hfz97_7 := blk_frozen BK122.out 7
                   have hfz97_8 := blk_frozen BK122.out 8
                   have hfz97_9 := blk_frozen BK122.out 9
                   have hfz97_10 := blk_frozen BK122.out 10
                   have hfz97_11 := blk_frozen BK122.out 11
                   have hcz98_0 : wc.cell? ⟨gb120, 0, none⟩ = some (.int .u8 a0_0) := (blk_cell BK120.out 0).trans rfl
                   have hcz98_1 : wc.cell? ⟨gb120, 1, none⟩ = some (.int .i64 a0_1) := (blk_cell BK120.out 1).trans rfl
                   have hcz98_2 : wc.cell? ⟨gb120, 2, none⟩ = some (.int .u64 a0_2) := (blk_cell BK120.out 2).trans rfl
                   have hcz98_3 : wc.cell? ⟨gb120, 3, none⟩ = some (.int .i64 a0_3) := (blk_cell BK120.out 3).trans rfl
                   have hcz98_4 : wc.cell? ⟨gb120, 4, none⟩ = some (.bool a0_4) := (blk_cell BK120.out 4).trans rfl
                   have hcz98_5 : wc.cell? ⟨gb120, 5, none⟩ = some (.int .u64 a0_5) := (blk_cell BK120.out 5).trans rfl
                   have hcz98_6 : wc.cell? ⟨gb120, 6, none⟩ = some (.int .u64 a0_6) := (blk_cell BK120.out 6).trans rfl
                   have hcz98_7 : wc.cell? ⟨gb120, 7, none⟩ = some (.int .i64 a0_7) := (blk_cell BK120.out 7).trans rfl
                   have hcz98_8 : wc.cell? ⟨gb120, 8, none⟩ = some (.int .u8 a0_8) := (blk_cell BK120.out 8).trans rfl
                   have hcz98_9 : wc.cell? ⟨gb120, 9, none⟩ = some (.int .i64 a0_9) := (blk_cell BK120.out 9).trans rfl
                   have hcz98_10 : wc.cell? ⟨gb120, 10, none⟩ = some (.int .i64 a0_10) := (blk_cell BK120.out 10).trans rfl
                   have hcz98_11 : wc.cell? ⟨gb120, 11, none⟩ = some (.int .i64 a0_11) := (blk_cell BK120.out 11).trans rfl
                   have hfz98_0 := blk_frozen BK120.out 0
                   have hfz98_1 := blk_frozen BK120.out 1
                   have hfz98_2 := blk_frozen BK120.out 2
                   have hfz98_3 := blk_frozen BK120.out 3
                   have hfz98_4 := blk_frozen BK120.out 4
                   have hfz98_5 := blk_frozen BK120.out 5
                   have hfz98_6 := blk_frozen BK120.out 6
                   have hfz98_7 := blk_frozen BK120.out 7
                   have hfz98_8 := blk_frozen BK120.out 8
                   have hfz98_9 := blk_frozen BK120.out 9
                   have hfz98_10 := blk_frozen BK120.out 10
                   have hfz98_11 := blk_frozen BK120.out 11
                   go_wp2_with (first | (go_at_call 34; (with_reducible refine (addr_Check.calls kj14 a0_4 a0_5 a0_6 a0_7 t128 _ A93.out).mono ?_); rintro e w99 ⟨rfl, hb⟩; have n0_ := Aside0.mk (blk_below (g := gb120) (o := .cells #[.int .u8 a0_0, .int .i64 a0_1, .int .u64 a0_2, .int .i64 a0_3, .bool a0_4, .int .u64 a0_5, .int .u64 a0_6, .int .i64 a0_7, .int .u8 a0_8, .int .i64 a0_9, .int .i64 a0_10, .int .i64 a0_11] 33 (0, 0)) (by refine blkU ?_; refine blk_far ?_ NB120_122.out _; refine blkU ?_; refine blk_far ?_ NB120_122.out _; refine blkU ?_; refine blk_far ?_ NB120_122.out _; refine blkU ?_; refine blk_far ?_ NB120_122.out _; refine blkU ?_; exact BK120.out) hb); have n1_ := Aside0.mk (blk_below (g := gb122) (o := .cells #[.int .u8 0, .int .i64 0, .int .u64 0, .int .i64 0, .bool false, .int .u64 0, .int .u64 0, .int .i64 0, .int .u8 a0_8, .int .i64 a0_9, .int .i64 a0_10, .int .i64 a0_11] 33 (0, 0)) (by refine blkU ?_; refine blk_put (cs := #[.int .u8 0, .int .i64 0, .int .u64 0, .int .i64 0, .bool false, .int .u64 0, .int .u64 0, .int .i64 a0_7, .int .u8 a0_8, .int .i64 a0_9, .int .i64 a0_10, .int .i64 a0_11]) ?_ 7 _ rfl; refine blkU ?_; refine blk_put (cs := #[.int .u8 0, .int .i64 0, .int .u64 0, .int .i64 0, .bool false, .int .u64 0, .int .u64 a0_6, .int .i64 a0_7, .int .u8 a0_8, .int .i64 a0_9, .int .i64 a0_10, .int .i64 a0_11]) ?_ 6 _ rfl; refine blkU ?_; refine blk_put (cs := #[.int .u8 0, .int .i64 0, .int .u64 0, .int .i64 0, .bool false, .int .u64 a0_5, .int .u64 a0_6, .int .i64 a0_7, .int .u8 a0_8, .int .i64 a0_9, .int .i64 a0_10, .int .i64 a0_11]) ?_ 5 _ rfl; refine blkU ?_; refine blk_put (cs := #[.int .u8 0, .int .i64 0, .int .u64 0, .int .i64 0, .bool a0_4, .int .u64 a0_5, .int .u64 a0_6, .int .i64 a0_7, .int .u8 a0_8, .int .i64 a0_9, .int .i64 a0_10, .int .i64 a0_11]) ?_ 4 _ rfl; refine blkU ?_; exact BK122.out) hb); have n2_ := Aside0.mk (below_step bel_ hb); clear BK120; clear BK122; clear HB; have BK120 := n0_; have BK122 := n1_; have HB := n2_; clear n0_ n1_ n2_; (try clear hb); (try clear hb2); (try clear hk); (try clear hi)) | ((with_reducible refine gate_dst (N := 5) rfl ?_); refine box_event ?hg (N := 5) ?hd (cs := #[.int .u8 0, .int .i64 0, .int .u64 0, .int .i64 0, .bool false, .int .u64 0, .int .u64 0, .int .i64 0, .int .u8 0, .int .i64 0, .int .i64 0, .int .i64 0]) (t := 33) ?hr ?_; (case hd => rfl); (case hg => rfl); (case hr => first | (go_simp; done) | (go_simp; rfl)); intro gb129 hg w100 hbox hb; have n0_ := Aside0.mk (blk_below (blkU BK120.out) hb); have n1_ := Aside0.mk (blk_below (blkU BK122.out) hb); have n2_ := Aside0.mk (below_step bel_ hb); have n3_ := Aside0.mk (hbox); have n4_ := Aside0.mk ((by rw [hg]; exact (below_size bel_) : w.heap.size ≤ gb129)); have n5_ := Aside0.mk ((by rw [hg]; exact (below_size bel_) : w.heap.size ≤ gb129)); have n6_ := Aside0.mk ((by rw [hg]; exact Nat.ne_of_lt (blk_lt (blkU BK120.out)) : gb120 ≠ gb129)); have n7_ := Aside0.mk ((by rw [hg]; exact Nat.ne_of_gt (blk_lt (blkU BK120.out)) : gb129 ≠ gb120)); have n8_ := Aside0.mk ((by rw [hg]; exact Nat.ne_of_lt (blk_lt (blkU BK122.out)) : gb122 ≠ gb129)); have n9_ := Aside0.mk ((by rw [hg]; exact Nat.ne_of_gt (blk_lt (blkU BK122.out)) : gb129 ≠ gb122)); clear BK120; clear BK122; clear HB; have BK120 := n0_; have BK122 := n1_; have HB := n2_; have BK129 := n3_; have GW129 := n4_; have GE129 := n5_; have NB120_129 := n6_; have NB129_120 := n7_; have NB122_129 := n8_; have NB129_122 := n9_; clear n0_ n1_ n2_ n3_ n4_ n5_ n6_ n7_ n8_ n9_; clear hb hbox hg; have hnb101 := NB129_120.out; have hnc101 := NB120_129.out; have hnb102 := NB129_122.out; have hnc102 := NB122_129.out; have hcz103_0 : w100.cell? ⟨gb129, 0, none⟩ = some (.int .u8 0) := (blk_cell BK129.out 0).trans rfl; have hcz103_1 : w100.cell? ⟨gb129, 1, none⟩ = some (.int .i64 0) := (blk_cell BK129.out 1).trans rfl; have hcz103_2 : w100.cell? ⟨gb129, 2, none⟩ = some (.int .u64 0) := (blk_cell BK129.out 2).trans rfl; have hcz103_3 : w100.cell? ⟨gb129, 3, none⟩ = some (.int .i64 0) := (blk_cell BK129.out 3).trans rfl; have hcz103_4 : w100.cell? ⟨gb129, 4, none⟩ = some (.bool false) := (blk_cell BK129.out 4).trans rfl; have hcz103_5 : w100.cell? ⟨gb129, 5, none⟩ = some (.int .u64 0) := (blk_cell BK129.out 5).trans rfl; have hcz103_6 : w100.cell? ⟨gb129, 6, none⟩ = some (.int .u64 0) := (blk_cell BK129.out 6).trans rfl; have hcz103_7 : w100.cell? ⟨gb129, 7, none⟩ = some (.int .i64 0) := (blk_cell BK129.out 7).trans rfl; have hcz103_8 : w100.cell? ⟨gb129, 8, none⟩ = some (.int .u8 0) := (blk_cell BK129.out 8).trans rfl; have hcz103_9 : w100.cell? ⟨gb129, 9, none⟩ = some (.int .i64 0) := (blk_cell BK129.out 9).trans rfl; have hcz103_10 : w100.cell? ⟨gb129, 10, none⟩ = some (.int .i64 0) := (blk_cell BK129.out 10).trans rfl; have hcz103_11 : w100.cell? ⟨gb129, 11, none⟩ = some (.int .i64 0) := (blk_cell BK129.out 11).trans rfl; have hfz103_0 := blk_frozen BK129.out 0; have hfz103_1 := blk_frozen BK129.out 1; have hfz103_2 := blk_frozen BK129.out 2; have hfz103_3 := blk_frozen BK129.out 3; have hfz103_4 := blk_frozen BK129.out 4; have hfz103_5 := blk_frozen BK129.out 5; have hfz103_6 := blk_frozen BK129.out 6; have hfz103_7 := blk_frozen BK129.out 7; have hfz103_8 := blk_frozen BK129.out 8; have hfz103_9 := blk_frozen BK129.out 9; have hfz103_10 := blk_frozen BK129.out 10; have hfz103_11 := blk_frozen BK129.out 11; have hcz104_0 : w100.cell? ⟨gb122, 0, none⟩ = some (.int .u8 0) := (blk_cell BK122.out 0).trans rfl; have hcz104_1 : w100.cell? ⟨gb122, 1, none⟩ = some (.int .i64 0) := (blk_cell BK122.out 1).trans rfl; have hcz104_2 : w100.cell? ⟨gb122, 2, none⟩ = some (.int .u64 0) := (blk_cell BK122.out 2).trans rfl; have hcz104_3 : w100.cell? ⟨gb122, 3, none⟩ = some (.int .i64 0) := (blk_cell BK122.out 3).trans rfl; have hcz104_4 : w100.cell? ⟨gb122, 4, none⟩ = some (.bool false) := (blk_cell BK122.out 4).trans rfl; have hcz104_5 : w100.cell? ⟨gb122, 5, none⟩ = some (.int .u64 0) := (blk_cell BK122.out 5).trans rfl; have hcz104_6 : w100.cell? ⟨gb122, 6, none⟩ = some (.int .u64 0) := (blk_cell BK122.out 6).trans rfl; have hcz104_7 : w100.cell? ⟨gb122, 7, none⟩ = some (.int .i64 0) := (blk_cell BK122.out 7).trans rfl; have hcz104_8 : w100.cell? ⟨gb122, 8, none⟩ = some (.int .u8 a0_8) := (blk_cell BK122.out 8).trans rfl; have hcz104_9 : w100.cell? ⟨gb122, 9, none⟩ = some (.int .i64 a0_9) := (blk_cell BK122.out 9).trans rfl; have hcz104_10 : w100.cell? ⟨gb122, 10, none⟩ = some (.int .i64 a0_10) := (blk_cell BK122.out 10).trans rfl; have hcz104_11 : w100.cell? ⟨gb122, 11, none⟩ = some (.int .i64 a0_11) := (blk_cell BK122.out 11).trans rfl; have hfz104_0 := blk_frozen BK122.out 0; have hfz104_1 := blk_frozen BK122.out 1; have hfz104_2 := blk_frozen BK122.out 2; have hfz104_3 := blk_frozen BK122.out 3; have hfz104_4 := blk_frozen BK122.out 4; have hfz104_5 := blk_frozen BK122.out 5; have hfz104_6 := blk_frozen BK122.out 6; have hfz104_7 := blk_frozen BK122.out 7; have hfz104_8 := blk_frozen BK122.out 8; have hfz104_9 := blk_frozen BK122.out 9; have hfz104_10 := blk_frozen BK122.out 10; have hfz104_11 := blk_frozen BK122.out 11))
                   go_ret
                   exact ⟨by first | rfl | (simp [errW_none, errW_some] <;> rfl) | (simp [*, errW_none, errW_some] <;> rfl), bel_⟩
                 · rw [if_neg c95] at H
                   have c95b0 : ((((((!(a0_8 == 0) || (!(a0_9 == 0))) || (!(a0_10 == 0) || (!(a0_11 == 0)))))))) = false := by simpa using c95
                   clear c95
                   obtain rfl := Option.some.inj H
                   have hnb105 := NB122_120.out
                   have hnc105 := NB120_122.out
                   have hcz106_0 : wc.cell? ⟨gb122, 0, none⟩ = some (.int .u8 0) := (blk_cell BK122.out 0).trans rfl
                   have hcz106_1 : wc.cell? ⟨gb122, 1, none⟩ = some (.int .i64 0) := (blk_cell BK122.out 1).trans rfl
                   have hcz106_2 : wc.cell? ⟨gb122, 2, none⟩ = some (.int .u64 0) := (blk_cell BK122.out 2).trans rfl
                   have hcz106_3 : wc.cell? ⟨gb122, 3, none⟩ = some (.int .i64 0) := (blk_cell BK122.out 3).trans rfl
                   have hcz106_4 : wc.cell? ⟨gb122, 4, none⟩ = some (.bool a0_4) := (blk_cell BK122.out 4).trans rfl
                   have hcz106_5 : wc.cell? ⟨gb122, 5, none⟩ = some (.int .u64 a0_5) := (blk_cell BK122.out 5).trans rfl
                   have hcz106_6 : wc.cell? ⟨gb122, 6, none⟩ = some (.int .u64 a0_6) := (blk_cell BK122.out 6).trans rfl
                   have hcz106_7 : wc.cell? ⟨gb122, 7, none⟩ = some (.int .i64 a0_7) := (blk_cell BK122.out 7).trans rfl
                   have hcz106_8 : wc.cell? ⟨gb122, 8, none⟩ = some (.int .u8 a0_8) := (blk_cell BK122.out 8).trans rfl
                   have hcz106_9 : wc.cell? ⟨gb122, 9, none⟩ = some (.int .i64 a0_9) := (blk_cell BK122.out 9).trans rfl
                   have hcz106_10 : wc.cell? ⟨gb122, 10, none⟩ = some (.int .i64 a0_10) := (blk_cell BK122.out 10).trans rfl
                   have hcz106_11 : wc.cell? ⟨gb122, 11, none⟩ = some (.int .i64 a0_11) := (blk_cell BK122.out 11).trans rfl
                   have hfz106_0 := blk_frozen BK122.out 0
                   have hfz106_1 := blk_frozen BK122.out 1
                   have hfz106_2 := blk_frozen BK122.out 2
                   have hfz106_3 := blk_frozen BK122.out 3
                   have hfz106_4 := blk_frozen BK122.out 4
                   have hfz106_5 := blk_frozen BK122.out 5
                   have hfz106_6 := blk_frozen BK122.out 6
                   have hfz106_7 := blk_frozen BK122.out 7
                   have hfz106_8 := blk_frozen BK122.out 8
                   have hfz106_9 := blk_frozen BK122.out 9
                   have hfz106_10 := blk_frozen BK122.out 10
                   have hfz106_11 := blk_frozen BK122.out 11
                   have hcz107_0 : wc.cell? ⟨gb120, 0, none⟩ = some (.int .u8 a0_0) := (blk_cell BK120.out 0).trans rfl
                   have hcz107_1 : wc.cell? ⟨gb120, 1, none⟩ = some (.int .i64 a0_1) := (blk_cell BK120.out 1).trans rfl
                   have hcz107_2 : wc.cell? ⟨gb120, 2, none⟩ = some (.int .u64 a0_2) := (blk_cell BK120.out 2).trans rfl
                   have hcz107_3 : wc.cell? ⟨gb120, 3, none⟩ = some (.int .i64 a0_3) := (blk_cell BK120.out 3).trans rfl
                   have hcz107_4 : wc.cell? ⟨gb120, 4, none⟩ = some (.bool a0_4) := (blk_cell BK120.out 4).trans rfl
                   have hcz107_5 : wc.cell? ⟨gb120, 5, none⟩ = some (.int .u64 a0_5) := (blk_cell BK120.out 5).trans rfl
                   have hcz107_6 : wc.cell? ⟨gb120, 6, none⟩ = some (.int .u64 a0_6) := (blk_cell BK120.out 6).trans rfl
                   have hcz107_7 : wc.cell? ⟨gb120, 7, none⟩ = some (.int .i64 a0_7) := (blk_cell BK120.out 7).trans rfl
                   have hcz107_8 : wc.cell? ⟨gb120, 8, none⟩ = some (.int .u8 a0_8) := (blk_cell BK120.out 8).trans rfl
                   have hcz107_9 : wc.cell? ⟨gb120, 9, none⟩ = some (.int .i64 a0_9) := (blk_cell BK120.out 9).trans rfl
                   have hcz107_10 : wc.cell? ⟨gb120, 10, none⟩ = some (.int .i64 a0_10) := (blk_cell BK120.out 10).trans rfl
                   have hcz107_11 : wc.cell? ⟨gb120, 11, none⟩ = some (.int .i64 a0_11) := (blk_cell BK120.out 11).trans rfl
                   have hfz107_0 := blk_frozen BK120.out 0
                   have hfz107_1 := blk_frozen BK120.out 1
                   have hfz107_2 := blk_frozen BK120.out 2
                   have hfz107_3 := blk_frozen BK120.out 3
                   have hfz107_4 := blk_frozen BK120.out 4
                   have hfz107_5 := blk_frozen BK120.out 5
                   have hfz107_6 := blk_frozen BK120.out 6
                   have hfz107_7 := blk_frozen BK120.out 7
                   have hfz107_8 := blk_frozen BK120.out 8
                   have hfz107_9 := blk_frozen BK120.out 9
                   have hfz107_10 := blk_frozen BK120.out 10
                   have hfz107_11 := blk_frozen BK120.out 11
                   go_wp2_with (first | (go_at_call 34; (with_reducible refine (addr_Check.calls kj14 a0_4 a0_5 a0_6 a0_7 t128 _ A93.out).mono ?_); rintro e w108 ⟨rfl, hb⟩; have n0_ := Aside0.mk (blk_below (g := gb120) (o := .cells #[.int .u8 a0_0, .int .i64 a0_1, .int .u64 a0_2, .int .i64 a0_3, .bool a0_4, .int .u64 a0_5, .int .u64 a0_6, .int .i64 a0_7, .int .u8 a0_8, .int .i64 a0_9, .int .i64 a0_10, .int .i64 a0_11] 33 (0, 0)) (by refine blkU ?_; refine blk_far ?_ NB120_122.out _; refine blkU ?_; refine blk_far ?_ NB120_122.out _; refine blkU ?_; refine blk_far ?_ NB120_122.out _; refine blkU ?_; refine blk_far ?_ NB120_122.out _; refine blkU ?_; exact BK120.out) hb); have n1_ := Aside0.mk (blk_below (g := gb122) (o := .cells #[.int .u8 0, .int .i64 0, .int .u64 0, .int .i64 0, .bool false, .int .u64 0, .int .u64 0, .int .i64 0, .int .u8 a0_8, .int .i64 a0_9, .int .i64 a0_10, .int .i64 a0_11] 33 (0, 0)) (by refine blkU ?_; refine blk_put (cs := #[.int .u8 0, .int .i64 0, .int .u64 0, .int .i64 0, .bool false, .int .u64 0, .int .u64 0, .int .i64 a0_7, .int .u8 a0_8, .int .i64 a0_9, .int .i64 a0_10, .int .i64 a0_11]) ?_ 7 _ rfl; refine blkU ?_; refine blk_put (cs := #[.int .u8 0, .int .i64 0, .int .u64 0, .int .i64 0, .bool false, .int .u64 0, .int .u64 a0_6, .int .i64 a0_7, .int .u8 a0_8, .int .i64 a0_9, .int .i64 a0_10, .int .i64 a0_11]) ?_ 6 _ rfl; refine blkU ?_; refine blk_put (cs := #[.int .u8 0, .int .i64 0, .int .u64 0, .int .i64 0, .bool false, .int .u64 a0_5, .int .u64 a0_6, .int .i64 a0_7, .int .u8 a0_8, .int .i64 a0_9, .int .i64 a0_10, .int .i64 a0_11]) ?_ 5 _ rfl; refine blkU ?_; refine blk_put (cs := #[.int .u8 0, .int .i64 0, .int .u64 0, .int .i64 0, .bool a0_4, .int .u64 a0_5, .int .u64 a0_6, .int .i64 a0_7, .int .u8 a0_8, .int .i64 a0_9, .int .i64 a0_10, .int .i64 a0_11]) ?_ 4 _ rfl; refine blkU ?_; exact BK122.out) hb); have n2_ := Aside0.mk (below_step bel_ hb); clear BK120; clear BK122; clear HB; have BK120 := n0_; have BK122 := n1_; have HB := n2_; clear n0_ n1_ n2_; (try clear hb); (try clear hb2); (try clear hk); (try clear hi)) | ((with_reducible refine gate_dst (N := 5) rfl ?_); refine box_event ?hg (N := 5) ?hd (cs := #[.int .u8 0, .int .i64 0, .int .u64 0, .int .i64 0, .bool false, .int .u64 0, .int .u64 0, .int .i64 0, .int .u8 0, .int .i64 0, .int .i64 0, .int .i64 0]) (t := 33) ?hr ?_; (case hd => rfl); (case hg => rfl); (case hr => first | (go_simp; done) | (go_simp; rfl)); intro gb129 hg w109 hbox hb; have n0_ := Aside0.mk (blk_below (blkU BK120.out) hb); have n1_ := Aside0.mk (blk_below (blkU BK122.out) hb); have n2_ := Aside0.mk (below_step bel_ hb); have n3_ := Aside0.mk (hbox); have n4_ := Aside0.mk ((by rw [hg]; exact (below_size bel_) : w.heap.size ≤ gb129)); have n5_ := Aside0.mk ((by rw [hg]; exact (below_size bel_) : w.heap.size ≤ gb129)); have n6_ := Aside0.mk ((by rw [hg]; exact Nat.ne_of_lt (blk_lt (blkU BK120.out)) : gb120 ≠ gb129)); have n7_ := Aside0.mk ((by rw [hg]; exact Nat.ne_of_gt (blk_lt (blkU BK120.out)) : gb129 ≠ gb120)); have n8_ := Aside0.mk ((by rw [hg]; exact Nat.ne_of_lt (blk_lt (blkU BK122.out)) : gb122 ≠ gb129)); have n9_ := Aside0.mk ((by rw [hg]; exact Nat.ne_of_gt (blk_lt (blkU BK122.out)) : gb129 ≠ gb122)); clear BK120; clear BK122; clear HB; have BK120 := n0_; have BK122 := n1_; have HB := n2_; have BK129 := n3_; have GW129 := n4_; have GE129 := n5_; have NB120_129 := n6_; have NB129_120 := n7_; have NB122_129 := n8_; have NB129_122 := n9_; clear n0_ n1_ n2_ n3_ n4_ n5_ n6_ n7_ n8_ n9_; clear hb hbox hg; have hnb110 := NB129_120.out; have hnc110 := NB120_129.out; have hnb111 := NB129_122.out; have hnc111 := NB122_129.out; have hcz112_0 : w109.cell? ⟨gb129, 0, none⟩ = some (.int .u8 0) := (blk_cell BK129.out 0).trans rfl; have hcz112_1 : w109.cell? ⟨gb129, 1, none⟩ = some (.int .i64 0) := (blk_cell BK129.out 1).trans rfl; have hcz112_2 : w109.cell? ⟨gb129, 2, none⟩ = some (.int .u64 0) := (blk_cell BK129.out 2).trans rfl; have hcz112_3 : w109.cell? ⟨gb129, 3, none⟩ = some (.int .i64 0) := (blk_cell BK129.out 3).trans rfl; have hcz112_4 : w109.cell? ⟨gb129, 4, none⟩ = some (.bool false) := (blk_cell BK129.out 4).trans rfl; have hcz112_5 : w109.cell? ⟨gb129, 5, none⟩ = some (.int .u64 0) := (blk_cell BK129.out 5).trans rfl; have hcz112_6 : w109.cell? ⟨gb129, 6, none⟩ = some (.int .u64 0) := (blk_cell BK129.out 6).trans rfl; have hcz112_7 : w109.cell? ⟨gb129, 7, none⟩ = some (.int .i64 0) := (blk_cell BK129.out 7).trans rfl; have hcz112_8 : w109.cell? ⟨gb129, 8, none⟩ = some (.int .u8 0) := (blk_cell BK129.out 8).trans rfl; have hcz112_9 : w109.cell? ⟨gb129, 9, none⟩ = some (.int .i64 0) := (blk_cell BK129.out 9).trans rfl; have hcz112_10 : w109.cell? ⟨gb129, 10, none⟩ = some (.int .i64 0) := (blk_cell BK129.out 10).trans rfl; have hcz112_11 : w109.cell? ⟨gb129, 11, none⟩ = some (.int .i64 0) := (blk_cell BK129.out 11).trans rfl; have hfz112_0 := blk_frozen BK129.out 0; have hfz112_1 := blk_frozen BK129.out 1; have hfz112_2 := blk_frozen BK129.out 2; have hfz112_3 := blk_frozen BK129.out 3; have hfz112_4 := blk_frozen BK129.out 4; have hfz112_5 := blk_frozen BK129.out 5; have hfz112_6 := blk_frozen BK129.out 6; have hfz112_7 := blk_frozen BK129.out 7; have hfz112_8 := blk_frozen BK129.out 8; have hfz112_9 := blk_frozen BK129.out 9; have hfz112_10 := blk_frozen BK129.out 10; have hfz112_11 := blk_frozen BK129.out 11; have hcz113_0 : w109.cell? ⟨gb122, 0, none⟩ = some (.int .u8 0) := (blk_cell BK122.out 0).trans rfl; have hcz113_1 : w109.cell? ⟨gb122, 1, none⟩ = some (.int .i64 0) := (blk_cell BK122.out 1).trans rfl; have hcz113_2 : w109.cell? ⟨gb122, 2, none⟩ = some (.int .u64 0) := (blk_cell BK122.out 2).trans rfl; have hcz113_3 : w109.cell? ⟨gb122, 3, none⟩ = some (.int .i64 0) := (blk_cell BK122.out 3).trans rfl; have hcz113_4 : w109.cell? ⟨gb122, 4, none⟩ = some (.bool false) := (blk_cell BK122.out 4).trans rfl; have hcz113_5 : w109.cell? ⟨gb122, 5, none⟩ = some (.int .u64 0) := (blk_cell BK122.out 5).trans rfl; have hcz113_6 : w109.cell? ⟨gb122, 6, none⟩ = some (.int .u64 0) := (blk_cell BK122.out 6).trans rfl; have hcz113_7 : w109.cell? ⟨gb122, 7, none⟩ = some (.int .i64 0) := (blk_cell BK122.out 7).trans rfl; have hcz113_8 : w109.cell? ⟨gb122, 8, none⟩ = some (.int .u8 a0_8) := (blk_cell BK122.out 8).trans rfl; have hcz113_9 : w109.cell? ⟨gb122, 9, none⟩ = some (.int .i64 a0_9) := (blk_cell BK122.out 9).trans rfl; have hcz113_10 : w109.cell? ⟨gb122, 10, none⟩ = some (.int .i64 a0_10) := (blk_cell BK122.out 10).trans rfl; have hcz113_11 : w109.cell? ⟨gb122, 11, none⟩ = some (.int .i64 a0_11) := (blk_cell BK122.out 11).trans rfl; have hfz113_0 := blk_frozen BK122.out 0; have hfz113_1 := blk_frozen BK122.out 1; have hfz113_2 := blk_frozen BK122.out 2; have hfz113_3 := blk_frozen BK122.out 3; have hfz113_4 := blk_frozen BK122.out 4; have hfz113_5 := blk_frozen BK122.out 5; have hfz113_6 := blk_frozen BK122.out 6; have hfz113_7 := blk_frozen BK122.out 7; have hfz113_8 := blk_frozen BK122.out 8; have hfz113_9 := blk_frozen BK122.out 9; have hfz113_10 := blk_frozen BK122.out 10; have hfz113_11 := blk_frozen BK122.out 11))
                   go_ret
                   exact ⟨by first | rfl | (simp [errW_none, errW_some] <;> rfl) | (simp [*, errW_none, errW_some] <;> rfl), bel_⟩
               · rw [if_neg c94] at H
                 have c94b0 : (t128 == 0) = false := beq_eq_false_iff_ne.mpr c94
                 have c94b1 : (t128 != 0) = true := bne_iff_ne.mpr c94
                 obtain rfl := Option.some.inj H
                 have hnb114 := NB122_120.out
                 have hnc114 := NB120_122.out
                 have hcz115_0 : wc.cell? ⟨gb122, 0, none⟩ = some (.int .u8 0) := (blk_cell BK122.out 0).trans rfl
                 have hcz115_1 : wc.cell? ⟨gb122, 1, none⟩ = some (.int .i64 0) := (blk_cell BK122.out 1).trans rfl
                 have hcz115_2 : wc.cell? ⟨gb122, 2, none⟩ = some (.int .u64 0) := (blk_cell BK122.out 2).trans rfl
                 have hcz115_3 : wc.cell? ⟨gb122, 3, none⟩ = some (.int .i64 0) := (blk_cell BK122.out 3).trans rfl
                 have hcz115_4 : wc.cell? ⟨gb122, 4, none⟩ = some (.bool a0_4) := (blk_cell BK122.out 4).trans rfl
                 have hcz115_5 : wc.cell? ⟨gb122, 5, none⟩ = some (.int .u64 a0_5) := (blk_cell BK122.out 5).trans rfl
                 have hcz115_6 : wc.cell? ⟨gb122, 6, none⟩ = some (.int .u64 a0_6) := (blk_cell BK122.out 6).trans rfl
                 have hcz115_7 : wc.cell? ⟨gb122, 7, none⟩ = some (.int .i64 a0_7) := (blk_cell BK122.out 7).trans rfl
                 have hcz115_8 : wc.cell? ⟨gb122, 8, none⟩ = some (.int .u8 a0_8) := (blk_cell BK122.out 8).trans rfl
                 have hcz115_9 : wc.cell? ⟨gb122, 9, none⟩ = some (.int .i64 a0_9) := (blk_cell BK122.out 9).trans rfl
                 have hcz115_10 : wc.cell? ⟨gb122, 10, none⟩ = some (.int .i64 a0_10) := (blk_cell BK122.out 10).trans rfl
                 have hcz115_11 : wc.cell? ⟨gb122, 11, none⟩ = some (.int .i64 a0_11) := (blk_cell BK122.out 11).trans rfl
                 have hfz115_0 := blk_frozen BK122.out 0
                 have hfz115_1 := blk_frozen BK122.out 1
                 have hfz115_2 := blk_frozen BK122.out 2
                 have hfz115_3 := blk_frozen BK122.out 3
                 have hfz115_4 := blk_frozen BK122.out 4
                 have hfz115_5 := blk_frozen BK122.out 5
                 have hfz115_6 := blk_frozen BK122.out 6
                 have hfz115_7 := blk_frozen BK122.out 7
                 have hfz115_8 := blk_frozen BK122.out 8
                 have hfz115_9 := blk_frozen BK122.out 9
                 have hfz115_10 := blk_frozen BK122.out 10
                 have hfz115_11 := blk_frozen BK122.out 11
                 have hcz116_0 : wc.cell? ⟨gb120, 0, none⟩ = some (.int .u8 a0_0) := (blk_cell BK120.out 0).trans rfl
                 have hcz116_1 : wc.cell? ⟨gb120, 1, none⟩ = some (.int .i64 a0_1) := (blk_cell BK120.out 1).trans rfl
                 have hcz116_2 : wc.cell? ⟨gb120, 2, none⟩ = some (.int .u64 a0_2) := (blk_cell BK120.out 2).trans rfl
                 have hcz116_3 : wc.cell? ⟨gb120, 3, none⟩ = some (.int .i64 a0_3) := (blk_cell BK120.out 3).trans rfl
                 have hcz116_4 : wc.cell? ⟨gb120, 4, none⟩ = some (.bool a0_4) := (blk_cell BK120.out 4).trans rfl
                 have hcz116_5 : wc.cell? ⟨gb120, 5, none⟩ = some (.int .u64 a0_5) := (blk_cell BK120.out 5).trans rfl
                 have hcz116_6 : wc.cell? ⟨gb120, 6, none⟩ = some (.int .u64 a0_6) := (blk_cell BK120.out 6).trans rfl
                 have hcz116_7 : wc.cell? ⟨gb120, 7, none⟩ = some (.int .i64 a0_7) := (blk_cell BK120.out 7).trans rfl
                 have hcz116_8 : wc.cell? ⟨gb120, 8, none⟩ = some (.int .u8 a0_8) := (blk_cell BK120.out 8).trans rfl
                 have hcz116_9 : wc.cell? ⟨gb120, 9, none⟩ = some (.int .i64 a0_9) := (blk_cell BK120.out 9).trans rfl
                 have hcz116_10 : wc.cell? ⟨gb120, 10, none⟩ = some (.int .i64 a0_10) := (blk_cell BK120.out 10).trans rfl
                 have hcz116_11 : wc.cell? ⟨gb120, 11, none⟩ = some (.int .i64 a0_11) := (blk_cell BK120.out 11).trans rfl
                 have hfz116_0 := blk_frozen BK120.out 0
                 have hfz116_1 := blk_frozen BK120.out 1
                 have hfz116_2 := blk_frozen BK120.out 2
                 have hfz116_3 := blk_frozen BK120.out 3
                 have hfz116_4 := blk_frozen BK120.out 4
                 have hfz116_5 := blk_frozen BK120.out 5
                 have hfz116_6 := blk_frozen BK120.out 6
                 have hfz116_7 := blk_frozen BK120.out 7
                 have hfz116_8 := blk_frozen BK120.out 8
                 have hfz116_9 := blk_frozen BK120.out 9
                 have hfz116_10 := blk_frozen BK120.out 10
                 have hfz116_11 := blk_frozen BK120.out 11
                 go_wp2_with (first | (go_at_call 34; (with_reducible refine (addr_Check.calls kj14 a0_4 a0_5 a0_6 a0_7 t128 _ A93.out).mono ?_); rintro e w117 ⟨rfl, hb⟩; have n0_ := Aside0.mk (blk_below (g := gb120) (o := .cells #[.int .u8 a0_0, .int .i64 a0_1, .int .u64 a0_2, .int .i64 a0_3, .bool a0_4, .int .u64 a0_5, .int .u64 a0_6, .int .i64 a0_7, .int .u8 a0_8, .int .i64 a0_9, .int .i64 a0_10, .int .i64 a0_11] 33 (0, 0)) (by refine blkU ?_; refine blk_far ?_ NB120_122.out _; refine blkU ?_; refine blk_far ?_ NB120_122.out _; refine blkU ?_; refine blk_far ?_ NB120_122.out _; refine blkU ?_; refine blk_far ?_ NB120_122.out _; refine blkU ?_; exact BK120.out) hb); have n1_ := Aside0.mk (blk_below (g := gb122) (o := .cells #[.int .u8 0, .int .i64 0, .int .u64 0, .int .i64 0, .bool false, .int .u64 0, .int .u64 0, .int .i64 0, .int .u8 a0_8, .int .i64 a0_9, .int .i64 a0_10, .int .i64 a0_11] 33 (0, 0)) (by refine blkU ?_; refine blk_put (cs := #[.int .u8 0, .int .i64 0, .int .u64 0, .int .i64 0, .bool false, .int .u64 0, .int .u64 0, .int .i64 a0_7, .int .u8 a0_8, .int .i64 a0_9, .int .i64 a0_10, .int .i64 a0_11]) ?_ 7 _ rfl; refine blkU ?_; refine blk_put (cs := #[.int .u8 0, .int .i64 0, .int .u64 0, .int .i64 0, .bool false, .int .u64 0, .int .u64 a0_6, .int .i64 a0_7, .int .u8 a0_8, .int .i64 a0_9, .int .i64 a0_10, .int .i64 a0_11]) ?_ 6 _ rfl; refine blkU ?_; refine blk_put (cs := #[.int .u8 0, .int .i64 0, .int .u64 0, .int .i64 0, .bool false, .int .u64 a0_5, .int .u64 a0_6, .int .i64 a0_7, .int .u8 a0_8, .int .i64 a0_9, .int .i64 a0_10, .int .i64 a0_11]) ?_ 5 _ rfl; refine blkU ?_; refine blk_put (cs := #[.int .u8 0, .int .i64 0, .int .u64 0, .int .i64 0, .bool a0_4, .int .u64 a0_5, .int .u64 a0_6, .int .i64 a0_7, .int .u8 a0_8, .int .i64 a0_9, .int .i64 a0_10, .int .i64 a0_11]) ?_ 4 _ rfl; refine blkU ?_; exact BK122.out) hb); have n2_ := Aside0.mk (below_step bel_ hb); clear BK120; clear BK122; clear HB; have BK120 := n0_; have BK122 := n1_; have HB := n2_; clear n0_ n1_ n2_; (try clear hb); (try clear hb2); (try clear hk); (try clear hi)) | ((with_reducible refine gate_dst (N := 5) rfl ?_); refine box_event ?hg (N := 5) ?hd (cs := #[.int .u8 0, .int .i64 0, .int .u64 0, .int .i64 0, .bool false, .int .u64 0, .int .u64 0, .int .i64 0, .int .u8 0, .int .i64 0, .int .i64 0, .int .i64 0]) (t := 33) ?hr ?_; (case hd => rfl); (case hg => rfl); (case hr => first | (go_simp; done) | (go_simp; rfl)); intro gb129 hg w118 hbox hb; have n0_ := Aside0.mk (blk_below (blkU BK120.out) hb); have n1_ := Aside0.mk (blk_below (blkU BK122.out) hb); have n2_ := Aside0.mk (below_step bel_ hb); have n3_ := Aside0.mk (hbox); have n4_ := Aside0.mk ((by rw [hg]; exact (below_size bel_) : w.heap.size ≤ gb129)); have n5_ := Aside0.mk ((by rw [hg]; exact (below_size bel_) : w.heap.size ≤ gb129)); have n6_ := Aside0.mk ((by rw [hg]; exact Nat.ne_of_lt (blk_lt (blkU BK120.out)) : gb120 ≠ gb129)); have n7_ := Aside0.mk ((by rw [hg]; exact Nat.ne_of_gt (blk_lt (blkU BK120.out)) : gb129 ≠ gb120)); have n8_ := Aside0.mk ((by rw [hg]; exact Nat.ne_of_lt (blk_lt (blkU BK122.out)) : gb122 ≠ gb129)); have n9_ := Aside0.mk ((by rw [hg]; exact Nat.ne_of_gt (blk_lt (blkU BK122.out)) : gb129 ≠ gb122)); clear BK120; clear BK122; clear HB; have BK120 := n0_; have BK122 := n1_; have HB := n2_; have BK129 := n3_; have GW129 := n4_; have GE129 := n5_; have NB120_129 := n6_; have NB129_120 := n7_; have NB122_129 := n8_; have NB129_122 := n9_; clear n0_ n1_ n2_ n3_ n4_ n5_ n6_ n7_ n8_ n9_; clear hb hbox hg; have hnb119 := NB129_120.out; have hnc119 := NB120_129.out; have hnb120 := NB129_122.out; have hnc120 := NB122_129.out; have hcz121_0 : w118.cell? ⟨gb129, 0, none⟩ = some (.int .u8 0) := (blk_cell BK129.out 0).trans rfl; have hcz121_1 : w118.cell? ⟨gb129, 1, none⟩ = some (.int .i64 0) := (blk_cell BK129.out 1).trans rfl; have hcz121_2 : w118.cell? ⟨gb129, 2, none⟩ = some (.int .u64 0) := (blk_cell BK129.out 2).trans rfl; have hcz121_3 : w118.cell? ⟨gb129, 3, none⟩ = some (.int .i64 0) := (blk_cell BK129.out 3).trans rfl; have hcz121_4 : w118.cell? ⟨gb129, 4, none⟩ = some (.bool false) := (blk_cell BK129.out 4).trans rfl; have hcz121_5 : w118.cell? ⟨gb129, 5, none⟩ = some (.int .u64 0) := (blk_cell BK129.out 5).trans rfl; have hcz121_6 : w118.cell? ⟨gb129, 6, none⟩ = some (.int .u64 0) := (blk_cell BK129.out 6).trans rfl; have hcz121_7 : w118.cell? ⟨gb129, 7, none⟩ = some (.int .i64 0) := (blk_cell BK129.out 7).trans rfl; have hcz121_8 : w118.cell? ⟨gb129, 8, none⟩ = some (.int .u8 0) := (blk_cell BK129.out 8).trans rfl; have hcz121_9 : w118.cell? ⟨gb129, 9, none⟩ = some (.int .i64 0) := (blk_cell BK129.out 9).trans rfl; have hcz121_10 : w118.cell? ⟨gb129, 10, none⟩ = some (.int .i64 0) := (blk_cell BK129.out 10).trans rfl; have hcz121_11 : w118.cell? ⟨gb129, 11, none⟩ = some (.int .i64 0) := (blk_cell BK129.out 11).trans rfl; have hfz121_0 := blk_frozen BK129.out 0; have hfz121_1 := blk_frozen BK129.out 1; have hfz121_2 := blk_frozen BK129.out 2; have hfz121_3 := blk_frozen BK129.out 3; have hfz121_4 := blk_frozen BK129.out 4; have hfz121_5 := blk_frozen BK129.out 5; have hfz121_6 := blk_frozen BK129.out 6; have hfz121_7 := blk_frozen BK129.out 7; have hfz121_8 := blk_frozen BK129.out 8; have hfz121_9 := blk_frozen BK129.out 9; have hfz121_10 := blk_frozen BK129.out 10; have hfz121_11 := blk_frozen BK129.out 11))
                 go_ret
                 exact ⟨by first | rfl | (simp [errW_none, errW_some] <;> rfl) | (simp [*, errW_none, errW_some] <;> rfl), bel_⟩
             · exact absurd rfl c92
           · rw [if_neg c91] at H
             have c91b0 : (a0_0 == 4) = false := beq_eq_false_iff_ne.mpr c91
             have c91b1 : (a0_0 != 4) = true := bne_iff_ne.mpr c91
             by_cases c128 : a0_0 = 5
             · rw [if_pos c128] at H
               have c128b0 : (a0_0 == 5) = true := beq_iff_eq.mpr c128
               have c128b1 : (a0_0 != 5) = false := bne_eq_false_iff_eq.mpr c128
               clear c128
               replace H := Option.bind_eq_some_iff.mp H
               obtain ⟨t134, A1290, H⟩ := H
               replace H : (if t134 = true then ((msg_iface.f a0_10).bind fun t135 => (if t135 = true then (if ((((((a0_4 || ((!(a0_5 == 0) || (!(a0_6 == 0))) || (!(a0_7 == 0)))) || ((!(a0_8 == 0) || (!(a0_9 == 0))))))))) = true then (some 2) else (some 0)) else (some 2))) else (some 2)) = some r := H
               have A129 := Aside0.mk A1290
               clear A1290
               by_cases c130 : t134 = true
               · subst c130
                 have H1 : ((msg_iface.f a0_10).bind fun t135 => (if t135 = true then (if ((((((a0_4 || ((!(a0_5 == 0) || (!(a0_6 == 0))) || (!(a0_7 == 0)))) || ((!(a0_8 == 0) || (!(a0_9 == 0))))))))) = true then (some 2) else (some 0)) else (some 2))) = some r := by rw [if_pos rfl] at H; exact H
                 clear H
                 have H := H1
                 clear H1
                 replace H := Option.bind_eq_some_iff.mp H
                 obtain ⟨t135, A1310, H⟩ := H
                 replace H : (if t135 = true then (if ((((((a0_4 || ((!(a0_5 == 0) || (!(a0_6 == 0))) || (!(a0_7 == 0)))) || ((!(a0_8 == 0) || (!(a0_9 == 0))))))))) = true then (some 2) else (some 0)) else (some 2)) = some r := H
                 have A131 := Aside0.mk A1310
                 clear A1310
                 by_cases c132 : t135 = true
                 · subst c132
                   have H1 : (if ((((((a0_4 || ((!(a0_5 == 0) || (!(a0_6 == 0))) || (!(a0_7 == 0)))) || ((!(a0_8 == 0) || (!(a0_9 == 0))))))))) = true then (some 2) else (some 0)) = some r := by rw [if_pos rfl] at H; exact H
                   clear H
                   have H := H1
                   clear H1
                   by_cases c133 : ((((((a0_4 || ((!(a0_5 == 0) || (!(a0_6 == 0))) || (!(a0_7 == 0)))) || ((!(a0_8 == 0) || (!(a0_9 == 0))))))))) = true
                   · rw [if_pos c133] at H
                     have c133b0 : ((((((a0_4 || ((!(a0_5 == 0) || (!(a0_6 == 0))) || (!(a0_7 == 0)))) || ((!(a0_8 == 0) || (!(a0_9 == 0))))))))) = true := c133
                     clear c133
                     obtain rfl := Option.some.inj H
                     have hnb134 := NB122_120.out
                     have hnc134 := NB120_122.out
                     have hcz135_0 : wc.cell? ⟨gb122, 0, none⟩ = some (.int .u8 0) := (blk_cell BK122.out 0).trans rfl
                     have hcz135_1 : wc.cell? ⟨gb122, 1, none⟩ = some (.int .i64 0) := (blk_cell BK122.out 1).trans rfl
                     have hcz135_2 : wc.cell? ⟨gb122, 2, none⟩ = some (.int .u64 0) := (blk_cell BK122.out 2).trans rfl
                     have hcz135_3 : wc.cell? ⟨gb122, 3, none⟩ = some (.int .i64 0) := (blk_cell BK122.out 3).trans rfl
                     have hcz135_4 : wc.cell? ⟨gb122, 4, none⟩ = some (.bool a0_4) := (blk_cell BK122.out 4).trans rfl
                     have hcz135_5 : wc.cell? ⟨gb122, 5, none⟩ = some (.int .u64 a0_5) := (blk_cell BK122.out 5).trans rfl
                     have hcz135_6 : wc.cell? ⟨gb122, 6, none⟩ = some (.int .u64 a0_6) := (blk_cell BK122.out 6).trans rfl
                     have hcz135_7 : wc.cell? ⟨gb122, 7, none⟩ = some (.int .i64 a0_7) := (blk_cell BK122.out 7).trans rfl
                     have hcz135_8 : wc.cell? ⟨gb122, 8, none⟩ = some (.int .u8 a0_8) := (blk_cell BK122.out 8).trans rfl
                     have hcz135_9 : wc.cell? ⟨gb122, 9, none⟩ = some (.int .i64 a0_9) := (blk_cell BK122.out 9).trans rfl
                     have hcz135_10 : wc.cell? ⟨gb122, 10, none⟩ = some (.int .i64 a0_10) := (blk_cell BK122.out 10).trans rfl
                     have hcz135_11 : wc.cell? ⟨gb122, 11, none⟩ = some (.int .i64 a0_11) := (blk_cell BK122.out 11).trans rfl
                     have hfz135_0 := blk_frozen BK122.out 0
                     have hfz135_1 := blk_frozen BK122.out 1
                     have hfz135_2 := blk_frozen BK122.out 2
                     have hfz135_3 := blk_frozen BK122.out 3
                     have hfz135_4 := blk_frozen BK122.out 4
                     have hfz135_5 := blk_frozen BK122.out 5
                     have hfz135_6 := blk_frozen BK122.out 6
                     have hfz135_7 := blk_frozen BK122.out 7
                     have hfz135_8 := blk_frozen BK122.out 8
                     have hfz135_9 := blk_frozen BK122.out 9
                     have hfz135_10 := blk_frozen BK122.out 10
                     have hfz135_11 := blk_frozen BK122.out 11
                     have hcz136_0 : wc.cell? ⟨gb120, 0, none⟩ = some (.int .u8 a0_0) := (blk_cell BK120.out 0).trans rfl
                     have hcz136_1 : wc.cell? ⟨gb120, 1, none⟩ = some (.int .i64 a0_1) := (blk_cell BK120.out 1).trans rfl
                     have hcz136_2 : wc.cell? ⟨gb120, 2, none⟩ = some (.int .u64 a0_2) := (blk_cell BK120.out 2).trans rfl
                     have hcz136_3 : wc.cell? ⟨gb120, 3, none⟩ = some (.int .i64 a0_3) := (blk_cell BK120.out 3).trans rfl
                     have hcz136_4 : wc.cell? ⟨gb120, 4, none⟩ = some (.bool a0_4) := (blk_cell BK120.out 4).trans rfl
                     have hcz136_5 : wc.cell? ⟨gb120, 5, none⟩ = some (.int .u64 a0_5) := (blk_cell BK120.out 5).trans rfl
                     have hcz136_6 : wc.cell? ⟨gb120, 6, none⟩ = some (.int .u64 a0_6) := (blk_cell BK120.out 6).trans rfl
                     have hcz136_7 : wc.cell? ⟨gb120, 7, none⟩ = some (.int .i64 a0_7) := (blk_cell BK120.out 7).trans rfl
                     have hcz136_8 : wc.cell? ⟨gb120, 8, none⟩ = some (.int .u8 a0_8) := (blk_cell BK120.out 8).trans rfl
                     have hcz136_9 : wc.cell? ⟨gb120, 9, none⟩ = some (.int .i64 a0_9) := (blk_cell BK120.out 9).trans rfl
                     have hcz136_10 : wc.cell? ⟨gb120, 10, none⟩ = some (.int .i64 a0_10) := (blk_cell BK120.out 10).trans rfl
                     have hcz136_11 : wc.cell? ⟨gb120, 11, none⟩ = some (.int .i64 a0_11) := (blk_cell BK120.out 11).trans rfl
                     have hfz136_0 := blk_frozen BK120.out 0
                     have hfz136_1 := blk_frozen BK120.out 1
                     have hfz136_2 := blk_frozen BK120.out 2
                     have hfz136_3 := blk_frozen BK120.out 3
                     have hfz136_4 := blk_frozen BK120.out 4
                     have hfz136_5 := blk_frozen BK120.out 5
                     have hfz136_6 := blk_frozen BK120.out 6
                     have hfz136_7 := blk_frozen BK120.out 7
                     have hfz136_8 := blk_frozen BK120.out 8
                     have hfz136_9 := blk_frozen BK120.out 9
                     have hfz136_10 := blk_frozen BK120.out 10
                     have hfz136_11 := blk_frozen BK120.out 11
                     go_wp2_with (first | ((with_reducible refine gate_callee (f := 32) rfl ?_); refine goesL_ (some 65) rfl rfl Try.func32 (by kernel_rfl) rfl #[.int .i64 a0_11] rfl args_ ?_; (with_reducible refine (msg_id.calls a0_11 true _ A129.out).mono ?_); rintro e w' ⟨rfl, ⟨nd, rfl⟩⟩; refine ⟨_, rfl, ?_⟩) | (go_at_call 35; (with_reducible refine (msg_iface.calls a0_10 true _ A131.out).mono ?_); rintro e w' ⟨rfl, ⟨nd, rfl⟩⟩) | ((with_reducible refine gate_dst (N := 5) rfl ?_); refine box_event ?hg (N := 5) ?hd (cs := #[.int .u8 0, .int .i64 0, .int .u64 0, .int .i64 0, .bool false, .int .u64 0, .int .u64 0, .int .i64 0, .int .u8 0, .int .i64 0, .int .i64 0, .int .i64 0]) (t := 33) ?hr ?_; (case hd => rfl); (case hg => rfl); (case hr => first | (go_simp; done) | (go_simp; rfl)); intro gb136 hg w137 hbox hb; have n0_ := Aside0.mk (blk_below (g := gb120) (o := .cells #[.int .u8 a0_0, .int .i64 a0_1, .int .u64 a0_2, .int .i64 a0_3, .bool a0_4, .int .u64 a0_5, .int .u64 a0_6, .int .i64 a0_7, .int .u8 a0_8, .int .i64 a0_9, .int .i64 a0_10, .int .i64 a0_11] 33 (0, 0)) (by refine blkU ?_; refine blk_far ?_ NB120_122.out _; refine blkU ?_; refine blk_far ?_ NB120_122.out _; refine blkU ?_; exact BK120.out) hb); have n1_ := Aside0.mk (blk_below (g := gb122) (o := .cells #[.int .u8 0, .int .i64 0, .int .u64 0, .int .i64 0, .bool a0_4, .int .u64 a0_5, .int .u64 a0_6, .int .i64 a0_7, .int .u8 a0_8, .int .i64 a0_9, .int .i64 0, .int .i64 0] 33 (0, 0)) (by refine blkU ?_; refine blk_put (cs := #[.int .u8 0, .int .i64 0, .int .u64 0, .int .i64 0, .bool a0_4, .int .u64 a0_5, .int .u64 a0_6, .int .i64 a0_7, .int .u8 a0_8, .int .i64 a0_9, .int .i64 a0_10, .int .i64 0]) ?_ 10 _ rfl; refine blkU ?_; refine blk_put (cs := #[.int .u8 0, .int .i64 0, .int .u64 0, .int .i64 0, .bool a0_4, .int .u64 a0_5, .int .u64 a0_6, .int .i64 a0_7, .int .u8 a0_8, .int .i64 a0_9, .int .i64 a0_10, .int .i64 a0_11]) ?_ 11 _ rfl; refine blkU ?_; exact BK122.out) hb); have n2_ := Aside0.mk (below_step bel_ hb); have n3_ := Aside0.mk (hbox); have n4_ := Aside0.mk ((by rw [hg]; exact (below_size bel_) : w.heap.size ≤ gb136)); have n5_ := Aside0.mk ((by rw [hg]; exact (below_size bel_) : w.heap.size ≤ gb136)); have n6_ := Aside0.mk ((by rw [hg]; exact Nat.ne_of_lt (blk_lt (g := gb120) (o := .cells #[.int .u8 a0_0, .int .i64 a0_1, .int .u64 a0_2, .int .i64 a0_3, .bool a0_4, .int .u64 a0_5, .int .u64 a0_6, .int .i64 a0_7, .int .u8 a0_8, .int .i64 a0_9, .int .i64 a0_10, .int .i64 a0_11] 33 (0, 0)) (by refine blkU ?_; refine blk_far ?_ NB120_122.out _; refine blkU ?_; refine blk_far ?_ NB120_122.out _; refine blkU ?_; exact BK120.out)) : gb120 ≠ gb136)); have n7_ := Aside0.mk ((by rw [hg]; exact Nat.ne_of_gt (blk_lt (g := gb120) (o := .cells #[.int .u8 a0_0, .int .i64 a0_1, .int .u64 a0_2, .int .i64 a0_3, .bool a0_4, .int .u64 a0_5, .int .u64 a0_6, .int .i64 a0_7, .int .u8 a0_8, .int .i64 a0_9, .int .i64 a0_10, .int .i64 a0_11] 33 (0, 0)) (by refine blkU ?_; refine blk_far ?_ NB120_122.out _; refine blkU ?_; refine blk_far ?_ NB120_122.out _; refine blkU ?_; exact BK120.out)) : gb136 ≠ gb120)); have n8_ := Aside0.mk ((by rw [hg]; exact Nat.ne_of_lt (blk_lt (g := gb122) (o := .cells #[.int .u8 0, .int .i64 0, .int .u64 0, .int .i64 0, .bool a0_4, .int .u64 a0_5, .int .u64 a0_6, .int .i64 a0_7, .int .u8 a0_8, .int .i64 a0_9, .int .i64 0, .int .i64 0] 33 (0, 0)) (by refine blkU ?_; refine blk_put (cs := #[.int .u8 0, .int .i64 0, .int .u64 0, .int .i64 0, .bool a0_4, .int .u64 a0_5, .int .u64 a0_6, .int .i64 a0_7, .int .u8 a0_8, .int .i64 a0_9, .int .i64 a0_10, .int .i64 0]) ?_ 10 _ rfl; refine blkU ?_; refine blk_put (cs := #[.int .u8 0, .int .i64 0, .int .u64 0, .int .i64 0, .bool a0_4, .int .u64 a0_5, .int .u64 a0_6, .int .i64 a0_7, .int .u8 a0_8, .int .i64 a0_9, .int .i64 a0_10, .int .i64 a0_11]) ?_ 11 _ rfl; refine blkU ?_; exact BK122.out)) : gb122 ≠ gb136)); have n9_ := Aside0.mk ((by rw [hg]; exact Nat.ne_of_gt (blk_lt (g := gb122) (o := .cells #[.int .u8 0, .int .i64 0, .int .u64 0, .int .i64 0, .bool a0_4, .int .u64 a0_5, .int .u64 a0_6, .int .i64 a0_7, .int .u8 a0_8, .int .i64 a0_9, .int .i64 0, .int .i64 0] 33 (0, 0)) (by refine blkU ?_; refine blk_put (cs := #[.int .u8 0, .int .i64 0, .int .u64 0, .int .i64 0, .bool a0_4, .int .u64 a0_5, .int .u64 a0_6, .int .i64 a0_7, .int .u8 a0_8, .int .i64 a0_9, .int .i64 a0_10, .int .i64 0]) ?_ 10 _ rfl; refine blkU ?_; refine blk_put (cs := #[.int .u8 0, .int .i64 0, .int .u64 0, .int .i64 0, .bool a0_4, .int .u64 a0_5, .int .u64 a0_6, .int .i64 a0_7, .int .u8 a0_8, .int .i64 a0_9, .int .i64 a0_10, .int .i64 a0_11]) ?_ 11 _ rfl; refine blkU ?_; exact BK122.out)) : gb136 ≠ gb122)); clear BK120; clear BK122; clear HB; have BK120 := n0_; have BK122 := n1_; have HB := n2_; have BK136 := n3_; have GW136 := n4_; have GE136 := n5_; have NB120_136 := n6_; have NB136_120 := n7_; have NB122_136 := n8_; have NB136_122 := n9_; clear n0_ n1_ n2_ n3_ n4_ n5_ n6_ n7_ n8_ n9_; clear hb hbox hg; have hnb138 := NB136_120.out; have hnc138 := NB120_136.out; have hnb139 := NB136_122.out; have hnc139 := NB122_136.out; have hcz140_0 : w137.cell? ⟨gb136, 0, none⟩ = some (.int .u8 0) := (blk_cell BK136.out 0).trans rfl; have hcz140_1 : w137.cell? ⟨gb136, 1, none⟩ = some (.int .i64 0) := (blk_cell BK136.out 1).trans rfl; have hcz140_2 : w137.cell? ⟨gb136, 2, none⟩ = some (.int .u64 0) := (blk_cell BK136.out 2).trans rfl; have hcz140_3 : w137.cell? ⟨gb136, 3, none⟩ = some (.int .i64 0) := (blk_cell BK136.out 3).trans rfl; have hcz140_4 : w137.cell? ⟨gb136, 4, none⟩ = some (.bool false) := (blk_cell BK136.out 4).trans rfl; have hcz140_5 : w137.cell? ⟨gb136, 5, none⟩ = some (.int .u64 0) := (blk_cell BK136.out 5).trans rfl; have hcz140_6 : w137.cell? ⟨gb136, 6, none⟩ = some (.int .u64 0) := (blk_cell BK136.out 6).trans rfl; have hcz140_7 : w137.cell? ⟨gb136, 7, none⟩ = some (.int .i64 0) := (blk_cell BK136.out 7).trans rfl; have hcz140_8 : w137.cell? ⟨gb136, 8, none⟩ = some (.int .u8 0) := (blk_cell BK136.out 8).trans rfl; have hcz140_9 : w137.cell? ⟨gb136, 9, none⟩ = some (.int .i64 0) := (blk_cell BK136.out 9).trans rfl; have hcz140_10 : w137.cell? ⟨gb136, 10, none⟩ = some (.int .i64 0) := (blk_cell BK136.out 10).trans rfl; have hcz140_11 : w137.cell? ⟨gb136, 11, none⟩ = some (.int .i64 0) := (blk_cell BK136.out 11).trans rfl; have hfz140_0 := blk_frozen BK136.out 0; have hfz140_1 := blk_frozen BK136.out 1; have hfz140_2 := blk_frozen BK136.out 2; have hfz140_3 := blk_frozen BK136.out 3; have hfz140_4 := blk_frozen BK136.out 4; have hfz140_5 := blk_frozen BK136.out 5; have hfz140_6 := blk_frozen BK136.out 6; have hfz140_7 := blk_frozen BK136.out 7; have hfz140_8 := blk_frozen BK136.out 8; have hfz140_9 := blk_frozen BK136.out 9; have hfz140_10 := blk_frozen BK136.out 10; have hfz140_11 := blk_frozen BK136.out 11; have hcz141_0 : w137.cell? ⟨gb122, 0, none⟩ = some (.int .u8 0) := (blk_cell BK122.out 0).trans rfl; have hcz141_1 : w137.cell? ⟨gb122, 1, none⟩ = some (.int .i64 0) := (blk_cell BK122.out 1).trans rfl; have hcz141_2 : w137.cell? ⟨gb122, 2, none⟩ = some (.int .u64 0) := (blk_cell BK122.out 2).trans rfl; have hcz141_3 : w137.cell? ⟨gb122, 3, none⟩ = some (.int .i64 0) := (blk_cell BK122.out 3).trans rfl; have hcz141_4 : w137.cell? ⟨gb122, 4, none⟩ = some (.bool a0_4) := (blk_cell BK122.out 4).trans rfl; have hcz141_5 : w137.cell? ⟨gb122, 5, none⟩ = some (.int .u64 a0_5) := (blk_cell BK122.out 5).trans rfl; have hcz141_6 : w137.cell? ⟨gb122, 6, none⟩ = some (.int .u64 a0_6) := (blk_cell BK122.out 6).trans rfl; have hcz141_7 : w137.cell? ⟨gb122, 7, none⟩ = some (.int .i64 a0_7) := (blk_cell BK122.out 7).trans rfl; have hcz141_8 : w137.cell? ⟨gb122, 8, none⟩ = some (.int .u8 a0_8) := (blk_cell BK122.out 8).trans rfl; have hcz141_9 : w137.cell? ⟨gb122, 9, none⟩ = some (.int .i64 a0_9) := (blk_cell BK122.out 9).trans rfl; have hcz141_10 : w137.cell? ⟨gb122, 10, none⟩ = some (.int .i64 0) := (blk_cell BK122.out 10).trans rfl; have hcz141_11 : w137.cell? ⟨gb122, 11, none⟩ = some (.int .i64 0) := (blk_cell BK122.out 11).trans rfl; have hfz141_0 := blk_frozen BK122.out 0; have hfz141_1 := blk_frozen BK122.out 1; have hfz141_2 := blk_frozen BK122.out 2; have hfz141_3 := blk_frozen BK122.out 3; have hfz141_4 := blk_frozen BK122.out 4; have hfz141_5 := blk_frozen BK122.out 5; have hfz141_6 := blk_frozen BK122.out 6; have hfz141_7 := blk_frozen BK122.out 7; have hfz141_8 := blk_frozen BK122.out 8; have hfz141_9 := blk_frozen BK122.out 9; have hfz141_10 := blk_frozen BK122.out 10; have hfz141_11 := blk_frozen BK122.out 11))
                     go_ret
                     exact ⟨by first | rfl | (simp [errW_none, errW_some] <;> rfl) | (simp [*, errW_none, errW_some] <;> rfl), bel_⟩
                   · rw [if_neg c133] at H
                     have c133b0 : ((((((a0_4 || ((!(a0_5 == 0) || (!(a0_6 == 0))) || (!(a0_7 == 0)))) || ((!(a0_8 == 0) || (!(a0_9 == 0))))))))) = false := by simpa using c133
                     clear c133
                     obtain rfl := Option.some.inj H
                     have hnb142 := NB122_120.out
                     have hnc142 := NB120_122.out
                     have hcz143_0 : wc.cell? ⟨gb122, 0, none⟩ = some (.int .u8 0) := (blk_cell BK122.out 0).trans rfl
                     have hcz143_1 : wc.cell? ⟨gb122, 1, none⟩ = some (.int .i64 0) := (blk_cell BK122.out 1).trans rfl
                     have hcz143_2 : wc.cell? ⟨gb122, 2, none⟩ = some (.int .u64 0) := (blk_cell BK122.out 2).trans rfl
                     have hcz143_3 : wc.cell? ⟨gb122, 3, none⟩ = some (.int .i64 0) := (blk_cell BK122.out 3).trans rfl
                     have hcz143_4 : wc.cell? ⟨gb122, 4, none⟩ = some (.bool a0_4) := (blk_cell BK122.out 4).trans rfl
                     have hcz143_5 : wc.cell? ⟨gb122, 5, none⟩ = some (.int .u64 a0_5) := (blk_cell BK122.out 5).trans rfl
                     have hcz143_6 : wc.cell? ⟨gb122, 6, none⟩ = some (.int .u64 a0_6) := (blk_cell BK122.out 6).trans rfl
                     have hcz143_7 : wc.cell? ⟨gb122, 7, none⟩ = some (.int .i64 a0_7) := (blk_cell BK122.out 7).trans rfl
                     have hcz143_8 : wc.cell? ⟨gb122, 8, none⟩ = some (.int .u8 a0_8) := (blk_cell BK122.out 8).trans rfl
                     have hcz143_9 : wc.cell? ⟨gb122, 9, none⟩ = some (.int .i64 a0_9) := (blk_cell BK122.out 9).trans rfl
                     have hcz143_10 : wc.cell? ⟨gb122, 10, none⟩ = some (.int .i64 a0_10) := (blk_cell BK122.out 10).trans rfl
                     have hcz143_11 : wc.cell? ⟨gb122, 11, none⟩ = some (.int .i64 a0_11) := (blk_cell BK122.out 11).trans rfl
                     have hfz143_0 := blk_frozen BK122.out 0
                     have hfz143_1 := blk_frozen BK122.out 1
                     have hfz143_2 := blk_frozen BK122.out 2
                     have hfz143_3 := blk_frozen BK122.out 3
                     have hfz143_4 := blk_frozen BK122.out 4
                     have hfz143_5 := blk_frozen BK122.out 5
                     have hfz143_6 := blk_frozen BK122.out 6
                     have hfz143_7 := blk_frozen BK122.out 7
                     have hfz143_8 := blk_frozen BK122.out 8
                     have hfz143_9 := blk_frozen BK122.out 9
                     have hfz143_10 := blk_frozen BK122.out 10
                     have hfz143_11 := blk_frozen BK122.out 11
                     have hcz144_0 : wc.cell? ⟨gb120, 0, none⟩ = some (.int .u8 a0_0) := (blk_cell BK120.out 0).trans rfl
                     have hcz144_1 : wc.cell? ⟨gb120, 1, none⟩ = some (.int .i64 a0_1) := (blk_cell BK120.out 1).trans rfl
                     have hcz144_2 : wc.cell? ⟨gb120, 2, none⟩ = some (.int .u64 a0_2) := (blk_cell BK120.out 2).trans rfl
                     have hcz144_3 : wc.cell? ⟨gb120, 3, none⟩ = some (.int .i64 a0_3) := (blk_cell BK120.out 3).trans rfl
                     have hcz144_4 : wc.cell? ⟨gb120, 4, none⟩ = some (.bool a0_4) := (blk_cell BK120.out 4).trans rfl
                     have hcz144_5 : wc.cell? ⟨gb120, 5, none⟩ = some (.int .u64 a0_5) := (blk_cell BK120.out 5).trans rfl
                     have hcz144_6 : wc.cell? ⟨gb120, 6, none⟩ = some (.int .u64 a0_6) := (blk_cell BK120.out 6).trans rfl
                     have hcz144_7 : wc.cell? ⟨gb120, 7, none⟩ = some (.int .i64 a0_7) := (blk_cell BK120.out 7).trans rfl
                     have hcz144_8 : wc.cell? ⟨gb120, 8, none⟩ = some (.int .u8 a0_8) := (blk_cell BK120.out 8).trans rfl
                     have hcz144_9 : wc.cell? ⟨gb120, 9, none⟩ = some (.int .i64 a0_9) := (blk_cell BK120.out 9).trans rfl
                     have hcz144_10 : wc.cell? ⟨gb120, 10, none⟩ = some (.int .i64 a0_10) := (blk_cell BK120.out 10).trans rfl
                     have hcz144_11 : wc.cell? ⟨gb120, 11, none⟩ = some (.int .i64 a0_11) := (blk_cell BK120.out 11).trans rfl
                     have hfz144_0 := blk_frozen BK120.out 0
                     have hfz144_1 := blk_frozen BK120.out 1
                     have hfz144_2 := blk_frozen BK120.out 2
                     have hfz144_3 := blk_frozen BK120.out 3
                     have hfz144_4 := blk_frozen BK120.out 4
                     have hfz144_5 := blk_frozen BK120.out 5
                     have hfz144_6 := blk_frozen BK120.out 6
                     have hfz144_7 := blk_frozen BK120.out 7
                     have hfz144_8 := blk_frozen BK120.out 8
                     have hfz144_9 := blk_frozen BK120.out 9
                     have hfz144_10 := blk_frozen BK120.out 10
                     have hfz144_11 := blk_frozen BK120.out 11
                     go_wp2_with (first | ((with_reducible refine gate_callee (f := 32) rfl ?_); refine goesL_ (some 65) rfl rfl Try.func32 (by kernel_rfl) rfl #[.int .i64 a0_11] rfl args_ ?_; (with_reducible refine (msg_id.calls a0_11 true _ A129.out).mono ?_); rintro e w' ⟨rfl, ⟨nd, rfl⟩⟩; refine ⟨_, rfl, ?_⟩) | (go_at_call 35; (with_reducible refine (msg_iface.calls a0_10 true _ A131.out).mono ?_); rintro e w' ⟨rfl, ⟨nd, rfl⟩⟩) | ((with_reducible refine gate_dst (N := 5) rfl ?_); refine box_event ?hg (N := 5) ?hd (cs := #[.int .u8 0, .int .i64 0, .int .u64 0, .int .i64 0, .bool false, .int .u64 0, .int .u64 0, .int .i64 0, .int .u8 0, .int .i64 0, .int .i64 0, .int .i64 0]) (t := 33) ?hr ?_; (case hd => rfl); (case hg => rfl); (case hr => first | (go_simp; done) | (go_simp; rfl)); intro gb136 hg w145 hbox hb; have n0_ := Aside0.mk (blk_below (g := gb120) (o := .cells #[.int .u8 a0_0, .int .i64 a0_1, .int .u64 a0_2, .int .i64 a0_3, .bool a0_4, .int .u64 a0_5, .int .u64 a0_6, .int .i64 a0_7, .int .u8 a0_8, .int .i64 a0_9, .int .i64 a0_10, .int .i64 a0_11] 33 (0, 0)) (by refine blkU ?_; refine blk_far ?_ NB120_122.out _; refine blkU ?_; refine blk_far ?_ NB120_122.out _; refine blkU ?_; exact BK120.out) hb); have n1_ := Aside0.mk (blk_below (g := gb122) (o := .cells #[.int .u8 0, .int .i64 0, .int .u64 0, .int .i64 0, .bool a0_4, .int .u64 a0_5, .int .u64 a0_6, .int .i64 a0_7, .int .u8 a0_8, .int .i64 a0_9, .int .i64 0, .int .i64 0] 33 (0, 0)) (by refine blkU ?_; refine blk_put (cs := #[.int .u8 0, .int .i64 0, .int .u64 0, .int .i64 0, .bool a0_4, .int .u64 a0_5, .int .u64 a0_6, .int .i64 a0_7, .int .u8 a0_8, .int .i64 a0_9, .int .i64 a0_10, .int .i64 0]) ?_ 10 _ rfl; refine blkU ?_; refine blk_put (cs := #[.int .u8 0, .int .i64 0, .int .u64 0, .int .i64 0, .bool a0_4, .int .u64 a0_5, .int .u64 a0_6, .int .i64 a0_7, .int .u8 a0_8, .int .i64 a0_9, .int .i64 a0_10, .int .i64 a0_11]) ?_ 11 _ rfl; refine blkU ?_; exact BK122.out) hb); have n2_ := Aside0.mk (below_step bel_ hb); have n3_ := Aside0.mk (hbox); have n4_ := Aside0.mk ((by rw [hg]; exact (below_size bel_) : w.heap.size ≤ gb136)); have n5_ := Aside0.mk ((by rw [hg]; exact (below_size bel_) : w.heap.size ≤ gb136)); have n6_ := Aside0.mk ((by rw [hg]; exact Nat.ne_of_lt (blk_lt (g := gb120) (o := .cells #[.int .u8 a0_0, .int .i64 a0_1, .int .u64 a0_2, .int .i64 a0_3, .bool a0_4, .int .u64 a0_5, .int .u64 a0_6, .int .i64 a0_7, .int .u8 a0_8, .int .i64 a0_9, .int .i64 a0_10, .int .i64 a0_11] 33 (0, 0)) (by refine blkU ?_; refine blk_far ?_ NB120_122.out _; refine blkU ?_; refine blk_far ?_ NB120_122.out _; refine blkU ?_; exact BK120.out)) : gb120 ≠ gb136)); have n7_ := Aside0.mk ((by rw [hg]; exact Nat.ne_of_gt (blk_lt (g := gb120) (o := .cells #[.int .u8 a0_0, .int .i64 a0_1, .int .u64 a0_2, .int .i64 a0_3, .bool a0_4, .int .u64 a0_5, .int .u64 a0_6, .int .i64 a0_7, .int .u8 a0_8, .int .i64 a0_9, .int .i64 a0_10, .int .i64 a0_11] 33 (0, 0)) (by refine blkU ?_; refine blk_far ?_ NB120_122.out _; refine blkU ?_; refine blk_far ?_ NB120_122.out _; refine blkU ?_; exact BK120.out)) : gb136 ≠ gb120)); have n8_ := Aside0.mk ((by rw [hg]; exact Nat.ne_of_lt (blk_lt (g := gb122) (o := .cells #[.int .u8 0, .int .i64 0, .int .u64 0, .int .i64 0, .bool a0_4, .int .u64 a0_5, .int .u64 a0_6, .int .i64 a0_7, .int .u8 a0_8, .int .i64 a0_9, .int .i64 0, .int .i64 0] 33 (0, 0)) (by refine blkU ?_; refine blk_put (cs := #[.int .u8 0, .int .i64 0, .int .u64 0, .int .i64 0, .bool a0_4, .int .u64 a0_5, .int .u64 a0_6, .int .i64 a0_7, .int .u8 a0_8, .int .i64 a0_9, .int .i64 a0_10, .int .i64 0]) ?_ 10 _ rfl; refine blkU ?_; refine blk_put (cs := #[.int .u8 0, .int .i64 0, .int .u64 0, .int .i64 0, .bool a0_4, .int .u64 a0_5, .int .u64 a0_6, .int .i64 a0_7, .int .u8 a0_8, .int .i64 a0_9, .int .i64 a0_10, .int .i64 a0_11]) ?_ 11 _ rfl; refine blkU ?_; exact BK122.out)) : gb122 ≠ gb136)); have n9_ := Aside0.mk ((by rw [hg]; exact Nat.ne_of_gt (blk_lt (g := gb122) (o := .cells #[.int .u8 0, .int .i64 0, .int .u64 0, .int .i64 0, .bool a0_4, .int .u64 a0_5, .int .u64 a0_6, .int .i64 a0_7, .int .u8 a0_8, .int .i64 a0_9, .int .i64 0, .int .i64 0] 33 (0, 0)) (by refine blkU ?_; refine blk_put (cs := #[.int .u8 0, .int .i64 0, .int .u64 0, .int .i64 0, .bool a0_4, .int .u64 a0_5, .int .u64 a0_6, .int .i64 a0_7, .int .u8 a0_8, .int .i64 a0_9, .int .i64 a0_10, .int .i64 0]) ?_ 10 _ rfl; refine blkU ?_; refine blk_put (cs := #[.int .u8 0, .int .i64 0, .int .u64 0, .int .i64 0, .bool a0_4, .int .u64 a0_5, .int .u64 a0_6, .int .i64 a0_7, .int .u8 a0_8, .int .i64 a0_9, .int .i64 a0_10, .int .i64 a0_11]) ?_ 11 _ rfl; refine blkU ?_; exact BK122.out)) : gb136 ≠ gb122)); clear BK120; clear BK122; clear HB; have BK120 := n0_; have BK122 := n1_; have HB := n2_; have BK136 := n3_; have GW136 := n4_; have GE136 := n5_; have NB120_136 := n6_; have NB136_120 := n7_; have NB122_136 := n8_; have NB136_122 := n9_; clear n0_ n1_ n2_ n3_ n4_ n5_ n6_ n7_ n8_ n9_; clear hb hbox hg; have hnb146 := NB136_120.out; have hnc146 := NB120_136.out; have hnb147 := NB136_122.out; have hnc147 := NB122_136.out; have hcz148_0 : w145.cell? ⟨gb136, 0, none⟩ = some (.int .u8 0) := (blk_cell BK136.out 0).trans rfl; have hcz148_1 : w145.cell? ⟨gb136, 1, none⟩ = some (.int .i64 0) := (blk_cell BK136.out 1).trans rfl; have hcz148_2 : w145.cell? ⟨gb136, 2, none⟩ = some (.int .u64 0) := (blk_cell BK136.out 2).trans rfl; have hcz148_3 : w145.cell? ⟨gb136, 3, none⟩ = some (.int .i64 0) := (blk_cell BK136.out 3).trans rfl; have hcz148_4 : w145.cell? ⟨gb136, 4, none⟩ = some (.bool false) := (blk_cell BK136.out 4).trans rfl; have hcz148_5 : w145.cell? ⟨gb136, 5, none⟩ = some (.int .u64 0) := (blk_cell BK136.out 5).trans rfl; have hcz148_6 : w145.cell? ⟨gb136, 6, none⟩ = some (.int .u64 0) := (blk_cell BK136.out 6).trans rfl; have hcz148_7 : w145.cell? ⟨gb136, 7, none⟩ = some (.int .i64 0) := (blk_cell BK136.out 7).trans rfl; have hcz148_8 : w145.cell? ⟨gb136, 8, none⟩ = some (.int .u8 0) := (blk_cell BK136.out 8).trans rfl; have hcz148_9 : w145.cell? ⟨gb136, 9, none⟩ = some (.int .i64 0) := (blk_cell BK136.out 9).trans rfl; have hcz148_10 : w145.cell? ⟨gb136, 10, none⟩ = some (.int .i64 0) := (blk_cell BK136.out 10).trans rfl; have hcz148_11 : w145.cell? ⟨gb136, 11, none⟩ = some (.int .i64 0) := (blk_cell BK136.out 11).trans rfl; have hfz148_0 := blk_frozen BK136.out 0; have hfz148_1 := blk_frozen BK136.out 1; have hfz148_2 := blk_frozen BK136.out 2; have hfz148_3 := blk_frozen BK136.out 3; have hfz148_4 := blk_frozen BK136.out 4; have hfz148_5 := blk_frozen BK136.out 5; have hfz148_6 := blk_frozen BK136.out 6; have hfz148_7 := blk_frozen BK136.out 7; have hfz148_8 := blk_frozen BK136.out 8; have hfz148_9 := blk_frozen BK136.out 9; have hfz148_10 := blk_frozen BK136.out 10; have hfz148_11 := blk_frozen BK136.out 11; have hcz149_0 : w145.cell? ⟨gb122, 0, none⟩ = some (.int .u8 0) := (blk_cell BK122.out 0).trans rfl; have hcz149_1 : w145.cell? ⟨gb122, 1, none⟩ = some (.int .i64 0) := (blk_cell BK122.out 1).trans rfl; have hcz149_2 : w145.cell? ⟨gb122, 2, none⟩ = some (.int .u64 0) := (blk_cell BK122.out 2).trans rfl; have hcz149_3 : w145.cell? ⟨gb122, 3, none⟩ = some (.int .i64 0) := (blk_cell BK122.out 3).trans rfl; have hcz149_4 : w145.cell? ⟨gb122, 4, none⟩ = some (.bool a0_4) := (blk_cell BK122.out 4).trans rfl; have hcz149_5 : w145.cell? ⟨gb122, 5, none⟩ = some (.int .u64 a0_5) := (blk_cell BK122.out 5).trans rfl; have hcz149_6 : w145.cell? ⟨gb122, 6, none⟩ = some (.int .u64 a0_6) := (blk_cell BK122.out 6).trans rfl; have hcz149_7 : w145.cell? ⟨gb122, 7, none⟩ = some (.int .i64 a0_7) := (blk_cell BK122.out 7).trans rfl; have hcz149_8 : w145.cell? ⟨gb122, 8, none⟩ = some (.int .u8 a0_8) := (blk_cell BK122.out 8).trans rfl; have hcz149_9 : w145.cell? ⟨gb122, 9, none⟩ = some (.int .i64 a0_9) := (blk_cell BK122.out 9).trans rfl; have hcz149_10 : w145.cell? ⟨gb122, 10, none⟩ = some (.int .i64 0) := (blk_cell BK122.out 10).trans rfl; have hcz149_11 : w145.cell? ⟨gb122, 11, none⟩ = some (.int .i64 0) := (blk_cell BK122.out 11).trans rfl; have hfz149_0 := blk_frozen BK122.out 0; have hfz149_1 := blk_frozen BK122.out 1; have hfz149_2 := blk_frozen BK122.out 2; have hfz149_3 := blk_frozen BK122.out 3; have hfz149_4 := blk_frozen BK122.out 4; have hfz149_5 := blk_frozen BK122.out 5; have hfz149_6 := blk_frozen BK122.out 6; have hfz149_7 := blk_frozen BK122.out 7; have hfz149_8 := blk_frozen BK122.out 8; have hfz149_9 := blk_frozen BK122.out 9; have hfz149_10 := blk_frozen BK122.out 10; have hfz149_11 := blk_frozen BK122.out 11))
                     go_ret
                     exact ⟨by first | rfl | (simp [errW_none, errW_some] <;> rfl) | (simp [*, errW_none, errW_some] <;> rfl), bel_⟩
                 · replace c132 := Bool.eq_false_iff.mpr c132
                   subst c132
                   have H1 : (some 2) = some r := by rw [if_neg (show ¬ (false = true) by decide)] at H; exact H
                   clear H
                   have H := H1
                   clear H1
                   obtain rfl := Option.some.inj H
                   have hnb150 := NB122_120.out
                   have hnc150 := NB120_122.out
                   have hcz151_0 : wc.cell? ⟨gb122, 0, none⟩ = some (.int .u8 0) := (blk_cell BK122.out 0).trans rfl
                   have hcz151_1 : wc.cell? ⟨gb122, 1, none⟩ = some (.int .i64 0) := (blk_cell BK122.out 1).trans rfl
                   have hcz151_2 : wc.cell? ⟨gb122, 2, none⟩ = some (.int .u64 0) := (blk_cell BK122.out 2).trans rfl
                   have hcz151_3 : wc.cell? ⟨gb122, 3, none⟩ = some (.int .i64 0) := (blk_cell BK122.out 3).trans rfl
                   have hcz151_4 : wc.cell? ⟨gb122, 4, none⟩ = some (.bool a0_4) := (blk_cell BK122.out 4).trans rfl
                   have hcz151_5 : wc.cell? ⟨gb122, 5, none⟩ = some (.int .u64 a0_5) := (blk_cell BK122.out 5).trans rfl
                   have hcz151_6 : wc.cell? ⟨gb122, 6, none⟩ = some (.int .u64 a0_6) := (blk_cell BK122.out 6).trans rfl
                   have hcz151_7 : wc.cell? ⟨gb122, 7, none⟩ = some (.int .i64 a0_7) := (blk_cell BK122.out 7).trans rfl
                   have hcz151_8 : wc.cell? ⟨gb122, 8, none⟩ = some (.int .u8 a0_8) := (blk_cell BK122.out 8).trans rfl
                   have hcz151_9 : wc.cell? ⟨gb122, 9, none⟩ = some (.int .i64 a0_9) := (blk_cell BK122.out 9).trans rfl
                   have hcz151_10 : wc.cell? ⟨gb122, 10, none⟩ = some (.int .i64 a0_10) := (blk_cell BK122.out 10).trans rfl
                   have hcz151_11 : wc.cell? ⟨gb122, 11, none⟩ = some (.int .i64 a0_11) := (blk_cell BK122.out 11).trans rfl
                   have hfz151_0 := blk_frozen BK122.out 0
                   have hfz151_1 := blk_frozen BK122.out 1
                   have hfz151_2 := blk_frozen BK122.out 2
                   have hfz151_3 := blk_frozen BK122.out 3
                   have hfz151_4 := blk_frozen BK122.out 4
                   have hfz151_5 := blk_frozen BK122.out 5
                   have hfz151_6 := blk_frozen BK122.out 6
                   have hfz151_7 := blk_frozen BK122.out 7
                   have hfz151_8 := blk_frozen BK122.out 8
                   have hfz151_9 := blk_frozen BK122.out 9
                   have hfz151_10 := blk_frozen BK122.out 10
                   have hfz151_11 := blk_frozen BK122.out 11
                   have hcz152_0 : wc.cell? ⟨gb120, 0, none⟩ = some (.int .u8 a0_0) := (blk_cell BK120.out 0).trans rfl
                   have hcz152_1 : wc.cell? ⟨gb120, 1, none⟩ = some (.int .i64 a0_1) := (blk_cell BK120.out 1).trans rfl
                   have hcz152_2 : wc.cell? ⟨gb120, 2, none⟩ = some (.int .u64 a0_2) := (blk_cell BK120.out 2).trans rfl
                   have hcz152_3 : wc.cell? ⟨gb120, 3, none⟩ = some (.int .i64 a0_3) := (blk_cell BK120.out 3).trans rfl
                   have hcz152_4 : wc.cell? ⟨gb120, 4, none⟩ = some (.bool a0_4) := (blk_cell BK120.out 4).trans rfl
                   have hcz152_5 : wc.cell? ⟨gb120, 5, none⟩ = some (.int .u64 a0_5) := (blk_cell BK120.out 5).trans rfl
                   have hcz152_6 : wc.cell? ⟨gb120, 6, none⟩ = some (.int .u64 a0_6) := (blk_cell BK120.out 6).trans rfl
                   have hcz152_7 : wc.cell? ⟨gb120, 7, none⟩ = some (.int .i64 a0_7) := (blk_cell BK120.out 7).trans rfl
                   have hcz152_8 : wc.cell? ⟨gb120, 8, none⟩ = some (.int .u8 a0_8) := (blk_cell BK120.out 8).trans rfl
                   have hcz152_9 : wc.cell? ⟨gb120, 9, none⟩ = some (.int .i64 a0_9) := (blk_cell BK120.out 9).trans rfl
                   have hcz152_10 : wc.cell? ⟨gb120, 10, none⟩ = some (.int .i64 a0_10) := (blk_cell BK120.out 10).trans rfl
                   have hcz152_11 : wc.cell? ⟨gb120, 11, none⟩ = some (.int .i64 a0_11) := (blk_cell BK120.out 11).trans rfl
                   have hfz152_0 := blk_frozen BK120.out 0
                   have hfz152_1 := blk_frozen BK120.out 1
                   have hfz152_2 := blk_frozen BK120.out 2
                   have hfz152_3 := blk_frozen BK120.out 3
                   have hfz152_4 := blk_frozen BK120.out 4
                   have hfz152_5 := blk_frozen BK120.out 5
                   have hfz152_6 := blk_frozen BK120.out 6
                   have hfz152_7 := blk_frozen BK120.out 7
                   have hfz152_8 := blk_frozen BK120.out 8
                   have hfz152_9 := blk_frozen BK120.out 9
                   have hfz152_10 := blk_frozen BK120.out 10
                   have hfz152_11 := blk_frozen BK120.out 11
                   go_wp2_with (first | ((with_reducible refine gate_callee (f := 32) rfl ?_); refine goesL_ (some 65) rfl rfl Try.func32 (by kernel_rfl) rfl #[.int .i64 a0_11] rfl args_ ?_; (with_reducible refine (msg_id.calls a0_11 true _ A129.out).mono ?_); rintro e w' ⟨rfl, ⟨nd, rfl⟩⟩; refine ⟨_, rfl, ?_⟩) | (go_at_call 35; (with_reducible refine (msg_iface.calls a0_10 false _ A131.out).mono ?_); rintro e w' ⟨rfl, ⟨nd, rfl⟩⟩) | ((with_reducible refine gate_dst (N := 5) rfl ?_); refine box_event ?hg (N := 5) ?hd (cs := #[.int .u8 0, .int .i64 0, .int .u64 0, .int .i64 0, .bool false, .int .u64 0, .int .u64 0, .int .i64 0, .int .u8 0, .int .i64 0, .int .i64 0, .int .i64 0]) (t := 33) ?hr ?_; (case hd => rfl); (case hg => rfl); (case hr => first | (go_simp; done) | (go_simp; rfl)); intro gb136 hg w153 hbox hb; have n0_ := Aside0.mk (blk_below (g := gb120) (o := .cells #[.int .u8 a0_0, .int .i64 a0_1, .int .u64 a0_2, .int .i64 a0_3, .bool a0_4, .int .u64 a0_5, .int .u64 a0_6, .int .i64 a0_7, .int .u8 a0_8, .int .i64 a0_9, .int .i64 a0_10, .int .i64 a0_11] 33 (0, 0)) (by refine blkU ?_; refine blk_far ?_ NB120_122.out _; refine blkU ?_; refine blk_far ?_ NB120_122.out _; refine blkU ?_; exact BK120.out) hb); have n1_ := Aside0.mk (blk_below (g := gb122) (o := .cells #[.int .u8 0, .int .i64 0, .int .u64 0, .int .i64 0, .bool a0_4, .int .u64 a0_5, .int .u64 a0_6, .int .i64 a0_7, .int .u8 a0_8, .int .i64 a0_9, .int .i64 0, .int .i64 0] 33 (0, 0)) (by refine blkU ?_; refine blk_put (cs := #[.int .u8 0, .int .i64 0, .int .u64 0, .int .i64 0, .bool a0_4, .int .u64 a0_5, .int .u64 a0_6, .int .i64 a0_7, .int .u8 a0_8, .int .i64 a0_9, .int .i64 a0_10, .int .i64 0]) ?_ 10 _ rfl; refine blkU ?_; refine blk_put (cs := #[.int .u8 0, .int .i64 0, .int .u64 0, .int .i64 0, .bool a0_4, .int .u64 a0_5, .int .u64 a0_6, .int .i64 a0_7, .int .u8 a0_8, .int .i64 a0_9, .int .i64 a0_10, .int .i64 a0_11]) ?_ 11 _ rfl; refine blkU ?_; exact BK122.out) hb); have n2_ := Aside0.mk (below_step bel_ hb); have n3_ := Aside0.mk (hbox); have n4_ := Aside0.mk ((by rw [hg]; exact (below_size bel_) : w.heap.size ≤ gb136)); have n5_ := Aside0.mk ((by rw [hg]; exact (below_size bel_) : w.heap.size ≤ gb136)); have n6_ := Aside0.mk ((by rw [hg]; exact Nat.ne_of_lt (blk_lt (g := gb120) (o := .cells #[.int .u8 a0_0, .int .i64 a0_1, .int .u64 a0_2, .int .i64 a0_3, .bool a0_4, .int .u64 a0_5, .int .u64 a0_6, .int .i64 a0_7, .int .u8 a0_8, .int .i64 a0_9, .int .i64 a0_10, .int .i64 a0_11] 33 (0, 0)) (by refine blkU ?_; refine blk_far ?_ NB120_122.out _; refine blkU ?_; refine blk_far ?_ NB120_122.out _; refine blkU ?_; exact BK120.out)) : gb120 ≠ gb136)); have n7_ := Aside0.mk ((by rw [hg]; exact Nat.ne_of_gt (blk_lt (g := gb120) (o := .cells #[.int .u8 a0_0, .int .i64 a0_1, .int .u64 a0_2, .int .i64 a0_3, .bool a0_4, .int .u64 a0_5, .int .u64 a0_6, .int .i64 a0_7, .int .u8 a0_8, .int .i64 a0_9, .int .i64 a0_10, .int .i64 a0_11] 33 (0, 0)) (by refine blkU ?_; refine blk_far ?_ NB120_122.out _; refine blkU ?_; refine blk_far ?_ NB120_122.out _; refine blkU ?_; exact BK120.out)) : gb136 ≠ gb120)); have n8_ := Aside0.mk ((by rw [hg]; exact Nat.ne_of_lt (blk_lt (g := gb122) (o := .cells #[.int .u8 0, .int .i64 0, .int .u64 0, .int .i64 0, .bool a0_4, .int .u64 a0_5, .int .u64 a0_6, .int .i64 a0_7, .int .u8 a0_8, .int .i64 a0_9, .int .i64 0, .int .i64 0] 33 (0, 0)) (by refine blkU ?_; refine blk_put (cs := #[.int .u8 0, .int .i64 0, .int .u64 0, .int .i64 0, .bool a0_4, .int .u64 a0_5, .int .u64 a0_6, .int .i64 a0_7, .int .u8 a0_8, .int .i64 a0_9, .int .i64 a0_10, .int .i64 0]) ?_ 10 _ rfl; refine blkU ?_; refine blk_put (cs := #[.int .u8 0, .int .i64 0, .int .u64 0, .int .i64 0, .bool a0_4, .int .u64 a0_5, .int .u64 a0_6, .int .i64 a0_7, .int .u8 a0_8, .int .i64 a0_9, .int .i64 a0_10, .int .i64 a0_11]) ?_ 11 _ rfl; refine blkU ?_; exact BK122.out)) : gb122 ≠ gb136)); have n9_ := Aside0.mk ((by rw [hg]; exact Nat.ne_of_gt (blk_lt (g := gb122) (o := .cells #[.int .u8 0, .int .i64 0, .int .u64 0, .int .i64 0, .bool a0_4, .int .u64 a0_5, .int .u64 a0_6, .int .i64 a0_7, .int .u8 a0_8, .int .i64 a0_9, .int .i64 0, .int .i64 0] 33 (0, 0)) (by refine blkU ?_; refine blk_put (cs := #[.int .u8 0, .int .i64 0, .int .u64 0, .int .i64 0, .bool a0_4, .int .u64 a0_5, .int .u64 a0_6, .int .i64 a0_7, .int .u8 a0_8, .int .i64 a0_9, .int .i64 a0_10, .int .i64 0]) ?_ 10 _ rfl; refine blkU ?_; refine blk_put (cs := #[.int .u8 0, .int .i64 0, .int .u64 0, .int .i64 0, .bool a0_4, .int .u64 a0_5, .int .u64 a0_6, .int .i64 a0_7, .int .u8 a0_8, .int .i64 a0_9, .int .i64 a0_10, .int .i64 a0_11]) ?_ 11 _ rfl; refine blkU ?_; exact BK122.out)) : gb136 ≠ gb122)); clear BK120; clear BK122; clear HB; have BK120 := n0_; have BK122 := n1_; have HB := n2_; have BK136 := n3_; have GW136 := n4_; have GE136 := n5_; have NB120_136 := n6_; have NB136_120 := n7_; have NB122_136 := n8_; have NB136_122 := n9_; clear n0_ n1_ n2_ n3_ n4_ n5_ n6_ n7_ n8_ n9_; clear hb hbox hg; have hnb154 := NB136_120.out; have hnc154 := NB120_136.out; have hnb155 := NB136_122.out; have hnc155 := NB122_136.out; have hcz156_0 : w153.cell? ⟨gb136, 0, none⟩ = some (.int .u8 0) := (blk_cell BK136.out 0).trans rfl; have hcz156_1 : w153.cell? ⟨gb136, 1, none⟩ = some (.int .i64 0) := (blk_cell BK136.out 1).trans rfl; have hcz156_2 : w153.cell? ⟨gb136, 2, none⟩ = some (.int .u64 0) := (blk_cell BK136.out 2).trans rfl; have hcz156_3 : w153.cell? ⟨gb136, 3, none⟩ = some (.int .i64 0) := (blk_cell BK136.out 3).trans rfl; have hcz156_4 : w153.cell? ⟨gb136, 4, none⟩ = some (.bool false) := (blk_cell BK136.out 4).trans rfl; have hcz156_5 : w153.cell? ⟨gb136, 5, none⟩ = some (.int .u64 0) := (blk_cell BK136.out 5).trans rfl; have hcz156_6 : w153.cell? ⟨gb136, 6, none⟩ = some (.int .u64 0) := (blk_cell BK136.out 6).trans rfl; have hcz156_7 : w153.cell? ⟨gb136, 7, none⟩ = some (.int .i64 0) := (blk_cell BK136.out 7).trans rfl; have hcz156_8 : w153.cell? ⟨gb136, 8, none⟩ = some (.int .u8 0) := (blk_cell BK136.out 8).trans rfl; have hcz156_9 : w153.cell? ⟨gb136, 9, none⟩ = some (.int .i64 0) := (blk_cell BK136.out 9).trans rfl; have hcz156_10 : w153.cell? ⟨gb136, 10, none⟩ = some (.int .i64 0) := (blk_cell BK136.out 10).trans rfl; have hcz156_11 : w153.cell? ⟨gb136, 11, none⟩ = some (.int .i64 0) := (blk_cell BK136.out 11).trans rfl; have hfz156_0 := blk_frozen BK136.out 0; have hfz156_1 := blk_frozen BK136.out 1; have hfz156_2 := blk_frozen BK136.out 2; have hfz156_3 := blk_frozen BK136.out 3; have hfz156_4 := blk_frozen BK136.out 4; have hfz156_5 := blk_frozen BK136.out 5; have hfz156_6 := blk_frozen BK136.out 6; have hfz156_7 := blk_frozen BK136.out 7; have hfz156_8 := blk_frozen BK136.out 8; have hfz156_9 := blk_frozen BK136.out 9; have hfz156_10 := blk_frozen BK136.out 10; have hfz156_11 := blk_frozen BK136.out 11))
                   go_ret
                   exact ⟨by first | rfl | (simp [errW_none, errW_some] <;> rfl) | (simp [*, errW_none, errW_some] <;> rfl), bel_⟩
               · replace c130 := Bool.eq_false_iff.mpr c130
                 subst c130
                 have H1 : (some 2) = some r := by rw [if_neg (show ¬ (false = true) by decide)] at H; exact H
                 clear H
                 have H := H1
                 clear H1
                 obtain rfl := Option.some.inj H
                 have hnb157 := NB122_120.out
                 have hnc157 := NB120_122.out
                 have hcz158_0 : wc.cell? ⟨gb122, 0, none⟩ = some (.int .u8 0) := (blk_cell BK122.out 0).trans rfl
                 have hcz158_1 : wc.cell? ⟨gb122, 1, none⟩ = some (.int .i64 0) := (blk_cell BK122.out 1).trans rfl
                 have hcz158_2 : wc.cell? ⟨gb122, 2, none⟩ = some (.int .u64 0) := (blk_cell BK122.out 2).trans rfl
                 have hcz158_3 : wc.cell? ⟨gb122, 3, none⟩ = some (.int .i64 0) := (blk_cell BK122.out 3).trans rfl
                 have hcz158_4 : wc.cell? ⟨gb122, 4, none⟩ = some (.bool a0_4) := (blk_cell BK122.out 4).trans rfl
                 have hcz158_5 : wc.cell? ⟨gb122, 5, none⟩ = some (.int .u64 a0_5) := (blk_cell BK122.out 5).trans rfl
                 have hcz158_6 : wc.cell? ⟨gb122, 6, none⟩ = some (.int .u64 a0_6) := (blk_cell BK122.out 6).trans rfl
                 have hcz158_7 : wc.cell? ⟨gb122, 7, none⟩ = some (.int .i64 a0_7) := (blk_cell BK122.out 7).trans rfl
                 have hcz158_8 : wc.cell? ⟨gb122, 8, none⟩ = some (.int .u8 a0_8) := (blk_cell BK122.out 8).trans rfl
                 have hcz158_9 : wc.cell? ⟨gb122, 9, none⟩ = some (.int .i64 a0_9) := (blk_cell BK122.out 9).trans rfl
                 have hcz158_10 : wc.cell? ⟨gb122, 10, none⟩ = some (.int .i64 a0_10) := (blk_cell BK122.out 10).trans rfl
                 have hcz158_11 : wc.cell? ⟨gb122, 11, none⟩ = some (.int .i64 a0_11) := (blk_cell BK122.out 11).trans rfl
                 have hfz158_0 := blk_frozen BK122.out 0
                 have hfz158_1 := blk_frozen BK122.out 1
                 have hfz158_2 := blk_frozen BK122.out 2
                 have hfz158_3 := blk_frozen BK122.out 3
                 have hfz158_4 := blk_frozen BK122.out 4
                 have hfz158_5 := blk_frozen BK122.out 5
                 have hfz158_6 := blk_frozen BK122.out 6
                 have hfz158_7 := blk_frozen BK122.out 7
                 have hfz158_8 := blk_frozen BK122.out 8
                 have hfz158_9 := blk_frozen BK122.out 9
                 have hfz158_10 := blk_frozen BK122.out 10
                 have hfz158_11 := blk_frozen BK122.out 11
                 have hcz159_0 : wc.cell? ⟨gb120, 0, none⟩ = some (.int .u8 a0_0) := (blk_cell BK120.out 0).trans rfl
                 have hcz159_1 : wc.cell? ⟨gb120, 1, none⟩ = some (.int .i64 a0_1) := (blk_cell BK120.out 1).trans rfl
                 have hcz159_2 : wc.cell? ⟨gb120, 2, none⟩ = some (.int .u64 a0_2) := (blk_cell BK120.out 2).trans rfl
                 have hcz159_3 : wc.cell? ⟨gb120, 3, none⟩ = some (.int .i64 a0_3) := (blk_cell BK120.out 3).trans rfl
                 have hcz159_4 : wc.cell? ⟨gb120, 4, none⟩ = some (.bool a0_4) := (blk_cell BK120.out 4).trans rfl
                 have hcz159_5 : wc.cell? ⟨gb120, 5, none⟩ = some (.int .u64 a0_5) := (blk_cell BK120.out 5).trans rfl
                 have hcz159_6 : wc.cell? ⟨gb120, 6, none⟩ = some (.int .u64 a0_6) := (blk_cell BK120.out 6).trans rfl
                 have hcz159_7 : wc.cell? ⟨gb120, 7, none⟩ = some (.int .i64 a0_7) := (blk_cell BK120.out 7).trans rfl
                 have hcz159_8 : wc.cell? ⟨gb120, 8, none⟩ = some (.int .u8 a0_8) := (blk_cell BK120.out 8).trans rfl
                 have hcz159_9 : wc.cell? ⟨gb120, 9, none⟩ = some (.int .i64 a0_9) := (blk_cell BK120.out 9).trans rfl
                 have hcz159_10 : wc.cell? ⟨gb120, 10, none⟩ = some (.int .i64 a0_10) := (blk_cell BK120.out 10).trans rfl
                 have hcz159_11 : wc.cell? ⟨gb120, 11, none⟩ = some (.int .i64 a0_11) := (blk_cell BK120.out 11).trans rfl
                 have hfz159_0 := blk_frozen BK120.out 0
                 have hfz159_1 := blk_frozen BK120.out 1
                 have hfz159_2 := blk_frozen BK120.out 2
                 have hfz159_3 := blk_frozen BK120.out 3
                 have hfz159_4 := blk_frozen BK120.out 4
                 have hfz159_5 := blk_frozen BK120.out 5
                 have hfz159_6 := blk_frozen BK120.out 6
                 have hfz159_7 := blk_frozen BK120.out 7
                 have hfz159_8 := blk_frozen BK120.out 8
                 have hfz159_9 := blk_frozen BK120.out 9
                 have hfz159_10 := blk_frozen BK120.out 10
                 have hfz159_11 := blk_frozen BK120.out 11
                 go_wp2_with (first | ((with_reducible refine gate_callee (f := 32) rfl ?_); refine goesL_ (some 65) rfl rfl Try.func32 (by kernel_rfl) rfl #[.int .i64 a0_11] rfl args_ ?_; (with_reducible refine (msg_id.calls a0_11 false _ A129.out).mono ?_); rintro e w' ⟨rfl, ⟨nd, rfl⟩⟩; refine ⟨_, rfl, ?_⟩) | ((with_reducible refine gate_dst (N := 5) rfl ?_); refine box_event ?hg (N := 5) ?hd (cs := #[.int .u8 0, .int .i64 0, .int .u64 0, .int .i64 0, .bool false, .int .u64 0, .int .u64 0, .int .i64 0, .int .u8 0, .int .i64 0, .int .i64 0, .int .i64 0]) (t := 33) ?hr ?_; (case hd => rfl); (case hg => rfl); (case hr => first | (go_simp; done) | (go_simp; rfl)); intro gb137 hg w160 hbox hb; have n0_ := Aside0.mk (blk_below (g := gb120) (o := .cells #[.int .u8 a0_0, .int .i64 a0_1, .int .u64 a0_2, .int .i64 a0_3, .bool a0_4, .int .u64 a0_5, .int .u64 a0_6, .int .i64 a0_7, .int .u8 a0_8, .int .i64 a0_9, .int .i64 a0_10, .int .i64 a0_11] 33 (0, 0)) (by refine blkU ?_; refine blk_far ?_ NB120_122.out _; refine blkU ?_; refine blk_far ?_ NB120_122.out _; refine blkU ?_; exact BK120.out) hb); have n1_ := Aside0.mk (blk_below (g := gb122) (o := .cells #[.int .u8 0, .int .i64 0, .int .u64 0, .int .i64 0, .bool a0_4, .int .u64 a0_5, .int .u64 a0_6, .int .i64 a0_7, .int .u8 a0_8, .int .i64 a0_9, .int .i64 0, .int .i64 0] 33 (0, 0)) (by refine blkU ?_; refine blk_put (cs := #[.int .u8 0, .int .i64 0, .int .u64 0, .int .i64 0, .bool a0_4, .int .u64 a0_5, .int .u64 a0_6, .int .i64 a0_7, .int .u8 a0_8, .int .i64 a0_9, .int .i64 a0_10, .int .i64 0]) ?_ 10 _ rfl; refine blkU ?_; refine blk_put (cs := #[.int .u8 0, .int .i64 0, .int .u64 0, .int .i64 0, .bool a0_4, .int .u64 a0_5, .int .u64 a0_6, .int .i64 a0_7, .int .u8 a0_8, .int .i64 a0_9, .int .i64 a0_10, .int .i64 a0_11]) ?_ 11 _ rfl; refine blkU ?_; exact BK122.out) hb); have n2_ := Aside0.mk (below_step bel_ hb); have n3_ := Aside0.mk (hbox); have n4_ := Aside0.mk ((by rw [hg]; exact (below_size bel_) : w.heap.size ≤ gb137)); have n5_ := Aside0.mk ((by rw [hg]; exact (below_size bel_) : w.heap.size ≤ gb137)); have n6_ := Aside0.mk ((by rw [hg]; exact Nat.ne_of_lt (blk_lt (g := gb120) (o := .cells #[.int .u8 a0_0, .int .i64 a0_1, .int .u64 a0_2, .int .i64 a0_3, .bool a0_4, .int .u64 a0_5, .int .u64 a0_6, .int .i64 a0_7, .int .u8 a0_8, .int .i64 a0_9, .int .i64 a0_10, .int .i64 a0_11] 33 (0, 0)) (by refine blkU ?_; refine blk_far ?_ NB120_122.out _; refine blkU ?_; refine blk_far ?_ NB120_122.out _; refine blkU ?_; exact BK120.out)) : gb120 ≠ gb137)); have n7_ := Aside0.mk ((by rw [hg]; exact Nat.ne_of_gt (blk_lt (g := gb120) (o := .cells #[.int .u8 a0_0, .int .i64 a0_1, .int .u64 a0_2, .int .i64 a0_3, .bool a0_4, .int .u64 a0_5, .int .u64 a0_6, .int .i64 a0_7, .int .u8 a0_8, .int .i64 a0_9, .int .i64 a0_10, .int .i64 a0_11] 33 (0, 0)) (by refine blkU ?_; refine blk_far ?_ NB120_122.out _; refine blkU ?_; refine blk_far ?_ NB120_122.out _; refine blkU ?_; exact BK120.out)) : gb137 ≠ gb120)); have n8_ := Aside0.mk ((by rw [hg]; exact Nat.ne_of_lt (blk_lt (g := gb122) (o := .cells #[.int .u8 0, .int .i64 0, .int .u64 0, .int .i64 0, .bool a0_4, .int .u64 a0_5, .int .u64 a0_6, .int .i64 a0_7, .int .u8 a0_8, .int .i64 a0_9, .int .i64 0, .int .i64 0] 33 (0, 0)) (by refine blkU ?_; refine blk_put (cs := #[.int .u8 0, .int .i64 0, .int .u64 0, .int .i64 0, .bool a0_4, .int .u64 a0_5, .int .u64 a0_6, .int .i64 a0_7, .int .u8 a0_8, .int .i64 a0_9, .int .i64 a0_10, .int .i64 0]) ?_ 10 _ rfl; refine blkU ?_; refine blk_put (cs := #[.int .u8 0, .int .i64 0, .int .u64 0, .int .i64 0, .bool a0_4, .int .u64 a0_5, .int .u64 a0_6, .int .i64 a0_7, .int .u8 a0_8, .int .i64 a0_9, .int .i64 a0_10, .int .i64 a0_11]) ?_ 11 _ rfl; refine blkU ?_; exact BK122.out)) : gb122 ≠ gb137)); have n9_ := Aside0.mk ((by rw [hg]; exact Nat.ne_of_gt (blk_lt (g := gb122) (o := .cells #[.int .u8 0, .int .i64 0, .int .u64 0, .int .i64 0, .bool a0_4, .int .u64 a0_5, .int .u64 a0_6, .int .i64 a0_7, .int .u8 a0_8, .int .i64 a0_9, .int .i64 0, .int .i64 0] 33 (0, 0)) (by refine blkU ?_; refine blk_put (cs := #[.int .u8 0, .int .i64 0, .int .u64 0, .int .i64 0, .bool a0_4, .int .u64 a0_5, .int .u64 a0_6, .int .i64 a0_7, .int .u8 a0_8, .int .i64 a0_9, .int .i64 a0_10, .int .i64 0]) ?_ 10 _ rfl; refine blkU ?_; refine blk_put (cs := #[.int .u8 0, .int .i64 0, .int .u64 0, .int .i64 0, .bool a0_4, .int .u64 a0_5, .int .u64 a0_6, .int .i64 a0_7, .int .u8 a0_8, .int .i64 a0_9, .int .i64 a0_10, .int .i64 a0_11]) ?_ 11 _ rfl; refine blkU ?_; exact BK122.out)) : gb137 ≠ gb122)); clear BK120; clear BK122; clear HB; have BK120 := n0_; have BK122 := n1_; have HB := n2_; have BK137 := n3_; have GW137 := n4_; have GE137 := n5_; have NB120_137 := n6_; have NB137_120 := n7_; have NB122_137 := n8_; have NB137_122 := n9_; clear n0_ n1_ n2_ n3_ n4_ n5_ n6_ n7_ n8_ n9_; clear hb hbox hg; have hnb161 := NB137_120.out; have hnc161 := NB120_137.out; have hnb162 := NB137_122.out; have hnc162 := NB122_137.out; have hcz163_0 : w160.cell? ⟨gb137, 0, none⟩ = some (.int .u8 0) := (blk_cell BK137.out 0).trans rfl; have hcz163_1 : w160.cell? ⟨gb137, 1, none⟩ = some (.int .i64 0) := (blk_cell BK137.out 1).trans rfl; have hcz163_2 : w160.cell? ⟨gb137, 2, none⟩ = some (.int .u64 0) := (blk_cell BK137.out 2).trans rfl; have hcz163_3 : w160.cell? ⟨gb137, 3, none⟩ = some (.int .i64 0) := (blk_cell BK137.out 3).trans rfl; have hcz163_4 : w160.cell? ⟨gb137, 4, none⟩ = some (.bool false) := (blk_cell BK137.out 4).trans rfl; have hcz163_5 : w160.cell? ⟨gb137, 5, none⟩ = some (.int .u64 0) := (blk_cell BK137.out 5).trans rfl; have hcz163_6 : w160.cell? ⟨gb137, 6, none⟩ = some (.int .u64 0) := (blk_cell BK137.out 6).trans rfl; have hcz163_7 : w160.cell? ⟨gb137, 7, none⟩ = some (.int .i64 0) := (blk_cell BK137.out 7).trans rfl; have hcz163_8 : w160.cell? ⟨gb137, 8, none⟩ = some (.int .u8 0) := (blk_cell BK137.out 8).trans rfl; have hcz163_9 : w160.cell? ⟨gb137, 9, none⟩ = some (.int .i64 0) := (blk_cell BK137.out 9).trans rfl; have hcz163_10 : w160.cell? ⟨gb137, 10, none⟩ = some (.int .i64 0) := (blk_cell BK137.out 10).trans rfl; have hcz163_11 : w160.cell? ⟨gb137, 11, none⟩ = some (.int .i64 0) := (blk_cell BK137.out 11).trans rfl; have hfz163_0 := blk_frozen BK137.out 0; have hfz163_1 := blk_frozen BK137.out 1; have hfz163_2 := blk_frozen BK137.out 2; have hfz163_3 := blk_frozen BK137.out 3; have hfz163_4 := blk_frozen BK137.out 4; have hfz163_5 := blk_frozen BK137.out 5; have hfz163_6 := blk_frozen BK137.out 6; have hfz163_7 := blk_frozen BK137.out 7; have hfz163_8 := blk_frozen BK137.out 8; have hfz163_9 := blk_frozen BK137.out 9; have hfz163_10 := blk_frozen BK137.out 10; have hfz163_11 := blk_frozen BK137.out 11))
                 go_ret
                 exact ⟨by first | rfl | (simp [errW_none, errW_some] <;> rfl) | (simp [*, errW_none, errW_some] <;> rfl), bel_⟩
             · rw [if_neg c128] at H
               have c128b0 : (a0_0 == 5) = false := beq_eq_false_iff_ne.mpr c128
               have c128b1 : (a0_0 != 5) = true := bne_iff_ne.mpr c128
               by_cases c164 : a0_0 = 6
               · rw [if_pos c164] at H
                 have c164b0 : (a0_0 == 6) = true := beq_iff_eq.mpr c164
                 have c164b1 : (a0_0 != 6) = false := bne_eq_false_iff_eq.mpr c164
                 clear c164
                 by_cases c165 : true = true
                 · clear c165
                   have H1 : ((msg_iface.f a0_10).bind fun t131 => (if t131 = true then (if ((((((a0_4 || ((!(a0_5 == 0) || (!(a0_6 == 0))) || (!(a0_7 == 0)))) || ((!(a0_8 == 0) || (!(a0_9 == 0))) || (!(a0_11 == 0)))))))) = true then (some 2) else (some 0)) else (some 2))) = some r := by rw [if_pos rfl] at H; exact H
                   clear H
                   have H := H1
                   clear H1
                   replace H := Option.bind_eq_some_iff.mp H
                   obtain ⟨t131, A1660, H⟩ := H
                   replace H : (if t131 = true then (if ((((((a0_4 || ((!(a0_5 == 0) || (!(a0_6 == 0))) || (!(a0_7 == 0)))) || ((!(a0_8 == 0) || (!(a0_9 == 0))) || (!(a0_11 == 0)))))))) = true then (some 2) else (some 0)) else (some 2)) = some r := H
                   have A166 := Aside0.mk A1660
                   clear A1660
                   by_cases c167 : t131 = true
                   · subst c167
                     have H1 : (if ((((((a0_4 || ((!(a0_5 == 0) || (!(a0_6 == 0))) || (!(a0_7 == 0)))) || ((!(a0_8 == 0) || (!(a0_9 == 0))) || (!(a0_11 == 0)))))))) = true then (some 2) else (some 0)) = some r := by rw [if_pos rfl] at H; exact H
                     clear H
                     have H := H1
                     clear H1
                     by_cases c168 : ((((((a0_4 || ((!(a0_5 == 0) || (!(a0_6 == 0))) || (!(a0_7 == 0)))) || ((!(a0_8 == 0) || (!(a0_9 == 0))) || (!(a0_11 == 0)))))))) = true
                     · rw [if_pos c168] at H
                       have c168b0 : ((((((a0_4 || ((!(a0_5 == 0) || (!(a0_6 == 0))) || (!(a0_7 == 0)))) || ((!(a0_8 == 0) || (!(a0_9 == 0))) || (!(a0_11 == 0)))))))) = true := c168
                       clear c168
                       obtain rfl := Option.some.inj H
                       have hnb169 := NB122_120.out
                       have hnc169 := NB120_122.out
                       have hcz170_0 : wc.cell? ⟨gb122, 0, none⟩ = some (.int .u8 0) := (blk_cell BK122.out 0).trans rfl
                       have hcz170_1 : wc.cell? ⟨gb122, 1, none⟩ = some (.int .i64 0) := (blk_cell BK122.out 1).trans rfl
                       have hcz170_2 : wc.cell? ⟨gb122, 2, none⟩ = some (.int .u64 0) := (blk_cell BK122.out 2).trans rfl
                       have hcz170_3 : wc.cell? ⟨gb122, 3, none⟩ = some (.int .i64 0) := (blk_cell BK122.out 3).trans rfl
                       have hcz170_4 : wc.cell? ⟨gb122, 4, none⟩ = some (.bool a0_4) := (blk_cell BK122.out 4).trans rfl
                       have hcz170_5 : wc.cell? ⟨gb122, 5, none⟩ = some (.int .u64 a0_5) := (blk_cell BK122.out 5).trans rfl
                       have hcz170_6 : wc.cell? ⟨gb122, 6, none⟩ = some (.int .u64 a0_6) := (blk_cell BK122.out 6).trans rfl
                       have hcz170_7 : wc.cell? ⟨gb122, 7, none⟩ = some (.int .i64 a0_7) := (blk_cell BK122.out 7).trans rfl
                       have hcz170_8 : wc.cell? ⟨gb122, 8, none⟩ = some (.int .u8 a0_8) := (blk_cell BK122.out 8).trans rfl
                       have hcz170_9 : wc.cell? ⟨gb122, 9, none⟩ = some (.int .i64 a0_9) := (blk_cell BK122.out 9).trans rfl
                       have hcz170_10 : wc.cell? ⟨gb122, 10, none⟩ = some (.int .i64 a0_10) := (blk_cell BK122.out 10).trans rfl
                       have hcz170_11 : wc.cell? ⟨gb122, 11, none⟩ = some (.int .i64 a0_11) := (blk_cell BK122.out 11).trans rfl
                       have hfz170_0 := blk_frozen BK122.out 0
                       have hfz170_1 := blk_frozen BK122.out 1
                       have hfz170_2 := blk_frozen BK122.out 2
                       have hfz170_3 := blk_frozen BK122.out 3
                       have hfz170_4 := blk_frozen BK122.out 4
                       have hfz170_5 := blk_frozen BK122.out 5
                       have hfz170_6 := blk_frozen BK122.out 6
                       have hfz170_7 := blk_frozen BK122.out 7
                       have hfz170_8 := blk_frozen BK122.out 8
                       have hfz170_9 := blk_frozen BK122.out 9
                       have hfz170_10 := blk_frozen BK122.out 10
                       have hfz170_11 := blk_frozen BK122.out 11
                       have hcz171_0 : wc.cell? ⟨gb120, 0, none⟩ = some (.int .u8 a0_0) := (blk_cell BK120.out 0).trans rfl
                       have hcz171_1 : wc.cell? ⟨gb120, 1, none⟩ = some (.int .i64 a0_1) := (blk_cell BK120.out 1).trans rfl
                       have hcz171_2 : wc.cell? ⟨gb120, 2, none⟩ = some (.int .u64 a0_2) := (blk_cell BK120.out 2).trans rfl
                       have hcz171_3 : wc.cell? ⟨gb120, 3, none⟩ = some (.int .i64 a0_3) := (blk_cell BK120.out 3).trans rfl
                       have hcz171_4 : wc.cell? ⟨gb120, 4, none⟩ = some (.bool a0_4) := (blk_cell BK120.out 4).trans rfl
                       have hcz171_5 : wc.cell? ⟨gb120, 5, none⟩ = some (.int .u64 a0_5) := (blk_cell BK120.out 5).trans rfl
                       have hcz171_6 : wc.cell? ⟨gb120, 6, none⟩ = some (.int .u64 a0_6) := (blk_cell BK120.out 6).trans rfl
                       have hcz171_7 : wc.cell? ⟨gb120, 7, none⟩ = some (.int .i64 a0_7) := (blk_cell BK120.out 7).trans rfl
                       have hcz171_8 : wc.cell? ⟨gb120, 8, none⟩ = some (.int .u8 a0_8) := (blk_cell BK120.out 8).trans rfl
                       have hcz171_9 : wc.cell? ⟨gb120, 9, none⟩ = some (.int .i64 a0_9) := (blk_cell BK120.out 9).trans rfl
                       have hcz171_10 : wc.cell? ⟨gb120, 10, none⟩ = some (.int .i64 a0_10) := (blk_cell BK120.out 10).trans rfl
                       have hcz171_11 : wc.cell? ⟨gb120, 11, none⟩ = some (.int .i64 a0_11) := (blk_cell BK120.out 11).trans rfl
                       have hfz171_0 := blk_frozen BK120.out 0
                       have hfz171_1 := blk_frozen BK120.out 1
                       have hfz171_2 := blk_frozen BK120.out 2
                       have hfz171_3 := blk_frozen BK120.out 3
                       have hfz171_4 := blk_frozen BK120.out 4
                       have hfz171_5 := blk_frozen BK120.out 5
                       have hfz171_6 := blk_frozen BK120.out 6
                       have hfz171_7 := blk_frozen BK120.out 7
                       have hfz171_8 := blk_frozen BK120.out 8
                       have hfz171_9 := blk_frozen BK120.out 9
                       have hfz171_10 := blk_frozen BK120.out 10
                       have hfz171_11 := blk_frozen BK120.out 11
                       go_wp2_with (first | (go_at_call 35; (with_reducible refine (msg_iface.calls a0_10 true _ A166.out).mono ?_); rintro e w' ⟨rfl, ⟨nd, rfl⟩⟩) | ((with_reducible refine gate_dst (N := 5) rfl ?_); refine box_event ?hg (N := 5) ?hd (cs := #[.int .u8 0, .int .i64 0, .int .u64 0, .int .i64 0, .bool false, .int .u64 0, .int .u64 0, .int .i64 0, .int .u8 0, .int .i64 0, .int .i64 0, .int .i64 0]) (t := 33) ?hr ?_; (case hd => rfl); (case hg => rfl); (case hr => first | (go_simp; done) | (go_simp; rfl)); intro gb132 hg w172 hbox hb; have n0_ := Aside0.mk (blk_below (g := gb120) (o := .cells #[.int .u8 a0_0, .int .i64 a0_1, .int .u64 a0_2, .int .i64 a0_3, .bool a0_4, .int .u64 a0_5, .int .u64 a0_6, .int .i64 a0_7, .int .u8 a0_8, .int .i64 a0_9, .int .i64 a0_10, .int .i64 a0_11] 33 (0, 0)) (by refine blkU ?_; refine blk_far ?_ NB120_122.out _; refine blkU ?_; exact BK120.out) hb); have n1_ := Aside0.mk (blk_below (g := gb122) (o := .cells #[.int .u8 0, .int .i64 0, .int .u64 0, .int .i64 0, .bool a0_4, .int .u64 a0_5, .int .u64 a0_6, .int .i64 a0_7, .int .u8 a0_8, .int .i64 a0_9, .int .i64 0, .int .i64 a0_11] 33 (0, 0)) (by refine blkU ?_; refine blk_put (cs := #[.int .u8 0, .int .i64 0, .int .u64 0, .int .i64 0, .bool a0_4, .int .u64 a0_5, .int .u64 a0_6, .int .i64 a0_7, .int .u8 a0_8, .int .i64 a0_9, .int .i64 a0_10, .int .i64 a0_11]) ?_ 10 _ rfl; refine blkU ?_; exact BK122.out) hb); have n2_ := Aside0.mk (below_step bel_ hb); have n3_ := Aside0.mk (hbox); have n4_ := Aside0.mk ((by rw [hg]; exact (below_size bel_) : w.heap.size ≤ gb132)); have n5_ := Aside0.mk ((by rw [hg]; exact (below_size bel_) : w.heap.size ≤ gb132)); have n6_ := Aside0.mk ((by rw [hg]; exact Nat.ne_of_lt (blk_lt (g := gb120) (o := .cells #[.int .u8 a0_0, .int .i64 a0_1, .int .u64 a0_2, .int .i64 a0_3, .bool a0_4, .int .u64 a0_5, .int .u64 a0_6, .int .i64 a0_7, .int .u8 a0_8, .int .i64 a0_9, .int .i64 a0_10, .int .i64 a0_11] 33 (0, 0)) (by refine blkU ?_; refine blk_far ?_ NB120_122.out _; refine blkU ?_; exact BK120.out)) : gb120 ≠ gb132)); have n7_ := Aside0.mk ((by rw [hg]; exact Nat.ne_of_gt (blk_lt (g := gb120) (o := .cells #[.int .u8 a0_0, .int .i64 a0_1, .int .u64 a0_2, .int .i64 a0_3, .bool a0_4, .int .u64 a0_5, .int .u64 a0_6, .int .i64 a0_7, .int .u8 a0_8, .int .i64 a0_9, .int .i64 a0_10, .int .i64 a0_11] 33 (0, 0)) (by refine blkU ?_; refine blk_far ?_ NB120_122.out _; refine blkU ?_; exact BK120.out)) : gb132 ≠ gb120)); have n8_ := Aside0.mk ((by rw [hg]; exact Nat.ne_of_lt (blk_lt (g := gb122) (o := .cells #[.int .u8 0, .int .i64 0, .int .u64 0, .int .i64 0, .bool a0_4, .int .u64 a0_5, .int .u64 a0_6, .int .i64 a0_7, .int .u8 a0_8, .int .i64 a0_9, .int .i64 0, .int .i64 a0_11] 33 (0, 0)) (by refine blkU ?_; refine blk_put (cs := #[.int .u8 0, .int .i64 0, .int .u64 0, .int .i64 0, .bool a0_4, .int .u64 a0_5, .int .u64 a0_6, .int .i64 a0_7, .int .u8 a0_8, .int .i64 a0_9, .int .i64 a0_10, .int .i64 a0_11]) ?_ 10 _ rfl; refine blkU ?_; exact BK122.out)) : gb122 ≠ gb132)); have n9_ := Aside0.mk ((by rw [hg]; exact Nat.ne_of_gt (blk_lt (g := gb122) (o := .cells #[.int .u8 0, .int .i64 0, .int .u64 0, .int .i64 0, .bool a0_4, .int .u64 a0_5, .int .u64 a0_6, .int .i64 a0_7, .int .u8 a0_8, .int .i64 a0_9, .int .i64 0, .int .i64 a0_11] 33 (0, 0)) (by refine blkU ?_; refine blk_put (cs := #[.int .u8 0, .int .i64 0, .int .u64 0, .int .i64 0, .bool a0_4, .int .u64 a0_5, .int .u64 a0_6, .int .i64 a0_7, .int .u8 a0_8, .int .i64 a0_9, .int .i64 a0_10, .int .i64 a0_11]) ?_ 10 _ rfl; refine blkU ?_; exact BK122.out)) : gb132 ≠ gb122)); clear BK120; clear BK122; clear HB; have BK120 := n0_; have BK122 := n1_; have HB := n2_; have BK132 := n3_; have GW132 := n4_; have GE132 := n5_; have NB120_132 := n6_; have NB132_120 := n7_; have NB122_132 := n8_; have NB132_122 := n9_; clear n0_ n1_ n2_ n3_ n4_ n5_ n6_ n7_ n8_ n9_; clear hb hbox hg; have hnb173 := NB132_120.out; have hnc173 := NB120_132.out; have hnb174 := NB132_122.out; have hnc174 := NB122_132.out; have hcz175_0 : w172.cell? ⟨gb132, 0, none⟩ = some (.int .u8 0) := (blk_cell BK132.out 0).trans rfl; have hcz175_1 : w172.cell? ⟨gb132, 1, none⟩ = some (.int .i64 0) := (blk_cell BK132.out 1).trans rfl; have hcz175_2 : w172.cell? ⟨gb132, 2, none⟩ = some (.int .u64 0) := (blk_cell BK132.out 2).trans rfl; have hcz175_3 : w172.cell? ⟨gb132, 3, none⟩ = some (.int .i64 0) := (blk_cell BK132.out 3).trans rfl; have hcz175_4 : w172.cell? ⟨gb132, 4, none⟩ = some (.bool false) := (blk_cell BK132.out 4).trans rfl; have hcz175_5 : w172.cell? ⟨gb132, 5, none⟩ = some (.int .u64 0) := (blk_cell BK132.out 5).trans rfl; have hcz175_6 : w172.cell? ⟨gb132, 6, none⟩ = some (.int .u64 0) := (blk_cell BK132.out 6).trans rfl; have hcz175_7 : w172.cell? ⟨gb132, 7, none⟩ = some (.int .i64 0) := (blk_cell BK132.out 7).trans rfl; have hcz175_8 : w172.cell? ⟨gb132, 8, none⟩ = some (.int .u8 0) := (blk_cell BK132.out 8).trans rfl; have hcz175_9 : w172.cell? ⟨gb132, 9, none⟩ = some (.int .i64 0) := (blk_cell BK132.out 9).trans rfl; have hcz175_10 : w172.cell? ⟨gb132, 10, none⟩ = some (.int .i64 0) := (blk_cell BK132.out 10).trans rfl; have hcz175_11 : w172.cell? ⟨gb132, 11, none⟩ = some (.int .i64 0) := (blk_cell BK132.out 11).trans rfl; have hfz175_0 := blk_frozen BK132.out 0; have hfz175_1 := blk_frozen BK132.out 1; have hfz175_2 := blk_frozen BK132.out 2; have hfz175_3 := blk_frozen BK132.out 3; have hfz175_4 := blk_frozen BK132.out 4; have hfz175_5 := blk_frozen BK132.out 5; have hfz175_6 := blk_frozen BK132.out 6; have hfz175_7 := blk_frozen BK132.out 7; have hfz175_8 := blk_frozen BK132.out 8; have hfz175_9 := blk_frozen BK132.out 9; have hfz175_10 := blk_frozen BK132.out 10; have hfz175_11 := blk_frozen BK132.out 11; have hcz176_0 : w172.cell? ⟨gb122, 0, none⟩ = some (.int .u8 0) := (blk_cell BK122.out 0).trans rfl; have hcz176_1 : w172.cell? ⟨gb122, 1, none⟩ = some (.int .i64 0) := (blk_cell BK122.out 1).trans rfl; have hcz176_2 : w172.cell? ⟨gb122, 2, none⟩ = some (.int .u64 0) := (blk_cell BK122.out 2).trans rfl; have hcz176_3 : w172.cell? ⟨gb122, 3, none⟩ = some (.int .i64 0) := (blk_cell BK122.out 3).trans rfl; have hcz176_4 : w172.cell? ⟨gb122, 4, none⟩ = some (.bool a0_4) := (blk_cell BK122.out 4).trans rfl; have hcz176_5 : w172.cell? ⟨gb122, 5, none⟩ = some (.int .u64 a0_5) := (blk_cell BK122.out 5).trans rfl; have hcz176_6 : w172.cell? ⟨gb122, 6, none⟩ = some (.int .u64 a0_6) := (blk_cell BK122.out 6).trans rfl; have hcz176_7 : w172.cell? ⟨gb122, 7, none⟩ = some (.int .i64 a0_7) := (blk_cell BK122.out 7).trans rfl; have hcz176_8 : w172.cell? ⟨gb122, 8, none⟩ = some (.int .u8 a0_8) := (blk_cell BK122.out 8).trans rfl; have hcz176_9 : w172.cell? ⟨gb122, 9, none⟩ = some (.int .i64 a0_9) := (blk_cell BK122.out 9).trans rfl; have hcz176_10 : w172.cell? ⟨gb122, 10, none⟩ = some (.int .i64 0) := (blk_cell BK122.out 10).trans rfl; have hcz176_11 : w172.cell? ⟨gb122, 11, none⟩ = some (.int .i64 a0_11) := (blk_cell BK122.out 11).trans rfl; have hfz176_0 := blk_frozen BK122.out 0; have hfz176_1 := blk_frozen BK122.out 1; have hfz176_2 := blk_frozen BK122.out 2; have hfz176_3 := blk_frozen BK122.out 3; have hfz176_4 := blk_frozen BK122.out 4; have hfz176_5 := blk_frozen BK122.out 5; have hfz176_6 := blk_frozen BK122.out 6; have hfz176_7 := blk_frozen BK122.out 7; have hfz176_8 := blk_frozen BK122.out 8; have hfz176_9 := blk_frozen BK122.out 9; have hfz176_10 := blk_frozen BK122.out 10; have hfz176_11 := blk_frozen BK122.out 11))
                       go_ret
                       exact ⟨by first | rfl | (simp [errW_none, errW_some] <;> rfl) | (simp [*, errW_none, errW_some] <;> rfl), bel_⟩
                     · rw [if_neg c168] at H
                       have c168b0 : ((((((a0_4 || ((!(a0_5 == 0) || (!(a0_6 == 0))) || (!(a0_7 == 0)))) || ((!(a0_8 == 0) || (!(a0_9 == 0))) || (!(a0_11 == 0)))))))) = false := by simpa using c168
                       clear c168
                       obtain rfl := Option.some.inj H
                       have hnb177 := NB122_120.out
                       have hnc177 := NB120_122.out
                       have hcz178_0 : wc.cell? ⟨gb122, 0, none⟩ = some (.int .u8 0) := (blk_cell BK122.out 0).trans rfl
                       have hcz178_1 : wc.cell? ⟨gb122, 1, none⟩ = some (.int .i64 0) := (blk_cell BK122.out 1).trans rfl
                       have hcz178_2 : wc.cell? ⟨gb122, 2, none⟩ = some (.int .u64 0) := (blk_cell BK122.out 2).trans rfl
                       have hcz178_3 : wc.cell? ⟨gb122, 3, none⟩ = some (.int .i64 0) := (blk_cell BK122.out 3).trans rfl
                       have hcz178_4 : wc.cell? ⟨gb122, 4, none⟩ = some (.bool a0_4) := (blk_cell BK122.out 4).trans rfl
                       have hcz178_5 : wc.cell? ⟨gb122, 5, none⟩ = some (.int .u64 a0_5) := (blk_cell BK122.out 5).trans rfl
                       have hcz178_6 : wc.cell? ⟨gb122, 6, none⟩ = some (.int .u64 a0_6) := (blk_cell BK122.out 6).trans rfl
                       have hcz178_7 : wc.cell? ⟨gb122, 7, none⟩ = some (.int .i64 a0_7) := (blk_cell BK122.out 7).trans rfl
                       have hcz178_8 : wc.cell? ⟨gb122, 8, none⟩ = some (.int .u8 a0_8) := (blk_cell BK122.out 8).trans rfl
                       have hcz178_9 : wc.cell? ⟨gb122, 9, none⟩ = some (.int .i64 a0_9) := (blk_cell BK122.out 9).trans rfl
                       have hcz178_10 : wc.cell? ⟨gb122, 10, none⟩ = some (.int .i64 a0_10) := (blk_cell BK122.out 10).trans rfl
                       have hcz178_11 : wc.cell? ⟨gb122, 11, none⟩ = some (.int .i64 a0_11) := (blk_cell BK122.out 11).trans rfl
                       have hfz178_0 := blk_frozen BK122.out 0
                       have hfz178_1 := blk_frozen BK122.out 1
                       have hfz178_2 := blk_frozen BK122.out 2
                       have hfz178_3 := blk_frozen BK122.out 3
                       have hfz178_4 := blk_frozen BK122.out 4
                       have hfz178_5 := blk_frozen BK122.out 5
                       have hfz178_6 := blk_frozen BK122.out 6
                       have hfz178_7 := blk_frozen BK122.out 7
                       have hfz178_8 := blk_frozen BK122.out 8
                       have hfz178_9 := blk_frozen BK122.out 9
                       have hfz178_10 := blk_frozen BK122.out 10
                       have hfz178_11 := blk_frozen BK122.out 11
                       have hcz179_0 : wc.cell? ⟨gb120, 0, none⟩ = some (.int .u8 a0_0) := (blk_cell BK120.out 0).trans rfl
                       have hcz179_1 : wc.cell? ⟨gb120, 1, none⟩ = some (.int .i64 a0_1) := (blk_cell BK120.out 1).trans rfl
                       have hcz179_2 : wc.cell? ⟨gb120, 2, none⟩ = some (.int .u64 a0_2) := (blk_cell BK120.out 2).trans rfl
                       have hcz179_3 : wc.cell? ⟨gb120, 3, none⟩ = some (.int .i64 a0_3) := (blk_cell BK120.out 3).trans rfl
                       have hcz179_4 : wc.cell? ⟨gb120, 4, none⟩ = some (.bool a0_4) := (blk_cell BK120.out 4).trans rfl
                       have hcz179_5 : wc.cell? ⟨gb120, 5, none⟩ = some (.int .u64 a0_5) := (blk_cell BK120.out 5).trans rfl
                       have hcz179_6 : wc.cell? ⟨gb120, 6, none⟩ = some (.int .u64 a0_6) := (blk_cell BK120.out 6).trans rfl
                       have hcz179_7 : wc.cell? ⟨gb120, 7, none⟩ = some (.int .i64 a0_7) := (blk_cell BK120.out 7).trans rfl
                       have hcz179_8 : wc.cell? ⟨gb120, 8, none⟩ = some (.int .u8 a0_8) := (blk_cell BK120.out 8).trans rfl
                       have hcz179_9 : wc.cell? ⟨gb120, 9, none⟩ = some (.int .i64 a0_9) := (blk_cell BK120.out 9).trans rfl
                       have hcz179_10 : wc.cell? ⟨gb120, 10, none⟩ = some (.int .i64 a0_10) := (blk_cell BK120.out 10).trans rfl
                       have hcz179_11 : wc.cell? ⟨gb120, 11, none⟩ = some (.int .i64 a0_11) := (blk_cell BK120.out 11).trans rfl
                       have hfz179_0 := blk_frozen BK120.out 0
                       have hfz179_1 := blk_frozen BK120.out 1
                       have hfz179_2 := blk_frozen BK120.out 2
                       have hfz179_3 := blk_frozen BK120.out 3
                       have hfz179_4 := blk_frozen BK120.out 4
                       have hfz179_5 := blk_frozen BK120.out 5
                       have hfz179_6 := blk_frozen BK120.out 6
                       have hfz179_7 := blk_frozen BK120.out 7
                       have hfz179_8 := blk_frozen BK120.out 8
                       have hfz179_9 := blk_frozen BK120.out 9
                       have hfz179_10 := blk_frozen BK120.out 10
                       have hfz179_11 := blk_frozen BK120.out 11
                       go_wp2_with (first | (go_at_call 35; (with_reducible refine (msg_iface.calls a0_10 true _ A166.out).mono ?_); rintro e w' ⟨rfl, ⟨nd, rfl⟩⟩) | ((with_reducible refine gate_dst (N := 5) rfl ?_); refine box_event ?hg (N := 5) ?hd (cs := #[.int .u8 0, .int .i64 0, .int .u64 0, .int .i64 0, .bool false, .int .u64 0, .int .u64 0, .int .i64 0, .int .u8 0, .int .i64 0, .int .i64 0, .int .i64 0]) (t := 33) ?hr ?_; (case hd => rfl); (case hg => rfl); (case hr => first | (go_simp; done) | (go_simp; rfl)); intro gb132 hg w180 hbox hb; have n0_ := Aside0.mk (blk_below (g := gb120) (o := .cells #[.int .u8 a0_0, .int .i64 a0_1, .int .u64 a0_2, .int .i64 a0_3, .bool a0_4, .int .u64 a0_5, .int .u64 a0_6, .int .i64 a0_7, .int .u8 a0_8, .int .i64 a0_9, .int .i64 a0_10, .int .i64 a0_11] 33 (0, 0)) (by refine blkU ?_; refine blk_far ?_ NB120_122.out _; refine blkU ?_; exact BK120.out) hb); have n1_ := Aside0.mk (blk_below (g := gb122) (o := .cells #[.int .u8 0, .int .i64 0, .int .u64 0, .int .i64 0, .bool a0_4, .int .u64 a0_5, .int .u64 a0_6, .int .i64 a0_7, .int .u8 a0_8, .int .i64 a0_9, .int .i64 0, .int .i64 a0_11] 33 (0, 0)) (by refine blkU ?_; refine blk_put (cs := #[.int .u8 0, .int .i64 0, .int .u64 0, .int .i64 0, .bool a0_4, .int .u64 a0_5, .int .u64 a0_6, .int .i64 a0_7, .int .u8 a0_8, .int .i64 a0_9, .int .i64 a0_10, .int .i64 a0_11]) ?_ 10 _ rfl; refine blkU ?_; exact BK122.out) hb); have n2_ := Aside0.mk (below_step bel_ hb); have n3_ := Aside0.mk (hbox); have n4_ := Aside0.mk ((by rw [hg]; exact (below_size bel_) : w.heap.size ≤ gb132)); have n5_ := Aside0.mk ((by rw [hg]; exact (below_size bel_) : w.heap.size ≤ gb132)); have n6_ := Aside0.mk ((by rw [hg]; exact Nat.ne_of_lt (blk_lt (g := gb120) (o := .cells #[.int .u8 a0_0, .int .i64 a0_1, .int .u64 a0_2, .int .i64 a0_3, .bool a0_4, .int .u64 a0_5, .int .u64 a0_6, .int .i64 a0_7, .int .u8 a0_8, .int .i64 a0_9, .int .i64 a0_10, .int .i64 a0_11] 33 (0, 0)) (by refine blkU ?_; refine blk_far ?_ NB120_122.out _; refine blkU ?_; exact BK120.out)) : gb120 ≠ gb132)); have n7_ := Aside0.mk ((by rw [hg]; exact Nat.ne_of_gt (blk_lt (g := gb120) (o := .cells #[.int .u8 a0_0, .int .i64 a0_1, .int .u64 a0_2, .int .i64 a0_3, .bool a0_4, .int .u64 a0_5, .int .u64 a0_6, .int .i64 a0_7, .int .u8 a0_8, .int .i64 a0_9, .int .i64 a0_10, .int .i64 a0_11] 33 (0, 0)) (by refine blkU ?_; refine blk_far ?_ NB120_122.out _; refine blkU ?_; exact BK120.out)) : gb132 ≠ gb120)); have n8_ := Aside0.mk ((by rw [hg]; exact Nat.ne_of_lt (blk_lt (g := gb122) (o := .cells #[.int .u8 0, .int .i64 0, .int .u64 0, .int .i64 0, .bool a0_4, .int .u64 a0_5, .int .u64 a0_6, .int .i64 a0_7, .int .u8 a0_8, .int .i64 a0_9, .int .i64 0, .int .i64 a0_11] 33 (0, 0)) (by refine blkU ?_; refine blk_put (cs := #[.int .u8 0, .int .i64 0, .int .u64 0, .int .i64 0, .bool a0_4, .int .u64 a0_5, .int .u64 a0_6, .int .i64 a0_7, .int .u8 a0_8, .int .i64 a0_9, .int .i64 a0_10, .int .i64 a0_11]) ?_ 10 _ rfl; refine blkU ?_; exact BK122.out)) : gb122 ≠ gb132)); have n9_ := Aside0.mk ((by rw [hg]; exact Nat.ne_of_gt (blk_lt (g := gb122) (o := .cells #[.int .u8 0, .int .i64 0, .int .u64 0, .int .i64 0, .bool a0_4, .int .u64 a0_5, .int .u64 a0_6, .int .i64 a0_7, .int .u8 a0_8, .int .i64 a0_9, .int .i64 0, .int .i64 a0_11] 33 (0, 0)) (by refine blkU ?_; refine blk_put (cs := #[.int .u8 0, .int .i64 0, .int .u64 0, .int .i64 0, .bool a0_4, .int .u64 a0_5, .int .u64 a0_6, .int .i64 a0_7, .int .u8 a0_8, .int .i64 a0_9, .int .i64 a0_10, .int .i64 a0_11]) ?_ 10 _ rfl; refine blkU ?_; exact BK122.out)) : gb132 ≠ gb122)); clear BK120; clear BK122; clear HB; have BK120 := n0_; have BK122 := n1_; have HB := n2_; have BK132 := n3_; have GW132 := n4_; have GE132 := n5_; have NB120_132 := n6_; have NB132_120 := n7_; have NB122_132 := n8_; have NB132_122 := n9_; clear n0_ n1_ n2_ n3_ n4_ n5_ n6_ n7_ n8_ n9_; clear hb hbox hg; have hnb181 := NB132_120.out; have hnc181 := NB120_132.out; have hnb182 := NB132_122.out; have hnc182 := NB122_132.out; have hcz183_0 : w180.cell? ⟨gb132, 0, none⟩ = some (.int .u8 0) := (blk_cell BK132.out 0).trans rfl; have hcz183_1 : w180.cell? ⟨gb132, 1, none⟩ = some (.int .i64 0) := (blk_cell BK132.out 1).trans rfl; have hcz183_2 : w180.cell? ⟨gb132, 2, none⟩ = some (.int .u64 0) := (blk_cell BK132.out 2).trans rfl; have hcz183_3 : w180.cell? ⟨gb132, 3, none⟩ = some (.int .i64 0) := (blk_cell BK132.out 3).trans rfl; have hcz183_4 : w180.cell? ⟨gb132, 4, none⟩ = some (.bool false) := (blk_cell BK132.out 4).trans rfl; have hcz183_5 : w180.cell? ⟨gb132, 5, none⟩ = some (.int .u64 0) := (blk_cell BK132.out 5).trans rfl; have hcz183_6 : w180.cell? ⟨gb132, 6, none⟩ = some (.int .u64 0) := (blk_cell BK132.out 6).trans rfl; have hcz183_7 : w180.cell? ⟨gb132, 7, none⟩ = some (.int .i64 0) := (blk_cell BK132.out 7).trans rfl; have hcz183_8 : w180.cell? ⟨gb132, 8, none⟩ = some (.int .u8 0) := (blk_cell BK132.out 8).trans rfl; have hcz183_9 : w180.cell? ⟨gb132, 9, none⟩ = some (.int .i64 0) := (blk_cell BK132.out 9).trans rfl; have hcz183_10 : w180.cell? ⟨gb132, 10, none⟩ = some (.int .i64 0) := (blk_cell BK132.out 10).trans rfl; have hcz183_11 : w180.cell? ⟨gb132, 11, none⟩ = some (.int .i64 0) := (blk_cell BK132.out 11).trans rfl; have hfz183_0 := blk_frozen BK132.out 0; have hfz183_1 := blk_frozen BK132.out 1; have hfz183_2 := blk_frozen BK132.out 2; have hfz183_3 := blk_frozen BK132.out 3; have hfz183_4 := blk_frozen BK132.out 4; have hfz183_5 := blk_frozen BK132.out 5; have hfz183_6 := blk_frozen BK132.out 6; have hfz183_7 := blk_frozen BK132.out 7; have hfz183_8 := blk_frozen BK132.out 8; have hfz183_9 := blk_frozen BK132.out 9; have hfz183_10 := blk_frozen BK132.out 10; have hfz183_11 := blk_frozen BK132.out 11; have hcz184_0 : w180.cell? ⟨gb122, 0, none⟩ = some (.int .u8 0) := (blk_cell BK122.out 0).trans rfl; have hcz184_1 : w180.cell? ⟨gb122, 1, none⟩ = some (.int .i64 0) := (blk_cell BK122.out 1).trans rfl; have hcz184_2 : w180.cell? ⟨gb122, 2, none⟩ = some (.int .u64 0) := (blk_cell BK122.out 2).trans rfl; have hcz184_3 : w180.cell? ⟨gb122, 3, none⟩ = some (.int .i64 0) := (blk_cell BK122.out 3).trans rfl; have hcz184_4 : w180.cell? ⟨gb122, 4, none⟩ = some (.bool a0_4) := (blk_cell BK122.out 4).trans rfl; have hcz184_5 : w180.cell? ⟨gb122, 5, none⟩ = some (.int .u64 a0_5) := (blk_cell BK122.out 5).trans rfl; have hcz184_6 : w180.cell? ⟨gb122, 6, none⟩ = some (.int .u64 a0_6) := (blk_cell BK122.out 6).trans rfl; have hcz184_7 : w180.cell? ⟨gb122, 7, none⟩ = some (.int .i64 a0_7) := (blk_cell BK122.out 7).trans rfl; have hcz184_8 : w180.cell? ⟨gb122, 8, none⟩ = some (.int .u8 a0_8) := (blk_cell BK122.out 8).trans rfl; have hcz184_9 : w180.cell? ⟨gb122, 9, none⟩ = some (.int .i64 a0_9) := (blk_cell BK122.out 9).trans rfl; have hcz184_10 : w180.cell? ⟨gb122, 10, none⟩ = some (.int .i64 0) := (blk_cell BK122.out 10).trans rfl; have hcz184_11 : w180.cell? ⟨gb122, 11, none⟩ = some (.int .i64 a0_11) := (blk_cell BK122.out 11).trans rfl; have hfz184_0 := blk_frozen BK122.out 0; have hfz184_1 := blk_frozen BK122.out 1; have hfz184_2 := blk_frozen BK122.out 2; have hfz184_3 := blk_frozen BK122.out 3; have hfz184_4 := blk_frozen BK122.out 4; have hfz184_5 := blk_frozen BK122.out 5; have hfz184_6 := blk_frozen BK122.out 6; have hfz184_7 := blk_frozen BK122.out 7; have hfz184_8 := blk_frozen BK122.out 8; have hfz184_9 := blk_frozen BK122.out 9; have hfz184_10 := blk_frozen BK122.out 10; have hfz184_11 := blk_frozen BK122.out 11))
                       go_ret
                       exact ⟨by first | rfl | (simp [errW_none, errW_some] <;> rfl) | (simp [*, errW_none, errW_some] <;> rfl), bel_⟩
                   · replace c167 := Bool.eq_false_iff.mpr c167
                     subst c167
                     have H1 : (some 2) = some r := by rw [if_neg (show ¬ (false = true) by decide)] at H; exact H
                     clear H
                     have H := H1
                     clear H1
                     obtain rfl := Option.some.inj H
                     have hnb185 := NB122_120.out
                     have hnc185 := NB120_122.out
                     have hcz186_0 : wc.cell? ⟨gb122, 0, none⟩ = some (.int .u8 0) := (blk_cell BK122.out 0).trans rfl
                     have hcz186_1 : wc.cell? ⟨gb122, 1, none⟩ = some (.int .i64 0) := (blk_cell BK122.out 1).trans rfl
                     have hcz186_2 : wc.cell? ⟨gb122, 2, none⟩ = some (.int .u64 0) := (blk_cell BK122.out 2).trans rfl
                     have hcz186_3 : wc.cell? ⟨gb122, 3, none⟩ = some (.int .i64 0) := (blk_cell BK122.out 3).trans rfl
                     have hcz186_4 : wc.cell? ⟨gb122, 4, none⟩ = some (.bool a0_4) := (blk_cell BK122.out 4).trans rfl
                     have hcz186_5 : wc.cell? ⟨gb122, 5, none⟩ = some (.int .u64 a0_5) := (blk_cell BK122.out 5).trans rfl
                     have hcz186_6 : wc.cell? ⟨gb122, 6, none⟩ = some (.int .u64 a0_6) := (blk_cell BK122.out 6).trans rfl
                     have hcz186_7 : wc.cell? ⟨gb122, 7, none⟩ = some (.int .i64 a0_7) := (blk_cell BK122.out 7).trans rfl
                     have hcz186_8 : wc.cell? ⟨gb122, 8, none⟩ = some (.int .u8 a0_8) := (blk_cell BK122.out 8).trans rfl
                     have hcz186_9 : wc.cell? ⟨gb122, 9, none⟩ = some (.int .i64 a0_9) := (blk_cell BK122.out 9).trans rfl
                     have hcz186_10 : wc.cell? ⟨gb122, 10, none⟩ = some (.int .i64 a0_10) := (blk_cell BK122.out 10).trans rfl
                     have hcz186_11 : wc.cell? ⟨gb122, 11, none⟩ = some (.int .i64 a0_11) := (blk_cell BK122.out 11).trans rfl
                     have hfz186_0 := blk_frozen BK122.out 0
                     have hfz186_1 := blk_frozen BK122.out 1
                     have hfz186_2 := blk_frozen BK122.out 2
                     have hfz186_3 := blk_frozen BK122.out 3
                     have hfz186_4 := blk_frozen BK122.out 4
                     have hfz186_5 := blk_frozen BK122.out 5
                     have hfz186_6 := blk_frozen BK122.out 6
                     have hfz186_7 := blk_frozen BK122.out 7
                     have hfz186_8 := blk_frozen BK122.out 8
                     have hfz186_9 := blk_frozen BK122.out 9
                     have hfz186_10 := blk_frozen BK122.out 10
                     have hfz186_11 := blk_frozen BK122.out 11
                     have hcz187_0 : wc.cell? ⟨gb120, 0, none⟩ = some (.int .u8 a0_0) := (blk_cell BK120.out 0).trans rfl
                     have hcz187_1 : wc.cell? ⟨gb120, 1, none⟩ = some (.int .i64 a0_1) := (blk_cell BK120.out 1).trans rfl
                     have hcz187_2 : wc.cell? ⟨gb120, 2, none⟩ = some (.int .u64 a0_2) := (blk_cell BK120.out 2).trans rfl
                     have hcz187_3 : wc.cell? ⟨gb120, 3, none⟩ = some (.int .i64 a0_3) := (blk_cell BK120.out 3).trans rfl
                     have hcz187_4 : wc.cell? ⟨gb120, 4, none⟩ = some (.bool a0_4) := (blk_cell BK120.out 4).trans rfl
                     have hcz187_5 : wc.cell? ⟨gb120, 5, none⟩ = some (.int .u64 a0_5) := (blk_cell BK120.out 5).trans rfl
                     have hcz187_6 : wc.cell? ⟨gb120, 6, none⟩ = some (.int .u64 a0_6) := (blk_cell BK120.out 6).trans rfl
                     have hcz187_7 : wc.cell? ⟨gb120, 7, none⟩ = some (.int .i64 a0_7) := (blk_cell BK120.out 7).trans rfl
                     have hcz187_8 : wc.cell? ⟨gb120, 8, none⟩ = some (.int .u8 a0_8) := (blk_cell BK120.out 8).trans rfl
                     have hcz187_9 : wc.cell? ⟨gb120, 9, none⟩ = some (.int .i64 a0_9) := (blk_cell BK120.out 9).trans rfl
                     have hcz187_10 : wc.cell? ⟨gb120, 10, none⟩ = some (.int .i64 a0_10) := (blk_cell BK120.out 10).trans rfl
                     have hcz187_11 : wc.cell? ⟨gb120, 11, none⟩ = some (.int .i64 a0_11) := (blk_cell BK120.out 11).trans rfl
                     have hfz187_0 := blk_frozen BK120.out 0
                     have hfz187_1 := blk_frozen BK120.out 1
                     have hfz187_2 := blk_frozen BK120.out 2
                     have hfz187_3 := blk_frozen BK120.out 3
                     have hfz187_4 := blk_frozen BK120.out 4
                     have hfz187_5 := blk_frozen BK120.out 5
                     have hfz187_6 := blk_frozen BK120.out 6
                     have hfz187_7 := blk_frozen BK120.out 7
                     have hfz187_8 := blk_frozen BK120.out 8
                     have hfz187_9 := blk_frozen BK120.out 9
                     have hfz187_10 := blk_frozen BK120.out 10
                     have hfz187_11 := blk_frozen BK120.out 11
                     go_wp2_with (first | (go_at_call 35; (with_reducible refine (msg_iface.calls a0_10 false _ A166.out).mono ?_); rintro e w' ⟨rfl, ⟨nd, rfl⟩⟩) | ((with_reducible refine gate_dst (N := 5) rfl ?_); refine box_event ?hg (N := 5) ?hd (cs := #[.int .u8 0, .int .i64 0, .int .u64 0, .int .i64 0, .bool false, .int .u64 0, .int .u64 0, .int .i64 0, .int .u8 0, .int .i64 0, .int .i64 0, .int .i64 0]) (t := 33) ?hr ?_; (case hd => rfl); (case hg => rfl); (case hr => first | (go_simp; done) | (go_simp; rfl)); intro gb132 hg w188 hbox hb; have n0_ := Aside0.mk (blk_below (g := gb120) (o := .cells #[.int .u8 a0_0, .int .i64 a0_1, .int .u64 a0_2, .int .i64 a0_3, .bool a0_4, .int .u64 a0_5, .int .u64 a0_6, .int .i64 a0_7, .int .u8 a0_8, .int .i64 a0_9, .int .i64 a0_10, .int .i64 a0_11] 33 (0, 0)) (by refine blkU ?_; refine blk_far ?_ NB120_122.out _; refine blkU ?_; exact BK120.out) hb); have n1_ := Aside0.mk (blk_below (g := gb122) (o := .cells #[.int .u8 0, .int .i64 0, .int .u64 0, .int .i64 0, .bool a0_4, .int .u64 a0_5, .int .u64 a0_6, .int .i64 a0_7, .int .u8 a0_8, .int .i64 a0_9, .int .i64 0, .int .i64 a0_11] 33 (0, 0)) (by refine blkU ?_; refine blk_put (cs := #[.int .u8 0, .int .i64 0, .int .u64 0, .int .i64 0, .bool a0_4, .int .u64 a0_5, .int .u64 a0_6, .int .i64 a0_7, .int .u8 a0_8, .int .i64 a0_9, .int .i64 a0_10, .int .i64 a0_11]) ?_ 10 _ rfl; refine blkU ?_; exact BK122.out) hb); have n2_ := Aside0.mk (below_step bel_ hb); have n3_ := Aside0.mk (hbox); have n4_ := Aside0.mk ((by rw [hg]; exact (below_size bel_) : w.heap.size ≤ gb132)); have n5_ := Aside0.mk ((by rw [hg]; exact (below_size bel_) : w.heap.size ≤ gb132)); have n6_ := Aside0.mk ((by rw [hg]; exact Nat.ne_of_lt (blk_lt (g := gb120) (o := .cells #[.int .u8 a0_0, .int .i64 a0_1, .int .u64 a0_2, .int .i64 a0_3, .bool a0_4, .int .u64 a0_5, .int .u64 a0_6, .int .i64 a0_7, .int .u8 a0_8, .int .i64 a0_9, .int .i64 a0_10, .int .i64 a0_11] 33 (0, 0)) (by refine blkU ?_; refine blk_far ?_ NB120_122.out _; refine blkU ?_; exact BK120.out)) : gb120 ≠ gb132)); have n7_ := Aside0.mk ((by rw [hg]; exact Nat.ne_of_gt (blk_lt (g := gb120) (o := .cells #[.int .u8 a0_0, .int .i64 a0_1, .int .u64 a0_2, .int .i64 a0_3, .bool a0_4, .int .u64 a0_5, .int .u64 a0_6, .int .i64 a0_7, .int .u8 a0_8, .int .i64 a0_9, .int .i64 a0_10, .int .i64 a0_11] 33 (0, 0)) (by refine blkU ?_; refine blk_far ?_ NB120_122.out _; refine blkU ?_; exact BK120.out)) : gb132 ≠ gb120)); have n8_ := Aside0.mk ((by rw [hg]; exact Nat.ne_of_lt (blk_lt (g := gb122) (o := .cells #[.int .u8 0, .int .i64 0, .int .u64 0, .int .i64 0, .bool a0_4, .int .u64 a0_5, .int .u64 a0_6, .int .i64 a0_7, .int .u8 a0_8, .int .i64 a0_9, .int .i64 0, .int .i64 a0_11] 33 (0, 0)) (by refine blkU ?_; refine blk_put (cs := #[.int .u8 0, .int .i64 0, .int .u64 0, .int .i64 0, .bool a0_4, .int .u64 a0_5, .int .u64 a0_6, .int .i64 a0_7, .int .u8 a0_8, .int .i64 a0_9, .int .i64 a0_10, .int .i64 a0_11]) ?_ 10 _ rfl; refine blkU ?_; exact BK122.out)) : gb122 ≠ gb132)); have n9_ := Aside0.mk ((by rw [hg]; exact Nat.ne_of_gt (blk_lt (g := gb122) (o := .cells #[.int .u8 0, .int .i64 0, .int .u64 0, .int .i64 0, .bool a0_4, .int .u64 a0_5, .int .u64 a0_6, .int .i64 a0_7, .int .u8 a0_8, .int .i64 a0_9, .int .i64 0, .int .i64 a0_11] 33 (0, 0)) (by refine blkU ?_; refine blk_put (cs := #[.int .u8 0, .int .i64 0, .int .u64 0, .int .i64 0, .bool a0_4, .int .u64 a0_5, .int .u64 a0_6, .int .i64 a0_7, .int .u8 a0_8, .int .i64 a0_9, .int .i64 a0_10, .int .i64 a0_11]) ?_ 10 _ rfl; refine blkU ?_; exact BK122.out)) : gb132 ≠ gb122)); clear BK120; clear BK122; clear HB; have BK120 := n0_; have BK122 := n1_; have HB := n2_; have BK132 := n3_; have GW132 := n4_; have GE132 := n5_; have NB120_132 := n6_; have NB132_120 := n7_; have NB122_132 := n8_; have NB132_122 := n9_; clear n0_ n1_ n2_ n3_ n4_ n5_ n6_ n7_ n8_ n9_; clear hb hbox hg; have hnb189 := NB132_120.out; have hnc189 := NB120_132.out; have hnb190 := NB132_122.out; have hnc190 := NB122_132.out; have hcz191_0 : w188.cell? ⟨gb132, 0, none⟩ = some (.int .u8 0) := (blk_cell BK132.out 0).trans rfl; have hcz191_1 : w188.cell? ⟨gb132, 1, none⟩ = some (.int .i64 0) := (blk_cell BK132.out 1).trans rfl; have hcz191_2 : w188.cell? ⟨gb132, 2, none⟩ = some (.int .u64 0) := (blk_cell BK132.out 2).trans rfl; have hcz191_3 : w188.cell? ⟨gb132, 3, none⟩ = some (.int .i64 0) := (blk_cell BK132.out 3).trans rfl; have hcz191_4 : w188.cell? ⟨gb132, 4, none⟩ = some (.bool false) := (blk_cell BK132.out 4).trans rfl; have hcz191_5 : w188.cell? ⟨gb132, 5, none⟩ = some (.int .u64 0) := (blk_cell BK132.out 5).trans rfl; have hcz191_6 : w188.cell? ⟨gb132, 6, none⟩ = some (.int .u64 0) := (blk_cell BK132.out 6).trans rfl; have hcz191_7 : w188.cell? ⟨gb132, 7, none⟩ = some (.int .i64 0) := (blk_cell BK132.out 7).trans rfl; have hcz191_8 : w188.cell? ⟨gb132, 8, none⟩ = some (.int .u8 0) := (blk_cell BK132.out 8).trans rfl; have hcz191_9 : w188.cell? ⟨gb132, 9, none⟩ = some (.int .i64 0) := (blk_cell BK132.out 9).trans rfl; have hcz191_10 : w188.cell? ⟨gb132, 10, none⟩ = some (.int .i64 0) := (blk_cell BK132.out 10).trans rfl; have hcz191_11 : w188.cell? ⟨gb132, 11, none⟩ = some (.int .i64 0) := (blk_cell BK132.out 11).trans rfl; have hfz191_0 := blk_frozen BK132.out 0; have hfz191_1 := blk_frozen BK132.out 1; have hfz191_2 := blk_frozen BK132.out 2; have hfz191_3 := blk_frozen BK132.out 3; have hfz191_4 := blk_frozen BK132.out 4; have hfz191_5 := blk_frozen BK132.out 5; have hfz191_6 := blk_frozen BK132.out 6; have hfz191_7 := blk_frozen BK132.out 7; have hfz191_8 := blk_frozen BK132.out 8; have hfz191_9 := blk_frozen BK132.out 9; have hfz191_10 := blk_frozen BK132.out 10; have hfz191_11 := blk_frozen BK132.out 11))
                     go_ret
                     exact ⟨by first | rfl | (simp [errW_none, errW_some] <;> rfl) | (simp [*, errW_none, errW_some] <;> rfl), bel_⟩
                 · exact absurd rfl c165
               · rw [if_neg c164] at H
                 have c164b0 : (a0_0 == 6) = false := beq_eq_false_iff_ne.mpr c164
                 have c164b1 : (a0_0 != 6) = true := bne_iff_ne.mpr c164
                 obtain rfl := Option.some.inj H
                 go_wp2
                 go_ret
                 exact ⟨by first | rfl | (simp [errW_none, errW_some] <;> rfl) | (simp [*, errW_none, errW_some] <;> rfl), bel_⟩
end Go.Proofs.Ytdccjkeiifplnaa.P
