-- kept, by a program of this session, of a text that the printer or this session wrote
import Derived.Test.YtdccjkeiifplnaaZPx0
import Derived.Test.YtdccjkeiifplnaaZPx30009
namespace Go.Proofs.Ytdccjkeiifplnaa.P
open Go.RowKit Go.Proofs.YtdccjkeiifplnaaW.PrintWords Go.Proofs.YtdccjkeiifplnaaW.PrintLast Go.Proofs.YtdccjkeiifplnaaW.PrintMore
attribute [local go_sem] max2_int min2_int max_two min_two max_three min_three max_four min_four
set_option linter.unusedVariables false
set_option linter.unusedSimpArgs false
mutual
def order_fits.j0 : Nat → List (S38) → Int → Bool → Bool → Bool → Int → Int → Int → Int → Bool → Int → Int → Int → Int → Int → Int → Int → Int → Int → Int → Bool → Option (Int)
 | 0, _, _, _, _, _, _, _, _, _, _, _, _, _, _, _, _, _, _, _, _, _ => none
 | k + 1, x0, x2, x8, x9, x20, x142000, x142001, x142002, x142003, x142004, x142005, x142006, x142007, x142008, x142009, x142010, x142011, x148000, x148001, x148002, x148003 => if x20 = true then (some 14) else (if (IntKind.u64.wrap (x142002 - 1)) = x148001 then (if x142003 < x148002 then (order_fits.j1 k x0 x8 x9 true x148000 x148001 x148002 x148003) else (order_fits.j1 k x0 x8 x9 (decide (x142003 ≤ x2)) x148000 x148001 x148002 x148003)) else (some 12))
def order_fits.j1 : Nat → List (S38) → Bool → Bool → Bool → Int → Int → Int → Bool → Option (Int)
 | 0, _, _, _, _, _, _, _, _ => none
 | k + 1, x0, x8, x9, x34, x148000, x148001, x148002, x148003 => if x34 = true then (some 13) else (if (x9 == x148003) = true then (some 10) else (if x8 = true then (some 0) else (if (x0.length : Int) ≥ 64 then (some 8) else (some 0))))
end
def order_fits.f (k : Nat) (l0 : List (S38)) (a1_0 : Int) (a1_1 : Int) (a1_2 : Int) (a1_3 : Int) (a1_4 : Bool) (a1_5 : Int) (a1_6 : Int) (a1_7 : Int) (a1_8 : Int) (a1_9 : Int) (a1_10 : Int) (a1_11 : Int) (a2 : Int) : Option (Int) := (order_Find.f l0 a1_1).bind fun bt142 => (if bt142.2.2.2.2 = true then (order_fits.j0 k l0 a2 bt142.2.2.2.2 (a1_0 == 1) false a1_0 a1_1 a1_2 a1_3 a1_4 a1_5 a1_6 a1_7 a1_8 a1_9 a1_10 a1_11 bt142.1 bt142.2.1 bt142.2.2.1 bt142.2.2.2.1) else (order_fits.j0 k l0 a2 bt142.2.2.2.2 (a1_0 == 1) (!(a1_0 == 1)) a1_0 a1_1 a1_2 a1_3 a1_4 a1_5 a1_6 a1_7 a1_8 a1_9 a1_10 a1_11 bt142.1 bt142.2.1 bt142.2.2.1 bt142.2.2.2.1))
theorem order_fits.mono_l : ∀ k, (∀ y0 y1 y2 y3 y4 y5 y6 y7 y8 y9 y10 y11 y12 y13 y14 y15 y16 y17 y18 y19 y20, LeO (order_fits.j0 k y0 y1 y2 y3 y4 y5 y6 y7 y8 y9 y10 y11 y12 y13 y14 y15 y16 y17 y18 y19 y20) (order_fits.j0 (k + 1) y0 y1 y2 y3 y4 y5 y6 y7 y8 y9 y10 y11 y12 y13 y14 y15 y16 y17 y18 y19 y20)) ∧ (∀ y0 y1 y2 y3 y4 y5 y6 y7, LeO (order_fits.j1 k y0 y1 y2 y3 y4 y5 y6 y7) (order_fits.j1 (k + 1) y0 y1 y2 y3 y4 y5 y6 y7))
 | 0 => ⟨fun _ _ _ _ _ _ _ _ _ _ _ _ _ _ _ _ _ _ _ _ _ r h => by simp [order_fits.j0] at h, fun _ _ _ _ _ _ _ _ r h => by simp [order_fits.j1] at h⟩
 | k + 1 => by
  obtain ⟨ih0, ih1⟩ := order_fits.mono_l k
  refine ⟨?_, ?_⟩
  · intro y0 y1 y2 y3 y4 y5 y6 y7 y8 y9 y10 y11 y12 y13 y14 y15 y16 y17 y18 y19 y20
    unfold order_fits.j0
    repeat' first
    | (with_reducible exact ih0 _ _ _ _ _ _ _ _ _ _ _ _ _ _ _ _ _ _ _ _ _)
    | (with_reducible exact ih1 _ _ _ _ _ _ _ _)
    | (with_reducible exact LeO.refl _)
    | (with_reducible exact LeO.none _)
    | (with_reducible refine LeO.ite ?_ ?_)
    | (with_reducible refine LeO.bind ?_ (fun _ => ?_))
    | exact ih0 _ _ _ _ _ _ _ _ _ _ _ _ _ _ _ _ _ _ _ _ _
    | exact ih1 _ _ _ _ _ _ _ _
    | exact LeO.none _
    | refine LeO.ite ?_ ?_
    | refine LeO.bind ?_ (fun _ => ?_)
  · intro y0 y1 y2 y3 y4 y5 y6 y7
    unfold order_fits.j1
    repeat' first
    | (with_reducible exact ih0 _ _ _ _ _ _ _ _ _ _ _ _ _ _ _ _ _ _ _ _ _)
    | (with_reducible exact ih1 _ _ _ _ _ _ _ _)
    | (with_reducible exact LeO.refl _)
    | (with_reducible exact LeO.none _)
    | (with_reducible refine LeO.ite ?_ ?_)
    | (with_reducible refine LeO.bind ?_ (fun _ => ?_))
    | exact ih0 _ _ _ _ _ _ _ _ _ _ _ _ _ _ _ _ _ _ _ _ _
    | exact ih1 _ _ _ _ _ _ _ _
    | exact LeO.none _
    | refine LeO.ite ?_ ?_
    | refine LeO.bind ?_ (fun _ => ?_)
theorem order_fits.mono : ∀ a0 a1 a2 a3 a4 a5 a6 a7 a8 a9 a10 a11 a12 a13 k, LeO (order_fits.f k a0 a1 a2 a3 a4 a5 a6 a7 a8 a9 a10 a11 a12 a13) (order_fits.f (k + 1) a0 a1 a2 a3 a4 a5 a6 a7 a8 a9 a10 a11 a12 a13) := by
 intro a0 a1 a2 a3 a4 a5 a6 a7 a8 a9 a10 a11 a12 a13 k
 obtain ⟨ih0, ih1⟩ := order_fits.mono_l k
 unfold order_fits.f
 repeat' first
  | (with_reducible exact ih0 _ _ _ _ _ _ _ _ _ _ _ _ _ _ _ _ _ _ _ _ _)
  | (with_reducible exact ih1 _ _ _ _ _ _ _ _)
  | (with_reducible exact LeO.refl _)
  | (with_reducible exact LeO.none _)
  | (with_reducible refine LeO.ite ?_ ?_)
  | (with_reducible refine LeO.bind ?_ (fun _ => ?_))
  | exact ih0 _ _ _ _ _ _ _ _ _ _ _ _ _ _ _ _ _ _ _ _ _
  | exact ih1 _ _ _ _ _ _ _ _
  | exact LeO.none _
  | refine LeO.ite ?_ ?_
  | refine LeO.bind ?_ (fun _ => ?_)
set_option maxHeartbeats 8000000 in
set_option maxRecDepth 100000 in
theorem order_fits.calls (k : Nat) (A0 : Option Addr) (c0 : Nat) (l0 : List (S38)) (a1_0 : Int) (a1_1 : Int) (a1_2 : Int) (a1_3 : Int) (a1_4 : Bool) (a1_5 : Int) (a1_6 : Int) (a1_7 : Int) (a1_8 : Int) (a1_9 : Int) (a1_10 : Int) (a1_11 : Int) (a2 : Int) (r : Int) (w : World) (hr0 : Kd.C k38 w A0 l0.length l0) (hc0 : l0.length ≤ c0) (h : order_fits.f k l0 a1_0 a1_1 a1_2 a1_3 a1_4 a1_5 a1_6 a1_7 a1_8 a1_9 a1_10 a1_11 a2 = some r) :
 Calls Try.prog 20 #[.slice A0 l0.length c0, .agg #[.int .u8 a1_0, .int .i64 a1_1, .int .u64 a1_2, .int .i64 a1_3, .bool a1_4, .int .u64 a1_5, .int .u64 a1_6, .int .i64 a1_7, .int .u8 a1_8, .int .i64 a1_9, .int .i64 a1_10, .int .i64 a1_11], .int .i64 a2] w fun e w' => e = .returned (.int .i64 r) ∧ Below w.heap.size w w' := by
 have hu33 := Try.underlying33
 have hu38 := Try.underlying38
 have HR0 := Aside0.mk hr0
 have HC0 := Aside0.mk hc0
 clear hr0 hc0
 have HB := Aside0.mk (Below.refl w.heap.size w)
 have H : ((order_Find.f l0 a1_1).bind fun bt142 => (if bt142.2.2.2.2 = true then (order_fits.j0 k l0 a2 bt142.2.2.2.2 (a1_0 == 1) false a1_0 a1_1 a1_2 a1_3 a1_4 a1_5 a1_6 a1_7 a1_8 a1_9 a1_10 a1_11 bt142.1 bt142.2.1 bt142.2.2.1 bt142.2.2.2.1) else (order_fits.j0 k l0 a2 bt142.2.2.2.2 (a1_0 == 1) (!(a1_0 == 1)) a1_0 a1_1 a1_2 a1_3 a1_4 a1_5 a1_6 a1_7 a1_8 a1_9 a1_10 a1_11 bt142.1 bt142.2.1 bt142.2.2.1 bt142.2.2.2.1))) = some r := h
 clear h
 replace H := Option.bind_eq_some_iff.mp H
 obtain ⟨⟨t142, t143, t144, t145, t146⟩, A40, H⟩ := H
 replace H : (if t146 = true then (order_fits.j0 k l0 a2 t146 (a1_0 == 1) false a1_0 a1_1 a1_2 a1_3 a1_4 a1_5 a1_6 a1_7 a1_8 a1_9 a1_10 a1_11 t142 t143 t144 t145) else (order_fits.j0 k l0 a2 t146 (a1_0 == 1) (!(a1_0 == 1)) a1_0 a1_1 a1_2 a1_3 a1_4 a1_5 a1_6 a1_7 a1_8 a1_9 a1_10 a1_11 t142 t143 t144 t145)) = some r := H
 have A4 := Aside0.mk A40
 clear A40
 have HC5 := Aside0.mk H
 clear H
 go_enter Try.func20, Try.ntmps20
 go_upto_region 3 with (first | ((with_reducible refine gate_dst (N := 4) rfl ?_); (try (refine gate_guard (by rfl) ?_; dsimp only)); refine box_event ?hg (N := 4) ?hd (cs := #[.int .u8 a1_0, .int .i64 a1_1, .int .u64 a1_2, .int .i64 a1_3, .bool a1_4, .int .u64 a1_5, .int .u64 a1_6, .int .i64 a1_7, .int .u8 a1_8, .int .i64 a1_9, .int .i64 a1_10, .int .i64 a1_11]) (t := 33) ?hr ?_; (case hd => rfl); (case hg => rfl); (case hr => first | (go_simp; done) | (go_simp; rfl)); intro gb141 hg w6 hbox hb; have n0_ := Aside0.mk (below_step bel_ hb); have n1_ := Aside0.mk (hbox); have n2_ := Aside0.mk ((gE_ hg : w.heap.size ≤ gb141)); have n3_ := Aside0.mk ((gE_ hg : w.heap.size ≤ gb141)); clear HB; have HB := n0_; have BK141 := n1_; have GW141 := n2_; have GE141 := n3_; clear n0_ n1_ n2_ n3_; clear hb hbox hg; obtain ⟨hcz7_0, hcz7_1, hcz7_2, hcz7_3, hcz7_4, hcz7_5, hcz7_6, hcz7_7, hcz7_8, hcz7_9, hcz7_10, hcz7_11, hfz7_0, hfz7_1, hfz7_2, hfz7_3, hfz7_4, hfz7_5, hfz7_6, hfz7_7, hfz7_8, hfz7_9, hfz7_10, hfz7_11⟩ := cz12_ BK141.out) | ((with_reducible refine gate_callee (f := 9) rfl ?_); refine goesL_ (some 14) rfl rfl Try.func9 (by kernel_rfl) rfl #[.slice A0 l0.length c0, .int .i64 a1_1] rfl args_ ?_; (with_reducible refine (order_Find.calls _ _ l0 a1_1 t142 t143 t144 t145 t146 _ ?side1 ?side2 A4.out).mono ?_); (case side1 => exact CU (Kd.C_below HR0.out HB.out)); (case side2 => exact HC0.out); rintro e w8 ⟨rfl, hb⟩; refine ⟨_, rfl, ?_⟩; have n0_ := Aside0.mk (blk_below (blkU BK141.out) hb); have n1_ := Aside0.mk (below_step bel_ hb); clear BK141; clear HB; have BK141 := n0_; have HB := n1_; clear n0_ n1_; (try clear hb); (try clear hb2); (try clear hk); (try clear hi)) | ((with_reducible refine gate_dst (N := 7) rfl ?_); (try (refine gate_guard (by rfl) ?_; dsimp only)); refine box_event ?hg (N := 7) ?hd (cs := #[.int .i64 0, .int .u64 0, .int .i64 0, .bool false]) (t := 38) ?hr ?_; (case hd => rfl); (case hg => rfl); (case hr => first | (go_simp; done) | (go_simp; rfl)); intro gb147 hg w9 hbox hb; have n0_ := Aside0.mk (blk_below (blkU BK141.out) hb); have n1_ := Aside0.mk (below_step bel_ hb); have n2_ := Aside0.mk (hbox); have n3_ := Aside0.mk ((gE_ hg : w.heap.size ≤ gb147)); have n4_ := Aside0.mk ((gE_ hg : w.heap.size ≤ gb147)); have n5_ := Aside0.mk ((by rw [hg]; exact Nat.ne_of_lt (blk_lt (blkU BK141.out)) : gb141 ≠ gb147)); have n6_ := Aside0.mk ((by rw [hg]; exact Nat.ne_of_gt (blk_lt (blkU BK141.out)) : gb147 ≠ gb141)); clear BK141; clear HB; have BK141 := n0_; have HB := n1_; have BK147 := n2_; have GW147 := n3_; have GE147 := n4_; have NB141_147 := n5_; have NB147_141 := n6_; clear n0_ n1_ n2_ n3_ n4_ n5_ n6_; clear hb hbox hg; have hnb10 := NB147_141.out; have hnc10 := NB141_147.out; obtain ⟨hcz11_0, hcz11_1, hcz11_2, hcz11_3, hfz11_0, hfz11_1, hfz11_2, hfz11_3⟩ := cz4_ BK147.out; obtain ⟨hcz12_0, hcz12_1, hcz12_2, hcz12_3, hcz12_4, hcz12_5, hcz12_6, hcz12_7, hcz12_8, hcz12_9, hcz12_10, hcz12_11, hfz12_0, hfz12_1, hfz12_2, hfz12_3, hfz12_4, hfz12_5, hfz12_6, hfz12_7, hfz12_8, hfz12_9, hfz12_10, hfz12_11⟩ := cz12_ BK141.out))
 (try simp only [Act.put, List.setIfInBounds_toArray, List.set_cons_zero, List.set_cons_succ])
 go_cut [20] (fun v20 wc => ∃ (kq : Nat) (x20_4 : Bool), v20 = .bool x20_4 ∧ Aside0 (order_fits.j0 kq l0 a2 t146 (a1_0 == 1) x20_4 a1_0 a1_1 a1_2 a1_3 a1_4 a1_5 a1_6 a1_7 a1_8 a1_9 a1_10 a1_11 t142 t143 t144 t145 = some r) ∧ Aside0 (kq ≤ k) ∧ Aside0 (wc.heap[gb141]? = some (.cells #[.int .u8 a1_0, .int .i64 a1_1, .int .u64 a1_2, .int .i64 a1_3, .bool a1_4, .int .u64 a1_5, .int .u64 a1_6, .int .i64 a1_7, .int .u8 a1_8, .int .i64 a1_9, .int .i64 a1_10, .int .i64 a1_11] 33 (0, 0))) ∧ Aside0 (wc.heap[gb147]? = some (.cells #[.int .i64 t142, .int .u64 t143, .int .i64 t144, .bool t145] 38 (0, 0))) ∧ Aside0 (Below w.heap.size w wc))
 case first =>
  have H := HC5.out
  clear HC5
  by_cases c13 : t146 = true
  · subst c13
    have H1 : (order_fits.j0 k l0 a2 true (a1_0 == 1) false a1_0 a1_1 a1_2 a1_3 a1_4 a1_5 a1_6 a1_7 a1_8 a1_9 a1_10 a1_11 t142 t143 t144 t145) = some r := by rw [if_pos rfl] at H; exact H
    clear H
    have H := H1
    clear H1
    have H' := Aside0.mk H
    clear H
    go_wp2
    go_meet
    case rel => exact ⟨_, (false), st_, H', ⟨by first | omega | exact Nat.le_refl _⟩, ⟨by refine blkU ?_; refine blk_far ?_ NB141_147.out _; refine blkU ?_; refine blk_far ?_ NB141_147.out _; refine blkU ?_; refine blk_far ?_ NB141_147.out _; refine blkU ?_; refine blk_far ?_ NB141_147.out _; refine blkU ?_; exact BK141.out⟩, ⟨by refine blkU ?_; refine blk_put (cs := #[.int .i64 t142, .int .u64 t143, .int .i64 t144, .bool false]) ?_ 3 _ rfl; refine blkU ?_; refine blk_put (cs := #[.int .i64 t142, .int .u64 t143, .int .i64 0, .bool false]) ?_ 2 _ rfl; refine blkU ?_; refine blk_put (cs := #[.int .i64 t142, .int .u64 0, .int .i64 0, .bool false]) ?_ 1 _ rfl; refine blkU ?_; refine blk_put (cs := #[.int .i64 0, .int .u64 0, .int .i64 0, .bool false]) ?_ 0 _ rfl; refine blkU ?_; exact BK147.out⟩, ⟨bel_⟩⟩
  · replace c13 := Bool.eq_false_iff.mpr c13
    subst c13
    have H1 : (order_fits.j0 k l0 a2 false (a1_0 == 1) (!(a1_0 == 1)) a1_0 a1_1 a1_2 a1_3 a1_4 a1_5 a1_6 a1_7 a1_8 a1_9 a1_10 a1_11 t142 t143 t144 t145) = some r := by rw [if_neg (show ¬ (false = true) by decide)] at H; exact H
    clear H
    have H := H1
    clear H1
    have H' := Aside0.mk H
    clear H
    go_wp2
    go_meet
    case rel => exact ⟨_, (!(a1_0 == 1)), st_, H', ⟨by first | omega | exact Nat.le_refl _⟩, ⟨by refine blkU ?_; refine blk_far ?_ NB141_147.out _; refine blkU ?_; refine blk_far ?_ NB141_147.out _; refine blkU ?_; refine blk_far ?_ NB141_147.out _; refine blkU ?_; refine blk_far ?_ NB141_147.out _; refine blkU ?_; exact BK141.out⟩, ⟨by refine blkU ?_; refine blk_put (cs := #[.int .i64 t142, .int .u64 t143, .int .i64 t144, .bool false]) ?_ 3 _ rfl; refine blkU ?_; refine blk_put (cs := #[.int .i64 t142, .int .u64 t143, .int .i64 0, .bool false]) ?_ 2 _ rfl; refine blkU ?_; refine blk_put (cs := #[.int .i64 t142, .int .u64 0, .int .i64 0, .bool false]) ?_ 1 _ rfl; refine blkU ?_; refine blk_put (cs := #[.int .i64 0, .int .u64 0, .int .i64 0, .bool false]) ?_ 0 _ rfl; refine blkU ?_; exact BK147.out⟩, ⟨bel_⟩⟩
 case rest =>
  clear HC5; try clear c1; try clear c2; try clear p2; try clear c9; try clear c10; try clear c13; try clear hcz11_0; try clear hcz11_1; try clear hcz11_2; try clear hcz11_3; try clear hcz12_0; try clear hcz12_1; try clear hcz12_10; try clear hcz12_11; try clear hcz12_2; try clear hcz12_3; try clear hcz12_4; try clear hcz12_5; try clear hcz12_6; try clear hcz12_7; try clear hcz12_8; try clear hcz12_9; try clear hcz7_0; try clear hcz7_1; try clear hcz7_10; try clear hcz7_11; try clear hcz7_2; try clear hcz7_3; try clear hcz7_4; try clear hcz7_5; try clear hcz7_6; try clear hcz7_7; try clear hcz7_8; try clear hcz7_9; try clear hfz11_0; try clear hfz11_1; try clear hfz11_2; try clear hfz11_3; try clear hfz12_0; try clear hfz12_1; try clear hfz12_10; try clear hfz12_11; try clear hfz12_2; try clear hfz12_3; try clear hfz12_4; try clear hfz12_5; try clear hfz12_6; try clear hfz12_7; try clear hfz12_8; try clear hfz12_9; try clear hfz7_0; try clear hfz7_1; try clear hfz7_10; try clear hfz7_11; try clear hfz7_2; try clear hfz7_3; try clear hfz7_4; try clear hfz7_5; try clear hfz7_6; try clear hfz7_7; try clear hfz7_8; try clear hfz7_9
  obtain ⟨kq, x20_4, rfl, HA, HJ4, BK141, BK147, HB⟩ := hcut
  cases kq with
  | zero => exact absurd HA.out (by simp [order_fits.j0])
  | succ kj4 =>
   have H := HA.out
   clear HA
   simp only [order_fits.j0] at H
   by_cases c14 : x20_4 = true
   · subst c14
     have H1 : (some 14) = some r := by rw [if_pos rfl] at H; exact H
     clear H
     have H := H1
     clear H1
     obtain rfl := Option.some.inj H
     go_wp2
     go_ret
     exact fin_ bel_
   · replace c14 := Bool.eq_false_iff.mpr c14
     subst c14
     have H1 : (if (IntKind.u64.wrap (a1_2 - 1)) = t143 then (if a1_3 < t144 then (order_fits.j1 kj4 l0 t146 (a1_0 == 1) true t142 t143 t144 t145) else (order_fits.j1 kj4 l0 t146 (a1_0 == 1) (decide (a1_3 ≤ a2)) t142 t143 t144 t145)) else (some 12)) = some r := by rw [if_neg (show ¬ (false = true) by decide)] at H; exact H
     clear H
     have H := H1
     clear H1
     by_cases c15 : (IntKind.u64.wrap (a1_2 - 1)) = t143
     · rw [if_pos c15] at H
       have c15b0 : ((IntKind.u64.wrap (a1_2 - 1)) == t143) = true := beq_iff_eq.mpr c15
       have c15b1 : ((IntKind.u64.wrap (a1_2 - 1)) != t143) = false := bne_eq_false_iff_eq.mpr c15
       clear c15
       have HC16 := Aside0.mk H
       clear H
       have hnb17 := NB141_147.out
       have hnc17 := NB147_141.out
       obtain ⟨hcz18_0, hcz18_1, hcz18_2, hcz18_3, hcz18_4, hcz18_5, hcz18_6, hcz18_7, hcz18_8, hcz18_9, hcz18_10, hcz18_11, hfz18_0, hfz18_1, hfz18_2, hfz18_3, hfz18_4, hfz18_5, hfz18_6, hfz18_7, hfz18_8, hfz18_9, hfz18_10, hfz18_11⟩ := cz12_ BK141.out
       obtain ⟨hcz19_0, hcz19_1, hcz19_2, hcz19_3, hfz19_0, hfz19_1, hfz19_2, hfz19_3⟩ := cz4_ BK147.out
       go_upto_region 7 with (fail)
       go_cut [34] (fun v34 wc => ∃ (kq : Nat) (x34_15 : Bool), v34 = .bool x34_15 ∧ Aside0 (order_fits.j1 kq l0 t146 (a1_0 == 1) x34_15 t142 t143 t144 t145 = some r) ∧ Aside0 (kq ≤ kj4) ∧ Aside0 (wc.heap[gb141]? = some (.cells #[.int .u8 a1_0, .int .i64 a1_1, .int .u64 a1_2, .int .i64 a1_3, .bool a1_4, .int .u64 a1_5, .int .u64 a1_6, .int .i64 a1_7, .int .u8 a1_8, .int .i64 a1_9, .int .i64 a1_10, .int .i64 a1_11] 33 (0, 0))) ∧ Aside0 (wc.heap[gb147]? = some (.cells #[.int .i64 t142, .int .u64 t143, .int .i64 t144, .bool t145] 38 (0, 0))) ∧ Aside0 (Below w.heap.size w wc))
       case first =>
        have H := HC16.out
        clear HC16
        by_cases c20 : a1_3 < t144
        · rw [if_pos c20] at H
          have c20b0 : decide (a1_3 < t144) = true := decide_eq_true c20
          clear c20
          (first | rw [c20b0] | (simp only [i64_w, i32_w]; rw [c20b0]) | skip)
          have H' := Aside0.mk H
          clear H
          have hnb21 := NB141_147.out
          have hnc21 := NB147_141.out
          obtain ⟨hcz22_0, hcz22_1, hcz22_2, hcz22_3, hcz22_4, hcz22_5, hcz22_6, hcz22_7, hcz22_8, hcz22_9, hcz22_10, hcz22_11, hfz22_0, hfz22_1, hfz22_2, hfz22_3, hfz22_4, hfz22_5, hfz22_6, hfz22_7, hfz22_8, hfz22_9, hfz22_10, hfz22_11⟩ := cz12_ BK141.out
          obtain ⟨hcz23_0, hcz23_1, hcz23_2, hcz23_3, hfz23_0, hfz23_1, hfz23_2, hfz23_3⟩ := cz4_ BK147.out
          go_wp2
          go_meet
          case rel => exact ⟨_, (true), st_, H', ⟨by have := HJ4.out; first | omega | exact Nat.le_refl _⟩, ⟨by refine blkU ?_; exact BK141.out⟩, ⟨by refine blkU ?_; exact BK147.out⟩, ⟨bel_⟩⟩
        · rw [if_neg c20] at H
          have c20b0 : decide (a1_3 < t144) = false := decide_eq_false c20
          clear c20
          (first | rw [c20b0] | (simp only [i64_w, i32_w]; rw [c20b0]) | skip)
          have H' := Aside0.mk H
          clear H
          have hnb24 := NB141_147.out
          have hnc24 := NB147_141.out
          obtain ⟨hcz25_0, hcz25_1, hcz25_2, hcz25_3, hcz25_4, hcz25_5, hcz25_6, hcz25_7, hcz25_8, hcz25_9, hcz25_10, hcz25_11, hfz25_0, hfz25_1, hfz25_2, hfz25_3, hfz25_4, hfz25_5, hfz25_6, hfz25_7, hfz25_8, hfz25_9, hfz25_10, hfz25_11⟩ := cz12_ BK141.out
          obtain ⟨hcz26_0, hcz26_1, hcz26_2, hcz26_3, hfz26_0, hfz26_1, hfz26_2, hfz26_3⟩ := cz4_ BK147.out
          go_wp2
          go_meet
          case rel => exact ⟨_, (decide (a1_3 ≤ a2)), st_, H', ⟨by have := HJ4.out; first | omega | exact Nat.le_refl _⟩, ⟨by refine blkU ?_; exact BK141.out⟩, ⟨by refine blkU ?_; exact BK147.out⟩, ⟨bel_⟩⟩
       case rest =>
        clear HC16; try clear c1; try clear c2; try clear p2; try clear c9; try clear c10; try clear c13; try clear c14; try clear c15; try clear c15b0; try clear c15b1; try clear c17; try clear c20; try clear c20b0; try clear c21; try clear c24; try clear hcz11_0; try clear hcz11_1; try clear hcz11_2; try clear hcz11_3; try clear hcz12_0; try clear hcz12_1; try clear hcz12_10; try clear hcz12_11; try clear hcz12_2; try clear hcz12_3; try clear hcz12_4; try clear hcz12_5; try clear hcz12_6; try clear hcz12_7; try clear hcz12_8; try clear hcz12_9; try clear hcz18_0; try clear hcz18_1; try clear hcz18_10; try clear hcz18_11; try clear hcz18_2; try clear hcz18_3; try clear hcz18_4; try clear hcz18_5; try clear hcz18_6; try clear hcz18_7; try clear hcz18_8; try clear hcz18_9; try clear hcz19_0; try clear hcz19_1; try clear hcz19_2; try clear hcz19_3; try clear hcz22_0; try clear hcz22_1; try clear hcz22_10; try clear hcz22_11; try clear hcz22_2; try clear hcz22_3; try clear hcz22_4; try clear hcz22_5; try clear hcz22_6; try clear hcz22_7; try clear hcz22_8; try clear hcz22_9; try clear hcz23_0; try clear hcz23_1; try clear hcz23_2; try clear hcz23_3; try clear hcz25_0; try clear hcz25_1; try clear hcz25_10; try clear hcz25_11; try clear hcz25_2; try clear hcz25_3; try clear hcz25_4; try clear hcz25_5; try clear hcz25_6; try clear hcz25_7; try clear hcz25_8; try clear hcz25_9; try clear hcz26_0; try clear hcz26_1; try clear hcz26_2; try clear hcz26_3; try clear hcz7_0; try clear hcz7_1; try clear hcz7_10; try clear hcz7_11; try clear hcz7_2; try clear hcz7_3; try clear hcz7_4; try clear hcz7_5; try clear hcz7_6; try clear hcz7_7; try clear hcz7_8; try clear hcz7_9; try clear hfz11_0; try clear hfz11_1; try clear hfz11_2; try clear hfz11_3; try clear hfz12_0; try clear hfz12_1; try clear hfz12_10; try clear hfz12_11; try clear hfz12_2; try clear hfz12_3; try clear hfz12_4; try clear hfz12_5; try clear hfz12_6; try clear hfz12_7; try clear hfz12_8; try clear hfz12_9; try clear hfz18_0; try clear hfz18_1; try clear hfz18_10; try clear hfz18_11; try clear hfz18_2; try clear hfz18_3; try clear hfz18_4; try clear hfz18_5; try clear hfz18_6; try clear hfz18_7; try clear hfz18_8; try clear hfz18_9; try clear hfz19_0; try clear hfz19_1; try clear hfz19_2; try clear hfz19_3; try clear hfz22_0; try clear hfz22_1; try clear hfz22_10; try clear hfz22_11; try clear hfz22_2; try clear hfz22_3; try clear hfz22_4; try clear hfz22_5; try clear hfz22_6; try clear hfz22_7; try clear hfz22_8; try clear hfz22_9; try clear hfz23_0; try clear hfz23_1; try clear hfz23_2; try clear hfz23_3; try clear hfz25_0; try clear hfz25_1; try clear hfz25_10; try clear hfz25_11; try clear hfz25_2; try clear hfz25_3; try clear hfz25_4; try clear hfz25_5; try clear hfz25_6; try clear hfz25_7; try clear hfz25_8; try clear hfz25_9; try clear hfz26_0; try clear hfz26_1; try clear hfz26_2; try clear hfz26_3; try clear hfz7_0; try clear hfz7_1; try clear hfz7_10; try clear hfz7_11; try clear hfz7_2; try clear hfz7_3; try clear hfz7_4; try clear hfz7_5; try clear hfz7_6; try clear hfz7_7; try clear hfz7_8; try clear hfz7_9; try clear p2
        obtain ⟨kq, x34_15, rfl, HA, HJ15, BK141, BK147, HB⟩ := hcut
        cases kq with
        | zero => exact absurd HA.out (by simp [order_fits.j1])
        | succ kj15 =>
         have H := HA.out
         clear HA
         simp only [order_fits.j1] at H
         by_cases c27 : x34_15 = true
         · subst c27
           have H1 : (some 13) = some r := by rw [if_pos rfl] at H; exact H
           clear H
           have H := H1
           clear H1
           obtain rfl := Option.some.inj H
           go_wp2
           go_ret
           exact fin_ bel_
         · replace c27 := Bool.eq_false_iff.mpr c27
           subst c27
           have H1 : (if ((a1_0 == 1) == t145) = true then (some 10) else (if t146 = true then (some 0) else (if (l0.length : Int) ≥ 64 then (some 8) else (some 0)))) = some r := by rw [if_neg (show ¬ (false = true) by decide)] at H; exact H
           clear H
           have H := H1
           clear H1
           by_cases c28 : ((a1_0 == 1) == t145) = true
           · rw [if_pos c28] at H
             have c28b0 : ((a1_0 == 1) == t145) = true := c28
             (try (have c28b1 : decide ((a1_0 == 1) = t145) = true := by simpa using c28))
             (try (have c28b2 : ((a1_0 == 1) == t145) = true := by simpa using c28))
             clear c28
             obtain rfl := Option.some.inj H
             have hnb29 := NB147_141.out
             have hnc29 := NB141_147.out
             obtain ⟨hcz30_0, hcz30_1, hcz30_2, hcz30_3, hfz30_0, hfz30_1, hfz30_2, hfz30_3⟩ := cz4_ BK147.out
             go_wp2
             go_ret
             exact fin_ bel_
           · rw [if_neg c28] at H
             have c28b0 : ((a1_0 == 1) == t145) = false := by simpa using c28
             (try (have c28b1 : decide ((a1_0 == 1) = t145) = false := by simpa using c28))
             (try (have c28b2 : ((a1_0 == 1) == t145) = false := by simpa using c28))
             (try (have c28b3 : ¬ ((a1_0 == 1) = t145) := by simpa using c28))
             clear c28
             by_cases c31 : t146 = true
             · subst c31
               have H1 : (some 0) = some r := by rw [if_pos rfl] at H; exact H
               clear H
               have H := H1
               clear H1
               obtain rfl := Option.some.inj H
               have hnb32 := NB147_141.out
               have hnc32 := NB141_147.out
               obtain ⟨hcz33_0, hcz33_1, hcz33_2, hcz33_3, hfz33_0, hfz33_1, hfz33_2, hfz33_3⟩ := cz4_ BK147.out
               go_wp2
               go_ret
               exact fin_ bel_
             · replace c31 := Bool.eq_false_iff.mpr c31
               subst c31
               have H1 : (if (l0.length : Int) ≥ 64 then (some 8) else (some 0)) = some r := by rw [if_neg (show ¬ (false = true) by decide)] at H; exact H
               clear H
               have H := H1
               clear H1
               by_cases c34 : (l0.length : Int) ≥ 64
               · rw [if_pos c34] at H
                 have c34b0 : decide (64 ≤ (l0.length : Int)) = true := decide_eq_true c34
                 have c34b1 : decide (64 ≤ l0.length) = true := decide_eq_true (by omega)
                 clear c34
                 obtain rfl := Option.some.inj H
                 have hnb35 := NB147_141.out
                 have hnc35 := NB141_147.out
                 obtain ⟨hcz36_0, hcz36_1, hcz36_2, hcz36_3, hfz36_0, hfz36_1, hfz36_2, hfz36_3⟩ := cz4_ BK147.out
                 go_wp2
                 go_ret
                 exact fin_ bel_
               · rw [if_neg c34] at H
                 have c34b0 : decide (64 ≤ (l0.length : Int)) = false := decide_eq_false c34
                 have c34b1 : decide (64 ≤ l0.length) = false := decide_eq_false (by omega)
                 clear c34
                 obtain rfl := Option.some.inj H
                 have hnb37 := NB147_141.out
                 have hnc37 := NB141_147.out
                 obtain ⟨hcz38_0, hcz38_1, hcz38_2, hcz38_3, hfz38_0, hfz38_1, hfz38_2, hfz38_3⟩ := cz4_ BK147.out
                 go_wp2
                 go_ret
                 exact fin_ bel_
     · rw [if_neg c15] at H
       have c15b0 : ((IntKind.u64.wrap (a1_2 - 1)) == t143) = false := beq_eq_false_iff_ne.mpr c15
       have c15b1 : ((IntKind.u64.wrap (a1_2 - 1)) != t143) = true := bne_iff_ne.mpr c15
       obtain rfl := Option.some.inj H
       have hnb39 := NB141_147.out
       have hnc39 := NB147_141.out
       obtain ⟨hcz40_0, hcz40_1, hcz40_2, hcz40_3, hcz40_4, hcz40_5, hcz40_6, hcz40_7, hcz40_8, hcz40_9, hcz40_10, hcz40_11, hfz40_0, hfz40_1, hfz40_2, hfz40_3, hfz40_4, hfz40_5, hfz40_6, hfz40_7, hfz40_8, hfz40_9, hfz40_10, hfz40_11⟩ := cz12_ BK141.out
       obtain ⟨hcz41_0, hcz41_1, hcz41_2, hcz41_3, hfz41_0, hfz41_1, hfz41_2, hfz41_3⟩ := cz4_ BK147.out
       go_wp2
       go_ret
       exact fin_ bel_
end Go.Proofs.Ytdccjkeiifplnaa.P
