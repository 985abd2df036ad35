-- kept, by a program of this session, of a text that the printer or this session wrote
import Derived.Test.YtdccjkeiifplnaaZPx0
import Derived.Test.YtdccjkeiifplnaaZPx1015
namespace Go.Proofs.Ytdccjkeiifplnaa.P
open Go.RowKit Go.Proofs.YtdccjkeiifplnaaW.PrintWords Go.Proofs.YtdccjkeiifplnaaW.PrintLast Go.Proofs.YtdccjkeiifplnaaW.PrintMore
attribute [local go_sem] max2_int min2_int max_two min_two max_three min_three max_four min_four
set_option linter.unusedVariables false
set_option linter.unusedSimpArgs false
mutual
def spoorref14_Next.j0 : Nat → List (S38) → Int → Bool → Int → Int → Int → Int → Bool → Int → Int → Int → Int → Int → Int → Int → Option ((List (S38)) × Int)
 | 0, _, _, _, _, _, _, _, _, _, _, _, _, _, _, _ => none
 | k + 1, x0, x8, x24, x208000, x208001, x208002, x208003, x208004, x208005, x208006, x208007, x208008, x208009, x208010, x208011 => if x24 = true then (some (([] : List (S38)), x8)) else (if x8 = 0 then (spoorref14_Next.l0 k x0 ([] : List (S38)) x0 (x0.length : Int) 0 x208000 x208001 x208002 x208003 x208004 x208005 x208006 x208007 x208008 x208009 x208010 x208011 x208001 x208002 x208003 (x208000 != 2)) else ((some (([] : List (S38)) : List (S38))).bind fun y209 => (if y209.length + x0.length < 4398046511104 then (some ((y209 ++ x0), x8)) else (none))))
def spoorref14_Next.l0 : Nat → List (S38) → List (S38) → List (S38) → Int → Int → Int → Int → Int → Int → Bool → Int → Int → Int → Int → Int → Int → Int → Int → Int → Int → Bool → Option ((List (S38)) × Int)
 | 0, _, _, _, _, _, _, _, _, _, _, _, _, _, _, _, _, _, _, _, _, _ => none
 | k + 1, x0, x10, x42, x43, x44, x208000, x208001, x208002, x208003, x208004, x208005, x208006, x208007, x208008, x208009, x208010, x208011, x216000, x216001, x216002, x216003 => if x44 < x43 then (if 0 ≤ x44 then (if x44 < (x42.length : Int) then (if ((rd_T38 x42 x44).f0) < x208001 then (if x10.length < 4398046511104 then (spoorref14_Next.l0 k x0 (x10 ++ [(⟨(rd_T38 x42 x44).f0, (rd_T38 x42 x44).f1, (rd_T38 x42 x44).f2, (rd_T38 x42 x44).f3⟩ : S38)]) x42 x43 (wrap64 (x44 + 1)) x208000 x208001 x208002 x208003 x208004 x208005 x208006 x208007 x208008 x208009 x208010 x208011 x216000 x216001 x216002 x216003) else (none)) else (spoorref14_Next.l0 k x0 x10 x42 x43 (wrap64 (x44 + 1)) x208000 x208001 x208002 x208003 x208004 x208005 x208006 x208007 x208008 x208009 x208010 x208011 x216000 x216001 x216002 x216003)) else (none)) else (none)) else (if x10.length < 4398046511104 then (spoorref14_Next.l1 k (x10 ++ [(⟨x216000, x216001, x216002, x216003⟩ : S38)]) x0 (x0.length : Int) 0 x208000 x208001 x208002 x208003 x208004 x208005 x208006 x208007 x208008 x208009 x208010 x208011) else (none))
def spoorref14_Next.l1 : Nat → List (S38) → List (S38) → Int → Int → Int → Int → Int → Int → Bool → Int → Int → Int → Int → Int → Int → Int → Option ((List (S38)) × Int)
 | 0, _, _, _, _, _, _, _, _, _, _, _, _, _, _, _, _ => none
 | k + 1, x10, x62, x63, x64, x208000, x208001, x208002, x208003, x208004, x208005, x208006, x208007, x208008, x208009, x208010, x208011 => if x64 < x63 then (if 0 ≤ x64 then (if x64 < (x62.length : Int) then (if ((rd_T38 x62 x64).f0) > x208001 then (if x10.length < 4398046511104 then (spoorref14_Next.l1 k (x10 ++ [(⟨(rd_T38 x62 x64).f0, (rd_T38 x62 x64).f1, (rd_T38 x62 x64).f2, (rd_T38 x62 x64).f3⟩ : S38)]) x62 x63 (wrap64 (x64 + 1)) x208000 x208001 x208002 x208003 x208004 x208005 x208006 x208007 x208008 x208009 x208010 x208011) else (none)) else (spoorref14_Next.l1 k x10 x62 x63 (wrap64 (x64 + 1)) x208000 x208001 x208002 x208003 x208004 x208005 x208006 x208007 x208008 x208009 x208010 x208011)) else (none)) else (none)) else (some (x10, 0))
end
def spoorref14_Next.f (k : Nat) (l0 : List (S38)) (a1_0 : Int) (a1_1 : Int) (a1_2 : Int) (a1_3 : Int) (a1_4 : Bool) (a1_5 : Int) (a1_6 : Int) (a1_7 : Int) (a1_8 : Int) (a1_9 : Int) (a1_10 : Int) (a1_11 : Int) (a2 : Int) : Option ((List (S38)) × Int) := (spoorref14_May.f k l0 a1_0 a1_1 a1_2 a1_3 a1_4 a1_5 a1_6 a1_7 a1_8 a1_9 a1_10 a1_11 a2).bind fun t208 => (if t208 = 2 then (spoorref14_Next.j0 k l0 t208 true a1_0 a1_1 a1_2 a1_3 a1_4 a1_5 a1_6 a1_7 a1_8 a1_9 a1_10 a1_11) else (spoorref14_Next.j0 k l0 t208 (t208 == 1) a1_0 a1_1 a1_2 a1_3 a1_4 a1_5 a1_6 a1_7 a1_8 a1_9 a1_10 a1_11))
set_option maxHeartbeats 8000000 in
set_option maxRecDepth 100000 in
theorem spoorref14_Next.calls (k : Nat) (A0 : Option Addr) (c0 : Nat) (l0 : List (S38)) (a1_0 : Int) (a1_1 : Int) (a1_2 : Int) (a1_3 : Int) (a1_4 : Bool) (a1_5 : Int) (a1_6 : Int) (a1_7 : Int) (a1_8 : Int) (a1_9 : Int) (a1_10 : Int) (a1_11 : Int) (a2 : Int) (r1 : List (S38)) (r2 : Int) (w : World) (hr0 : Kd.C k38 w A0 l0.length l0) (hc0 : l0.length ≤ c0) (h : spoorref14_Next.f k l0 a1_0 a1_1 a1_2 a1_3 a1_4 a1_5 a1_6 a1_7 a1_8 a1_9 a1_10 a1_11 a2 = some (r1, r2)) :
 Calls Try.prog 8 #[.slice A0 l0.length c0, .agg #[.int .u8 a1_0, .int .i64 a1_1, .int .u64 a1_2, .int .i64 a1_3, .bool a1_4, .int .u64 a1_5, .int .u64 a1_6, .int .i64 a1_7, .int .u8 a1_8, .int .i64 a1_9, .int .i64 a1_10, .int .i64 a1_11], .int .i64 a2] w fun e w' => ∃ v0_ : Value, e = .returned (.tuple #[v0_, .int .i64 r2]) ∧ Kd.R k38 38 w' w.heap.size (fun _ => True) v0_ r1 ∧ Below w.heap.size w w' := by
 have hu33 := Try.underlying33
 have hu38 := Try.underlying38
 have HR0 := Aside0.mk hr0
 have HC0 := Aside0.mk hc0
 clear hr0 hc0
 have HB := Aside0.mk (Below.refl w.heap.size w)
 have H : ((spoorref14_May.f k l0 a1_0 a1_1 a1_2 a1_3 a1_4 a1_5 a1_6 a1_7 a1_8 a1_9 a1_10 a1_11 a2).bind fun t208 => (if t208 = 2 then (spoorref14_Next.j0 k l0 t208 true a1_0 a1_1 a1_2 a1_3 a1_4 a1_5 a1_6 a1_7 a1_8 a1_9 a1_10 a1_11) else (spoorref14_Next.j0 k l0 t208 (t208 == 1) a1_0 a1_1 a1_2 a1_3 a1_4 a1_5 a1_6 a1_7 a1_8 a1_9 a1_10 a1_11))) = some (r1, r2) := h
 clear h
 replace H := Option.bind_eq_some_iff.mp H
 obtain ⟨t208, A40, H⟩ := H
 replace H : (if t208 = 2 then (spoorref14_Next.j0 k l0 t208 true a1_0 a1_1 a1_2 a1_3 a1_4 a1_5 a1_6 a1_7 a1_8 a1_9 a1_10 a1_11) else (spoorref14_Next.j0 k l0 t208 (t208 == 1) a1_0 a1_1 a1_2 a1_3 a1_4 a1_5 a1_6 a1_7 a1_8 a1_9 a1_10 a1_11)) = some (r1, r2) := H
 have A4 := Aside0.mk A40
 clear A40
 have HC5 := Aside0.mk H
 clear H
 go_enter Try.func8, Try.ntmps8
 go_upto_region 2 with (first | ((with_reducible refine gate_dst (N := 4) rfl ?_); refine box_event ?hg (N := 4) ?hd (cs := #[.int .u8 a1_0, .int .i64 a1_1, .int .u64 a1_2, .int .i64 a1_3, .bool a1_4, .int .u64 a1_5, .int .u64 a1_6, .int .i64 a1_7, .int .u8 a1_8, .int .i64 a1_9, .int .i64 a1_10, .int .i64 a1_11]) (t := 33) ?hr ?_; (case hd => rfl); (case hg => rfl); (case hr => first | (go_simp; done) | (go_simp; rfl)); intro gb207 hg w6 hbox hb; have n0_ := Aside0.mk (below_step bel_ hb); have n1_ := Aside0.mk (hbox); have n2_ := Aside0.mk ((gE_ hg : w.heap.size ≤ gb207)); have n3_ := Aside0.mk ((gE_ hg : w.heap.size ≤ gb207)); clear HB; have HB := n0_; have BK207 := n1_; have GW207 := n2_; have GE207 := n3_; clear n0_ n1_ n2_ n3_; clear hb hbox hg; obtain ⟨hcz7_0, hcz7_1, hcz7_2, hcz7_3, hcz7_4, hcz7_5, hcz7_6, hcz7_7, hcz7_8, hcz7_9, hcz7_10, hcz7_11, hfz7_0, hfz7_1, hfz7_2, hfz7_3, hfz7_4, hfz7_5, hfz7_6, hfz7_7, hfz7_8, hfz7_9, hfz7_10, hfz7_11⟩ := cz12_ BK207.out) | ((with_reducible refine gate_callee (f := 15) rfl ?_); refine goesL_ (some 18) rfl rfl Try.func15 (by kernel_rfl) rfl #[.slice A0 l0.length c0, .agg #[.int .u8 a1_0, .int .i64 a1_1, .int .u64 a1_2, .int .i64 a1_3, .bool a1_4, .int .u64 a1_5, .int .u64 a1_6, .int .i64 a1_7, .int .u8 a1_8, .int .i64 a1_9, .int .i64 a1_10, .int .i64 a1_11], .int .i64 a2] rfl args_ ?_; (with_reducible refine (spoorref14_May.calls k _ _ l0 a1_0 a1_1 a1_2 a1_3 a1_4 a1_5 a1_6 a1_7 a1_8 a1_9 a1_10 a1_11 a2 t208 _ ?side1 ?side2 A4.out).mono ?_); (case side1 => exact CU (Kd.C_below HR0.out HB.out)); (case side2 => exact HC0.out); rintro e w8 ⟨rfl, hb⟩; refine ⟨_, rfl, ?_⟩; have n0_ := Aside0.mk (blk_below (blkU BK207.out) hb); have n1_ := Aside0.mk (below_step bel_ hb); clear BK207; clear HB; have BK207 := n0_; have HB := n1_; clear n0_ n1_; (try clear hb); (try clear hb2); (try clear hk); (try clear hi)))
 (try simp only [Act.put, List.setIfInBounds_toArray, List.set_cons_zero, List.set_cons_succ])
 go_cut [24] (fun v24 wc => ∃ (kq : Nat) (x24_4 : Bool), v24 = .bool x24_4 ∧ Aside0 (spoorref14_Next.j0 kq l0 t208 x24_4 a1_0 a1_1 a1_2 a1_3 a1_4 a1_5 a1_6 a1_7 a1_8 a1_9 a1_10 a1_11 = some (r1, r2)) ∧ Aside0 (kq ≤ k) ∧ Aside0 (wc.heap[gb207]? = some (.cells #[.int .u8 a1_0, .int .i64 a1_1, .int .u64 a1_2, .int .i64 a1_3, .bool a1_4, .int .u64 a1_5, .int .u64 a1_6, .int .i64 a1_7, .int .u8 a1_8, .int .i64 a1_9, .int .i64 a1_10, .int .i64 a1_11] 33 (0, 0))) ∧ Aside0 (Below w.heap.size w wc))
 case first =>
  have H := HC5.out
  clear HC5
  by_cases c9 : t208 = 2
  · rw [if_pos c9] at H
    have c9b0 : (t208 == 2) = true := beq_iff_eq.mpr c9
    have c9b1 : (t208 != 2) = false := bne_eq_false_iff_eq.mpr c9
    clear c9
    (first | rw [c9b0] | (simp only [i64_w, i32_w]; rw [c9b0]) | skip)
    have H' := Aside0.mk H
    clear H
    go_wp2
    go_meet
    case rel => exact ⟨_, (true), st_, H', ⟨by first | omega | exact Nat.le_refl _⟩, ⟨by refine blkU ?_; exact BK207.out⟩, ⟨bel_⟩⟩
  · rw [if_neg c9] at H
    have c9b0 : (t208 == 2) = false := beq_eq_false_iff_ne.mpr c9
    have c9b1 : (t208 != 2) = true := bne_iff_ne.mpr c9
    (first | rw [c9b0] | (simp only [i64_w, i32_w]; rw [c9b0]) | skip)
    have H' := Aside0.mk H
    clear H
    go_wp2
    go_meet
    case rel => exact ⟨_, ((t208 == 1)), st_, H', ⟨by first | omega | exact Nat.le_refl _⟩, ⟨by refine blkU ?_; exact BK207.out⟩, ⟨bel_⟩⟩
 case rest =>
  clear HC5; try clear c1; try clear p2; try clear c8; try clear c9; try clear c9b0; try clear c9b1; try clear hcz7_0; try clear hcz7_1; try clear hcz7_10; try clear hcz7_11; try clear hcz7_2; try clear hcz7_3; try clear hcz7_4; try clear hcz7_5; try clear hcz7_6; try clear hcz7_7; try clear hcz7_8; try clear hcz7_9; try clear hfz7_0; try clear hfz7_1; try clear hfz7_10; try clear hfz7_11; try clear hfz7_2; try clear hfz7_3; try clear hfz7_4; try clear hfz7_5; try clear hfz7_6; try clear hfz7_7; try clear hfz7_8; try clear hfz7_9
  obtain ⟨kq, x24_4, rfl, HA, HJ4, BK207, HB⟩ := hcut
  cases kq with
  | zero => exact absurd HA.out (by simp [spoorref14_Next.j0])
  | succ kj4 =>
   have H := HA.out
   clear HA
   simp only [spoorref14_Next.j0] at H
   by_cases c10 : x24_4 = true
   · subst c10
     have H1 : (some (([] : List (S38)), t208)) = some (r1, r2) := by rw [if_pos rfl] at H; exact H
     clear H
     have H := H1
     clear H1
     simp only [Option.some.injEq, Prod.mk.injEq] at H
     obtain ⟨rfl, rfl⟩ := H
     go_wp2
     go_ret2
     exact ⟨_, by first | rfl | (simp [errW_none, errW_some] <;> rfl) | (simp [*, errW_none, errW_some] <;> rfl), by first | exact Kd.R_nil _ _ _ _ _ | exact Kd.N_nil _ _ _ _ _ | exact Kd.V_nil _ _ _ _ _ | exact Kd.Q_nil _ _ _ _ _ | exact Kd.S_nil _ _ _ _ _, bel_⟩
   · replace c10 := Bool.eq_false_iff.mpr c10
     subst c10
     have H1 : (if t208 = 0 then (spoorref14_Next.l0 kj4 l0 ([] : List (S38)) l0 (l0.length : Int) 0 a1_0 a1_1 a1_2 a1_3 a1_4 a1_5 a1_6 a1_7 a1_8 a1_9 a1_10 a1_11 a1_1 a1_2 a1_3 (a1_0 != 2)) else ((some (([] : List (S38)) : List (S38))).bind fun y209 => (if y209.length + l0.length < 4398046511104 then (some ((y209 ++ l0), t208)) else (none)))) = some (r1, r2) := by rw [if_neg (show ¬ (false = true) by decide)] at H; exact H
     clear H
     have H := H1
     clear H1
     by_cases c11 : t208 = 0
     · rw [if_pos c11] at H
       have c11b0 : (t208 == 0) = true := beq_iff_eq.mpr c11
       have c11b1 : (t208 != 0) = false := bne_eq_false_iff_eq.mpr c11
       clear c11
       have H' := Aside0.mk H
       clear H
       obtain ⟨hcz12_0, hcz12_1, hcz12_2, hcz12_3, hcz12_4, hcz12_5, hcz12_6, hcz12_7, hcz12_8, hcz12_9, hcz12_10, hcz12_11, hfz12_0, hfz12_1, hfz12_2, hfz12_3, hfz12_4, hfz12_5, hfz12_6, hfz12_7, hfz12_8, hfz12_9, hfz12_10, hfz12_11⟩ := cz12_ BK207.out
       go_wp2_with (first | ((with_reducible refine gate_dst (N := 9) rfl ?_); refine box_event ?hg (N := 9) ?hd (cs := #[.int .i64 0, .int .u64 0, .int .i64 0, .bool false]) (t := 38) ?hr ?_; (case hd => rfl); (case hg => rfl); (case hr => first | (go_simp; done) | (go_simp; rfl)); intro gb215 hg w13 hbox hb; have n0_ := Aside0.mk (blk_below (blkU BK207.out) hb); have n1_ := Aside0.mk (below_step bel_ hb); have n2_ := Aside0.mk (hbox); have n3_ := Aside0.mk ((gE_ hg : w.heap.size ≤ gb215)); have n4_ := Aside0.mk ((gE_ hg : w.heap.size ≤ gb215)); have n5_ := Aside0.mk ((by rw [hg]; exact Nat.ne_of_lt (blk_lt (blkU BK207.out)) : gb207 ≠ gb215)); have n6_ := Aside0.mk ((by rw [hg]; exact Nat.ne_of_gt (blk_lt (blkU BK207.out)) : gb215 ≠ gb207)); clear BK207; clear HB; have BK207 := n0_; have HB := n1_; have BK215 := n2_; have GW215 := n3_; have GE215 := n4_; have NB207_215 := n5_; have NB215_207 := n6_; clear n0_ n1_ n2_ n3_ n4_ n5_ n6_; clear hb hbox hg; have hnb14 := NB215_207.out; have hnc14 := NB207_215.out; obtain ⟨hcz15_0, hcz15_1, hcz15_2, hcz15_3, hfz15_0, hfz15_1, hfz15_2, hfz15_3⟩ := cz4_ BK215.out))
       go_loopg [10, 44] kj4 (fun kq v10 v44 w' => ∃ (x10_2 : List (S38)) (x44_2 : Int), v44 = .int .i64 x44_2 ∧ Aside0 (spoorref14_Next.l0 kq l0 x10_2 l0 (l0.length : Int) x44_2 a1_0 a1_1 a1_2 a1_3 a1_4 a1_5 a1_6 a1_7 a1_8 a1_9 a1_10 a1_11 a1_1 a1_2 a1_3 (a1_0 != 2) = some (r1, r2)) ∧ Aside0 (kq ≤ kj4) ∧ Aside0 (Kd.R k38 38 w' w.heap.size (fun k_ => k_ ≠ gb215) v10 x10_2) ∧ Aside0 (w'.heap[gb207]? = some (.cells #[.int .u8 a1_0, .int .i64 a1_1, .int .u64 a1_2, .int .i64 a1_3, .bool a1_4, .int .u64 a1_5, .int .u64 a1_6, .int .i64 a1_7, .int .u8 a1_8, .int .i64 a1_9, .int .i64 a1_10, .int .i64 a1_11] 33 (0, 0))) ∧ Aside0 (w'.heap[gb215]? = some (.cells #[.int .i64 a1_1, .int .u64 a1_2, .int .i64 a1_3, .bool (a1_0 != 2)] 38 (0, 0))) ∧ Aside0 (Below w.heap.size w w'))
       case atStart => exact ⟨(([] : List (S38))), (0), st_, H', ⟨Nat.le_refl _⟩, ⟨by first | exact Kd.R_nil _ _ _ _ _ | exact Kd.N_nil _ _ _ _ _ | exact Kd.V_nil _ _ _ _ _ | exact Kd.Q_nil _ _ _ _ _ | exact Kd.S_nil _ _ _ _ _⟩, ⟨by refine blkU ?_; refine blk_far ?_ NB207_215.out _; refine blkU ?_; refine blk_far ?_ NB207_215.out _; refine blkU ?_; refine blk_far ?_ NB207_215.out _; refine blkU ?_; refine blk_far ?_ NB207_215.out _; refine blkU ?_; exact BK207.out⟩, ⟨by refine blkU ?_; refine blk_put (cs := #[.int .i64 a1_1, .int .u64 a1_2, .int .i64 a1_3, .bool false]) ?_ 3 _ rfl; refine blkU ?_; refine blk_put (cs := #[.int .i64 a1_1, .int .u64 a1_2, .int .i64 0, .bool false]) ?_ 2 _ rfl; refine blkU ?_; refine blk_put (cs := #[.int .i64 a1_1, .int .u64 0, .int .i64 0, .bool false]) ?_ 1 _ rfl; refine blkU ?_; refine blk_put (cs := #[.int .i64 0, .int .u64 0, .int .i64 0, .bool false]) ?_ 0 _ rfl; refine blkU ?_; exact BK215.out⟩, ⟨bel_⟩⟩
       case round =>
        clear H'; try clear c1; try clear p2; try clear c8; try clear c9; try clear c9b0; try clear c9b1; try clear c10; try clear c11; try clear c11b0; try clear c11b1; try clear c14; try clear c15; try clear hcz12_0; try clear hcz12_1; try clear hcz12_10; try clear hcz12_11; try clear hcz12_2; try clear hcz12_3; try clear hcz12_4; try clear hcz12_5; try clear hcz12_6; try clear hcz12_7; try clear hcz12_8; try clear hcz12_9; try clear hcz15_0; try clear hcz15_1; try clear hcz15_2; try clear hcz15_3; try clear hcz7_0; try clear hcz7_1; try clear hcz7_10; try clear hcz7_11; try clear hcz7_2; try clear hcz7_3; try clear hcz7_4; try clear hcz7_5; try clear hcz7_6; try clear hcz7_7; try clear hcz7_8; try clear hcz7_9; try clear hfz12_0; try clear hfz12_1; try clear hfz12_10; try clear hfz12_11; try clear hfz12_2; try clear hfz12_3; try clear hfz12_4; try clear hfz12_5; try clear hfz12_6; try clear hfz12_7; try clear hfz12_8; try clear hfz12_9; try clear hfz15_0; try clear hfz15_1; try clear hfz15_2; try clear hfz15_3; try clear hfz7_0; try clear hfz7_1; try clear hfz7_10; try clear hfz7_11; try clear hfz7_2; try clear hfz7_3; try clear hfz7_4; try clear hfz7_5; try clear hfz7_6; try clear hfz7_7; try clear hfz7_8; try clear hfz7_9; try clear p2
        obtain ⟨x10_2, x44_2, rfl, HA, HK2, HO_10, BK207, BK215, HB⟩ := hrel
        cases gk with
        | zero => exact absurd HA.out (by simp [spoorref14_Next.l0])
        | succ k2 =>
         have H := HA.out
         clear HA
         simp only [spoorref14_Next.l0] at H
         by_cases c16 : x44_2 < (l0.length : Int)
         · rw [if_pos c16] at H
           have c16b0 : decide (x44_2 < (l0.length : Int)) = true := decide_eq_true c16
           clear c16
           by_cases c17 : 0 ≤ x44_2
           · rw [if_pos c17] at H
             have c17b0 : decide (0 ≤ x44_2) = true := decide_eq_true c17
             clear c17
             by_cases c18 : x44_2 < (l0.length : Int)
             · rw [if_pos c18] at H
               have c18b0 : decide (x44_2 < (l0.length : Int)) = true := decide_eq_true c18
               clear c18
               by_cases c19 : ((rd_T38 l0 x44_2).f0) < a1_1
               · rw [if_pos c19] at H
                 have c19b0 : decide (((rd_T38 l0 x44_2).f0) < a1_1) = true := decide_eq_true c19
                 clear c19
                 by_cases c20 : x10_2.length < 4398046511104
                 · rw [if_pos c20] at H
                   have LMc20 := Aside0.mk c20
                   clear c20
                   obtain ⟨y218, hy218⟩ : ∃ y_ : List (S38), y_ = (x10_2 ++ [(⟨(rd_T38 l0 x44_2).f0, (rd_T38 l0 x44_2).f1, (rd_T38 l0 x44_2).f2, (rd_T38 l0 x44_2).f3⟩ : S38)]) := ⟨_, rfl⟩
                   replace H : (spoorref14_Next.l0 k2 l0 y218 l0 (l0.length : Int) (wrap64 (x44_2 + 1)) a1_0 a1_1 a1_2 a1_3 a1_4 a1_5 a1_6 a1_7 a1_8 a1_9 a1_10 a1_11 a1_1 a1_2 a1_3 (a1_0 != 2)) = some (r1, r2) := by first | (rw [hy218]; with_reducible exact H) | (have H2_ := (Option.bind_some _ _).symm.trans H; rw [hy218]; with_reducible exact H2_) | (have H2_ := (Option.bind_some _ _).symm.trans H; with_reducible exact H2_) | with_reducible exact H | (rw [hy218]; exact H) | exact H
                   have Ny218 := Aside0.mk hy218
                   clear hy218
                   have H' := Aside0.mk H
                   clear H
                   have p216 : 0 ≤ (x44_2 : Int) := of_decide_eq_true (by first | (with_reducible assumption) | assumption)
                   have q216 : x44_2 < (l0.length : Int) := of_decide_eq_true (by first | (with_reducible assumption) | assumption)
                   obtain ⟨ad216, e216, hx216_0, hx216_1, hx216_2, hx216_3⟩ := at_T38 HR0.out x44_2 p216 q216
                   cases e216
                   replace hx216_0 := (HB.out.cell (World.block_lt_of_cell? w _ hx216_0)).trans hx216_0
                   replace hx216_1 := (HB.out.cell (World.block_lt_of_cell? w _ hx216_1)).trans hx216_1
                   replace hx216_2 := (HB.out.cell (World.block_lt_of_cell? w _ hx216_2)).trans hx216_2
                   replace hx216_3 := (HB.out.cell (World.block_lt_of_cell? w _ hx216_3)).trans hx216_3
                   replace p216 := eq_true p216
                   replace q216 := eq_true q216
                   go_wp2_with (first | ((with_reducible refine gate_dst (N := 12) rfl ?_); refine box_event ?hg (N := 12) ?hd (cs := #[.int .i64 0, .int .u64 0, .int .i64 0, .bool false]) (t := 38) ?hr ?_; (case hd => rfl); (case hg => rfl); (case hr => first | (go_simp; done) | (go_simp; rfl)); intro gb217 hg w21 hbox hb; have n0_ := Aside0.mk (Kd.R_below (Kd.R_elderB (by (try apply RU); exact HO_10.out) gb217 (Nat.le_of_eq hg.symm)) hb); have n1_ := Aside0.mk (blk_below (blkU BK207.out) hb); have n2_ := Aside0.mk (blk_below (blkU BK215.out) hb); have n3_ := Aside0.mk (below_step bel_ hb); have n4_ := Aside0.mk (hbox); have n5_ := Aside0.mk ((gE_ hg : w.heap.size ≤ gb217)); have n6_ := Aside0.mk ((gE_ hg : w.heap.size ≤ gb217)); have n7_ := Aside0.mk ((by rw [hg]; exact Nat.ne_of_lt (blk_lt (blkU BK207.out)) : gb207 ≠ gb217)); have n8_ := Aside0.mk ((by rw [hg]; exact Nat.ne_of_gt (blk_lt (blkU BK207.out)) : gb217 ≠ gb207)); have n9_ := Aside0.mk ((by rw [hg]; exact Nat.ne_of_lt (blk_lt (blkU BK215.out)) : gb215 ≠ gb217)); have n10_ := Aside0.mk ((by rw [hg]; exact Nat.ne_of_gt (blk_lt (blkU BK215.out)) : gb217 ≠ gb215)); clear HO_10; clear BK207; clear BK215; clear HB; have HO_10 := n0_; have BK207 := n1_; have BK215 := n2_; have HB := n3_; have BK217 := n4_; have GW217 := n5_; have GE217 := n6_; have NB207_217 := n7_; have NB217_207 := n8_; have NB215_217 := n9_; have NB217_215 := n10_; clear n0_ n1_ n2_ n3_ n4_ n5_ n6_ n7_ n8_ n9_ n10_; clear hb hbox hg; have hnb22 := NB217_207.out; have hnc22 := NB207_217.out; have hnb23 := NB217_215.out; have hnc23 := NB215_217.out; obtain ⟨hcz24_0, hcz24_1, hcz24_2, hcz24_3, hfz24_0, hfz24_1, hfz24_2, hfz24_3⟩ := cz4_ BK217.out; have hnb25 := NB207_215.out; have hnc25 := NB215_207.out; obtain ⟨hcz26_0, hcz26_1, hcz26_2, hcz26_3, hcz26_4, hcz26_5, hcz26_6, hcz26_7, hcz26_8, hcz26_9, hcz26_10, hcz26_11, hfz26_0, hfz26_1, hfz26_2, hfz26_3, hfz26_4, hfz26_5, hfz26_6, hfz26_7, hfz26_8, hfz26_9, hfz26_10, hfz26_11⟩ := cz12_ BK207.out) | ((with_reducible refine gate_builtin (b := .append) (xs := #[.tmp 53, .tmp 55]) rfl ?_); at_builtin; refine Kd.R_append k38 (w0 := w) w.heap.size rfl (.tmp 53) (.tmp 55) 22 38 (.agg #[(.int .i64 0), (.int .u64 0), (.int .i64 0), (.bool false)]) 32 rfl Try.underlying22 info38 rfl (by decide) (by omega) u10 x10_2 (⟨(rd_T38 l0 x44_2).f0, (rd_T38 l0 x44_2).f1, (rd_T38 l0 x44_2).f2, (rd_T38 l0 x44_2).f3⟩ : S38) [.int .i64 ((rd_T38 l0 x44_2).f0), .int .u64 ((rd_T38 l0 x44_2).f1), .int .i64 ((rd_T38 l0 x44_2).f2), .bool ((rd_T38 l0 x44_2).f3)] (fun k_ => k_ ≠ gb215 ∧ k_ ≠ gb217) (fun _ => False) rfl (by first | (go_simp; done) | (go_simp; rfl)) ?aP (fun _ hk => hk.elim) ?aF ?aO ?aB ?aS ?aL ?_; (case aP => exact k38_mkM _ _ _ (⟨(rd_T38 l0 x44_2).f0, (rd_T38 l0 x44_2).f1, (rd_T38 l0 x44_2).f2, (rd_T38 l0 x44_2).f3⟩ : S38)); (case aB => exact bel_); (case aF => exact (fun k_ hk => ⟨Kd.freshB (g := gb215) (o := .cells #[.int .i64 a1_1, .int .u64 a1_2, .int .i64 a1_3, .bool (a1_0 != 2)] 38 (0, 0)) (by refine blkU ?_; refine blk_far ?_ NB215_217.out _; refine blkU ?_; refine blk_far ?_ NB215_217.out _; refine blkU ?_; refine blk_far ?_ NB215_217.out _; refine blkU ?_; refine blk_far ?_ NB215_217.out _; refine blkU ?_; exact BK215.out) k_ hk, Kd.freshB (g := gb217) (o := .cells #[.int .i64 ((rd_T38 l0 x44_2).f0), .int .u64 ((rd_T38 l0 x44_2).f1), .int .i64 ((rd_T38 l0 x44_2).f2), .bool ((rd_T38 l0 x44_2).f3)] 38 (0, 0)) (by refine blkU ?_; refine blk_put (cs := #[.int .i64 ((rd_T38 l0 x44_2).f0), .int .u64 ((rd_T38 l0 x44_2).f1), .int .i64 ((rd_T38 l0 x44_2).f2), .bool false]) ?_ 3 _ rfl; refine blkU ?_; refine blk_put (cs := #[.int .i64 ((rd_T38 l0 x44_2).f0), .int .u64 ((rd_T38 l0 x44_2).f1), .int .i64 0, .bool false]) ?_ 2 _ rfl; refine blkU ?_; refine blk_put (cs := #[.int .i64 ((rd_T38 l0 x44_2).f0), .int .u64 0, .int .i64 0, .bool false]) ?_ 1 _ rfl; refine blkU ?_; refine blk_put (cs := #[.int .i64 0, .int .u64 0, .int .i64 0, .bool false]) ?_ 0 _ rfl; refine blkU ?_; exact BK217.out) k_ hk⟩)); (case aO => exact (by (try apply RU); exact Kd.R_mono (Kd.R_far (p := ⟨gb217, 3, none⟩) (Kd.R_far (p := ⟨gb217, 2, none⟩) (Kd.R_far (p := ⟨gb217, 1, none⟩) (Kd.R_far (p := ⟨gb217, 0, none⟩) (Kd.R_mono HO_10.out (fun k_ hk => (⟨hk, hk.2⟩ : _ ∧ k_ ≠ gb217))) (fun _ hk => hk.2) (.int .i64 ((rd_T38 l0 x44_2).f0))) (fun _ hk => hk.2) (.int .u64 ((rd_T38 l0 x44_2).f1))) (fun _ hk => hk.2) (.int .i64 ((rd_T38 l0 x44_2).f2))) (fun _ hk => hk.2) (.bool ((rd_T38 l0 x44_2).f3))) (fun _ hk => ⟨hk.1.1, hk.1.2⟩))); (case aS => exact (below_size bel_)); (case aL => have := LMc20.out; omega); intro v219 w27 ho hb hg hat; rw [← Ny218.out] at ho; have n0_ := Aside0.mk (blk_grown (g := gb207) (o := .cells #[.int .u8 a1_0, .int .i64 a1_1, .int .u64 a1_2, .int .i64 a1_3, .bool a1_4, .int .u64 a1_5, .int .u64 a1_6, .int .i64 a1_7, .int .u8 a1_8, .int .i64 a1_9, .int .i64 a1_10, .int .i64 a1_11] 33 (0, 0)) (by refine blkU ?_; refine blk_far ?_ NB207_217.out _; refine blkU ?_; refine blk_far ?_ NB207_217.out _; refine blkU ?_; refine blk_far ?_ NB207_217.out _; refine blkU ?_; refine blk_far ?_ NB207_217.out _; refine blkU ?_; exact BK207.out) hg (Kd.R_ne HO_10.out BK207.out (by decide))); have n1_ := Aside0.mk (blk_grown (g := gb215) (o := .cells #[.int .i64 a1_1, .int .u64 a1_2, .int .i64 a1_3, .bool (a1_0 != 2)] 38 (0, 0)) (by refine blkU ?_; refine blk_far ?_ NB215_217.out _; refine blkU ?_; refine blk_far ?_ NB215_217.out _; refine blkU ?_; refine blk_far ?_ NB215_217.out _; refine blkU ?_; refine blk_far ?_ NB215_217.out _; refine blkU ?_; exact BK215.out) hg (Kd.R_away HO_10.out (fun _ hk => hk.1))); have n2_ := Aside0.mk (blk_grown (g := gb217) (o := .cells #[.int .i64 ((rd_T38 l0 x44_2).f0), .int .u64 ((rd_T38 l0 x44_2).f1), .int .i64 ((rd_T38 l0 x44_2).f2), .bool ((rd_T38 l0 x44_2).f3)] 38 (0, 0)) (by refine blkU ?_; refine blk_put (cs := #[.int .i64 ((rd_T38 l0 x44_2).f0), .int .u64 ((rd_T38 l0 x44_2).f1), .int .i64 ((rd_T38 l0 x44_2).f2), .bool false]) ?_ 3 _ rfl; refine blkU ?_; refine blk_put (cs := #[.int .i64 ((rd_T38 l0 x44_2).f0), .int .u64 ((rd_T38 l0 x44_2).f1), .int .i64 0, .bool false]) ?_ 2 _ rfl; refine blkU ?_; refine blk_put (cs := #[.int .i64 ((rd_T38 l0 x44_2).f0), .int .u64 0, .int .i64 0, .bool false]) ?_ 1 _ rfl; refine blkU ?_; refine blk_put (cs := #[.int .i64 0, .int .u64 0, .int .i64 0, .bool false]) ?_ 0 _ rfl; refine blkU ?_; exact BK217.out) hg (Kd.R_away HO_10.out (fun _ hk => hk.2))); have n3_ := Aside0.mk (hb); have n4_ := Aside0.mk (ho); clear BK207; clear BK215; clear BK217; clear HB; clear HO_10; have BK207 := n0_; have BK215 := n1_; have BK217 := n2_; have HB := n3_; have HO220 := n4_; clear n0_ n1_ n2_ n3_ n4_; clear ho hb hg hat))
                   go_roundg k2
                   case measure => have := HJ4.out; have := HK2.out; omega
                   case rel => exact ⟨(y218), (wrap64 (x44_2 + 1)), st_, H', ⟨by have := HJ4.out; have := HK2.out; omega⟩, ⟨by (try apply RU); exact Kd.R_mono HO220.out (fun _ hk => hk.1)⟩, ⟨by refine blkU ?_; exact BK207.out⟩, ⟨by refine blkU ?_; exact BK215.out⟩, ⟨bel_⟩⟩
                 · rw [if_neg c20] at H
                   exact absurd H (by simp)
               · rw [if_neg c19] at H
                 have c19b0 : decide (((rd_T38 l0 x44_2).f0) < a1_1) = false := decide_eq_false c19
                 clear c19
                 have H' := Aside0.mk H
                 clear H
                 have p216 : 0 ≤ (x44_2 : Int) := of_decide_eq_true (by first | (with_reducible assumption) | assumption)
                 have q216 : x44_2 < (l0.length : Int) := of_decide_eq_true (by first | (with_reducible assumption) | assumption)
                 obtain ⟨ad216, e216, hx216_0, hx216_1, hx216_2, hx216_3⟩ := at_T38 HR0.out x44_2 p216 q216
                 cases e216
                 replace hx216_0 := (HB.out.cell (World.block_lt_of_cell? w _ hx216_0)).trans hx216_0
                 replace hx216_1 := (HB.out.cell (World.block_lt_of_cell? w _ hx216_1)).trans hx216_1
                 replace hx216_2 := (HB.out.cell (World.block_lt_of_cell? w _ hx216_2)).trans hx216_2
                 replace hx216_3 := (HB.out.cell (World.block_lt_of_cell? w _ hx216_3)).trans hx216_3
                 replace p216 := eq_true p216
                 replace q216 := eq_true q216
                 go_wp2_with (first | ((with_reducible refine gate_dst (N := 12) rfl ?_); refine box_event ?hg (N := 12) ?hd (cs := #[.int .i64 0, .int .u64 0, .int .i64 0, .bool false]) (t := 38) ?hr ?_; (case hd => rfl); (case hg => rfl); (case hr => first | (go_simp; done) | (go_simp; rfl)); intro gb217 hg w28 hbox hb; have n0_ := Aside0.mk (Kd.R_below (Kd.R_elderB (by (try apply RU); exact HO_10.out) gb217 (Nat.le_of_eq hg.symm)) hb); have n1_ := Aside0.mk (blk_below (blkU BK207.out) hb); have n2_ := Aside0.mk (blk_below (blkU BK215.out) hb); have n3_ := Aside0.mk (below_step bel_ hb); have n4_ := Aside0.mk (hbox); have n5_ := Aside0.mk ((gE_ hg : w.heap.size ≤ gb217)); have n6_ := Aside0.mk ((gE_ hg : w.heap.size ≤ gb217)); have n7_ := Aside0.mk ((by rw [hg]; exact Nat.ne_of_lt (blk_lt (blkU BK207.out)) : gb207 ≠ gb217)); have n8_ := Aside0.mk ((by rw [hg]; exact Nat.ne_of_gt (blk_lt (blkU BK207.out)) : gb217 ≠ gb207)); have n9_ := Aside0.mk ((by rw [hg]; exact Nat.ne_of_lt (blk_lt (blkU BK215.out)) : gb215 ≠ gb217)); have n10_ := Aside0.mk ((by rw [hg]; exact Nat.ne_of_gt (blk_lt (blkU BK215.out)) : gb217 ≠ gb215)); clear HO_10; clear BK207; clear BK215; clear HB; have HO_10 := n0_; have BK207 := n1_; have BK215 := n2_; have HB := n3_; have BK217 := n4_; have GW217 := n5_; have GE217 := n6_; have NB207_217 := n7_; have NB217_207 := n8_; have NB215_217 := n9_; have NB217_215 := n10_; clear n0_ n1_ n2_ n3_ n4_ n5_ n6_ n7_ n8_ n9_ n10_; clear hb hbox hg; have hnb29 := NB217_207.out; have hnc29 := NB207_217.out; have hnb30 := NB217_215.out; have hnc30 := NB215_217.out; obtain ⟨hcz31_0, hcz31_1, hcz31_2, hcz31_3, hfz31_0, hfz31_1, hfz31_2, hfz31_3⟩ := cz4_ BK217.out; have hnb32 := NB207_215.out; have hnc32 := NB215_207.out; obtain ⟨hcz33_0, hcz33_1, hcz33_2, hcz33_3, hcz33_4, hcz33_5, hcz33_6, hcz33_7, hcz33_8, hcz33_9, hcz33_10, hcz33_11, hfz33_0, hfz33_1, hfz33_2, hfz33_3, hfz33_4, hfz33_5, hfz33_6, hfz33_7, hfz33_8, hfz33_9, hfz33_10, hfz33_11⟩ := cz12_ BK207.out))
                 go_roundg k2
                 case measure => have := HJ4.out; have := HK2.out; omega
                 case rel => exact ⟨(x10_2), (wrap64 (x44_2 + 1)), st_, H', ⟨by have := HJ4.out; have := HK2.out; omega⟩, ⟨by (try apply RU); exact Kd.R_mono (Kd.R_far (p := ⟨gb217, 3, none⟩) (Kd.R_far (p := ⟨gb217, 2, none⟩) (Kd.R_far (p := ⟨gb217, 1, none⟩) (Kd.R_far (p := ⟨gb217, 0, none⟩) (Kd.R_mono HO_10.out (fun k_ hk => (⟨hk, hk.2⟩ : _ ∧ k_ ≠ gb217))) (fun _ hk => hk.2) (.int .i64 ((rd_T38 l0 x44_2).f0))) (fun _ hk => hk.2) (.int .u64 ((rd_T38 l0 x44_2).f1))) (fun _ hk => hk.2) (.int .i64 ((rd_T38 l0 x44_2).f2))) (fun _ hk => hk.2) (.bool ((rd_T38 l0 x44_2).f3))) (fun _ hk => hk.1.1)⟩, ⟨by refine blkU ?_; refine blk_far ?_ NB207_217.out _; refine blkU ?_; refine blk_far ?_ NB207_217.out _; refine blkU ?_; refine blk_far ?_ NB207_217.out _; refine blkU ?_; refine blk_far ?_ NB207_217.out _; refine blkU ?_; exact BK207.out⟩, ⟨by refine blkU ?_; refine blk_far ?_ NB215_217.out _; refine blkU ?_; refine blk_far ?_ NB215_217.out _; refine blkU ?_; refine blk_far ?_ NB215_217.out _; refine blkU ?_; refine blk_far ?_ NB215_217.out _; refine blkU ?_; exact BK215.out⟩, ⟨bel_⟩⟩
             · rw [if_neg c18] at H
               exact absurd H (by simp)
           · rw [if_neg c17] at H
             exact absurd H (by simp)
         · rw [if_neg c16] at H
           have c16b0 : decide (x44_2 < (l0.length : Int)) = false := decide_eq_false c16
           clear c16
           by_cases c34 : x10_2.length < 4398046511104
           · rw [if_pos c34] at H
             have LMc34 := Aside0.mk c34
             clear c34
             obtain ⟨y221, hy221⟩ : ∃ y_ : List (S38), y_ = (x10_2 ++ [(⟨a1_1, a1_2, a1_3, (a1_0 != 2)⟩ : S38)]) := ⟨_, rfl⟩
             replace H : (spoorref14_Next.l1 k2 y221 l0 (l0.length : Int) 0 a1_0 a1_1 a1_2 a1_3 a1_4 a1_5 a1_6 a1_7 a1_8 a1_9 a1_10 a1_11) = some (r1, r2) := by first | (rw [hy221]; with_reducible exact H) | (have H2_ := (Option.bind_some _ _).symm.trans H; rw [hy221]; with_reducible exact H2_) | (have H2_ := (Option.bind_some _ _).symm.trans H; with_reducible exact H2_) | with_reducible exact H | (rw [hy221]; exact H) | exact H
             have Ny221 := Aside0.mk hy221
             clear hy221
             have H' := Aside0.mk H
             clear H
             have hnb35 := NB215_207.out
             have hnc35 := NB207_215.out
             obtain ⟨hcz36_0, hcz36_1, hcz36_2, hcz36_3, hfz36_0, hfz36_1, hfz36_2, hfz36_3⟩ := cz4_ BK215.out
             go_wp2_with (first | ((with_reducible refine gate_builtin (b := .append) (xs := #[.tmp 58, .tmp 60]) rfl ?_); at_builtin; refine Kd.R_append k38 (w0 := w) w.heap.size rfl (.tmp 58) (.tmp 60) 22 38 (.agg #[(.int .i64 0), (.int .u64 0), (.int .i64 0), (.bool false)]) 32 rfl Try.underlying22 info38 rfl (by decide) (by omega) u10 x10_2 (⟨a1_1, a1_2, a1_3, (a1_0 != 2)⟩ : S38) [.int .i64 a1_1, .int .u64 a1_2, .int .i64 a1_3, .bool (a1_0 != 2)] (fun k_ => k_ ≠ gb215) (fun _ => False) rfl rfl ?aP (fun _ hk => hk.elim) ?aF ?aO ?aB ?aS ?aL ?_; (case aP => exact k38_mkM _ _ _ (⟨a1_1, a1_2, a1_3, (a1_0 != 2)⟩ : S38)); (case aB => exact bel_); (case aF => exact (fun k_ hk => Kd.freshB (g := gb215) (o := .cells #[.int .i64 a1_1, .int .u64 a1_2, .int .i64 a1_3, .bool (a1_0 != 2)] 38 (0, 0)) (blkU BK215.out) k_ hk)); (case aO => exact (by (try apply RU); exact HO_10.out)); (case aS => exact (below_size bel_)); (case aL => have := LMc34.out; omega); intro v222 w37 ho hb hg hat; rw [← Ny221.out] at ho; have n0_ := Aside0.mk (blk_grown (g := gb207) (o := .cells #[.int .u8 a1_0, .int .i64 a1_1, .int .u64 a1_2, .int .i64 a1_3, .bool a1_4, .int .u64 a1_5, .int .u64 a1_6, .int .i64 a1_7, .int .u8 a1_8, .int .i64 a1_9, .int .i64 a1_10, .int .i64 a1_11] 33 (0, 0)) (blkU BK207.out) hg (Kd.R_ne HO_10.out BK207.out (by decide))); have n1_ := Aside0.mk (blk_grown (g := gb215) (o := .cells #[.int .i64 a1_1, .int .u64 a1_2, .int .i64 a1_3, .bool (a1_0 != 2)] 38 (0, 0)) (blkU BK215.out) hg (Kd.R_away HO_10.out (fun _ hk => hk))); have n2_ := Aside0.mk (hb); have n3_ := Aside0.mk (ho); clear BK207; clear BK215; clear HB; clear HO_10; have BK207 := n0_; have BK215 := n1_; have HB := n2_; have HO223 := n3_; clear n0_ n1_ n2_ n3_; clear ho hb hg hat))
             go_loopg [10, 64] k2 (fun kq v10 v64 w' => ∃ (x10_3 : List (S38)) (x64_3 : Int), v64 = .int .i64 x64_3 ∧ Aside0 (spoorref14_Next.l1 kq x10_3 l0 (l0.length : Int) x64_3 a1_0 a1_1 a1_2 a1_3 a1_4 a1_5 a1_6 a1_7 a1_8 a1_9 a1_10 a1_11 = some (r1, r2)) ∧ Aside0 (kq ≤ k2) ∧ Aside0 (Kd.R k38 38 w' w.heap.size (fun k_ => k_ ≠ gb215) v10 x10_3) ∧ Aside0 (w'.heap[gb207]? = some (.cells #[.int .u8 a1_0, .int .i64 a1_1, .int .u64 a1_2, .int .i64 a1_3, .bool a1_4, .int .u64 a1_5, .int .u64 a1_6, .int .i64 a1_7, .int .u8 a1_8, .int .i64 a1_9, .int .i64 a1_10, .int .i64 a1_11] 33 (0, 0))) ∧ Aside0 (w'.heap[gb215]? = some (.cells #[.int .i64 a1_1, .int .u64 a1_2, .int .i64 a1_3, .bool (a1_0 != 2)] 38 (0, 0))) ∧ Aside0 (Below w.heap.size w w'))
             case atStart => exact ⟨(y221), (0), st_, H', ⟨Nat.le_refl _⟩, ⟨by (try apply RU); exact HO223.out⟩, ⟨by refine blkU ?_; exact BK207.out⟩, ⟨by refine blkU ?_; exact BK215.out⟩, ⟨bel_⟩⟩
             case round =>
              clear H'; try clear c1; try clear c2; try clear p2; try clear q2; try clear hx2; try clear c3; try clear p6; try clear c8; try clear c9; try clear c9b0; try clear c9b1; try clear c10; try clear c11; try clear c11b0; try clear c11b1; try clear c14; try clear c15; try clear c16; try clear c16b0; try clear c17; try clear c17b0; try clear c18; try clear c18b0; try clear c19; try clear c19b0; try clear c20; try clear p21; try clear q21; try clear hx21; try clear c22; try clear c23; try clear c25; try clear c29; try clear c30; try clear c32; try clear c34; try clear c35; try clear hcz12_0; try clear hcz12_1; try clear hcz12_10; try clear hcz12_11; try clear hcz12_2; try clear hcz12_3; try clear hcz12_4; try clear hcz12_5; try clear hcz12_6; try clear hcz12_7; try clear hcz12_8; try clear hcz12_9; try clear hcz15_0; try clear hcz15_1; try clear hcz15_2; try clear hcz15_3; try clear hcz24_0; try clear hcz24_1; try clear hcz24_2; try clear hcz24_3; try clear hcz26_0; try clear hcz26_1; try clear hcz26_10; try clear hcz26_11; try clear hcz26_2; try clear hcz26_3; try clear hcz26_4; try clear hcz26_5; try clear hcz26_6; try clear hcz26_7; try clear hcz26_8; try clear hcz26_9; try clear hcz31_0; try clear hcz31_1; try clear hcz31_2; try clear hcz31_3; try clear hcz33_0; try clear hcz33_1; try clear hcz33_10; try clear hcz33_11; try clear hcz33_2; try clear hcz33_3; try clear hcz33_4; try clear hcz33_5; try clear hcz33_6; try clear hcz33_7; try clear hcz33_8; try clear hcz33_9; try clear hcz36_0; try clear hcz36_1; try clear hcz36_2; try clear hcz36_3; try clear hcz7_0; try clear hcz7_1; try clear hcz7_10; try clear hcz7_11; try clear hcz7_2; try clear hcz7_3; try clear hcz7_4; try clear hcz7_5; try clear hcz7_6; try clear hcz7_7; try clear hcz7_8; try clear hcz7_9; try clear hfz12_0; try clear hfz12_1; try clear hfz12_10; try clear hfz12_11; try clear hfz12_2; try clear hfz12_3; try clear hfz12_4; try clear hfz12_5; try clear hfz12_6; try clear hfz12_7; try clear hfz12_8; try clear hfz12_9; try clear hfz15_0; try clear hfz15_1; try clear hfz15_2; try clear hfz15_3; try clear hfz24_0; try clear hfz24_1; try clear hfz24_2; try clear hfz24_3; try clear hfz26_0; try clear hfz26_1; try clear hfz26_10; try clear hfz26_11; try clear hfz26_2; try clear hfz26_3; try clear hfz26_4; try clear hfz26_5; try clear hfz26_6; try clear hfz26_7; try clear hfz26_8; try clear hfz26_9; try clear hfz31_0; try clear hfz31_1; try clear hfz31_2; try clear hfz31_3; try clear hfz33_0; try clear hfz33_1; try clear hfz33_10; try clear hfz33_11; try clear hfz33_2; try clear hfz33_3; try clear hfz33_4; try clear hfz33_5; try clear hfz33_6; try clear hfz33_7; try clear hfz33_8; try clear hfz33_9; try clear hfz36_0; try clear hfz36_1; try clear hfz36_2; try clear hfz36_3; try clear hfz7_0; try clear hfz7_1; try clear hfz7_10; try clear hfz7_11; try clear hfz7_2; try clear hfz7_3; try clear hfz7_4; try clear hfz7_5; try clear hfz7_6; try clear hfz7_7; try clear hfz7_8; try clear hfz7_9; try clear hx216_0; try clear hx216_1; try clear hx216_2; try clear hx216_3; try clear p2; try clear p216; try clear q216
              obtain ⟨x10_3, x64_3, rfl, HA, HK3, HO_10, BK207, BK215, HB⟩ := hrel
              cases gk with
              | zero => exact absurd HA.out (by simp [spoorref14_Next.l1])
              | succ k3 =>
               have H := HA.out
               clear HA
               simp only [spoorref14_Next.l1] at H
               by_cases c38 : x64_3 < (l0.length : Int)
               · rw [if_pos c38] at H
                 have c38b0 : decide (x64_3 < (l0.length : Int)) = true := decide_eq_true c38
                 clear c38
                 by_cases c39 : 0 ≤ x64_3
                 · rw [if_pos c39] at H
                   have c39b0 : decide (0 ≤ x64_3) = true := decide_eq_true c39
                   clear c39
                   by_cases c40 : x64_3 < (l0.length : Int)
                   · rw [if_pos c40] at H
                     have c40b0 : decide (x64_3 < (l0.length : Int)) = true := decide_eq_true c40
                     clear c40
                     by_cases c41 : ((rd_T38 l0 x64_3).f0) > a1_1
                     · rw [if_pos c41] at H
                       have c41b0 : decide (a1_1 < ((rd_T38 l0 x64_3).f0)) = true := decide_eq_true c41
                       clear c41
                       by_cases c42 : x10_3.length < 4398046511104
                       · rw [if_pos c42] at H
                         have LMc42 := Aside0.mk c42
                         clear c42
                         obtain ⟨y226, hy226⟩ : ∃ y_ : List (S38), y_ = (x10_3 ++ [(⟨(rd_T38 l0 x64_3).f0, (rd_T38 l0 x64_3).f1, (rd_T38 l0 x64_3).f2, (rd_T38 l0 x64_3).f3⟩ : S38)]) := ⟨_, rfl⟩
                         replace H : (spoorref14_Next.l1 k3 y226 l0 (l0.length : Int) (wrap64 (x64_3 + 1)) a1_0 a1_1 a1_2 a1_3 a1_4 a1_5 a1_6 a1_7 a1_8 a1_9 a1_10 a1_11) = some (r1, r2) := by first | (rw [hy226]; with_reducible exact H) | (have H2_ := (Option.bind_some _ _).symm.trans H; rw [hy226]; with_reducible exact H2_) | (have H2_ := (Option.bind_some _ _).symm.trans H; with_reducible exact H2_) | with_reducible exact H | (rw [hy226]; exact H) | exact H
                         have Ny226 := Aside0.mk hy226
                         clear hy226
                         have H' := Aside0.mk H
                         clear H
                         have p224 : 0 ≤ (x64_3 : Int) := of_decide_eq_true (by first | (with_reducible assumption) | assumption)
                         have q224 : x64_3 < (l0.length : Int) := of_decide_eq_true (by first | (with_reducible assumption) | assumption)
                         obtain ⟨ad224, e224, hx224_0, hx224_1, hx224_2, hx224_3⟩ := at_T38 HR0.out x64_3 p224 q224
                         cases e224
                         replace hx224_0 := (HB.out.cell (World.block_lt_of_cell? w _ hx224_0)).trans hx224_0
                         replace hx224_1 := (HB.out.cell (World.block_lt_of_cell? w _ hx224_1)).trans hx224_1
                         replace hx224_2 := (HB.out.cell (World.block_lt_of_cell? w _ hx224_2)).trans hx224_2
                         replace hx224_3 := (HB.out.cell (World.block_lt_of_cell? w _ hx224_3)).trans hx224_3
                         replace p224 := eq_true p224
                         replace q224 := eq_true q224
                         go_wp2_with (first | ((with_reducible refine gate_dst (N := 14) rfl ?_); refine box_event ?hg (N := 14) ?hd (cs := #[.int .i64 0, .int .u64 0, .int .i64 0, .bool false]) (t := 38) ?hr ?_; (case hd => rfl); (case hg => rfl); (case hr => first | (go_simp; done) | (go_simp; rfl)); intro gb225 hg w43 hbox hb; have n0_ := Aside0.mk (Kd.R_below (Kd.R_elderB (by (try apply RU); exact HO_10.out) gb225 (Nat.le_of_eq hg.symm)) hb); have n1_ := Aside0.mk (blk_below (blkU BK207.out) hb); have n2_ := Aside0.mk (blk_below (blkU BK215.out) hb); have n3_ := Aside0.mk (below_step bel_ hb); have n4_ := Aside0.mk (hbox); have n5_ := Aside0.mk ((gE_ hg : w.heap.size ≤ gb225)); have n6_ := Aside0.mk ((gE_ hg : w.heap.size ≤ gb225)); have n7_ := Aside0.mk ((by rw [hg]; exact Nat.ne_of_lt (blk_lt (blkU BK207.out)) : gb207 ≠ gb225)); have n8_ := Aside0.mk ((by rw [hg]; exact Nat.ne_of_gt (blk_lt (blkU BK207.out)) : gb225 ≠ gb207)); have n9_ := Aside0.mk ((by rw [hg]; exact Nat.ne_of_lt (blk_lt (blkU BK215.out)) : gb215 ≠ gb225)); have n10_ := Aside0.mk ((by rw [hg]; exact Nat.ne_of_gt (blk_lt (blkU BK215.out)) : gb225 ≠ gb215)); clear HO_10; clear BK207; clear BK215; clear HB; have HO_10 := n0_; have BK207 := n1_; have BK215 := n2_; have HB := n3_; have BK225 := n4_; have GW225 := n5_; have GE225 := n6_; have NB207_225 := n7_; have NB225_207 := n8_; have NB215_225 := n9_; have NB225_215 := n10_; clear n0_ n1_ n2_ n3_ n4_ n5_ n6_ n7_ n8_ n9_ n10_; clear hb hbox hg; have hnb44 := NB225_207.out; have hnc44 := NB207_225.out; have hnb45 := NB225_215.out; have hnc45 := NB215_225.out; obtain ⟨hcz46_0, hcz46_1, hcz46_2, hcz46_3, hfz46_0, hfz46_1, hfz46_2, hfz46_3⟩ := cz4_ BK225.out; have hnb47 := NB207_215.out; have hnc47 := NB215_207.out; obtain ⟨hcz48_0, hcz48_1, hcz48_2, hcz48_3, hcz48_4, hcz48_5, hcz48_6, hcz48_7, hcz48_8, hcz48_9, hcz48_10, hcz48_11, hfz48_0, hfz48_1, hfz48_2, hfz48_3, hfz48_4, hfz48_5, hfz48_6, hfz48_7, hfz48_8, hfz48_9, hfz48_10, hfz48_11⟩ := cz12_ BK207.out) | ((with_reducible refine gate_builtin (b := .append) (xs := #[.tmp 73, .tmp 75]) rfl ?_); at_builtin; refine Kd.R_append k38 (w0 := w) w.heap.size rfl (.tmp 73) (.tmp 75) 22 38 (.agg #[(.int .i64 0), (.int .u64 0), (.int .i64 0), (.bool false)]) 32 rfl Try.underlying22 info38 rfl (by decide) (by omega) u10 x10_3 (⟨(rd_T38 l0 x64_3).f0, (rd_T38 l0 x64_3).f1, (rd_T38 l0 x64_3).f2, (rd_T38 l0 x64_3).f3⟩ : S38) [.int .i64 ((rd_T38 l0 x64_3).f0), .int .u64 ((rd_T38 l0 x64_3).f1), .int .i64 ((rd_T38 l0 x64_3).f2), .bool ((rd_T38 l0 x64_3).f3)] (fun k_ => k_ ≠ gb215 ∧ k_ ≠ gb225) (fun _ => False) rfl (by first | (go_simp; done) | (go_simp; rfl)) ?aP (fun _ hk => hk.elim) ?aF ?aO ?aB ?aS ?aL ?_; (case aP => exact k38_mkM _ _ _ (⟨(rd_T38 l0 x64_3).f0, (rd_T38 l0 x64_3).f1, (rd_T38 l0 x64_3).f2, (rd_T38 l0 x64_3).f3⟩ : S38)); (case aB => exact bel_); (case aF => exact (fun k_ hk => ⟨Kd.freshB (g := gb215) (o := .cells #[.int .i64 a1_1, .int .u64 a1_2, .int .i64 a1_3, .bool (a1_0 != 2)] 38 (0, 0)) (by refine blkU ?_; refine blk_far ?_ NB215_225.out _; refine blkU ?_; refine blk_far ?_ NB215_225.out _; refine blkU ?_; refine blk_far ?_ NB215_225.out _; refine blkU ?_; refine blk_far ?_ NB215_225.out _; refine blkU ?_; exact BK215.out) k_ hk, Kd.freshB (g := gb225) (o := .cells #[.int .i64 ((rd_T38 l0 x64_3).f0), .int .u64 ((rd_T38 l0 x64_3).f1), .int .i64 ((rd_T38 l0 x64_3).f2), .bool ((rd_T38 l0 x64_3).f3)] 38 (0, 0)) (by refine blkU ?_; refine blk_put (cs := #[.int .i64 ((rd_T38 l0 x64_3).f0), .int .u64 ((rd_T38 l0 x64_3).f1), .int .i64 ((rd_T38 l0 x64_3).f2), .bool false]) ?_ 3 _ rfl; refine blkU ?_; refine blk_put (cs := #[.int .i64 ((rd_T38 l0 x64_3).f0), .int .u64 ((rd_T38 l0 x64_3).f1), .int .i64 0, .bool false]) ?_ 2 _ rfl; refine blkU ?_; refine blk_put (cs := #[.int .i64 ((rd_T38 l0 x64_3).f0), .int .u64 0, .int .i64 0, .bool false]) ?_ 1 _ rfl; refine blkU ?_; refine blk_put (cs := #[.int .i64 0, .int .u64 0, .int .i64 0, .bool false]) ?_ 0 _ rfl; refine blkU ?_; exact BK225.out) k_ hk⟩)); (case aO => exact (by (try apply RU); exact Kd.R_mono (Kd.R_far (p := ⟨gb225, 3, none⟩) (Kd.R_far (p := ⟨gb225, 2, none⟩) (Kd.R_far (p := ⟨gb225, 1, none⟩) (Kd.R_far (p := ⟨gb225, 0, none⟩) (Kd.R_mono HO_10.out (fun k_ hk => (⟨hk, hk.2⟩ : _ ∧ k_ ≠ gb225))) (fun _ hk => hk.2) (.int .i64 ((rd_T38 l0 x64_3).f0))) (fun _ hk => hk.2) (.int .u64 ((rd_T38 l0 x64_3).f1))) (fun _ hk => hk.2) (.int .i64 ((rd_T38 l0 x64_3).f2))) (fun _ hk => hk.2) (.bool ((rd_T38 l0 x64_3).f3))) (fun _ hk => ⟨hk.1.1, hk.1.2⟩))); (case aS => exact (below_size bel_)); (case aL => have := LMc42.out; omega); intro v227 w49 ho hb hg hat; rw [← Ny226.out] at ho; have n0_ := Aside0.mk (blk_grown (g := gb207) (o := .cells #[.int .u8 a1_0, .int .i64 a1_1, .int .u64 a1_2, .int .i64 a1_3, .bool a1_4, .int .u64 a1_5, .int .u64 a1_6, .int .i64 a1_7, .int .u8 a1_8, .int .i64 a1_9, .int .i64 a1_10, .int .i64 a1_11] 33 (0, 0)) (by refine blkU ?_; refine blk_far ?_ NB207_225.out _; refine blkU ?_; refine blk_far ?_ NB207_225.out _; refine blkU ?_; refine blk_far ?_ NB207_225.out _; refine blkU ?_; refine blk_far ?_ NB207_225.out _; refine blkU ?_; exact BK207.out) hg (Kd.R_ne HO_10.out BK207.out (by decide))); have n1_ := Aside0.mk (blk_grown (g := gb215) (o := .cells #[.int .i64 a1_1, .int .u64 a1_2, .int .i64 a1_3, .bool (a1_0 != 2)] 38 (0, 0)) (by refine blkU ?_; refine blk_far ?_ NB215_225.out _; refine blkU ?_; refine blk_far ?_ NB215_225.out _; refine blkU ?_; refine blk_far ?_ NB215_225.out _; refine blkU ?_; refine blk_far ?_ NB215_225.out _; refine blkU ?_; exact BK215.out) hg (Kd.R_away HO_10.out (fun _ hk => hk.1))); have n2_ := Aside0.mk (blk_grown (g := gb225) (o := .cells #[.int .i64 ((rd_T38 l0 x64_3).f0), .int .u64 ((rd_T38 l0 x64_3).f1), .int .i64 ((rd_T38 l0 x64_3).f2), .bool ((rd_T38 l0 x64_3).f3)] 38 (0, 0)) (by refine blkU ?_; refine blk_put (cs := #[.int .i64 ((rd_T38 l0 x64_3).f0), .int .u64 ((rd_T38 l0 x64_3).f1), .int .i64 ((rd_T38 l0 x64_3).f2), .bool false]) ?_ 3 _ rfl; refine blkU ?_; refine blk_put (cs := #[.int .i64 ((rd_T38 l0 x64_3).f0), .int .u64 ((rd_T38 l0 x64_3).f1), .int .i64 0, .bool false]) ?_ 2 _ rfl; refine blkU ?_; refine blk_put (cs := #[.int .i64 ((rd_T38 l0 x64_3).f0), .int .u64 0, .int .i64 0, .bool false]) ?_ 1 _ rfl; refine blkU ?_; refine blk_put (cs := #[.int .i64 0, .int .u64 0, .int .i64 0, .bool false]) ?_ 0 _ rfl; refine blkU ?_; exact BK225.out) hg (Kd.R_away HO_10.out (fun _ hk => hk.2))); have n3_ := Aside0.mk (hb); have n4_ := Aside0.mk (ho); clear BK207; clear BK215; clear BK225; clear HB; clear HO_10; have BK207 := n0_; have BK215 := n1_; have BK225 := n2_; have HB := n3_; have HO228 := n4_; clear n0_ n1_ n2_ n3_ n4_; clear ho hb hg hat))
                         go_roundg k3
                         case measure => have := HJ4.out; have := HK2.out; have := HK3.out; omega
                         case rel => exact ⟨(y226), (wrap64 (x64_3 + 1)), st_, H', ⟨by have := HJ4.out; have := HK2.out; have := HK3.out; omega⟩, ⟨by (try apply RU); exact Kd.R_mono HO228.out (fun _ hk => hk.1)⟩, ⟨by refine blkU ?_; exact BK207.out⟩, ⟨by refine blkU ?_; exact BK215.out⟩, ⟨bel_⟩⟩
                       · rw [if_neg c42] at H
                         exact absurd H (by simp)
                     · rw [if_neg c41] at H
                       have c41b0 : decide (a1_1 < ((rd_T38 l0 x64_3).f0)) = false := decide_eq_false c41
                       clear c41
                       have H' := Aside0.mk H
                       clear H
                       have p224 : 0 ≤ (x64_3 : Int) := of_decide_eq_true (by first | (with_reducible assumption) | assumption)
                       have q224 : x64_3 < (l0.length : Int) := of_decide_eq_true (by first | (with_reducible assumption) | assumption)
                       obtain ⟨ad224, e224, hx224_0, hx224_1, hx224_2, hx224_3⟩ := at_T38 HR0.out x64_3 p224 q224
                       cases e224
                       replace hx224_0 := (HB.out.cell (World.block_lt_of_cell? w _ hx224_0)).trans hx224_0
                       replace hx224_1 := (HB.out.cell (World.block_lt_of_cell? w _ hx224_1)).trans hx224_1
                       replace hx224_2 := (HB.out.cell (World.block_lt_of_cell? w _ hx224_2)).trans hx224_2
                       replace hx224_3 := (HB.out.cell (World.block_lt_of_cell? w _ hx224_3)).trans hx224_3
                       replace p224 := eq_true p224
                       replace q224 := eq_true q224
                       go_wp2_with (first | ((with_reducible refine gate_dst (N := 14) rfl ?_); refine box_event ?hg (N := 14) ?hd (cs := #[.int .i64 0, .int .u64 0, .int .i64 0, .bool false]) (t := 38) ?hr ?_; (case hd => rfl); (case hg => rfl); (case hr => first | (go_simp; done) | (go_simp; rfl)); intro gb225 hg w50 hbox hb; have n0_ := Aside0.mk (Kd.R_below (Kd.R_elderB (by (try apply RU); exact HO_10.out) gb225 (Nat.le_of_eq hg.symm)) hb); have n1_ := Aside0.mk (blk_below (blkU BK207.out) hb); have n2_ := Aside0.mk (blk_below (blkU BK215.out) hb); have n3_ := Aside0.mk (below_step bel_ hb); have n4_ := Aside0.mk (hbox); have n5_ := Aside0.mk ((gE_ hg : w.heap.size ≤ gb225)); have n6_ := Aside0.mk ((gE_ hg : w.heap.size ≤ gb225)); have n7_ := Aside0.mk ((by rw [hg]; exact Nat.ne_of_lt (blk_lt (blkU BK207.out)) : gb207 ≠ gb225)); have n8_ := Aside0.mk ((by rw [hg]; exact Nat.ne_of_gt (blk_lt (blkU BK207.out)) : gb225 ≠ gb207)); have n9_ := Aside0.mk ((by rw [hg]; exact Nat.ne_of_lt (blk_lt (blkU BK215.out)) : gb215 ≠ gb225)); have n10_ := Aside0.mk ((by rw [hg]; exact Nat.ne_of_gt (blk_lt (blkU BK215.out)) : gb225 ≠ gb215)); clear HO_10; clear BK207; clear BK215; clear HB; have HO_10 := n0_; have BK207 := n1_; have BK215 := n2_; have HB := n3_; have BK225 := n4_; have GW225 := n5_; have GE225 := n6_; have NB207_225 := n7_; have NB225_207 := n8_; have NB215_225 := n9_; have NB225_215 := n10_; clear n0_ n1_ n2_ n3_ n4_ n5_ n6_ n7_ n8_ n9_ n10_; clear hb hbox hg; have hnb51 := NB225_207.out; have hnc51 := NB207_225.out; have hnb52 := NB225_215.out; have hnc52 := NB215_225.out; obtain ⟨hcz53_0, hcz53_1, hcz53_2, hcz53_3, hfz53_0, hfz53_1, hfz53_2, hfz53_3⟩ := cz4_ BK225.out; have hnb54 := NB207_215.out; have hnc54 := NB215_207.out; obtain ⟨hcz55_0, hcz55_1, hcz55_2, hcz55_3, hcz55_4, hcz55_5, hcz55_6, hcz55_7, hcz55_8, hcz55_9, hcz55_10, hcz55_11, hfz55_0, hfz55_1, hfz55_2, hfz55_3, hfz55_4, hfz55_5, hfz55_6, hfz55_7, hfz55_8, hfz55_9, hfz55_10, hfz55_11⟩ := cz12_ BK207.out))
                       go_roundg k3
                       case measure => have := HJ4.out; have := HK2.out; have := HK3.out; omega
                       case rel => exact ⟨(x10_3), (wrap64 (x64_3 + 1)), st_, H', ⟨by have := HJ4.out; have := HK2.out; have := HK3.out; omega⟩, ⟨by (try apply RU); exact Kd.R_mono (Kd.R_far (p := ⟨gb225, 3, none⟩) (Kd.R_far (p := ⟨gb225, 2, none⟩) (Kd.R_far (p := ⟨gb225, 1, none⟩) (Kd.R_far (p := ⟨gb225, 0, none⟩) (Kd.R_mono HO_10.out (fun k_ hk => (⟨hk, hk.2⟩ : _ ∧ k_ ≠ gb225))) (fun _ hk => hk.2) (.int .i64 ((rd_T38 l0 x64_3).f0))) (fun _ hk => hk.2) (.int .u64 ((rd_T38 l0 x64_3).f1))) (fun _ hk => hk.2) (.int .i64 ((rd_T38 l0 x64_3).f2))) (fun _ hk => hk.2) (.bool ((rd_T38 l0 x64_3).f3))) (fun _ hk => hk.1.1)⟩, ⟨by refine blkU ?_; refine blk_far ?_ NB207_225.out _; refine blkU ?_; refine blk_far ?_ NB207_225.out _; refine blkU ?_; refine blk_far ?_ NB207_225.out _; refine blkU ?_; refine blk_far ?_ NB207_225.out _; refine blkU ?_; exact BK207.out⟩, ⟨by refine blkU ?_; refine blk_far ?_ NB215_225.out _; refine blkU ?_; refine blk_far ?_ NB215_225.out _; refine blkU ?_; refine blk_far ?_ NB215_225.out _; refine blkU ?_; refine blk_far ?_ NB215_225.out _; refine blkU ?_; exact BK215.out⟩, ⟨bel_⟩⟩
                   · rw [if_neg c40] at H
                     exact absurd H (by simp)
                 · rw [if_neg c39] at H
                   exact absurd H (by simp)
               · rw [if_neg c38] at H
                 have c38b0 : decide (x64_3 < (l0.length : Int)) = false := decide_eq_false c38
                 clear c38
                 simp only [Option.some.injEq, Prod.mk.injEq] at H
                 obtain ⟨rfl, rfl⟩ := H
                 go_wp2
                 go_ret2
                 exact ⟨_, by first | rfl | (simp [errW_none, errW_some] <;> rfl) | (simp [*, errW_none, errW_some] <;> rfl), by (try apply RU); exact Kd.R_mono HO_10.out (fun _ hk => trivial), bel_⟩
           · rw [if_neg c34] at H
             exact absurd H (by simp)
     · rw [if_neg c11] at H
       have c11b0 : (t208 == 0) = false := beq_eq_false_iff_ne.mpr c11
       have c11b1 : (t208 != 0) = true := bne_iff_ne.mpr c11
       obtain ⟨y209, hy209⟩ : ∃ y_ : List (S38), y_ = (([] : List (S38))) := ⟨_, rfl⟩
       replace H : (if y209.length + l0.length < 4398046511104 then (some ((y209 ++ l0), t208)) else (none)) = some (r1, r2) := by first | (rw [hy209]; with_reducible exact H) | (have H2_ := (Option.bind_some _ _).symm.trans H; rw [hy209]; with_reducible exact H2_) | (have H2_ := (Option.bind_some _ _).symm.trans H; with_reducible exact H2_) | with_reducible exact H | (rw [hy209]; exact H) | exact H
       have Ny209 := Aside0.mk hy209
       clear hy209
       by_cases c56 : y209.length + l0.length < 4398046511104
       · rw [if_pos c56] at H
         have LMc56 := Aside0.mk c56
         clear c56
         obtain ⟨y212, hy212⟩ : ∃ y_ : List (S38), y_ = (y209 ++ l0) := ⟨_, rfl⟩
         replace H : (some (y212, t208)) = some (r1, r2) := by first | (rw [hy212]; with_reducible exact H) | (have H2_ := (Option.bind_some _ _).symm.trans H; rw [hy212]; with_reducible exact H2_) | (have H2_ := (Option.bind_some _ _).symm.trans H; with_reducible exact H2_) | with_reducible exact H | (rw [hy212]; exact H) | exact H
         have Ny212 := Aside0.mk hy212
         clear hy212
         simp only [Option.some.injEq, Prod.mk.injEq] at H
         obtain ⟨rfl, rfl⟩ := H
         go_wp2_with (first | ((with_reducible refine gate_dst (N := 28) rfl ?_); refine Kd.R_lit k38 _ 38 ?hg (N := 28) ?hd (xs := ([] : List (S38))) (inner := []) (ok := fun _ => True) (okp := fun _ => True) ?hr ?hp (fun _ hk => hk) trivial (Below.refl _ _) (Nat.le_refl _) (by simp) ?_; (case hd => rfl); (case hg => rfl); (case hr => first | (go_simp; done) | (go_simp; rfl)); (case hp => exact (Reps.none _ _)); intro v210 w57 ho58 hb hg_ hnew_; clear hg_ hnew_; (first | rw [← Ny209.out] at ho58 | (simp only [Int.reduceToNat] at ho58; rw [← Ny209.out] at ho58)); have n0_ := Aside0.mk (Kd.R_lower ho58 (below_size bel_)); have n1_ := Aside0.mk (blk_below (blkU BK207.out) hb); have n2_ := Aside0.mk (below_step bel_ hb); clear BK207; clear HB; have HO211 := n0_; have BK207 := n1_; have HB := n2_; clear n0_ n1_ n2_; clear hb ho58) | ((with_reducible refine gate_builtin (b := .append) (xs := #[.tmp 28, .tmp 29]) rfl ?_); at_builtin; refine Kd.R_append_rows k38 (w0 := w) w.heap.size rfl (.tmp 28) (.tmp 29) 22 38 (.agg #[(.int .i64 0), (.int .u64 0), (.int .i64 0), (.bool false)]) 32 rfl Try.underlying22 info38 rfl (by decide) (by omega) v210 y209 l0 _ _ _ (fun _ => True) (fun _ => False) rfl rfl ?aO ?aR (fun _ _ h => h) (fun _ h => h.elim) ?aF ?aB ?aS ?aL ?_; (case aR => exact CU (Kd.C_below HR0.out HB.out)); (case aB => exact bel_); (case aF => exact (fun _ _ => trivial)); (case aO => exact (by (try apply RU); exact HO211.out)); (case aS => exact (below_size bel_)); (case aL => have := LMc56.out; omega); intro v213 w59 ho hb hg hat; rw [← Ny212.out] at ho; have n0_ := Aside0.mk (blk_grown (g := gb207) (o := .cells #[.int .u8 a1_0, .int .i64 a1_1, .int .u64 a1_2, .int .i64 a1_3, .bool a1_4, .int .u64 a1_5, .int .u64 a1_6, .int .i64 a1_7, .int .u8 a1_8, .int .i64 a1_9, .int .i64 a1_10, .int .i64 a1_11] 33 (0, 0)) (blkU BK207.out) hg (Kd.R_ne HO211.out BK207.out (by decide))); have n1_ := Aside0.mk (hb); have n2_ := Aside0.mk (ho); clear BK207; clear HB; clear HO211; have BK207 := n0_; have HB := n1_; have HO214 := n2_; clear n0_ n1_ n2_; clear ho hb hg hat))
         go_ret2
         exact ⟨_, by first | rfl | (simp [errW_none, errW_some] <;> rfl) | (simp [*, errW_none, errW_some] <;> rfl), by (try apply RU); exact HO214.out, bel_⟩
       · rw [if_neg c56] at H
         exact absurd H (by simp)
end Go.Proofs.Ytdccjkeiifplnaa.P
