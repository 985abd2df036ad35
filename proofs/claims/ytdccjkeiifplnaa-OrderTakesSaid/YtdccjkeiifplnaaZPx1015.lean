-- kept, by a program of this session, of a text that the printer or this session wrote
import Derived.Test.YtdccjkeiifplnaaZPx0
import Derived.Test.YtdccjkeiifplnaaZPx1010
import Derived.Test.YtdccjkeiifplnaaZPx1013
import Derived.Test.YtdccjkeiifplnaaZPx1025
namespace Go.Proofs.Ytdccjkeiifplnaa.P
open Go.RowKit Go.Proofs.YtdccjkeiifplnaaW.PrintWords Go.Proofs.YtdccjkeiifplnaaW.PrintLast Go.Proofs.YtdccjkeiifplnaaW.PrintMore
attribute [local go_sem] max2_int min2_int max_two min_two max_three min_three max_four min_four
set_option linter.unusedVariables false
set_option linter.unusedSimpArgs false
mutual
def spoorref14_May.j0 : Nat → List (S38) → Int → Bool → Int → Int → Int → Int → Bool → Int → Int → Int → Int → Int → Int → Int → Option (Int)
 | 0, _, _, _, _, _, _, _, _, _, _, _, _, _, _, _ => none
 | k + 1, x0, x2, x16, x199000, x199001, x199002, x199003, x199004, x199005, x199006, x199007, x199008, x199009, x199010, x199011 => if x16 = true then (some 2) else (if x2 < (-1) then (spoorref14_May.j1 k x0 x2 true x199000 x199001 x199002 x199003 x199004 x199005 x199006 x199007 x199008 x199009 x199010 x199011) else (spoorref14_May.j1 k x0 x2 (decide (x2 > 1099511627776)) x199000 x199001 x199002 x199003 x199004 x199005 x199006 x199007 x199008 x199009 x199010 x199011))
def spoorref14_May.j1 : Nat → List (S38) → Int → Bool → Int → Int → Int → Int → Bool → Int → Int → Int → Int → Int → Int → Int → Option (Int)
 | 0, _, _, _, _, _, _, _, _, _, _, _, _, _, _, _ => none
 | k + 1, x0, x2, x22, x199000, x199001, x199002, x199003, x199004, x199005, x199006, x199007, x199008, x199009, x199010, x199011 => if x22 = true then (some 1) else ((spoorref14_Find.f k x0 x199001).bind fun bt201 => (if bt201.2.2.2.2 = true then (spoorref14_May.j2 k x0 x2 bt201.2.2.2.2 false x199000 x199001 x199002 x199003 x199004 x199005 x199006 x199007 x199008 x199009 x199010 x199011 bt201.1 bt201.2.1 bt201.2.2.1 bt201.2.2.2.1) else (spoorref14_May.j2 k x0 x2 bt201.2.2.2.2 (x199000 != 1) x199000 x199001 x199002 x199003 x199004 x199005 x199006 x199007 x199008 x199009 x199010 x199011 bt201.1 bt201.2.1 bt201.2.2.1 bt201.2.2.2.1)))
def spoorref14_May.j2 : Nat → List (S38) → Int → Bool → Bool → Int → Int → Int → Int → Bool → Int → Int → Int → Int → Int → Int → Int → Int → Int → Int → Bool → Option (Int)
 | 0, _, _, _, _, _, _, _, _, _, _, _, _, _, _, _, _, _, _, _, _ => none
 | k + 1, x0, x2, x8, x36, x199000, x199001, x199002, x199003, x199004, x199005, x199006, x199007, x199008, x199009, x199010, x199011, x207000, x207001, x207002, x207003 => if x36 = true then (some 14) else (if x199002 = (IntKind.u64.wrap (x207001 + 1)) then (if x199003 < x207002 then (spoorref14_May.j3 k x0 x8 true x199000 x199001 x199002 x199003 x199004 x199005 x199006 x199007 x199008 x199009 x199010 x199011 x207000 x207001 x207002 x207003) else (spoorref14_May.j3 k x0 x8 (decide (x199003 ≤ x2)) x199000 x199001 x199002 x199003 x199004 x199005 x199006 x199007 x199008 x199009 x199010 x199011 x207000 x207001 x207002 x207003)) else (some 12))
def spoorref14_May.j3 : Nat → List (S38) → Bool → Bool → Int → Int → Int → Int → Bool → Int → Int → Int → Int → Int → Int → Int → Int → Int → Int → Bool → Option (Int)
 | 0, _, _, _, _, _, _, _, _, _, _, _, _, _, _, _, _, _, _, _ => none
 | k + 1, x0, x8, x53, x199000, x199001, x199002, x199003, x199004, x199005, x199006, x199007, x199008, x199009, x199010, x199011, x207000, x207001, x207002, x207003 => if x53 = true then (some 13) else (if (x207003 == (x199000 == 1)) = true then (some 10) else (if x8 = true then (some 0) else (if (x0.length : Int) = 64 then (some 8) else (some 0))))
end
def spoorref14_May.f (k : Nat) (l0 : List (S38)) (a1_0 : Int) (a1_1 : Int) (a1_2 : Int) (a1_3 : Int) (a1_4 : Bool) (a1_5 : Int) (a1_6 : Int) (a1_7 : Int) (a1_8 : Int) (a1_9 : Int) (a1_10 : Int) (a1_11 : Int) (a2 : Int) : Option (Int) := (spoorref14_Check.f k l0).bind fun t199 => (if t199 = 0 then ((spoorref11_Check.f k a1_0 a1_1 a1_2 a1_3 a1_4 a1_5 a1_6 a1_7 a1_8 a1_9 a1_10 a1_11).bind fun t200 => (spoorref14_May.j0 k l0 a2 (t200 != 0) a1_0 a1_1 a1_2 a1_3 a1_4 a1_5 a1_6 a1_7 a1_8 a1_9 a1_10 a1_11)) else (spoorref14_May.j0 k l0 a2 true a1_0 a1_1 a1_2 a1_3 a1_4 a1_5 a1_6 a1_7 a1_8 a1_9 a1_10 a1_11))
set_option maxHeartbeats 8000000 in
set_option maxRecDepth 100000 in
theorem spoorref14_May.calls (k : Nat) (A0 : Option Addr) (c0 : Nat) (l0 : List (S38)) (a1_0 : Int) (a1_1 : Int) (a1_2 : Int) (a1_3 : Int) (a1_4 : Bool) (a1_5 : Int) (a1_6 : Int) (a1_7 : Int) (a1_8 : Int) (a1_9 : Int) (a1_10 : Int) (a1_11 : Int) (a2 : Int) (r : Int) (w : World) (hr0 : Kd.C k38 w A0 l0.length l0) (hc0 : l0.length ≤ c0) (h : spoorref14_May.f k l0 a1_0 a1_1 a1_2 a1_3 a1_4 a1_5 a1_6 a1_7 a1_8 a1_9 a1_10 a1_11 a2 = some r) :
 Calls Try.prog 15 #[.slice A0 l0.length c0, .agg #[.int .u8 a1_0, .int .i64 a1_1, .int .u64 a1_2, .int .i64 a1_3, .bool a1_4, .int .u64 a1_5, .int .u64 a1_6, .int .i64 a1_7, .int .u8 a1_8, .int .i64 a1_9, .int .i64 a1_10, .int .i64 a1_11], .int .i64 a2] w fun e w' => e = .returned (.int .i64 r) ∧ Below w.heap.size w w' := by
 have hu33 := Try.underlying33
 have hu38 := Try.underlying38
 have HR0 := Aside0.mk hr0
 have HC0 := Aside0.mk hc0
 clear hr0 hc0
 have HB := Aside0.mk (Below.refl w.heap.size w)
 have H : ((spoorref14_Check.f k l0).bind fun t199 => (if t199 = 0 then ((spoorref11_Check.f k a1_0 a1_1 a1_2 a1_3 a1_4 a1_5 a1_6 a1_7 a1_8 a1_9 a1_10 a1_11).bind fun t200 => (spoorref14_May.j0 k l0 a2 (t200 != 0) a1_0 a1_1 a1_2 a1_3 a1_4 a1_5 a1_6 a1_7 a1_8 a1_9 a1_10 a1_11)) else (spoorref14_May.j0 k l0 a2 true a1_0 a1_1 a1_2 a1_3 a1_4 a1_5 a1_6 a1_7 a1_8 a1_9 a1_10 a1_11))) = some r := h
 clear h
 have HC4 := Aside0.mk H
 clear H
 go_enter Try.func15, Try.ntmps15
 go_upto_region 1 with (first | ((with_reducible refine gate_dst (N := 4) rfl ?_); (try (refine gate_guard (by rfl) ?_; dsimp only)); refine box_event ?hg (N := 4) ?hd (cs := #[.int .u8 a1_0, .int .i64 a1_1, .int .u64 a1_2, .int .i64 a1_3, .bool a1_4, .int .u64 a1_5, .int .u64 a1_6, .int .i64 a1_7, .int .u8 a1_8, .int .i64 a1_9, .int .i64 a1_10, .int .i64 a1_11]) (t := 33) ?hr ?_; (case hd => rfl); (case hg => rfl); (case hr => first | (go_simp; done) | (go_simp; rfl)); intro gb198 hg w5 hbox hb; have n0_ := Aside0.mk (below_step bel_ hb); have n1_ := Aside0.mk (hbox); have n2_ := Aside0.mk ((gE_ hg : w.heap.size ≤ gb198)); have n3_ := Aside0.mk ((gE_ hg : w.heap.size ≤ gb198)); clear HB; have HB := n0_; have BK198 := n1_; have GW198 := n2_; have GE198 := n3_; clear n0_ n1_ n2_ n3_; clear hb hbox hg))
 (try simp only [Act.put, List.setIfInBounds_toArray, List.set_cons_zero, List.set_cons_succ])
 go_cut [16] (fun v16 wc => ∃ (kq : Nat) (x16_3 : Bool), v16 = .bool x16_3 ∧ Aside0 (spoorref14_May.j0 kq l0 a2 x16_3 a1_0 a1_1 a1_2 a1_3 a1_4 a1_5 a1_6 a1_7 a1_8 a1_9 a1_10 a1_11 = some r) ∧ Aside0 (kq ≤ k) ∧ Aside0 (wc.heap[gb198]? = some (.cells #[.int .u8 a1_0, .int .i64 a1_1, .int .u64 a1_2, .int .i64 a1_3, .bool a1_4, .int .u64 a1_5, .int .u64 a1_6, .int .i64 a1_7, .int .u8 a1_8, .int .i64 a1_9, .int .i64 a1_10, .int .i64 a1_11] 33 (0, 0))) ∧ Aside0 (Below w.heap.size w wc))
 case first =>
  have H := HC4.out
  clear HC4
  replace H := Option.bind_eq_some_iff.mp H
  obtain ⟨t199, A60, H⟩ := H
  replace H : (if t199 = 0 then ((spoorref11_Check.f k a1_0 a1_1 a1_2 a1_3 a1_4 a1_5 a1_6 a1_7 a1_8 a1_9 a1_10 a1_11).bind fun t200 => (spoorref14_May.j0 k l0 a2 (t200 != 0) a1_0 a1_1 a1_2 a1_3 a1_4 a1_5 a1_6 a1_7 a1_8 a1_9 a1_10 a1_11)) else (spoorref14_May.j0 k l0 a2 true a1_0 a1_1 a1_2 a1_3 a1_4 a1_5 a1_6 a1_7 a1_8 a1_9 a1_10 a1_11)) = some r := H
  have A6 := Aside0.mk A60
  clear A60
  by_cases c7 : t199 = 0
  · rw [if_pos c7] at H
    have c7b0 : (t199 == 0) = true := beq_iff_eq.mpr c7
    have c7b1 : (t199 != 0) = false := bne_eq_false_iff_eq.mpr c7
    clear c7
    (first | rw [c7b0] | (simp only [i64_w, i32_w]; rw [c7b0]) | skip)
    replace H := Option.bind_eq_some_iff.mp H
    obtain ⟨t200, A80, H⟩ := H
    replace H : (spoorref14_May.j0 k l0 a2 (t200 != 0) a1_0 a1_1 a1_2 a1_3 a1_4 a1_5 a1_6 a1_7 a1_8 a1_9 a1_10 a1_11) = some r := H
    have A8 := Aside0.mk A80
    clear A80
    have H' := Aside0.mk H
    clear H
    go_wp2_with (first | ((with_reducible refine gate_callee (f := 13) rfl ?_); refine goesL_ (some 10) rfl rfl Try.func13 (by kernel_rfl) rfl #[.slice A0 l0.length c0] rfl args_ ?_; (with_reducible refine (spoorref14_Check.calls k _ _ l0 t199 _ ?side1 ?side2 A6.out).mono ?_); (case side1 => exact CU (Kd.C_below HR0.out HB.out)); (case side2 => exact HC0.out); rintro e w9 ⟨rfl, hb⟩; refine ⟨_, rfl, ?_⟩; have n0_ := Aside0.mk (blk_below (blkU BK198.out) hb); have n1_ := Aside0.mk (below_step bel_ hb); clear BK198; clear HB; have BK198 := n0_; have HB := n1_; clear n0_ n1_; (try clear hb); (try clear hb2); (try clear hk); (try clear hi); obtain ⟨hcz10_0, hcz10_1, hcz10_2, hcz10_3, hcz10_4, hcz10_5, hcz10_6, hcz10_7, hcz10_8, hcz10_9, hcz10_10, hcz10_11, hfz10_0, hfz10_1, hfz10_2, hfz10_3, hfz10_4, hfz10_5, hfz10_6, hfz10_7, hfz10_8, hfz10_9, hfz10_10, hfz10_11⟩ := cz12_ BK198.out) | (go_at_call 25; (with_reducible refine (spoorref11_Check.calls k a1_0 a1_1 a1_2 a1_3 a1_4 a1_5 a1_6 a1_7 a1_8 a1_9 a1_10 a1_11 t200 _ A8.out).mono ?_); rintro e w11 ⟨rfl, hb⟩; have n0_ := Aside0.mk (blk_below (blkU BK198.out) hb); have n1_ := Aside0.mk (below_step bel_ hb); clear BK198; clear HB; have BK198 := n0_; have HB := n1_; clear n0_ n1_; (try clear hb); (try clear hb2); (try clear hk); (try clear hi)))
    go_meet
    case rel => exact ⟨_, ((t200 != 0)), st_, H', ⟨by first | omega | exact Nat.le_refl _⟩, ⟨by refine blkU ?_; exact BK198.out⟩, ⟨bel_⟩⟩
  · rw [if_neg c7] at H
    have c7b0 : (t199 == 0) = false := beq_eq_false_iff_ne.mpr c7
    have c7b1 : (t199 != 0) = true := bne_iff_ne.mpr c7
    (first | rw [c7b0] | (simp only [i64_w, i32_w]; rw [c7b0]) | skip)
    have H' := Aside0.mk H
    clear H
    go_wp2_with (first | ((with_reducible refine gate_callee (f := 13) rfl ?_); refine goesL_ (some 10) rfl rfl Try.func13 (by kernel_rfl) rfl #[.slice A0 l0.length c0] rfl args_ ?_; (with_reducible refine (spoorref14_Check.calls k _ _ l0 t199 _ ?side1 ?side2 A6.out).mono ?_); (case side1 => exact CU (Kd.C_below HR0.out HB.out)); (case side2 => exact HC0.out); rintro e w12 ⟨rfl, hb⟩; refine ⟨_, rfl, ?_⟩; have n0_ := Aside0.mk (blk_below (blkU BK198.out) hb); have n1_ := Aside0.mk (below_step bel_ hb); clear BK198; clear HB; have BK198 := n0_; have HB := n1_; clear n0_ n1_; (try clear hb); (try clear hb2); (try clear hk); (try clear hi)))
    go_meet
    case rel => exact ⟨_, (true), st_, H', ⟨by first | omega | exact Nat.le_refl _⟩, ⟨by refine blkU ?_; exact BK198.out⟩, ⟨bel_⟩⟩
 case rest =>
  clear HC4; try clear c1; try clear p2; try clear c7; try clear c7b0; try clear c7b1; try clear hcz10_0; try clear hcz10_1; try clear hcz10_10; try clear hcz10_11; try clear hcz10_2; try clear hcz10_3; try clear hcz10_4; try clear hcz10_5; try clear hcz10_6; try clear hcz10_7; try clear hcz10_8; try clear hcz10_9; try clear hfz10_0; try clear hfz10_1; try clear hfz10_10; try clear hfz10_11; try clear hfz10_2; try clear hfz10_3; try clear hfz10_4; try clear hfz10_5; try clear hfz10_6; try clear hfz10_7; try clear hfz10_8; try clear hfz10_9
  obtain ⟨kq, x16_3, rfl, HA, HJ3, BK198, HB⟩ := hcut
  cases kq with
  | zero => exact absurd HA.out (by simp [spoorref14_May.j0])
  | succ kj3 =>
   have H := HA.out
   clear HA
   simp only [spoorref14_May.j0] at H
   by_cases c13 : x16_3 = true
   · subst c13
     have H1 : (some 2) = some r := by rw [if_pos rfl] at H; exact H
     clear H
     have H := H1
     clear H1
     obtain rfl := Option.some.inj H
     go_wp2
     go_ret
     exact fin_ bel_
   · replace c13 := Bool.eq_false_iff.mpr c13
     subst c13
     have H1 : (if a2 < (-1) then (spoorref14_May.j1 kj3 l0 a2 true a1_0 a1_1 a1_2 a1_3 a1_4 a1_5 a1_6 a1_7 a1_8 a1_9 a1_10 a1_11) else (spoorref14_May.j1 kj3 l0 a2 (decide (a2 > 1099511627776)) a1_0 a1_1 a1_2 a1_3 a1_4 a1_5 a1_6 a1_7 a1_8 a1_9 a1_10 a1_11)) = some r := by rw [if_neg (show ¬ (false = true) by decide)] at H; exact H
     clear H
     have H := H1
     clear H1
     have HC14 := Aside0.mk H
     clear H
     go_upto_region 3 with (fail)
     go_cut [22] (fun v22 wc => ∃ (kq : Nat) (x22_13 : Bool), v22 = .bool x22_13 ∧ Aside0 (spoorref14_May.j1 kq l0 a2 x22_13 a1_0 a1_1 a1_2 a1_3 a1_4 a1_5 a1_6 a1_7 a1_8 a1_9 a1_10 a1_11 = some r) ∧ Aside0 (kq ≤ kj3) ∧ Aside0 (wc.heap[gb198]? = some (.cells #[.int .u8 a1_0, .int .i64 a1_1, .int .u64 a1_2, .int .i64 a1_3, .bool a1_4, .int .u64 a1_5, .int .u64 a1_6, .int .i64 a1_7, .int .u8 a1_8, .int .i64 a1_9, .int .i64 a1_10, .int .i64 a1_11] 33 (0, 0))) ∧ Aside0 (Below w.heap.size w wc))
     case first =>
      have H := HC14.out
      clear HC14
      by_cases c15 : a2 < (-1)
      · rw [if_pos c15] at H
        have c15b0 : decide (a2 < (-1)) = true := decide_eq_true c15
        clear c15
        (first | rw [c15b0] | (simp only [i64_w, i32_w]; rw [c15b0]) | skip)
        have H' := Aside0.mk H
        clear H
        go_wp2
        go_meet
        case rel => exact ⟨_, (true), st_, H', ⟨by have := HJ3.out; first | omega | exact Nat.le_refl _⟩, ⟨by refine blkU ?_; exact BK198.out⟩, ⟨bel_⟩⟩
      · rw [if_neg c15] at H
        have c15b0 : decide (a2 < (-1)) = false := decide_eq_false c15
        clear c15
        (first | rw [c15b0] | (simp only [i64_w, i32_w]; rw [c15b0]) | skip)
        have H' := Aside0.mk H
        clear H
        go_wp2
        go_meet
        case rel => exact ⟨_, (decide (a2 > 1099511627776)), st_, H', ⟨by have := HJ3.out; first | omega | exact Nat.le_refl _⟩, ⟨by refine blkU ?_; exact BK198.out⟩, ⟨bel_⟩⟩
     case rest =>
      clear HC14; try clear c1; try clear p2; try clear c7; try clear c7b0; try clear c7b1; try clear c13; try clear c15; try clear c15b0; try clear hcz10_0; try clear hcz10_1; try clear hcz10_10; try clear hcz10_11; try clear hcz10_2; try clear hcz10_3; try clear hcz10_4; try clear hcz10_5; try clear hcz10_6; try clear hcz10_7; try clear hcz10_8; try clear hcz10_9; try clear hfz10_0; try clear hfz10_1; try clear hfz10_10; try clear hfz10_11; try clear hfz10_2; try clear hfz10_3; try clear hfz10_4; try clear hfz10_5; try clear hfz10_6; try clear hfz10_7; try clear hfz10_8; try clear hfz10_9; try clear p2
      obtain ⟨kq, x22_13, rfl, HA, HJ13, BK198, HB⟩ := hcut
      cases kq with
      | zero => exact absurd HA.out (by simp [spoorref14_May.j1])
      | succ kj13 =>
       have H := HA.out
       clear HA
       simp only [spoorref14_May.j1] at H
       by_cases c16 : x22_13 = true
       · subst c16
         have H1 : (some 1) = some r := by rw [if_pos rfl] at H; exact H
         clear H
         have H := H1
         clear H1
         obtain rfl := Option.some.inj H
         go_wp2
         go_ret
         exact fin_ bel_
       · replace c16 := Bool.eq_false_iff.mpr c16
         subst c16
         have H1 : ((spoorref14_Find.f kj13 l0 a1_1).bind fun bt201 => (if bt201.2.2.2.2 = true then (spoorref14_May.j2 kj13 l0 a2 bt201.2.2.2.2 false a1_0 a1_1 a1_2 a1_3 a1_4 a1_5 a1_6 a1_7 a1_8 a1_9 a1_10 a1_11 bt201.1 bt201.2.1 bt201.2.2.1 bt201.2.2.2.1) else (spoorref14_May.j2 kj13 l0 a2 bt201.2.2.2.2 (a1_0 != 1) a1_0 a1_1 a1_2 a1_3 a1_4 a1_5 a1_6 a1_7 a1_8 a1_9 a1_10 a1_11 bt201.1 bt201.2.1 bt201.2.2.1 bt201.2.2.2.1))) = some r := by rw [if_neg (show ¬ (false = true) by decide)] at H; exact H
         clear H
         have H := H1
         clear H1
         replace H := Option.bind_eq_some_iff.mp H
         obtain ⟨⟨t201, t202, t203, t204, t205⟩, A170, H⟩ := H
         replace H : (if t205 = true then (spoorref14_May.j2 kj13 l0 a2 t205 false a1_0 a1_1 a1_2 a1_3 a1_4 a1_5 a1_6 a1_7 a1_8 a1_9 a1_10 a1_11 t201 t202 t203 t204) else (spoorref14_May.j2 kj13 l0 a2 t205 (a1_0 != 1) a1_0 a1_1 a1_2 a1_3 a1_4 a1_5 a1_6 a1_7 a1_8 a1_9 a1_10 a1_11 t201 t202 t203 t204)) = some r := H
         have A17 := Aside0.mk A170
         clear A170
         have HC18 := Aside0.mk H
         clear H
         obtain ⟨hcz19_0, hcz19_1, hcz19_2, hcz19_3, hcz19_4, hcz19_5, hcz19_6, hcz19_7, hcz19_8, hcz19_9, hcz19_10, hcz19_11, hfz19_0, hfz19_1, hfz19_2, hfz19_3, hfz19_4, hfz19_5, hfz19_6, hfz19_7, hfz19_8, hfz19_9, hfz19_10, hfz19_11⟩ := cz12_ BK198.out
         go_upto_region 6 with (first | ((with_reducible refine gate_callee (f := 10) rfl ?_); refine goesL_ (some 27) rfl rfl Try.func10 (by kernel_rfl) rfl #[.slice A0 l0.length c0, .int .i64 a1_1] rfl args_ ?_; (with_reducible refine (spoorref14_Find.calls kj13 _ _ l0 a1_1 t201 t202 t203 t204 t205 _ ?side1 ?side2 A17.out).mono ?_); (case side1 => exact CU (Kd.C_below HR0.out HB.out)); (case side2 => exact HC0.out); rintro e w20 ⟨rfl, hb⟩; refine ⟨_, rfl, ?_⟩; have n0_ := Aside0.mk (blk_below (blkU BK198.out) hb); have n1_ := Aside0.mk (below_step bel_ hb); clear BK198; clear HB; have BK198 := n0_; have HB := n1_; clear n0_ n1_; (try clear hb); (try clear hb2); (try clear hk); (try clear hi)) | ((with_reducible refine gate_dst (N := 7) rfl ?_); (try (refine gate_guard (by rfl) ?_; dsimp only)); refine box_event ?hg (N := 7) ?hd (cs := #[.int .i64 0, .int .u64 0, .int .i64 0, .bool false]) (t := 38) ?hr ?_; (case hd => rfl); (case hg => rfl); (case hr => first | (go_simp; done) | (go_simp; rfl)); intro gb206 hg w21 hbox hb; have n0_ := Aside0.mk (blk_below (blkU BK198.out) hb); have n1_ := Aside0.mk (below_step bel_ hb); have n2_ := Aside0.mk (hbox); have n3_ := Aside0.mk ((gE_ hg : w.heap.size ≤ gb206)); have n4_ := Aside0.mk ((gE_ hg : w.heap.size ≤ gb206)); have n5_ := Aside0.mk ((by rw [hg]; exact Nat.ne_of_lt (blk_lt (blkU BK198.out)) : gb198 ≠ gb206)); have n6_ := Aside0.mk ((by rw [hg]; exact Nat.ne_of_gt (blk_lt (blkU BK198.out)) : gb206 ≠ gb198)); clear BK198; clear HB; have BK198 := n0_; have HB := n1_; have BK206 := n2_; have GW206 := n3_; have GE206 := n4_; have NB198_206 := n5_; have NB206_198 := n6_; clear n0_ n1_ n2_ n3_ n4_ n5_ n6_; clear hb hbox hg; have hnb22 := NB206_198.out; have hnc22 := NB198_206.out; obtain ⟨hcz23_0, hcz23_1, hcz23_2, hcz23_3, hfz23_0, hfz23_1, hfz23_2, hfz23_3⟩ := cz4_ BK206.out))
         (try simp only [Act.put, List.setIfInBounds_toArray, List.set_cons_zero, List.set_cons_succ])
         go_cut [36] (fun v36 wc => ∃ (kq : Nat) (x36_17 : Bool), v36 = .bool x36_17 ∧ Aside0 (spoorref14_May.j2 kq l0 a2 t205 x36_17 a1_0 a1_1 a1_2 a1_3 a1_4 a1_5 a1_6 a1_7 a1_8 a1_9 a1_10 a1_11 t201 t202 t203 t204 = some r) ∧ Aside0 (kq ≤ kj13) ∧ Aside0 (wc.heap[gb198]? = some (.cells #[.int .u8 a1_0, .int .i64 a1_1, .int .u64 a1_2, .int .i64 a1_3, .bool a1_4, .int .u64 a1_5, .int .u64 a1_6, .int .i64 a1_7, .int .u8 a1_8, .int .i64 a1_9, .int .i64 a1_10, .int .i64 a1_11] 33 (0, 0))) ∧ Aside0 (wc.heap[gb206]? = some (.cells #[.int .i64 t201, .int .u64 t202, .int .i64 t203, .bool t204] 38 (0, 0))) ∧ Aside0 (Below w.heap.size w wc))
         case first =>
          have H := HC18.out
          clear HC18
          by_cases c24 : t205 = true
          · subst c24
            have H1 : (spoorref14_May.j2 kj13 l0 a2 true false a1_0 a1_1 a1_2 a1_3 a1_4 a1_5 a1_6 a1_7 a1_8 a1_9 a1_10 a1_11 t201 t202 t203 t204) = some r := by rw [if_pos rfl] at H; exact H
            clear H
            have H := H1
            clear H1
            have H' := Aside0.mk H
            clear H
            go_wp2
            go_meet
            case rel => exact ⟨_, (false), st_, H', ⟨by have := HJ3.out; have := HJ13.out; first | omega | exact Nat.le_refl _⟩, ⟨by refine blkU ?_; refine blk_far ?_ NB198_206.out _; refine blkU ?_; refine blk_far ?_ NB198_206.out _; refine blkU ?_; refine blk_far ?_ NB198_206.out _; refine blkU ?_; refine blk_far ?_ NB198_206.out _; refine blkU ?_; exact BK198.out⟩, ⟨by refine blkU ?_; refine blk_put (cs := #[.int .i64 t201, .int .u64 t202, .int .i64 t203, .bool false]) ?_ 3 _ rfl; refine blkU ?_; refine blk_put (cs := #[.int .i64 t201, .int .u64 t202, .int .i64 0, .bool false]) ?_ 2 _ rfl; refine blkU ?_; refine blk_put (cs := #[.int .i64 t201, .int .u64 0, .int .i64 0, .bool false]) ?_ 1 _ rfl; refine blkU ?_; refine blk_put (cs := #[.int .i64 0, .int .u64 0, .int .i64 0, .bool false]) ?_ 0 _ rfl; refine blkU ?_; exact BK206.out⟩, ⟨bel_⟩⟩
          · replace c24 := Bool.eq_false_iff.mpr c24
            subst c24
            have H1 : (spoorref14_May.j2 kj13 l0 a2 false (a1_0 != 1) a1_0 a1_1 a1_2 a1_3 a1_4 a1_5 a1_6 a1_7 a1_8 a1_9 a1_10 a1_11 t201 t202 t203 t204) = some r := by rw [if_neg (show ¬ (false = true) by decide)] at H; exact H
            clear H
            have H := H1
            clear H1
            have H' := Aside0.mk H
            clear H
            have hnb25 := NB198_206.out
            have hnc25 := NB206_198.out
            obtain ⟨hcz26_0, hcz26_1, hcz26_2, hcz26_3, hcz26_4, hcz26_5, hcz26_6, hcz26_7, hcz26_8, hcz26_9, hcz26_10, hcz26_11, hfz26_0, hfz26_1, hfz26_2, hfz26_3, hfz26_4, hfz26_5, hfz26_6, hfz26_7, hfz26_8, hfz26_9, hfz26_10, hfz26_11⟩ := cz12_ BK198.out
            go_wp2
            go_meet
            case rel => exact ⟨_, ((a1_0 != 1)), st_, H', ⟨by have := HJ3.out; have := HJ13.out; first | omega | exact Nat.le_refl _⟩, ⟨by refine blkU ?_; refine blk_far ?_ NB198_206.out _; refine blkU ?_; refine blk_far ?_ NB198_206.out _; refine blkU ?_; refine blk_far ?_ NB198_206.out _; refine blkU ?_; refine blk_far ?_ NB198_206.out _; refine blkU ?_; exact BK198.out⟩, ⟨by refine blkU ?_; refine blk_put (cs := #[.int .i64 t201, .int .u64 t202, .int .i64 t203, .bool false]) ?_ 3 _ rfl; refine blkU ?_; refine blk_put (cs := #[.int .i64 t201, .int .u64 t202, .int .i64 0, .bool false]) ?_ 2 _ rfl; refine blkU ?_; refine blk_put (cs := #[.int .i64 t201, .int .u64 0, .int .i64 0, .bool false]) ?_ 1 _ rfl; refine blkU ?_; refine blk_put (cs := #[.int .i64 0, .int .u64 0, .int .i64 0, .bool false]) ?_ 0 _ rfl; refine blkU ?_; exact BK206.out⟩, ⟨bel_⟩⟩
         case rest =>
          clear HC18; try clear c1; try clear c2; try clear p2; try clear c7; try clear c7b0; try clear c7b1; try clear c10; try clear c13; try clear c15; try clear c15b0; try clear c16; try clear c22; try clear c24; try clear c25; try clear hcz10_0; try clear hcz10_1; try clear hcz10_10; try clear hcz10_11; try clear hcz10_2; try clear hcz10_3; try clear hcz10_4; try clear hcz10_5; try clear hcz10_6; try clear hcz10_7; try clear hcz10_8; try clear hcz10_9; try clear hcz19_0; try clear hcz19_1; try clear hcz19_10; try clear hcz19_11; try clear hcz19_2; try clear hcz19_3; try clear hcz19_4; try clear hcz19_5; try clear hcz19_6; try clear hcz19_7; try clear hcz19_8; try clear hcz19_9; try clear hcz23_0; try clear hcz23_1; try clear hcz23_2; try clear hcz23_3; try clear hcz26_0; try clear hcz26_1; try clear hcz26_10; try clear hcz26_11; try clear hcz26_2; try clear hcz26_3; try clear hcz26_4; try clear hcz26_5; try clear hcz26_6; try clear hcz26_7; try clear hcz26_8; try clear hcz26_9; try clear hfz10_0; try clear hfz10_1; try clear hfz10_10; try clear hfz10_11; try clear hfz10_2; try clear hfz10_3; try clear hfz10_4; try clear hfz10_5; try clear hfz10_6; try clear hfz10_7; try clear hfz10_8; try clear hfz10_9; try clear hfz19_0; try clear hfz19_1; try clear hfz19_10; try clear hfz19_11; try clear hfz19_2; try clear hfz19_3; try clear hfz19_4; try clear hfz19_5; try clear hfz19_6; try clear hfz19_7; try clear hfz19_8; try clear hfz19_9; try clear hfz23_0; try clear hfz23_1; try clear hfz23_2; try clear hfz23_3; try clear hfz26_0; try clear hfz26_1; try clear hfz26_10; try clear hfz26_11; try clear hfz26_2; try clear hfz26_3; try clear hfz26_4; try clear hfz26_5; try clear hfz26_6; try clear hfz26_7; try clear hfz26_8; try clear hfz26_9; try clear p2
          obtain ⟨kq, x36_17, rfl, HA, HJ17, BK198, BK206, HB⟩ := hcut
          cases kq with
          | zero => exact absurd HA.out (by simp [spoorref14_May.j2])
          | succ kj17 =>
           have H := HA.out
           clear HA
           simp only [spoorref14_May.j2] at H
           by_cases c27 : x36_17 = true
           · subst c27
             have H1 : (some 14) = some r := by rw [if_pos rfl] at H; exact H
             clear H
             have H := H1
             clear H1
             obtain rfl := Option.some.inj H
             go_wp2
             go_ret
             exact fin_ bel_
           · replace c27 := Bool.eq_false_iff.mpr c27
             subst c27
             have H1 : (if a1_2 = (IntKind.u64.wrap (t202 + 1)) then (if a1_3 < t203 then (spoorref14_May.j3 kj17 l0 t205 true a1_0 a1_1 a1_2 a1_3 a1_4 a1_5 a1_6 a1_7 a1_8 a1_9 a1_10 a1_11 t201 t202 t203 t204) else (spoorref14_May.j3 kj17 l0 t205 (decide (a1_3 ≤ a2)) a1_0 a1_1 a1_2 a1_3 a1_4 a1_5 a1_6 a1_7 a1_8 a1_9 a1_10 a1_11 t201 t202 t203 t204)) else (some 12)) = some r := by rw [if_neg (show ¬ (false = true) by decide)] at H; exact H
             clear H
             have H := H1
             clear H1
             by_cases c28 : a1_2 = (IntKind.u64.wrap (t202 + 1))
             · rw [if_pos c28] at H
               have c28b0 : (a1_2 == (IntKind.u64.wrap (t202 + 1))) = true := beq_iff_eq.mpr c28
               have c28b1 : (a1_2 != (IntKind.u64.wrap (t202 + 1))) = false := bne_eq_false_iff_eq.mpr c28
               clear c28
               have HC29 := Aside0.mk H
               clear H
               have hnb30 := NB198_206.out
               have hnc30 := NB206_198.out
               obtain ⟨hcz31_0, hcz31_1, hcz31_2, hcz31_3, hcz31_4, hcz31_5, hcz31_6, hcz31_7, hcz31_8, hcz31_9, hcz31_10, hcz31_11, hfz31_0, hfz31_1, hfz31_2, hfz31_3, hfz31_4, hfz31_5, hfz31_6, hfz31_7, hfz31_8, hfz31_9, hfz31_10, hfz31_11⟩ := cz12_ BK198.out
               obtain ⟨hcz32_0, hcz32_1, hcz32_2, hcz32_3, hfz32_0, hfz32_1, hfz32_2, hfz32_3⟩ := cz4_ BK206.out
               go_upto_region 10 with (fail)
               go_cut [53] (fun v53 wc => ∃ (kq : Nat) (x53_28 : Bool), v53 = .bool x53_28 ∧ Aside0 (spoorref14_May.j3 kq l0 t205 x53_28 a1_0 a1_1 a1_2 a1_3 a1_4 a1_5 a1_6 a1_7 a1_8 a1_9 a1_10 a1_11 t201 t202 t203 t204 = some r) ∧ Aside0 (kq ≤ kj17) ∧ Aside0 (wc.heap[gb198]? = some (.cells #[.int .u8 a1_0, .int .i64 a1_1, .int .u64 a1_2, .int .i64 a1_3, .bool a1_4, .int .u64 a1_5, .int .u64 a1_6, .int .i64 a1_7, .int .u8 a1_8, .int .i64 a1_9, .int .i64 a1_10, .int .i64 a1_11] 33 (0, 0))) ∧ Aside0 (wc.heap[gb206]? = some (.cells #[.int .i64 t201, .int .u64 t202, .int .i64 t203, .bool t204] 38 (0, 0))) ∧ Aside0 (Below w.heap.size w wc))
               case first =>
                have H := HC29.out
                clear HC29
                by_cases c33 : a1_3 < t203
                · rw [if_pos c33] at H
                  have c33b0 : decide (a1_3 < t203) = true := decide_eq_true c33
                  clear c33
                  (first | rw [c33b0] | (simp only [i64_w, i32_w]; rw [c33b0]) | skip)
                  have H' := Aside0.mk H
                  clear H
                  have hnb34 := NB198_206.out
                  have hnc34 := NB206_198.out
                  obtain ⟨hcz35_0, hcz35_1, hcz35_2, hcz35_3, hcz35_4, hcz35_5, hcz35_6, hcz35_7, hcz35_8, hcz35_9, hcz35_10, hcz35_11, hfz35_0, hfz35_1, hfz35_2, hfz35_3, hfz35_4, hfz35_5, hfz35_6, hfz35_7, hfz35_8, hfz35_9, hfz35_10, hfz35_11⟩ := cz12_ BK198.out
                  obtain ⟨hcz36_0, hcz36_1, hcz36_2, hcz36_3, hfz36_0, hfz36_1, hfz36_2, hfz36_3⟩ := cz4_ BK206.out
                  go_wp2
                  go_meet
                  case rel => exact ⟨_, (true), st_, H', ⟨by have := HJ3.out; have := HJ13.out; have := HJ17.out; first | omega | exact Nat.le_refl _⟩, ⟨by refine blkU ?_; exact BK198.out⟩, ⟨by refine blkU ?_; exact BK206.out⟩, ⟨bel_⟩⟩
                · rw [if_neg c33] at H
                  have c33b0 : decide (a1_3 < t203) = false := decide_eq_false c33
                  clear c33
                  (first | rw [c33b0] | (simp only [i64_w, i32_w]; rw [c33b0]) | skip)
                  have H' := Aside0.mk H
                  clear H
                  have hnb37 := NB198_206.out
                  have hnc37 := NB206_198.out
                  obtain ⟨hcz38_0, hcz38_1, hcz38_2, hcz38_3, hcz38_4, hcz38_5, hcz38_6, hcz38_7, hcz38_8, hcz38_9, hcz38_10, hcz38_11, hfz38_0, hfz38_1, hfz38_2, hfz38_3, hfz38_4, hfz38_5, hfz38_6, hfz38_7, hfz38_8, hfz38_9, hfz38_10, hfz38_11⟩ := cz12_ BK198.out
                  obtain ⟨hcz39_0, hcz39_1, hcz39_2, hcz39_3, hfz39_0, hfz39_1, hfz39_2, hfz39_3⟩ := cz4_ BK206.out
                  go_wp2
                  go_meet
                  case rel => exact ⟨_, (decide (a1_3 ≤ a2)), st_, H', ⟨by have := HJ3.out; have := HJ13.out; have := HJ17.out; first | omega | exact Nat.le_refl _⟩, ⟨by refine blkU ?_; exact BK198.out⟩, ⟨by refine blkU ?_; exact BK206.out⟩, ⟨bel_⟩⟩
               case rest =>
                clear HC29; try clear c1; try clear c2; try clear p2; try clear c3; try clear c7; try clear c7b0; try clear c7b1; try clear c10; try clear c13; try clear c15; try clear c15b0; try clear c16; try clear c22; try clear c24; try clear c25; try clear c27; try clear c28; try clear c28b0; try clear c28b1; try clear c30; try clear c33; try clear c33b0; try clear c34; try clear c37; try clear hcz10_0; try clear hcz10_1; try clear hcz10_10; try clear hcz10_11; try clear hcz10_2; try clear hcz10_3; try clear hcz10_4; try clear hcz10_5; try clear hcz10_6; try clear hcz10_7; try clear hcz10_8; try clear hcz10_9; try clear hcz19_0; try clear hcz19_1; try clear hcz19_10; try clear hcz19_11; try clear hcz19_2; try clear hcz19_3; try clear hcz19_4; try clear hcz19_5; try clear hcz19_6; try clear hcz19_7; try clear hcz19_8; try clear hcz19_9; try clear hcz23_0; try clear hcz23_1; try clear hcz23_2; try clear hcz23_3; try clear hcz26_0; try clear hcz26_1; try clear hcz26_10; try clear hcz26_11; try clear hcz26_2; try clear hcz26_3; try clear hcz26_4; try clear hcz26_5; try clear hcz26_6; try clear hcz26_7; try clear hcz26_8; try clear hcz26_9; try clear hcz31_0; try clear hcz31_1; try clear hcz31_10; try clear hcz31_11; try clear hcz31_2; try clear hcz31_3; try clear hcz31_4; try clear hcz31_5; try clear hcz31_6; try clear hcz31_7; try clear hcz31_8; try clear hcz31_9; try clear hcz32_0; try clear hcz32_1; try clear hcz32_2; try clear hcz32_3; try clear hcz35_0; try clear hcz35_1; try clear hcz35_10; try clear hcz35_11; try clear hcz35_2; try clear hcz35_3; try clear hcz35_4; try clear hcz35_5; try clear hcz35_6; try clear hcz35_7; try clear hcz35_8; try clear hcz35_9; try clear hcz36_0; try clear hcz36_1; try clear hcz36_2; try clear hcz36_3; try clear hcz38_0; try clear hcz38_1; try clear hcz38_10; try clear hcz38_11; try clear hcz38_2; try clear hcz38_3; try clear hcz38_4; try clear hcz38_5; try clear hcz38_6; try clear hcz38_7; try clear hcz38_8; try clear hcz38_9; try clear hcz39_0; try clear hcz39_1; try clear hcz39_2; try clear hcz39_3; try clear hfz10_0; try clear hfz10_1; try clear hfz10_10; try clear hfz10_11; try clear hfz10_2; try clear hfz10_3; try clear hfz10_4; try clear hfz10_5; try clear hfz10_6; try clear hfz10_7; try clear hfz10_8; try clear hfz10_9; try clear hfz19_0; try clear hfz19_1; try clear hfz19_10; try clear hfz19_11; try clear hfz19_2; try clear hfz19_3; try clear hfz19_4; try clear hfz19_5; try clear hfz19_6; try clear hfz19_7; try clear hfz19_8; try clear hfz19_9; try clear hfz23_0; try clear hfz23_1; try clear hfz23_2; try clear hfz23_3; try clear hfz26_0; try clear hfz26_1; try clear hfz26_10; try clear hfz26_11; try clear hfz26_2; try clear hfz26_3; try clear hfz26_4; try clear hfz26_5; try clear hfz26_6; try clear hfz26_7; try clear hfz26_8; try clear hfz26_9; try clear hfz31_0; try clear hfz31_1; try clear hfz31_10; try clear hfz31_11; try clear hfz31_2; try clear hfz31_3; try clear hfz31_4; try clear hfz31_5; try clear hfz31_6; try clear hfz31_7; try clear hfz31_8; try clear hfz31_9; try clear hfz32_0; try clear hfz32_1; try clear hfz32_2; try clear hfz32_3; try clear hfz35_0; try clear hfz35_1; try clear hfz35_10; try clear hfz35_11; try clear hfz35_2; try clear hfz35_3; try clear hfz35_4; try clear hfz35_5; try clear hfz35_6; try clear hfz35_7; try clear hfz35_8; try clear hfz35_9; try clear hfz36_0; try clear hfz36_1; try clear hfz36_2; try clear hfz36_3; try clear hfz38_0; try clear hfz38_1; try clear hfz38_10; try clear hfz38_11; try clear hfz38_2; try clear hfz38_3; try clear hfz38_4; try clear hfz38_5; try clear hfz38_6; try clear hfz38_7; try clear hfz38_8; try clear hfz38_9; try clear hfz39_0; try clear hfz39_1; try clear hfz39_2; try clear hfz39_3; try clear p2
                obtain ⟨kq, x53_28, rfl, HA, HJ28, BK198, BK206, HB⟩ := hcut
                cases kq with
                | zero => exact absurd HA.out (by simp [spoorref14_May.j3])
                | succ kj28 =>
                 have H := HA.out
                 clear HA
                 simp only [spoorref14_May.j3] at H
                 by_cases c40 : x53_28 = true
                 · subst c40
                   have H1 : (some 13) = some r := by rw [if_pos rfl] at H; exact H
                   clear H
                   have H := H1
                   clear H1
                   obtain rfl := Option.some.inj H
                   go_wp2
                   go_ret
                   exact fin_ bel_
                 · replace c40 := Bool.eq_false_iff.mpr c40
                   subst c40
                   have H1 : (if (t204 == (a1_0 == 1)) = true then (some 10) else (if t205 = true then (some 0) else (if (l0.length : Int) = 64 then (some 8) else (some 0)))) = some r := by rw [if_neg (show ¬ (false = true) by decide)] at H; exact H
                   clear H
                   have H := H1
                   clear H1
                   by_cases c41 : (t204 == (a1_0 == 1)) = true
                   · rw [if_pos c41] at H
                     have c41b0 : (t204 == (a1_0 == 1)) = true := c41
                     (try (have c41b1 : decide (t204 = (a1_0 == 1)) = true := by simpa using c41))
                     (try (have c41b2 : (t204 == (a1_0 == 1)) = true := by simpa using c41))
                     clear c41
                     obtain rfl := Option.some.inj H
                     have hnb42 := NB206_198.out
                     have hnc42 := NB198_206.out
                     obtain ⟨hcz43_0, hcz43_1, hcz43_2, hcz43_3, hfz43_0, hfz43_1, hfz43_2, hfz43_3⟩ := cz4_ BK206.out
                     obtain ⟨hcz44_0, hcz44_1, hcz44_2, hcz44_3, hcz44_4, hcz44_5, hcz44_6, hcz44_7, hcz44_8, hcz44_9, hcz44_10, hcz44_11, hfz44_0, hfz44_1, hfz44_2, hfz44_3, hfz44_4, hfz44_5, hfz44_6, hfz44_7, hfz44_8, hfz44_9, hfz44_10, hfz44_11⟩ := cz12_ BK198.out
                     go_wp2
                     go_ret
                     exact fin_ bel_
                   · rw [if_neg c41] at H
                     have c41b0 : (t204 == (a1_0 == 1)) = false := by simpa using c41
                     (try (have c41b1 : decide (t204 = (a1_0 == 1)) = false := by simpa using c41))
                     (try (have c41b2 : (t204 == (a1_0 == 1)) = false := by simpa using c41))
                     (try (have c41b3 : ¬ (t204 = (a1_0 == 1)) := by simpa using c41))
                     clear c41
                     by_cases c45 : t205 = true
                     · subst c45
                       have H1 : (some 0) = some r := by rw [if_pos rfl] at H; exact H
                       clear H
                       have H := H1
                       clear H1
                       obtain rfl := Option.some.inj H
                       have hnb46 := NB206_198.out
                       have hnc46 := NB198_206.out
                       obtain ⟨hcz47_0, hcz47_1, hcz47_2, hcz47_3, hfz47_0, hfz47_1, hfz47_2, hfz47_3⟩ := cz4_ BK206.out
                       obtain ⟨hcz48_0, hcz48_1, hcz48_2, hcz48_3, hcz48_4, hcz48_5, hcz48_6, hcz48_7, hcz48_8, hcz48_9, hcz48_10, hcz48_11, hfz48_0, hfz48_1, hfz48_2, hfz48_3, hfz48_4, hfz48_5, hfz48_6, hfz48_7, hfz48_8, hfz48_9, hfz48_10, hfz48_11⟩ := cz12_ BK198.out
                       go_wp2
                       go_ret
                       exact fin_ bel_
                     · replace c45 := Bool.eq_false_iff.mpr c45
                       subst c45
                       have H1 : (if (l0.length : Int) = 64 then (some 8) else (some 0)) = some r := by rw [if_neg (show ¬ (false = true) by decide)] at H; exact H
                       clear H
                       have H := H1
                       clear H1
                       by_cases c49 : (l0.length : Int) = 64
                       · rw [if_pos c49] at H
                         have c49b0 : ((l0.length : Int) == 64) = true := beq_iff_eq.mpr c49
                         have c49b1 : ((l0.length : Int) != 64) = false := bne_eq_false_iff_eq.mpr c49
                         clear c49
                         obtain rfl := Option.some.inj H
                         have hnb50 := NB206_198.out
                         have hnc50 := NB198_206.out
                         obtain ⟨hcz51_0, hcz51_1, hcz51_2, hcz51_3, hfz51_0, hfz51_1, hfz51_2, hfz51_3⟩ := cz4_ BK206.out
                         obtain ⟨hcz52_0, hcz52_1, hcz52_2, hcz52_3, hcz52_4, hcz52_5, hcz52_6, hcz52_7, hcz52_8, hcz52_9, hcz52_10, hcz52_11, hfz52_0, hfz52_1, hfz52_2, hfz52_3, hfz52_4, hfz52_5, hfz52_6, hfz52_7, hfz52_8, hfz52_9, hfz52_10, hfz52_11⟩ := cz12_ BK198.out
                         go_wp2
                         go_ret
                         exact fin_ bel_
                       · rw [if_neg c49] at H
                         have c49b0 : ((l0.length : Int) == 64) = false := beq_eq_false_iff_ne.mpr c49
                         have c49b1 : ((l0.length : Int) != 64) = true := bne_iff_ne.mpr c49
                         obtain rfl := Option.some.inj H
                         have hnb53 := NB206_198.out
                         have hnc53 := NB198_206.out
                         obtain ⟨hcz54_0, hcz54_1, hcz54_2, hcz54_3, hfz54_0, hfz54_1, hfz54_2, hfz54_3⟩ := cz4_ BK206.out
                         obtain ⟨hcz55_0, hcz55_1, hcz55_2, hcz55_3, hcz55_4, hcz55_5, hcz55_6, hcz55_7, hcz55_8, hcz55_9, hcz55_10, hcz55_11, hfz55_0, hfz55_1, hfz55_2, hfz55_3, hfz55_4, hfz55_5, hfz55_6, hfz55_7, hfz55_8, hfz55_9, hfz55_10, hfz55_11⟩ := cz12_ BK198.out
                         go_wp2
                         go_ret
                         exact fin_ bel_
             · rw [if_neg c28] at H
               have c28b0 : (a1_2 == (IntKind.u64.wrap (t202 + 1))) = false := beq_eq_false_iff_ne.mpr c28
               have c28b1 : (a1_2 != (IntKind.u64.wrap (t202 + 1))) = true := bne_iff_ne.mpr c28
               obtain rfl := Option.some.inj H
               have hnb56 := NB198_206.out
               have hnc56 := NB206_198.out
               obtain ⟨hcz57_0, hcz57_1, hcz57_2, hcz57_3, hcz57_4, hcz57_5, hcz57_6, hcz57_7, hcz57_8, hcz57_9, hcz57_10, hcz57_11, hfz57_0, hfz57_1, hfz57_2, hfz57_3, hfz57_4, hfz57_5, hfz57_6, hfz57_7, hfz57_8, hfz57_9, hfz57_10, hfz57_11⟩ := cz12_ BK198.out
               obtain ⟨hcz58_0, hcz58_1, hcz58_2, hcz58_3, hfz58_0, hfz58_1, hfz58_2, hfz58_3⟩ := cz4_ BK206.out
               go_wp2
               go_ret
               exact fin_ bel_
end Go.Proofs.Ytdccjkeiifplnaa.P
