-- kept, by a program of this session, of a text that the printer or this session wrote
import Derived.Test.YtdccjkeiifplnaaZPx0
import Derived.Test.YtdccjkeiifplnaaZPx1032
import Derived.Test.YtdccjkeiifplnaaZPx1030
import Derived.Test.YtdccjkeiifplnaaZPx1031
namespace Go.Proofs.Ytdccjkeiifplnaa.P
open Go.RowKit Go.Proofs.YtdccjkeiifplnaaW.PrintWords Go.Proofs.YtdccjkeiifplnaaW.PrintLast Go.Proofs.YtdccjkeiifplnaaW.PrintMore
attribute [local go_sem] max2_int min2_int max_two min_two max_three min_three max_four min_four
set_option linter.unusedVariables false
set_option linter.unusedSimpArgs false
attribute [local go_sem high] eqA33
mutual
def spoorref11_Check.j0 : Nat → Bool → Int → Int → Int → Int → Bool → Int → Int → Int → Int → Int → Int → Int → Option (Int)
 | 0, _, _, _, _, _, _, _, _, _, _, _, _, _ => none
 | k + 1, x32, x194000, x194001, x194002, x194003, x194004, x194005, x194006, x194007, x194008, x194009, x194010, x194011 => if x32 = true then (some 2) else (if x194000 = 1 then (spoorref11_Check.j1 k true x194000 (x194000 == 1) x194000 x194001 x194002 x194003 x194004 x194005 x194006 x194007 x194008 x194009 x194010 x194011 x194000 x194001 x194002 x194003 false 0 0 0 0 0 0 0) else (spoorref11_Check.j1 k true x194000 (x194000 == 2) x194000 x194001 x194002 x194003 x194004 x194005 x194006 x194007 x194008 x194009 x194010 x194011 x194000 x194001 x194002 x194003 false 0 0 0 0 0 0 0))
def spoorref11_Check.j1 : Nat → Bool → Int → Bool → Int → Int → Int → Int → Bool → Int → Int → Int → Int → Int → Int → Int → Int → Int → Int → Int → Bool → Int → Int → Int → Int → Int → Int → Int → Option (Int)
 | 0, _, _, _, _, _, _, _, _, _, _, _, _, _, _, _, _, _, _, _, _, _, _, _, _, _, _, _ => none
 | k + 1, x4, x43, x44, x194000, x194001, x194002, x194003, x194004, x194005, x194006, x194007, x194008, x194009, x194010, x194011, x195000, x195001, x195002, x195003, x195004, x195005, x195006, x195007, x195008, x195009, x195010, x195011 => if x44 = true then (if x4 = true then (if (!(x195000 == x194000) || (!(x195001 == x194001) || (!(x195002 == x194002) || (!(x195003 == x194003) || ((!(x195004 == x194004) || ((!(x195005 == x194005) || (!(x195006 == x194006))) || (!(x195007 == x194007)))) || ((!(x195008 == x194008) || (!(x195009 == x194009))) || (!(x195010 == x194010) || (!(x195011 == x194011))))))))) = true then (some 2) else (some 0)) else (some 2)) else (if x43 = 3 then ((spoorref09_Check.f k x194004 x194005 x194006 x194007).bind fun t195 => (if t195 = 0 then ((spoorref11_Acts.f x194008 x194009).bind fun t196 => (if t196 = true then (if (!(x195000 == x194000) || (!(x195001 == x194001) || (!(x195002 == x194002) || (!(x195003 == x194003) || (!(x195010 == x194010) || (!(x195011 == x194011))))))) = true then (some 2) else (some 0)) else (some 2))) else (some 2))) else (if x43 = 4 then ((spoorref09_Check.f k x194004 x194005 x194006 x194007).bind fun t197 => (if t197 = 0 then (if (!(x195000 == x194000) || (!(x195001 == x194001) || (!(x195002 == x194002) || (!(x195003 == x194003) || ((!(x195008 == x194008) || (!(x195009 == x194009))) || (!(x195010 == x194010) || (!(x195011 == x194011)))))))) = true then (some 2) else (some 0)) else (some 2))) else (if x43 = 5 then (if x194010 ≥ 0 then (if x194010 ≤ 65536 then (if x194011 ≥ 0 then (if x194011 ≤ 1048576 then (if (!(x195000 == x194000) || (!(x195001 == x194001) || (!(x195002 == x194002) || (!(x195003 == x194003) || ((!(x195004 == x194004) || ((!(x195005 == x194005) || (!(x195006 == x194006))) || (!(x195007 == x194007)))) || ((!(x195008 == x194008) || (!(x195009 == x194009))))))))) = true then (some 2) else (some 0)) else (some 2)) else (some 2)) else (some 2)) else (some 2)) else (if x43 = 6 then (if x194010 ≥ 0 then (if x194010 ≤ 65536 then (if (!(x195000 == x194000) || (!(x195001 == x194001) || (!(x195002 == x194002) || (!(x195003 == x194003) || ((!(x195004 == x194004) || ((!(x195005 == x194005) || (!(x195006 == x194006))) || (!(x195007 == x194007)))) || ((!(x195008 == x194008) || (!(x195009 == x194009))) || (!(x195011 == x194011)))))))) = true then (some 2) else (some 0)) else (some 2)) else (some 2)) else (some 2)))))
end
def spoorref11_Check.f (k : Nat) (a0_0 : Int) (a0_1 : Int) (a0_2 : Int) (a0_3 : Int) (a0_4 : Bool) (a0_5 : Int) (a0_6 : Int) (a0_7 : Int) (a0_8 : Int) (a0_9 : Int) (a0_10 : Int) (a0_11 : Int) : Option (Int) := if a0_1 < 0 then (spoorref11_Check.j0 k true a0_0 a0_1 a0_2 a0_3 a0_4 a0_5 a0_6 a0_7 a0_8 a0_9 a0_10 a0_11) else (if a0_1 > 1048576 then (spoorref11_Check.j0 k true a0_0 a0_1 a0_2 a0_3 a0_4 a0_5 a0_6 a0_7 a0_8 a0_9 a0_10 a0_11) else (if a0_2 < 1 then (spoorref11_Check.j0 k true a0_0 a0_1 a0_2 a0_3 a0_4 a0_5 a0_6 a0_7 a0_8 a0_9 a0_10 a0_11) else (if a0_2 > 1099511627776 then (spoorref11_Check.j0 k true a0_0 a0_1 a0_2 a0_3 a0_4 a0_5 a0_6 a0_7 a0_8 a0_9 a0_10 a0_11) else (if a0_3 < 0 then (spoorref11_Check.j0 k true a0_0 a0_1 a0_2 a0_3 a0_4 a0_5 a0_6 a0_7 a0_8 a0_9 a0_10 a0_11) else (spoorref11_Check.j0 k (decide (a0_3 > 1099511627776)) a0_0 a0_1 a0_2 a0_3 a0_4 a0_5 a0_6 a0_7 a0_8 a0_9 a0_10 a0_11)))))
def spoorref11_Check.T10 : Bool × List (List Nat × List Nat) := (true, [([], []), ([0], [0]), ([], []), ([2], [2]), ([0, 1], []), ([4, 1, 0, 1], [1, 4]), ([0, 1, 2, 3, 4, 5], []), ([6, 3, 5, 0, 1, 2, 3, 4, 5], [3, 6])])
def spoorref11_Check.B10 : List Nat := [0, 1, 0, 4, 3, 19, 63, 127]
theorem spoorref11_Check.tab10 : rtab .any (opsOf Try.f25 10) = spoorref11_Check.T10 := by kernel_rfl
theorem spoorref11_Check.bits10 : waitsOk spoorref11_Check.T10.2 spoorref11_Check.B10 = true := by kernel_rfl
def spoorref11_Check.T16 : Bool × List (List Nat × List Nat) := (true, [([], []), ([0], [0]), ([], []), ([2], [2]), ([0, 1], []), ([4, 1, 0, 1], [1, 4]), ([0, 1, 2, 3, 4, 5], []), ([6, 3, 5, 0, 1, 2, 3, 4, 5], [3, 6])])
def spoorref11_Check.B16 : List Nat := [0, 1, 0, 4, 3, 19, 63, 127]
theorem spoorref11_Check.tab16 : rtab .any (opsOf Try.f25 16) = spoorref11_Check.T16 := by kernel_rfl
theorem spoorref11_Check.bits16 : waitsOk spoorref11_Check.T16.2 spoorref11_Check.B16 = true := by kernel_rfl
set_option maxHeartbeats 8000000 in
set_option maxRecDepth 100000 in
theorem spoorref11_Check.calls (k : Nat) (a0_0 : Int) (a0_1 : Int) (a0_2 : Int) (a0_3 : Int) (a0_4 : Bool) (a0_5 : Int) (a0_6 : Int) (a0_7 : Int) (a0_8 : Int) (a0_9 : Int) (a0_10 : Int) (a0_11 : Int) (r : Int) (w : World) (h : spoorref11_Check.f k a0_0 a0_1 a0_2 a0_3 a0_4 a0_5 a0_6 a0_7 a0_8 a0_9 a0_10 a0_11 = some r) :
 Calls Try.prog 25 #[.agg #[.int .u8 a0_0, .int .i64 a0_1, .int .u64 a0_2, .int .i64 a0_3, .bool a0_4, .int .u64 a0_5, .int .u64 a0_6, .int .i64 a0_7, .int .u8 a0_8, .int .i64 a0_9, .int .i64 a0_10, .int .i64 a0_11]] w fun e w' => e = .returned (.int .i64 r) ∧ Below w.heap.size w w' := by
 have hu33 := Try.underlying33
 have hu28 := Try.underlying28
 have hu31 := Try.underlying31
 have HB := Aside0.mk (Below.refl w.heap.size w)
 have H : (if a0_1 < 0 then (spoorref11_Check.j0 k true a0_0 a0_1 a0_2 a0_3 a0_4 a0_5 a0_6 a0_7 a0_8 a0_9 a0_10 a0_11) else (if a0_1 > 1048576 then (spoorref11_Check.j0 k true a0_0 a0_1 a0_2 a0_3 a0_4 a0_5 a0_6 a0_7 a0_8 a0_9 a0_10 a0_11) else (if a0_2 < 1 then (spoorref11_Check.j0 k true a0_0 a0_1 a0_2 a0_3 a0_4 a0_5 a0_6 a0_7 a0_8 a0_9 a0_10 a0_11) else (if a0_2 > 1099511627776 then (spoorref11_Check.j0 k true a0_0 a0_1 a0_2 a0_3 a0_4 a0_5 a0_6 a0_7 a0_8 a0_9 a0_10 a0_11) else (if a0_3 < 0 then (spoorref11_Check.j0 k true a0_0 a0_1 a0_2 a0_3 a0_4 a0_5 a0_6 a0_7 a0_8 a0_9 a0_10 a0_11) else (spoorref11_Check.j0 k (decide (a0_3 > 1099511627776)) a0_0 a0_1 a0_2 a0_3 a0_4 a0_5 a0_6 a0_7 a0_8 a0_9 a0_10 a0_11)))))) = some r := h
 clear h
 have HC2 := Aside0.mk H
 clear H
 go_enter Try.func25, Try.ntmps25
 go_upto_region 1 with (first | ((with_reducible refine gate_dst (N := 1) rfl ?_); refine box_event ?hg (N := 1) ?hd (cs := #[.int .u8 a0_0, .int .i64 a0_1, .int .u64 a0_2, .int .i64 a0_3, .bool a0_4, .int .u64 a0_5, .int .u64 a0_6, .int .i64 a0_7, .int .u8 a0_8, .int .i64 a0_9, .int .i64 a0_10, .int .i64 a0_11]) (t := 33) ?hr ?_; (case hd => rfl); (case hg => rfl); (case hr => first | (go_simp; done) | (go_simp; rfl)); intro gb193 hg w3 hbox hb; have n0_ := Aside0.mk (below_step bel_ hb); have n1_ := Aside0.mk (hbox); have n2_ := Aside0.mk ((gE_ hg : w.heap.size ≤ gb193)); have n3_ := Aside0.mk ((gE_ hg : w.heap.size ≤ gb193)); clear HB; have HB := n0_; have BK193 := n1_; have GW193 := n2_; have GE193 := n3_; clear n0_ n1_ n2_ n3_; clear hb hbox hg))
 (try simp only [Act.put, List.setIfInBounds_toArray, List.set_cons_zero, List.set_cons_succ])
 go_cut [32] (fun v32 wc => ∃ (kq : Nat) (x32_1 : Bool), v32 = .bool x32_1 ∧ Aside0 (spoorref11_Check.j0 kq x32_1 a0_0 a0_1 a0_2 a0_3 a0_4 a0_5 a0_6 a0_7 a0_8 a0_9 a0_10 a0_11 = some r) ∧ Aside0 (kq ≤ k) ∧ Aside0 (wc.heap[gb193]? = some (.cells #[.int .u8 a0_0, .int .i64 a0_1, .int .u64 a0_2, .int .i64 a0_3, .bool a0_4, .int .u64 a0_5, .int .u64 a0_6, .int .i64 a0_7, .int .u8 a0_8, .int .i64 a0_9, .int .i64 a0_10, .int .i64 a0_11] 33 (0, 0))) ∧ Aside0 (Below w.heap.size w wc))
 case first =>
  have H := HC2.out
  clear HC2
  by_cases c4 : a0_1 < 0
  · rw [if_pos c4] at H
    have c4b0 : decide (a0_1 < 0) = true := decide_eq_true c4
    clear c4
    (first | rw [c4b0] | (simp only [i64_w, i32_w]; rw [c4b0]) | skip)
    have H' := Aside0.mk H
    clear H
    obtain ⟨hcz5_0, hcz5_1, hcz5_2, hcz5_3, hcz5_4, hcz5_5, hcz5_6, hcz5_7, hcz5_8, hcz5_9, hcz5_10, hcz5_11, hfz5_0, hfz5_1, hfz5_2, hfz5_3, hfz5_4, hfz5_5, hfz5_6, hfz5_7, hfz5_8, hfz5_9, hfz5_10, hfz5_11⟩ := cz12_ BK193.out
    go_wp2
    go_meet
    case rel => exact ⟨_, (true), st_, H', ⟨by first | omega | exact Nat.le_refl _⟩, ⟨by refine blkU ?_; exact BK193.out⟩, ⟨bel_⟩⟩
  · rw [if_neg c4] at H
    have c4b0 : decide (a0_1 < 0) = false := decide_eq_false c4
    clear c4
    (first | rw [c4b0] | (simp only [i64_w, i32_w]; rw [c4b0]) | skip)
    by_cases c6 : a0_1 > 1048576
    · rw [if_pos c6] at H
      have c6b0 : decide (1048576 < a0_1) = true := decide_eq_true c6
      clear c6
      have H' := Aside0.mk H
      clear H
      obtain ⟨hcz7_0, hcz7_1, hcz7_2, hcz7_3, hcz7_4, hcz7_5, hcz7_6, hcz7_7, hcz7_8, hcz7_9, hcz7_10, hcz7_11, hfz7_0, hfz7_1, hfz7_2, hfz7_3, hfz7_4, hfz7_5, hfz7_6, hfz7_7, hfz7_8, hfz7_9, hfz7_10, hfz7_11⟩ := cz12_ BK193.out
      go_wp2
      go_meet
      case rel => exact ⟨_, (true), st_, H', ⟨by first | omega | exact Nat.le_refl _⟩, ⟨by refine blkU ?_; exact BK193.out⟩, ⟨bel_⟩⟩
    · rw [if_neg c6] at H
      have c6b0 : decide (1048576 < a0_1) = false := decide_eq_false c6
      clear c6
      by_cases c8 : a0_2 < 1
      · rw [if_pos c8] at H
        have c8b0 : decide (a0_2 < 1) = true := decide_eq_true c8
        clear c8
        have H' := Aside0.mk H
        clear H
        obtain ⟨hcz9_0, hcz9_1, hcz9_2, hcz9_3, hcz9_4, hcz9_5, hcz9_6, hcz9_7, hcz9_8, hcz9_9, hcz9_10, hcz9_11, hfz9_0, hfz9_1, hfz9_2, hfz9_3, hfz9_4, hfz9_5, hfz9_6, hfz9_7, hfz9_8, hfz9_9, hfz9_10, hfz9_11⟩ := cz12_ BK193.out
        go_wp2
        go_meet
        case rel => exact ⟨_, (true), st_, H', ⟨by first | omega | exact Nat.le_refl _⟩, ⟨by refine blkU ?_; exact BK193.out⟩, ⟨bel_⟩⟩
      · rw [if_neg c8] at H
        have c8b0 : decide (a0_2 < 1) = false := decide_eq_false c8
        clear c8
        by_cases c10 : a0_2 > 1099511627776
        · rw [if_pos c10] at H
          have c10b0 : decide (1099511627776 < a0_2) = true := decide_eq_true c10
          clear c10
          have H' := Aside0.mk H
          clear H
          obtain ⟨hcz11_0, hcz11_1, hcz11_2, hcz11_3, hcz11_4, hcz11_5, hcz11_6, hcz11_7, hcz11_8, hcz11_9, hcz11_10, hcz11_11, hfz11_0, hfz11_1, hfz11_2, hfz11_3, hfz11_4, hfz11_5, hfz11_6, hfz11_7, hfz11_8, hfz11_9, hfz11_10, hfz11_11⟩ := cz12_ BK193.out
          go_wp2
          go_meet
          case rel => exact ⟨_, (true), st_, H', ⟨by first | omega | exact Nat.le_refl _⟩, ⟨by refine blkU ?_; exact BK193.out⟩, ⟨bel_⟩⟩
        · rw [if_neg c10] at H
          have c10b0 : decide (1099511627776 < a0_2) = false := decide_eq_false c10
          clear c10
          by_cases c12 : a0_3 < 0
          · rw [if_pos c12] at H
            have c12b0 : decide (a0_3 < 0) = true := decide_eq_true c12
            clear c12
            have H' := Aside0.mk H
            clear H
            obtain ⟨hcz13_0, hcz13_1, hcz13_2, hcz13_3, hcz13_4, hcz13_5, hcz13_6, hcz13_7, hcz13_8, hcz13_9, hcz13_10, hcz13_11, hfz13_0, hfz13_1, hfz13_2, hfz13_3, hfz13_4, hfz13_5, hfz13_6, hfz13_7, hfz13_8, hfz13_9, hfz13_10, hfz13_11⟩ := cz12_ BK193.out
            go_wp2
            go_meet
            case rel => exact ⟨_, (true), st_, H', ⟨by first | omega | exact Nat.le_refl _⟩, ⟨by refine blkU ?_; exact BK193.out⟩, ⟨bel_⟩⟩
          · rw [if_neg c12] at H
            have c12b0 : decide (a0_3 < 0) = false := decide_eq_false c12
            clear c12
            have H' := Aside0.mk H
            clear H
            obtain ⟨hcz14_0, hcz14_1, hcz14_2, hcz14_3, hcz14_4, hcz14_5, hcz14_6, hcz14_7, hcz14_8, hcz14_9, hcz14_10, hcz14_11, hfz14_0, hfz14_1, hfz14_2, hfz14_3, hfz14_4, hfz14_5, hfz14_6, hfz14_7, hfz14_8, hfz14_9, hfz14_10, hfz14_11⟩ := cz12_ BK193.out
            go_wp2
            go_meet
            case rel => exact ⟨_, (decide (a0_3 > 1099511627776)), st_, H', ⟨by first | omega | exact Nat.le_refl _⟩, ⟨by refine blkU ?_; exact BK193.out⟩, ⟨bel_⟩⟩
 case rest =>
  clear HC2; try clear c1; try clear c2; try clear p2; try clear c4; try clear c4b0; try clear c6; try clear c6b0; try clear c8; try clear c8b0; try clear c10; try clear c10b0; try clear c12; try clear c12b0; try clear hcz11_0; try clear hcz11_1; try clear hcz11_10; try clear hcz11_11; try clear hcz11_2; try clear hcz11_3; try clear hcz11_4; try clear hcz11_5; try clear hcz11_6; try clear hcz11_7; try clear hcz11_8; try clear hcz11_9; try clear hcz13_0; try clear hcz13_1; try clear hcz13_10; try clear hcz13_11; try clear hcz13_2; try clear hcz13_3; try clear hcz13_4; try clear hcz13_5; try clear hcz13_6; try clear hcz13_7; try clear hcz13_8; try clear hcz13_9; try clear hcz14_0; try clear hcz14_1; try clear hcz14_10; try clear hcz14_11; try clear hcz14_2; try clear hcz14_3; try clear hcz14_4; try clear hcz14_5; try clear hcz14_6; try clear hcz14_7; try clear hcz14_8; try clear hcz14_9; try clear hcz5_0; try clear hcz5_1; try clear hcz5_10; try clear hcz5_11; try clear hcz5_2; try clear hcz5_3; try clear hcz5_4; try clear hcz5_5; try clear hcz5_6; try clear hcz5_7; try clear hcz5_8; try clear hcz5_9; try clear hcz7_0; try clear hcz7_1; try clear hcz7_10; try clear hcz7_11; try clear hcz7_2; try clear hcz7_3; try clear hcz7_4; try clear hcz7_5; try clear hcz7_6; try clear hcz7_7; try clear hcz7_8; try clear hcz7_9; try clear hcz9_0; try clear hcz9_1; try clear hcz9_10; try clear hcz9_11; try clear hcz9_2; try clear hcz9_3; try clear hcz9_4; try clear hcz9_5; try clear hcz9_6; try clear hcz9_7; try clear hcz9_8; try clear hcz9_9; try clear hfz11_0; try clear hfz11_1; try clear hfz11_10; try clear hfz11_11; try clear hfz11_2; try clear hfz11_3; try clear hfz11_4; try clear hfz11_5; try clear hfz11_6; try clear hfz11_7; try clear hfz11_8; try clear hfz11_9; try clear hfz13_0; try clear hfz13_1; try clear hfz13_10; try clear hfz13_11; try clear hfz13_2; try clear hfz13_3; try clear hfz13_4; try clear hfz13_5; try clear hfz13_6; try clear hfz13_7; try clear hfz13_8; try clear hfz13_9; try clear hfz14_0; try clear hfz14_1; try clear hfz14_10; try clear hfz14_11; try clear hfz14_2; try clear hfz14_3; try clear hfz14_4; try clear hfz14_5; try clear hfz14_6; try clear hfz14_7; try clear hfz14_8; try clear hfz14_9; try clear hfz5_0; try clear hfz5_1; try clear hfz5_10; try clear hfz5_11; try clear hfz5_2; try clear hfz5_3; try clear hfz5_4; try clear hfz5_5; try clear hfz5_6; try clear hfz5_7; try clear hfz5_8; try clear hfz5_9; try clear hfz7_0; try clear hfz7_1; try clear hfz7_10; try clear hfz7_11; try clear hfz7_2; try clear hfz7_3; try clear hfz7_4; try clear hfz7_5; try clear hfz7_6; try clear hfz7_7; try clear hfz7_8; try clear hfz7_9; try clear hfz9_0; try clear hfz9_1; try clear hfz9_10; try clear hfz9_11; try clear hfz9_2; try clear hfz9_3; try clear hfz9_4; try clear hfz9_5; try clear hfz9_6; try clear hfz9_7; try clear hfz9_8; try clear hfz9_9
  obtain ⟨kq, x32_1, rfl, HA, HJ1, BK193, HB⟩ := hcut
  cases kq with
  | zero => exact absurd HA.out (by simp [spoorref11_Check.j0])
  | succ kj1 =>
   have H := HA.out
   clear HA
   simp only [spoorref11_Check.j0] at H
   by_cases c15 : x32_1 = true
   · subst c15
     have H1 : (some 2) = some r := by rw [if_pos rfl] at H; exact H
     clear H
     have H := H1
     clear H1
     obtain rfl := Option.some.inj H
     go_wp2
     go_ret
     exact fin_ bel_
   · replace c15 := Bool.eq_false_iff.mpr c15
     subst c15
     have H1 : (if a0_0 = 1 then (spoorref11_Check.j1 kj1 true a0_0 (a0_0 == 1) a0_0 a0_1 a0_2 a0_3 a0_4 a0_5 a0_6 a0_7 a0_8 a0_9 a0_10 a0_11 a0_0 a0_1 a0_2 a0_3 false 0 0 0 0 0 0 0) else (spoorref11_Check.j1 kj1 true a0_0 (a0_0 == 2) a0_0 a0_1 a0_2 a0_3 a0_4 a0_5 a0_6 a0_7 a0_8 a0_9 a0_10 a0_11 a0_0 a0_1 a0_2 a0_3 false 0 0 0 0 0 0 0)) = some r := by rw [if_neg (show ¬ (false = true) by decide)] at H; exact H
     clear H
     have H := H1
     clear H1
     have HC16 := Aside0.mk H
     clear H
     obtain ⟨hcz17_0, hcz17_1, hcz17_2, hcz17_3, hcz17_4, hcz17_5, hcz17_6, hcz17_7, hcz17_8, hcz17_9, hcz17_10, hcz17_11, hfz17_0, hfz17_1, hfz17_2, hfz17_3, hfz17_4, hfz17_5, hfz17_6, hfz17_7, hfz17_8, hfz17_9, hfz17_10, hfz17_11⟩ := cz12_ BK193.out
     go_upto_if 44 with (first | ((with_reducible refine gate_dst (N := 3) rfl ?_); refine box_event ?hg (N := 3) ?hd (cs := #[.int .u8 0, .int .i64 0, .int .u64 0, .int .i64 0, .bool false, .int .u64 0, .int .u64 0, .int .i64 0, .int .u8 0, .int .i64 0, .int .i64 0, .int .i64 0]) (t := 33) ?hr ?_; (case hd => rfl); (case hg => rfl); (case hr => first | (go_simp; done) | (go_simp; rfl)); intro gb194 hg w18 hbox hb; have n0_ := Aside0.mk (blk_below (blkU BK193.out) hb); have n1_ := Aside0.mk (below_step bel_ hb); have n2_ := Aside0.mk (hbox); have n3_ := Aside0.mk ((gE_ hg : w.heap.size ≤ gb194)); have n4_ := Aside0.mk ((gE_ hg : w.heap.size ≤ gb194)); have n5_ := Aside0.mk ((by rw [hg]; exact Nat.ne_of_lt (blk_lt (blkU BK193.out)) : gb193 ≠ gb194)); have n6_ := Aside0.mk ((by rw [hg]; exact Nat.ne_of_gt (blk_lt (blkU BK193.out)) : gb194 ≠ gb193)); clear BK193; clear HB; have BK193 := n0_; have HB := n1_; have BK194 := n2_; have GW194 := n3_; have GE194 := n4_; have NB193_194 := n5_; have NB194_193 := n6_; clear n0_ n1_ n2_ n3_ n4_ n5_ n6_; clear hb hbox hg; have hnb19 := NB194_193.out; have hnc19 := NB193_194.out; obtain ⟨hcz20_0, hcz20_1, hcz20_2, hcz20_3, hcz20_4, hcz20_5, hcz20_6, hcz20_7, hcz20_8, hcz20_9, hcz20_10, hcz20_11, hfz20_0, hfz20_1, hfz20_2, hfz20_3, hfz20_4, hfz20_5, hfz20_6, hfz20_7, hfz20_8, hfz20_9, hfz20_10, hfz20_11⟩ := cz12_ BK194.out; obtain ⟨hcz21_0, hcz21_1, hcz21_2, hcz21_3, hcz21_4, hcz21_5, hcz21_6, hcz21_7, hcz21_8, hcz21_9, hcz21_10, hcz21_11, hfz21_0, hfz21_1, hfz21_2, hfz21_3, hfz21_4, hfz21_5, hfz21_6, hfz21_7, hfz21_8, hfz21_9, hfz21_10, hfz21_11⟩ := cz12_ BK193.out))
     (try simp only [Act.put, List.setIfInBounds_toArray, List.set_cons_zero, List.set_cons_succ])
     go_cut [44] (fun v44 wc => ∃ (kq : Nat) (x44_15 : Bool), v44 = .bool x44_15 ∧ Aside0 (spoorref11_Check.j1 kq true a0_0 x44_15 a0_0 a0_1 a0_2 a0_3 a0_4 a0_5 a0_6 a0_7 a0_8 a0_9 a0_10 a0_11 a0_0 a0_1 a0_2 a0_3 false 0 0 0 0 0 0 0 = some r) ∧ Aside0 (kq ≤ kj1) ∧ Aside0 (wc.heap[gb193]? = some (.cells #[.int .u8 a0_0, .int .i64 a0_1, .int .u64 a0_2, .int .i64 a0_3, .bool a0_4, .int .u64 a0_5, .int .u64 a0_6, .int .i64 a0_7, .int .u8 a0_8, .int .i64 a0_9, .int .i64 a0_10, .int .i64 a0_11] 33 (0, 0))) ∧ Aside0 (wc.heap[gb194]? = some (.cells #[.int .u8 a0_0, .int .i64 a0_1, .int .u64 a0_2, .int .i64 a0_3, .bool false, .int .u64 0, .int .u64 0, .int .i64 0, .int .u8 0, .int .i64 0, .int .i64 0, .int .i64 0] 33 (0, 0))) ∧ Aside0 (Below w.heap.size w wc))
     case first =>
      have H := HC16.out
      clear HC16
      by_cases c22 : a0_0 = 1
      · rw [if_pos c22] at H
        have c22b0 : (a0_0 == 1) = true := beq_iff_eq.mpr c22
        have c22b1 : (a0_0 != 1) = false := bne_eq_false_iff_eq.mpr c22
        clear c22
        (first | rw [c22b0] | (simp only [i64_w, i32_w]; rw [c22b0]) | skip)
        have H' := Aside0.mk H
        clear H
        go_wp2
        go_meet
        case rel => exact ⟨_, ((a0_0 == 1)), st_, H', ⟨by have := HJ1.out; first | omega | exact Nat.le_refl _⟩, ⟨by refine blkU ?_; (repeat (first | (with_reducible refine blk_far ?_ NB193_194.out _) | (with_reducible refine blk_drewN ?_ _) | (with_reducible refine blk_drew ?_) | (with_reducible refine blk_alloc ?_ _))); exact BK193.out⟩, ⟨by refine blkU ?_; refine blk_put (cs := #[.int .u8 a0_0, .int .i64 a0_1, .int .u64 a0_2, .int .i64 a0_3, .bool false, .int .u64 0, .int .u64 0, .int .i64 0, .int .u8 0, .int .i64 0, .int .i64 0, .int .i64 0]) ?_ 11 _ rfl; refine blkU ?_; refine blk_put (cs := #[.int .u8 a0_0, .int .i64 a0_1, .int .u64 a0_2, .int .i64 a0_3, .bool false, .int .u64 0, .int .u64 0, .int .i64 0, .int .u8 0, .int .i64 0, .int .i64 0, .int .i64 0]) ?_ 10 _ rfl; refine blkU ?_; refine blk_put (cs := #[.int .u8 a0_0, .int .i64 a0_1, .int .u64 a0_2, .int .i64 a0_3, .bool false, .int .u64 0, .int .u64 0, .int .i64 0, .int .u8 0, .int .i64 0, .int .i64 0, .int .i64 0]) ?_ 9 _ rfl; refine blkU ?_; refine blk_put (cs := #[.int .u8 a0_0, .int .i64 a0_1, .int .u64 a0_2, .int .i64 a0_3, .bool false, .int .u64 0, .int .u64 0, .int .i64 0, .int .u8 0, .int .i64 0, .int .i64 0, .int .i64 0]) ?_ 8 _ rfl; refine blkU ?_; refine blk_put (cs := #[.int .u8 a0_0, .int .i64 a0_1, .int .u64 a0_2, .int .i64 a0_3, .bool false, .int .u64 0, .int .u64 0, .int .i64 0, .int .u8 0, .int .i64 0, .int .i64 0, .int .i64 0]) ?_ 7 _ rfl; refine blkU ?_; refine blk_put (cs := #[.int .u8 a0_0, .int .i64 a0_1, .int .u64 a0_2, .int .i64 a0_3, .bool false, .int .u64 0, .int .u64 0, .int .i64 0, .int .u8 0, .int .i64 0, .int .i64 0, .int .i64 0]) ?_ 6 _ rfl; refine blkU ?_; refine blk_put (cs := #[.int .u8 a0_0, .int .i64 a0_1, .int .u64 a0_2, .int .i64 a0_3, .bool false, .int .u64 0, .int .u64 0, .int .i64 0, .int .u8 0, .int .i64 0, .int .i64 0, .int .i64 0]) ?_ 5 _ rfl; refine blkU ?_; refine blk_put (cs := #[.int .u8 a0_0, .int .i64 a0_1, .int .u64 a0_2, .int .i64 a0_3, .bool false, .int .u64 0, .int .u64 0, .int .i64 0, .int .u8 0, .int .i64 0, .int .i64 0, .int .i64 0]) ?_ 4 _ rfl; refine blkU ?_; refine blk_put (cs := #[.int .u8 a0_0, .int .i64 a0_1, .int .u64 a0_2, .int .i64 0, .bool false, .int .u64 0, .int .u64 0, .int .i64 0, .int .u8 0, .int .i64 0, .int .i64 0, .int .i64 0]) ?_ 3 _ rfl; refine blkU ?_; refine blk_put (cs := #[.int .u8 a0_0, .int .i64 a0_1, .int .u64 0, .int .i64 0, .bool false, .int .u64 0, .int .u64 0, .int .i64 0, .int .u8 0, .int .i64 0, .int .i64 0, .int .i64 0]) ?_ 2 _ rfl; refine blkU ?_; refine blk_put (cs := #[.int .u8 a0_0, .int .i64 0, .int .u64 0, .int .i64 0, .bool false, .int .u64 0, .int .u64 0, .int .i64 0, .int .u8 0, .int .i64 0, .int .i64 0, .int .i64 0]) ?_ 1 _ rfl; refine blkU ?_; refine blk_put (cs := #[.int .u8 0, .int .i64 0, .int .u64 0, .int .i64 0, .bool false, .int .u64 0, .int .u64 0, .int .i64 0, .int .u8 0, .int .i64 0, .int .i64 0, .int .i64 0]) ?_ 0 _ rfl; refine blkU ?_; exact BK194.out⟩, ⟨bel_⟩⟩
      · rw [if_neg c22] at H
        have c22b0 : (a0_0 == 1) = false := beq_eq_false_iff_ne.mpr c22
        have c22b1 : (a0_0 != 1) = true := bne_iff_ne.mpr c22
        (first | rw [c22b0] | (simp only [i64_w, i32_w]; rw [c22b0]) | skip)
        have H' := Aside0.mk H
        clear H
        go_wp2
        go_meet
        case rel => exact ⟨_, ((a0_0 == 2)), st_, H', ⟨by have := HJ1.out; first | omega | exact Nat.le_refl _⟩, ⟨by refine blkU ?_; (repeat (first | (with_reducible refine blk_far ?_ NB193_194.out _) | (with_reducible refine blk_drewN ?_ _) | (with_reducible refine blk_drew ?_) | (with_reducible refine blk_alloc ?_ _))); exact BK193.out⟩, ⟨by refine blkU ?_; refine blk_put (cs := #[.int .u8 a0_0, .int .i64 a0_1, .int .u64 a0_2, .int .i64 a0_3, .bool false, .int .u64 0, .int .u64 0, .int .i64 0, .int .u8 0, .int .i64 0, .int .i64 0, .int .i64 0]) ?_ 11 _ rfl; refine blkU ?_; refine blk_put (cs := #[.int .u8 a0_0, .int .i64 a0_1, .int .u64 a0_2, .int .i64 a0_3, .bool false, .int .u64 0, .int .u64 0, .int .i64 0, .int .u8 0, .int .i64 0, .int .i64 0, .int .i64 0]) ?_ 10 _ rfl; refine blkU ?_; refine blk_put (cs := #[.int .u8 a0_0, .int .i64 a0_1, .int .u64 a0_2, .int .i64 a0_3, .bool false, .int .u64 0, .int .u64 0, .int .i64 0, .int .u8 0, .int .i64 0, .int .i64 0, .int .i64 0]) ?_ 9 _ rfl; refine blkU ?_; refine blk_put (cs := #[.int .u8 a0_0, .int .i64 a0_1, .int .u64 a0_2, .int .i64 a0_3, .bool false, .int .u64 0, .int .u64 0, .int .i64 0, .int .u8 0, .int .i64 0, .int .i64 0, .int .i64 0]) ?_ 8 _ rfl; refine blkU ?_; refine blk_put (cs := #[.int .u8 a0_0, .int .i64 a0_1, .int .u64 a0_2, .int .i64 a0_3, .bool false, .int .u64 0, .int .u64 0, .int .i64 0, .int .u8 0, .int .i64 0, .int .i64 0, .int .i64 0]) ?_ 7 _ rfl; refine blkU ?_; refine blk_put (cs := #[.int .u8 a0_0, .int .i64 a0_1, .int .u64 a0_2, .int .i64 a0_3, .bool false, .int .u64 0, .int .u64 0, .int .i64 0, .int .u8 0, .int .i64 0, .int .i64 0, .int .i64 0]) ?_ 6 _ rfl; refine blkU ?_; refine blk_put (cs := #[.int .u8 a0_0, .int .i64 a0_1, .int .u64 a0_2, .int .i64 a0_3, .bool false, .int .u64 0, .int .u64 0, .int .i64 0, .int .u8 0, .int .i64 0, .int .i64 0, .int .i64 0]) ?_ 5 _ rfl; refine blkU ?_; refine blk_put (cs := #[.int .u8 a0_0, .int .i64 a0_1, .int .u64 a0_2, .int .i64 a0_3, .bool false, .int .u64 0, .int .u64 0, .int .i64 0, .int .u8 0, .int .i64 0, .int .i64 0, .int .i64 0]) ?_ 4 _ rfl; refine blkU ?_; refine blk_put (cs := #[.int .u8 a0_0, .int .i64 a0_1, .int .u64 a0_2, .int .i64 0, .bool false, .int .u64 0, .int .u64 0, .int .i64 0, .int .u8 0, .int .i64 0, .int .i64 0, .int .i64 0]) ?_ 3 _ rfl; refine blkU ?_; refine blk_put (cs := #[.int .u8 a0_0, .int .i64 a0_1, .int .u64 0, .int .i64 0, .bool false, .int .u64 0, .int .u64 0, .int .i64 0, .int .u8 0, .int .i64 0, .int .i64 0, .int .i64 0]) ?_ 2 _ rfl; refine blkU ?_; refine blk_put (cs := #[.int .u8 a0_0, .int .i64 0, .int .u64 0, .int .i64 0, .bool false, .int .u64 0, .int .u64 0, .int .i64 0, .int .u8 0, .int .i64 0, .int .i64 0, .int .i64 0]) ?_ 1 _ rfl; refine blkU ?_; refine blk_put (cs := #[.int .u8 0, .int .i64 0, .int .u64 0, .int .i64 0, .bool false, .int .u64 0, .int .u64 0, .int .i64 0, .int .u8 0, .int .i64 0, .int .i64 0, .int .i64 0]) ?_ 0 _ rfl; refine blkU ?_; exact BK194.out⟩, ⟨bel_⟩⟩
     case rest =>
      clear HC16; try clear c1; try clear c2; try clear p2; try clear c4; try clear c4b0; try clear c6; try clear c6b0; try clear c8; try clear c8b0; try clear c10; try clear c10b0; try clear c12; try clear c12b0; try clear c15; try clear c19; try clear c22; try clear c22b0; try clear c22b1; try clear hcz11_0; try clear hcz11_1; try clear hcz11_10; try clear hcz11_11; try clear hcz11_2; try clear hcz11_3; try clear hcz11_4; try clear hcz11_5; try clear hcz11_6; try clear hcz11_7; try clear hcz11_8; try clear hcz11_9; try clear hcz13_0; try clear hcz13_1; try clear hcz13_10; try clear hcz13_11; try clear hcz13_2; try clear hcz13_3; try clear hcz13_4; try clear hcz13_5; try clear hcz13_6; try clear hcz13_7; try clear hcz13_8; try clear hcz13_9; try clear hcz14_0; try clear hcz14_1; try clear hcz14_10; try clear hcz14_11; try clear hcz14_2; try clear hcz14_3; try clear hcz14_4; try clear hcz14_5; try clear hcz14_6; try clear hcz14_7; try clear hcz14_8; try clear hcz14_9; try clear hcz17_0; try clear hcz17_1; try clear hcz17_10; try clear hcz17_11; try clear hcz17_2; try clear hcz17_3; try clear hcz17_4; try clear hcz17_5; try clear hcz17_6; try clear hcz17_7; try clear hcz17_8; try clear hcz17_9; try clear hcz20_0; try clear hcz20_1; try clear hcz20_10; try clear hcz20_11; try clear hcz20_2; try clear hcz20_3; try clear hcz20_4; try clear hcz20_5; try clear hcz20_6; try clear hcz20_7; try clear hcz20_8; try clear hcz20_9; try clear hcz21_0; try clear hcz21_1; try clear hcz21_10; try clear hcz21_11; try clear hcz21_2; try clear hcz21_3; try clear hcz21_4; try clear hcz21_5; try clear hcz21_6; try clear hcz21_7; try clear hcz21_8; try clear hcz21_9; try clear hcz5_0; try clear hcz5_1; try clear hcz5_10; try clear hcz5_11; try clear hcz5_2; try clear hcz5_3; try clear hcz5_4; try clear hcz5_5; try clear hcz5_6; try clear hcz5_7; try clear hcz5_8; try clear hcz5_9; try clear hcz7_0; try clear hcz7_1; try clear hcz7_10; try clear hcz7_11; try clear hcz7_2; try clear hcz7_3; try clear hcz7_4; try clear hcz7_5; try clear hcz7_6; try clear hcz7_7; try clear hcz7_8; try clear hcz7_9; try clear hcz9_0; try clear hcz9_1; try clear hcz9_10; try clear hcz9_11; try clear hcz9_2; try clear hcz9_3; try clear hcz9_4; try clear hcz9_5; try clear hcz9_6; try clear hcz9_7; try clear hcz9_8; try clear hcz9_9; try clear hfz11_0; try clear hfz11_1; try clear hfz11_10; try clear hfz11_11; try clear hfz11_2; try clear hfz11_3; try clear hfz11_4; try clear hfz11_5; try clear hfz11_6; try clear hfz11_7; try clear hfz11_8; try clear hfz11_9; try clear hfz13_0; try clear hfz13_1; try clear hfz13_10; try clear hfz13_11; try clear hfz13_2; try clear hfz13_3; try clear hfz13_4; try clear hfz13_5; try clear hfz13_6; try clear hfz13_7; try clear hfz13_8; try clear hfz13_9; try clear hfz14_0; try clear hfz14_1; try clear hfz14_10; try clear hfz14_11; try clear hfz14_2; try clear hfz14_3; try clear hfz14_4; try clear hfz14_5; try clear hfz14_6; try clear hfz14_7; try clear hfz14_8; try clear hfz14_9; try clear hfz17_0; try clear hfz17_1; try clear hfz17_10; try clear hfz17_11; try clear hfz17_2; try clear hfz17_3; try clear hfz17_4; try clear hfz17_5; try clear hfz17_6; try clear hfz17_7; try clear hfz17_8; try clear hfz17_9; try clear hfz20_0; try clear hfz20_1; try clear hfz20_10; try clear hfz20_11; try clear hfz20_2; try clear hfz20_3; try clear hfz20_4; try clear hfz20_5; try clear hfz20_6; try clear hfz20_7; try clear hfz20_8; try clear hfz20_9; try clear hfz21_0; try clear hfz21_1; try clear hfz21_10; try clear hfz21_11; try clear hfz21_2; try clear hfz21_3; try clear hfz21_4; try clear hfz21_5; try clear hfz21_6; try clear hfz21_7; try clear hfz21_8; try clear hfz21_9; try clear hfz5_0; try clear hfz5_1; try clear hfz5_10; try clear hfz5_11; try clear hfz5_2; try clear hfz5_3; try clear hfz5_4; try clear hfz5_5; try clear hfz5_6; try clear hfz5_7; try clear hfz5_8; try clear hfz5_9; try clear hfz7_0; try clear hfz7_1; try clear hfz7_10; try clear hfz7_11; try clear hfz7_2; try clear hfz7_3; try clear hfz7_4; try clear hfz7_5; try clear hfz7_6; try clear hfz7_7; try clear hfz7_8; try clear hfz7_9; try clear hfz9_0; try clear hfz9_1; try clear hfz9_10; try clear hfz9_11; try clear hfz9_2; try clear hfz9_3; try clear hfz9_4; try clear hfz9_5; try clear hfz9_6; try clear hfz9_7; try clear hfz9_8; try clear hfz9_9; try clear p2
      obtain ⟨kq, x44_15, rfl, HA, HJ15, BK193, BK194, HB⟩ := hcut
      cases kq with
      | zero => exact absurd HA.out (by simp [spoorref11_Check.j1])
      | succ kj15 =>
       have H := HA.out
       clear HA
       simp only [spoorref11_Check.j1] at H
       by_cases c23 : x44_15 = true
       · subst c23
         have H1 : (if true = true then (if (!(a0_0 == a0_0) || (!(a0_1 == a0_1) || (!(a0_2 == a0_2) || (!(a0_3 == a0_3) || ((!(false == a0_4) || ((!(0 == a0_5) || (!(0 == a0_6))) || (!(0 == a0_7)))) || ((!(0 == a0_8) || (!(0 == a0_9))) || (!(0 == a0_10) || (!(0 == a0_11))))))))) = true then (some 2) else (some 0)) else (some 2)) = some r := by rw [if_pos rfl] at H; exact H
         clear H
         have H := H1
         clear H1
         by_cases c24 : true = true
         · clear c24
           have H1 : (if (!(a0_0 == a0_0) || (!(a0_1 == a0_1) || (!(a0_2 == a0_2) || (!(a0_3 == a0_3) || ((!(false == a0_4) || ((!(0 == a0_5) || (!(0 == a0_6))) || (!(0 == a0_7)))) || ((!(0 == a0_8) || (!(0 == a0_9))) || (!(0 == a0_10) || (!(0 == a0_11))))))))) = true then (some 2) else (some 0)) = some r := by rw [if_pos rfl] at H; exact H
           clear H
           have H := H1
           clear H1
           by_cases c25 : (!(a0_0 == a0_0) || (!(a0_1 == a0_1) || (!(a0_2 == a0_2) || (!(a0_3 == a0_3) || ((!(false == a0_4) || ((!(0 == a0_5) || (!(0 == a0_6))) || (!(0 == a0_7)))) || ((!(0 == a0_8) || (!(0 == a0_9))) || (!(0 == a0_10) || (!(0 == a0_11))))))))) = true
           · rw [if_pos c25] at H
             have c25b0 : (!(a0_0 == a0_0) || (!(a0_1 == a0_1) || (!(a0_2 == a0_2) || (!(a0_3 == a0_3) || ((!(false == a0_4) || ((!(0 == a0_5) || (!(0 == a0_6))) || (!(0 == a0_7)))) || ((!(0 == a0_8) || (!(0 == a0_9))) || (!(0 == a0_10) || (!(0 == a0_11))))))))) = true := c25
             have c25b0_s_ := c25b0
             simp only [beq_self_eq_true, Bool.not_true, Bool.not_false, Bool.false_or, Bool.or_false, Bool.true_or, Bool.or_true, Bool.not_not, Bool.false_beq] at c25b0_s_
             clear c25
             obtain rfl := Option.some.inj H
             have hnb26 := NB194_193.out
             have hnc26 := NB193_194.out
             obtain ⟨hcz27_0, hcz27_1, hcz27_2, hcz27_3, hcz27_4, hcz27_5, hcz27_6, hcz27_7, hcz27_8, hcz27_9, hcz27_10, hcz27_11, hfz27_0, hfz27_1, hfz27_2, hfz27_3, hfz27_4, hfz27_5, hfz27_6, hfz27_7, hfz27_8, hfz27_9, hfz27_10, hfz27_11⟩ := cz12_ BK194.out
             obtain ⟨hcz28_0, hcz28_1, hcz28_2, hcz28_3, hcz28_4, hcz28_5, hcz28_6, hcz28_7, hcz28_8, hcz28_9, hcz28_10, hcz28_11, hfz28_0, hfz28_1, hfz28_2, hfz28_3, hfz28_4, hfz28_5, hfz28_6, hfz28_7, hfz28_8, hfz28_9, hfz28_10, hfz28_11⟩ := cz12_ BK193.out
             go_wp2
             go_ret
             exact fin_ bel_
           · rw [if_neg c25] at H
             have c25b0 : (!(a0_0 == a0_0) || (!(a0_1 == a0_1) || (!(a0_2 == a0_2) || (!(a0_3 == a0_3) || ((!(false == a0_4) || ((!(0 == a0_5) || (!(0 == a0_6))) || (!(0 == a0_7)))) || ((!(0 == a0_8) || (!(0 == a0_9))) || (!(0 == a0_10) || (!(0 == a0_11))))))))) = false := by simpa using c25
             have c25b0_s_ := c25b0
             simp only [beq_self_eq_true, Bool.not_true, Bool.not_false, Bool.false_or, Bool.or_false, Bool.true_or, Bool.or_true, Bool.not_not, Bool.false_beq] at c25b0_s_
             clear c25
             obtain rfl := Option.some.inj H
             have hnb29 := NB194_193.out
             have hnc29 := NB193_194.out
             obtain ⟨hcz30_0, hcz30_1, hcz30_2, hcz30_3, hcz30_4, hcz30_5, hcz30_6, hcz30_7, hcz30_8, hcz30_9, hcz30_10, hcz30_11, hfz30_0, hfz30_1, hfz30_2, hfz30_3, hfz30_4, hfz30_5, hfz30_6, hfz30_7, hfz30_8, hfz30_9, hfz30_10, hfz30_11⟩ := cz12_ BK194.out
             obtain ⟨hcz31_0, hcz31_1, hcz31_2, hcz31_3, hcz31_4, hcz31_5, hcz31_6, hcz31_7, hcz31_8, hcz31_9, hcz31_10, hcz31_11, hfz31_0, hfz31_1, hfz31_2, hfz31_3, hfz31_4, hfz31_5, hfz31_6, hfz31_7, hfz31_8, hfz31_9, hfz31_10, hfz31_11⟩ := cz12_ BK193.out
             go_wp2
             go_ret
             exact fin_ bel_
         · exact absurd rfl c24
       · replace c23 := Bool.eq_false_iff.mpr c23
         subst c23
         have H1 : (if a0_0 = 3 then ((spoorref09_Check.f kj15 a0_4 a0_5 a0_6 a0_7).bind fun t195 => (if t195 = 0 then ((spoorref11_Acts.f a0_8 a0_9).bind fun t196 => (if t196 = true then (if (!(a0_0 == a0_0) || (!(a0_1 == a0_1) || (!(a0_2 == a0_2) || (!(a0_3 == a0_3) || (!(0 == a0_10) || (!(0 == a0_11))))))) = true then (some 2) else (some 0)) else (some 2))) else (some 2))) else (if a0_0 = 4 then ((spoorref09_Check.f kj15 a0_4 a0_5 a0_6 a0_7).bind fun t197 => (if t197 = 0 then (if (!(a0_0 == a0_0) || (!(a0_1 == a0_1) || (!(a0_2 == a0_2) || (!(a0_3 == a0_3) || ((!(0 == a0_8) || (!(0 == a0_9))) || (!(0 == a0_10) || (!(0 == a0_11)))))))) = true then (some 2) else (some 0)) else (some 2))) else (if a0_0 = 5 then (if a0_10 ≥ 0 then (if a0_10 ≤ 65536 then (if a0_11 ≥ 0 then (if a0_11 ≤ 1048576 then (if (!(a0_0 == a0_0) || (!(a0_1 == a0_1) || (!(a0_2 == a0_2) || (!(a0_3 == a0_3) || ((!(false == a0_4) || ((!(0 == a0_5) || (!(0 == a0_6))) || (!(0 == a0_7)))) || ((!(0 == a0_8) || (!(0 == a0_9))))))))) = true then (some 2) else (some 0)) else (some 2)) else (some 2)) else (some 2)) else (some 2)) else (if a0_0 = 6 then (if a0_10 ≥ 0 then (if a0_10 ≤ 65536 then (if (!(a0_0 == a0_0) || (!(a0_1 == a0_1) || (!(a0_2 == a0_2) || (!(a0_3 == a0_3) || ((!(false == a0_4) || ((!(0 == a0_5) || (!(0 == a0_6))) || (!(0 == a0_7)))) || ((!(0 == a0_8) || (!(0 == a0_9))) || (!(0 == a0_11)))))))) = true then (some 2) else (some 0)) else (some 2)) else (some 2)) else (some 2))))) = some r := by rw [if_neg (show ¬ (false = true) by decide)] at H; exact H
         clear H
         have H := H1
         clear H1
         by_cases c32 : a0_0 = 3
         · rw [if_pos c32] at H
           have c32b0 : (a0_0 == 3) = true := beq_iff_eq.mpr c32
           have c32b1 : (a0_0 != 3) = false := bne_eq_false_iff_eq.mpr c32
           clear c32
           replace H := Option.bind_eq_some_iff.mp H
           obtain ⟨t195, A330, H⟩ := H
           replace H : (if t195 = 0 then ((spoorref11_Acts.f a0_8 a0_9).bind fun t196 => (if t196 = true then (if (!(a0_0 == a0_0) || (!(a0_1 == a0_1) || (!(a0_2 == a0_2) || (!(a0_3 == a0_3) || (!(0 == a0_10) || (!(0 == a0_11))))))) = true then (some 2) else (some 0)) else (some 2))) else (some 2)) = some r := H
           have A33 := Aside0.mk A330
           clear A330
           by_cases c34 : t195 = 0
           · rw [if_pos c34] at H
             have c34b0 : (t195 == 0) = true := beq_iff_eq.mpr c34
             have c34b1 : (t195 != 0) = false := bne_eq_false_iff_eq.mpr c34
             clear c34
             replace H := Option.bind_eq_some_iff.mp H
             obtain ⟨t196, A350, H⟩ := H
             replace H : (if t196 = true then (if (!(a0_0 == a0_0) || (!(a0_1 == a0_1) || (!(a0_2 == a0_2) || (!(a0_3 == a0_3) || (!(0 == a0_10) || (!(0 == a0_11))))))) = true then (some 2) else (some 0)) else (some 2)) = some r := H
             have A35 := Aside0.mk A350
             clear A350
             by_cases c36 : t196 = true
             · subst c36
               have H1 : (if (!(a0_0 == a0_0) || (!(a0_1 == a0_1) || (!(a0_2 == a0_2) || (!(a0_3 == a0_3) || (!(0 == a0_10) || (!(0 == a0_11))))))) = true then (some 2) else (some 0)) = some r := by rw [if_pos rfl] at H; exact H
               clear H
               have H := H1
               clear H1
               by_cases c37 : (!(a0_0 == a0_0) || (!(a0_1 == a0_1) || (!(a0_2 == a0_2) || (!(a0_3 == a0_3) || (!(0 == a0_10) || (!(0 == a0_11))))))) = true
               · rw [if_pos c37] at H
                 have c37b0 : (!(a0_0 == a0_0) || (!(a0_1 == a0_1) || (!(a0_2 == a0_2) || (!(a0_3 == a0_3) || (!(0 == a0_10) || (!(0 == a0_11))))))) = true := c37
                 have c37b0_s_ := c37b0
                 simp only [beq_self_eq_true, Bool.not_true, Bool.not_false, Bool.false_or, Bool.or_false, Bool.true_or, Bool.or_true, Bool.not_not, Bool.false_beq] at c37b0_s_
                 clear c37
                 obtain rfl := Option.some.inj H
                 try go_wp2
                 have n0_ := Aside0.mk (blk_drew BK193.out)
                 have n1_ := Aside0.mk (blk_drew BK194.out)
                 have n2_ := Aside0.mk (below_drew1 HB.out)
                 clear BK193; clear BK194; clear HB
                 have BK193 := n0_
                 have BK194 := n1_
                 have HB := n2_
                 clear n0_ n1_ n2_
                 refine start_ (n := 8) (S := fun w' => w'.cell? ⟨gb193, 0, none⟩ = some (.int .u8 a0_0) ∧ w'.cell? ⟨gb193, 1, none⟩ = some (.int .i64 a0_1) ∧ w'.cell? ⟨gb193, 2, none⟩ = some (.int .u64 a0_2) ∧ w'.cell? ⟨gb193, 3, none⟩ = some (.int .i64 a0_3) ∧ w'.cell? ⟨gb193, 4, none⟩ = some (.bool a0_4) ∧ w'.cell? ⟨gb193, 5, none⟩ = some (.int .u64 a0_5) ∧ w'.cell? ⟨gb193, 6, none⟩ = some (.int .u64 a0_6) ∧ w'.cell? ⟨gb193, 7, none⟩ = some (.int .i64 a0_7) ∧ w'.cell? ⟨gb193, 8, none⟩ = some (.int .u8 a0_8) ∧ w'.cell? ⟨gb193, 9, none⟩ = some (.int .i64 a0_9) ∧ w'.cell? ⟨gb193, 10, none⟩ = some (.int .i64 a0_10) ∧ w'.cell? ⟨gb193, 11, none⟩ = some (.int .i64 a0_11)) (ds := []) #[false, false, false, false, false, false, false, false] (by kernel_rfl) rfl rfl ⟨(blk_cell BK193.out 0).trans rfl, (blk_cell BK193.out 1).trans rfl, (blk_cell BK193.out 2).trans rfl, (blk_cell BK193.out 3).trans rfl, (blk_cell BK193.out 4).trans rfl, (blk_cell BK193.out 5).trans rfl, (blk_cell BK193.out 6).trans rfl, (blk_cell BK193.out 7).trans rfl, (blk_cell BK193.out 8).trans rfl, (blk_cell BK193.out 9).trans rfl, (blk_cell BK193.out 10).trans rfl, (blk_cell BK193.out 11).trans rfl⟩ (fun hHeld => ?_); refine with_tabW spoorref11_Check.tab10 spoorref11_Check.bits10 (fun HT_ HW_ => ?_)
                 generalize wc.drew = w38 at BK193 BK194 HB hHeld ⊢
                 refine pure_ (i := 0) (N := some 49) (v := ?_) (a' := ?_) #[true, false, false, false, false, false, false, false] rfl rfl (any_of HT_.out (by kernel_rfl)) (fun _ _ _ h => h) (Or.inl ⟨by rfl, ?_⟩) ?_ ?_
                 rotate_left
                 · intro w'
                   go_simp
                   with_reducible rfl
                 rotate_left
                 · simp only [Act.put, List.setIfInBounds_toArray, List.set_cons_zero, List.set_cons_succ, i64_w, i32_w]
                   rfl
                 refine pure_ (i := 2) (N := some 51) (v := ?_) (a' := ?_) #[true, false, true, false, false, false, false, false] rfl rfl (any_of HT_.out (by kernel_rfl)) (fun _ _ _ h => h) (Or.inl ⟨by rfl, ?_⟩) ?_ ?_
                 rotate_left
                 · intro w'
                   go_simp
                   with_reducible rfl
                 rotate_left
                 · simp only [Act.put, List.setIfInBounds_toArray, List.set_cons_zero, List.set_cons_succ, i64_w, i32_w]
                   rfl
                 refine take_ (i := 1) (N := some 50) (v := ?_) (a' := ?_) #[true, true, true, false, false, false, false, false] rfl rfl (take_ofW HT_.out HW_.out (by kernel_rfl)) (fun _ _ _ h => h) (Or.inl ⟨by rfl, ?_⟩) hHeld ?_ ?_
                 rotate_left
                 · rintro w' ⟨s0, s1, s2, s3, s4, s5, s6, s7, s8, s9, s10, s11⟩
                   go_simp
                   with_reducible rfl
                 rotate_left
                 · simp only [Act.put, List.setIfInBounds_toArray, List.set_cons_zero, List.set_cons_succ, i64_w, i32_w]
                   rfl
                 refine pure_ (i := 4) (N := some 53) (v := ?_) (a' := ?_) #[true, true, true, false, true, false, false, false] rfl rfl (any_of HT_.out (by kernel_rfl)) (fun _ _ _ h => h) (Or.inl ⟨by rfl, ?_⟩) ?_ ?_
                 rotate_left
                 · intro w'
                   go_simp
                   with_reducible rfl
                 rotate_left
                 · simp only [Act.put, List.setIfInBounds_toArray, List.set_cons_zero, List.set_cons_succ, i64_w, i32_w]
                   rfl
                 refine take_ (i := 3) (N := some 52) (v := ?_) (a' := ?_) #[true, true, true, true, true, false, false, false] rfl rfl (take_ofW HT_.out HW_.out (by kernel_rfl)) (fun _ _ _ h => h) (Or.inl ⟨by rfl, ?_⟩) hHeld ?_ ?_
                 rotate_left
                 · rintro w' ⟨s0, s1, s2, s3, s4, s5, s6, s7, s8, s9, s10, s11⟩
                   go_simp
                   with_reducible rfl
                 rotate_left
                 · simp only [Act.put, List.setIfInBounds_toArray, List.set_cons_zero, List.set_cons_succ, i64_w, i32_w]
                   rfl
                 refine one_ (i := 5) (N := none) #[true, true, true, true, true, true, false, false] rfl rfl (one_of HT_.out (by kernel_rfl)) (by decide) (fun K hK => ?_)
                 have hs39 : w38.cell? ⟨gb194, 4, none⟩ = some (.bool false) := (blk_cell BK194.out 4).trans rfl
                 have hfs39 := blk_frozen BK194.out 4
                 have hns39_0 := NB193_194.out
                 have hms39_0 := NB194_193.out
                 have hs40 : w38.cell? ⟨gb194, 5, none⟩ = some (.int .u64 0) := (blk_cell BK194.out 5).trans rfl
                 have hfs40 := blk_frozen BK194.out 5
                 have hns40_0 := NB193_194.out
                 have hms40_0 := NB194_193.out
                 have hs41 : w38.cell? ⟨gb194, 6, none⟩ = some (.int .u64 0) := (blk_cell BK194.out 6).trans rfl
                 have hfs41 := blk_frozen BK194.out 6
                 have hns41_0 := NB193_194.out
                 have hms41_0 := NB194_193.out
                 have hs42 : w38.cell? ⟨gb194, 7, none⟩ = some (.int .i64 0) := (blk_cell BK194.out 7).trans rfl
                 have hfs42 := blk_frozen BK194.out 7
                 have hns42_0 := NB193_194.out
                 have hms42_0 := NB194_193.out
                 refine skip_ (w1 := ?_) (by rfl) rfl ?_ ?_
                 rotate_left
                 · go_simp
                   rfl
                 refine hK.out _ _ ⟨(cfx_ NB193_194.out ((cfx_ NB193_194.out ((cfx_ NB193_194.out ((cfx_ NB193_194.out (hHeld.1)))))))), (cfx_ NB193_194.out ((cfx_ NB193_194.out ((cfx_ NB193_194.out ((cfx_ NB193_194.out (hHeld.2.1)))))))), (cfx_ NB193_194.out ((cfx_ NB193_194.out ((cfx_ NB193_194.out ((cfx_ NB193_194.out (hHeld.2.2.1)))))))), (cfx_ NB193_194.out ((cfx_ NB193_194.out ((cfx_ NB193_194.out ((cfx_ NB193_194.out (hHeld.2.2.2.1)))))))), (cfx_ NB193_194.out ((cfx_ NB193_194.out ((cfx_ NB193_194.out ((cfx_ NB193_194.out (hHeld.2.2.2.2.1)))))))), (cfx_ NB193_194.out ((cfx_ NB193_194.out ((cfx_ NB193_194.out ((cfx_ NB193_194.out (hHeld.2.2.2.2.2.1)))))))), (cfx_ NB193_194.out ((cfx_ NB193_194.out ((cfx_ NB193_194.out ((cfx_ NB193_194.out (hHeld.2.2.2.2.2.2.1)))))))), (cfx_ NB193_194.out ((cfx_ NB193_194.out ((cfx_ NB193_194.out ((cfx_ NB193_194.out (hHeld.2.2.2.2.2.2.2.1)))))))), (cfx_ NB193_194.out ((cfx_ NB193_194.out ((cfx_ NB193_194.out ((cfx_ NB193_194.out (hHeld.2.2.2.2.2.2.2.2.1)))))))), (cfx_ NB193_194.out ((cfx_ NB193_194.out ((cfx_ NB193_194.out ((cfx_ NB193_194.out (hHeld.2.2.2.2.2.2.2.2.2.1)))))))), (cfx_ NB193_194.out ((cfx_ NB193_194.out ((cfx_ NB193_194.out ((cfx_ NB193_194.out (hHeld.2.2.2.2.2.2.2.2.2.2.1)))))))), (cfx_ NB193_194.out ((cfx_ NB193_194.out ((cfx_ NB193_194.out ((cfx_ NB193_194.out (hHeld.2.2.2.2.2.2.2.2.2.2.2))))))))⟩ (fun hHeld => ?_)
                 clear hK K
                 refine pure_ (i := 6) (N := some 54) (v := ?_) (a' := ?_) #[true, true, true, true, true, true, true, false] rfl rfl (any_of HT_.out (by kernel_rfl)) (fun _ _ _ h => h) (Or.inl ⟨by rfl, ?_⟩) ?_ ?_
                 rotate_left
                 · intro w'
                   go_simp
                   with_reducible rfl
                 rotate_left
                 · simp only [Act.put, List.setIfInBounds_toArray, List.set_cons_zero, List.set_cons_succ, i64_w, i32_w]
                   rfl
                 refine one_ (i := 7) (N := none) #[true, true, true, true, true, true, true, true] rfl rfl (one_of HT_.out (by kernel_rfl)) (by decide) (fun K hK => ?_)
                 have hs43 : w38.cell? ⟨gb194, 8, none⟩ = some (.int .u8 0) := (blk_cell BK194.out 8).trans rfl
                 have hfs43 := blk_frozen BK194.out 8
                 have hns43_0 := NB193_194.out
                 have hms43_0 := NB194_193.out
                 have hs44 : w38.cell? ⟨gb194, 9, none⟩ = some (.int .i64 0) := (blk_cell BK194.out 9).trans rfl
                 have hfs44 := blk_frozen BK194.out 9
                 have hns44_0 := NB193_194.out
                 have hms44_0 := NB194_193.out
                 refine skip_ (w1 := ?_) (by rfl) rfl ?_ ?_
                 rotate_left
                 · go_simp
                   rfl
                 refine hK.out _ _ ⟨(cfx_ NB193_194.out ((cfx_ NB193_194.out (hHeld.1)))), (cfx_ NB193_194.out ((cfx_ NB193_194.out (hHeld.2.1)))), (cfx_ NB193_194.out ((cfx_ NB193_194.out (hHeld.2.2.1)))), (cfx_ NB193_194.out ((cfx_ NB193_194.out (hHeld.2.2.2.1)))), (cfx_ NB193_194.out ((cfx_ NB193_194.out (hHeld.2.2.2.2.1)))), (cfx_ NB193_194.out ((cfx_ NB193_194.out (hHeld.2.2.2.2.2.1)))), (cfx_ NB193_194.out ((cfx_ NB193_194.out (hHeld.2.2.2.2.2.2.1)))), (cfx_ NB193_194.out ((cfx_ NB193_194.out (hHeld.2.2.2.2.2.2.2.1)))), (cfx_ NB193_194.out ((cfx_ NB193_194.out (hHeld.2.2.2.2.2.2.2.2.1)))), (cfx_ NB193_194.out ((cfx_ NB193_194.out (hHeld.2.2.2.2.2.2.2.2.2.1)))), (cfx_ NB193_194.out ((cfx_ NB193_194.out (hHeld.2.2.2.2.2.2.2.2.2.2.1)))), (cfx_ NB193_194.out ((cfx_ NB193_194.out (hHeld.2.2.2.2.2.2.2.2.2.2.2))))⟩ (fun hHeld => ?_)
                 clear hK K
                 refine done_ (done_of HT_.out (by kernel_rfl)) ?_
                 have hnb45 := NB193_194.out
                 have hnc45 := NB194_193.out
                 obtain ⟨hcz46_0, hcz46_1, hcz46_2, hcz46_3, hcz46_4, hcz46_5, hcz46_6, hcz46_7, hcz46_8, hcz46_9, hcz46_10, hcz46_11, hfz46_0, hfz46_1, hfz46_2, hfz46_3, hfz46_4, hfz46_5, hfz46_6, hfz46_7, hfz46_8, hfz46_9, hfz46_10, hfz46_11⟩ := cz12_ BK193.out
                 try go_wp2_with (first | ((with_reducible refine gate_callee (f := 30) rfl ?_); refine goesL_ (some 57) rfl rfl Try.func30 (by kernel_rfl) rfl #[.agg #[.bool a0_4, .int .u64 a0_5, .int .u64 a0_6, .int .i64 a0_7]] rfl args_ ?_; (with_reducible refine (spoorref09_Check.calls kj15 a0_4 a0_5 a0_6 a0_7 t195 _ A33.out).mono ?_); rintro e w47 ⟨rfl, hb⟩; refine ⟨_, rfl, ?_⟩; have n0_ := Aside0.mk (blk_below (g := gb193) (o := .cells #[.int .u8 a0_0, .int .i64 a0_1, .int .u64 a0_2, .int .i64 a0_3, .bool a0_4, .int .u64 a0_5, .int .u64 a0_6, .int .i64 a0_7, .int .u8 a0_8, .int .i64 a0_9, .int .i64 a0_10, .int .i64 a0_11] 33 (0, 0)) (by refine blkU ?_; (repeat (first | (with_reducible refine blk_far ?_ NB193_194.out _) | (with_reducible refine blk_drewN ?_ _) | (with_reducible refine blk_drew ?_) | (with_reducible refine blk_alloc ?_ _))); exact BK193.out) hb); have n1_ := Aside0.mk (blk_below (g := gb194) (o := .cells #[.int .u8 a0_0, .int .i64 a0_1, .int .u64 a0_2, .int .i64 a0_3, .bool a0_4, .int .u64 a0_5, .int .u64 a0_6, .int .i64 a0_7, .int .u8 a0_8, .int .i64 a0_9, .int .i64 0, .int .i64 0] 33 (0, 0)) (by refine blkU ?_; refine blk_put (cs := #[.int .u8 a0_0, .int .i64 a0_1, .int .u64 a0_2, .int .i64 a0_3, .bool a0_4, .int .u64 a0_5, .int .u64 a0_6, .int .i64 a0_7, .int .u8 a0_8, .int .i64 0, .int .i64 0, .int .i64 0]) ?_ 9 _ rfl; refine blkU ?_; refine blk_put (cs := #[.int .u8 a0_0, .int .i64 a0_1, .int .u64 a0_2, .int .i64 a0_3, .bool a0_4, .int .u64 a0_5, .int .u64 a0_6, .int .i64 a0_7, .int .u8 0, .int .i64 0, .int .i64 0, .int .i64 0]) ?_ 8 _ rfl; refine blkU ?_; refine blk_put (cs := #[.int .u8 a0_0, .int .i64 a0_1, .int .u64 a0_2, .int .i64 a0_3, .bool a0_4, .int .u64 a0_5, .int .u64 a0_6, .int .i64 0, .int .u8 0, .int .i64 0, .int .i64 0, .int .i64 0]) ?_ 7 _ rfl; refine blkU ?_; refine blk_put (cs := #[.int .u8 a0_0, .int .i64 a0_1, .int .u64 a0_2, .int .i64 a0_3, .bool a0_4, .int .u64 a0_5, .int .u64 0, .int .i64 0, .int .u8 0, .int .i64 0, .int .i64 0, .int .i64 0]) ?_ 6 _ rfl; refine blkU ?_; refine blk_put (cs := #[.int .u8 a0_0, .int .i64 a0_1, .int .u64 a0_2, .int .i64 a0_3, .bool a0_4, .int .u64 0, .int .u64 0, .int .i64 0, .int .u8 0, .int .i64 0, .int .i64 0, .int .i64 0]) ?_ 5 _ rfl; refine blkU ?_; refine blk_put (cs := #[.int .u8 a0_0, .int .i64 a0_1, .int .u64 a0_2, .int .i64 a0_3, .bool false, .int .u64 0, .int .u64 0, .int .i64 0, .int .u8 0, .int .i64 0, .int .i64 0, .int .i64 0]) ?_ 4 _ rfl; refine blkU ?_; exact BK194.out) hb); have n2_ := Aside0.mk (below_step bel_ hb); clear BK193; clear BK194; clear HB; have BK193 := n0_; have BK194 := n1_; have HB := n2_; clear n0_ n1_ n2_; (try clear hb); (try clear hb2); (try clear hk); (try clear hi); obtain ⟨hcz48_0, hcz48_1, hcz48_2, hcz48_3, hcz48_4, hcz48_5, hcz48_6, hcz48_7, hcz48_8, hcz48_9, hcz48_10, hcz48_11, hfz48_0, hfz48_1, hfz48_2, hfz48_3, hfz48_4, hfz48_5, hfz48_6, hfz48_7, hfz48_8, hfz48_9, hfz48_10, hfz48_11⟩ := cz12_ BK193.out) | (go_at_call 31; (with_reducible refine (spoorref11_Acts.calls a0_8 a0_9 true _ A35.out).mono ?_); rintro e w49 ⟨rfl, hb⟩; have n0_ := Aside0.mk (blk_below (blkU BK193.out) hb); have n1_ := Aside0.mk (blk_below (blkU BK194.out) hb); have n2_ := Aside0.mk (below_step bel_ hb); clear BK193; clear BK194; clear HB; have BK193 := n0_; have BK194 := n1_; have HB := n2_; clear n0_ n1_ n2_; (try clear hb); (try clear hb2); (try clear hk); (try clear hi); obtain ⟨hcz50_0, hcz50_1, hcz50_2, hcz50_3, hcz50_4, hcz50_5, hcz50_6, hcz50_7, hcz50_8, hcz50_9, hcz50_10, hcz50_11, hfz50_0, hfz50_1, hfz50_2, hfz50_3, hfz50_4, hfz50_5, hfz50_6, hfz50_7, hfz50_8, hfz50_9, hfz50_10, hfz50_11⟩ := cz12_ BK194.out; obtain ⟨hcz51_0, hcz51_1, hcz51_2, hcz51_3, hcz51_4, hcz51_5, hcz51_6, hcz51_7, hcz51_8, hcz51_9, hcz51_10, hcz51_11, hfz51_0, hfz51_1, hfz51_2, hfz51_3, hfz51_4, hfz51_5, hfz51_6, hfz51_7, hfz51_8, hfz51_9, hfz51_10, hfz51_11⟩ := cz12_ BK193.out))
                 go_ret
                 exact fin_ bel_
               · rw [if_neg c37] at H
                 have c37b0 : (!(a0_0 == a0_0) || (!(a0_1 == a0_1) || (!(a0_2 == a0_2) || (!(a0_3 == a0_3) || (!(0 == a0_10) || (!(0 == a0_11))))))) = false := by simpa using c37
                 have c37b0_s_ := c37b0
                 simp only [beq_self_eq_true, Bool.not_true, Bool.not_false, Bool.false_or, Bool.or_false, Bool.true_or, Bool.or_true, Bool.not_not, Bool.false_beq] at c37b0_s_
                 clear c37
                 obtain rfl := Option.some.inj H
                 try go_wp2
                 have n0_ := Aside0.mk (blk_drew BK193.out)
                 have n1_ := Aside0.mk (blk_drew BK194.out)
                 have n2_ := Aside0.mk (below_drew1 HB.out)
                 clear BK193; clear BK194; clear HB
                 have BK193 := n0_
                 have BK194 := n1_
                 have HB := n2_
                 clear n0_ n1_ n2_
                 refine start_ (n := 8) (S := fun w' => w'.cell? ⟨gb193, 0, none⟩ = some (.int .u8 a0_0) ∧ w'.cell? ⟨gb193, 1, none⟩ = some (.int .i64 a0_1) ∧ w'.cell? ⟨gb193, 2, none⟩ = some (.int .u64 a0_2) ∧ w'.cell? ⟨gb193, 3, none⟩ = some (.int .i64 a0_3) ∧ w'.cell? ⟨gb193, 4, none⟩ = some (.bool a0_4) ∧ w'.cell? ⟨gb193, 5, none⟩ = some (.int .u64 a0_5) ∧ w'.cell? ⟨gb193, 6, none⟩ = some (.int .u64 a0_6) ∧ w'.cell? ⟨gb193, 7, none⟩ = some (.int .i64 a0_7) ∧ w'.cell? ⟨gb193, 8, none⟩ = some (.int .u8 a0_8) ∧ w'.cell? ⟨gb193, 9, none⟩ = some (.int .i64 a0_9) ∧ w'.cell? ⟨gb193, 10, none⟩ = some (.int .i64 a0_10) ∧ w'.cell? ⟨gb193, 11, none⟩ = some (.int .i64 a0_11)) (ds := []) #[false, false, false, false, false, false, false, false] (by kernel_rfl) rfl rfl ⟨(blk_cell BK193.out 0).trans rfl, (blk_cell BK193.out 1).trans rfl, (blk_cell BK193.out 2).trans rfl, (blk_cell BK193.out 3).trans rfl, (blk_cell BK193.out 4).trans rfl, (blk_cell BK193.out 5).trans rfl, (blk_cell BK193.out 6).trans rfl, (blk_cell BK193.out 7).trans rfl, (blk_cell BK193.out 8).trans rfl, (blk_cell BK193.out 9).trans rfl, (blk_cell BK193.out 10).trans rfl, (blk_cell BK193.out 11).trans rfl⟩ (fun hHeld => ?_); refine with_tabW spoorref11_Check.tab10 spoorref11_Check.bits10 (fun HT_ HW_ => ?_)
                 generalize wc.drew = w52 at BK193 BK194 HB hHeld ⊢
                 refine pure_ (i := 0) (N := some 49) (v := ?_) (a' := ?_) #[true, false, false, false, false, false, false, false] rfl rfl (any_of HT_.out (by kernel_rfl)) (fun _ _ _ h => h) (Or.inl ⟨by rfl, ?_⟩) ?_ ?_
                 rotate_left
                 · intro w'
                   go_simp
                   with_reducible rfl
                 rotate_left
                 · simp only [Act.put, List.setIfInBounds_toArray, List.set_cons_zero, List.set_cons_succ, i64_w, i32_w]
                   rfl
                 refine pure_ (i := 2) (N := some 51) (v := ?_) (a' := ?_) #[true, false, true, false, false, false, false, false] rfl rfl (any_of HT_.out (by kernel_rfl)) (fun _ _ _ h => h) (Or.inl ⟨by rfl, ?_⟩) ?_ ?_
                 rotate_left
                 · intro w'
                   go_simp
                   with_reducible rfl
                 rotate_left
                 · simp only [Act.put, List.setIfInBounds_toArray, List.set_cons_zero, List.set_cons_succ, i64_w, i32_w]
                   rfl
                 refine take_ (i := 1) (N := some 50) (v := ?_) (a' := ?_) #[true, true, true, false, false, false, false, false] rfl rfl (take_ofW HT_.out HW_.out (by kernel_rfl)) (fun _ _ _ h => h) (Or.inl ⟨by rfl, ?_⟩) hHeld ?_ ?_
                 rotate_left
                 · rintro w' ⟨s0, s1, s2, s3, s4, s5, s6, s7, s8, s9, s10, s11⟩
                   go_simp
                   with_reducible rfl
                 rotate_left
                 · simp only [Act.put, List.setIfInBounds_toArray, List.set_cons_zero, List.set_cons_succ, i64_w, i32_w]
                   rfl
                 refine pure_ (i := 4) (N := some 53) (v := ?_) (a' := ?_) #[true, true, true, false, true, false, false, false] rfl rfl (any_of HT_.out (by kernel_rfl)) (fun _ _ _ h => h) (Or.inl ⟨by rfl, ?_⟩) ?_ ?_
                 rotate_left
                 · intro w'
                   go_simp
                   with_reducible rfl
                 rotate_left
                 · simp only [Act.put, List.setIfInBounds_toArray, List.set_cons_zero, List.set_cons_succ, i64_w, i32_w]
                   rfl
                 refine take_ (i := 3) (N := some 52) (v := ?_) (a' := ?_) #[true, true, true, true, true, false, false, false] rfl rfl (take_ofW HT_.out HW_.out (by kernel_rfl)) (fun _ _ _ h => h) (Or.inl ⟨by rfl, ?_⟩) hHeld ?_ ?_
                 rotate_left
                 · rintro w' ⟨s0, s1, s2, s3, s4, s5, s6, s7, s8, s9, s10, s11⟩
                   go_simp
                   with_reducible rfl
                 rotate_left
                 · simp only [Act.put, List.setIfInBounds_toArray, List.set_cons_zero, List.set_cons_succ, i64_w, i32_w]
                   rfl
                 refine one_ (i := 5) (N := none) #[true, true, true, true, true, true, false, false] rfl rfl (one_of HT_.out (by kernel_rfl)) (by decide) (fun K hK => ?_)
                 have hs53 : w52.cell? ⟨gb194, 4, none⟩ = some (.bool false) := (blk_cell BK194.out 4).trans rfl
                 have hfs53 := blk_frozen BK194.out 4
                 have hns53_0 := NB193_194.out
                 have hms53_0 := NB194_193.out
                 have hs54 : w52.cell? ⟨gb194, 5, none⟩ = some (.int .u64 0) := (blk_cell BK194.out 5).trans rfl
                 have hfs54 := blk_frozen BK194.out 5
                 have hns54_0 := NB193_194.out
                 have hms54_0 := NB194_193.out
                 have hs55 : w52.cell? ⟨gb194, 6, none⟩ = some (.int .u64 0) := (blk_cell BK194.out 6).trans rfl
                 have hfs55 := blk_frozen BK194.out 6
                 have hns55_0 := NB193_194.out
                 have hms55_0 := NB194_193.out
                 have hs56 : w52.cell? ⟨gb194, 7, none⟩ = some (.int .i64 0) := (blk_cell BK194.out 7).trans rfl
                 have hfs56 := blk_frozen BK194.out 7
                 have hns56_0 := NB193_194.out
                 have hms56_0 := NB194_193.out
                 refine skip_ (w1 := ?_) (by rfl) rfl ?_ ?_
                 rotate_left
                 · go_simp
                   rfl
                 refine hK.out _ _ ⟨(cfx_ NB193_194.out ((cfx_ NB193_194.out ((cfx_ NB193_194.out ((cfx_ NB193_194.out (hHeld.1)))))))), (cfx_ NB193_194.out ((cfx_ NB193_194.out ((cfx_ NB193_194.out ((cfx_ NB193_194.out (hHeld.2.1)))))))), (cfx_ NB193_194.out ((cfx_ NB193_194.out ((cfx_ NB193_194.out ((cfx_ NB193_194.out (hHeld.2.2.1)))))))), (cfx_ NB193_194.out ((cfx_ NB193_194.out ((cfx_ NB193_194.out ((cfx_ NB193_194.out (hHeld.2.2.2.1)))))))), (cfx_ NB193_194.out ((cfx_ NB193_194.out ((cfx_ NB193_194.out ((cfx_ NB193_194.out (hHeld.2.2.2.2.1)))))))), (cfx_ NB193_194.out ((cfx_ NB193_194.out ((cfx_ NB193_194.out ((cfx_ NB193_194.out (hHeld.2.2.2.2.2.1)))))))), (cfx_ NB193_194.out ((cfx_ NB193_194.out ((cfx_ NB193_194.out ((cfx_ NB193_194.out (hHeld.2.2.2.2.2.2.1)))))))), (cfx_ NB193_194.out ((cfx_ NB193_194.out ((cfx_ NB193_194.out ((cfx_ NB193_194.out (hHeld.2.2.2.2.2.2.2.1)))))))), (cfx_ NB193_194.out ((cfx_ NB193_194.out ((cfx_ NB193_194.out ((cfx_ NB193_194.out (hHeld.2.2.2.2.2.2.2.2.1)))))))), (cfx_ NB193_194.out ((cfx_ NB193_194.out ((cfx_ NB193_194.out ((cfx_ NB193_194.out (hHeld.2.2.2.2.2.2.2.2.2.1)))))))), (cfx_ NB193_194.out ((cfx_ NB193_194.out ((cfx_ NB193_194.out ((cfx_ NB193_194.out (hHeld.2.2.2.2.2.2.2.2.2.2.1)))))))), (cfx_ NB193_194.out ((cfx_ NB193_194.out ((cfx_ NB193_194.out ((cfx_ NB193_194.out (hHeld.2.2.2.2.2.2.2.2.2.2.2))))))))⟩ (fun hHeld => ?_)
                 clear hK K
                 refine pure_ (i := 6) (N := some 54) (v := ?_) (a' := ?_) #[true, true, true, true, true, true, true, false] rfl rfl (any_of HT_.out (by kernel_rfl)) (fun _ _ _ h => h) (Or.inl ⟨by rfl, ?_⟩) ?_ ?_
                 rotate_left
                 · intro w'
                   go_simp
                   with_reducible rfl
                 rotate_left
                 · simp only [Act.put, List.setIfInBounds_toArray, List.set_cons_zero, List.set_cons_succ, i64_w, i32_w]
                   rfl
                 refine one_ (i := 7) (N := none) #[true, true, true, true, true, true, true, true] rfl rfl (one_of HT_.out (by kernel_rfl)) (by decide) (fun K hK => ?_)
                 have hs57 : w52.cell? ⟨gb194, 8, none⟩ = some (.int .u8 0) := (blk_cell BK194.out 8).trans rfl
                 have hfs57 := blk_frozen BK194.out 8
                 have hns57_0 := NB193_194.out
                 have hms57_0 := NB194_193.out
                 have hs58 : w52.cell? ⟨gb194, 9, none⟩ = some (.int .i64 0) := (blk_cell BK194.out 9).trans rfl
                 have hfs58 := blk_frozen BK194.out 9
                 have hns58_0 := NB193_194.out
                 have hms58_0 := NB194_193.out
                 refine skip_ (w1 := ?_) (by rfl) rfl ?_ ?_
                 rotate_left
                 · go_simp
                   rfl
                 refine hK.out _ _ ⟨(cfx_ NB193_194.out ((cfx_ NB193_194.out (hHeld.1)))), (cfx_ NB193_194.out ((cfx_ NB193_194.out (hHeld.2.1)))), (cfx_ NB193_194.out ((cfx_ NB193_194.out (hHeld.2.2.1)))), (cfx_ NB193_194.out ((cfx_ NB193_194.out (hHeld.2.2.2.1)))), (cfx_ NB193_194.out ((cfx_ NB193_194.out (hHeld.2.2.2.2.1)))), (cfx_ NB193_194.out ((cfx_ NB193_194.out (hHeld.2.2.2.2.2.1)))), (cfx_ NB193_194.out ((cfx_ NB193_194.out (hHeld.2.2.2.2.2.2.1)))), (cfx_ NB193_194.out ((cfx_ NB193_194.out (hHeld.2.2.2.2.2.2.2.1)))), (cfx_ NB193_194.out ((cfx_ NB193_194.out (hHeld.2.2.2.2.2.2.2.2.1)))), (cfx_ NB193_194.out ((cfx_ NB193_194.out (hHeld.2.2.2.2.2.2.2.2.2.1)))), (cfx_ NB193_194.out ((cfx_ NB193_194.out (hHeld.2.2.2.2.2.2.2.2.2.2.1)))), (cfx_ NB193_194.out ((cfx_ NB193_194.out (hHeld.2.2.2.2.2.2.2.2.2.2.2))))⟩ (fun hHeld => ?_)
                 clear hK K
                 refine done_ (done_of HT_.out (by kernel_rfl)) ?_
                 have hnb59 := NB193_194.out
                 have hnc59 := NB194_193.out
                 obtain ⟨hcz60_0, hcz60_1, hcz60_2, hcz60_3, hcz60_4, hcz60_5, hcz60_6, hcz60_7, hcz60_8, hcz60_9, hcz60_10, hcz60_11, hfz60_0, hfz60_1, hfz60_2, hfz60_3, hfz60_4, hfz60_5, hfz60_6, hfz60_7, hfz60_8, hfz60_9, hfz60_10, hfz60_11⟩ := cz12_ BK193.out
                 try go_wp2_with (first | ((with_reducible refine gate_callee (f := 30) rfl ?_); refine goesL_ (some 57) rfl rfl Try.func30 (by kernel_rfl) rfl #[.agg #[.bool a0_4, .int .u64 a0_5, .int .u64 a0_6, .int .i64 a0_7]] rfl args_ ?_; (with_reducible refine (spoorref09_Check.calls kj15 a0_4 a0_5 a0_6 a0_7 t195 _ A33.out).mono ?_); rintro e w61 ⟨rfl, hb⟩; refine ⟨_, rfl, ?_⟩; have n0_ := Aside0.mk (blk_below (g := gb193) (o := .cells #[.int .u8 a0_0, .int .i64 a0_1, .int .u64 a0_2, .int .i64 a0_3, .bool a0_4, .int .u64 a0_5, .int .u64 a0_6, .int .i64 a0_7, .int .u8 a0_8, .int .i64 a0_9, .int .i64 a0_10, .int .i64 a0_11] 33 (0, 0)) (by refine blkU ?_; (repeat (first | (with_reducible refine blk_far ?_ NB193_194.out _) | (with_reducible refine blk_drewN ?_ _) | (with_reducible refine blk_drew ?_) | (with_reducible refine blk_alloc ?_ _))); exact BK193.out) hb); have n1_ := Aside0.mk (blk_below (g := gb194) (o := .cells #[.int .u8 a0_0, .int .i64 a0_1, .int .u64 a0_2, .int .i64 a0_3, .bool a0_4, .int .u64 a0_5, .int .u64 a0_6, .int .i64 a0_7, .int .u8 a0_8, .int .i64 a0_9, .int .i64 0, .int .i64 0] 33 (0, 0)) (by refine blkU ?_; refine blk_put (cs := #[.int .u8 a0_0, .int .i64 a0_1, .int .u64 a0_2, .int .i64 a0_3, .bool a0_4, .int .u64 a0_5, .int .u64 a0_6, .int .i64 a0_7, .int .u8 a0_8, .int .i64 0, .int .i64 0, .int .i64 0]) ?_ 9 _ rfl; refine blkU ?_; refine blk_put (cs := #[.int .u8 a0_0, .int .i64 a0_1, .int .u64 a0_2, .int .i64 a0_3, .bool a0_4, .int .u64 a0_5, .int .u64 a0_6, .int .i64 a0_7, .int .u8 0, .int .i64 0, .int .i64 0, .int .i64 0]) ?_ 8 _ rfl; refine blkU ?_; refine blk_put (cs := #[.int .u8 a0_0, .int .i64 a0_1, .int .u64 a0_2, .int .i64 a0_3, .bool a0_4, .int .u64 a0_5, .int .u64 a0_6, .int .i64 0, .int .u8 0, .int .i64 0, .int .i64 0, .int .i64 0]) ?_ 7 _ rfl; refine blkU ?_; refine blk_put (cs := #[.int .u8 a0_0, .int .i64 a0_1, .int .u64 a0_2, .int .i64 a0_3, .bool a0_4, .int .u64 a0_5, .int .u64 0, .int .i64 0, .int .u8 0, .int .i64 0, .int .i64 0, .int .i64 0]) ?_ 6 _ rfl; refine blkU ?_; refine blk_put (cs := #[.int .u8 a0_0, .int .i64 a0_1, .int .u64 a0_2, .int .i64 a0_3, .bool a0_4, .int .u64 0, .int .u64 0, .int .i64 0, .int .u8 0, .int .i64 0, .int .i64 0, .int .i64 0]) ?_ 5 _ rfl; refine blkU ?_; refine blk_put (cs := #[.int .u8 a0_0, .int .i64 a0_1, .int .u64 a0_2, .int .i64 a0_3, .bool false, .int .u64 0, .int .u64 0, .int .i64 0, .int .u8 0, .int .i64 0, .int .i64 0, .int .i64 0]) ?_ 4 _ rfl; refine blkU ?_; exact BK194.out) hb); have n2_ := Aside0.mk (below_step bel_ hb); clear BK193; clear BK194; clear HB; have BK193 := n0_; have BK194 := n1_; have HB := n2_; clear n0_ n1_ n2_; (try clear hb); (try clear hb2); (try clear hk); (try clear hi); obtain ⟨hcz62_0, hcz62_1, hcz62_2, hcz62_3, hcz62_4, hcz62_5, hcz62_6, hcz62_7, hcz62_8, hcz62_9, hcz62_10, hcz62_11, hfz62_0, hfz62_1, hfz62_2, hfz62_3, hfz62_4, hfz62_5, hfz62_6, hfz62_7, hfz62_8, hfz62_9, hfz62_10, hfz62_11⟩ := cz12_ BK193.out) | (go_at_call 31; (with_reducible refine (spoorref11_Acts.calls a0_8 a0_9 true _ A35.out).mono ?_); rintro e w63 ⟨rfl, hb⟩; have n0_ := Aside0.mk (blk_below (blkU BK193.out) hb); have n1_ := Aside0.mk (blk_below (blkU BK194.out) hb); have n2_ := Aside0.mk (below_step bel_ hb); clear BK193; clear BK194; clear HB; have BK193 := n0_; have BK194 := n1_; have HB := n2_; clear n0_ n1_ n2_; (try clear hb); (try clear hb2); (try clear hk); (try clear hi); obtain ⟨hcz64_0, hcz64_1, hcz64_2, hcz64_3, hcz64_4, hcz64_5, hcz64_6, hcz64_7, hcz64_8, hcz64_9, hcz64_10, hcz64_11, hfz64_0, hfz64_1, hfz64_2, hfz64_3, hfz64_4, hfz64_5, hfz64_6, hfz64_7, hfz64_8, hfz64_9, hfz64_10, hfz64_11⟩ := cz12_ BK194.out; obtain ⟨hcz65_0, hcz65_1, hcz65_2, hcz65_3, hcz65_4, hcz65_5, hcz65_6, hcz65_7, hcz65_8, hcz65_9, hcz65_10, hcz65_11, hfz65_0, hfz65_1, hfz65_2, hfz65_3, hfz65_4, hfz65_5, hfz65_6, hfz65_7, hfz65_8, hfz65_9, hfz65_10, hfz65_11⟩ := cz12_ BK193.out))
                 go_ret
                 exact fin_ bel_
             · replace c36 := Bool.eq_false_iff.mpr c36
               subst c36
               have H1 : (some 2) = some r := by rw [if_neg (show ¬ (false = true) by decide)] at H; exact H
               clear H
               have H := H1
               clear H1
               obtain rfl := Option.some.inj H
               try go_wp2
               have n0_ := Aside0.mk (blk_drew BK193.out)
               have n1_ := Aside0.mk (blk_drew BK194.out)
               have n2_ := Aside0.mk (below_drew1 HB.out)
               clear BK193; clear BK194; clear HB
               have BK193 := n0_
               have BK194 := n1_
               have HB := n2_
               clear n0_ n1_ n2_
               refine start_ (n := 8) (S := fun w' => w'.cell? ⟨gb193, 0, none⟩ = some (.int .u8 a0_0) ∧ w'.cell? ⟨gb193, 1, none⟩ = some (.int .i64 a0_1) ∧ w'.cell? ⟨gb193, 2, none⟩ = some (.int .u64 a0_2) ∧ w'.cell? ⟨gb193, 3, none⟩ = some (.int .i64 a0_3) ∧ w'.cell? ⟨gb193, 4, none⟩ = some (.bool a0_4) ∧ w'.cell? ⟨gb193, 5, none⟩ = some (.int .u64 a0_5) ∧ w'.cell? ⟨gb193, 6, none⟩ = some (.int .u64 a0_6) ∧ w'.cell? ⟨gb193, 7, none⟩ = some (.int .i64 a0_7) ∧ w'.cell? ⟨gb193, 8, none⟩ = some (.int .u8 a0_8) ∧ w'.cell? ⟨gb193, 9, none⟩ = some (.int .i64 a0_9) ∧ w'.cell? ⟨gb193, 10, none⟩ = some (.int .i64 a0_10) ∧ w'.cell? ⟨gb193, 11, none⟩ = some (.int .i64 a0_11)) (ds := []) #[false, false, false, false, false, false, false, false] (by kernel_rfl) rfl rfl ⟨(blk_cell BK193.out 0).trans rfl, (blk_cell BK193.out 1).trans rfl, (blk_cell BK193.out 2).trans rfl, (blk_cell BK193.out 3).trans rfl, (blk_cell BK193.out 4).trans rfl, (blk_cell BK193.out 5).trans rfl, (blk_cell BK193.out 6).trans rfl, (blk_cell BK193.out 7).trans rfl, (blk_cell BK193.out 8).trans rfl, (blk_cell BK193.out 9).trans rfl, (blk_cell BK193.out 10).trans rfl, (blk_cell BK193.out 11).trans rfl⟩ (fun hHeld => ?_); refine with_tabW spoorref11_Check.tab10 spoorref11_Check.bits10 (fun HT_ HW_ => ?_)
               generalize wc.drew = w66 at BK193 BK194 HB hHeld ⊢
               refine pure_ (i := 0) (N := some 49) (v := ?_) (a' := ?_) #[true, false, false, false, false, false, false, false] rfl rfl (any_of HT_.out (by kernel_rfl)) (fun _ _ _ h => h) (Or.inl ⟨by rfl, ?_⟩) ?_ ?_
               rotate_left
               · intro w'
                 go_simp
                 with_reducible rfl
               rotate_left
               · simp only [Act.put, List.setIfInBounds_toArray, List.set_cons_zero, List.set_cons_succ, i64_w, i32_w]
                 rfl
               refine pure_ (i := 2) (N := some 51) (v := ?_) (a' := ?_) #[true, false, true, false, false, false, false, false] rfl rfl (any_of HT_.out (by kernel_rfl)) (fun _ _ _ h => h) (Or.inl ⟨by rfl, ?_⟩) ?_ ?_
               rotate_left
               · intro w'
                 go_simp
                 with_reducible rfl
               rotate_left
               · simp only [Act.put, List.setIfInBounds_toArray, List.set_cons_zero, List.set_cons_succ, i64_w, i32_w]
                 rfl
               refine take_ (i := 1) (N := some 50) (v := ?_) (a' := ?_) #[true, true, true, false, false, false, false, false] rfl rfl (take_ofW HT_.out HW_.out (by kernel_rfl)) (fun _ _ _ h => h) (Or.inl ⟨by rfl, ?_⟩) hHeld ?_ ?_
               rotate_left
               · rintro w' ⟨s0, s1, s2, s3, s4, s5, s6, s7, s8, s9, s10, s11⟩
                 go_simp
                 with_reducible rfl
               rotate_left
               · simp only [Act.put, List.setIfInBounds_toArray, List.set_cons_zero, List.set_cons_succ, i64_w, i32_w]
                 rfl
               refine pure_ (i := 4) (N := some 53) (v := ?_) (a' := ?_) #[true, true, true, false, true, false, false, false] rfl rfl (any_of HT_.out (by kernel_rfl)) (fun _ _ _ h => h) (Or.inl ⟨by rfl, ?_⟩) ?_ ?_
               rotate_left
               · intro w'
                 go_simp
                 with_reducible rfl
               rotate_left
               · simp only [Act.put, List.setIfInBounds_toArray, List.set_cons_zero, List.set_cons_succ, i64_w, i32_w]
                 rfl
               refine take_ (i := 3) (N := some 52) (v := ?_) (a' := ?_) #[true, true, true, true, true, false, false, false] rfl rfl (take_ofW HT_.out HW_.out (by kernel_rfl)) (fun _ _ _ h => h) (Or.inl ⟨by rfl, ?_⟩) hHeld ?_ ?_
               rotate_left
               · rintro w' ⟨s0, s1, s2, s3, s4, s5, s6, s7, s8, s9, s10, s11⟩
                 go_simp
                 with_reducible rfl
               rotate_left
               · simp only [Act.put, List.setIfInBounds_toArray, List.set_cons_zero, List.set_cons_succ, i64_w, i32_w]
                 rfl
               refine one_ (i := 5) (N := none) #[true, true, true, true, true, true, false, false] rfl rfl (one_of HT_.out (by kernel_rfl)) (by decide) (fun K hK => ?_)
               have hs67 : w66.cell? ⟨gb194, 4, none⟩ = some (.bool false) := (blk_cell BK194.out 4).trans rfl
               have hfs67 := blk_frozen BK194.out 4
               have hns67_0 := NB193_194.out
               have hms67_0 := NB194_193.out
               have hs68 : w66.cell? ⟨gb194, 5, none⟩ = some (.int .u64 0) := (blk_cell BK194.out 5).trans rfl
               have hfs68 := blk_frozen BK194.out 5
               have hns68_0 := NB193_194.out
               have hms68_0 := NB194_193.out
               have hs69 : w66.cell? ⟨gb194, 6, none⟩ = some (.int .u64 0) := (blk_cell BK194.out 6).trans rfl
               have hfs69 := blk_frozen BK194.out 6
               have hns69_0 := NB193_194.out
               have hms69_0 := NB194_193.out
               have hs70 : w66.cell? ⟨gb194, 7, none⟩ = some (.int .i64 0) := (blk_cell BK194.out 7).trans rfl
               have hfs70 := blk_frozen BK194.out 7
               have hns70_0 := NB193_194.out
               have hms70_0 := NB194_193.out
               refine skip_ (w1 := ?_) (by rfl) rfl ?_ ?_
               rotate_left
               · go_simp
                 rfl
               refine hK.out _ _ ⟨(cfx_ NB193_194.out ((cfx_ NB193_194.out ((cfx_ NB193_194.out ((cfx_ NB193_194.out (hHeld.1)))))))), (cfx_ NB193_194.out ((cfx_ NB193_194.out ((cfx_ NB193_194.out ((cfx_ NB193_194.out (hHeld.2.1)))))))), (cfx_ NB193_194.out ((cfx_ NB193_194.out ((cfx_ NB193_194.out ((cfx_ NB193_194.out (hHeld.2.2.1)))))))), (cfx_ NB193_194.out ((cfx_ NB193_194.out ((cfx_ NB193_194.out ((cfx_ NB193_194.out (hHeld.2.2.2.1)))))))), (cfx_ NB193_194.out ((cfx_ NB193_194.out ((cfx_ NB193_194.out ((cfx_ NB193_194.out (hHeld.2.2.2.2.1)))))))), (cfx_ NB193_194.out ((cfx_ NB193_194.out ((cfx_ NB193_194.out ((cfx_ NB193_194.out (hHeld.2.2.2.2.2.1)))))))), (cfx_ NB193_194.out ((cfx_ NB193_194.out ((cfx_ NB193_194.out ((cfx_ NB193_194.out (hHeld.2.2.2.2.2.2.1)))))))), (cfx_ NB193_194.out ((cfx_ NB193_194.out ((cfx_ NB193_194.out ((cfx_ NB193_194.out (hHeld.2.2.2.2.2.2.2.1)))))))), (cfx_ NB193_194.out ((cfx_ NB193_194.out ((cfx_ NB193_194.out ((cfx_ NB193_194.out (hHeld.2.2.2.2.2.2.2.2.1)))))))), (cfx_ NB193_194.out ((cfx_ NB193_194.out ((cfx_ NB193_194.out ((cfx_ NB193_194.out (hHeld.2.2.2.2.2.2.2.2.2.1)))))))), (cfx_ NB193_194.out ((cfx_ NB193_194.out ((cfx_ NB193_194.out ((cfx_ NB193_194.out (hHeld.2.2.2.2.2.2.2.2.2.2.1)))))))), (cfx_ NB193_194.out ((cfx_ NB193_194.out ((cfx_ NB193_194.out ((cfx_ NB193_194.out (hHeld.2.2.2.2.2.2.2.2.2.2.2))))))))⟩ (fun hHeld => ?_)
               clear hK K
               refine pure_ (i := 6) (N := some 54) (v := ?_) (a' := ?_) #[true, true, true, true, true, true, true, false] rfl rfl (any_of HT_.out (by kernel_rfl)) (fun _ _ _ h => h) (Or.inl ⟨by rfl, ?_⟩) ?_ ?_
               rotate_left
               · intro w'
                 go_simp
                 with_reducible rfl
               rotate_left
               · simp only [Act.put, List.setIfInBounds_toArray, List.set_cons_zero, List.set_cons_succ, i64_w, i32_w]
                 rfl
               refine one_ (i := 7) (N := none) #[true, true, true, true, true, true, true, true] rfl rfl (one_of HT_.out (by kernel_rfl)) (by decide) (fun K hK => ?_)
               have hs71 : w66.cell? ⟨gb194, 8, none⟩ = some (.int .u8 0) := (blk_cell BK194.out 8).trans rfl
               have hfs71 := blk_frozen BK194.out 8
               have hns71_0 := NB193_194.out
               have hms71_0 := NB194_193.out
               have hs72 : w66.cell? ⟨gb194, 9, none⟩ = some (.int .i64 0) := (blk_cell BK194.out 9).trans rfl
               have hfs72 := blk_frozen BK194.out 9
               have hns72_0 := NB193_194.out
               have hms72_0 := NB194_193.out
               refine skip_ (w1 := ?_) (by rfl) rfl ?_ ?_
               rotate_left
               · go_simp
                 rfl
               refine hK.out _ _ ⟨(cfx_ NB193_194.out ((cfx_ NB193_194.out (hHeld.1)))), (cfx_ NB193_194.out ((cfx_ NB193_194.out (hHeld.2.1)))), (cfx_ NB193_194.out ((cfx_ NB193_194.out (hHeld.2.2.1)))), (cfx_ NB193_194.out ((cfx_ NB193_194.out (hHeld.2.2.2.1)))), (cfx_ NB193_194.out ((cfx_ NB193_194.out (hHeld.2.2.2.2.1)))), (cfx_ NB193_194.out ((cfx_ NB193_194.out (hHeld.2.2.2.2.2.1)))), (cfx_ NB193_194.out ((cfx_ NB193_194.out (hHeld.2.2.2.2.2.2.1)))), (cfx_ NB193_194.out ((cfx_ NB193_194.out (hHeld.2.2.2.2.2.2.2.1)))), (cfx_ NB193_194.out ((cfx_ NB193_194.out (hHeld.2.2.2.2.2.2.2.2.1)))), (cfx_ NB193_194.out ((cfx_ NB193_194.out (hHeld.2.2.2.2.2.2.2.2.2.1)))), (cfx_ NB193_194.out ((cfx_ NB193_194.out (hHeld.2.2.2.2.2.2.2.2.2.2.1)))), (cfx_ NB193_194.out ((cfx_ NB193_194.out (hHeld.2.2.2.2.2.2.2.2.2.2.2))))⟩ (fun hHeld => ?_)
               clear hK K
               refine done_ (done_of HT_.out (by kernel_rfl)) ?_
               have hnb73 := NB193_194.out
               have hnc73 := NB194_193.out
               obtain ⟨hcz74_0, hcz74_1, hcz74_2, hcz74_3, hcz74_4, hcz74_5, hcz74_6, hcz74_7, hcz74_8, hcz74_9, hcz74_10, hcz74_11, hfz74_0, hfz74_1, hfz74_2, hfz74_3, hfz74_4, hfz74_5, hfz74_6, hfz74_7, hfz74_8, hfz74_9, hfz74_10, hfz74_11⟩ := cz12_ BK193.out
               try go_wp2_with (first | ((with_reducible refine gate_callee (f := 30) rfl ?_); refine goesL_ (some 57) rfl rfl Try.func30 (by kernel_rfl) rfl #[.agg #[.bool a0_4, .int .u64 a0_5, .int .u64 a0_6, .int .i64 a0_7]] rfl args_ ?_; (with_reducible refine (spoorref09_Check.calls kj15 a0_4 a0_5 a0_6 a0_7 t195 _ A33.out).mono ?_); rintro e w75 ⟨rfl, hb⟩; refine ⟨_, rfl, ?_⟩; have n0_ := Aside0.mk (blk_below (g := gb193) (o := .cells #[.int .u8 a0_0, .int .i64 a0_1, .int .u64 a0_2, .int .i64 a0_3, .bool a0_4, .int .u64 a0_5, .int .u64 a0_6, .int .i64 a0_7, .int .u8 a0_8, .int .i64 a0_9, .int .i64 a0_10, .int .i64 a0_11] 33 (0, 0)) (by refine blkU ?_; (repeat (first | (with_reducible refine blk_far ?_ NB193_194.out _) | (with_reducible refine blk_drewN ?_ _) | (with_reducible refine blk_drew ?_) | (with_reducible refine blk_alloc ?_ _))); exact BK193.out) hb); have n1_ := Aside0.mk (blk_below (g := gb194) (o := .cells #[.int .u8 a0_0, .int .i64 a0_1, .int .u64 a0_2, .int .i64 a0_3, .bool a0_4, .int .u64 a0_5, .int .u64 a0_6, .int .i64 a0_7, .int .u8 a0_8, .int .i64 a0_9, .int .i64 0, .int .i64 0] 33 (0, 0)) (by refine blkU ?_; refine blk_put (cs := #[.int .u8 a0_0, .int .i64 a0_1, .int .u64 a0_2, .int .i64 a0_3, .bool a0_4, .int .u64 a0_5, .int .u64 a0_6, .int .i64 a0_7, .int .u8 a0_8, .int .i64 0, .int .i64 0, .int .i64 0]) ?_ 9 _ rfl; refine blkU ?_; refine blk_put (cs := #[.int .u8 a0_0, .int .i64 a0_1, .int .u64 a0_2, .int .i64 a0_3, .bool a0_4, .int .u64 a0_5, .int .u64 a0_6, .int .i64 a0_7, .int .u8 0, .int .i64 0, .int .i64 0, .int .i64 0]) ?_ 8 _ rfl; refine blkU ?_; refine blk_put (cs := #[.int .u8 a0_0, .int .i64 a0_1, .int .u64 a0_2, .int .i64 a0_3, .bool a0_4, .int .u64 a0_5, .int .u64 a0_6, .int .i64 0, .int .u8 0, .int .i64 0, .int .i64 0, .int .i64 0]) ?_ 7 _ rfl; refine blkU ?_; refine blk_put (cs := #[.int .u8 a0_0, .int .i64 a0_1, .int .u64 a0_2, .int .i64 a0_3, .bool a0_4, .int .u64 a0_5, .int .u64 0, .int .i64 0, .int .u8 0, .int .i64 0, .int .i64 0, .int .i64 0]) ?_ 6 _ rfl; refine blkU ?_; refine blk_put (cs := #[.int .u8 a0_0, .int .i64 a0_1, .int .u64 a0_2, .int .i64 a0_3, .bool a0_4, .int .u64 0, .int .u64 0, .int .i64 0, .int .u8 0, .int .i64 0, .int .i64 0, .int .i64 0]) ?_ 5 _ rfl; refine blkU ?_; refine blk_put (cs := #[.int .u8 a0_0, .int .i64 a0_1, .int .u64 a0_2, .int .i64 a0_3, .bool false, .int .u64 0, .int .u64 0, .int .i64 0, .int .u8 0, .int .i64 0, .int .i64 0, .int .i64 0]) ?_ 4 _ rfl; refine blkU ?_; exact BK194.out) hb); have n2_ := Aside0.mk (below_step bel_ hb); clear BK193; clear BK194; clear HB; have BK193 := n0_; have BK194 := n1_; have HB := n2_; clear n0_ n1_ n2_; (try clear hb); (try clear hb2); (try clear hk); (try clear hi); obtain ⟨hcz76_0, hcz76_1, hcz76_2, hcz76_3, hcz76_4, hcz76_5, hcz76_6, hcz76_7, hcz76_8, hcz76_9, hcz76_10, hcz76_11, hfz76_0, hfz76_1, hfz76_2, hfz76_3, hfz76_4, hfz76_5, hfz76_6, hfz76_7, hfz76_8, hfz76_9, hfz76_10, hfz76_11⟩ := cz12_ BK193.out) | (go_at_call 31; (with_reducible refine (spoorref11_Acts.calls a0_8 a0_9 false _ A35.out).mono ?_); rintro e w77 ⟨rfl, hb⟩; have n0_ := Aside0.mk (blk_below (blkU BK193.out) hb); have n1_ := Aside0.mk (blk_below (blkU BK194.out) hb); have n2_ := Aside0.mk (below_step bel_ hb); clear BK193; clear BK194; clear HB; have BK193 := n0_; have BK194 := n1_; have HB := n2_; clear n0_ n1_ n2_; (try clear hb); (try clear hb2); (try clear hk); (try clear hi)))
               go_ret
               exact fin_ bel_
           · rw [if_neg c34] at H
             have c34b0 : (t195 == 0) = false := beq_eq_false_iff_ne.mpr c34
             have c34b1 : (t195 != 0) = true := bne_iff_ne.mpr c34
             obtain rfl := Option.some.inj H
             try go_wp2
             have n0_ := Aside0.mk (blk_drew BK193.out)
             have n1_ := Aside0.mk (blk_drew BK194.out)
             have n2_ := Aside0.mk (below_drew1 HB.out)
             clear BK193; clear BK194; clear HB
             have BK193 := n0_
             have BK194 := n1_
             have HB := n2_
             clear n0_ n1_ n2_
             refine start_ (n := 8) (S := fun w' => w'.cell? ⟨gb193, 0, none⟩ = some (.int .u8 a0_0) ∧ w'.cell? ⟨gb193, 1, none⟩ = some (.int .i64 a0_1) ∧ w'.cell? ⟨gb193, 2, none⟩ = some (.int .u64 a0_2) ∧ w'.cell? ⟨gb193, 3, none⟩ = some (.int .i64 a0_3) ∧ w'.cell? ⟨gb193, 4, none⟩ = some (.bool a0_4) ∧ w'.cell? ⟨gb193, 5, none⟩ = some (.int .u64 a0_5) ∧ w'.cell? ⟨gb193, 6, none⟩ = some (.int .u64 a0_6) ∧ w'.cell? ⟨gb193, 7, none⟩ = some (.int .i64 a0_7) ∧ w'.cell? ⟨gb193, 8, none⟩ = some (.int .u8 a0_8) ∧ w'.cell? ⟨gb193, 9, none⟩ = some (.int .i64 a0_9) ∧ w'.cell? ⟨gb193, 10, none⟩ = some (.int .i64 a0_10) ∧ w'.cell? ⟨gb193, 11, none⟩ = some (.int .i64 a0_11)) (ds := []) #[false, false, false, false, false, false, false, false] (by kernel_rfl) rfl rfl ⟨(blk_cell BK193.out 0).trans rfl, (blk_cell BK193.out 1).trans rfl, (blk_cell BK193.out 2).trans rfl, (blk_cell BK193.out 3).trans rfl, (blk_cell BK193.out 4).trans rfl, (blk_cell BK193.out 5).trans rfl, (blk_cell BK193.out 6).trans rfl, (blk_cell BK193.out 7).trans rfl, (blk_cell BK193.out 8).trans rfl, (blk_cell BK193.out 9).trans rfl, (blk_cell BK193.out 10).trans rfl, (blk_cell BK193.out 11).trans rfl⟩ (fun hHeld => ?_); refine with_tabW spoorref11_Check.tab10 spoorref11_Check.bits10 (fun HT_ HW_ => ?_)
             generalize wc.drew = w78 at BK193 BK194 HB hHeld ⊢
             refine pure_ (i := 0) (N := some 49) (v := ?_) (a' := ?_) #[true, false, false, false, false, false, false, false] rfl rfl (any_of HT_.out (by kernel_rfl)) (fun _ _ _ h => h) (Or.inl ⟨by rfl, ?_⟩) ?_ ?_
             rotate_left
             · intro w'
               go_simp
               with_reducible rfl
             rotate_left
             · simp only [Act.put, List.setIfInBounds_toArray, List.set_cons_zero, List.set_cons_succ, i64_w, i32_w]
               rfl
             refine pure_ (i := 2) (N := some 51) (v := ?_) (a' := ?_) #[true, false, true, false, false, false, false, false] rfl rfl (any_of HT_.out (by kernel_rfl)) (fun _ _ _ h => h) (Or.inl ⟨by rfl, ?_⟩) ?_ ?_
             rotate_left
             · intro w'
               go_simp
               with_reducible rfl
             rotate_left
             · simp only [Act.put, List.setIfInBounds_toArray, List.set_cons_zero, List.set_cons_succ, i64_w, i32_w]
               rfl
             refine take_ (i := 1) (N := some 50) (v := ?_) (a' := ?_) #[true, true, true, false, false, false, false, false] rfl rfl (take_ofW HT_.out HW_.out (by kernel_rfl)) (fun _ _ _ h => h) (Or.inl ⟨by rfl, ?_⟩) hHeld ?_ ?_
             rotate_left
             · rintro w' ⟨s0, s1, s2, s3, s4, s5, s6, s7, s8, s9, s10, s11⟩
               go_simp
               with_reducible rfl
             rotate_left
             · simp only [Act.put, List.setIfInBounds_toArray, List.set_cons_zero, List.set_cons_succ, i64_w, i32_w]
               rfl
             refine pure_ (i := 4) (N := some 53) (v := ?_) (a' := ?_) #[true, true, true, false, true, false, false, false] rfl rfl (any_of HT_.out (by kernel_rfl)) (fun _ _ _ h => h) (Or.inl ⟨by rfl, ?_⟩) ?_ ?_
             rotate_left
             · intro w'
               go_simp
               with_reducible rfl
             rotate_left
             · simp only [Act.put, List.setIfInBounds_toArray, List.set_cons_zero, List.set_cons_succ, i64_w, i32_w]
               rfl
             refine take_ (i := 3) (N := some 52) (v := ?_) (a' := ?_) #[true, true, true, true, true, false, false, false] rfl rfl (take_ofW HT_.out HW_.out (by kernel_rfl)) (fun _ _ _ h => h) (Or.inl ⟨by rfl, ?_⟩) hHeld ?_ ?_
             rotate_left
             · rintro w' ⟨s0, s1, s2, s3, s4, s5, s6, s7, s8, s9, s10, s11⟩
               go_simp
               with_reducible rfl
             rotate_left
             · simp only [Act.put, List.setIfInBounds_toArray, List.set_cons_zero, List.set_cons_succ, i64_w, i32_w]
               rfl
             refine one_ (i := 5) (N := none) #[true, true, true, true, true, true, false, false] rfl rfl (one_of HT_.out (by kernel_rfl)) (by decide) (fun K hK => ?_)
             have hs79 : w78.cell? ⟨gb194, 4, none⟩ = some (.bool false) := (blk_cell BK194.out 4).trans rfl
             have hfs79 := blk_frozen BK194.out 4
             have hns79_0 := NB193_194.out
             have hms79_0 := NB194_193.out
             have hs80 : w78.cell? ⟨gb194, 5, none⟩ = some (.int .u64 0) := (blk_cell BK194.out 5).trans rfl
             have hfs80 := blk_frozen BK194.out 5
             have hns80_0 := NB193_194.out
             have hms80_0 := NB194_193.out
             have hs81 : w78.cell? ⟨gb194, 6, none⟩ = some (.int .u64 0) := (blk_cell BK194.out 6).trans rfl
             have hfs81 := blk_frozen BK194.out 6
             have hns81_0 := NB193_194.out
             have hms81_0 := NB194_193.out
             have hs82 : w78.cell? ⟨gb194, 7, none⟩ = some (.int .i64 0) := (blk_cell BK194.out 7).trans rfl
             have hfs82 := blk_frozen BK194.out 7
             have hns82_0 := NB193_194.out
             have hms82_0 := NB194_193.out
             refine skip_ (w1 := ?_) (by rfl) rfl ?_ ?_
             rotate_left
             · go_simp
               rfl
             refine hK.out _ _ ⟨(cfx_ NB193_194.out ((cfx_ NB193_194.out ((cfx_ NB193_194.out ((cfx_ NB193_194.out (hHeld.1)))))))), (cfx_ NB193_194.out ((cfx_ NB193_194.out ((cfx_ NB193_194.out ((cfx_ NB193_194.out (hHeld.2.1)))))))), (cfx_ NB193_194.out ((cfx_ NB193_194.out ((cfx_ NB193_194.out ((cfx_ NB193_194.out (hHeld.2.2.1)))))))), (cfx_ NB193_194.out ((cfx_ NB193_194.out ((cfx_ NB193_194.out ((cfx_ NB193_194.out (hHeld.2.2.2.1)))))))), (cfx_ NB193_194.out ((cfx_ NB193_194.out ((cfx_ NB193_194.out ((cfx_ NB193_194.out (hHeld.2.2.2.2.1)))))))), (cfx_ NB193_194.out ((cfx_ NB193_194.out ((cfx_ NB193_194.out ((cfx_ NB193_194.out (hHeld.2.2.2.2.2.1)))))))), (cfx_ NB193_194.out ((cfx_ NB193_194.out ((cfx_ NB193_194.out ((cfx_ NB193_194.out (hHeld.2.2.2.2.2.2.1)))))))), (cfx_ NB193_194.out ((cfx_ NB193_194.out ((cfx_ NB193_194.out ((cfx_ NB193_194.out (hHeld.2.2.2.2.2.2.2.1)))))))), (cfx_ NB193_194.out ((cfx_ NB193_194.out ((cfx_ NB193_194.out ((cfx_ NB193_194.out (hHeld.2.2.2.2.2.2.2.2.1)))))))), (cfx_ NB193_194.out ((cfx_ NB193_194.out ((cfx_ NB193_194.out ((cfx_ NB193_194.out (hHeld.2.2.2.2.2.2.2.2.2.1)))))))), (cfx_ NB193_194.out ((cfx_ NB193_194.out ((cfx_ NB193_194.out ((cfx_ NB193_194.out (hHeld.2.2.2.2.2.2.2.2.2.2.1)))))))), (cfx_ NB193_194.out ((cfx_ NB193_194.out ((cfx_ NB193_194.out ((cfx_ NB193_194.out (hHeld.2.2.2.2.2.2.2.2.2.2.2))))))))⟩ (fun hHeld => ?_)
             clear hK K
             refine pure_ (i := 6) (N := some 54) (v := ?_) (a' := ?_) #[true, true, true, true, true, true, true, false] rfl rfl (any_of HT_.out (by kernel_rfl)) (fun _ _ _ h => h) (Or.inl ⟨by rfl, ?_⟩) ?_ ?_
             rotate_left
             · intro w'
               go_simp
               with_reducible rfl
             rotate_left
             · simp only [Act.put, List.setIfInBounds_toArray, List.set_cons_zero, List.set_cons_succ, i64_w, i32_w]
               rfl
             refine one_ (i := 7) (N := none) #[true, true, true, true, true, true, true, true] rfl rfl (one_of HT_.out (by kernel_rfl)) (by decide) (fun K hK => ?_)
             have hs83 : w78.cell? ⟨gb194, 8, none⟩ = some (.int .u8 0) := (blk_cell BK194.out 8).trans rfl
             have hfs83 := blk_frozen BK194.out 8
             have hns83_0 := NB193_194.out
             have hms83_0 := NB194_193.out
             have hs84 : w78.cell? ⟨gb194, 9, none⟩ = some (.int .i64 0) := (blk_cell BK194.out 9).trans rfl
             have hfs84 := blk_frozen BK194.out 9
             have hns84_0 := NB193_194.out
             have hms84_0 := NB194_193.out
             refine skip_ (w1 := ?_) (by rfl) rfl ?_ ?_
             rotate_left
             · go_simp
               rfl
             refine hK.out _ _ ⟨(cfx_ NB193_194.out ((cfx_ NB193_194.out (hHeld.1)))), (cfx_ NB193_194.out ((cfx_ NB193_194.out (hHeld.2.1)))), (cfx_ NB193_194.out ((cfx_ NB193_194.out (hHeld.2.2.1)))), (cfx_ NB193_194.out ((cfx_ NB193_194.out (hHeld.2.2.2.1)))), (cfx_ NB193_194.out ((cfx_ NB193_194.out (hHeld.2.2.2.2.1)))), (cfx_ NB193_194.out ((cfx_ NB193_194.out (hHeld.2.2.2.2.2.1)))), (cfx_ NB193_194.out ((cfx_ NB193_194.out (hHeld.2.2.2.2.2.2.1)))), (cfx_ NB193_194.out ((cfx_ NB193_194.out (hHeld.2.2.2.2.2.2.2.1)))), (cfx_ NB193_194.out ((cfx_ NB193_194.out (hHeld.2.2.2.2.2.2.2.2.1)))), (cfx_ NB193_194.out ((cfx_ NB193_194.out (hHeld.2.2.2.2.2.2.2.2.2.1)))), (cfx_ NB193_194.out ((cfx_ NB193_194.out (hHeld.2.2.2.2.2.2.2.2.2.2.1)))), (cfx_ NB193_194.out ((cfx_ NB193_194.out (hHeld.2.2.2.2.2.2.2.2.2.2.2))))⟩ (fun hHeld => ?_)
             clear hK K
             refine done_ (done_of HT_.out (by kernel_rfl)) ?_
             have hnb85 := NB193_194.out
             have hnc85 := NB194_193.out
             obtain ⟨hcz86_0, hcz86_1, hcz86_2, hcz86_3, hcz86_4, hcz86_5, hcz86_6, hcz86_7, hcz86_8, hcz86_9, hcz86_10, hcz86_11, hfz86_0, hfz86_1, hfz86_2, hfz86_3, hfz86_4, hfz86_5, hfz86_6, hfz86_7, hfz86_8, hfz86_9, hfz86_10, hfz86_11⟩ := cz12_ BK193.out
             try go_wp2_with (first | ((with_reducible refine gate_callee (f := 30) rfl ?_); refine goesL_ (some 57) rfl rfl Try.func30 (by kernel_rfl) rfl #[.agg #[.bool a0_4, .int .u64 a0_5, .int .u64 a0_6, .int .i64 a0_7]] rfl args_ ?_; (with_reducible refine (spoorref09_Check.calls kj15 a0_4 a0_5 a0_6 a0_7 t195 _ A33.out).mono ?_); rintro e w87 ⟨rfl, hb⟩; refine ⟨_, rfl, ?_⟩; have n0_ := Aside0.mk (blk_below (g := gb193) (o := .cells #[.int .u8 a0_0, .int .i64 a0_1, .int .u64 a0_2, .int .i64 a0_3, .bool a0_4, .int .u64 a0_5, .int .u64 a0_6, .int .i64 a0_7, .int .u8 a0_8, .int .i64 a0_9, .int .i64 a0_10, .int .i64 a0_11] 33 (0, 0)) (by refine blkU ?_; (repeat (first | (with_reducible refine blk_far ?_ NB193_194.out _) | (with_reducible refine blk_drewN ?_ _) | (with_reducible refine blk_drew ?_) | (with_reducible refine blk_alloc ?_ _))); exact BK193.out) hb); have n1_ := Aside0.mk (blk_below (g := gb194) (o := .cells #[.int .u8 a0_0, .int .i64 a0_1, .int .u64 a0_2, .int .i64 a0_3, .bool a0_4, .int .u64 a0_5, .int .u64 a0_6, .int .i64 a0_7, .int .u8 a0_8, .int .i64 a0_9, .int .i64 0, .int .i64 0] 33 (0, 0)) (by refine blkU ?_; refine blk_put (cs := #[.int .u8 a0_0, .int .i64 a0_1, .int .u64 a0_2, .int .i64 a0_3, .bool a0_4, .int .u64 a0_5, .int .u64 a0_6, .int .i64 a0_7, .int .u8 a0_8, .int .i64 0, .int .i64 0, .int .i64 0]) ?_ 9 _ rfl; refine blkU ?_; refine blk_put (cs := #[.int .u8 a0_0, .int .i64 a0_1, .int .u64 a0_2, .int .i64 a0_3, .bool a0_4, .int .u64 a0_5, .int .u64 a0_6, .int .i64 a0_7, .int .u8 0, .int .i64 0, .int .i64 0, .int .i64 0]) ?_ 8 _ rfl; refine blkU ?_; refine blk_put (cs := #[.int .u8 a0_0, .int .i64 a0_1, .int .u64 a0_2, .int .i64 a0_3, .bool a0_4, .int .u64 a0_5, .int .u64 a0_6, .int .i64 0, .int .u8 0, .int .i64 0, .int .i64 0, .int .i64 0]) ?_ 7 _ rfl; refine blkU ?_; refine blk_put (cs := #[.int .u8 a0_0, .int .i64 a0_1, .int .u64 a0_2, .int .i64 a0_3, .bool a0_4, .int .u64 a0_5, .int .u64 0, .int .i64 0, .int .u8 0, .int .i64 0, .int .i64 0, .int .i64 0]) ?_ 6 _ rfl; refine blkU ?_; refine blk_put (cs := #[.int .u8 a0_0, .int .i64 a0_1, .int .u64 a0_2, .int .i64 a0_3, .bool a0_4, .int .u64 0, .int .u64 0, .int .i64 0, .int .u8 0, .int .i64 0, .int .i64 0, .int .i64 0]) ?_ 5 _ rfl; refine blkU ?_; refine blk_put (cs := #[.int .u8 a0_0, .int .i64 a0_1, .int .u64 a0_2, .int .i64 a0_3, .bool false, .int .u64 0, .int .u64 0, .int .i64 0, .int .u8 0, .int .i64 0, .int .i64 0, .int .i64 0]) ?_ 4 _ rfl; refine blkU ?_; exact BK194.out) hb); have n2_ := Aside0.mk (below_step bel_ hb); clear BK193; clear BK194; clear HB; have BK193 := n0_; have BK194 := n1_; have HB := n2_; clear n0_ n1_ n2_; (try clear hb); (try clear hb2); (try clear hk); (try clear hi)))
             go_ret
             exact fin_ bel_
         · rw [if_neg c32] at H
           have c32b0 : (a0_0 == 3) = false := beq_eq_false_iff_ne.mpr c32
           have c32b1 : (a0_0 != 3) = true := bne_iff_ne.mpr c32
           by_cases c88 : a0_0 = 4
           · rw [if_pos c88] at H
             have c88b0 : (a0_0 == 4) = true := beq_iff_eq.mpr c88
             have c88b1 : (a0_0 != 4) = false := bne_eq_false_iff_eq.mpr c88
             clear c88
             replace H := Option.bind_eq_some_iff.mp H
             obtain ⟨t197, A890, H⟩ := H
             replace H : (if t197 = 0 then (if (!(a0_0 == a0_0) || (!(a0_1 == a0_1) || (!(a0_2 == a0_2) || (!(a0_3 == a0_3) || ((!(0 == a0_8) || (!(0 == a0_9))) || (!(0 == a0_10) || (!(0 == a0_11)))))))) = true then (some 2) else (some 0)) else (some 2)) = some r := H
             have A89 := Aside0.mk A890
             clear A890
             by_cases c90 : t197 = 0
             · rw [if_pos c90] at H
               have c90b0 : (t197 == 0) = true := beq_iff_eq.mpr c90
               have c90b1 : (t197 != 0) = false := bne_eq_false_iff_eq.mpr c90
               clear c90
               by_cases c91 : (!(a0_0 == a0_0) || (!(a0_1 == a0_1) || (!(a0_2 == a0_2) || (!(a0_3 == a0_3) || ((!(0 == a0_8) || (!(0 == a0_9))) || (!(0 == a0_10) || (!(0 == a0_11)))))))) = true
               · rw [if_pos c91] at H
                 have c91b0 : (!(a0_0 == a0_0) || (!(a0_1 == a0_1) || (!(a0_2 == a0_2) || (!(a0_3 == a0_3) || ((!(0 == a0_8) || (!(0 == a0_9))) || (!(0 == a0_10) || (!(0 == a0_11)))))))) = true := c91
                 have c91b0_s_ := c91b0
                 simp only [beq_self_eq_true, Bool.not_true, Bool.not_false, Bool.false_or, Bool.or_false, Bool.true_or, Bool.or_true, Bool.not_not, Bool.false_beq] at c91b0_s_
                 clear c91
                 obtain rfl := Option.some.inj H
                 have hnb92 := NB193_194.out
                 have hnc92 := NB194_193.out
                 obtain ⟨hcz93_0, hcz93_1, hcz93_2, hcz93_3, hcz93_4, hcz93_5, hcz93_6, hcz93_7, hcz93_8, hcz93_9, hcz93_10, hcz93_11, hfz93_0, hfz93_1, hfz93_2, hfz93_3, hfz93_4, hfz93_5, hfz93_6, hfz93_7, hfz93_8, hfz93_9, hfz93_10, hfz93_11⟩ := cz12_ BK193.out
                 obtain ⟨hcz94_0, hcz94_1, hcz94_2, hcz94_3, hcz94_4, hcz94_5, hcz94_6, hcz94_7, hcz94_8, hcz94_9, hcz94_10, hcz94_11, hfz94_0, hfz94_1, hfz94_2, hfz94_3, hfz94_4, hfz94_5, hfz94_6, hfz94_7, hfz94_8, hfz94_9, hfz94_10, hfz94_11⟩ := cz12_ BK194.out
                 go_wp2_with (first | ((with_reducible refine gate_callee (f := 30) rfl ?_); refine goesL_ (some 71) rfl rfl Try.func30 (by kernel_rfl) rfl #[.agg #[.bool a0_4, .int .u64 a0_5, .int .u64 a0_6, .int .i64 a0_7]] rfl args_ ?_; (with_reducible refine (spoorref09_Check.calls kj15 a0_4 a0_5 a0_6 a0_7 t197 _ A89.out).mono ?_); rintro e w95 ⟨rfl, hb⟩; refine ⟨_, rfl, ?_⟩; have n0_ := Aside0.mk (blk_below (g := gb193) (o := .cells #[.int .u8 a0_0, .int .i64 a0_1, .int .u64 a0_2, .int .i64 a0_3, .bool a0_4, .int .u64 a0_5, .int .u64 a0_6, .int .i64 a0_7, .int .u8 a0_8, .int .i64 a0_9, .int .i64 a0_10, .int .i64 a0_11] 33 (0, 0)) (by refine blkU ?_; refine blk_far ?_ NB193_194.out _; refine blkU ?_; refine blk_far ?_ NB193_194.out _; refine blkU ?_; refine blk_far ?_ NB193_194.out _; refine blkU ?_; refine blk_far ?_ NB193_194.out _; refine blkU ?_; exact BK193.out) hb); have n1_ := Aside0.mk (blk_below (g := gb194) (o := .cells #[.int .u8 a0_0, .int .i64 a0_1, .int .u64 a0_2, .int .i64 a0_3, .bool a0_4, .int .u64 a0_5, .int .u64 a0_6, .int .i64 a0_7, .int .u8 0, .int .i64 0, .int .i64 0, .int .i64 0] 33 (0, 0)) (by refine blkU ?_; refine blk_put (cs := #[.int .u8 a0_0, .int .i64 a0_1, .int .u64 a0_2, .int .i64 a0_3, .bool a0_4, .int .u64 a0_5, .int .u64 a0_6, .int .i64 0, .int .u8 0, .int .i64 0, .int .i64 0, .int .i64 0]) ?_ 7 _ rfl; refine blkU ?_; refine blk_put (cs := #[.int .u8 a0_0, .int .i64 a0_1, .int .u64 a0_2, .int .i64 a0_3, .bool a0_4, .int .u64 a0_5, .int .u64 0, .int .i64 0, .int .u8 0, .int .i64 0, .int .i64 0, .int .i64 0]) ?_ 6 _ rfl; refine blkU ?_; refine blk_put (cs := #[.int .u8 a0_0, .int .i64 a0_1, .int .u64 a0_2, .int .i64 a0_3, .bool a0_4, .int .u64 0, .int .u64 0, .int .i64 0, .int .u8 0, .int .i64 0, .int .i64 0, .int .i64 0]) ?_ 5 _ rfl; refine blkU ?_; refine blk_put (cs := #[.int .u8 a0_0, .int .i64 a0_1, .int .u64 a0_2, .int .i64 a0_3, .bool false, .int .u64 0, .int .u64 0, .int .i64 0, .int .u8 0, .int .i64 0, .int .i64 0, .int .i64 0]) ?_ 4 _ rfl; refine blkU ?_; exact BK194.out) hb); have n2_ := Aside0.mk (below_step bel_ hb); clear BK193; clear BK194; clear HB; have BK193 := n0_; have BK194 := n1_; have HB := n2_; clear n0_ n1_ n2_; (try clear hb); (try clear hb2); (try clear hk); (try clear hi); obtain ⟨hcz96_0, hcz96_1, hcz96_2, hcz96_3, hcz96_4, hcz96_5, hcz96_6, hcz96_7, hcz96_8, hcz96_9, hcz96_10, hcz96_11, hfz96_0, hfz96_1, hfz96_2, hfz96_3, hfz96_4, hfz96_5, hfz96_6, hfz96_7, hfz96_8, hfz96_9, hfz96_10, hfz96_11⟩ := cz12_ BK194.out; obtain ⟨hcz97_0, hcz97_1, hcz97_2, hcz97_3, hcz97_4, hcz97_5, hcz97_6, hcz97_7, hcz97_8, hcz97_9, hcz97_10, hcz97_11, hfz97_0, hfz97_1, hfz97_2, hfz97_3, hfz97_4, hfz97_5, hfz97_6, hfz97_7, hfz97_8, hfz97_9, hfz97_10, hfz97_11⟩ := cz12_ BK193.out))
                 go_ret
                 exact fin_ bel_
               · rw [if_neg c91] at H
                 have c91b0 : (!(a0_0 == a0_0) || (!(a0_1 == a0_1) || (!(a0_2 == a0_2) || (!(a0_3 == a0_3) || ((!(0 == a0_8) || (!(0 == a0_9))) || (!(0 == a0_10) || (!(0 == a0_11)))))))) = false := by simpa using c91
                 have c91b0_s_ := c91b0
                 simp only [beq_self_eq_true, Bool.not_true, Bool.not_false, Bool.false_or, Bool.or_false, Bool.true_or, Bool.or_true, Bool.not_not, Bool.false_beq] at c91b0_s_
                 clear c91
                 obtain rfl := Option.some.inj H
                 have hnb98 := NB193_194.out
                 have hnc98 := NB194_193.out
                 obtain ⟨hcz99_0, hcz99_1, hcz99_2, hcz99_3, hcz99_4, hcz99_5, hcz99_6, hcz99_7, hcz99_8, hcz99_9, hcz99_10, hcz99_11, hfz99_0, hfz99_1, hfz99_2, hfz99_3, hfz99_4, hfz99_5, hfz99_6, hfz99_7, hfz99_8, hfz99_9, hfz99_10, hfz99_11⟩ := cz12_ BK193.out
                 obtain ⟨hcz100_0, hcz100_1, hcz100_2, hcz100_3, hcz100_4, hcz100_5, hcz100_6, hcz100_7, hcz100_8, hcz100_9, hcz100_10, hcz100_11, hfz100_0, hfz100_1, hfz100_2, hfz100_3, hfz100_4, hfz100_5, hfz100_6, hfz100_7, hfz100_8, hfz100_9, hfz100_10, hfz100_11⟩ := cz12_ BK194.out
                 go_wp2_with (first | ((with_reducible refine gate_callee (f := 30) rfl ?_); refine goesL_ (some 71) rfl rfl Try.func30 (by kernel_rfl) rfl #[.agg #[.bool a0_4, .int .u64 a0_5, .int .u64 a0_6, .int .i64 a0_7]] rfl args_ ?_; (with_reducible refine (spoorref09_Check.calls kj15 a0_4 a0_5 a0_6 a0_7 t197 _ A89.out).mono ?_); rintro e w101 ⟨rfl, hb⟩; refine ⟨_, rfl, ?_⟩; have n0_ := Aside0.mk (blk_below (g := gb193) (o := .cells #[.int .u8 a0_0, .int .i64 a0_1, .int .u64 a0_2, .int .i64 a0_3, .bool a0_4, .int .u64 a0_5, .int .u64 a0_6, .int .i64 a0_7, .int .u8 a0_8, .int .i64 a0_9, .int .i64 a0_10, .int .i64 a0_11] 33 (0, 0)) (by refine blkU ?_; refine blk_far ?_ NB193_194.out _; refine blkU ?_; refine blk_far ?_ NB193_194.out _; refine blkU ?_; refine blk_far ?_ NB193_194.out _; refine blkU ?_; refine blk_far ?_ NB193_194.out _; refine blkU ?_; exact BK193.out) hb); have n1_ := Aside0.mk (blk_below (g := gb194) (o := .cells #[.int .u8 a0_0, .int .i64 a0_1, .int .u64 a0_2, .int .i64 a0_3, .bool a0_4, .int .u64 a0_5, .int .u64 a0_6, .int .i64 a0_7, .int .u8 0, .int .i64 0, .int .i64 0, .int .i64 0] 33 (0, 0)) (by refine blkU ?_; refine blk_put (cs := #[.int .u8 a0_0, .int .i64 a0_1, .int .u64 a0_2, .int .i64 a0_3, .bool a0_4, .int .u64 a0_5, .int .u64 a0_6, .int .i64 0, .int .u8 0, .int .i64 0, .int .i64 0, .int .i64 0]) ?_ 7 _ rfl; refine blkU ?_; refine blk_put (cs := #[.int .u8 a0_0, .int .i64 a0_1, .int .u64 a0_2, .int .i64 a0_3, .bool a0_4, .int .u64 a0_5, .int .u64 0, .int .i64 0, .int .u8 0, .int .i64 0, .int .i64 0, .int .i64 0]) ?_ 6 _ rfl; refine blkU ?_; refine blk_put (cs := #[.int .u8 a0_0, .int .i64 a0_1, .int .u64 a0_2, .int .i64 a0_3, .bool a0_4, .int .u64 0, .int .u64 0, .int .i64 0, .int .u8 0, .int .i64 0, .int .i64 0, .int .i64 0]) ?_ 5 _ rfl; refine blkU ?_; refine blk_put (cs := #[.int .u8 a0_0, .int .i64 a0_1, .int .u64 a0_2, .int .i64 a0_3, .bool false, .int .u64 0, .int .u64 0, .int .i64 0, .int .u8 0, .int .i64 0, .int .i64 0, .int .i64 0]) ?_ 4 _ rfl; refine blkU ?_; exact BK194.out) hb); have n2_ := Aside0.mk (below_step bel_ hb); clear BK193; clear BK194; clear HB; have BK193 := n0_; have BK194 := n1_; have HB := n2_; clear n0_ n1_ n2_; (try clear hb); (try clear hb2); (try clear hk); (try clear hi); obtain ⟨hcz102_0, hcz102_1, hcz102_2, hcz102_3, hcz102_4, hcz102_5, hcz102_6, hcz102_7, hcz102_8, hcz102_9, hcz102_10, hcz102_11, hfz102_0, hfz102_1, hfz102_2, hfz102_3, hfz102_4, hfz102_5, hfz102_6, hfz102_7, hfz102_8, hfz102_9, hfz102_10, hfz102_11⟩ := cz12_ BK194.out; obtain ⟨hcz103_0, hcz103_1, hcz103_2, hcz103_3, hcz103_4, hcz103_5, hcz103_6, hcz103_7, hcz103_8, hcz103_9, hcz103_10, hcz103_11, hfz103_0, hfz103_1, hfz103_2, hfz103_3, hfz103_4, hfz103_5, hfz103_6, hfz103_7, hfz103_8, hfz103_9, hfz103_10, hfz103_11⟩ := cz12_ BK193.out))
                 go_ret
                 exact fin_ bel_
             · rw [if_neg c90] at H
               have c90b0 : (t197 == 0) = false := beq_eq_false_iff_ne.mpr c90
               have c90b1 : (t197 != 0) = true := bne_iff_ne.mpr c90
               obtain rfl := Option.some.inj H
               have hnb104 := NB193_194.out
               have hnc104 := NB194_193.out
               obtain ⟨hcz105_0, hcz105_1, hcz105_2, hcz105_3, hcz105_4, hcz105_5, hcz105_6, hcz105_7, hcz105_8, hcz105_9, hcz105_10, hcz105_11, hfz105_0, hfz105_1, hfz105_2, hfz105_3, hfz105_4, hfz105_5, hfz105_6, hfz105_7, hfz105_8, hfz105_9, hfz105_10, hfz105_11⟩ := cz12_ BK193.out
               obtain ⟨hcz106_0, hcz106_1, hcz106_2, hcz106_3, hcz106_4, hcz106_5, hcz106_6, hcz106_7, hcz106_8, hcz106_9, hcz106_10, hcz106_11, hfz106_0, hfz106_1, hfz106_2, hfz106_3, hfz106_4, hfz106_5, hfz106_6, hfz106_7, hfz106_8, hfz106_9, hfz106_10, hfz106_11⟩ := cz12_ BK194.out
               go_wp2_with (first | ((with_reducible refine gate_callee (f := 30) rfl ?_); refine goesL_ (some 71) rfl rfl Try.func30 (by kernel_rfl) rfl #[.agg #[.bool a0_4, .int .u64 a0_5, .int .u64 a0_6, .int .i64 a0_7]] rfl args_ ?_; (with_reducible refine (spoorref09_Check.calls kj15 a0_4 a0_5 a0_6 a0_7 t197 _ A89.out).mono ?_); rintro e w107 ⟨rfl, hb⟩; refine ⟨_, rfl, ?_⟩; have n0_ := Aside0.mk (blk_below (g := gb193) (o := .cells #[.int .u8 a0_0, .int .i64 a0_1, .int .u64 a0_2, .int .i64 a0_3, .bool a0_4, .int .u64 a0_5, .int .u64 a0_6, .int .i64 a0_7, .int .u8 a0_8, .int .i64 a0_9, .int .i64 a0_10, .int .i64 a0_11] 33 (0, 0)) (by refine blkU ?_; refine blk_far ?_ NB193_194.out _; refine blkU ?_; refine blk_far ?_ NB193_194.out _; refine blkU ?_; refine blk_far ?_ NB193_194.out _; refine blkU ?_; refine blk_far ?_ NB193_194.out _; refine blkU ?_; exact BK193.out) hb); have n1_ := Aside0.mk (blk_below (g := gb194) (o := .cells #[.int .u8 a0_0, .int .i64 a0_1, .int .u64 a0_2, .int .i64 a0_3, .bool a0_4, .int .u64 a0_5, .int .u64 a0_6, .int .i64 a0_7, .int .u8 0, .int .i64 0, .int .i64 0, .int .i64 0] 33 (0, 0)) (by refine blkU ?_; refine blk_put (cs := #[.int .u8 a0_0, .int .i64 a0_1, .int .u64 a0_2, .int .i64 a0_3, .bool a0_4, .int .u64 a0_5, .int .u64 a0_6, .int .i64 0, .int .u8 0, .int .i64 0, .int .i64 0, .int .i64 0]) ?_ 7 _ rfl; refine blkU ?_; refine blk_put (cs := #[.int .u8 a0_0, .int .i64 a0_1, .int .u64 a0_2, .int .i64 a0_3, .bool a0_4, .int .u64 a0_5, .int .u64 0, .int .i64 0, .int .u8 0, .int .i64 0, .int .i64 0, .int .i64 0]) ?_ 6 _ rfl; refine blkU ?_; refine blk_put (cs := #[.int .u8 a0_0, .int .i64 a0_1, .int .u64 a0_2, .int .i64 a0_3, .bool a0_4, .int .u64 0, .int .u64 0, .int .i64 0, .int .u8 0, .int .i64 0, .int .i64 0, .int .i64 0]) ?_ 5 _ rfl; refine blkU ?_; refine blk_put (cs := #[.int .u8 a0_0, .int .i64 a0_1, .int .u64 a0_2, .int .i64 a0_3, .bool false, .int .u64 0, .int .u64 0, .int .i64 0, .int .u8 0, .int .i64 0, .int .i64 0, .int .i64 0]) ?_ 4 _ rfl; refine blkU ?_; exact BK194.out) hb); have n2_ := Aside0.mk (below_step bel_ hb); clear BK193; clear BK194; clear HB; have BK193 := n0_; have BK194 := n1_; have HB := n2_; clear n0_ n1_ n2_; (try clear hb); (try clear hb2); (try clear hk); (try clear hi)))
               go_ret
               exact fin_ bel_
           · rw [if_neg c88] at H
             have c88b0 : (a0_0 == 4) = false := beq_eq_false_iff_ne.mpr c88
             have c88b1 : (a0_0 != 4) = true := bne_iff_ne.mpr c88
             by_cases c108 : a0_0 = 5
             · rw [if_pos c108] at H
               have c108b0 : (a0_0 == 5) = true := beq_iff_eq.mpr c108
               have c108b1 : (a0_0 != 5) = false := bne_eq_false_iff_eq.mpr c108
               clear c108
               by_cases c109 : a0_10 ≥ 0
               · rw [if_pos c109] at H
                 have c109b0 : decide (0 ≤ a0_10) = true := decide_eq_true c109
                 clear c109
                 by_cases c110 : a0_10 ≤ 65536
                 · rw [if_pos c110] at H
                   have c110b0 : decide (a0_10 ≤ 65536) = true := decide_eq_true c110
                   clear c110
                   by_cases c111 : a0_11 ≥ 0
                   · rw [if_pos c111] at H
                     have c111b0 : decide (0 ≤ a0_11) = true := decide_eq_true c111
                     clear c111
                     by_cases c112 : a0_11 ≤ 1048576
                     · rw [if_pos c112] at H
                       have c112b0 : decide (a0_11 ≤ 1048576) = true := decide_eq_true c112
                       clear c112
                       by_cases c113 : (!(a0_0 == a0_0) || (!(a0_1 == a0_1) || (!(a0_2 == a0_2) || (!(a0_3 == a0_3) || ((!(false == a0_4) || ((!(0 == a0_5) || (!(0 == a0_6))) || (!(0 == a0_7)))) || ((!(0 == a0_8) || (!(0 == a0_9))))))))) = true
                       · rw [if_pos c113] at H
                         have c113b0 : (!(a0_0 == a0_0) || (!(a0_1 == a0_1) || (!(a0_2 == a0_2) || (!(a0_3 == a0_3) || ((!(false == a0_4) || ((!(0 == a0_5) || (!(0 == a0_6))) || (!(0 == a0_7)))) || ((!(0 == a0_8) || (!(0 == a0_9))))))))) = true := c113
                         have c113b0_s_ := c113b0
                         simp only [beq_self_eq_true, Bool.not_true, Bool.not_false, Bool.false_or, Bool.or_false, Bool.true_or, Bool.or_true, Bool.not_not, Bool.false_beq] at c113b0_s_
                         clear c113
                         obtain rfl := Option.some.inj H
                         try go_wp2
                         have n0_ := Aside0.mk (blk_drew BK193.out)
                         have n1_ := Aside0.mk (blk_drew BK194.out)
                         have n2_ := Aside0.mk (below_drew1 HB.out)
                         clear BK193; clear BK194; clear HB
                         have BK193 := n0_
                         have BK194 := n1_
                         have HB := n2_
                         clear n0_ n1_ n2_
                         refine start_ (n := 8) (S := fun w' => w'.cell? ⟨gb193, 0, none⟩ = some (.int .u8 a0_0) ∧ w'.cell? ⟨gb193, 1, none⟩ = some (.int .i64 a0_1) ∧ w'.cell? ⟨gb193, 2, none⟩ = some (.int .u64 a0_2) ∧ w'.cell? ⟨gb193, 3, none⟩ = some (.int .i64 a0_3) ∧ w'.cell? ⟨gb193, 4, none⟩ = some (.bool a0_4) ∧ w'.cell? ⟨gb193, 5, none⟩ = some (.int .u64 a0_5) ∧ w'.cell? ⟨gb193, 6, none⟩ = some (.int .u64 a0_6) ∧ w'.cell? ⟨gb193, 7, none⟩ = some (.int .i64 a0_7) ∧ w'.cell? ⟨gb193, 8, none⟩ = some (.int .u8 a0_8) ∧ w'.cell? ⟨gb193, 9, none⟩ = some (.int .i64 a0_9) ∧ w'.cell? ⟨gb193, 10, none⟩ = some (.int .i64 a0_10) ∧ w'.cell? ⟨gb193, 11, none⟩ = some (.int .i64 a0_11)) (ds := []) #[false, false, false, false, false, false, false, false] (by kernel_rfl) rfl rfl ⟨(blk_cell BK193.out 0).trans rfl, (blk_cell BK193.out 1).trans rfl, (blk_cell BK193.out 2).trans rfl, (blk_cell BK193.out 3).trans rfl, (blk_cell BK193.out 4).trans rfl, (blk_cell BK193.out 5).trans rfl, (blk_cell BK193.out 6).trans rfl, (blk_cell BK193.out 7).trans rfl, (blk_cell BK193.out 8).trans rfl, (blk_cell BK193.out 9).trans rfl, (blk_cell BK193.out 10).trans rfl, (blk_cell BK193.out 11).trans rfl⟩ (fun hHeld => ?_); refine with_tabW spoorref11_Check.tab16 spoorref11_Check.bits16 (fun HT_ HW_ => ?_)
                         generalize wc.drew = w114 at BK193 BK194 HB hHeld ⊢
                         refine pure_ (i := 0) (N := some 75) (v := ?_) (a' := ?_) #[true, false, false, false, false, false, false, false] rfl rfl (any_of HT_.out (by kernel_rfl)) (fun _ _ _ h => h) (Or.inl ⟨by rfl, ?_⟩) ?_ ?_
                         rotate_left
                         · intro w'
                           go_simp
                           with_reducible rfl
                         rotate_left
                         · simp only [Act.put, List.setIfInBounds_toArray, List.set_cons_zero, List.set_cons_succ, i64_w, i32_w]
                           rfl
                         refine pure_ (i := 2) (N := some 77) (v := ?_) (a' := ?_) #[true, false, true, false, false, false, false, false] rfl rfl (any_of HT_.out (by kernel_rfl)) (fun _ _ _ h => h) (Or.inl ⟨by rfl, ?_⟩) ?_ ?_
                         rotate_left
                         · intro w'
                           go_simp
                           with_reducible rfl
                         rotate_left
                         · simp only [Act.put, List.setIfInBounds_toArray, List.set_cons_zero, List.set_cons_succ, i64_w, i32_w]
                           rfl
                         refine take_ (i := 1) (N := some 76) (v := ?_) (a' := ?_) #[true, true, true, false, false, false, false, false] rfl rfl (take_ofW HT_.out HW_.out (by kernel_rfl)) (fun _ _ _ h => h) (Or.inl ⟨by rfl, ?_⟩) hHeld ?_ ?_
                         rotate_left
                         · rintro w' ⟨s0, s1, s2, s3, s4, s5, s6, s7, s8, s9, s10, s11⟩
                           go_simp
                           with_reducible rfl
                         rotate_left
                         · simp only [Act.put, List.setIfInBounds_toArray, List.set_cons_zero, List.set_cons_succ, i64_w, i32_w]
                           rfl
                         refine pure_ (i := 4) (N := some 79) (v := ?_) (a' := ?_) #[true, true, true, false, true, false, false, false] rfl rfl (any_of HT_.out (by kernel_rfl)) (fun _ _ _ h => h) (Or.inl ⟨by rfl, ?_⟩) ?_ ?_
                         rotate_left
                         · intro w'
                           go_simp
                           with_reducible rfl
                         rotate_left
                         · simp only [Act.put, List.setIfInBounds_toArray, List.set_cons_zero, List.set_cons_succ, i64_w, i32_w]
                           rfl
                         refine take_ (i := 3) (N := some 78) (v := ?_) (a' := ?_) #[true, true, true, true, true, false, false, false] rfl rfl (take_ofW HT_.out HW_.out (by kernel_rfl)) (fun _ _ _ h => h) (Or.inl ⟨by rfl, ?_⟩) hHeld ?_ ?_
                         rotate_left
                         · rintro w' ⟨s0, s1, s2, s3, s4, s5, s6, s7, s8, s9, s10, s11⟩
                           go_simp
                           with_reducible rfl
                         rotate_left
                         · simp only [Act.put, List.setIfInBounds_toArray, List.set_cons_zero, List.set_cons_succ, i64_w, i32_w]
                           rfl
                         refine one_ (i := 5) (N := none) #[true, true, true, true, true, true, false, false] rfl rfl (one_of HT_.out (by kernel_rfl)) (by decide) (fun K hK => ?_)
                         have hs115 : w114.cell? ⟨gb194, 10, none⟩ = some (.int .i64 0) := (blk_cell BK194.out 10).trans rfl
                         have hfs115 := blk_frozen BK194.out 10
                         have hns115_0 := NB193_194.out
                         have hms115_0 := NB194_193.out
                         refine skip_ (w1 := ?_) (by rfl) rfl ?_ ?_
                         rotate_left
                         · go_simp
                           rfl
                         refine hK.out _ _ ⟨(cfx_ NB193_194.out (hHeld.1)), (cfx_ NB193_194.out (hHeld.2.1)), (cfx_ NB193_194.out (hHeld.2.2.1)), (cfx_ NB193_194.out (hHeld.2.2.2.1)), (cfx_ NB193_194.out (hHeld.2.2.2.2.1)), (cfx_ NB193_194.out (hHeld.2.2.2.2.2.1)), (cfx_ NB193_194.out (hHeld.2.2.2.2.2.2.1)), (cfx_ NB193_194.out (hHeld.2.2.2.2.2.2.2.1)), (cfx_ NB193_194.out (hHeld.2.2.2.2.2.2.2.2.1)), (cfx_ NB193_194.out (hHeld.2.2.2.2.2.2.2.2.2.1)), (cfx_ NB193_194.out (hHeld.2.2.2.2.2.2.2.2.2.2.1)), (cfx_ NB193_194.out (hHeld.2.2.2.2.2.2.2.2.2.2.2))⟩ (fun hHeld => ?_)
                         clear hK K
                         refine pure_ (i := 6) (N := some 80) (v := ?_) (a' := ?_) #[true, true, true, true, true, true, true, false] rfl rfl (any_of HT_.out (by kernel_rfl)) (fun _ _ _ h => h) (Or.inl ⟨by rfl, ?_⟩) ?_ ?_
                         rotate_left
                         · intro w'
                           go_simp
                           with_reducible rfl
                         rotate_left
                         · simp only [Act.put, List.setIfInBounds_toArray, List.set_cons_zero, List.set_cons_succ, i64_w, i32_w]
                           rfl
                         refine one_ (i := 7) (N := none) #[true, true, true, true, true, true, true, true] rfl rfl (one_of HT_.out (by kernel_rfl)) (by decide) (fun K hK => ?_)
                         have hs116 : w114.cell? ⟨gb194, 11, none⟩ = some (.int .i64 0) := (blk_cell BK194.out 11).trans rfl
                         have hfs116 := blk_frozen BK194.out 11
                         have hns116_0 := NB193_194.out
                         have hms116_0 := NB194_193.out
                         refine skip_ (w1 := ?_) (by rfl) rfl ?_ ?_
                         rotate_left
                         · go_simp
                           rfl
                         refine hK.out _ _ ⟨(cfx_ NB193_194.out (hHeld.1)), (cfx_ NB193_194.out (hHeld.2.1)), (cfx_ NB193_194.out (hHeld.2.2.1)), (cfx_ NB193_194.out (hHeld.2.2.2.1)), (cfx_ NB193_194.out (hHeld.2.2.2.2.1)), (cfx_ NB193_194.out (hHeld.2.2.2.2.2.1)), (cfx_ NB193_194.out (hHeld.2.2.2.2.2.2.1)), (cfx_ NB193_194.out (hHeld.2.2.2.2.2.2.2.1)), (cfx_ NB193_194.out (hHeld.2.2.2.2.2.2.2.2.1)), (cfx_ NB193_194.out (hHeld.2.2.2.2.2.2.2.2.2.1)), (cfx_ NB193_194.out (hHeld.2.2.2.2.2.2.2.2.2.2.1)), (cfx_ NB193_194.out (hHeld.2.2.2.2.2.2.2.2.2.2.2))⟩ (fun hHeld => ?_)
                         clear hK K
                         refine done_ (done_of HT_.out (by kernel_rfl)) ?_
                         have hnb117 := NB193_194.out
                         have hnc117 := NB194_193.out
                         obtain ⟨hcz118_0, hcz118_1, hcz118_2, hcz118_3, hcz118_4, hcz118_5, hcz118_6, hcz118_7, hcz118_8, hcz118_9, hcz118_10, hcz118_11, hfz118_0, hfz118_1, hfz118_2, hfz118_3, hfz118_4, hfz118_5, hfz118_6, hfz118_7, hfz118_8, hfz118_9, hfz118_10, hfz118_11⟩ := cz12_ BK193.out
                         obtain ⟨hcz119_0, hcz119_1, hcz119_2, hcz119_3, hcz119_4, hcz119_5, hcz119_6, hcz119_7, hcz119_8, hcz119_9, hcz119_10, hcz119_11, hfz119_0, hfz119_1, hfz119_2, hfz119_3, hfz119_4, hfz119_5, hfz119_6, hfz119_7, hfz119_8, hfz119_9, hfz119_10, hfz119_11⟩ := cz12_ BK194.out
                         try go_wp2
                         go_ret
                         exact fin_ bel_
                       · rw [if_neg c113] at H
                         have c113b0 : (!(a0_0 == a0_0) || (!(a0_1 == a0_1) || (!(a0_2 == a0_2) || (!(a0_3 == a0_3) || ((!(false == a0_4) || ((!(0 == a0_5) || (!(0 == a0_6))) || (!(0 == a0_7)))) || ((!(0 == a0_8) || (!(0 == a0_9))))))))) = false := by simpa using c113
                         have c113b0_s_ := c113b0
                         simp only [beq_self_eq_true, Bool.not_true, Bool.not_false, Bool.false_or, Bool.or_false, Bool.true_or, Bool.or_true, Bool.not_not, Bool.false_beq] at c113b0_s_
                         clear c113
                         obtain rfl := Option.some.inj H
                         try go_wp2
                         have n0_ := Aside0.mk (blk_drew BK193.out)
                         have n1_ := Aside0.mk (blk_drew BK194.out)
                         have n2_ := Aside0.mk (below_drew1 HB.out)
                         clear BK193; clear BK194; clear HB
                         have BK193 := n0_
                         have BK194 := n1_
                         have HB := n2_
                         clear n0_ n1_ n2_
                         refine start_ (n := 8) (S := fun w' => w'.cell? ⟨gb193, 0, none⟩ = some (.int .u8 a0_0) ∧ w'.cell? ⟨gb193, 1, none⟩ = some (.int .i64 a0_1) ∧ w'.cell? ⟨gb193, 2, none⟩ = some (.int .u64 a0_2) ∧ w'.cell? ⟨gb193, 3, none⟩ = some (.int .i64 a0_3) ∧ w'.cell? ⟨gb193, 4, none⟩ = some (.bool a0_4) ∧ w'.cell? ⟨gb193, 5, none⟩ = some (.int .u64 a0_5) ∧ w'.cell? ⟨gb193, 6, none⟩ = some (.int .u64 a0_6) ∧ w'.cell? ⟨gb193, 7, none⟩ = some (.int .i64 a0_7) ∧ w'.cell? ⟨gb193, 8, none⟩ = some (.int .u8 a0_8) ∧ w'.cell? ⟨gb193, 9, none⟩ = some (.int .i64 a0_9) ∧ w'.cell? ⟨gb193, 10, none⟩ = some (.int .i64 a0_10) ∧ w'.cell? ⟨gb193, 11, none⟩ = some (.int .i64 a0_11)) (ds := []) #[false, false, false, false, false, false, false, false] (by kernel_rfl) rfl rfl ⟨(blk_cell BK193.out 0).trans rfl, (blk_cell BK193.out 1).trans rfl, (blk_cell BK193.out 2).trans rfl, (blk_cell BK193.out 3).trans rfl, (blk_cell BK193.out 4).trans rfl, (blk_cell BK193.out 5).trans rfl, (blk_cell BK193.out 6).trans rfl, (blk_cell BK193.out 7).trans rfl, (blk_cell BK193.out 8).trans rfl, (blk_cell BK193.out 9).trans rfl, (blk_cell BK193.out 10).trans rfl, (blk_cell BK193.out 11).trans rfl⟩ (fun hHeld => ?_); refine with_tabW spoorref11_Check.tab16 spoorref11_Check.bits16 (fun HT_ HW_ => ?_)
                         generalize wc.drew = w120 at BK193 BK194 HB hHeld ⊢
                         refine pure_ (i := 0) (N := some 75) (v := ?_) (a' := ?_) #[true, false, false, false, false, false, false, false] rfl rfl (any_of HT_.out (by kernel_rfl)) (fun _ _ _ h => h) (Or.inl ⟨by rfl, ?_⟩) ?_ ?_
                         rotate_left
                         · intro w'
                           go_simp
                           with_reducible rfl
                         rotate_left
                         · simp only [Act.put, List.setIfInBounds_toArray, List.set_cons_zero, List.set_cons_succ, i64_w, i32_w]
                           rfl
                         refine pure_ (i := 2) (N := some 77) (v := ?_) (a' := ?_) #[true, false, true, false, false, false, false, false] rfl rfl (any_of HT_.out (by kernel_rfl)) (fun _ _ _ h => h) (Or.inl ⟨by rfl, ?_⟩) ?_ ?_
                         rotate_left
                         · intro w'
                           go_simp
                           with_reducible rfl
                         rotate_left
                         · simp only [Act.put, List.setIfInBounds_toArray, List.set_cons_zero, List.set_cons_succ, i64_w, i32_w]
                           rfl
                         refine take_ (i := 1) (N := some 76) (v := ?_) (a' := ?_) #[true, true, true, false, false, false, false, false] rfl rfl (take_ofW HT_.out HW_.out (by kernel_rfl)) (fun _ _ _ h => h) (Or.inl ⟨by rfl, ?_⟩) hHeld ?_ ?_
                         rotate_left
                         · rintro w' ⟨s0, s1, s2, s3, s4, s5, s6, s7, s8, s9, s10, s11⟩
                           go_simp
                           with_reducible rfl
                         rotate_left
                         · simp only [Act.put, List.setIfInBounds_toArray, List.set_cons_zero, List.set_cons_succ, i64_w, i32_w]
                           rfl
                         refine pure_ (i := 4) (N := some 79) (v := ?_) (a' := ?_) #[true, true, true, false, true, false, false, false] rfl rfl (any_of HT_.out (by kernel_rfl)) (fun _ _ _ h => h) (Or.inl ⟨by rfl, ?_⟩) ?_ ?_
                         rotate_left
                         · intro w'
                           go_simp
                           with_reducible rfl
                         rotate_left
                         · simp only [Act.put, List.setIfInBounds_toArray, List.set_cons_zero, List.set_cons_succ, i64_w, i32_w]
                           rfl
                         refine take_ (i := 3) (N := some 78) (v := ?_) (a' := ?_) #[true, true, true, true, true, false, false, false] rfl rfl (take_ofW HT_.out HW_.out (by kernel_rfl)) (fun _ _ _ h => h) (Or.inl ⟨by rfl, ?_⟩) hHeld ?_ ?_
                         rotate_left
                         · rintro w' ⟨s0, s1, s2, s3, s4, s5, s6, s7, s8, s9, s10, s11⟩
                           go_simp
                           with_reducible rfl
                         rotate_left
                         · simp only [Act.put, List.setIfInBounds_toArray, List.set_cons_zero, List.set_cons_succ, i64_w, i32_w]
                           rfl
                         refine one_ (i := 5) (N := none) #[true, true, true, true, true, true, false, false] rfl rfl (one_of HT_.out (by kernel_rfl)) (by decide) (fun K hK => ?_)
                         have hs121 : w120.cell? ⟨gb194, 10, none⟩ = some (.int .i64 0) := (blk_cell BK194.out 10).trans rfl
                         have hfs121 := blk_frozen BK194.out 10
                         have hns121_0 := NB193_194.out
                         have hms121_0 := NB194_193.out
                         refine skip_ (w1 := ?_) (by rfl) rfl ?_ ?_
                         rotate_left
                         · go_simp
                           rfl
                         refine hK.out _ _ ⟨(cfx_ NB193_194.out (hHeld.1)), (cfx_ NB193_194.out (hHeld.2.1)), (cfx_ NB193_194.out (hHeld.2.2.1)), (cfx_ NB193_194.out (hHeld.2.2.2.1)), (cfx_ NB193_194.out (hHeld.2.2.2.2.1)), (cfx_ NB193_194.out (hHeld.2.2.2.2.2.1)), (cfx_ NB193_194.out (hHeld.2.2.2.2.2.2.1)), (cfx_ NB193_194.out (hHeld.2.2.2.2.2.2.2.1)), (cfx_ NB193_194.out (hHeld.2.2.2.2.2.2.2.2.1)), (cfx_ NB193_194.out (hHeld.2.2.2.2.2.2.2.2.2.1)), (cfx_ NB193_194.out (hHeld.2.2.2.2.2.2.2.2.2.2.1)), (cfx_ NB193_194.out (hHeld.2.2.2.2.2.2.2.2.2.2.2))⟩ (fun hHeld => ?_)
                         clear hK K
                         refine pure_ (i := 6) (N := some 80) (v := ?_) (a' := ?_) #[true, true, true, true, true, true, true, false] rfl rfl (any_of HT_.out (by kernel_rfl)) (fun _ _ _ h => h) (Or.inl ⟨by rfl, ?_⟩) ?_ ?_
                         rotate_left
                         · intro w'
                           go_simp
                           with_reducible rfl
                         rotate_left
                         · simp only [Act.put, List.setIfInBounds_toArray, List.set_cons_zero, List.set_cons_succ, i64_w, i32_w]
                           rfl
                         refine one_ (i := 7) (N := none) #[true, true, true, true, true, true, true, true] rfl rfl (one_of HT_.out (by kernel_rfl)) (by decide) (fun K hK => ?_)
                         have hs122 : w120.cell? ⟨gb194, 11, none⟩ = some (.int .i64 0) := (blk_cell BK194.out 11).trans rfl
                         have hfs122 := blk_frozen BK194.out 11
                         have hns122_0 := NB193_194.out
                         have hms122_0 := NB194_193.out
                         refine skip_ (w1 := ?_) (by rfl) rfl ?_ ?_
                         rotate_left
                         · go_simp
                           rfl
                         refine hK.out _ _ ⟨(cfx_ NB193_194.out (hHeld.1)), (cfx_ NB193_194.out (hHeld.2.1)), (cfx_ NB193_194.out (hHeld.2.2.1)), (cfx_ NB193_194.out (hHeld.2.2.2.1)), (cfx_ NB193_194.out (hHeld.2.2.2.2.1)), (cfx_ NB193_194.out (hHeld.2.2.2.2.2.1)), (cfx_ NB193_194.out (hHeld.2.2.2.2.2.2.1)), (cfx_ NB193_194.out (hHeld.2.2.2.2.2.2.2.1)), (cfx_ NB193_194.out (hHeld.2.2.2.2.2.2.2.2.1)), (cfx_ NB193_194.out (hHeld.2.2.2.2.2.2.2.2.2.1)), (cfx_ NB193_194.out (hHeld.2.2.2.2.2.2.2.2.2.2.1)), (cfx_ NB193_194.out (hHeld.2.2.2.2.2.2.2.2.2.2.2))⟩ (fun hHeld => ?_)
                         clear hK K
                         refine done_ (done_of HT_.out (by kernel_rfl)) ?_
                         have hnb123 := NB193_194.out
                         have hnc123 := NB194_193.out
                         obtain ⟨hcz124_0, hcz124_1, hcz124_2, hcz124_3, hcz124_4, hcz124_5, hcz124_6, hcz124_7, hcz124_8, hcz124_9, hcz124_10, hcz124_11, hfz124_0, hfz124_1, hfz124_2, hfz124_3, hfz124_4, hfz124_5, hfz124_6, hfz124_7, hfz124_8, hfz124_9, hfz124_10, hfz124_11⟩ := cz12_ BK193.out
                         obtain ⟨hcz125_0, hcz125_1, hcz125_2, hcz125_3, hcz125_4, hcz125_5, hcz125_6, hcz125_7, hcz125_8, hcz125_9, hcz125_10, hcz125_11, hfz125_0, hfz125_1, hfz125_2, hfz125_3, hfz125_4, hfz125_5, hfz125_6, hfz125_7, hfz125_8, hfz125_9, hfz125_10, hfz125_11⟩ := cz12_ BK194.out
                         try go_wp2
                         go_ret
                         exact fin_ bel_
                     · rw [if_neg c112] at H
                       have c112b0 : decide (a0_11 ≤ 1048576) = false := decide_eq_false c112
                       clear c112
                       obtain rfl := Option.some.inj H
                       try go_wp2
                       have n0_ := Aside0.mk (blk_drew BK193.out)
                       have n1_ := Aside0.mk (blk_drew BK194.out)
                       have n2_ := Aside0.mk (below_drew1 HB.out)
                       clear BK193; clear BK194; clear HB
                       have BK193 := n0_
                       have BK194 := n1_
                       have HB := n2_
                       clear n0_ n1_ n2_
                       refine start_ (n := 8) (S := fun w' => w'.cell? ⟨gb193, 0, none⟩ = some (.int .u8 a0_0) ∧ w'.cell? ⟨gb193, 1, none⟩ = some (.int .i64 a0_1) ∧ w'.cell? ⟨gb193, 2, none⟩ = some (.int .u64 a0_2) ∧ w'.cell? ⟨gb193, 3, none⟩ = some (.int .i64 a0_3) ∧ w'.cell? ⟨gb193, 4, none⟩ = some (.bool a0_4) ∧ w'.cell? ⟨gb193, 5, none⟩ = some (.int .u64 a0_5) ∧ w'.cell? ⟨gb193, 6, none⟩ = some (.int .u64 a0_6) ∧ w'.cell? ⟨gb193, 7, none⟩ = some (.int .i64 a0_7) ∧ w'.cell? ⟨gb193, 8, none⟩ = some (.int .u8 a0_8) ∧ w'.cell? ⟨gb193, 9, none⟩ = some (.int .i64 a0_9) ∧ w'.cell? ⟨gb193, 10, none⟩ = some (.int .i64 a0_10) ∧ w'.cell? ⟨gb193, 11, none⟩ = some (.int .i64 a0_11)) (ds := []) #[false, false, false, false, false, false, false, false] (by kernel_rfl) rfl rfl ⟨(blk_cell BK193.out 0).trans rfl, (blk_cell BK193.out 1).trans rfl, (blk_cell BK193.out 2).trans rfl, (blk_cell BK193.out 3).trans rfl, (blk_cell BK193.out 4).trans rfl, (blk_cell BK193.out 5).trans rfl, (blk_cell BK193.out 6).trans rfl, (blk_cell BK193.out 7).trans rfl, (blk_cell BK193.out 8).trans rfl, (blk_cell BK193.out 9).trans rfl, (blk_cell BK193.out 10).trans rfl, (blk_cell BK193.out 11).trans rfl⟩ (fun hHeld => ?_); refine with_tabW spoorref11_Check.tab16 spoorref11_Check.bits16 (fun HT_ HW_ => ?_)
                       generalize wc.drew = w126 at BK193 BK194 HB hHeld ⊢
                       refine pure_ (i := 0) (N := some 75) (v := ?_) (a' := ?_) #[true, false, false, false, false, false, false, false] rfl rfl (any_of HT_.out (by kernel_rfl)) (fun _ _ _ h => h) (Or.inl ⟨by rfl, ?_⟩) ?_ ?_
                       rotate_left
                       · intro w'
                         go_simp
                         with_reducible rfl
                       rotate_left
                       · simp only [Act.put, List.setIfInBounds_toArray, List.set_cons_zero, List.set_cons_succ, i64_w, i32_w]
                         rfl
                       refine pure_ (i := 2) (N := some 77) (v := ?_) (a' := ?_) #[true, false, true, false, false, false, false, false] rfl rfl (any_of HT_.out (by kernel_rfl)) (fun _ _ _ h => h) (Or.inl ⟨by rfl, ?_⟩) ?_ ?_
                       rotate_left
                       · intro w'
                         go_simp
                         with_reducible rfl
                       rotate_left
                       · simp only [Act.put, List.setIfInBounds_toArray, List.set_cons_zero, List.set_cons_succ, i64_w, i32_w]
                         rfl
                       refine take_ (i := 1) (N := some 76) (v := ?_) (a' := ?_) #[true, true, true, false, false, false, false, false] rfl rfl (take_ofW HT_.out HW_.out (by kernel_rfl)) (fun _ _ _ h => h) (Or.inl ⟨by rfl, ?_⟩) hHeld ?_ ?_
                       rotate_left
                       · rintro w' ⟨s0, s1, s2, s3, s4, s5, s6, s7, s8, s9, s10, s11⟩
                         go_simp
                         with_reducible rfl
                       rotate_left
                       · simp only [Act.put, List.setIfInBounds_toArray, List.set_cons_zero, List.set_cons_succ, i64_w, i32_w]
                         rfl
                       refine pure_ (i := 4) (N := some 79) (v := ?_) (a' := ?_) #[true, true, true, false, true, false, false, false] rfl rfl (any_of HT_.out (by kernel_rfl)) (fun _ _ _ h => h) (Or.inl ⟨by rfl, ?_⟩) ?_ ?_
                       rotate_left
                       · intro w'
                         go_simp
                         with_reducible rfl
                       rotate_left
                       · simp only [Act.put, List.setIfInBounds_toArray, List.set_cons_zero, List.set_cons_succ, i64_w, i32_w]
                         rfl
                       refine take_ (i := 3) (N := some 78) (v := ?_) (a' := ?_) #[true, true, true, true, true, false, false, false] rfl rfl (take_ofW HT_.out HW_.out (by kernel_rfl)) (fun _ _ _ h => h) (Or.inl ⟨by rfl, ?_⟩) hHeld ?_ ?_
                       rotate_left
                       · rintro w' ⟨s0, s1, s2, s3, s4, s5, s6, s7, s8, s9, s10, s11⟩
                         go_simp
                         with_reducible rfl
                       rotate_left
                       · simp only [Act.put, List.setIfInBounds_toArray, List.set_cons_zero, List.set_cons_succ, i64_w, i32_w]
                         rfl
                       refine one_ (i := 5) (N := none) #[true, true, true, true, true, true, false, false] rfl rfl (one_of HT_.out (by kernel_rfl)) (by decide) (fun K hK => ?_)
                       have hs127 : w126.cell? ⟨gb194, 10, none⟩ = some (.int .i64 0) := (blk_cell BK194.out 10).trans rfl
                       have hfs127 := blk_frozen BK194.out 10
                       have hns127_0 := NB193_194.out
                       have hms127_0 := NB194_193.out
                       refine skip_ (w1 := ?_) (by rfl) rfl ?_ ?_
                       rotate_left
                       · go_simp
                         rfl
                       refine hK.out _ _ ⟨(cfx_ NB193_194.out (hHeld.1)), (cfx_ NB193_194.out (hHeld.2.1)), (cfx_ NB193_194.out (hHeld.2.2.1)), (cfx_ NB193_194.out (hHeld.2.2.2.1)), (cfx_ NB193_194.out (hHeld.2.2.2.2.1)), (cfx_ NB193_194.out (hHeld.2.2.2.2.2.1)), (cfx_ NB193_194.out (hHeld.2.2.2.2.2.2.1)), (cfx_ NB193_194.out (hHeld.2.2.2.2.2.2.2.1)), (cfx_ NB193_194.out (hHeld.2.2.2.2.2.2.2.2.1)), (cfx_ NB193_194.out (hHeld.2.2.2.2.2.2.2.2.2.1)), (cfx_ NB193_194.out (hHeld.2.2.2.2.2.2.2.2.2.2.1)), (cfx_ NB193_194.out (hHeld.2.2.2.2.2.2.2.2.2.2.2))⟩ (fun hHeld => ?_)
                       clear hK K
                       refine pure_ (i := 6) (N := some 80) (v := ?_) (a' := ?_) #[true, true, true, true, true, true, true, false] rfl rfl (any_of HT_.out (by kernel_rfl)) (fun _ _ _ h => h) (Or.inl ⟨by rfl, ?_⟩) ?_ ?_
                       rotate_left
                       · intro w'
                         go_simp
                         with_reducible rfl
                       rotate_left
                       · simp only [Act.put, List.setIfInBounds_toArray, List.set_cons_zero, List.set_cons_succ, i64_w, i32_w]
                         rfl
                       refine one_ (i := 7) (N := none) #[true, true, true, true, true, true, true, true] rfl rfl (one_of HT_.out (by kernel_rfl)) (by decide) (fun K hK => ?_)
                       have hs128 : w126.cell? ⟨gb194, 11, none⟩ = some (.int .i64 0) := (blk_cell BK194.out 11).trans rfl
                       have hfs128 := blk_frozen BK194.out 11
                       have hns128_0 := NB193_194.out
                       have hms128_0 := NB194_193.out
                       refine skip_ (w1 := ?_) (by rfl) rfl ?_ ?_
                       rotate_left
                       · go_simp
                         rfl
                       refine hK.out _ _ ⟨(cfx_ NB193_194.out (hHeld.1)), (cfx_ NB193_194.out (hHeld.2.1)), (cfx_ NB193_194.out (hHeld.2.2.1)), (cfx_ NB193_194.out (hHeld.2.2.2.1)), (cfx_ NB193_194.out (hHeld.2.2.2.2.1)), (cfx_ NB193_194.out (hHeld.2.2.2.2.2.1)), (cfx_ NB193_194.out (hHeld.2.2.2.2.2.2.1)), (cfx_ NB193_194.out (hHeld.2.2.2.2.2.2.2.1)), (cfx_ NB193_194.out (hHeld.2.2.2.2.2.2.2.2.1)), (cfx_ NB193_194.out (hHeld.2.2.2.2.2.2.2.2.2.1)), (cfx_ NB193_194.out (hHeld.2.2.2.2.2.2.2.2.2.2.1)), (cfx_ NB193_194.out (hHeld.2.2.2.2.2.2.2.2.2.2.2))⟩ (fun hHeld => ?_)
                       clear hK K
                       refine done_ (done_of HT_.out (by kernel_rfl)) ?_
                       have hnb129 := NB193_194.out
                       have hnc129 := NB194_193.out
                       obtain ⟨hcz130_0, hcz130_1, hcz130_2, hcz130_3, hcz130_4, hcz130_5, hcz130_6, hcz130_7, hcz130_8, hcz130_9, hcz130_10, hcz130_11, hfz130_0, hfz130_1, hfz130_2, hfz130_3, hfz130_4, hfz130_5, hfz130_6, hfz130_7, hfz130_8, hfz130_9, hfz130_10, hfz130_11⟩ := cz12_ BK193.out
                       try go_wp2
                       go_ret
                       exact fin_ bel_
                   · rw [if_neg c111] at H
                     have c111b0 : decide (0 ≤ a0_11) = false := decide_eq_false c111
                     clear c111
                     obtain rfl := Option.some.inj H
                     try go_wp2
                     have n0_ := Aside0.mk (blk_drew BK193.out)
                     have n1_ := Aside0.mk (blk_drew BK194.out)
                     have n2_ := Aside0.mk (below_drew1 HB.out)
                     clear BK193; clear BK194; clear HB
                     have BK193 := n0_
                     have BK194 := n1_
                     have HB := n2_
                     clear n0_ n1_ n2_
                     refine start_ (n := 8) (S := fun w' => w'.cell? ⟨gb193, 0, none⟩ = some (.int .u8 a0_0) ∧ w'.cell? ⟨gb193, 1, none⟩ = some (.int .i64 a0_1) ∧ w'.cell? ⟨gb193, 2, none⟩ = some (.int .u64 a0_2) ∧ w'.cell? ⟨gb193, 3, none⟩ = some (.int .i64 a0_3) ∧ w'.cell? ⟨gb193, 4, none⟩ = some (.bool a0_4) ∧ w'.cell? ⟨gb193, 5, none⟩ = some (.int .u64 a0_5) ∧ w'.cell? ⟨gb193, 6, none⟩ = some (.int .u64 a0_6) ∧ w'.cell? ⟨gb193, 7, none⟩ = some (.int .i64 a0_7) ∧ w'.cell? ⟨gb193, 8, none⟩ = some (.int .u8 a0_8) ∧ w'.cell? ⟨gb193, 9, none⟩ = some (.int .i64 a0_9) ∧ w'.cell? ⟨gb193, 10, none⟩ = some (.int .i64 a0_10) ∧ w'.cell? ⟨gb193, 11, none⟩ = some (.int .i64 a0_11)) (ds := []) #[false, false, false, false, false, false, false, false] (by kernel_rfl) rfl rfl ⟨(blk_cell BK193.out 0).trans rfl, (blk_cell BK193.out 1).trans rfl, (blk_cell BK193.out 2).trans rfl, (blk_cell BK193.out 3).trans rfl, (blk_cell BK193.out 4).trans rfl, (blk_cell BK193.out 5).trans rfl, (blk_cell BK193.out 6).trans rfl, (blk_cell BK193.out 7).trans rfl, (blk_cell BK193.out 8).trans rfl, (blk_cell BK193.out 9).trans rfl, (blk_cell BK193.out 10).trans rfl, (blk_cell BK193.out 11).trans rfl⟩ (fun hHeld => ?_); refine with_tabW spoorref11_Check.tab16 spoorref11_Check.bits16 (fun HT_ HW_ => ?_)
                     generalize wc.drew = w131 at BK193 BK194 HB hHeld ⊢
                     refine pure_ (i := 0) (N := some 75) (v := ?_) (a' := ?_) #[true, false, false, false, false, false, false, false] rfl rfl (any_of HT_.out (by kernel_rfl)) (fun _ _ _ h => h) (Or.inl ⟨by rfl, ?_⟩) ?_ ?_
                     rotate_left
                     · intro w'
                       go_simp
                       with_reducible rfl
                     rotate_left
                     · simp only [Act.put, List.setIfInBounds_toArray, List.set_cons_zero, List.set_cons_succ, i64_w, i32_w]
                       rfl
                     refine pure_ (i := 2) (N := some 77) (v := ?_) (a' := ?_) #[true, false, true, false, false, false, false, false] rfl rfl (any_of HT_.out (by kernel_rfl)) (fun _ _ _ h => h) (Or.inl ⟨by rfl, ?_⟩) ?_ ?_
                     rotate_left
                     · intro w'
                       go_simp
                       with_reducible rfl
                     rotate_left
                     · simp only [Act.put, List.setIfInBounds_toArray, List.set_cons_zero, List.set_cons_succ, i64_w, i32_w]
                       rfl
                     refine take_ (i := 1) (N := some 76) (v := ?_) (a' := ?_) #[true, true, true, false, false, false, false, false] rfl rfl (take_ofW HT_.out HW_.out (by kernel_rfl)) (fun _ _ _ h => h) (Or.inl ⟨by rfl, ?_⟩) hHeld ?_ ?_
                     rotate_left
                     · rintro w' ⟨s0, s1, s2, s3, s4, s5, s6, s7, s8, s9, s10, s11⟩
                       go_simp
                       with_reducible rfl
                     rotate_left
                     · simp only [Act.put, List.setIfInBounds_toArray, List.set_cons_zero, List.set_cons_succ, i64_w, i32_w]
                       rfl
                     refine pure_ (i := 4) (N := some 79) (v := ?_) (a' := ?_) #[true, true, true, false, true, false, false, false] rfl rfl (any_of HT_.out (by kernel_rfl)) (fun _ _ _ h => h) (Or.inl ⟨by rfl, ?_⟩) ?_ ?_
                     rotate_left
                     · intro w'
                       go_simp
                       with_reducible rfl
                     rotate_left
                     · simp only [Act.put, List.setIfInBounds_toArray, List.set_cons_zero, List.set_cons_succ, i64_w, i32_w]
                       rfl
                     refine take_ (i := 3) (N := some 78) (v := ?_) (a' := ?_) #[true, true, true, true, true, false, false, false] rfl rfl (take_ofW HT_.out HW_.out (by kernel_rfl)) (fun _ _ _ h => h) (Or.inl ⟨by rfl, ?_⟩) hHeld ?_ ?_
                     rotate_left
                     · rintro w' ⟨s0, s1, s2, s3, s4, s5, s6, s7, s8, s9, s10, s11⟩
                       go_simp
                       with_reducible rfl
                     rotate_left
                     · simp only [Act.put, List.setIfInBounds_toArray, List.set_cons_zero, List.set_cons_succ, i64_w, i32_w]
                       rfl
                     refine one_ (i := 5) (N := none) #[true, true, true, true, true, true, false, false] rfl rfl (one_of HT_.out (by kernel_rfl)) (by decide) (fun K hK => ?_)
                     have hs132 : w131.cell? ⟨gb194, 10, none⟩ = some (.int .i64 0) := (blk_cell BK194.out 10).trans rfl
                     have hfs132 := blk_frozen BK194.out 10
                     have hns132_0 := NB193_194.out
                     have hms132_0 := NB194_193.out
                     refine skip_ (w1 := ?_) (by rfl) rfl ?_ ?_
                     rotate_left
                     · go_simp
                       rfl
                     refine hK.out _ _ ⟨(cfx_ NB193_194.out (hHeld.1)), (cfx_ NB193_194.out (hHeld.2.1)), (cfx_ NB193_194.out (hHeld.2.2.1)), (cfx_ NB193_194.out (hHeld.2.2.2.1)), (cfx_ NB193_194.out (hHeld.2.2.2.2.1)), (cfx_ NB193_194.out (hHeld.2.2.2.2.2.1)), (cfx_ NB193_194.out (hHeld.2.2.2.2.2.2.1)), (cfx_ NB193_194.out (hHeld.2.2.2.2.2.2.2.1)), (cfx_ NB193_194.out (hHeld.2.2.2.2.2.2.2.2.1)), (cfx_ NB193_194.out (hHeld.2.2.2.2.2.2.2.2.2.1)), (cfx_ NB193_194.out (hHeld.2.2.2.2.2.2.2.2.2.2.1)), (cfx_ NB193_194.out (hHeld.2.2.2.2.2.2.2.2.2.2.2))⟩ (fun hHeld => ?_)
                     clear hK K
                     refine pure_ (i := 6) (N := some 80) (v := ?_) (a' := ?_) #[true, true, true, true, true, true, true, false] rfl rfl (any_of HT_.out (by kernel_rfl)) (fun _ _ _ h => h) (Or.inl ⟨by rfl, ?_⟩) ?_ ?_
                     rotate_left
                     · intro w'
                       go_simp
                       with_reducible rfl
                     rotate_left
                     · simp only [Act.put, List.setIfInBounds_toArray, List.set_cons_zero, List.set_cons_succ, i64_w, i32_w]
                       rfl
                     refine one_ (i := 7) (N := none) #[true, true, true, true, true, true, true, true] rfl rfl (one_of HT_.out (by kernel_rfl)) (by decide) (fun K hK => ?_)
                     have hs133 : w131.cell? ⟨gb194, 11, none⟩ = some (.int .i64 0) := (blk_cell BK194.out 11).trans rfl
                     have hfs133 := blk_frozen BK194.out 11
                     have hns133_0 := NB193_194.out
                     have hms133_0 := NB194_193.out
                     refine skip_ (w1 := ?_) (by rfl) rfl ?_ ?_
                     rotate_left
                     · go_simp
                       rfl
                     refine hK.out _ _ ⟨(cfx_ NB193_194.out (hHeld.1)), (cfx_ NB193_194.out (hHeld.2.1)), (cfx_ NB193_194.out (hHeld.2.2.1)), (cfx_ NB193_194.out (hHeld.2.2.2.1)), (cfx_ NB193_194.out (hHeld.2.2.2.2.1)), (cfx_ NB193_194.out (hHeld.2.2.2.2.2.1)), (cfx_ NB193_194.out (hHeld.2.2.2.2.2.2.1)), (cfx_ NB193_194.out (hHeld.2.2.2.2.2.2.2.1)), (cfx_ NB193_194.out (hHeld.2.2.2.2.2.2.2.2.1)), (cfx_ NB193_194.out (hHeld.2.2.2.2.2.2.2.2.2.1)), (cfx_ NB193_194.out (hHeld.2.2.2.2.2.2.2.2.2.2.1)), (cfx_ NB193_194.out (hHeld.2.2.2.2.2.2.2.2.2.2.2))⟩ (fun hHeld => ?_)
                     clear hK K
                     refine done_ (done_of HT_.out (by kernel_rfl)) ?_
                     have hnb134 := NB193_194.out
                     have hnc134 := NB194_193.out
                     obtain ⟨hcz135_0, hcz135_1, hcz135_2, hcz135_3, hcz135_4, hcz135_5, hcz135_6, hcz135_7, hcz135_8, hcz135_9, hcz135_10, hcz135_11, hfz135_0, hfz135_1, hfz135_2, hfz135_3, hfz135_4, hfz135_5, hfz135_6, hfz135_7, hfz135_8, hfz135_9, hfz135_10, hfz135_11⟩ := cz12_ BK193.out
                     try go_wp2
                     go_ret
                     exact fin_ bel_
                 · rw [if_neg c110] at H
                   have c110b0 : decide (a0_10 ≤ 65536) = false := decide_eq_false c110
                   clear c110
                   obtain rfl := Option.some.inj H
                   try go_wp2
                   have n0_ := Aside0.mk (blk_drew BK193.out)
                   have n1_ := Aside0.mk (blk_drew BK194.out)
                   have n2_ := Aside0.mk (below_drew1 HB.out)
                   clear BK193; clear BK194; clear HB
                   have BK193 := n0_
                   have BK194 := n1_
                   have HB := n2_
                   clear n0_ n1_ n2_
                   refine start_ (n := 8) (S := fun w' => w'.cell? ⟨gb193, 0, none⟩ = some (.int .u8 a0_0) ∧ w'.cell? ⟨gb193, 1, none⟩ = some (.int .i64 a0_1) ∧ w'.cell? ⟨gb193, 2, none⟩ = some (.int .u64 a0_2) ∧ w'.cell? ⟨gb193, 3, none⟩ = some (.int .i64 a0_3) ∧ w'.cell? ⟨gb193, 4, none⟩ = some (.bool a0_4) ∧ w'.cell? ⟨gb193, 5, none⟩ = some (.int .u64 a0_5) ∧ w'.cell? ⟨gb193, 6, none⟩ = some (.int .u64 a0_6) ∧ w'.cell? ⟨gb193, 7, none⟩ = some (.int .i64 a0_7) ∧ w'.cell? ⟨gb193, 8, none⟩ = some (.int .u8 a0_8) ∧ w'.cell? ⟨gb193, 9, none⟩ = some (.int .i64 a0_9) ∧ w'.cell? ⟨gb193, 10, none⟩ = some (.int .i64 a0_10) ∧ w'.cell? ⟨gb193, 11, none⟩ = some (.int .i64 a0_11)) (ds := []) #[false, false, false, false, false, false, false, false] (by kernel_rfl) rfl rfl ⟨(blk_cell BK193.out 0).trans rfl, (blk_cell BK193.out 1).trans rfl, (blk_cell BK193.out 2).trans rfl, (blk_cell BK193.out 3).trans rfl, (blk_cell BK193.out 4).trans rfl, (blk_cell BK193.out 5).trans rfl, (blk_cell BK193.out 6).trans rfl, (blk_cell BK193.out 7).trans rfl, (blk_cell BK193.out 8).trans rfl, (blk_cell BK193.out 9).trans rfl, (blk_cell BK193.out 10).trans rfl, (blk_cell BK193.out 11).trans rfl⟩ (fun hHeld => ?_); refine with_tabW spoorref11_Check.tab16 spoorref11_Check.bits16 (fun HT_ HW_ => ?_)
                   generalize wc.drew = w136 at BK193 BK194 HB hHeld ⊢
                   refine pure_ (i := 0) (N := some 75) (v := ?_) (a' := ?_) #[true, false, false, false, false, false, false, false] rfl rfl (any_of HT_.out (by kernel_rfl)) (fun _ _ _ h => h) (Or.inl ⟨by rfl, ?_⟩) ?_ ?_
                   rotate_left
                   · intro w'
                     go_simp
                     with_reducible rfl
                   rotate_left
                   · simp only [Act.put, List.setIfInBounds_toArray, List.set_cons_zero, List.set_cons_succ, i64_w, i32_w]
                     rfl
                   refine pure_ (i := 2) (N := some 77) (v := ?_) (a' := ?_) #[true, false, true, false, false, false, false, false] rfl rfl (any_of HT_.out (by kernel_rfl)) (fun _ _ _ h => h) (Or.inl ⟨by rfl, ?_⟩) ?_ ?_
                   rotate_left
                   · intro w'
                     go_simp
                     with_reducible rfl
                   rotate_left
                   · simp only [Act.put, List.setIfInBounds_toArray, List.set_cons_zero, List.set_cons_succ, i64_w, i32_w]
                     rfl
                   refine take_ (i := 1) (N := some 76) (v := ?_) (a' := ?_) #[true, true, true, false, false, false, false, false] rfl rfl (take_ofW HT_.out HW_.out (by kernel_rfl)) (fun _ _ _ h => h) (Or.inl ⟨by rfl, ?_⟩) hHeld ?_ ?_
                   rotate_left
                   · rintro w' ⟨s0, s1, s2, s3, s4, s5, s6, s7, s8, s9, s10, s11⟩
                     go_simp
                     with_reducible rfl
                   rotate_left
                   · simp only [Act.put, List.setIfInBounds_toArray, List.set_cons_zero, List.set_cons_succ, i64_w, i32_w]
                     rfl
                   refine pure_ (i := 4) (N := some 79) (v := ?_) (a' := ?_) #[true, true, true, false, true, false, false, false] rfl rfl (any_of HT_.out (by kernel_rfl)) (fun _ _ _ h => h) (Or.inl ⟨by rfl, ?_⟩) ?_ ?_
                   rotate_left
                   · intro w'
                     go_simp
                     with_reducible rfl
                   rotate_left
                   · simp only [Act.put, List.setIfInBounds_toArray, List.set_cons_zero, List.set_cons_succ, i64_w, i32_w]
                     rfl
                   refine take_ (i := 3) (N := some 78) (v := ?_) (a' := ?_) #[true, true, true, true, true, false, false, false] rfl rfl (take_ofW HT_.out HW_.out (by kernel_rfl)) (fun _ _ _ h => h) (Or.inl ⟨by rfl, ?_⟩) hHeld ?_ ?_
                   rotate_left
                   · rintro w' ⟨s0, s1, s2, s3, s4, s5, s6, s7, s8, s9, s10, s11⟩
                     go_simp
                     with_reducible rfl
                   rotate_left
                   · simp only [Act.put, List.setIfInBounds_toArray, List.set_cons_zero, List.set_cons_succ, i64_w, i32_w]
                     rfl
                   refine one_ (i := 5) (N := none) #[true, true, true, true, true, true, false, false] rfl rfl (one_of HT_.out (by kernel_rfl)) (by decide) (fun K hK => ?_)
                   have hs137 : w136.cell? ⟨gb194, 10, none⟩ = some (.int .i64 0) := (blk_cell BK194.out 10).trans rfl
                   have hfs137 := blk_frozen BK194.out 10
                   have hns137_0 := NB193_194.out
                   have hms137_0 := NB194_193.out
                   refine skip_ (w1 := ?_) (by rfl) rfl ?_ ?_
                   rotate_left
                   · go_simp
                     rfl
                   refine hK.out _ _ ⟨(cfx_ NB193_194.out (hHeld.1)), (cfx_ NB193_194.out (hHeld.2.1)), (cfx_ NB193_194.out (hHeld.2.2.1)), (cfx_ NB193_194.out (hHeld.2.2.2.1)), (cfx_ NB193_194.out (hHeld.2.2.2.2.1)), (cfx_ NB193_194.out (hHeld.2.2.2.2.2.1)), (cfx_ NB193_194.out (hHeld.2.2.2.2.2.2.1)), (cfx_ NB193_194.out (hHeld.2.2.2.2.2.2.2.1)), (cfx_ NB193_194.out (hHeld.2.2.2.2.2.2.2.2.1)), (cfx_ NB193_194.out (hHeld.2.2.2.2.2.2.2.2.2.1)), (cfx_ NB193_194.out (hHeld.2.2.2.2.2.2.2.2.2.2.1)), (cfx_ NB193_194.out (hHeld.2.2.2.2.2.2.2.2.2.2.2))⟩ (fun hHeld => ?_)
                   clear hK K
                   refine pure_ (i := 6) (N := some 80) (v := ?_) (a' := ?_) #[true, true, true, true, true, true, true, false] rfl rfl (any_of HT_.out (by kernel_rfl)) (fun _ _ _ h => h) (Or.inl ⟨by rfl, ?_⟩) ?_ ?_
                   rotate_left
                   · intro w'
                     go_simp
                     with_reducible rfl
                   rotate_left
                   · simp only [Act.put, List.setIfInBounds_toArray, List.set_cons_zero, List.set_cons_succ, i64_w, i32_w]
                     rfl
                   refine one_ (i := 7) (N := none) #[true, true, true, true, true, true, true, true] rfl rfl (one_of HT_.out (by kernel_rfl)) (by decide) (fun K hK => ?_)
                   have hs138 : w136.cell? ⟨gb194, 11, none⟩ = some (.int .i64 0) := (blk_cell BK194.out 11).trans rfl
                   have hfs138 := blk_frozen BK194.out 11
                   have hns138_0 := NB193_194.out
                   have hms138_0 := NB194_193.out
                   refine skip_ (w1 := ?_) (by rfl) rfl ?_ ?_
                   rotate_left
                   · go_simp
                     rfl
                   refine hK.out _ _ ⟨(cfx_ NB193_194.out (hHeld.1)), (cfx_ NB193_194.out (hHeld.2.1)), (cfx_ NB193_194.out (hHeld.2.2.1)), (cfx_ NB193_194.out (hHeld.2.2.2.1)), (cfx_ NB193_194.out (hHeld.2.2.2.2.1)), (cfx_ NB193_194.out (hHeld.2.2.2.2.2.1)), (cfx_ NB193_194.out (hHeld.2.2.2.2.2.2.1)), (cfx_ NB193_194.out (hHeld.2.2.2.2.2.2.2.1)), (cfx_ NB193_194.out (hHeld.2.2.2.2.2.2.2.2.1)), (cfx_ NB193_194.out (hHeld.2.2.2.2.2.2.2.2.2.1)), (cfx_ NB193_194.out (hHeld.2.2.2.2.2.2.2.2.2.2.1)), (cfx_ NB193_194.out (hHeld.2.2.2.2.2.2.2.2.2.2.2))⟩ (fun hHeld => ?_)
                   clear hK K
                   refine done_ (done_of HT_.out (by kernel_rfl)) ?_
                   have hnb139 := NB193_194.out
                   have hnc139 := NB194_193.out
                   obtain ⟨hcz140_0, hcz140_1, hcz140_2, hcz140_3, hcz140_4, hcz140_5, hcz140_6, hcz140_7, hcz140_8, hcz140_9, hcz140_10, hcz140_11, hfz140_0, hfz140_1, hfz140_2, hfz140_3, hfz140_4, hfz140_5, hfz140_6, hfz140_7, hfz140_8, hfz140_9, hfz140_10, hfz140_11⟩ := cz12_ BK193.out
                   try go_wp2
                   go_ret
                   exact fin_ bel_
               · rw [if_neg c109] at H
                 have c109b0 : decide (0 ≤ a0_10) = false := decide_eq_false c109
                 clear c109
                 obtain rfl := Option.some.inj H
                 try go_wp2
                 have n0_ := Aside0.mk (blk_drew BK193.out)
                 have n1_ := Aside0.mk (blk_drew BK194.out)
                 have n2_ := Aside0.mk (below_drew1 HB.out)
                 clear BK193; clear BK194; clear HB
                 have BK193 := n0_
                 have BK194 := n1_
                 have HB := n2_
                 clear n0_ n1_ n2_
                 refine start_ (n := 8) (S := fun w' => w'.cell? ⟨gb193, 0, none⟩ = some (.int .u8 a0_0) ∧ w'.cell? ⟨gb193, 1, none⟩ = some (.int .i64 a0_1) ∧ w'.cell? ⟨gb193, 2, none⟩ = some (.int .u64 a0_2) ∧ w'.cell? ⟨gb193, 3, none⟩ = some (.int .i64 a0_3) ∧ w'.cell? ⟨gb193, 4, none⟩ = some (.bool a0_4) ∧ w'.cell? ⟨gb193, 5, none⟩ = some (.int .u64 a0_5) ∧ w'.cell? ⟨gb193, 6, none⟩ = some (.int .u64 a0_6) ∧ w'.cell? ⟨gb193, 7, none⟩ = some (.int .i64 a0_7) ∧ w'.cell? ⟨gb193, 8, none⟩ = some (.int .u8 a0_8) ∧ w'.cell? ⟨gb193, 9, none⟩ = some (.int .i64 a0_9) ∧ w'.cell? ⟨gb193, 10, none⟩ = some (.int .i64 a0_10) ∧ w'.cell? ⟨gb193, 11, none⟩ = some (.int .i64 a0_11)) (ds := []) #[false, false, false, false, false, false, false, false] (by kernel_rfl) rfl rfl ⟨(blk_cell BK193.out 0).trans rfl, (blk_cell BK193.out 1).trans rfl, (blk_cell BK193.out 2).trans rfl, (blk_cell BK193.out 3).trans rfl, (blk_cell BK193.out 4).trans rfl, (blk_cell BK193.out 5).trans rfl, (blk_cell BK193.out 6).trans rfl, (blk_cell BK193.out 7).trans rfl, (blk_cell BK193.out 8).trans rfl, (blk_cell BK193.out 9).trans rfl, (blk_cell BK193.out 10).trans rfl, (blk_cell BK193.out 11).trans rfl⟩ (fun hHeld => ?_); refine with_tabW spoorref11_Check.tab16 spoorref11_Check.bits16 (fun HT_ HW_ => ?_)
                 generalize wc.drew = w141 at BK193 BK194 HB hHeld ⊢
                 refine pure_ (i := 0) (N := some 75) (v := ?_) (a' := ?_) #[true, false, false, false, false, false, false, false] rfl rfl (any_of HT_.out (by kernel_rfl)) (fun _ _ _ h => h) (Or.inl ⟨by rfl, ?_⟩) ?_ ?_
                 rotate_left
                 · intro w'
                   go_simp
                   with_reducible rfl
                 rotate_left
                 · simp only [Act.put, List.setIfInBounds_toArray, List.set_cons_zero, List.set_cons_succ, i64_w, i32_w]
                   rfl
                 refine pure_ (i := 2) (N := some 77) (v := ?_) (a' := ?_) #[true, false, true, false, false, false, false, false] rfl rfl (any_of HT_.out (by kernel_rfl)) (fun _ _ _ h => h) (Or.inl ⟨by rfl, ?_⟩) ?_ ?_
                 rotate_left
                 · intro w'
                   go_simp
                   with_reducible rfl
                 rotate_left
                 · simp only [Act.put, List.setIfInBounds_toArray, List.set_cons_zero, List.set_cons_succ, i64_w, i32_w]
                   rfl
                 refine take_ (i := 1) (N := some 76) (v := ?_) (a' := ?_) #[true, true, true, false, false, false, false, false] rfl rfl (take_ofW HT_.out HW_.out (by kernel_rfl)) (fun _ _ _ h => h) (Or.inl ⟨by rfl, ?_⟩) hHeld ?_ ?_
                 rotate_left
                 · rintro w' ⟨s0, s1, s2, s3, s4, s5, s6, s7, s8, s9, s10, s11⟩
                   go_simp
                   with_reducible rfl
                 rotate_left
                 · simp only [Act.put, List.setIfInBounds_toArray, List.set_cons_zero, List.set_cons_succ, i64_w, i32_w]
                   rfl
                 refine pure_ (i := 4) (N := some 79) (v := ?_) (a' := ?_) #[true, true, true, false, true, false, false, false] rfl rfl (any_of HT_.out (by kernel_rfl)) (fun _ _ _ h => h) (Or.inl ⟨by rfl, ?_⟩) ?_ ?_
                 rotate_left
                 · intro w'
                   go_simp
                   with_reducible rfl
                 rotate_left
                 · simp only [Act.put, List.setIfInBounds_toArray, List.set_cons_zero, List.set_cons_succ, i64_w, i32_w]
                   rfl
                 refine take_ (i := 3) (N := some 78) (v := ?_) (a' := ?_) #[true, true, true, true, true, false, false, false] rfl rfl (take_ofW HT_.out HW_.out (by kernel_rfl)) (fun _ _ _ h => h) (Or.inl ⟨by rfl, ?_⟩) hHeld ?_ ?_
                 rotate_left
                 · rintro w' ⟨s0, s1, s2, s3, s4, s5, s6, s7, s8, s9, s10, s11⟩
                   go_simp
                   with_reducible rfl
                 rotate_left
                 · simp only [Act.put, List.setIfInBounds_toArray, List.set_cons_zero, List.set_cons_succ, i64_w, i32_w]
                   rfl
                 refine one_ (i := 5) (N := none) #[true, true, true, true, true, true, false, false] rfl rfl (one_of HT_.out (by kernel_rfl)) (by decide) (fun K hK => ?_)
                 have hs142 : w141.cell? ⟨gb194, 10, none⟩ = some (.int .i64 0) := (blk_cell BK194.out 10).trans rfl
                 have hfs142 := blk_frozen BK194.out 10
                 have hns142_0 := NB193_194.out
                 have hms142_0 := NB194_193.out
                 refine skip_ (w1 := ?_) (by rfl) rfl ?_ ?_
                 rotate_left
                 · go_simp
                   rfl
                 refine hK.out _ _ ⟨(cfx_ NB193_194.out (hHeld.1)), (cfx_ NB193_194.out (hHeld.2.1)), (cfx_ NB193_194.out (hHeld.2.2.1)), (cfx_ NB193_194.out (hHeld.2.2.2.1)), (cfx_ NB193_194.out (hHeld.2.2.2.2.1)), (cfx_ NB193_194.out (hHeld.2.2.2.2.2.1)), (cfx_ NB193_194.out (hHeld.2.2.2.2.2.2.1)), (cfx_ NB193_194.out (hHeld.2.2.2.2.2.2.2.1)), (cfx_ NB193_194.out (hHeld.2.2.2.2.2.2.2.2.1)), (cfx_ NB193_194.out (hHeld.2.2.2.2.2.2.2.2.2.1)), (cfx_ NB193_194.out (hHeld.2.2.2.2.2.2.2.2.2.2.1)), (cfx_ NB193_194.out (hHeld.2.2.2.2.2.2.2.2.2.2.2))⟩ (fun hHeld => ?_)
                 clear hK K
                 refine pure_ (i := 6) (N := some 80) (v := ?_) (a' := ?_) #[true, true, true, true, true, true, true, false] rfl rfl (any_of HT_.out (by kernel_rfl)) (fun _ _ _ h => h) (Or.inl ⟨by rfl, ?_⟩) ?_ ?_
                 rotate_left
                 · intro w'
                   go_simp
                   with_reducible rfl
                 rotate_left
                 · simp only [Act.put, List.setIfInBounds_toArray, List.set_cons_zero, List.set_cons_succ, i64_w, i32_w]
                   rfl
                 refine one_ (i := 7) (N := none) #[true, true, true, true, true, true, true, true] rfl rfl (one_of HT_.out (by kernel_rfl)) (by decide) (fun K hK => ?_)
                 have hs143 : w141.cell? ⟨gb194, 11, none⟩ = some (.int .i64 0) := (blk_cell BK194.out 11).trans rfl
                 have hfs143 := blk_frozen BK194.out 11
                 have hns143_0 := NB193_194.out
                 have hms143_0 := NB194_193.out
                 refine skip_ (w1 := ?_) (by rfl) rfl ?_ ?_
                 rotate_left
                 · go_simp
                   rfl
                 refine hK.out _ _ ⟨(cfx_ NB193_194.out (hHeld.1)), (cfx_ NB193_194.out (hHeld.2.1)), (cfx_ NB193_194.out (hHeld.2.2.1)), (cfx_ NB193_194.out (hHeld.2.2.2.1)), (cfx_ NB193_194.out (hHeld.2.2.2.2.1)), (cfx_ NB193_194.out (hHeld.2.2.2.2.2.1)), (cfx_ NB193_194.out (hHeld.2.2.2.2.2.2.1)), (cfx_ NB193_194.out (hHeld.2.2.2.2.2.2.2.1)), (cfx_ NB193_194.out (hHeld.2.2.2.2.2.2.2.2.1)), (cfx_ NB193_194.out (hHeld.2.2.2.2.2.2.2.2.2.1)), (cfx_ NB193_194.out (hHeld.2.2.2.2.2.2.2.2.2.2.1)), (cfx_ NB193_194.out (hHeld.2.2.2.2.2.2.2.2.2.2.2))⟩ (fun hHeld => ?_)
                 clear hK K
                 refine done_ (done_of HT_.out (by kernel_rfl)) ?_
                 have hnb144 := NB193_194.out
                 have hnc144 := NB194_193.out
                 obtain ⟨hcz145_0, hcz145_1, hcz145_2, hcz145_3, hcz145_4, hcz145_5, hcz145_6, hcz145_7, hcz145_8, hcz145_9, hcz145_10, hcz145_11, hfz145_0, hfz145_1, hfz145_2, hfz145_3, hfz145_4, hfz145_5, hfz145_6, hfz145_7, hfz145_8, hfz145_9, hfz145_10, hfz145_11⟩ := cz12_ BK193.out
                 try go_wp2
                 go_ret
                 exact fin_ bel_
             · rw [if_neg c108] at H
               have c108b0 : (a0_0 == 5) = false := beq_eq_false_iff_ne.mpr c108
               have c108b1 : (a0_0 != 5) = true := bne_iff_ne.mpr c108
               by_cases c146 : a0_0 = 6
               · rw [if_pos c146] at H
                 have c146b0 : (a0_0 == 6) = true := beq_iff_eq.mpr c146
                 have c146b1 : (a0_0 != 6) = false := bne_eq_false_iff_eq.mpr c146
                 clear c146
                 by_cases c147 : a0_10 ≥ 0
                 · rw [if_pos c147] at H
                   have c147b0 : decide (0 ≤ a0_10) = true := decide_eq_true c147
                   clear c147
                   by_cases c148 : a0_10 ≤ 65536
                   · rw [if_pos c148] at H
                     have c148b0 : decide (a0_10 ≤ 65536) = true := decide_eq_true c148
                     clear c148
                     by_cases c149 : (!(a0_0 == a0_0) || (!(a0_1 == a0_1) || (!(a0_2 == a0_2) || (!(a0_3 == a0_3) || ((!(false == a0_4) || ((!(0 == a0_5) || (!(0 == a0_6))) || (!(0 == a0_7)))) || ((!(0 == a0_8) || (!(0 == a0_9))) || (!(0 == a0_11)))))))) = true
                     · rw [if_pos c149] at H
                       have c149b0 : (!(a0_0 == a0_0) || (!(a0_1 == a0_1) || (!(a0_2 == a0_2) || (!(a0_3 == a0_3) || ((!(false == a0_4) || ((!(0 == a0_5) || (!(0 == a0_6))) || (!(0 == a0_7)))) || ((!(0 == a0_8) || (!(0 == a0_9))) || (!(0 == a0_11)))))))) = true := c149
                       have c149b0_s_ := c149b0
                       simp only [beq_self_eq_true, Bool.not_true, Bool.not_false, Bool.false_or, Bool.or_false, Bool.true_or, Bool.or_true, Bool.not_not, Bool.false_beq] at c149b0_s_
                       clear c149
                       obtain rfl := Option.some.inj H
                       have hnb150 := NB193_194.out
                       have hnc150 := NB194_193.out
                       obtain ⟨hcz151_0, hcz151_1, hcz151_2, hcz151_3, hcz151_4, hcz151_5, hcz151_6, hcz151_7, hcz151_8, hcz151_9, hcz151_10, hcz151_11, hfz151_0, hfz151_1, hfz151_2, hfz151_3, hfz151_4, hfz151_5, hfz151_6, hfz151_7, hfz151_8, hfz151_9, hfz151_10, hfz151_11⟩ := cz12_ BK193.out
                       obtain ⟨hcz152_0, hcz152_1, hcz152_2, hcz152_3, hcz152_4, hcz152_5, hcz152_6, hcz152_7, hcz152_8, hcz152_9, hcz152_10, hcz152_11, hfz152_0, hfz152_1, hfz152_2, hfz152_3, hfz152_4, hfz152_5, hfz152_6, hfz152_7, hfz152_8, hfz152_9, hfz152_10, hfz152_11⟩ := cz12_ BK194.out
                       go_wp2
                       go_ret
                       exact fin_ bel_
                     · rw [if_neg c149] at H
                       have c149b0 : (!(a0_0 == a0_0) || (!(a0_1 == a0_1) || (!(a0_2 == a0_2) || (!(a0_3 == a0_3) || ((!(false == a0_4) || ((!(0 == a0_5) || (!(0 == a0_6))) || (!(0 == a0_7)))) || ((!(0 == a0_8) || (!(0 == a0_9))) || (!(0 == a0_11)))))))) = false := by simpa using c149
                       have c149b0_s_ := c149b0
                       simp only [beq_self_eq_true, Bool.not_true, Bool.not_false, Bool.false_or, Bool.or_false, Bool.true_or, Bool.or_true, Bool.not_not, Bool.false_beq] at c149b0_s_
                       clear c149
                       obtain rfl := Option.some.inj H
                       have hnb153 := NB193_194.out
                       have hnc153 := NB194_193.out
                       obtain ⟨hcz154_0, hcz154_1, hcz154_2, hcz154_3, hcz154_4, hcz154_5, hcz154_6, hcz154_7, hcz154_8, hcz154_9, hcz154_10, hcz154_11, hfz154_0, hfz154_1, hfz154_2, hfz154_3, hfz154_4, hfz154_5, hfz154_6, hfz154_7, hfz154_8, hfz154_9, hfz154_10, hfz154_11⟩ := cz12_ BK193.out
                       obtain ⟨hcz155_0, hcz155_1, hcz155_2, hcz155_3, hcz155_4, hcz155_5, hcz155_6, hcz155_7, hcz155_8, hcz155_9, hcz155_10, hcz155_11, hfz155_0, hfz155_1, hfz155_2, hfz155_3, hfz155_4, hfz155_5, hfz155_6, hfz155_7, hfz155_8, hfz155_9, hfz155_10, hfz155_11⟩ := cz12_ BK194.out
                       go_wp2
                       go_ret
                       exact fin_ bel_
                   · rw [if_neg c148] at H
                     have c148b0 : decide (a0_10 ≤ 65536) = false := decide_eq_false c148
                     clear c148
                     obtain rfl := Option.some.inj H
                     have hnb156 := NB193_194.out
                     have hnc156 := NB194_193.out
                     obtain ⟨hcz157_0, hcz157_1, hcz157_2, hcz157_3, hcz157_4, hcz157_5, hcz157_6, hcz157_7, hcz157_8, hcz157_9, hcz157_10, hcz157_11, hfz157_0, hfz157_1, hfz157_2, hfz157_3, hfz157_4, hfz157_5, hfz157_6, hfz157_7, hfz157_8, hfz157_9, hfz157_10, hfz157_11⟩ := cz12_ BK193.out
                     obtain ⟨hcz158_0, hcz158_1, hcz158_2, hcz158_3, hcz158_4, hcz158_5, hcz158_6, hcz158_7, hcz158_8, hcz158_9, hcz158_10, hcz158_11, hfz158_0, hfz158_1, hfz158_2, hfz158_3, hfz158_4, hfz158_5, hfz158_6, hfz158_7, hfz158_8, hfz158_9, hfz158_10, hfz158_11⟩ := cz12_ BK194.out
                     go_wp2
                     go_ret
                     exact fin_ bel_
                 · rw [if_neg c147] at H
                   have c147b0 : decide (0 ≤ a0_10) = false := decide_eq_false c147
                   clear c147
                   obtain rfl := Option.some.inj H
                   have hnb159 := NB193_194.out
                   have hnc159 := NB194_193.out
                   obtain ⟨hcz160_0, hcz160_1, hcz160_2, hcz160_3, hcz160_4, hcz160_5, hcz160_6, hcz160_7, hcz160_8, hcz160_9, hcz160_10, hcz160_11, hfz160_0, hfz160_1, hfz160_2, hfz160_3, hfz160_4, hfz160_5, hfz160_6, hfz160_7, hfz160_8, hfz160_9, hfz160_10, hfz160_11⟩ := cz12_ BK193.out
                   obtain ⟨hcz161_0, hcz161_1, hcz161_2, hcz161_3, hcz161_4, hcz161_5, hcz161_6, hcz161_7, hcz161_8, hcz161_9, hcz161_10, hcz161_11, hfz161_0, hfz161_1, hfz161_2, hfz161_3, hfz161_4, hfz161_5, hfz161_6, hfz161_7, hfz161_8, hfz161_9, hfz161_10, hfz161_11⟩ := cz12_ BK194.out
                   go_wp2
                   go_ret
                   exact fin_ bel_
               · rw [if_neg c146] at H
                 have c146b0 : (a0_0 == 6) = false := beq_eq_false_iff_ne.mpr c146
                 have c146b1 : (a0_0 != 6) = true := bne_iff_ne.mpr c146
                 obtain rfl := Option.some.inj H
                 go_wp2
                 go_ret
                 exact fin_ bel_
end Go.Proofs.Ytdccjkeiifplnaa.P
