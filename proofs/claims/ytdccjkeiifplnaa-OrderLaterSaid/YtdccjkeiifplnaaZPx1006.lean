-- kept, by a program of this session, of a text that the printer or this session wrote
import Derived.Test.YtdccjkeiifplnaaZPx0
import Derived.Test.YtdccjkeiifplnaaZPx1014
import Derived.Test.YtdccjkeiifplnaaZPx1011
namespace Go.Proofs.Ytdccjkeiifplnaa.P
open Go.RowKit Go.Proofs.YtdccjkeiifplnaaW.PrintWords Go.Proofs.YtdccjkeiifplnaaW.PrintLast Go.Proofs.YtdccjkeiifplnaaW.PrintMore
attribute [local go_sem] max2_int min2_int max_two min_two max_three min_three max_four min_four
set_option linter.unusedVariables false
set_option linter.unusedSimpArgs false
def spoorlaw14_OrderLater.f (k : Nat) (l0 : List (S38)) (a1_0 : Int) (a1_1 : Int) (a1_2 : Int) (a1_3 : Int) (a1_4 : Bool) (a1_5 : Int) (a1_6 : Int) (a1_7 : Int) (a1_8 : Int) (a1_9 : Int) (a1_10 : Int) (a1_11 : Int) (a2 : Int) (a3 : Int) : Option (Bool) := (spoorlaw14_lives.f k).bind fun t353 => (if t353 = true then ((order_May.f k l0 a1_0 a1_1 a1_2 a1_3 a1_4 a1_5 a1_6 a1_7 a1_8 a1_9 a1_10 a1_11 a2).bind fun t354 => ((order_May.f k l0 a1_0 a1_1 a1_2 a1_3 a1_4 a1_5 a1_6 a1_7 a1_8 a1_9 a1_10 a1_11 a3).bind fun t355 => (if a3 < (-1) then (some true) else (if a2 < a3 then (some true) else (if a2 > 1099511627776 then (some true) else (if t354 = 0 then (if t355 = 0 then (if t354 = t355 then (some true) else (some (t354 == 13))) else (none)) else (if t354 = t355 then (some true) else (some (t354 == 13))))))))) else (none))
def spoorlaw14_OrderLater.T3 : Bool × List (List Nat × List Nat) := (true, [([], []), ([], []), ([], []), ([0, 1, 2], [0, 1, 2]), ([], []), ([], []), ([], []), ([4, 5, 6, 3], [4, 5, 6]), ([3, 7, 0, 1, 2, 3], [3]), ([7, 8, 0, 1, 2, 3, 4, 5, 6, 7, 8], [7])])
def spoorlaw14_OrderLater.B3 : List Nat := [0, 0, 0, 7, 0, 0, 0, 127, 255, 511]
theorem spoorlaw14_OrderLater.tab3 : rtab .any (opsOf Try.f6 3) = spoorlaw14_OrderLater.T3 := by kernel_rfl
theorem spoorlaw14_OrderLater.bits3 : waitsOk spoorlaw14_OrderLater.T3.2 spoorlaw14_OrderLater.B3 = true := by kernel_rfl
set_option maxHeartbeats 8000000 in
set_option maxRecDepth 100000 in
theorem spoorlaw14_OrderLater.calls (k : Nat) (A0 : Option Addr) (c0 : Nat) (l0 : List (S38)) (a1_0 : Int) (a1_1 : Int) (a1_2 : Int) (a1_3 : Int) (a1_4 : Bool) (a1_5 : Int) (a1_6 : Int) (a1_7 : Int) (a1_8 : Int) (a1_9 : Int) (a1_10 : Int) (a1_11 : Int) (a2 : Int) (a3 : Int) (r : Bool) (w : World) (hr0 : Kd.C k38 w A0 l0.length l0) (hc0 : l0.length ≤ c0) (h : spoorlaw14_OrderLater.f k l0 a1_0 a1_1 a1_2 a1_3 a1_4 a1_5 a1_6 a1_7 a1_8 a1_9 a1_10 a1_11 a2 a3 = some r) :
 Calls Try.prog 6 #[.slice A0 l0.length c0, .agg #[.int .u8 a1_0, .int .i64 a1_1, .int .u64 a1_2, .int .i64 a1_3, .bool a1_4, .int .u64 a1_5, .int .u64 a1_6, .int .i64 a1_7, .int .u8 a1_8, .int .i64 a1_9, .int .i64 a1_10, .int .i64 a1_11], .int .i64 a2, .int .i64 a3] w fun e w' => e = .returned (.bool r) ∧ Below w.heap.size w w' := by
 have hu33 := Try.underlying33
 have HR0 := Aside0.mk hr0
 have HC0 := Aside0.mk hc0
 clear hr0 hc0
 have HB := Aside0.mk (Below.refl w.heap.size w)
 have H : ((spoorlaw14_lives.f k).bind fun t353 => (if t353 = true then ((order_May.f k l0 a1_0 a1_1 a1_2 a1_3 a1_4 a1_5 a1_6 a1_7 a1_8 a1_9 a1_10 a1_11 a2).bind fun t354 => ((order_May.f k l0 a1_0 a1_1 a1_2 a1_3 a1_4 a1_5 a1_6 a1_7 a1_8 a1_9 a1_10 a1_11 a3).bind fun t355 => (if a3 < (-1) then (some true) else (if a2 < a3 then (some true) else (if a2 > 1099511627776 then (some true) else (if t354 = 0 then (if t355 = 0 then (if t354 = t355 then (some true) else (some (t354 == 13))) else (none)) else (if t354 = t355 then (some true) else (some (t354 == 13))))))))) else (none))) = some r := h
 clear h
 replace H := Option.bind_eq_some_iff.mp H
 obtain ⟨t353, A50, H⟩ := H
 replace H : (if t353 = true then ((order_May.f k l0 a1_0 a1_1 a1_2 a1_3 a1_4 a1_5 a1_6 a1_7 a1_8 a1_9 a1_10 a1_11 a2).bind fun t354 => ((order_May.f k l0 a1_0 a1_1 a1_2 a1_3 a1_4 a1_5 a1_6 a1_7 a1_8 a1_9 a1_10 a1_11 a3).bind fun t355 => (if a3 < (-1) then (some true) else (if a2 < a3 then (some true) else (if a2 > 1099511627776 then (some true) else (if t354 = 0 then (if t355 = 0 then (if t354 = t355 then (some true) else (some (t354 == 13))) else (none)) else (if t354 = t355 then (some true) else (some (t354 == 13))))))))) else (none)) = some r := H
 have A5 := Aside0.mk A50
 clear A50
 by_cases c6 : t353 = true
 · subst c6
   have H1 : ((order_May.f k l0 a1_0 a1_1 a1_2 a1_3 a1_4 a1_5 a1_6 a1_7 a1_8 a1_9 a1_10 a1_11 a2).bind fun t354 => ((order_May.f k l0 a1_0 a1_1 a1_2 a1_3 a1_4 a1_5 a1_6 a1_7 a1_8 a1_9 a1_10 a1_11 a3).bind fun t355 => (if a3 < (-1) then (some true) else (if a2 < a3 then (some true) else (if a2 > 1099511627776 then (some true) else (if t354 = 0 then (if t355 = 0 then (if t354 = t355 then (some true) else (some (t354 == 13))) else (none)) else (if t354 = t355 then (some true) else (some (t354 == 13))))))))) = some r := by rw [if_pos rfl] at H; exact H
   clear H
   have H := H1
   clear H1
   replace H := Option.bind_eq_some_iff.mp H
   obtain ⟨t354, A70, H⟩ := H
   replace H : ((order_May.f k l0 a1_0 a1_1 a1_2 a1_3 a1_4 a1_5 a1_6 a1_7 a1_8 a1_9 a1_10 a1_11 a3).bind fun t355 => (if a3 < (-1) then (some true) else (if a2 < a3 then (some true) else (if a2 > 1099511627776 then (some true) else (if t354 = 0 then (if t355 = 0 then (if t354 = t355 then (some true) else (some (t354 == 13))) else (none)) else (if t354 = t355 then (some true) else (some (t354 == 13)))))))) = some r := H
   have A7 := Aside0.mk A70
   clear A70
   replace H := Option.bind_eq_some_iff.mp H
   obtain ⟨t355, A80, H⟩ := H
   replace H : (if a3 < (-1) then (some true) else (if a2 < a3 then (some true) else (if a2 > 1099511627776 then (some true) else (if t354 = 0 then (if t355 = 0 then (if t354 = t355 then (some true) else (some (t354 == 13))) else (none)) else (if t354 = t355 then (some true) else (some (t354 == 13))))))) = some r := H
   have A8 := Aside0.mk A80
   clear A80
   by_cases c9 : a3 < (-1)
   · rw [if_pos c9] at H
     have c9b0 : decide (a3 < (-1)) = true := decide_eq_true c9
     clear c9
     obtain rfl := Option.some.inj H
     go_enter Try.func6, Try.ntmps6
     try go_wp2_with (first | ((with_reducible refine gate_dst (N := 5) rfl ?_); refine box_event ?hg (N := 5) ?hd (cs := #[.int .u8 a1_0, .int .i64 a1_1, .int .u64 a1_2, .int .i64 a1_3, .bool a1_4, .int .u64 a1_5, .int .u64 a1_6, .int .i64 a1_7, .int .u8 a1_8, .int .i64 a1_9, .int .i64 a1_10, .int .i64 a1_11]) (t := 33) ?hr ?_; (case hd => rfl); (case hg => rfl); (case hr => first | (go_simp; done) | (go_simp; rfl)); intro gb352 hg w10 hbox hb; have n0_ := Aside0.mk (below_step bel_ hb); have n1_ := Aside0.mk (hbox); have n2_ := Aside0.mk ((by rw [hg]; exact (below_size bel_) : w.heap.size ≤ gb352)); have n3_ := Aside0.mk ((by rw [hg]; exact (below_size bel_) : w.heap.size ≤ gb352)); clear HB; have HB := n0_; have BK352 := n1_; have GW352 := n2_; have GE352 := n3_; clear n0_ n1_ n2_ n3_; clear hb hbox hg) | ((with_reducible refine gate_callee (f := 11) rfl ?_); refine goesL_ (some 11) rfl rfl Try.func11 (by kernel_rfl) rfl #[] rfl args_ ?_; (with_reducible refine (spoorlaw14_lives.calls k  true _ A5.out).mono ?_); rintro e w11 ⟨rfl, hb⟩; refine ⟨_, rfl, ?_⟩; have n0_ := Aside0.mk (blk_below (blkU BK352.out) hb); have n1_ := Aside0.mk (below_step bel_ hb); clear BK352; clear HB; have BK352 := n0_; have HB := n1_; clear n0_ n1_; (try clear hb); (try clear hb2); (try clear hk); (try clear hi)))
     have n0_ := Aside0.mk (blk_drew BK352.out)
     have n1_ := Aside0.mk (below_drew1 HB.out)
     clear BK352; clear HB
     have BK352 := n0_
     have HB := n1_
     clear n0_ n1_
     refine start_ (n := 10) (S := fun w' => w'.cell? ⟨gb352, 0, none⟩ = some (.int .u8 a1_0) ∧ w'.cell? ⟨gb352, 1, none⟩ = some (.int .i64 a1_1) ∧ w'.cell? ⟨gb352, 2, none⟩ = some (.int .u64 a1_2) ∧ w'.cell? ⟨gb352, 3, none⟩ = some (.int .i64 a1_3) ∧ w'.cell? ⟨gb352, 4, none⟩ = some (.bool a1_4) ∧ w'.cell? ⟨gb352, 5, none⟩ = some (.int .u64 a1_5) ∧ w'.cell? ⟨gb352, 6, none⟩ = some (.int .u64 a1_6) ∧ w'.cell? ⟨gb352, 7, none⟩ = some (.int .i64 a1_7) ∧ w'.cell? ⟨gb352, 8, none⟩ = some (.int .u8 a1_8) ∧ w'.cell? ⟨gb352, 9, none⟩ = some (.int .i64 a1_9) ∧ w'.cell? ⟨gb352, 10, none⟩ = some (.int .i64 a1_10) ∧ w'.cell? ⟨gb352, 11, none⟩ = some (.int .i64 a1_11)) (ds := []) #[false, false, false, false, false, false, false, false, false, false] (by kernel_rfl) rfl rfl ⟨(blk_cell BK352.out 0).trans rfl, (blk_cell BK352.out 1).trans rfl, (blk_cell BK352.out 2).trans rfl, (blk_cell BK352.out 3).trans rfl, (blk_cell BK352.out 4).trans rfl, (blk_cell BK352.out 5).trans rfl, (blk_cell BK352.out 6).trans rfl, (blk_cell BK352.out 7).trans rfl, (blk_cell BK352.out 8).trans rfl, (blk_cell BK352.out 9).trans rfl, (blk_cell BK352.out 10).trans rfl, (blk_cell BK352.out 11).trans rfl⟩ (fun hHeld => ?_); refine with_tabW spoorlaw14_OrderLater.tab3 spoorlaw14_OrderLater.bits3 (fun HT_ HW_ => ?_)
     generalize w11.drew = w12 at BK352 HB hHeld ⊢
     refine pure_ (i := 0) (N := some 13) (v := ?_) (a' := ?_) #[true, false, false, false, false, false, false, false, false, false] rfl rfl (any_of HT_.out (by kernel_rfl)) (fun _ _ _ h => h) (Or.inl ⟨by rfl, ?_⟩) ?_ ?_
     rotate_left
     · intro w'
       go_simp
       with_reducible rfl
     rotate_left
     · simp only [Act.put, List.setIfInBounds_toArray, List.set_cons_zero, List.set_cons_succ, i64_w, i32_w]
       rfl
     refine pure_ (i := 2) (N := some 15) (v := ?_) (a' := ?_) #[true, false, true, false, false, false, false, false, false, false] rfl rfl (any_of HT_.out (by kernel_rfl)) (fun _ _ _ h => h) (Or.inl ⟨by rfl, ?_⟩) ?_ ?_
     rotate_left
     · intro w'
       go_simp
       with_reducible rfl
     rotate_left
     · simp only [Act.put, List.setIfInBounds_toArray, List.set_cons_zero, List.set_cons_succ, i64_w, i32_w]
       rfl
     refine pure_ (i := 4) (N := some 17) (v := ?_) (a' := ?_) #[true, false, true, false, true, false, false, false, false, false] rfl rfl (any_of HT_.out (by kernel_rfl)) (fun _ _ _ h => h) (Or.inl ⟨by rfl, ?_⟩) ?_ ?_
     rotate_left
     · intro w'
       go_simp
       with_reducible rfl
     rotate_left
     · simp only [Act.put, List.setIfInBounds_toArray, List.set_cons_zero, List.set_cons_succ, i64_w, i32_w]
       rfl
     refine pure_ (i := 6) (N := some 19) (v := ?_) (a' := ?_) #[true, false, true, false, true, false, true, false, false, false] rfl rfl (any_of HT_.out (by kernel_rfl)) (fun _ _ _ h => h) (Or.inl ⟨by rfl, ?_⟩) ?_ ?_
     rotate_left
     · intro w'
       go_simp
       with_reducible rfl
     rotate_left
     · simp only [Act.put, List.setIfInBounds_toArray, List.set_cons_zero, List.set_cons_succ, i64_w, i32_w]
       rfl
     refine take_ (i := 1) (N := some 14) (v := ?_) (a' := ?_) #[true, true, true, false, true, false, true, false, false, false] rfl rfl (take_ofW HT_.out HW_.out (by kernel_rfl)) (fun _ _ _ h => h) (Or.inl ⟨by rfl, ?_⟩) hHeld ?_ ?_
     rotate_left
     · rintro w' ⟨s0, s1, s2, s3, s4, s5, s6, s7, s8, s9, s10, s11⟩
       go_simp
       with_reducible rfl
     rotate_left
     · simp only [Act.put, List.setIfInBounds_toArray, List.set_cons_zero, List.set_cons_succ, i64_w, i32_w]
       rfl
     refine take_ (i := 5) (N := some 18) (v := ?_) (a' := ?_) #[true, true, true, false, true, true, true, false, false, false] rfl rfl (take_ofW HT_.out HW_.out (by kernel_rfl)) (fun _ _ _ h => h) (Or.inl ⟨by rfl, ?_⟩) hHeld ?_ ?_
     rotate_left
     · rintro w' ⟨s0, s1, s2, s3, s4, s5, s6, s7, s8, s9, s10, s11⟩
       go_simp
       with_reducible rfl
     rotate_left
     · simp only [Act.put, List.setIfInBounds_toArray, List.set_cons_zero, List.set_cons_succ, i64_w, i32_w]
       rfl
     refine one_ (i := 3) (N := some 16) #[true, true, true, true, true, true, true, false, false, false] rfl rfl (one_of HT_.out (by kernel_rfl)) (by decide) (fun K hK => ?_)
     refine goes_ Try.func14 (by kernel_rfl) rfl #[.slice A0 l0.length c0, .agg #[.int .u8 a1_0, .int .i64 a1_1, .int .u64 a1_2, .int .i64 a1_3, .bool a1_4, .int .u64 a1_5, .int .u64 a1_6, .int .i64 a1_7, .int .u8 a1_8, .int .i64 a1_9, .int .i64 a1_10, .int .i64 a1_11], .int .i64 a2] (by rfl) rfl rfl args_ ?_
     with_reducible refine (order_May.calls k _ _ l0 a1_0 a1_1 a1_2 a1_3 a1_4 a1_5 a1_6 a1_7 a1_8 a1_9 a1_10 a1_11 a2 t354 _ ?side1 ?side2 A7.out).mono ?_
     (case side1 => exact CU (Kd.C_below HR0.out HB.out))
     (case side2 => exact HC0.out)
     rintro e w13 ⟨rfl, hb⟩
     refine ⟨_, rfl, ?_⟩
     have n0_ := Aside0.mk (blk_below (blkU BK352.out) hb)
     have n1_ := Aside0.mk (below_step bel_ hb)
     clear BK352; clear HB
     have BK352 := n0_
     have HB := n1_
     clear n0_ n1_
     (try clear hb)
     (try clear hb2)
     (try clear hk)
     (try clear hi)
     refine hK.out _ _ ⟨(blk_cell BK352.out 0).trans rfl, (blk_cell BK352.out 1).trans rfl, (blk_cell BK352.out 2).trans rfl, (blk_cell BK352.out 3).trans rfl, (blk_cell BK352.out 4).trans rfl, (blk_cell BK352.out 5).trans rfl, (blk_cell BK352.out 6).trans rfl, (blk_cell BK352.out 7).trans rfl, (blk_cell BK352.out 8).trans rfl, (blk_cell BK352.out 9).trans rfl, (blk_cell BK352.out 10).trans rfl, (blk_cell BK352.out 11).trans rfl⟩ (fun hHeld => ?_)
     clear hK K
     refine norm_ (a' := ?_) ?_ ?_
     rotate_left
     · show Act.put _ (some 16) _ = _
       simp only [Act.put, List.setIfInBounds_toArray, List.set_cons_zero, List.set_cons_succ, i64_w, i32_w]
       rfl
     refine one_ (i := 7) (N := some 20) #[true, true, true, true, true, true, true, true, false, false] rfl rfl (one_of HT_.out (by kernel_rfl)) (by decide) (fun K hK => ?_)
     refine goes_ Try.func14 (by kernel_rfl) rfl #[.slice A0 l0.length c0, .agg #[.int .u8 a1_0, .int .i64 a1_1, .int .u64 a1_2, .int .i64 a1_3, .bool a1_4, .int .u64 a1_5, .int .u64 a1_6, .int .i64 a1_7, .int .u8 a1_8, .int .i64 a1_9, .int .i64 a1_10, .int .i64 a1_11], .int .i64 a3] (by rfl) rfl rfl args_ ?_
     with_reducible refine (order_May.calls k _ _ l0 a1_0 a1_1 a1_2 a1_3 a1_4 a1_5 a1_6 a1_7 a1_8 a1_9 a1_10 a1_11 a3 t355 _ ?side1 ?side2 A8.out).mono ?_
     (case side1 => exact CU (Kd.C_below HR0.out HB.out))
     (case side2 => exact HC0.out)
     rintro e w14 ⟨rfl, hb⟩
     refine ⟨_, rfl, ?_⟩
     have n0_ := Aside0.mk (blk_below (blkU BK352.out) hb)
     have n1_ := Aside0.mk (below_step bel_ hb)
     clear BK352; clear HB
     have BK352 := n0_
     have HB := n1_
     clear n0_ n1_
     (try clear hb)
     (try clear hb2)
     (try clear hk)
     (try clear hi)
     refine hK.out _ _ ⟨(blk_cell BK352.out 0).trans rfl, (blk_cell BK352.out 1).trans rfl, (blk_cell BK352.out 2).trans rfl, (blk_cell BK352.out 3).trans rfl, (blk_cell BK352.out 4).trans rfl, (blk_cell BK352.out 5).trans rfl, (blk_cell BK352.out 6).trans rfl, (blk_cell BK352.out 7).trans rfl, (blk_cell BK352.out 8).trans rfl, (blk_cell BK352.out 9).trans rfl, (blk_cell BK352.out 10).trans rfl, (blk_cell BK352.out 11).trans rfl⟩ (fun hHeld => ?_)
     clear hK K
     refine norm_ (a' := ?_) ?_ ?_
     rotate_left
     · show Act.put _ (some 20) _ = _
       simp only [Act.put, List.setIfInBounds_toArray, List.set_cons_zero, List.set_cons_succ, i64_w, i32_w]
       rfl
     refine pure_ (i := 8) (N := some 9) (v := ?_) (a' := ?_) #[true, true, true, true, true, true, true, true, true, false] rfl rfl (any_of HT_.out (by kernel_rfl)) (fun _ _ _ h => h) (Or.inl ⟨by rfl, ?_⟩) ?_ ?_
     rotate_left
     · intro w'
       go_simp
       with_reducible rfl
     rotate_left
     · simp only [Act.put, List.setIfInBounds_toArray, List.set_cons_zero, List.set_cons_succ, i64_w, i32_w]
       rfl
     refine pure_ (i := 9) (N := some 10) (v := ?_) (a' := ?_) #[true, true, true, true, true, true, true, true, true, true] rfl rfl (any_of HT_.out (by kernel_rfl)) (fun _ _ _ h => h) (Or.inl ⟨by rfl, ?_⟩) ?_ ?_
     rotate_left
     · intro w'
       go_simp
       with_reducible rfl
     rotate_left
     · simp only [Act.put, List.setIfInBounds_toArray, List.set_cons_zero, List.set_cons_succ, i64_w, i32_w]
       rfl
     refine done_ (done_of HT_.out (by kernel_rfl)) ?_
     try go_wp2
     go_ret
     exact ⟨by first | rfl | (simp [errW_none, errW_some] <;> rfl) | (simp [*, errW_none, errW_some] <;> rfl), bel_⟩
   · rw [if_neg c9] at H
     have c9b0 : decide (a3 < (-1)) = false := decide_eq_false c9
     clear c9
     by_cases c15 : a2 < a3
     · rw [if_pos c15] at H
       have c15b0 : decide (a2 < a3) = true := decide_eq_true c15
       clear c15
       obtain rfl := Option.some.inj H
       go_enter Try.func6, Try.ntmps6
       try go_wp2_with (first | ((with_reducible refine gate_dst (N := 5) rfl ?_); refine box_event ?hg (N := 5) ?hd (cs := #[.int .u8 a1_0, .int .i64 a1_1, .int .u64 a1_2, .int .i64 a1_3, .bool a1_4, .int .u64 a1_5, .int .u64 a1_6, .int .i64 a1_7, .int .u8 a1_8, .int .i64 a1_9, .int .i64 a1_10, .int .i64 a1_11]) (t := 33) ?hr ?_; (case hd => rfl); (case hg => rfl); (case hr => first | (go_simp; done) | (go_simp; rfl)); intro gb352 hg w16 hbox hb; have n0_ := Aside0.mk (below_step bel_ hb); have n1_ := Aside0.mk (hbox); have n2_ := Aside0.mk ((by rw [hg]; exact (below_size bel_) : w.heap.size ≤ gb352)); have n3_ := Aside0.mk ((by rw [hg]; exact (below_size bel_) : w.heap.size ≤ gb352)); clear HB; have HB := n0_; have BK352 := n1_; have GW352 := n2_; have GE352 := n3_; clear n0_ n1_ n2_ n3_; clear hb hbox hg) | ((with_reducible refine gate_callee (f := 11) rfl ?_); refine goesL_ (some 11) rfl rfl Try.func11 (by kernel_rfl) rfl #[] rfl args_ ?_; (with_reducible refine (spoorlaw14_lives.calls k  true _ A5.out).mono ?_); rintro e w17 ⟨rfl, hb⟩; refine ⟨_, rfl, ?_⟩; have n0_ := Aside0.mk (blk_below (blkU BK352.out) hb); have n1_ := Aside0.mk (below_step bel_ hb); clear BK352; clear HB; have BK352 := n0_; have HB := n1_; clear n0_ n1_; (try clear hb); (try clear hb2); (try clear hk); (try clear hi)))
       have n0_ := Aside0.mk (blk_drew BK352.out)
       have n1_ := Aside0.mk (below_drew1 HB.out)
       clear BK352; clear HB
       have BK352 := n0_
       have HB := n1_
       clear n0_ n1_
       refine start_ (n := 10) (S := fun w' => w'.cell? ⟨gb352, 0, none⟩ = some (.int .u8 a1_0) ∧ w'.cell? ⟨gb352, 1, none⟩ = some (.int .i64 a1_1) ∧ w'.cell? ⟨gb352, 2, none⟩ = some (.int .u64 a1_2) ∧ w'.cell? ⟨gb352, 3, none⟩ = some (.int .i64 a1_3) ∧ w'.cell? ⟨gb352, 4, none⟩ = some (.bool a1_4) ∧ w'.cell? ⟨gb352, 5, none⟩ = some (.int .u64 a1_5) ∧ w'.cell? ⟨gb352, 6, none⟩ = some (.int .u64 a1_6) ∧ w'.cell? ⟨gb352, 7, none⟩ = some (.int .i64 a1_7) ∧ w'.cell? ⟨gb352, 8, none⟩ = some (.int .u8 a1_8) ∧ w'.cell? ⟨gb352, 9, none⟩ = some (.int .i64 a1_9) ∧ w'.cell? ⟨gb352, 10, none⟩ = some (.int .i64 a1_10) ∧ w'.cell? ⟨gb352, 11, none⟩ = some (.int .i64 a1_11)) (ds := []) #[false, false, false, false, false, false, false, false, false, false] (by kernel_rfl) rfl rfl ⟨(blk_cell BK352.out 0).trans rfl, (blk_cell BK352.out 1).trans rfl, (blk_cell BK352.out 2).trans rfl, (blk_cell BK352.out 3).trans rfl, (blk_cell BK352.out 4).trans rfl, (blk_cell BK352.out 5).trans rfl, (blk_cell BK352.out 6).trans rfl, (blk_cell BK352.out 7).trans rfl, (blk_cell BK352.out 8).trans rfl, (blk_cell BK352.out 9).trans rfl, (blk_cell BK352.out 10).trans rfl, (blk_cell BK352.out 11).trans rfl⟩ (fun hHeld => ?_); refine with_tabW spoorlaw14_OrderLater.tab3 spoorlaw14_OrderLater.bits3 (fun HT_ HW_ => ?_)
       generalize w17.drew = w18 at BK352 HB hHeld ⊢
       refine pure_ (i := 0) (N := some 13) (v := ?_) (a' := ?_) #[true, false, false, false, false, false, false, false, false, false] rfl rfl (any_of HT_.out (by kernel_rfl)) (fun _ _ _ h => h) (Or.inl ⟨by rfl, ?_⟩) ?_ ?_
       rotate_left
       · intro w'
         go_simp
         with_reducible rfl
       rotate_left
       · simp only [Act.put, List.setIfInBounds_toArray, List.set_cons_zero, List.set_cons_succ, i64_w, i32_w]
         rfl
       refine pure_ (i := 2) (N := some 15) (v := ?_) (a' := ?_) #[true, false, true, false, false, false, false, false, false, false] rfl rfl (any_of HT_.out (by kernel_rfl)) (fun _ _ _ h => h) (Or.inl ⟨by rfl, ?_⟩) ?_ ?_
       rotate_left
       · intro w'
         go_simp
         with_reducible rfl
       rotate_left
       · simp only [Act.put, List.setIfInBounds_toArray, List.set_cons_zero, List.set_cons_succ, i64_w, i32_w]
         rfl
       refine pure_ (i := 4) (N := some 17) (v := ?_) (a' := ?_) #[true, false, true, false, true, false, false, false, false, false] rfl rfl (any_of HT_.out (by kernel_rfl)) (fun _ _ _ h => h) (Or.inl ⟨by rfl, ?_⟩) ?_ ?_
       rotate_left
       · intro w'
         go_simp
         with_reducible rfl
       rotate_left
       · simp only [Act.put, List.setIfInBounds_toArray, List.set_cons_zero, List.set_cons_succ, i64_w, i32_w]
         rfl
       refine pure_ (i := 6) (N := some 19) (v := ?_) (a' := ?_) #[true, false, true, false, true, false, true, false, false, false] rfl rfl (any_of HT_.out (by kernel_rfl)) (fun _ _ _ h => h) (Or.inl ⟨by rfl, ?_⟩) ?_ ?_
       rotate_left
       · intro w'
         go_simp
         with_reducible rfl
       rotate_left
       · simp only [Act.put, List.setIfInBounds_toArray, List.set_cons_zero, List.set_cons_succ, i64_w, i32_w]
         rfl
       refine take_ (i := 1) (N := some 14) (v := ?_) (a' := ?_) #[true, true, true, false, true, false, true, false, false, false] rfl rfl (take_ofW HT_.out HW_.out (by kernel_rfl)) (fun _ _ _ h => h) (Or.inl ⟨by rfl, ?_⟩) hHeld ?_ ?_
       rotate_left
       · rintro w' ⟨s0, s1, s2, s3, s4, s5, s6, s7, s8, s9, s10, s11⟩
         go_simp
         with_reducible rfl
       rotate_left
       · simp only [Act.put, List.setIfInBounds_toArray, List.set_cons_zero, List.set_cons_succ, i64_w, i32_w]
         rfl
       refine take_ (i := 5) (N := some 18) (v := ?_) (a' := ?_) #[true, true, true, false, true, true, true, false, false, false] rfl rfl (take_ofW HT_.out HW_.out (by kernel_rfl)) (fun _ _ _ h => h) (Or.inl ⟨by rfl, ?_⟩) hHeld ?_ ?_
       rotate_left
       · rintro w' ⟨s0, s1, s2, s3, s4, s5, s6, s7, s8, s9, s10, s11⟩
         go_simp
         with_reducible rfl
       rotate_left
       · simp only [Act.put, List.setIfInBounds_toArray, List.set_cons_zero, List.set_cons_succ, i64_w, i32_w]
         rfl
       refine one_ (i := 3) (N := some 16) #[true, true, true, true, true, true, true, false, false, false] rfl rfl (one_of HT_.out (by kernel_rfl)) (by decide) (fun K hK => ?_)
       refine goes_ Try.func14 (by kernel_rfl) rfl #[.slice A0 l0.length c0, .agg #[.int .u8 a1_0, .int .i64 a1_1, .int .u64 a1_2, .int .i64 a1_3, .bool a1_4, .int .u64 a1_5, .int .u64 a1_6, .int .i64 a1_7, .int .u8 a1_8, .int .i64 a1_9, .int .i64 a1_10, .int .i64 a1_11], .int .i64 a2] (by rfl) rfl rfl args_ ?_
       with_reducible refine (order_May.calls k _ _ l0 a1_0 a1_1 a1_2 a1_3 a1_4 a1_5 a1_6 a1_7 a1_8 a1_9 a1_10 a1_11 a2 t354 _ ?side1 ?side2 A7.out).mono ?_
       (case side1 => exact CU (Kd.C_below HR0.out HB.out))
       (case side2 => exact HC0.out)
       rintro e w19 ⟨rfl, hb⟩
       refine ⟨_, rfl, ?_⟩
       have n0_ := Aside0.mk (blk_below (blkU BK352.out) hb)
       have n1_ := Aside0.mk (below_step bel_ hb)
       clear BK352; clear HB
       have BK352 := n0_
       have HB := n1_
       clear n0_ n1_
       (try clear hb)
       (try clear hb2)
       (try clear hk)
       (try clear hi)
       refine hK.out _ _ ⟨(blk_cell BK352.out 0).trans rfl, (blk_cell BK352.out 1).trans rfl, (blk_cell BK352.out 2).trans rfl, (blk_cell BK352.out 3).trans rfl, (blk_cell BK352.out 4).trans rfl, (blk_cell BK352.out 5).trans rfl, (blk_cell BK352.out 6).trans rfl, (blk_cell BK352.out 7).trans rfl, (blk_cell BK352.out 8).trans rfl, (blk_cell BK352.out 9).trans rfl, (blk_cell BK352.out 10).trans rfl, (blk_cell BK352.out 11).trans rfl⟩ (fun hHeld => ?_)
       clear hK K
       refine norm_ (a' := ?_) ?_ ?_
       rotate_left
       · show Act.put _ (some 16) _ = _
         simp only [Act.put, List.setIfInBounds_toArray, List.set_cons_zero, List.set_cons_succ, i64_w, i32_w]
         rfl
       refine one_ (i := 7) (N := some 20) #[true, true, true, true, true, true, true, true, false, false] rfl rfl (one_of HT_.out (by kernel_rfl)) (by decide) (fun K hK => ?_)
       refine goes_ Try.func14 (by kernel_rfl) rfl #[.slice A0 l0.length c0, .agg #[.int .u8 a1_0, .int .i64 a1_1, .int .u64 a1_2, .int .i64 a1_3, .bool a1_4, .int .u64 a1_5, .int .u64 a1_6, .int .i64 a1_7, .int .u8 a1_8, .int .i64 a1_9, .int .i64 a1_10, .int .i64 a1_11], .int .i64 a3] (by rfl) rfl rfl args_ ?_
       with_reducible refine (order_May.calls k _ _ l0 a1_0 a1_1 a1_2 a1_3 a1_4 a1_5 a1_6 a1_7 a1_8 a1_9 a1_10 a1_11 a3 t355 _ ?side1 ?side2 A8.out).mono ?_
       (case side1 => exact CU (Kd.C_below HR0.out HB.out))
       (case side2 => exact HC0.out)
       rintro e w20 ⟨rfl, hb⟩
       refine ⟨_, rfl, ?_⟩
       have n0_ := Aside0.mk (blk_below (blkU BK352.out) hb)
       have n1_ := Aside0.mk (below_step bel_ hb)
       clear BK352; clear HB
       have BK352 := n0_
       have HB := n1_
       clear n0_ n1_
       (try clear hb)
       (try clear hb2)
       (try clear hk)
       (try clear hi)
       refine hK.out _ _ ⟨(blk_cell BK352.out 0).trans rfl, (blk_cell BK352.out 1).trans rfl, (blk_cell BK352.out 2).trans rfl, (blk_cell BK352.out 3).trans rfl, (blk_cell BK352.out 4).trans rfl, (blk_cell BK352.out 5).trans rfl, (blk_cell BK352.out 6).trans rfl, (blk_cell BK352.out 7).trans rfl, (blk_cell BK352.out 8).trans rfl, (blk_cell BK352.out 9).trans rfl, (blk_cell BK352.out 10).trans rfl, (blk_cell BK352.out 11).trans rfl⟩ (fun hHeld => ?_)
       clear hK K
       refine norm_ (a' := ?_) ?_ ?_
       rotate_left
       · show Act.put _ (some 20) _ = _
         simp only [Act.put, List.setIfInBounds_toArray, List.set_cons_zero, List.set_cons_succ, i64_w, i32_w]
         rfl
       refine pure_ (i := 8) (N := some 9) (v := ?_) (a' := ?_) #[true, true, true, true, true, true, true, true, true, false] rfl rfl (any_of HT_.out (by kernel_rfl)) (fun _ _ _ h => h) (Or.inl ⟨by rfl, ?_⟩) ?_ ?_
       rotate_left
       · intro w'
         go_simp
         with_reducible rfl
       rotate_left
       · simp only [Act.put, List.setIfInBounds_toArray, List.set_cons_zero, List.set_cons_succ, i64_w, i32_w]
         rfl
       refine pure_ (i := 9) (N := some 10) (v := ?_) (a' := ?_) #[true, true, true, true, true, true, true, true, true, true] rfl rfl (any_of HT_.out (by kernel_rfl)) (fun _ _ _ h => h) (Or.inl ⟨by rfl, ?_⟩) ?_ ?_
       rotate_left
       · intro w'
         go_simp
         with_reducible rfl
       rotate_left
       · simp only [Act.put, List.setIfInBounds_toArray, List.set_cons_zero, List.set_cons_succ, i64_w, i32_w]
         rfl
       refine done_ (done_of HT_.out (by kernel_rfl)) ?_
       try go_wp2
       go_ret
       exact ⟨by first | rfl | (simp [errW_none, errW_some] <;> rfl) | (simp [*, errW_none, errW_some] <;> rfl), bel_⟩
     · rw [if_neg c15] at H
       have c15b0 : decide (a2 < a3) = false := decide_eq_false c15
       clear c15
       by_cases c21 : a2 > 1099511627776
       · rw [if_pos c21] at H
         have c21b0 : decide (1099511627776 < a2) = true := decide_eq_true c21
         clear c21
         obtain rfl := Option.some.inj H
         go_enter Try.func6, Try.ntmps6
         try go_wp2_with (first | ((with_reducible refine gate_dst (N := 5) rfl ?_); refine box_event ?hg (N := 5) ?hd (cs := #[.int .u8 a1_0, .int .i64 a1_1, .int .u64 a1_2, .int .i64 a1_3, .bool a1_4, .int .u64 a1_5, .int .u64 a1_6, .int .i64 a1_7, .int .u8 a1_8, .int .i64 a1_9, .int .i64 a1_10, .int .i64 a1_11]) (t := 33) ?hr ?_; (case hd => rfl); (case hg => rfl); (case hr => first | (go_simp; done) | (go_simp; rfl)); intro gb352 hg w22 hbox hb; have n0_ := Aside0.mk (below_step bel_ hb); have n1_ := Aside0.mk (hbox); have n2_ := Aside0.mk ((by rw [hg]; exact (below_size bel_) : w.heap.size ≤ gb352)); have n3_ := Aside0.mk ((by rw [hg]; exact (below_size bel_) : w.heap.size ≤ gb352)); clear HB; have HB := n0_; have BK352 := n1_; have GW352 := n2_; have GE352 := n3_; clear n0_ n1_ n2_ n3_; clear hb hbox hg) | ((with_reducible refine gate_callee (f := 11) rfl ?_); refine goesL_ (some 11) rfl rfl Try.func11 (by kernel_rfl) rfl #[] rfl args_ ?_; (with_reducible refine (spoorlaw14_lives.calls k  true _ A5.out).mono ?_); rintro e w23 ⟨rfl, hb⟩; refine ⟨_, rfl, ?_⟩; have n0_ := Aside0.mk (blk_below (blkU BK352.out) hb); have n1_ := Aside0.mk (below_step bel_ hb); clear BK352; clear HB; have BK352 := n0_; have HB := n1_; clear n0_ n1_; (try clear hb); (try clear hb2); (try clear hk); (try clear hi)))
         have n0_ := Aside0.mk (blk_drew BK352.out)
         have n1_ := Aside0.mk (below_drew1 HB.out)
         clear BK352; clear HB
         have BK352 := n0_
         have HB := n1_
         clear n0_ n1_
         refine start_ (n := 10) (S := fun w' => w'.cell? ⟨gb352, 0, none⟩ = some (.int .u8 a1_0) ∧ w'.cell? ⟨gb352, 1, none⟩ = some (.int .i64 a1_1) ∧ w'.cell? ⟨gb352, 2, none⟩ = some (.int .u64 a1_2) ∧ w'.cell? ⟨gb352, 3, none⟩ = some (.int .i64 a1_3) ∧ w'.cell? ⟨gb352, 4, none⟩ = some (.bool a1_4) ∧ w'.cell? ⟨gb352, 5, none⟩ = some (.int .u64 a1_5) ∧ w'.cell? ⟨gb352, 6, none⟩ = some (.int .u64 a1_6) ∧ w'.cell? ⟨gb352, 7, none⟩ = some (.int .i64 a1_7) ∧ w'.cell? ⟨gb352, 8, none⟩ = some (.int .u8 a1_8) ∧ w'.cell? ⟨gb352, 9, none⟩ = some (.int .i64 a1_9) ∧ w'.cell? ⟨gb352, 10, none⟩ = some (.int .i64 a1_10) ∧ w'.cell? ⟨gb352, 11, none⟩ = some (.int .i64 a1_11)) (ds := []) #[false, false, false, false, false, false, false, false, false, false] (by kernel_rfl) rfl rfl ⟨(blk_cell BK352.out 0).trans rfl, (blk_cell BK352.out 1).trans rfl, (blk_cell BK352.out 2).trans rfl, (blk_cell BK352.out 3).trans rfl, (blk_cell BK352.out 4).trans rfl, (blk_cell BK352.out 5).trans rfl, (blk_cell BK352.out 6).trans rfl, (blk_cell BK352.out 7).trans rfl, (blk_cell BK352.out 8).trans rfl, (blk_cell BK352.out 9).trans rfl, (blk_cell BK352.out 10).trans rfl, (blk_cell BK352.out 11).trans rfl⟩ (fun hHeld => ?_); refine with_tabW spoorlaw14_OrderLater.tab3 spoorlaw14_OrderLater.bits3 (fun HT_ HW_ => ?_)
         generalize w23.drew = w24 at BK352 HB hHeld ⊢
         refine pure_ (i := 0) (N := some 13) (v := ?_) (a' := ?_) #[true, false, false, false, false, false, false, false, false, false] rfl rfl (any_of HT_.out (by kernel_rfl)) (fun _ _ _ h => h) (Or.inl ⟨by rfl, ?_⟩) ?_ ?_
         rotate_left
         · intro w'
           go_simp
           with_reducible rfl
         rotate_left
         · simp only [Act.put, List.setIfInBounds_toArray, List.set_cons_zero, List.set_cons_succ, i64_w, i32_w]
           rfl
         refine pure_ (i := 2) (N := some 15) (v := ?_) (a' := ?_) #[true, false, true, false, false, false, false, false, false, false] rfl rfl (any_of HT_.out (by kernel_rfl)) (fun _ _ _ h => h) (Or.inl ⟨by rfl, ?_⟩) ?_ ?_
         rotate_left
         · intro w'
           go_simp
           with_reducible rfl
         rotate_left
         · simp only [Act.put, List.setIfInBounds_toArray, List.set_cons_zero, List.set_cons_succ, i64_w, i32_w]
           rfl
         refine pure_ (i := 4) (N := some 17) (v := ?_) (a' := ?_) #[true, false, true, false, true, false, false, false, false, false] rfl rfl (any_of HT_.out (by kernel_rfl)) (fun _ _ _ h => h) (Or.inl ⟨by rfl, ?_⟩) ?_ ?_
         rotate_left
         · intro w'
           go_simp
           with_reducible rfl
         rotate_left
         · simp only [Act.put, List.setIfInBounds_toArray, List.set_cons_zero, List.set_cons_succ, i64_w, i32_w]
           rfl
         refine pure_ (i := 6) (N := some 19) (v := ?_) (a' := ?_) #[true, false, true, false, true, false, true, false, false, false] rfl rfl (any_of HT_.out (by kernel_rfl)) (fun _ _ _ h => h) (Or.inl ⟨by rfl, ?_⟩) ?_ ?_
         rotate_left
         · intro w'
           go_simp
           with_reducible rfl
         rotate_left
         · simp only [Act.put, List.setIfInBounds_toArray, List.set_cons_zero, List.set_cons_succ, i64_w, i32_w]
           rfl
         refine take_ (i := 1) (N := some 14) (v := ?_) (a' := ?_) #[true, true, true, false, true, false, true, false, false, false] rfl rfl (take_ofW HT_.out HW_.out (by kernel_rfl)) (fun _ _ _ h => h) (Or.inl ⟨by rfl, ?_⟩) hHeld ?_ ?_
         rotate_left
         · rintro w' ⟨s0, s1, s2, s3, s4, s5, s6, s7, s8, s9, s10, s11⟩
           go_simp
           with_reducible rfl
         rotate_left
         · simp only [Act.put, List.setIfInBounds_toArray, List.set_cons_zero, List.set_cons_succ, i64_w, i32_w]
           rfl
         refine take_ (i := 5) (N := some 18) (v := ?_) (a' := ?_) #[true, true, true, false, true, true, true, false, false, false] rfl rfl (take_ofW HT_.out HW_.out (by kernel_rfl)) (fun _ _ _ h => h) (Or.inl ⟨by rfl, ?_⟩) hHeld ?_ ?_
         rotate_left
         · rintro w' ⟨s0, s1, s2, s3, s4, s5, s6, s7, s8, s9, s10, s11⟩
           go_simp
           with_reducible rfl
         rotate_left
         · simp only [Act.put, List.setIfInBounds_toArray, List.set_cons_zero, List.set_cons_succ, i64_w, i32_w]
           rfl
         refine one_ (i := 3) (N := some 16) #[true, true, true, true, true, true, true, false, false, false] rfl rfl (one_of HT_.out (by kernel_rfl)) (by decide) (fun K hK => ?_)
         refine goes_ Try.func14 (by kernel_rfl) rfl #[.slice A0 l0.length c0, .agg #[.int .u8 a1_0, .int .i64 a1_1, .int .u64 a1_2, .int .i64 a1_3, .bool a1_4, .int .u64 a1_5, .int .u64 a1_6, .int .i64 a1_7, .int .u8 a1_8, .int .i64 a1_9, .int .i64 a1_10, .int .i64 a1_11], .int .i64 a2] (by rfl) rfl rfl args_ ?_
         with_reducible refine (order_May.calls k _ _ l0 a1_0 a1_1 a1_2 a1_3 a1_4 a1_5 a1_6 a1_7 a1_8 a1_9 a1_10 a1_11 a2 t354 _ ?side1 ?side2 A7.out).mono ?_
         (case side1 => exact CU (Kd.C_below HR0.out HB.out))
         (case side2 => exact HC0.out)
         rintro e w25 ⟨rfl, hb⟩
         refine ⟨_, rfl, ?_⟩
         have n0_ := Aside0.mk (blk_below (blkU BK352.out) hb)
         have n1_ := Aside0.mk (below_step bel_ hb)
         clear BK352; clear HB
         have BK352 := n0_
         have HB := n1_
         clear n0_ n1_
         (try clear hb)
         (try clear hb2)
         (try clear hk)
         (try clear hi)
         refine hK.out _ _ ⟨(blk_cell BK352.out 0).trans rfl, (blk_cell BK352.out 1).trans rfl, (blk_cell BK352.out 2).trans rfl, (blk_cell BK352.out 3).trans rfl, (blk_cell BK352.out 4).trans rfl, (blk_cell BK352.out 5).trans rfl, (blk_cell BK352.out 6).trans rfl, (blk_cell BK352.out 7).trans rfl, (blk_cell BK352.out 8).trans rfl, (blk_cell BK352.out 9).trans rfl, (blk_cell BK352.out 10).trans rfl, (blk_cell BK352.out 11).trans rfl⟩ (fun hHeld => ?_)
         clear hK K
         refine norm_ (a' := ?_) ?_ ?_
         rotate_left
         · show Act.put _ (some 16) _ = _
           simp only [Act.put, List.setIfInBounds_toArray, List.set_cons_zero, List.set_cons_succ, i64_w, i32_w]
           rfl
         refine one_ (i := 7) (N := some 20) #[true, true, true, true, true, true, true, true, false, false] rfl rfl (one_of HT_.out (by kernel_rfl)) (by decide) (fun K hK => ?_)
         refine goes_ Try.func14 (by kernel_rfl) rfl #[.slice A0 l0.length c0, .agg #[.int .u8 a1_0, .int .i64 a1_1, .int .u64 a1_2, .int .i64 a1_3, .bool a1_4, .int .u64 a1_5, .int .u64 a1_6, .int .i64 a1_7, .int .u8 a1_8, .int .i64 a1_9, .int .i64 a1_10, .int .i64 a1_11], .int .i64 a3] (by rfl) rfl rfl args_ ?_
         with_reducible refine (order_May.calls k _ _ l0 a1_0 a1_1 a1_2 a1_3 a1_4 a1_5 a1_6 a1_7 a1_8 a1_9 a1_10 a1_11 a3 t355 _ ?side1 ?side2 A8.out).mono ?_
         (case side1 => exact CU (Kd.C_below HR0.out HB.out))
         (case side2 => exact HC0.out)
         rintro e w26 ⟨rfl, hb⟩
         refine ⟨_, rfl, ?_⟩
         have n0_ := Aside0.mk (blk_below (blkU BK352.out) hb)
         have n1_ := Aside0.mk (below_step bel_ hb)
         clear BK352; clear HB
         have BK352 := n0_
         have HB := n1_
         clear n0_ n1_
         (try clear hb)
         (try clear hb2)
         (try clear hk)
         (try clear hi)
         refine hK.out _ _ ⟨(blk_cell BK352.out 0).trans rfl, (blk_cell BK352.out 1).trans rfl, (blk_cell BK352.out 2).trans rfl, (blk_cell BK352.out 3).trans rfl, (blk_cell BK352.out 4).trans rfl, (blk_cell BK352.out 5).trans rfl, (blk_cell BK352.out 6).trans rfl, (blk_cell BK352.out 7).trans rfl, (blk_cell BK352.out 8).trans rfl, (blk_cell BK352.out 9).trans rfl, (blk_cell BK352.out 10).trans rfl, (blk_cell BK352.out 11).trans rfl⟩ (fun hHeld => ?_)
         clear hK K
         refine norm_ (a' := ?_) ?_ ?_
         rotate_left
         · show Act.put _ (some 20) _ = _
           simp only [Act.put, List.setIfInBounds_toArray, List.set_cons_zero, List.set_cons_succ, i64_w, i32_w]
           rfl
         refine pure_ (i := 8) (N := some 9) (v := ?_) (a' := ?_) #[true, true, true, true, true, true, true, true, true, false] rfl rfl (any_of HT_.out (by kernel_rfl)) (fun _ _ _ h => h) (Or.inl ⟨by rfl, ?_⟩) ?_ ?_
         rotate_left
         · intro w'
           go_simp
           with_reducible rfl
         rotate_left
         · simp only [Act.put, List.setIfInBounds_toArray, List.set_cons_zero, List.set_cons_succ, i64_w, i32_w]
           rfl
         refine pure_ (i := 9) (N := some 10) (v := ?_) (a' := ?_) #[true, true, true, true, true, true, true, true, true, true] rfl rfl (any_of HT_.out (by kernel_rfl)) (fun _ _ _ h => h) (Or.inl ⟨by rfl, ?_⟩) ?_ ?_
         rotate_left
         · intro w'
           go_simp
           with_reducible rfl
         rotate_left
         · simp only [Act.put, List.setIfInBounds_toArray, List.set_cons_zero, List.set_cons_succ, i64_w, i32_w]
           rfl
         refine done_ (done_of HT_.out (by kernel_rfl)) ?_
         try go_wp2
         go_ret
         exact ⟨by first | rfl | (simp [errW_none, errW_some] <;> rfl) | (simp [*, errW_none, errW_some] <;> rfl), bel_⟩
       · rw [if_neg c21] at H
         have c21b0 : decide (1099511627776 < a2) = false := decide_eq_false c21
         clear c21
         by_cases c27 : t354 = 0
         · rw [if_pos c27] at H
           have c27b0 : (t354 == 0) = true := beq_iff_eq.mpr c27
           have c27b1 : (t354 != 0) = false := bne_eq_false_iff_eq.mpr c27
           clear c27
           by_cases c28 : t355 = 0
           · rw [if_pos c28] at H
             have c28b0 : (t355 == 0) = true := beq_iff_eq.mpr c28
             have c28b1 : (t355 != 0) = false := bne_eq_false_iff_eq.mpr c28
             clear c28
             by_cases c29 : t354 = t355
             · rw [if_pos c29] at H
               have c29b0 : (t354 == t355) = true := beq_iff_eq.mpr c29
               have c29b1 : (t354 != t355) = false := bne_eq_false_iff_eq.mpr c29
               clear c29
               obtain rfl := Option.some.inj H
               go_enter Try.func6, Try.ntmps6
               try go_wp2_with (first | ((with_reducible refine gate_dst (N := 5) rfl ?_); refine box_event ?hg (N := 5) ?hd (cs := #[.int .u8 a1_0, .int .i64 a1_1, .int .u64 a1_2, .int .i64 a1_3, .bool a1_4, .int .u64 a1_5, .int .u64 a1_6, .int .i64 a1_7, .int .u8 a1_8, .int .i64 a1_9, .int .i64 a1_10, .int .i64 a1_11]) (t := 33) ?hr ?_; (case hd => rfl); (case hg => rfl); (case hr => first | (go_simp; done) | (go_simp; rfl)); intro gb352 hg w30 hbox hb; have n0_ := Aside0.mk (below_step bel_ hb); have n1_ := Aside0.mk (hbox); have n2_ := Aside0.mk ((by rw [hg]; exact (below_size bel_) : w.heap.size ≤ gb352)); have n3_ := Aside0.mk ((by rw [hg]; exact (below_size bel_) : w.heap.size ≤ gb352)); clear HB; have HB := n0_; have BK352 := n1_; have GW352 := n2_; have GE352 := n3_; clear n0_ n1_ n2_ n3_; clear hb hbox hg) | ((with_reducible refine gate_callee (f := 11) rfl ?_); refine goesL_ (some 11) rfl rfl Try.func11 (by kernel_rfl) rfl #[] rfl args_ ?_; (with_reducible refine (spoorlaw14_lives.calls k  true _ A5.out).mono ?_); rintro e w31 ⟨rfl, hb⟩; refine ⟨_, rfl, ?_⟩; have n0_ := Aside0.mk (blk_below (blkU BK352.out) hb); have n1_ := Aside0.mk (below_step bel_ hb); clear BK352; clear HB; have BK352 := n0_; have HB := n1_; clear n0_ n1_; (try clear hb); (try clear hb2); (try clear hk); (try clear hi)))
               have n0_ := Aside0.mk (blk_drew BK352.out)
               have n1_ := Aside0.mk (below_drew1 HB.out)
               clear BK352; clear HB
               have BK352 := n0_
               have HB := n1_
               clear n0_ n1_
               refine start_ (n := 10) (S := fun w' => w'.cell? ⟨gb352, 0, none⟩ = some (.int .u8 a1_0) ∧ w'.cell? ⟨gb352, 1, none⟩ = some (.int .i64 a1_1) ∧ w'.cell? ⟨gb352, 2, none⟩ = some (.int .u64 a1_2) ∧ w'.cell? ⟨gb352, 3, none⟩ = some (.int .i64 a1_3) ∧ w'.cell? ⟨gb352, 4, none⟩ = some (.bool a1_4) ∧ w'.cell? ⟨gb352, 5, none⟩ = some (.int .u64 a1_5) ∧ w'.cell? ⟨gb352, 6, none⟩ = some (.int .u64 a1_6) ∧ w'.cell? ⟨gb352, 7, none⟩ = some (.int .i64 a1_7) ∧ w'.cell? ⟨gb352, 8, none⟩ = some (.int .u8 a1_8) ∧ w'.cell? ⟨gb352, 9, none⟩ = some (.int .i64 a1_9) ∧ w'.cell? ⟨gb352, 10, none⟩ = some (.int .i64 a1_10) ∧ w'.cell? ⟨gb352, 11, none⟩ = some (.int .i64 a1_11)) (ds := []) #[false, false, false, false, false, false, false, false, false, false] (by kernel_rfl) rfl rfl ⟨(blk_cell BK352.out 0).trans rfl, (blk_cell BK352.out 1).trans rfl, (blk_cell BK352.out 2).trans rfl, (blk_cell BK352.out 3).trans rfl, (blk_cell BK352.out 4).trans rfl, (blk_cell BK352.out 5).trans rfl, (blk_cell BK352.out 6).trans rfl, (blk_cell BK352.out 7).trans rfl, (blk_cell BK352.out 8).trans rfl, (blk_cell BK352.out 9).trans rfl, (blk_cell BK352.out 10).trans rfl, (blk_cell BK352.out 11).trans rfl⟩ (fun hHeld => ?_); refine with_tabW spoorlaw14_OrderLater.tab3 spoorlaw14_OrderLater.bits3 (fun HT_ HW_ => ?_)
               generalize w31.drew = w32 at BK352 HB hHeld ⊢
               refine pure_ (i := 0) (N := some 13) (v := ?_) (a' := ?_) #[true, false, false, false, false, false, false, false, false, false] rfl rfl (any_of HT_.out (by kernel_rfl)) (fun _ _ _ h => h) (Or.inl ⟨by rfl, ?_⟩) ?_ ?_
               rotate_left
               · intro w'
                 go_simp
                 with_reducible rfl
               rotate_left
               · simp only [Act.put, List.setIfInBounds_toArray, List.set_cons_zero, List.set_cons_succ, i64_w, i32_w]
                 rfl
               refine pure_ (i := 2) (N := some 15) (v := ?_) (a' := ?_) #[true, false, true, false, false, false, false, false, false, false] rfl rfl (any_of HT_.out (by kernel_rfl)) (fun _ _ _ h => h) (Or.inl ⟨by rfl, ?_⟩) ?_ ?_
               rotate_left
               · intro w'
                 go_simp
                 with_reducible rfl
               rotate_left
               · simp only [Act.put, List.setIfInBounds_toArray, List.set_cons_zero, List.set_cons_succ, i64_w, i32_w]
                 rfl
               refine pure_ (i := 4) (N := some 17) (v := ?_) (a' := ?_) #[true, false, true, false, true, false, false, false, false, false] rfl rfl (any_of HT_.out (by kernel_rfl)) (fun _ _ _ h => h) (Or.inl ⟨by rfl, ?_⟩) ?_ ?_
               rotate_left
               · intro w'
                 go_simp
                 with_reducible rfl
               rotate_left
               · simp only [Act.put, List.setIfInBounds_toArray, List.set_cons_zero, List.set_cons_succ, i64_w, i32_w]
                 rfl
               refine pure_ (i := 6) (N := some 19) (v := ?_) (a' := ?_) #[true, false, true, false, true, false, true, false, false, false] rfl rfl (any_of HT_.out (by kernel_rfl)) (fun _ _ _ h => h) (Or.inl ⟨by rfl, ?_⟩) ?_ ?_
               rotate_left
               · intro w'
                 go_simp
                 with_reducible rfl
               rotate_left
               · simp only [Act.put, List.setIfInBounds_toArray, List.set_cons_zero, List.set_cons_succ, i64_w, i32_w]
                 rfl
               refine take_ (i := 1) (N := some 14) (v := ?_) (a' := ?_) #[true, true, true, false, true, false, true, false, false, false] rfl rfl (take_ofW HT_.out HW_.out (by kernel_rfl)) (fun _ _ _ h => h) (Or.inl ⟨by rfl, ?_⟩) hHeld ?_ ?_
               rotate_left
               · rintro w' ⟨s0, s1, s2, s3, s4, s5, s6, s7, s8, s9, s10, s11⟩
                 go_simp
                 with_reducible rfl
               rotate_left
               · simp only [Act.put, List.setIfInBounds_toArray, List.set_cons_zero, List.set_cons_succ, i64_w, i32_w]
                 rfl
               refine take_ (i := 5) (N := some 18) (v := ?_) (a' := ?_) #[true, true, true, false, true, true, true, false, false, false] rfl rfl (take_ofW HT_.out HW_.out (by kernel_rfl)) (fun _ _ _ h => h) (Or.inl ⟨by rfl, ?_⟩) hHeld ?_ ?_
               rotate_left
               · rintro w' ⟨s0, s1, s2, s3, s4, s5, s6, s7, s8, s9, s10, s11⟩
                 go_simp
                 with_reducible rfl
               rotate_left
               · simp only [Act.put, List.setIfInBounds_toArray, List.set_cons_zero, List.set_cons_succ, i64_w, i32_w]
                 rfl
               refine one_ (i := 3) (N := some 16) #[true, true, true, true, true, true, true, false, false, false] rfl rfl (one_of HT_.out (by kernel_rfl)) (by decide) (fun K hK => ?_)
               refine goes_ Try.func14 (by kernel_rfl) rfl #[.slice A0 l0.length c0, .agg #[.int .u8 a1_0, .int .i64 a1_1, .int .u64 a1_2, .int .i64 a1_3, .bool a1_4, .int .u64 a1_5, .int .u64 a1_6, .int .i64 a1_7, .int .u8 a1_8, .int .i64 a1_9, .int .i64 a1_10, .int .i64 a1_11], .int .i64 a2] (by rfl) rfl rfl args_ ?_
               with_reducible refine (order_May.calls k _ _ l0 a1_0 a1_1 a1_2 a1_3 a1_4 a1_5 a1_6 a1_7 a1_8 a1_9 a1_10 a1_11 a2 t354 _ ?side1 ?side2 A7.out).mono ?_
               (case side1 => exact CU (Kd.C_below HR0.out HB.out))
               (case side2 => exact HC0.out)
               rintro e w33 ⟨rfl, hb⟩
               refine ⟨_, rfl, ?_⟩
               have n0_ := Aside0.mk (blk_below (blkU BK352.out) hb)
               have n1_ := Aside0.mk (below_step bel_ hb)
               clear BK352; clear HB
               have BK352 := n0_
               have HB := n1_
               clear n0_ n1_
               (try clear hb)
               (try clear hb2)
               (try clear hk)
               (try clear hi)
               refine hK.out _ _ ⟨(blk_cell BK352.out 0).trans rfl, (blk_cell BK352.out 1).trans rfl, (blk_cell BK352.out 2).trans rfl, (blk_cell BK352.out 3).trans rfl, (blk_cell BK352.out 4).trans rfl, (blk_cell BK352.out 5).trans rfl, (blk_cell BK352.out 6).trans rfl, (blk_cell BK352.out 7).trans rfl, (blk_cell BK352.out 8).trans rfl, (blk_cell BK352.out 9).trans rfl, (blk_cell BK352.out 10).trans rfl, (blk_cell BK352.out 11).trans rfl⟩ (fun hHeld => ?_)
               clear hK K
               refine norm_ (a' := ?_) ?_ ?_
               rotate_left
               · show Act.put _ (some 16) _ = _
                 simp only [Act.put, List.setIfInBounds_toArray, List.set_cons_zero, List.set_cons_succ, i64_w, i32_w]
                 rfl
               refine one_ (i := 7) (N := some 20) #[true, true, true, true, true, true, true, true, false, false] rfl rfl (one_of HT_.out (by kernel_rfl)) (by decide) (fun K hK => ?_)
               refine goes_ Try.func14 (by kernel_rfl) rfl #[.slice A0 l0.length c0, .agg #[.int .u8 a1_0, .int .i64 a1_1, .int .u64 a1_2, .int .i64 a1_3, .bool a1_4, .int .u64 a1_5, .int .u64 a1_6, .int .i64 a1_7, .int .u8 a1_8, .int .i64 a1_9, .int .i64 a1_10, .int .i64 a1_11], .int .i64 a3] (by rfl) rfl rfl args_ ?_
               with_reducible refine (order_May.calls k _ _ l0 a1_0 a1_1 a1_2 a1_3 a1_4 a1_5 a1_6 a1_7 a1_8 a1_9 a1_10 a1_11 a3 t355 _ ?side1 ?side2 A8.out).mono ?_
               (case side1 => exact CU (Kd.C_below HR0.out HB.out))
               (case side2 => exact HC0.out)
               rintro e w34 ⟨rfl, hb⟩
               refine ⟨_, rfl, ?_⟩
               have n0_ := Aside0.mk (blk_below (blkU BK352.out) hb)
               have n1_ := Aside0.mk (below_step bel_ hb)
               clear BK352; clear HB
               have BK352 := n0_
               have HB := n1_
               clear n0_ n1_
               (try clear hb)
               (try clear hb2)
               (try clear hk)
               (try clear hi)
               refine hK.out _ _ ⟨(blk_cell BK352.out 0).trans rfl, (blk_cell BK352.out 1).trans rfl, (blk_cell BK352.out 2).trans rfl, (blk_cell BK352.out 3).trans rfl, (blk_cell BK352.out 4).trans rfl, (blk_cell BK352.out 5).trans rfl, (blk_cell BK352.out 6).trans rfl, (blk_cell BK352.out 7).trans rfl, (blk_cell BK352.out 8).trans rfl, (blk_cell BK352.out 9).trans rfl, (blk_cell BK352.out 10).trans rfl, (blk_cell BK352.out 11).trans rfl⟩ (fun hHeld => ?_)
               clear hK K
               refine norm_ (a' := ?_) ?_ ?_
               rotate_left
               · show Act.put _ (some 20) _ = _
                 simp only [Act.put, List.setIfInBounds_toArray, List.set_cons_zero, List.set_cons_succ, i64_w, i32_w]
                 rfl
               refine pure_ (i := 8) (N := some 9) (v := ?_) (a' := ?_) #[true, true, true, true, true, true, true, true, true, false] rfl rfl (any_of HT_.out (by kernel_rfl)) (fun _ _ _ h => h) (Or.inl ⟨by rfl, ?_⟩) ?_ ?_
               rotate_left
               · intro w'
                 go_simp
                 with_reducible rfl
               rotate_left
               · simp only [Act.put, List.setIfInBounds_toArray, List.set_cons_zero, List.set_cons_succ, i64_w, i32_w]
                 rfl
               refine pure_ (i := 9) (N := some 10) (v := ?_) (a' := ?_) #[true, true, true, true, true, true, true, true, true, true] rfl rfl (any_of HT_.out (by kernel_rfl)) (fun _ _ _ h => h) (Or.inl ⟨by rfl, ?_⟩) ?_ ?_
               rotate_left
               · intro w'
                 go_simp
                 with_reducible rfl
               rotate_left
               · simp only [Act.put, List.setIfInBounds_toArray, List.set_cons_zero, List.set_cons_succ, i64_w, i32_w]
                 rfl
               refine done_ (done_of HT_.out (by kernel_rfl)) ?_
               try go_wp2
               go_ret
               exact ⟨by first | rfl | (simp [errW_none, errW_some] <;> rfl) | (simp [*, errW_none, errW_some] <;> rfl), bel_⟩
             · rw [if_neg c29] at H
               have c29b0 : (t354 == t355) = false := beq_eq_false_iff_ne.mpr c29
               have c29b1 : (t354 != t355) = true := bne_iff_ne.mpr c29
               obtain rfl := Option.some.inj H
               go_enter Try.func6, Try.ntmps6
               try go_wp2_with (first | ((with_reducible refine gate_dst (N := 5) rfl ?_); refine box_event ?hg (N := 5) ?hd (cs := #[.int .u8 a1_0, .int .i64 a1_1, .int .u64 a1_2, .int .i64 a1_3, .bool a1_4, .int .u64 a1_5, .int .u64 a1_6, .int .i64 a1_7, .int .u8 a1_8, .int .i64 a1_9, .int .i64 a1_10, .int .i64 a1_11]) (t := 33) ?hr ?_; (case hd => rfl); (case hg => rfl); (case hr => first | (go_simp; done) | (go_simp; rfl)); intro gb352 hg w35 hbox hb; have n0_ := Aside0.mk (below_step bel_ hb); have n1_ := Aside0.mk (hbox); have n2_ := Aside0.mk ((by rw [hg]; exact (below_size bel_) : w.heap.size ≤ gb352)); have n3_ := Aside0.mk ((by rw [hg]; exact (below_size bel_) : w.heap.size ≤ gb352)); clear HB; have HB := n0_; have BK352 := n1_; have GW352 := n2_; have GE352 := n3_; clear n0_ n1_ n2_ n3_; clear hb hbox hg) | ((with_reducible refine gate_callee (f := 11) rfl ?_); refine goesL_ (some 11) rfl rfl Try.func11 (by kernel_rfl) rfl #[] rfl args_ ?_; (with_reducible refine (spoorlaw14_lives.calls k  true _ A5.out).mono ?_); rintro e w36 ⟨rfl, hb⟩; refine ⟨_, rfl, ?_⟩; have n0_ := Aside0.mk (blk_below (blkU BK352.out) hb); have n1_ := Aside0.mk (below_step bel_ hb); clear BK352; clear HB; have BK352 := n0_; have HB := n1_; clear n0_ n1_; (try clear hb); (try clear hb2); (try clear hk); (try clear hi)))
               have n0_ := Aside0.mk (blk_drew BK352.out)
               have n1_ := Aside0.mk (below_drew1 HB.out)
               clear BK352; clear HB
               have BK352 := n0_
               have HB := n1_
               clear n0_ n1_
               refine start_ (n := 10) (S := fun w' => w'.cell? ⟨gb352, 0, none⟩ = some (.int .u8 a1_0) ∧ w'.cell? ⟨gb352, 1, none⟩ = some (.int .i64 a1_1) ∧ w'.cell? ⟨gb352, 2, none⟩ = some (.int .u64 a1_2) ∧ w'.cell? ⟨gb352, 3, none⟩ = some (.int .i64 a1_3) ∧ w'.cell? ⟨gb352, 4, none⟩ = some (.bool a1_4) ∧ w'.cell? ⟨gb352, 5, none⟩ = some (.int .u64 a1_5) ∧ w'.cell? ⟨gb352, 6, none⟩ = some (.int .u64 a1_6) ∧ w'.cell? ⟨gb352, 7, none⟩ = some (.int .i64 a1_7) ∧ w'.cell? ⟨gb352, 8, none⟩ = some (.int .u8 a1_8) ∧ w'.cell? ⟨gb352, 9, none⟩ = some (.int .i64 a1_9) ∧ w'.cell? ⟨gb352, 10, none⟩ = some (.int .i64 a1_10) ∧ w'.cell? ⟨gb352, 11, none⟩ = some (.int .i64 a1_11)) (ds := []) #[false, false, false, false, false, false, false, false, false, false] (by kernel_rfl) rfl rfl ⟨(blk_cell BK352.out 0).trans rfl, (blk_cell BK352.out 1).trans rfl, (blk_cell BK352.out 2).trans rfl, (blk_cell BK352.out 3).trans rfl, (blk_cell BK352.out 4).trans rfl, (blk_cell BK352.out 5).trans rfl, (blk_cell BK352.out 6).trans rfl, (blk_cell BK352.out 7).trans rfl, (blk_cell BK352.out 8).trans rfl, (blk_cell BK352.out 9).trans rfl, (blk_cell BK352.out 10).trans rfl, (blk_cell BK352.out 11).trans rfl⟩ (fun hHeld => ?_); refine with_tabW spoorlaw14_OrderLater.tab3 spoorlaw14_OrderLater.bits3 (fun HT_ HW_ => ?_)
               generalize w36.drew = w37 at BK352 HB hHeld ⊢
               refine pure_ (i := 0) (N := some 13) (v := ?_) (a' := ?_) #[true, false, false, false, false, false, false, false, false, false] rfl rfl (any_of HT_.out (by kernel_rfl)) (fun _ _ _ h => h) (Or.inl ⟨by rfl, ?_⟩) ?_ ?_
               rotate_left
               · intro w'
                 go_simp
                 with_reducible rfl
               rotate_left
               · simp only [Act.put, List.setIfInBounds_toArray, List.set_cons_zero, List.set_cons_succ, i64_w, i32_w]
                 rfl
               refine pure_ (i := 2) (N := some 15) (v := ?_) (a' := ?_) #[true, false, true, false, false, false, false, false, false, false] rfl rfl (any_of HT_.out (by kernel_rfl)) (fun _ _ _ h => h) (Or.inl ⟨by rfl, ?_⟩) ?_ ?_
               rotate_left
               · intro w'
                 go_simp
                 with_reducible rfl
               rotate_left
               · simp only [Act.put, List.setIfInBounds_toArray, List.set_cons_zero, List.set_cons_succ, i64_w, i32_w]
                 rfl
               refine pure_ (i := 4) (N := some 17) (v := ?_) (a' := ?_) #[true, false, true, false, true, false, false, false, false, false] rfl rfl (any_of HT_.out (by kernel_rfl)) (fun _ _ _ h => h) (Or.inl ⟨by rfl, ?_⟩) ?_ ?_
               rotate_left
               · intro w'
                 go_simp
                 with_reducible rfl
               rotate_left
               · simp only [Act.put, List.setIfInBounds_toArray, List.set_cons_zero, List.set_cons_succ, i64_w, i32_w]
                 rfl
               refine pure_ (i := 6) (N := some 19) (v := ?_) (a' := ?_) #[true, false, true, false, true, false, true, false, false, false] rfl rfl (any_of HT_.out (by kernel_rfl)) (fun _ _ _ h => h) (Or.inl ⟨by rfl, ?_⟩) ?_ ?_
               rotate_left
               · intro w'
                 go_simp
                 with_reducible rfl
               rotate_left
               · simp only [Act.put, List.setIfInBounds_toArray, List.set_cons_zero, List.set_cons_succ, i64_w, i32_w]
                 rfl
               refine take_ (i := 1) (N := some 14) (v := ?_) (a' := ?_) #[true, true, true, false, true, false, true, false, false, false] rfl rfl (take_ofW HT_.out HW_.out (by kernel_rfl)) (fun _ _ _ h => h) (Or.inl ⟨by rfl, ?_⟩) hHeld ?_ ?_
               rotate_left
               · rintro w' ⟨s0, s1, s2, s3, s4, s5, s6, s7, s8, s9, s10, s11⟩
                 go_simp
                 with_reducible rfl
               rotate_left
               · simp only [Act.put, List.setIfInBounds_toArray, List.set_cons_zero, List.set_cons_succ, i64_w, i32_w]
                 rfl
               refine take_ (i := 5) (N := some 18) (v := ?_) (a' := ?_) #[true, true, true, false, true, true, true, false, false, false] rfl rfl (take_ofW HT_.out HW_.out (by kernel_rfl)) (fun _ _ _ h => h) (Or.inl ⟨by rfl, ?_⟩) hHeld ?_ ?_
               rotate_left
               · rintro w' ⟨s0, s1, s2, s3, s4, s5, s6, s7, s8, s9, s10, s11⟩
                 go_simp
                 with_reducible rfl
               rotate_left
               · simp only [Act.put, List.setIfInBounds_toArray, List.set_cons_zero, List.set_cons_succ, i64_w, i32_w]
                 rfl
               refine one_ (i := 3) (N := some 16) #[true, true, true, true, true, true, true, false, false, false] rfl rfl (one_of HT_.out (by kernel_rfl)) (by decide) (fun K hK => ?_)
               refine goes_ Try.func14 (by kernel_rfl) rfl #[.slice A0 l0.length c0, .agg #[.int .u8 a1_0, .int .i64 a1_1, .int .u64 a1_2, .int .i64 a1_3, .bool a1_4, .int .u64 a1_5, .int .u64 a1_6, .int .i64 a1_7, .int .u8 a1_8, .int .i64 a1_9, .int .i64 a1_10, .int .i64 a1_11], .int .i64 a2] (by rfl) rfl rfl args_ ?_
               with_reducible refine (order_May.calls k _ _ l0 a1_0 a1_1 a1_2 a1_3 a1_4 a1_5 a1_6 a1_7 a1_8 a1_9 a1_10 a1_11 a2 t354 _ ?side1 ?side2 A7.out).mono ?_
               (case side1 => exact CU (Kd.C_below HR0.out HB.out))
               (case side2 => exact HC0.out)
               rintro e w38 ⟨rfl, hb⟩
               refine ⟨_, rfl, ?_⟩
               have n0_ := Aside0.mk (blk_below (blkU BK352.out) hb)
               have n1_ := Aside0.mk (below_step bel_ hb)
               clear BK352; clear HB
               have BK352 := n0_
               have HB := n1_
               clear n0_ n1_
               (try clear hb)
               (try clear hb2)
               (try clear hk)
               (try clear hi)
               refine hK.out _ _ ⟨(blk_cell BK352.out 0).trans rfl, (blk_cell BK352.out 1).trans rfl, (blk_cell BK352.out 2).trans rfl, (blk_cell BK352.out 3).trans rfl, (blk_cell BK352.out 4).trans rfl, (blk_cell BK352.out 5).trans rfl, (blk_cell BK352.out 6).trans rfl, (blk_cell BK352.out 7).trans rfl, (blk_cell BK352.out 8).trans rfl, (blk_cell BK352.out 9).trans rfl, (blk_cell BK352.out 10).trans rfl, (blk_cell BK352.out 11).trans rfl⟩ (fun hHeld => ?_)
               clear hK K
               refine norm_ (a' := ?_) ?_ ?_
               rotate_left
               · show Act.put _ (some 16) _ = _
                 simp only [Act.put, List.setIfInBounds_toArray, List.set_cons_zero, List.set_cons_succ, i64_w, i32_w]
                 rfl
               refine one_ (i := 7) (N := some 20) #[true, true, true, true, true, true, true, true, false, false] rfl rfl (one_of HT_.out (by kernel_rfl)) (by decide) (fun K hK => ?_)
               refine goes_ Try.func14 (by kernel_rfl) rfl #[.slice A0 l0.length c0, .agg #[.int .u8 a1_0, .int .i64 a1_1, .int .u64 a1_2, .int .i64 a1_3, .bool a1_4, .int .u64 a1_5, .int .u64 a1_6, .int .i64 a1_7, .int .u8 a1_8, .int .i64 a1_9, .int .i64 a1_10, .int .i64 a1_11], .int .i64 a3] (by rfl) rfl rfl args_ ?_
               with_reducible refine (order_May.calls k _ _ l0 a1_0 a1_1 a1_2 a1_3 a1_4 a1_5 a1_6 a1_7 a1_8 a1_9 a1_10 a1_11 a3 t355 _ ?side1 ?side2 A8.out).mono ?_
               (case side1 => exact CU (Kd.C_below HR0.out HB.out))
               (case side2 => exact HC0.out)
               rintro e w39 ⟨rfl, hb⟩
               refine ⟨_, rfl, ?_⟩
               have n0_ := Aside0.mk (blk_below (blkU BK352.out) hb)
               have n1_ := Aside0.mk (below_step bel_ hb)
               clear BK352; clear HB
               have BK352 := n0_
               have HB := n1_
               clear n0_ n1_
               (try clear hb)
               (try clear hb2)
               (try clear hk)
               (try clear hi)
               refine hK.out _ _ ⟨(blk_cell BK352.out 0).trans rfl, (blk_cell BK352.out 1).trans rfl, (blk_cell BK352.out 2).trans rfl, (blk_cell BK352.out 3).trans rfl, (blk_cell BK352.out 4).trans rfl, (blk_cell BK352.out 5).trans rfl, (blk_cell BK352.out 6).trans rfl, (blk_cell BK352.out 7).trans rfl, (blk_cell BK352.out 8).trans rfl, (blk_cell BK352.out 9).trans rfl, (blk_cell BK352.out 10).trans rfl, (blk_cell BK352.out 11).trans rfl⟩ (fun hHeld => ?_)
               clear hK K
               refine norm_ (a' := ?_) ?_ ?_
               rotate_left
               · show Act.put _ (some 20) _ = _
                 simp only [Act.put, List.setIfInBounds_toArray, List.set_cons_zero, List.set_cons_succ, i64_w, i32_w]
                 rfl
               refine pure_ (i := 8) (N := some 9) (v := ?_) (a' := ?_) #[true, true, true, true, true, true, true, true, true, false] rfl rfl (any_of HT_.out (by kernel_rfl)) (fun _ _ _ h => h) (Or.inl ⟨by rfl, ?_⟩) ?_ ?_
               rotate_left
               · intro w'
                 go_simp
                 with_reducible rfl
               rotate_left
               · simp only [Act.put, List.setIfInBounds_toArray, List.set_cons_zero, List.set_cons_succ, i64_w, i32_w]
                 rfl
               refine pure_ (i := 9) (N := some 10) (v := ?_) (a' := ?_) #[true, true, true, true, true, true, true, true, true, true] rfl rfl (any_of HT_.out (by kernel_rfl)) (fun _ _ _ h => h) (Or.inl ⟨by rfl, ?_⟩) ?_ ?_
               rotate_left
               · intro w'
                 go_simp
                 with_reducible rfl
               rotate_left
               · simp only [Act.put, List.setIfInBounds_toArray, List.set_cons_zero, List.set_cons_succ, i64_w, i32_w]
                 rfl
               refine done_ (done_of HT_.out (by kernel_rfl)) ?_
               try go_wp2
               go_ret
               exact ⟨by first | rfl | (simp [errW_none, errW_some] <;> rfl) | (simp [*, errW_none, errW_some] <;> rfl), bel_⟩
           · rw [if_neg c28] at H
             exact absurd H (by simp)
         · rw [if_neg c27] at H
           have c27b0 : (t354 == 0) = false := beq_eq_false_iff_ne.mpr c27
           have c27b1 : (t354 != 0) = true := bne_iff_ne.mpr c27
           by_cases c40 : t354 = t355
           · rw [if_pos c40] at H
             have c40b0 : (t354 == t355) = true := beq_iff_eq.mpr c40
             have c40b1 : (t354 != t355) = false := bne_eq_false_iff_eq.mpr c40
             clear c40
             obtain rfl := Option.some.inj H
             go_enter Try.func6, Try.ntmps6
             try go_wp2_with (first | ((with_reducible refine gate_dst (N := 5) rfl ?_); refine box_event ?hg (N := 5) ?hd (cs := #[.int .u8 a1_0, .int .i64 a1_1, .int .u64 a1_2, .int .i64 a1_3, .bool a1_4, .int .u64 a1_5, .int .u64 a1_6, .int .i64 a1_7, .int .u8 a1_8, .int .i64 a1_9, .int .i64 a1_10, .int .i64 a1_11]) (t := 33) ?hr ?_; (case hd => rfl); (case hg => rfl); (case hr => first | (go_simp; done) | (go_simp; rfl)); intro gb352 hg w41 hbox hb; have n0_ := Aside0.mk (below_step bel_ hb); have n1_ := Aside0.mk (hbox); have n2_ := Aside0.mk ((by rw [hg]; exact (below_size bel_) : w.heap.size ≤ gb352)); have n3_ := Aside0.mk ((by rw [hg]; exact (below_size bel_) : w.heap.size ≤ gb352)); clear HB; have HB := n0_; have BK352 := n1_; have GW352 := n2_; have GE352 := n3_; clear n0_ n1_ n2_ n3_; clear hb hbox hg) | ((with_reducible refine gate_callee (f := 11) rfl ?_); refine goesL_ (some 11) rfl rfl Try.func11 (by kernel_rfl) rfl #[] rfl args_ ?_; (with_reducible refine (spoorlaw14_lives.calls k  true _ A5.out).mono ?_); rintro e w42 ⟨rfl, hb⟩; refine ⟨_, rfl, ?_⟩; have n0_ := Aside0.mk (blk_below (blkU BK352.out) hb); have n1_ := Aside0.mk (below_step bel_ hb); clear BK352; clear HB; have BK352 := n0_; have HB := n1_; clear n0_ n1_; (try clear hb); (try clear hb2); (try clear hk); (try clear hi)))
             have n0_ := Aside0.mk (blk_drew BK352.out)
             have n1_ := Aside0.mk (below_drew1 HB.out)
             clear BK352; clear HB
             have BK352 := n0_
             have HB := n1_
             clear n0_ n1_
             refine start_ (n := 10) (S := fun w' => w'.cell? ⟨gb352, 0, none⟩ = some (.int .u8 a1_0) ∧ w'.cell? ⟨gb352, 1, none⟩ = some (.int .i64 a1_1) ∧ w'.cell? ⟨gb352, 2, none⟩ = some (.int .u64 a1_2) ∧ w'.cell? ⟨gb352, 3, none⟩ = some (.int .i64 a1_3) ∧ w'.cell? ⟨gb352, 4, none⟩ = some (.bool a1_4) ∧ w'.cell? ⟨gb352, 5, none⟩ = some (.int .u64 a1_5) ∧ w'.cell? ⟨gb352, 6, none⟩ = some (.int .u64 a1_6) ∧ w'.cell? ⟨gb352, 7, none⟩ = some (.int .i64 a1_7) ∧ w'.cell? ⟨gb352, 8, none⟩ = some (.int .u8 a1_8) ∧ w'.cell? ⟨gb352, 9, none⟩ = some (.int .i64 a1_9) ∧ w'.cell? ⟨gb352, 10, none⟩ = some (.int .i64 a1_10) ∧ w'.cell? ⟨gb352, 11, none⟩ = some (.int .i64 a1_11)) (ds := []) #[false, false, false, false, false, false, false, false, false, false] (by kernel_rfl) rfl rfl ⟨(blk_cell BK352.out 0).trans rfl, (blk_cell BK352.out 1).trans rfl, (blk_cell BK352.out 2).trans rfl, (blk_cell BK352.out 3).trans rfl, (blk_cell BK352.out 4).trans rfl, (blk_cell BK352.out 5).trans rfl, (blk_cell BK352.out 6).trans rfl, (blk_cell BK352.out 7).trans rfl, (blk_cell BK352.out 8).trans rfl, (blk_cell BK352.out 9).trans rfl, (blk_cell BK352.out 10).trans rfl, (blk_cell BK352.out 11).trans rfl⟩ (fun hHeld => ?_); refine with_tabW spoorlaw14_OrderLater.tab3 spoorlaw14_OrderLater.bits3 (fun HT_ HW_ => ?_)
             generalize w42.drew = w43 at BK352 HB hHeld ⊢
             refine pure_ (i := 0) (N := some 13) (v := ?_) (a' := ?_) #[true, false, false, false, false, false, false, false, false, false] rfl rfl (any_of HT_.out (by kernel_rfl)) (fun _ _ _ h => h) (Or.inl ⟨by rfl, ?_⟩) ?_ ?_
             rotate_left
             · intro w'
               go_simp
               with_reducible rfl
             rotate_left
             · simp only [Act.put, List.setIfInBounds_toArray, List.set_cons_zero, List.set_cons_succ, i64_w, i32_w]
               rfl
             refine pure_ (i := 2) (N := some 15) (v := ?_) (a' := ?_) #[true, false, true, false, false, false, false, false, false, false] rfl rfl (any_of HT_.out (by kernel_rfl)) (fun _ _ _ h => h) (Or.inl ⟨by rfl, ?_⟩) ?_ ?_
             rotate_left
             · intro w'
               go_simp
               with_reducible rfl
             rotate_left
             · simp only [Act.put, List.setIfInBounds_toArray, List.set_cons_zero, List.set_cons_succ, i64_w, i32_w]
               rfl
             refine pure_ (i := 4) (N := some 17) (v := ?_) (a' := ?_) #[true, false, true, false, true, false, false, false, false, false] rfl rfl (any_of HT_.out (by kernel_rfl)) (fun _ _ _ h => h) (Or.inl ⟨by rfl, ?_⟩) ?_ ?_
             rotate_left
             · intro w'
               go_simp
               with_reducible rfl
             rotate_left
             · simp only [Act.put, List.setIfInBounds_toArray, List.set_cons_zero, List.set_cons_succ, i64_w, i32_w]
               rfl
             refine pure_ (i := 6) (N := some 19) (v := ?_) (a' := ?_) #[true, false, true, false, true, false, true, false, false, false] rfl rfl (any_of HT_.out (by kernel_rfl)) (fun _ _ _ h => h) (Or.inl ⟨by rfl, ?_⟩) ?_ ?_
             rotate_left
             · intro w'
               go_simp
               with_reducible rfl
             rotate_left
             · simp only [Act.put, List.setIfInBounds_toArray, List.set_cons_zero, List.set_cons_succ, i64_w, i32_w]
               rfl
             refine take_ (i := 1) (N := some 14) (v := ?_) (a' := ?_) #[true, true, true, false, true, false, true, false, false, false] rfl rfl (take_ofW HT_.out HW_.out (by kernel_rfl)) (fun _ _ _ h => h) (Or.inl ⟨by rfl, ?_⟩) hHeld ?_ ?_
             rotate_left
             · rintro w' ⟨s0, s1, s2, s3, s4, s5, s6, s7, s8, s9, s10, s11⟩
               go_simp
               with_reducible rfl
             rotate_left
             · simp only [Act.put, List.setIfInBounds_toArray, List.set_cons_zero, List.set_cons_succ, i64_w, i32_w]
               rfl
             refine take_ (i := 5) (N := some 18) (v := ?_) (a' := ?_) #[true, true, true, false, true, true, true, false, false, false] rfl rfl (take_ofW HT_.out HW_.out (by kernel_rfl)) (fun _ _ _ h => h) (Or.inl ⟨by rfl, ?_⟩) hHeld ?_ ?_
             rotate_left
             · rintro w' ⟨s0, s1, s2, s3, s4, s5, s6, s7, s8, s9, s10, s11⟩
               go_simp
               with_reducible rfl
             rotate_left
             · simp only [Act.put, List.setIfInBounds_toArray, List.set_cons_zero, List.set_cons_succ, i64_w, i32_w]
               rfl
             refine one_ (i := 3) (N := some 16) #[true, true, true, true, true, true, true, false, false, false] rfl rfl (one_of HT_.out (by kernel_rfl)) (by decide) (fun K hK => ?_)
             refine goes_ Try.func14 (by kernel_rfl) rfl #[.slice A0 l0.length c0, .agg #[.int .u8 a1_0, .int .i64 a1_1, .int .u64 a1_2, .int .i64 a1_3, .bool a1_4, .int .u64 a1_5, .int .u64 a1_6, .int .i64 a1_7, .int .u8 a1_8, .int .i64 a1_9, .int .i64 a1_10, .int .i64 a1_11], .int .i64 a2] (by rfl) rfl rfl args_ ?_
             with_reducible refine (order_May.calls k _ _ l0 a1_0 a1_1 a1_2 a1_3 a1_4 a1_5 a1_6 a1_7 a1_8 a1_9 a1_10 a1_11 a2 t354 _ ?side1 ?side2 A7.out).mono ?_
             (case side1 => exact CU (Kd.C_below HR0.out HB.out))
             (case side2 => exact HC0.out)
             rintro e w44 ⟨rfl, hb⟩
             refine ⟨_, rfl, ?_⟩
             have n0_ := Aside0.mk (blk_below (blkU BK352.out) hb)
             have n1_ := Aside0.mk (below_step bel_ hb)
             clear BK352; clear HB
             have BK352 := n0_
             have HB := n1_
             clear n0_ n1_
             (try clear hb)
             (try clear hb2)
             (try clear hk)
             (try clear hi)
             refine hK.out _ _ ⟨(blk_cell BK352.out 0).trans rfl, (blk_cell BK352.out 1).trans rfl, (blk_cell BK352.out 2).trans rfl, (blk_cell BK352.out 3).trans rfl, (blk_cell BK352.out 4).trans rfl, (blk_cell BK352.out 5).trans rfl, (blk_cell BK352.out 6).trans rfl, (blk_cell BK352.out 7).trans rfl, (blk_cell BK352.out 8).trans rfl, (blk_cell BK352.out 9).trans rfl, (blk_cell BK352.out 10).trans rfl, (blk_cell BK352.out 11).trans rfl⟩ (fun hHeld => ?_)
             clear hK K
             refine norm_ (a' := ?_) ?_ ?_
             rotate_left
             · show Act.put _ (some 16) _ = _
               simp only [Act.put, List.setIfInBounds_toArray, List.set_cons_zero, List.set_cons_succ, i64_w, i32_w]
               rfl
             refine one_ (i := 7) (N := some 20) #[true, true, true, true, true, true, true, true, false, false] rfl rfl (one_of HT_.out (by kernel_rfl)) (by decide) (fun K hK => ?_)
             refine goes_ Try.func14 (by kernel_rfl) rfl #[.slice A0 l0.length c0, .agg #[.int .u8 a1_0, .int .i64 a1_1, .int .u64 a1_2, .int .i64 a1_3, .bool a1_4, .int .u64 a1_5, .int .u64 a1_6, .int .i64 a1_7, .int .u8 a1_8, .int .i64 a1_9, .int .i64 a1_10, .int .i64 a1_11], .int .i64 a3] (by rfl) rfl rfl args_ ?_
             with_reducible refine (order_May.calls k _ _ l0 a1_0 a1_1 a1_2 a1_3 a1_4 a1_5 a1_6 a1_7 a1_8 a1_9 a1_10 a1_11 a3 t355 _ ?side1 ?side2 A8.out).mono ?_
             (case side1 => exact CU (Kd.C_below HR0.out HB.out))
             (case side2 => exact HC0.out)
             rintro e w45 ⟨rfl, hb⟩
             refine ⟨_, rfl, ?_⟩
             have n0_ := Aside0.mk (blk_below (blkU BK352.out) hb)
             have n1_ := Aside0.mk (below_step bel_ hb)
             clear BK352; clear HB
             have BK352 := n0_
             have HB := n1_
             clear n0_ n1_
             (try clear hb)
             (try clear hb2)
             (try clear hk)
             (try clear hi)
             refine hK.out _ _ ⟨(blk_cell BK352.out 0).trans rfl, (blk_cell BK352.out 1).trans rfl, (blk_cell BK352.out 2).trans rfl, (blk_cell BK352.out 3).trans rfl, (blk_cell BK352.out 4).trans rfl, (blk_cell BK352.out 5).trans rfl, (blk_cell BK352.out 6).trans rfl, (blk_cell BK352.out 7).trans rfl, (blk_cell BK352.out 8).trans rfl, (blk_cell BK352.out 9).trans rfl, (blk_cell BK352.out 10).trans rfl, (blk_cell BK352.out 11).trans rfl⟩ (fun hHeld => ?_)
             clear hK K
             refine norm_ (a' := ?_) ?_ ?_
             rotate_left
             · show Act.put _ (some 20) _ = _
               simp only [Act.put, List.setIfInBounds_toArray, List.set_cons_zero, List.set_cons_succ, i64_w, i32_w]
               rfl
             refine pure_ (i := 8) (N := some 9) (v := ?_) (a' := ?_) #[true, true, true, true, true, true, true, true, true, false] rfl rfl (any_of HT_.out (by kernel_rfl)) (fun _ _ _ h => h) (Or.inl ⟨by rfl, ?_⟩) ?_ ?_
             rotate_left
             · intro w'
               go_simp
               with_reducible rfl
             rotate_left
             · simp only [Act.put, List.setIfInBounds_toArray, List.set_cons_zero, List.set_cons_succ, i64_w, i32_w]
               rfl
             refine pure_ (i := 9) (N := some 10) (v := ?_) (a' := ?_) #[true, true, true, true, true, true, true, true, true, true] rfl rfl (any_of HT_.out (by kernel_rfl)) (fun _ _ _ h => h) (Or.inl ⟨by rfl, ?_⟩) ?_ ?_
             rotate_left
             · intro w'
               go_simp
               with_reducible rfl
             rotate_left
             · simp only [Act.put, List.setIfInBounds_toArray, List.set_cons_zero, List.set_cons_succ, i64_w, i32_w]
               rfl
             refine done_ (done_of HT_.out (by kernel_rfl)) ?_
             try go_wp2
             go_ret
             exact ⟨by first | rfl | (simp [errW_none, errW_some] <;> rfl) | (simp [*, errW_none, errW_some] <;> rfl), bel_⟩
           · rw [if_neg c40] at H
             have c40b0 : (t354 == t355) = false := beq_eq_false_iff_ne.mpr c40
             have c40b1 : (t354 != t355) = true := bne_iff_ne.mpr c40
             obtain rfl := Option.some.inj H
             go_enter Try.func6, Try.ntmps6
             try go_wp2_with (first | ((with_reducible refine gate_dst (N := 5) rfl ?_); refine box_event ?hg (N := 5) ?hd (cs := #[.int .u8 a1_0, .int .i64 a1_1, .int .u64 a1_2, .int .i64 a1_3, .bool a1_4, .int .u64 a1_5, .int .u64 a1_6, .int .i64 a1_7, .int .u8 a1_8, .int .i64 a1_9, .int .i64 a1_10, .int .i64 a1_11]) (t := 33) ?hr ?_; (case hd => rfl); (case hg => rfl); (case hr => first | (go_simp; done) | (go_simp; rfl)); intro gb352 hg w46 hbox hb; have n0_ := Aside0.mk (below_step bel_ hb); have n1_ := Aside0.mk (hbox); have n2_ := Aside0.mk ((by rw [hg]; exact (below_size bel_) : w.heap.size ≤ gb352)); have n3_ := Aside0.mk ((by rw [hg]; exact (below_size bel_) : w.heap.size ≤ gb352)); clear HB; have HB := n0_; have BK352 := n1_; have GW352 := n2_; have GE352 := n3_; clear n0_ n1_ n2_ n3_; clear hb hbox hg) | ((with_reducible refine gate_callee (f := 11) rfl ?_); refine goesL_ (some 11) rfl rfl Try.func11 (by kernel_rfl) rfl #[] rfl args_ ?_; (with_reducible refine (spoorlaw14_lives.calls k  true _ A5.out).mono ?_); rintro e w47 ⟨rfl, hb⟩; refine ⟨_, rfl, ?_⟩; have n0_ := Aside0.mk (blk_below (blkU BK352.out) hb); have n1_ := Aside0.mk (below_step bel_ hb); clear BK352; clear HB; have BK352 := n0_; have HB := n1_; clear n0_ n1_; (try clear hb); (try clear hb2); (try clear hk); (try clear hi)))
             have n0_ := Aside0.mk (blk_drew BK352.out)
             have n1_ := Aside0.mk (below_drew1 HB.out)
             clear BK352; clear HB
             have BK352 := n0_
             have HB := n1_
             clear n0_ n1_
             refine start_ (n := 10) (S := fun w' => w'.cell? ⟨gb352, 0, none⟩ = some (.int .u8 a1_0) ∧ w'.cell? ⟨gb352, 1, none⟩ = some (.int .i64 a1_1) ∧ w'.cell? ⟨gb352, 2, none⟩ = some (.int .u64 a1_2) ∧ w'.cell? ⟨gb352, 3, none⟩ = some (.int .i64 a1_3) ∧ w'.cell? ⟨gb352, 4, none⟩ = some (.bool a1_4) ∧ w'.cell? ⟨gb352, 5, none⟩ = some (.int .u64 a1_5) ∧ w'.cell? ⟨gb352, 6, none⟩ = some (.int .u64 a1_6) ∧ w'.cell? ⟨gb352, 7, none⟩ = some (.int .i64 a1_7) ∧ w'.cell? ⟨gb352, 8, none⟩ = some (.int .u8 a1_8) ∧ w'.cell? ⟨gb352, 9, none⟩ = some (.int .i64 a1_9) ∧ w'.cell? ⟨gb352, 10, none⟩ = some (.int .i64 a1_10) ∧ w'.cell? ⟨gb352, 11, none⟩ = some (.int .i64 a1_11)) (ds := []) #[false, false, false, false, false, false, false, false, false, false] (by kernel_rfl) rfl rfl ⟨(blk_cell BK352.out 0).trans rfl, (blk_cell BK352.out 1).trans rfl, (blk_cell BK352.out 2).trans rfl, (blk_cell BK352.out 3).trans rfl, (blk_cell BK352.out 4).trans rfl, (blk_cell BK352.out 5).trans rfl, (blk_cell BK352.out 6).trans rfl, (blk_cell BK352.out 7).trans rfl, (blk_cell BK352.out 8).trans rfl, (blk_cell BK352.out 9).trans rfl, (blk_cell BK352.out 10).trans rfl, (blk_cell BK352.out 11).trans rfl⟩ (fun hHeld => ?_); refine with_tabW spoorlaw14_OrderLater.tab3 spoorlaw14_OrderLater.bits3 (fun HT_ HW_ => ?_)
             generalize w47.drew = w48 at BK352 HB hHeld ⊢
             refine pure_ (i := 0) (N := some 13) (v := ?_) (a' := ?_) #[true, false, false, false, false, false, false, false, false, false] rfl rfl (any_of HT_.out (by kernel_rfl)) (fun _ _ _ h => h) (Or.inl ⟨by rfl, ?_⟩) ?_ ?_
             rotate_left
             · intro w'
               go_simp
               with_reducible rfl
             rotate_left
             · simp only [Act.put, List.setIfInBounds_toArray, List.set_cons_zero, List.set_cons_succ, i64_w, i32_w]
               rfl
             refine pure_ (i := 2) (N := some 15) (v := ?_) (a' := ?_) #[true, false, true, false, false, false, false, false, false, false] rfl rfl (any_of HT_.out (by kernel_rfl)) (fun _ _ _ h => h) (Or.inl ⟨by rfl, ?_⟩) ?_ ?_
             rotate_left
             · intro w'
               go_simp
               with_reducible rfl
             rotate_left
             · simp only [Act.put, List.setIfInBounds_toArray, List.set_cons_zero, List.set_cons_succ, i64_w, i32_w]
               rfl
             refine pure_ (i := 4) (N := some 17) (v := ?_) (a' := ?_) #[true, false, true, false, true, false, false, false, false, false] rfl rfl (any_of HT_.out (by kernel_rfl)) (fun _ _ _ h => h) (Or.inl ⟨by rfl, ?_⟩) ?_ ?_
             rotate_left
             · intro w'
               go_simp
               with_reducible rfl
             rotate_left
             · simp only [Act.put, List.setIfInBounds_toArray, List.set_cons_zero, List.set_cons_succ, i64_w, i32_w]
               rfl
             refine pure_ (i := 6) (N := some 19) (v := ?_) (a' := ?_) #[true, false, true, false, true, false, true, false, false, false] rfl rfl (any_of HT_.out (by kernel_rfl)) (fun _ _ _ h => h) (Or.inl ⟨by rfl, ?_⟩) ?_ ?_
             rotate_left
             · intro w'
               go_simp
               with_reducible rfl
             rotate_left
             · simp only [Act.put, List.setIfInBounds_toArray, List.set_cons_zero, List.set_cons_succ, i64_w, i32_w]
               rfl
             refine take_ (i := 1) (N := some 14) (v := ?_) (a' := ?_) #[true, true, true, false, true, false, true, false, false, false] rfl rfl (take_ofW HT_.out HW_.out (by kernel_rfl)) (fun _ _ _ h => h) (Or.inl ⟨by rfl, ?_⟩) hHeld ?_ ?_
             rotate_left
             · rintro w' ⟨s0, s1, s2, s3, s4, s5, s6, s7, s8, s9, s10, s11⟩
               go_simp
               with_reducible rfl
             rotate_left
             · simp only [Act.put, List.setIfInBounds_toArray, List.set_cons_zero, List.set_cons_succ, i64_w, i32_w]
               rfl
             refine take_ (i := 5) (N := some 18) (v := ?_) (a' := ?_) #[true, true, true, false, true, true, true, false, false, false] rfl rfl (take_ofW HT_.out HW_.out (by kernel_rfl)) (fun _ _ _ h => h) (Or.inl ⟨by rfl, ?_⟩) hHeld ?_ ?_
             rotate_left
             · rintro w' ⟨s0, s1, s2, s3, s4, s5, s6, s7, s8, s9, s10, s11⟩
               go_simp
               with_reducible rfl
             rotate_left
             · simp only [Act.put, List.setIfInBounds_toArray, List.set_cons_zero, List.set_cons_succ, i64_w, i32_w]
               rfl
             refine one_ (i := 3) (N := some 16) #[true, true, true, true, true, true, true, false, false, false] rfl rfl (one_of HT_.out (by kernel_rfl)) (by decide) (fun K hK => ?_)
             refine goes_ Try.func14 (by kernel_rfl) rfl #[.slice A0 l0.length c0, .agg #[.int .u8 a1_0, .int .i64 a1_1, .int .u64 a1_2, .int .i64 a1_3, .bool a1_4, .int .u64 a1_5, .int .u64 a1_6, .int .i64 a1_7, .int .u8 a1_8, .int .i64 a1_9, .int .i64 a1_10, .int .i64 a1_11], .int .i64 a2] (by rfl) rfl rfl args_ ?_
             with_reducible refine (order_May.calls k _ _ l0 a1_0 a1_1 a1_2 a1_3 a1_4 a1_5 a1_6 a1_7 a1_8 a1_9 a1_10 a1_11 a2 t354 _ ?side1 ?side2 A7.out).mono ?_
             (case side1 => exact CU (Kd.C_below HR0.out HB.out))
             (case side2 => exact HC0.out)
             rintro e w49 ⟨rfl, hb⟩
             refine ⟨_, rfl, ?_⟩
             have n0_ := Aside0.mk (blk_below (blkU BK352.out) hb)
             have n1_ := Aside0.mk (below_step bel_ hb)
             clear BK352; clear HB
             have BK352 := n0_
             have HB := n1_
             clear n0_ n1_
             (try clear hb)
             (try clear hb2)
             (try clear hk)
             (try clear hi)
             refine hK.out _ _ ⟨(blk_cell BK352.out 0).trans rfl, (blk_cell BK352.out 1).trans rfl, (blk_cell BK352.out 2).trans rfl, (blk_cell BK352.out 3).trans rfl, (blk_cell BK352.out 4).trans rfl, (blk_cell BK352.out 5).trans rfl, (blk_cell BK352.out 6).trans rfl, (blk_cell BK352.out 7).trans rfl, (blk_cell BK352.out 8).trans rfl, (blk_cell BK352.out 9).trans rfl, (blk_cell BK352.out 10).trans rfl, (blk_cell BK352.out 11).trans rfl⟩ (fun hHeld => ?_)
             clear hK K
             refine norm_ (a' := ?_) ?_ ?_
             rotate_left
             · show Act.put _ (some 16) _ = _
               simp only [Act.put, List.setIfInBounds_toArray, List.set_cons_zero, List.set_cons_succ, i64_w, i32_w]
               rfl
             refine one_ (i := 7) (N := some 20) #[true, true, true, true, true, true, true, true, false, false] rfl rfl (one_of HT_.out (by kernel_rfl)) (by decide) (fun K hK => ?_)
             refine goes_ Try.func14 (by kernel_rfl) rfl #[.slice A0 l0.length c0, .agg #[.int .u8 a1_0, .int .i64 a1_1, .int .u64 a1_2, .int .i64 a1_3, .bool a1_4, .int .u64 a1_5, .int .u64 a1_6, .int .i64 a1_7, .int .u8 a1_8, .int .i64 a1_9, .int .i64 a1_10, .int .i64 a1_11], .int .i64 a3] (by rfl) rfl rfl args_ ?_
             with_reducible refine (order_May.calls k _ _ l0 a1_0 a1_1 a1_2 a1_3 a1_4 a1_5 a1_6 a1_7 a1_8 a1_9 a1_10 a1_11 a3 t355 _ ?side1 ?side2 A8.out).mono ?_
             (case side1 => exact CU (Kd.C_below HR0.out HB.out))
             (case side2 => exact HC0.out)
             rintro e w50 ⟨rfl, hb⟩
             refine ⟨_, rfl, ?_⟩
             have n0_ := Aside0.mk (blk_below (blkU BK352.out) hb)
             have n1_ := Aside0.mk (below_step bel_ hb)
             clear BK352; clear HB
             have BK352 := n0_
             have HB := n1_
             clear n0_ n1_
             (try clear hb)
             (try clear hb2)
             (try clear hk)
             (try clear hi)
             refine hK.out _ _ ⟨(blk_cell BK352.out 0).trans rfl, (blk_cell BK352.out 1).trans rfl, (blk_cell BK352.out 2).trans rfl, (blk_cell BK352.out 3).trans rfl, (blk_cell BK352.out 4).trans rfl, (blk_cell BK352.out 5).trans rfl, (blk_cell BK352.out 6).trans rfl, (blk_cell BK352.out 7).trans rfl, (blk_cell BK352.out 8).trans rfl, (blk_cell BK352.out 9).trans rfl, (blk_cell BK352.out 10).trans rfl, (blk_cell BK352.out 11).trans rfl⟩ (fun hHeld => ?_)
             clear hK K
             refine norm_ (a' := ?_) ?_ ?_
             rotate_left
             · show Act.put _ (some 20) _ = _
               simp only [Act.put, List.setIfInBounds_toArray, List.set_cons_zero, List.set_cons_succ, i64_w, i32_w]
               rfl
             refine pure_ (i := 8) (N := some 9) (v := ?_) (a' := ?_) #[true, true, true, true, true, true, true, true, true, false] rfl rfl (any_of HT_.out (by kernel_rfl)) (fun _ _ _ h => h) (Or.inl ⟨by rfl, ?_⟩) ?_ ?_
             rotate_left
             · intro w'
               go_simp
               with_reducible rfl
             rotate_left
             · simp only [Act.put, List.setIfInBounds_toArray, List.set_cons_zero, List.set_cons_succ, i64_w, i32_w]
               rfl
             refine pure_ (i := 9) (N := some 10) (v := ?_) (a' := ?_) #[true, true, true, true, true, true, true, true, true, true] rfl rfl (any_of HT_.out (by kernel_rfl)) (fun _ _ _ h => h) (Or.inl ⟨by rfl, ?_⟩) ?_ ?_
             rotate_left
             · intro w'
               go_simp
               with_reducible rfl
             rotate_left
             · simp only [Act.put, List.setIfInBounds_toArray, List.set_cons_zero, List.set_cons_succ, i64_w, i32_w]
               rfl
             refine done_ (done_of HT_.out (by kernel_rfl)) ?_
             try go_wp2
             go_ret
             exact ⟨by first | rfl | (simp [errW_none, errW_some] <;> rfl) | (simp [*, errW_none, errW_some] <;> rfl), bel_⟩
 · replace c6 := Bool.eq_false_iff.mpr c6
   subst c6
   have H1 : (none) = some r := by rw [if_neg (show ¬ (false = true) by decide)] at H; exact H
   clear H
   have H := H1
   clear H1
   exact absurd H (by simp)
def spoorlaw14_OrderLater.GS38 (x : S38) : Prop := ((Lit.int .i64 x.f0).wf = true) ∧ ((Lit.int .u64 x.f1).wf = true) ∧ ((Lit.int .i64 x.f2).wf = true) ∧ (True)
def spoorlaw14_OrderLater.GS26 (x : S26) : Prop := ((Lit.int .u64 x.f0).wf = true) ∧ ((Lit.int .u64 x.f1).wf = true)
def spoorlaw14_OrderLater.GS28 (x : S28) : Prop := (True) ∧ (spoorlaw14_OrderLater.GS26 x.f1) ∧ ((Lit.int .i64 x.f2).wf = true)
def spoorlaw14_OrderLater.GS31 (x : S31) : Prop := ((Lit.int .u8 x.f0).wf = true) ∧ ((Lit.int .i64 x.f1).wf = true)
def spoorlaw14_OrderLater.GS33 (x : S33) : Prop := ((Lit.int .u8 x.f0).wf = true) ∧ ((Lit.int .i64 x.f1).wf = true) ∧ ((Lit.int .u64 x.f2).wf = true) ∧ ((Lit.int .i64 x.f3).wf = true) ∧ (spoorlaw14_OrderLater.GS28 x.f4) ∧ (spoorlaw14_OrderLater.GS31 x.f5) ∧ ((Lit.int .i64 x.f6).wf = true) ∧ ((Lit.int .i64 x.f7).wf = true)
def spoorlaw14_OrderLater.Pure : Prop := ∀ (l0 : List (S38)) (a1_0 : Int) (a1_1 : Int) (a1_2 : Int) (a1_3 : Int) (a1_4 : Bool) (a1_5 : Int) (a1_6 : Int) (a1_7 : Int) (a1_8 : Int) (a1_9 : Int) (a1_10 : Int) (a1_11 : Int) (a2 : Int) (a3 : Int), (l0.length * 32 ≤ 140737488351232 ∧ ∀ y_ ∈ l0, spoorlaw14_OrderLater.GS38 y_) → (spoorlaw14_OrderLater.GS33 (⟨a1_0, a1_1, a1_2, a1_3, (⟨a1_4, (⟨a1_5, a1_6⟩ : S26), a1_7⟩ : S28), (⟨a1_8, a1_9⟩ : S31), a1_10, a1_11⟩ : S33)) → ((Lit.int .i64 a2).wf = true) → ((Lit.int .i64 a3).wf = true) → ∃ k, spoorlaw14_OrderLater.f k l0 a1_0 a1_1 a1_2 a1_3 a1_4 a1_5 a1_6 a1_7 a1_8 a1_9 a1_10 a1_11 a2 a3 = some true
theorem spoorlaw14_OrderLater.walk (P : spoorlaw14_OrderLater.Pure) (A0 : Option Addr) (c0 : Nat) (l0 : List (S38)) (a1_0 : Int) (a1_1 : Int) (a1_2 : Int) (a1_3 : Int) (a1_4 : Bool) (a1_5 : Int) (a1_6 : Int) (a1_7 : Int) (a1_8 : Int) (a1_9 : Int) (a1_10 : Int) (a1_11 : Int) (a2 : Int) (a3 : Int) (w : World) (g0 : l0.length * 32 ≤ 140737488351232 ∧ ∀ y_ ∈ l0, spoorlaw14_OrderLater.GS38 y_) (g1 : spoorlaw14_OrderLater.GS33 (⟨a1_0, a1_1, a1_2, a1_3, (⟨a1_4, (⟨a1_5, a1_6⟩ : S26), a1_7⟩ : S28), (⟨a1_8, a1_9⟩ : S31), a1_10, a1_11⟩ : S33)) (g2 : (Lit.int .i64 a2).wf = true) (g3 : (Lit.int .i64 a3).wf = true) (hr0 : Kd.C k38 w A0 l0.length l0) (hc0 : l0.length ≤ c0) :
 Calls Try.prog 6 #[.slice A0 l0.length c0, .agg #[.int .u8 a1_0, .int .i64 a1_1, .int .u64 a1_2, .int .i64 a1_3, .bool a1_4, .int .u64 a1_5, .int .u64 a1_6, .int .i64 a1_7, .int .u8 a1_8, .int .i64 a1_9, .int .i64 a1_10, .int .i64 a1_11], .int .i64 a2, .int .i64 a3] w fun e w' => e = .returned (.bool true) ∧ Below w.heap.size w w' := by
 obtain ⟨k, h⟩ := P l0 a1_0 a1_1 a1_2 a1_3 a1_4 a1_5 a1_6 a1_7 a1_8 a1_9 a1_10 a1_11 a2 a3 g0 g1 g2 g3
 refine (spoorlaw14_OrderLater.calls k A0 c0 l0 a1_0 a1_1 a1_2 a1_3 a1_4 a1_5 a1_6 a1_7 a1_8 a1_9 a1_10 a1_11 a2 a3 true w hr0 hc0 h).mono ?_
 rintro e w' ⟨rfl, hd⟩
 exact ⟨rfl, hd⟩
end Go.Proofs.Ytdccjkeiifplnaa.P
