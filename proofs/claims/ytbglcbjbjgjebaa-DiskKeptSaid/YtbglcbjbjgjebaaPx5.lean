-- Written by a program of this session (an adapted printer) out of the translation; Lean checks it.
import Derived.Test.YtbglcbjbjgjebaaPx0
import Derived.Test.YtbglcbjbjgjebaaPx2
import Derived.Test.YtbglcbjbjgjebaaPx3
import Derived.Test.YtbglcbjbjgjebaaPx4
namespace Go.Proofs.Ytbglcbjbjgjebaa.P
open Go.RowKit Go.Proofs.YtbglcbjbjgjebaaW.PrintWords Go.Proofs.YtbglcbjbjgjebaaW.PrintLast Go.Proofs.YtbglcbjbjgjebaaW.PrintMore
attribute [local go_sem] max2_int min2_int max_two min_two max_three min_three max_four min_four   -- for this text's walks alone
set_option linter.unusedVariables false
set_option linter.unusedSimpArgs false

/-! ### spoorref03_Write: function 10 -/
def spoorref03_Write.j0 : Nat → Int → ByteArray → Bool → List ByteArray → List (S40) → Int → Bool → Option (List ByteArray × (List (S40)) × Int × Bool × Int)
  | 0, _, _, _, _, _, _, _ => none
  | k + 1, x1, x2, x25, x121000, x121001, x121002, x121003 => if x25 = true then (some (x121000, x121001, x121002, x121003, 1)) else (if (x2.size : Int) = 128 then (if (x121001.length : Int) = 4096 then (some (x121000, x121001, x121002, x121003, 8)) else (if x121001.length < 5864062014805 then ((some (x121001 ++ [(⟨x1, x2⟩ : S40)] : List (S40))).bind fun y131 => (if x121002 = 0 then (some (x121000, y131, x121002, true, 9)) else (if x121002 > 0 then (some (x121000, y131, wrap64 (x121002 - 1), x121003, 0)) else (some (x121000, y131, x121002, x121003, 0))))) else (none))) else (some (x121000, x121001, x121002, x121003, 11)))
def spoorref03_Write.f (k : Nat) (l0_0 : List ByteArray) (l0_1 : List (S40)) (a0_2 : Int) (a0_3 : Bool) (a1 : Int) (a2 : ByteArray) : Option (List ByteArray × (List (S40)) × Int × Bool × Int) := (spoorref03_Check.f k l0_0 l0_1 a0_2 a0_3).bind fun t122 => (if t122 = 0 then ((spoorref03_Copy.f l0_0 l0_1 a0_2 a0_3).bind fun bt123 => (if bt123.2.2.2 = true then (some (bt123.1, bt123.2.1, bt123.2.2.1, bt123.2.2.2, 9)) else (if a1 < 0 then (spoorref03_Write.j0 k a1 a2 true bt123.1 bt123.2.1 bt123.2.2.1 bt123.2.2.2) else (spoorref03_Write.j0 k a1 a2 (decide (a1 ≥ (bt123.1.length : Int))) bt123.1 bt123.2.1 bt123.2.2.1 bt123.2.2.2)))) else (some (([] : List ByteArray), ([] : List (S40)), 0, false, 2)))
theorem spoorref03_Write.mono_l : ∀ k, (∀ y0 y1 y2 y3 y4 y5 y6, LeO (spoorref03_Write.j0 k y0 y1 y2 y3 y4 y5 y6) (spoorref03_Write.j0 (k + 1) y0 y1 y2 y3 y4 y5 y6))
  | 0 => fun _ _ _ _ _ _ _ r h => by simp [spoorref03_Write.j0] at h
  | k + 1 => by
    have ih0 := spoorref03_Write.mono_l k
    · intro y0 y1 y2 y3 y4 y5 y6
      unfold spoorref03_Write.j0
      repeat' first
      | (with_reducible exact ih0 _ _ _ _ _ _ _)
      | (with_reducible exact spoorref03_Check.mono _ _ _ _ _)
      | (with_reducible exact LeO.refl _)
      | (with_reducible exact LeO.none _)
      | (with_reducible refine LeO.ite ?_ ?_)
      | (with_reducible refine LeO.bind ?_ (fun _ => ?_))
      | exact ih0 _ _ _ _ _ _ _
      | exact spoorref03_Check.mono _ _ _ _ _
      | exact LeO.none _
      | refine LeO.ite ?_ ?_
      | refine LeO.bind ?_ (fun _ => ?_)
theorem spoorref03_Write.mono : ∀ a0 a1 a2 a3 a4 a5 k, LeO (spoorref03_Write.f k a0 a1 a2 a3 a4 a5) (spoorref03_Write.f (k + 1) a0 a1 a2 a3 a4 a5) := by
  intro a0 a1 a2 a3 a4 a5 k
  have ih0 := spoorref03_Write.mono_l k
  unfold spoorref03_Write.f
  repeat' first
      | (with_reducible exact ih0 _ _ _ _ _ _ _)
      | (with_reducible exact spoorref03_Check.mono _ _ _ _ _)
      | (with_reducible exact LeO.refl _)
      | (with_reducible exact LeO.none _)
      | (with_reducible refine LeO.ite ?_ ?_)
      | (with_reducible refine LeO.bind ?_ (fun _ => ?_))
      | exact ih0 _ _ _ _ _ _ _
      | exact spoorref03_Check.mono _ _ _ _ _
      | exact LeO.none _
      | refine LeO.ite ?_ ?_
      | refine LeO.bind ?_ (fun _ => ?_)
set_option maxHeartbeats 8000000 in
set_option maxRecDepth 100000 in
theorem spoorref03_Write.calls (k : Nat) (A0_0 : Option Addr) (c0_0 : Nat) (l0_0 : List ByteArray) (A0_1 : Option Addr) (c0_1 : Nat) (l0_1 : List (S40)) (a0_2 : Int) (a0_3 : Bool) (a1 : Int) (a2 : ByteArray) (r1 : List ByteArray) (r2 : List (S40)) (r3 : Int) (r4 : Bool) (r5 : Int) (w : World) (hr0_0 : Kd.C Kd.string w A0_0 l0_0.length l0_0) (hc0_0 : l0_0.length ≤ c0_0) (hr0_1 : Kd.C k40 w A0_1 l0_1.length l0_1) (hc0_1 : l0_1.length ≤ c0_1) (h : spoorref03_Write.f k l0_0 l0_1 a0_2 a0_3 a1 a2 = some (r1, r2, r3, r4, r5)) :
    Calls Try.prog 10 #[.agg #[.slice A0_0 l0_0.length c0_0, .slice A0_1 l0_1.length c0_1, .int .i64 a0_2, .bool a0_3], .int .i64 a1, .string a2] w fun e w' => ∃ v0_ v1_ : Value, e = .returned (.tuple #[.agg #[v0_, v1_, .int .i64 r3, .bool r4], .int .i64 r5]) ∧ Kd.R Kd.string 9 w' w.heap.size (fun _ => True) v0_ r1 ∧ Kd.R k40 40 w' w.heap.size (fun _ => True) v1_ r2 ∧ Below w.heap.size w w' := by
  have hu25 := Try.underlying25
  have hu40 := Try.underlying40
  have HR0_0 := Aside0.mk hr0_0
  have HC0_0 := Aside0.mk hc0_0
  clear hr0_0 hc0_0
  have HR0_1 := Aside0.mk hr0_1
  have HC0_1 := Aside0.mk hc0_1
  clear hr0_1 hc0_1
  have HB := Aside0.mk (Below.refl w.heap.size w)
  have H : ((spoorref03_Check.f k l0_0 l0_1 a0_2 a0_3).bind fun t122 => (if t122 = 0 then ((spoorref03_Copy.f l0_0 l0_1 a0_2 a0_3).bind fun bt123 => (if bt123.2.2.2 = true then (some (bt123.1, bt123.2.1, bt123.2.2.1, bt123.2.2.2, 9)) else (if a1 < 0 then (spoorref03_Write.j0 k a1 a2 true bt123.1 bt123.2.1 bt123.2.2.1 bt123.2.2.2) else (spoorref03_Write.j0 k a1 a2 (decide (a1 ≥ (bt123.1.length : Int))) bt123.1 bt123.2.1 bt123.2.2.1 bt123.2.2.2)))) else (some (([] : List ByteArray), ([] : List (S40)), 0, false, 2)))) = some (r1, r2, r3, r4, r5) := h
  clear h
  replace H := Option.bind_eq_some_iff.mp H
  obtain ⟨t122, A40, H⟩ := H
  replace H : (if t122 = 0 then ((spoorref03_Copy.f l0_0 l0_1 a0_2 a0_3).bind fun bt123 => (if bt123.2.2.2 = true then (some (bt123.1, bt123.2.1, bt123.2.2.1, bt123.2.2.2, 9)) else (if a1 < 0 then (spoorref03_Write.j0 k a1 a2 true bt123.1 bt123.2.1 bt123.2.2.1 bt123.2.2.2) else (spoorref03_Write.j0 k a1 a2 (decide (a1 ≥ (bt123.1.length : Int))) bt123.1 bt123.2.1 bt123.2.2.1 bt123.2.2.2)))) else (some (([] : List ByteArray), ([] : List (S40)), 0, false, 2))) = some (r1, r2, r3, r4, r5) := H
  have A4 := Aside0.mk A40
  clear A40
  by_cases c5 : t122 = 0
  · rw [if_pos c5] at H
    have c5b0 : (t122 == 0) = true := beq_iff_eq.mpr c5
    have c5b1 : (t122 != 0) = false := bne_eq_false_iff_eq.mpr c5
    clear c5
    replace H := Option.bind_eq_some_iff.mp H
    obtain ⟨⟨t123, t126, t129, t130⟩, A60, H⟩ := H
    replace H : (if t130 = true then (some (t123, t126, t129, t130, 9)) else (if a1 < 0 then (spoorref03_Write.j0 k a1 a2 true t123 t126 t129 t130) else (spoorref03_Write.j0 k a1 a2 (decide (a1 ≥ (t123.length : Int))) t123 t126 t129 t130))) = some (r1, r2, r3, r4, r5) := H
    have A6 := Aside0.mk A60
    clear A60
    by_cases c7 : t130 = true
    · subst c7
      have H1 : (some (t123, t126, t129, true, 9)) = some (r1, r2, r3, r4, r5) := by rw [if_pos rfl] at H; exact H
      clear H
      have H := H1
      clear H1
      simp only [Option.some.injEq, Prod.mk.injEq] at H
      obtain ⟨rfl, rfl, rfl, rfl, rfl⟩ := H
      go_enter Try.func10, Try.ntmps10
      go_wp2_with (first | ((with_reducible refine gate_dst (N := 3) rfl ?_); (try (refine gate_guard (by rfl) ?_; dsimp only)); refine box_event ?hg (N := 3) ?hd (cs := #[.slice A0_0 l0_0.length c0_0, .slice A0_1 l0_1.length c0_1, .int .i64 a0_2, .bool a0_3]) (t := 25) ?hr ?_; (case hd => rfl); (case hg => rfl); (case hr => first | (go_simp; done) | (go_simp; rfl)); intro gb120 hg w8 hbox hb; have n0_ := Aside0.mk (below_step (by repeat (first | (with_reducible first | exact HB.out | apply below_alloc | apply pw_below_drewN | apply below_drew1) | exact HB.out)) hb); have n1_ := Aside0.mk (hbox); have n2_ := Aside0.mk ((by rw [hg]; exact (below_size (by repeat (first | (with_reducible first | exact HB.out | apply below_alloc | apply pw_below_drewN | apply below_drew1) | exact HB.out))) : w.heap.size ≤ gb120)); have n3_ := Aside0.mk ((by rw [hg]; exact (below_size (by repeat (first | (with_reducible first | exact HB.out | apply below_alloc | apply pw_below_drewN | apply below_drew1) | exact HB.out))) : w.heap.size ≤ gb120)); clear HB; have HB := n0_; have BK120 := n1_; have GW120 := n2_; have GE120 := n3_; clear n0_ n1_ n2_ n3_; clear hb hbox hg) | ((with_reducible refine gate_dst (N := 6) rfl ?_); (try (refine gate_guard (by rfl) ?_; dsimp only)); refine box_event ?hg (N := 6) ?hd (cs := #[.slice none 0 0, .slice none 0 0, .int .i64 0, .bool false]) (t := 25) ?hr ?_; (case hd => rfl); (case hg => rfl); (case hr => first | (go_simp; done) | (go_simp; rfl)); intro gb121 hg w9 hbox hb; have n0_ := Aside0.mk (blk_below (g := gb120) (o := .cells #[.slice A0_0 l0_0.length c0_0, .slice A0_1 l0_1.length c0_1, .int .i64 a0_2, .bool a0_3] 25 (0, 0)) (by (with_reducible repeat (first | refine blk_drewN ?_ _ | refine blk_drew ?_ | refine blk_alloc ?_ _)); exact BK120.out) hb); have n1_ := Aside0.mk (below_step (by repeat (first | (with_reducible first | exact HB.out | apply below_alloc | apply pw_below_drewN | apply below_drew1 | refine below_set ?_ GE120.out) | exact HB.out)) hb); have n2_ := Aside0.mk (hbox); have n3_ := Aside0.mk ((by rw [hg]; exact (below_size (by repeat (first | (with_reducible first | exact HB.out | apply below_alloc | apply pw_below_drewN | apply below_drew1 | refine below_set ?_ GE120.out) | exact HB.out))) : w.heap.size ≤ gb121)); have n4_ := Aside0.mk ((by rw [hg]; exact (below_size (by repeat (first | (with_reducible first | exact HB.out | apply below_alloc | apply pw_below_drewN | apply below_drew1 | refine below_set ?_ GE120.out) | exact HB.out))) : w.heap.size ≤ gb121)); have n5_ := Aside0.mk ((by rw [hg]; exact Nat.ne_of_lt (blk_lt (g := gb120) (o := .cells #[.slice A0_0 l0_0.length c0_0, .slice A0_1 l0_1.length c0_1, .int .i64 a0_2, .bool a0_3] 25 (0, 0)) (by (with_reducible repeat (first | refine blk_drewN ?_ _ | refine blk_drew ?_ | refine blk_alloc ?_ _)); exact BK120.out)) : gb120 ≠ gb121)); have n6_ := Aside0.mk ((by rw [hg]; exact Nat.ne_of_gt (blk_lt (g := gb120) (o := .cells #[.slice A0_0 l0_0.length c0_0, .slice A0_1 l0_1.length c0_1, .int .i64 a0_2, .bool a0_3] 25 (0, 0)) (by (with_reducible repeat (first | refine blk_drewN ?_ _ | refine blk_drew ?_ | refine blk_alloc ?_ _)); exact BK120.out)) : gb121 ≠ gb120)); clear BK120; clear HB; have BK120 := n0_; have HB := n1_; have BK121 := n2_; have GW121 := n3_; have GE121 := n4_; have NB120_121 := n5_; have NB121_120 := n6_; clear n0_ n1_ n2_ n3_ n4_ n5_ n6_; clear hb hbox hg; have hnb10 := NB120_121.out; have hnc10 := NB121_120.out; have hcz11_0 : w9.cell? ⟨gb120, 0, none⟩ = some (.slice A0_0 l0_0.length c0_0) := (blk_cell BK120.out 0).trans rfl; have hcz11_1 : w9.cell? ⟨gb120, 1, none⟩ = some (.slice A0_1 l0_1.length c0_1) := (blk_cell BK120.out 1).trans rfl; have hcz11_2 : w9.cell? ⟨gb120, 2, none⟩ = some (.int .i64 a0_2) := (blk_cell BK120.out 2).trans rfl; have hcz11_3 : w9.cell? ⟨gb120, 3, none⟩ = some (.bool a0_3) := (blk_cell BK120.out 3).trans rfl; have hfz11_0 := blk_frozen BK120.out 0; have hfz11_1 := blk_frozen BK120.out 1; have hfz11_2 := blk_frozen BK120.out 2; have hfz11_3 := blk_frozen BK120.out 3) | ((with_reducible refine gate_callee (f := 18) rfl ?_); refine goesL_ (some 9) rfl rfl Try.func18 (by kernel_rfl) rfl #[.agg #[.slice A0_0 l0_0.length c0_0, .slice A0_1 l0_1.length c0_1, .int .i64 a0_2, .bool a0_3]] rfl (by (try simp only [List.map_toArray, List.map_cons, List.map_nil]); first | done | rfl | (simp only [List.length_drop, List.length_take]; rfl)) ?_; (with_reducible refine (spoorref03_Check.calls k _ _ l0_0 _ _ l0_1 a0_2 a0_3 t122 _ ?side1 ?side2 ?side3 ?side4 A4.out).mono ?_); (case side1 => repeat (first | exact (Kd.C_below HR0_0.out HB.out) | (with_reducible refine Kd.C_alloc ?_ _) | (with_reducible refine Kd.C_drewN ?_ _) | (with_reducible refine Kd.C_drew ?_))); (case side2 => exact HC0_0.out); (case side3 => repeat (first | exact (Kd.C_below HR0_1.out HB.out) | (with_reducible refine Kd.C_alloc ?_ _) | (with_reducible refine Kd.C_drewN ?_ _) | (with_reducible refine Kd.C_drew ?_))); (case side4 => exact HC0_1.out); rintro e w12 ⟨rfl, hb⟩; refine ⟨_, rfl, ?_⟩; have n0_ := Aside0.mk (blk_below (g := gb120) (o := .cells #[.slice A0_0 l0_0.length c0_0, .slice A0_1 l0_1.length c0_1, .int .i64 a0_2, .bool a0_3] 25 (0, 0)) (by (with_reducible repeat (first | refine blk_drewN ?_ _ | refine blk_drew ?_ | refine blk_alloc ?_ _)); exact BK120.out) hb); have n1_ := Aside0.mk (blk_below (g := gb121) (o := .cells #[.slice none 0 0, .slice none 0 0, .int .i64 0, .bool false] 25 (0, 0)) (by (with_reducible repeat (first | refine blk_drewN ?_ _ | refine blk_drew ?_ | refine blk_alloc ?_ _)); exact BK121.out) hb); have n2_ := Aside0.mk (below_step (by repeat (first | (with_reducible first | exact HB.out | apply below_alloc | apply pw_below_drewN | apply below_drew1 | refine below_set ?_ GE120.out | refine below_set ?_ GE121.out) | exact HB.out)) hb); clear BK120; clear BK121; clear HB; have BK120 := n0_; have BK121 := n1_; have HB := n2_; clear n0_ n1_ n2_; (try clear hb); (try clear hb2); (try clear hk); (try clear hi); have hcz13_0 : w12.cell? ⟨gb120, 0, none⟩ = some (.slice A0_0 l0_0.length c0_0) := (blk_cell BK120.out 0).trans rfl; have hcz13_1 : w12.cell? ⟨gb120, 1, none⟩ = some (.slice A0_1 l0_1.length c0_1) := (blk_cell BK120.out 1).trans rfl; have hcz13_2 : w12.cell? ⟨gb120, 2, none⟩ = some (.int .i64 a0_2) := (blk_cell BK120.out 2).trans rfl; have hcz13_3 : w12.cell? ⟨gb120, 3, none⟩ = some (.bool a0_3) := (blk_cell BK120.out 3).trans rfl; have hfz13_0 := blk_frozen BK120.out 0; have hfz13_1 := blk_frozen BK120.out 1; have hfz13_2 := blk_frozen BK120.out 2; have hfz13_3 := blk_frozen BK120.out 3) | ((with_reducible refine gate_callee (f := 8) rfl ?_); refine goesL_ (some 13) rfl rfl Try.func8 (by kernel_rfl) rfl #[.agg #[.slice A0_0 l0_0.length c0_0, .slice A0_1 l0_1.length c0_1, .int .i64 a0_2, .bool a0_3]] rfl (by (try simp only [List.map_toArray, List.map_cons, List.map_nil]); first | done | rfl | (simp only [List.length_drop, List.length_take]; rfl)) ?_; (with_reducible refine (spoorref03_Copy.calls _ _ l0_0 _ _ l0_1 a0_2 a0_3 t123 t126 t129 true _ ?side1 ?side2 ?side3 ?side4 A6.out).mono ?_); (case side1 => repeat (first | exact (Kd.C_below HR0_0.out HB.out) | (with_reducible refine Kd.C_alloc ?_ _) | (with_reducible refine Kd.C_drewN ?_ _) | (with_reducible refine Kd.C_drew ?_))); (case side2 => exact HC0_0.out); (case side3 => repeat (first | exact (Kd.C_below HR0_1.out HB.out) | (with_reducible refine Kd.C_alloc ?_ _) | (with_reducible refine Kd.C_drewN ?_ _) | (with_reducible refine Kd.C_drew ?_))); (case side4 => exact HC0_1.out); rintro e w14 ⟨v124, v127, rfl, ho0, ho1, hb⟩; refine ⟨_, rfl, ?_⟩; have n0_ := Aside0.mk (Kd.R_lower ho0 (below_size (by repeat (first | (with_reducible first | exact HB.out | apply below_alloc | apply pw_below_drewN | apply below_drew1 | refine below_set ?_ GE120.out | refine below_set ?_ GE121.out) | exact HB.out)))); have n1_ := Aside0.mk (Kd.R_lower ho1 (below_size (by repeat (first | (with_reducible first | exact HB.out | apply below_alloc | apply pw_below_drewN | apply below_drew1 | refine below_set ?_ GE120.out | refine below_set ?_ GE121.out) | exact HB.out)))); have n2_ := Aside0.mk (blk_below (g := gb120) (o := .cells #[.slice A0_0 l0_0.length c0_0, .slice A0_1 l0_1.length c0_1, .int .i64 a0_2, .bool a0_3] 25 (0, 0)) (by (with_reducible repeat (first | refine blk_drewN ?_ _ | refine blk_drew ?_ | refine blk_alloc ?_ _)); exact BK120.out) hb); have n3_ := Aside0.mk (blk_below (g := gb121) (o := .cells #[.slice none 0 0, .slice none 0 0, .int .i64 0, .bool false] 25 (0, 0)) (by (with_reducible repeat (first | refine blk_drewN ?_ _ | refine blk_drew ?_ | refine blk_alloc ?_ _)); exact BK121.out) hb); have n4_ := Aside0.mk (below_step (by repeat (first | (with_reducible first | exact HB.out | apply below_alloc | apply pw_below_drewN | apply below_drew1 | refine below_set ?_ GE120.out | refine below_set ?_ GE121.out) | exact HB.out)) hb); clear BK120; clear BK121; clear HB; have HO125 := n0_; have HO128 := n1_; have BK120 := n2_; have BK121 := n3_; have HB := n4_; clear n0_ n1_ n2_ n3_ n4_; (try clear hb); (try clear hb2); (try clear hk); (try clear hi); (try clear ho0); (try clear ho1); obtain ⟨Ao15, co15, eo15⟩ := Kd.R_slice HO125.out; subst eo15; have hcz16_0 : w14.cell? ⟨gb120, 0, none⟩ = some (.slice A0_0 l0_0.length c0_0) := (blk_cell BK120.out 0).trans rfl; have hcz16_1 : w14.cell? ⟨gb120, 1, none⟩ = some (.slice A0_1 l0_1.length c0_1) := (blk_cell BK120.out 1).trans rfl; have hcz16_2 : w14.cell? ⟨gb120, 2, none⟩ = some (.int .i64 a0_2) := (blk_cell BK120.out 2).trans rfl; have hcz16_3 : w14.cell? ⟨gb120, 3, none⟩ = some (.bool a0_3) := (blk_cell BK120.out 3).trans rfl; have hfz16_0 := blk_frozen BK120.out 0; have hfz16_1 := blk_frozen BK120.out 1; have hfz16_2 := blk_frozen BK120.out 2; have hfz16_3 := blk_frozen BK120.out 3; obtain ⟨Ao17, co17, eo17⟩ := Kd.R_slice HO128.out; subst eo17; have hcz18_0 : w14.cell? ⟨gb121, 0, none⟩ = some (.slice none 0 0) := (blk_cell BK121.out 0).trans rfl; have hcz18_1 : w14.cell? ⟨gb121, 1, none⟩ = some (.slice none 0 0) := (blk_cell BK121.out 1).trans rfl; have hcz18_2 : w14.cell? ⟨gb121, 2, none⟩ = some (.int .i64 0) := (blk_cell BK121.out 2).trans rfl; have hcz18_3 : w14.cell? ⟨gb121, 3, none⟩ = some (.bool false) := (blk_cell BK121.out 3).trans rfl; have hfz18_0 := blk_frozen BK121.out 0; have hfz18_1 := blk_frozen BK121.out 1; have hfz18_2 := blk_frozen BK121.out 2; have hfz18_3 := blk_frozen BK121.out 3))
      refine bodyPost_ret (results_ct rfl _ _ gb121 25 #[.slice Ao15 t123.length co15, .slice Ao17 t126.length co17, .int .i64 t129, .bool true] (0, 0) _ rfl (by (with_reducible repeat (first | refine blk_drewN ?_ _ | refine blk_drew ?_ | refine blk_alloc ?_ _)); refine blk_put (cs := #[.slice Ao15 t123.length co15, .slice Ao17 t126.length co17, .int .i64 t129, .bool false]) ?_ 3 _ rfl; (with_reducible repeat (first | refine blk_drewN ?_ _ | refine blk_drew ?_ | refine blk_alloc ?_ _)); refine blk_put (cs := #[.slice Ao15 t123.length co15, .slice Ao17 t126.length co17, .int .i64 0, .bool false]) ?_ 2 _ rfl; (with_reducible repeat (first | refine blk_drewN ?_ _ | refine blk_drew ?_ | refine blk_alloc ?_ _)); refine blk_put (cs := #[.slice Ao15 t123.length co15, .slice none 0 0, .int .i64 0, .bool false]) ?_ 1 _ rfl; (with_reducible repeat (first | refine blk_drewN ?_ _ | refine blk_drew ?_ | refine blk_alloc ?_ _)); refine blk_put (cs := #[.slice none 0 0, .slice none 0 0, .int .i64 0, .bool false]) ?_ 0 _ rfl; (with_reducible repeat (first | refine blk_drewN ?_ _ | refine blk_drew ?_ | refine blk_alloc ?_ _)); refine blk_far ?_ NB121_120.out _; (with_reducible repeat (first | refine blk_drewN ?_ _ | refine blk_drew ?_ | refine blk_alloc ?_ _)); refine blk_far ?_ NB121_120.out _; (with_reducible repeat (first | refine blk_drewN ?_ _ | refine blk_drew ?_ | refine blk_alloc ?_ _)); refine blk_far ?_ NB121_120.out _; (with_reducible repeat (first | refine blk_drewN ?_ _ | refine blk_drew ?_ | refine blk_alloc ?_ _)); refine blk_far ?_ NB121_120.out _; (with_reducible repeat (first | refine blk_drewN ?_ _ | refine blk_drew ?_ | refine blk_alloc ?_ _)); exact BK121.out) Try.underlying25 rfl (by kernel_rfl)) rfl ?_
      exact ⟨_, _, by first | rfl | (simp [errW_none, errW_some] <;> rfl) | (simp [*, errW_none, errW_some] <;> rfl), by (with_reducible repeat (first | apply Kd.R_alloc | apply Kd.R_drewN | apply Kd.R_drew)); exact Kd.R_mono (Kd.R_far (p := ⟨gb121, 3, none⟩) (Kd.R_far (p := ⟨gb121, 2, none⟩) (Kd.R_far (p := ⟨gb121, 1, none⟩) (Kd.R_far (p := ⟨gb121, 0, none⟩) (Kd.R_far (p := ⟨gb120, 3, none⟩) (Kd.R_far (p := ⟨gb120, 2, none⟩) (Kd.R_far (p := ⟨gb120, 1, none⟩) (Kd.R_far (p := ⟨gb120, 0, none⟩) (Kd.R_types (Kd.R_types HO125.out BK120.out (by decide)) BK121.out (by decide)) (fun _ hk => hk.1.2) (.slice Ao15 t123.length co15)) (fun _ hk => hk.1.2) (.slice Ao17 t126.length co17)) (fun _ hk => hk.1.2) (.int .i64 t129)) (fun _ hk => hk.1.2) (.bool true)) (fun _ hk => hk.2) (.slice Ao15 t123.length co15)) (fun _ hk => hk.2) (.slice Ao17 t126.length co17)) (fun _ hk => hk.2) (.int .i64 t129)) (fun _ hk => hk.2) (.bool true)) (fun _ hk => trivial), by (with_reducible repeat (first | apply Kd.R_alloc | apply Kd.R_drewN | apply Kd.R_drew)); exact Kd.R_mono (Kd.R_far (p := ⟨gb121, 3, none⟩) (Kd.R_far (p := ⟨gb121, 2, none⟩) (Kd.R_far (p := ⟨gb121, 1, none⟩) (Kd.R_far (p := ⟨gb121, 0, none⟩) (Kd.R_far (p := ⟨gb120, 3, none⟩) (Kd.R_far (p := ⟨gb120, 2, none⟩) (Kd.R_far (p := ⟨gb120, 1, none⟩) (Kd.R_far (p := ⟨gb120, 0, none⟩) (Kd.R_types (Kd.R_types HO128.out BK120.out (by decide)) BK121.out (by decide)) (fun _ hk => hk.1.2) (.slice Ao15 t123.length co15)) (fun _ hk => hk.1.2) (.slice Ao17 t126.length co17)) (fun _ hk => hk.1.2) (.int .i64 t129)) (fun _ hk => hk.1.2) (.bool true)) (fun _ hk => hk.2) (.slice Ao15 t123.length co15)) (fun _ hk => hk.2) (.slice Ao17 t126.length co17)) (fun _ hk => hk.2) (.int .i64 t129)) (fun _ hk => hk.2) (.bool true)) (fun _ hk => trivial), by repeat (first | (with_reducible first | exact HB.out | apply below_alloc | apply pw_below_drewN | apply below_drew1 | refine below_set ?_ GE120.out | refine below_set ?_ GE121.out) | exact HB.out)⟩
    · replace c7 := Bool.eq_false_iff.mpr c7
      subst c7
      have H1 : (if a1 < 0 then (spoorref03_Write.j0 k a1 a2 true t123 t126 t129 false) else (spoorref03_Write.j0 k a1 a2 (decide (a1 ≥ (t123.length : Int))) t123 t126 t129 false)) = some (r1, r2, r3, r4, r5) := by rw [if_neg (show ¬ (false = true) by decide)] at H; exact H
      clear H
      have H := H1
      clear H1
      have HC19 := Aside0.mk H
      clear H
      go_enter Try.func10, Try.ntmps10
      go_upto_region 6 with (first | ((with_reducible refine gate_dst (N := 3) rfl ?_); (try (refine gate_guard (by rfl) ?_; dsimp only)); refine box_event ?hg (N := 3) ?hd (cs := #[.slice A0_0 l0_0.length c0_0, .slice A0_1 l0_1.length c0_1, .int .i64 a0_2, .bool a0_3]) (t := 25) ?hr ?_; (case hd => rfl); (case hg => rfl); (case hr => first | (go_simp; done) | (go_simp; rfl)); intro gb120 hg w20 hbox hb; have n0_ := Aside0.mk (below_step (by repeat (first | (with_reducible first | exact HB.out | apply below_alloc | apply pw_below_drewN | apply below_drew1) | exact HB.out)) hb); have n1_ := Aside0.mk (hbox); have n2_ := Aside0.mk ((by rw [hg]; exact (below_size (by repeat (first | (with_reducible first | exact HB.out | apply below_alloc | apply pw_below_drewN | apply below_drew1) | exact HB.out))) : w.heap.size ≤ gb120)); have n3_ := Aside0.mk ((by rw [hg]; exact (below_size (by repeat (first | (with_reducible first | exact HB.out | apply below_alloc | apply pw_below_drewN | apply below_drew1) | exact HB.out))) : w.heap.size ≤ gb120)); clear HB; have HB := n0_; have BK120 := n1_; have GW120 := n2_; have GE120 := n3_; clear n0_ n1_ n2_ n3_; clear hb hbox hg) | ((with_reducible refine gate_dst (N := 6) rfl ?_); (try (refine gate_guard (by rfl) ?_; dsimp only)); refine box_event ?hg (N := 6) ?hd (cs := #[.slice none 0 0, .slice none 0 0, .int .i64 0, .bool false]) (t := 25) ?hr ?_; (case hd => rfl); (case hg => rfl); (case hr => first | (go_simp; done) | (go_simp; rfl)); intro gb121 hg w21 hbox hb; have n0_ := Aside0.mk (blk_below (g := gb120) (o := .cells #[.slice A0_0 l0_0.length c0_0, .slice A0_1 l0_1.length c0_1, .int .i64 a0_2, .bool a0_3] 25 (0, 0)) (by (with_reducible repeat (first | refine blk_drewN ?_ _ | refine blk_drew ?_ | refine blk_alloc ?_ _)); exact BK120.out) hb); have n1_ := Aside0.mk (below_step (by repeat (first | (with_reducible first | exact HB.out | apply below_alloc | apply pw_below_drewN | apply below_drew1 | refine below_set ?_ GE120.out) | exact HB.out)) hb); have n2_ := Aside0.mk (hbox); have n3_ := Aside0.mk ((by rw [hg]; exact (below_size (by repeat (first | (with_reducible first | exact HB.out | apply below_alloc | apply pw_below_drewN | apply below_drew1 | refine below_set ?_ GE120.out) | exact HB.out))) : w.heap.size ≤ gb121)); have n4_ := Aside0.mk ((by rw [hg]; exact (below_size (by repeat (first | (with_reducible first | exact HB.out | apply below_alloc | apply pw_below_drewN | apply below_drew1 | refine below_set ?_ GE120.out) | exact HB.out))) : w.heap.size ≤ gb121)); have n5_ := Aside0.mk ((by rw [hg]; exact Nat.ne_of_lt (blk_lt (g := gb120) (o := .cells #[.slice A0_0 l0_0.length c0_0, .slice A0_1 l0_1.length c0_1, .int .i64 a0_2, .bool a0_3] 25 (0, 0)) (by (with_reducible repeat (first | refine blk_drewN ?_ _ | refine blk_drew ?_ | refine blk_alloc ?_ _)); exact BK120.out)) : gb120 ≠ gb121)); have n6_ := Aside0.mk ((by rw [hg]; exact Nat.ne_of_gt (blk_lt (g := gb120) (o := .cells #[.slice A0_0 l0_0.length c0_0, .slice A0_1 l0_1.length c0_1, .int .i64 a0_2, .bool a0_3] 25 (0, 0)) (by (with_reducible repeat (first | refine blk_drewN ?_ _ | refine blk_drew ?_ | refine blk_alloc ?_ _)); exact BK120.out)) : gb121 ≠ gb120)); clear BK120; clear HB; have BK120 := n0_; have HB := n1_; have BK121 := n2_; have GW121 := n3_; have GE121 := n4_; have NB120_121 := n5_; have NB121_120 := n6_; clear n0_ n1_ n2_ n3_ n4_ n5_ n6_; clear hb hbox hg; have hnb22 := NB120_121.out; have hnc22 := NB121_120.out; have hcz23_0 : w21.cell? ⟨gb120, 0, none⟩ = some (.slice A0_0 l0_0.length c0_0) := (blk_cell BK120.out 0).trans rfl; have hcz23_1 : w21.cell? ⟨gb120, 1, none⟩ = some (.slice A0_1 l0_1.length c0_1) := (blk_cell BK120.out 1).trans rfl; have hcz23_2 : w21.cell? ⟨gb120, 2, none⟩ = some (.int .i64 a0_2) := (blk_cell BK120.out 2).trans rfl; have hcz23_3 : w21.cell? ⟨gb120, 3, none⟩ = some (.bool a0_3) := (blk_cell BK120.out 3).trans rfl; have hfz23_0 := blk_frozen BK120.out 0; have hfz23_1 := blk_frozen BK120.out 1; have hfz23_2 := blk_frozen BK120.out 2; have hfz23_3 := blk_frozen BK120.out 3) | ((with_reducible refine gate_callee (f := 18) rfl ?_); refine goesL_ (some 9) rfl rfl Try.func18 (by kernel_rfl) rfl #[.agg #[.slice A0_0 l0_0.length c0_0, .slice A0_1 l0_1.length c0_1, .int .i64 a0_2, .bool a0_3]] rfl (by (try simp only [List.map_toArray, List.map_cons, List.map_nil]); first | done | rfl | (simp only [List.length_drop, List.length_take]; rfl)) ?_; (with_reducible refine (spoorref03_Check.calls k _ _ l0_0 _ _ l0_1 a0_2 a0_3 t122 _ ?side1 ?side2 ?side3 ?side4 A4.out).mono ?_); (case side1 => repeat (first | exact (Kd.C_below HR0_0.out HB.out) | (with_reducible refine Kd.C_alloc ?_ _) | (with_reducible refine Kd.C_drewN ?_ _) | (with_reducible refine Kd.C_drew ?_))); (case side2 => exact HC0_0.out); (case side3 => repeat (first | exact (Kd.C_below HR0_1.out HB.out) | (with_reducible refine Kd.C_alloc ?_ _) | (with_reducible refine Kd.C_drewN ?_ _) | (with_reducible refine Kd.C_drew ?_))); (case side4 => exact HC0_1.out); rintro e w24 ⟨rfl, hb⟩; refine ⟨_, rfl, ?_⟩; have n0_ := Aside0.mk (blk_below (g := gb120) (o := .cells #[.slice A0_0 l0_0.length c0_0, .slice A0_1 l0_1.length c0_1, .int .i64 a0_2, .bool a0_3] 25 (0, 0)) (by (with_reducible repeat (first | refine blk_drewN ?_ _ | refine blk_drew ?_ | refine blk_alloc ?_ _)); exact BK120.out) hb); have n1_ := Aside0.mk (blk_below (g := gb121) (o := .cells #[.slice none 0 0, .slice none 0 0, .int .i64 0, .bool false] 25 (0, 0)) (by (with_reducible repeat (first | refine blk_drewN ?_ _ | refine blk_drew ?_ | refine blk_alloc ?_ _)); exact BK121.out) hb); have n2_ := Aside0.mk (below_step (by repeat (first | (with_reducible first | exact HB.out | apply below_alloc | apply pw_below_drewN | apply below_drew1 | refine below_set ?_ GE120.out | refine below_set ?_ GE121.out) | exact HB.out)) hb); clear BK120; clear BK121; clear HB; have BK120 := n0_; have BK121 := n1_; have HB := n2_; clear n0_ n1_ n2_; (try clear hb); (try clear hb2); (try clear hk); (try clear hi); have hcz25_0 : w24.cell? ⟨gb120, 0, none⟩ = some (.slice A0_0 l0_0.length c0_0) := (blk_cell BK120.out 0).trans rfl; have hcz25_1 : w24.cell? ⟨gb120, 1, none⟩ = some (.slice A0_1 l0_1.length c0_1) := (blk_cell BK120.out 1).trans rfl; have hcz25_2 : w24.cell? ⟨gb120, 2, none⟩ = some (.int .i64 a0_2) := (blk_cell BK120.out 2).trans rfl; have hcz25_3 : w24.cell? ⟨gb120, 3, none⟩ = some (.bool a0_3) := (blk_cell BK120.out 3).trans rfl; have hfz25_0 := blk_frozen BK120.out 0; have hfz25_1 := blk_frozen BK120.out 1; have hfz25_2 := blk_frozen BK120.out 2; have hfz25_3 := blk_frozen BK120.out 3) | ((with_reducible refine gate_callee (f := 8) rfl ?_); refine goesL_ (some 13) rfl rfl Try.func8 (by kernel_rfl) rfl #[.agg #[.slice A0_0 l0_0.length c0_0, .slice A0_1 l0_1.length c0_1, .int .i64 a0_2, .bool a0_3]] rfl (by (try simp only [List.map_toArray, List.map_cons, List.map_nil]); first | done | rfl | (simp only [List.length_drop, List.length_take]; rfl)) ?_; (with_reducible refine (spoorref03_Copy.calls _ _ l0_0 _ _ l0_1 a0_2 a0_3 t123 t126 t129 false _ ?side1 ?side2 ?side3 ?side4 A6.out).mono ?_); (case side1 => repeat (first | exact (Kd.C_below HR0_0.out HB.out) | (with_reducible refine Kd.C_alloc ?_ _) | (with_reducible refine Kd.C_drewN ?_ _) | (with_reducible refine Kd.C_drew ?_))); (case side2 => exact HC0_0.out); (case side3 => repeat (first | exact (Kd.C_below HR0_1.out HB.out) | (with_reducible refine Kd.C_alloc ?_ _) | (with_reducible refine Kd.C_drewN ?_ _) | (with_reducible refine Kd.C_drew ?_))); (case side4 => exact HC0_1.out); rintro e w26 ⟨v124, v127, rfl, ho0, ho1, hb⟩; refine ⟨_, rfl, ?_⟩; have n0_ := Aside0.mk (Kd.R_lower ho0 (below_size (by repeat (first | (with_reducible first | exact HB.out | apply below_alloc | apply pw_below_drewN | apply below_drew1 | refine below_set ?_ GE120.out | refine below_set ?_ GE121.out) | exact HB.out)))); have n1_ := Aside0.mk (Kd.R_lower ho1 (below_size (by repeat (first | (with_reducible first | exact HB.out | apply below_alloc | apply pw_below_drewN | apply below_drew1 | refine below_set ?_ GE120.out | refine below_set ?_ GE121.out) | exact HB.out)))); have n2_ := Aside0.mk (blk_below (g := gb120) (o := .cells #[.slice A0_0 l0_0.length c0_0, .slice A0_1 l0_1.length c0_1, .int .i64 a0_2, .bool a0_3] 25 (0, 0)) (by (with_reducible repeat (first | refine blk_drewN ?_ _ | refine blk_drew ?_ | refine blk_alloc ?_ _)); exact BK120.out) hb); have n3_ := Aside0.mk (blk_below (g := gb121) (o := .cells #[.slice none 0 0, .slice none 0 0, .int .i64 0, .bool false] 25 (0, 0)) (by (with_reducible repeat (first | refine blk_drewN ?_ _ | refine blk_drew ?_ | refine blk_alloc ?_ _)); exact BK121.out) hb); have n4_ := Aside0.mk (below_step (by repeat (first | (with_reducible first | exact HB.out | apply below_alloc | apply pw_below_drewN | apply below_drew1 | refine below_set ?_ GE120.out | refine below_set ?_ GE121.out) | exact HB.out)) hb); clear BK120; clear BK121; clear HB; have HO125 := n0_; have HO128 := n1_; have BK120 := n2_; have BK121 := n3_; have HB := n4_; clear n0_ n1_ n2_ n3_ n4_; (try clear hb); (try clear hb2); (try clear hk); (try clear hi); (try clear ho0); (try clear ho1); obtain ⟨Ao27, co27, eo27⟩ := Kd.R_slice HO125.out; subst eo27; have hcz28_0 : w26.cell? ⟨gb120, 0, none⟩ = some (.slice A0_0 l0_0.length c0_0) := (blk_cell BK120.out 0).trans rfl; have hcz28_1 : w26.cell? ⟨gb120, 1, none⟩ = some (.slice A0_1 l0_1.length c0_1) := (blk_cell BK120.out 1).trans rfl; have hcz28_2 : w26.cell? ⟨gb120, 2, none⟩ = some (.int .i64 a0_2) := (blk_cell BK120.out 2).trans rfl; have hcz28_3 : w26.cell? ⟨gb120, 3, none⟩ = some (.bool a0_3) := (blk_cell BK120.out 3).trans rfl; have hfz28_0 := blk_frozen BK120.out 0; have hfz28_1 := blk_frozen BK120.out 1; have hfz28_2 := blk_frozen BK120.out 2; have hfz28_3 := blk_frozen BK120.out 3; obtain ⟨Ao29, co29, eo29⟩ := Kd.R_slice HO128.out; subst eo29))
      (try simp only [Act.put, List.setIfInBounds_toArray, List.set_cons_zero, List.set_cons_succ])
      go_cut [25] (fun v25 wc => ∃ (kq : Nat) (x25_18 : Bool), v25 = .bool x25_18 ∧ Aside0 (spoorref03_Write.j0 kq a1 a2 x25_18 t123 t126 t129 false = some (r1, r2, r3, r4, r5)) ∧ Aside0 (kq ≤ k) ∧ Aside0 (Kd.R Kd.string 9 wc w.heap.size (fun _ => True) (.slice Ao27 t123.length co27) t123) ∧ Aside0 (Kd.R k40 40 wc w.heap.size (fun _ => True) (.slice Ao29 t126.length co29) t126) ∧ Aside0 (wc.heap[gb120]? = some (.cells #[(.slice Ao27 t123.length co27), (.slice Ao29 t126.length co29), .int .i64 t129, .bool false] 25 (0, 0))) ∧ Aside0 (wc.heap[gb121]? = some (.cells #[(.slice none 0 0), (.slice none 0 0), .int .i64 0, .bool false] 25 (0, 0))) ∧ Aside0 (Below w.heap.size w wc))
      case first =>
        have H := HC19.out
        clear HC19
        by_cases c30 : a1 < 0
        · rw [if_pos c30] at H
          have c30b0 : decide (a1 < 0) = true := decide_eq_true c30
          clear c30
          (first | rw [c30b0] | (simp only [i64_w, i32_w]; rw [c30b0]) | skip)
          have H' := Aside0.mk H
          clear H
          go_wp2
          go_meet
          case rel => exact ⟨_, (true), (by first | rfl | (simp; done) | (simp [*]; done)), H', ⟨by first | omega | exact Nat.le_refl _⟩, ⟨by (with_reducible repeat (first | apply Kd.R_alloc | apply Kd.R_drewN | apply Kd.R_drew)); exact Kd.R_mono (Kd.R_far (p := ⟨gb120, 3, none⟩) (Kd.R_far (p := ⟨gb120, 2, none⟩) (Kd.R_far (p := ⟨gb120, 1, none⟩) (Kd.R_far (p := ⟨gb120, 0, none⟩) (Kd.R_types HO125.out BK120.out (by decide)) (fun _ hk => hk.2) (.slice Ao27 t123.length co27)) (fun _ hk => hk.2) (.slice Ao29 t126.length co29)) (fun _ hk => hk.2) (.int .i64 t129)) (fun _ hk => hk.2) (.bool false)) (fun _ hk => trivial)⟩, ⟨by (with_reducible repeat (first | apply Kd.R_alloc | apply Kd.R_drewN | apply Kd.R_drew)); exact Kd.R_mono (Kd.R_far (p := ⟨gb120, 3, none⟩) (Kd.R_far (p := ⟨gb120, 2, none⟩) (Kd.R_far (p := ⟨gb120, 1, none⟩) (Kd.R_far (p := ⟨gb120, 0, none⟩) (Kd.R_types HO128.out BK120.out (by decide)) (fun _ hk => hk.2) (.slice Ao27 t123.length co27)) (fun _ hk => hk.2) (.slice Ao29 t126.length co29)) (fun _ hk => hk.2) (.int .i64 t129)) (fun _ hk => hk.2) (.bool false)) (fun _ hk => trivial)⟩, ⟨by (with_reducible repeat (first | refine blk_drewN ?_ _ | refine blk_drew ?_ | refine blk_alloc ?_ _)); refine blk_put (cs := #[.slice Ao27 t123.length co27, .slice Ao29 t126.length co29, .int .i64 t129, .bool a0_3]) ?_ 3 _ rfl; (with_reducible repeat (first | refine blk_drewN ?_ _ | refine blk_drew ?_ | refine blk_alloc ?_ _)); refine blk_put (cs := #[.slice Ao27 t123.length co27, .slice Ao29 t126.length co29, .int .i64 a0_2, .bool a0_3]) ?_ 2 _ rfl; (with_reducible repeat (first | refine blk_drewN ?_ _ | refine blk_drew ?_ | refine blk_alloc ?_ _)); refine blk_put (cs := #[.slice Ao27 t123.length co27, .slice A0_1 l0_1.length c0_1, .int .i64 a0_2, .bool a0_3]) ?_ 1 _ rfl; (with_reducible repeat (first | refine blk_drewN ?_ _ | refine blk_drew ?_ | refine blk_alloc ?_ _)); refine blk_put (cs := #[.slice A0_0 l0_0.length c0_0, .slice A0_1 l0_1.length c0_1, .int .i64 a0_2, .bool a0_3]) ?_ 0 _ rfl; (with_reducible repeat (first | refine blk_drewN ?_ _ | refine blk_drew ?_ | refine blk_alloc ?_ _)); exact BK120.out⟩, ⟨by (with_reducible repeat (first | refine blk_drewN ?_ _ | refine blk_drew ?_ | refine blk_alloc ?_ _)); refine blk_far ?_ NB121_120.out _; (with_reducible repeat (first | refine blk_drewN ?_ _ | refine blk_drew ?_ | refine blk_alloc ?_ _)); refine blk_far ?_ NB121_120.out _; (with_reducible repeat (first | refine blk_drewN ?_ _ | refine blk_drew ?_ | refine blk_alloc ?_ _)); refine blk_far ?_ NB121_120.out _; (with_reducible repeat (first | refine blk_drewN ?_ _ | refine blk_drew ?_ | refine blk_alloc ?_ _)); refine blk_far ?_ NB121_120.out _; (with_reducible repeat (first | refine blk_drewN ?_ _ | refine blk_drew ?_ | refine blk_alloc ?_ _)); exact BK121.out⟩, ⟨by repeat (first | (with_reducible first | exact HB.out | apply below_alloc | apply pw_below_drewN | apply below_drew1 | refine below_set ?_ GE120.out | refine below_set ?_ GE121.out) | exact HB.out)⟩⟩
        · rw [if_neg c30] at H
          have c30b0 : decide (a1 < 0) = false := decide_eq_false c30
          clear c30
          (first | rw [c30b0] | (simp only [i64_w, i32_w]; rw [c30b0]) | skip)
          have H' := Aside0.mk H
          clear H
          have hnb31 := NB120_121.out
          have hnc31 := NB121_120.out
          have hcz32_0 : w26.cell? ⟨gb120, 0, none⟩ = some (.slice A0_0 l0_0.length c0_0) := (blk_cell BK120.out 0).trans rfl
          have hcz32_1 : w26.cell? ⟨gb120, 1, none⟩ = some (.slice A0_1 l0_1.length c0_1) := (blk_cell BK120.out 1).trans rfl
          have hcz32_2 : w26.cell? ⟨gb120, 2, none⟩ = some (.int .i64 a0_2) := (blk_cell BK120.out 2).trans rfl
          have hcz32_3 : w26.cell? ⟨gb120, 3, none⟩ = some (.bool a0_3) := (blk_cell BK120.out 3).trans rfl
          have hfz32_0 := blk_frozen BK120.out 0
          have hfz32_1 := blk_frozen BK120.out 1
          have hfz32_2 := blk_frozen BK120.out 2
          have hfz32_3 := blk_frozen BK120.out 3
          go_wp2
          go_meet
          case rel => exact ⟨_, (decide (a1 ≥ (t123.length : Int))), (by first | rfl | (simp; done) | (simp [*]; done)), H', ⟨by first | omega | exact Nat.le_refl _⟩, ⟨by (with_reducible repeat (first | apply Kd.R_alloc | apply Kd.R_drewN | apply Kd.R_drew)); exact Kd.R_mono (Kd.R_far (p := ⟨gb120, 3, none⟩) (Kd.R_far (p := ⟨gb120, 2, none⟩) (Kd.R_far (p := ⟨gb120, 1, none⟩) (Kd.R_far (p := ⟨gb120, 0, none⟩) (Kd.R_types HO125.out BK120.out (by decide)) (fun _ hk => hk.2) (.slice Ao27 t123.length co27)) (fun _ hk => hk.2) (.slice Ao29 t126.length co29)) (fun _ hk => hk.2) (.int .i64 t129)) (fun _ hk => hk.2) (.bool false)) (fun _ hk => trivial)⟩, ⟨by (with_reducible repeat (first | apply Kd.R_alloc | apply Kd.R_drewN | apply Kd.R_drew)); exact Kd.R_mono (Kd.R_far (p := ⟨gb120, 3, none⟩) (Kd.R_far (p := ⟨gb120, 2, none⟩) (Kd.R_far (p := ⟨gb120, 1, none⟩) (Kd.R_far (p := ⟨gb120, 0, none⟩) (Kd.R_types HO128.out BK120.out (by decide)) (fun _ hk => hk.2) (.slice Ao27 t123.length co27)) (fun _ hk => hk.2) (.slice Ao29 t126.length co29)) (fun _ hk => hk.2) (.int .i64 t129)) (fun _ hk => hk.2) (.bool false)) (fun _ hk => trivial)⟩, ⟨by (with_reducible repeat (first | refine blk_drewN ?_ _ | refine blk_drew ?_ | refine blk_alloc ?_ _)); refine blk_put (cs := #[.slice Ao27 t123.length co27, .slice Ao29 t126.length co29, .int .i64 t129, .bool a0_3]) ?_ 3 _ rfl; (with_reducible repeat (first | refine blk_drewN ?_ _ | refine blk_drew ?_ | refine blk_alloc ?_ _)); refine blk_put (cs := #[.slice Ao27 t123.length co27, .slice Ao29 t126.length co29, .int .i64 a0_2, .bool a0_3]) ?_ 2 _ rfl; (with_reducible repeat (first | refine blk_drewN ?_ _ | refine blk_drew ?_ | refine blk_alloc ?_ _)); refine blk_put (cs := #[.slice Ao27 t123.length co27, .slice A0_1 l0_1.length c0_1, .int .i64 a0_2, .bool a0_3]) ?_ 1 _ rfl; (with_reducible repeat (first | refine blk_drewN ?_ _ | refine blk_drew ?_ | refine blk_alloc ?_ _)); refine blk_put (cs := #[.slice A0_0 l0_0.length c0_0, .slice A0_1 l0_1.length c0_1, .int .i64 a0_2, .bool a0_3]) ?_ 0 _ rfl; (with_reducible repeat (first | refine blk_drewN ?_ _ | refine blk_drew ?_ | refine blk_alloc ?_ _)); exact BK120.out⟩, ⟨by (with_reducible repeat (first | refine blk_drewN ?_ _ | refine blk_drew ?_ | refine blk_alloc ?_ _)); refine blk_far ?_ NB121_120.out _; (with_reducible repeat (first | refine blk_drewN ?_ _ | refine blk_drew ?_ | refine blk_alloc ?_ _)); refine blk_far ?_ NB121_120.out _; (with_reducible repeat (first | refine blk_drewN ?_ _ | refine blk_drew ?_ | refine blk_alloc ?_ _)); refine blk_far ?_ NB121_120.out _; (with_reducible repeat (first | refine blk_drewN ?_ _ | refine blk_drew ?_ | refine blk_alloc ?_ _)); refine blk_far ?_ NB121_120.out _; (with_reducible repeat (first | refine blk_drewN ?_ _ | refine blk_drew ?_ | refine blk_alloc ?_ _)); exact BK121.out⟩, ⟨by repeat (first | (with_reducible first | exact HB.out | apply below_alloc | apply pw_below_drewN | apply below_drew1 | refine below_set ?_ GE120.out | refine below_set ?_ GE121.out) | exact HB.out)⟩⟩
      case rest =>
        clear HC19
        try clear c1
        try clear c2
        try clear p2
        try clear c3
        try clear c5
        try clear c5b0
        try clear c5b1
        try clear c7
        try clear c8
        try clear c10
        try clear c18
        try clear c22
        try clear c30
        try clear c30b0
        try clear c31
        try clear hcz11_0
        try clear hcz11_1
        try clear hcz11_2
        try clear hcz11_3
        try clear hcz13_0
        try clear hcz13_1
        try clear hcz13_2
        try clear hcz13_3
        try clear hcz16_0
        try clear hcz16_1
        try clear hcz16_2
        try clear hcz16_3
        try clear hcz18_0
        try clear hcz18_1
        try clear hcz18_2
        try clear hcz18_3
        try clear hcz23_0
        try clear hcz23_1
        try clear hcz23_2
        try clear hcz23_3
        try clear hcz25_0
        try clear hcz25_1
        try clear hcz25_2
        try clear hcz25_3
        try clear hcz28_0
        try clear hcz28_1
        try clear hcz28_2
        try clear hcz28_3
        try clear hcz32_0
        try clear hcz32_1
        try clear hcz32_2
        try clear hcz32_3
        try clear hfz11_0
        try clear hfz11_1
        try clear hfz11_2
        try clear hfz11_3
        try clear hfz13_0
        try clear hfz13_1
        try clear hfz13_2
        try clear hfz13_3
        try clear hfz16_0
        try clear hfz16_1
        try clear hfz16_2
        try clear hfz16_3
        try clear hfz18_0
        try clear hfz18_1
        try clear hfz18_2
        try clear hfz18_3
        try clear hfz23_0
        try clear hfz23_1
        try clear hfz23_2
        try clear hfz23_3
        try clear hfz25_0
        try clear hfz25_1
        try clear hfz25_2
        try clear hfz25_3
        try clear hfz28_0
        try clear hfz28_1
        try clear hfz28_2
        try clear hfz28_3
        try clear hfz32_0
        try clear hfz32_1
        try clear hfz32_2
        try clear hfz32_3
        obtain ⟨kq, x25_18, rfl, HA, HJ18, HO_121000, HO_121001, BK120, BK121, HB⟩ := hcut
        cases kq with
        | zero => exact absurd HA.out (by simp [spoorref03_Write.j0])
        | succ kj18 =>
          have H := HA.out
          clear HA
          simp only [spoorref03_Write.j0] at H
          by_cases c33 : x25_18 = true
          · subst c33
            have H1 : (some (t123, t126, t129, false, 1)) = some (r1, r2, r3, r4, r5) := by rw [if_pos rfl] at H; exact H
            clear H
            have H := H1
            clear H1
            simp only [Option.some.injEq, Prod.mk.injEq] at H
            obtain ⟨rfl, rfl, rfl, rfl, rfl⟩ := H
            have hnb34 := NB120_121.out
            have hnc34 := NB121_120.out
            have hcz35_0 : wc.cell? ⟨gb120, 0, none⟩ = some (.slice Ao27 t123.length co27) := (blk_cell BK120.out 0).trans rfl
            have hcz35_1 : wc.cell? ⟨gb120, 1, none⟩ = some (.slice Ao29 t126.length co29) := (blk_cell BK120.out 1).trans rfl
            have hcz35_2 : wc.cell? ⟨gb120, 2, none⟩ = some (.int .i64 t129) := (blk_cell BK120.out 2).trans rfl
            have hcz35_3 : wc.cell? ⟨gb120, 3, none⟩ = some (.bool false) := (blk_cell BK120.out 3).trans rfl
            have hfz35_0 := blk_frozen BK120.out 0
            have hfz35_1 := blk_frozen BK120.out 1
            have hfz35_2 := blk_frozen BK120.out 2
            have hfz35_3 := blk_frozen BK120.out 3
            have hcz36_0 : wc.cell? ⟨gb121, 0, none⟩ = some (.slice none 0 0) := (blk_cell BK121.out 0).trans rfl
            have hcz36_1 : wc.cell? ⟨gb121, 1, none⟩ = some (.slice none 0 0) := (blk_cell BK121.out 1).trans rfl
            have hcz36_2 : wc.cell? ⟨gb121, 2, none⟩ = some (.int .i64 0) := (blk_cell BK121.out 2).trans rfl
            have hcz36_3 : wc.cell? ⟨gb121, 3, none⟩ = some (.bool false) := (blk_cell BK121.out 3).trans rfl
            have hfz36_0 := blk_frozen BK121.out 0
            have hfz36_1 := blk_frozen BK121.out 1
            have hfz36_2 := blk_frozen BK121.out 2
            have hfz36_3 := blk_frozen BK121.out 3
            go_wp2
            refine bodyPost_ret (results_ct rfl _ _ gb121 25 #[.slice Ao27 t123.length co27, .slice Ao29 t126.length co29, .int .i64 t129, .bool false] (0, 0) _ rfl (by (with_reducible repeat (first | refine blk_drewN ?_ _ | refine blk_drew ?_ | refine blk_alloc ?_ _)); refine blk_put (cs := #[.slice Ao27 t123.length co27, .slice Ao29 t126.length co29, .int .i64 t129, .bool false]) ?_ 3 _ rfl; (with_reducible repeat (first | refine blk_drewN ?_ _ | refine blk_drew ?_ | refine blk_alloc ?_ _)); refine blk_put (cs := #[.slice Ao27 t123.length co27, .slice Ao29 t126.length co29, .int .i64 0, .bool false]) ?_ 2 _ rfl; (with_reducible repeat (first | refine blk_drewN ?_ _ | refine blk_drew ?_ | refine blk_alloc ?_ _)); refine blk_put (cs := #[.slice Ao27 t123.length co27, .slice none 0 0, .int .i64 0, .bool false]) ?_ 1 _ rfl; (with_reducible repeat (first | refine blk_drewN ?_ _ | refine blk_drew ?_ | refine blk_alloc ?_ _)); refine blk_put (cs := #[.slice none 0 0, .slice none 0 0, .int .i64 0, .bool false]) ?_ 0 _ rfl; (with_reducible repeat (first | refine blk_drewN ?_ _ | refine blk_drew ?_ | refine blk_alloc ?_ _)); exact BK121.out) Try.underlying25 rfl (by kernel_rfl)) rfl ?_
            exact ⟨_, _, by first | rfl | (simp [errW_none, errW_some] <;> rfl) | (simp [*, errW_none, errW_some] <;> rfl), by (with_reducible repeat (first | apply Kd.R_alloc | apply Kd.R_drewN | apply Kd.R_drew)); exact Kd.R_mono (Kd.R_far (p := ⟨gb121, 3, none⟩) (Kd.R_far (p := ⟨gb121, 2, none⟩) (Kd.R_far (p := ⟨gb121, 1, none⟩) (Kd.R_far (p := ⟨gb121, 0, none⟩) (Kd.R_types HO_121000.out BK121.out (by decide)) (fun _ hk => hk.2) (.slice Ao27 t123.length co27)) (fun _ hk => hk.2) (.slice Ao29 t126.length co29)) (fun _ hk => hk.2) (.int .i64 t129)) (fun _ hk => hk.2) (.bool false)) (fun _ hk => trivial), by (with_reducible repeat (first | apply Kd.R_alloc | apply Kd.R_drewN | apply Kd.R_drew)); exact Kd.R_mono (Kd.R_far (p := ⟨gb121, 3, none⟩) (Kd.R_far (p := ⟨gb121, 2, none⟩) (Kd.R_far (p := ⟨gb121, 1, none⟩) (Kd.R_far (p := ⟨gb121, 0, none⟩) (Kd.R_types HO_121001.out BK121.out (by decide)) (fun _ hk => hk.2) (.slice Ao27 t123.length co27)) (fun _ hk => hk.2) (.slice Ao29 t126.length co29)) (fun _ hk => hk.2) (.int .i64 t129)) (fun _ hk => hk.2) (.bool false)) (fun _ hk => trivial), by repeat (first | (with_reducible first | exact HB.out | apply below_alloc | apply pw_below_drewN | apply below_drew1 | refine below_set ?_ GE120.out | refine below_set ?_ GE121.out) | exact HB.out)⟩
          · replace c33 := Bool.eq_false_iff.mpr c33
            subst c33
            have H1 : (if (a2.size : Int) = 128 then (if (t126.length : Int) = 4096 then (some (t123, t126, t129, false, 8)) else (if t126.length < 5864062014805 then ((some (t126 ++ [(⟨a1, a2⟩ : S40)] : List (S40))).bind fun y131 => (if t129 = 0 then (some (t123, y131, t129, true, 9)) else (if t129 > 0 then (some (t123, y131, wrap64 (t129 - 1), false, 0)) else (some (t123, y131, t129, false, 0))))) else (none))) else (some (t123, t126, t129, false, 11))) = some (r1, r2, r3, r4, r5) := by rw [if_neg (show ¬ (false = true) by decide)] at H; exact H
            clear H
            have H := H1
            clear H1
            by_cases c37 : (a2.size : Int) = 128
            · rw [if_pos c37] at H
              have c37b0 : ((a2.size : Int) == 128) = true := beq_iff_eq.mpr c37
              have c37b1 : ((a2.size : Int) != 128) = false := bne_eq_false_iff_eq.mpr c37
              clear c37
              by_cases c38 : (t126.length : Int) = 4096
              · rw [if_pos c38] at H
                have c38b0 : ((t126.length : Int) == 4096) = true := beq_iff_eq.mpr c38
                have c38b1 : ((t126.length : Int) != 4096) = false := bne_eq_false_iff_eq.mpr c38
                clear c38
                simp only [Option.some.injEq, Prod.mk.injEq] at H
                obtain ⟨rfl, rfl, rfl, rfl, rfl⟩ := H
                have hnb39 := NB120_121.out
                have hnc39 := NB121_120.out
                have hcz40_0 : wc.cell? ⟨gb120, 0, none⟩ = some (.slice Ao27 t123.length co27) := (blk_cell BK120.out 0).trans rfl
                have hcz40_1 : wc.cell? ⟨gb120, 1, none⟩ = some (.slice Ao29 t126.length co29) := (blk_cell BK120.out 1).trans rfl
                have hcz40_2 : wc.cell? ⟨gb120, 2, none⟩ = some (.int .i64 t129) := (blk_cell BK120.out 2).trans rfl
                have hcz40_3 : wc.cell? ⟨gb120, 3, none⟩ = some (.bool false) := (blk_cell BK120.out 3).trans rfl
                have hfz40_0 := blk_frozen BK120.out 0
                have hfz40_1 := blk_frozen BK120.out 1
                have hfz40_2 := blk_frozen BK120.out 2
                have hfz40_3 := blk_frozen BK120.out 3
                have hcz41_0 : wc.cell? ⟨gb121, 0, none⟩ = some (.slice none 0 0) := (blk_cell BK121.out 0).trans rfl
                have hcz41_1 : wc.cell? ⟨gb121, 1, none⟩ = some (.slice none 0 0) := (blk_cell BK121.out 1).trans rfl
                have hcz41_2 : wc.cell? ⟨gb121, 2, none⟩ = some (.int .i64 0) := (blk_cell BK121.out 2).trans rfl
                have hcz41_3 : wc.cell? ⟨gb121, 3, none⟩ = some (.bool false) := (blk_cell BK121.out 3).trans rfl
                have hfz41_0 := blk_frozen BK121.out 0
                have hfz41_1 := blk_frozen BK121.out 1
                have hfz41_2 := blk_frozen BK121.out 2
                have hfz41_3 := blk_frozen BK121.out 3
                go_wp2
                refine bodyPost_ret (results_ct rfl _ _ gb121 25 #[.slice Ao27 t123.length co27, .slice Ao29 t126.length co29, .int .i64 t129, .bool false] (0, 0) _ rfl (by (with_reducible repeat (first | refine blk_drewN ?_ _ | refine blk_drew ?_ | refine blk_alloc ?_ _)); refine blk_put (cs := #[.slice Ao27 t123.length co27, .slice Ao29 t126.length co29, .int .i64 t129, .bool false]) ?_ 3 _ rfl; (with_reducible repeat (first | refine blk_drewN ?_ _ | refine blk_drew ?_ | refine blk_alloc ?_ _)); refine blk_put (cs := #[.slice Ao27 t123.length co27, .slice Ao29 t126.length co29, .int .i64 0, .bool false]) ?_ 2 _ rfl; (with_reducible repeat (first | refine blk_drewN ?_ _ | refine blk_drew ?_ | refine blk_alloc ?_ _)); refine blk_put (cs := #[.slice Ao27 t123.length co27, .slice none 0 0, .int .i64 0, .bool false]) ?_ 1 _ rfl; (with_reducible repeat (first | refine blk_drewN ?_ _ | refine blk_drew ?_ | refine blk_alloc ?_ _)); refine blk_put (cs := #[.slice none 0 0, .slice none 0 0, .int .i64 0, .bool false]) ?_ 0 _ rfl; (with_reducible repeat (first | refine blk_drewN ?_ _ | refine blk_drew ?_ | refine blk_alloc ?_ _)); exact BK121.out) Try.underlying25 rfl (by kernel_rfl)) rfl ?_
                exact ⟨_, _, by first | rfl | (simp [errW_none, errW_some] <;> rfl) | (simp [*, errW_none, errW_some] <;> rfl), by (with_reducible repeat (first | apply Kd.R_alloc | apply Kd.R_drewN | apply Kd.R_drew)); exact Kd.R_mono (Kd.R_far (p := ⟨gb121, 3, none⟩) (Kd.R_far (p := ⟨gb121, 2, none⟩) (Kd.R_far (p := ⟨gb121, 1, none⟩) (Kd.R_far (p := ⟨gb121, 0, none⟩) (Kd.R_types HO_121000.out BK121.out (by decide)) (fun _ hk => hk.2) (.slice Ao27 t123.length co27)) (fun _ hk => hk.2) (.slice Ao29 t126.length co29)) (fun _ hk => hk.2) (.int .i64 t129)) (fun _ hk => hk.2) (.bool false)) (fun _ hk => trivial), by (with_reducible repeat (first | apply Kd.R_alloc | apply Kd.R_drewN | apply Kd.R_drew)); exact Kd.R_mono (Kd.R_far (p := ⟨gb121, 3, none⟩) (Kd.R_far (p := ⟨gb121, 2, none⟩) (Kd.R_far (p := ⟨gb121, 1, none⟩) (Kd.R_far (p := ⟨gb121, 0, none⟩) (Kd.R_types HO_121001.out BK121.out (by decide)) (fun _ hk => hk.2) (.slice Ao27 t123.length co27)) (fun _ hk => hk.2) (.slice Ao29 t126.length co29)) (fun _ hk => hk.2) (.int .i64 t129)) (fun _ hk => hk.2) (.bool false)) (fun _ hk => trivial), by repeat (first | (with_reducible first | exact HB.out | apply below_alloc | apply pw_below_drewN | apply below_drew1 | refine below_set ?_ GE120.out | refine below_set ?_ GE121.out) | exact HB.out)⟩
              · rw [if_neg c38] at H
                have c38b0 : ((t126.length : Int) == 4096) = false := beq_eq_false_iff_ne.mpr c38
                have c38b1 : ((t126.length : Int) != 4096) = true := bne_iff_ne.mpr c38
                by_cases c42 : t126.length < 5864062014805
                · rw [if_pos c42] at H
                  have LMc42 := Aside0.mk c42
                  clear c42
                  obtain ⟨y131, hy131⟩ : ∃ y_ : List (S40), y_ = (t126 ++ [(⟨a1, a2⟩ : S40)]) := ⟨_, rfl⟩
                  replace H : (if t129 = 0 then (some (t123, y131, t129, true, 9)) else (if t129 > 0 then (some (t123, y131, wrap64 (t129 - 1), false, 0)) else (some (t123, y131, t129, false, 0)))) = some (r1, r2, r3, r4, r5) := by first | (rw [hy131]; with_reducible exact H) | (have H2_ := (Option.bind_some _ _).symm.trans H; rw [hy131]; with_reducible exact H2_) | (have H2_ := (Option.bind_some _ _).symm.trans H; with_reducible exact H2_) | with_reducible exact H | (rw [hy131]; exact H) | exact H
                  have Ny131 := Aside0.mk hy131
                  clear hy131
                  by_cases c43 : t129 = 0
                  · rw [if_pos c43] at H
                    have c43b0 : (t129 == 0) = true := beq_iff_eq.mpr c43
                    have c43b1 : (t129 != 0) = false := bne_eq_false_iff_eq.mpr c43
                    clear c43
                    simp only [Option.some.injEq, Prod.mk.injEq] at H
                    obtain ⟨rfl, rfl, rfl, rfl, rfl⟩ := H
                    have hnb44 := NB120_121.out
                    have hnc44 := NB121_120.out
                    have hcz45_0 : wc.cell? ⟨gb120, 0, none⟩ = some (.slice Ao27 t123.length co27) := (blk_cell BK120.out 0).trans rfl
                    have hcz45_1 : wc.cell? ⟨gb120, 1, none⟩ = some (.slice Ao29 t126.length co29) := (blk_cell BK120.out 1).trans rfl
                    have hcz45_2 : wc.cell? ⟨gb120, 2, none⟩ = some (.int .i64 t129) := (blk_cell BK120.out 2).trans rfl
                    have hcz45_3 : wc.cell? ⟨gb120, 3, none⟩ = some (.bool false) := (blk_cell BK120.out 3).trans rfl
                    have hfz45_0 := blk_frozen BK120.out 0
                    have hfz45_1 := blk_frozen BK120.out 1
                    have hfz45_2 := blk_frozen BK120.out 2
                    have hfz45_3 := blk_frozen BK120.out 3
                    go_wp2_with (first | ((with_reducible refine gate_builtin (b := .append) (xs := #[.tmp 37, .tmp 41]) rfl ?_); (try (refine gate_guard (by rfl) ?_; dsimp only)); at_builtin; refine Kd.R_append k40 (w0 := w) w.heap.size rfl (.tmp 37) (.tmp 41) 23 40 (.agg #[(.int .i64 0), (.string ⟨#[]⟩)]) 24 rfl Try.underlying23 info40 rfl (by decide) (by omega) (.slice Ao29 t126.length co29) t126 (⟨a1, a2⟩ : S40) [.int .i64 a1, .string a2] (fun _ => True) (fun _ => False) rfl rfl ?aP (fun _ hk => hk.elim) ?aF ?aO ?aB ?aS ?aL ?_; (case aP => exact k40_mkM _ _ _ (⟨a1, a2⟩ : S40)); (case aB => exact (by repeat (first | (with_reducible first | exact HB.out | apply below_alloc | apply pw_below_drewN | apply below_drew1 | refine below_set ?_ GE120.out | refine below_set ?_ GE121.out) | exact HB.out))); (case aF => exact (fun _ _ => trivial)); (case aO => exact (by (with_reducible repeat (first | apply Kd.R_alloc | apply Kd.R_drewN | apply Kd.R_drew)); exact HO_121001.out)); (case aS => exact (below_size (by repeat (first | (with_reducible first | exact HB.out | apply below_alloc | apply pw_below_drewN | apply below_drew1 | refine below_set ?_ GE120.out | refine below_set ?_ GE121.out) | exact HB.out)))); (case aL => have := LMc42.out; omega); intro v132 w46 ho hb hg hat; rw [← Ny131.out] at ho; have n0_ := Aside0.mk (Kd.R_over' (by (with_reducible repeat (first | apply Kd.R_alloc | apply Kd.R_drewN | apply Kd.R_drew)); exact HO_121000.out) (Kd.R_typed (by (with_reducible repeat (first | apply Kd.R_alloc | apply Kd.R_drewN | apply Kd.R_drew)); exact HO_121001.out)) (by decide) hg); have n1_ := Aside0.mk (blk_grown (g := gb120) (o := .cells #[.slice Ao27 t123.length co27, .slice Ao29 t126.length co29, .int .i64 t129, .bool false] 25 (0, 0)) (by (with_reducible repeat (first | refine blk_drewN ?_ _ | refine blk_drew ?_ | refine blk_alloc ?_ _)); exact BK120.out) hg (Kd.R_ne HO_121001.out BK120.out (by decide))); have n2_ := Aside0.mk (blk_grown (g := gb121) (o := .cells #[.slice none 0 0, .slice none 0 0, .int .i64 0, .bool false] 25 (0, 0)) (by (with_reducible repeat (first | refine blk_drewN ?_ _ | refine blk_drew ?_ | refine blk_alloc ?_ _)); exact BK121.out) hg (Kd.R_ne HO_121001.out BK121.out (by decide))); have n3_ := Aside0.mk (hb); have n4_ := Aside0.mk (ho); clear HO_121000; clear BK120; clear BK121; clear HB; clear HO_121001; have HO_121000 := n0_; have BK120 := n1_; have BK121 := n2_; have HB := n3_; have HO133 := n4_; clear n0_ n1_ n2_ n3_ n4_; clear ho hb hg hat; obtain ⟨Ao47, co47, eo47⟩ := Kd.R_slice HO133.out; subst eo47; have hcz48_0 : w46.cell? ⟨gb120, 0, none⟩ = some (.slice Ao27 t123.length co27) := (blk_cell BK120.out 0).trans rfl; have hcz48_1 : w46.cell? ⟨gb120, 1, none⟩ = some (.slice Ao29 t126.length co29) := (blk_cell BK120.out 1).trans rfl; have hcz48_2 : w46.cell? ⟨gb120, 2, none⟩ = some (.int .i64 t129) := (blk_cell BK120.out 2).trans rfl; have hcz48_3 : w46.cell? ⟨gb120, 3, none⟩ = some (.bool false) := (blk_cell BK120.out 3).trans rfl; have hfz48_0 := blk_frozen BK120.out 0; have hfz48_1 := blk_frozen BK120.out 1; have hfz48_2 := blk_frozen BK120.out 2; have hfz48_3 := blk_frozen BK120.out 3; have hcz49_0 : w46.cell? ⟨gb121, 0, none⟩ = some (.slice none 0 0) := (blk_cell BK121.out 0).trans rfl; have hcz49_1 : w46.cell? ⟨gb121, 1, none⟩ = some (.slice none 0 0) := (blk_cell BK121.out 1).trans rfl; have hcz49_2 : w46.cell? ⟨gb121, 2, none⟩ = some (.int .i64 0) := (blk_cell BK121.out 2).trans rfl; have hcz49_3 : w46.cell? ⟨gb121, 3, none⟩ = some (.bool false) := (blk_cell BK121.out 3).trans rfl; have hfz49_0 := blk_frozen BK121.out 0; have hfz49_1 := blk_frozen BK121.out 1; have hfz49_2 := blk_frozen BK121.out 2; have hfz49_3 := blk_frozen BK121.out 3))
                    refine bodyPost_ret (results_ct rfl _ _ gb121 25 #[.slice Ao27 t123.length co27, .slice Ao47 y131.length co47, .int .i64 t129, .bool true] (0, 0) _ rfl (by (with_reducible repeat (first | refine blk_drewN ?_ _ | refine blk_drew ?_ | refine blk_alloc ?_ _)); refine blk_put (cs := #[.slice Ao27 t123.length co27, .slice Ao47 y131.length co47, .int .i64 t129, .bool false]) ?_ 3 _ rfl; (with_reducible repeat (first | refine blk_drewN ?_ _ | refine blk_drew ?_ | refine blk_alloc ?_ _)); refine blk_put (cs := #[.slice Ao27 t123.length co27, .slice Ao47 y131.length co47, .int .i64 0, .bool false]) ?_ 2 _ rfl; (with_reducible repeat (first | refine blk_drewN ?_ _ | refine blk_drew ?_ | refine blk_alloc ?_ _)); refine blk_put (cs := #[.slice Ao27 t123.length co27, .slice none 0 0, .int .i64 0, .bool false]) ?_ 1 _ rfl; (with_reducible repeat (first | refine blk_drewN ?_ _ | refine blk_drew ?_ | refine blk_alloc ?_ _)); refine blk_put (cs := #[.slice none 0 0, .slice none 0 0, .int .i64 0, .bool false]) ?_ 0 _ rfl; (with_reducible repeat (first | refine blk_drewN ?_ _ | refine blk_drew ?_ | refine blk_alloc ?_ _)); refine blk_far ?_ NB121_120.out _; (with_reducible repeat (first | refine blk_drewN ?_ _ | refine blk_drew ?_ | refine blk_alloc ?_ _)); refine blk_far ?_ NB121_120.out _; (with_reducible repeat (first | refine blk_drewN ?_ _ | refine blk_drew ?_ | refine blk_alloc ?_ _)); exact BK121.out) Try.underlying25 rfl (by kernel_rfl)) rfl ?_
                    exact ⟨_, _, by first | rfl | (simp [errW_none, errW_some] <;> rfl) | (simp [*, errW_none, errW_some] <;> rfl), by (with_reducible repeat (first | apply Kd.R_alloc | apply Kd.R_drewN | apply Kd.R_drew)); exact Kd.R_mono (Kd.R_far (p := ⟨gb121, 3, none⟩) (Kd.R_far (p := ⟨gb121, 2, none⟩) (Kd.R_far (p := ⟨gb121, 1, none⟩) (Kd.R_far (p := ⟨gb121, 0, none⟩) (Kd.R_far (p := ⟨gb120, 3, none⟩) (Kd.R_far (p := ⟨gb120, 1, none⟩) (Kd.R_types (Kd.R_types HO_121000.out BK120.out (by decide)) BK121.out (by decide)) (fun _ hk => hk.1.2) (.slice Ao47 y131.length co47)) (fun _ hk => hk.1.2) (.bool true)) (fun _ hk => hk.2) (.slice Ao27 t123.length co27)) (fun _ hk => hk.2) (.slice Ao47 y131.length co47)) (fun _ hk => hk.2) (.int .i64 t129)) (fun _ hk => hk.2) (.bool true)) (fun _ hk => trivial), by (with_reducible repeat (first | apply Kd.R_alloc | apply Kd.R_drewN | apply Kd.R_drew)); exact Kd.R_mono (Kd.R_far (p := ⟨gb121, 3, none⟩) (Kd.R_far (p := ⟨gb121, 2, none⟩) (Kd.R_far (p := ⟨gb121, 1, none⟩) (Kd.R_far (p := ⟨gb121, 0, none⟩) (Kd.R_far (p := ⟨gb120, 3, none⟩) (Kd.R_far (p := ⟨gb120, 1, none⟩) (Kd.R_types (Kd.R_types HO133.out BK120.out (by decide)) BK121.out (by decide)) (fun _ hk => hk.1.2) (.slice Ao47 y131.length co47)) (fun _ hk => hk.1.2) (.bool true)) (fun _ hk => hk.2) (.slice Ao27 t123.length co27)) (fun _ hk => hk.2) (.slice Ao47 y131.length co47)) (fun _ hk => hk.2) (.int .i64 t129)) (fun _ hk => hk.2) (.bool true)) (fun _ hk => trivial), by repeat (first | (with_reducible first | exact HB.out | apply below_alloc | apply pw_below_drewN | apply below_drew1 | refine below_set ?_ GE120.out | refine below_set ?_ GE121.out) | exact HB.out)⟩
                  · rw [if_neg c43] at H
                    have c43b0 : (t129 == 0) = false := beq_eq_false_iff_ne.mpr c43
                    have c43b1 : (t129 != 0) = true := bne_iff_ne.mpr c43
                    by_cases c50 : t129 > 0
                    · rw [if_pos c50] at H
                      have c50b0 : decide (0 < t129) = true := decide_eq_true c50
                      clear c50
                      simp only [Option.some.injEq, Prod.mk.injEq] at H
                      obtain ⟨rfl, rfl, rfl, rfl, rfl⟩ := H
                      have hnb51 := NB120_121.out
                      have hnc51 := NB121_120.out
                      have hcz52_0 : wc.cell? ⟨gb120, 0, none⟩ = some (.slice Ao27 t123.length co27) := (blk_cell BK120.out 0).trans rfl
                      have hcz52_1 : wc.cell? ⟨gb120, 1, none⟩ = some (.slice Ao29 t126.length co29) := (blk_cell BK120.out 1).trans rfl
                      have hcz52_2 : wc.cell? ⟨gb120, 2, none⟩ = some (.int .i64 t129) := (blk_cell BK120.out 2).trans rfl
                      have hcz52_3 : wc.cell? ⟨gb120, 3, none⟩ = some (.bool false) := (blk_cell BK120.out 3).trans rfl
                      have hfz52_0 := blk_frozen BK120.out 0
                      have hfz52_1 := blk_frozen BK120.out 1
                      have hfz52_2 := blk_frozen BK120.out 2
                      have hfz52_3 := blk_frozen BK120.out 3
                      go_wp2_with (first | ((with_reducible refine gate_builtin (b := .append) (xs := #[.tmp 37, .tmp 41]) rfl ?_); (try (refine gate_guard (by rfl) ?_; dsimp only)); at_builtin; refine Kd.R_append k40 (w0 := w) w.heap.size rfl (.tmp 37) (.tmp 41) 23 40 (.agg #[(.int .i64 0), (.string ⟨#[]⟩)]) 24 rfl Try.underlying23 info40 rfl (by decide) (by omega) (.slice Ao29 t126.length co29) t126 (⟨a1, a2⟩ : S40) [.int .i64 a1, .string a2] (fun _ => True) (fun _ => False) rfl rfl ?aP (fun _ hk => hk.elim) ?aF ?aO ?aB ?aS ?aL ?_; (case aP => exact k40_mkM _ _ _ (⟨a1, a2⟩ : S40)); (case aB => exact (by repeat (first | (with_reducible first | exact HB.out | apply below_alloc | apply pw_below_drewN | apply below_drew1 | refine below_set ?_ GE120.out | refine below_set ?_ GE121.out) | exact HB.out))); (case aF => exact (fun _ _ => trivial)); (case aO => exact (by (with_reducible repeat (first | apply Kd.R_alloc | apply Kd.R_drewN | apply Kd.R_drew)); exact HO_121001.out)); (case aS => exact (below_size (by repeat (first | (with_reducible first | exact HB.out | apply below_alloc | apply pw_below_drewN | apply below_drew1 | refine below_set ?_ GE120.out | refine below_set ?_ GE121.out) | exact HB.out)))); (case aL => have := LMc42.out; omega); intro v132 w53 ho hb hg hat; rw [← Ny131.out] at ho; have n0_ := Aside0.mk (Kd.R_over' (by (with_reducible repeat (first | apply Kd.R_alloc | apply Kd.R_drewN | apply Kd.R_drew)); exact HO_121000.out) (Kd.R_typed (by (with_reducible repeat (first | apply Kd.R_alloc | apply Kd.R_drewN | apply Kd.R_drew)); exact HO_121001.out)) (by decide) hg); have n1_ := Aside0.mk (blk_grown (g := gb120) (o := .cells #[.slice Ao27 t123.length co27, .slice Ao29 t126.length co29, .int .i64 t129, .bool false] 25 (0, 0)) (by (with_reducible repeat (first | refine blk_drewN ?_ _ | refine blk_drew ?_ | refine blk_alloc ?_ _)); exact BK120.out) hg (Kd.R_ne HO_121001.out BK120.out (by decide))); have n2_ := Aside0.mk (blk_grown (g := gb121) (o := .cells #[.slice none 0 0, .slice none 0 0, .int .i64 0, .bool false] 25 (0, 0)) (by (with_reducible repeat (first | refine blk_drewN ?_ _ | refine blk_drew ?_ | refine blk_alloc ?_ _)); exact BK121.out) hg (Kd.R_ne HO_121001.out BK121.out (by decide))); have n3_ := Aside0.mk (hb); have n4_ := Aside0.mk (ho); clear HO_121000; clear BK120; clear BK121; clear HB; clear HO_121001; have HO_121000 := n0_; have BK120 := n1_; have BK121 := n2_; have HB := n3_; have HO133 := n4_; clear n0_ n1_ n2_ n3_ n4_; clear ho hb hg hat; obtain ⟨Ao54, co54, eo54⟩ := Kd.R_slice HO133.out; subst eo54; have hcz55_0 : w53.cell? ⟨gb120, 0, none⟩ = some (.slice Ao27 t123.length co27) := (blk_cell BK120.out 0).trans rfl; have hcz55_1 : w53.cell? ⟨gb120, 1, none⟩ = some (.slice Ao29 t126.length co29) := (blk_cell BK120.out 1).trans rfl; have hcz55_2 : w53.cell? ⟨gb120, 2, none⟩ = some (.int .i64 t129) := (blk_cell BK120.out 2).trans rfl; have hcz55_3 : w53.cell? ⟨gb120, 3, none⟩ = some (.bool false) := (blk_cell BK120.out 3).trans rfl; have hfz55_0 := blk_frozen BK120.out 0; have hfz55_1 := blk_frozen BK120.out 1; have hfz55_2 := blk_frozen BK120.out 2; have hfz55_3 := blk_frozen BK120.out 3; have hcz56_0 : w53.cell? ⟨gb121, 0, none⟩ = some (.slice none 0 0) := (blk_cell BK121.out 0).trans rfl; have hcz56_1 : w53.cell? ⟨gb121, 1, none⟩ = some (.slice none 0 0) := (blk_cell BK121.out 1).trans rfl; have hcz56_2 : w53.cell? ⟨gb121, 2, none⟩ = some (.int .i64 0) := (blk_cell BK121.out 2).trans rfl; have hcz56_3 : w53.cell? ⟨gb121, 3, none⟩ = some (.bool false) := (blk_cell BK121.out 3).trans rfl; have hfz56_0 := blk_frozen BK121.out 0; have hfz56_1 := blk_frozen BK121.out 1; have hfz56_2 := blk_frozen BK121.out 2; have hfz56_3 := blk_frozen BK121.out 3))
                      refine bodyPost_ret (results_ct rfl _ _ gb121 25 #[.slice Ao27 t123.length co27, .slice Ao54 y131.length co54, .int .i64 (wrap64 (t129 - 1)), .bool false] (0, 0) _ rfl (by (with_reducible repeat (first | refine blk_drewN ?_ _ | refine blk_drew ?_ | refine blk_alloc ?_ _)); refine blk_put (cs := #[.slice Ao27 t123.length co27, .slice Ao54 y131.length co54, .int .i64 (wrap64 (t129 - 1)), .bool false]) ?_ 3 _ rfl; (with_reducible repeat (first | refine blk_drewN ?_ _ | refine blk_drew ?_ | refine blk_alloc ?_ _)); refine blk_put (cs := #[.slice Ao27 t123.length co27, .slice Ao54 y131.length co54, .int .i64 0, .bool false]) ?_ 2 _ rfl; (with_reducible repeat (first | refine blk_drewN ?_ _ | refine blk_drew ?_ | refine blk_alloc ?_ _)); refine blk_put (cs := #[.slice Ao27 t123.length co27, .slice none 0 0, .int .i64 0, .bool false]) ?_ 1 _ rfl; (with_reducible repeat (first | refine blk_drewN ?_ _ | refine blk_drew ?_ | refine blk_alloc ?_ _)); refine blk_put (cs := #[.slice none 0 0, .slice none 0 0, .int .i64 0, .bool false]) ?_ 0 _ rfl; (with_reducible repeat (first | refine blk_drewN ?_ _ | refine blk_drew ?_ | refine blk_alloc ?_ _)); refine blk_far ?_ NB121_120.out _; (with_reducible repeat (first | refine blk_drewN ?_ _ | refine blk_drew ?_ | refine blk_alloc ?_ _)); refine blk_far ?_ NB121_120.out _; (with_reducible repeat (first | refine blk_drewN ?_ _ | refine blk_drew ?_ | refine blk_alloc ?_ _)); exact BK121.out) Try.underlying25 rfl (by kernel_rfl)) rfl ?_
                      exact ⟨_, _, by first | rfl | (simp [errW_none, errW_some] <;> rfl) | (simp [*, errW_none, errW_some] <;> rfl), by (with_reducible repeat (first | apply Kd.R_alloc | apply Kd.R_drewN | apply Kd.R_drew)); exact Kd.R_mono (Kd.R_far (p := ⟨gb121, 3, none⟩) (Kd.R_far (p := ⟨gb121, 2, none⟩) (Kd.R_far (p := ⟨gb121, 1, none⟩) (Kd.R_far (p := ⟨gb121, 0, none⟩) (Kd.R_far (p := ⟨gb120, 2, none⟩) (Kd.R_far (p := ⟨gb120, 1, none⟩) (Kd.R_types (Kd.R_types HO_121000.out BK120.out (by decide)) BK121.out (by decide)) (fun _ hk => hk.1.2) (.slice Ao54 y131.length co54)) (fun _ hk => hk.1.2) (.int .i64 (wrap64 (t129 - 1)))) (fun _ hk => hk.2) (.slice Ao27 t123.length co27)) (fun _ hk => hk.2) (.slice Ao54 y131.length co54)) (fun _ hk => hk.2) (.int .i64 (wrap64 (t129 - 1)))) (fun _ hk => hk.2) (.bool false)) (fun _ hk => trivial), by (with_reducible repeat (first | apply Kd.R_alloc | apply Kd.R_drewN | apply Kd.R_drew)); exact Kd.R_mono (Kd.R_far (p := ⟨gb121, 3, none⟩) (Kd.R_far (p := ⟨gb121, 2, none⟩) (Kd.R_far (p := ⟨gb121, 1, none⟩) (Kd.R_far (p := ⟨gb121, 0, none⟩) (Kd.R_far (p := ⟨gb120, 2, none⟩) (Kd.R_far (p := ⟨gb120, 1, none⟩) (Kd.R_types (Kd.R_types HO133.out BK120.out (by decide)) BK121.out (by decide)) (fun _ hk => hk.1.2) (.slice Ao54 y131.length co54)) (fun _ hk => hk.1.2) (.int .i64 (wrap64 (t129 - 1)))) (fun _ hk => hk.2) (.slice Ao27 t123.length co27)) (fun _ hk => hk.2) (.slice Ao54 y131.length co54)) (fun _ hk => hk.2) (.int .i64 (wrap64 (t129 - 1)))) (fun _ hk => hk.2) (.bool false)) (fun _ hk => trivial), by repeat (first | (with_reducible first | exact HB.out | apply below_alloc | apply pw_below_drewN | apply below_drew1 | refine below_set ?_ GE120.out | refine below_set ?_ GE121.out) | exact HB.out)⟩
                    · rw [if_neg c50] at H
                      have c50b0 : decide (0 < t129) = false := decide_eq_false c50
                      clear c50
                      simp only [Option.some.injEq, Prod.mk.injEq] at H
                      obtain ⟨rfl, rfl, rfl, rfl, rfl⟩ := H
                      have hnb57 := NB120_121.out
                      have hnc57 := NB121_120.out
                      have hcz58_0 : wc.cell? ⟨gb120, 0, none⟩ = some (.slice Ao27 t123.length co27) := (blk_cell BK120.out 0).trans rfl
                      have hcz58_1 : wc.cell? ⟨gb120, 1, none⟩ = some (.slice Ao29 t126.length co29) := (blk_cell BK120.out 1).trans rfl
                      have hcz58_2 : wc.cell? ⟨gb120, 2, none⟩ = some (.int .i64 t129) := (blk_cell BK120.out 2).trans rfl
                      have hcz58_3 : wc.cell? ⟨gb120, 3, none⟩ = some (.bool false) := (blk_cell BK120.out 3).trans rfl
                      have hfz58_0 := blk_frozen BK120.out 0
                      have hfz58_1 := blk_frozen BK120.out 1
                      have hfz58_2 := blk_frozen BK120.out 2
                      have hfz58_3 := blk_frozen BK120.out 3
                      go_wp2_with (first | ((with_reducible refine gate_builtin (b := .append) (xs := #[.tmp 37, .tmp 41]) rfl ?_); (try (refine gate_guard (by rfl) ?_; dsimp only)); at_builtin; refine Kd.R_append k40 (w0 := w) w.heap.size rfl (.tmp 37) (.tmp 41) 23 40 (.agg #[(.int .i64 0), (.string ⟨#[]⟩)]) 24 rfl Try.underlying23 info40 rfl (by decide) (by omega) (.slice Ao29 t126.length co29) t126 (⟨a1, a2⟩ : S40) [.int .i64 a1, .string a2] (fun _ => True) (fun _ => False) rfl rfl ?aP (fun _ hk => hk.elim) ?aF ?aO ?aB ?aS ?aL ?_; (case aP => exact k40_mkM _ _ _ (⟨a1, a2⟩ : S40)); (case aB => exact (by repeat (first | (with_reducible first | exact HB.out | apply below_alloc | apply pw_below_drewN | apply below_drew1 | refine below_set ?_ GE120.out | refine below_set ?_ GE121.out) | exact HB.out))); (case aF => exact (fun _ _ => trivial)); (case aO => exact (by (with_reducible repeat (first | apply Kd.R_alloc | apply Kd.R_drewN | apply Kd.R_drew)); exact HO_121001.out)); (case aS => exact (below_size (by repeat (first | (with_reducible first | exact HB.out | apply below_alloc | apply pw_below_drewN | apply below_drew1 | refine below_set ?_ GE120.out | refine below_set ?_ GE121.out) | exact HB.out)))); (case aL => have := LMc42.out; omega); intro v132 w59 ho hb hg hat; rw [← Ny131.out] at ho; have n0_ := Aside0.mk (Kd.R_over' (by (with_reducible repeat (first | apply Kd.R_alloc | apply Kd.R_drewN | apply Kd.R_drew)); exact HO_121000.out) (Kd.R_typed (by (with_reducible repeat (first | apply Kd.R_alloc | apply Kd.R_drewN | apply Kd.R_drew)); exact HO_121001.out)) (by decide) hg); have n1_ := Aside0.mk (blk_grown (g := gb120) (o := .cells #[.slice Ao27 t123.length co27, .slice Ao29 t126.length co29, .int .i64 t129, .bool false] 25 (0, 0)) (by (with_reducible repeat (first | refine blk_drewN ?_ _ | refine blk_drew ?_ | refine blk_alloc ?_ _)); exact BK120.out) hg (Kd.R_ne HO_121001.out BK120.out (by decide))); have n2_ := Aside0.mk (blk_grown (g := gb121) (o := .cells #[.slice none 0 0, .slice none 0 0, .int .i64 0, .bool false] 25 (0, 0)) (by (with_reducible repeat (first | refine blk_drewN ?_ _ | refine blk_drew ?_ | refine blk_alloc ?_ _)); exact BK121.out) hg (Kd.R_ne HO_121001.out BK121.out (by decide))); have n3_ := Aside0.mk (hb); have n4_ := Aside0.mk (ho); clear HO_121000; clear BK120; clear BK121; clear HB; clear HO_121001; have HO_121000 := n0_; have BK120 := n1_; have BK121 := n2_; have HB := n3_; have HO133 := n4_; clear n0_ n1_ n2_ n3_ n4_; clear ho hb hg hat; obtain ⟨Ao60, co60, eo60⟩ := Kd.R_slice HO133.out; subst eo60; have hcz61_0 : w59.cell? ⟨gb120, 0, none⟩ = some (.slice Ao27 t123.length co27) := (blk_cell BK120.out 0).trans rfl; have hcz61_1 : w59.cell? ⟨gb120, 1, none⟩ = some (.slice Ao29 t126.length co29) := (blk_cell BK120.out 1).trans rfl; have hcz61_2 : w59.cell? ⟨gb120, 2, none⟩ = some (.int .i64 t129) := (blk_cell BK120.out 2).trans rfl; have hcz61_3 : w59.cell? ⟨gb120, 3, none⟩ = some (.bool false) := (blk_cell BK120.out 3).trans rfl; have hfz61_0 := blk_frozen BK120.out 0; have hfz61_1 := blk_frozen BK120.out 1; have hfz61_2 := blk_frozen BK120.out 2; have hfz61_3 := blk_frozen BK120.out 3; have hcz62_0 : w59.cell? ⟨gb121, 0, none⟩ = some (.slice none 0 0) := (blk_cell BK121.out 0).trans rfl; have hcz62_1 : w59.cell? ⟨gb121, 1, none⟩ = some (.slice none 0 0) := (blk_cell BK121.out 1).trans rfl; have hcz62_2 : w59.cell? ⟨gb121, 2, none⟩ = some (.int .i64 0) := (blk_cell BK121.out 2).trans rfl; have hcz62_3 : w59.cell? ⟨gb121, 3, none⟩ = some (.bool false) := (blk_cell BK121.out 3).trans rfl; have hfz62_0 := blk_frozen BK121.out 0; have hfz62_1 := blk_frozen BK121.out 1; have hfz62_2 := blk_frozen BK121.out 2; have hfz62_3 := blk_frozen BK121.out 3))
                      refine bodyPost_ret (results_ct rfl _ _ gb121 25 #[.slice Ao27 t123.length co27, .slice Ao60 y131.length co60, .int .i64 t129, .bool false] (0, 0) _ rfl (by (with_reducible repeat (first | refine blk_drewN ?_ _ | refine blk_drew ?_ | refine blk_alloc ?_ _)); refine blk_put (cs := #[.slice Ao27 t123.length co27, .slice Ao60 y131.length co60, .int .i64 t129, .bool false]) ?_ 3 _ rfl; (with_reducible repeat (first | refine blk_drewN ?_ _ | refine blk_drew ?_ | refine blk_alloc ?_ _)); refine blk_put (cs := #[.slice Ao27 t123.length co27, .slice Ao60 y131.length co60, .int .i64 0, .bool false]) ?_ 2 _ rfl; (with_reducible repeat (first | refine blk_drewN ?_ _ | refine blk_drew ?_ | refine blk_alloc ?_ _)); refine blk_put (cs := #[.slice Ao27 t123.length co27, .slice none 0 0, .int .i64 0, .bool false]) ?_ 1 _ rfl; (with_reducible repeat (first | refine blk_drewN ?_ _ | refine blk_drew ?_ | refine blk_alloc ?_ _)); refine blk_put (cs := #[.slice none 0 0, .slice none 0 0, .int .i64 0, .bool false]) ?_ 0 _ rfl; (with_reducible repeat (first | refine blk_drewN ?_ _ | refine blk_drew ?_ | refine blk_alloc ?_ _)); refine blk_far ?_ NB121_120.out _; (with_reducible repeat (first | refine blk_drewN ?_ _ | refine blk_drew ?_ | refine blk_alloc ?_ _)); exact BK121.out) Try.underlying25 rfl (by kernel_rfl)) rfl ?_
                      exact ⟨_, _, by first | rfl | (simp [errW_none, errW_some] <;> rfl) | (simp [*, errW_none, errW_some] <;> rfl), by (with_reducible repeat (first | apply Kd.R_alloc | apply Kd.R_drewN | apply Kd.R_drew)); exact Kd.R_mono (Kd.R_far (p := ⟨gb121, 3, none⟩) (Kd.R_far (p := ⟨gb121, 2, none⟩) (Kd.R_far (p := ⟨gb121, 1, none⟩) (Kd.R_far (p := ⟨gb121, 0, none⟩) (Kd.R_far (p := ⟨gb120, 1, none⟩) (Kd.R_types (Kd.R_types HO_121000.out BK120.out (by decide)) BK121.out (by decide)) (fun _ hk => hk.1.2) (.slice Ao60 y131.length co60)) (fun _ hk => hk.2) (.slice Ao27 t123.length co27)) (fun _ hk => hk.2) (.slice Ao60 y131.length co60)) (fun _ hk => hk.2) (.int .i64 t129)) (fun _ hk => hk.2) (.bool false)) (fun _ hk => trivial), by (with_reducible repeat (first | apply Kd.R_alloc | apply Kd.R_drewN | apply Kd.R_drew)); exact Kd.R_mono (Kd.R_far (p := ⟨gb121, 3, none⟩) (Kd.R_far (p := ⟨gb121, 2, none⟩) (Kd.R_far (p := ⟨gb121, 1, none⟩) (Kd.R_far (p := ⟨gb121, 0, none⟩) (Kd.R_far (p := ⟨gb120, 1, none⟩) (Kd.R_types (Kd.R_types HO133.out BK120.out (by decide)) BK121.out (by decide)) (fun _ hk => hk.1.2) (.slice Ao60 y131.length co60)) (fun _ hk => hk.2) (.slice Ao27 t123.length co27)) (fun _ hk => hk.2) (.slice Ao60 y131.length co60)) (fun _ hk => hk.2) (.int .i64 t129)) (fun _ hk => hk.2) (.bool false)) (fun _ hk => trivial), by repeat (first | (with_reducible first | exact HB.out | apply below_alloc | apply pw_below_drewN | apply below_drew1 | refine below_set ?_ GE120.out | refine below_set ?_ GE121.out) | exact HB.out)⟩
                · rw [if_neg c42] at H
                  exact absurd H (by simp)
            · rw [if_neg c37] at H
              have c37b0 : ((a2.size : Int) == 128) = false := beq_eq_false_iff_ne.mpr c37
              have c37b1 : ((a2.size : Int) != 128) = true := bne_iff_ne.mpr c37
              simp only [Option.some.injEq, Prod.mk.injEq] at H
              obtain ⟨rfl, rfl, rfl, rfl, rfl⟩ := H
              have hnb63 := NB120_121.out
              have hnc63 := NB121_120.out
              have hcz64_0 : wc.cell? ⟨gb120, 0, none⟩ = some (.slice Ao27 t123.length co27) := (blk_cell BK120.out 0).trans rfl
              have hcz64_1 : wc.cell? ⟨gb120, 1, none⟩ = some (.slice Ao29 t126.length co29) := (blk_cell BK120.out 1).trans rfl
              have hcz64_2 : wc.cell? ⟨gb120, 2, none⟩ = some (.int .i64 t129) := (blk_cell BK120.out 2).trans rfl
              have hcz64_3 : wc.cell? ⟨gb120, 3, none⟩ = some (.bool false) := (blk_cell BK120.out 3).trans rfl
              have hfz64_0 := blk_frozen BK120.out 0
              have hfz64_1 := blk_frozen BK120.out 1
              have hfz64_2 := blk_frozen BK120.out 2
              have hfz64_3 := blk_frozen BK120.out 3
              have hcz65_0 : wc.cell? ⟨gb121, 0, none⟩ = some (.slice none 0 0) := (blk_cell BK121.out 0).trans rfl
              have hcz65_1 : wc.cell? ⟨gb121, 1, none⟩ = some (.slice none 0 0) := (blk_cell BK121.out 1).trans rfl
              have hcz65_2 : wc.cell? ⟨gb121, 2, none⟩ = some (.int .i64 0) := (blk_cell BK121.out 2).trans rfl
              have hcz65_3 : wc.cell? ⟨gb121, 3, none⟩ = some (.bool false) := (blk_cell BK121.out 3).trans rfl
              have hfz65_0 := blk_frozen BK121.out 0
              have hfz65_1 := blk_frozen BK121.out 1
              have hfz65_2 := blk_frozen BK121.out 2
              have hfz65_3 := blk_frozen BK121.out 3
              go_wp2
              refine bodyPost_ret (results_ct rfl _ _ gb121 25 #[.slice Ao27 t123.length co27, .slice Ao29 t126.length co29, .int .i64 t129, .bool false] (0, 0) _ rfl (by (with_reducible repeat (first | refine blk_drewN ?_ _ | refine blk_drew ?_ | refine blk_alloc ?_ _)); refine blk_put (cs := #[.slice Ao27 t123.length co27, .slice Ao29 t126.length co29, .int .i64 t129, .bool false]) ?_ 3 _ rfl; (with_reducible repeat (first | refine blk_drewN ?_ _ | refine blk_drew ?_ | refine blk_alloc ?_ _)); refine blk_put (cs := #[.slice Ao27 t123.length co27, .slice Ao29 t126.length co29, .int .i64 0, .bool false]) ?_ 2 _ rfl; (with_reducible repeat (first | refine blk_drewN ?_ _ | refine blk_drew ?_ | refine blk_alloc ?_ _)); refine blk_put (cs := #[.slice Ao27 t123.length co27, .slice none 0 0, .int .i64 0, .bool false]) ?_ 1 _ rfl; (with_reducible repeat (first | refine blk_drewN ?_ _ | refine blk_drew ?_ | refine blk_alloc ?_ _)); refine blk_put (cs := #[.slice none 0 0, .slice none 0 0, .int .i64 0, .bool false]) ?_ 0 _ rfl; (with_reducible repeat (first | refine blk_drewN ?_ _ | refine blk_drew ?_ | refine blk_alloc ?_ _)); exact BK121.out) Try.underlying25 rfl (by kernel_rfl)) rfl ?_
              exact ⟨_, _, by first | rfl | (simp [errW_none, errW_some] <;> rfl) | (simp [*, errW_none, errW_some] <;> rfl), by (with_reducible repeat (first | apply Kd.R_alloc | apply Kd.R_drewN | apply Kd.R_drew)); exact Kd.R_mono (Kd.R_far (p := ⟨gb121, 3, none⟩) (Kd.R_far (p := ⟨gb121, 2, none⟩) (Kd.R_far (p := ⟨gb121, 1, none⟩) (Kd.R_far (p := ⟨gb121, 0, none⟩) (Kd.R_types HO_121000.out BK121.out (by decide)) (fun _ hk => hk.2) (.slice Ao27 t123.length co27)) (fun _ hk => hk.2) (.slice Ao29 t126.length co29)) (fun _ hk => hk.2) (.int .i64 t129)) (fun _ hk => hk.2) (.bool false)) (fun _ hk => trivial), by (with_reducible repeat (first | apply Kd.R_alloc | apply Kd.R_drewN | apply Kd.R_drew)); exact Kd.R_mono (Kd.R_far (p := ⟨gb121, 3, none⟩) (Kd.R_far (p := ⟨gb121, 2, none⟩) (Kd.R_far (p := ⟨gb121, 1, none⟩) (Kd.R_far (p := ⟨gb121, 0, none⟩) (Kd.R_types HO_121001.out BK121.out (by decide)) (fun _ hk => hk.2) (.slice Ao27 t123.length co27)) (fun _ hk => hk.2) (.slice Ao29 t126.length co29)) (fun _ hk => hk.2) (.int .i64 t129)) (fun _ hk => hk.2) (.bool false)) (fun _ hk => trivial), by repeat (first | (with_reducible first | exact HB.out | apply below_alloc | apply pw_below_drewN | apply below_drew1 | refine below_set ?_ GE120.out | refine below_set ?_ GE121.out) | exact HB.out)⟩
  · rw [if_neg c5] at H
    have c5b0 : (t122 == 0) = false := beq_eq_false_iff_ne.mpr c5
    have c5b1 : (t122 != 0) = true := bne_iff_ne.mpr c5
    simp only [Option.some.injEq, Prod.mk.injEq] at H
    obtain ⟨rfl, rfl, rfl, rfl, rfl⟩ := H
    go_enter Try.func10, Try.ntmps10
    go_wp2_with (first | ((with_reducible refine gate_dst (N := 3) rfl ?_); (try (refine gate_guard (by rfl) ?_; dsimp only)); refine box_event ?hg (N := 3) ?hd (cs := #[.slice A0_0 l0_0.length c0_0, .slice A0_1 l0_1.length c0_1, .int .i64 a0_2, .bool a0_3]) (t := 25) ?hr ?_; (case hd => rfl); (case hg => rfl); (case hr => first | (go_simp; done) | (go_simp; rfl)); intro gb120 hg w66 hbox hb; have n0_ := Aside0.mk (below_step (by repeat (first | (with_reducible first | exact HB.out | apply below_alloc | apply pw_below_drewN | apply below_drew1) | exact HB.out)) hb); have n1_ := Aside0.mk (hbox); have n2_ := Aside0.mk ((by rw [hg]; exact (below_size (by repeat (first | (with_reducible first | exact HB.out | apply below_alloc | apply pw_below_drewN | apply below_drew1) | exact HB.out))) : w.heap.size ≤ gb120)); have n3_ := Aside0.mk ((by rw [hg]; exact (below_size (by repeat (first | (with_reducible first | exact HB.out | apply below_alloc | apply pw_below_drewN | apply below_drew1) | exact HB.out))) : w.heap.size ≤ gb120)); clear HB; have HB := n0_; have BK120 := n1_; have GW120 := n2_; have GE120 := n3_; clear n0_ n1_ n2_ n3_; clear hb hbox hg) | ((with_reducible refine gate_dst (N := 6) rfl ?_); (try (refine gate_guard (by rfl) ?_; dsimp only)); refine box_event ?hg (N := 6) ?hd (cs := #[.slice none 0 0, .slice none 0 0, .int .i64 0, .bool false]) (t := 25) ?hr ?_; (case hd => rfl); (case hg => rfl); (case hr => first | (go_simp; done) | (go_simp; rfl)); intro gb121 hg w67 hbox hb; have n0_ := Aside0.mk (blk_below (g := gb120) (o := .cells #[.slice A0_0 l0_0.length c0_0, .slice A0_1 l0_1.length c0_1, .int .i64 a0_2, .bool a0_3] 25 (0, 0)) (by (with_reducible repeat (first | refine blk_drewN ?_ _ | refine blk_drew ?_ | refine blk_alloc ?_ _)); exact BK120.out) hb); have n1_ := Aside0.mk (below_step (by repeat (first | (with_reducible first | exact HB.out | apply below_alloc | apply pw_below_drewN | apply below_drew1 | refine below_set ?_ GE120.out) | exact HB.out)) hb); have n2_ := Aside0.mk (hbox); have n3_ := Aside0.mk ((by rw [hg]; exact (below_size (by repeat (first | (with_reducible first | exact HB.out | apply below_alloc | apply pw_below_drewN | apply below_drew1 | refine below_set ?_ GE120.out) | exact HB.out))) : w.heap.size ≤ gb121)); have n4_ := Aside0.mk ((by rw [hg]; exact (below_size (by repeat (first | (with_reducible first | exact HB.out | apply below_alloc | apply pw_below_drewN | apply below_drew1 | refine below_set ?_ GE120.out) | exact HB.out))) : w.heap.size ≤ gb121)); have n5_ := Aside0.mk ((by rw [hg]; exact Nat.ne_of_lt (blk_lt (g := gb120) (o := .cells #[.slice A0_0 l0_0.length c0_0, .slice A0_1 l0_1.length c0_1, .int .i64 a0_2, .bool a0_3] 25 (0, 0)) (by (with_reducible repeat (first | refine blk_drewN ?_ _ | refine blk_drew ?_ | refine blk_alloc ?_ _)); exact BK120.out)) : gb120 ≠ gb121)); have n6_ := Aside0.mk ((by rw [hg]; exact Nat.ne_of_gt (blk_lt (g := gb120) (o := .cells #[.slice A0_0 l0_0.length c0_0, .slice A0_1 l0_1.length c0_1, .int .i64 a0_2, .bool a0_3] 25 (0, 0)) (by (with_reducible repeat (first | refine blk_drewN ?_ _ | refine blk_drew ?_ | refine blk_alloc ?_ _)); exact BK120.out)) : gb121 ≠ gb120)); clear BK120; clear HB; have BK120 := n0_; have HB := n1_; have BK121 := n2_; have GW121 := n3_; have GE121 := n4_; have NB120_121 := n5_; have NB121_120 := n6_; clear n0_ n1_ n2_ n3_ n4_ n5_ n6_; clear hb hbox hg; have hnb68 := NB120_121.out; have hnc68 := NB121_120.out; have hcz69_0 : w67.cell? ⟨gb120, 0, none⟩ = some (.slice A0_0 l0_0.length c0_0) := (blk_cell BK120.out 0).trans rfl; have hcz69_1 : w67.cell? ⟨gb120, 1, none⟩ = some (.slice A0_1 l0_1.length c0_1) := (blk_cell BK120.out 1).trans rfl; have hcz69_2 : w67.cell? ⟨gb120, 2, none⟩ = some (.int .i64 a0_2) := (blk_cell BK120.out 2).trans rfl; have hcz69_3 : w67.cell? ⟨gb120, 3, none⟩ = some (.bool a0_3) := (blk_cell BK120.out 3).trans rfl; have hfz69_0 := blk_frozen BK120.out 0; have hfz69_1 := blk_frozen BK120.out 1; have hfz69_2 := blk_frozen BK120.out 2; have hfz69_3 := blk_frozen BK120.out 3) | ((with_reducible refine gate_callee (f := 18) rfl ?_); refine goesL_ (some 9) rfl rfl Try.func18 (by kernel_rfl) rfl #[.agg #[.slice A0_0 l0_0.length c0_0, .slice A0_1 l0_1.length c0_1, .int .i64 a0_2, .bool a0_3]] rfl (by (try simp only [List.map_toArray, List.map_cons, List.map_nil]); first | done | rfl | (simp only [List.length_drop, List.length_take]; rfl)) ?_; (with_reducible refine (spoorref03_Check.calls k _ _ l0_0 _ _ l0_1 a0_2 a0_3 t122 _ ?side1 ?side2 ?side3 ?side4 A4.out).mono ?_); (case side1 => repeat (first | exact (Kd.C_below HR0_0.out HB.out) | (with_reducible refine Kd.C_alloc ?_ _) | (with_reducible refine Kd.C_drewN ?_ _) | (with_reducible refine Kd.C_drew ?_))); (case side2 => exact HC0_0.out); (case side3 => repeat (first | exact (Kd.C_below HR0_1.out HB.out) | (with_reducible refine Kd.C_alloc ?_ _) | (with_reducible refine Kd.C_drewN ?_ _) | (with_reducible refine Kd.C_drew ?_))); (case side4 => exact HC0_1.out); rintro e w70 ⟨rfl, hb⟩; refine ⟨_, rfl, ?_⟩; have n0_ := Aside0.mk (blk_below (g := gb120) (o := .cells #[.slice A0_0 l0_0.length c0_0, .slice A0_1 l0_1.length c0_1, .int .i64 a0_2, .bool a0_3] 25 (0, 0)) (by (with_reducible repeat (first | refine blk_drewN ?_ _ | refine blk_drew ?_ | refine blk_alloc ?_ _)); exact BK120.out) hb); have n1_ := Aside0.mk (blk_below (g := gb121) (o := .cells #[.slice none 0 0, .slice none 0 0, .int .i64 0, .bool false] 25 (0, 0)) (by (with_reducible repeat (first | refine blk_drewN ?_ _ | refine blk_drew ?_ | refine blk_alloc ?_ _)); exact BK121.out) hb); have n2_ := Aside0.mk (below_step (by repeat (first | (with_reducible first | exact HB.out | apply below_alloc | apply pw_below_drewN | apply below_drew1 | refine below_set ?_ GE120.out | refine below_set ?_ GE121.out) | exact HB.out)) hb); clear BK120; clear BK121; clear HB; have BK120 := n0_; have BK121 := n1_; have HB := n2_; clear n0_ n1_ n2_; (try clear hb); (try clear hb2); (try clear hk); (try clear hi); have hcz71_0 : w70.cell? ⟨gb121, 0, none⟩ = some (.slice none 0 0) := (blk_cell BK121.out 0).trans rfl; have hcz71_1 : w70.cell? ⟨gb121, 1, none⟩ = some (.slice none 0 0) := (blk_cell BK121.out 1).trans rfl; have hcz71_2 : w70.cell? ⟨gb121, 2, none⟩ = some (.int .i64 0) := (blk_cell BK121.out 2).trans rfl; have hcz71_3 : w70.cell? ⟨gb121, 3, none⟩ = some (.bool false) := (blk_cell BK121.out 3).trans rfl; have hfz71_0 := blk_frozen BK121.out 0; have hfz71_1 := blk_frozen BK121.out 1; have hfz71_2 := blk_frozen BK121.out 2; have hfz71_3 := blk_frozen BK121.out 3))
    refine bodyPost_ret (results_ct rfl _ _ gb121 25 #[.slice none 0 0, .slice none 0 0, .int .i64 0, .bool false] (0, 0) _ rfl (by (with_reducible repeat (first | refine blk_drewN ?_ _ | refine blk_drew ?_ | refine blk_alloc ?_ _)); refine blk_put (cs := #[.slice none 0 0, .slice none 0 0, .int .i64 0, .bool false]) ?_ 3 _ rfl; (with_reducible repeat (first | refine blk_drewN ?_ _ | refine blk_drew ?_ | refine blk_alloc ?_ _)); refine blk_put (cs := #[.slice none 0 0, .slice none 0 0, .int .i64 0, .bool false]) ?_ 2 _ rfl; (with_reducible repeat (first | refine blk_drewN ?_ _ | refine blk_drew ?_ | refine blk_alloc ?_ _)); refine blk_put (cs := #[.slice none 0 0, .slice none 0 0, .int .i64 0, .bool false]) ?_ 1 _ rfl; (with_reducible repeat (first | refine blk_drewN ?_ _ | refine blk_drew ?_ | refine blk_alloc ?_ _)); refine blk_put (cs := #[.slice none 0 0, .slice none 0 0, .int .i64 0, .bool false]) ?_ 0 _ rfl; (with_reducible repeat (first | refine blk_drewN ?_ _ | refine blk_drew ?_ | refine blk_alloc ?_ _)); exact BK121.out) Try.underlying25 rfl (by kernel_rfl)) rfl ?_
    exact ⟨_, _, by first | rfl | (simp [errW_none, errW_some] <;> rfl) | (simp [*, errW_none, errW_some] <;> rfl), by first | exact Kd.R_nil _ _ _ _ _ | exact Kd.N_nil _ _ _ _ _ | exact Kd.V_nil _ _ _ _ _ | exact Kd.Q_nil _ _ _ _ _ | exact Kd.S_nil _ _ _ _ _, by first | exact Kd.R_nil _ _ _ _ _ | exact Kd.N_nil _ _ _ _ _ | exact Kd.V_nil _ _ _ _ _ | exact Kd.Q_nil _ _ _ _ _ | exact Kd.S_nil _ _ _ _ _, by repeat (first | (with_reducible first | exact HB.out | apply below_alloc | apply pw_below_drewN | apply below_drew1 | refine below_set ?_ GE120.out | refine below_set ?_ GE121.out) | exact HB.out)⟩

-- NOT PRINTED: function 28 (disk_drive_settle)

/-! ### disk_Flush: function 11 -/
/- it leans on disk_Check.f -/
def flushF (l0_0 : List ByteArray) (l0_1 : List (S40)) (a0_2 : Int) (a0_3 : Bool) : List ByteArray × (List (S40)) × Int × Bool × Int :=
  if checkF l0_0 l0_1 a0_2 = 0 then
    if (powerF a0_2 a0_3).1 = 0 then (applyF l0_0 l0_1, [], (powerF a0_2 a0_3).2.1, (powerF a0_2 a0_3).2.2, 0) else (l0_0, l0_1, (powerF a0_2 a0_3).2.1, (powerF a0_2 a0_3).2.2, (powerF a0_2 a0_3).1)
  else ([], [], 0, false, 2)
def disk_Flush.f (l0_0 : List ByteArray) (l0_1 : List (S40)) (a0_2 : Int) (a0_3 : Bool) : Option (List ByteArray × (List (S40)) × Int × Bool × Int) := some (flushF l0_0 l0_1 a0_2 a0_3)
theorem disk_Flush.calls (A0_0 : Option Addr) (c0_0 : Nat) (l0_0 : List ByteArray) (A0_1 : Option Addr) (c0_1 : Nat) (l0_1 : List (S40)) (a0_2 : Int) (a0_3 : Bool) (r1 : List ByteArray) (r2 : List (S40)) (r3 : Int) (r4 : Bool) (r5 : Int) (w : World) (hr0_0 : Kd.C Kd.string w A0_0 l0_0.length l0_0) (hc0_0 : l0_0.length ≤ c0_0) (hr0_1 : Kd.C k40 w A0_1 l0_1.length l0_1) (hc0_1 : l0_1.length ≤ c0_1) (h : disk_Flush.f l0_0 l0_1 a0_2 a0_3 = some (r1, r2, r3, r4, r5)) :
    Calls Try.prog 11 #[.agg #[.slice A0_0 l0_0.length c0_0, .slice A0_1 l0_1.length c0_1, .int .i64 a0_2, .bool a0_3]] w fun e w' => ∃ v0_ v1_ : Value, e = .returned (.tuple #[.agg #[v0_, v1_, .int .i64 r3, .bool r4], .int .i64 r5]) ∧ Kd.R Kd.string 9 w' w.heap.size (fun _ => True) v0_ r1 ∧ Kd.R k40 40 w' w.heap.size (fun _ => True) v1_ r2 ∧ Below w.heap.size w w' := by
  have h := Option.some.inj h
  unfold flushF at h
  by_cases c : checkF l0_0 l0_1 a0_2 = 0
  · rw [if_pos c] at h
    by_cases hp : (powerF a0_2 a0_3).1 = 0
    · rw [if_pos hp] at h
      simp only [Prod.mk.injEq] at h
      obtain ⟨e1, rfl, rfl, rfl, rfl⟩ := h
      exact Flush_yes A0_0 A0_1 c0_0 c0_1 l0_0 l0_1 a0_2 a0_3 w hr0_0 hc0_0 hr0_1 hc0_1 c _ _ (by rw [← hp]) r1 e1.symm
    · rw [if_neg hp] at h
      cases h
      exact Flush_no A0_0 A0_1 c0_0 c0_1 l0_0 l0_1 a0_2 a0_3 w hr0_0 hc0_0 hr0_1 hc0_1 c _ _ _ rfl hp
  · rw [if_neg c] at h
    cases h
    exact Flush_bad A0_0 A0_1 c0_0 c0_1 l0_0 l0_1 a0_2 a0_3 w hr0_0 hc0_0 hr0_1 hc0_1 (checkF_two c)


/-! ### spoorref03_Flush: function 12 -/
/- it leans on disk_Check.f -/
theorem copy_f (S : List ByteArray) (C : List S40) (f : Int) (o : Bool) (h0 : S.length < 8796093022208) (h1 : C.length < 5864062014805) : spoorref03_Copy.f S C f o = some (S, C, f, o) := by
  unfold spoorref03_Copy.f
  simp only [Option.bind_some, List.length_nil, Nat.zero_add, List.nil_append]
  rw [if_pos h0, if_pos h1]
set_option maxHeartbeats 8000000 in
theorem rFlush_bad (k : Nat) (A0 A1 : Option Addr) (c0 c1 : Nat) (S : List ByteArray) (C : List S40) (f : Int) (o : Bool) (w : World) (hr0 : Kd.C Kd.string w A0 S.length S) (hc0 : S.length ≤ c0) (hr1 : Kd.C k40 w A1 C.length C) (hc1 : C.length ≤ c1) (t1 : Int) (h : spoorref03_Check.f k S C f o = some t1) (ht : ¬ t1 = 0) :
    Calls Try.prog 12 #[.agg #[.slice A0 S.length c0, .slice A1 C.length c1, .int .i64 f, .bool o]] w fun e w' => ∃ v0_ v1_ : Value, e = .returned (.tuple #[.agg #[v0_, v1_, .int .i64 0, .bool false], .int .i64 2]) ∧ Kd.R Kd.string 9 w' w.heap.size (fun _ => True) v0_ ([] : List ByteArray) ∧ Kd.R k40 40 w' w.heap.size (fun _ => True) v1_ ([] : List S40) ∧ Below w.heap.size w w' := by
  have R0 := Aside0.mk hr0
  have R1 := Aside0.mk hr1
  have HC0 := Aside0.mk hc0
  have HC1 := Aside0.mk hc1
  have HH := Aside0.mk h
  clear hr0 hc0 hr1 hc1 h
  have k1 : (t1 == 0) = false := by simpa using ht
  have k2 : (t1 != 0) = true := by simpa using ht
  clear ht
  go_enter Try.func12, Try.ntmps12
  go_wp2_with (first
    | ((with_reducible refine gate_dst (N := 1) rfl ?_); refine box_event ?hg (N := 1) ?hd (cs := #[.slice A0 S.length c0, .slice A1 C.length c1, .int .i64 f, .bool o]) (t := 25) ?hr ?_; (case hd => rfl); (case hg => rfl); (case hr => first | (go_simp; done) | (go_simp; rfl)); intro gx hg w3 hbox hb3; obtain ⟨h0, h1, h2, h3⟩ := cells25_ hbox; have HX := Aside0.mk hbox; have HGX := Aside0.mk (show w.heap.size ≤ gx by rw [hg]; exact Nat.le_refl _); have HB := Aside0.mk (Below.trans (Below.refl _ _) hb3); clear hg hbox hb3)
    | ((with_reducible refine gate_dst (N := 2) rfl ?_); refine box_event ?hg (N := 2) ?hd (cs := #[.slice none 0 0, .slice none 0 0, .int .i64 0, .bool false]) (t := 25) ?hr ?_; (case hd => rfl); (case hg => rfl); (case hr => first | (go_simp; done) | (go_simp; rfl)); intro gr hg w4 hbox hb3; have HNE := Aside0.mk (show gx ≠ gr by rw [hg]; exact Nat.ne_of_lt (blk_lt HX.out)); have HG := Aside0.mk (by rw [hg]; exact HB.out.size : w.heap.size ≤ gr); have HZ := Aside0.mk hbox; have n1_ := Aside0.mk (blk_below HX.out hb3); have n0_ := Aside0.mk (below_step HB.out hb3); clear h0 h1 h2 h3 HX HB; have HX := n1_; have HB := n0_; obtain ⟨h0, h1, h2, h3⟩ := cells25_ HX.out; clear hg hbox hb3 n0_ n1_)
    | (go_at_call 18; refine (spoorref03_Check.calls k A0 c0 S A1 c1 C f o t1 _ (Kd.C_below R0.out HB.out) HC0.out (Kd.C_below R1.out HB.out) HC1.out HH.out).mono ?_; rintro e w5 ⟨rfl, hb5⟩; have n0_ := Aside0.mk (below_step HB.out hb5); have n1_ := Aside0.mk (blk_below HX.out hb5); have n2_ := Aside0.mk (blk_below HZ.out hb5); clear HB HX HZ hb5 h0 h1 h2 h3; have HB := n0_; have HX := n1_; have HZ := n2_; clear n0_ n1_ n2_; obtain ⟨h0, h1, h2, h3⟩ := cells25_ HX.out; obtain ⟨y0, y1, y2, y3⟩ := cells25_ HZ.out; obtain ⟨q0, q1, q2, q3⟩ := f25a HZ.out))
  have F := fin25 (S := []) (C := []) (A0 := none) (A1 := none) (c0 := 0) (c1 := 0) (f := 0) (o := false) HZ.out (Kd.R_nil _ _ _ _ _) (Kd.R_nil _ _ _ _ _) HB.out HG.out
  refine bodyPost_ret (results_ct rfl _ _ gr 25 #[.slice none 0 0, .slice none 0 0, .int .i64 0, .bool false] (0, 0) _ rfl F.1 Try.underlying25 rfl (by kernel_rfl)) rfl ?_
  exact ⟨_, _, rfl, F.2.1, F.2.2.1, F.2.2.2⟩
set_option maxHeartbeats 8000000 in
theorem rFlush_off (k : Nat) (A0 A1 : Option Addr) (c0 c1 : Nat) (S : List ByteArray) (C : List S40) (f : Int) (w : World) (hr0 : Kd.C Kd.string w A0 S.length S) (hc0 : S.length ≤ c0) (hr1 : Kd.C k40 w A1 C.length C) (hc1 : C.length ≤ c1) (h : spoorref03_Check.f k S C f true = some 0) (hcp : spoorref03_Copy.f S C f true = some (S, C, f, true))  :
    Calls Try.prog 12 #[.agg #[.slice A0 S.length c0, .slice A1 C.length c1, .int .i64 f, .bool true]] w fun e w' => ∃ v0_ v1_ : Value, e = .returned (.tuple #[.agg #[v0_, v1_, .int .i64 f, .bool true], .int .i64 9]) ∧ Kd.R Kd.string 9 w' w.heap.size (fun _ => True) v0_ S ∧ Kd.R k40 40 w' w.heap.size (fun _ => True) v1_ C ∧ Below w.heap.size w w' := by
  have R0 := Aside0.mk hr0
  have R1 := Aside0.mk hr1
  have HC0 := Aside0.mk hc0
  have HC1 := Aside0.mk hc1
  have HH := Aside0.mk h
  clear hr0 hc0 hr1 hc1 h
  have HCP := Aside0.mk hcp
  clear hcp
  go_enter Try.func12, Try.ntmps12
  go_upto_region 4 with (first
    | ((with_reducible refine gate_dst (N := 1) rfl ?_); refine box_event ?hg (N := 1) ?hd (cs := #[.slice A0 S.length c0, .slice A1 C.length c1, .int .i64 f, .bool true]) (t := 25) ?hr ?_; (case hd => rfl); (case hg => rfl); (case hr => first | (go_simp; done) | (go_simp; rfl)); intro gx hg w3 hbox hb3; obtain ⟨h0, h1, h2, h3⟩ := cells25_ hbox; have HX := Aside0.mk hbox; have HGX := Aside0.mk (show w.heap.size ≤ gx by rw [hg]; exact Nat.le_refl _); have HB := Aside0.mk (Below.trans (Below.refl _ _) hb3); clear hg hbox hb3)
    | ((with_reducible refine gate_dst (N := 2) rfl ?_); refine box_event ?hg (N := 2) ?hd (cs := #[.slice none 0 0, .slice none 0 0, .int .i64 0, .bool false]) (t := 25) ?hr ?_; (case hd => rfl); (case hg => rfl); (case hr => first | (go_simp; done) | (go_simp; rfl)); intro gr hg w4 hbox hb3; have HNE := Aside0.mk (show gx ≠ gr by rw [hg]; exact Nat.ne_of_lt (blk_lt HX.out)); have HG := Aside0.mk (by rw [hg]; exact HB.out.size : w.heap.size ≤ gr); have HZ := Aside0.mk hbox; have n1_ := Aside0.mk (blk_below HX.out hb3); have n0_ := Aside0.mk (below_step HB.out hb3); clear h0 h1 h2 h3 HX HB; have HX := n1_; have HB := n0_; obtain ⟨h0, h1, h2, h3⟩ := cells25_ HX.out; clear hg hbox hb3 n0_ n1_)
    | (go_at_call 18; refine (spoorref03_Check.calls k A0 c0 S A1 c1 C f true 0 _ (Kd.C_below R0.out HB.out) HC0.out (Kd.C_below R1.out HB.out) HC1.out HH.out).mono ?_; rintro e w5 ⟨rfl, hb5⟩; have n0_ := Aside0.mk (below_step HB.out hb5); have n1_ := Aside0.mk (blk_below HX.out hb5); have n2_ := Aside0.mk (blk_below HZ.out hb5); clear HB HX HZ hb5 h0 h1 h2 h3; have HB := n0_; have HX := n1_; have HZ := n2_; clear n0_ n1_ n2_; obtain ⟨h0, h1, h2, h3⟩ := cells25_ HX.out; obtain ⟨y0, y1, y2, y3⟩ := cells25_ HZ.out; obtain ⟨q0, q1, q2, q3⟩ := f25a HZ.out)
    | (go_at_call 8; refine (spoorref03_Copy.calls A0 c0 S A1 c1 C f true S C f true _ (Kd.C_below R0.out HB.out) HC0.out (Kd.C_below R1.out HB.out) HC1.out HCP.out).mono ?_; rintro e w6 ⟨v0, v1, rfl, hR0, hR1, hb6⟩; obtain ⟨B0, e0, rfl⟩ := Kd.R_slice hR0; obtain ⟨B1, e1, rfl⟩ := Kd.R_slice hR1; have HD2 := Aside0.mk (Kd.R_lower hR0 HB.out.size); have HD3 := Aside0.mk (Kd.R_lower hR1 HB.out.size); have n0_ := Aside0.mk (below_step HB.out hb6); have n1_ := Aside0.mk (blk_below HX.out hb6); have n2_ := Aside0.mk (blk_below HZ.out hb6); clear HB HX HZ hb6 h0 h1 h2 h3 y0 y1 y2 y3 q0 q1 q2 q3 hR0 hR1; have HB := n0_; have HX := n1_; have HZ := n2_; clear n0_ n1_ n2_; obtain ⟨h0, h1, h2, h3⟩ := cells25_ HX.out; obtain ⟨z0, z1, z2, z3⟩ := f25a HX.out))
  have F := fin25 (f := f) (o := true) HX.out HD2.out HD3.out HB.out HGX.out
  have Z := blk_far (p := ⟨gx, 3, none⟩) (blk_far (p := ⟨gx, 2, none⟩) (blk_far (p := ⟨gx, 1, none⟩) (blk_far (p := ⟨gx, 0, none⟩) HZ.out HNE.out.symm (.slice B0 S.length e0)) HNE.out.symm (.slice B1 C.length e1)) HNE.out.symm (.int .i64 f)) HNE.out.symm (.bool true)
  obtain ⟨W6, hW6⟩ : ∃ W, W = ((((w6.setCell ⟨gx, 0, none⟩ (.slice B0 S.length e0)).setCell ⟨gx, 1, none⟩ (.slice B1 C.length e1)).setCell ⟨gx, 2, none⟩ (.int .i64 f)).setCell ⟨gx, 3, none⟩ (.bool true)) := ⟨_, rfl⟩
  (try simp only [Act.put, List.setIfInBounds_toArray, List.set_cons_zero, List.set_cons_succ])
  rw [← hW6] at F Z ⊢
  obtain ⟨F1, F2, F3, F4⟩ := F
  clear HX HD2 HD3 HB HZ h0 h1 h2 h3 z0 z1 z2 z3 hW6
  have HX := Aside0.mk F1
  have HD2 := Aside0.mk F2
  have HD3 := Aside0.mk F3
  have HB := Aside0.mk F4
  have HZ := Aside0.mk Z
  obtain ⟨h0, h1, h2, h3⟩ := cells25_ HX.out
  obtain ⟨z0, z1, z2, z3⟩ := f25a HX.out
  obtain ⟨y0, y1, y2, y3⟩ := cells25_ HZ.out
  obtain ⟨q0, q1, q2, q3⟩ := f25a HZ.out
  clear F1 F2 F3 F4 Z
  go_wp2
  have F := fin25 (f := f) (o := true) HZ.out HD2.out HD3.out HB.out HG.out
  refine bodyPost_ret (results_ct rfl _ _ gr 25 #[.slice B0 S.length e0, .slice B1 C.length e1, .int .i64 f, .bool true] (0, 0) _ rfl F.1 Try.underlying25 rfl (by kernel_rfl)) rfl ?_
  exact ⟨_, _, rfl, F.2.1, F.2.2.1, F.2.2.2⟩
set_option maxHeartbeats 8000000 in
theorem rFlush_blown (k : Nat) (A0 A1 : Option Addr) (c0 c1 : Nat) (S : List ByteArray) (C : List S40) (f : Int) (w : World) (hr0 : Kd.C Kd.string w A0 S.length S) (hc0 : S.length ≤ c0) (hr1 : Kd.C k40 w A1 C.length C) (hc1 : C.length ≤ c1) (h : spoorref03_Check.f k S C f false = some 0) (hcp : spoorref03_Copy.f S C f false = some (S, C, f, false)) (hf : f = 0) :
    Calls Try.prog 12 #[.agg #[.slice A0 S.length c0, .slice A1 C.length c1, .int .i64 f, .bool false]] w fun e w' => ∃ v0_ v1_ : Value, e = .returned (.tuple #[.agg #[v0_, v1_, .int .i64 f, .bool true], .int .i64 9]) ∧ Kd.R Kd.string 9 w' w.heap.size (fun _ => True) v0_ S ∧ Kd.R k40 40 w' w.heap.size (fun _ => True) v1_ C ∧ Below w.heap.size w w' := by
  have R0 := Aside0.mk hr0
  have R1 := Aside0.mk hr1
  have HC0 := Aside0.mk hc0
  have HC1 := Aside0.mk hc1
  have HH := Aside0.mk h
  clear hr0 hc0 hr1 hc1 h
  have HCP := Aside0.mk hcp
  clear hcp
  have f1 : (f == 0) = true := beq_iff_eq.mpr hf
  have HF := Aside0.mk hf
  clear hf
  go_enter Try.func12, Try.ntmps12
  go_upto_region 4 with (first
    | ((with_reducible refine gate_dst (N := 1) rfl ?_); refine box_event ?hg (N := 1) ?hd (cs := #[.slice A0 S.length c0, .slice A1 C.length c1, .int .i64 f, .bool false]) (t := 25) ?hr ?_; (case hd => rfl); (case hg => rfl); (case hr => first | (go_simp; done) | (go_simp; rfl)); intro gx hg w3 hbox hb3; obtain ⟨h0, h1, h2, h3⟩ := cells25_ hbox; have HX := Aside0.mk hbox; have HGX := Aside0.mk (show w.heap.size ≤ gx by rw [hg]; exact Nat.le_refl _); have HB := Aside0.mk (Below.trans (Below.refl _ _) hb3); clear hg hbox hb3)
    | ((with_reducible refine gate_dst (N := 2) rfl ?_); refine box_event ?hg (N := 2) ?hd (cs := #[.slice none 0 0, .slice none 0 0, .int .i64 0, .bool false]) (t := 25) ?hr ?_; (case hd => rfl); (case hg => rfl); (case hr => first | (go_simp; done) | (go_simp; rfl)); intro gr hg w4 hbox hb3; have HNE := Aside0.mk (show gx ≠ gr by rw [hg]; exact Nat.ne_of_lt (blk_lt HX.out)); have HG := Aside0.mk (by rw [hg]; exact HB.out.size : w.heap.size ≤ gr); have HZ := Aside0.mk hbox; have n1_ := Aside0.mk (blk_below HX.out hb3); have n0_ := Aside0.mk (below_step HB.out hb3); clear h0 h1 h2 h3 HX HB; have HX := n1_; have HB := n0_; obtain ⟨h0, h1, h2, h3⟩ := cells25_ HX.out; clear hg hbox hb3 n0_ n1_)
    | (go_at_call 18; refine (spoorref03_Check.calls k A0 c0 S A1 c1 C f false 0 _ (Kd.C_below R0.out HB.out) HC0.out (Kd.C_below R1.out HB.out) HC1.out HH.out).mono ?_; rintro e w5 ⟨rfl, hb5⟩; have n0_ := Aside0.mk (below_step HB.out hb5); have n1_ := Aside0.mk (blk_below HX.out hb5); have n2_ := Aside0.mk (blk_below HZ.out hb5); clear HB HX HZ hb5 h0 h1 h2 h3; have HB := n0_; have HX := n1_; have HZ := n2_; clear n0_ n1_ n2_; obtain ⟨h0, h1, h2, h3⟩ := cells25_ HX.out; obtain ⟨y0, y1, y2, y3⟩ := cells25_ HZ.out; obtain ⟨q0, q1, q2, q3⟩ := f25a HZ.out)
    | (go_at_call 8; refine (spoorref03_Copy.calls A0 c0 S A1 c1 C f false S C f false _ (Kd.C_below R0.out HB.out) HC0.out (Kd.C_below R1.out HB.out) HC1.out HCP.out).mono ?_; rintro e w6 ⟨v0, v1, rfl, hR0, hR1, hb6⟩; obtain ⟨B0, e0, rfl⟩ := Kd.R_slice hR0; obtain ⟨B1, e1, rfl⟩ := Kd.R_slice hR1; have HD2 := Aside0.mk (Kd.R_lower hR0 HB.out.size); have HD3 := Aside0.mk (Kd.R_lower hR1 HB.out.size); have n0_ := Aside0.mk (below_step HB.out hb6); have n1_ := Aside0.mk (blk_below HX.out hb6); have n2_ := Aside0.mk (blk_below HZ.out hb6); clear HB HX HZ hb6 h0 h1 h2 h3 y0 y1 y2 y3 q0 q1 q2 q3 hR0 hR1; have HB := n0_; have HX := n1_; have HZ := n2_; clear n0_ n1_ n2_; obtain ⟨h0, h1, h2, h3⟩ := cells25_ HX.out; obtain ⟨z0, z1, z2, z3⟩ := f25a HX.out))
  have F := fin25 (f := f) (o := false) HX.out HD2.out HD3.out HB.out HGX.out
  have Z := blk_far (p := ⟨gx, 3, none⟩) (blk_far (p := ⟨gx, 2, none⟩) (blk_far (p := ⟨gx, 1, none⟩) (blk_far (p := ⟨gx, 0, none⟩) HZ.out HNE.out.symm (.slice B0 S.length e0)) HNE.out.symm (.slice B1 C.length e1)) HNE.out.symm (.int .i64 f)) HNE.out.symm (.bool false)
  obtain ⟨W6, hW6⟩ : ∃ W, W = ((((w6.setCell ⟨gx, 0, none⟩ (.slice B0 S.length e0)).setCell ⟨gx, 1, none⟩ (.slice B1 C.length e1)).setCell ⟨gx, 2, none⟩ (.int .i64 f)).setCell ⟨gx, 3, none⟩ (.bool false)) := ⟨_, rfl⟩
  (try simp only [Act.put, List.setIfInBounds_toArray, List.set_cons_zero, List.set_cons_succ])
  rw [← hW6] at F Z ⊢
  obtain ⟨F1, F2, F3, F4⟩ := F
  clear HX HD2 HD3 HB HZ h0 h1 h2 h3 z0 z1 z2 z3 hW6
  have HX := Aside0.mk F1
  have HD2 := Aside0.mk F2
  have HD3 := Aside0.mk F3
  have HB := Aside0.mk F4
  have HZ := Aside0.mk Z
  obtain ⟨h0, h1, h2, h3⟩ := cells25_ HX.out
  obtain ⟨z0, z1, z2, z3⟩ := f25a HX.out
  obtain ⟨y0, y1, y2, y3⟩ := cells25_ HZ.out
  obtain ⟨q0, q1, q2, q3⟩ := f25a HZ.out
  clear F1 F2 F3 F4 Z
  have HX2 := Aside0.mk (blk_put HX.out 3 (.bool true) rfl)
  have HZ2 := Aside0.mk (blk_far (p := ⟨gx, 3, none⟩) HZ.out HNE.out.symm (.bool true))
  have HE2 := Aside0.mk (Kd.R_set HD2.out HX.out (by decide) 3 (.bool true))
  have HE3 := Aside0.mk (Kd.R_set HD3.out HX.out (by decide) 3 (.bool true))
  have HB2 := Aside0.mk (below_set (j := 3) (v := .bool true) HB.out HGX.out)
  go_upto_region 8 with (fail)
  obtain ⟨W7, hW7⟩ : ∃ W, W = (W6.setCell ⟨gx, 3, none⟩ (.bool true)) := ⟨_, rfl⟩
  (try simp only [Act.put, List.setIfInBounds_toArray, List.set_cons_zero, List.set_cons_succ])
  rw [← hW7] at HX2 HZ2 HE2 HE3 HB2 ⊢
  clear h0 h1 h2 h3 y0 y1 y2 y3 z0 z1 z2 z3 q0 q1 q2 q3 hW7 HX HZ HD2 HD3 HB
  obtain ⟨h0, h1, h2, h3⟩ := cells25_ HX2.out
  obtain ⟨y0, y1, y2, y3⟩ := cells25_ HZ2.out
  obtain ⟨q0, q1, q2, q3⟩ := f25a HZ2.out
  go_wp2
  have F := fin25 (f := f) (o := true) HZ2.out HE2.out HE3.out HB2.out HG.out
  refine bodyPost_ret (results_ct rfl _ _ gr 25 #[.slice B0 S.length e0, .slice B1 C.length e1, .int .i64 f, .bool true] (0, 0) _ rfl F.1 Try.underlying25 rfl (by kernel_rfl)) rfl ?_
  exact ⟨_, _, rfl, F.2.1, F.2.2.1, F.2.2.2⟩
set_option maxHeartbeats 8000000 in
theorem rFlush_pos (k : Nat) (A0 A1 : Option Addr) (c0 c1 : Nat) (S : List ByteArray) (C : List S40) (f : Int) (w : World) (hr0 : Kd.C Kd.string w A0 S.length S) (hc0 : S.length ≤ c0) (hr1 : Kd.C k40 w A1 C.length C) (hc1 : C.length ≤ c1) (h : spoorref03_Check.f k S C f false = some 0) (hcp : spoorref03_Copy.f S C f false = some (S, C, f, false)) (hf : ¬ f = 0) (hp : 0 < f) (hl : C.length < 5864062014805) (hin : ∀ i, (h : i < C.length) → 0 ≤ C[i].f0 ∧ C[i].f0 < (S.length : Int)) :
    Calls Try.prog 12 #[.agg #[.slice A0 S.length c0, .slice A1 C.length c1, .int .i64 f, .bool false]] w fun e w' => ∃ v0_ v1_ : Value, e = .returned (.tuple #[.agg #[v0_, v1_, .int .i64 (wrap64 (f - 1)), .bool false], .int .i64 0]) ∧ Kd.R Kd.string 9 w' w.heap.size (fun _ => True) v0_ (applyF S C) ∧ Kd.R k40 40 w' w.heap.size (fun _ => True) v1_ ([] : List S40) ∧ Below w.heap.size w w' := by
  have R0 := Aside0.mk hr0
  have R1 := Aside0.mk hr1
  have HC0 := Aside0.mk hc0
  have HC1 := Aside0.mk hc1
  have HH := Aside0.mk h
  clear hr0 hc0 hr1 hc1 h
  have HCP := Aside0.mk hcp
  clear hcp
  have f1 : (f == 0) = false := beq_eq_false_iff_ne.mpr hf
  have f2 : decide (0 < f) = true := decide_eq_true hp
  have HIN := Aside0.mk hin
  clear hf hp hin
  go_enter Try.func12, Try.ntmps12
  go_upto_region 4 with (first
    | ((with_reducible refine gate_dst (N := 1) rfl ?_); refine box_event ?hg (N := 1) ?hd (cs := #[.slice A0 S.length c0, .slice A1 C.length c1, .int .i64 f, .bool false]) (t := 25) ?hr ?_; (case hd => rfl); (case hg => rfl); (case hr => first | (go_simp; done) | (go_simp; rfl)); intro gx hg w3 hbox hb3; obtain ⟨h0, h1, h2, h3⟩ := cells25_ hbox; have HX := Aside0.mk hbox; have HGX := Aside0.mk (show w.heap.size ≤ gx by rw [hg]; exact Nat.le_refl _); have HB := Aside0.mk (Below.trans (Below.refl _ _) hb3); clear hg hbox hb3)
    | ((with_reducible refine gate_dst (N := 2) rfl ?_); refine box_event ?hg (N := 2) ?hd (cs := #[.slice none 0 0, .slice none 0 0, .int .i64 0, .bool false]) (t := 25) ?hr ?_; (case hd => rfl); (case hg => rfl); (case hr => first | (go_simp; done) | (go_simp; rfl)); intro gr hg w4 hbox hb3; have HNE := Aside0.mk (show gx ≠ gr by rw [hg]; exact Nat.ne_of_lt (blk_lt HX.out)); have HG := Aside0.mk (by rw [hg]; exact HB.out.size : w.heap.size ≤ gr); have HZ := Aside0.mk hbox; have n1_ := Aside0.mk (blk_below HX.out hb3); have n0_ := Aside0.mk (below_step HB.out hb3); clear h0 h1 h2 h3 HX HB; have HX := n1_; have HB := n0_; obtain ⟨h0, h1, h2, h3⟩ := cells25_ HX.out; clear hg hbox hb3 n0_ n1_)
    | (go_at_call 18; refine (spoorref03_Check.calls k A0 c0 S A1 c1 C f false 0 _ (Kd.C_below R0.out HB.out) HC0.out (Kd.C_below R1.out HB.out) HC1.out HH.out).mono ?_; rintro e w5 ⟨rfl, hb5⟩; have n0_ := Aside0.mk (below_step HB.out hb5); have n1_ := Aside0.mk (blk_below HX.out hb5); have n2_ := Aside0.mk (blk_below HZ.out hb5); clear HB HX HZ hb5 h0 h1 h2 h3; have HB := n0_; have HX := n1_; have HZ := n2_; clear n0_ n1_ n2_; obtain ⟨h0, h1, h2, h3⟩ := cells25_ HX.out; obtain ⟨y0, y1, y2, y3⟩ := cells25_ HZ.out; obtain ⟨q0, q1, q2, q3⟩ := f25a HZ.out)
    | (go_at_call 8; refine (spoorref03_Copy.calls A0 c0 S A1 c1 C f false S C f false _ (Kd.C_below R0.out HB.out) HC0.out (Kd.C_below R1.out HB.out) HC1.out HCP.out).mono ?_; rintro e w6 ⟨v0, v1, rfl, hR0, hR1, hb6⟩; obtain ⟨B0, e0, rfl⟩ := Kd.R_slice hR0; obtain ⟨B1, e1, rfl⟩ := Kd.R_slice hR1; have HD2 := Aside0.mk (Kd.R_lower hR0 HB.out.size); have HD3 := Aside0.mk (Kd.R_lower hR1 HB.out.size); have n0_ := Aside0.mk (below_step HB.out hb6); have n1_ := Aside0.mk (blk_below HX.out hb6); have n2_ := Aside0.mk (blk_below HZ.out hb6); clear HB HX HZ hb6 h0 h1 h2 h3 y0 y1 y2 y3 q0 q1 q2 q3 hR0 hR1; have HB := n0_; have HX := n1_; have HZ := n2_; clear n0_ n1_ n2_; obtain ⟨h0, h1, h2, h3⟩ := cells25_ HX.out; obtain ⟨z0, z1, z2, z3⟩ := f25a HX.out))
  have F := fin25 (f := f) (o := false) HX.out HD2.out HD3.out HB.out HGX.out
  have Z := blk_far (p := ⟨gx, 3, none⟩) (blk_far (p := ⟨gx, 2, none⟩) (blk_far (p := ⟨gx, 1, none⟩) (blk_far (p := ⟨gx, 0, none⟩) HZ.out HNE.out.symm (.slice B0 S.length e0)) HNE.out.symm (.slice B1 C.length e1)) HNE.out.symm (.int .i64 f)) HNE.out.symm (.bool false)
  obtain ⟨W6, hW6⟩ : ∃ W, W = ((((w6.setCell ⟨gx, 0, none⟩ (.slice B0 S.length e0)).setCell ⟨gx, 1, none⟩ (.slice B1 C.length e1)).setCell ⟨gx, 2, none⟩ (.int .i64 f)).setCell ⟨gx, 3, none⟩ (.bool false)) := ⟨_, rfl⟩
  (try simp only [Act.put, List.setIfInBounds_toArray, List.set_cons_zero, List.set_cons_succ])
  rw [← hW6] at F Z ⊢
  obtain ⟨F1, F2, F3, F4⟩ := F
  clear HX HD2 HD3 HB HZ h0 h1 h2 h3 z0 z1 z2 z3 hW6
  have HX := Aside0.mk F1
  have HD2 := Aside0.mk F2
  have HD3 := Aside0.mk F3
  have HB := Aside0.mk F4
  have HZ := Aside0.mk Z
  obtain ⟨h0, h1, h2, h3⟩ := cells25_ HX.out
  obtain ⟨z0, z1, z2, z3⟩ := f25a HX.out
  obtain ⟨y0, y1, y2, y3⟩ := cells25_ HZ.out
  obtain ⟨q0, q1, q2, q3⟩ := f25a HZ.out
  clear F1 F2 F3 F4 Z
  have HX2 := Aside0.mk (blk_put HX.out 2 (.int .i64 (wrap64 (f - 1))) rfl)
  have HZ2 := Aside0.mk (blk_far (p := ⟨gx, 2, none⟩) HZ.out HNE.out.symm (.int .i64 (wrap64 (f - 1))))
  have HE2 := Aside0.mk (Kd.R_set HD2.out HX.out (by decide) 2 (.int .i64 (wrap64 (f - 1))))
  have HE3 := Aside0.mk (Kd.R_set HD3.out HX.out (by decide) 2 (.int .i64 (wrap64 (f - 1))))
  have HB2 := Aside0.mk (below_set (j := 2) (v := .int .i64 (wrap64 (f - 1))) HB.out HGX.out)
  go_upto_region 11 with (fail)
  obtain ⟨W7, hW7⟩ : ∃ W, W = (W6.setCell ⟨gx, 2, none⟩ (.int .i64 (wrap64 (f - 1)))) := ⟨_, rfl⟩
  (try simp only [Act.put, List.setIfInBounds_toArray, List.set_cons_zero, List.set_cons_succ])
  rw [← hW7] at HX2 HZ2 HE2 HE3 HB2 ⊢
  clear h0 h1 h2 h3 y0 y1 y2 y3 z0 z1 z2 z3 q0 q1 q2 q3 hW7 HX HZ HD2 HD3 HB
  have HX := HX2
  have HZ := HZ2
  have HD2 := HE2
  have HD3 := HE3
  have HB := HB2
  clear HX2 HZ2 HE2 HE3 HB2
  obtain ⟨h0, h1, h2, h3⟩ := cells25_ HX.out
  obtain ⟨z0, z1, z2, z3⟩ := f25a HX.out
  obtain ⟨y0, y1, y2, y3⟩ := cells25_ HZ.out
  obtain ⟨q0, q1, q2, q3⟩ := f25a HZ.out
  go_wp2
  go_loopg [5, 30] C.length (fun gg _ s10 wr => ∃ kk : Nat, kk ≤ C.length ∧ C.length - kk ≤ gg ∧ s10 = .int .i64 kk ∧ Aside0 (wr.heap[gx]? = some (.cells #[.slice B0 S.length e0, .slice B1 C.length e1, .int .i64 (wrap64 (f - 1)), .bool false] 25 (0, 0))) ∧ Aside0 (wr.heap[gr]? = some (.cells #[.slice none 0 0, .slice none 0 0, .int .i64 0, .bool false] 25 (0, 0))) ∧ Aside0 (Kd.R Kd.string 9 wr w.heap.size (fun _ => True) (.slice B0 S.length e0) (applyF S (C.take kk))) ∧ Aside0 (Kd.R k40 40 wr w.heap.size (fun _ => True) (.slice B1 C.length e1) C) ∧ Aside0 (Below w.heap.size w wr))
  case atStart => exact ⟨0, Nat.zero_le _, by omega, rfl, HX, HZ, HD2, HD3, HB⟩
  case round =>
    clear HX HZ HD2 HD3 HB h0 h1 h2 h3 y0 y1 y2 y3 z0 z1 z2 z3 q0 q1 q2 q3
    obtain ⟨kk, hkk, hg, rfl, HX, HZ, HD2, HD3, HB⟩ := hrel
    by_cases hlt : kk < C.length
    · have hltz : (kk : Int) < (C.length : Int) := by omega
      have hin := HIN.out kk hlt
      have ht := applyF_take S C kk hlt
      have hla := applyF_len (C.take kk) S
      obtain ⟨ad, rfl, hx0, hx1⟩ := at_T40 (Kd.R_reads' HD3.out).2.2 (kk : Int) (by omega) (by omega)
      have hrd : rd_T40 C (kk : Int) = C[kk] := rdOf_at z40 C kk hlt
      rw [hrd, Int.toNat_natCast] at hx0 hx1
      generalize C[kk] = p at hx0 hx1 hin ht
      obtain ⟨i0, i1⟩ := hin
      obtain ⟨gs, cs, es, hgs, hls, cells, hcs⟩ := Kd.R_form HD2.out (by rw [hla]; omega)
      injection es with ea en ec
      subst ea
      subst ec
      clear en
      have hcell := Kd.R_celln (⟨#[]⟩ : ByteArray) HD2.out p.f0 i0 i1
      have HP := Kd.R_putn HD2.out p.f0 p.f1
      rw [← ht] at HP
      have hgg : gs ≠ gx := blk_ne hcs HX.out (by decide)
      have hgr : gs ≠ gr := blk_ne hcs HZ.out (by decide)
      have HP' := Aside0.mk HP
      have hcell := Kd.R_celln (⟨#[]⟩ : ByteArray) (Kd.R_below HD2.out (below_alloc (Below.refl _ _) (.cells #[.int .i64 p.f0, .string p.f1] 40))) p.f0 i0 i1
      obtain ⟨hcell, hcellf⟩ := hcell
      obtain ⟨e0', e1', e2', e3'⟩ := cells25_ (blk_alloc HX.out (.cells #[.int .i64 p.f0, .string p.f1] 40))
      have n0 := (blk_cell (blk_new wr (.cells #[.int .i64 p.f0, .string p.f1] 40)) 0).trans rfl
      have n1 := (blk_cell (blk_new wr (.cells #[.int .i64 p.f0, .string p.f1] 40)) 1).trans rfl
      have HQ := Aside0.mk (Kd.R_set HD3.out (g := gs) (t := 9) hcs (by decide) p.f0.toNat (.string p.f1))
      have q0 : decide (0 ≤ p.f0) = true := decide_eq_true i0
      have q1 : decide (p.f0 < (S.length : Int)) = true := decide_eq_true i1
      clear HP ht hla
      go_wp2
      go_roundg (C.length - (kk + 1))
      case measure => omega
      case rel =>
        exact ⟨kk + 1, by omega, by omega, by go_num, ⟨blk_alloc (blk_far (p := ⟨gs, p.f0.toNat, none⟩) HX.out hgg.symm _) _⟩, ⟨blk_alloc (blk_far (p := ⟨gs, p.f0.toNat, none⟩) HZ.out hgr.symm _) _⟩, ⟨Kd.R_alloc HP'.out _⟩, ⟨Kd.R_alloc HQ.out _⟩, ⟨below_alloc (below_set HB.out hgs) _⟩⟩
    · have hltz : ¬ (kk : Int) < (C.length : Int) := by omega
      obtain rfl : kk = C.length := by omega
      have ht : applyF S (C.take C.length) = applyF S C := by rw [List.take_length]
      rw [ht] at HD2
      clear ht
      have hla := applyF_len C S
      have HX2 := Aside0.mk (blk_put HX.out 1 (.slice none 0 0) rfl)
      have HZ2 := Aside0.mk (blk_far (p := ⟨gx, 1, none⟩) HZ.out HNE.out.symm (.slice none 0 0))
      have HE2 := Aside0.mk (Kd.R_set HD2.out HX.out (by decide) 1 (.slice none 0 0))
      have HB2 := Aside0.mk (below_set (j := 1) (v := .slice none 0 0) HB.out HGX.out)
      obtain ⟨h0, h1, h2, h3⟩ := cells25_ HX.out
      obtain ⟨z0, z1, z2, z3⟩ := f25a HX.out
      go_upto_region 17 with (fail)
      obtain ⟨W7, hW7⟩ : ∃ W, W = (wr.setCell ⟨gx, 1, none⟩ (.slice none 0 0)) := ⟨_, rfl⟩
      (try simp only [Act.put, List.setIfInBounds_toArray, List.set_cons_zero, List.set_cons_succ])
      rw [← hW7] at HX2 HZ2 HE2 HB2 ⊢
      clear h0 h1 h2 h3 z0 z1 z2 z3 hW7 HX HZ HD2 HD3 HB
      obtain ⟨T, hT⟩ : ∃ T, T = applyF S C := ⟨_, rfl⟩
      rw [← hT] at HE2 hla
      have HTT := Aside0.mk hT
      rw [← hla] at HE2 HX2
      obtain ⟨h0, h1, h2, h3⟩ := cells25_ HX2.out
      obtain ⟨y0, y1, y2, y3⟩ := cells25_ HZ2.out
      obtain ⟨q0, q1, q2, q3⟩ := f25a HZ2.out
      clear hT hla
      go_wp2
      have F := fin25 (S := T) (C := []) (A1 := none) (c1 := 0) (f := (wrap64 (f - 1))) (o := false) HZ2.out HE2.out (Kd.R_nil _ _ _ _ _) HB2.out HG.out
      rw [← HTT.out]
      refine bodyPost_ret (results_ct rfl _ _ gr 25 #[.slice B0 T.length e0, .slice none 0 0, .int .i64 (wrap64 (f - 1)), .bool false] (0, 0) _ rfl F.1 Try.underlying25 rfl (by kernel_rfl)) rfl ?_
      exact ⟨_, _, rfl, F.2.1, F.2.2.1, F.2.2.2⟩
set_option maxHeartbeats 8000000 in
theorem rFlush_neg (k : Nat) (A0 A1 : Option Addr) (c0 c1 : Nat) (S : List ByteArray) (C : List S40) (f : Int) (w : World) (hr0 : Kd.C Kd.string w A0 S.length S) (hc0 : S.length ≤ c0) (hr1 : Kd.C k40 w A1 C.length C) (hc1 : C.length ≤ c1) (h : spoorref03_Check.f k S C f false = some 0) (hcp : spoorref03_Copy.f S C f false = some (S, C, f, false)) (hf : ¬ f = 0) (hp : ¬ 0 < f) (hl : C.length < 5864062014805) (hin : ∀ i, (h : i < C.length) → 0 ≤ C[i].f0 ∧ C[i].f0 < (S.length : Int)) :
    Calls Try.prog 12 #[.agg #[.slice A0 S.length c0, .slice A1 C.length c1, .int .i64 f, .bool false]] w fun e w' => ∃ v0_ v1_ : Value, e = .returned (.tuple #[.agg #[v0_, v1_, .int .i64 f, .bool false], .int .i64 0]) ∧ Kd.R Kd.string 9 w' w.heap.size (fun _ => True) v0_ (applyF S C) ∧ Kd.R k40 40 w' w.heap.size (fun _ => True) v1_ ([] : List S40) ∧ Below w.heap.size w w' := by
  have R0 := Aside0.mk hr0
  have R1 := Aside0.mk hr1
  have HC0 := Aside0.mk hc0
  have HC1 := Aside0.mk hc1
  have HH := Aside0.mk h
  clear hr0 hc0 hr1 hc1 h
  have HCP := Aside0.mk hcp
  clear hcp
  have f1 : (f == 0) = false := beq_eq_false_iff_ne.mpr hf
  have f2 : decide (0 < f) = false := decide_eq_false hp
  have HIN := Aside0.mk hin
  clear hf hp hin
  go_enter Try.func12, Try.ntmps12
  go_upto_region 4 with (first
    | ((with_reducible refine gate_dst (N := 1) rfl ?_); refine box_event ?hg (N := 1) ?hd (cs := #[.slice A0 S.length c0, .slice A1 C.length c1, .int .i64 f, .bool false]) (t := 25) ?hr ?_; (case hd => rfl); (case hg => rfl); (case hr => first | (go_simp; done) | (go_simp; rfl)); intro gx hg w3 hbox hb3; obtain ⟨h0, h1, h2, h3⟩ := cells25_ hbox; have HX := Aside0.mk hbox; have HGX := Aside0.mk (show w.heap.size ≤ gx by rw [hg]; exact Nat.le_refl _); have HB := Aside0.mk (Below.trans (Below.refl _ _) hb3); clear hg hbox hb3)
    | ((with_reducible refine gate_dst (N := 2) rfl ?_); refine box_event ?hg (N := 2) ?hd (cs := #[.slice none 0 0, .slice none 0 0, .int .i64 0, .bool false]) (t := 25) ?hr ?_; (case hd => rfl); (case hg => rfl); (case hr => first | (go_simp; done) | (go_simp; rfl)); intro gr hg w4 hbox hb3; have HNE := Aside0.mk (show gx ≠ gr by rw [hg]; exact Nat.ne_of_lt (blk_lt HX.out)); have HG := Aside0.mk (by rw [hg]; exact HB.out.size : w.heap.size ≤ gr); have HZ := Aside0.mk hbox; have n1_ := Aside0.mk (blk_below HX.out hb3); have n0_ := Aside0.mk (below_step HB.out hb3); clear h0 h1 h2 h3 HX HB; have HX := n1_; have HB := n0_; obtain ⟨h0, h1, h2, h3⟩ := cells25_ HX.out; clear hg hbox hb3 n0_ n1_)
    | (go_at_call 18; refine (spoorref03_Check.calls k A0 c0 S A1 c1 C f false 0 _ (Kd.C_below R0.out HB.out) HC0.out (Kd.C_below R1.out HB.out) HC1.out HH.out).mono ?_; rintro e w5 ⟨rfl, hb5⟩; have n0_ := Aside0.mk (below_step HB.out hb5); have n1_ := Aside0.mk (blk_below HX.out hb5); have n2_ := Aside0.mk (blk_below HZ.out hb5); clear HB HX HZ hb5 h0 h1 h2 h3; have HB := n0_; have HX := n1_; have HZ := n2_; clear n0_ n1_ n2_; obtain ⟨h0, h1, h2, h3⟩ := cells25_ HX.out; obtain ⟨y0, y1, y2, y3⟩ := cells25_ HZ.out; obtain ⟨q0, q1, q2, q3⟩ := f25a HZ.out)
    | (go_at_call 8; refine (spoorref03_Copy.calls A0 c0 S A1 c1 C f false S C f false _ (Kd.C_below R0.out HB.out) HC0.out (Kd.C_below R1.out HB.out) HC1.out HCP.out).mono ?_; rintro e w6 ⟨v0, v1, rfl, hR0, hR1, hb6⟩; obtain ⟨B0, e0, rfl⟩ := Kd.R_slice hR0; obtain ⟨B1, e1, rfl⟩ := Kd.R_slice hR1; have HD2 := Aside0.mk (Kd.R_lower hR0 HB.out.size); have HD3 := Aside0.mk (Kd.R_lower hR1 HB.out.size); have n0_ := Aside0.mk (below_step HB.out hb6); have n1_ := Aside0.mk (blk_below HX.out hb6); have n2_ := Aside0.mk (blk_below HZ.out hb6); clear HB HX HZ hb6 h0 h1 h2 h3 y0 y1 y2 y3 q0 q1 q2 q3 hR0 hR1; have HB := n0_; have HX := n1_; have HZ := n2_; clear n0_ n1_ n2_; obtain ⟨h0, h1, h2, h3⟩ := cells25_ HX.out; obtain ⟨z0, z1, z2, z3⟩ := f25a HX.out))
  have F := fin25 (f := f) (o := false) HX.out HD2.out HD3.out HB.out HGX.out
  have Z := blk_far (p := ⟨gx, 3, none⟩) (blk_far (p := ⟨gx, 2, none⟩) (blk_far (p := ⟨gx, 1, none⟩) (blk_far (p := ⟨gx, 0, none⟩) HZ.out HNE.out.symm (.slice B0 S.length e0)) HNE.out.symm (.slice B1 C.length e1)) HNE.out.symm (.int .i64 f)) HNE.out.symm (.bool false)
  obtain ⟨W6, hW6⟩ : ∃ W, W = ((((w6.setCell ⟨gx, 0, none⟩ (.slice B0 S.length e0)).setCell ⟨gx, 1, none⟩ (.slice B1 C.length e1)).setCell ⟨gx, 2, none⟩ (.int .i64 f)).setCell ⟨gx, 3, none⟩ (.bool false)) := ⟨_, rfl⟩
  (try simp only [Act.put, List.setIfInBounds_toArray, List.set_cons_zero, List.set_cons_succ])
  rw [← hW6] at F Z ⊢
  obtain ⟨F1, F2, F3, F4⟩ := F
  clear HX HD2 HD3 HB HZ h0 h1 h2 h3 z0 z1 z2 z3 hW6
  have HX := Aside0.mk F1
  have HD2 := Aside0.mk F2
  have HD3 := Aside0.mk F3
  have HB := Aside0.mk F4
  have HZ := Aside0.mk Z
  obtain ⟨h0, h1, h2, h3⟩ := cells25_ HX.out
  obtain ⟨z0, z1, z2, z3⟩ := f25a HX.out
  obtain ⟨y0, y1, y2, y3⟩ := cells25_ HZ.out
  obtain ⟨q0, q1, q2, q3⟩ := f25a HZ.out
  clear F1 F2 F3 F4 Z
  go_wp2
  go_loopg [5, 30] C.length (fun gg _ s10 wr => ∃ kk : Nat, kk ≤ C.length ∧ C.length - kk ≤ gg ∧ s10 = .int .i64 kk ∧ Aside0 (wr.heap[gx]? = some (.cells #[.slice B0 S.length e0, .slice B1 C.length e1, .int .i64 f, .bool false] 25 (0, 0))) ∧ Aside0 (wr.heap[gr]? = some (.cells #[.slice none 0 0, .slice none 0 0, .int .i64 0, .bool false] 25 (0, 0))) ∧ Aside0 (Kd.R Kd.string 9 wr w.heap.size (fun _ => True) (.slice B0 S.length e0) (applyF S (C.take kk))) ∧ Aside0 (Kd.R k40 40 wr w.heap.size (fun _ => True) (.slice B1 C.length e1) C) ∧ Aside0 (Below w.heap.size w wr))
  case atStart => exact ⟨0, Nat.zero_le _, by omega, rfl, HX, HZ, HD2, HD3, HB⟩
  case round =>
    clear HX HZ HD2 HD3 HB h0 h1 h2 h3 y0 y1 y2 y3 z0 z1 z2 z3 q0 q1 q2 q3
    obtain ⟨kk, hkk, hg, rfl, HX, HZ, HD2, HD3, HB⟩ := hrel
    by_cases hlt : kk < C.length
    · have hltz : (kk : Int) < (C.length : Int) := by omega
      have hin := HIN.out kk hlt
      have ht := applyF_take S C kk hlt
      have hla := applyF_len (C.take kk) S
      obtain ⟨ad, rfl, hx0, hx1⟩ := at_T40 (Kd.R_reads' HD3.out).2.2 (kk : Int) (by omega) (by omega)
      have hrd : rd_T40 C (kk : Int) = C[kk] := rdOf_at z40 C kk hlt
      rw [hrd, Int.toNat_natCast] at hx0 hx1
      generalize C[kk] = p at hx0 hx1 hin ht
      obtain ⟨i0, i1⟩ := hin
      obtain ⟨gs, cs, es, hgs, hls, cells, hcs⟩ := Kd.R_form HD2.out (by rw [hla]; omega)
      injection es with ea en ec
      subst ea
      subst ec
      clear en
      have hcell := Kd.R_celln (⟨#[]⟩ : ByteArray) HD2.out p.f0 i0 i1
      have HP := Kd.R_putn HD2.out p.f0 p.f1
      rw [← ht] at HP
      have hgg : gs ≠ gx := blk_ne hcs HX.out (by decide)
      have hgr : gs ≠ gr := blk_ne hcs HZ.out (by decide)
      have HP' := Aside0.mk HP
      have hcell := Kd.R_celln (⟨#[]⟩ : ByteArray) (Kd.R_below HD2.out (below_alloc (Below.refl _ _) (.cells #[.int .i64 p.f0, .string p.f1] 40))) p.f0 i0 i1
      obtain ⟨hcell, hcellf⟩ := hcell
      obtain ⟨e0', e1', e2', e3'⟩ := cells25_ (blk_alloc HX.out (.cells #[.int .i64 p.f0, .string p.f1] 40))
      have n0 := (blk_cell (blk_new wr (.cells #[.int .i64 p.f0, .string p.f1] 40)) 0).trans rfl
      have n1 := (blk_cell (blk_new wr (.cells #[.int .i64 p.f0, .string p.f1] 40)) 1).trans rfl
      have HQ := Aside0.mk (Kd.R_set HD3.out (g := gs) (t := 9) hcs (by decide) p.f0.toNat (.string p.f1))
      have q0 : decide (0 ≤ p.f0) = true := decide_eq_true i0
      have q1 : decide (p.f0 < (S.length : Int)) = true := decide_eq_true i1
      clear HP ht hla
      go_wp2
      go_roundg (C.length - (kk + 1))
      case measure => omega
      case rel =>
        exact ⟨kk + 1, by omega, by omega, by go_num, ⟨blk_alloc (blk_far (p := ⟨gs, p.f0.toNat, none⟩) HX.out hgg.symm _) _⟩, ⟨blk_alloc (blk_far (p := ⟨gs, p.f0.toNat, none⟩) HZ.out hgr.symm _) _⟩, ⟨Kd.R_alloc HP'.out _⟩, ⟨Kd.R_alloc HQ.out _⟩, ⟨below_alloc (below_set HB.out hgs) _⟩⟩
    · have hltz : ¬ (kk : Int) < (C.length : Int) := by omega
      obtain rfl : kk = C.length := by omega
      have ht : applyF S (C.take C.length) = applyF S C := by rw [List.take_length]
      rw [ht] at HD2
      clear ht
      have hla := applyF_len C S
      have HX2 := Aside0.mk (blk_put HX.out 1 (.slice none 0 0) rfl)
      have HZ2 := Aside0.mk (blk_far (p := ⟨gx, 1, none⟩) HZ.out HNE.out.symm (.slice none 0 0))
      have HE2 := Aside0.mk (Kd.R_set HD2.out HX.out (by decide) 1 (.slice none 0 0))
      have HB2 := Aside0.mk (below_set (j := 1) (v := .slice none 0 0) HB.out HGX.out)
      obtain ⟨h0, h1, h2, h3⟩ := cells25_ HX.out
      obtain ⟨z0, z1, z2, z3⟩ := f25a HX.out
      go_upto_region 17 with (fail)
      obtain ⟨W7, hW7⟩ : ∃ W, W = (wr.setCell ⟨gx, 1, none⟩ (.slice none 0 0)) := ⟨_, rfl⟩
      (try simp only [Act.put, List.setIfInBounds_toArray, List.set_cons_zero, List.set_cons_succ])
      rw [← hW7] at HX2 HZ2 HE2 HB2 ⊢
      clear h0 h1 h2 h3 z0 z1 z2 z3 hW7 HX HZ HD2 HD3 HB
      obtain ⟨T, hT⟩ : ∃ T, T = applyF S C := ⟨_, rfl⟩
      rw [← hT] at HE2 hla
      have HTT := Aside0.mk hT
      rw [← hla] at HE2 HX2
      obtain ⟨h0, h1, h2, h3⟩ := cells25_ HX2.out
      obtain ⟨y0, y1, y2, y3⟩ := cells25_ HZ2.out
      obtain ⟨q0, q1, q2, q3⟩ := f25a HZ2.out
      clear hT hla
      go_wp2
      have F := fin25 (S := T) (C := []) (A1 := none) (c1 := 0) (f := f) (o := false) HZ2.out HE2.out (Kd.R_nil _ _ _ _ _) HB2.out HG.out
      rw [← HTT.out]
      refine bodyPost_ret (results_ct rfl _ _ gr 25 #[.slice B0 T.length e0, .slice none 0 0, .int .i64 f, .bool false] (0, 0) _ rfl F.1 Try.underlying25 rfl (by kernel_rfl)) rfl ?_
      exact ⟨_, _, rfl, F.2.1, F.2.2.1, F.2.2.2⟩
def spoorref03_Flush.f (k : Nat) (l0_0 : List ByteArray) (l0_1 : List (S40)) (a0_2 : Int) (a0_3 : Bool) : Option (List ByteArray × (List (S40)) × Int × Bool × Int) := (spoorref03_Check.f k l0_0 l0_1 a0_2 a0_3).bind fun t => if t = 0 then
    (if l0_0.length < 8796093022208 ∧ l0_1.length < 5864062014805 then
      (if a0_3 = true then some (l0_0, l0_1, a0_2, a0_3, 9) else if a0_2 = 0 then some (l0_0, l0_1, a0_2, true, 9)
       else if ∀ i, (h : i < l0_1.length) → 0 ≤ l0_1[i].f0 ∧ l0_1[i].f0 < (l0_0.length : Int) then some (applyF l0_0 l0_1, [], if 0 < a0_2 then wrap64 (a0_2 - 1) else a0_2, false, 0) else none) else none)
  else some ([], [], 0, false, 2)
theorem spoorref03_Flush.mono : ∀ l0_0 l0_1 a0_2 a0_3 k, LeO (spoorref03_Flush.f k l0_0 l0_1 a0_2 a0_3) (spoorref03_Flush.f (k + 1) l0_0 l0_1 a0_2 a0_3) := by
  intro a b c d k
  exact LeO.bind (spoorref03_Check.mono _ _ _ _ _) (fun _ => LeO.refl _)
theorem spoorref03_Flush.calls (k : Nat) (A0_0 : Option Addr) (c0_0 : Nat) (l0_0 : List ByteArray) (A0_1 : Option Addr) (c0_1 : Nat) (l0_1 : List (S40)) (a0_2 : Int) (a0_3 : Bool) (r1 : List ByteArray) (r2 : List (S40)) (r3 : Int) (r4 : Bool) (r5 : Int) (w : World) (hr0_0 : Kd.C Kd.string w A0_0 l0_0.length l0_0) (hc0_0 : l0_0.length ≤ c0_0) (hr0_1 : Kd.C k40 w A0_1 l0_1.length l0_1) (hc0_1 : l0_1.length ≤ c0_1) (h : spoorref03_Flush.f k l0_0 l0_1 a0_2 a0_3 = some (r1, r2, r3, r4, r5)) :
    Calls Try.prog 12 #[.agg #[.slice A0_0 l0_0.length c0_0, .slice A0_1 l0_1.length c0_1, .int .i64 a0_2, .bool a0_3]] w fun e w' => ∃ v0_ v1_ : Value, e = .returned (.tuple #[.agg #[v0_, v1_, .int .i64 r3, .bool r4], .int .i64 r5]) ∧ Kd.R Kd.string 9 w' w.heap.size (fun _ => True) v0_ r1 ∧ Kd.R k40 40 w' w.heap.size (fun _ => True) v1_ r2 ∧ Below w.heap.size w w' := by
  obtain ⟨t, ht, h⟩ := Option.bind_eq_some_iff.mp h
  by_cases c : t = 0
  · rw [if_pos c] at h
    subst c
    by_cases c1 : l0_0.length < 8796093022208 ∧ l0_1.length < 5864062014805
    · rw [if_pos c1] at h
      have hcp := copy_f l0_0 l0_1 a0_2 a0_3 c1.1 c1.2
      cases a0_3 with
      | true =>
        rw [if_pos rfl] at h
        cases h
        exact rFlush_off k A0_0 A0_1 c0_0 c0_1 l0_0 l0_1 _ w hr0_0 hc0_0 hr0_1 hc0_1 ht hcp
      | false =>
        rw [if_neg (by decide)] at h
        by_cases c2 : a0_2 = 0
        · rw [if_pos c2] at h
          cases h
          exact rFlush_blown k A0_0 A0_1 c0_0 c0_1 l0_0 l0_1 _ w hr0_0 hc0_0 hr0_1 hc0_1 ht hcp c2
        · rw [if_neg c2] at h
          by_cases c3 : ∀ i, (h : i < l0_1.length) → 0 ≤ l0_1[i].f0 ∧ l0_1[i].f0 < (l0_0.length : Int)
          · rw [if_pos c3] at h
            by_cases c4 : 0 < a0_2
            · rw [if_pos c4] at h
              cases h
              exact rFlush_pos k A0_0 A0_1 c0_0 c0_1 l0_0 l0_1 _ w hr0_0 hc0_0 hr0_1 hc0_1 ht hcp c2 c4 c1.2 c3
            · rw [if_neg c4] at h
              cases h
              exact rFlush_neg k A0_0 A0_1 c0_0 c0_1 l0_0 l0_1 _ w hr0_0 hc0_0 hr0_1 hc0_1 ht hcp c2 c4 c1.2 c3
          · rw [if_neg c3] at h
            exact absurd h (by simp)
    · rw [if_neg c1] at h
      exact absurd h (by simp)
  · rw [if_neg c] at h
    cases h
    exact rFlush_bad k A0_0 A0_1 c0_0 c0_1 l0_0 l0_1 a0_2 a0_3 w hr0_0 hc0_0 hr0_1 hc0_1 t ht c


-- NOT PRINTED: function 39 (api_Put_39)

-- NOT PRINTED: function 29 (disk_holds)

/-! ### disk_Read: function 13 -/
/- it leans on disk_Check.f -/
def readF (l0_0 : List ByteArray) (l0_1 : List (S40)) (a0_2 : Int) (a0_3 : Bool) (a1 : Int) : ByteArray × Int :=
  if checkF l0_0 l0_1 a0_2 = 0 then if a0_3 = true then (⟨#[]⟩, 9) else if hasF l0_0.length a1 = false then (⟨#[]⟩, 1) else (holdsF l0_0 l0_1 a1, 0) else (⟨#[]⟩, 2)
def disk_Read.f (l0_0 : List ByteArray) (l0_1 : List (S40)) (a0_2 : Int) (a0_3 : Bool) (a1 : Int) : Option (ByteArray × Int) := some (readF l0_0 l0_1 a0_2 a0_3 a1)
theorem disk_Read.calls (A0_0 : Option Addr) (c0_0 : Nat) (l0_0 : List ByteArray) (A0_1 : Option Addr) (c0_1 : Nat) (l0_1 : List (S40)) (a0_2 : Int) (a0_3 : Bool) (a1 : Int) (r1 : ByteArray) (r2 : Int) (w : World) (hr0_0 : Kd.C Kd.string w A0_0 l0_0.length l0_0) (hc0_0 : l0_0.length ≤ c0_0) (hr0_1 : Kd.C k40 w A0_1 l0_1.length l0_1) (hc0_1 : l0_1.length ≤ c0_1) (h : disk_Read.f l0_0 l0_1 a0_2 a0_3 a1 = some (r1, r2)) :
    Calls Try.prog 13 #[.agg #[.slice A0_0 l0_0.length c0_0, .slice A0_1 l0_1.length c0_1, .int .i64 a0_2, .bool a0_3], .int .i64 a1] w fun e w' => e = .returned (.tuple #[.string r1, .int .i64 r2]) ∧ Below w.heap.size w w' := by
  have h := Option.some.inj h
  unfold readF at h
  by_cases c : checkF l0_0 l0_1 a0_2 = 0
  · rw [if_pos c] at h
    cases a0_3 with
    | true =>
      rw [if_pos rfl] at h
      cases h
      exact Read_off A0_0 A0_1 c0_0 c0_1 l0_0 l0_1 _ a1 w hr0_0 hc0_0 hr0_1 hc0_1 c
    | false =>
      rw [if_neg (by decide)] at h
      cases hh : hasF l0_0.length a1 with
      | false =>
        rw [hh, if_pos rfl] at h
        cases h
        exact Read_range A0_0 A0_1 c0_0 c0_1 l0_0 l0_1 _ a1 w hr0_0 hc0_0 hr0_1 hc0_1 c hh
      | true =>
        rw [hh, if_neg (by decide)] at h
        cases h
        exact Read_good A0_0 A0_1 c0_0 c0_1 l0_0 l0_1 _ a1 w hr0_0 hc0_0 hr0_1 hc0_1 c hh
  · rw [if_neg c] at h
    cases h
    exact Read_bad A0_0 A0_1 c0_0 c0_1 l0_0 l0_1 a0_2 a0_3 a1 w hr0_0 hc0_0 hr0_1 hc0_1 (checkF_two c)


end Go.Proofs.Ytbglcbjbjgjebaa.P
