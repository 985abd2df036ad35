-- Written by a program of this session (an adapted printer) out of the translation; Lean checks it.
import Derived.Test.YthloehmpjemhlaaPx0
import Derived.Test.YthloehmpjemhlaaPx1
import Derived.Test.YthloehmpjemhlaaPx2
import Derived.Test.YthloehmpjemhlaaPx3
import Derived.Test.YthloehmpjemhlaaPx5
import Derived.Test.YthloehmpjemhlaaPx6
import Derived.Test.YthloehmpjemhlaaPx7
import Derived.Test.YthloehmpjemhlaaPx8
namespace Go.Proofs.Ythloehmpjemhlaa.P
open Go.RowKit Go.Proofs.YthloehmpjemhlaaW.PrintWords Go.Proofs.YthloehmpjemhlaaW.PrintLast Go.Proofs.YthloehmpjemhlaaW.PrintMore
attribute [local go_sem] max2_int min2_int max_two min_two max_three min_three max_four min_four   -- for this text's walks alone
set_option linter.unusedVariables false
set_option linter.unusedSimpArgs false

/-! ### spoorlaw04_FrameCut: function 6 -/
mutual
def spoorlaw04_FrameCut.j0 : Nat → List ByteArray → Int → ByteArray → Bool → Option (Bool)
  | 0, _, _, _, _ => none
  | k + 1, x0, x1, x5, x33 => if x33 = true then (some true) else (if 0 ≤ x1 then (if x1 ≤ (x5.size : Int) then ((frame_All.f k (x5.extract 0 (x1 : Int).toNat)).bind fun bt257 => (if bt257.2 > x1 then (spoorlaw04_FrameCut.j1 k x0 x1 bt257.1 bt257.2 true) else (if (bt257.1.length : Int) > (x0.length : Int) then (spoorlaw04_FrameCut.j1 k x0 x1 bt257.1 bt257.2 true) else (if 0 ≤ (bt257.1.length : Int) then (if (bt257.1.length : Int) ≤ (x0.length : Int) then ((spoorref04_Same.f k bt257.1 (x0.take ((bt257.1.length : Int) : Int).toNat)).bind fun t262 => (spoorlaw04_FrameCut.j1 k x0 x1 bt257.1 bt257.2 (!t262))) else (none)) else (none))))) else (none)) else (none))
def spoorlaw04_FrameCut.j1 : Nat → List ByteArray → Int → List ByteArray → Int → Bool → Option (Bool)
  | 0, _, _, _, _, _ => none
  | k + 1, x0, x1, x7, x8, x59 => if x59 = true then (some false) else (spoorlaw04_FrameCut.l0 k x1 x7 x8 0 false x0 (x0.length : Int) 0)
def spoorlaw04_FrameCut.l0 : Nat → Int → List ByteArray → Int → Int → Bool → List ByteArray → Int → Int → Option (Bool)
  | 0, _, _, _, _, _, _, _, _ => none
  | k + 1, x1, x7, x8, x9, x10, x60, x61, x62 => if x62 < x61 then (if 0 ≤ x62 then (if x62 < (x60.length : Int) then ((frame_Size.f k ((rdOf ByteArray.empty x60 x62).size : Int)).bind fun bt264 => (if x10 = true then (spoorlaw04_FrameCut.l0 k x1 x7 x8 (wrap64 (x9 + bt264.1)) true x60 x61 (wrap64 (x62 + 1))) else (if bt264.2 = 0 then (if ((decide (x62 < (x7.length : Int))) != (decide ((wrap64 (x9 + bt264.1)) ≤ x1))) = true then (spoorlaw04_FrameCut.l0 k x1 x7 x8 (wrap64 (x9 + bt264.1)) true x60 x61 (wrap64 (x62 + 1))) else (if x62 = (wrap64 ((x7.length : Int) - 1)) then (spoorlaw04_FrameCut.l0 k x1 x7 x8 (wrap64 (x9 + bt264.1)) (x8 != (wrap64 (x9 + bt264.1))) x60 x61 (wrap64 (x62 + 1))) else (spoorlaw04_FrameCut.l0 k x1 x7 x8 (wrap64 (x9 + bt264.1)) false x60 x61 (wrap64 (x62 + 1))))) else (spoorlaw04_FrameCut.l0 k x1 x7 x8 (wrap64 (x9 + bt264.1)) true x60 x61 (wrap64 (x62 + 1)))))) else (none)) else (none)) else (if x10 = true then (some false) else (if (x7.length : Int) > 0 then (some true) else (some (x8 == 0))))
end
def spoorlaw04_FrameCut.f (k : Nat) (l0 : List ByteArray) (a1 : Int) : Option (Bool) := (spoorlaw04_lives.f k).bind fun t254 => (if t254 = true then ((spoorlaw04_frames.f k l0).bind fun bt255 => (if bt255.2 = true then (if a1 < 0 then (spoorlaw04_FrameCut.j0 k l0 a1 bt255.1 true) else (spoorlaw04_FrameCut.j0 k l0 a1 bt255.1 (decide (a1 > (bt255.1.size : Int))))) else (spoorlaw04_FrameCut.j0 k l0 a1 bt255.1 true))) else (some false))
theorem spoorlaw04_FrameCut.mono_l : ∀ k, (∀ y0 y1 y2 y3, LeO (spoorlaw04_FrameCut.j0 k y0 y1 y2 y3) (spoorlaw04_FrameCut.j0 (k + 1) y0 y1 y2 y3)) ∧ (∀ y0 y1 y2 y3 y4, LeO (spoorlaw04_FrameCut.j1 k y0 y1 y2 y3 y4) (spoorlaw04_FrameCut.j1 (k + 1) y0 y1 y2 y3 y4)) ∧ (∀ y0 y1 y2 y3 y4 y5 y6 y7, LeO (spoorlaw04_FrameCut.l0 k y0 y1 y2 y3 y4 y5 y6 y7) (spoorlaw04_FrameCut.l0 (k + 1) y0 y1 y2 y3 y4 y5 y6 y7))
  | 0 => ⟨fun _ _ _ _ r h => by simp [spoorlaw04_FrameCut.j0] at h, fun _ _ _ _ _ r h => by simp [spoorlaw04_FrameCut.j1] at h, fun _ _ _ _ _ _ _ _ r h => by simp [spoorlaw04_FrameCut.l0] at h⟩
  | k + 1 => by
    obtain ⟨ih0, ih1, ih2⟩ := spoorlaw04_FrameCut.mono_l k
    refine ⟨?_, ?_, ?_⟩
    · intro y0 y1 y2 y3
      unfold spoorlaw04_FrameCut.j0
      repeat' first
      | (with_reducible exact ih0 _ _ _ _)
      | (with_reducible exact ih1 _ _ _ _ _)
      | (with_reducible exact ih2 _ _ _ _ _ _ _ _)
      | (with_reducible exact frame_All.mono _ _)
      | (with_reducible exact frame_Size.mono _ _)
      | (with_reducible exact spoorlaw04_frames.mono _ _)
      | (with_reducible exact spoorlaw04_lives.mono _)
      | (with_reducible exact spoorref04_Same.mono _ _ _)
      | (with_reducible exact LeO.refl _)
      | (with_reducible exact LeO.none _)
      | (with_reducible refine LeO.ite ?_ ?_)
      | (with_reducible refine LeO.bind ?_ (fun _ => ?_))
      | exact ih0 _ _ _ _
      | exact ih1 _ _ _ _ _
      | exact ih2 _ _ _ _ _ _ _ _
      | exact frame_All.mono _ _
      | exact frame_Size.mono _ _
      | exact spoorlaw04_frames.mono _ _
      | exact spoorlaw04_lives.mono _
      | exact spoorref04_Same.mono _ _ _
      | exact LeO.none _
      | refine LeO.ite ?_ ?_
      | refine LeO.bind ?_ (fun _ => ?_)
    · intro y0 y1 y2 y3 y4
      unfold spoorlaw04_FrameCut.j1
      repeat' first
      | (with_reducible exact ih0 _ _ _ _)
      | (with_reducible exact ih1 _ _ _ _ _)
      | (with_reducible exact ih2 _ _ _ _ _ _ _ _)
      | (with_reducible exact frame_All.mono _ _)
      | (with_reducible exact frame_Size.mono _ _)
      | (with_reducible exact spoorlaw04_frames.mono _ _)
      | (with_reducible exact spoorlaw04_lives.mono _)
      | (with_reducible exact spoorref04_Same.mono _ _ _)
      | (with_reducible exact LeO.refl _)
      | (with_reducible exact LeO.none _)
      | (with_reducible refine LeO.ite ?_ ?_)
      | (with_reducible refine LeO.bind ?_ (fun _ => ?_))
      | exact ih0 _ _ _ _
      | exact ih1 _ _ _ _ _
      | exact ih2 _ _ _ _ _ _ _ _
      | exact frame_All.mono _ _
      | exact frame_Size.mono _ _
      | exact spoorlaw04_frames.mono _ _
      | exact spoorlaw04_lives.mono _
      | exact spoorref04_Same.mono _ _ _
      | exact LeO.none _
      | refine LeO.ite ?_ ?_
      | refine LeO.bind ?_ (fun _ => ?_)
    · intro y0 y1 y2 y3 y4 y5 y6 y7
      unfold spoorlaw04_FrameCut.l0
      repeat' first
      | (with_reducible exact ih0 _ _ _ _)
      | (with_reducible exact ih1 _ _ _ _ _)
      | (with_reducible exact ih2 _ _ _ _ _ _ _ _)
      | (with_reducible exact frame_All.mono _ _)
      | (with_reducible exact frame_Size.mono _ _)
      | (with_reducible exact spoorlaw04_frames.mono _ _)
      | (with_reducible exact spoorlaw04_lives.mono _)
      | (with_reducible exact spoorref04_Same.mono _ _ _)
      | (with_reducible exact LeO.refl _)
      | (with_reducible exact LeO.none _)
      | (with_reducible refine LeO.ite ?_ ?_)
      | (with_reducible refine LeO.bind ?_ (fun _ => ?_))
      | exact ih0 _ _ _ _
      | exact ih1 _ _ _ _ _
      | exact ih2 _ _ _ _ _ _ _ _
      | exact frame_All.mono _ _
      | exact frame_Size.mono _ _
      | exact spoorlaw04_frames.mono _ _
      | exact spoorlaw04_lives.mono _
      | exact spoorref04_Same.mono _ _ _
      | exact LeO.none _
      | refine LeO.ite ?_ ?_
      | refine LeO.bind ?_ (fun _ => ?_)
theorem spoorlaw04_FrameCut.mono : ∀ a0 a1 k, LeO (spoorlaw04_FrameCut.f k a0 a1) (spoorlaw04_FrameCut.f (k + 1) a0 a1) := by
  intro a0 a1 k
  obtain ⟨ih0, ih1, ih2⟩ := spoorlaw04_FrameCut.mono_l k
  unfold spoorlaw04_FrameCut.f
  repeat' first
      | (with_reducible exact ih0 _ _ _ _)
      | (with_reducible exact ih1 _ _ _ _ _)
      | (with_reducible exact ih2 _ _ _ _ _ _ _ _)
      | (with_reducible exact frame_All.mono _ _)
      | (with_reducible exact frame_Size.mono _ _)
      | (with_reducible exact spoorlaw04_frames.mono _ _)
      | (with_reducible exact spoorlaw04_lives.mono _)
      | (with_reducible exact spoorref04_Same.mono _ _ _)
      | (with_reducible exact LeO.refl _)
      | (with_reducible exact LeO.none _)
      | (with_reducible refine LeO.ite ?_ ?_)
      | (with_reducible refine LeO.bind ?_ (fun _ => ?_))
      | exact ih0 _ _ _ _
      | exact ih1 _ _ _ _ _
      | exact ih2 _ _ _ _ _ _ _ _
      | exact frame_All.mono _ _
      | exact frame_Size.mono _ _
      | exact spoorlaw04_frames.mono _ _
      | exact spoorlaw04_lives.mono _
      | exact spoorref04_Same.mono _ _ _
      | exact LeO.none _
      | refine LeO.ite ?_ ?_
      | refine LeO.bind ?_ (fun _ => ?_)
set_option maxHeartbeats 8000000 in
set_option maxRecDepth 100000 in
theorem spoorlaw04_FrameCut.calls (k : Nat) (A0 : Option Addr) (c0 : Nat) (l0 : List ByteArray) (a1 : Int) (r : Bool) (w : World) (hr0 : Kd.C Kd.string w A0 l0.length l0) (hc0 : l0.length ≤ c0) (h : spoorlaw04_FrameCut.f k l0 a1 = some r) :
    Calls Try.prog 6 #[.slice A0 l0.length c0, .int .i64 a1] w fun e w' => e = .returned (.bool r) ∧ Below w.heap.size w w' := by
  have HR0 := Aside0.mk hr0
  have HC0 := Aside0.mk hc0
  clear hr0 hc0
  have HB := Aside0.mk (Below.refl w.heap.size w)
  have H : ((spoorlaw04_lives.f k).bind fun t254 => (if t254 = true then ((spoorlaw04_frames.f k l0).bind fun bt255 => (if bt255.2 = true then (if a1 < 0 then (spoorlaw04_FrameCut.j0 k l0 a1 bt255.1 true) else (spoorlaw04_FrameCut.j0 k l0 a1 bt255.1 (decide (a1 > (bt255.1.size : Int))))) else (spoorlaw04_FrameCut.j0 k l0 a1 bt255.1 true))) else (some false))) = some r := h
  clear h
  replace H := Option.bind_eq_some_iff.mp H
  obtain ⟨t254, A30, H⟩ := H
  replace H : (if t254 = true then ((spoorlaw04_frames.f k l0).bind fun bt255 => (if bt255.2 = true then (if a1 < 0 then (spoorlaw04_FrameCut.j0 k l0 a1 bt255.1 true) else (spoorlaw04_FrameCut.j0 k l0 a1 bt255.1 (decide (a1 > (bt255.1.size : Int))))) else (spoorlaw04_FrameCut.j0 k l0 a1 bt255.1 true))) else (some false)) = some r := H
  have A3 := Aside0.mk A30
  clear A30
  by_cases c4 : t254 = true
  · subst c4
    have H1 : ((spoorlaw04_frames.f k l0).bind fun bt255 => (if bt255.2 = true then (if a1 < 0 then (spoorlaw04_FrameCut.j0 k l0 a1 bt255.1 true) else (spoorlaw04_FrameCut.j0 k l0 a1 bt255.1 (decide (a1 > (bt255.1.size : Int))))) else (spoorlaw04_FrameCut.j0 k l0 a1 bt255.1 true))) = some r := by rw [if_pos rfl] at H; exact H
    clear H
    have H := H1
    clear H1
    replace H := Option.bind_eq_some_iff.mp H
    obtain ⟨⟨t255, t256⟩, A50, H⟩ := H
    replace H : (if t256 = true then (if a1 < 0 then (spoorlaw04_FrameCut.j0 k l0 a1 t255 true) else (spoorlaw04_FrameCut.j0 k l0 a1 t255 (decide (a1 > (t255.size : Int))))) else (spoorlaw04_FrameCut.j0 k l0 a1 t255 true)) = some r := H
    have A5 := Aside0.mk A50
    clear A50
    have HC6 := Aside0.mk H
    clear H
    go_enter Try.func6, Try.ntmps6
    go_upto_region 4 with (first | ((with_reducible refine gate_callee (f := 12) rfl ?_); refine goesL_ (some 15) rfl rfl Try.func12 (by kernel_rfl) rfl #[] rfl (by (try simp only [List.map_toArray, List.map_cons, List.map_nil]); first | done | rfl | (simp only [List.length_drop, List.length_take]; rfl)) ?_; (with_reducible refine (spoorlaw04_lives.calls k  true _ A3.out).mono ?_); rintro e w7 ⟨rfl, hb⟩; refine ⟨_, rfl, ?_⟩; have n0_ := Aside0.mk (below_step (by repeat (first | (with_reducible first | exact HB.out | apply below_alloc | apply pw_below_drewN | apply below_drew1) | exact HB.out)) hb); clear HB; have HB := n0_; clear n0_; (try clear hb); (try clear hb2); (try clear hk); (try clear hi)) | ((with_reducible refine gate_callee (f := 20) rfl ?_); refine goesL_ (some 19) rfl rfl Try.func20 (by kernel_rfl) rfl #[.slice A0 l0.length c0] rfl (by (try simp only [List.map_toArray, List.map_cons, List.map_nil]); first | done | rfl | (simp only [List.length_drop, List.length_take]; rfl)) ?_; (with_reducible refine (spoorlaw04_frames.calls k _ _ l0 t255 t256 _ ?side1 ?side2 A5.out).mono ?_); (case side1 => repeat (first | exact (Kd.C_below HR0.out HB.out) | (with_reducible refine Kd.C_alloc ?_ _) | (with_reducible refine Kd.C_drewN ?_ _) | (with_reducible refine Kd.C_drew ?_))); (case side2 => exact HC0.out); rintro e w8 ⟨rfl, hb⟩; refine ⟨_, rfl, ?_⟩; have n0_ := Aside0.mk (below_step (by repeat (first | (with_reducible first | exact HB.out | apply below_alloc | apply pw_below_drewN | apply below_drew1) | exact HB.out)) hb); clear HB; have HB := n0_; clear n0_; (try clear hb); (try clear hb2); (try clear hk); (try clear hi)))
    (try simp only [Act.put, List.setIfInBounds_toArray, List.set_cons_zero, List.set_cons_succ])
    go_cut [33] (fun v33 wc => ∃ (kq : Nat) (x33_5 : Bool), v33 = .bool x33_5 ∧ Aside0 (spoorlaw04_FrameCut.j0 kq l0 a1 t255 x33_5 = some r) ∧ Aside0 (kq ≤ k) ∧ Aside0 (Below w.heap.size w wc))
    case first =>
      have H := HC6.out
      clear HC6
      by_cases c9 : t256 = true
      · subst c9
        have H1 : (if a1 < 0 then (spoorlaw04_FrameCut.j0 k l0 a1 t255 true) else (spoorlaw04_FrameCut.j0 k l0 a1 t255 (decide (a1 > (t255.size : Int))))) = some r := by rw [if_pos rfl] at H; exact H
        clear H
        have H := H1
        clear H1
        by_cases c10 : a1 < 0
        · rw [if_pos c10] at H
          have c10b0 : decide (a1 < 0) = true := decide_eq_true c10
          clear c10
          (first | rw [c10b0] | (simp only [i64_w, i32_w]; rw [c10b0]) | skip)
          have H' := Aside0.mk H
          clear H
          go_wp2
          go_meet
          case rel => exact ⟨_, (true), (by first | rfl | (simp; done) | (simp [*]; done)), H', ⟨by first | omega | exact Nat.le_refl _⟩, ⟨by repeat (first | (with_reducible first | exact HB.out | apply below_alloc | apply pw_below_drewN | apply below_drew1) | exact HB.out)⟩⟩
        · rw [if_neg c10] at H
          have c10b0 : decide (a1 < 0) = false := decide_eq_false c10
          clear c10
          (first | rw [c10b0] | (simp only [i64_w, i32_w]; rw [c10b0]) | skip)
          have H' := Aside0.mk H
          clear H
          go_wp2
          go_meet
          case rel => exact ⟨_, (decide (a1 > (t255.size : Int))), (by first | rfl | (simp; done) | (simp [*]; done)), H', ⟨by first | omega | exact Nat.le_refl _⟩, ⟨by repeat (first | (with_reducible first | exact HB.out | apply below_alloc | apply pw_below_drewN | apply below_drew1) | exact HB.out)⟩⟩
      · replace c9 := Bool.eq_false_iff.mpr c9
        subst c9
        have H1 : (spoorlaw04_FrameCut.j0 k l0 a1 t255 true) = some r := by rw [if_neg (show ¬ (false = true) by decide)] at H; exact H
        clear H
        have H := H1
        clear H1
        have H' := Aside0.mk H
        clear H
        go_wp2
        go_meet
        case rel => exact ⟨_, (true), (by first | rfl | (simp; done) | (simp [*]; done)), H', ⟨by first | omega | exact Nat.le_refl _⟩, ⟨by repeat (first | (with_reducible first | exact HB.out | apply below_alloc | apply pw_below_drewN | apply below_drew1) | exact HB.out)⟩⟩
    case rest =>
      clear HC6
      try clear c1
      try clear c2
      try clear p2
      try clear c4
      try clear c6
      try clear c9
      try clear c10
      try clear c10b0
      obtain ⟨kq, x33_5, rfl, HA, HJ5, HB⟩ := hcut
      cases kq with
      | zero => exact absurd HA.out (by simp [spoorlaw04_FrameCut.j0])
      | succ kj5 =>
        have H := HA.out
        clear HA
        simp only [spoorlaw04_FrameCut.j0] at H
        by_cases c11 : x33_5 = true
        · subst c11
          have H1 : (some true) = some r := by rw [if_pos rfl] at H; exact H
          clear H
          have H := H1
          clear H1
          obtain rfl := Option.some.inj H
          go_wp2
          go_ret
          exact ⟨by first | rfl | (simp [errW_none, errW_some] <;> rfl) | (simp [*, errW_none, errW_some] <;> rfl), by repeat (first | (with_reducible first | exact HB.out | apply below_alloc | apply pw_below_drewN | apply below_drew1) | exact HB.out)⟩
        · replace c11 := Bool.eq_false_iff.mpr c11
          subst c11
          have H1 : (if 0 ≤ a1 then (if a1 ≤ (t255.size : Int) then ((frame_All.f kj5 (t255.extract 0 (a1 : Int).toNat)).bind fun bt257 => (if bt257.2 > a1 then (spoorlaw04_FrameCut.j1 kj5 l0 a1 bt257.1 bt257.2 true) else (if (bt257.1.length : Int) > (l0.length : Int) then (spoorlaw04_FrameCut.j1 kj5 l0 a1 bt257.1 bt257.2 true) else (if 0 ≤ (bt257.1.length : Int) then (if (bt257.1.length : Int) ≤ (l0.length : Int) then ((spoorref04_Same.f kj5 bt257.1 (l0.take ((bt257.1.length : Int) : Int).toNat)).bind fun t262 => (spoorlaw04_FrameCut.j1 kj5 l0 a1 bt257.1 bt257.2 (!t262))) else (none)) else (none))))) else (none)) else (none)) = some r := by rw [if_neg (show ¬ (false = true) by decide)] at H; exact H
          clear H
          have H := H1
          clear H1
          by_cases c12 : 0 ≤ a1
          · rw [if_pos c12] at H
            have c12b0 := eq_true c12
            have c12b1 : decide (0 ≤ a1) = true := decide_eq_true c12
            clear c12
            by_cases c13 : a1 ≤ (t255.size : Int)
            · rw [if_pos c13] at H
              have c13b0 := eq_true c13
              have c13b1 : decide (a1 ≤ (t255.size : Int)) = true := decide_eq_true c13
              clear c13
              replace H := Option.bind_eq_some_iff.mp H
              obtain ⟨⟨t257, t258⟩, A140, H⟩ := H
              replace H : (if t258 > a1 then (spoorlaw04_FrameCut.j1 kj5 l0 a1 t257 t258 true) else (if (t257.length : Int) > (l0.length : Int) then (spoorlaw04_FrameCut.j1 kj5 l0 a1 t257 t258 true) else (if 0 ≤ (t257.length : Int) then (if (t257.length : Int) ≤ (l0.length : Int) then ((spoorref04_Same.f kj5 t257 (l0.take ((t257.length : Int) : Int).toNat)).bind fun t262 => (spoorlaw04_FrameCut.j1 kj5 l0 a1 t257 t258 (!t262))) else (none)) else (none)))) = some r := H
              have A14 := Aside0.mk A140
              clear A140
              have HC15 := Aside0.mk H
              clear H
              go_upto_region 7 with (first | ((with_reducible refine gate_callee (f := 15) rfl ?_); refine goesL_ (some 38) rfl rfl Try.func15 (by kernel_rfl) rfl #[.string (t255.extract 0 (a1 : Int).toNat)] rfl (by (try simp only [List.map_toArray, List.map_cons, List.map_nil]); first | done | rfl | (simp only [List.length_drop, List.length_take]; rfl)) ?_; (with_reducible refine (frame_All.calls kj5 (t255.extract 0 (a1 : Int).toNat) t257 t258 _ A14.out).mono ?_); rintro e w16 ⟨v259, rfl, ho0, hb⟩; refine ⟨_, rfl, ?_⟩; have n0_ := Aside0.mk (Kd.R_lower ho0 (below_size (by repeat (first | (with_reducible first | exact HB.out | apply below_alloc | apply pw_below_drewN | apply below_drew1) | exact HB.out)))); have n1_ := Aside0.mk (below_step (by repeat (first | (with_reducible first | exact HB.out | apply below_alloc | apply pw_below_drewN | apply below_drew1) | exact HB.out)) hb); clear HB; have HO260 := n0_; have HB := n1_; clear n0_ n1_; (try clear hb); (try clear hb2); (try clear hk); (try clear hi); (try clear ho0)))
              (try simp only [Act.put, List.setIfInBounds_toArray, List.set_cons_zero, List.set_cons_succ])
              go_cut [59] (fun v59 wc => ∃ (kq : Nat) (x59_14 : Bool), v59 = .bool x59_14 ∧ Aside0 (spoorlaw04_FrameCut.j1 kq l0 a1 t257 t258 x59_14 = some r) ∧ Aside0 (kq ≤ kj5) ∧ Aside0 (Kd.R Kd.string 9 wc w.heap.size (fun _ => True) v259 t257) ∧ Aside0 (Below w.heap.size w wc))
              case first =>
                have H := HC15.out
                clear HC15
                by_cases c17 : t258 > a1
                · rw [if_pos c17] at H
                  have c17b0 : decide (a1 < t258) = true := decide_eq_true c17
                  clear c17
                  (first | rw [c17b0] | (simp only [i64_w, i32_w]; rw [c17b0]) | skip)
                  have H' := Aside0.mk H
                  clear H
                  go_wp2
                  go_meet
                  case rel => exact ⟨_, (true), (by first | rfl | (simp; done) | (simp [*]; done)), H', ⟨by have := HJ5.out; first | omega | exact Nat.le_refl _⟩, ⟨by (with_reducible repeat (first | apply Kd.R_alloc | apply Kd.R_drewN | apply Kd.R_drew)); exact HO260.out⟩, ⟨by repeat (first | (with_reducible first | exact HB.out | apply below_alloc | apply pw_below_drewN | apply below_drew1) | exact HB.out)⟩⟩
                · rw [if_neg c17] at H
                  have c17b0 : decide (a1 < t258) = false := decide_eq_false c17
                  clear c17
                  (first | rw [c17b0] | (simp only [i64_w, i32_w]; rw [c17b0]) | skip)
                  by_cases c18 : (t257.length : Int) > (l0.length : Int)
                  · rw [if_pos c18] at H
                    have c18b0 : decide ((l0.length : Int) < (t257.length : Int)) = true := decide_eq_true c18
                    have c18b1 : decide (l0.length < t257.length) = true := decide_eq_true (Int.ofNat_lt.mp c18)
                    clear c18
                    have H' := Aside0.mk H
                    clear H
                    obtain ⟨Ao19, co19, eo19⟩ := Kd.R_slice HO260.out
                    subst eo19
                    go_wp2
                    go_meet
                    case rel => exact ⟨_, (true), (by first | rfl | (simp; done) | (simp [*]; done)), H', ⟨by have := HJ5.out; first | omega | exact Nat.le_refl _⟩, ⟨by (with_reducible repeat (first | apply Kd.R_alloc | apply Kd.R_drewN | apply Kd.R_drew)); exact HO260.out⟩, ⟨by repeat (first | (with_reducible first | exact HB.out | apply below_alloc | apply pw_below_drewN | apply below_drew1) | exact HB.out)⟩⟩
                  · rw [if_neg c18] at H
                    have c18b0 : decide ((l0.length : Int) < (t257.length : Int)) = false := decide_eq_false c18
                    have c18b1 : decide (l0.length < t257.length) = false := decide_eq_false (fun h => c18 (Int.ofNat_lt.mpr h))
                    clear c18
                    by_cases c20 : 0 ≤ (t257.length : Int)
                    · rw [if_pos c20] at H
                      have c20b0 := eq_true c20
                      have c20b1 : decide (0 ≤ (t257.length : Int)) = true := decide_eq_true c20
                      clear c20
                      by_cases c21 : (t257.length : Int) ≤ (l0.length : Int)
                      · rw [if_pos c21] at H
                        have c21b0 := eq_true c21
                        have c21b1 : decide ((t257.length : Int) ≤ (l0.length : Int)) = true := decide_eq_true c21
                        clear c21
                        replace H := Option.bind_eq_some_iff.mp H
                        obtain ⟨t262, A220, H⟩ := H
                        replace H : (spoorlaw04_FrameCut.j1 kj5 l0 a1 t257 t258 (!t262)) = some r := H
                        have A22 := Aside0.mk A220
                        clear A220
                        have H' := Aside0.mk H
                        clear H
                        obtain ⟨Ao23, co23, eo23⟩ := Kd.R_slice HO260.out
                        subst eo23
                        obtain ⟨i024, hi024, _, hsz24, _⟩ := info_parts info9
                        obtain ⟨hcut24, hA24, hC24⟩ := print_take_of (P := Try.prog) Value.string (⟨#[]⟩ : ByteArray) 31 9 .i64 Try.underlying31 hi024 hsz24 A0 c0 l0 (t257.length : Int) (of_decide_eq_true (by first | (with_reducible assumption) | assumption)) (of_decide_eq_true (by first | (with_reducible assumption) | assumption)) HC0.out
                        have HR261 := Aside0.mk (Kd.C_of_reads (h1 := fun _ => rfl) (hA24 _ (Kd.reads_of_C HR0.out)))
                        have HC261 := Aside0.mk hC24
                        clear hA24 hC24 hi024 hsz24
                        go_wp2_with (first | (go_at_call 19; refine calls_of_args (args' := #[.slice Ao23 t257.length co23, .slice A0 (l0.take ((t257.length : Int) : Int).toNat).length c0]) (by first | rfl | rfl | (simp [List.length_take, List.length_drop]; done)) ?_; (with_reducible refine (spoorref04_Same.calls kj5 _ _ t257 _ _ (l0.take ((t257.length : Int) : Int).toNat) t262 _ ?side1 ?side2 ?side3 ?side4 A22.out).mono ?_); (case side1 => repeat (first | exact (Kd.R_reads' HO260.out).2.2 | (with_reducible refine Kd.C_alloc ?_ _) | (with_reducible refine Kd.C_drewN ?_ _) | (with_reducible refine Kd.C_drew ?_))); (case side2 => exact (Kd.R_reads' HO260.out).2.1); (case side3 => repeat (first | exact (Kd.C_below HR261.out HB.out) | (with_reducible refine Kd.C_alloc ?_ _) | (with_reducible refine Kd.C_drewN ?_ _) | (with_reducible refine Kd.C_drew ?_))); (case side4 => exact HC261.out); rintro e w' ⟨rfl, ⟨nd, rfl⟩⟩))
                        go_meet
                        case rel => exact ⟨_, (!t262), (by first | rfl | (simp; done) | (simp [*]; done)), H', ⟨by have := HJ5.out; first | omega | exact Nat.le_refl _⟩, ⟨by (with_reducible repeat (first | apply Kd.R_alloc | apply Kd.R_drewN | apply Kd.R_drew)); exact HO260.out⟩, ⟨by repeat (first | (with_reducible first | exact HB.out | apply below_alloc | apply pw_below_drewN | apply below_drew1) | exact HB.out)⟩⟩
                      · rw [if_neg c21] at H
                        exact absurd H (by simp)
                    · rw [if_neg c20] at H
                      exact absurd H (by simp)
              case rest =>
                clear HC15
                try clear c1
                try clear c2
                try clear p2
                try clear c4
                try clear c6
                try clear c9
                try clear c10
                try clear c10b0
                try clear c11
                try clear c12
                try clear c12b0
                try clear c12b1
                try clear c13
                try clear c13b0
                try clear c13b1
                try clear c15
                try clear c17
                try clear c17b0
                try clear c18
                try clear c18b0
                try clear c18b1
                try clear c20
                try clear c20b0
                try clear c20b1
                try clear c21
                try clear c21b0
                try clear c21b1
                try clear p2
                obtain ⟨kq, x59_14, rfl, HA, HJ14, HO_7, HB⟩ := hcut
                cases kq with
                | zero => exact absurd HA.out (by simp [spoorlaw04_FrameCut.j1])
                | succ kj14 =>
                  have H := HA.out
                  clear HA
                  simp only [spoorlaw04_FrameCut.j1] at H
                  by_cases c25 : x59_14 = true
                  · subst c25
                    have H1 : (some false) = some r := by rw [if_pos rfl] at H; exact H
                    clear H
                    have H := H1
                    clear H1
                    obtain rfl := Option.some.inj H
                    go_wp2
                    go_ret
                    exact ⟨by first | rfl | (simp [errW_none, errW_some] <;> rfl) | (simp [*, errW_none, errW_some] <;> rfl), by repeat (first | (with_reducible first | exact HB.out | apply below_alloc | apply pw_below_drewN | apply below_drew1) | exact HB.out)⟩
                  · replace c25 := Bool.eq_false_iff.mpr c25
                    subst c25
                    have H1 : (spoorlaw04_FrameCut.l0 kj14 a1 t257 t258 0 false l0 (l0.length : Int) 0) = some r := by rw [if_neg (show ¬ (false = true) by decide)] at H; exact H
                    clear H
                    have H := H1
                    clear H1
                    have H' := Aside0.mk H
                    clear H
                    go_wp2
                    go_loopg [9, 10, 62] kj14 (fun kq v9 v10 v62 w' => ∃ (x9_3 : Int) (x10_3 : Bool) (x62_3 : Int), v9 = .int .i64 x9_3 ∧ v10 = .bool x10_3 ∧ v62 = .int .i64 x62_3 ∧ Aside0 (spoorlaw04_FrameCut.l0 kq a1 t257 t258 x9_3 x10_3 l0 (l0.length : Int) x62_3 = some r) ∧ Aside0 (kq ≤ kj14) ∧ Aside0 (Kd.R Kd.string 9 w' w.heap.size (fun _ => True) v259 t257) ∧ Aside0 (Below w.heap.size w w'))
                    case atStart => exact ⟨(0), (false), (0), (by first | rfl | (simp; done) | (simp [*]; done)), (by first | rfl | (simp; done) | (simp [*]; done)), (by first | rfl | (simp; done) | (simp [*]; done)), H', ⟨Nat.le_refl _⟩, ⟨by (with_reducible repeat (first | apply Kd.R_alloc | apply Kd.R_drewN | apply Kd.R_drew)); exact HO_7.out⟩, ⟨by repeat (first | (with_reducible first | exact HB.out | apply below_alloc | apply pw_below_drewN | apply below_drew1) | exact HB.out)⟩⟩
                    case round =>
                      clear H'
                      try clear c1
                      try clear c2
                      try clear p2
                      try clear c4
                      try clear c6
                      try clear c9
                      try clear c10
                      try clear c10b0
                      try clear c11
                      try clear c12
                      try clear c12b0
                      try clear c12b1
                      try clear c13
                      try clear c13b0
                      try clear c13b1
                      try clear c15
                      try clear c17
                      try clear c17b0
                      try clear c18
                      try clear c18b0
                      try clear c18b1
                      try clear c20
                      try clear c20b0
                      try clear c20b1
                      try clear c21
                      try clear c21b0
                      try clear c21b1
                      try clear c25
                      try clear p2
                      obtain ⟨x9_3, x10_3, x62_3, rfl, rfl, rfl, HA, HK3, HO_7, HB⟩ := hrel
                      cases gk with
                      | zero => exact absurd HA.out (by simp [spoorlaw04_FrameCut.l0])
                      | succ k3 =>
                        have H := HA.out
                        clear HA
                        simp only [spoorlaw04_FrameCut.l0] at H
                        by_cases c26 : x62_3 < (l0.length : Int)
                        · rw [if_pos c26] at H
                          have c26b0 : decide (x62_3 < (l0.length : Int)) = true := decide_eq_true c26
                          clear c26
                          by_cases c27 : 0 ≤ x62_3
                          · rw [if_pos c27] at H
                            have c27b0 : decide (0 ≤ x62_3) = true := decide_eq_true c27
                            clear c27
                            by_cases c28 : x62_3 < (l0.length : Int)
                            · rw [if_pos c28] at H
                              have c28b0 : decide (x62_3 < (l0.length : Int)) = true := decide_eq_true c28
                              clear c28
                              replace H := Option.bind_eq_some_iff.mp H
                              obtain ⟨⟨t264, t265⟩, A290, H⟩ := H
                              replace H : (if x10_3 = true then (spoorlaw04_FrameCut.l0 k3 a1 t257 t258 (wrap64 (x9_3 + t264)) true l0 (l0.length : Int) (wrap64 (x62_3 + 1))) else (if t265 = 0 then (if ((decide (x62_3 < (t257.length : Int))) != (decide ((wrap64 (x9_3 + t264)) ≤ a1))) = true then (spoorlaw04_FrameCut.l0 k3 a1 t257 t258 (wrap64 (x9_3 + t264)) true l0 (l0.length : Int) (wrap64 (x62_3 + 1))) else (if x62_3 = (wrap64 ((t257.length : Int) - 1)) then (spoorlaw04_FrameCut.l0 k3 a1 t257 t258 (wrap64 (x9_3 + t264)) (t258 != (wrap64 (x9_3 + t264))) l0 (l0.length : Int) (wrap64 (x62_3 + 1))) else (spoorlaw04_FrameCut.l0 k3 a1 t257 t258 (wrap64 (x9_3 + t264)) false l0 (l0.length : Int) (wrap64 (x62_3 + 1))))) else (spoorlaw04_FrameCut.l0 k3 a1 t257 t258 (wrap64 (x9_3 + t264)) true l0 (l0.length : Int) (wrap64 (x62_3 + 1))))) = some r := H
                              have A29 := Aside0.mk A290
                              clear A290
                              by_cases c30 : x10_3 = true
                              · subst c30
                                have H1 : (spoorlaw04_FrameCut.l0 k3 a1 t257 t258 (wrap64 (x9_3 + t264)) true l0 (l0.length : Int) (wrap64 (x62_3 + 1))) = some r := by rw [if_pos rfl] at H; exact H
                                clear H
                                have H := H1
                                clear H1
                                have H' := Aside0.mk H
                                clear H
                                have p263 : 0 ≤ (x62_3 : Int) := of_decide_eq_true (by first | (with_reducible assumption) | assumption)
                                have q263 : x62_3 < (l0.length : Int) := of_decide_eq_true (by first | (with_reducible assumption) | assumption)
                                obtain ⟨ad263, e263, hx263_0⟩ := Kd.at_string HR0.out x62_3 p263 q263
                                cases e263
                                replace hx263_0 := (HB.out.cell (World.block_lt_of_cell? w _ hx263_0)).trans hx263_0
                                replace p263 := eq_true p263
                                replace q263 := eq_true q263
                                go_wp2_with (first | ((with_reducible refine gate_callee (f := 10) rfl ?_); refine goesL_ (some 70) rfl rfl Try.func10 (by kernel_rfl) rfl #[.int .i64 ((rdOf ByteArray.empty l0 x62_3).size : Int)] rfl (by (try simp only [List.map_toArray, List.map_cons, List.map_nil]); first | done | rfl | (simp only [List.length_drop, List.length_take]; rfl)) ?_; (with_reducible refine (frame_Size.calls k3 ((rdOf ByteArray.empty l0 x62_3).size : Int) t264 t265 _ A29.out).mono ?_); rintro e w31 ⟨rfl, hb⟩; refine ⟨_, rfl, ?_⟩; have n0_ := Aside0.mk (Kd.R_below (by (with_reducible repeat (first | apply Kd.R_alloc | apply Kd.R_drewN | apply Kd.R_drew)); exact HO_7.out) hb); have n1_ := Aside0.mk (below_step (by repeat (first | (with_reducible first | exact HB.out | apply below_alloc | apply pw_below_drewN | apply below_drew1) | exact HB.out)) hb); clear HO_7; clear HB; have HO_7 := n0_; have HB := n1_; clear n0_ n1_; (try clear hb); (try clear hb2); (try clear hk); (try clear hi)))
                                go_roundg k3
                                case measure => have := HJ5.out; have := HJ14.out; have := HK3.out; omega
                                case rel => exact ⟨(wrap64 (x9_3 + t264)), (true), (wrap64 (x62_3 + 1)), (by first | rfl | (simp; done) | (simp [*]; done)), (by first | rfl | (simp; done) | (simp [*]; done)), (by first | rfl | (simp; done) | (simp [*]; done)), H', ⟨by have := HJ5.out; have := HJ14.out; have := HK3.out; omega⟩, ⟨by (with_reducible repeat (first | apply Kd.R_alloc | apply Kd.R_drewN | apply Kd.R_drew)); exact HO_7.out⟩, ⟨by repeat (first | (with_reducible first | exact HB.out | apply below_alloc | apply pw_below_drewN | apply below_drew1) | exact HB.out)⟩⟩
                              · replace c30 := Bool.eq_false_iff.mpr c30
                                subst c30
                                have H1 : (if t265 = 0 then (if ((decide (x62_3 < (t257.length : Int))) != (decide ((wrap64 (x9_3 + t264)) ≤ a1))) = true then (spoorlaw04_FrameCut.l0 k3 a1 t257 t258 (wrap64 (x9_3 + t264)) true l0 (l0.length : Int) (wrap64 (x62_3 + 1))) else (if x62_3 = (wrap64 ((t257.length : Int) - 1)) then (spoorlaw04_FrameCut.l0 k3 a1 t257 t258 (wrap64 (x9_3 + t264)) (t258 != (wrap64 (x9_3 + t264))) l0 (l0.length : Int) (wrap64 (x62_3 + 1))) else (spoorlaw04_FrameCut.l0 k3 a1 t257 t258 (wrap64 (x9_3 + t264)) false l0 (l0.length : Int) (wrap64 (x62_3 + 1))))) else (spoorlaw04_FrameCut.l0 k3 a1 t257 t258 (wrap64 (x9_3 + t264)) true l0 (l0.length : Int) (wrap64 (x62_3 + 1)))) = some r := by rw [if_neg (show ¬ (false = true) by decide)] at H; exact H
                                clear H
                                have H := H1
                                clear H1
                                by_cases c32 : t265 = 0
                                · rw [if_pos c32] at H
                                  have c32b0 : (t265 == 0) = true := beq_iff_eq.mpr c32
                                  have c32b1 : (t265 != 0) = false := bne_eq_false_iff_eq.mpr c32
                                  clear c32
                                  by_cases c33 : ((decide (x62_3 < (t257.length : Int))) != (decide ((wrap64 (x9_3 + t264)) ≤ a1))) = true
                                  · rw [if_pos c33] at H
                                    have c33b0 : ((decide (x62_3 < (t257.length : Int))) != (decide ((wrap64 (x9_3 + t264)) ≤ a1))) = true := c33
                                    (try (have c33b1 : decide ((decide (x62_3 < (t257.length : Int))) = (decide ((wrap64 (x9_3 + t264)) ≤ a1))) = false := by simpa using c33))
                                    (try (have c33b2 : ((decide (x62_3 < (t257.length : Int))) == (decide ((wrap64 (x9_3 + t264)) ≤ a1))) = false := by simpa using c33))
                                    (try (have c33b3 : ¬ ((decide (x62_3 < (t257.length : Int))) = (decide ((wrap64 (x9_3 + t264)) ≤ a1))) := by simpa using c33))
                                    clear c33
                                    have H' := Aside0.mk H
                                    clear H
                                    have p263 : 0 ≤ (x62_3 : Int) := of_decide_eq_true (by first | (with_reducible assumption) | assumption)
                                    have q263 : x62_3 < (l0.length : Int) := of_decide_eq_true (by first | (with_reducible assumption) | assumption)
                                    obtain ⟨ad263, e263, hx263_0⟩ := Kd.at_string HR0.out x62_3 p263 q263
                                    cases e263
                                    replace hx263_0 := (HB.out.cell (World.block_lt_of_cell? w _ hx263_0)).trans hx263_0
                                    replace p263 := eq_true p263
                                    replace q263 := eq_true q263
                                    go_wp2_with (first | ((with_reducible refine gate_callee (f := 10) rfl ?_); refine goesL_ (some 70) rfl rfl Try.func10 (by kernel_rfl) rfl #[.int .i64 ((rdOf ByteArray.empty l0 x62_3).size : Int)] rfl (by (try simp only [List.map_toArray, List.map_cons, List.map_nil]); first | done | rfl | (simp only [List.length_drop, List.length_take]; rfl)) ?_; (with_reducible refine (frame_Size.calls k3 ((rdOf ByteArray.empty l0 x62_3).size : Int) t264 t265 _ A29.out).mono ?_); rintro e w34 ⟨rfl, hb⟩; refine ⟨_, rfl, ?_⟩; have n0_ := Aside0.mk (Kd.R_below (by (with_reducible repeat (first | apply Kd.R_alloc | apply Kd.R_drewN | apply Kd.R_drew)); exact HO_7.out) hb); have n1_ := Aside0.mk (below_step (by repeat (first | (with_reducible first | exact HB.out | apply below_alloc | apply pw_below_drewN | apply below_drew1) | exact HB.out)) hb); clear HO_7; clear HB; have HO_7 := n0_; have HB := n1_; clear n0_ n1_; (try clear hb); (try clear hb2); (try clear hk); (try clear hi); obtain ⟨Ao35, co35, eo35⟩ := Kd.R_slice HO_7.out; subst eo35))
                                    go_roundg k3
                                    case measure => have := HJ5.out; have := HJ14.out; have := HK3.out; omega
                                    case rel => exact ⟨(wrap64 (x9_3 + t264)), (true), (wrap64 (x62_3 + 1)), (by first | rfl | (simp; done) | (simp [*]; done)), (by first | rfl | (simp; done) | (simp [*]; done)), (by first | rfl | (simp; done) | (simp [*]; done)), H', ⟨by have := HJ5.out; have := HJ14.out; have := HK3.out; omega⟩, ⟨by (with_reducible repeat (first | apply Kd.R_alloc | apply Kd.R_drewN | apply Kd.R_drew)); exact HO_7.out⟩, ⟨by repeat (first | (with_reducible first | exact HB.out | apply below_alloc | apply pw_below_drewN | apply below_drew1) | exact HB.out)⟩⟩
                                  · rw [if_neg c33] at H
                                    have c33b0 : ((decide (x62_3 < (t257.length : Int))) != (decide ((wrap64 (x9_3 + t264)) ≤ a1))) = false := by simpa using c33
                                    (try (have c33b1 : decide ((decide (x62_3 < (t257.length : Int))) = (decide ((wrap64 (x9_3 + t264)) ≤ a1))) = true := by simpa using c33))
                                    (try (have c33b2 : ((decide (x62_3 < (t257.length : Int))) == (decide ((wrap64 (x9_3 + t264)) ≤ a1))) = true := by simpa using c33))
                                    clear c33
                                    by_cases c36 : x62_3 = (wrap64 ((t257.length : Int) - 1))
                                    · rw [if_pos c36] at H
                                      have c36b0 : (x62_3 == (wrap64 ((t257.length : Int) - 1))) = true := beq_iff_eq.mpr c36
                                      have c36b1 : (x62_3 != (wrap64 ((t257.length : Int) - 1))) = false := bne_eq_false_iff_eq.mpr c36
                                      clear c36
                                      have H' := Aside0.mk H
                                      clear H
                                      have p263 : 0 ≤ (x62_3 : Int) := of_decide_eq_true (by first | (with_reducible assumption) | assumption)
                                      have q263 : x62_3 < (l0.length : Int) := of_decide_eq_true (by first | (with_reducible assumption) | assumption)
                                      obtain ⟨ad263, e263, hx263_0⟩ := Kd.at_string HR0.out x62_3 p263 q263
                                      cases e263
                                      replace hx263_0 := (HB.out.cell (World.block_lt_of_cell? w _ hx263_0)).trans hx263_0
                                      replace p263 := eq_true p263
                                      replace q263 := eq_true q263
                                      go_wp2_with (first | ((with_reducible refine gate_callee (f := 10) rfl ?_); refine goesL_ (some 70) rfl rfl Try.func10 (by kernel_rfl) rfl #[.int .i64 ((rdOf ByteArray.empty l0 x62_3).size : Int)] rfl (by (try simp only [List.map_toArray, List.map_cons, List.map_nil]); first | done | rfl | (simp only [List.length_drop, List.length_take]; rfl)) ?_; (with_reducible refine (frame_Size.calls k3 ((rdOf ByteArray.empty l0 x62_3).size : Int) t264 t265 _ A29.out).mono ?_); rintro e w37 ⟨rfl, hb⟩; refine ⟨_, rfl, ?_⟩; have n0_ := Aside0.mk (Kd.R_below (by (with_reducible repeat (first | apply Kd.R_alloc | apply Kd.R_drewN | apply Kd.R_drew)); exact HO_7.out) hb); have n1_ := Aside0.mk (below_step (by repeat (first | (with_reducible first | exact HB.out | apply below_alloc | apply pw_below_drewN | apply below_drew1) | exact HB.out)) hb); clear HO_7; clear HB; have HO_7 := n0_; have HB := n1_; clear n0_ n1_; (try clear hb); (try clear hb2); (try clear hk); (try clear hi); obtain ⟨Ao38, co38, eo38⟩ := Kd.R_slice HO_7.out; subst eo38))
                                      go_roundg k3
                                      case measure => have := HJ5.out; have := HJ14.out; have := HK3.out; omega
                                      case rel => exact ⟨(wrap64 (x9_3 + t264)), ((t258 != (wrap64 (x9_3 + t264)))), (wrap64 (x62_3 + 1)), (by first | rfl | (simp; done) | (simp [*]; done)), (by first | rfl | (simp; done) | (simp [*]; done)), (by first | rfl | (simp; done) | (simp [*]; done)), H', ⟨by have := HJ5.out; have := HJ14.out; have := HK3.out; omega⟩, ⟨by (with_reducible repeat (first | apply Kd.R_alloc | apply Kd.R_drewN | apply Kd.R_drew)); exact HO_7.out⟩, ⟨by repeat (first | (with_reducible first | exact HB.out | apply below_alloc | apply pw_below_drewN | apply below_drew1) | exact HB.out)⟩⟩
                                    · rw [if_neg c36] at H
                                      have c36b0 : (x62_3 == (wrap64 ((t257.length : Int) - 1))) = false := beq_eq_false_iff_ne.mpr c36
                                      have c36b1 : (x62_3 != (wrap64 ((t257.length : Int) - 1))) = true := bne_iff_ne.mpr c36
                                      have H' := Aside0.mk H
                                      clear H
                                      have p263 : 0 ≤ (x62_3 : Int) := of_decide_eq_true (by first | (with_reducible assumption) | assumption)
                                      have q263 : x62_3 < (l0.length : Int) := of_decide_eq_true (by first | (with_reducible assumption) | assumption)
                                      obtain ⟨ad263, e263, hx263_0⟩ := Kd.at_string HR0.out x62_3 p263 q263
                                      cases e263
                                      replace hx263_0 := (HB.out.cell (World.block_lt_of_cell? w _ hx263_0)).trans hx263_0
                                      replace p263 := eq_true p263
                                      replace q263 := eq_true q263
                                      go_wp2_with (first | ((with_reducible refine gate_callee (f := 10) rfl ?_); refine goesL_ (some 70) rfl rfl Try.func10 (by kernel_rfl) rfl #[.int .i64 ((rdOf ByteArray.empty l0 x62_3).size : Int)] rfl (by (try simp only [List.map_toArray, List.map_cons, List.map_nil]); first | done | rfl | (simp only [List.length_drop, List.length_take]; rfl)) ?_; (with_reducible refine (frame_Size.calls k3 ((rdOf ByteArray.empty l0 x62_3).size : Int) t264 t265 _ A29.out).mono ?_); rintro e w39 ⟨rfl, hb⟩; refine ⟨_, rfl, ?_⟩; have n0_ := Aside0.mk (Kd.R_below (by (with_reducible repeat (first | apply Kd.R_alloc | apply Kd.R_drewN | apply Kd.R_drew)); exact HO_7.out) hb); have n1_ := Aside0.mk (below_step (by repeat (first | (with_reducible first | exact HB.out | apply below_alloc | apply pw_below_drewN | apply below_drew1) | exact HB.out)) hb); clear HO_7; clear HB; have HO_7 := n0_; have HB := n1_; clear n0_ n1_; (try clear hb); (try clear hb2); (try clear hk); (try clear hi); obtain ⟨Ao40, co40, eo40⟩ := Kd.R_slice HO_7.out; subst eo40))
                                      go_roundg k3
                                      case measure => have := HJ5.out; have := HJ14.out; have := HK3.out; omega
                                      case rel => exact ⟨(wrap64 (x9_3 + t264)), (false), (wrap64 (x62_3 + 1)), (by first | rfl | (simp; done) | (simp [*]; done)), (by first | rfl | (simp; done) | (simp [*]; done)), (by first | rfl | (simp; done) | (simp [*]; done)), H', ⟨by have := HJ5.out; have := HJ14.out; have := HK3.out; omega⟩, ⟨by (with_reducible repeat (first | apply Kd.R_alloc | apply Kd.R_drewN | apply Kd.R_drew)); exact HO_7.out⟩, ⟨by repeat (first | (with_reducible first | exact HB.out | apply below_alloc | apply pw_below_drewN | apply below_drew1) | exact HB.out)⟩⟩
                                · rw [if_neg c32] at H
                                  have c32b0 : (t265 == 0) = false := beq_eq_false_iff_ne.mpr c32
                                  have c32b1 : (t265 != 0) = true := bne_iff_ne.mpr c32
                                  have H' := Aside0.mk H
                                  clear H
                                  have p263 : 0 ≤ (x62_3 : Int) := of_decide_eq_true (by first | (with_reducible assumption) | assumption)
                                  have q263 : x62_3 < (l0.length : Int) := of_decide_eq_true (by first | (with_reducible assumption) | assumption)
                                  obtain ⟨ad263, e263, hx263_0⟩ := Kd.at_string HR0.out x62_3 p263 q263
                                  cases e263
                                  replace hx263_0 := (HB.out.cell (World.block_lt_of_cell? w _ hx263_0)).trans hx263_0
                                  replace p263 := eq_true p263
                                  replace q263 := eq_true q263
                                  go_wp2_with (first | ((with_reducible refine gate_callee (f := 10) rfl ?_); refine goesL_ (some 70) rfl rfl Try.func10 (by kernel_rfl) rfl #[.int .i64 ((rdOf ByteArray.empty l0 x62_3).size : Int)] rfl (by (try simp only [List.map_toArray, List.map_cons, List.map_nil]); first | done | rfl | (simp only [List.length_drop, List.length_take]; rfl)) ?_; (with_reducible refine (frame_Size.calls k3 ((rdOf ByteArray.empty l0 x62_3).size : Int) t264 t265 _ A29.out).mono ?_); rintro e w41 ⟨rfl, hb⟩; refine ⟨_, rfl, ?_⟩; have n0_ := Aside0.mk (Kd.R_below (by (with_reducible repeat (first | apply Kd.R_alloc | apply Kd.R_drewN | apply Kd.R_drew)); exact HO_7.out) hb); have n1_ := Aside0.mk (below_step (by repeat (first | (with_reducible first | exact HB.out | apply below_alloc | apply pw_below_drewN | apply below_drew1) | exact HB.out)) hb); clear HO_7; clear HB; have HO_7 := n0_; have HB := n1_; clear n0_ n1_; (try clear hb); (try clear hb2); (try clear hk); (try clear hi)))
                                  go_roundg k3
                                  case measure => have := HJ5.out; have := HJ14.out; have := HK3.out; omega
                                  case rel => exact ⟨(wrap64 (x9_3 + t264)), (true), (wrap64 (x62_3 + 1)), (by first | rfl | (simp; done) | (simp [*]; done)), (by first | rfl | (simp; done) | (simp [*]; done)), (by first | rfl | (simp; done) | (simp [*]; done)), H', ⟨by have := HJ5.out; have := HJ14.out; have := HK3.out; omega⟩, ⟨by (with_reducible repeat (first | apply Kd.R_alloc | apply Kd.R_drewN | apply Kd.R_drew)); exact HO_7.out⟩, ⟨by repeat (first | (with_reducible first | exact HB.out | apply below_alloc | apply pw_below_drewN | apply below_drew1) | exact HB.out)⟩⟩
                            · rw [if_neg c28] at H
                              exact absurd H (by simp)
                          · rw [if_neg c27] at H
                            exact absurd H (by simp)
                        · rw [if_neg c26] at H
                          have c26b0 : decide (x62_3 < (l0.length : Int)) = false := decide_eq_false c26
                          clear c26
                          by_cases c42 : x10_3 = true
                          · subst c42
                            have H1 : (some false) = some r := by rw [if_pos rfl] at H; exact H
                            clear H
                            have H := H1
                            clear H1
                            obtain rfl := Option.some.inj H
                            go_wp2
                            go_ret
                            exact ⟨by first | rfl | (simp [errW_none, errW_some] <;> rfl) | (simp [*, errW_none, errW_some] <;> rfl), by repeat (first | (with_reducible first | exact HB.out | apply below_alloc | apply pw_below_drewN | apply below_drew1) | exact HB.out)⟩
                          · replace c42 := Bool.eq_false_iff.mpr c42
                            subst c42
                            have H1 : (if (t257.length : Int) > 0 then (some true) else (some (t258 == 0))) = some r := by rw [if_neg (show ¬ (false = true) by decide)] at H; exact H
                            clear H
                            have H := H1
                            clear H1
                            by_cases c43 : (t257.length : Int) > 0
                            · rw [if_pos c43] at H
                              have c43b0 : decide (0 < (t257.length : Int)) = true := decide_eq_true c43
                              have c43b1 : decide (0 < t257.length) = true := decide_eq_true (by omega)
                              clear c43
                              obtain rfl := Option.some.inj H
                              obtain ⟨Ao44, co44, eo44⟩ := Kd.R_slice HO_7.out
                              subst eo44
                              go_wp2
                              go_ret
                              exact ⟨by first | rfl | (simp [errW_none, errW_some] <;> rfl) | (simp [*, errW_none, errW_some] <;> rfl), by repeat (first | (with_reducible first | exact HB.out | apply below_alloc | apply pw_below_drewN | apply below_drew1) | exact HB.out)⟩
                            · rw [if_neg c43] at H
                              have c43b0 : decide (0 < (t257.length : Int)) = false := decide_eq_false c43
                              have c43b1 : decide (0 < t257.length) = false := decide_eq_false (by omega)
                              clear c43
                              obtain rfl := Option.some.inj H
                              obtain ⟨Ao45, co45, eo45⟩ := Kd.R_slice HO_7.out
                              subst eo45
                              go_wp2
                              go_ret
                              exact ⟨by first | rfl | (simp [errW_none, errW_some] <;> rfl) | (simp [*, errW_none, errW_some] <;> rfl), by repeat (first | (with_reducible first | exact HB.out | apply below_alloc | apply pw_below_drewN | apply below_drew1) | exact HB.out)⟩
            · rw [if_neg c13] at H
              exact absurd H (by simp)
          · rw [if_neg c12] at H
            exact absurd H (by simp)
  · replace c4 := Bool.eq_false_iff.mpr c4
    subst c4
    have H1 : (some false) = some r := by rw [if_neg (show ¬ (false = true) by decide)] at H; exact H
    clear H
    have H := H1
    clear H1
    obtain rfl := Option.some.inj H
    go_enter Try.func6, Try.ntmps6
    go_wp2_with (first | ((with_reducible refine gate_callee (f := 12) rfl ?_); refine goesL_ (some 15) rfl rfl Try.func12 (by kernel_rfl) rfl #[] rfl (by (try simp only [List.map_toArray, List.map_cons, List.map_nil]); first | done | rfl | (simp only [List.length_drop, List.length_take]; rfl)) ?_; (with_reducible refine (spoorlaw04_lives.calls k  false _ A3.out).mono ?_); rintro e w46 ⟨rfl, hb⟩; refine ⟨_, rfl, ?_⟩; have n0_ := Aside0.mk (below_step (by repeat (first | (with_reducible first | exact HB.out | apply below_alloc | apply pw_below_drewN | apply below_drew1) | exact HB.out)) hb); clear HB; have HB := n0_; clear n0_; (try clear hb); (try clear hb2); (try clear hk); (try clear hi)))
    go_ret
    exact ⟨by first | rfl | (simp [errW_none, errW_some] <;> rfl) | (simp [*, errW_none, errW_some] <;> rfl), by repeat (first | (with_reducible first | exact HB.out | apply below_alloc | apply pw_below_drewN | apply below_drew1) | exact HB.out)⟩

/-- THE ONE PURE STATEMENT of spoorlaw04_FrameCut. -/
def spoorlaw04_FrameCut.Pure : Prop := ∀ (l0 : List ByteArray) (a1 : Int), (l0.length * 16 ≤ 140737488351232 ∧ ∀ y_ ∈ l0, y_.size ≤ 140737488351232) → ((Lit.int .i64 a1).wf = true) → ∃ k, spoorlaw04_FrameCut.f k l0 a1 = some true
theorem spoorlaw04_FrameCut.walk (P : spoorlaw04_FrameCut.Pure) (A0 : Option Addr) (c0 : Nat) (l0 : List ByteArray) (a1 : Int) (w : World) (g0 : l0.length * 16 ≤ 140737488351232 ∧ ∀ y_ ∈ l0, y_.size ≤ 140737488351232) (g1 : (Lit.int .i64 a1).wf = true) (hr0 : Kd.C Kd.string w A0 l0.length l0) (hc0 : l0.length ≤ c0) :
    Calls Try.prog 6 #[.slice A0 l0.length c0, .int .i64 a1] w fun e w' => e = .returned (.bool true) ∧ Below w.heap.size w w' := by
  obtain ⟨k, h⟩ := P l0 a1 g0 g1
  refine (spoorlaw04_FrameCut.calls k A0 c0 l0 a1 true w hr0 hc0 h).mono ?_
  rintro e w' ⟨rfl, hd⟩
  exact ⟨rfl, hd⟩

/-! ### spoorlaw04_FrameTurned: function 7 -/
/-- '[]byte(s)' with one byte stored, and back, after what left it. -/
theorem spoorlaw04_FrameTurned.kept {P : Program} {w W2 w5 : World} (src dst e : TypeId) (s : ByteArray) (cap i : Nat) (v : Int) (hs : P.underlying src = some (.slice e)) (he : P.underlying e = some (.int .u8)) (hd : P.underlying dst = some .string)
    (hi : i < s.size) (hc : ∀ j, j < s.size → W2.cell? ⟨w.heap.size, j, none⟩ = some (.int .u8 (bt s (j : Int)))) (hz : W2.heap.size = w.heap.size + 1) (hb : Below (W2.setCell ⟨w.heap.size, i, none⟩ (.int .u8 v)).heap.size (W2.setCell ⟨w.heap.size, i, none⟩ (.int .u8 v)) w5) :
    (convert src dst (.slice (some ⟨w.heap.size, 0, none⟩) s.size cap)).run P w5 = .ok (.string (strOfNums ((Tools.nums8 s).set i v))) w5 := by
  refine run_convert_bytes_arg _ src e hs he w.heap.size 0 s.size cap _ (by rw [List.length_set, Tools.nums8_len]) (fun j hj => ?_) dst hd
  rw [Nat.zero_add, hb.cell (by have z := ((Below.refl 0 W2).setCell (p := ⟨w.heap.size, i, none⟩) (Nat.zero_le _) (.int .u8 v)).size; show w.heap.size < _; omega)]
  by_cases h : i = j
  · subst h
    rw [World.cell?_setCell_same _ _ _ (hc i hi)]
    rw [List.getD_eq_getElem?_getD, List.getElem?_set_self (by rw [Tools.nums8_len]; exact hi)]
    rfl
  · have hne : (⟨w.heap.size, i, none⟩ : Addr) ≠ ⟨w.heap.size, j, none⟩ := by intro z; injection z with z1 z2; exact h z2
    rw [World.cell?_setCell_other _ _ _ _ hne, hc j hj]
    rw [List.getD_eq_getElem?_getD, List.getElem?_set_ne h, ← List.getD_eq_getElem?_getD, Tools.nums8_at s j hj]
def spoorlaw04_FrameTurned.f (k : Nat) (a0 : ByteArray) (a1 a2 : Int) (a3 : ByteArray) : Option Bool :=
  (spoorlaw04_lives.f k).bind fun t => if t = true then
    (frame_Put.f k a0).bind fun b =>
      if b.2 ≠ 0 ∨ a2 = 0 then some true else
      if a1 < wrap64 (wrap64 ((b.1.size : Int) - (a0.size : Int)) - 4) ∨ a1 ≥ (b.1.size : Int) then some true else
      if 0 ≤ a1 ∧ (Tools.turned b.1 a1.toNat a2).size + a3.size ≤ 9223372036854775807 then
        (frame_Next.f k (Tools.turned b.1 a1.toNat a2 ++ a3)).bind fun c =>
        (frame_All.f k (Tools.turned b.1 a1.toNat a2 ++ a3)).bind fun d => some (c.2.2 == 6 && decide ((d.1.length : Int) = 0) && d.2 == 0) else none
    else none
theorem spoorlaw04_FrameTurned.mono : ∀ a0 a1 a2 a3 k, LeO (spoorlaw04_FrameTurned.f k a0 a1 a2 a3) (spoorlaw04_FrameTurned.f (k + 1) a0 a1 a2 a3) := by
  intro a0 a1 a2 a3 k
  unfold spoorlaw04_FrameTurned.f
  repeat' first
      | (with_reducible exact LeO.refl _)
      | (with_reducible exact LeO.none _)
      | (with_reducible refine LeO.ite ?_ ?_)
      | (with_reducible refine LeO.bind ?_ (fun _ => ?_))
      | exact spoorlaw04_lives.mono _
      | exact frame_Put.mono _ _
      | exact frame_Next.mono _ _
      | exact frame_All.mono _ _
set_option maxHeartbeats 8000000 in
set_option maxRecDepth 100000 in
theorem spoorlaw04_FrameTurned.early (a0 : ByteArray) (a1 a2 : Int) (a3 : ByteArray) (k : Nat) (w : World) (hl : spoorlaw04_lives.f k = some true) (s : ByteArray) (n : Int) (hp : frame_Put.f k a0 = some (s, n)) (h : n ≠ 0 ∨ a2 = 0) :
    Calls Try.prog 7 #[.string a0, .int .i64 a1, .int .u8 a2, .string a3] w fun e w' => e = .returned (.bool true) ∧ Below w.heap.size w w' := by
  by_cases h1 : n = 0
  all_goals
    first | have d1 : (n == 0) = true := beq_iff_eq.mpr h1 | have d1 : (n == 0) = false := beq_eq_false_iff_ne.mpr h1
    first | have d2 : (n != 0) = false := bne_eq_false_iff_eq.mpr h1 | have d2 : (n != 0) = true := bne_iff_ne.mpr h1
    first | have d3 : (a2 == 0) = true := beq_iff_eq.mpr (h.resolve_left (fun z => z h1)) | skip
    clear h h1
    go_enter Try.func7, Try.ntmps7
    go_wp2_with (first
      | (go_at_call 12; refine (spoorlaw04_lives.calls k true _ hl).mono ?_; rintro e w1 ⟨rfl, hb⟩)
      | (go_at_call 8; refine (frame_Put.calls k a0 s n _ hp).mono ?_; rintro e w2 ⟨rfl, hb2⟩))
    go_ret
    exact ⟨rfl, below_step hb hb2⟩
set_option maxHeartbeats 8000000 in
set_option maxRecDepth 100000 in
theorem spoorlaw04_FrameTurned.mid (a0 : ByteArray) (a1 a2 : Int) (a3 : ByteArray) (k : Nat) (w : World) (hl : spoorlaw04_lives.f k = some true) (s : ByteArray) (hp : frame_Put.f k a0 = some (s, 0)) (h : ¬ a2 = 0) (h1 : a1 < wrap64 (wrap64 ((s.size : Int) - (a0.size : Int)) - 4) ∨ a1 ≥ (s.size : Int)) :
    Calls Try.prog 7 #[.string a0, .int .i64 a1, .int .u8 a2, .string a3] w fun e w' => e = .returned (.bool true) ∧ Below w.heap.size w w' := by
  have d2 : (a2 == 0) = false := by simpa using h
  by_cases h2 : a1 < wrap64 (wrap64 ((s.size : Int) - (a0.size : Int)) - 4)
  all_goals
    first | have d1 : decide (a1 < wrap64 (wrap64 ((s.size : Int) - (a0.size : Int)) - 4)) = true := decide_eq_true h2 | have d1 : decide (a1 < wrap64 (wrap64 ((s.size : Int) - (a0.size : Int)) - 4)) = false := decide_eq_false h2
    first | have d3 : decide ((s.size : Int) ≤ a1) = true := decide_eq_true (h1.resolve_left h2) | skip
    clear h h1 h2
    go_enter Try.func7, Try.ntmps7
    go_wp2_with (first
      | (go_at_call 12; refine (spoorlaw04_lives.calls k true _ hl).mono ?_; rintro e w1 ⟨rfl, hb⟩)
      | (go_at_call 8; refine (frame_Put.calls k a0 s 0 _ hp).mono ?_; rintro e w2 ⟨rfl, hb2⟩))
    go_ret
    exact ⟨rfl, below_step hb hb2⟩
set_option maxHeartbeats 8000000 in
set_option maxRecDepth 100000 in
theorem spoorlaw04_FrameTurned.late (a0 : ByteArray) (i : Nat) (a2 : Int) (a3 : ByteArray) (k : Nat) (w : World) (hl : spoorlaw04_lives.f k = some true) (s : ByteArray) (hp : frame_Put.f k a0 = some (s, 0)) (h : ¬ a2 = 0) (hf : ¬ (i : Int) < wrap64 (wrap64 ((s.size : Int) - (a0.size : Int)) - 4)) (hi : i < s.size) (T : ByteArray) (hT : Tools.turned s i a2 = T)
   (ha : T.size + a3.size ≤ 9223372036854775807) (c1 c2 : ByteArray) (c3 : Int) (hc : frame_Next.f k (T ++ a3) = some (c1, c2, c3)) (d1 : List ByteArray) (d2 : Int) (hd : frame_All.f k (T ++ a3) = some (d1, d2)) (r : Bool) (hr : (c3 == 6 && decide ((d1.length : Int) = 0) && d2 == 0) = r) :
    Calls Try.prog 7 #[.string a0, .int .i64 (i : Int), .int .u8 a2, .string a3] w fun e w' => e = .returned (.bool r) ∧ Below w.heap.size w w' := by
  have g1 : decide ((i : Int) < wrap64 (wrap64 ((s.size : Int) - (a0.size : Int)) - 4)) = false := decide_eq_false hf
  have g2 : decide (s.size ≤ i) = false := decide_eq_false (by omega)
  have g3 : (a2 == 0) = false := by simpa using h
  have g4 : decide ((s.size : Int) ≤ (i : Int)) = false := decide_eq_false (by omega)
  have HT := Aside0.mk hT
  have HR := Aside0.mk hr
  clear hT hr hf h
  by_cases z1 : c3 = 6 <;> by_cases z2 : d1.length = 0 <;> by_cases z3 : d2 = 0
  all_goals
    first | have y1 : (c3 == 6) = true := beq_iff_eq.mpr z1 | have y1 : (c3 == 6) = false := beq_eq_false_iff_ne.mpr z1
    first | have y2 : ((d1.length : Int) == 0) = true := beq_iff_eq.mpr (by omega) | have y2 : ((d1.length : Int) == 0) = false := beq_eq_false_iff_ne.mpr (by omega)
    first | have y3 : (d2 == 0) = true := beq_iff_eq.mpr z3 | have y3 : (d2 == 0) = false := beq_eq_false_iff_ne.mpr z3
    first | have y4 : (d1.length == 0) = true := beq_iff_eq.mpr z2 | have y4 : (d1.length == 0) = false := beq_eq_false_iff_ne.mpr z2
    first | have y5 : decide ((d1.length : Int) = 0) = true := decide_eq_true (by omega) | have y5 : decide ((d1.length : Int) = 0) = false := decide_eq_false (by omega)
    have hr' : (c3 == 6 && decide ((d1.length : Int) = 0) && d2 == 0) = r := HR.out
    rw [y1, y5, y3] at hr'
    have HR' := Aside0.mk hr'
    clear z1 z2 z3 hr' y5
    go_enter Try.func7, Try.ntmps7
    go_wp2_with (first
        | (go_at_call 12; refine (spoorlaw04_lives.calls k true _ hl).mono ?_; rintro e w0 ⟨rfl, hb⟩; have HB := Aside0.mk hb; clear hb)
        | (go_at_call 8; refine (frame_Put.calls k a0 s 0 _ hp).mono ?_; rintro e w1 ⟨rfl, hb1⟩; obtain ⟨cap, W2, kc, hcell, hfr, hbl, hsz⟩ := Tools.str_bytes (P := Try.prog) w1 9 41 5 s Try.underlying9 Try.underlying41 Try.underlying5; have hci := hcell i hi; have hfi := hfr i hi; have kb := Tools.bytes_back (P := Try.prog) 41 9 5 s cap i (Go.bits .xor .u8 (bt s (i : Int)) a2) Try.underlying41 Try.underlying5 Try.underlying9 hi hcell; rw [show strOfNums ((Tools.nums8 s).set i (Go.bits .xor .u8 (bt s (i : Int)) a2)) = T from HT.out] at kb; have HB1 := Aside0.mk hb1; have HCL := Aside0.mk hcell; have HSZ := Aside0.mk hsz; have HBM := Aside0.mk hbl; clear hb1 hbl hsz hcell hfr)
        | (go_at_call 13; refine (frame_Next.calls k (T ++ a3) c1 c2 c3 _ hc).mono ?_; rintro e w5 ⟨rfl, hb5⟩; have kb5 := spoorlaw04_FrameTurned.kept (P := Try.prog) 41 9 5 s cap i (Go.bits .xor .u8 (bt s (i : Int)) a2) Try.underlying41 Try.underlying5 Try.underlying9 hi HCL.out HSZ.out hb5; rw [show strOfNums ((Tools.nums8 s).set i (Go.bits .xor .u8 (bt s (i : Int)) a2)) = T from HT.out] at kb5; have HB5 := Aside0.mk hb5; clear hb5)
        | (go_at_call 15; refine (frame_All.calls k (T ++ a3) d1 d2 _ hd).mono ?_; rintro e w6 ⟨v0, rfl, hR, hb6⟩; have HB6 := Aside0.mk hb6; clear hb6; obtain ⟨Ao, co, rfl⟩ := Kd.R_slice hR; clear hR))
    go_ret
    refine ⟨by rw [← HR'.out]; rfl, ?_⟩
    exact below_step (below_step (below_set (below_step (below_step HB.out HB1.out) HBM.out) (below_step HB.out HB1.out).size) HB5.out) HB6.out
theorem spoorlaw04_FrameTurned.calls (k : Nat) (a0 : ByteArray) (a1 a2 : Int) (a3 : ByteArray) (r : Bool) (w : World) (h : spoorlaw04_FrameTurned.f k a0 a1 a2 a3 = some r) :
    Calls Try.prog 7 #[.string a0, .int .i64 a1, .int .u8 a2, .string a3] w fun e w' => e = .returned (.bool r) ∧ Below w.heap.size w w' := by
  unfold spoorlaw04_FrameTurned.f at h
  obtain ⟨t, hl, h⟩ := Option.bind_eq_some_iff.mp h
  cases t with
  | false => exact absurd h (by simp)
  | true =>
    rw [if_pos rfl] at h
    obtain ⟨⟨s, n⟩, hp, h⟩ := Option.bind_eq_some_iff.mp h
    by_cases c : n ≠ 0 ∨ a2 = 0
    · rw [if_pos c] at h
      obtain rfl := Option.some.inj h
      exact spoorlaw04_FrameTurned.early a0 a1 a2 a3 k w hl s n hp c
    · rw [if_neg c] at h
      obtain rfl : n = 0 := Decidable.byContradiction fun z => c (.inl z)
      have hn : ¬ a2 = 0 := fun z => c (.inr z)
      by_cases c1 : a1 < wrap64 (wrap64 ((s.size : Int) - (a0.size : Int)) - 4) ∨ a1 ≥ (s.size : Int)
      · rw [if_pos c1] at h
        obtain rfl := Option.some.inj h
        exact spoorlaw04_FrameTurned.mid a0 a1 a2 a3 k w hl s hp hn c1
      · rw [if_neg c1] at h
        by_cases c2 : 0 ≤ a1 ∧ (Tools.turned s a1.toNat a2).size + a3.size ≤ 9223372036854775807
        · rw [if_pos c2] at h
          obtain ⟨i, rfl⟩ : ∃ i : Nat, a1 = i := ⟨a1.toNat, by omega⟩
          simp only [Int.toNat_natCast] at h c2
          obtain ⟨⟨c1', c2', c3⟩, hc, h⟩ := Option.bind_eq_some_iff.mp h
          obtain ⟨⟨d1, d2⟩, hd, h⟩ := Option.bind_eq_some_iff.mp h
          exact spoorlaw04_FrameTurned.late a0 i a2 a3 k w hl s hp hn (fun z => c1 (.inl z)) (Decidable.byContradiction fun z => c1 (.inr (by omega))) _ rfl c2.2 c1' c2' c3 hc d1 d2 hd r (Option.some.inj h)
        · rw [if_neg c2] at h
          exact absurd h (by simp)

/-- THE ONE PURE STATEMENT of spoorlaw04_FrameTurned. -/
def spoorlaw04_FrameTurned.Pure : Prop := ∀ (a0 : ByteArray) (a1 : Int) (a2 : Int) (a3 : ByteArray), a0.size ≤ 140737488351232 → (Lit.int .i64 a1).wf = true → (Lit.int .u8 a2).wf = true → a3.size ≤ 140737488351232 → ∃ k, spoorlaw04_FrameTurned.f k a0 a1 a2 a3 = some true
theorem spoorlaw04_FrameTurned.walk (P : spoorlaw04_FrameTurned.Pure) (a0 : ByteArray) (a1 : Int) (a2 : Int) (a3 : ByteArray) (w : World) (w0 : a0.size ≤ 140737488351232) (w1 : (Lit.int .i64 a1).wf = true) (w2 : (Lit.int .u8 a2).wf = true) (w3 : a3.size ≤ 140737488351232) :
    Calls Try.prog 7 #[.string a0, .int .i64 a1, .int .u8 a2, .string a3] w fun e w' => e = .returned (.bool true) ∧ Below w.heap.size w w' := by
  obtain ⟨k, h⟩ := P a0 a1 a2 a3 w0 w1 w2 w3
  refine (spoorlaw04_FrameTurned.calls k a0 a1 a2 a3 true w h).mono ?_
  rintro e w' ⟨rfl, hd⟩
  exact ⟨rfl, hd⟩


end Go.Proofs.Ythloehmpjemhlaa.P
