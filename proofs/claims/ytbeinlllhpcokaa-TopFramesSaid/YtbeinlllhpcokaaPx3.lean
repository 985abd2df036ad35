-- Written by a program of this session (an adapted printer) out of the translation; Lean checks it.
import Derived.Test.YtbeinlllhpcokaaPx0
namespace Go.Proofs.Ytbeinlllhpcokaa.P
open Go.RowKit Go.Proofs.YtbeinlllhpcokaaW.PrintWords Go.Proofs.YtbeinlllhpcokaaW.PrintLast Go.Proofs.YtbeinlllhpcokaaW.PrintMore
attribute [local go_sem] max2_int min2_int max_two min_two max_three min_three max_four min_four   -- for this text's walks alone
set_option linter.unusedVariables false
set_option linter.unusedSimpArgs false

/-! ### num_Add: function 16 -/
def num_Add.l0 : Nat → List Int → Int → Option (List Int)
  | 0, _, _ => none
  | k + 1, x0, x1 => if x1 ≥ 128 then (if x0.length < 140737488355328 then (num_Add.l0 k (x0 ++ [Go.bits .or .u8 ((x1) % 256) 128]) (x1 / 128)) else (none)) else (if x0.length < 140737488355328 then (some (x0 ++ [(x1) % 256])) else (none))
def num_Add.f (k : Nat) (l0 : List Int) (a1 : Int) : Option (List Int) := num_Add.l0 k l0 a1
theorem num_Add.mono_l : ∀ k, (∀ y0 y1, LeO (num_Add.l0 k y0 y1) (num_Add.l0 (k + 1) y0 y1))
  | 0 => fun _ _ r h => by simp [num_Add.l0] at h
  | k + 1 => by
    have ih0 := num_Add.mono_l k
    · intro y0 y1
      unfold num_Add.l0
      repeat' first
      | (with_reducible exact ih0 _ _)
      | (with_reducible exact LeO.refl _)
      | (with_reducible exact LeO.none _)
      | (with_reducible refine LeO.ite ?_ ?_)
      | (with_reducible refine LeO.bind ?_ (fun _ => ?_))
      | exact ih0 _ _
      | exact LeO.none _
      | refine LeO.ite ?_ ?_
      | refine LeO.bind ?_ (fun _ => ?_)
theorem num_Add.mono : ∀ a0 a1 k, LeO (num_Add.f k a0 a1) (num_Add.f (k + 1) a0 a1) := by
  intro a0 a1 k
  have ih0 := num_Add.mono_l k
  unfold num_Add.f
  repeat' first
      | (with_reducible exact ih0 _ _)
      | (with_reducible exact LeO.refl _)
      | (with_reducible exact LeO.none _)
      | (with_reducible refine LeO.ite ?_ ?_)
      | (with_reducible refine LeO.bind ?_ (fun _ => ?_))
      | exact ih0 _ _
      | exact LeO.none _
      | refine LeO.ite ?_ ?_
      | refine LeO.bind ?_ (fun _ => ?_)
set_option maxHeartbeats 8000000 in
set_option maxRecDepth 100000 in
theorem num_Add.calls (k : Nat) (P0_ : Nat → Prop) (u9000_ : Value) (l0 : List Int) (a1 : Int) (r : List Int) (w0 w : World) (hB : Below w0.heap.size w0 w) (ho0 : Kd.R (Kd.int .u8) 5 w w0.heap.size P0_ u9000_ l0) (h : num_Add.f k l0 a1 = some r) :
    Calls Try.prog 16 #[u9000_, .int .u64 a1] w fun e w' => ∃ v0_ : Value, e = .returned (v0_) ∧ Kd.R (Kd.int .u8) 5 w' w0.heap.size (fun k_ => (P0_ k_ ∨ w.heap.size ≤ k_)) v0_ r ∧ Below w0.heap.size w0 w' ∧ Kept w w' (fun k_ => P0_ k_) := by
  have HO0 := Aside0.mk (show Kd.R (Kd.int .u8) 5 w w0.heap.size (fun k_ => (P0_ k_ ∨ w.heap.size ≤ k_)) u9000_ l0 from Kd.R_mono ho0 (fun k_ hk => (.inl hk)))
  have HK := Aside0.mk (Kept.refl w (fun k_ => P0_ k_))
  have HW0 := Aside0.mk hB.size
  have HB := Aside0.mk hB
  clear hB
  have H : (num_Add.l0 k l0 a1) = some r := h
  clear h
  have H' := Aside0.mk H
  clear H
  go_enter Try.func16, Try.ntmps16
  go_wp2
  go_loopg [0, 1] k (fun kq v0 v1 w' => ∃ (x0_1 : List Int) (x1_1 : Int), v1 = .int .u64 x1_1 ∧ Aside0 (num_Add.l0 kq x0_1 x1_1 = some r) ∧ Aside0 (kq ≤ k) ∧ Aside0 (Kd.R (Kd.int .u8) 5 w' w0.heap.size (fun k_ => (P0_ k_ ∨ w.heap.size ≤ k_)) v0 x0_1) ∧ Aside0 (Kept w w' (fun k_ => P0_ k_)) ∧ Aside0 (Below w0.heap.size w0 w'))
  case atStart => exact ⟨(l0), (a1), (by first | rfl | (simp; done) | (simp [*]; done)), H', ⟨Nat.le_refl _⟩, ⟨by (with_reducible repeat (first | apply Kd.R_alloc | apply Kd.R_drewN | apply Kd.R_drew)); exact HO0.out⟩, ⟨by repeat (first | (with_reducible first | exact HK.out | apply Kept.alloc | apply Kept.drewN | apply Kept.drew) | exact HK.out)⟩, ⟨by repeat (first | (with_reducible first | exact HB.out | apply below_alloc | apply pw_below_drewN | apply below_drew1) | exact HB.out)⟩⟩
  case round =>
    clear H'
    try clear c1
    try clear p2
    obtain ⟨x0_1, x1_1, rfl, HA, HK1, HO_0, HK, HB⟩ := hrel
    cases gk with
    | zero => exact absurd HA.out (by simp [num_Add.l0])
    | succ k1 =>
      have H := HA.out
      clear HA
      simp only [num_Add.l0] at H
      by_cases c3 : x1_1 ≥ 128
      · rw [if_pos c3] at H
        have c3b0 : decide (128 ≤ x1_1) = true := decide_eq_true c3
        clear c3
        by_cases c4 : x0_1.length < 140737488355328
        · rw [if_pos c4] at H
          have LMc4 := Aside0.mk c4
          clear c4
          obtain ⟨y103, hy103⟩ : ∃ y_ : List Int, y_ = (x0_1 ++ [Go.bits .or .u8 ((x1_1) % 256) 128]) := ⟨_, rfl⟩
          replace H : (num_Add.l0 k1 y103 (x1_1 / 128)) = some r := by first | (rw [hy103]; with_reducible exact H) | (have H2_ := (Option.bind_some _ _).symm.trans H; rw [hy103]; with_reducible exact H2_) | (have H2_ := (Option.bind_some _ _).symm.trans H; with_reducible exact H2_) | with_reducible exact H | (rw [hy103]; exact H) | exact H
          have Ny103 := Aside0.mk hy103
          clear hy103
          have H' := Aside0.mk H
          clear H
          go_wp2_with (first | ((with_reducible refine gate_builtin (b := .append) (xs := #[.tmp 7, .tmp 11]) rfl ?_); at_builtin; refine Kd.R_append (Kd.int .u8) (w0 := w0) w0.heap.size rfl (.tmp 7) (.tmp 11) 48 5 (.int .u8 0) 1 rfl Try.underlying48 info5 rfl (by decide) (by omega) u0 x0_1 (Go.bits .or .u8 ((x1_1) % 256) 128) [.int .u8 (Go.bits .or .u8 ((x1_1) % 256) 128)] (fun k_ => (P0_ k_ ∨ w.heap.size ≤ k_)) (fun _ => False) rfl rfl ?aP (fun _ hk => hk.elim) ?aF ?aO ?aB ?aS ?aL ?_; (case aP => exact rfl); (case aB => exact (by repeat (first | (with_reducible first | exact HB.out | apply below_alloc | apply pw_below_drewN | apply below_drew1) | exact HB.out))); (case aF => exact (fun k_ hk => (.inr (Nat.le_trans (by first | exact HK.out.1 | exact (show Kept w _ (fun k_ => P0_ k_) from by repeat (first | (with_reducible first | exact HK.out | apply Kept.alloc | apply Kept.drewN | apply Kept.drew) | exact HK.out)).1) hk)))); (case aO => exact (by (with_reducible repeat (first | apply Kd.R_alloc | apply Kd.R_drewN | apply Kd.R_drew)); exact HO_0.out)); (case aS => exact (below_size (by repeat (first | (with_reducible first | exact HB.out | apply below_alloc | apply pw_below_drewN | apply below_drew1) | exact HB.out)))); (case aL => have := LMc4.out; omega); intro v104 w5 ho hb hg hat; rw [← Ny103.out] at ho; have n0_ := Aside0.mk (hb); have n1_ := Aside0.mk (Kept.of_grown (S := (fun k_ => P0_ k_)) hg (by repeat (first | (with_reducible first | exact HK.out | apply Kept.alloc | apply Kept.drewN | apply Kept.drew) | exact HK.out)) (fun k_ e_ => (HO_0.out.1 k_ e_))); have n2_ := Aside0.mk (ho); clear HB; clear HK; clear HO_0; have HB := n0_; have HK := n1_; have HO105 := n2_; clear n0_ n1_ n2_; clear ho hb hg hat))
          go_roundg k1
          case measure => have := HK1.out; omega
          case rel => exact ⟨(y103), (x1_1 / 128), (by first | rfl | (simp; done) | (simp [*]; done)), H', ⟨by have := HK1.out; omega⟩, ⟨by (with_reducible repeat (first | apply Kd.R_alloc | apply Kd.R_drewN | apply Kd.R_drew)); exact HO105.out⟩, ⟨by repeat (first | (with_reducible first | exact HK.out | apply Kept.alloc | apply Kept.drewN | apply Kept.drew) | exact HK.out)⟩, ⟨by repeat (first | (with_reducible first | exact HB.out | apply below_alloc | apply pw_below_drewN | apply below_drew1) | exact HB.out)⟩⟩
        · rw [if_neg c4] at H
          exact absurd H (by simp)
      · rw [if_neg c3] at H
        have c3b0 : decide (128 ≤ x1_1) = false := decide_eq_false c3
        clear c3
        by_cases c6 : x0_1.length < 140737488355328
        · rw [if_pos c6] at H
          have LMc6 := Aside0.mk c6
          clear c6
          obtain ⟨y106, hy106⟩ : ∃ y_ : List Int, y_ = (x0_1 ++ [(x1_1) % 256]) := ⟨_, rfl⟩
          replace H : (some y106) = some r := by first | (rw [hy106]; with_reducible exact H) | (have H2_ := (Option.bind_some _ _).symm.trans H; rw [hy106]; with_reducible exact H2_) | (have H2_ := (Option.bind_some _ _).symm.trans H; with_reducible exact H2_) | with_reducible exact H | (rw [hy106]; exact H) | exact H
          have Ny106 := Aside0.mk hy106
          clear hy106
          obtain rfl := Option.some.inj H
          go_wp2_with (first | ((with_reducible refine gate_builtin (b := .append) (xs := #[.tmp 15, .tmp 18]) rfl ?_); at_builtin; refine Kd.R_append (Kd.int .u8) (w0 := w0) w0.heap.size rfl (.tmp 15) (.tmp 18) 48 5 (.int .u8 0) 1 rfl Try.underlying48 info5 rfl (by decide) (by omega) u0 x0_1 ((x1_1) % 256) [.int .u8 ((x1_1) % 256)] (fun k_ => (P0_ k_ ∨ w.heap.size ≤ k_)) (fun _ => False) rfl rfl ?aP (fun _ hk => hk.elim) ?aF ?aO ?aB ?aS ?aL ?_; (case aP => exact rfl); (case aB => exact (by repeat (first | (with_reducible first | exact HB.out | apply below_alloc | apply pw_below_drewN | apply below_drew1) | exact HB.out))); (case aF => exact (fun k_ hk => (.inr (Nat.le_trans (by first | exact HK.out.1 | exact (show Kept w _ (fun k_ => P0_ k_) from by repeat (first | (with_reducible first | exact HK.out | apply Kept.alloc | apply Kept.drewN | apply Kept.drew) | exact HK.out)).1) hk)))); (case aO => exact (by (with_reducible repeat (first | apply Kd.R_alloc | apply Kd.R_drewN | apply Kd.R_drew)); exact HO_0.out)); (case aS => exact (below_size (by repeat (first | (with_reducible first | exact HB.out | apply below_alloc | apply pw_below_drewN | apply below_drew1) | exact HB.out)))); (case aL => have := LMc6.out; omega); intro v107 w7 ho hb hg hat; rw [← Ny106.out] at ho; have n0_ := Aside0.mk (hb); have n1_ := Aside0.mk (Kept.of_grown (S := (fun k_ => P0_ k_)) hg (by repeat (first | (with_reducible first | exact HK.out | apply Kept.alloc | apply Kept.drewN | apply Kept.drew) | exact HK.out)) (fun k_ e_ => (HO_0.out.1 k_ e_))); have n2_ := Aside0.mk (ho); clear HB; clear HK; clear HO_0; have HB := n0_; have HK := n1_; have HO108 := n2_; clear n0_ n1_ n2_; clear ho hb hg hat))
          go_ret
          exact ⟨_, by first | rfl | (simp [errW_none, errW_some] <;> rfl) | (simp [*, errW_none, errW_some] <;> rfl), by (with_reducible repeat (first | apply Kd.R_alloc | apply Kd.R_drewN | apply Kd.R_drew)); exact HO108.out, by repeat (first | (with_reducible first | exact HB.out | apply below_alloc | apply pw_below_drewN | apply below_drew1) | exact HB.out), by repeat (first | (with_reducible first | exact HK.out | apply Kept.alloc | apply Kept.drewN | apply Kept.drew) | exact HK.out)⟩
        · rw [if_neg c6] at H
          exact absurd H (by simp)

/-! ### num_Put: function 14 -/
theorem num_Add.longer (k : Nat) : ∀ (l : List Int) (a : Int) (r : List Int), num_Add.l0 k l a = some r → l.length < r.length := by
  induction k with
  | zero => intro l a r h; exact absurd h (by simp [num_Add.l0])
  | succ k ih =>
    intro l a r h
    simp only [num_Add.l0] at h
    split at h
    · split at h
      · have := ih _ _ _ h
        rw [List.length_append] at this
        simp at this
        omega
      · exact absurd h (by simp)
    · split at h
      · obtain rfl := Option.some.inj h
        simp
      · exact absurd h (by simp)
set_option maxHeartbeats 8000000 in
set_option maxRecDepth 100000 in
theorem num_Add.room (k : Nat) (g c : Nat) (a : Int) (r : List Int) (w0 w : World) (hB : Below w0.heap.size w0 w) (hg0 : w0.heap.size ≤ g) (hg : g < w.heap.size) (l0 : List Int) (hR : Tools.Room w g c l0) (h : num_Add.f k l0 a = some r) (hr : r.length ≤ c) :
    Calls Try.prog 16 #[.slice (some ⟨g, 0, none⟩) l0.length c, .int .u64 a] w fun e w' => e = .returned (.slice (some ⟨g, 0, none⟩) r.length c) ∧ Tools.Room w' g c r ∧ Below w0.heap.size w0 w' := by
  have H' := Aside0.mk (show num_Add.l0 k l0 a = some r from h)
  have HR := Aside0.mk hR
  have HB := Aside0.mk hB
  have HG := Aside0.mk hg
  obtain ⟨i0, hi, _, hz1, _⟩ := info_parts info5
  have HI := Aside0.mk hi
  have HZ := Aside0.mk hz1
  clear h hR hB hg hi hz1
  go_enter Try.func16, Try.ntmps16
  go_wp2
  go_loopg [0, 1] k (fun kq v0 v1 w' => ∃ (l : List Int) (a1 : Int), v0 = .slice (some ⟨g, 0, none⟩) l.length c ∧ v1 = .int .u64 a1 ∧ Aside0 (num_Add.l0 kq l a1 = some r) ∧ Aside0 (kq ≤ k) ∧ Aside0 (Tools.Room w' g c l) ∧ Aside0 (Below w0.heap.size w0 w') ∧ Aside0 (g < w'.heap.size))
  case atStart => exact ⟨l0, a, rfl, rfl, H', ⟨Nat.le_refl _⟩, HR, HB, HG⟩
  case round =>
    clear H' HR HB HG
    obtain ⟨l, a1, rfl, rfl, HA, HK1, HR, HB, HG⟩ := hrel
    cases gk with
    | zero => exact absurd HA.out (by simp [num_Add.l0])
    | succ k1 =>
      have H := HA.out
      have HL := Aside0.mk (Nat.lt_of_lt_of_le (num_Add.longer _ _ _ _ H) hr)
      clear HA
      simp only [num_Add.l0] at H
      by_cases c1 : a1 ≥ 128
      · rw [if_pos c1] at H
        by_cases c2 : l.length < 140737488355328
        · rw [if_pos c2] at H
          have H' := Aside0.mk H
          have c1b : decide (128 ≤ a1) = true := decide_eq_true c1
          have hlen : (l ++ [Go.bits .or .u8 (a1 % 256) 128]).length = l.length + 1 := by simp
          have HLEN := Aside0.mk hlen
          clear c1 H hlen c2
          go_wp2_with (at_builtin; refine Tools.append_run rfl (.tmp 7) (.tmp 11) 48 rfl _ _ _ rfl rfl (HR.out.append (P := Try.prog) HL.out HG.out (Go.bits .or .u8 (a1 % 256) 128) 48 48 5 Try.underlying48 HI.out HZ.out) ?_)
          go_roundg k1
          case measure => have := HK1.out; omega
          case rel => exact ⟨_, _, by rw [HLEN.out], rfl, H', ⟨by have := HK1.out; omega⟩, ⟨(HR.out.alloc HG.out _).push HL.out _⟩, ⟨below_set (below_alloc HB.out _) hg0⟩, ⟨by simp; have := HG.out; omega⟩⟩
        · rw [if_neg c2] at H
          exact absurd H (by simp)
      · rw [if_neg c1] at H
        by_cases c2 : l.length < 140737488355328
        · rw [if_pos c2] at H
          obtain rfl := Option.some.inj H
          have c1b : decide (128 ≤ a1) = false := decide_eq_false c1
          clear c1 H c2
          go_wp2_with (at_builtin; refine Tools.append_run rfl (.tmp 15) (.tmp 18) 48 rfl _ _ _ rfl rfl (HR.out.append (P := Try.prog) HL.out HG.out (a1 % 256) 48 48 5 Try.underlying48 HI.out HZ.out) ?_)
          go_ret
          refine ⟨by simp, (HR.out.alloc HG.out _).push HL.out _, below_set (below_alloc HB.out _) hg0⟩
        · rw [if_neg c2] at H
          exact absurd H (by simp)
def num_Put.f (k : Nat) (a0 : Int) : Option (ByteArray) := (num_Add.f k [] a0).bind fun l => if l.length ≤ 10 then some (strOfNums l) else none
theorem num_Put.mono : ∀ a0 k, LeO (num_Put.f k a0) (num_Put.f (k + 1) a0) := by
  intro a0 k
  unfold num_Put.f
  exact LeO.bind (num_Add.mono _ _ _) (fun _ => LeO.refl _)
theorem num_Put.begin_ (w : World) : Tools.Room (w.alloc (.cells #[.int .u8 0, .int .u8 0, .int .u8 0, .int .u8 0, .int .u8 0, .int .u8 0, .int .u8 0, .int .u8 0, .int .u8 0, .int .u8 0] 67)) w.heap.size 10 [] :=
  ⟨by decide, fun i hi => by rw [World.cell?_alloc_new]; rcases i with _ | _ | _ | _ | _ | _ | _ | _ | _ | _ | i <;> first | rfl | omega, fun i hi => World.frozen?_alloc_new _ _ _ _, fun i hi => absurd hi (by simp)⟩
set_option maxHeartbeats 8000000 in
set_option maxRecDepth 100000 in
theorem num_Put.calls (k : Nat) (a0 : Int) (r : ByteArray) (w : World) (h : num_Put.f k a0 = some r) :
    Calls Try.prog 14 #[.int .u64 a0] w fun e w' => e = .returned (.string r) ∧ Below w.heap.size w w' := by
  obtain ⟨l, hl, h⟩ := Option.bind_eq_some_iff.mp h
  by_cases c : l.length ≤ 10
  · rw [if_pos c] at h
    obtain rfl := Option.some.inj h
    have HC := Aside0.mk c
    clear h c
    go_enter Try.func14, Try.ntmps14
    go_wp2_with (go_at_call 16; refine (num_Add.room k w.heap.size 10 a0 l w _ (below_alloc (Below.refl _ _) _) (Nat.le_refl _) (by simp) [] (num_Put.begin_ w) hl HC.out).mono ?_; rintro e w1 ⟨rfl, hR, hb⟩; have kc := run_convert_bytes_arg (P := Try.prog) w1 48 5 Try.underlying48 Try.underlying5 w.heap.size 0 l.length 10 l rfl (fun i hi => by rw [Nat.zero_add]; exact hR.at_ i hi) 9 Try.underlying9; have HB := Aside0.mk hb; clear hb hR)
    go_ret
    exact ⟨rfl, HB.out⟩
  · rw [if_neg c] at h
    exact absurd h (by simp)


end Go.Proofs.Ytbeinlllhpcokaa.P
