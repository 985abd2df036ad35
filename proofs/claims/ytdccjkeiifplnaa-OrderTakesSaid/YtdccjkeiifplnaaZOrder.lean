/- Seats, and events that fit them: what the printed functions of package order come to. -/
import Derived.Test.YtdccjkeiifplnaaZPx1014
import Derived.Test.YtdccjkeiifplnaaZPx1007
import Derived.Test.YtdccjkeiifplnaaZPx1017
import Derived.Test.YtdccjkeiifplnaaZPx1026
import Derived.Test.YtdccjkeiifplnaaZPx1016
import Derived.Test.YtdccjkeiifplnaaZPx1011
import Derived.Test.YtdccjkeiifplnaaZWf
set_option linter.unusedVariables false
set_option linter.unusedSimpArgs false
namespace Go.Proofs.Ytdccjkeiifplnaa.Pure
open Go.RowKit Go.Proofs.Ytdccjkeiifplnaa.P Go.Proofs.YtdccjkeiifplnaaW.PrintWords Go.Proofs.YtdccjkeiifplnaaW.PrintLast Go.Proofs.YtdccjkeiifplnaaW.PrintMore
abbrev Seat := S38
abbrev Event := S33
theorem wrap_up (i : Nat) (h : i < 9223372036854775807) : wrap64 ((i : Int) + 1) = ((i + 1 : Nat) : Int) := by unfold wrap64; omega
theorem rdS_nat (l : List Seat) (i : Nat) (h : i < l.length) : rd_T38 l (i : Int) = l[i] := by
  unfold rd_T38
  rw [List.getD_eq_getElem?_getD, Int.toNat_natCast, List.getElem?_eq_getElem h]
  rfl
theorem addr_tot (k : Nat) (a : Bool) (hi lo len : Int) : ∃ v, addr_Check.f (k + 1) a hi lo len = some v := by
  unfold addr_Check.f addr_Wide.f addr_Right.f
  by_cases c : len < 0
  · rw [if_pos c]; exact ⟨2, rfl⟩
  · rw [if_neg c]
    have key : ∀ (b : Bool) (t : Int), 0 ≤ t → t ≤ 128 → len ≤ t → (if a = true then (some (128 : Int)) else some 32) = some t → ∃ v, addr_Check.j0 (k + 1) b a hi lo len = some v := by
      intro b t t0 t1 t2 ht
      simp only [addr_Check.j0]
      cases b with
      | true => exact ⟨2, rfl⟩
      | false =>
        rw [if_neg (by decide)]
        unfold addr_host.f addr_Wide.f
        rw [ht]
        simp only [Option.bind_some]
        have hw : wrap64 (t - len) = t - len := by unfold wrap64; omega
        rw [hw]
        unfold addr_below.f
        by_cases c1 : t - len ≥ 128
        · rw [if_pos c1]; simp only [Option.bind_some]; split <;> exact ⟨_, rfl⟩
        · rw [if_neg c1]
          by_cases c2 : t - len ≥ 64
          · have : wrap64 (t - len - 64) = t - len - 64 := by unfold wrap64; omega
            rw [if_pos c2, this, if_pos (by omega)]; simp only [Option.bind_some]; split <;> exact ⟨_, rfl⟩
          · rw [if_neg c2, if_pos (by omega)]; simp only [Option.bind_some]; split <;> exact ⟨_, rfl⟩
    cases a with
    | true =>
      simp only [if_true, Option.bind_some]
      by_cases c1 : len > 128
      · rw [if_pos c1]; exact ⟨2, rfl⟩
      · rw [if_neg c1]; exact key _ 128 (by omega) (by omega) (by omega) rfl
    | false =>
      simp only [Bool.false_eq_true, if_false, Option.bind_some]
      by_cases c1 : len > 32
      · rw [if_pos c1]; exact ⟨2, rfl⟩
      · rw [if_neg c1]
        split <;> (simp only [Option.bind_some]; exact key _ 32 (by omega) (by omega) (by omega) rfl)
theorem id_tot (a : Int) : msg_id.f a = some (decide (0 ≤ a ∧ a ≤ 1048576)) := by
  unfold msg_id.f
  by_cases c : a ≥ 0
  · rw [if_pos c]
    congr 1
    by_cases d : a ≤ 1048576 <;> simp [d, c]
  · rw [if_neg c]
    have : ¬ (0 ≤ a ∧ a ≤ 1048576) := by omega
    simp [this]
theorem iface_tot (a : Int) : ∃ b, msg_iface.f a = some b := by unfold msg_iface.f; split <;> exact ⟨_, rfl⟩
theorem acts_tot (a b : Int) : ∃ c, msg_acts.f a b = some c := by
  unfold msg_acts.f
  obtain ⟨c, h⟩ := iface_tot b
  rw [h]
  simp only [Option.bind_some]
  split
  · exact ⟨_, rfl⟩
  · split
    · exact ⟨_, rfl⟩
    · split <;> exact ⟨_, rfl⟩
theorem msg_j1_tot (k : Nat) (x4 : Bool) (x36 : Int) (x37 : Bool) (a0 a1 a2 a3 : Int) (a4 : Bool) (a5 a6 a7 a8 a9 a10 a11 b0 b1 b2 b3 : Int) (b4 : Bool) (b5 b6 b7 b8 b9 b10 b11 : Int) : ∃ v, msg_Check.j1 (k + 2) x4 x36 x37 a0 a1 a2 a3 a4 a5 a6 a7 a8 a9 a10 a11 b0 b1 b2 b3 b4 b5 b6 b7 b8 b9 b10 b11 = some v := by
  obtain ⟨c1, h1⟩ := acts_tot a8 a9
  obtain ⟨c2, h2⟩ := addr_tot k a4 a5 a6 a7
  obtain ⟨c3, h3⟩ := iface_tot a10
  have h4 := id_tot a11
  simp only [msg_Check.j1]
  rw [h1, h2, h3, h4]
  simp only [Option.bind_some]
  repeat' split
  all_goals exact ⟨_, rfl⟩
def okEv (a1 a2 a3 : Int) : Prop := 0 ≤ a1 ∧ a1 ≤ 1048576 ∧ ¬ a2 = 0 ∧ a2 ≤ 1099511627776 ∧ 0 ≤ a3 ∧ a3 ≤ 1099511627776
theorem msg_tot (a0 a1 a2 a3 : Int) (a4 : Bool) (a5 a6 a7 a8 a9 a10 a11 : Int) : ∃ v, msg_Check.f 4 a0 a1 a2 a3 a4 a5 a6 a7 a8 a9 a10 a11 = some v ∧ (v = 0 → okEv a1 a2 a3) := by
  have j0t : ∀ k, msg_Check.j0 (k + 1) true a0 a1 a2 a3 a4 a5 a6 a7 a8 a9 a10 a11 = some 2 := fun k => by simp only [msg_Check.j0]; rw [if_pos trivial]
  unfold msg_Check.f
  rw [id_tot]
  simp only [Option.bind_some]
  by_cases c1 : 0 ≤ a1 ∧ a1 ≤ 1048576
  · rw [decide_eq_true c1, if_pos rfl]
    by_cases c2 : a2 = 0
    · rw [if_pos c2, j0t]; exact ⟨2, rfl, by omega⟩
    · rw [if_neg c2]
      by_cases c3 : a2 > 1099511627776
      · rw [if_pos c3, j0t]; exact ⟨2, rfl, by omega⟩
      · rw [if_neg c3]
        by_cases c4 : a3 < 0
        · rw [if_pos c4, j0t]; exact ⟨2, rfl, by omega⟩
        · rw [if_neg c4]
          by_cases c5 : a3 > 1099511627776
          · rw [decide_eq_true c5, j0t]; exact ⟨2, rfl, by omega⟩
          · rw [decide_eq_false c5]
            simp only [msg_Check.j0]
            rw [if_neg (by decide)]
            have ok : okEv a1 a2 a3 := by unfold okEv; omega
            split
            · obtain ⟨v, h⟩ := msg_j1_tot 1 true a0 (a0 == 1) a0 a1 a2 a3 a4 a5 a6 a7 a8 a9 a10 a11 0 0 0 0 a4 a5 a6 a7 a8 a9 a10 a11
              exact ⟨v, h, fun _ => ok⟩
            · obtain ⟨v, h⟩ := msg_j1_tot 1 true a0 (a0 == 2) a0 a1 a2 a3 a4 a5 a6 a7 a8 a9 a10 a11 0 0 0 0 a4 a5 a6 a7 a8 a9 a10 a11
              exact ⟨v, h, fun _ => ok⟩
  · rw [decide_eq_false c1, if_neg (by decide), j0t]
    exact ⟨2, rfl, by omega⟩
noncomputable def msgC (e : Event) : Int := Classical.choose (msg_tot e.f0 e.f1 e.f2 e.f3 e.f4.f0 e.f4.f1.f0 e.f4.f1.f1 e.f4.f2 e.f5.f0 e.f5.f1 e.f6 e.f7)
theorem msgC_ev (e : Event) : Ev (fun k => msg_Check.f k e.f0 e.f1 e.f2 e.f3 e.f4.f0 e.f4.f1.f0 e.f4.f1.f1 e.f4.f2 e.f5.f0 e.f5.f1 e.f6 e.f7) (msgC e) := Ev.of (msg_Check.mono _ _ _ _ _ _ _ _ _ _ _ _) (Classical.choose_spec (msg_tot e.f0 e.f1 e.f2 e.f3 e.f4.f0 e.f4.f1.f0 e.f4.f1.f1 e.f4.f2 e.f5.f0 e.f5.f1 e.f6 e.f7)).1
def rightP (s : Seat) : Prop := 0 ≤ s.f0 ∧ s.f0 ≤ 1048576 ∧ 1 ≤ s.f1 ∧ s.f1 ≤ 1099511627776 ∧ 0 ≤ s.f2 ∧ s.f2 ≤ 1099511627776
instance (s : Seat) : Decidable (rightP s) := inferInstanceAs (Decidable (_ ∧ _))
theorem right_f (s : Seat) : order_right.f s.f0 s.f1 s.f2 s.f3 = some (decide (rightP s)) := by
  unfold order_right.f
  by_cases h : rightP s
  · rw [decide_eq_true h]
    obtain ⟨h1, h2, h3, h4, h5, h6⟩ := h
    rw [if_pos h1, if_pos h2, if_pos h3, if_pos h4, if_pos h5, decide_eq_true h6]
  · rw [decide_eq_false h]
    unfold rightP at h
    by_cases h1 : s.f0 ≥ 0
    · rw [if_pos h1]
      by_cases h2 : s.f0 ≤ 1048576
      · rw [if_pos h2]
        by_cases h3 : s.f1 ≥ 1
        · rw [if_pos h3]
          by_cases h4 : s.f1 ≤ 1099511627776
          · rw [if_pos h4]
            by_cases h5 : s.f2 ≥ 0
            · rw [if_pos h5, decide_eq_false (by omega)]
            · rw [if_neg h5]
          · rw [if_neg h4]
        · rw [if_neg h3]
      · rw [if_neg h2]
    · rw [if_neg h1]
def goodFrom (a : Int) : List Seat → Bool
  | [] => true
  | s :: l => decide (rightP s) && (decide (a < s.f0) && goodFrom s.f0 l)
def checkS (l : List Seat) : Int := if l.length > 64 then 2 else if goodFrom (-1) l = true then 0 else 2
theorem Check_l0 (l : List Seat) (hl : l.length ≤ 64) (d : Nat) : ∀ (i : Nat) (a : Int), i + d = l.length → Ev (fun k => order_Check.l0 k a l (l.length : Int) i) (if goodFrom a (l.drop i) = true then 0 else 2) := by
  induction d with
  | zero =>
    intro i a hi
    refine Ev.step (fun k => ?_) (Ev.now _)
    simp only [order_Check.l0]
    rw [if_neg (by omega), List.drop_eq_nil_of_le (by omega)]
    rfl
  | succ d ih =>
    intro i a hi
    have hlt : i < l.length := by omega
    have ed : l.drop i = l[i] :: l.drop (i + 1) := List.drop_eq_getElem_cons hlt
    have e0 : goodFrom a (l.drop i) = (decide (rightP l[i]) && (decide (a < l[i].f0) && goodFrom l[i].f0 (l.drop (i + 1)))) := by rw [ed]; rfl
    rw [e0]
    have hstep : ∀ k, order_Check.l0 (k + 1) a l (l.length : Int) i = if decide (rightP l[i]) = true then (if l[i].f0 ≤ a then some 2 else order_Check.l0 k l[i].f0 l (l.length : Int) ((i + 1 : Nat) : Int)) else some 2 := fun k => by
      simp only [order_Check.l0]
      rw [if_pos (by omega), if_pos (by omega), if_pos (by omega), rdS_nat _ i hlt, right_f, wrap_up i (by omega)]
      rfl
    refine Ev.step hstep ?_
    by_cases c1 : rightP l[i]
    · rw [decide_eq_true c1, Bool.true_and]
      simp only [if_true]
      by_cases c2 : l[i].f0 ≤ a
      · simp only [if_pos c2]
        rw [decide_eq_false (by omega), Bool.false_and]
        exact Ev.now _
      · simp only [if_neg c2]
        rw [decide_eq_true (by omega), Bool.true_and]
        exact ih (i + 1) _ (by omega)
    · rw [decide_eq_false c1, Bool.false_and]
      simp only [Bool.false_eq_true, if_false]
      exact Ev.now _
theorem Check_ev (l : List Seat) : Ev (fun k => order_Check.f k l) (checkS l) := by
  unfold order_Check.f checkS
  by_cases c : l.length > 64
  · have c' : (l.length : Int) > 64 := by omega
    simp only [if_pos c, if_pos c']
    exact Ev.now _
  · have c' : ¬ (l.length : Int) > 64 := by omega
    simp only [if_neg c, if_neg c']
    have := Check_l0 l (by omega) l.length 0 (-1) (by omega)
    rw [List.drop_zero] at this
    exact this
def sorted (l : List Seat) : Prop := l.Pairwise fun s t => s.f0 < t.f0
theorem goodFrom_iff (l : List Seat) : ∀ a, goodFrom a l = true ↔ (∀ s ∈ l, rightP s ∧ a < s.f0) ∧ sorted l := by
  induction l with
  | nil => intro a; exact ⟨fun _ => ⟨by simp, List.Pairwise.nil⟩, fun _ => rfl⟩
  | cons s l ih =>
    intro a
    unfold goodFrom sorted
    rw [Bool.and_eq_true, Bool.and_eq_true, decide_eq_true_iff, decide_eq_true_iff, ih, List.pairwise_cons]
    constructor
    · rintro ⟨h1, h2, h3, h4⟩
      refine ⟨fun t ht => ?_, fun t ht => (h3 t ht).2, h4⟩
      rcases List.mem_cons.mp ht with rfl | ht
      · exact ⟨h1, h2⟩
      · exact ⟨(h3 t ht).1, by have := (h3 t ht).2; omega⟩
    · rintro ⟨h1, h2, h3⟩
      exact ⟨(h1 s (by simp)).1, (h1 s (by simp)).2, fun t ht => ⟨(h1 t (List.mem_cons_of_mem _ ht)).1, h2 t ht⟩, h3⟩
theorem checkS_iff (l : List Seat) : checkS l = 0 ↔ l.length ≤ 64 ∧ (∀ s ∈ l, rightP s) ∧ sorted l := by
  unfold checkS
  by_cases c : l.length > 64
  · rw [if_pos c]; constructor
    · intro h; exact absurd h (by decide)
    · rintro ⟨h, _⟩; omega
  · rw [if_neg c]
    by_cases g : goodFrom (-1) l = true
    · rw [if_pos g]
      have := (goodFrom_iff l (-1)).mp g
      exact ⟨fun _ => ⟨by omega, fun s hs => (this.1 s hs).1, this.2⟩, fun _ => rfl⟩
    · rw [if_neg g]
      constructor
      · intro h; exact absurd h (by decide)
      · rintro ⟨_, h1, h2⟩
        exact absurd ((goodFrom_iff l (-1)).mpr ⟨fun s hs => ⟨h1 s hs, by have := (h1 s hs).1; omega⟩, h2⟩) g
def askedF (l : List Seat) (c h : Int) : Int := if checkS l = 0 ∧ c = 0 then (if h < -1 ∨ h > 1099511627776 then 1 else 0) else 2
theorem asked_ev (l : List Seat) (e : Event) (h : Int) : Ev (fun k => order_asked.f k l e.f0 e.f1 e.f2 e.f3 e.f4.f0 e.f4.f1.f0 e.f4.f1.f1 e.f4.f2 e.f5.f0 e.f5.f1 e.f6 e.f7 h) (askedF l (msgC e) h) := by
  unfold order_asked.f askedF
  have j1 : Ev (fun k => order_asked.j0 k h true) 2 := Ev.step (fun k => by simp only [order_asked.j0]; rw [if_pos trivial]) (Ev.now _)
  have j0 : Ev (fun k => order_asked.j0 k h false) (if h < -1 ∨ h > 1099511627776 then 1 else 0) := by
    refine Ev.step (fun k => ?_) (Ev.now _)
    simp only [order_asked.j0]
    rw [if_neg (by decide)]
    by_cases c1 : h < -1
    · rw [if_pos c1, if_pos (.inl c1)]
    · rw [if_neg c1]
      by_cases c2 : h > 1099511627776
      · rw [if_pos c2, if_pos (.inr c2)]
      · rw [if_neg c2, if_neg (by omega)]
  refine Ev.bind (Check_ev l) ?_
  by_cases c1 : checkS l = 0
  · simp only [if_pos c1]
    refine Ev.bind (msgC_ev e) ?_
    by_cases c2 : msgC e = 0
    · rw [if_pos ⟨c1, c2⟩]
      have : (msgC e != 0) = false := bne_eq_false_iff_eq.mpr c2
      rw [this]; exact j0
    · rw [if_neg (fun z => c2 z.2)]
      have : (msgC e != 0) = true := bne_iff_ne.mpr c2
      rw [this]; exact j1
  · simp only [if_neg c1]
    rw [if_neg (fun z => c1 z.1)]
    exact j1
def findS (l : List Seat) (r : Int) : Option Seat := l.find? fun s => s.f0 == r
def fitsF (l : List Seat) (e : Event) (h : Int) : Int :=
  match findS l e.f1 with
  | some s => if IntKind.u64.wrap (e.f2 - 1) = s.f1 then (if e.f3 < s.f2 ∨ e.f3 ≤ h then 13 else if (e.f0 == 1) = s.f3 then 10 else 0) else 12
  | none => if e.f0 = 1 then (if IntKind.u64.wrap (e.f2 - 1) = 0 then (if e.f3 < 0 ∨ e.f3 ≤ h then 13 else if l.length ≥ 64 then 8 else 0) else 12) else 14
theorem Find_f (l : List Seat) (r : Int) (hl : l.length ≤ 9223372036854775806) : order_Find.f l r = some (order_Find.r (findS l r)) := by unfold order_Find.f; rw [if_pos hl]; rfl
theorem fits_ev (l : List Seat) (e : Event) (h : Int) (hl : l.length ≤ 9223372036854775806) : Ev (fun k => order_fits.f k l e.f0 e.f1 e.f2 e.f3 e.f4.f0 e.f4.f1.f0 e.f4.f1.f1 e.f4.f2 e.f5.f0 e.f5.f1 e.f6 e.f7 h) (fitsF l e h) := by
  unfold order_fits.f fitsF
  rw [Find_f l _ hl]
  simp only [Option.bind_some]
  have j1t : ∀ (x8 x9 : Bool) (s0 s1 s2 : Int) (s3 : Bool), Ev (fun k => order_fits.j1 k l x8 x9 true s0 s1 s2 s3) 13 := fun _ _ _ _ _ _ => Ev.step (fun k => by simp only [order_fits.j1]; rw [if_pos trivial]) (Ev.now _)
  cases hf : findS l e.f1 with
  | some s =>
    simp only [order_Find.r, if_true]
    by_cases c1 : IntKind.u64.wrap (e.f2 - 1) = s.f1
    · rw [if_pos c1]
      by_cases c2 : e.f3 < s.f2
      · rw [if_pos (.inl c2)]
        refine Ev.step (fun k => ?_) (j1t true (e.f0 == 1) s.f0 s.f1 s.f2 s.f3)
        simp only [order_fits.j0]
        rw [if_neg (by decide), if_pos c1, if_pos c2]
      · by_cases c3 : e.f3 ≤ h
        · rw [if_pos (.inr c3)]
          refine Ev.step (fun k => ?_) (j1t true (e.f0 == 1) s.f0 s.f1 s.f2 s.f3)
          simp only [order_fits.j0]
          rw [if_neg (by decide), if_pos c1, if_neg c2, decide_eq_true c3]
        · rw [if_neg (by omega)]
          refine Ev.step (f := fun k => order_fits.j1 k l true (e.f0 == 1) false s.f0 s.f1 s.f2 s.f3) (fun k => ?_) (Ev.step (fun k => ?_) (Ev.now _))
          · simp only [order_fits.j0]
            rw [if_neg (by decide), if_pos c1, if_neg c2, decide_eq_false c3]
          · simp only [order_fits.j1]
            rw [if_neg (by decide)]
            by_cases c4 : (e.f0 == 1) = s.f3
            · rw [if_pos c4, if_pos (beq_iff_eq.mpr c4)]
            · rw [if_neg c4, if_neg (fun z => c4 (beq_iff_eq.mp z)), if_pos trivial]
    · rw [if_neg c1]
      refine Ev.step (fun k => ?_) (Ev.now _)
      simp only [order_fits.j0]
      rw [if_neg (by decide), if_neg c1]
  | none =>
    simp only [order_Find.r, Bool.false_eq_true, if_false]
    by_cases c0 : e.f0 = 1
    · rw [if_pos c0, beq_iff_eq.mpr c0]
      by_cases c1 : IntKind.u64.wrap (e.f2 - 1) = 0
      · rw [if_pos c1]
        by_cases c2 : e.f3 < 0
        · rw [if_pos (.inl c2)]
          refine Ev.step (fun k => ?_) (j1t false true 0 0 0 false)
          simp only [order_fits.j0]
          rw [if_neg (by decide), if_pos c1, if_pos c2]
        · by_cases c3 : e.f3 ≤ h
          · rw [if_pos (.inr c3)]
            refine Ev.step (fun k => ?_) (j1t false true 0 0 0 false)
            simp only [order_fits.j0]
            rw [if_neg (by decide), if_pos c1, if_neg c2, decide_eq_true c3]
          · rw [if_neg (by omega)]
            refine Ev.step (f := fun k => order_fits.j1 k l false true false 0 0 0 false) (fun k => ?_) (Ev.step (fun k => ?_) (Ev.now _))
            · simp only [order_fits.j0]
              rw [if_neg (by decide), if_pos c1, if_neg c2, decide_eq_false c3]
            · simp only [order_fits.j1]
              rw [if_neg (by decide), if_neg (by decide), if_neg (by decide)]
              by_cases c4 : l.length ≥ 64
              · rw [if_pos c4, if_pos (by omega)]
              · rw [if_neg c4, if_neg (by omega)]
      · rw [if_neg c1]
        refine Ev.step (fun k => ?_) (Ev.now _)
        simp only [order_fits.j0]
        rw [if_neg (by decide), if_neg c1]
    · rw [if_neg c0, beq_eq_false_iff_ne.mpr c0]
      refine Ev.step (fun k => ?_) (Ev.now _)
      simp only [order_fits.j0]
      rw [if_pos (by decide)]
def mayF (l : List Seat) (e : Event) (c h : Int) : Int := if askedF l c h = 0 then fitsF l e h else askedF l c h
theorem asked_len {l : List Seat} {c h : Int} (ha : askedF l c h = 0) : l.length ≤ 64 ∧ checkS l = 0 ∧ c = 0 := by
  unfold askedF at ha
  split at ha
  · rename_i q
    exact ⟨((checkS_iff l).mp q.1).1, q.1, q.2⟩
  · exact absurd ha (by decide)
theorem May_ev (l : List Seat) (e : Event) (h : Int) : Ev (fun k => order_May.f k l e.f0 e.f1 e.f2 e.f3 e.f4.f0 e.f4.f1.f0 e.f4.f1.f1 e.f4.f2 e.f5.f0 e.f5.f1 e.f6 e.f7 h) (mayF l e (msgC e) h) := by
  unfold order_May.f mayF
  refine Ev.bind (asked_ev l e h) ?_
  by_cases c : askedF l (msgC e) h = 0
  · simp only [if_pos c]
    have := (asked_len c).1
    exact Ev.bind (fits_ev l e h (by omega)) (Ev.now _)
  · simp only [if_neg c]
    exact Ev.now _
def seatOf (e : Event) : Seat := order_take.x e.f0 e.f1 e.f2 e.f3
def nextF (l : List Seat) (e : Event) (c h : Int) : List Seat × Int := if askedF l c h = 0 then (if fitsF l e h = 0 then (takeF l (seatOf e), 0) else (l, fitsF l e h)) else ([], askedF l c h)
theorem take_f (l : List Seat) (e : Event) (hl : l.length ≤ 64) : order_take.f l e.f0 e.f1 e.f2 e.f3 e.f4.f0 e.f4.f1.f0 e.f4.f1.f1 e.f4.f2 e.f5.f0 e.f5.f1 e.f6 e.f7 = some (takeF l (seatOf e)) := by unfold order_take.f; rw [if_pos (by omega)]; rfl
theorem Next_ev (l : List Seat) (e : Event) (h : Int) : Ev (fun k => order_Next.f k l e.f0 e.f1 e.f2 e.f3 e.f4.f0 e.f4.f1.f0 e.f4.f1.f1 e.f4.f2 e.f5.f0 e.f5.f1 e.f6 e.f7 h) (nextF l e (msgC e) h) := by
  unfold order_Next.f nextF
  refine Ev.bind (asked_ev l e h) ?_
  by_cases c : askedF l (msgC e) h = 0
  · simp only [if_pos c]
    have hl := (asked_len c).1
    have hc : api_Seat_19.f l = some l := by unfold api_Seat_19.f; rw [if_pos (by omega)]
    rw [hc]
    simp only [Option.bind_some]
    refine Ev.bind (fits_ev l e h (by omega)) ?_
    by_cases d : fitsF l e h = 0
    · simp only [if_pos d]
      rw [take_f l e hl, d]
      simp only [Option.bind_some]
      exact Ev.now _
    · simp only [if_neg d]
      exact Ev.now _
  · simp only [if_neg c]
    exact Ev.now _
theorem lives_ev : Ev (fun k => spoorlaw14_lives.f k) true := Ev.of spoorlaw14_lives.mono (k := 200) (by kernel_rfl)
end Go.Proofs.Ytdccjkeiifplnaa.Pure
