import Derived.Test.YtnopihhconklnaaDoorEn10
import Derived.Deep.LoopGhost
import Derived.Sort.LoopGhostIn
/- Loops; calls by contracts. -/
namespace Go.En
open Go Go.RowKit
set_option linter.unusedSimpArgs false
set_option linter.unusedVariables false

def C.lt0 (n : Nat) : C → Bool
  | .own b _ _ _ => decide (b < n)
  | .ptr b _ _ _ => decide (b < n)
  | .mp b _ => decide (b < n)
  | _ => true
def C.lts (n : Nat) : List C → Bool
  | [] => true
  | c :: r => c.lt0 n && C.lts n r
def C.lt (n : Nat) : C → Bool
  | .fn _ caps => C.lts n caps
  | c => c.lt0 n
def ltL (n : Nat) : List C → Bool
  | [] => true
  | c :: r => c.lt n && ltL n r
def V.lt1 (n : Nat) : V → Bool
  | .c x => x.lt n
  | .agg cs => ltL n cs
  | .tup _ => true
def ltVs (n : Nat) : List V → Bool
  | [] => true
  | c :: r => c.lt1 n && ltVs n r
def V.lt (n : Nat) : V → Bool
  | .tup vs => ltVs n vs
  | v => v.lt1 n
theorem cr0_drop {s : Sit} {n : Nat} {c : C} {u : Value} (h : CR0 s c u) (hl : c.lt0 n = true) : CR0 (s.drop n) c u := by
  have ht : ∀ {α : Type} (l : List α) (b : Nat), b < n → (l.take n)[b]? = l[b]? := fun l b hb => by rw [List.getElem?_take, if_pos hb]
  cases c with
  | own b ver off m =>
    have hb : b < n := by simpa [C.lt0] using hl
    obtain ⟨h0, blk, rv, h1, h2, h3⟩ := h
    exact ⟨h0, blk, rv, by rw [Sit.drop, ht _ _ hb]; exact h1, by rw [Sit.drop, ht _ _ hb]; exact h2, h3⟩
  | ptr b ver i j =>
    have hb : b < n := by simpa [C.lt0] using hl
    obtain ⟨h0, blk, rv, h1, h2, h3⟩ := h
    exact ⟨h0, blk, rv, by rw [Sit.drop, ht _ _ hb]; exact h1, by rw [Sit.drop, ht _ _ hb]; exact h2, h3⟩
  | mp b ver =>
    have hb : b < n := by simpa [C.lt0] using hl
    obtain ⟨h0, blk, rv, h1, h2, h3⟩ := h
    exact ⟨h0, blk, rv, by rw [Sit.drop, ht _ _ hb]; exact h1, by rw [Sit.drop, ht _ _ hb]; exact h2, h3⟩
  | fn => exact h.elim
  | _ => exact h
theorem lts_mem {n : Nat} : ∀ (l : List C), C.lts n l = true → ∀ c ∈ l, c.lt0 n = true
  | [], _, c, hc => by cases hc
  | x :: r, h, c, hc => by
    simp only [C.lts, Bool.and_eq_true] at h
    rcases List.mem_cons.1 hc with rfl | hc
    · exact h.1
    · exact lts_mem r h.2 c hc
theorem ltL_mem {n : Nat} : ∀ (l : List C), ltL n l = true → ∀ c ∈ l, c.lt n = true
  | [], _, c, hc => by cases hc
  | x :: r, h, c, hc => by
    simp only [ltL, Bool.and_eq_true] at h
    rcases List.mem_cons.1 hc with rfl | hc
    · exact h.1
    · exact ltL_mem r h.2 c hc
theorem ltVs_mem {n : Nat} : ∀ (l : List V), ltVs n l = true → ∀ c ∈ l, c.lt1 n = true
  | [], _, c, hc => by cases hc
  | x :: r, h, c, hc => by
    simp only [ltVs, Bool.and_eq_true] at h
    rcases List.mem_cons.1 hc with rfl | hc
    · exact h.1
    · exact ltVs_mem r h.2 c hc
theorem R2.imp_mem {α β : Type} {R R' : α → β → Prop} {l : List α} {m : List β} (h : R2 R l m) (hr : ∀ c ∈ l, ∀ u, R c u → R' c u) : R2 R' l m := ⟨h.1, fun k c u h1 h2 => hr c (List.mem_of_getElem? h1) u (h.2 k c u h1 h2)⟩
theorem cr_drop {s : Sit} {n : Nat} {c : C} {u : Value} (h : CR s c u) (hl : c.lt n = true) : CR (s.drop n) c u := by
  cases c with
  | fn f caps =>
    obtain ⟨us, e, hr⟩ := h
    exact ⟨us, e, hr.imp_mem (fun c hc u hu => cr0_drop hu (lts_mem _ hl c hc))⟩
  | v x => exact cr0_drop (s := s) (n := n) (c := .v x) h hl
  | row es => exact cr0_drop (s := s) (n := n) (c := .row es) h hl
  | own b ver off m => exact cr0_drop (s := s) (n := n) (c := .own b ver off m) h hl
  | ptr b ver i j => exact cr0_drop (s := s) (n := n) (c := .ptr b ver i j) h hl
  | rptr e j => exact cr0_drop (s := s) (n := n) (c := .rptr e j) h hl
  | e0 => exact cr0_drop (s := s) (n := n) (c := .e0) h hl
  | yld l => exact cr0_drop (s := s) (n := n) (c := .yld l) h hl
  | mp b ver => exact cr0_drop (s := s) (n := n) (c := .mp b ver) h hl
theorem vr1_drop {s : Sit} {n : Nat} {v : V} {u : Value} (h : VR1 s v u) (hl : v.lt1 n = true) : VR1 (s.drop n) v u := by
  cases v with
  | c x => exact cr_drop h hl
  | agg cs =>
    obtain ⟨us, e, hr⟩ := h
    exact ⟨us, e, hr.imp_mem (fun c hc u hu => cr_drop hu (ltL_mem _ hl c hc))⟩
  | tup => exact h.elim
theorem vr_drop {s : Sit} {n : Nat} {v : V} {u : Value} (h : VR s v u) (hl : v.lt n = true) : VR (s.drop n) v u := by
  cases v with
  | c x => exact vr1_drop (s := s) (n := n) (v := .c x) h hl
  | agg cs => exact vr1_drop (s := s) (n := n) (v := .agg cs) h hl
  | tup vs =>
    obtain ⟨us, e, hr⟩ := h
    exact ⟨us, e, hr.imp_mem (fun c hc u hu => vr1_drop hu (ltVs_mem _ hl c hc))⟩
/-- a state that is as another one, but for what is no longer looked at. -/
structure Weak0 (tm : TM) (H : List Blk) (tm' : TM) (H' : List Blk) : Prop where
  tm : ∀ t v, lk t tm' = some v → lk t tm = some v
  H : ∃ G, H = H' ++ G
  oks : ∀ t v, lk t tm' = some v → v.lt H'.length = true
  okH : ∀ b ∈ H', ∀ e ∈ b.es, ∀ c ∈ e, c.lt H'.length = true
theorem Weak0.good {s : Sit} {N : Nat} {a : Act} {tm tm' : TM} {H H' : List Blk} (hw : Weak0 tm H tm' H') (hg : Good s N a tm) (hH : s.H = H) : Good (s.drop H'.length) N a tm' ∧ (s.drop H'.length).H = H' ∧ ∀ b : Base, b.Ok → b.At s a → b.n0 ≤ H'.length → b.At (s.drop H'.length) a := by
  obtain ⟨G, hG⟩ := hw.H
  have hHt : (s.drop H'.length).H = H' := by rw [Sit.drop, hH, hG]; exact List.take_left
  have htk : ∀ {α : Type} (l : List α) (b : Nat) (x : α), (l.take H'.length)[b]? = some x → l[b]? = some x := fun l b x hx => by
    rw [List.getElem?_take] at hx
    split at hx
    · exact hx
    · cases hx
  have hown : ∀ g, OwnG (s.drop H'.length).ρ g → OwnG s.ρ g := fun g ⟨b, rv, h1, h2⟩ => ⟨b, rv, htk _ _ _ h1, h2⟩
  have hsi : SI (s.drop H'.length) := by
    refine ⟨by simp [Sit.drop, hg.si.len], fun b blk rv h1 h2 => ?_, fun b b' rv rv' g hne h1 h2 => hg.si.ne b b' rv rv' g hne (htk _ _ _ h1) (htk _ _ _ h2), fun g h => hg.si.nf g (hown g h), hg.si.fs, hg.si.gl⟩
    have hb := hg.si.blk b blk rv (htk _ _ _ h1) (htk _ _ _ h2)
    rcases hb.att with ⟨_, h | ⟨xs, ho, hr⟩⟩ | h
    rotate_right
    · exact ⟨hb.uni, .inr h⟩
    · exact blk_row hb.uni (.inl h)
    · refine blk_row hb.uni (.inr ⟨xs, ho, hr.imp_mem (fun c hc u hu => cr_drop hu ?_)⟩)
      obtain ⟨e, he, hce⟩ := List.mem_flatten.1 hc
      rw [hHt] at h1
      exact hw.okH blk (List.mem_of_getElem? h1) e he c hce
  refine ⟨⟨hsi, hg.size, fun t v hv => ?_⟩, hHt, fun b hb hat hle => ⟨hb.drop s _ hat.1 hle hsi, hat.2.drop⟩⟩
  obtain ⟨h1, h2⟩ := hg.tm t v (hw.tm t v hv)
  exact ⟨h1, vr_drop h2 (hw.oks t v hv)⟩
/-- or with the very same blocks. -/
inductive Weak (tm : TM) (H : List Blk) (tm' : TM) (H' : List Blk) : Prop
  | drop : Weak0 tm H tm' H' → Weak tm H tm' H'
  | same : (∀ t v, lk t tm' = some v → lk t tm = some v) → H = H' → Weak tm H tm' H'
theorem Weak.good {s : Sit} {N : Nat} {a : Act} {tm tm' : TM} {H H' : List Blk} (hw : Weak tm H tm' H') (hg : Good s N a tm) (hH : s.H = H) : Good (s.drop H'.length) N a tm' ∧ (s.drop H'.length).H = H' ∧ ∀ b : Base, b.Ok → b.At s a → b.n0 ≤ H'.length → b.At (s.drop H'.length) a := by
  cases hw with
  | drop hw => exact hw.good hg hH
  | same h1 h2 =>
    subst h2
    have e : s.drop H.length = s := by
      have hl := hg.si.len
      obtain ⟨W, F, ρ, H'⟩ := s
      simp only at hH hl
      subst hH
      have e1 : ρ.take H'.length = ρ := List.take_of_length_le (by omega)
      simp only [Sit.drop, e1, List.take_length]
    rw [e]
    exact ⟨hg.sub h1, hH, fun _ _ he _ => he⟩
theorem shows_ret {P : Program} {N : Cx} {k : List K} {tm : TM} {H : List Blk} {Q : Exit → TM → List Blk → Prop} (h : Q .ret tm H) : Shows P N k .ret tm H Q := fun s0 s a h0 he hg hH => kx_ret k ⟨by simp, .inl ⟨s, tm, he, rfl, hg, hH ▸ h⟩⟩
theorem shows_exit {P : Program} {N : Cx} {id n : Nat} {k k' : List K} {tm : TM} {H : List Blk} {Q : Exit → TM → List Blk → Prop} (hk : exitK id k = some k') (h : run P N n k' tm H Q) : Shows P N k (.exit id) tm H Q := fun s0 s a h0 he hg hH => exitK_ok k k' hk (run_ok n _ _ _ _ h s0 s a h0 he hg hH)
/-- a loop: what is known of the state ahead of each round, with a number that each round lowers. -/
theorem loop_ok {P : Program} {N : Cx} {body : Code} {k : List K} {tm : TM} {H : List Blk} {Q : Exit → TM → List Blk → Prop} (n : Nat) (Inv : Nat → TM → List Blk → Prop) {m0 : Nat} {tm0 : TM} {H0 : List Blk} (hw : Weak tm H tm0 H0) (hle : H.length ≤ H0.length) (h0 : Inv m0 tm0 H0) (hlen : ∀ m tm1 H1, Inv m tm1 H1 → H.length ≤ H1.length)
    (hs : ∀ m tm1 H1 Q', Inv m tm1 H1 → (∀ m' tm2 H2 tm3 H3, m' < m → Inv m' tm2 H2 → Weak tm3 H3 tm2 H2 → Q' .normal tm3 H3) → (∀ ex tm2 H2, ex ≠ .normal → Shows P N k ex tm2 H2 Q → Q' ex tm2 H2) → run P N n [.code body] tm1 H1 Q') :
    Here P N (.code (.loop body) :: k) tm H Q := by
  intro s0 s a hs0 he hg hH
  simp only [kx]
  obtain ⟨hg0, hH0, hext0⟩ := hw.good hg hH
  have hbase : s0.n0 ≤ H.length := by rw [← hH]; exact hs0.1.le s he.1
  refine wpIn_loop_ghost (fun m a w => ∃ s1 tm1, s0.At s1 a ∧ s1.W = w ∧ Good s1 N.n a tm1 ∧ Inv m tm1 s1.H) m0 ⟨s.drop H0.length, tm0, hext0 s0 hs0.1 he (by omega), rfl, hg0, by rw [hH0]; exact h0⟩ ?_
  rintro m a1 w ⟨s1, tm1, he1, rfl, hg1, hI⟩
  let Q' : Exit → TM → List Blk → Prop := fun ex tm2 H2 => match ex with
    | .normal => ∃ m' tm3 H3, m' < m ∧ Inv m' tm3 H3 ∧ Weak tm2 H2 tm3 H3
    | ex => Shows P N k ex tm2 H2 Q
  have hrun := hs m tm1 s1.H Q' hI (fun m' tm2 H2 tm3 H3 h1 h2 h3 => ⟨m', tm2, H2, h1, h2, h3⟩) (fun ex tm2 H2 hne h => by cases ex <;> first | exact absurd rfl hne | exact h)
  have := run_ok n _ _ _ _ hrun s0 s1 a1 hs0 he1 hg1 rfl
  simp only [kx] at this
  refine wpIn_mono this ?_
  rintro ex a2 w2 hqq
  have hqq : QQ N s0 Q' ex a2 w2 := by cases ex <;> exact hqq
  obtain ⟨hnp, ⟨s2, tm2, he2, rfl, hg2, hq⟩ | ⟨rfl, hx⟩⟩ := hqq
  · cases ex with
    | normal =>
      obtain ⟨m', tm3, H3, h1, h2, h3⟩ := hq
      obtain ⟨g1, g2, g3⟩ := h3.good hg2 rfl
      have := hlen _ _ _ h2
      exact ⟨m', h1, s2.drop H3.length, tm3, g3 s0 hs0.1 he2 (by omega), rfl, g1, by rw [g2]; exact h2⟩
    | _ => exact hq s0 s2 a2 hs0 he2 hg2 rfl
  · exact kx_ret k ⟨by simp, .inr ⟨rfl, hx⟩⟩
/-- a contract of a function of pure data. -/
def PS (P : Program) (g : FuncId) (vs : List V) (r : V) : Prop := Call P false g vs [] fun r' H' => r' = r ∧ H' = []
def noOwnC : C → Bool
  | .v _ => true
  | .row _ => true
  | .e0 => true
  | .rptr _ _ => true
  | .fn _ [] => true
  | _ => false
def noOwnL : List C → Bool
  | [] => true
  | c :: r => noOwnC c && noOwnL r
def noOwn : V → Bool
  | .c x => noOwnC x
  | .agg cs => noOwnL cs
  | .tup _ => false
def noOwns : List V → Bool
  | [] => true
  | c :: r => noOwn c && noOwns r
def flatC : List C → Bool
  | [] => true
  | .v _ :: r => flatC r
  | _ => false
def flat1 : V → Bool
  | .c x => flatC [x]
  | .agg cs => flatC cs
  | .tup _ => false
def flats : List V → Bool
  | [] => true
  | v :: r => flat1 v && flats r
def flatV : V → Bool
  | .tup vs => flats vs
  | v => flat1 v
/-- the situation of a call to which nothing of one's own goes. -/
def Sit.bare (s : Sit) : Sit := ⟨s.W, s.F, [], []⟩
theorem bare_si {s : Sit} (hs : SI s) : SI s.bare := ⟨rfl, fun b blk rv h => by simp [Sit.bare] at h, fun b b' rv rv' g _ h => by simp [Sit.bare] at h, fun g ⟨b, rv, h, _⟩ => by simp [Sit.bare] at h, hs.fs, hs.gl⟩
theorem bare_c {s : Sit} {c : C} {u : Value} (h : CR s c u) (hn : noOwnC c = true) : CR s.bare (nrm c) u := by
  cases c with
  | v x => exact h
  | row es => exact h
  | e0 => exact nrm_ok (c := .e0) h rfl
  | rptr e j => exact h
  | fn f caps =>
    cases caps with
    | nil => obtain ⟨us, e, hr⟩ := h; have := hr.nil_left; subst this; exact ⟨[], e, R2.nil⟩
    | cons => simp [noOwnC] at hn
  | _ => simp [noOwnC] at hn
theorem bare_l {s : Sit} : ∀ (l : List C) (us : List Value), noOwnL l = true → R2 (CR s) l us → R2 (CR s.bare) (l.map nrm) us
  | [], us, _, hr => by have := hr.nil_left; subst this; exact R2.nil
  | c :: r, us, h, hr => by
    simp only [noOwnL, Bool.and_eq_true] at h
    obtain ⟨y, m, rfl, h1, h2⟩ := hr.uncons
    exact R2.cons (bare_c h1 h.1) (bare_l r m h.2 h2)
theorem bare_v {s : Sit} {v : V} {u : Value} (h : VR s v u) (hn : noOwn v = true) : VR s.bare (nrmV v) u := by
  cases v with
  | c x => exact bare_c h hn
  | agg cs => obtain ⟨us, e, hr⟩ := h; exact ⟨us, e, bare_l _ _ hn hr⟩
  | tup => simp [noOwn] at hn
theorem bare_vs {s : Sit} : ∀ (l : List V) (us : List Value), noOwns l = true → R2 (VR s) l us → R2 (VR s.bare) (nrmVs l) us
  | [], us, _, hr => by have := hr.nil_left; subst this; exact R2.nil
  | c :: r, us, h, hr => by
    simp only [noOwns, Bool.and_eq_true] at h
    obtain ⟨y, m, rfl, h1, h2⟩ := hr.uncons
    exact R2.cons (bare_v h1 h.1) (bare_vs r m h.2 h2)
theorem up_c0 {s1 : Sit} (h1 : s1.H = []) {ρ : List Value} {H : List Blk} {c : C} {u : Value} (h : CR0 s1 c u) : CR0 ⟨s1.W, s1.F, ρ, H⟩ c u := by
  cases c with
  | own b ver off n => obtain ⟨_, blk, rv, g, _⟩ := h; rw [h1] at g; simp at g
  | ptr b ver i j => obtain ⟨_, blk, rv, g, _⟩ := h; rw [h1] at g; simp at g
  | mp b ver => obtain ⟨_, blk, rv, g, _⟩ := h; rw [h1] at g; simp at g
  | fn => exact h.elim
  | _ => exact h
theorem up_c {s1 : Sit} (h1 : s1.H = []) {ρ : List Value} {H : List Blk} {c : C} {u : Value} (h : CR s1 c u) : CR ⟨s1.W, s1.F, ρ, H⟩ c u := by
  cases c with
  | fn f caps => obtain ⟨us, e, hr⟩ := h; exact ⟨us, e, hr.mono (fun _ _ => up_c0 h1)⟩
  | v x => exact h
  | row es => exact h
  | own b ver off n => exact up_c0 (c := .own b ver off n) h1 h
  | ptr b ver i j => exact up_c0 (c := .ptr b ver i j) h1 h
  | rptr e j => exact h
  | e0 => exact h
  | yld l => exact h
  | mp b ver => exact up_c0 (c := .mp b ver) h1 h
theorem up_v1 {s1 : Sit} (h1 : s1.H = []) {ρ : List Value} {H : List Blk} {v : V} {u : Value} (h : VR1 s1 v u) : VR1 ⟨s1.W, s1.F, ρ, H⟩ v u := by
  cases v with
  | c x => exact up_c h1 h
  | agg cs => obtain ⟨us, e, hr⟩ := h; exact ⟨us, e, hr.mono (fun _ _ => up_c h1)⟩
  | tup => exact h.elim
theorem up_v {s1 : Sit} (h1 : s1.H = []) {ρ : List Value} {H : List Blk} {v : V} {u : Value} (h : VR s1 v u) : VR ⟨s1.W, s1.F, ρ, H⟩ v u := by
  cases v with
  | c x => exact up_v1 (v := .c x) h1 h
  | agg cs => exact up_v1 (v := .agg cs) h1 h
  | tup vs => obtain ⟨us, e, hr⟩ := h; exact ⟨us, e, hr.mono (fun _ _ => up_v1 h1)⟩
theorem flat_c {s s' : Sit} : ∀ (l : List C) (us : List Value), flatC l = true → R2 (CR s) l us → R2 (CR s') l us
  | [], us, _, hr => by have := hr.nil_left; subst this; exact R2.nil
  | c :: r, us, h, hr => by
    obtain ⟨y, m, rfl, h1, h2⟩ := hr.uncons
    cases c with
    | v x => exact R2.cons h1 (flat_c r m h h2)
    | _ => simp [flatC] at h
theorem flat_v1 {s s' : Sit} {v : V} {u : Value} (h : VR1 s v u) (hf : flat1 v = true) : VR1 s' v u := by
  cases v with
  | c x =>
    have := flat_c (s' := s') [x] [u] hf (R2.cons h R2.nil)
    obtain ⟨y, m, e, h1, _⟩ := this.uncons
    cases e
    exact h1
  | agg cs => obtain ⟨us, e, hr⟩ := h; exact ⟨us, e, flat_c _ _ hf hr⟩
  | tup => exact h.elim
theorem flat_vs {s s' : Sit} : ∀ (l : List V) (us : List Value), flats l = true → R2 (VR1 s) l us → R2 (VR1 s') l us
  | [], us, _, hr => by have := hr.nil_left; subst this; exact R2.nil
  | c :: r, us, h, hr => by
    simp only [flats, Bool.and_eq_true] at h
    obtain ⟨y, m, rfl, h1, h2⟩ := hr.uncons
    exact R2.cons (flat_v1 h1 h.1) (flat_vs r m h.2 h2)
theorem flat_v {s s' : Sit} {v : V} {u : Value} (h : VR s v u) (hf : flatV v = true) : VR s' v u := by
  cases v with
  | c x => exact flat_v1 (s := s) (s' := s') (v := .c x) h hf
  | agg cs => exact flat_v1 (s := s) (s' := s') (v := .agg cs) h hf
  | tup vs => obtain ⟨us, e, hr⟩ := h; exact ⟨us, e, flat_vs _ _ hf hr⟩
/-- behind a call that had nothing of one's own. -/
theorem after_call {s s1' : Sit} (hs : SI s) {F1 F' : Nat → Prop} (h : Ext ⟨s.W, F1, [], []⟩ s1') (hF1 : ∀ k, F' k → s.F k ∨ s.W.heap.size ≤ k) (hF2 : ∀ k, s.F k → F' k) (hF3 : ∀ k, F' k → k < s1'.W.heap.size) : Ext s ⟨s1'.W, F', s.ρ, s.H⟩ := by
  have hno : ∀ k, ¬ OwnG ([] : List Value) k := fun k ⟨b, rv, h, _⟩ => by simp at h
  have hbl : ∀ k, k < s.W.heap.size → s1'.W.heap[k]? = s.W.heap[k]? := fun k hk => h.frame k hk (hno k)
  have e0 : Ext0 s ⟨s1'.W, F', s.ρ, s.H⟩ := ⟨h.os, h.tape, h.output, h.size, fun k hk _ => hbl k hk, hF2, fun k hk => (hF1 k hk).elim .inl (fun h => .inr (.inl h)), fun g hg => .inl hg, fun b blk rv h1 h2 => ⟨blk, rv, h1, h2, Nat.le_refl _, fun _ => ⟨rfl, rfl, rfl⟩⟩⟩
  refine ⟨e0, ⟨hs.len, fun b blk rv h1 h2 => (hs.blk b blk rv h1 h2).ext hs e0 (fun g hg => hbl g (OwnG.lt hs ⟨b, rv, h2, hg⟩)), hs.ne, fun g hg hf => ?_, hF3, hs.gl.mono (fun k hk => hbl k (hs.fs k hk)) hF2⟩⟩
  rcases hF1 g hf with h | h
  · exact hs.nf g hg h
  · have := OwnG.lt hs hg; omega
theorem after_grown {s s1' : Sit} {F1 : Nat → Prop} (h : Ext ⟨s.W, F1, [], []⟩ s1') : s.W.grownBy s1'.W none := ⟨h.os, h.tape, h.output, h.size, fun k hk _ => h.frame k hk (fun ⟨b, rv, h, _⟩ => by simp at h)⟩
theorem call_pure {P : Program} {qt : Bool} {g : FuncId} {vs : List V} {r : V} {H : List Blk} (hn : noOwns vs = true) (hc : PS P g (nrmVs vs) r) : Call P qt g vs H fun r' H' => r' = r ∧ H' = H := by
  refine ⟨hc.1, fun s args hs hH hr => (hc.2 s.bare args (bare_si hs) rfl (bare_vs _ _ hn hr)).mono ?_⟩
  rintro e w' ⟨s1, r', u, rfl, he, rfl, hv, ⟨rfl, hH'⟩, _⟩
  refine ⟨⟨s1.W, s1.F, s.ρ, s.H⟩, r', u, rfl, after_call hs he (fun k hk => ?_) he.F he.si.fs, rfl, up_v hH' hv, ⟨rfl, hH⟩, fun _ => after_grown (s := s) (s1' := s1) he⟩
  rcases he.F' k hk with h | h | ⟨b, rv, h, _⟩
  · exact .inl h
  · exact .inr h
  · simp [Sit.bare] at h
theorem frzs_vr {s : Sit} (hs : SI s) : ∀ (l l' : List V) (p : Prop) (us : List Value), frzs s.H l = some (p, l') → p → R2 (VR s) l us → R2 (VR s.all) l' us
  | [], l', p, us, h, hp, hr => by simp only [frzs] at h; cases h; have := hr.nil_left; subst this; exact R2.nil
  | c :: r, l', p, us, h, hp, hr => by
    simp only [frzs] at h
    split at h
    · rename_i p1 c' p2 r' h1 h2
      cases h
      obtain ⟨y, m, rfl, h3, h4⟩ := hr.uncons
      have h5 : VR1 s c y := h3.to1 (fun vs e => by subst e; simp [frz1] at h1)
      exact R2.cons (VR.of1 (frz1_ok hs h1 hp.1 h5)) (frzs_vr hs r r' _ m h2 hp.2 h4)
    · cases h
/-- a call to which rows of one's own are shown. -/
theorem call_shown {P : Program} {qt : Bool} {g : FuncId} {vs vs' : List V} {r : V} {H : List Blk} {p : Prop} (hz : frzs H vs = some (p, vs')) (hp : p) (hf : flatV r = true) (hc : PS P g vs' r) : Call P qt g vs H fun r' H' => r' = r ∧ H' = H := by
  refine ⟨hc.1, fun s args hs hH hr => ?_⟩
  subst hH
  refine (hc.2 s.all args (all_si hs) rfl (frzs_vr hs _ _ _ _ hz hp hr)).mono ?_
  rintro e w' ⟨s1, r', u, rfl, he, rfl, hv, ⟨rfl, hH'⟩, _⟩
  exact ⟨⟨s1.W, s.F, s.ρ, s.H⟩, r', u, rfl, after_call hs he (fun k hk => .inl hk) (fun _ h => h) (fun k hk => Nat.lt_of_lt_of_le (hs.fs k hk) he.size), rfl, flat_v hv hf, ⟨rfl, rfl⟩, fun _ => after_grown (s := s) (s1' := s1) he⟩
theorem Call.mono {P : Program} {qt : Bool} {g : FuncId} {vs : List V} {H : List Blk} {R R' : V → List Blk → Prop} (h : Call P qt g vs H R) (hr : ∀ r H', R r H' → R' r H') : Call P qt g vs H R' :=
  ⟨h.1, fun s args hs hH ha => (h.2 s args hs hH ha).mono (fun e w ⟨s', r, u, h1, h2, h3, h4, h5, h6⟩ => ⟨s', r, u, h1, h2, h3, h4, hr _ _ h5, h6⟩)⟩
/-- contracts that are found by themselves. -/
class PSi (P : Program) (g : FuncId) (vs : List V) (r : outParam V) : Prop where
  out : PS P g vs r
section
variable {P : Program} {N : Cx} {qt : Bool} {g : FuncId} {vs ws vs' : List V} {dst : Option Tmp} {k : List K} {tm : TM} {H : List Blk} {Q : Exit → TM → List Blk → Prop} {r : V} {p : Prop}
theorem callN (n : Nat) (hc : PS P g ws r) (h : run P N n k (put dst r tm) H Q) (hn : noOwns vs = true := by rfl) : CallK P N qt g vs ws dst k tm H Q := fun e => (call_pure hn (e ▸ hc)).mono (by rintro r' H' ⟨rfl, rfl⟩; exact run_ok n _ _ _ _ h)
theorem callI [i : PSi P g ws r] (n : Nat) (h : run P N n k (put dst r tm) H Q) (hn : noOwns vs = true := by rfl) : CallK P N qt g vs ws dst k tm H Q := callN n i.out h hn
theorem callS (n : Nat) (hz : frzs H vs = some (p, vs')) (hp : p) (hf : flatV r = true) (hc : PS P g vs' r) (h : run P N n k (put dst r tm) H Q) : CallK P N qt g vs ws dst k tm H Q := fun _ => (call_shown hz hp hf hc).mono (by rintro r' H' ⟨rfl, rfl⟩; exact run_ok n _ _ _ _ h)
theorem callR {R : V → List Blk → Prop} (n : Nat) (hc : Call P qt g vs H R) (h : ∀ r H', R r H' → run P N n k (put dst r tm) H' Q) : CallK P N qt g vs ws dst k tm H Q := fun _ => hc.mono (fun r' H' hr => run_ok n _ _ _ _ (h r' H' hr))
theorem idx {es : List (List C)} {i : Int} {sz : Nat} {e : List C} (n : Nat) (h1 : es[i.toNat]? = some e) (h0 : 0 ≤ i) (h2 : e.length = sz) (h : run P N n k (put dst (.c (.rptr e 0)) tm) H Q) : IdxK P N es i sz dst k tm H Q := ⟨e, h1, h0, h2, run_ok n _ _ _ _ h⟩
/-- the same, of a row that tells a list of data. -/
theorem idx_map {α : Type} {f : α → List C} {xs : List α} {i : Int} {sz : Nat} {x : α} (n : Nat) (h1 : xs[i.toNat]? = some x) (h0 : 0 ≤ i) (h2 : (f x).length = sz) (h : run P N n k (put dst (.c (.rptr (f x) 0)) tm) H Q) : IdxK P N (xs.map f) i sz dst k tm H Q := idx n (by rw [List.getElem?_map, h1]; rfl) h0 h2 h
end
end Go.En
