import Derived.Test.YtnopihhconklnaaDoorEn12
/- Calls that get pointers, or rows to write: some of the blocks go, and come back. -/
namespace Go.En
open Go Go.RowKit
set_option linter.unusedSimpArgs false
set_option linter.unusedVariables false

/-- the blocks that go: their places, and from where on their turns are counted. -/
abbrev Fo := List (Nat × Nat)
def foN (fs : Fo) (n0 i : Nat) : Nat := match fs[i]? with
  | some x => x.1
  | none => n0 + (i - fs.length)
def foD (fs : Fo) (i : Nat) : Nat := match fs[i]? with
  | some x => x.2
  | none => 0
def rn0 (fs : Fo) (n0 : Nat) : C → C
  | .own b v o n => .own (foN fs n0 b) (v + foD fs b) o n
  | .ptr b v i j => .ptr (foN fs n0 b) (v + foD fs b) i j
  | .mp b v => .mp (foN fs n0 b) (v + foD fs b)
  | c => c
def rnC (fs : Fo) (n0 : Nat) : C → C
  | .fn f caps => .fn f (caps.map (rn0 fs n0))
  | c => rn0 fs n0 c
def rnV1 (fs : Fo) (n0 : Nat) : V → V
  | .c x => .c (rnC fs n0 x)
  | .agg cs => .agg (cs.map (rnC fs n0))
  | .tup vs => .tup vs
def rnV (fs : Fo) (n0 : Nat) : V → V
  | .tup vs => .tup (vs.map (rnV1 fs n0))
  | v => rnV1 fs n0 v
def rnE (fs : Fo) (n0 : Nat) (es : List (List C)) : List (List C) := es.map fun e => e.map (rnC fs n0)
def rnB (fs : Fo) (n0 i : Nat) (b : Blk) : Blk := ⟨b.t, b.sz, b.ver + foD fs i, rnE fs n0 b.es⟩
def rnBs (fs : Fo) (n0 : Nat) : Nat → List Blk → List Blk
  | _, [] => []
  | i, b :: r => rnB fs n0 i b :: rnBs fs n0 (i + 1) r
def setA {α : Type} : List α → Fo → List α → List α
  | H, (b, _) :: r, x :: l => setA (H.set b x) r l
  | H, _, _ => H
def back (H : List Blk) (fs : Fo) (H1 : List Blk) : List Blk := setA H fs (rnBs fs H.length 0 H1) ++ (rnBs fs H.length 0 H1).drop fs.length
def fiX : Fo → Nat → Nat → Option (Nat × Nat)
  | [], _, _ => none
  | (b, d) :: r, i, k => if k = b then some (i, d) else fiX r (i + 1) k
def iv0 (fs : Fo) : C → Option C
  | .own b v o n => match fiX fs 0 b with
    | some (i, d) => if d ≤ v then some (.own i (v - d) o n) else none
    | none => none
  | .ptr b v i j => match fiX fs 0 b with
    | some (k, d) => if d ≤ v then some (.ptr k (v - d) i j) else none
    | none => none
  | .mp b v => match fiX fs 0 b with
    | some (k, d) => if d ≤ v then some (.mp k (v - d)) else none
    | none => none
  | .fn f [] => some (.fn f [])
  | .fn _ _ => none
  | c => some c
def ivL (fs : Fo) : List C → Option (List C)
  | [] => some []
  | c :: r => match iv0 fs c, ivL fs r with
    | some c', some r' => some (c' :: r')
    | _, _ => none
def ivE (fs : Fo) : List (List C) → Option (List (List C))
  | [] => some []
  | c :: r => match ivL fs c, ivE fs r with
    | some c', some r' => some (c' :: r')
    | _, _ => none
def ivV1 (fs : Fo) : V → Option V
  | .c x => match iv0 fs x with
    | some c => some (.c c)
    | none => none
  | .agg cs => match ivL fs cs with
    | some l => some (.agg l)
    | none => none
  | .tup _ => none
def ivVs (fs : Fo) : List V → Option (List V)
  | [] => some []
  | v :: r => match ivV1 fs v, ivVs fs r with
    | some v', some r' => some (v' :: r')
    | _, _ => none
def ivV (fs : Fo) : V → Option V
  | .tup vs => match ivVs fs vs with
    | some l => some (.tup l)
    | none => none
  | v => ivV1 fs v
def foc (H : List Blk) (fs : Fo) : Fo → Option (List Blk)
  | [] => some []
  | (b, d) :: r => match H[b]? with
    | some blk => if d ≤ blk.ver then match ivE fs blk.es, foc H fs r with
      | some es, some l => some (⟨blk.t, blk.sz, blk.ver - d, es⟩ :: l)
      | _, _ => none else none
    | none => none
def nd : Fo → Bool
  | [] => true
  | (b, _) :: r => (r.all fun x => !(x.1 == b)) && nd r

section lists
variable {α : Type}
theorem nd_inj : ∀ {fs : Fo}, nd fs = true → ∀ (i j : Nat) (x y : Nat × Nat), fs[i]? = some x → fs[j]? = some y → x.1 = y.1 → i = j
  | [], _, i, j, x, y, h, _, _ => by simp at h
  | (b, d) :: r, hn, i, j, x, y, h1, h2, he => by
    simp only [nd, Bool.and_eq_true, List.all_eq_true] at hn
    have key : ∀ (k : Nat) (z : Nat × Nat), r[k]? = some z → z.1 ≠ b := fun k z hz => by
      have := hn.1 z (List.mem_of_getElem? hz)
      simpa using this
    cases i with
    | zero =>
      simp at h1
      subst h1
      cases j with
      | zero => rfl
      | succ j => simp at h2; exact absurd he.symm (key j y h2)
    | succ i =>
      simp at h1
      cases j with
      | zero => simp at h2; subst h2; exact absurd he (key i x h1)
      | succ j => simp at h2; rw [nd_inj hn.2 i j x y h1 h2 he]
theorem setA_len : ∀ (fs : Fo) (H l : List α), (setA H fs l).length = H.length
  | [], H, l => by simp [setA]
  | (b, d) :: r, H, [] => by simp [setA]
  | (b, d) :: r, H, x :: l => by simp [setA, setA_len r]
theorem setA_other : ∀ (fs : Fo) (H l : List α) (k : Nat), (∀ (i : Nat) (x : Nat × Nat), fs[i]? = some x → x.1 ≠ k) → (setA H fs l)[k]? = H[k]?
  | [], H, l, k, h => by simp [setA]
  | (b, d) :: r, H, [], k, h => by simp [setA]
  | (b, d) :: r, H, x :: l, k, h => by
    have hb : b ≠ k := h 0 (b, d) rfl
    simp only [setA]
    rw [setA_other r _ l k (fun i x hx => h (i + 1) x (by simpa using hx)), List.getElem?_set_ne hb]
theorem setA_at : ∀ (fs : Fo) (H l : List α) (i : Nat) (x : Nat × Nat), nd fs = true → fs[i]? = some x → x.1 < H.length → i < l.length → (setA H fs l)[x.1]? = l[i]?
  | [], H, l, i, x, hn, h, _, _ => by simp at h
  | (b, d) :: r, H, [], i, x, hn, h, _, hl => by simp at hl
  | (b, d) :: r, H, y :: l, i, x, hn, h, hb, hl => by
    have hinj := nd_inj hn
    simp only [setA]
    cases i with
    | zero =>
      simp at h
      subst h
      rw [setA_other r _ l b (fun i z hz e => by have := hinj 0 (i + 1) (b, d) z rfl (by simpa using hz) e.symm; omega)]
      simp only [List.getElem?_cons_zero]
      exact List.getElem?_set_self hb
    | succ i =>
      simp only [nd, Bool.and_eq_true] at hn
      rw [setA_at r _ l i x hn.2 (by simpa using h) (by simpa using hb) (by simpa using hl)]
      simp
end lists
theorem rnBs_get (fs : Fo) (n0 : Nat) : ∀ (i : Nat) (H : List Blk) (k : Nat), (rnBs fs n0 i H)[k]? = (H[k]?).map (rnB fs n0 (i + k))
  | i, [], k => by simp [rnBs]
  | i, b :: r, 0 => by simp [rnBs]
  | i, b :: r, k + 1 => by simp only [rnBs, List.getElem?_cons_succ, rnBs_get fs n0 (i + 1) r k]; rw [show i + 1 + k = i + (k + 1) by omega]
theorem rnBs_len (fs : Fo) (n0 : Nat) : ∀ (i : Nat) (H : List Blk), (rnBs fs n0 i H).length = H.length
  | _, [] => rfl
  | i, b :: r => by simp [rnBs, rnBs_len fs n0 (i + 1) r]
theorem foN_at {fs : Fo} {n0 i : Nat} {x : Nat × Nat} (h : fs[i]? = some x) : foN fs n0 i = x.1 := by unfold foN; rw [h]
theorem foN_new {fs : Fo} {n0 i : Nat} (h : fs.length ≤ i) : foN fs n0 i = n0 + (i - fs.length) := by unfold foN; rw [List.getElem?_eq_none h]
theorem foD_at {fs : Fo} {i : Nat} {x : Nat × Nat} (h : fs[i]? = some x) : foD fs i = x.2 := by unfold foD; rw [h]
theorem foD_new {fs : Fo} {i : Nat} (h : fs.length ≤ i) : foD fs i = 0 := by unfold foD; rw [List.getElem?_eq_none h]
theorem fiX_spec : ∀ (fs : Fo) (i0 k i d : Nat), fiX fs i0 k = some (i, d) → ∃ j, i = i0 + j ∧ fs[j]? = some (k, d)
  | [], i0, k, i, d, h => by simp [fiX] at h
  | (b, e) :: r, i0, k, i, d, h => by
    simp only [fiX] at h
    split at h
    · rename_i hk; subst hk; cases h; exact ⟨0, rfl, rfl⟩
    · obtain ⟨j, h1, h2⟩ := fiX_spec r (i0 + 1) k i d h
      exact ⟨j + 1, by omega, by simpa using h2⟩
theorem rnB_uni {fs : Fo} {n0 i : Nat} {b : Blk} (h : Uni b.sz b.es) : Uni (rnB fs n0 i b).sz (rnB fs n0 i b).es := fun e he => by
  simp only [rnB, rnE, List.mem_map] at he
  obtain ⟨e', he', rfl⟩ := he
  rw [List.length_map]
  exact h e' he'

/-- the one situation's blocks stand in the other one. -/
structure Up (s s1 : Sit) (fs : Fo) (n0 : Nat) : Prop where
  W : s.W = s1.W
  F : s.F = s1.F
  at_ : ∀ (i : Nat) (blk : Blk) (rv : Value), s1.H[i]? = some blk → s1.ρ[i]? = some rv → s.H[foN fs n0 i]? = some (rnB fs n0 i blk) ∧ s.ρ[foN fs n0 i]? = some rv
theorem up0 {s s1 : Sit} {fs : Fo} {n0 : Nat} (hu : Up s s1 fs n0) {c : C} {u : Value} (h : CR0 s1 c u) : CR0 s (rn0 fs n0 c) u := by
  cases c with
  | own b ver off n =>
    obtain ⟨h0, blk, rv, h1, h2, h3, h4⟩ := h
    obtain ⟨g1, g2⟩ := hu.at_ b blk rv h1 h2
    refine ⟨h0, _, rv, g1, g2, by simp [rnB]; omega, fun hv => ?_⟩
    simp only [rnB] at hv
    have := h4 (by omega)
    unfold OwnAt at this ⊢
    simpa [rnB, rnE] using this
  | ptr b ver i j =>
    obtain ⟨h0, blk, rv, h1, h2, h3, h4⟩ := h
    obtain ⟨g1, g2⟩ := hu.at_ b blk rv h1 h2
    refine ⟨h0, _, rv, g1, g2, by simp [rnB]; omega, fun hv => ?_⟩
    simp only [rnB] at hv
    simpa [rnB] using h4 (by omega)
  | mp b ver =>
    obtain ⟨h0, blk, rv, h1, h2, h3, h4⟩ := h
    obtain ⟨g1, g2⟩ := hu.at_ b blk rv h1 h2
    refine ⟨h0, _, rv, g1, g2, by simp [rnB]; omega, fun hv => ?_⟩
    simp only [rnB] at hv
    exact h4 (by omega)
  | v x => exact h
  | row es => show DR s.W s.F _ _; rw [hu.W, hu.F]; exact h
  | e0 => exact h
  | yld l => exact h
  | rptr e j =>
    obtain ⟨a, w, h1, h2⟩ := h
    exact ⟨a, w, fun k c hk => by rw [hu.W, hu.F]; exact h1 k c hk, h2⟩
  | fn => exact h.elim
theorem upC {s s1 : Sit} {fs : Fo} {n0 : Nat} (hu : Up s s1 fs n0) {c : C} {u : Value} (h : CR s1 c u) : CR s (rnC fs n0 c) u := by
  cases c with
  | fn f caps =>
    obtain ⟨us, e, hr⟩ := h
    refine ⟨us, e, by simp [hr.1], fun k c u h1 h2 => ?_⟩
    rw [List.getElem?_map] at h1
    cases hc : caps[k]? with
    | none => rw [hc] at h1; cases h1
    | some c' => rw [hc] at h1; cases h1; exact up0 hu (hr.2 k c' u hc h2)
  | v x => exact up0 (c := .v x) hu h
  | row es => exact up0 (c := .row es) hu h
  | own b ver off n => exact up0 (c := .own b ver off n) hu h
  | ptr b ver i j => exact up0 (c := .ptr b ver i j) hu h
  | rptr e j => exact up0 (c := .rptr e j) hu h
  | e0 => exact up0 (c := .e0) hu h
  | yld l => exact up0 (c := .yld l) hu h
  | mp b ver => exact up0 (c := .mp b ver) hu h
theorem R2.map_left {α β γ : Type} {R : α → β → Prop} {R' : γ → β → Prop} {f : α → γ} {l : List α} {m : List β} (h : R2 R l m) (hf : ∀ c u, R c u → R' (f c) u) : R2 R' (l.map f) m := by
  refine ⟨by simp [h.1], fun k c u h1 h2 => ?_⟩
  rw [List.getElem?_map] at h1
  cases hc : l[k]? with
  | none => rw [hc] at h1; cases h1
  | some c' => rw [hc] at h1; cases h1; exact hf _ _ (h.2 k c' u hc h2)
theorem upV1 {s s1 : Sit} {fs : Fo} {n0 : Nat} (hu : Up s s1 fs n0) {v : V} {u : Value} (h : VR1 s1 v u) : VR1 s (rnV1 fs n0 v) u := by
  cases v with
  | c x => exact upC hu h
  | agg cs => obtain ⟨us, e, hr⟩ := h; exact ⟨us, e, hr.map_left (fun _ _ => upC hu)⟩
  | tup => exact h.elim
theorem upV {s s1 : Sit} {fs : Fo} {n0 : Nat} (hu : Up s s1 fs n0) {v : V} {u : Value} (h : VR s1 v u) : VR s (rnV fs n0 v) u := by
  cases v with
  | c x => exact upV1 (v := .c x) hu h
  | agg cs => exact upV1 (v := .agg cs) hu h
  | tup vs => obtain ⟨us, e, hr⟩ := h; exact ⟨us, e, hr.map_left (fun _ _ => upV1 hu)⟩

/-- some blocks of a situation, by themselves. -/
structure Down (s s1 : Sit) (fs : Fo) : Prop where
  W : s1.W = s.W
  F : s1.F = s.F
  at_ : ∀ (i b d : Nat) (blk : Blk) (rv : Value), fs[i]? = some (b, d) → s.H[b]? = some blk → s.ρ[b]? = some rv → ∃ blk1, s1.H[i]? = some blk1 ∧ s1.ρ[i]? = some rv ∧ blk1.sz = blk.sz ∧ blk1.es.length = blk.es.length ∧ blk1.ver + d = blk.ver
theorem down0 {s s1 : Sit} {fs : Fo} (hd : Down s s1 fs) {c c' : C} {u : Value} (hi : iv0 fs c = some c') (h : CR s c u) : CR s1 c' u := by
  cases c with
  | fn f caps =>
    cases caps with
    | nil => simp only [iv0] at hi; cases hi; obtain ⟨us, e, hr⟩ := h; have := hr.nil_left; subst this; exact ⟨[], e, R2.nil⟩
    | cons => simp [iv0] at hi
  | own b ver off n =>
    simp only [iv0] at hi
    split at hi
    · rename_i i d hx
      split at hi
      · rename_i hv
        cases hi
        obtain ⟨j, hj, hf⟩ := fiX_spec _ _ _ _ _ hx
        rw [Nat.zero_add] at hj
        subst hj
        obtain ⟨h0, blk, rv, h1, h2, h3, h4⟩ := h
        obtain ⟨b1, g1, g2, g3, g4, g5⟩ := hd.at_ _ _ _ blk rv hf h1 h2
        refine ⟨h0, b1, rv, g1, g2, by omega, fun hv' => ?_⟩
        have := h4 (by omega)
        unfold OwnAt at this ⊢
        rw [g3, g4]
        exact this
      · cases hi
    · cases hi
  | ptr b ver i j =>
    simp only [iv0] at hi
    split at hi
    · rename_i k d hx
      split at hi
      · rename_i hv
        cases hi
        obtain ⟨j, hj, hf⟩ := fiX_spec _ _ _ _ _ hx
        rw [Nat.zero_add] at hj
        subst hj
        obtain ⟨h0, blk, rv, h1, h2, h3, h4⟩ := h
        obtain ⟨b1, g1, g2, g3, g4, g5⟩ := hd.at_ _ _ _ blk rv hf h1 h2
        refine ⟨h0, b1, rv, g1, g2, by omega, fun hv' => ?_⟩
        rw [g3]
        exact h4 (by omega)
      · cases hi
    · cases hi
  | mp b ver =>
    simp only [iv0] at hi
    split at hi
    · rename_i k d hx
      split at hi
      · rename_i hv
        cases hi
        obtain ⟨j, hj, hf⟩ := fiX_spec _ _ _ _ _ hx
        rw [Nat.zero_add] at hj
        subst hj
        obtain ⟨h0, blk, rv, h1, h2, h3, h4⟩ := h
        obtain ⟨b1, g1, g2, g3, g4, g5⟩ := hd.at_ _ _ _ blk rv hf h1 h2
        exact ⟨h0, b1, rv, g1, g2, by omega, fun hv' => h4 (by omega)⟩
      · cases hi
    · cases hi
  | v x => simp only [iv0] at hi; cases hi; exact h
  | row es => simp only [iv0] at hi; cases hi; show DR s1.W s1.F _ _; rw [hd.W, hd.F]; exact h
  | e0 => simp only [iv0] at hi; cases hi; exact h
  | yld l => simp only [iv0] at hi; cases hi; exact h
  | rptr e j =>
    simp only [iv0] at hi
    cases hi
    obtain ⟨a, w, h1, h2⟩ := h
    exact ⟨a, w, fun k c hk => by rw [hd.W, hd.F]; exact h1 k c hk, h2⟩
theorem downL {s s1 : Sit} {fs : Fo} (hd : Down s s1 fs) : ∀ (l l' : List C) (us : List Value), ivL fs l = some l' → R2 (CR s) l us → R2 (CR s1) l' us
  | [], l', us, h, hr => by simp only [ivL] at h; cases h; have := hr.nil_left; subst this; exact R2.nil
  | c :: r, l', us, h, hr => by
    simp only [ivL] at h
    split at h
    · rename_i c' r' h1 h2
      cases h
      obtain ⟨y, m, rfl, g1, g2⟩ := hr.uncons
      exact R2.cons (down0 hd h1 g1) (downL hd r r' m h2 g2)
    · cases h
theorem ivL_len {fs : Fo} : ∀ (l l' : List C), ivL fs l = some l' → l'.length = l.length
  | [], l', h => by simp only [ivL] at h; cases h; rfl
  | c :: r, l', h => by
    simp only [ivL] at h
    split at h
    · rename_i c' r' h1 h2; cases h; simp [ivL_len r r' h2]
    · cases h
theorem ivL_app {fs : Fo} : ∀ (l l' m m' : List C), ivL fs l = some l' → ivL fs m = some m' → ivL fs (l ++ m) = some (l' ++ m')
  | [], l', m, m', h, k => by simp only [ivL] at h; cases h; exact k
  | c :: r, l', m, m', h, k => by
    simp only [ivL] at h
    split at h
    · rename_i c' r' h1 h2
      cases h
      simp only [List.cons_append, ivL, h1, ivL_app r r' m m' h2 k]
    · cases h
theorem ivE_flat {fs : Fo} {sz : Nat} : ∀ (es es' : List (List C)), ivE fs es = some es' → Uni sz es → ivL fs es.flatten = some es'.flatten ∧ es'.length = es.length ∧ Uni sz es'
  | [], es', h, hu => by simp only [ivE] at h; cases h; exact ⟨rfl, rfl, hu⟩
  | e :: r, es', h, hu => by
    simp only [ivE] at h
    split at h
    · rename_i c' r' h1 h2
      cases h
      obtain ⟨g1, g2, g3⟩ := ivE_flat r r' h2 (fun x hx => hu x (List.mem_cons_of_mem _ hx))
      refine ⟨by rw [List.flatten_cons, List.flatten_cons]; exact ivL_app _ _ _ _ h1 g1, by simp [g2], fun x hx => ?_⟩
      rcases List.mem_cons.1 hx with rfl | hx
      · rw [ivL_len _ _ h1]; exact hu e List.mem_cons_self
      · exact g3 x hx
    · cases h
theorem downV1 {s s1 : Sit} {fs : Fo} (hd : Down s s1 fs) {v v' : V} {u : Value} (h : ivV1 fs v = some v') (hv : VR1 s v u) : VR1 s1 v' u := by
  cases v with
  | c x =>
    simp only [ivV1] at h
    split at h
    · rename_i h1; cases h; exact down0 hd h1 hv
    · cases h
  | agg cs =>
    simp only [ivV1] at h
    split at h
    · rename_i h1; cases h; obtain ⟨us, e, hr⟩ := hv; exact ⟨us, e, downL hd _ _ _ h1 hr⟩
    · cases h
  | tup => simp [ivV1] at h
theorem downVs {s s1 : Sit} {fs : Fo} (hd : Down s s1 fs) : ∀ (l l' : List V) (us : List Value), ivVs fs l = some l' → R2 (VR1 s) l us → R2 (VR1 s1) l' us
  | [], l', us, h, hr => by simp only [ivVs] at h; cases h; have := hr.nil_left; subst this; exact R2.nil
  | c :: r, l', us, h, hr => by
    simp only [ivVs] at h
    split at h
    · rename_i c' r' h1 h2
      cases h
      obtain ⟨y, m, rfl, g1, g2⟩ := hr.uncons
      exact R2.cons (downV1 hd h1 g1) (downVs hd r r' m h2 g2)
    · cases h
theorem downV {s s1 : Sit} {fs : Fo} (hd : Down s s1 fs) {v v' : V} {u : Value} (h : ivV fs v = some v') (hv : VR s v u) : VR s1 v' u := by
  cases v with
  | c x => exact VR.of1 (downV1 hd (v := .c x) h hv)
  | agg cs => exact VR.of1 (downV1 hd (v := .agg cs) h hv)
  | tup vs =>
    simp only [ivV] at h
    split at h
    · rename_i h1; cases h; obtain ⟨us, e, hr⟩ := hv; exact ⟨us, e, downVs hd _ _ _ h1 hr⟩
    · cases h
theorem ivVs_1 {s s1 : Sit} {fs : Fo} (hd : Down s s1 fs) : ∀ (l l' : List V) (us : List Value), ivVs fs l = some l' → R2 (VR s) l us → R2 (VR s1) l' us
  | [], l', us, h, hr => by simp only [ivVs] at h; cases h; have := hr.nil_left; subst this; exact R2.nil
  | c :: r, l', us, h, hr => by
    simp only [ivVs] at h
    split at h
    · rename_i c' r' h1 h2
      cases h
      obtain ⟨y, m, rfl, g1, g2⟩ := hr.uncons
      have g3 : VR1 s c y := g1.to1 (fun vs e => by subst e; simp [ivV1] at h1)
      exact R2.cons (VR.of1 (downV1 hd h1 g3)) (ivVs_1 hd r r' m h2 g2)
    · cases h
theorem foc_at {H : List Blk} {fs : Fo} : ∀ (gs : Fo) (H1 : List Blk), foc H fs gs = some H1 → H1.length = gs.length ∧ ∀ (i b d : Nat), gs[i]? = some (b, d) → ∃ blk es, H[b]? = some blk ∧ d ≤ blk.ver ∧ ivE fs blk.es = some es ∧ H1[i]? = some ⟨blk.t, blk.sz, blk.ver - d, es⟩
  | [], H1, h => by simp only [foc] at h; cases h; exact ⟨rfl, fun i b d h => by simp at h⟩
  | (b, d) :: r, H1, h => by
    simp only [foc] at h
    split at h
    · rename_i blk hb
      split at h
      · rename_i hd
        split at h
        · rename_i es l h1 h2
          cases h
          obtain ⟨g1, g2⟩ := foc_at r l h2
          refine ⟨by simp [g1], fun i b' d' hi => ?_⟩
          cases i with
          | zero => simp at hi; obtain ⟨rfl, rfl⟩ := hi; exact ⟨blk, es, hb, hd, h1, rfl⟩
          | succ i => simp at hi; obtain ⟨blk', es', k1, k2, k3, k4⟩ := g2 i b' d' hi; exact ⟨blk', es', k1, k2, k3, by simpa using k4⟩
        · cases h
      · cases h
    · cases h
/-- the situation with these blocks alone. -/
def Sit.foc (s : Sit) (fs : Fo) (H1 : List Blk) : Sit := ⟨s.W, s.F, fs.map fun x => s.ρ.getD x.1 undef, H1⟩
theorem foc_down {s : Sit} (hs : SI s) {fs : Fo} {H1 : List Blk} (hf : foc s.H fs fs = some H1) (hn : nd fs = true) : Down s (s.foc fs H1) fs ∧ SI (s.foc fs H1) ∧ (∀ (i : Nat) (rv : Value), (s.foc fs H1).ρ[i]? = some rv → ∃ x : Nat × Nat, fs[i]? = some x ∧ s.ρ[x.1]? = some rv) := by
  obtain ⟨hl, hat⟩ := foc_at fs H1 hf
  have hρ : ∀ (i : Nat) (rv : Value), (s.foc fs H1).ρ[i]? = some rv → ∃ x : Nat × Nat, fs[i]? = some x ∧ s.ρ[x.1]? = some rv := by
    intro i rv h
    simp only [Sit.foc, List.getElem?_map] at h
    cases hx : fs[i]? with
    | none => rw [hx] at h; cases h
    | some x =>
      rw [hx] at h
      obtain ⟨b, d⟩ := x
      obtain ⟨blk, es, g1, _⟩ := hat i b d hx
      have hb := (List.getElem?_eq_some_iff.1 g1).1
      rw [← hs.len] at hb
      simp only [Option.map_some, Option.some.injEq, List.getD_eq_getElem?_getD, List.getElem?_eq_getElem hb, Option.getD_some] at h
      exact ⟨_, rfl, by rw [← h]; exact List.getElem?_eq_getElem hb⟩
  have hd : Down s (s.foc fs H1) fs := by
    refine ⟨rfl, rfl, fun i b d blk rv h1 h2 h3 => ?_⟩
    obtain ⟨blk', es, g1, g2, g3, g4⟩ := hat i b d h1
    rw [h2] at g1
    cases g1
    have hb : s.ρ.length = s.H.length := hs.len
    refine ⟨_, g4, ?_, rfl, (ivE_flat _ _ g3 (hs.blk b blk rv h2 h3).uni).2.1, by simp only; omega⟩
    simp only [Sit.foc, List.getElem?_map, h1, Option.map_some, List.getD_eq_getElem?_getD, h3, Option.getD_some]
  have hown : ∀ g, OwnG (s.foc fs H1).ρ g → OwnG s.ρ g := fun g ⟨b, rv, h1, h2⟩ => by obtain ⟨x, _, h4⟩ := hρ b rv h1; exact ⟨_, rv, h4, h2⟩
  refine ⟨hd, ⟨by simp [Sit.foc, hl], fun i blk1 rv h1 h2 => ?_, fun i j rv rv' g hne h1 h2 => ?_, fun g h => hs.nf g (hown g h), hs.fs, hs.gl⟩, hρ⟩
  · obtain ⟨⟨b, d⟩, hx, h3⟩ := hρ i rv h2
    obtain ⟨blk, es, g1, g2, g3, g4⟩ := hat i b d hx
    have h1' : H1[i]? = some blk1 := h1
    rw [g4] at h1'
    cases h1'
    have hb := hs.blk b blk rv g1 h3
    obtain ⟨k1, k2, k3⟩ := ivE_flat _ _ g3 hb.uni
    rcases hb.att with ⟨_, ⟨hz, hA⟩ | ⟨xs, ho, hr⟩⟩ | ⟨l, gm, hz, hrv, hm⟩
    · refine blk_row k3 ?_
      rw [hz] at g3; simp only [ivE] at g3; cases g3; exact .inl ⟨rfl, hA⟩
    · exact blk_row k3 (.inr ⟨xs, by simp only [k2]; exact ho, downL hd _ _ _ k1 hr⟩)
    · refine ⟨k3, .inr ⟨l, gm, ?_, hrv, hm⟩⟩
      rw [hz] at g3; simp only [ivE, ivL, iv0] at g3; cases g3; rfl
  · obtain ⟨x, hx, h3⟩ := hρ i rv h1
    obtain ⟨y, hy, h4⟩ := hρ j rv' h2
    exact hs.ne x.1 y.1 rv rv' g (fun e => hne (nd_inj hn i j x y hx hy e)) h3 h4
/-- the situation behind such a call. -/
def Sit.back (s : Sit) (fs : Fo) (s1 : Sit) : Sit := ⟨s1.W, s1.F, setA s.ρ fs s1.ρ ++ s1.ρ.drop fs.length, Go.En.back s.H fs s1.H⟩
theorem back_ok {s : Sit} (hs : SI s) {fs : Fo} {H1 : List Blk} (hf : Go.En.foc s.H fs fs = some H1) (hn : nd fs = true) (hv0 : ∀ (i b d : Nat) (blk : Blk), fs[i]? = some (b, d) → s.H[b]? = some blk → d = blk.ver) {s1 : Sit} (he : Ext (s.foc fs H1) s1) :
    Ext s (s.back fs s1) ∧ Up (s.back fs s1) s1 fs s.H.length := by
  obtain ⟨hd, hsi0, hρ0⟩ := foc_down hs hf hn
  obtain ⟨hl1, hat⟩ := foc_at fs H1 hf
  have hlen := hs.len
  have hl := he.si.len
  have hm : fs.length ≤ s1.H.length := by have := Ext.hlen hsi0 he; simpa [Sit.foc, hl1] using this
  have hplace : ∀ (i : Nat) (x : Nat × Nat), fs[i]? = some x → x.1 < s.H.length := fun i x hx => by
    obtain ⟨b, d⟩ := x
    obtain ⟨blk, es, g1, _⟩ := hat i b d hx
    exact (List.getElem?_eq_some_iff.1 g1).1
  -- the blocks of the call
  have hup : Up (s.back fs s1) s1 fs s.H.length := by
    refine ⟨rfl, rfl, fun i blk rv h1 h2 => ?_⟩
    have hi := (List.getElem?_eq_some_iff.1 h1).1
    by_cases him : i < fs.length
    · have hx := List.getElem?_eq_getElem him
      have hp := hplace i _ hx
      rw [foN_at hx]
      refine ⟨?_, ?_⟩
      · show (setA s.H fs (rnBs fs s.H.length 0 s1.H) ++ _)[_]? = _
        rw [List.getElem?_append_left (by rw [setA_len]; exact hp), setA_at fs _ _ i _ hn hx hp (by rw [rnBs_len]; exact hi), rnBs_get, h1, Nat.zero_add]
        rfl
      · show (setA s.ρ fs s1.ρ ++ _)[_]? = _
        rw [List.getElem?_append_left (by rw [setA_len, hlen]; exact hp), setA_at fs _ _ i _ hn hx (by rw [hlen]; exact hp) (by rw [hl]; exact hi), h2]
    · have hge : fs.length ≤ i := by omega
      rw [foN_new hge]
      refine ⟨?_, ?_⟩
      · show (setA s.H fs (rnBs fs s.H.length 0 s1.H) ++ _)[_]? = _
        rw [List.getElem?_append_right (by rw [setA_len]; omega), setA_len, List.getElem?_drop, rnBs_get, show fs.length + (s.H.length + (i - fs.length) - s.H.length) = i by omega, h1, Nat.zero_add]
        rfl
      · show (setA s.ρ fs s1.ρ ++ _)[_]? = _
        rw [List.getElem?_append_right (by rw [setA_len]; omega), setA_len, List.getElem?_drop, show fs.length + (s.H.length + (i - fs.length) - s.ρ.length) = i by omega, h2]
  have hother : ∀ k, (∀ (i : Nat) (x : Nat × Nat), fs[i]? = some x → x.1 ≠ k) → k < s.H.length → (s.back fs s1).H[k]? = s.H[k]? ∧ (s.back fs s1).ρ[k]? = s.ρ[k]? := fun k hk hlt => by
    refine ⟨?_, ?_⟩
    · show (setA s.H fs (rnBs fs s.H.length 0 s1.H) ++ _)[k]? = _
      rw [List.getElem?_append_left (by rw [setA_len]; exact hlt), setA_other fs _ _ k hk]
    · show (setA s.ρ fs s1.ρ ++ _)[k]? = _
      rw [List.getElem?_append_left (by rw [setA_len, hlen]; exact hlt), setA_other fs _ _ k hk]
  have hcls : ∀ (k : Nat) (rv : Value), (s.back fs s1).ρ[k]? = some rv → (k < s.H.length ∧ (∀ (i : Nat) (x : Nat × Nat), fs[i]? = some x → x.1 ≠ k) ∧ s.ρ[k]? = some rv) ∨ ∃ i, k = foN fs s.H.length i ∧ i < s1.H.length ∧ s1.ρ[i]? = some rv := by
    intro k rv h
    by_cases hk : k < s.H.length
    · by_cases hin : ∃ (i : Nat) (x : Nat × Nat), fs[i]? = some x ∧ x.1 = k
      · obtain ⟨i, x, hx, hxk⟩ := hin
        have hi : i < fs.length := (List.getElem?_eq_some_iff.1 hx).1
        have hi2 : i < s1.ρ.length := by omega
        obtain ⟨_, g2⟩ := hup.at_ i _ _ (List.getElem?_eq_getElem (show i < s1.H.length by omega)) (List.getElem?_eq_getElem hi2)
        refine .inr ⟨i, by rw [foN_at hx]; exact hxk.symm, by omega, ?_⟩
        rw [foN_at hx, hxk, h] at g2
        rw [List.getElem?_eq_getElem hi2, ← Option.some.inj g2]
      · have hno : ∀ (i : Nat) (x : Nat × Nat), fs[i]? = some x → x.1 ≠ k := fun i x hx e => hin ⟨i, x, hx, e⟩
        exact .inl ⟨hk, hno, by rw [← (hother k hno hk).2]; exact h⟩
    · have h' : (setA s.ρ fs s1.ρ ++ s1.ρ.drop fs.length)[k]? = some rv := h
      rw [List.getElem?_append_right (by rw [setA_len]; omega), setA_len, List.getElem?_drop] at h'
      have := (List.getElem?_eq_some_iff.1 h').1
      exact .inr ⟨fs.length + (k - s.ρ.length), by rw [foN_new (by omega)]; omega, by omega, h'⟩
  have hown0 : ∀ g, OwnG (s.foc fs H1).ρ g → OwnG s.ρ g := fun g ⟨b, rv, h1, h2⟩ => by obtain ⟨x, _, h4⟩ := hρ0 b rv h1; exact ⟨_, rv, h4, h2⟩
  -- another block's memory is none of the call's
  have hapart : ∀ (k : Nat) (rv : Value) (g : Nat), (∀ (i : Nat) (x : Nat × Nat), fs[i]? = some x → x.1 ≠ k) → s.ρ[k]? = some rv → ob rv = some g → ¬ OwnG (s.foc fs H1).ρ g := by
    rintro k rv g hk h1 h2 ⟨i, rv', h3, h4⟩
    obtain ⟨x, hx, h5⟩ := hρ0 i rv' h3
    exact hs.ne x.1 k rv' rv g (hk i x hx) h5 h1 h4 h2
  have e0 : Ext0 s (s.back fs s1) := by
    refine ⟨he.os, he.tape, he.output, he.size, fun k hk ho => he.frame k hk (fun h => ho (hown0 k h)), he.F, fun k hk => ?_, fun g hg => ?_, fun b blk rv h1 h2 => ?_⟩
    · rcases he.F' k hk with h | h | h
      · exact .inl h
      · exact .inr (.inl h)
      · exact .inr (.inr (hown0 k h))
    · obtain ⟨k, rv, h1, h2⟩ := hg
      rcases hcls k rv h1 with ⟨_, _, h3⟩ | ⟨i, _, _, h3⟩
      · exact .inl ⟨k, rv, h3, h2⟩
      · rcases he.own g ⟨i, rv, h3, h2⟩ with h | h
        · exact .inl (hown0 g h)
        · exact .inr h
    · by_cases hin : ∃ (i : Nat) (x : Nat × Nat), fs[i]? = some x ∧ x.1 = b
      · obtain ⟨i, ⟨b', d⟩, hx, rfl⟩ := hin
        simp only at h1 h2
        obtain ⟨blk0, g1, g2, g3, g4, g5⟩ := hd.at_ i b' d blk rv hx h1 h2
        obtain ⟨blk1, rv1, k1, k2, k3, k4⟩ := he.H i blk0 rv g1 g2
        obtain ⟨q1, q2⟩ := hup.at_ i blk1 rv1 k1 k2
        rw [foN_at hx] at q1 q2
        refine ⟨_, rv1, q1, q2, by simp only [rnB, foD_at hx]; omega, fun hv => ?_⟩
        simp only [rnB, foD_at hx] at hv
        obtain ⟨w1, w2, w3⟩ := k4 (by omega)
        refine ⟨w1, by simp only [rnB, rnE, List.length_map]; omega, by simp only [rnB]; omega⟩
      · have hno : ∀ (i : Nat) (x : Nat × Nat), fs[i]? = some x → x.1 ≠ b := fun i x hx e => hin ⟨i, x, hx, e⟩
        obtain ⟨q1, q2⟩ := hother b hno (List.getElem?_eq_some_iff.1 h1).1
        exact ⟨blk, rv, by rw [q1]; exact h1, by rw [q2]; exact h2, Nat.le_refl _, fun _ => ⟨rfl, rfl, rfl⟩⟩
  refine ⟨⟨e0, ⟨?_, fun k blk rv h1 h2 => ?_, fun k j rv rv' g hne h1 h2 h3 h4 => ?_, fun g hg hF => ?_, fun k hk => he.si.fs k hk, he.si.gl⟩⟩, hup⟩
  · show (setA s.ρ fs s1.ρ ++ s1.ρ.drop fs.length).length = (setA s.H fs _ ++ (rnBs fs s.H.length 0 s1.H).drop fs.length).length
    simp only [List.length_append, setA_len, List.length_drop, rnBs_len, hl, hlen]
  · rcases hcls k rv h2 with ⟨hk, hno, h3⟩ | ⟨i, rfl, hi, h3⟩
    · rw [(hother k hno hk).1] at h1
      refine (hs.blk k blk rv h1 h3).ext hs e0 (fun g hg => he.frame g (OwnG.lt hs ⟨k, rv, h3, hg⟩) (hapart k rv g hno h3 hg))
    · obtain ⟨q1, q2⟩ := hup.at_ i _ rv (List.getElem?_eq_getElem hi) h3
      rw [q1] at h1
      cases h1
      have hb := he.si.blk i _ rv (List.getElem?_eq_getElem hi) h3
      rcases hb.att with ⟨_, ⟨hz, hA⟩ | ⟨xs, ho, hr⟩⟩ | ⟨l, gm, hz, hrv, hm⟩
      rotate_right
      · exact ⟨rnB_uni hb.uni, .inr ⟨l, gm, by simp only [rnB, rnE, hz, List.map_cons, List.map_nil, rnC, rn0], hrv, hm⟩⟩
      · exact blk_row (rnB_uni hb.uni) (.inl ⟨by simp [rnB, rnE, hz], hA⟩)
      · refine blk_row (rnB_uni hb.uni) (.inr ⟨xs, by simpa [rnB, rnE, Sit.back] using ho, ?_⟩)
        have : (rnB fs s.H.length i s1.H[i]).es.flatten = s1.H[i].es.flatten.map (rnC fs s.H.length) := by simp only [rnB, rnE, List.map_flatten]
        rw [this]
        exact hr.map_left (fun _ _ => upC hup)
  · rcases hcls k rv h1 with ⟨hk, hno, h5⟩ | ⟨i, rfl, hi, h5⟩ <;> rcases hcls j rv' h2 with ⟨hj, hno', h6⟩ | ⟨i', rfl, hi', h6⟩
    · exact hs.ne k j rv rv' g hne h5 h6 h3 h4
    · rcases he.own g ⟨i', rv', h6, h4⟩ with h | h
      · exact hapart k rv g hno h5 h3 h
      · have := OwnG.lt hs ⟨k, rv, h5, h3⟩
        simp only [Sit.foc] at h
        omega
    · rcases he.own g ⟨i, rv, h5, h3⟩ with h | h
      · exact hapart j rv' g hno' h6 h4 h
      · have := OwnG.lt hs ⟨j, rv', h6, h4⟩
        simp only [Sit.foc] at h
        omega
    · exact he.si.ne i i' rv rv' g (fun e => hne (by rw [e])) h5 h6 h3 h4
  · obtain ⟨k, rv, h1, h2⟩ := hg
    rcases hcls k rv h1 with ⟨hk, hno, h3⟩ | ⟨i, _, _, h3⟩
    · rcases he.F' g hF with h | h | h
      · exact hs.nf g ⟨k, rv, h3, h2⟩ h
      · have := OwnG.lt hs ⟨k, rv, h3, h2⟩
        simp only [Sit.foc] at h
        omega
      · exact hapart k rv g hno h3 h2 h
    · exact he.si.nf g ⟨i, rv, h3, h2⟩ hF
def verOk (H : List Blk) : Fo → Bool
  | [] => true
  | (b, d) :: r => (match H[b]? with
    | some blk => d == blk.ver
    | none => false) && verOk H r
theorem verOk_ok {H : List Blk} : ∀ (fs : Fo), verOk H fs = true → ∀ (i b d : Nat) (blk : Blk), fs[i]? = some (b, d) → H[b]? = some blk → d = blk.ver
  | [], h, i, b, d, blk, h1, _ => by simp at h1
  | (b', d') :: r, h, i, b, d, blk, h1, h2 => by
    simp only [verOk, Bool.and_eq_true] at h
    cases i with
    | zero => simp at h1; obtain ⟨rfl, rfl⟩ := h1; rw [h2] at h; simpa using h.1
    | succ i => exact verOk_ok r h.2 i b d blk (by simpa using h1) h2
/-- a call to which some of the blocks go. -/
theorem call_foc {P : Program} {g : FuncId} {vs vs1 : List V} {H H1 : List Blk} {fs : Fo} {R : V → List Blk → Prop} (hf : Go.En.foc H fs fs = some H1) (hn : nd fs = true) (hv0 : verOk H fs = true) (hv : ivVs fs vs = some vs1) (hc : Call P false g vs1 H1 R) :
    Call P false g vs H fun r H' => ∃ r1 H1', R r1 H1' ∧ r = rnV fs H.length r1 ∧ H' = Go.En.back H fs H1' := by
  refine ⟨hc.1, fun s args hs hH hr => ?_⟩
  subst hH
  obtain ⟨hd, hsi, _⟩ := foc_down hs hf hn
  refine (hc.2 (s.foc fs H1) args hsi rfl (ivVs_1 hd _ _ _ hv hr)).mono ?_
  rintro e w' ⟨s1, r, u, rfl, he, rfl, hvr, hR, _⟩
  obtain ⟨g1, g2⟩ := back_ok hs hf hn (verOk_ok fs hv0) he
  exact ⟨s.back fs s1, _, u, rfl, g1, rfl, upV g2 hvr, ⟨r, s1.H, hR, rfl, rfl⟩, fun h => by cases h⟩
/-- the same to which none goes: it may stand among operations whose order is drawn. -/
theorem call_new {P : Program} {qt : Bool} {g : FuncId} {vs vs1 : List V} {H : List Blk} {R : V → List Blk → Prop} (hv : ivVs [] vs = some vs1) (hc : Call P false g vs1 [] R) :
    Call P qt g vs H fun r H' => ∃ r1 H1', R r1 H1' ∧ r = rnV [] H.length r1 ∧ H' = Go.En.back H [] H1' := by
  refine ⟨hc.1, fun s args hs hH hr => ?_⟩
  subst hH
  have hf : Go.En.foc s.H [] [] = some [] := rfl
  obtain ⟨hd, hsi, _⟩ := foc_down hs hf rfl
  refine (hc.2 (s.foc [] []) args hsi rfl (ivVs_1 hd _ _ _ hv hr)).mono ?_
  rintro e w' ⟨s1, r, u, rfl, he, rfl, hvr, hR, _⟩
  obtain ⟨g1, g2⟩ := back_ok hs hf rfl (verOk_ok [] rfl) he
  exact ⟨s.back [] s1, _, u, rfl, g1, rfl, upV g2 hvr, ⟨r, s1.H, hR, rfl, rfl⟩, fun _ => after_grown (s := s) (s1' := s1) (F1 := s.F) he⟩
end Go.En
