import Derived.Test.YtnopihhconklnaaDoorEn1
import Derived.Laws.Tables
import Derived.Laws.BytesArg
/- The quiet operations of the abstract machine: those that yield a value and leave the memory as it is. -/
namespace Go.En
open Go Go.RowKit
set_option linter.unusedSimpArgs false
set_option linter.unusedVariables false

abbrev TM := List (Nat × V)
def lk (n : Nat) : TM → Option V
  | [] => none
  | (m, v) :: r => if n = m then some v else lk n r
def ofCells : List Value → Option (List C)
  | [] => some []
  | .agg _ :: _ => none
  | .tuple _ :: _ => none
  | .slice none 0 0 :: r => match ofCells r with
    | some cs => some (.e0 :: cs)
    | none => none
  | x :: r => match ofCells r with
    | some cs => some (.v x :: cs)
    | none => none
def ofConst : Value → Option V
  | .agg cs => match ofCells cs.toList with
    | some l => some (.agg l)
    | none => none
  | .tuple cs => if cs.size = 0 then some (.tup []) else none
  | .slice none 0 0 => some (.c .e0)
  | x => some (.c (.v x))
def ev (tm : TM) : Operand → Option V
  | .tmp t => lk t tm
  | .const v => ofConst v
  | .func f => some (.c (.fn f []))
  | .global g => match tabs g with
    | some e => some (.c (.rptr (e.map .v) 0))
    | none => none
structure Good (s : Sit) (N : Nat) (a : Act) (tm : TM) : Prop where
  si : SI s
  size : a.tmps.size = N
  tm : ∀ t v, lk t tm = some v → t < N ∧ VR s v (a.tmps.getD t undef)
theorem Good.ext {s s' : Sit} {N : Nat} {a : Act} {tm : TM} (h : Good s N a tm) (he : Ext s s') : Good s' N a tm := ⟨he.si, h.size, fun t v hv => ⟨(h.tm t v hv).1, VR.ext h.si he.toExt0 (h.tm t v hv).2⟩⟩
theorem Good.put {s : Sit} {N : Nat} {a : Act} {tm : TM} (h : Good s N a tm) {d : Nat} (hd : d < N) {v : V} {u : Value} (hv : VR s v u) : Good s N (a.put (some d) u) ((d, v) :: tm) := by
  refine ⟨h.si, by simp [Act.put, h.size], fun t x hx => ?_⟩
  unfold lk at hx
  split at hx
  · rename_i e
    cases hx
    subst e
    refine ⟨hd, ?_⟩
    have : (a.put (some t) u).tmps.getD t undef = u := by simp [Act.put, Array.getD_eq_getD_getElem?, h.size, hd]
    rw [this]
    exact hv
  · rename_i e
    have h1 := h.tm t x hx
    have : (a.put (some d) u).tmps.getD t undef = a.tmps.getD t undef := by
      simp only [Act.put, Array.getD_eq_getD_getElem?, Array.getElem?_setIfInBounds]
      rw [if_neg (Ne.symm e)]
    rw [this]
    exact h1
theorem Good.put' {s : Sit} {N : Nat} {a : Act} {tm : TM} (h : Good s N a tm) {u : Value} : Good s N (a.put none u) tm := h
theorem Good.sub {s : Sit} {N : Nat} {a : Act} {tm tm' : TM} (h : Good s N a tm) (hs : ∀ t v, lk t tm' = some v → lk t tm = some v) : Good s N a tm' := ⟨h.si, h.size, fun t v hv => h.tm t v (hs t v hv)⟩
theorem ofCells_ok (s : Sit) : ∀ (l : List Value) (cs : List C), ofCells l = some cs → R2 (CR s) cs l
  | [], cs, h => by simp [ofCells] at h; subst h; exact R2.nil
  | x :: r, cs, h => by
    unfold ofCells at h
    split at h
    · rename_i e; cases e
    · cases h
    · cases h
    · rename_i e
      cases e
      split at h
      · rename_i l hr; cases h; exact R2.cons ⟨none, rfl⟩ (ofCells_ok s r l hr)
      · cases h
    · rename_i x' r' h1 h2 h3 e
      cases e
      split at h
      · rename_i l hr
        cases h
        refine R2.cons ⟨rfl, ?_⟩ (ofCells_ok s r l hr)
        cases x <;> first | rfl | exact (h1 _ rfl).elim | exact (h2 _ rfl).elim
      · cases h
theorem ofConst_ok (s : Sit) {x : Value} {v : V} (h : ofConst x = some v) : VR s v x := by
  unfold ofConst at h
  split at h
  · rename_i cs
    split at h
    · rename_i l hc; cases h; exact ⟨cs.toList, by simp, ofCells_ok s _ _ hc⟩
    · cases h
  · split at h
    · rename_i hz
      cases h
      refine ⟨[], ?_, R2.nil⟩
      congr 1
      exact Array.eq_empty_of_size_eq_zero hz
    · cases h
  · cases h; exact ⟨none, rfl⟩
  · rename_i h1 h2 h3
    cases h
    refine ⟨rfl, ?_⟩
    cases x <;> first | rfl | exact (h1 _ rfl).elim | exact (h2 _ rfl).elim
theorem ev_ok {s : Sit} {N : Nat} {a : Act} {tm : TM} (h : Good s N a tm) {o : Operand} {v : V} (hv : ev tm o = some v) : VR s v (a.eval o) := by
  cases o with
  | tmp t => exact (h.tm t v hv).2
  | const x => exact ofConst_ok s hv
  | func f =>
    simp only [ev] at hv
    cases hv
    exact ⟨[], rfl, R2.nil⟩
  | global g =>
    simp only [ev] at hv
    split at hv
    · rename_i e he
      cases hv
      refine ⟨⟨g, 0, none⟩, fun k => (e[k]?).getD undef, fun k c hk => ?_, rfl⟩
      rw [List.getElem?_map] at hk
      cases hx : e[k]? with
      | none => rw [hx] at hk; cases hk
      | some x =>
        rw [hx] at hk
        cases hk
        obtain ⟨h1, h2, h3⟩ := h.si.gl g e he k x hx
        have e0 : (e[k]?).getD undef = x := by rw [hx]; rfl
        refine ⟨?_, h3, ?_⟩
        · simp only [add_lit, Nat.zero_add, e0]; exact h2
        · simp only [e0]; exact .v h1
    · cases hv

/-- what the types say: whether a variable is of many cells, and how many. -/
def lay (P : Program) (t : TypeId) : Option (Bool × Nat) := match P.underlying t, P.info? t with
  | some (.struct _), some i => some (true, i.size)
  | some (.array _ _), some i => some (true, i.size)
  | some _, some i => some (false, i.size)
  | _, _ => none
/-- where a struct's fields lie: places, sizes, types. -/
def pls (P : Program) (t : TypeId) : Option (List (Nat × Nat × TypeId)) := match P.underlying t with
  | some (.struct fs) => fs.toList.mapM fun f => (P.info? f.type).map fun i => (f.offset, i.size, f.type)
  | _ => none
/-- where a struct's field lies, and its type. -/
def fo (P : Program) (t : TypeId) (f : Nat) : Option (Nat × TypeId) := match pls P t with
  | some l => match l[f]? with
    | some (off, sz, ft) => if sz = 0 then none else some (off, ft)
    | none => none
  | none => none
theorem mapM_get {α β : Type} (g : α → Option β) : ∀ (l : List α) (m : List β), l.mapM g = some m → ∀ (i : Nat) (y : β), m[i]? = some y → ∃ x, l[i]? = some x ∧ g x = some y
  | [], m, h, i, y, hy => by simp at h; subst h; simp at hy
  | x :: r, m, h, i, y, hy => by
    simp only [List.mapM_cons, Option.bind_eq_bind, Option.pure_def] at h
    cases hx : g x with
    | none => simp [hx] at h
    | some z =>
      cases hr : r.mapM g with
      | none => simp [hx, hr] at h
      | some m' =>
        simp [hx, hr] at h
        subst h
        cases i with
        | zero => simp at hy; subst hy; exact ⟨x, rfl, hx⟩
        | succ i => exact mapM_get g r m' hr i y (by simpa using hy)
theorem mapM_of {α β γ : Type} (g : α → Option β) (f : β → γ) : ∀ (l : List α) (m : List β), l.mapM g = some m → l.mapM (fun x => (g x).map f) = some (m.map f)
  | [], m, h => by simp at h; subst h; simp
  | x :: r, m, h => by
    simp only [List.mapM_cons, Option.bind_eq_bind, Option.pure_def] at h ⊢
    cases hx : g x with
    | none => simp [hx] at h
    | some z =>
      cases hr : r.mapM g with
      | none => simp [hx, hr] at h
      | some m' =>
        simp [hx, hr] at h
        subst h
        rw [mapM_of g f r m' hr]
        simp
def mk (ag : Bool) (cs : List C) : Option V := match ag, cs with
  | true, cs => some (.agg cs)
  | false, [c] => some (.c c)
  | _, _ => none
def cut (cs : List C) (j n : Nat) : Option (List C) := if j + n ≤ cs.length then some ((cs.drop j).take n) else none
def ldC (H : List Blk) (p : C) (n : Nat) : Option (List C) := match p with
  | .ptr b ver i j => match H[b]? with
    | some blk => if ver = blk.ver then match blk.es[i]? with
      | some e => cut e j n
      | none => none else none
    | none => none
  | .rptr e j => cut e j n
  | _ => none
theorem cut_ok {s : Sit} {e cs : List C} {j n : Nat} (h : cut e j n = some cs) : cs.length = n ∧ ∀ k c, cs[k]? = some c → e[j + k]? = some c ∧ j + k < e.length := by
  unfold cut at h
  split at h
  · rename_i hl
    cases h
    refine ⟨by simp; omega, fun k c hk => ?_⟩
    rw [List.getElem?_take] at hk
    split at hk
    · rw [List.getElem?_drop] at hk
      exact ⟨hk, (List.getElem?_eq_some_iff.1 hk).1⟩
    · cases hk
  · cases h
theorem DR.cr {s : Sit} {d : C} {u : Value} (h : DR s.W s.F d u) : CR s d u := by
  cases h with
  | v h => exact ⟨rfl, h⟩
  | nil => exact DR.nil
  | row w2 b1 b2 b3 b4 b5 b6 => exact DR.row w2 b1 b2 b3 b4 b5 b6
theorem ldC_ok {s : Sit} (hs : SI s) {p : C} {n : Nat} {cs : List C} {u : Value} (h : ldC s.H p n = some cs) (hu : CR s p u) :
    ∃ A us, u = .pointer (some A) ∧ us.length = n ∧ R2 (CR s) cs us ∧ ∀ j x, us[j]? = some x → s.W.cell? (A.add j) = some x := by
  cases p with
  | ptr b ver i j =>
    obtain ⟨_, blk, rv, h1, h2, h3, h4⟩ := hu
    simp only [ldC, h1] at h
    split at h
    · rename_i hv
      obtain ⟨g, L, cap, e1, rfl⟩ := h4 hv
      cases he : blk.es[i]? with
      | none => rw [he] at h; cases h
      | some e =>
        rw [he] at h
        simp only at h
        obtain ⟨hl, hc⟩ := cut_ok (s := s) h
        have hb := hs.blk b blk rv h1 h2
        rcases hb.at_ (by rw [e1]; intro k e; cases e) with ⟨hz, _⟩ | ⟨xs, ho, hr⟩
        · rw [hz] at he; simp at he
        · have hee : e.length = blk.sz := hb.uni e (List.mem_of_getElem? he)
          rcases ho.2 with ⟨hn, _⟩ | ⟨g', cap', cur, hrv, _, hg, _, _, _, htake⟩
          · rw [e1] at hn; cases hn
          · rw [e1] at hrv
            injection hrv with x1 x2 x3
            injection x1 with x1
            injection x1 with x1
            subst x1
            have hget : ∀ k c, cs[k]? = some c → ∃ y, xs[i * blk.sz + j + k]? = some y ∧ CR s c y := by
              intro k c hk
              obtain ⟨q1, q2⟩ := hc k c hk
              have := hb.uni.flat_get he (j := j + k) (by omega)
              rw [q1] at this
              rw [Nat.add_assoc]
              exact hr.get this
            refine ⟨_, (xs.drop (i * blk.sz + j)).take n, rfl, ?_, ⟨?_, fun k c y hk hy => ?_⟩, fun k y hy => ?_⟩
            · rw [List.length_take, List.length_drop]
              cases n with
              | zero => omega
              | succ n =>
                have hk := List.getElem?_eq_getElem (l := cs) (i := n) (by omega)
                obtain ⟨y, hy, _⟩ := hget n _ hk
                have := (List.getElem?_eq_some_iff.1 hy).1
                omega
            · rw [List.length_take, List.length_drop, hl]
              cases n with
              | zero => omega
              | succ n =>
                have hk := List.getElem?_eq_getElem (l := cs) (i := n) (by omega)
                obtain ⟨y, hy, _⟩ := hget n _ hk
                have := (List.getElem?_eq_some_iff.1 hy).1
                omega
            · obtain ⟨y', hy', hr'⟩ := hget k c hk
              rw [List.getElem?_take] at hy
              split at hy
              · rw [List.getElem?_drop, hy'] at hy
                cases hy
                exact hr'
              · cases hy
            · rw [List.getElem?_take] at hy
              split at hy
              · rw [List.getElem?_drop] at hy
                rw [add_lit, cell_of_row s.W _ _ cur blk.t (0, 0) hg]
                rw [← htake, List.getElem?_take] at hy
                split at hy
                · simpa using hy
                · cases hy
              · cases hy
    · cases h
  | rptr e j =>
    obtain ⟨a, w, hw, rfl⟩ := hu
    simp only [ldC] at h
    obtain ⟨hl, hc⟩ := cut_ok (s := s) h
    refine ⟨_, (List.range n).map (fun k => w (j + k)), rfl, by simp, ⟨by simp [hl], fun k c y hk hy => ?_⟩, fun k y hy => ?_⟩
    · rw [List.getElem?_map] at hy
      have hkn : k < n := by have := (List.getElem?_eq_some_iff.1 hk).1; omega
      rw [List.getElem?_range hkn] at hy
      cases hy
      exact DR.cr (hw _ _ (hc k c hk).1).2.2
    · rw [List.getElem?_map] at hy
      by_cases hkn : k < n
      · rw [List.getElem?_range hkn] at hy
        cases hy
        rw [add_add]
        exact (hw _ _ (hc k _ (List.getElem?_eq_getElem (l := cs) (i := k) (by omega))).1).1
      · rw [List.getElem?_eq_none (by rw [List.length_range]; omega)] at hy
        cases hy
  | _ => simp [ldC] at h
theorem mk_ok {s : Sit} {ag : Bool} {cs : List C} {v : V} {us : List Value} (h : mk ag cs = some v) (hr : R2 (CR s) cs us) : (ag = true → VR s v (.agg us.toArray)) ∧ (ag = false → ∃ x, us = [x] ∧ VR s v x) := by
  unfold mk at h
  split at h
  · cases h; exact ⟨fun _ => ⟨us, rfl, hr⟩, fun e => by cases e⟩
  · cases h
    refine ⟨fun e => by (cases e), fun _ => ?_⟩
    obtain ⟨y, m', rfl, h1, h2⟩ := hr.uncons
    have := h2.nil_left
    subst this
    exact ⟨y, rfl, h1⟩
  · cases h
theorem lay_agg {P : Program} {t : TypeId} {n : Nat} {ag : Bool} (h : lay P t = some (ag, n)) : ∃ d i, P.underlying t = some d ∧ P.info? t = some i ∧ i.size = n ∧ ((ag = true ∧ ((∃ fs, d = .struct fs) ∨ ∃ m e, d = .array m e)) ∨ (ag = false ∧ (∀ fs, d ≠ .struct fs) ∧ ∀ m e, d ≠ .array m e)) := by
  unfold lay at h
  split at h
  · rename_i fs i h1 h2; cases h; exact ⟨_, _, h1, h2, rfl, .inl ⟨rfl, .inl ⟨_, rfl⟩⟩⟩
  · rename_i m e i h1 h2; cases h; exact ⟨_, _, h1, h2, rfl, .inl ⟨rfl, .inr ⟨_, _, rfl⟩⟩⟩
  · rename_i d i hn1 hn2 h1 h2
    cases h
    exact ⟨_, _, h1, h2, rfl, .inr ⟨rfl, fun fs e => by subst e; exact hn1 _ rfl, fun m e' e => by subst e; exact hn2 _ _ rfl⟩⟩
  · cases h
theorem run_isAgg {P : Program} {t : TypeId} {n : Nat} {ag : Bool} (h : lay P t = some (ag, n)) (W : World) : (isAgg t).run P W = .ok ag W := by
  obtain ⟨d, i, h1, h2, h3, h4⟩ := lay_agg h
  rcases h4 with ⟨rfl, ⟨fs, rfl⟩ | ⟨m, e, rfl⟩⟩ | ⟨rfl, hn1, hn2⟩
  · simp [isAgg, run_underlying h1]
  · simp [isAgg, run_underlying h1]
  · simp only [isAgg, Sem.run_bind, run_underlying h1, Result.andThen_ok]
    cases d <;> first | rfl | exact absurd rfl (hn1 _) | exact absurd rfl (hn2 _ _)
theorem run_sizeOf {P : Program} {t : TypeId} {i : TypeInfo} (h : P.info? t = some i) (W : World) : (sizeOf t).run P W = .ok i.size W := by simp [sizeOf, typeInfo, h]
theorem run_loadVar_us {P : Program} {t : TypeId} {n : Nat} {ag : Bool} (h : lay P t = some (ag, n)) {W : World} {A : Addr} {us : List Value} (hl : us.length = n) (hc : ∀ j x, us[j]? = some x → W.cell? (A.add j) = some x) :
    (ag = true → (loadVar t A).run P W = .ok (.agg us.toArray) W) ∧ (ag = false → ∀ x, us = [x] → (loadVar t A).run P W = .ok x W) := by
  obtain ⟨d, i, h1, h2, h3, h4⟩ := lay_agg h
  refine ⟨fun e => ?_, fun e x hx => ?_⟩
  · subst e
    have := run_loadCells_list (P := P) W A us hc
    rw [hl] at this
    simp [loadVar, run_isAgg h, run_sizeOf h2, h3, this]
  · subst e
    subst hx
    have := hc 0 x rfl
    have e0 : A.add 0 = A := rfl
    rw [e0] at this
    simp only [loadVar, Sem.run_bind, run_isAgg h, Result.andThen_ok, Bool.false_eq_true, if_false, load, Sem.run, this]
/-- a step that leaves the memory as it is. -/
def Quiet (P : Program) (s : Sit) (v : V) (x : Sem Value) : Prop := ∃ u, VR s v u ∧ ∀ W', x.run P W' = .ok u W'
def QuietL (P : Program) (s : Sit) (v : V) (x : Sem Value) : Prop := ∃ u, VR s v u ∧ ∀ W', s.W.grownBy W' none → x.run P W' = .ok u W'
theorem Quiet.pure {P : Program} {s : Sit} {v : V} {u : Value} (h : VR s v u) {x : Sem Value} (hx : ∀ W', x.run P W' = .ok u W') : Quiet P s v x := ⟨u, h, hx⟩
theorem load_ok {P : Program} {s : Sit} (hs : SI s) {t : TypeId} {ag : Bool} {n : Nat} {p : C} {cs : List C} {v : V} {u : Value} (h1 : lay P t = some (ag, n)) (h2 : ldC s.H p n = some cs) (h3 : mk ag cs = some v) (hu : CR s p u) : QuietL P s v (Instr.loadAt t u) := by
  obtain ⟨A, us, rfl, hl, hr, hc⟩ := ldC_ok hs h2 hu
  have hcw : ∀ W', s.W.grownBy W' none → ∀ j x, us[j]? = some x → W'.cell? (A.add j) = some x := fun W' hg j x hj => hg.cell (hc j x hj) (by simp)
  obtain ⟨m1, m2⟩ := mk_ok h3 hr
  cases ag with
  | true =>
    refine ⟨_, m1 rfl, fun W' hg => ?_⟩
    have := (run_loadVar_us h1 hl (hcw W' hg)).1 rfl
    simp [Instr.loadAt, Instr.sureAddr, this]
  | false =>
    obtain ⟨x, rfl, hv⟩ := m2 rfl
    refine ⟨_, hv, fun W' hg => ?_⟩
    have := (run_loadVar_us h1 hl (hcw W' hg)).2 rfl x rfl
    simp [Instr.loadAt, Instr.sureAddr, this]
end Go.En
