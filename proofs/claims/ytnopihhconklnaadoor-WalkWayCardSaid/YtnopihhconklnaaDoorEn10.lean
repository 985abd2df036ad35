import Derived.Test.YtnopihhconklnaaDoorEn9
import Derived.RangeFuncRecord
import Derived.RangeFuncLeaves
/- Calls: from a body; at a call. -/
namespace Go.En
open Go Go.RowKit
set_option linter.unusedSimpArgs false
set_option linter.unusedVariables false

def isD : C → Bool
  | .v _ => true
  | .row _ => true
  | .e0 => true
  | _ => false
theorem nrm_ok {s : Sit} {c : C} {u : Value} (h : CR s c u) (hd : isD c = true) : DR s.W s.F (nrm c) u := by
  cases c with
  | v x => obtain ⟨rfl, h⟩ := h; exact .v h
  | row es => exact h
  | e0 =>
    obtain ⟨A, rfl⟩ := h
    cases A with
    | none => exact .nil
    | some a => exact .row (sz := 0) (fun _ => undef) (fun _ h => by cases h) (fun h => by simp at h) (fun k hk => by simp at hk) (fun k d hk => by simp at hk) rfl (Nat.le_refl _)
  | _ => simp [isD] at hd
/-- a cell that needs no memory of one's own: what is asked for, and the cell. -/
def frzC (H : List Blk) : C → Option (Prop × C)
  | .v x => some (True, .v x)
  | .row es => some (True, .row es)
  | .e0 => some (True, .row [])
  | .own b ver off n => match H[b]? with
    | some blk => if ver = blk.ver then some (∀ e ∈ (blk.es.drop off).take n, ∀ c ∈ e, isD c = true, .row (((blk.es.drop off).take n).map (·.map nrm))) else none
    | none => none
  | .rptr e j => some (True, .rptr e j)
  | _ => none
def frzL (H : List Blk) : List C → Option (Prop × List C)
  | [] => some (True, [])
  | c :: r => match frzC H c, frzL H r with
    | some (p, c'), some (q, r') => some (p ∧ q, c' :: r')
    | _, _ => none
def frz1 (H : List Blk) : V → Option (Prop × V)
  | .c x => match frzC H x with
    | some (p, c) => some (p, .c c)
    | none => none
  | .agg cs => match frzL H cs with
    | some (p, l) => some (p, .agg l)
    | none => none
  | .tup _ => none
def frzs (H : List Blk) : List V → Option (Prop × List V)
  | [] => some (True, [])
  | v :: r => match frz1 H v, frzs H r with
    | some (p, v'), some (q, r') => some (p ∧ q, v' :: r')
    | _, _ => none
def frz (H : List Blk) : V → Option (Prop × V)
  | .tup vs => match frzs H vs with
    | some (p, l) => some (p, .tup l)
    | none => none
  | v => frz1 H v
/-- what was one's own stays as it is from here on. -/
def Sit.all (s : Sit) : Sit := ⟨s.W, fun k => s.F k ∨ OwnG s.ρ k, [], []⟩
theorem DR.all {s : Sit} {d : C} {u : Value} (h : DR s.W s.F d u) : DR s.all.W s.all.F d u := h.mono (fun _ _ => rfl) (fun _ h => .inl h)
theorem frzC_ok {s : Sit} (hs : SI s) {c c' : C} {p : Prop} {u : Value} (h : frzC s.H c = some (p, c')) (hp : p) (hc : CR s c u) : CR s.all c' u := by
  cases c with
  | v x => simp only [frzC] at h; cases h; exact hc
  | row es => simp only [frzC] at h; cases h; exact DR.all hc
  | e0 => simp only [frzC] at h; cases h; exact DR.all (nrm_ok (c := .e0) hc rfl)
  | rptr e j =>
    simp only [frzC] at h
    cases h
    obtain ⟨a, w, h1, h2⟩ := hc
    exact ⟨a, w, fun k c hk => ⟨(h1 k c hk).1, .inl (h1 k c hk).2.1, DR.all (h1 k c hk).2.2⟩, h2⟩
  | own b ver off n =>
    simp only [frzC] at h
    split at h
    · rename_i blk hb
      split at h
      · rename_i hv
        cases h
        obtain ⟨_, blk', rv, h1, h2, h3, h4⟩ := hc
        rw [hb] at h1
        cases h1
        have hbk := hs.blk b blk rv hb h2
        obtain ⟨q1, q2⟩ := h4 hv
        show DR s.all.W s.all.F (.row _) u
        rcases q2 with ⟨⟨A0, rfl⟩, ⟨A, rfl⟩, rfl, rfl⟩ | ⟨g, L, cap, a, c, hcap, rfl, rfl, hoc, hcc, hmc, hbl, hA⟩
        · simp only [List.drop_zero, List.take_zero, List.map_nil]
          exact DR.all (nrm_ok (c := .e0) (u := .slice A 0 0) ⟨A, rfl⟩ rfl)
        · rcases hbk.at_ (by intro k e; cases e) with ⟨hz, A1, e1⟩ | ⟨xs, ho, hr⟩
          · injection e1 with e1 e2 e3
            omega
          have hmapf : ∀ (l : List (List C)), (l.map (·.map nrm)).flatten = l.flatten.map nrm := fun l => by rw [List.map_flatten]
          have hl : (((blk.es.drop off).take n).map (·.map nrm)).length = n := by rw [List.length_map, List.length_take, List.length_drop]; omega
          have hfl : ((blk.es.drop off).take n).flatten = (blk.es.flatten.drop (off * blk.sz)).take (n * blk.sz) := by rw [(hbk.uni.drop _).flat_take, hbk.uni.flat_drop]
          have hrr : R2 (CR s) ((blk.es.drop off).take n).flatten ((xs.drop (off * blk.sz)).take (n * blk.sz)) := by rw [hfl]; exact (hr.drop _).take _
          have hcell : ∀ k y, ((xs.drop (off * blk.sz)).take (n * blk.sz))[k]? = some y → s.W.cell? (a.add k) = some y := fun k y hk => by
            rw [List.getElem?_take] at hk
            split at hk
            · rename_i hkm
              have hA' : a = ⟨g, off * blk.sz, none⟩ := by
                rcases hA with h | ⟨_, h⟩
                · exact h
                · have : n = 0 := by omega
                  subst this
                  omega
              subst hA'
              rw [List.getElem?_drop] at hk
              have := ho.cells (g := g) rfl _ _ hk
              rw [add_lit] at this ⊢
              simpa using this
            · cases hk
          refine .row (sz := blk.sz) (fun k => ((xs.drop (off * blk.sz)).take (n * blk.sz)).getD k undef) ?_ (fun _ => .inr ⟨b, _, h2, ?_⟩) (fun k hk => ?_) (fun k d hk => ?_) hl.symm hmc
          · intro e he
            obtain ⟨e', he', rfl⟩ := List.mem_map.1 he
            rw [List.length_map]
            exact ((hbk.uni.drop _).take _) e' he'
          · cases cap with
            | zero => omega
            | succ cap => rw [hbl]; rfl
          · rw [hmapf, List.length_map, hrr.1] at hk
            have := List.getElem?_eq_getElem hk
            rw [List.getD_eq_getElem?_getD, this]
            exact hcell k _ this
          · rw [hmapf, List.getElem?_map] at hk
            cases hd : ((blk.es.drop off).take n).flatten[k]? with
            | none => rw [hd] at hk; cases hk
            | some d' =>
              rw [hd] at hk
              cases hk
              obtain ⟨y, hy, hry⟩ := hrr.get hd
              rw [List.getD_eq_getElem?_getD, hy]
              refine DR.all (nrm_ok hry ?_)
              obtain ⟨e, he, hde⟩ := List.mem_flatten.1 (List.mem_of_getElem? hd)
              exact hp e he d' hde
      · cases h
    · cases h
  | _ => simp [frzC] at h
theorem frzL_ok {s : Sit} (hs : SI s) : ∀ (l l' : List C) (p : Prop) (us : List Value), frzL s.H l = some (p, l') → p → R2 (CR s) l us → R2 (CR s.all) l' us
  | [], l', p, us, h, hp, hr => by simp only [frzL] at h; cases h; have := hr.nil_left; subst this; exact R2.nil
  | c :: r, l', p, us, h, hp, hr => by
    simp only [frzL] at h
    split at h
    · rename_i p1 c' p2 r' h1 h2
      cases h
      obtain ⟨y, m, rfl, h3, h4⟩ := hr.uncons
      exact R2.cons (frzC_ok hs h1 hp.1 h3) (frzL_ok hs r r' _ m h2 hp.2 h4)
    · cases h
theorem frz1_ok {s : Sit} (hs : SI s) {v v' : V} {p : Prop} {u : Value} (h : frz1 s.H v = some (p, v')) (hp : p) (hv : VR1 s v u) : VR1 s.all v' u := by
  cases v with
  | c x =>
    simp only [frz1] at h
    split at h
    · rename_i h1; cases h; exact frzC_ok hs h1 hp hv
    · cases h
  | agg cs =>
    simp only [frz1] at h
    obtain ⟨us, rfl, hr⟩ := hv
    split at h
    · rename_i h1; cases h; exact ⟨us, rfl, frzL_ok hs _ _ _ _ h1 hp hr⟩
    · cases h
  | tup vs => exact hv.elim
theorem frzs_ok {s : Sit} (hs : SI s) : ∀ (l l' : List V) (p : Prop) (us : List Value), frzs s.H l = some (p, l') → p → R2 (VR1 s) l us → R2 (VR1 s.all) l' us
  | [], l', p, us, h, hp, hr => by simp only [frzs] at h; cases h; have := hr.nil_left; subst this; exact R2.nil
  | c :: r, l', p, us, h, hp, hr => by
    simp only [frzs] at h
    split at h
    · rename_i p1 c' p2 r' h1 h2
      cases h
      obtain ⟨y, m, rfl, h3, h4⟩ := hr.uncons
      exact R2.cons (frz1_ok hs h1 hp.1 h3) (frzs_ok hs r r' _ m h2 hp.2 h4)
    · cases h
theorem frz_ok {s : Sit} (hs : SI s) {v v' : V} {p : Prop} {u : Value} (h : frz s.H v = some (p, v')) (hp : p) (hv : VR s v u) : VR s.all v' u := by
  cases v with
  | c x => exact VR.of1 (frz1_ok hs (v := .c x) h hp hv)
  | agg cs => exact VR.of1 (frz1_ok hs (v := .agg cs) h hp hv)
  | tup vs =>
    simp only [frz] at h
    obtain ⟨us, rfl, hr⟩ := hv
    split at h
    · rename_i h1; cases h; exact ⟨us, rfl, frzs_ok hs _ _ _ _ h1 hp hr⟩
    · cases h
theorem all_si {s : Sit} (hs : SI s) : SI s.all := ⟨rfl, fun b blk rv h => by simp [Sit.all] at h, fun b b' rv rv' g _ h => by simp [Sit.all] at h, fun g ⟨b, rv, h, _⟩ => by simp [Sit.all] at h, fun k hk => hk.elim (hs.fs k) (OwnG.lt hs), hs.gl.mono (fun _ _ => rfl) (fun _ h => .inl h)⟩
/-- at a call's end. -/
def Ends (H0 : List Blk) (R : V → List Blk → Prop) (r : V) (H : List Blk) : Prop := ∀ s0 s u, SI s0 → s0.H = H0 → Ext s0 s → s.H = H → VR s r u → ∃ s' r', Ext s0 s' ∧ s'.W = s.W ∧ VR s' r' u ∧ R r' s'.H
theorem ends_now {H0 H : List Blk} {R : V → List Blk → Prop} {r : V} (h : R r H) : Ends H0 R r H := fun s0 s u h0 _ he hH hv => ⟨s, r, he, rfl, hv, hH ▸ h⟩
/-- nothing of one's own came in: what goes out stays as it is. -/
theorem ends_all {H : List Blk} {R : V → List Blk → Prop} {r r' : V} {p : Prop} (hf : frz H r = some (p, r')) (hp : p) (h : R r' []) : Ends [] R r H := by
  intro s0 s u h0 hH0 he hH hv
  subst hH
  have hρ : s0.ρ = [] := List.eq_nil_of_length_eq_zero (by rw [h0.len, hH0]; rfl)
  have hno : ∀ k, ¬ OwnG s0.ρ k := fun k ⟨b, rv, h, _⟩ => by rw [hρ] at h; simp at h
  refine ⟨s.all, r', ⟨⟨he.os, he.tape, he.output, he.size, fun k hk hn => he.frame k hk hn, fun k hk => .inl (he.F k hk), fun k hk => ?_, fun g ⟨b, rv, h, _⟩ => by simp [Sit.all] at h, fun b blk rv h => by rw [hH0] at h; simp at h⟩, all_si he.si⟩, rfl, frz_ok he.si hf hp hv, h⟩
  rcases hk with hk | hk
  · exact he.F' k hk
  · rcases he.own k hk with h | h
    · exact (hno k h).elim
    · exact .inr (.inl h)
def resL (P : Program) (tm : TM) (H : List Blk) : List ResultVar → Option (List V)
  | [] => some []
  | .tmp t :: r => match lk t tm, resL P tm H r with
    | some v, some l => some (v :: l)
    | _, _ => none
  | .cell a t :: r => match lk a tm, lay P t, resL P tm H r with
    | some (.c p), some (ag, n), some l => match ldC H p n with
      | some cs => match mk ag cs with
        | some v => some (v :: l)
        | none => none
      | none => none
    | _, _, _ => none
def noTups : List V → Bool
  | [] => true
  | .tup _ :: _ => false
  | _ :: r => noTups r
def resultV : List V → V
  | [v] => v
  | vs => .tup vs
def resF (a : Act) : ResultVar → Sem Value
  | .tmp t => Pure.pure (a.tmps.getD t undef)
  | .cell p t => do loadVar t (← asAddr (a.tmps.getD p undef))
theorem resL_ok {P : Program} {s : Sit} {N : Nat} {a : Act} {tm : TM} (hg : Good s N a tm) : ∀ (rs : List ResultVar) (vs : List V), resL P tm s.H rs = some vs → ∃ us, R2 (VR s) vs us ∧ (rs.mapM (resF a)).run P s.W = Result.ok us s.W
  | [], vs, h => by simp only [resL] at h; cases h; exact ⟨[], R2.nil, by simp⟩
  | .tmp t :: r, vs, h => by
    simp only [resL] at h
    split at h
    · rename_i v l h1 h2
      cases h
      obtain ⟨us, g1, g2⟩ := resL_ok hg r l h2
      refine ⟨a.tmps.getD t undef :: us, R2.cons (hg.tm t v h1).2 g1, ?_⟩
      simp only [List.mapM_cons, resF, Sem.run_bind, Sem.run_pure, Result.andThen_ok, g2]
    · cases h
  | .cell p t :: r, vs, h => by
    simp only [resL] at h
    split at h
    · rename_i c ag n l h1 h2 h3
      split at h
      · rename_i cs hcs
        split at h
        · rename_i v hm
          cases h
          obtain ⟨us, g1, g2⟩ := resL_ok hg r l h3
          obtain ⟨u, hu, hr⟩ := load_ok (P := P) hg.si h2 hcs hm (hg.tm p _ h1).2
          have hl := hr s.W ⟨rfl, rfl, rfl, Nat.le_refl _, fun _ _ _ => rfl⟩
          refine ⟨u :: us, R2.cons hu g1, ?_⟩
          obtain ⟨A, _, e, _⟩ := ldC_ok hg.si hcs (hg.tm p _ h1).2
          rw [e] at hl
          simp only [Instr.loadAt, Instr.sureAddr, Sem.run_bind, Sem.run_pure, Result.andThen_ok] at hl
          simp only [List.mapM_cons, resF, Sem.run_bind, e, asAddr, Sem.run_pure, Result.andThen_ok, hl, g2]
        · cases h
      · cases h
    · cases h
theorem noTups_ok {s : Sit} : ∀ (l : List V) (us : List Value), noTups l = true → R2 (VR s) l us → R2 (VR1 s) l us
  | [], us, _, hr => by have := hr.nil_left; subst this; exact R2.nil
  | c :: r, us, h, hr => by
    obtain ⟨y, m, rfl, h1, h2⟩ := hr.uncons
    cases c with
    | tup => simp [noTups] at h
    | c x => exact R2.cons h1 (noTups_ok r m h h2)
    | agg x => exact R2.cons h1 (noTups_ok r m h h2)
/-- the end of a body. -/
def fin (P : Program) (rs : List ResultVar) (H0 : List Blk) (R : V → List Blk → Prop) (ex : Exit) (tm : TM) (H : List Blk) : Prop := match ex with
  | .normal => match resL P tm H rs with
    | some vs => noTups vs = true ∧ Ends H0 R (resultV vs) H
    | none => False
  | .ret => match resL P tm H rs with
    | some vs => noTups vs = true ∧ Ends H0 R (resultV vs) H
    | none => False
  | _ => False
def argTM (i : Nat) : List V → TM
  | [] => []
  | v :: r => (i, v) :: argTM (i + 1) r
theorem argTM_get : ∀ (vs : List V) (i t : Nat) (v : V), lk t (argTM i vs) = some v → i ≤ t ∧ vs[t - i]? = some v
  | [], i, t, v, h => by simp [argTM, lk] at h
  | x :: r, i, t, v, h => by
    simp only [argTM, lk] at h
    split at h
    · rename_i e; subst e; cases h; simp
    · rename_i e
      obtain ⟨h1, h2⟩ := argTM_get r (i + 1) t v h
      refine ⟨by omega, ?_⟩
      have : t - i = (t - (i + 1)) + 1 := by omega
      rw [this]
      exact h2
theorem Ext.hlen {s s' : Sit} (hs : SI s) (h : Ext s s') : s.H.length ≤ s'.H.length := by
  rcases Nat.lt_or_ge s'.H.length s.H.length with hlt | hge
  · have h1 := List.getElem?_eq_getElem hlt
    have hl : s'.H.length < s.ρ.length := by rw [hs.len]; exact hlt
    obtain ⟨b, r, g1, _⟩ := h.H _ _ _ h1 (List.getElem?_eq_getElem hl)
    have := (List.getElem?_eq_some_iff.1 g1).1
    omega
  · exact hge
theorem take_get {α : Type} {l : List α} {n b : Nat} {x : α} (hx : (l.take n)[b]? = some x) : l[b]? = some x := by
  rw [List.getElem?_take] at hx
  split at hx
  · exact hx
  · cases hx
theorem own_drop {s : Sit} {n g : Nat} (h : OwnG (s.drop n).ρ g) : OwnG s.ρ g := by
  obtain ⟨b, rv, h1, h2⟩ := h
  exact ⟨b, rv, take_get h1, h2⟩
theorem Ext.drop {s0 s : Sit} {n : Nat} (he : Ext s0 s) (hle : s0.H.length ≤ n) (hsi : SI (s.drop n)) : Ext s0 (s.drop n) := by
  refine ⟨⟨he.os, he.tape, he.output, he.size, he.frame, he.F, he.F', fun g h => he.own g (own_drop h), fun b blk rv h1 h2 => ?_⟩, hsi⟩
  obtain ⟨blk', rv', g1, g2, g3⟩ := he.H b blk rv h1 h2
  have hb : b < n := Nat.lt_of_lt_of_le (List.getElem?_eq_some_iff.1 h1).1 hle
  exact ⟨blk', rv', by rw [Sit.drop, List.getElem?_take, if_pos hb]; exact g1, by rw [Sit.drop, List.getElem?_take, if_pos hb]; exact g2, g3⟩
/-- the base of a call. -/
def ofExt (s : Sit) : Base := ⟨fun x => Ext s x, fun _ _ => False, s.H.length, s.W.heap.size⟩
theorem ofExt_ok {s : Sit} (hs : SI s) : (ofExt s).Ok := ⟨fun x x' _ h h' => Ext.trans hs h h', fun x n h hn hsi => h.drop hn hsi, fun x h => h.hlen hs, fun x h => h.size⟩
theorem ofExt_at {s : Sit} (hs : SI s) {a : Act} (ha : a.defers = []) : (ofExt s).At s a := ⟨Ext.refl hs, by rw [ha]; exact Mk.nil _ _⟩
/-- something turned that is nobody's cells. -/
structure Poked (m : Nat) (s s' : Sit) : Prop where
  F : s'.F = s.F
  ρ : s'.ρ = s.ρ
  H : s'.H = s.H
  os : s'.W.os = s.W.os
  tape : s'.W.tape = s.W.tape
  output : s'.W.output = s.W.output
  size : s'.W.heap.size = s.W.heap.size
  low : ∀ k, k < m → s'.W.heap[k]? = s.W.heap[k]?
  same : ∀ k, s.F k ∨ OwnG s.ρ k → s'.W.heap[k]? = s.W.heap[k]?
theorem Poked.refl (m : Nat) (s : Sit) : Poked m s s := ⟨rfl, rfl, rfl, rfl, rfl, rfl, rfl, fun _ _ => rfl, fun _ _ => rfl⟩
theorem Poked.trans {m : Nat} {a b c : Sit} (h : Poked m a b) (k : Poked m b c) : Poked m a c := ⟨k.F.trans h.F, k.ρ.trans h.ρ, k.H.trans h.H, k.os.trans h.os, k.tape.trans h.tape, k.output.trans h.output, k.size.trans h.size, fun i hi => (k.low i hi).trans (h.low i hi), fun i hi => (k.same i (by rw [h.F, h.ρ]; exact hi)).trans (h.same i hi)⟩
theorem poke_at {m : Nat} {s : Sit} {l : Nat} (o : Obj) (hm : m ≤ l) (h1 : ¬ s.F l) (h2 : ¬ OwnG s.ρ l) : Poked m s ⟨s.W.putObj l o, s.F, s.ρ, s.H⟩ :=
  ⟨rfl, rfl, rfl, rfl, rfl, rfl, World.putObj_size, fun k hk => World.putObj_heap_other (by omega), fun k hk => World.putObj_heap_other (fun e => by subst e; exact hk.elim h1 h2)⟩
theorem cr0_poke {m : Nat} {s s' : Sit} (h : Poked m s s') {c : C} {u : Value} (hc : CR0 s c u) : CR0 s' c u := by
  cases c with
  | v x => exact hc
  | row es => exact DR.mono hc (fun k hk => h.same k (.inl hk)) (fun k hk => by rw [h.F]; exact hk)
  | own b ver off n => simp only [CR0, h.H, h.ρ]; exact hc
  | ptr b ver i j => simp only [CR0, h.H, h.ρ]; exact hc
  | rptr e j =>
    obtain ⟨a, w, h1, h2⟩ := hc
    refine ⟨a, w, fun k c hk => ?_, h2⟩
    obtain ⟨g1, g2, g3⟩ := h1 k c hk
    refine ⟨?_, by rw [h.F]; exact g2, DR.mono g3 (fun k hk => h.same k (.inl hk)) (fun k hk => by rw [h.F]; exact hk)⟩
    rw [World.cell?_of_block (w := s.W), g1]
    rw [add_block]
    exact h.same _ (.inl g2)
  | e0 => exact hc
  | fn => exact hc.elim
  | yld l => exact hc
  | mp b ver => simp only [CR0, h.H, h.ρ]; exact hc
theorem cr_poke {m : Nat} {s s' : Sit} (h : Poked m s s') {c : C} {u : Value} (hc : CR s c u) : CR s' c u := by
  cases c with
  | fn f caps => obtain ⟨us, e, h2⟩ := hc; exact ⟨us, e, h2.mono (fun _ _ => cr0_poke h)⟩
  | v x => exact cr0_poke (c := .v x) h hc
  | row es => exact cr0_poke (c := .row es) h hc
  | own b ver off n => exact cr0_poke (c := .own b ver off n) h hc
  | ptr b ver i j => exact cr0_poke (c := .ptr b ver i j) h hc
  | rptr e j => exact cr0_poke (c := .rptr e j) h hc
  | e0 => exact cr0_poke (c := .e0) h hc
  | yld l => exact cr0_poke (c := .yld l) h hc
  | mp b ver => exact cr0_poke (c := .mp b ver) h hc
theorem vr1_poke {m : Nat} {s s' : Sit} (h : Poked m s s') {v : V} {u : Value} (hc : VR1 s v u) : VR1 s' v u := by
  cases v with
  | c x => exact cr_poke h hc
  | agg cs => obtain ⟨us, e, h2⟩ := hc; exact ⟨us, e, h2.mono (fun _ _ => cr_poke h)⟩
  | tup vs => exact hc.elim
theorem vr_poke {m : Nat} {s s' : Sit} (h : Poked m s s') {v : V} {u : Value} (hc : VR s v u) : VR s' v u := by
  cases v with
  | tup vs => obtain ⟨us, e, h2⟩ := hc; exact ⟨us, e, h2.mono (fun _ _ => vr1_poke h)⟩
  | c x => exact vr1_poke (v := .c x) h hc
  | agg cs => exact vr1_poke (v := .agg cs) h hc
theorem si_poke {m : Nat} {s s' : Sit} (hs : SI s) (h : Poked m s s') : SI s' := by
  refine ⟨by rw [h.ρ, h.H]; exact hs.len, fun b blk rv h1 h2 => ?_, by rw [h.ρ]; exact hs.ne, by rw [h.ρ, h.F]; exact hs.nf, fun k hk => by rw [h.size]; rw [h.F] at hk; exact hs.fs k hk, hs.gl.mono (fun k hk => h.same k (.inl hk)) (fun k hk => by rw [h.F]; exact hk)⟩
  rw [h.H] at h1
  rw [h.ρ] at h2
  have hb := hs.blk b blk rv h1 h2
  rcases hb.att with ⟨_, hz | ⟨xs, ho, hr⟩⟩ | ⟨l, g, q1, rfl, es, clock, q2, q3⟩
  · exact blk_row hb.uni (.inl hz)
  · rcases ho.2 with ⟨rfl, hn⟩ | ⟨g, cap, cur, rfl, hbg, hg, rest⟩
    · exact blk_row hb.uni (.inl ⟨List.eq_nil_of_length_eq_zero hn, none, rfl⟩)
    · cases cap with
      | zero =>
        have h0 : blk.es.length = 0 := by omega
        exact blk_row hb.uni (.inl ⟨List.eq_nil_of_length_eq_zero h0, some ⟨g, 0, none⟩, by rw [h0]⟩)
      | succ cap => exact blk_row hb.uni (.inr ⟨xs, ⟨ho.1, .inr ⟨g, cap + 1, cur, rfl, hbg, (h.same g (.inr ⟨b, _, h2, rfl⟩)).trans hg, rest⟩⟩, hr.mono (fun _ _ => cr_poke h)⟩)
  · exact ⟨hb.uni, .inr ⟨l, g, q1, rfl, es, clock, (h.same g (.inr ⟨b, _, h2, rfl⟩)).trans q2, q3⟩⟩
theorem Good.poke {m : Nat} {s s' : Sit} {N : Nat} {a : Act} {tm : TM} (hg : Good s N a tm) (h : Poked m s s') : Good s' N a tm := ⟨si_poke hg.si h, hg.size, fun t v hv => ⟨(hg.tm t v hv).1, vr_poke h (hg.tm t v hv).2⟩⟩
theorem ext_poke {s0 s s' : Sit} (he : Ext s0 s) (h : Poked s0.W.heap.size s s') : Ext s0 s' :=
  ⟨⟨h.os.trans he.os, h.tape.trans he.tape, h.output.trans he.output, by rw [h.size]; exact he.size, fun k hk hn => (h.low k hk).trans (he.frame k hk hn), by rw [h.F]; exact he.F, by rw [h.F]; exact he.F', by rw [h.ρ]; exact he.own, by rw [h.H, h.ρ]; exact he.H⟩, si_poke he.si h⟩
theorem mk_poke {m n : Nat} {s s' : Sit} {l : Nat} {ds : List Deferred} (h : Mk m s ds) (hp : Poked n s s') (hl : ∀ k, k ≠ l → s'.W.heap[k]? = s.W.heap[k]?) (hn : ∀ o, s.W.heap[l]? = some o → o ≠ .deferred (some [])) : Mk m s' ds := by
  obtain ⟨Ds, e, hd, h⟩ := h
  refine ⟨Ds, e, hd, fun D hD => ?_⟩
  obtain ⟨h1, h2, h3, h4⟩ := h D hD
  exact ⟨h1, (hl D (fun e => by subst e; exact hn _ h2 rfl)).trans h2, by rw [hp.ρ]; exact h3, by rw [hp.F]; exact h4⟩
/-- a function leaves with its marks. -/
theorem marks_leave {P : Program} {fn : Func} {tmps : Array Value} {R : Ending → World → Prop} : ∀ (Ds : List Nat) (m : Nat) (s : Sit), Ds.Nodup → (∀ D ∈ Ds, m ≤ D ∧ s.W.heap[D]? = some (.deferred (some [])) ∧ ¬ OwnG s.ρ D ∧ ¬ s.F D) →
    (∀ s', Poked m s s' → LeavesIn Fence.wide 0 P fn tmps R [] .returning s'.W) → LeavesInM Fence.wide 0 P fn tmps R (Ds.map fun D => (⟨.collected D, #[]⟩ : Deferred)) .returning s.W
  | [], m, s, _, _, h => h s (Poked.refl m s)
  | D :: Ds, m, s, hn, hD, h => by
    obtain ⟨h1, h2, h3, h4⟩ := hD D List.mem_cons_self
    have hp := poke_at (m := m) (.deferred none) h1 h4 h3
    refine ⟨by simp, .inl ⟨D, _, rfl, run_takeDeferred h2, ?_⟩⟩
    refine marks_leave Ds m ⟨s.W.putObj D (.deferred none), s.F, s.ρ, s.H⟩ (List.nodup_cons.1 hn).2 (fun E hE => ?_) (fun s' hs' => h s' (hp.trans hs'))
    obtain ⟨g1, g2, g3, g4⟩ := hD E (List.mem_cons_of_mem _ hE)
    exact ⟨g1, (World.putObj_heap_other (fun e => by subst e; exact (List.nodup_cons.1 hn).1 hE)).trans g2, g3, g4⟩
/-- a body's run, by whatever base. -/
theorem start_ok {P : Program} {N : Cx} {c : Code} {vs : List V} {H : List Blk} {Q : Exit → TM → List Blk → Prop} (n : Nat) (hle : vs.length ≤ N.n) (h : run P N n [.code c] (argTM 0 vs) H Q) {b : Base} (hb : b.Ok ∧ N.y b) {s : Sit} (hs : SI s) (hB : b.B s) (hH : s.H = H) {args : List Value} (hr : R2 (VR s) vs args) :
    c.wpIn (fe N.r) 0 P (QQ N b Q) { tmps := args.toArray ++ Array.replicate (N.n - args.toArray.size) undef, defers := [] } s.W := by
  have hlen : args.length = vs.length := hr.1.symm
  have hg : Good s N.n { tmps := args.toArray ++ Array.replicate (N.n - args.toArray.size) undef, defers := [] } (argTM 0 vs) := by
    refine ⟨hs, by simp; omega, fun t v hv => ?_⟩
    obtain ⟨_, h2⟩ := argTM_get _ _ _ _ hv
    simp only [Nat.sub_zero] at h2
    have ht := (List.getElem?_eq_some_iff.1 h2).1
    obtain ⟨u, hu, hru⟩ := hr.get h2
    refine ⟨by omega, ?_⟩
    have : (args.toArray ++ Array.replicate (N.n - args.toArray.size) undef).getD t undef = u := by
      rw [Array.getD_eq_getD_getElem?, Array.getElem?_append_left (by simp; omega)]
      simp [hu]
    rw [this]
    exact hru
  have := run_ok n _ _ _ _ h b s _ hb ⟨hB, Mk.nil _ _⟩ hg hH
  simp only [kx] at this
  refine wpIn_mono this ?_
  intro ex a w hk
  cases ex <;> exact hk
/-- a function that is no iterator, and no round. -/
def cx (n : Nat) : Cx := ⟨n, none, fun _ => True⟩
theorem call_of {P : Program} {g : FuncId} {fn : Func} {c : Code} {vs : List V} {H : List Blk} {R : V → List Blk → Prop} (n : Nat) (hf : P.funcs[g]? = some fn) (hname : (fn.name == "runtime.NumGoroutine") = false) (hb : fn.body = some c)
    (hle : vs.length ≤ fn.ntmps) {Q : Exit → TM → List Blk → Prop} (hQ : ∀ ex tm H', Q ex tm H' → fin P fn.results.toList H R ex tm H') (h : run P (cx fn.ntmps) n [.code c] (argTM 0 vs) H Q) : Call P false g vs H R := by
  refine ⟨Go.Proofs.enters_of hf hname hb, fun s args hs hH hr => ?_⟩
  refine (callsIn_wide (n := 0)).1 (callsIn_of_wp_marks hf hb trivial ?_)
  refine wpIn_mono (start_ok (N := cx fn.ntmps) n hle h ⟨ofExt_ok hs, trivial⟩ hs (Ext.refl hs) hH hr) ?_
  rintro ex a w ⟨hnp, ⟨s', tm, ⟨he, Ds, hds, hnd, hDs⟩, rfl, hg', hq0⟩ | ⟨_, hx⟩⟩
  rotate_left
  · exact hx.elim
  have hq := hQ _ _ _ hq0
  have key : (match resL P tm s'.H fn.results.toList with | some vs => noTups vs = true ∧ Ends H R (resultV vs) s'.H | none => False) → LeavesInM Fence.wide 0 P fn a.tmps (fun e w' => ∃ s'' r u, e = .returned u ∧ Ext s s'' ∧ s''.W = w' ∧ VR s'' r u ∧ R r s''.H ∧ (false = true → s.W.grownBy s''.W none)) a.defers .returning s'.W := by
    intro hq
    split at hq
    · rename_i vs' hvs
      rw [hds]
      refine marks_leave Ds s.W.heap.size s' hnd hDs (fun sp hp => ?_)
      obtain ⟨hnt, hends⟩ := hq
      have hgp := hg'.poke hp
      rw [← hp.H] at hvs
      obtain ⟨us, h1, h2⟩ := resL_ok hgp _ _ hvs
      have h1' := noTups_ok _ _ hnt h1
      have hrun : (results fn a.tmps).run P sp.W = .ok (if h : us.toArray.size = 1 then us.toArray[0] else .tuple us.toArray) sp.W := by
        have e0 : results fn a.tmps = (do let vs ← fn.results.mapM (resF a); Pure.pure (if h : vs.size = 1 then vs[0] else .tuple vs)) := by
          unfold results
          congr 1
        rw [e0]
        simp only [Array.mapM_eq_mapM_toList, Sem.run_bind, Sem.run_map, h2, Result.andThen_ok]
        rfl
      have hv : VR sp (resultV vs') (if h : us.toArray.size = 1 then us.toArray[0] else .tuple us.toArray) := by
        cases vs' with
        | nil => have := h1.nil_left; subst this; exact ⟨[], rfl, R2.nil⟩
        | cons x r =>
          obtain ⟨y, m, rfl, q1, q2⟩ := h1.uncons
          cases r with
          | nil => have := q2.nil_left; subst this; simpa [resultV] using q1
          | cons x' r' =>
            obtain ⟨y', m', rfl, q3, q4⟩ := q2.uncons
            rw [dif_neg (by simp)]
            exact ⟨_, rfl, h1'⟩
      obtain ⟨s'', r', e1, e2, e3, e4⟩ := hends s sp _ hs hH (ext_poke he hp) hp.H hv
      exact ⟨_, hrun, s'', r', _, rfl, e1, e2, e3, e4, fun h => by cases h⟩
    · exact hq.elim
  cases ex with
  | normal => exact key hq
  | ret => exact key hq
  | _ => exact hq.elim
end Go.En
