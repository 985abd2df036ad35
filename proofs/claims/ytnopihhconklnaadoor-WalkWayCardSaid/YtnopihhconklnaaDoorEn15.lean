import Derived.Test.YtnopihhconklnaaDoorEn14
import Derived.RangeFuncBox
/- A range over a function: the iterator's run, the rounds' runs, and what stands behind. -/
namespace Go.En
open Go Go.RowKit
set_option linter.unusedSimpArgs false
set_option linter.unusedVariables false

theorem exThen {x : Exit} {K : Act → World → Prop} {Q : Exit → Act → World → Prop} {a : Act} {w : World} (h1 : x = .normal → K a w) (h2 : x ≠ .normal → Q x a w) : Exit.then K Q x a w := by
  cases x <;> first | exact h1 rfl | exact h2 (by simp)
/-- a record of a loop, there and back. -/
theorem ext_turn {y xa xb xc : Sit} {l : Nat} {o1 o2 : Obj} (hy : SI y) (h1 : Ext y xa) (hb : xb = ⟨xa.W.putObj l o1, xa.F, xa.ρ, xa.H⟩) (h2 : Ext xb xc) (ho : y.W.heap[l]? = some o2) (hF : ¬ y.F l) (hO : ¬ OwnG y.ρ l) :
    Ext y ⟨xc.W.putObj l o2, xc.F, xc.ρ, xc.H⟩ := by
  have hl := (Array.getElem?_eq_some_iff.1 ho).1
  have eF : xb.F = xa.F := by rw [hb]
  have eρ : xb.ρ = xa.ρ := by rw [hb]
  have eH : xb.H = xa.H := by rw [hb]
  have eS : xb.W.heap.size = xa.W.heap.size := by rw [hb]; exact World.putObj_size
  have ownc : ∀ g, OwnG xc.ρ g → OwnG y.ρ g ∨ y.W.heap.size ≤ g := fun g hg => by
    rcases h2.own g hg with h | h
    · rw [eρ] at h; exact h1.own g h
    · rw [eS] at h; exact .inr (Nat.le_trans h1.size h)
  have Fc : ∀ k, xc.F k → y.F k ∨ y.W.heap.size ≤ k ∨ OwnG y.ρ k := fun k hk => by
    rcases h2.F' k hk with h | h | h
    · rw [eF] at h; exact h1.F' k h
    · rw [eS] at h; exact .inr (.inl (Nat.le_trans h1.size h))
    · rw [eρ] at h
      rcases h1.own k h with h | h
      · exact .inr (.inr h)
      · exact .inr (.inl h)
  have hFc : ¬ xc.F l := fun h => by rcases Fc l h with h | h | h <;> first | exact hF h | exact hO h | omega
  have hOc : ¬ OwnG xc.ρ l := fun h => by rcases ownc l h with h | h <;> first | exact hO h | omega
  have hp := poke_at (m := 0) (s := xc) o2 (Nat.zero_le l) hFc hOc
  refine ⟨⟨?_, ?_, ?_, ?_, fun k hk hn => ?_, fun k hk => h2.F k (by rw [eF]; exact h1.F k hk), Fc, ownc, fun b blk rv g1 g2 => ?_⟩, si_poke h2.si hp⟩
  · show xc.W.os = _; rw [h2.os, hb]; exact h1.os
  · show xc.W.tape = _; rw [h2.tape, hb]; exact h1.tape
  · show xc.W.output = _; rw [h2.output, hb]; exact h1.output
  · show _ ≤ (xc.W.putObj l o2).heap.size
    rw [World.putObj_size]
    exact Nat.le_trans h1.size (by rw [← eS]; exact h2.size)
  · by_cases e : k = l
    · subst e
      show (xc.W.putObj k o2).heap[k]? = _
      rw [World.putObj_heap_same (Nat.lt_of_lt_of_le (Nat.lt_of_lt_of_le hl h1.size) (by rw [← eS]; exact h2.size)), ho]
    · show (xc.W.putObj l o2).heap[k]? = _
      rw [World.putObj_heap_other e, h2.frame k (by rw [eS]; exact Nat.lt_of_lt_of_le hk h1.size) (fun h => by
        rw [eρ] at h
        rcases h1.own k h with h | h
        · exact hn h
        · omega), hb]
      show (xa.W.putObj l o1).heap[k]? = _
      rw [World.putObj_heap_other e]
      exact h1.frame k hk hn
  · obtain ⟨b1, r1, e1, e2, e3, e4⟩ := h1.H b blk rv g1 g2
    obtain ⟨b2, r2, f1, f2, f3, f4⟩ := h2.H b b1 r1 (by rw [eH]; exact e1) (by rw [eρ]; exact e2)
    refine ⟨b2, r2, f1, f2, Nat.le_trans e3 f3, fun hv => ?_⟩
    have hv1 : b1.ver = blk.ver := by omega
    have hv2 : b2.ver = b1.ver := by omega
    obtain ⟨x1, x2, x3⟩ := e4 hv1
    obtain ⟨y1, y2, y3⟩ := f4 hv2
    exact ⟨y1.trans x1, y2.trans x2, y3.trans x3⟩
/-- what an iterator may lean on at a call of yield. -/
def Yok (P : Program) (nI l : Nat) (Y : List V → List Blk → Prop) (Z : List V → List Blk → List Blk → Prop) (ZX : Code → List V → List Blk → List Blk → Prop) (SX : Code → List Blk → Prop) (b : Base) : Prop :=
  ∀ s a vs us tm, b.At s a → Good s nI a tm → Y vs s.H → R2 (VR s) vs us → YieldAt Fence.wide 0 P l us.toArray s.W (fun e w' =>
    (e = .returned (.bool true) ∧ ∃ s', Ext s s' ∧ s'.W = w' ∧ Z vs s.H s'.H) ∨
    (e = .returned (.bool false) ∧ ∃ c s' b2, Base.Ok b2 ∧ b2.At s' a ∧ Good s' nI a tm ∧ s'.W = w' ∧ ZX c vs s.H s'.H ∧ ∀ x a', b2.At x a' → SX c x.H → b.X a' x.W))
theorem opsIn_monoQ {P : Program} {r : Option Nat} {os : Array Oper} {Q Q' : Exit → Act → World → Prop} (h : ∀ ex a w, Q ex a w → Q' ex a w) : ∀ (l : List Nat) (a : Act) (w : World), wpOpsIn (fe r) 0 P os Q l a w → wpOpsIn (fe r) 0 P os Q' l a w
  | [], a, w, hh => h _ _ _ hh
  | i :: l, a, w, hh => by
    unfold wpOpsIn at hh ⊢
    split
    · rename_i e; rw [e] at hh; exact opsIn_monoQ h l _ _ hh
    · rename_i o e
      rw [e] at hh
      simp only at hh
      split
      · rename_i hw
        rw [if_pos hw] at hh
        exact oper_monoQ h (fun a w => opsIn_monoQ h l a w) hh
      · rename_i hw
        rw [if_neg hw] at hh
        exact ⟨hh.1, opsIn_monoQ h l _ _ hh.2⟩
  where
  oper_monoQ {P : Program} {r : Option Nat} {Q Q' : Exit → Act → World → Prop} (h : ∀ ex a w, Q ex a w → Q' ex a w) {o : Oper} {a : Act} {w : World} {K K' : Act → World → Prop} (hK : ∀ a w, K a w → K' a w) (hh : o.wpIn (fe r) 0 P a w K Q) : o.wpIn (fe r) 0 P a w K' Q' := by
    unfold Oper.wpIn at *
    refine ⟨hh.1, ?_⟩
    have hh := hh.2
    generalize (o.semAt (fe r).round a.eval).run P w = r at *
    have hL : LetsOut Q → LetsOut Q' := fun ⟨a, w, hq⟩ => ⟨a, w, h _ _ _ hq⟩
    cases r with
    | ok x w' =>
      cases x <;> simp only [Oper.uponIn] at hh ⊢ <;>
        first
          | exact hK _ _ hh
          | exact ⟨hh.1, CallsIn.mono hh.2 (fun e w'' he => by cases e <;> first | exact hK _ _ he | exact h _ _ _ he | exact hL he)⟩
          | exact ⟨hh.1, RowsIn.mono hh.2 (fun _ _ he => hK _ _ he)⟩
          | exact ⟨hh.1, RoundIn.mono hh.2 (fun e w'' he => by cases e <;> first | exact hK _ _ he | exact h _ _ _ he | exact hL he)⟩
    | halt x w' => cases x <;> simp only [Oper.uponIn] at hh ⊢ <;> exact h _ _ _ hh
theorem opIn_monoQ {P : Program} {r : Option Nat} {os : Array Oper} {Q Q' : Exit → Act → World → Prop} (h : ∀ ex a w, Q ex a w → Q' ex a w) {K K' : Act → World → Prop} (hK : ∀ a w, K a w → K' a w) {i : Nat} {a : Act} {w : World} (hh : wpOpIn (fe r) 0 P os Q i K a w) : wpOpIn (fe r) 0 P os Q' i K' a w := by
  unfold wpOpIn at hh ⊢
  split
  · rename_i e; rw [e] at hh; exact hK _ _ hh
  · rename_i o e
    rw [e] at hh
    simp only at hh
    split
    · rename_i hw; rw [if_pos hw] at hh; exact opsIn_monoQ.oper_monoQ h hK hh
    · rename_i hw; rw [if_neg hw] at hh; exact ⟨hh.1, hK _ _ hh.2⟩
theorem anyIn_monoQ {P : Program} {r : Option Nat} {os : Array Oper} {Q Q' : Exit → Act → World → Prop} (h : ∀ ex a w, Q ex a w → Q' ex a w) : ∀ (n : Nat) (L : Array Bool) (a : Act) (w : World), wpAnyIn (fe r) 0 P .any os Q n L a w → wpAnyIn (fe r) 0 P .any os Q' n L a w
  | 0, L, a, w, hh => ⟨hh.1, h _ _ _ hh.2⟩
  | n + 1, L, a, w, hh => ⟨fun e => h _ _ _ (hh.1 e), fun i hi => opIn_monoQ h (fun a w => anyIn_monoQ h n _ a w) (hh.2 i hi)⟩
theorem wpA_monoQ {P : Program} {r : Option Nat} {os : Array Oper} {Q Q' : Exit → Act → World → Prop} {S : World → Prop} {ds : List Nat} (h : ∀ ex a w, Q ex a w → Q' ex a w) : ∀ (n : Nat) (L : Array Bool) (a : Act) (w : World), wpA (fe r) 0 P .any os Q S ds n L a w → wpA (fe r) 0 P .any os Q' S ds n L a w
  | 0, L, a, w, hh => ⟨hh.1, h _ _ _ hh.2⟩
  | n + 1, L, a, w, hh => ⟨fun e => h _ _ _ (hh.1 e), fun i hi => opIn_monoQ h (fun a' w' hk => ⟨fun hd => anyIn_monoQ h n _ a' w' (hk.1 hd), fun hd => ⟨(hk.2 hd).1, wpA_monoQ h n _ a' w' (hk.2 hd).2⟩⟩) (hh.2 i hi)⟩
theorem kx_mono {P : Program} {r : Option Nat} {Q Q' : Exit → Act → World → Prop} (h : ∀ ex a w, Q ex a w → Q' ex a w) : ∀ (k : List K) (ex : Exit) (a : Act) (w : World), kx P r k ex Q a w → kx P r k ex Q' a w
  | [], ex, a, w, hh => h _ _ _ hh
  | .code c :: k, ex, a, w, hh => by
    cases ex with
    | normal => simp only [kx] at hh ⊢; exact wpIn_mono hh (fun e a w hk => kx_mono h k e a w hk)
    | _ => simp only [kx] at hh ⊢; exact kx_mono h k _ a w hh
  | .ops os l :: k, ex, a, w, hh => by
    cases ex with
    | normal => simp only [kx] at hh ⊢; exact opsIn_monoQ (fun e a w hk => kx_mono h k e a w hk) l a w hh
    | _ => simp only [kx] at hh ⊢; exact kx_mono h k _ a w hh
  | .any os ds l :: k, ex, a, w, hh => by
    cases ex with
    | normal => simp only [kx] at hh ⊢; exact fun hok => wpA_monoQ (fun e a w hk => kx_mono h k e a w hk) _ _ a w (hh hok)
    | _ => simp only [kx] at hh ⊢; exact kx_mono h k _ a w hh
  | .blk id :: k, ex, a, w, hh => by
    cases ex with
    | exit id' =>
      simp only [kx] at hh ⊢
      split
      · rename_i e; rw [if_pos e] at hh; exact kx_mono h k _ a w hh
      · rename_i e; rw [if_neg e] at hh; exact kx_mono h k _ a w hh
    | _ => simp only [kx] at hh ⊢; exact kx_mono h k _ a w hh
theorem yield_mono {F : Fence} {m : Nat} {P : Program} {l : Nat} {args : Array Value} {W : World} {R R' : Ending → World → Prop} (h : YieldAt F m P l args W R) (hr : ∀ e w, R e w → R' e w) : YieldAt F m P l args W R' := by
  obtain ⟨fn, tmps, as1, body, h1, h2⟩ := h
  exact ⟨fn, tmps, as1, body, h1, h2.mono hr⟩
theorem shows_run {P : Program} {N : Cx} {n : Nat} {k : List K} {tm : TM} {H : List Blk} {Q : Exit → TM → List Blk → Prop} (h : run P N n k tm H Q) : Shows P N k .normal tm H Q := run_ok n _ _ _ _ h
/-- a call of yield, in an iterator. -/
theorem yld_ok {P : Program} {nI l : Nat} {Y : List V → List Blk → Prop} {Z : List V → List Blk → List Blk → Prop} {ZX : Code → List V → List Blk → List Blk → Prop} {SX : Code → List Blk → Prop}
    {vs : List V} {dst : Option Tmp} {k : List K} {tm : TM} {G : List Blk} {Q : Exit → TM → List Blk → Prop} (n : Nat) (hd : match dst with | some d => d < nI | none => True) (hY : Y vs G)
    (h1 : ∀ G', Z vs G G' → run P ⟨nI, none, Yok P nI l Y Z ZX SX⟩ n k (put dst (VB true) tm) G' Q)
    (h2 : ∀ c G', ZX c vs G G' → run P (cx nI) n k (put dst (VB false) tm) G' (fun ex _ G'' => ex = .ret ∧ SX c G'')) : YieldK P ⟨nI, none, Yok P nI l Y Z ZX SX⟩ l vs dst k tm G Q := by
  rintro b s a ⟨hb, hy⟩ hat hg rfl us hus
  refine yield_mono (hy s a vs us tm hat hg hY hus) ?_
  rintro e w' (⟨rfl, s', he, rfl, hz⟩ | ⟨rfl, c, s', b2, hb2, hat2, hg2, rfl, hz, hX⟩)
  · refine ⟨_, rfl, ?_⟩
    have hg' := hg.ext he
    have hv : VR s' (VB true) (.bool true) := ⟨rfl, rfl⟩
    refine shows_run (h1 _ hz) b s' _ ⟨hb, hy⟩ ((hat.ext hb hg.si he).put _ _) ?_ rfl
    cases dst with
    | none => exact hg'
    | some d => exact hg'.put hd hv
  · refine ⟨_, rfl, ?_⟩
    have hv : VR s' (VB false) (.bool false) := ⟨rfl, rfl⟩
    have hgd : Good s' nI (a.put dst (.bool false)) (put dst (VB false) tm) := by
      cases dst with
      | none => exact hg2
      | some d => exact hg2.put hd hv
    have hb2' : (⟨b2.B, fun _ _ => False, b2.n0, b2.m⟩ : Base).Ok := ⟨hb2.ext, hb2.drop, hb2.le, hb2.size⟩
    have := shows_run (h2 c _ hz) ⟨b2.B, fun _ _ => False, b2.n0, b2.m⟩ s' _ ⟨hb2', trivial⟩ (hat2.put _ _) hgd rfl
    refine kx_mono ?_ k _ _ _ this
    rintro ex a' w ⟨hnp, ⟨x, tm', hx, rfl, hgx, rfl, hs⟩ | ⟨_, hx⟩⟩
    · exact ⟨by simp, .inr ⟨rfl, hX x a' hx hs⟩⟩
    · exact hx.elim
theorem vr_lt {s : Sit} {n : Nat} {v : V} {u : Value} (h : VR s v u) (hn : s.H.length ≤ n) : v.lt n = true := by
  have k0 : ∀ (c : C) (u : Value), CR0 s c u → c.lt0 n = true := fun c u h => by
    cases c with
    | own b ver off m => obtain ⟨_, blk, rv, h1, _⟩ := h; have := (List.getElem?_eq_some_iff.1 h1).1; simp [C.lt0]; omega
    | ptr b ver i j => obtain ⟨_, blk, rv, h1, _⟩ := h; have := (List.getElem?_eq_some_iff.1 h1).1; simp [C.lt0]; omega
    | mp b ver => obtain ⟨_, blk, rv, h1, _⟩ := h; have := (List.getElem?_eq_some_iff.1 h1).1; simp [C.lt0]; omega
    | _ => rfl
  have kl : ∀ (l : List C) (us : List Value), R2 (CR0 s) l us → C.lts n l = true := by
    intro l
    induction l with
    | nil => intros; rfl
    | cons c r ih => intro us h; obtain ⟨y, m, rfl, h1, h2⟩ := h.uncons; simp [C.lts, k0 c y h1, ih m h2]
  have kc : ∀ (c : C) (u : Value), CR s c u → c.lt n = true := fun c u h => by
    cases c with
    | fn f caps => obtain ⟨us, _, h2⟩ := h; exact kl caps us h2
    | v x => exact k0 (.v x) u h
    | row es => exact k0 (.row es) u h
    | own b ver off m => exact k0 (.own b ver off m) u h
    | ptr b ver i j => exact k0 (.ptr b ver i j) u h
    | rptr e j => exact k0 (.rptr e j) u h
    | e0 => exact k0 .e0 u h
    | yld l => exact k0 (.yld l) u h
    | mp b ver => exact k0 (.mp b ver) u h
  have kcl : ∀ (l : List C) (us : List Value), R2 (CR s) l us → ltL n l = true := by
    intro l
    induction l with
    | nil => intros; rfl
    | cons c r ih => intro us h; obtain ⟨y, m, rfl, h1, h2⟩ := h.uncons; simp [ltL, kc c y h1, ih m h2]
  have k1 : ∀ (v : V) (u : Value), VR1 s v u → v.lt1 n = true := fun v u h => by
    cases v with
    | c x => exact kc x u h
    | agg cs => obtain ⟨us, _, h2⟩ := h; exact kcl cs us h2
    | tup vs => exact h.elim
  have kv : ∀ (l : List V) (us : List Value), R2 (VR1 s) l us → ltVs n l = true := by
    intro l
    induction l with
    | nil => intros; rfl
    | cons c r ih => intro us h; obtain ⟨y, m, rfl, h1, h2⟩ := h.uncons; simp [ltVs, k1 c y h1, ih m h2]
  cases v with
  | tup vs => obtain ⟨us, _, h2⟩ := h; exact kv vs us h2
  | c x => exact k1 (.c x) u h
  | agg cs => exact k1 (.agg cs) u h
theorem Poked.le {m m' : Nat} {s s' : Sit} (h : Poked m s s') (hm : m' ≤ m) : Poked m' s s' := ⟨h.F, h.ρ, h.H, h.os, h.tape, h.output, h.size, fun k hk => h.low k (by omega), h.same⟩
theorem ext_grown {s : Sit} (hs : SI s) {W' : World} (hg : s.W.grownBy W' none) : Ext s ⟨W', s.F, s.ρ, s.H⟩ := by
  have e0 : Ext0 s ⟨W', s.F, s.ρ, s.H⟩ := ⟨hg.os, hg.tape, hg.output, hg.size, fun k hk _ => hg.block k hk (by simp), fun _ h => h, fun _ h => .inl h, fun _ h => .inl h, fun b blk rv h1 h2 => ⟨blk, rv, h1, h2, Nat.le_refl _, fun _ => ⟨rfl, rfl, rfl⟩⟩⟩
  exact ⟨e0, ⟨hs.len, fun b blk rv h1 h2 => (hs.blk b blk rv h1 h2).ext hs e0 (fun g hg' => hg.block g (OwnG.lt hs ⟨b, rv, h2, hg'⟩) (by simp)), hs.ne, hs.nf, fun k hk => Nat.lt_of_lt_of_le (hs.fs k hk) hg.size, hs.gl.mono (e0.fheap hs) (fun _ h => h)⟩⟩
/-- yield's arguments in the loop's left sides. -/
def bindTM : List Tmp → List V → TM → TM
  | p :: ps, v :: vs, tm => bindTM ps vs ((p, v) :: tm)
  | _, _, tm => tm
theorem bind_good {s : Sit} {N : Nat} : ∀ (ps : List Tmp) (vs : List V) (us : List Value) (tmps : Array Value) (tm : TM), (∀ p ∈ ps, p < N) → R2 (VR s) vs us → Good s N { tmps := tmps, defers := [] } tm →
    Good s N { tmps := (ps.zip us).foldl (fun t (p, v) => t.setIfInBounds p v) tmps, defers := [] } (bindTM ps vs tm)
  | [], vs, us, tmps, tm, _, _, hg => by simpa [bindTM] using hg
  | p :: ps, [], us, tmps, tm, _, hr, hg => by have := hr.nil_left; subst this; simpa [bindTM] using hg
  | p :: ps, v :: vs, us, tmps, tm, hp, hr, hg => by
    obtain ⟨u, m, rfl, h1, h2⟩ := hr.uncons
    have := bind_good ps vs m (tmps.setIfInBounds p u) ((p, v) :: tm) (fun q hq => hp q (List.mem_cons_of_mem _ hq)) h2 (by
      have := hg.put (d := p) (hp p List.mem_cons_self) h1
      exact this)
    simpa [bindTM] using this
/-- a round's end. -/
def endR (Z : List V → List Blk → List Blk → Prop) (ZX : Code → List V → List Blk → List Blk → Prop) (vs : List V) (G : List Blk) (ex : Exit) (tm : TM) (G2 : List Blk) : Prop := match ex with
  | .normal => ∃ G3, Weak [] G2 [] G3 ∧ G.length ≤ G3.length ∧ Z vs G G3
  | .ret => ∃ G3, Weak [] G2 [] G3 ∧ G.length ≤ G3.length ∧ ZX .ret vs G G3
  | .exit id => ∃ G3, Weak [] G2 [] G3 ∧ G.length ≤ G3.length ∧ ZX (.exit id) vs G G3
  | _ => False
/-- the frame of a round. -/
def rx (n l : Nat) : Cx := ⟨n, some l, fun _ => True⟩
/-- a range over a function. Y: what holds at a call of yield; Z: what a round that goes on does; ZX: what one does that leaves; S: the iterator has ended; SX: it has been stopped. -/
theorem range_ok {P : Program} {N : Cx} {k : List K} {tm : TM} {H : List Blk} {Q : Exit → TM → List Blk → Prop} (n n' : Nat) (hr : N.r = none) {g : Operand} {ps : Array Tmp} {assign body : Code} {gf : FuncId} {caps : List C} (he : ev tm g = some (.c (.fn gf caps)))
    {fI : Func} {cI : Code} (hf : P.funcs[gf]? = some fI) (hname : (fI.name == "runtime.NumGoroutine") = false) (hbd : fI.body = some cI) (hres : fI.results = #[]) (hle : caps.length + 1 ≤ fI.ntmps) (hps : ∀ p ∈ ps.toList, p < N.n)
    (Y : List V → List Blk → Prop) (Z : List V → List Blk → List Blk → Prop) (ZX : Code → List V → List Blk → List Blk → Prop) (S : List Blk → Prop) (SX : Code → List Blk → Prop)
    (hround : ∀ l vs G, Y vs G → vs.length = ps.size ∧ run P (rx N.n l) n [.code assign] (bindTM ps.toList vs tm) G (fun ex tm' G' => ex = .normal ∧ Shows P (rx N.n l) [.code body] .normal tm' G' (endR Z ZX vs G)))
    (hiter : ∀ l, run P ⟨fI.ntmps, none, Yok P fI.ntmps l Y Z ZX SX⟩ n' [.code cI] (argTM 0 (.c (.yld l) :: caps.map .c)) H (fun ex tm G => (ex = .normal ∨ ex = .ret) ∧ S G))
    (hdone : ∀ G, S G → Shows P N k .normal tm G Q)
    (hstop : ∀ c G, SX c G → (c = .ret ∧ Shows P N k .ret tm G Q) ∨ ∃ id, c = .exit id ∧ Shows P N k (.exit id) tm G Q) :
    Here P N (.code (.rangeFunc g ps assign body) :: k) tm H Q := by
  obtain ⟨nn, r, yy⟩ := N
  simp only at hr hps hround
  subst hr
  rintro b s a ⟨hb, hy⟩ hat hg rfl
  simp only [kx]
  refine wpIn_rangeFunc (F := fe none) ?_
  intro fn _
  obtain ⟨us0, hgu, hus0⟩ := ev_ok hg he
  obtain ⟨rec, hrec⟩ : ∃ rec : LoopState → Option Code → Loop, rec = fun st pe => { state := st, pending := pe, fn, tmps := a.tmps, params := ps, assign, body, defers := s.W.heap.size } := ⟨_, rfl⟩
  obtain ⟨D, hD⟩ : ∃ D, D = s.W.heap.size := ⟨_, rfl⟩
  obtain ⟨W1, hW1⟩ : ∃ W1, (s.W.alloc (.deferred (some []))).alloc (.loop (rec .ready none)) = W1 := ⟨_, rfl⟩
  have hgr : s.W.grownBy W1 none := by rw [← hW1]; exact grown_trans (World.grownBy_alloc _ _ none) (World.grownBy_alloc _ _ none)
  have hsz : W1.heap.size = D + 2 := by rw [← hW1, hD]; simp
  have hL1 : W1.heap[D + 1]? = some (.loop (rec .ready none)) := by
    rw [← hW1, hD]; have := World.alloc_heap_new (s.W.alloc (.deferred (some []))) (.loop (rec .ready none)); rwa [World.size_alloc] at this
  have hK1 : W1.heap[D]? = some (.deferred (some [])) := by
    rw [← hW1, hD]; exact (Below.heap_alloc _ _ _ (by simp)).trans (World.alloc_heap_new s.W _)
  have hx1 := ext_grown hg.si hgr
  obtain ⟨s1, hs1⟩ : ∃ s1 : Sit, s1 = ⟨W1, s.F, s.ρ, s.H⟩ := ⟨_, rfl⟩
  rw [← hs1] at hx1
  have hW : s1.W = W1 := by rw [hs1]
  -- neither of the two blocks is anybody's
  have hno : ∀ x : Sit, Ext s1 x → ∀ j, D ≤ j → j < D + 2 → ¬ OwnG x.ρ j ∧ ¬ x.F j := by
    intro x hx j h1 h2
    have o1 : ¬ OwnG s1.ρ j := fun h => by
      rw [hs1] at h
      have := OwnG.lt hg.si h
      omega
    have f1 : ¬ s1.F j := fun h => by
      rw [hs1] at h
      have := hg.si.fs j h
      omega
    refine ⟨fun h => ?_, fun h => ?_⟩
    · rcases hx.own j h with h | h
      · exact o1 h
      · rw [hW] at h; omega
    · rcases hx.F' j h with h | h | h
      · exact f1 h
      · rw [hW] at h; omega
      · exact o1 h
  have hat1 : ∀ x : Sit, Ext s1 x → ∀ (j : Nat) (o : Obj), D ≤ j → W1.heap[j]? = some o → x.W.heap[j]? = some o := by
    intro x hx j o h1 h2
    have hlt := (Array.getElem?_eq_some_iff.1 h2).1
    have hn := (hno s1 (Ext.refl hx1.si) j h1 (by omega)).1
    rw [hx.frame j (by rw [hW]; exact hlt) hn, hW]
    exact h2
  -- what stands behind
  have hfin : ∀ (x : Sit) (aI : Act) (st : LoopState) (pe : Option Code), Ext s x → st ≠ .busy → x.W.heap[D + 1]? = some (.loop (rec st pe)) → x.W.heap[D]? = some (.deferred (some [])) → (∀ j, D ≤ j → j < D + 2 → ¬ OwnG x.ρ j ∧ ¬ x.F j) → Mk (D + 2) x aI.defers →
      (match pe with | none => Shows P ⟨nn, none, yy⟩ k .normal tm x.H Q | some c => (c = .ret ∧ Shows P ⟨nn, none, yy⟩ k .ret tm x.H Q) ∨ ∃ id, c = .exit id ∧ Shows P ⟨nn, none, yy⟩ k (.exit id) tm x.H Q) →
      LeavesInM Fence.wide 0 P fI aI.tmps (rangePost (fe none) 0 P (D + 1) (fun ex' a' w' => kx P none k ex' (QQ ⟨nn, none, yy⟩ b Q) a' w') { a with defers := [({ target := .collected D, args := #[] } : Deferred)] ++ a.defers }) aI.defers .returning x.W := by
    intro x aI st pe hx hst hl hd hnn hmk hgo
    obtain ⟨Ds, hds, hnd, hDs⟩ := hmk
    rw [hds]
    refine marks_leave Ds (D + 2) x hnd hDs (fun sp hp => ?_)
    have hl' := (hp.low (D + 1) (by omega)).trans hl
    have hd' := (hp.low D (by omega)).trans hd
    have hel : (Instr.endLoop (D + 1)).run P sp.W = .ok pe (sp.W.putObj (D + 1) (.loop { rec st pe with state := .exhausted })) := by
      have := run_endLoop (P := P) hl' (by rw [hrec]; exact hst)
      rw [this, hrec]
    refine ⟨_, results_none hres _ _ _, pe, _, hel, ?_⟩
    obtain ⟨x4, hx4⟩ : ∃ x4 : Sit, x4 = ⟨sp.W.putObj (D + 1) (.loop { rec st pe with state := .exhausted }), sp.F, sp.ρ, sp.H⟩ := ⟨_, rfl⟩
    have hnl := hnn (D + 1) (by omega) (by omega)
    have hp4 : Poked (D + 1) sp x4 := by rw [hx4]; exact poke_at _ (Nat.le_refl _) (by rw [hp.F]; exact hnl.2) (by rw [hp.ρ]; exact hnl.1)
    have hpx : Poked (D + 1) x x4 := (hp.le (by omega)).trans hp4
    have hex4 : Ext s x4 := ext_poke hx (hpx.le (by omega))
    have hd4 : x4.W.heap[D]? = some (.deferred (some [])) := (hp4.low D (by omega)).trans hd'
    have hn4 := hnn D (Nat.le_refl _) (by omega)
    have hat4 : b.At x4 { a with defers := [({ target := .collected D, args := #[] } : Deferred)] ++ a.defers } := by
      refine ⟨hb.ext s x4 hg.si hat.1 hex4, ?_⟩
      obtain ⟨Es, hes, hned, hEs⟩ := hat.2
      obtain ⟨Es', hes', hned', hEs'⟩ := hat.2.ext hex4
      refine ⟨D :: Es, by simp [hes], List.nodup_cons.2 ⟨fun hm => ?_, hned⟩, fun E hE => ?_⟩
      · have := (Array.getElem?_eq_some_iff.1 (hEs D hm).2.1).1
        omega
      · rcases List.mem_cons.1 hE with rfl | hE
        · have := hb.size s hat.1
          exact ⟨by omega, hd4, by rw [hpx.ρ]; exact hn4.1, by rw [hpx.F]; exact hn4.2⟩
        · have e : Es = Es' := by
            have e := hes.symm.trans hes'
            exact (List.map_inj_right (fun p q h => by simpa using h)).1 e
          exact hEs' E (e ▸ hE)
    have hg4 : Good x4 nn { a with defers := [({ target := .collected D, args := #[] } : Deferred)] ++ a.defers } tm := by
      have := hg.ext hex4
      exact ⟨this.si, this.size, this.tm⟩
    have hH4 : x4.H = x.H := hpx.H
    have hW4 : x4.W = sp.W.putObj (D + 1) (.loop { rec st pe with state := .exhausted }) := by rw [hx4]
    rw [← hW4]
    cases pe with
    | none => exact hgo b x4 _ ⟨hb, hy⟩ hat4 hg4 hH4
    | some c =>
      rcases hgo with ⟨rfl, hgo⟩ | ⟨id, rfl, hgo⟩
      · exact wpIn_ret (hgo b x4 _ ⟨hb, hy⟩ hat4 hg4 hH4)
      · exact wpIn_exit (hgo b x4 _ ⟨hb, hy⟩ hat4 hg4 hH4)
  let b1 : Base := ⟨fun x => Ext s1 x, fun aI w => ∃ c x, Ext s x ∧ x.W = w ∧ SX c x.H ∧ x.W.heap[D + 1]? = some (.loop (rec .done (some c))) ∧ x.W.heap[D]? = some (.deferred (some [])) ∧ (∀ j, D ≤ j → j < D + 2 → ¬ OwnG x.ρ j ∧ ¬ x.F j) ∧ Mk (D + 2) x aI.defers, s.H.length, D + 2⟩
  have hb1 : b1.Ok := by
    have hH1 : s1.H = s.H := by rw [hs1]
    refine ⟨fun x x' _ h h' => Ext.trans hx1.si h h', fun x n h hn hsi => h.drop (by rw [hH1]; exact hn) hsi, fun x h => ?_, fun x h => ?_⟩
    · have := h.hlen hx1.si
      rw [hH1] at this
      exact this
    · have := h.size
      rw [hW, hsz] at this
      exact this
  have hok1 : Yok P fI.ntmps (D + 1) Y Z ZX SX b1 := by
    intro y aI vs us tmI hatI hgI hYv hus
    have hy1 : Ext s1 y := hatI.1
    have hly := hat1 y hy1 (D + 1) _ (by omega) hL1
    have hnl := hno y hy1 (D + 1) (by omega) (by omega)
    obtain ⟨hvl, hrun⟩ := hround (D + 1) vs y.H hYv
    have hul : us.length = ps.size := by rw [← hus.1]; exact hvl
    have hexy : Ext s y := hx1.trans hg.si hy1
    have hrunY : (Instr.yield (D + 1) us.toArray).run P y.W = .ok (.round (D + 1) fn ((ps.zip us.toArray).foldl (fun t (p, v) => t.setIfInBounds p v) a.tmps) assign body) y.W := by
      have := run_yield (P := P) (args := us.toArray) hly (by rw [hrec]; simp [hul])
      rw [hrec] at this
      exact this
    refine ⟨fn, _, assign, body, hrunY, roundIn_of_wpIn trivial ?_⟩
    have hgR : Good y nn { tmps := (ps.zip us.toArray).foldl (fun t (p, v) => t.setIfInBounds p v) a.tmps, defers := [] } (bindTM ps.toList vs tm) := by
      have h0 : Good y nn { tmps := a.tmps, defers := [] } tm := by
        have := hg.ext hexy
        exact ⟨this.si, this.size, this.tm⟩
      have := bind_good ps.toList vs us a.tmps tm hps hus h0
      have e : (ps.zip us.toArray).foldl (fun t (p, v) => t.setIfInBounds p v) a.tmps = (ps.toList.zip us).foldl (fun t (p, v) => t.setIfInBounds p v) a.tmps := by
        rw [← Array.foldl_toList]
        simp
      rw [e]
      exact this
    have h1 := shows_run hrun (ofExt y) y _ ⟨ofExt_ok hgI.si, trivial⟩ (ofExt_at hgI.si rfl) hgR rfl
    simp only [kx] at h1
    refine wpIn_mono h1 ?_
    intro ex a1 wa hq
    have hq : QQ (rx nn (D + 1)) (ofExt y) (fun ex tm' G' => ex = .normal ∧ Shows P (rx nn (D + 1)) [.code body] .normal tm' G' (endR Z ZX vs y.H)) ex a1 wa := by cases ex <;> exact hq
    obtain ⟨_, ⟨xa, tma, hata, rfl, hga, rfl, hbody⟩ | ⟨_, hx⟩⟩ := hq
    rotate_left
    · exact hx.elim
    have hexa : Ext y xa := hata.1
    have hla := hat1 xa (hy1.trans hx1.si hexa) (D + 1) _ (by omega) hL1
    have hna := hno xa (hy1.trans hx1.si hexa) (D + 1) (by omega) (by omega)
    refine ⟨_, run_beginRound hla (by rw [hrec]), ?_⟩
    obtain ⟨xb, hxb⟩ : ∃ xb : Sit, xb = ⟨xa.W.putObj (D + 1) (.loop { rec .ready none with state := .busy }), xa.F, xa.ρ, xa.H⟩ := ⟨_, rfl⟩
    have hpb : Poked (D + 1) xa xb := by rw [hxb]; exact poke_at _ (Nat.le_refl _) hna.2 hna.1
    have hgb := hga.poke hpb
    have hWb : xb.W = xa.W.putObj (D + 1) (.loop { rec .ready none with state := .busy }) := by rw [hxb]
    have hlb : xb.W.heap[D + 1]? = some (.loop { rec .ready none with state := .busy }) := by rw [hWb]; exact World.putObj_heap_same (Array.getElem?_eq_some_iff.1 hla).1
    have hob : ∀ k, k ≠ D + 1 → xb.W.heap[k]? = xa.W.heap[k]? := fun k hk => by rw [hWb]; exact World.putObj_heap_other hk
    rw [← hWb]
    let bB : Base := ⟨fun x => Ext xb x, fun _ _ => False, xb.H.length, y.W.heap.size⟩
    have hbB : bB.Ok := ⟨fun x x' _ h h' => Ext.trans hgb.si h h', fun x n h hn hsi => h.drop hn hsi, fun x h => h.hlen hgb.si, fun x h => Nat.le_trans (by rw [hpb.size]; exact hexa.size) h.size⟩
    have hatb : bB.At xb a1 := ⟨Ext.refl hgb.si, mk_poke hata.2 hpb hob (fun o ho e => by subst e; rw [hla] at ho; cases ho)⟩
    have h2 := hbody bB xb a1 ⟨hbB, trivial⟩ hatb hgb hpb.H
    simp only [kx] at h2
    refine wpIn_mono h2 ?_
    intro ex a2 wc hq
    have hq : QQ (rx nn (D + 1)) bB (endR Z ZX vs y.H) ex a2 wc := by cases ex <;> exact hq
    obtain ⟨_, ⟨xc, tmc, hatc, rfl, hgc, hend⟩ | ⟨_, hx⟩⟩ := hq
    rotate_left
    · exact hx.elim
    -- the round's own blocks go
    have hxc : Ext xb xc := hatc.1
    have hexc : Ext s xc := by
      have h1 : Ext s xb := ext_poke (hexy.trans hg.si hexa) (hpb.le (by omega))
      exact h1.trans hg.si hxc
    have hlc : xc.W.heap[D + 1]? = some (.loop { rec .ready none with state := .busy }) := (hxc.frame (D + 1) (Array.getElem?_eq_some_iff.1 hlb).1 (by rw [hpb.ρ]; exact hna.1)).trans hlb
    have hnc : ∀ j, D ≤ j → j < D + 2 → ¬ OwnG xc.ρ j ∧ ¬ xc.F j := by
      intro j h1 h2
      have ha := hno xa (hy1.trans hx1.si hexa) j h1 h2
      have hlt : D + 1 < xb.W.heap.size := (Array.getElem?_eq_some_iff.1 hlb).1
      refine ⟨fun h => ?_, fun h => ?_⟩
      · rcases hxc.own j h with h | h
        · rw [hpb.ρ] at h; exact ha.1 h
        · omega
      · rcases hxc.F' j h with h | h | h
        · rw [hpb.F] at h; exact ha.2 h
        · omega
        · rw [hpb.ρ] at h; exact ha.1 h
    have hdc : xc.W.heap[D]? = some (.deferred (some [])) := by
      have h1 := hat1 xa (hy1.trans hx1.si hexa) D _ (Nat.le_refl _) hK1
      have h2 := (hob D (by omega)).trans h1
      exact (hxc.frame D (Array.getElem?_eq_some_iff.1 h2).1 (by rw [hpb.ρ]; exact (hno xa (hy1.trans hx1.si hexa) D (Nat.le_refl _) (by omega)).1)).trans h2
    have hncl := hnc (D + 1) (by omega) (by omega)
    have key : ∀ (o2 : Obj) (G3 : List Blk), Weak [] xc.H [] G3 → SI (Sit.drop ⟨xc.W.putObj (D + 1) o2, xc.F, xc.ρ, xc.H⟩ G3.length) ∧ (Sit.drop ⟨xc.W.putObj (D + 1) o2, xc.F, xc.ρ, xc.H⟩ G3.length).H = G3 := by
      intro o2 G3 hw
      have hp := poke_at (m := D + 1) (s := xc) o2 (Nat.le_refl _) hncl.2 hncl.1
      have hgc' := (hgc.sub (tm' := []) (fun t v h => by simp [lk] at h)).poke hp
      obtain ⟨g1, g2, _⟩ := hw.good hgc' rfl
      exact ⟨g1.si, g2⟩
    have hstopc : ∀ (c : Code) (G3 : List Blk), Weak [] xc.H [] G3 → y.H.length ≤ G3.length → ZX c vs y.H G3 → ∃ c' s' b2, Base.Ok b2 ∧ b2.At s' aI ∧ Good s' fI.ntmps aI tmI ∧ s'.W = xc.W.putObj (D + 1) (.loop (rec .done (some c))) ∧ ZX c' vs y.H s'.H ∧ ∀ x a', b2.At x a' → SX c' x.H → b1.X a' x.W := by
      intro c G3 hw hlen hz
      obtain ⟨k1, k2⟩ := key (.loop (rec .done (some c))) G3 hw
      have hp := poke_at (m := D + 1) (s := xc) (.loop (rec .done (some c))) (Nat.le_refl _) hncl.2 hncl.1
      let b2 : Base := ⟨fun x => Ext s x ∧ x.W.heap[D + 1]? = some (.loop (rec .done (some c))) ∧ x.W.heap[D]? = some (.deferred (some [])) ∧ (∀ j, D ≤ j → j < D + 2 → ¬ OwnG x.ρ j ∧ ¬ x.F j), fun _ _ => False, s.H.length, D + 2⟩
      have hb2 : b2.Ok := by
        refine ⟨fun x x' hsx h hx => ?_, fun x n h hn hsi => ?_, fun x h => h.1.hlen hg.si, fun x h => (Array.getElem?_eq_some_iff.1 h.2.1).1⟩
        · obtain ⟨h1, h2, h3, h4⟩ := h
          have l1 := (Array.getElem?_eq_some_iff.1 h2).1
          have n1 := h4 (D + 1) (by omega) (by omega)
          have n2 := h4 D (by omega) (by omega)
          refine ⟨h1.trans hg.si hx, (hx.frame _ l1 n1.1).trans h2, (hx.frame _ (by omega) n2.1).trans h3, fun j g1 g2 => ?_⟩
          have n3 := h4 j g1 g2
          refine ⟨fun h => ?_, fun h => ?_⟩
          · rcases hx.own j h with h | h
            · exact n3.1 h
            · omega
          · rcases hx.F' j h with h | h | h
            · exact n3.2 h
            · omega
            · exact n3.1 h
        · obtain ⟨h1, h2, h3, h4⟩ := h
          exact ⟨h1.drop hn hsi, h2, h3, fun j g1 g2 => ⟨fun h => (h4 j g1 g2).1 (own_drop h), (h4 j g1 g2).2⟩⟩
      have hgI' : Good ⟨xc.W.putObj (D + 1) (.loop (rec .done (some c))), xc.F, xc.ρ, xc.H⟩ fI.ntmps aI tmI := (((hgI.ext hexa).poke hpb).ext hxc).poke hp
      have hexs : Ext s ⟨xc.W.putObj (D + 1) (.loop (rec .done (some c))), xc.F, xc.ρ, xc.H⟩ := ext_poke hexc (hp.le (by omega))
      have hyl := hexy.hlen hg.si
      refine ⟨c, _, b2, hb2, ⟨⟨hexs.drop (by omega) k1, World.putObj_heap_same (Array.getElem?_eq_some_iff.1 hlc).1, (World.putObj_heap_other (by omega)).trans hdc, fun j g1 g2 => ⟨fun h => (hnc j g1 g2).1 (own_drop h), (hnc j g1 g2).2⟩⟩, ?_⟩, ⟨k1, hgI'.size, fun t v hv => ⟨(hgI'.tm t v hv).1, vr_drop (hgI'.tm t v hv).2 (vr_lt (hgI.tm t v hv).2 hlen)⟩⟩, rfl, by rw [k2]; exact hz, ?_⟩
      · refine Mk.drop ?_
        have m1 := (hatI.2.ext hexa)
        have m2 := mk_poke m1 hpb hob (fun o ho e => by subst e; rw [hla] at ho; cases ho)
        exact mk_poke (m2.ext hxc) hp (fun k hk => World.putObj_heap_other hk) (fun o ho e => by subst e; rw [hlc] at ho; cases ho)
      · rintro x a' ⟨⟨h1, h2, h3, h4⟩, hm⟩ hs
        exact ⟨c, x, h1, rfl, hs, h2, h3, h4, hm⟩
    cases ex with
    | normal =>
      obtain ⟨G3, hw, hlen, hz⟩ := hend
      obtain ⟨k1, k2⟩ := key (.loop (rec .ready none)) G3 hw
      have er := run_endRound (P := P) none hlc
      have e1 : ({ { rec .ready none with state := .busy } with state := if (none : Option Code).isNone then .ready else .done, pending := none } : Loop) = rec .ready none := by rw [hrec]; rfl
      rw [e1] at er
      refine ⟨_, _, er, .inl ⟨rfl, _, (ext_turn hgI.si hexa hxb hxc hly hnl.2 hnl.1).drop hlen k1, rfl, by rw [k2]; exact hz⟩⟩
    | ret =>
      obtain ⟨G3, hw, hlen, hz⟩ := hend
      have er := run_endRound (P := P) (some .ret) hlc
      have e1 : ({ { rec .ready none with state := .busy } with state := if (some Code.ret).isNone then .ready else .done, pending := some .ret } : Loop) = rec .done (some .ret) := by rw [hrec]; rfl
      rw [e1] at er
      exact ⟨_, _, er, .inr ⟨rfl, hstopc .ret G3 hw hlen hz⟩⟩
    | exit id =>
      obtain ⟨G3, hw, hlen, hz⟩ := hend
      have er := run_endRound (P := P) (some (.exit id)) hlc
      have e1 : ({ { rec .ready none with state := .busy } with state := if (some (Code.exit id)).isNone then .ready else .done, pending := some (.exit id) } : Loop) = rec .done (some (.exit id)) := by rw [hrec]; rfl
      rw [e1] at er
      exact ⟨_, _, er, .inr ⟨rfl, hstopc (.exit id) G3 hw hlen hz⟩⟩
    | _ => exact hend.elim
  have hgfe : (callFunc gf (#[.func (.yield (D + 1)) #[] #[]] ++ us0.toArray)).run P W1 = .ok (.enter gf (#[.func (.yield (D + 1)) #[] #[]] ++ us0.toArray)) W1 := Go.Proofs.enters_of hf hname hbd _ _
  have hVR : VR s (.c (.fn gf caps)) (a.eval g) := ev_ok hg he
  refine ⟨D + 1, [{ target := .collected D, args := #[] }], W1, { target := .fn (.func gf) us0.toArray, args := #[.func (.yield (D + 1)) #[] #[]] }, W1, gf,
    #[.func (.yield (D + 1)) #[] #[]] ++ us0.toArray, W1, ?_, ?_, fun _ _ => trivial, ?_, fe_depth, ?_⟩
  · rw [← hW1, hD, hrec]; exact run_enterLoop_outer _ _ _ _ _
  · simp only [resolve, hgu]
    simp [go_sem]
  · simp [invoke, go_sem]
    simpa using hgfe
  · refine callsIn_of_wp_marks (F := fe none) hf hbd trivial ?_
    have hargs : R2 (VR s1) (.c (.yld (D + 1)) :: caps.map .c) (.func (.yield (D + 1)) #[] #[] :: us0) := by
      refine R2.cons rfl ⟨by simp [hus0.1], fun j c u h1 h2 => ?_⟩
      rw [List.getElem?_map] at h1
      cases hc : caps[j]? with
      | none => rw [hc] at h1; cases h1
      | some c' =>
        rw [hc] at h1
        cases h1
        have := CR0.ext hg.si hx1.toExt0 (hus0.2 j c' u hc h2)
        exact (by cases c' <;> first | exact this | exact this.elim)
    have hst := start_ok (N := ⟨fI.ntmps, none, Yok P fI.ntmps (D + 1) Y Z ZX SX⟩) n' (by simp; omega) (hiter (D + 1)) (b := b1) ⟨hb1, hok1⟩ (s := s1) hx1.si (Ext.refl hx1.si) (by rw [hs1]) hargs
    rw [hW] at hst
    have e3 : (Value.func (.yield (D + 1)) #[] #[] :: us0).toArray = #[.func (.yield (D + 1)) #[] #[]] ++ us0.toArray := by simp
    rw [e3] at hst
    refine wpIn_mono hst ?_
    rintro ex aI w ⟨_, ⟨x, tmx, hatx, rfl, hgx, hend⟩ | ⟨rfl, c, x, hx, rfl, hs, hl, hd, hnn, hmk⟩⟩
    · have hx : Ext s1 x := hatx.1
      have := hfin x aI .ready none (hx1.trans hg.si hx) (by simp) (hat1 x hx (D + 1) _ (by omega) hL1) (hat1 x hx D _ (Nat.le_refl _) hK1) (hno x hx) hatx.2 (hdone _ hend.2)
      rcases hend.1 with rfl | rfl <;> exact this
    · exact hfin x aI .done (some c) hx (by simp) hl hd hnn hmk (hstop c _ hs)
theorem range_st {P : Program} {N : Cx} {k : List K} {tm : TM} {H : List Blk} {Q : Exit → TM → List Blk → Prop} {g : Operand} {ps : Array Tmp} {assign body : Code} {gf : FuncId} {caps : List C} {fI : Func} {nm og : String} {tg pr rt : Array TypeId} {nf NI : Nat} {cI : Code} {nr ou : Bool} {fl : String} {el : Nat} {ln : Option Nat} {mt : List Departure} {tn : Array String}
    (n n' : Nat) (hf : P.funcs[gf]? = some fI) (hfn : fI = ⟨nm, og, tg, pr, rt, nf, NI, #[], some cI, nr, ou, fl, el, ln, mt, tn⟩)
    (Y : List V → List Blk → Prop) (Z : List V → List Blk → List Blk → Prop) (ZX : Code → List V → List Blk → List Blk → Prop) (S : List Blk → Prop) (SX : Code → List Blk → Prop)
    (hround : ∀ l vs G, Y vs G → vs.length = ps.size ∧ run P (rx N.n l) n [.code assign] (bindTM ps.toList vs tm) G (fun ex tm' G' => ex = .normal ∧ Shows P (rx N.n l) [.code body] .normal tm' G' (endR Z ZX vs G)))
    (hiter : ∀ l, run P ⟨NI, none, Yok P NI l Y Z ZX SX⟩ n' [.code cI] (argTM 0 (.c (.yld l) :: caps.map .c)) H (fun ex tm G => (ex = .normal ∨ ex = .ret) ∧ S G))
    (hdone : ∀ G, S G → Shows P N k .normal tm G Q)
    (hstop : ∀ c G, SX c G → (c = .ret ∧ Shows P N k .ret tm G Q) ∨ ∃ id, c = .exit id ∧ Shows P N k (.exit id) tm G Q)
    (he : ev tm g = some (.c (.fn gf caps)) := by rfl) (hr : N.r = none := by rfl) (hname : (nm == "runtime.NumGoroutine") = false := by kernel_rfl) (hle : caps.length + 1 ≤ NI := by simp) (hps : ∀ p ∈ ps.toList, p < N.n := by simp) :
    Here P N (.code (.rangeFunc g ps assign body) :: k) tm H Q := by
  subst hfn
  exact range_ok n n' hr he hf hname rfl rfl hle hps Y Z ZX S SX hround hiter hdone hstop
theorem shows_sub {P : Program} {N : Cx} {k : List K} {ex : Exit} {tm tm' : TM} {H : List Blk} {Q : Exit → TM → List Blk → Prop} (hs : subT tm tm') (h : Shows P N k ex tm' H Q) : Shows P N k ex tm H Q :=
  fun b s a hb hat hg hH => h b s a hb hat (hg.sub (fun t v ht => subT_mem hs t v (lk_mem ht))) hH
/-- a part of the code by itself: what holds behind it is told by R. -/
theorem cutS {P : Program} {N : Cx} {c : Code} {k : List K} {tm : TM} {H : List Blk} {Q : Exit → TM → List Blk → Prop} (R : TM → List Blk → Prop)
    (h1 : Shows P N [.code c] .normal tm H (fun ex tm' H' => ex = .normal ∧ ∃ tm'', subT tm' tm'' ∧ R tm'' H')) (h2 : ∀ tm'' H', R tm'' H' → Shows P N k .normal tm'' H' Q) : Here P N (.code c :: k) tm H Q := by
  intro b s a hb hat hg hH
  have := h1 b s a hb hat hg hH
  simp only [kx] at this ⊢
  refine wpIn_mono this ?_
  intro ex a' w' hq
  have hq : QQ N b (fun ex tm' H' => ex = .normal ∧ ∃ tm'', subT tm' tm'' ∧ R tm'' H') ex a' w' := by cases ex <;> exact hq
  obtain ⟨hnp, ⟨x, tm', hx, rfl, hgx, rfl, tm'', hs, hR⟩ | ⟨rfl, hx⟩⟩ := hq
  · exact shows_sub hs (h2 tm'' x.H hR) b x a' hb hx hgx rfl
  · exact kx_ret k ⟨by simp, .inr ⟨rfl, hx⟩⟩
/-- a call that has none of one's own blocks, told by a relation. -/
theorem hR {P : Program} {N : Cx} {qt : Bool} {g : FuncId} {vs1 : List V} {H1 : List Blk} {fs : Fo} {H : List Blk} {dst : Option Tmp} {k : List K} {tm : TM} {Q : Exit → TM → List Blk → Prop} {R : V → List Blk → Prop} (n : Nat) (hc : Call P false g vs1 H1 R) (h : ∀ r H1', R r H1' → run P N n k (put dst (rnV fs H.length r) tm) (back H fs H1') Q) : CallH P N qt g vs1 H1 fs H dst k tm Q := ⟨R, hc, fun r H1' hr => run_ok n _ _ _ _ (h r H1' hr)⟩
/-- a loop, as in loop_st; what stands behind it may be told by 'Shows'. -/
theorem loop_sf {P : Program} {N : Cx} {body : Code} {k : List K} {tm : TM} {H : List Blk} {Q : Exit → TM → List Blk → Prop} {σ : Type} (n : Nat) (st : σ → TM) (hp : σ → List Blk) (I : σ → Prop) (μ : σ → Nat) (x0 : σ) (h0 : I x0) (hw : Weak tm H (st x0) (hp x0)) (hle : ∀ x, I x → H.length ≤ (hp x).length)
    (hs : ∀ x Q', I x → (∀ y tm3 H3, Weak tm3 H3 (st y) (hp y) → I y → μ y < μ x → Q' .normal tm3 H3) → (∀ id k' tm3 H3, exitK id k = some k' → Shows P N k' .normal tm3 H3 Q → Q' (.exit id) tm3 H3) → (∀ tm3 H3, Q .ret tm3 H3 → Q' .ret tm3 H3) → run P N n [.code body] (st x) (hp x) Q') :
    Here P N (.code (.loop body) :: k) tm H Q := by
  refine loop_ok n (fun m tm1 H1 => ∃ x, I x ∧ μ x = m ∧ tm1 = st x ∧ H1 = hp x) hw (hle _ h0) ⟨x0, h0, rfl, rfl, rfl⟩ (fun m tm1 H1 ⟨x, hx, _, _, e⟩ => e ▸ hle x hx) ?_
  rintro m tm1 H1 Q' ⟨x, hx, rfl, rfl, rfl⟩ hn he
  exact hs x Q' hx (fun y tm3 H3 hw hy hm => hn _ _ _ _ _ hm ⟨y, hy, rfl, rfl, rfl⟩ hw) (fun id k' tm3 H3 hk hr => he _ _ _ (by simp) (fun b s a hb hat hg hH => exitK_ok k k' hk (hr b s a hb hat hg hH))) (fun tm3 H3 hq => he _ _ _ (by simp) (shows_ret hq))
/-- from here on nothing of one's own is written any more. -/
def deadB (b : Blk) : Blk := ⟨b.t, b.sz, b.ver + 1, []⟩
def allD : List C → Bool
  | [] => true
  | c :: r => isD c && allD r
def frzD (H : List Blk) : C → Option (Prop × C)
  | .ptr b ver i j => match H[b]? with
    | some blk => if ver = blk.ver then match blk.es[i]? with
      | some e => match frzL H e with
        | some (p, e') => some (p ∧ allD e' = true, .rptr e' j)
        | none => none
      | none => none else none
    | none => none
  | c => frzC H c
def frzV (H : List Blk) : V → Option (Prop × V)
  | .c x => match frzD H x with
    | some (p, c) => some (p, .c c)
    | none => none
  | v => frz H v
def frzOK (H : List Blk) (tm : TM) : TM → Prop
  | [] => True
  | (t, v') :: r => (match lk t tm with
    | some v => match frzV H v with
      | some (p, v'') => p ∧ v'' = v'
      | none => False
    | none => False) ∧ frzOK H tm r
theorem allD_mem : ∀ {l : List C}, allD l = true → ∀ c ∈ l, isD c = true
  | [], _, c, h => by cases h
  | x :: r, h, c, hc => by
    simp only [allD, Bool.and_eq_true] at h
    rcases List.mem_cons.1 hc with rfl | hc
    · exact h.1
    · exact allD_mem h.2 c hc
theorem nrm_dr {s : Sit} {c : C} {u : Value} (h : CR s c u) (hd : isD c = true) (hne : ∀ (x : Unit), c ≠ .e0) : DR s.W s.F c u := by
  have := nrm_ok h hd
  cases c with
  | e0 => exact absurd rfl (hne ())
  | v x => exact this
  | row es => exact this
  | _ => simp [isD] at hd
theorem frzC_ne {H : List Blk} {c c' : C} {p : Prop} (h : frzC H c = some (p, c')) : c' ≠ .e0 := by
  cases c with
  | own b ver off n =>
    simp only [frzC] at h
    split at h
    · split at h
      · cases h; simp
      · cases h
    · cases h
  | v x => simp only [frzC] at h; cases h; simp
  | row es => simp only [frzC] at h; cases h; simp
  | e0 => simp only [frzC] at h; cases h; simp
  | rptr e j => simp only [frzC] at h; cases h; simp
  | _ => simp [frzC] at h
theorem frzL_ne {H : List Blk} : ∀ {l l' : List C} {p : Prop}, frzL H l = some (p, l') → l'.length = l.length ∧ ∀ c ∈ l', c ≠ .e0
  | [], l', p, h => by simp only [frzL] at h; cases h; exact ⟨rfl, fun c hc => by cases hc⟩
  | c :: r, l', p, h => by
    simp only [frzL] at h
    split at h
    · rename_i p1 c1 p2 r1 h1 h2
      cases h
      obtain ⟨i1, i2⟩ := frzL_ne h2
      refine ⟨by simp [i1], fun x hx => ?_⟩
      rcases List.mem_cons.1 hx with rfl | hx
      · exact frzC_ne h1
      · exact i2 x hx
    · cases h
theorem frzD_ok {s : Sit} (hs : SI s) {c c' : C} {p : Prop} {u : Value} (h : frzD s.H c = some (p, c')) (hp : p) (hc : CR s c u) : CR s.all c' u := by
  cases c with
  | ptr b ver i j =>
    simp only [frzD] at h
    split at h
    · rename_i blk hb
      split at h
      · rename_i hv
        split at h
        · rename_i e he
          split at h
          · rename_i p' e' hfe
            cases h
            obtain ⟨hp1, hp2⟩ := hp
            obtain ⟨_, blk', rv, h1, h2, h3, h4⟩ := hc
            rw [hb] at h1
            cases h1
            obtain ⟨g, L, cap, e1, rfl⟩ := h4 hv
            have hld : ldC s.H (.ptr b ver i 0) e.length = some e := by
              simp only [ldC, hb, if_pos hv, he, cut]
              rw [if_pos (by omega)]
              simp
            have hcr : CR s (.ptr b ver i 0) (.pointer (some ⟨g, i * blk.sz + 0, none⟩)) := ⟨⟨_, rfl⟩, blk, rv, hb, h2, by omega, fun _ => ⟨g, L, cap, e1, rfl⟩⟩
            obtain ⟨A, us, eA, hul, hur, hcell⟩ := ldC_ok hs hld hcr
            cases eA
            have hfr := frzL_ok hs e e' p' us hfe hp1 hur
            obtain ⟨hle, hne⟩ := frzL_ne hfe
            have hown : e ≠ [] → OwnG s.ρ g := by
              intro hne0
              subst e1
              rcases (hs.blk b blk _ hb h2).at_ (by intro k e; cases e) with ⟨hz, _⟩ | ⟨xs, ho, _⟩
              · rw [hz] at he; simp at he
              · rcases ho.2 with ⟨hn, _⟩ | ⟨g', cap', cur, hrv, _, _, hnc, _⟩
                · cases hn
                · cases hrv
                  cases cap with
                  | zero =>
                    have := (List.getElem?_eq_some_iff.1 he).1
                    omega
                  | succ cap => exact ⟨b, _, h2, rfl⟩
            refine ⟨⟨g, i * blk.sz + 0, none⟩, fun k => (us[k]?).getD undef, fun k c hk => ?_, by rw [add_lit, Nat.add_zero]⟩
            obtain ⟨x, hx, hxr⟩ := hfr.get hk
            have e0 : (us[k]?).getD undef = x := by rw [hx]; rfl
            have hmem := List.mem_of_getElem? hk
            refine ⟨?_, .inr ?_, ?_⟩
            · simp only [e0]; exact hcell k x hx
            · refine hown (fun e0 => ?_)
              have := (List.getElem?_eq_some_iff.1 hk).1
              rw [hle, e0] at this
              simp at this
            · simp only [e0]
              exact nrm_dr hxr (allD_mem hp2 c hmem) (fun _ => hne c hmem)
          · cases h
        · cases h
      · cases h
    · cases h
  | own b ver off n => exact frzC_ok hs (c := .own b ver off n) h hp hc
  | v x => exact frzC_ok hs (c := .v x) h hp hc
  | row es => exact frzC_ok hs (c := .row es) h hp hc
  | e0 => exact frzC_ok hs (c := .e0) h hp hc
  | rptr e j => exact frzC_ok hs (c := .rptr e j) h hp hc
  | fn f cs => simp [frzD, frzC] at h
  | yld l => simp [frzD, frzC] at h
  | mp b ver => simp [frzD, frzC] at h
theorem frzV_ok {s : Sit} (hs : SI s) {v v' : V} {p : Prop} {u : Value} (h : frzV s.H v = some (p, v')) (hp : p) (hv : VR s v u) : VR s.all v' u := by
  cases v with
  | c x =>
    simp only [frzV] at h
    split at h
    · rename_i p1 c hc; cases h; exact frzD_ok hs hc hp hv
    · cases h
  | agg cs => exact frz_ok hs (v := .agg cs) h hp hv
  | tup vs => exact frz_ok hs (v := .tup vs) h hp hv
theorem frzOK_mem {H : List Blk} {tm : TM} : ∀ {tm' : TM}, frzOK H tm tm' → ∀ t v', (t, v') ∈ tm' → ∃ v p, lk t tm = some v ∧ frzV H v = some (p, v') ∧ p
  | [], _, t, v', h => by cases h
  | (m, w) :: r, hf, t, v', h => by
    obtain ⟨h1, h2⟩ := hf
    rcases List.mem_cons.1 h with h | h
    · cases h
      split at h1
      · rename_i v hv
        split at h1
        · rename_i p v'' hz
          obtain ⟨hp, rfl⟩ := h1
          exact ⟨v, p, hv, hz, hp⟩
        · exact h1.elim
      · exact h1.elim
    · exact frzOK_mem h2 t v' h
theorem frzA {P : Program} {N : Cx} {k : List K} {tm : TM} {H : List Blk} {Q : Exit → TM → List Blk → Prop} (n : Nat) (tm' : TM) (h1 : frzOK H tm tm') (h : run P N n k tm' (H.map deadB) Q) : Shows P N k .normal tm H Q := by
  intro b s a hb hat hg hH
  subst hH
  obtain ⟨s', hs'⟩ : ∃ s' : Sit, s' = ⟨s.W, fun k => s.F k ∨ OwnG s.ρ k, s.ρ.map fun _ => .slice none 0 0, s.H.map deadB⟩ := ⟨_, rfl⟩
  have hno : ∀ g, ¬ OwnG s'.ρ g := fun g ⟨i, rv, e1, e2⟩ => by
    rw [hs'] at e1
    simp only [List.getElem?_map] at e1
    cases hx : s.ρ[i]? with
    | none => rw [hx] at e1; cases e1
    | some x => rw [hx] at e1; cases e1; cases e2
  have hsi : SI s' := by
    rw [hs'] at hno ⊢
    refine ⟨by simp [hg.si.len], fun i blk rv e1 e2 => ?_, fun i j rv rv' g _ e1 _ e3 => (hno g ⟨i, rv, e1, e3⟩).elim, fun g ho => (hno g ho).elim, fun k hk => hk.elim (hg.si.fs k) (OwnG.lt hg.si), hg.si.gl.mono (fun _ _ => rfl) (fun _ h => .inl h)⟩
    simp only [List.getElem?_map] at e1 e2
    cases hx : s.ρ[i]? with
    | none => rw [hx] at e2; cases e2
    | some x =>
      cases hy : s.H[i]? with
      | none => rw [hy] at e1; cases e1
      | some y =>
        rw [hx] at e2; rw [hy] at e1
        cases e2; cases e1
        exact blk_row (fun e he => by simp [deadB] at he) (.inl ⟨rfl, none, rfl⟩)
  have hW : s'.W = s.W := by rw [hs']
  have hex : Ext s s' := by
    refine ⟨⟨by rw [hW], by rw [hW], by rw [hW], by rw [hW]; exact Nat.le_refl _, fun k _ _ => by rw [hW], fun k hk => by rw [hs']; exact .inl hk, fun k hk => ?_, fun g ho => (hno g ho).elim, fun i blk rv e1 e2 => ?_⟩, hsi⟩
    · rw [hs'] at hk
      rcases hk with hk | hk
      · exact .inl hk
      · exact .inr (.inr hk)
    · refine ⟨deadB blk, .slice none 0 0, ?_, ?_, by simp [deadB], fun h => by simp [deadB] at h⟩
      · rw [hs']; simp [e1]
      · rw [hs']; simp [e2]
  have hg' : Good s' N.n a tm' := by
    refine ⟨hsi, hg.size, fun t v hv => ?_⟩
    obtain ⟨v0, p, g1, g2, g3⟩ := frzOK_mem h1 t v (lk_mem hv)
    obtain ⟨k1, k2⟩ := hg.tm t v0 g1
    refine ⟨k1, ?_⟩
    have := frzV_ok hg.si g2 g3 k2
    have := up_v (s1 := s.all) rfl (ρ := s'.ρ) (H := s'.H) this
    rw [hs'] at this ⊢
    exact this
  have := shows_run h b s' a hb (hat.ext hb.1 hg.si hex) hg' (by rw [hs'])
  rw [hW] at this
  exact this
attribute [go_sem] deadB allD frzD frzV frzOK
attribute [go_sem] rx bindTM endR
end Go.En
