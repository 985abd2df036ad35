import Derived.Test.YtnopihhconklnaaDoorEn4
import Derived.Test.YtnopihhconklnaaDoorEnQ
/- Composite values; all quiet operations in one function. -/
namespace Go.En
open Go Go.RowKit
set_option linter.unusedSimpArgs false
set_option linter.unusedVariables false

theorem foldl_set (off : Nat) : ∀ (l : List Value) (i : Nat) (cs : Array Value), off + i + l.length ≤ cs.size →
    ((l.zipIdx i).foldl (fun cs x => cs.setIfInBounds (off + x.2) x.1) cs).toList = cs.toList.take (off + i) ++ l ++ cs.toList.drop (off + i + l.length)
  | [], i, cs, h => by simp
  | v :: r, i, cs, h => by
    rw [List.zipIdx_cons, List.foldl_cons, foldl_set off r (i + 1) _ (by simp at h ⊢; omega), Array.toList_setIfInBounds]
    have := list_seg_step cs.toList (off + i) v r (by simp at h ⊢; omega)
    rw [List.length_cons]
    rw [← Nat.add_assoc]
    exact this
def fillC (pl : Nat → Option (Nat × Nat)) (cells : List C) : List (Nat × V) → Option (List C)
  | [] => some cells
  | (i, v) :: rest => match pl i with
    | some (off, size) => if v.cells.length = size then if off + size ≤ cells.length then fillC pl (cells.take off ++ v.cells ++ cells.drop (off + size)) rest else none else none
    | none => none
theorem fill_ok {s : Sit} (pl : Nat → Option (Nat × Nat)) : ∀ (parts : List (Nat × V)) (parts' : List (Nat × Value)) (cells l : List C) (us : Array Value), fillC pl cells parts = some l → R2 (CR s) cells us.toList →
    R2 (fun x y => x.1 = y.1 ∧ VR1 s x.2 y.2) parts parts' → ∃ us' : Array Value, Instr.fill pl us parts' = some us' ∧ R2 (CR s) l us'.toList
  | [], parts', cells, l, us, h, hr, hp => by
    have := hp.nil_left
    subst this
    simp only [fillC] at h
    cases h
    exact ⟨us, rfl, hr⟩
  | (i, v) :: r, parts', cells, l, us, h, hr, hp => by
    obtain ⟨⟨i', u⟩, p', rfl, ⟨e1, e2⟩, hp'⟩ := hp.uncons
    simp only at e1 e2
    subst e1
    simp only [fillC] at h
    split at h
    · rename_i off size hpl
      split at h
      · rename_i hsz
        split at h
        · rename_i hfit
          have hc := e2.cells
          have hl : u.cells.size = size := by have := hc.1; simp at this; omega
          have hcl : cells.length = us.size := by have := hr.1; simpa using this
          have hfold := foldl_set off u.cells.toList 0 us (by simp; omega)
          simp only [Nat.add_zero, Array.length_toList, hl] at hfold
          have hz : (u.cells.zipIdx.foldl (fun cs x => cs.setIfInBounds (off + x.2) x.1) us) = (u.cells.toList.zipIdx 0).foldl (fun cs x => cs.setIfInBounds (off + x.2) x.1) us := by
            rw [← Array.foldl_toList, Array.toList_zipIdx]
          obtain ⟨us', h1, h2⟩ := fill_ok pl r p' _ l ((u.cells.toList.zipIdx 0).foldl (fun cs x => cs.setIfInBounds (off + x.2) x.1) us) h (by
            rw [hfold]
            exact ((hr.take off).append hc).append (hr.drop (off + size))) hp'
          refine ⟨us', ?_, h2⟩
          simp only [Instr.fill, hpl]
          rw [if_neg (by simp; omega), ← h1]
          exact congrArg (fun x => Instr.fill pl x p') hz
        · cases h
      · cases h
    · cases h
/-- a type's zero, cell by cell. -/
def zc (P : Program) (t : TypeId) : Option (List C) := match P.info? t with
  | some i => match i.zero with
    | some z => ofCells z.cells.toList
    | none => none
  | none => none
theorem zc_spec {P : Program} {t : TypeId} {l : List C} (h : zc P t = some l) : ∃ i z, P.info? t = some i ∧ i.zero = some z ∧ ∀ s, R2 (CR s) l z.cells.toList := by
  unfold zc at h
  split at h
  · rename_i i hi
    split at h
    · rename_i z hz
      exact ⟨i, z, hi, hz, fun s => ofCells_ok s _ _ h⟩
    · cases h
  · cases h
def bldV (P : Program) (t : TypeId) (parts : List (Nat × V)) : Option (Prop × V) := match zc P t with
  | some z => match pls P t with
    | some l => match fillC (fun i => match l[i]? with | some x => some (x.1, x.2.1) | none => none) z parts with
      | some cs => some (True, .agg cs)
      | none => none
    | none => match P.underlying t with
      | some (.array _ e) => match szOf P e with
        | some sz => match fillC (fun i => some (i * sz, sz)) z parts with
          | some cs => some (True, .agg cs)
          | none => none
        | none => none
      | _ => none
  | none => none
theorem bldV_ok {P : Program} {s : Sit} {t : TypeId} {parts : List (Nat × V)} {parts' : Array (Nat × Value)} {p : Prop} {v : V} (h : bldV P t parts = some (p, v)) (hp : R2 (fun x y => x.1 = y.1 ∧ VR1 s x.2 y.2) parts parts'.toList) :
    Quiet P s v (Instr.build t parts') := by
  unfold bldV at h
  split at h
  · rename_i z hz
    obtain ⟨it, zv, hi, hzv, hzr⟩ := zc_spec hz
    split at h
    · rename_i l hl
      split at h
      · rename_i cs hcs
        cases h
        obtain ⟨us, h1, h2⟩ := fill_ok _ _ _ _ _ zv.cells hcs (hzr s) hp
        refine .pure (u := .agg us) ?_ (fun W => ?_)
        · exact ⟨us.toList, by simp, h2⟩
        · refine run_build W t parts' us ?_
          unfold pls at hl
          split at hl
          · rename_i fs hu
            have hm := mapM_of _ (fun x : Nat × Nat × Nat => (x.1, x.2.1)) _ _ hl
            have hm' : fs.toList.mapM (fun f => (P.info? f.type).map fun i => (f.offset, i.size)) = some (l.map fun x => (x.1, x.2.1)) := by
              rw [← hm]
              congr 1
              funext f
              cases P.info? f.type <;> rfl
            unfold Program.built
            simp only [hi, hu, hzv, hm']
            rw [← h1]
            congr 1
            funext i
            simp only [List.getElem?_toArray, List.getElem?_map]
            cases l[i]? <;> rfl
          · cases hl
      · cases h
    · split at h
      · rename_i n e hu
        split at h
        · rename_i sz hsz
          split at h
          · rename_i cs hcs
            cases h
            obtain ⟨us, h1, h2⟩ := fill_ok _ _ _ _ _ zv.cells hcs (hzr s) hp
            obtain ⟨ie, hie, rfl⟩ := szOf_spec hsz
            refine .pure (u := .agg us) ?_ (fun W => ?_)
            · exact ⟨us.toList, by simp, h2⟩
            · refine run_build W t parts' us ?_
              unfold Program.built
              simp only [hi, hu, hzv, hie]
              exact h1
          · cases h
        · cases h
      · cases h
  · cases h
def evs (tm : TM) : List Operand → Option (List V)
  | [] => some []
  | o :: r => match ev tm o with
    | some v => match evs tm r with
      | some l => some (v :: l)
      | none => none
    | none => none
def evp (tm : TM) : List (Nat × Operand) → Option (List (Nat × V))
  | [] => some []
  | (i, o) :: r => match ev tm o with
    | some v => match evp tm r with
      | some l => some ((i, v) :: l)
      | none => none
    | none => none
def cellsOf : List V → Option (List C)
  | [] => some []
  | .c x :: r => match cellsOf r with
    | some l => some (x :: l)
    | none => none
  | _ => none
theorem evs_ok {s : Sit} {N : Nat} {a : Act} {tm : TM} (h : Good s N a tm) : ∀ (l : List Operand) (vs : List V), evs tm l = some vs → R2 (VR s) vs (l.map a.eval)
  | [], vs, e => by simp [evs] at e; subst e; exact R2.nil
  | o :: r, vs, e => by
    simp only [evs] at e
    split at e
    · rename_i v hv
      split at e
      · rename_i l hl
        cases e
        exact R2.cons (ev_ok h hv) (evs_ok h r l hl)
      · cases e
    · cases e
theorem VR.to1 {s : Sit} {v : V} {u : Value} (h : VR s v u) (hv : ∀ vs, v ≠ .tup vs) : VR1 s v u := by
  cases v with
  | tup vs => exact absurd rfl (hv vs)
  | _ => exact h
def noTup : List (Nat × V) → Bool
  | [] => true
  | (_, .tup _) :: _ => false
  | _ :: r => noTup r
theorem evp_ok {s : Sit} {N : Nat} {a : Act} {tm : TM} (h : Good s N a tm) : ∀ (l : List (Nat × Operand)) (vs : List (Nat × V)), evp tm l = some vs → noTup vs = true → R2 (fun x y => x.1 = y.1 ∧ VR1 s x.2 y.2) vs (l.map fun x => (x.1, a.eval x.2))
  | [], vs, e, _ => by simp [evp] at e; subst e; exact R2.nil
  | (i, o) :: r, vs, e, hn => by
    simp only [evp] at e
    split at e
    · rename_i v hv
      split at e
      · rename_i l hl
        cases e
        cases v with
        | tup => simp [noTup] at hn
        | c x => exact R2.cons ⟨rfl, (ev_ok h hv).to1 (fun _ e => by cases e)⟩ (evp_ok h r l hl hn)
        | agg x => exact R2.cons ⟨rfl, (ev_ok h hv).to1 (fun _ e => by cases e)⟩ (evp_ok h r l hl hn)
      · cases e
    · cases e
def evo (tm : TM) : Option Operand → Option (Option V)
  | none => some none
  | some o => match ev tm o with
    | some v => some (some v)
    | none => none
theorem evo_ok {s : Sit} {N : Nat} {a : Act} {tm : TM} (h : Good s N a tm) {o : Option Operand} {x : Option V} (e : evo tm o = some x) : (∀ y, x = some y → ∃ u, o.map a.eval = some u ∧ VR s y u) ∧ (x = none → o.map a.eval = none) := by
  unfold evo at e
  split at e
  · cases e; exact ⟨fun y h => (by cases h), fun _ => rfl⟩
  · rename_i o'
    split at e
    · rename_i v hv
      cases e
      exact ⟨fun y hy => (by cases hy; exact ⟨_, rfl, ev_ok h hv⟩), fun h => by cases h⟩
    · cases e
def opt1 (f : V → Option (Prop × V)) : Option V → Option (Prop × V)
  | some v => f v
  | none => none
def opt2 (f : V → V → Option (Prop × V)) : Option V → Option V → Option (Prop × V)
  | some v, some w => f v w
  | _, _ => none
def noFn : List C → Bool
  | [] => true
  | .fn _ _ :: _ => false
  | _ :: r => noFn r
theorem cr0 {s : Sit} : ∀ (l : List C) (us : List Value), noFn l = true → R2 (CR s) l us → R2 (CR0 s) l us
  | [], us, _, hr => by have := hr.nil_left; subst this; exact R2.nil
  | c :: r, us, h, hr => by
    obtain ⟨y, m, rfl, h1, h2⟩ := hr.uncons
    cases c with
    | fn => simp [noFn] at h
    | _ => exact R2.cons h1 (cr0 r m h h2)
def bin2 (P : Program) (op : BinOp) (t : TypeId) (x y : V) : Option (Prop × V) := match x, y with
  | .agg cs, .agg ds => eqV P op t (.agg cs) (.agg ds)
  | x, y => bin P op t x y
theorem bin2_ok {P : Program} {s : Sit} {op : BinOp} {t : TypeId} {ox oy : Operand} {x y : V} {a b : Value} {p : Prop} {v : V} (h : bin2 P op t x y = some (p, v)) (hp : p) (hx : VR s x a) (hy : VR s y b) : Quiet P s v (do eqGuard op t ox oy a b; binOp op t a b) := by
  unfold bin2 at h
  split at h
  · exact eqV_ok h hx hy
  · exact bin_ok h hp hx hy
/-- what a quiet operation yields, and what it asks for. -/
def q (P : Program) (H : List Blk) (tm : TM) : Op → Option (Prop × V)
  | .move x => opt1 (fun v => some (True, v)) (ev tm x)
  | .assign x => opt1 (fun v => some (True, v)) (ev tm x)
  | .pick c a b => match ev tm c with
    | some ((.c (.v (.bool true)))) => opt1 (fun v => some (True, v)) (ev tm a)
    | some ((.c (.v (.bool false)))) => opt1 (fun v => some (True, v)) (ev tm b)
    | _ => none
  | .load t a => match ev tm a, lay P t with
    | some (.c x), some (ag, n) => match ldC H x n with
      | some cs => match mk ag cs with
        | some v => some (True, v)
        | none => none
      | none => none
    | _, _ => none
  | .binOp op t x y _ => opt2 (bin2 P op t) (ev tm x) (ev tm y)
  | .unOp op _ x => opt1 (un op) (ev tm x)
  | .convert a b x => opt1 (conv P a b) (ev tm x)
  | .field t x f => opt1 (fieldV P t f) (ev tm x)
  | .extract x i => opt1 (extractV i) (ev tm x)
  | .index t x i => opt2 (indexS P t) (ev tm x) (ev tm i)
  | .fieldAddr t x f => opt1 (fieldA P t f) (ev tm x)
  | .indexAddr t x i => opt2 (indexA P H t) (ev tm x) (ev tm i)
  | .slice t x lo hi none => match ev tm x, evo tm lo, evo tm hi with
    | some v, some l, some h => sliceV P H t v l h
    | _, _, _ => none
  | .slice t x lo hi (some m) => match ev tm x, evo tm lo, evo tm hi, evo tm (some m) with
    | some v, some l, some h, some mx => slice00 P t v l h mx
    | _, _, _, _ => none
  | .call ⟨.builtin .len, args, ts⟩ => match args.toList, ts.toList with
    | [x], t :: _ => opt1 (lenV P t) (ev tm x)
    | _, _ => none
  | .call ⟨.builtin .min, args, _⟩ => match evs tm args.toList with
    | some l => minmax true l
    | none => none
  | .call ⟨.builtin .max, args, _⟩ => match evs tm args.toList with
    | some l => minmax false l
    | none => none
  | .nilCheck x => opt1 nilChk (ev tm x)
  | .makeFunc (.func f) fs cs => match fs.toList, evs tm cs.toList with
    | [], some l => match cellsOf l with
      | some l => if noFn l then some (True, .c (.fn f l)) else none
      | none => none
    | _, _ => none
  | .build t ps => match evp tm ps.toList with
    | some l => if noTup l then bldV P t l else none
    | none => none
  | _ => none
theorem minmax_ok {P : Program} {s : Sit} {l : List V} {us : List Value} {p : Prop} {v : V} (h : minmax true l = some (p, v)) (hr : R2 (VR s) l us) (ts : Array TypeId) (ty : TypeId) : Quiet P s v (Builtin.min_ ts ty us.toArray) := by
  unfold minmax at h
  split at h
  · cases h
    obtain ⟨y1, m1, rfl, h1, h2⟩ := hr.uncons
    obtain ⟨y2, m2, rfl, h3, h4⟩ := h2.uncons
    have := h4.nil_left
    subst this
    rw [vr_v h1, vr_v h3]
    exact .val rfl (fun W => by simp [Builtin.min_, Builtin.min2])
  · cases h
theorem minmax_ok' {P : Program} {s : Sit} {l : List V} {us : List Value} {p : Prop} {v : V} (h : minmax false l = some (p, v)) (hr : R2 (VR s) l us) (ts : Array TypeId) (ty : TypeId) : Quiet P s v (Builtin.max_ ts ty us.toArray) := by
  unfold minmax at h
  split at h
  · cases h
    obtain ⟨y1, m1, rfl, h1, h2⟩ := hr.uncons
    obtain ⟨y2, m2, rfl, h3, h4⟩ := h2.uncons
    have := h4.nil_left
    subst this
    rw [vr_v h1, vr_v h3]
    exact .val rfl (fun W => by simp [Builtin.max_, Builtin.max2])
  · cases h
/-- a step of the machine that leaves the memory as it is. -/
def QuietN (P : Program) (s : Sit) (v : V) (x : Sem Next) : Prop := ∃ u : Value, VR s v u ∧ ∀ W', s.W.grownBy W' none → x.run P W' = .ok (Next.value u) W'
def QuietA (P : Program) (s : Sit) (v : V) (x : Sem Next) : Prop := ∃ u : Value, VR s v u ∧ ∀ W', x.run P W' = .ok (Next.value u) W'
theorem Quiet.next {P : Program} {s : Sit} {v : V} {x : Sem Value} (h : Quiet P s v x) : QuietA P s v (x >>= fun u => Pure.pure (Next.value u)) := by
  obtain ⟨u, h1, h2⟩ := h
  exact ⟨u, h1, fun W' => by rw [Sem.run_bind, h2 W']; rfl⟩
theorem QuietL.next {P : Program} {s : Sit} {v : V} {x : Sem Value} (h : QuietL P s v x) : QuietN P s v (x >>= fun u => Pure.pure (Next.value u)) := by
  obtain ⟨u, h1, h2⟩ := h
  exact ⟨u, h1, fun W' hg => by rw [Sem.run_bind, h2 W' hg]; rfl⟩
theorem QuietA.now {P : Program} {s : Sit} {v : V} {u : Value} (h : VR s v u) {x : Sem Next} (hx : ∀ W, x.run P W = .ok (.value u) W) : QuietA P s v x := ⟨u, h, hx⟩
def isLd : Op → Bool
  | .load _ _ => true
  | _ => false
theorem cellsOf_ok {s : Sit} : ∀ (l : List V) (cs : List C) (us : List Value), cellsOf l = some cs → R2 (VR s) l us → R2 (CR s) cs us
  | [], cs, us, h, hr => by simp [cellsOf] at h; subst h; have := hr.nil_left; subst this; exact R2.nil
  | .c x :: r, cs, us, h, hr => by
    simp only [cellsOf] at h
    split at h
    · rename_i l hl
      cases h
      obtain ⟨y, m, rfl, h1, h2⟩ := hr.uncons
      exact R2.cons h1 (cellsOf_ok r l m hl h2)
    · cases h
  | .agg x :: r, cs, us, h, hr => by simp [cellsOf] at h
  | .tup x :: r, cs, us, h, hr => by simp [cellsOf] at h
theorem opt1_some {f : V → Option (Prop × V)} {x : Option V} {r : Prop × V} (h : opt1 f x = some r) : ∃ v, x = some v ∧ f v = some r := by
  cases x with
  | none => cases h
  | some v => exact ⟨v, rfl, h⟩
theorem opt2_some {f : V → V → Option (Prop × V)} {x y : Option V} {r : Prop × V} (h : opt2 f x y = some r) : ∃ v w, x = some v ∧ y = some w ∧ f v w = some r := by
  cases x with
  | none => cases h
  | some v =>
    cases y with
    | none => cases h
    | some w => exact ⟨v, w, rfl, rfl, h⟩
theorem q_okA {P : Program} {s : Sit} {N : Nat} {a : Act} {tm : TM} (hg : Good s N a tm) {o : Oper} {p : Prop} {v : V} (h : q P s.H tm o.op = some (p, v)) (hp : p) (hld : isLd o.op = false) : QuietA P s v (execOp a.eval o) := by
  obtain ⟨dst, op, type, pos, after, guard⟩ := o
  simp only at h
  unfold q at h
  split at h
  · obtain ⟨v', h1, h2⟩ := opt1_some h; cases h2; exact .now (ev_ok hg h1) (fun W => rfl)
  · obtain ⟨v', h1, h2⟩ := opt1_some h; cases h2; exact .now (ev_ok hg h1) (fun W => rfl)
  · rename_i c x y
    split at h
    · rename_i hc
      obtain ⟨v', h1, h2⟩ := opt1_some h
      cases h2
      exact .now (ev_ok hg h1) (fun W => by simp [execOp, vr_v (ev_ok hg hc), asBool])
    · rename_i hc
      obtain ⟨v', h1, h2⟩ := opt1_some h
      cases h2
      exact .now (ev_ok hg h1) (fun W => by simp [execOp, vr_v (ev_ok hg hc), asBool])
    · cases h
  · cases hld
  · obtain ⟨v1, v2, h1, h2, h3⟩ := opt2_some h; exact (bin2_ok h3 hp (ev_ok hg h1) (ev_ok hg h2)).next
  · obtain ⟨v1, h1, h2⟩ := opt1_some h; exact (un_ok h2 hp (ev_ok hg h1)).next
  · obtain ⟨v1, h1, h2⟩ := opt1_some h; exact (conv_ok h2 hp (ev_ok hg h1)).next
  · obtain ⟨v1, h1, h2⟩ := opt1_some h; exact (fieldV_ok h2 (ev_ok hg h1)).next
  · obtain ⟨v1, h1, h2⟩ := opt1_some h; exact (extractV_ok h2 (ev_ok hg h1)).next
  · obtain ⟨v1, v2, h1, h2, h3⟩ := opt2_some h; exact (indexS_ok h3 hp (ev_ok hg h1) (ev_ok hg h2)).next
  · obtain ⟨v1, h1, h2⟩ := opt1_some h; exact (fieldA_ok h2 (ev_ok hg h1)).next
  · obtain ⟨v1, v2, h1, h2, h3⟩ := opt2_some h; exact (indexA_ok h3 hp (ev_ok hg h1) (ev_ok hg h2)).next
  · rename_i t x lo hi
    split at h
    · rename_i v1 l hh e1 e2 e3
      obtain ⟨b1, b2⟩ := evo_ok hg e2
      obtain ⟨b3, b4⟩ := evo_ok hg e3
      exact (sliceV_ok h hp (ev_ok hg e1) b1 b2 b3 b4).next
    · cases h
  · rename_i t x lo hi m
    split at h
    · rename_i v1 l hh mx e1 e2 e3 e4
      obtain ⟨b1, b2⟩ := evo_ok hg e2
      obtain ⟨b3, b4⟩ := evo_ok hg e3
      obtain ⟨b5, b6⟩ := evo_ok hg e4
      exact (slice00_ok h (ev_ok hg e1) b2 b3 b5).next
    · cases h
  · rename_i args ts
    split at h
    · rename_i x t tr ha ht
      obtain ⟨v1, h1, h2⟩ := opt1_some h
      have hts : ts[0]? = some t := by rw [← Array.getElem?_toList, ht]; rfl
      obtain ⟨u, hu, hr⟩ := lenV_ok h2 (ev_ok hg h1) type ts hts
      have hargs : args = #[x] := by apply Array.ext'; rw [ha]
      subst hargs
      refine ⟨u, hu, fun W' => ?_⟩
      have := hr W'
      simp [execOp, resolve, invoke, builtin, this]
    · cases h
  · rename_i args ts
    split at h
    · rename_i l hl
      obtain ⟨u, hu, hr⟩ := minmax_ok (P := P) h (evs_ok hg _ _ hl) ts type
      refine ⟨u, hu, fun W' => ?_⟩
      have := hr W'
      have e : (args.toList.map a.eval).toArray = args.map a.eval := by apply Array.ext'; simp
      rw [e] at this
      simp [execOp, resolve, invoke, builtin, this]
    · cases h
  · rename_i args ts
    split at h
    · rename_i l hl
      obtain ⟨u, hu, hr⟩ := minmax_ok' (P := P) h (evs_ok hg _ _ hl) ts type
      refine ⟨u, hu, fun W' => ?_⟩
      have := hr W'
      have e : (args.toList.map a.eval).toArray = args.map a.eval := by apply Array.ext'; simp
      rw [e] at this
      simp [execOp, resolve, invoke, builtin, this]
    · cases h
  · rename_i x
    obtain ⟨v1, h1, h2⟩ := opt1_some h
    have hx := ev_ok hg h1
    unfold nilChk at h2
    split at h2
    · cases h2
      obtain ⟨⟨A, e⟩, _⟩ := id hx
      exact .now hx (fun W => by simp [execOp, e])
    · cases h2
      obtain ⟨A, w, _, e⟩ := id hx
      exact .now hx (fun W => by simp [execOp, e])
    · cases h2
      obtain ⟨us, e, _⟩ := id hx
      exact .now hx (fun W => by simp [execOp, e])
    · cases h2
  · rename_i f fs cs
    split at h
    · rename_i l hf hl
      split at h
      · rename_i l' hl'
        split at h
        · rename_i hn
          cases h
          have h1 := cr0 _ _ hn (cellsOf_ok _ _ _ hl' (evs_ok hg _ _ hl))
          have e1 : fs.map a.eval = #[] := by apply Array.ext'; simp [hf]
          refine .now (u := .func (.func f) #[] (cs.map a.eval)) ?_ (fun W => ?_)
          · exact ⟨cs.toList.map a.eval, by apply congrArg; apply Array.ext'; simp, h1⟩
          · simp [execOp, Instr.makeFunc, e1]
        · cases h
      · cases h
    · cases h
  · rename_i t ps
    split at h
    · rename_i l hl
      split at h
      · rename_i hn
        refine (bldV_ok h ?_).next
        have := evp_ok hg _ _ hl hn
        simpa using this
      · cases h
    · cases h
  · cases h
theorem q_ok {P : Program} {s : Sit} {N : Nat} {a : Act} {tm : TM} (hg : Good s N a tm) {o : Oper} {p : Prop} {v : V} (h : q P s.H tm o.op = some (p, v)) (hp : p) : QuietN P s v (execOp a.eval o) := by
  cases hld : isLd o.op with
  | false =>
    obtain ⟨u, h1, h2⟩ := q_okA hg h hp hld
    exact ⟨u, h1, fun W' _ => h2 W'⟩
  | true =>
    obtain ⟨dst, op, type, pos, after, guard⟩ := o
    cases op <;> simp only [isLd] at hld <;> first | (cases hld; done) | skip
    rename_i t x
    simp only [q] at h
    split at h
    · rename_i c ag n hx hl
      split at h
      · rename_i cs hcs
        split at h
        · rename_i v' hm
          cases h
          exact (load_ok hg.si hl hcs hm (ev_ok hg hx)).next
        · cases h
      · cases h
    · cases h
end Go.En
