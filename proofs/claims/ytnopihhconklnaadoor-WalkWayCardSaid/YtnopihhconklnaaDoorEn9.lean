import Derived.Test.YtnopihhconklnaaDoorEn8
import Derived.Test.YtnopihhconklnaaDoorEnR
import Derived.Calls
import Derived.Shelf.Abstract
import Derived.Laws.BytesArg
import Derived.RangeFuncSeq
/- The abstract machine runs code; what it shows holds of the real one. -/
namespace Go.En
open Go Go.RowKit
set_option linter.unusedSimpArgs false
set_option linter.unusedVariables false

/-- the cells of bytes. -/
def BY (l : List UInt8) : List (List C) := l.map fun b => [.v (.int .u8 b.toNat)]
theorem BY_flat (l : List UInt8) : (BY l).flatten = l.map fun b => .v (.int .u8 b.toNat) := by
  induction l with
  | nil => rfl
  | cons b r ih => rw [BY, List.map_cons, List.flatten_cons, ← BY, ih]; rfl
theorem conv_str {P : Program} {s : Sit} (hs : SI s) {src dst e : TypeId} (ht : P.underlying src = some (.slice e)) (he : P.underlying e = some (.int .u8)) (hd : P.underlying dst = some .string) {v : V} {u : Value} {l : List UInt8} (hv : srcEs s.H v = some (BY l)) (hu : VR s v u) (W' : World) (hg : s.W.grownBy W' none) : (convert src dst u).run P W' = .ok (.string ⟨l.toArray⟩) W' := by
  obtain ⟨us, hr, h⟩ := src_ok hs hv hu
  rw [BY_flat] at hr
  have hus : us = (l.map fun b => ((b.toNat : Nat) : Int)).map (Value.int .u8) := by
    apply List.ext_getElem?
    intro k
    rw [List.map_map, List.getElem?_map]
    cases hk : us[k]? with
    | none =>
      have := hr.1
      rw [List.length_map] at this
      have hl := List.getElem?_eq_none_iff.1 hk
      rw [List.getElem?_eq_none (by omega)]
      rfl
    | some y =>
      obtain ⟨c, hc, hcy⟩ := hr.get_r hk
      rw [List.getElem?_map] at hc
      cases hb : l[k]? with
      | none => rw [hb] at hc; cases hc
      | some b => rw [hb] at hc; cases hc; obtain ⟨rfl, _⟩ := hcy; rfl
  have hlen : us.length = (BY l).length := by rw [← hr.1, BY, List.length_map, List.length_map]
  rcases h with ⟨a, c, rfl, hc⟩ | ⟨rfl, hz⟩
  · have hl := run_loadCells_list (P := P) W' a us (fun j x hj => hg.cell (hc j x hj) (by simp))
    rw [hlen, hus] at hl
    rw [run_convert_bytes_string W' src dst e _ _ c ht he hd, run_bytesToString W' _ _ c _ hl, foldl_push_bytes]
    congr 2
    simp [ByteArray.empty, ByteArray.emptyWithCapacity]
    have e1 : ((fun n : Int => UInt8.ofNat n.toNat) ∘ fun b : UInt8 => ((b.toNat : Nat) : Int)) = id := by funext b; simp
    rw [e1]
    simp
    rfl
  · have : l = [] := by cases l with | nil => rfl | cons => simp [BY] at hz
    subst this
    rw [run_convert_bytes_nil W' src e ht he 0 0 dst hd]
    rfl

/-- in which order operations of a region are looked at: one after the other; two that may come up now, either way. -/
inductive Plan where
  | done
  | one (i : Nat) (p : Plan)
  | two (i : Nat) (p : Plan) (j : Nat) (q : Plan)
def lin : List Nat → Plan
  | [] => .done
  | i :: l => .one i (lin l)
def todo : Plan → List Nat
  | .done => []
  | .one i p => i :: todo p
  | .two i p _ _ => i :: todo p
inductive K where
  | code (c : Code)
  | ops (ops : Array Oper) (l : List Nat)
  | any (ops : Array Oper) (ds : List Nat) (l : Plan)
  | blk (id : Nat)
def br (b : Bool) (x y : Prop) : Prop := match b with
  | true => x
  | false => y
theorem br_iff {b : Bool} {x y : Prop} : br b x y ↔ (b = true → x) ∧ (b = false → y) := by cases b <;> simp [br]
def put (d : Option Tmp) (v : V) (tm : TM) : TM := match d with
  | some d => (d, v) :: tm
  | none => tm
/-- operations that only look. -/
def qOp : Op → Bool
  | .move _ => true
  | .assign _ => true
  | .pick _ _ _ => true
  | .load _ _ => true
  | .binOp _ _ _ _ _ => true
  | .unOp _ _ _ => true
  | .convert _ _ _ => true
  | .field _ _ _ => true
  | .extract _ _ => true
  | .index _ _ _ => true
  | .fieldAddr _ _ _ => true
  | .indexAddr _ _ _ => true
  | .slice _ _ _ _ _ => true
  | .nilCheck _ => true
  | .makeFunc _ _ _ => true
  | .build _ _ => true
  | .call ⟨.builtin .len, _, _⟩ => true
  | .call ⟨.builtin .min, _, _⟩ => true
  | .call ⟨.builtin .max, _, _⟩ => true
  | _ => false
def isCall : Op → Bool
  | .call ⟨.value _, _, _⟩ => true
  | _ => false
def opAt (os : Array Oper) (f : Op → Bool) (i : Nat) : Bool := match os[i]? with
  | some o => f o.op
  | none => false
def dsOf (os : Array Oper) : List Nat := (List.range os.size).filter fun i => opAt os (fun o => !qOp o && !isNew o && !isCall o) i
/-- with calls that may write. -/
def dsA (os : Array Oper) (ds : List Nat) : List Nat := dsOf os ++ ds
def qtOf (i : Nat) : List Nat → Bool
  | [] => true
  | j :: r => if i = j then false else qtOf i r
theorem qtOf_t {i : Nat} : ∀ {ds : List Nat}, i ∉ ds → qtOf i ds = true
  | [], _ => rfl
  | j :: r, h => by
    unfold qtOf
    rw [if_neg (fun e => h (by rw [e]; exact List.mem_cons_self))]
    exact qtOf_t (fun hm => h (List.mem_cons_of_mem _ hm))
def listedOf (os : Array Oper) (l : List Nat) : Array Bool := ((List.range os.size).map fun i => !l.contains i).toArray
def okQuiet (os : Array Oper) (ds : List Nat) (L : Array Bool) (i : Nat) : Bool := Region.noSelect os && noDefer os && Region.free .any os L i && (Region.ready .any os L).contains i && !(dsA os ds).contains i
def okAt (os : Array Oper) (ds : List Nat) (i : Nat) (l : List Nat) : Bool := (listedOf os (i :: l)).setIfInBounds i true == listedOf os l &&
  ((okQuiet os ds (listedOf os (i :: l)) i && (opAt os (fun o => qOp o && !isLd o) i || (opAt os qOp i && closedL .any os (listedOf os (i :: l)) && (dsA os ds).all fun d => (listedOf os (i :: l)).getD d true || reach .any os i os.size d))) || Region.ready .any os (listedOf os (i :: l)) == [i])
/-- this order of a region's operations is as good as any. -/
def okFrom (os : Array Oper) (ds : List Nat) : Plan → Bool
  | .done => Region.ready .any os (listedOf os []) == []
  | .one i p => okAt os ds i (todo p) && okFrom os ds p
  | .two i p j q => ((listedOf os (i :: todo p)).setIfInBounds i true == listedOf os (todo p) && (listedOf os (j :: todo q)).setIfInBounds j true == listedOf os (todo q) && listedOf os (j :: todo q) == listedOf os (i :: todo p) && (todo q).length == (todo p).length && Region.ready .any os (listedOf os (i :: todo p)) == [i, j]) && (okFrom os ds p && okFrom os ds q)
def Sw (w : World) : World → Prop := fun w' => w.grownBy w' none
def Sit.drop (s : Sit) (n : Nat) : Sit := ⟨s.W, s.F, s.ρ.take n, s.H.take n⟩
/-- what is known of a run's situations (B), how else it may end (X: it returns), how many blocks there are at least, how large the heap is at least. -/
structure Base where
  B : Sit → Prop
  X : Act → World → Prop
  n0 : Nat
  m : Nat
structure Base.Ok (b : Base) : Prop where
  ext : ∀ s s', SI s → b.B s → Ext s s' → b.B s'
  drop : ∀ s n, b.B s → b.n0 ≤ n → SI (s.drop n) → b.B (s.drop n)
  le : ∀ s, b.B s → b.n0 ≤ s.H.length
  size : ∀ s, b.B s → b.m ≤ s.W.heap.size
/-- the marks of loops over functions. -/
def Mk (m : Nat) (s : Sit) (ds : List Deferred) : Prop := ∃ Ds : List Nat, ds = Ds.map (fun D => (⟨.collected D, #[]⟩ : Deferred)) ∧ Ds.Nodup ∧ ∀ D ∈ Ds, m ≤ D ∧ s.W.heap[D]? = some (.deferred (some [])) ∧ ¬ OwnG s.ρ D ∧ ¬ s.F D
theorem Mk.nil (m : Nat) (s : Sit) : Mk m s [] := ⟨[], rfl, List.nodup_nil, fun D h => by cases h⟩
theorem Mk.ext {m : Nat} {s s' : Sit} {ds : List Deferred} (h : Mk m s ds) (he : Ext s s') : Mk m s' ds := by
  obtain ⟨Ds, e, hn, h⟩ := h
  refine ⟨Ds, e, hn, fun D hD => ?_⟩
  obtain ⟨h1, h2, h3, h4⟩ := h D hD
  have hlt := (Array.getElem?_eq_some_iff.1 h2).1
  refine ⟨h1, (he.frame D hlt h3).trans h2, fun ho => ?_, fun hf => ?_⟩
  · rcases he.own D ho with h | h
    · exact h3 h
    · omega
  · rcases he.F' D hf with h | h | h
    · exact h4 h
    · omega
    · exact h3 h
theorem Mk.drop {m n : Nat} {s : Sit} {ds : List Deferred} (h : Mk m s ds) : Mk m (s.drop n) ds := by
  obtain ⟨Ds, e, hn, h⟩ := h
  refine ⟨Ds, e, hn, fun D hD => ?_⟩
  obtain ⟨h1, h2, h3, h4⟩ := h D hD
  refine ⟨h1, h2, fun ⟨b, rv, e1, e2⟩ => h3 ⟨b, rv, ?_, e2⟩, h4⟩
  simp only [Sit.drop] at e1
  rw [List.getElem?_take] at e1
  split at e1
  · exact e1
  · cases e1
def Base.At (b : Base) (s : Sit) (a : Act) : Prop := b.B s ∧ Mk b.m s a.defers
theorem Base.At.put {b : Base} {s : Sit} {a : Act} (h : b.At s a) (d : Option Tmp) (v : Value) : b.At s (a.put d v) := by cases d <;> exact h
theorem Base.At.ext {b : Base} {s s' : Sit} {a : Act} (h : b.At s a) (hb : b.Ok) (hs : SI s) (he : Ext s s') : b.At s' a := ⟨hb.ext s s' hs h.1 he, h.2.ext he⟩
/-- a run's frame: how many temporaries there are, whether it is a round's, what is asked of its bases. -/
structure Cx where
  n : Nat
  r : Option Nat
  y : Base → Prop
theorem calls_fe {P : Program} {f : FuncId} {args : Array Value} {w : World} {R : Ending → World → Prop} (r : Option Nat) (n : Nat) (h : Calls P f args w R) : CallsIn (fe r) n P f args w R := by
  cases r <;> exact callsIn_wide.2 h
theorem round_fe {P : Program} {l : Nat} {f : FuncId} {tmps : Array Value} {c d : Code} {w : World} {R : Ending → World → Prop} (r : Option Nat) (n m : Nat) (h : RoundIn Fence.wide m P l f tmps c d w R) : RoundIn (fe r) n P l f tmps c d w R := by
  obtain ⟨h1, h2⟩ := h
  refine ⟨fe_fn r f, fun x cs hroom => ?_⟩
  have := h2 x cs (room_wide _)
  cases r <;> exact this
/-- where code goes on, by how it ended. -/
def kx (P : Program) (r : Option Nat) : List K → Exit → (Exit → Act → World → Prop) → Act → World → Prop
  | [], ex, Q, a, w => Q ex a w
  | .code c :: k, ex, Q, a, w => match ex with
    | .normal => c.wpIn (fe r) 0 P (fun ex' a' w' => kx P r k ex' Q a' w') a w
    | ex => kx P r k ex Q a w
  | .ops os l :: k, ex, Q, a, w => match ex with
    | .normal => wpOpsIn (fe r) 0 P os (fun ex' a' w' => kx P r k ex' Q a' w') l a w
    | ex => kx P r k ex Q a w
  | .any os ds l :: k, ex, Q, a, w => match ex with
    | .normal => okFrom os ds l = true → wpA (fe r) 0 P .any os (fun ex' a' w' => kx P r k ex' Q a' w') (Sw w) (dsA os ds) (todo l).length (listedOf os (todo l)) a w
    | ex => kx P r k ex Q a w
  | .blk id :: k, ex, Q, a, w => match ex with
    | .exit id' => if id' = id then kx P r k .normal Q a w else kx P r k (.exit id') Q a w
    | ex => kx P r k ex Q a w
def exitK (id : Nat) : List K → Option (List K)
  | [] => none
  | .blk id' :: k => if id = id' then some k else exitK id k
  | _ :: k => exitK id k
/-- what a run shows of the real machine. -/
def QQ (N : Cx) (b : Base) (Q : Exit → TM → List Blk → Prop) (ex : Exit) (a : Act) (w : World) : Prop := (∀ c, ex ≠ .panic c) ∧ ((∃ s tm, b.At s a ∧ s.W = w ∧ Good s N.n a tm ∧ Q ex tm s.H) ∨ (ex = .ret ∧ b.X a w))
def Shows (P : Program) (N : Cx) (k : List K) (ex : Exit) (tm : TM) (H : List Blk) (Q : Exit → TM → List Blk → Prop) : Prop :=
  ∀ b s a, (b.Ok ∧ N.y b) → b.At s a → Good s N.n a tm → s.H = H → kx P N.r k ex (QQ N b Q) a s.W
/-- a call, in the machine's words. -/
def Call (P : Program) (qt : Bool) (g : FuncId) (vs : List V) (H : List Blk) (R : V → List Blk → Prop) : Prop :=
  Go.Proofs.Enters P g ∧ ∀ s args, SI s → s.H = H → R2 (VR s) vs args → Calls P g args.toArray s.W fun e w' => ∃ s' r u, e = .returned u ∧ Ext s s' ∧ s'.W = w' ∧ VR s' r u ∧ R r s'.H ∧ (qt = true → s.W.grownBy s'.W none)
/-- a cell as it stands in a row that stays. -/
def nrm : C → C
  | .e0 => .row []
  | c => c
def nrmV : V → V
  | .c x => .c (nrm x)
  | .agg cs => .agg (cs.map nrm)
  | .tup vs => .tup vs
def nrmVs : List V → List V
  | [] => []
  | v :: r => nrmV v :: nrmVs r
/-- the run stands still at a call, a loop. -/
def CallK (P : Program) (N : Cx) (qt : Bool) (g : FuncId) (vs ws : List V) (dst : Option Tmp) (k : List K) (tm : TM) (H : List Blk) (Q : Exit → TM → List Blk → Prop) : Prop :=
  ws = nrmVs vs → Call P qt g vs H fun r H' => Shows P N k .normal (put dst r tm) H' Q
def Here (P : Program) (N : Cx) (k : List K) (tm : TM) (H : List Blk) (Q : Exit → TM → List Blk → Prop) : Prop := Shows P N k .normal tm H Q
/-- the run stands still at an element of a row. -/
def IdxK (P : Program) (N : Cx) (es : List (List C)) (n : Int) (sz : Nat) (dst : Option Tmp) (k : List K) (tm : TM) (H : List Blk) (Q : Exit → TM → List Blk → Prop) : Prop :=
  ∃ e, es[n.toNat]? = some e ∧ 0 ≤ n ∧ e.length = sz ∧ Shows P N k .normal (put dst (.c (.rptr e 0)) tm) H Q
/-- the run stands still at bytes that become a text. -/
def BytK (P : Program) (N : Cx) (es : List (List C)) (dst : Option Tmp) (k : List K) (tm : TM) (H : List Blk) (Q : Exit → TM → List Blk → Prop) : Prop :=
  ∃ l : List UInt8, es = BY l ∧ Shows P N k .normal (put dst (VS ⟨l.toArray⟩) tm) H Q
/-- the run stands still at the question whether a row is nil: an empty one may be so or not. -/
def NilK (P : Program) (N : Cx) (neg : Bool) (empty : Prop) (dst : Option Tmp) (k : List K) (tm : TM) (H : List Blk) (Q : Exit → TM → List Blk → Prop) : Prop :=
  ∀ b : Bool, (b = true → empty) → Shows P N k .normal (put dst (VB (b != neg)) tm) H Q
/-- the run stands still at a call of yield. -/
def YieldK (P : Program) (N : Cx) (l : Nat) (vs : List V) (dst : Option Tmp) (k : List K) (tm : TM) (H : List Blk) (Q : Exit → TM → List Blk → Prop) : Prop :=
  ∀ b s a, (b.Ok ∧ N.y b) → b.At s a → Good s N.n a tm → s.H = H → ∀ us, R2 (VR s) vs us → YieldAt Fence.wide 0 P l us.toArray s.W (fun e w' => ∃ v, e = .returned v ∧ kx P N.r k .normal (QQ N b Q) (a.put dst v) w')
def dstOf (os : Array Oper) (j : Nat) : Option Tmp := (os[j]?).bind (·.dst)
/-- what is known of a test behind it. -/
def sub (c : Operand) (b : Bool) (tm : TM) : TM := match c with
  | .tmp t => (t, VB b) :: tm
  | _ => tm
def run (P : Program) (N : Cx) : Nat → List K → TM → List Blk → (Exit → TM → List Blk → Prop) → Prop
  | 0, k, tm, H, Q => Here P N k tm H Q
  | n + 1, [], tm, H, Q => Q .normal tm H
  | n + 1, .blk id :: k, tm, H, Q => run P N n k tm H Q
  | n + 1, .code c :: k, tm, H, Q => match c with
    | .skip => run P N n k tm H Q
    | .seq a b => run P N n (.code a :: .code b :: k) tm H Q
    | .block id c => run P N n (.code c :: .blk id :: k) tm H Q
    | .cond c a b => match ev tm c with
      | some ((.c (.v (.bool t)))) => br t (run P N n (.code a :: k) (sub c true tm) H Q) (run P N n (.code b :: k) (sub c false tm) H Q)
      | _ => Here P N (.code (.cond c a b) :: k) tm H Q
    | .exit id => match exitK id k with
      | some k' => run P N n k' tm H Q
      | none => Q (.exit id) tm H
    | .ret => Q .ret tm H
    | .region id os false => run P N n (.ops os (List.range os.size) :: k) tm H Q
    | c => Here P N (.code c :: k) tm H Q
  | n + 1, .ops os [] :: k, tm, H, Q => run P N n k tm H Q
  | n + 1, .any os ds .done :: k, tm, H, Q => run P N n k tm H Q
  | n + 1, .ops os (i :: l) :: k, tm, H, Q => match os[i]? with
    | none => run P N n (.ops os l :: k) tm H Q
    | some o => guarded P N n false o os (.ops os (i :: l) :: k) (.ops os l :: k) tm H Q
  | n + 1, .any os ds (.one i l) :: k, tm, H, Q => match os[i]? with
    | none => False
    | some o => guarded P N n (qtOf i ds) o os (.any os ds (.one i l) :: k) (.any os ds l :: k) tm H Q
  | n + 1, .any os ds (.two i l j m) :: k, tm, H, Q => match os[i]?, os[j]? with
    | some o, some o' => guarded P N n (qtOf i ds) o os (.any os ds (.two i l j m) :: k) (.any os ds l :: k) tm H Q ∧ guarded P N n (qtOf j ds) o' os (.any os ds (.two i l j m) :: k) (.any os ds m :: k) tm H Q
    | _, _ => False
  where
  guarded (P : Program) (N : Cx) (n : Nat) (qt : Bool) (o : Oper) (os : Array Oper) (k0 k : List K) (tm : TM) (H : List Blk) (Q : Exit → TM → List Blk → Prop) : Prop := match o.guard with
      | some (j, want) => match dstOf os j with
        | some d => match lk d tm with
          | some ((.c (.v (.bool b)))) => match want with
            | true => br b (step P N n qt o k ((d, VB true) :: tm) H Q) ((match o.dst with | some d => d < N.n | none => True) ∧ run P N n k (put o.dst (.tup []) ((d, VB false) :: tm)) H Q)
            | false => br b ((match o.dst with | some d => d < N.n | none => True) ∧ run P N n k (put o.dst (.tup []) ((d, VB true) :: tm)) H Q) (step P N n qt o k ((d, VB false) :: tm) H Q)
          | some (.tup []) => (match o.dst with | some d => d < N.n | none => True) ∧ run P N n k (put o.dst (.tup []) tm) H Q
          | _ => Here P N k0 tm H Q
        | none => Here P N k0 tm H Q
      | none => step P N n qt o k tm H Q
  step (P : Program) (N : Cx) (n : Nat) (qt : Bool) (o : Oper) (k : List K) (tm : TM) (H : List Blk) (Q : Exit → TM → List Blk → Prop) : Prop :=
    (match o.dst with | some d => d < N.n | none => True) ∧
    match q P H tm o.op with
    | some (p, v) => p ∧ run P N n k (put o.dst v tm) H Q
    | none => match ld P H tm o.op with
      | some (p, v, H') => p ∧ run P N n k (put o.dst v tm) H' Q
      | none => match o.op with
        | .call ⟨.value f, args, _⟩ => match ev tm f, evs tm args.toList with
          | some (.c (.yld l)), some vs => match qt with
            | false => YieldK P N l vs o.dst k tm H Q
            | true => False
          | some (.c (.fn g caps)), some vs => CallK P N qt g (vs ++ caps.map .c) (nrmVs (vs ++ caps.map .c)) o.dst k tm H Q
          | _, _ => False
        | .indexAddr t x i => match P.underlying t, ev tm x, ev tm i with
          | some (.slice e), some (.c (.row es)), some ((.c (.v (.int _ n)))) => match szOf P e with
            | some sz => IdxK P N es n sz o.dst k tm H Q
            | none => False
          | _, _, _ => False
        | .convert src dst x => match qt, ev tm x with
          | false, some v => match P.underlying src, P.underlying dst, srcEs H v with
            | some (.slice e), some .string, some es => match P.underlying e with
              | some (.int .u8) => BytK P N es o.dst k tm H Q
              | _ => False
            | _, _, _ => False
          | _, _ => False
        | .binOp .eql t x (.const (.slice none 0 0)) _ => match P.underlying t, ev tm x with
          | some (.slice _), some (.c (.row es)) => NilK P N false (es = []) o.dst k tm H Q
          | _, _ => False
        | _ => False
theorem Good.same {s : Sit} {N : Nat} {a : Act} {tm : TM} (h : Good s N a tm) {d : Nat} {v : V} (hd : lk d tm = some v) : Good s N a ((d, v) :: tm) := by
  refine h.sub (fun t x hx => ?_)
  unfold lk at hx
  split at hx
  · rename_i e; subst e; cases hx; exact hd
  · exact hx
theorem Good.sub_ {s : Sit} {N : Nat} {a : Act} {tm : TM} (h : Good s N a tm) {c : Operand} {b : Bool} (hc : ev tm c = some (VB b)) : Good s N a (Go.En.sub c b tm) := by
  cases c with
  | tmp t => exact h.same hc
  | _ => exact h
theorem exitK_ok {P : Program} {r : Option Nat} {id : Nat} : ∀ (k k' : List K), exitK id k = some k' → ∀ {Q : Exit → Act → World → Prop} {a : Act} {w : World}, kx P r k' .normal Q a w → kx P r k (.exit id) Q a w
  | [], k', h, Q, a, w, hk => by simp [exitK] at h
  | .blk id' :: k, k', h, Q, a, w, hk => by
    simp only [exitK] at h
    split at h
    · rename_i e; cases h; simp only [kx, if_pos e]; exact hk
    · rename_i e; simp only [kx, if_neg e]; exact exitK_ok k k' h hk
  | .code c :: k, k', h, Q, a, w, hk => by simp only [exitK] at h; simp only [kx]; exact exitK_ok k k' h hk
  | .ops os l :: k, k', h, Q, a, w, hk => by simp only [exitK] at h; simp only [kx]; exact exitK_ok k k' h hk
  | .any os ds l :: k, k', h, Q, a, w, hk => by simp only [exitK] at h; simp only [kx]; exact exitK_ok k k' h hk
theorem exitK_none {P : Program} {r : Option Nat} {id : Nat} : ∀ (k : List K), exitK id k = none → ∀ {Q : Exit → Act → World → Prop} {a : Act} {w : World}, Q (.exit id) a w → kx P r k (.exit id) Q a w
  | [], h, Q, a, w, hk => hk
  | .blk id' :: k, h, Q, a, w, hk => by
    simp only [exitK] at h
    split at h
    · cases h
    · rename_i e; simp only [kx, if_neg e]; exact exitK_none k h hk
  | .code c :: k, h, Q, a, w, hk => by simp only [exitK] at h; simp only [kx]; exact exitK_none k h hk
  | .ops os l :: k, h, Q, a, w, hk => by simp only [exitK] at h; simp only [kx]; exact exitK_none k h hk
  | .any os ds l :: k, h, Q, a, w, hk => by simp only [exitK] at h; simp only [kx]; exact exitK_none k h hk
theorem kx_ret {P : Program} {r : Option Nat} : ∀ (k : List K) {Q : Exit → Act → World → Prop} {a : Act} {w : World}, Q .ret a w → kx P r k .ret Q a w
  | [], Q, a, w, h => h
  | .blk id :: k, Q, a, w, h => by simp only [kx]; exact kx_ret k h
  | .code c :: k, Q, a, w, h => by simp only [kx]; exact kx_ret k h
  | .ops os l :: k, Q, a, w, h => by simp only [kx]; exact kx_ret k h
  | .any os ds l :: k, Q, a, w, h => by simp only [kx]; exact kx_ret k h
theorem good_dst {s : Sit} {N : Nat} {a : Act} {tm : TM} (h : Good s N a tm) {o : Oper} {v : V} {u : Value} (hd : match o.dst with | some d => d < N | none => True) (hv : VR s v u) : Good s N (a.put o.dst u) (put o.dst v tm) := by
  cases ho : o.dst with
  | none => exact h
  | some d => rw [ho] at hd; exact h.put hd hv
theorem vr_undef (s : Sit) : VR s (.tup []) undef := ⟨[], rfl, R2.nil⟩
theorem wpOps_cons {P : Program} {r : Option Nat} {os : Array Oper} {Q : Exit → Act → World → Prop} {i : Nat} {l : List Nat} {a : Act} {w : World} {o : Oper} (hi : os[i]? = some o) (h : if Region.wanted o (yielded os a.tmps) = true then o.wpIn (fe r) 0 P a w (wpOpsIn (fe r) 0 P os Q l) Q else wpOpsIn (fe r) 0 P os Q l (a.put o.dst undef) w) : wpOpsIn (fe r) 0 P os Q (i :: l) a w := by
  unfold wpOpsIn
  simp only [hi]
  split
  · rename_i e; rw [if_pos e] at h; exact h
  · rename_i e; rw [if_neg e] at h; exact ⟨fun f _ => fe_fn r f, h⟩
theorem kx_panic {P : Program} {r : Option Nat} {N : Cx} {s0 : Base} {Q : Exit → TM → List Blk → Prop} {c : List PanicEntry} : ∀ (k : List K) {a : Act} {w : World}, kx P r k (.panic c) (QQ N s0 Q) a w → False
  | [], a, w, h => h.1 c rfl
  | .blk id :: k, a, w, h => by simp only [kx] at h; exact kx_panic k h
  | .code c :: k, a, w, h => by simp only [kx] at h; exact kx_panic k h
  | .ops os l :: k, a, w, h => by simp only [kx] at h; exact kx_panic k h
  | .any os ds l :: k, a, w, h => by simp only [kx] at h; exact kx_panic k h
theorem qOp_of_q {P : Program} {H : List Blk} {tm : TM} {op : Op} {r : Prop × V} (h : q P H tm op = some r) : qOp op = true := by
  cases op with
  | call c =>
    obtain ⟨cl, args, ts⟩ := c
    cases cl with
    | builtin b => cases b <;> first | rfl | simp [q] at h
    | _ => simp [q] at h
  | _ => first | rfl | simp [q] at h
theorem not_qOp_of_ld {P : Program} {H : List Blk} {tm : TM} {op : Op} {r : Prop × V × List Blk} (h : ld P H tm op = some r) : qOp op = false ∧ isCall op = false := by
  cases op with
  | call c =>
    obtain ⟨cl, args, ts⟩ := c
    cases cl with
    | builtin b => cases b <;> first | exact ⟨rfl, rfl⟩ | simp [ld] at h
    | _ => simp [ld] at h
  | _ => first | exact ⟨rfl, rfl⟩ | simp [ld] at h
theorem mem_ds {os : Array Oper} {i : Nat} {o : Oper} (hi : os[i]? = some o) : i ∈ dsOf os ↔ (qOp o.op = false ∧ isNew o.op = false) ∧ isCall o.op = false := by
  unfold dsOf opAt
  rw [List.mem_filter, List.mem_range, hi]
  have := (Array.getElem?_eq_some_iff.1 hi).1
  simp [this]
theorem grown_trans {a b c : World} (h : a.grownBy b none) (k : b.grownBy c none) : a.grownBy c none := ⟨k.os.trans h.os, k.tape.trans h.tape, k.output.trans h.output, Nat.le_trans h.size k.size, fun i hi _ => (k.block i (Nat.lt_of_lt_of_le hi h.size) (by simp)).trans (h.block i hi (by simp))⟩
theorem grown_refl (a : World) : a.grownBy a none := ⟨rfl, rfl, rfl, Nat.le_refl _, fun _ _ _ => rfl⟩
theorem drew_ext {s : Sit} (hs : SI s) : Ext s ⟨s.W.drew, s.F, s.ρ, s.H⟩ := by
  have e0 : Ext0 s ⟨s.W.drew, s.F, s.ρ, s.H⟩ := ⟨rfl, rfl, rfl, Nat.le_refl _, fun _ _ _ => rfl, fun _ h => h, fun _ h => .inl h, fun _ h => .inl h, fun b blk rv h1 h2 => ⟨blk, rv, h1, h2, Nat.le_refl _, fun _ => ⟨rfl, rfl, rfl⟩⟩⟩
  exact ⟨e0, ⟨hs.len, fun b blk rv h1 h2 => (hs.blk b blk rv h1 h2).ext hs e0 (fun _ _ => rfl), hs.ne, hs.nf, hs.fs, hs.gl⟩⟩
/-- how one operation is carried out: it looks (in every world, or in those that have grown), or it does more. -/
inductive Did (P : Program) (N : Cx) (b : Base) (Q : Exit → TM → List Blk → Prop) (qt : Bool) (k : List K) (o : Oper) (a : Act) (s : Sit) : Prop
  | look (v : Value) : qOp o.op = true → (∀ W', s.W.grownBy W' none → (execOp a.eval o).run P W' = .ok (.value v) W') → (qt = true → isLd o.op = false → ∀ W', (execOp a.eval o).run P W' = .ok (.value v) W') → kx P N.r k .normal (QQ N b Q) (a.put o.dst v) s.W → Did P N b Q qt k o a s
  | does : qOp o.op = false → (∀ {K' : Act → World → Prop} {Q' : Exit → Act → World → Prop}, (∀ a' w', kx P N.r k .normal (QQ N b Q) a' w' → ((isNew o.op = true ∨ (isCall o.op = true ∧ qt = true)) → s.W.grownBy w' none) → K' a' w') → o.wpIn (fe N.r) 0 P a s.W K' Q') → Did P N b Q qt k o a s
theorem nd_q {o : Op} (h : qOp o = true) : ∀ c, o ≠ .defer c := fun c e => by rw [e] at h; cases h
theorem nd_ld {P : Program} {H : List Blk} {tm : TM} {op : Op} {r : Prop × V × List Blk} (h : ld P H tm op = some r) : ∀ c, op ≠ .defer c := fun c e => by rw [e] at h; simp [ld] at h
theorem run_equal_nil {P : Program} {t e : TypeId} (h : P.underlying t = some (.slice e)) (A : Option Addr) (n c : Nat) (W : World) : (Op.equal t (.slice A n c) (.slice none 0 0)).run P W = .ok A.isNone W := by
  have e : ∀ d, (Op.equalIn (d + 1) t (.slice A n c) (.slice none 0 0)).run P W = .ok A.isNone W := fun d => by
    simp only [Op.equalIn, Sem.run_bind, run_underlying h, Result.andThen_ok]
    cases A <;> rfl
  exact e 9999
/-- what the machine's run shows holds of the real one. -/
theorem run_ok {P : Program} {N : Cx} : ∀ (n : Nat) (k : List K) (tm : TM) (H : List Blk) (Q : Exit → TM → List Blk → Prop), run P N n k tm H Q → Shows P N k .normal tm H Q := by
  intro n
  induction n with
  | zero => intro k tm H Q h; simp only [run] at h; exact h
  | succ n ih =>
    have hstep : ∀ qt o k tm H Q, run.step P N n qt o k tm H Q → ∀ (s0 : Base) s a, (s0.Ok ∧ N.y s0) → s0.At s a → Good s N.n a tm → s.H = H → Did P N s0 Q qt k o a s := by
      intro qt o k tm H Q h s0 s a h0 he hg hH
      subst hH
      unfold run.step at h
      obtain ⟨hd, h⟩ := h
      split at h
      · rename_i p v hq
        obtain ⟨hp, h⟩ := h
        obtain ⟨u, hv, hr⟩ := q_ok hg hq hp
        refine .look u (qOp_of_q hq) hr (fun _ hl => ?_) (ih _ _ _ _ h s0 s _ h0 (he.put _ _) (good_dst hg hd hv) rfl)
        obtain ⟨u', hv', hr'⟩ := q_okA hg hq hp hl
        have e1 := hr s.W (grown_refl _)
        have e2 := hr' s.W
        rw [e1] at e2
        cases e2
        exact hr'
      · rename_i hq0
        split at h
        · rename_i p v H' hl
          obtain ⟨hp, h⟩ := h
          obtain ⟨s', u, g1, g2, g3, g5, g4⟩ := ld_ok hg hl hp
          refine .does (not_qOp_of_ld hl).1 (fun {K'} {Q'} hK => ?_)
          refine oper_in (fe_fn _) (nd_ld hl) ?_
          have hgo := ih _ _ _ _ h s0 s' (a.put o.dst u) h0 ((he.ext h0.1 hg.si g1).put _ _) (good_dst (hg.ext g1) hd g3) g2
          have hgo' := hK _ _ hgo (fun hn => g5 (hn.elim id (fun hc => by rw [(not_qOp_of_ld hl).2] at hc; cases hc.1)))
          rcases g4 with g4 | ⟨g4, rfl⟩ <;> rw [g4] <;> exact hgo'
        · split at h
          · rename_i f args ts hop
            split at h
            · rename_i l vs e1 e2
              cases qt with
              | true => exact h.elim
              | false =>
                have hf : a.eval f = .func (.yield l) #[] #[] := ev_ok hg e1
                have hargs := evs_ok hg _ _ e2
                obtain ⟨fn, tmps, asg, body, hy, hR⟩ := h s0 s a h0 he hg rfl _ hargs
                have hex : (execOp a.eval o).run P s.W = .ok (.round l fn tmps asg body) s.W := by
                  have e3 : (args.toList.map a.eval).toArray = args.map a.eval := by apply Array.ext'; simp
                  rw [e3] at hy
                  simp [execOp, hop, resolve, hf, Deferred.ofValue, invoke, hy]
                refine .does (by rw [hop]; rfl) (fun {K'} {Q'} hK => ?_)
                refine oper_in (fe_fn _) (by rw [hop]; intro c hc; cases hc) ?_
                rw [hex]
                refine ⟨fe_depth, round_fe _ _ _ (hR.mono ?_)⟩
                rintro e w' ⟨v, rfl, hk⟩
                exact hK _ _ hk (fun hn => by rcases hn with h | h
                                              · rw [hop] at h; cases h
                                              · cases h.2)
            · rename_i g caps vs e1 e2
              unfold CallK Call at h
              have hf := ev_ok hg e1
              obtain ⟨us, hfu, hus⟩ := hf
              have hargs := evs_ok hg _ _ e2
              have hall : R2 (VR s) (vs ++ caps.map .c) (args.toList.map a.eval ++ us) := by
                refine hargs.append ⟨by simp [hus.1], fun j c u h1 h2 => ?_⟩
                rw [List.getElem?_map] at h1
                cases hc : caps[j]? with
                | none => rw [hc] at h1; cases h1
                | some c' =>
                  rw [hc] at h1
                  cases h1
                  have := hus.2 j c' u hc h2
                  exact (by cases c' <;> first | exact this | exact this.elim)
              obtain ⟨hent, hc⟩ := h rfl
              have hcall := hc s _ hg.si rfl hall
              have hex : (execOp a.eval o).run P s.W = .ok (.enter g (args.toList.map a.eval ++ us).toArray) s.W := by
                have e3 : (args.toList.map a.eval ++ us).toArray = args.map a.eval ++ us.toArray := by apply Array.ext'; simp
                rw [e3]
                have e4 := hent (args.map a.eval ++ us.toArray) s.W
                simp [execOp, hop, resolve, hfu, Deferred.ofValue, invoke, e4]
              refine .does (by rw [hop]; rfl) (fun {K'} {Q'} hK => ?_)
              refine oper_in (fe_fn _) (by rw [hop]; intro c hc; cases hc) ?_
              rw [hex]
              refine ⟨fe_depth, calls_fe _ _ (hcall.mono ?_)⟩
              rintro e w' ⟨s', r, u, rfl, g1, rfl, g3, g4, g5⟩
              exact hK _ _ (g4 s0 s' _ h0 ((he.ext h0.1 hg.si g1).put _ _) (good_dst (hg.ext g1) hd g3) rfl) (fun hn => g5 (hn.elim (fun hc => by rw [hop] at hc; cases hc) (fun hc => hc.2)))
            · exact h.elim
          · rename_i t x i hop
            split at h
            · rename_i e es kk n hu e1 e2
              split at h
              · rename_i sz hsz
                obtain ⟨el, q1, q2, q3, h⟩ := h
                obtain ⟨u, hv, hr⟩ := indexR_ok hu hsz (ev_ok hg e1) (ev_ok hg e2) q1 q2 q3
                have hex : ∀ W', (execOp a.eval o).run P W' = .ok (.value u) W' := fun W' => by simp [execOp, hop, hr W']
                exact .look u (by rw [hop]; rfl) (fun W' _ => hex W') (fun _ _ => hex) (h s0 s _ h0 (he.put _ _) (good_dst hg hd hv) rfl)
              · exact h.elim
            · exact h.elim
          · rename_i src dst x hop
            split at h
            · rename_i v e1
              split at h
              · rename_i e es ht hd' hes
                split at h
                · rename_i he'
                  obtain ⟨l, rfl, h⟩ := h
                  have hex : ∀ W', s.W.grownBy W' none → (execOp a.eval o).run P W' = .ok (.value (.string ⟨l.toArray⟩)) W' := fun W' hW => by simp [execOp, hop, conv_str hg.si ht he' hd' hes (ev_ok hg e1) W' hW]
                  exact .look (.string ⟨l.toArray⟩) (by rw [hop]; rfl) hex (fun h => by cases h) (h s0 s _ h0 (he.put _ _) (good_dst hg hd ⟨rfl, rfl⟩) rfl)
                · exact h.elim
              · exact h.elim
            · exact h.elim
          · rename_i t x ty hop
            split at h
            · rename_i e es ht e1
              have hv := ev_ok hg e1
              have hsl : ∀ u : Value, DR s.W s.F (.row es) u → ∃ (A : Option Addr) (n c : Nat), u = .slice A n c ∧ (A = none → es = []) := fun u hu => by
                cases hu with
                | nil => exact ⟨none, 0, 0, rfl, fun _ => rfl⟩
                | @row A sz n c _ u hu ha hc hd hn hcap => exact ⟨some A, _, c, rfl, fun h => by cases h⟩
              obtain ⟨A, n, c, hA, hA2⟩ := hsl _ hv
              have hc0 : a.eval (.const (.slice none 0 0)) = .slice none 0 0 := rfl
              have hex : ∀ W', (execOp a.eval o).run P W' = .ok (.value (.bool A.isNone)) W' := fun W' => by
                have h1 : (Op.equal t (.slice A n c) (.slice none 0 0)).run P W' = .ok A.isNone W' := run_equal_nil ht A n c W'
                simp only [execOp, hop, hA, hc0, eqGuard, binOp, h1, Sem.run_bind, Sem.run_pure, Result.andThen_ok, Sem.run_map, Bool.not_true, Bool.false_eq_true, if_false]
              exact .look (.bool A.isNone) (by rw [hop]; rfl) (fun W' _ => hex W') (fun _ _ => hex) (h A.isNone (fun hb => hA2 (by simpa using hb)) s0 s _ h0 (he.put _ _) (good_dst hg hd ⟨by simp, rfl⟩) rfl)
            · exact h.elim
          · exact h.elim
    -- a guarded operation: it is carried out, or left out
    have hguard : ∀ qt o os k0 k tm H Q, run.guarded P N n qt o os k0 k tm H Q → ∀ (s0 : Base) s a, (s0.Ok ∧ N.y s0) → s0.At s a → Good s N.n a tm → s.H = H →
        (Region.wanted o (yielded os a.tmps) = true ∧ Did P N s0 Q qt k o a s) ∨ (Region.wanted o (yielded os a.tmps) = false ∧ kx P N.r k .normal (QQ N s0 Q) (a.put o.dst undef) s.W) ∨ kx P N.r k0 .normal (QQ N s0 Q) a s.W := by
      intro qt o os k0 k tm H Q h s0 s a h0 he hg hH
      have skipd : ∀ tm', Good s N.n a tm' → (match o.dst with | some d => d < N.n | none => True) ∧ run P N n k (put o.dst (.tup []) tm') H Q → kx P N.r k .normal (QQ N s0 Q) (a.put o.dst undef) s.W := by
        rintro tm' hg' ⟨hd, h⟩
        exact ih _ _ _ _ h s0 s _ h0 (he.put _ _) (good_dst hg' hd (vr_undef s)) hH
      unfold run.guarded at h
      split at h
      · rename_i j want hgd
        split at h
        · rename_i d hdst
          have hwant : ∀ b : Value, a.tmps.getD d undef = b → d < N.n → (Region.wanted o (yielded os a.tmps) = true ↔ b = .bool want) := by
            intro b hb hdN
            have hd0 : (os[j]?).bind (·.dst) = some d := hdst
            have hget : a.tmps[d]? = some b := by rw [← hb]; simp [Array.getD_eq_getD_getElem?, hg.size, hdN]
            unfold Region.wanted yielded
            rw [hgd]
            simp only [hd0, Option.bind_some, hget]
            cases b <;> simp
          split at h
          · rename_i b hb
            obtain ⟨hdN, hvr⟩ := hg.tm d _ hb
            have hv := vr_v hvr
            have hw := hwant _ rfl hdN
            rw [hv] at hw
            split at h
            · cases b with
              | true => exact .inl ⟨hw.2 rfl, hstep _ _ _ _ _ _ h s0 s a h0 he (hg.same hb) hH⟩
              | false => exact .inr (.inl ⟨(by rw [Bool.eq_false_iff]; intro e; have := hw.1 e; cases this), skipd _ (hg.same hb) h⟩)
            · cases b with
              | true => exact .inr (.inl ⟨(by rw [Bool.eq_false_iff]; intro e; have := hw.1 e; cases this), skipd _ (hg.same hb) h⟩)
              | false => exact .inl ⟨hw.2 rfl, hstep _ _ _ _ _ _ h s0 s a h0 he (hg.same hb) hH⟩
          · rename_i hb
            obtain ⟨hdN, us, hu, hr⟩ := hg.tm d _ hb
            have hw := hwant _ rfl hdN
            rw [hu] at hw
            exact .inr (.inl ⟨(by rw [Bool.eq_false_iff]; intro e; have := hw.1 e; cases this), skipd _ hg h⟩)
          · exact .inr (.inr (h s0 s a h0 he hg hH))
        · exact .inr (.inr (h s0 s a h0 he hg hH))
      · rename_i hgd
        have : Region.wanted o (yielded os a.tmps) = true := by unfold Region.wanted; rw [hgd]
        exact .inl ⟨this, hstep _ _ _ _ _ _ h s0 s a h0 he hg hH⟩
    -- an operation of a region that draws its order
    have hop : ∀ (os : Array Oper) (ds : List Nat) (i : Nat) (o : Oper) (p : Plan) (k : List K) (s0 : Base) (s : Sit) (a : Act) (Q : Exit → TM → List Blk → Prop), os[i]? = some o → okFrom os ds p = true → (listedOf os (i :: todo p)).setIfInBounds i true = listedOf os (todo p) →
        ((Region.wanted o (yielded os a.tmps) = true ∧ Did P N s0 Q (qtOf i ds) (.any os ds p :: k) o a s) ∨ (Region.wanted o (yielded os a.tmps) = false ∧ kx P N.r (.any os ds p :: k) .normal (QQ N s0 Q) (a.put o.dst undef) s.W)) →
        wpOpIn (fe N.r) 0 P os (fun ex' a' w' => kx P N.r k ex' (QQ N s0 Q) a' w') i (fun a' w' => (i ∈ dsA os ds → wpAnyIn (fe N.r) 0 P .any os (fun ex' a' w' => kx P N.r k ex' (QQ N s0 Q) a' w') (todo p).length ((listedOf os (i :: todo p)).setIfInBounds i true) a' w') ∧ (i ∉ dsA os ds → (Sw s.W s.W → Sw s.W w') ∧ wpA (fe N.r) 0 P .any os (fun ex' a' w' => kx P N.r k ex' (QQ N s0 Q) a' w') (Sw s.W) (dsA os ds) (todo p).length ((listedOf os (i :: todo p)).setIfInBounds i true) a' w')) a s.W := by
      intro os ds i o p k s0 s a Q hi hrest hset hc
      rcases hc with ⟨hw, hd⟩ | ⟨hw, hk⟩
      · unfold wpOpIn
        simp only [hi, hw, if_true]
        rw [hset]
        have close : ∀ a' w', kx P N.r (.any os ds p :: k) .normal (QQ N s0 Q) a' w' → (i ∉ dsA os ds → s.W.grownBy w' none) → (i ∈ dsA os ds → wpAnyIn (fe N.r) 0 P .any os (fun ex' a' w' => kx P N.r k ex' (QQ N s0 Q) a' w') (todo p).length (listedOf os (todo p)) a' w') ∧ (i ∉ dsA os ds → (Sw s.W s.W → Sw s.W w') ∧ wpA (fe N.r) 0 P .any os (fun ex' a' w' => kx P N.r k ex' (QQ N s0 Q) a' w') (Sw s.W) (dsA os ds) (todo p).length (listedOf os (todo p)) a' w') := by
          intro a' w' hk hgr
          simp only [kx] at hk
          have := hk hrest
          exact ⟨fun _ => wpA_any _ _ _ _ this, fun hn => ⟨fun _ => hgr hn, wpA_strong (fun x hx => grown_trans (hgr hn) hx) _ _ _ _ (grown_refl _) this⟩⟩
        rcases hd with ⟨v, hqq, h1, _, h2⟩ | ⟨hq, h1⟩
        · refine oper_in (fe_fn _) (nd_q (by assumption)) ?_
          rw [h1 s.W (grown_refl _)]
          exact close _ _ h2 (fun _ => grown_refl _)
        · refine h1 (fun a' w' hk hgr => close a' w' hk (fun hn => hgr ?_))
          unfold dsA at hn
          rw [List.mem_append, not_or, mem_ds hi] at hn
          obtain ⟨hn, hn2⟩ := hn
          cases hnw : isNew o.op with
          | true => exact .inl rfl
          | false =>
            cases hc : isCall o.op with
            | true => exact .inr ⟨rfl, qtOf_t hn2⟩
            | false => exact absurd ⟨⟨hq, hnw⟩, hc⟩ hn
      · simp only [kx] at hk
        have h4 := hk hrest
        unfold wpOpIn
        simp only [hi, hw, Bool.false_eq_true, if_false]
        rw [hset]
        exact ⟨fun f _ => fe_fn _ f, fun _ => wpA_any _ _ _ _ h4, fun _ => ⟨fun h => h, h4⟩⟩
    intro k tm H Q h
    match k with
    | [] => simp only [run] at h; exact fun s0 s a h0 he hg hH => ⟨by simp, .inl ⟨s, tm, he, rfl, hg, hH ▸ h⟩⟩
    | .blk id :: k =>
      simp only [run] at h
      exact fun s0 s a h0 he hg hH => by simp only [kx]; exact ih _ _ _ _ h s0 s a h0 he hg hH
    | .ops os [] :: k =>
      simp only [run] at h
      exact fun s0 s a h0 he hg hH => by simp only [kx, wpOpsIn]; exact ih _ _ _ _ h s0 s a h0 he hg hH
    | .any os ds .done :: k =>
      simp only [run] at h
      intro s0 s a h0 he hg hH
      simp only [kx, okFrom, beq_iff_eq, todo]
      intro hok
      exact ⟨hok, ih _ _ _ _ h s0 s a h0 he hg hH⟩
    | .ops os (i :: l) :: k =>
      intro s0 s a h0 he hg hH
      simp only [run] at h
      split at h
      · rename_i hi
        simp only [kx]
        unfold wpOpsIn
        simp only [hi]
        exact ih _ _ _ _ h s0 s a h0 he hg hH
      · rename_i o hi
        rcases hguard _ _ _ _ _ _ _ _ h s0 s a h0 he hg hH with ⟨hw, hd⟩ | ⟨hw, hk⟩ | hk
        · simp only [kx]
          refine wpOps_cons hi ?_
          rw [if_pos hw]
          rcases hd with ⟨v, hqq, h1, _, h2⟩ | ⟨_, h1⟩
          · refine oper_in (fe_fn _) (nd_q (by assumption)) ?_
            rw [h1 s.W (grown_refl _)]
            exact h2
          · exact h1 (fun a' w' hk _ => hk)
        · simp only [kx]
          refine wpOps_cons hi ?_
          rw [if_neg (by rw [hw]; simp)]
          exact hk
        · exact hk
    | .any os ds (.two i l j m) :: k =>
      intro s0 s a h0 he hg hH
      simp only [run] at h
      split at h
      · rename_i o o' hi hj
        obtain ⟨h1, h2⟩ := h
        rcases hguard _ _ _ _ _ _ _ _ h1 s0 s a h0 he hg hH with hd | hk | hk
        rotate_left 2
        · exact hk
        all_goals
          rcases hguard _ _ _ _ _ _ _ _ h2 s0 s a h0 he hg hH with hd' | hk' | hk'
          rotate_left 2
          · exact hk'
          all_goals
            simp only [kx, todo]
            intro hok
            simp only [okFrom, Bool.and_eq_true, beq_iff_eq] at hok
            obtain ⟨⟨⟨⟨⟨e1, e2⟩, e3⟩, e4⟩, e5⟩, e6, e7⟩ := hok
            have g1 := hop os ds i o l k s0 s a Q hi e6 e1 (by first | exact .inl hd | exact .inr hk)
            have g2 := hop os ds j o' m k s0 s a Q hj e7 e2 (by first | exact .inl hd' | exact .inr hk')
            rw [e3, e4] at g2
            refine ⟨fun h0 => (by rw [e5] at h0; cases h0), fun x hx => ?_⟩
            rw [e5] at hx
            simp only [List.mem_cons, List.not_mem_nil, or_false] at hx
            rcases hx with rfl | rfl
            · exact g1
            · exact g2
      · exact h.elim
    | .any os ds (.one i l) :: k =>
      intro s0 s a h0 he hg hH
      simp only [run] at h
      split at h
      · exact h.elim
      · rename_i o hi
        rcases hguard _ _ _ _ _ _ _ _ h s0 s a h0 he hg hH with hd | hk | hk
        rotate_left 2
        · exact hk
        all_goals
          simp only [kx, todo]
          intro hok
          simp only [okFrom, Bool.and_eq_true] at hok
          obtain ⟨hat, hrest⟩ := hok
          unfold okAt at hat
          simp only [Bool.and_eq_true, Bool.or_eq_true, beq_iff_eq] at hat
          obtain ⟨hset, hat⟩ := hat
          have hQ : ∀ (v : Value) (c : List PanicEntry) (a : Act) (w : World), kx P N.r k (.panic c) (QQ N s0 Q) (a.put o.dst v) w → kx P N.r k (.panic c) (QQ N s0 Q) a w := fun v c a w hp => (kx_panic k hp).elim
          have hone : Region.ready .any os (listedOf os (i :: todo l)) = [i] → wpA (fe N.r) 0 P .any os (fun ex' a' w' => kx P N.r k ex' (QQ N s0 Q) a' w') (Sw s.W) (dsA os ds) ((todo l).length + 1) (listedOf os (i :: todo l)) a s.W :=
            fun h1 => wpA_one h1 (hop os ds i o l k s0 s a Q hi hrest hset (by first | exact .inl hd | exact .inr hk))
        · -- carried out
          obtain ⟨hw, hd⟩ := hd
          rcases hat with ⟨hqt, hat⟩ | h1
          · unfold okQuiet at hqt
            simp only [Bool.and_eq_true, Bool.not_eq_true'] at hqt
            obtain ⟨⟨⟨⟨hns, hnf⟩, hfree⟩, hrdy⟩, hnd⟩ := hqt
            have hnd' : i ∉ dsA os ds := by simpa using hnd
            have hqt1 : qtOf i ds = true := qtOf_t (fun hm => hnd' (List.mem_append_right _ hm))
            rcases hd with ⟨v, hq, h1, h2, h3⟩ | ⟨hq, _⟩
            · simp only [kx] at h3
              have h4 := h3 hrest
              rw [← hset] at h4
              cases hl : isLd o.op with
              | false => exact wpA_pure (fe_fn _) hi (Region.noSelect_spec hns) (noDefer_spec hnf) (hQ v) (todo l).length _ a s.W (Region.free_spec hi hfree) (by simpa using hrdy) hnd' (.inl ⟨hw, fun w _ => h2 hqt1 hl w⟩) h4
              | true =>
                rcases hat with hat | ⟨⟨_, hcl⟩, hall⟩
                · unfold opAt at hat
                  rw [hi] at hat
                  simp [hl] at hat
                · exact wpA_first (fe_fn _) hi (Region.noSelect_spec hns) (noDefer_spec hnf) (hQ v) os.size (todo l).length _ a s.W (Region.free_spec hi hfree) (closedL_spec hcl) (fun d hd hun => by have := List.all_eq_true.1 hall d hd; rw [hun] at this; simpa using this) (by simpa using hrdy) hnd' (.inl ⟨hw, h1⟩) (grown_refl _) h4
            · have : opAt os qOp i = false := by unfold opAt; rw [hi]; exact hq
              rcases hat with hat | ⟨⟨hat, _⟩, _⟩
              · unfold opAt at hat
                rw [hi] at hat
                simp [hq] at hat
              · rw [this] at hat; cases hat
          · exact hone h1
        · -- left out
          have hk0 := hk
          obtain ⟨hw, hk⟩ := hk
          simp only [kx] at hk
          have h4 := hk hrest
          rcases hat with ⟨hqt, _⟩ | h1
          · unfold okQuiet at hqt
            simp only [Bool.and_eq_true, Bool.not_eq_true'] at hqt
            obtain ⟨⟨⟨⟨hns, hnf⟩, hfree⟩, hrdy⟩, hnd⟩ := hqt
            rw [← hset] at h4
            exact wpA_pure (fe_fn _) hi (Region.noSelect_spec hns) (noDefer_spec hnf) (hQ undef) (todo l).length _ a s.W (Region.free_spec hi hfree) (by simpa using hrdy) (by simpa using hnd) (.inr ⟨hw, rfl⟩) h4
          · exact hone h1
    | .code c :: k =>
      intro s0 s a h0 he hg hH
      simp only [kx]
      unfold run at h
      split at h
      · exact wpIn_skip (ih _ _ _ _ h s0 s a h0 he hg hH)
      · rename_i x y
        have := ih _ _ _ _ h s0 s a h0 he hg hH
        simp only [kx] at this
        refine wpIn_seq (wpIn_mono this ?_)
        intro e a' w' hk
        cases e <;> exact hk
      · rename_i id c'
        have := ih _ _ _ _ h s0 s a h0 he hg hH
        simp only [kx] at this
        refine wpIn_block (wpIn_mono this ?_)
        intro e a' w' hk
        cases e <;> exact hk
      · rename_i c x y
        split at h
        · rename_i t ht
          have hv := vr_v (ev_ok hg ht)
          cases t with
          | true => exact wpIn_cond_true hv (ih _ _ _ _ h s0 s a h0 he (hg.sub_ ht) hH)
          | false => exact wpIn_cond_false hv (ih _ _ _ _ h s0 s a h0 he (hg.sub_ ht) hH)
        · exact h s0 s a h0 he hg hH
      · rename_i id
        refine wpIn_exit ?_
        split at h
        · rename_i k' hk'
          exact exitK_ok k k' hk' (ih _ _ _ _ h s0 s a h0 he hg hH)
        · rename_i hk'
          exact exitK_none k hk' ⟨by simp, .inl ⟨s, tm, he, rfl, hg, hH ▸ h⟩⟩
      · exact wpIn_ret (kx_ret k ⟨by simp, .inl ⟨s, tm, he, rfl, hg, hH ▸ h⟩⟩)
      · rename_i id os
        exact wpIn_region (ih _ _ _ _ h s0 s a h0 he hg hH)
      · exact h s0 s a h0 he hg hH
/-- a region that draws its order: by a plan. -/
theorem drawD {P : Program} {N : Cx} {id : Nat} {os : Array Oper} {k : List K} {tm : TM} {H : List Blk} {Q : Exit → TM → List Blk → Prop} (n : Nat) (hm : P.follows .mixedOrders = true) (ds : List Nat) (l : Plan) (hl : (okFrom os ds l && listedOf os (todo l) == Array.replicate os.size false && (todo l).length == os.size) = true)
    (h : run P N n (.any os ds l :: k) tm H Q) : Here P N (.code (.region id os true) :: k) tm H Q := by
  simp only [Bool.and_eq_true, beq_iff_eq] at hl
  obtain ⟨⟨h1, h2⟩, h3⟩ := hl
  intro s0 s a h0 he hg hH
  simp only [kx]
  refine wpIn_region_any hm ?_
  have hx := drew_ext hg.si
  have := run_ok n _ _ _ _ h s0 ⟨s.W.drew, s.F, s.ρ, s.H⟩ a h0 (he.ext h0.1 hg.si hx) (hg.ext hx) hH
  simp only [kx] at this
  rw [← h2, ← h3]
  exact wpA_any _ _ _ _ (this h1)
/-- the same, in one order that is as good as any. -/
theorem draw {P : Program} {N : Cx} {id : Nat} {os : Array Oper} {k : List K} {tm : TM} {H : List Blk} {Q : Exit → TM → List Blk → Prop} (n : Nat) (hm : P.follows .mixedOrders = true) (l : List Nat) (hl : (okFrom os [] (lin l) && listedOf os (todo (lin l)) == Array.replicate os.size false && (todo (lin l)).length == os.size) = true)
    (h : run P N n (.any os [] (lin l) :: k) tm H Q) : Here P N (.code (.region id os true) :: k) tm H Q := drawD n hm [] (lin l) hl h
/-- the same, by a plan. -/
theorem drawP {P : Program} {N : Cx} {id : Nat} {os : Array Oper} {k : List K} {tm : TM} {H : List Blk} {Q : Exit → TM → List Blk → Prop} (n : Nat) (hm : P.follows .mixedOrders = true) (l : Plan) (hl : (okFrom os [] l && listedOf os (todo l) == Array.replicate os.size false && (todo l).length == os.size) = true)
    (h : run P N n (.any os [] l :: k) tm H Q) : Here P N (.code (.region id os true) :: k) tm H Q := drawD n hm [] l hl h
end Go.En
