import Derived.Test.YtnopihhconklnaaDoorEn2
/- The quiet operations of the abstract machine, one by one. -/
namespace Go.En
open Go Go.RowKit
set_option linter.unusedSimpArgs false
set_option linter.unusedVariables false

abbrev VI (k : IntKind) (n : Int) : V := .c (.v (.int k n))
abbrev VB (b : Bool) : V := .c (.v (.bool b))
abbrev VS (s : ByteArray) : V := .c (.v (.string s))
/-- a byte of a string. -/
def bt (s : ByteArray) (i : Int) : Int := if h : i.toNat < s.size then ((s[i.toNat]'h).toNat : Int) else 0

def bitsOp (op : BinOp) (k : IntKind) (a b : Int) : Int := k.wrap (match op with
  | .and => BitVec.ofInt k.bits a &&& BitVec.ofInt k.bits b
  | .or => BitVec.ofInt k.bits a ||| BitVec.ofInt k.bits b
  | .xor => BitVec.ofInt k.bits a ^^^ BitVec.ofInt k.bits b
  | _ => BitVec.ofInt k.bits a &&& ~~~ BitVec.ofInt k.bits b).toNat
def i64In (n : Int) : Prop := -9223372036854775808 ≤ n ∧ n ≤ 9223372036854775807
def arith (k : IntKind) (n : Int) : Option (Prop × V) := match k with
  | .i64 => some (i64In n, VI .i64 n)
  | k => some (True, VI k (k.wrap n))
def ibin (op : BinOp) (k : IntKind) (a : Int) (k' : IntKind) (b : Int) : Option (Prop × V) := match op with
  | .shl => some (0 ≤ b, VI k (k.wrap (a * 2 ^ min b.toNat k.bits)))
  | .shr => some (0 ≤ b, VI k (a.fdiv (2 ^ min b.toNat k.bits)))
  | .add => if k = k' then arith k (a + b) else none
  | .sub => if k = k' then arith k (a - b) else none
  | .mul => if k = k' then arith k (a * b) else none
  | .quo => if k = k' then some (b ≠ 0, VI k (k.wrap (a.tdiv b))) else none
  | .rem => if k = k' then some (b ≠ 0, VI k (a.tmod b)) else none
  | .and => if k = k' then some (True, VI k (bitsOp .and k a b)) else none
  | .or => if k = k' then some (True, VI k (bitsOp .or k a b)) else none
  | .xor => if k = k' then some (True, VI k (bitsOp .xor k a b)) else none
  | .andNot => if k = k' then some (True, VI k (bitsOp .andNot k a b)) else none
  | .eql => if k = k' then some (True, VB (a == b)) else none
  | .neq => if k = k' then some (True, VB (a != b)) else none
  | .lss => if k = k' then some (True, VB (decide (a < b))) else none
  | .leq => if k = k' then some (True, VB (decide (a ≤ b))) else none
  | .gtr => if k = k' then some (True, VB (decide (b < a))) else none
  | .geq => if k = k' then some (True, VB (decide (b ≤ a))) else none
def sbin (op : BinOp) (a b : ByteArray) : Option (Prop × V) := match op with
  | .add => some (((a.size + b.size : Nat) : Int) ≤ 9223372036854775807, VS (a ++ b))
  | .eql => some (True, VB (decide (a = b)))
  | .neq => some (True, VB (!decide (a = b)))
  | _ => none
def isNil : Value → Bool
  | .pointer none => true
  | .slice none 0 0 => true
  | _ => false
def bin (P : Program) (op : BinOp) (t : TypeId) : V → V → Option (Prop × V)
  | (.c (.v (.int k a))), (.c (.v (.int k' b))) => ibin op k a k' b
  | (.c (.v (.string a))), (.c (.v (.string b))) => sbin op a b
  | (.c (.v (.bool a))), (.c (.v (.bool b))) => match op, P.underlying t with
    | .eql, some .bool => some (True, VB (a == b))
    | .neq, some .bool => some (True, VB (!(a == b)))
    | _, _ => none
  | .c (.ptr _ _ _ _), .c (.v (.pointer none)) => match op, P.underlying t with
    | .eql, some (.pointer _) => some (True, VB false)
    | .neq, some (.pointer _) => some (True, VB true)
    | _, _ => none
  | .c (.v (.pointer none)), .c (.v (.pointer none)) => match op, P.underlying t with
    | .eql, some (.pointer _) => some (True, VB true)
    | .neq, some (.pointer _) => some (True, VB false)
    | _, _ => none
  | _, _ => none
theorem Quiet.val {P : Program} {s : Sit} {x : Value} {y : Sem Value} (h : x.oneCell' = true) (hy : ∀ W', y.run P W' = .ok x W') : Quiet P s (.c (.v x)) y := ⟨x, ⟨rfl, h⟩, hy⟩
theorem i64_wrap {n : Int} (h : i64In n) : IntKind.i64.wrap n = n := by rw [IntKind.wrap_i64]; unfold i64In at h; omega
theorem binOp_wrap_arith {P : Program} {s : Sit} {k : IntKind} {n : Int} {p : Prop} {v : V} (h : arith k n = some (p, v)) (hp : p) (x : Sem Value) (hx : ∀ W, x.run P W = .ok (.int k (k.wrap n)) W) : Quiet P s v x := by
  unfold arith at h
  split at h
  · cases h
    refine .val rfl (fun W => ?_)
    rw [hx, i64_wrap hp]
  · cases h
    exact .val rfl hx
theorem str_beq (a b : ByteArray) : (a.toList == b.toList) = decide (a = b) := by
  by_cases h : a = b
  · subst h; simp
  · have : a.toList ≠ b.toList := fun e => h (by
      have h1 : a.data.toList = b.data.toList := by rw [← ByteArray.toList_eq, ← ByteArray.toList_eq]; exact e
      cases a; cases b; congr 1; exact Array.toList_inj.1 h1)
    simp [h, this]
theorem ibin_ok {P : Program} {s : Sit} {op : BinOp} {t : TypeId} {ox oy : Operand} {k k' : IntKind} {a b : Int} {p : Prop} {v : V} (h : ibin op k a k' b = some (p, v)) (hp : p) :
    Quiet P s v (do eqGuard op t ox oy (.int k a) (.int k' b); binOp op t (.int k a) (.int k' b)) := by
  cases op <;> simp only [ibin] at h
  case shl => cases h; exact .val rfl (fun W => by simp [eqGuard, binOp, Op.shift, Int.not_lt.2 hp])
  case shr => cases h; exact .val rfl (fun W => by simp [eqGuard, binOp, Op.shift, Int.not_lt.2 hp])
  all_goals (split at h; rotate_left; · cases h)
  all_goals (rename_i hk; subst hk)
  case add => exact binOp_wrap_arith h hp _ (fun W => by simp [eqGuard, binOp, Op.intArith])
  case sub => exact binOp_wrap_arith h hp _ (fun W => by simp [eqGuard, binOp, Op.intArith])
  case mul => exact binOp_wrap_arith h hp _ (fun W => by simp [eqGuard, binOp, Op.intArith])
  case quo => cases h; exact .val rfl (fun W => by simp [eqGuard, binOp, Op.intDiv, show ¬ b = 0 from hp])
  case rem => cases h; exact .val rfl (fun W => by simp [eqGuard, binOp, Op.intDiv, show ¬ b = 0 from hp])
  case and => cases h; exact .val rfl (fun W => by simp [eqGuard, binOp, Op.intBits, bitsOp])
  case or => cases h; exact .val rfl (fun W => by simp [eqGuard, binOp, Op.intBits, bitsOp])
  case xor => cases h; exact .val rfl (fun W => by simp [eqGuard, binOp, Op.intBits, bitsOp])
  case andNot => cases h; exact .val rfl (fun W => by simp [eqGuard, binOp, Op.intBits, bitsOp])
  all_goals (cases h; exact .val rfl (fun W => by simp [eqGuard, binOp, Op.intCmp]))
theorem sbin_ok {P : Program} {s : Sit} {op : BinOp} {t : TypeId} {ox oy : Operand} {a b : ByteArray} {p : Prop} {v : V} (h : sbin op a b = some (p, v)) (hp : p) :
    Quiet P s v (do eqGuard op t ox oy (.string a) (.string b); binOp op t (.string a) (.string b)) := by
  cases op <;> simp only [sbin] at h <;> first | (cases h; done) | skip
  case add =>
    cases h
    refine .val rfl (fun W => ?_)
    have hp' : ¬ (((a.size + b.size : Nat) : Int) > IntKind.i64.max) := by
      have : IntKind.i64.max = 9223372036854775807 := by decide
      rw [this]
      omega
    simp only [eqGuard, binOp, Op.stringOp, if_neg hp']
    simp
  case eql => cases h; exact .val rfl (fun W => by simp [eqGuard, binOp, Op.stringOp, str_beq])
  case neq => cases h; exact .val rfl (fun W => by simp [eqGuard, binOp, Op.stringOp, str_beq])
theorem vr_v {s : Sit} {x u : Value} (h : VR s (.c (.v x)) u) : u = x := h.1
theorem run_equal_bool {P : Program} {t : TypeId} (h : P.underlying t = some .bool) (a b : Bool) (W : World) : (Op.equal t (.bool a) (.bool b)).run P W = .ok (a == b) W := by
  have e : ∀ d, (Op.equalIn (d + 1) t (.bool a) (.bool b)).run P W = .ok (a == b) W := fun d => by
    simp only [Op.equalIn, Sem.run_bind, run_underlying h, Result.andThen_ok]
    rfl
  exact e 9999
theorem run_equal_ptr {P : Program} {t e : TypeId} (h : P.underlying t = some (.pointer e)) (A : Option Addr) (W : World) : (Op.equal t (.pointer A) (.pointer none)).run P W = .ok A.isNone W := by
  have e : ∀ d, (Op.equalIn (d + 1) t (.pointer A) (.pointer none)).run P W = .ok A.isNone W := fun d => by
    simp only [Op.equalIn, Sem.run_bind, run_underlying h, Result.andThen_ok]
    cases A <;> rfl
  exact e 9999
theorem bin_ok {P : Program} {s : Sit} {op : BinOp} {t : TypeId} {ox oy : Operand} {x y : V} {a b : Value} {p : Prop} {v : V} (h : bin P op t x y = some (p, v)) (hp : p) (hx : VR s x a) (hy : VR s y b) :
    Quiet P s v (do eqGuard op t ox oy a b; binOp op t a b) := by
  unfold bin at h
  split at h
  · rw [vr_v hx, vr_v hy]; exact ibin_ok h hp
  · rw [vr_v hx, vr_v hy]; exact sbin_ok h hp
  · rw [vr_v hx, vr_v hy]
    split at h
    · rename_i ht
      cases h
      exact .val rfl (fun W => by simp only [eqGuard, binOp, Sem.run_bind, run_equal_bool ht, Result.andThen_ok]; rfl)
    · rename_i ht
      cases h
      exact .val rfl (fun W => by simp only [eqGuard, binOp, Sem.run_bind, run_equal_bool ht, Result.andThen_ok]; rfl)
    · cases h
  · rw [vr_v hy]
    obtain ⟨⟨A, rfl⟩, _⟩ := hx
    split at h
    · rename_i ht
      cases h
      exact .val rfl (fun W => by simp only [eqGuard, binOp, Sem.run_bind, run_equal_ptr ht, Result.andThen_ok]; rfl)
    · rename_i ht
      cases h
      exact .val rfl (fun W => by simp only [eqGuard, binOp, Sem.run_bind, run_equal_ptr ht, Result.andThen_ok]; rfl)
    · cases h
  · rw [vr_v hx, vr_v hy]
    split at h
    · rename_i ht
      cases h
      exact .val rfl (fun W => by simp only [eqGuard, binOp, Sem.run_bind, run_equal_ptr ht, Result.andThen_ok]; rfl)
    · rename_i ht
      cases h
      exact .val rfl (fun W => by simp only [eqGuard, binOp, Sem.run_bind, run_equal_ptr ht, Result.andThen_ok]; rfl)
    · cases h
  · cases h
def un (op : UnOp) : V → Option (Prop × V)
  | (.c (.v (.bool b))) => match op with
    | .not => some (True, VB (!b))
    | _ => none
  | (.c (.v (.int k n))) => match op with
    | .neg => arith k (0 - n)
    | .xor => some (True, VI k (bitsOp .xor k (if k.signed then -1 else k.max) n))
    | _ => none
  | _ => none
theorem un_ok {P : Program} {s : Sit} {op : UnOp} {x : V} {a : Value} {p : Prop} {v : V} (h : un op x = some (p, v)) (hp : p) (hx : VR s x a) : Quiet P s v (Op.unary op a) := by
  unfold un at h
  split at h
  · rw [vr_v hx]
    split at h
    · cases h; exact .val rfl (fun W => by simp [Op.unary])
    · cases h
  · rw [vr_v hx]
    split at h
    · exact binOp_wrap_arith h hp _ (fun W => by simp [Op.unary, Op.intArith])
    · cases h; exact .val rfl (fun W => by simp [Op.unary, Op.intBits, bitsOp])
    · cases h
  · cases h
/-- the bytes of a row. -/
def bytesOf : List (List C) → Option ByteArray
  | [] => some .empty
  | _ => none
def conv (P : Program) (src dst : TypeId) (x : V) : Option (Prop × V) := match P.underlying src, P.underlying dst, x with
  | some _, some (.int k), (.c (.v (.int _ n))) => some (True, VI k (k.wrap n))
  | some .string, some .string, (.c (.v (.string s))) => some (True, VS s)
  | _, _, _ => none
theorem conv_ok {P : Program} {s : Sit} {src dst : TypeId} {x : V} {a : Value} {p : Prop} {v : V} (h : conv P src dst x = some (p, v)) (hp : p) (hx : VR s x a) : Quiet P s v (convert src dst a) := by
  unfold conv at h
  split at h
  · rename_i d k k' n h1 h2
    rw [vr_v hx]
    cases h
    exact .val rfl (fun W => by cases d <;> simp [convert, run_underlying h1, run_underlying h2, Conv.intToInt])
  · rename_i h1 h2
    rw [vr_v hx]
    cases h
    exact .val rfl (fun W => by simp [convert, run_underlying h1, run_underlying h2])
  · cases h
/-- the cells of a part of a struct. -/
def fieldV (P : Program) (t f : Nat) : V → Option (Prop × V)
  | .agg cs => match fo P t f with
    | some (off, ft) => match lay P ft with
      | some (ag, n) => match cut cs off n with
        | some l => match mk ag l with
          | some v => some (True, v)
          | none => none
        | none => none
      | none => none
    | none => none
  | _ => none
theorem fo_spec {P : Program} {t f off ft : Nat} (h : fo P t f = some (off, ft)) : ∃ fs fl i, P.underlying t = some (.struct fs) ∧ fs[f]? = some fl ∧ fl.offset = off ∧ fl.type = ft ∧ P.info? ft = some i ∧ i.size ≠ 0 := by
  unfold fo at h
  split at h
  · rename_i l hl
    split at h
    · rename_i off' sz ft' hf
      split at h
      · cases h
      · rename_i hz
        cases h
        unfold pls at hl
        split at hl
        · rename_i fs hu
          obtain ⟨fl, h1, h2⟩ := mapM_get _ _ _ hl f _ hf
          obtain ⟨i, h3, h4⟩ := Option.map_eq_some_iff.1 h2
          simp only [Prod.mk.injEq] at h4
          obtain ⟨rfl, rfl, rfl⟩ := h4
          exact ⟨fs, fl, i, hu, by simpa using h1, rfl, rfl, h3, hz⟩
        · cases hl
    · cases h
  · cases h
theorem cut_rel {s : Sit} {cs l : List C} {us : List Value} {j n : Nat} (h : cut cs j n = some l) (hr : R2 (CR s) cs us) : R2 (CR s) l ((us.drop j).take n) ∧ j + n ≤ us.length := by
  unfold cut at h
  split at h
  · rename_i hl; cases h; exact ⟨(hr.drop j).take n, by rw [← hr.1]; exact hl⟩
  · cases h
theorem run_part {P : Program} {t : TypeId} {n : Nat} {ag : Bool} (h : lay P t = some (ag, n)) (us : List Value) (j : Nat) (W : World) (hjn : j + n ≤ us.length) :
    (ag = true → (part t us.toArray j).run P W = .ok (.agg ((us.drop j).take n).toArray) W) ∧ (ag = false → ∀ x, (us.drop j).take n = [x] → (part t us.toArray j).run P W = .ok x W) := by
  obtain ⟨d, i, h1, h2, h3, h4⟩ := lay_agg h
  refine ⟨fun e => ?_, fun e x hx => ?_⟩
  · subst e
    simp only [part, Sem.run_bind, run_isAgg h, Result.andThen_ok, if_true, run_sizeOf h2, h3]
    show Result.ok (Value.agg (us.toArray.extract j (j + n))) W = _
    congr 2
    apply Array.ext'
    simp [List.drop_take]
  · subst e
    have hx0 : us[j]? = some x := by
      have := congrArg (fun l => l[0]?) hx
      simp only [List.getElem?_take, List.getElem?_drop] at this
      split at this
      · simpa using this
      · simp at this
    simp [part, run_isAgg h, hx0]
theorem fieldV_ok {P : Program} {s : Sit} {t f : Nat} {x : V} {a : Value} {p : Prop} {v : V} (h : fieldV P t f x = some (p, v)) (hx : VR s x a) : Quiet P s v (Instr.field t a f) := by
  unfold fieldV at h
  split at h
  · rename_i cs
    obtain ⟨us, rfl, hr⟩ := hx
    split at h
    · rename_i off ft hfo
      obtain ⟨fs, fl, i, f1, f2, rfl, rfl, f3, f4⟩ := fo_spec hfo
      split at h
      · rename_i ag n hlay
        split at h
        · rename_i l hcut
          split at h
          · rename_i v' hmk
            cases h
            obtain ⟨hl, hle⟩ := cut_rel hcut hr
            obtain ⟨m1, m2⟩ := mk_ok hmk hl
            cases ag with
            | true => exact .pure (m1 rfl) (fun W => by simp [Instr.field, run_underlying f1, f2, asAgg, (run_part hlay us fl.offset W hle).1 rfl])
            | false =>
              obtain ⟨y, hy, hv⟩ := m2 rfl
              exact .pure hv (fun W => by simp [Instr.field, run_underlying f1, f2, asAgg, (run_part hlay us fl.offset W hle).2 rfl y hy])
          · cases h
        · cases h
      · cases h
    · cases h
  · cases h
def extractV (i : Nat) : V → Option (Prop × V)
  | .tup vs => match vs[i]? with
    | some v => some (True, v)
    | none => none
  | _ => none
theorem extractV_ok {P : Program} {s : Sit} {i : Nat} {x : V} {a : Value} {p : Prop} {v : V} (h : extractV i x = some (p, v)) (hx : VR s x a) : Quiet P s v (Instr.extract a i) := by
  unfold extractV at h
  split at h
  · rename_i vs
    obtain ⟨us, rfl, hr⟩ := hx
    split at h
    · rename_i v' hv
      cases h
      obtain ⟨u, hu, hru⟩ := hr.get hv
      exact .pure (VR.of1 hru) (fun W => by simp [Instr.extract, hu])
    · cases h
  · cases h
/-- the address of a field. -/
def fieldA (P : Program) (t f : Nat) : V → Option (Prop × V)
  | .c (.ptr b ver i j) => match fo P t f with
    | some (off, _) => some (True, .c (.ptr b ver i (j + off)))
    | none => none
  | .c (.rptr e j) => match fo P t f with
    | some (off, _) => some (True, .c (.rptr e (j + off)))
    | none => none
  | _ => none
theorem run_fieldAt {P : Program} {t f off ft : Nat} (h : fo P t f = some (off, ft)) (A : Addr) (W : World) : (Instr.fieldAt t (.pointer (some A)) f).run P W = .ok (.pointer (some (A.add off))) W := by
  obtain ⟨fs, fl, i, f1, f2, rfl, rfl, f3, f4⟩ := fo_spec h
  simp [Instr.fieldAt, run_underlying f1, f2, Instr.sureAddr, fieldPlace, run_sizeOf f3, f4]
theorem fieldA_ok {P : Program} {s : Sit} {t f : Nat} {x : V} {a : Value} {p : Prop} {v : V} (h : fieldA P t f x = some (p, v)) (hx : VR s x a) : Quiet P s v (Instr.fieldAt t a f) := by
  unfold fieldA at h
  split at h
  · split at h
    · rename_i b ver i j _ off ft hfo
      cases h
      obtain ⟨⟨A, rfl⟩, blk, rv, h1, h2, h3, h4⟩ := hx
      refine .pure (u := .pointer (some (A.add off))) ?_ (fun W => run_fieldAt hfo A W)
      refine ⟨⟨_, rfl⟩, blk, rv, h1, h2, h3, fun hv => ?_⟩
      obtain ⟨g, L, cap, e1, e2⟩ := h4 hv
      injection e2 with e2
      injection e2 with e2
      subst e2
      exact ⟨g, L, cap, e1, by rw [add_lit, Nat.add_assoc]⟩
    · cases h
  · split at h
    · rename_i e j _ off ft hfo
      cases h
      obtain ⟨a, w, h1, rfl⟩ := hx
      refine .pure (u := .pointer (some ((a.add j).add off))) ?_ (fun W => run_fieldAt hfo _ W)
      exact ⟨a, w, h1, by rw [add_add]⟩
    · cases h
  · cases h
end Go.En
