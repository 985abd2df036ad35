import Derived.Test.YtnopihhconklnaaDoorEn7
import Derived.RangeFuncRecord
/- Sets of numbers (map[int]bool): made, asked, added to. -/
namespace Go.En
open Go Go.RowKit
set_option linter.unusedSimpArgs false
set_option linter.unusedVariables false

def hasK : List (List C) → Int → Bool
  | [] , _ => false
  | [.v (.int .i64 a)] :: r, k => if a = k then true else hasK r k
  | _ :: r, k => hasK r k
theorem hasK_KS (k : Int) : ∀ l : List Int, hasK (KS l) k = l.contains k
  | [] => rfl
  | a :: r => by
    show (if a = k then true else hasK (KS r) k) = _
    rw [hasK_KS k r, List.contains_cons]
    by_cases h : a = k
    · simp [h]
    · simp [h, Ne.symm h]
def addK (ks : List (List C)) (k : Int) : List (List C) := if hasK ks k = true then ks else ks ++ [[.v (.int .i64 k)]]
def addI (l : List Int) (k : Int) : List Int := if l.contains k = true then l else l ++ [k]
theorem addK_KS (l : List Int) (k : Int) : addK (KS l) k = KS (addI l k) := by
  unfold addK addI
  rw [hasK_KS]
  split
  · rfl
  · simp [KS]
theorem findNow_set (k : Int) : ∀ (es : List MapEntry) (l : List Int) (i : Nat), es.map (fun e => (e.key, e.val)) = l.map (fun k => (Value.int .i64 k, Value.bool true)) →
    (l.contains k = true → ∃ j, Instr.findNow (.int .i64) (.int .i64 k) es i = some (some (i + j, .bool true)) ∧ ∃ e, es[j]? = some e ∧ e.key = .int .i64 k ∧ e.val = .bool true) ∧ (l.contains k = false → Instr.findNow (.int .i64) (.int .i64 k) es i = some none)
  | [], l, i, h => by
    have : l = [] := by cases l with | nil => rfl | cons => simp at h
    subst this
    exact ⟨fun h => by simp at h, fun _ => rfl⟩
  | e :: es, l, i, h => by
    cases l with
    | nil => simp at h
    | cons a r =>
      simp only [List.map_cons, List.cons.injEq, Prod.mk.injEq] at h
      obtain ⟨⟨h1, h2⟩, h3⟩ := h
      have ih := findNow_set k es r (i + 1) h3
      rw [List.contains_cons]
      by_cases hk : k = a
      · subst hk
        refine ⟨fun _ => ⟨0, ?_, e, rfl, h1, h2⟩, fun h => by simp at h⟩
        simp [Instr.findNow, h1, h2, Instr.sameNow]
      · have hne : (k == a) = false := by simpa using hk
        rw [hne, Bool.false_or]
        have hs : Instr.findNow (.int .i64) (.int .i64 k) (e :: es) i = Instr.findNow (.int .i64) (.int .i64 k) es (i + 1) := by
          simp [Instr.findNow, h1, Instr.sameNow, hne]
        rw [hs]
        refine ⟨fun h => ?_, ih.2⟩
        obtain ⟨j, g1, e', g2, g3, g4⟩ := ih.1 h
        exact ⟨j + 1, by rw [g1]; congr 3; omega, e', by simpa using g2, g3, g4⟩
theorem getD_def {α : Type} (o : Option α) (d : α) : o.getD d = match o with | some x => x | none => d := by cases o <;> rfl
theorem run_checkKey {P : Program} {k : TypeId} (hk : P.underlying k = some (.int .i64)) (b : Bool) (n : Int) (W : World) : (Instr.checkKey b 10000 k (.int .i64 n)).run P W = .ok () W := by
  have e : ∀ d, (Instr.checkKey b (d + 1) k (.int .i64 n)).run P W = .ok () W := fun d => by
    simp only [Instr.checkKey, Sem.run_bind, run_underlying hk, Result.andThen_ok]
    rfl
  exact e 9999
theorem run_lookup_set {P : Program} {t k e : TypeId} (ht : P.underlying t = some (.map k e)) (hk : P.underlying k = some (.int .i64)) {W : World} (hz : (zeroValue e).run P W = .ok (.bool false) W) {g : Nat} {l : List Int} (hm : MapIs W g l) (n : Int) :
    (Instr.lookup t (.map (some g)) (.int .i64 n) false).run P W = .ok (.bool (l.contains n)) W := by
  obtain ⟨es, clock, h1, h2⟩ := hm
  have hf := findNow_set n es.toList l 0 h2
  have hget : (getObj g).run P W = .ok (.map es clock) W := by simp [getObj, Sem.run, h1]
  have hck := fun b => run_checkKey hk b n W
  cases hc : l.contains n with
  | true =>
    obtain ⟨j, g1, _⟩ := hf.1 hc
    simp [Instr.lookup, run_underlying ht, hget, hck, Instr.findKey, run_underlying hk, g1]
  | false =>
    have g1 := hf.2 hc
    simp [Instr.lookup, run_underlying ht, hget, hck, Instr.findKey, run_underlying hk, g1, hz]
theorem run_update_set {P : Program} {t k e : TypeId} (ht : P.underlying t = some (.map k e)) (hk : P.underlying k = some (.int .i64)) {W : World} {g : Nat} {l : List Int} (hm : MapIs W g l) (n : Int) :
    ∃ W', (Instr.mapUpdate t (.map (some g)) (.int .i64 n) (.bool true)).run P W = .ok () W' ∧ MapIs W' g (addI l n) ∧ W.grownBy W' (some g) := by
  obtain ⟨es, clock, h1, h2⟩ := hm
  have hf := findNow_set n es.toList l 0 h2
  have hget : (getObj g).run P W = .ok (.map es clock) W := by simp [getObj, Sem.run, h1]
  have hlt := (Array.getElem?_eq_some_iff.1 h1).1
  have hset : ∀ o, (setObj g o).run P W = .ok () (W.putObj g o) := fun o => by simp [setObj, Sem.run, h1, World.putObj]
  have hck := fun b => run_checkKey hk b n W
  have hgr : ∀ o, W.grownBy (W.putObj g o) (some g) := fun o => ⟨rfl, rfl, rfl, by simp, fun i _ hi => World.putObj_heap_other (fun e => hi (by rw [e]))⟩
  cases hc : l.contains n with
  | true =>
    obtain ⟨j, g1, e', g2, g3, g4⟩ := hf.1 hc
    rw [Nat.zero_add] at g1
    refine ⟨W.putObj g (.map (es.modify j fun e => { e with key := .int .i64 n, val := .bool true }) clock), ?_, ⟨_, clock, World.putObj_heap_same hlt, ?_⟩, hgr _⟩
    · have g2' : es[j]? = some e' := by simpa using g2
      simp [Instr.mapUpdate, run_underlying ht, hget, hck, Instr.findKey, run_underlying hk, g1, Instr.keyThatStays, g2', g3, Instr.sameBits, hset]
    · rw [addI, if_pos hc, ← h2]
      apply List.ext_getElem?
      intro i
      rw [List.getElem?_map, List.getElem?_map, Array.toList_modify, List.getElem?_modify]
      by_cases hij : j = i
      · subst hij
        rw [g2]
        simp [g3, g4]
      · simp [hij]
  | false =>
    have g1 := hf.2 hc
    refine ⟨W.putObj g (.map (es.push { key := .int .i64 n, val := .bool true, born := clock }) (clock + 1)), ?_, ⟨_, clock + 1, World.putObj_heap_same hlt, ?_⟩, hgr _⟩
    · simp [Instr.mapUpdate, run_underlying ht, hget, hck, Instr.findKey, run_underlying hk, g1, hset]
    · rw [addI, if_neg (by rw [hc]; simp)]
      simp [h2]
/-- a set's operations. -/
def mkM (P : Program) (H : List Blk) (t : TypeId) : Option (Prop × V × List Blk) := match P.underlying t with
  | some (.map k e) => match P.underlying k, P.underlying e with
    | some (.int .i64), some .bool => some (True, .c (.mp H.length 0), H ++ [⟨t, 1, 0, [[.row []]]⟩])
    | _, _ => none
  | _ => none
/-- the type's zero is 'false'. -/
def zb (P : Program) (e : TypeId) : Bool := match P.info? e with
  | some i => match i.zero with
    | some (.bool false) => true
    | _ => false
  | none => false
theorem zb_run {P : Program} {e : TypeId} (h : zb P e = true) (W : World) : (zeroValue e).run P W = .ok (.bool false) W := by
  unfold zb at h
  split at h
  · rename_i i hi
    split at h
    · rename_i hz; simp [zeroValue, typeInfo, hi, hz]
    · cases h
  · cases h
def lkM (P : Program) (H : List Blk) (t : TypeId) : V → V → Option (Prop × V × List Blk)
  | .c (.mp b ver), .c (.v (.int .i64 n)) => match P.underlying t, H[b]? with
    | some (.map k e), some blk => match P.underlying k, zb P e with
      | some (.int .i64), true => if ver = blk.ver then (match blk.es with
        | [[.row ks]] => some (True, .c (.v (.bool (hasK ks n))), H)
        | _ => none) else none
      | _, _ => none
    | _, _ => none
  | _, _ => none
def upM (P : Program) (H : List Blk) (t : TypeId) : V → V → V → Option (Prop × V × List Blk)
  | .c (.mp b ver), .c (.v (.int .i64 n)), .c (.v (.bool true)) => match P.underlying t, H[b]? with
    | some (.map k e), some blk => match P.underlying k with
      | some (.int .i64) => if ver = blk.ver then (match blk.es with
        | [[.row ks]] => some (True, .tup [], H.set b ⟨blk.t, blk.sz, blk.ver, [[.row (addK ks n)]]⟩)
        | _ => none) else none
      | _ => none
    | _, _ => none
  | _, _, _ => none
theorem mkM_ok {P : Program} {s : Sit} (hs : SI s) {t : TypeId} {p : Prop} {v : V} {H' : List Blk} (h : mkM P s.H t = some (p, v, H')) : Loud P s v H' false (Instr.makeMap t none) := by
  unfold mkM at h
  split at h
  · split at h
    · cases h
      have hb : MapIs (s.W.alloc (.map #[] 0)) s.W.heap.size [] := ⟨#[], 0, World.alloc_heap_new _ _, rfl⟩
      have hx := Ext.new (blk := ⟨t, 1, 0, [[.row []]]⟩) (rv := .map (some s.W.heap.size)) hs (World.grownBy_alloc s.W (.map #[] 0) none) (fun g e => by cases e; exact Nat.le_refl _) (fun e0 => ⟨fun e he => by simp at he; subst he; rfl, .inr ⟨[], s.W.heap.size, rfl, rfl, hb⟩⟩)
      refine ⟨_, .map (some s.W.heap.size), hx, rfl, ⟨⟨_, rfl⟩, ⟨t, 1, 0, [[.row []]]⟩, .map (some s.W.heap.size), by simp, by simp [← hs.len], Nat.le_refl _, fun _ => rfl⟩, (fun h => by cases h), ?_⟩
      simp [Instr.makeMap, newObj, Sem.run]
    · cases h
  · cases h
theorem map_blk {s : Sit} (hs : SI s) {b ver : Nat} {u : Value} {blk : Blk} {ks : List (List C)} (hu : CR0 s (.mp b ver) u) (hb : s.H[b]? = some blk) (hv : ver = blk.ver) (he : blk.es = [[.row ks]]) : ∃ g l, u = .map (some g) ∧ s.ρ[b]? = some (.map (some g)) ∧ ks = KS l ∧ MapIs s.W g l := by
  obtain ⟨⟨g, rfl⟩, blk', rv, h1, h2, h3, h4⟩ := hu
  rw [hb] at h1
  cases h1
  have hr := h4 hv
  subst hr
  rcases (hs.blk b blk _ hb h2).att with ⟨hm, _⟩ | ⟨l, g', q1, q2, q3⟩
  · exact absurd rfl (hm _)
  · cases q2
    rw [he] at q1
    injection q1 with q1
    injection q1 with q1
    injection q1 with q1
    exact ⟨g, l, rfl, h2, q1, q3⟩
theorem lkM_ok {P : Program} {s : Sit} (hs : SI s) {t : TypeId} {x y : V} {a b : Value} {p : Prop} {v : V} {H' : List Blk} (h : lkM P s.H t x y = some (p, v, H')) (hx : VR s x a) (hy : VR s y b) : Loud P s v H' false (Instr.lookup t a b false) := by
  unfold lkM at h
  split at h
  · rename_i bb ver n
    rw [vr_v hy]
    split at h
    · rename_i k e blk ht hb
      split at h
      · rename_i hk hz
        split at h
        · rename_i hv
          split at h
          · rename_i ks he
            cases h
            obtain ⟨g, l, rfl, h1, rfl, h3⟩ := map_blk hs (show CR0 s (.mp bb ver) a from hx) hb hv he
            refine ⟨s, .bool (l.contains n), Ext.refl hs, rfl, ⟨by rw [hasK_KS], rfl⟩, (fun h => by cases h), ?_⟩
            exact run_lookup_set ht hk (zb_run hz s.W) h3 n
          · cases h
        · cases h
      · cases h
    · cases h
  · cases h
theorem upM_ok {P : Program} {s : Sit} (hs : SI s) {t : TypeId} {x y z : V} {a b c : Value} {p : Prop} {v : V} {H' : List Blk} (h : upM P s.H t x y z = some (p, v, H')) (hx : VR s x a) (hy : VR s y b) (hz : VR s z c) :
    ∃ s' : Sit, Ext s s' ∧ s'.H = H' ∧ v = .tup [] ∧ (Instr.mapUpdate t a b c).run P s.W = .ok () s'.W := by
  unfold upM at h
  split at h
  · rename_i bb ver n
    rw [vr_v hy, vr_v hz]
    split at h
    · rename_i k e blk ht hb
      split at h
      · rename_i hk
        split at h
        · rename_i hv
          split at h
          · rename_i ks he
            cases h
            obtain ⟨g, l, rfl, h1, rfl, h3⟩ := map_blk hs (show CR0 s (.mp bb ver) a from hx) hb hv he
            obtain ⟨W', r1, r2, r3⟩ := run_update_set ht hk h3 n
            have hsz : blk.sz = 1 := by
              have := (hs.blk bb blk _ hb h1).uni [.row (KS l)] (by rw [he]; simp)
              simpa using this.symm
            have hext := Ext.set (blk' := ⟨blk.t, blk.sz, blk.ver, [[.row (addK (KS l) n)]]⟩) (rv' := .map (some g)) hs hb h1 r3 (fun g' h => .inl h) (Nat.le_refl _) (fun _ => ⟨rfl, by rw [he]; rfl, rfl⟩) (fun e0 => ⟨fun e he' => by simp at he'; subst he'; exact hsz.symm, .inr ⟨addI l n, g, by rw [addK_KS], rfl, r2⟩⟩)
            exact ⟨_, hext, rfl, rfl, r1⟩
          · cases h
        · cases h
      · cases h
    · cases h
  · cases h
end Go.En
