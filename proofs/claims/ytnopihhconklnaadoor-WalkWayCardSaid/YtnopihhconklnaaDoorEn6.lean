import Derived.Test.YtnopihhconklnaaDoorEn5
import Derived.Maps.AppendAt
/- The operations of the abstract machine that make or write memory. -/
namespace Go.En
open Go Go.RowKit
set_option linter.unusedSimpArgs false
set_option linter.unusedVariables false

/-- a step that yields v, and leaves the blocks H'. -/
def Loud (P : Program) (s : Sit) (v : V) (H' : List Blk) (nw : Bool) (x : Sem Value) : Prop := ∃ (s' : Sit) (u : Value), Ext s s' ∧ s'.H = H' ∧ VR s' v u ∧ (nw = true → s.W.grownBy s'.W none) ∧ x.run P s.W = .ok u s'.W
theorem ownsRow_new {W : World} {t sz n cap : Nat} {us : List Value} {cells : Array Value} (hl : us.length = n * sz) (hc : cells.size = cap * sz) (hn : n ≤ cap) (hm : cap ≤ maxLen) (ht : cells.toList.take (n * sz) = us) :
    (W.alloc (.cells cells t)).ownsRow 0 t sz (.slice (some ⟨W.heap.size, 0, none⟩) n cap) n us := ⟨hl, .inr ⟨W.heap.size, cap, cells, rfl, Nat.zero_le _, heap_alloc_new W _, hn, hm, hc, ht⟩⟩
theorem ob_new {A : Addr} {n cap g : Nat} (h : ob (.slice (some A) n cap) = some g) : A.block = g := by
  cases cap with
  | zero => cases h
  | succ c => exact Option.some.inj h
/-- a new row. -/
theorem new_row {s : Sit} (hs : SI s) {W' : World} {t sz cap : Nat} {es : List (List C)} {us : List Value} {cells : Array Value} (hW : W' = s.W.alloc (.cells cells t) ∨ W' = s.W.drew.alloc (.cells cells t)) (hu : Uni sz es) (hr : R2 (CR s) es.flatten us) (hc : cells.size = cap * sz) (hn : es.length ≤ cap) (hm : cap ≤ maxLen)
    (ht : cells.toList.take (es.length * sz) = us) : let s' : Sit := ⟨W', s.F, s.ρ ++ [.slice (some ⟨s.W.heap.size, 0, none⟩) es.length cap], s.H ++ [⟨t, sz, 0, es⟩]⟩
    s.W.grownBy W' none ∧ Ext s s' ∧ CR s' (.own s.H.length 0 0 es.length) (.slice (some ⟨s.W.heap.size, 0, none⟩) es.length cap) := by
  intro s'
  have hg : s.W.grownBy W' none := by
    rcases hW with rfl | rfl
    · exact World.grownBy_alloc _ _ _
    · exact ⟨rfl, rfl, rfl, by simp, fun k hk _ => heap_alloc_old s.W.drew _ hk⟩
  have hrow : W'.ownsRow 0 t sz (.slice (some ⟨s.W.heap.size, 0, none⟩) es.length cap) es.length us := by
    have hl : us.length = es.length * sz := by rw [← hr.1, hu.flat_len]
    rcases hW with rfl | rfl
    · exact ownsRow_new hl hc hn hm ht
    · exact ownsRow_new (W := s.W.drew) hl hc hn hm ht
  refine ⟨hg, Ext.new hs hg (fun g e => by rw [← ob_new e]; exact Nat.le_refl _) (fun e0 => blk_row hu (.inr ⟨us, hrow, hr.mono (fun _ _ => CR.ext hs e0)⟩)), ⟨_, _, rfl⟩, ⟨t, sz, 0, es⟩, .slice (some ⟨s.W.heap.size, 0, none⟩) es.length cap, ?_, ?_, Nat.le_refl _, fun _ => ⟨by simp, ?_⟩⟩
  · simp [s']
  · simp [s', ← hs.len]
  · cases cap with
    | zero =>
      have : es.length = 0 := by omega
      exact .inl ⟨⟨some ⟨s.W.heap.size, 0, none⟩, by rw [this]⟩, ⟨some ⟨s.W.heap.size, 0, none⟩, by rw [this]⟩, this, rfl⟩
    | succ cap => exact .inr ⟨s.W.heap.size, es.length, cap + 1, ⟨s.W.heap.size, 0, none⟩, cap + 1, by omega, rfl, rfl, by omega, by omega, by omega, rfl, .inl (by simp)⟩
theorem new_box {s : Sit} (hs : SI s) {t : Nat} {cs : List C} {us : List Value} (hr : R2 (CR s) cs us) : let s' : Sit := ⟨s.W.alloc (.cells us.toArray t), s.F, s.ρ ++ [.slice (some ⟨s.W.heap.size, 0, none⟩) 1 1], s.H ++ [⟨t, cs.length, 0, [cs]⟩]⟩
    Ext s s' ∧ CR s' (.ptr s.H.length 0 0 0) (.pointer (some ⟨s.W.heap.size, 0, none⟩)) := by
  intro s'
  have hu : Uni cs.length [cs] := fun e he => by simp at he; rw [he]
  have hl : us.length = 1 * cs.length := by rw [← hr.1]; omega
  have hrow : (s.W.alloc (.cells us.toArray t)).ownsRow 0 t cs.length (.slice (some ⟨s.W.heap.size, 0, none⟩) 1 1) 1 us := ownsRow_new hl (by simpa using hl) (Nat.le_refl _) (by decide) (List.take_of_length_le (by simp; omega))
  refine ⟨Ext.new hs (World.grownBy_alloc _ _ _) (fun g e => by rw [← ob_new e]; exact Nat.le_refl _) (fun e0 => blk_row hu (.inr ⟨us, hrow, ?_⟩)), ⟨_, rfl⟩, ⟨t, cs.length, 0, [cs]⟩, .slice (some ⟨s.W.heap.size, 0, none⟩) 1 1, ?_, ?_, Nat.le_refl _, fun _ => ⟨s.W.heap.size, 1, 1, rfl, by simp⟩⟩
  · simpa using hr.mono (fun _ _ => CR.ext hs e0)
  · simp [s']
  · simp [s', ← hs.len]
theorem box_ok {P : Program} {s : Sit} (hs : SI s) {t : TypeId} {x : V} {a : Value} (hx : VR1 s x a) : Loud P s (.c (.ptr s.H.length 0 0 0)) (s.H ++ [⟨t, x.cells.length, 0, [x.cells]⟩]) true (Instr.box t a) := by
  obtain ⟨h1, h2⟩ := new_box hs (t := t) hx.cells
  refine ⟨_, _, h1, rfl, h2, fun _ => World.grownBy_alloc _ _ _, ?_⟩
  simp [Instr.box, newVar, newRow]
theorem alloc_ok {P : Program} {s : Sit} (hs : SI s) {t : TypeId} {z : List C} (hz : zc P t = some z) : Loud P s (.c (.ptr s.H.length 0 0 0)) (s.H ++ [⟨t, z.length, 0, [z]⟩]) true (Instr.alloc t true (.tuple #[])) := by
  obtain ⟨i, zv, h1, h2, h3⟩ := zc_spec hz
  obtain ⟨g1, g2⟩ := new_box hs (t := t) (h3 s)
  refine ⟨_, _, g1, rfl, g2, fun _ => World.grownBy_alloc _ _ _, ?_⟩
  simp [Instr.alloc, zeroValue, typeInfo, h1, h2, newVar, newRow]
def putE (e : List C) (j : Nat) (cs : List C) : List C := e.take j ++ cs ++ e.drop (j + cs.length)
def stC (H : List Blk) (p : C) (cs : List C) : Option (List Blk) := match p with
  | .ptr b ver i j => match H[b]? with
    | some blk => if ver = blk.ver then match blk.es[i]? with
      | some e => if j + cs.length ≤ e.length then some (H.set b ⟨blk.t, blk.sz, blk.ver, blk.es.set i (putE e j cs)⟩) else none
      | none => none else none
    | none => none
  | _ => none
theorem flat_set {α : Type} {sz : Nat} : ∀ {es : List (List α)} (hu : Uni sz es) {i : Nat} {e e' : List α} (he : es[i]? = some e) (hl : e'.length = sz), (es.set i e').flatten = es.flatten.take (i * sz) ++ e' ++ es.flatten.drop (i * sz + sz)
  | [], _, i, e, e', he, _ => by simp at he
  | x :: r, hu, 0, e, e', he, hl => by
    have hx := hu x List.mem_cons_self
    simp only [List.set_cons_zero, List.flatten_cons, Nat.zero_mul, List.take_zero, List.nil_append, Nat.zero_add]
    rw [List.drop_append, hx, Nat.sub_self, List.drop_zero, List.drop_of_length_le (by omega), List.nil_append]
  | x :: r, hu, i + 1, e, e', he, hl => by
    have hx := hu x List.mem_cons_self
    have hr : Uni sz r := fun y hy => hu y (List.mem_cons_of_mem _ hy)
    simp only [List.getElem?_cons_succ] at he
    rw [List.set_cons_succ, List.flatten_cons, List.flatten_cons, flat_set hr he hl]
    have e1 : (i + 1) * sz = x.length + i * sz := by rw [hx, Nat.add_mul]; omega
    rw [e1, List.take_append, List.take_of_length_le (l := x) (by omega), Nat.add_assoc, List.drop_append, List.drop_of_length_le (l := x) (by omega), List.nil_append]
    simp
theorem R2.set_mid {α β : Type} {R : α → β → Prop} {l n : List α} {m k : List β} (h : R2 R l m) (hn : R2 R n k) (o : Nat) : R2 R (l.take o ++ n ++ l.drop (o + n.length)) (m.take o ++ k ++ m.drop (o + k.length)) := by
  rw [← hn.1]
  exact ((h.take o).append hn).append (h.drop _)
theorem store_ok {P : Program} {s : Sit} (hs : SI s) {t : TypeId} {ag : Bool} {p : C} {x : V} {a u : Value} {H' : List Blk} (hl : lay P t = some (ag, x.cells.length)) (h : stC s.H p x.cells = some H') (hp : CR s p a) (hx : VR1 s x u) :
    ∃ s' : Sit, Ext s s' ∧ s'.H = H' ∧ (Instr.storeAt t a u).run P s.W = .ok () s'.W := by
  cases p with
  | ptr b ver i j =>
    obtain ⟨⟨A0, rfl⟩, blk, rv, h1, h2, h3, h4⟩ := hp
    simp only [stC, h1] at h
    split at h
    · rename_i hv
      split at h
      · rename_i e he
        split at h
        · rename_i hfit
          cases h
          obtain ⟨g, L, cap, rfl, e2⟩ := h4 hv
          injection e2 with e2
          injection e2 with e2
          subst e2
          have hb := hs.blk b blk _ h1 h2
          have hxc := hx.cells
          have hee : e.length = blk.sz := hb.uni e (List.mem_of_getElem? he)
          rcases hb.at_ (by intro k e; cases e) with ⟨hz, _⟩ | ⟨xs, ho, hr⟩
          · rw [hz] at he; simp at he
          rcases ho.2 with ⟨hn, _⟩ | ⟨g', cap', cur, hrv, _, hg, hnc, hcm, hcs, htake⟩
          · cases hn
          injection hrv with x1 x2 x3
          injection x1 with x1
          injection x1 with x1
          subst x1; subst x2; subst x3
          have hi := (List.getElem?_eq_some_iff.1 he).1
          have hfit2 : i * blk.sz + j + x.cells.length ≤ blk.es.length * blk.sz := by
            have : (i + 1) * blk.sz ≤ blk.es.length * blk.sz := Nat.mul_le_mul_right _ hi
            rw [Nat.add_mul] at this
            omega
          have hxl : u.cells.toList.length = x.cells.length := hxc.1.symm
          have hxl' : u.cells.size = x.cells.length := by rw [← hxl]; simp
          have hcapl : blk.es.length * blk.sz ≤ cap * blk.sz := Nat.mul_le_mul_right _ hnc
          have hst := run_storeCells_at P g (i * blk.sz + j) blk.t u.cells.toList 0 cur s.W hg (by omega) (hxc.all (fun _ _ => CR.one))
          simp only [Nat.add_zero] at hst
          let es' := blk.es.set i (putE e j x.cells)
          have hpl : (putE e j x.cells).length = blk.sz := by simp [putE]; omega
          have huni : Uni blk.sz es' := fun y hy => by
            rcases List.mem_or_eq_of_mem_set hy with h | h
            · exact hb.uni y h
            · rw [h]; exact hpl
          have hflat : es'.flatten = blk.es.flatten.take (i * blk.sz + j) ++ x.cells ++ blk.es.flatten.drop (i * blk.sz + j + x.cells.length) := by
            have e1 := flat_set hb.uni he hpl
            have e2 := flat_set hb.uni he hee
            have e3 : blk.es.set i e = blk.es := by
              apply List.ext_getElem?
              intro k
              by_cases hk : i = k
              · subst hk; rw [List.getElem?_set_self hi, he]
              · rw [List.getElem?_set_ne hk]
            rw [e3] at e2
            have hA : (blk.es.flatten.take (i * blk.sz)).length = i * blk.sz := by
              rw [List.length_take, hb.uni.flat_len]
              have : i * blk.sz ≤ blk.es.length * blk.sz := Nat.mul_le_mul_right _ (by omega)
              omega
            generalize hq1 : blk.es.flatten.take (i * blk.sz) = q1 at e1 e2 hA
            generalize hq2 : blk.es.flatten.drop (i * blk.sz + blk.sz) = q2 at e1 e2
            show (blk.es.set i (putE e j x.cells)).flatten = _
            rw [e1, e2]
            have t1 : (q1 ++ e ++ q2).take (i * blk.sz + j) = q1 ++ e.take j := by
              rw [List.append_assoc, ← hA, List.take_length_add_append, List.take_append_of_le_length (by omega)]
            have t2 : (q1 ++ e ++ q2).drop (i * blk.sz + j + x.cells.length) = e.drop (j + x.cells.length) ++ q2 := by
              rw [List.append_assoc, Nat.add_assoc, ← hA, List.drop_length_add_append, List.drop_append_of_le_length (by omega)]
            rw [t1, t2]
            simp [putE]
          refine ⟨⟨s.W.setRow g (cur.toList.take (i * blk.sz + j) ++ u.cells.toList ++ cur.toList.drop (i * blk.sz + j + u.cells.toList.length)).toArray, s.F, s.ρ, s.H.set b ⟨blk.t, blk.sz, blk.ver, es'⟩⟩, ?_, rfl, ?_⟩
          · have hρ : s.ρ.set b (.slice (some ⟨g, 0, none⟩) blk.es.length cap) = s.ρ := by
              apply List.ext_getElem?
              intro k
              by_cases hk : b = k
              · subst hk; rw [List.getElem?_set_self (List.getElem?_eq_some_iff.1 h2).1, h2]
              · rw [List.getElem?_set_ne hk]
            have hes : es'.length = blk.es.length := by simp [es']
            have hgr : s.W.grownBy (s.W.setRow g (cur.toList.take (i * blk.sz + j) ++ u.cells.toList ++ cur.toList.drop (i * blk.sz + j + u.cells.toList.length)).toArray) (ob (.slice (some ⟨g, 0, none⟩) blk.es.length cap)) := by
              have : ob (.slice (some ⟨g, 0, none⟩) blk.es.length cap) = some g := by
                cases cap with
                | zero => omega
                | succ c => rfl
              rw [this]
              exact ⟨rfl, rfl, rfl, by simp [World.setRow], fun k _ hk => setRow_other _ g k _ (fun e => hk (by rw [e]))⟩
            have := Ext.set (blk' := ⟨blk.t, blk.sz, blk.ver, es'⟩) (rv' := .slice (some ⟨g, 0, none⟩) blk.es.length cap) hs h1 h2 hgr (fun _ h => .inl h) (Nat.le_refl _) (fun _ => ⟨rfl, hes, rfl⟩) (fun e0 => blk_row huni (.inr ⟨xs.take (i * blk.sz + j) ++ u.cells.toList ++ xs.drop (i * blk.sz + j + u.cells.toList.length), ⟨?_, .inr ⟨g, cap, _, by rw [hes], Nat.zero_le _, setRow_heap _ _ _ _ _ _ hg, ?_, hcm, ?_, ?_⟩⟩, ?_⟩))
            · rw [hρ] at this
              exact this
            · have hxl2 := ho.1
              simp only [List.length_append, List.length_take, List.length_drop, hes]
              omega
            · rw [hes]; exact hnc
            · simp only [List.size_toArray, List.length_append, List.length_take, List.length_drop, Array.length_toList]
              omega
            · simp only [hes]
              rw [← htake]
              have hA : (cur.toList.take (i * blk.sz + j)).length = i * blk.sz + j := by rw [List.length_take, Array.length_toList]; omega
              apply List.ext_getElem?
              intro k
              simp only [List.getElem?_append, List.getElem?_take, List.length_append, List.length_take, List.getElem?_drop, Array.length_toList]
              grind
            · show R2 (CR _) es'.flatten _
              rw [hflat]
              exact (hr.set_mid hxc _).mono (fun _ _ => CR.ext hs e0)
          · obtain ⟨d, it, d1, d2, d3, _⟩ := lay_agg hl
            have hsz : u.cells.size = it.size := by rw [d3, ← hxl]; simp
            simp [Instr.storeAt, Instr.sureAddr, storeVar, run_sizeOf d2, hsz, hst]
        · cases h
      · cases h
    · cases h
  | _ => simp [stC] at h
end Go.En
