import Derived.Test.YtnopihhconklnaaDoorEn4
import Derived.Laws.StructEq
/- Structs are compared cell by cell. -/
namespace Go.En
open Go Go.RowKit
set_option linter.unusedSimpArgs false
set_option linter.unusedVariables false
mutual
/-- a type's cells: 0 a number, 1 a truth, 2 a text. -/
def lvs (P : Program) : Nat → TypeId → Option (List Nat)
  | 0, _ => none
  | d + 1, t => match P.underlying t, lay P t with
    | some (.int _), some (false, 1) => some [0]
    | some .bool, some (false, 1) => some [1]
    | some .string, some (false, 1) => some [2]
    | some (.struct fs), some (true, n) => if P.stoodInHeld t then none else match lvF P d fs.toList 0 with
      | some l => if l.length = n then some l else none
      | none => none
    | _, _ => none
def lvF (P : Program) : Nat → List Field → Nat → Option (List Nat)
  | _, [], _ => some []
  | 0, _ :: _, _ => none
  | d + 1, f :: r, off => if f.name = "_" then none else if f.offset = off then match lvs P d f.type with
    | some l => if l.length = 0 then none else match lvF P d r (off + l.length) with
      | some m => some (l ++ m)
      | none => none
    | none => none else none
end
def eqC (k : Nat) : C → C → Option Bool
  | .v (.int i a), .v (.int j b) => if k = 0 then if i = j then some (a == b) else none else none
  | .v (.bool a), .v (.bool b) => if k = 1 then some (a == b) else none
  | .v (.string a), .v (.string b) => if k = 2 then some (decide (a = b)) else none
  | _, _ => none
def eqCs : List Nat → List C → List C → Option Bool
  | [], [], [] => some true
  | k :: ks, c :: r, d :: s => match eqC k c d, eqCs ks r s with
    | some a, some b => some (a && b)
    | _, _ => none
  | _, _, _ => none
theorem eqCs_len : ∀ (ks : List Nat) (cs ds : List C) (b : Bool), eqCs ks cs ds = some b → cs.length = ks.length ∧ ds.length = ks.length
  | [], [], [], b, h => ⟨rfl, rfl⟩
  | k :: ks, c :: r, d :: s, b, h => by
    simp only [eqCs] at h
    split at h
    · rename_i h1 h2
      have := eqCs_len ks r s _ h2
      simp [this]
    · cases h
  | [], _ :: _, _, b, h => by simp [eqCs] at h
  | [], [], _ :: _, b, h => by simp [eqCs] at h
  | _ :: _, [], _, b, h => by simp [eqCs] at h
  | _ :: _, _ :: _, [], b, h => by simp [eqCs] at h
theorem eqCs_append : ∀ (ks : List Nat) (js : List Nat) (cs ds : List C) (b : Bool), eqCs (ks ++ js) cs ds = some b → ∃ b1 b2, eqCs ks (cs.take ks.length) (ds.take ks.length) = some b1 ∧ eqCs js (cs.drop ks.length) (ds.drop ks.length) = some b2 ∧ b = (b1 && b2)
  | [], js, cs, ds, b, h => ⟨true, b, by simp [eqCs], by simpa using h, by simp⟩
  | k :: ks, js, [], ds, b, h => by simp [eqCs] at h
  | k :: ks, js, c :: r, [], b, h => by simp [eqCs] at h
  | k :: ks, js, c :: r, d :: s, b, h => by
    simp only [List.cons_append, eqCs] at h
    split at h
    · rename_i a b' h1 h2
      cases h
      obtain ⟨b1, b2, g1, g2, g3⟩ := eqCs_append ks js r s b' h2
      refine ⟨a && b1, b2, ?_, by simpa using g2, by rw [g3, Bool.and_assoc]⟩
      simp [eqCs, h1, g1]
    · cases h
theorem flat_val {k : Nat} {s : Sit} {c d : C} {b : Bool} {u v : Value} (h : eqC k c d = some b) (hu : CR s c u) (hv : CR s d v) : (k = 0 ∧ ∃ i x y, u = .int i x ∧ v = .int i y ∧ b = (x == y)) ∨ (k = 1 ∧ ∃ x y, u = .bool x ∧ v = .bool y ∧ b = (x == y)) ∨ (k = 2 ∧ ∃ x y, u = .string x ∧ v = .string y ∧ b = decide (x = y)) := by
  unfold eqC at h
  split at h
  · split at h
    · split at h
      · rename_i h1 h2; cases h; subst h2; obtain ⟨rfl, _⟩ := hu; obtain ⟨rfl, _⟩ := hv; exact .inl ⟨h1, _, _, _, rfl, rfl, rfl⟩
      · cases h
    · cases h
  · split at h
    · rename_i h1; cases h; obtain ⟨rfl, _⟩ := hu; obtain ⟨rfl, _⟩ := hv; exact .inr (.inl ⟨h1, _, _, rfl, rfl, rfl⟩)
    · cases h
  · split at h
    · rename_i h1; cases h; obtain ⟨rfl, _⟩ := hu; obtain ⟨rfl, _⟩ := hv; exact .inr (.inr ⟨h1, _, _, rfl, rfl, rfl⟩)
    · cases h
  · cases h
/-- a value of a type out of its cells. -/
def valOf (ag : Bool) (us : List Value) : Value := if ag then .agg us.toArray else us.getD 0 undef
theorem lay_unique {P : Program} {t n m : Nat} {a b : Bool} (h : lay P t = some (a, n)) (k : lay P t = some (b, m)) : a = b ∧ n = m := by rw [h] at k; cases k; exact ⟨rfl, rfl⟩
theorem eq_both {P : Program} {s : Sit} : ∀ d : Nat, (∀ (t : TypeId) (ks : List Nat) (D : Nat) (cs ds : List C) (us vs : List Value) (b : Bool) (W : World), lvs P d t = some ks → d ≤ D → eqCs ks cs ds = some b → R2 (CR s) cs us → R2 (CR s) ds vs →
      ∃ ag, lay P t = some (ag, ks.length) ∧ (Op.equalIn D t (valOf ag us) (valOf ag vs)).run P W = .ok b W) ∧
    (∀ (fs : List Field) (off : Nat) (ks : List Nat) (D : Nat) (cs ds : List C) (us vs : List Value) (b : Bool) (W : World), lvF P d fs off = some ks → d ≤ D → eqCs ks (cs.drop off) (ds.drop off) = some b → R2 (CR s) cs us → R2 (CR s) ds vs →
      (Op.eqFields D us.toArray vs.toArray fs).run P W = .ok b W) := by
  intro d
  induction d with
  | zero =>
    refine ⟨fun t ks D cs ds us vs b W h => by simp [lvs] at h, fun fs off ks D cs ds us vs b W h hD he hu hv => ?_⟩
    cases fs with
    | nil =>
      simp only [lvF] at h
      cases h
      cases hc : cs.drop off <;> cases hd : ds.drop off <;> rw [hc, hd] at he <;> simp [eqCs] at he
      subst he
      simp [Op.eqFields]
    | cons f r => simp [lvF] at h
  | succ d ih =>
    obtain ⟨ih1, ih2⟩ := ih
    refine ⟨fun t ks D cs ds us vs b W h hD he hu hv => ?_, fun fs off ks D cs ds us vs b W h hD he hu hv => ?_⟩
    · obtain ⟨D', rfl⟩ : ∃ D', D = D' + 1 := ⟨D - 1, by omega⟩
      have leaf : ∀ k, ks = [k] → ∃ c e u v, cs = [c] ∧ ds = [e] ∧ us = [u] ∧ vs = [v] ∧ CR s c u ∧ CR s e v ∧ eqC k c e = some b := by
        rintro k rfl
        cases cs with
        | nil => simp [eqCs] at he
        | cons c r =>
          cases ds with
          | nil => simp [eqCs] at he
          | cons e r' =>
            cases r with
            | cons => simp [eqCs] at he
            | nil =>
              cases r' with
              | cons => simp [eqCs] at he
              | nil =>
                obtain ⟨u, m, rfl, h1, h2⟩ := hu.uncons
                obtain ⟨v, m', rfl, h3, h4⟩ := hv.uncons
                have := h2.nil_left; subst this
                have := h4.nil_left; subst this
                simp only [eqCs] at he
                cases hq : eqC k c e with
                | none => rw [hq] at he; cases he
                | some x => rw [hq] at he; simp at he; subst he; exact ⟨c, e, u, v, rfl, rfl, rfl, rfl, h1, h3, hq⟩
      simp only [lvs] at h
      split at h
      · rename_i k ht hl
        cases h
        obtain ⟨c, e, u, v, rfl, rfl, rfl, rfl, h1, h2, h3⟩ := leaf 0 rfl
        rcases flat_val h3 h1 h2 with ⟨_, i, x, y, rfl, rfl, rfl⟩ | ⟨h, _⟩ | ⟨h, _⟩
        · exact ⟨false, hl, by simp [valOf, run_equalIn_int _ _ _ _ _ _ _ ht]⟩
        · cases h
        · cases h
      · rename_i ht hl
        cases h
        obtain ⟨c, e, u, v, rfl, rfl, rfl, rfl, h1, h2, h3⟩ := leaf 1 rfl
        rcases flat_val h3 h1 h2 with ⟨h, _⟩ | ⟨_, x, y, rfl, rfl, rfl⟩ | ⟨h, _⟩
        · cases h
        · exact ⟨false, hl, by simp [valOf, run_equalIn_bool' _ _ _ _ _ ht]⟩
        · cases h
      · rename_i ht hl
        cases h
        obtain ⟨c, e, u, v, rfl, rfl, rfl, rfl, h1, h2, h3⟩ := leaf 2 rfl
        rcases flat_val h3 h1 h2 with ⟨h, _⟩ | ⟨h, _⟩ | ⟨_, x, y, rfl, rfl, rfl⟩
        · cases h
        · cases h
        · exact ⟨false, hl, by simp [valOf, run_equalIn_string _ _ _ _ _ ht, str_beq]⟩
      · rename_i fs n ht hl
        split at h
        · cases h
        · rename_i hst
          split at h
          · rename_i l hlf
            split at h
            · rename_i hn
              cases h
              have hfo : P.fieldsOf t = fs := by unfold Program.fieldsOf; rw [ht]
              refine ⟨true, hn ▸ hl, ?_⟩
              simp only [valOf, if_true]
              rw [run_equalIn_agg W D' t _ _ (by rw [hfo]; exact ht) (by simpa using hst), hfo]
              exact ih2 fs.toList 0 ks D' cs ds us vs b W hlf (by omega) (by simpa using he) hu hv
            · cases h
          · cases h
      · cases h
    · cases fs with
      | nil =>
        simp only [lvF] at h
        cases h
        cases hc : cs.drop off <;> cases hd : ds.drop off <;> rw [hc, hd] at he <;> simp [eqCs] at he
        subst he
        simp [Op.eqFields]
      | cons f r =>
        simp only [lvF] at h
        split at h
        · cases h
        · rename_i hnm
          split at h
          · rename_i hoff
            split at h
            · rename_i l hl
              split at h
              · cases h
              rename_i hl0
              split at h
              · rename_i m hm
                cases h
                obtain ⟨b1, b2, g1, g2, rfl⟩ := eqCs_append l m _ _ b he
                rw [List.drop_drop, List.drop_drop] at g2
                obtain ⟨q1, q2⟩ := eqCs_len _ _ _ _ g1
                have hcl : off + l.length ≤ cs.length := by
                  rw [List.length_take, List.length_drop] at q1
                  omega
                have hdl : off + l.length ≤ ds.length := by
                  rw [List.length_take, List.length_drop] at q2
                  omega
                have hul : off + l.length ≤ us.length := by rw [← hu.1]; exact hcl
                have hvl : off + l.length ≤ vs.length := by rw [← hv.1]; exact hdl
                obtain ⟨ag, hlay, hrun⟩ := ih1 f.type l D _ _ _ _ b1 W hl (by omega) g1 ((hu.drop _).take _) ((hv.drop _).take _)
                have hrest := ih2 r (off + l.length) m D cs ds us vs b2 W hm (by omega) g2 hu hv
                have key : ∀ (ws : List Value), off + l.length ≤ ws.length → (part f.type ws.toArray f.offset).run P W = .ok (valOf ag ((ws.drop off).take l.length)) W := by
                  intro ws hws
                  rw [hoff]
                  obtain ⟨p1, p2⟩ := run_part hlay ws off W hws
                  cases ag with
                  | true => exact p1 rfl
                  | false =>
                    have hone : l.length = 1 := by
                      obtain ⟨dd, ii, _, _, hsz, hor⟩ := lay_agg hlay
                      have hk : ∀ t ks, lvs P d t = some ks → lay P t = some (false, ks.length) → ks.length = 1 := by
                        intro t ks h1 h2
                        cases d with
                        | zero => simp [lvs] at h1
                        | succ d' =>
                          simp only [lvs] at h1
                          rw [h2] at h1
                          split at h1
                          · cases h1; rfl
                          · cases h1; rfl
                          · cases h1; rfl
                          · rename_i h3; cases h3
                          · cases h1
                      exact hk _ _ hl hlay
                    have : ∃ x, (ws.drop off).take l.length = [x] := by
                      have hlen : ((ws.drop off).take l.length).length = 1 := by rw [List.length_take, List.length_drop]; omega
                      exact List.length_eq_one_iff.1 hlen
                    obtain ⟨x, hx⟩ := this
                    rw [hx, p2 rfl x hx]
                    rfl
                simp only [Op.eqFields, hnm, ne_eq, not_false_eq_true, if_true, Sem.run_bind, key us hul, key vs hvl, Result.andThen_ok, hrun]
                cases b1 with
                | true => simpa using hrest
                | false => simp
              · cases h
            · cases h
          · cases h
def eqk (P : Program) (t : TypeId) : Option (List Nat) := match lay P t with
  | some (true, _) => if P.eqGuardType P.depth t then none else lvs P 20 t
  | _ => none
/-- two structs, cell by cell. -/
def eqV (P : Program) (op : BinOp) (t : TypeId) : V → V → Option (Prop × V)
  | .agg cs, .agg ds => match eqk P t with
    | some ks => match eqCs ks cs ds with
      | some b => match op with
        | .eql => some (True, VB b)
        | .neq => some (True, VB (!b))
        | _ => none
      | none => none
    | none => none
  | _, _ => none
theorem eqV_ok {P : Program} {s : Sit} {op : BinOp} {t : TypeId} {ox oy : Operand} {x y : V} {a b : Value} {p : Prop} {v : V} (h : eqV P op t x y = some (p, v)) (hx : VR s x a) (hy : VR s y b) : Quiet P s v (do eqGuard op t ox oy a b; binOp op t a b) := by
  unfold eqV at h
  split at h
  · rename_i cs ds
    obtain ⟨us, rfl, hu⟩ := hx
    obtain ⟨vs, rfl, hv⟩ := hy
    split at h
    · rename_i ks hk
      unfold eqk at hk
      split at hk
      · rename_i n hlay
        split at hk
        · cases hk
        · rename_i hgd
          have hgd' : P.eqGuardType P.depth t = false := by simpa using hgd
          split at h
          · rename_i bb he
            have hag : ∀ W, (Op.equalIn 10000 t (.agg us.toArray) (.agg vs.toArray)).run P W = .ok bb W := fun W => by
              obtain ⟨ag, h1, h2⟩ := (eq_both (P := P) (s := s) 20).1 t ks 10000 cs ds us vs bb W hk (by omega) he hu hv
              rw [hlay] at h1
              cases h1
              exact h2
            split at h
            · cases h
              exact .val rfl (fun W => by simp only [Sem.run_bind, run_eqGuard_agg W .eql t ox oy _ _ hgd', Result.andThen_ok, run_eql_struct, hag])
            · cases h
              exact .val rfl (fun W => by simp only [Sem.run_bind, run_eqGuard_agg W .neq t ox oy _ _ hgd', Result.andThen_ok, run_neq_struct, hag])
            · cases h
          · cases h
      · cases hk
    · cases h
  · cases h
end Go.En
