import Derived.WalkKit
import Derived.ProofKit
import Derived.Laws.AppendOwn
import Derived.Laws.MakeOwn
import Derived.Laws.CopyOwn
import Derived.Below
set_option linter.unusedVariables false
set_option linter.unusedSimpArgs false
/- An abstract machine over pure data and own memory: cells, values, blocks; how they stand in a world. -/
namespace Go.En
open Go Go.RowKit

inductive C where
  | v (x : Value)
  | row (es : List (List C))
  | own (b ver off n : Nat)
  | ptr (b ver i j : Nat)
  | rptr (e : List C) (j : Nat)
  | e0
  | fn (f : FuncId) (caps : List C)
  | yld (l : Nat)
  | mp (b ver : Nat)
inductive V where
  | c (x : C)
  | agg (cs : List C)
  | tup (vs : List V)
structure Blk where
  t : Nat
  sz : Nat
  ver : Nat
  es : List (List C)

/-- two lists, place by place. -/
def R2 {α β : Type} (R : α → β → Prop) (l : List α) (m : List β) : Prop := l.length = m.length ∧ ∀ (k : Nat) (c : α) (u : β), l[k]? = some c → m[k]? = some u → R c u
section
variable {α β : Type} {R R' : α → β → Prop} {l l' : List α} {m m' : List β}
theorem R2.nil : R2 R [] [] := ⟨rfl, fun k c u h => by simp at h⟩
theorem R2.mono (h : R2 R l m) (hr : ∀ c u, R c u → R' c u) : R2 R' l m := ⟨h.1, fun k c u h1 h2 => hr _ _ (h.2 k c u h1 h2)⟩
theorem R2.cons {x : α} {y : β} (h : R x y) (ht : R2 R l m) : R2 R (x :: l) (y :: m) := by
  refine ⟨by simp [ht.1], fun k c u h1 h2 => ?_⟩
  cases k with
  | zero => simp at h1 h2; subst h1; subst h2; exact h
  | succ k => simp at h1 h2; exact ht.2 k c u h1 h2
theorem R2.uncons {x : α} (h : R2 R (x :: l) m) : ∃ y m', m = y :: m' ∧ R x y ∧ R2 R l m' := by
  cases m with
  | nil => simp [R2] at h
  | cons y m' =>
    refine ⟨y, m', rfl, h.2 0 x y (by simp) (by simp), by have := h.1; simp at this; exact this, fun k c u h1 h2 => h.2 (k + 1) c u (by simpa using h1) (by simpa using h2)⟩
theorem R2.nil_left {m : List β} (h : R2 R ([] : List α) m) : m = [] := by
  have := h.1
  simp at this
  exact List.eq_nil_of_length_eq_zero this.symm
theorem R2.append (h : R2 R l m) (k : R2 R l' m') : R2 R (l ++ l') (m ++ m') := by
  refine ⟨by simp [h.1, k.1], fun i c u h1 h2 => ?_⟩
  by_cases hi : i < l.length
  · rw [List.getElem?_append_left hi] at h1
    rw [List.getElem?_append_left (by rw [← h.1]; exact hi)] at h2
    exact h.2 i c u h1 h2
  · rw [List.getElem?_append_right (by omega)] at h1
    rw [List.getElem?_append_right (by rw [← h.1]; omega), ← h.1] at h2
    exact k.2 _ c u h1 h2
theorem R2.take (h : R2 R l m) (n : Nat) : R2 R (l.take n) (m.take n) := by
  refine ⟨by simp [h.1], fun i c u h1 h2 => ?_⟩
  rw [List.getElem?_take] at h1 h2
  split at h1
  · rename_i hi
    rw [if_pos hi] at h2
    exact h.2 i c u h1 h2
  · simp at h1
theorem R2.drop (h : R2 R l m) (n : Nat) : R2 R (l.drop n) (m.drop n) := by
  refine ⟨by simp [h.1], fun i c u h1 h2 => ?_⟩
  rw [List.getElem?_drop] at h1 h2
  exact h.2 _ c u h1 h2
theorem R2.get (h : R2 R l m) {k : Nat} {c : α} (hk : l[k]? = some c) : ∃ u, m[k]? = some u ∧ R c u := by
  have hl := (List.getElem?_eq_some_iff.1 hk).1
  rw [h.1] at hl
  exact ⟨m[k], List.getElem?_eq_getElem hl, h.2 k c _ hk (List.getElem?_eq_getElem hl)⟩
theorem R2.get_r (h : R2 R l m) {k : Nat} {u : β} (hk : m[k]? = some u) : ∃ c, l[k]? = some c ∧ R c u := by
  have hl := (List.getElem?_eq_some_iff.1 hk).1
  rw [← h.1] at hl
  exact ⟨l[k], List.getElem?_eq_getElem hl, h.2 k _ u (List.getElem?_eq_getElem hl) hk⟩
theorem R2.all {p : β → Prop} (h : R2 R l m) (hp : ∀ c u, R c u → p u) : ∀ u ∈ m, p u := by
  intro u hu
  obtain ⟨k, hk⟩ := List.mem_iff_getElem?.1 hu
  obtain ⟨c, _, hr⟩ := h.get_r hk
  exact hp c u hr
end
/-- a list of lists of one length. -/
def Uni {α : Type} (sz : Nat) (es : List (List α)) : Prop := ∀ e ∈ es, e.length = sz
theorem Uni.flat_len {α : Type} {sz : Nat} {es : List (List α)} (h : Uni sz es) : es.flatten.length = es.length * sz := by
  induction es with
  | nil => simp
  | cons e r ih =>
    rw [List.flatten_cons, List.length_append, ih (fun x hx => h x (List.mem_cons_of_mem _ hx)), h e List.mem_cons_self, List.length_cons, Nat.add_mul]
    omega
theorem Uni.flat_get {α : Type} {sz : Nat} {es : List (List α)} (h : Uni sz es) {i j : Nat} {e : List α} (he : es[i]? = some e) (hj : j < sz) : es.flatten[i * sz + j]? = e[j]? := by
  induction es generalizing i with
  | nil => simp at he
  | cons x r ih =>
    rw [List.flatten_cons]
    have hx := h x List.mem_cons_self
    cases i with
    | zero =>
      simp at he
      subst he
      rw [Nat.zero_mul, Nat.zero_add, List.getElem?_append_left (by omega)]
    | succ i =>
      simp at he
      rw [List.getElem?_append_right (by rw [hx, Nat.add_mul]; omega), ← ih (fun y hy => h y (List.mem_cons_of_mem _ hy)) he, hx]
      congr 1
      rw [Nat.add_mul]
      omega
theorem Uni.take {α : Type} {sz : Nat} {es : List (List α)} (h : Uni sz es) (n : Nat) : Uni sz (es.take n) := fun e he => h e (List.mem_of_mem_take he)
theorem Uni.drop {α : Type} {sz : Nat} {es : List (List α)} (h : Uni sz es) (n : Nat) : Uni sz (es.drop n) := fun e he => h e (List.mem_of_mem_drop he)
theorem Uni.append {α : Type} {sz : Nat} {es fs : List (List α)} (h : Uni sz es) (k : Uni sz fs) : Uni sz (es ++ fs) := fun e he => (List.mem_append.1 he).elim (h e) (k e)
theorem Uni.flat_take {α : Type} {sz : Nat} {es : List (List α)} (h : Uni sz es) (n : Nat) : (es.take n).flatten = es.flatten.take (n * sz) := by
  induction es generalizing n with
  | nil => simp
  | cons e r ih =>
    cases n with
    | zero => simp
    | succ n =>
      have he : (n + 1) * sz = e.length + n * sz := by rw [h e List.mem_cons_self, Nat.add_mul]; omega
      rw [List.take_succ_cons, List.flatten_cons, List.flatten_cons, ih (fun x hx => h x (List.mem_cons_of_mem _ hx)), he, List.take_append, List.take_of_length_le (l := e) (by omega)]
      simp
theorem Uni.flat_drop {α : Type} {sz : Nat} {es : List (List α)} (h : Uni sz es) (n : Nat) : (es.drop n).flatten = es.flatten.drop (n * sz) := by
  induction es generalizing n with
  | nil => simp
  | cons e r ih =>
    cases n with
    | zero => simp
    | succ n =>
      have he : (n + 1) * sz = e.length + n * sz := by rw [h e List.mem_cons_self, Nat.add_mul]; omega
      rw [List.drop_succ_cons, List.flatten_cons, ih (fun x hx => h x (List.mem_cons_of_mem _ hx)), he, List.drop_append]
      simp

theorem add_add (a : Addr) (n m : Nat) : (a.add n).add m = a.add (n + m) := by
  unfold Addr.add
  by_cases hn : n = 0 <;> by_cases hm : m = 0 <;> simp [hn, hm, Nat.add_assoc]
theorem add_block (a : Addr) (n : Nat) : (a.add n).block = a.block := by unfold Addr.add; split <;> rfl
theorem add_lit (g o n : Nat) : (⟨g, o, none⟩ : Addr).add n = ⟨g, o + n, none⟩ := by unfold Addr.add; split <;> simp_all

/-- pure data: a cell that reads as it, in blocks that stay as they are. -/
inductive DR (W : World) (F : Nat → Prop) : C → Value → Prop
  | v {x : Value} : x.oneCell' = true → DR W F (.v x) x
  | nil : DR W F (.row []) (.slice none 0 0)
  | row {a : Addr} {sz n c : Nat} {es : List (List C)} (u : Nat → Value) : Uni sz es → (es.flatten ≠ [] → F a.block) → (∀ k, k < es.flatten.length → W.cell? (a.add k) = some (u k)) →
      (∀ k d, es.flatten[k]? = some d → DR W F d (u k)) → n = es.length → n ≤ c → DR W F (.row es) (.slice (some a) n c)
theorem DR.one {W : World} {F : Nat → Prop} {d : C} {u : Value} (h : DR W F d u) : u.oneCell' = true := by
  cases h with
  | v h => exact h
  | nil => rfl
  | row => rfl
theorem DR.mono {W W' : World} {F F' : Nat → Prop} {d : C} {u : Value} (h : DR W F d u) (hw : ∀ k, F k → W'.heap[k]? = W.heap[k]?) (hf : ∀ k, F k → F' k) : DR W' F' d u := by
  induction h with
  | v h => exact .v h
  | nil => exact .nil
  | @row a sz n c es u hu ha hc hd hn hcap ih =>
    refine .row u hu (fun h => hf _ (ha h)) (fun k hk => ?_) (fun k d hk => ih k d hk) hn hcap
    rw [World.cell?_of_block (w := W), hc k hk]
    rw [add_block]
    exact hw _ (ha (fun e => by rw [e] at hk; simp at hk))

/-- what is known of the memory a run has: its world, what stays as it is, where its own blocks lie. -/
structure Sit where
  W : World
  F : Nat → Prop
  ρ : List Value
  H : List Blk

/-- the block in which a row lies that may be written. -/
def ob : Value → Option Nat
  | .slice (some a) _ (_ + 1) => some a.block
  | .map (some g) => some g
  | _ => none
theorem ob_own {v : Value} {g : Nat} (hm : ∀ k, v ≠ .map k) (h : ob v = some g) : v.ownBlock = some g := by
  unfold ob at h
  split at h
  · simpa [Value.ownBlock] using h
  · exact absurd rfl (hm _)
  · cases h
/-- what the program's variables hold that are tables. -/
def tabs : Nat → Option (List Value)
  | 0 => some [.int .u8 3, .int .u8 4, .int .u8 1, .int .u8 2]
  | _ => none
def GL (W : World) (F : Nat → Prop) : Prop := ∀ (g : Nat) (e : List Value), tabs g = some e → ∀ (k : Nat) (x : Value), e[k]? = some x → x.oneCell' = true ∧ W.cell? ⟨g, k, none⟩ = some x ∧ F g
theorem GL.mono {W W' : World} {F F' : Nat → Prop} (h : GL W F) (hw : ∀ k, F k → W'.heap[k]? = W.heap[k]?) (hf : ∀ k, F k → F' k) : GL W' F' := by
  intro g e he k x hk
  obtain ⟨h1, h2, h3⟩ := h g e he k x hk
  refine ⟨h1, ?_, hf _ h3⟩
  rw [World.cell?_of_block (w := W), h2]
  exact hw _ h3
/-- a map of numbers, each to 'true'. -/
def KS (l : List Int) : List (List C) := l.map fun k => [.v (.int .i64 k)]
def MapIs (W : World) (g : Nat) (l : List Int) : Prop := ∃ es clock, W.heap[g]? = some (.map es clock) ∧ es.toList.map (fun e => (e.key, e.val)) = l.map fun k => (Value.int .i64 k, Value.bool true)
def OwnAt (b : Blk) (rv : Value) (off n : Nat) (u : Value) : Prop :=
  off + n ≤ b.es.length ∧ (((∃ A, rv = .slice A 0 0) ∧ (∃ A, u = .slice A 0 0) ∧ n = 0 ∧ off = 0) ∨
    ∃ (g L cap : Nat) (a : Addr) (c : Nat), 0 < cap ∧ rv = .slice (some ⟨g, 0, none⟩) L cap ∧ u = .slice (some a) n c ∧ off ≤ cap ∧ c = cap - off ∧ n ≤ c ∧ a.block = g ∧ (a = ⟨g, off * b.sz, none⟩ ∨ (off ≠ 0 ∧ c = 0)))

/-- a cell of the machine, in a situation. -/
def CR0 (s : Sit) : C → Value → Prop
  | .v x, u => u = x ∧ x.oneCell' = true
  | .row es, u => DR s.W s.F (.row es) u
  | .own b ver off n, u => (∃ A c, u = .slice A n c) ∧ ∃ (blk : Blk) (rv : Value), s.H[b]? = some blk ∧ s.ρ[b]? = some rv ∧ ver ≤ blk.ver ∧ (ver = blk.ver → OwnAt blk rv off n u)
  | .ptr b ver i j, u => (∃ A, u = .pointer (some A)) ∧ ∃ (blk : Blk) (rv : Value), s.H[b]? = some blk ∧ s.ρ[b]? = some rv ∧ ver ≤ blk.ver ∧ (ver = blk.ver → ∃ g L cap, rv = .slice (some ⟨g, 0, none⟩) L cap ∧ u = .pointer (some ⟨g, i * blk.sz + j, none⟩))
  | .e0, u => ∃ A, u = .slice A 0 0
  | .rptr e j, u => ∃ (a : Addr) (w : Nat → Value), (∀ (k : Nat) (c : C), e[k]? = some c → s.W.cell? (a.add k) = some (w k) ∧ s.F a.block ∧ DR s.W s.F c (w k)) ∧ u = .pointer (some (a.add j))
  | .fn _ _, _ => False
  | .yld l, u => u = .func (.yield l) #[] #[]
  | .mp b ver, u => (∃ g, u = .map (some g)) ∧ ∃ (blk : Blk) (rv : Value), s.H[b]? = some blk ∧ s.ρ[b]? = some rv ∧ ver ≤ blk.ver ∧ (ver = blk.ver → rv = u)
def CR (s : Sit) : C → Value → Prop
  | .fn f caps, u => ∃ us : List Value, u = .func (.func f) #[] us.toArray ∧ R2 (CR0 s) caps us
  | c, u => CR0 s c u
theorem CR0.one {s : Sit} {c : C} {u : Value} (h : CR0 s c u) : u.oneCell' = true := by
  cases c with
  | v x => obtain ⟨rfl, h⟩ := h; exact h
  | row es => exact DR.one h
  | own => obtain ⟨A, c, rfl⟩ := h.1; rfl
  | ptr => obtain ⟨A, rfl⟩ := h.1; rfl
  | e0 => obtain ⟨A, rfl⟩ := h; rfl
  | rptr => obtain ⟨a, w, h1, rfl⟩ := h; rfl
  | fn => exact h.elim
  | yld l => subst h; rfl
  | mp => obtain ⟨g, rfl⟩ := h.1; rfl
theorem CR.one {s : Sit} {c : C} {u : Value} (h : CR s c u) : u.oneCell' = true := by
  cases c with
  | fn => obtain ⟨us, rfl, _⟩ := h; rfl
  | v x => exact CR0.one (s := s) (c := .v x) h
  | row es => exact CR0.one (s := s) (c := (.row es)) h
  | own b ver off n => exact CR0.one (s := s) (c := (.own b ver off n)) h
  | ptr b ver i j => exact CR0.one (s := s) (c := (.ptr b ver i j)) h
  | rptr e j => exact CR0.one (s := s) (c := (.rptr e j)) h
  | e0 => exact CR0.one (s := s) (c := .e0) h
  | yld l => exact CR0.one (s := s) (c := .yld l) h
  | mp b ver => exact CR0.one (s := s) (c := .mp b ver) h
def VR1 (s : Sit) : V → Value → Prop
  | .c x, u => CR s x u
  | .agg cs, u => ∃ us : List Value, u = .agg us.toArray ∧ R2 (CR s) cs us
  | .tup _, _ => False
def VR (s : Sit) : V → Value → Prop
  | .tup vs, u => ∃ us : List Value, u = .tuple us.toArray ∧ R2 (VR1 s) vs us
  | v, u => VR1 s v u
def V.cells : V → List C
  | .c x => [x]
  | .agg cs => cs
  | .tup _ => []
theorem VR1.cells {s : Sit} {v : V} {u : Value} (h : VR1 s v u) : R2 (CR s) v.cells u.cells.toList := by
  cases v with
  | c x =>
    have h1 := CR.one h
    have : u.cells = #[u] := by cases u <;> first | rfl | simp [Value.oneCell'] at h1
    rw [this]
    exact R2.cons h R2.nil
  | agg cs => obtain ⟨us, rfl, h⟩ := h; simpa [Value.cells, V.cells] using h
  | tup vs => exact h.elim

def OwnG (ρ : List Value) (g : Nat) : Prop := ∃ (b : Nat) (rv : Value), ρ[b]? = some rv ∧ ob rv = some g
structure BlkOk (s : Sit) (b : Blk) (rv : Value) : Prop where
  uni : Uni b.sz b.es
  att : ((∀ k, rv ≠ .map k) ∧ ((b.es = [] ∧ ∃ A, rv = .slice A 0 0) ∨ ∃ xs, s.W.ownsRow 0 b.t b.sz rv b.es.length xs ∧ R2 (CR s) b.es.flatten xs)) ∨ ∃ l g, b.es = [[.row (KS l)]] ∧ rv = .map (some g) ∧ MapIs s.W g l
theorem BlkOk.at_ {s : Sit} {b : Blk} {rv : Value} (h : BlkOk s b rv) (hm : ∀ k, rv ≠ .map k) : (b.es = [] ∧ ∃ A, rv = .slice A 0 0) ∨ ∃ xs, s.W.ownsRow 0 b.t b.sz rv b.es.length xs ∧ R2 (CR s) b.es.flatten xs := by
  rcases h.att with h | ⟨l, g, _, h, _⟩
  · exact h.2
  · exact absurd h (hm _)
theorem ownsRow_nomap {W : World} {base e sz n : Nat} {rv : Value} {xs : List Value} (h : W.ownsRow base e sz rv n xs) : ∀ k, rv ≠ .map k := by
  rcases h.2 with ⟨rfl, _⟩ | ⟨g, cap, cur, rfl, _⟩ <;> (intro k e; cases e)
theorem blk_row {s : Sit} {b : Blk} {rv : Value} (hu : Uni b.sz b.es) (h : (b.es = [] ∧ ∃ A, rv = .slice A 0 0) ∨ ∃ xs, s.W.ownsRow 0 b.t b.sz rv b.es.length xs ∧ R2 (CR s) b.es.flatten xs) : BlkOk s b rv := by
  refine ⟨hu, .inl ⟨?_, h⟩⟩
  rcases h with ⟨_, A, rfl⟩ | ⟨xs, h, _⟩
  · intro k e; cases e
  · exact ownsRow_nomap h
structure SI (s : Sit) : Prop where
  len : s.ρ.length = s.H.length
  blk : ∀ (b : Nat) (blk : Blk) (rv : Value), s.H[b]? = some blk → s.ρ[b]? = some rv → BlkOk s blk rv
  ne : ∀ (b b' : Nat) (rv rv' : Value) (g : Nat), b ≠ b' → s.ρ[b]? = some rv → s.ρ[b']? = some rv' → ob rv = some g → ob rv' ≠ some g
  nf : ∀ g, OwnG s.ρ g → ¬ s.F g
  fs : ∀ k, s.F k → k < s.W.heap.size
  gl : GL s.W s.F
/-- what a step may do: without what is known of the new blocks. -/
structure Ext0 (s s' : Sit) : Prop where
  os : s'.W.os = s.W.os
  tape : s'.W.tape = s.W.tape
  output : s'.W.output = s.W.output
  size : s.W.heap.size ≤ s'.W.heap.size
  frame : ∀ k, k < s.W.heap.size → ¬ OwnG s.ρ k → s'.W.heap[k]? = s.W.heap[k]?
  F : ∀ k, s.F k → s'.F k
  F' : ∀ k, s'.F k → s.F k ∨ s.W.heap.size ≤ k ∨ OwnG s.ρ k
  own : ∀ g, OwnG s'.ρ g → OwnG s.ρ g ∨ s.W.heap.size ≤ g
  H : ∀ (b : Nat) (blk : Blk) (rv : Value), s.H[b]? = some blk → s.ρ[b]? = some rv → ∃ (blk' : Blk) (rv' : Value), s'.H[b]? = some blk' ∧ s'.ρ[b]? = some rv' ∧ blk.ver ≤ blk'.ver ∧ (blk'.ver = blk.ver → rv' = rv ∧ blk'.es.length = blk.es.length ∧ blk'.sz = blk.sz)
theorem Ext0.refl (s : Sit) : Ext0 s s := ⟨rfl, rfl, rfl, Nat.le_refl _, fun _ _ _ => rfl, fun _ h => h, fun _ h => .inl h, fun _ h => .inl h, fun b blk rv h1 h2 => ⟨blk, rv, h1, h2, Nat.le_refl _, fun _ => ⟨rfl, rfl, rfl⟩⟩⟩
theorem Ext0.fheap {s s' : Sit} (h : Ext0 s s') (hs : SI s) : ∀ k, s.F k → s'.W.heap[k]? = s.W.heap[k]? := fun k hk => h.frame k (hs.fs k hk) (fun ho => hs.nf k ho hk)
theorem OwnG.lt {s : Sit} (hs : SI s) {g : Nat} (h : OwnG s.ρ g) : g < s.W.heap.size := by
  obtain ⟨b, rv, h1, h2⟩ := h
  have hb : b < s.H.length := by rw [← hs.len]; exact (List.getElem?_eq_some_iff.1 h1).1
  rcases (hs.blk b _ rv (List.getElem?_eq_getElem hb) h1).att with ⟨hm, ⟨_, A, rfl⟩ | ⟨xs, ho, _⟩⟩ | ⟨l, g', _, rfl, es, clock, hh, _⟩
  · cases A <;> cases h2
  · exact (ho.lt g (ob_own hm h2)).2
  · cases h2; exact (Array.getElem?_eq_some_iff.1 hh).1
theorem Ext0.trans {a b c : Sit} (ha : SI a) (h : Ext0 a b) (k : Ext0 b c) : Ext0 a c := by
  refine ⟨k.os.trans h.os, k.tape.trans h.tape, k.output.trans h.output, Nat.le_trans h.size k.size, fun i hi ho => ?_, fun i hi => k.F i (h.F i hi), fun i hi => ?_, fun g hg => ?_, fun i blk rv h1 h2 => ?_⟩
  · refine (k.frame i (Nat.lt_of_lt_of_le hi h.size) (fun hb => ?_)).trans (h.frame i hi ho)
    rcases h.own i hb with h' | h'
    · exact ho h'
    · omega
  · rcases k.F' i hi with h' | h' | h'
    · exact h.F' i h'
    · exact .inr (.inl (Nat.le_trans h.size h'))
    · rcases h.own i h' with h' | h'
      · exact .inr (.inr h')
      · exact .inr (.inl h')
  · rcases k.own g hg with h' | h'
    · exact h.own g h'
    · exact .inr (Nat.le_trans h.size h')
  · obtain ⟨b1, r1, e1, e2, e3, e4⟩ := h.H i blk rv h1 h2
    obtain ⟨b2, r2, f1, f2, f3, f4⟩ := k.H i b1 r1 e1 e2
    refine ⟨b2, r2, f1, f2, Nat.le_trans e3 f3, fun hv => ?_⟩
    have hv1 : b1.ver = blk.ver := by omega
    have hv2 : b2.ver = b1.ver := by omega
    obtain ⟨x1, x2, x3⟩ := e4 hv1
    obtain ⟨y1, y2, y3⟩ := f4 hv2
    exact ⟨y1.trans x1, y2.trans x2, y3.trans x3⟩
theorem CR0.ext {s s' : Sit} (hs : SI s) (h : Ext0 s s') {c : C} {u : Value} (hc : CR0 s c u) : CR0 s' c u := by
  cases c with
  | v x => exact hc
  | row es => exact DR.mono hc (h.fheap hs) h.F
  | own b ver off n =>
    obtain ⟨h0, blk, rv, h1, h2, h3, h4⟩ := hc
    obtain ⟨blk', rv', e1, e2, e3, e4⟩ := h.H b blk rv h1 h2
    refine ⟨h0, blk', rv', e1, e2, Nat.le_trans h3 e3, fun hv => ?_⟩
    have hv' : blk'.ver = blk.ver := by omega
    obtain ⟨rfl, hl, hz⟩ := e4 hv'
    have h5 := h4 (by omega)
    unfold OwnAt at h5 ⊢
    rw [hl, hz]
    exact h5
  | ptr b ver i j =>
    obtain ⟨h0, blk, rv, h1, h2, h3, h4⟩ := hc
    obtain ⟨blk', rv', e1, e2, e3, e4⟩ := h.H b blk rv h1 h2
    refine ⟨h0, blk', rv', e1, e2, Nat.le_trans h3 e3, fun hv => ?_⟩
    have hv' : blk'.ver = blk.ver := by omega
    obtain ⟨rfl, hl, hz⟩ := e4 hv'
    rw [hz]
    exact h4 (by omega)
  | rptr e j =>
    obtain ⟨a, w, h1, h2⟩ := hc
    refine ⟨a, w, fun k c hk => ?_, h2⟩
    obtain ⟨g1, g2, g3⟩ := h1 k c hk
    refine ⟨?_, h.F _ g2, DR.mono g3 (h.fheap hs) h.F⟩
    rw [World.cell?_of_block (w := s.W), g1]
    rw [add_block]
    exact h.fheap hs _ g2
  | e0 => exact hc
  | fn => exact hc.elim
  | yld l => exact hc
  | mp b ver =>
    obtain ⟨h0, blk, rv, h1, h2, h3, h4⟩ := hc
    obtain ⟨blk', rv', e1, e2, e3, e4⟩ := h.H b blk rv h1 h2
    refine ⟨h0, blk', rv', e1, e2, Nat.le_trans h3 e3, fun hv => ?_⟩
    obtain ⟨rfl, _, _⟩ := e4 (by omega)
    exact h4 (by omega)
theorem CR.ext {s s' : Sit} (hs : SI s) (h : Ext0 s s') {c : C} {u : Value} (hc : CR s c u) : CR s' c u := by
  cases c with
  | fn f caps => obtain ⟨us, e, h2⟩ := hc; exact ⟨us, e, h2.mono (fun _ _ => CR0.ext hs h)⟩
  | v x => exact CR0.ext (c := (.v x)) hs h hc
  | row es => exact CR0.ext (c := (.row es)) hs h hc
  | own b ver off n => exact CR0.ext (c := (.own b ver off n)) hs h hc
  | ptr b ver i j => exact CR0.ext (c := (.ptr b ver i j)) hs h hc
  | rptr e j => exact CR0.ext (c := (.rptr e j)) hs h hc
  | e0 => exact CR0.ext (c := .e0) hs h hc
  | yld l => exact CR0.ext (c := .yld l) hs h hc
  | mp b ver => exact CR0.ext (c := .mp b ver) hs h hc
theorem VR1.ext {s s' : Sit} (hs : SI s) (h : Ext0 s s') {v : V} {u : Value} (hc : VR1 s v u) : VR1 s' v u := by
  cases v with
  | c x => exact CR.ext hs h hc
  | agg cs => obtain ⟨us, e, h2⟩ := hc; exact ⟨us, e, h2.mono (fun _ _ => CR.ext hs h)⟩
  | tup vs => exact hc.elim
theorem VR.ext {s s' : Sit} (hs : SI s) (h : Ext0 s s') {v : V} {u : Value} (hc : VR s v u) : VR s' v u := by
  cases v with
  | tup vs => obtain ⟨us, e, h2⟩ := hc; exact ⟨us, e, h2.mono (fun _ _ => VR1.ext hs h)⟩
  | c x => exact VR1.ext (v := .c x) hs h hc
  | agg cs => exact VR1.ext (v := .agg cs) hs h hc
theorem VR.of1 {s : Sit} {v : V} {u : Value} (h : VR1 s v u) : VR s v u := by
  cases v with
  | tup vs => exact h.elim
  | _ => exact h
structure Ext (s s' : Sit) : Prop extends Ext0 s s' where
  si : SI s'
theorem Ext.refl {s : Sit} (h : SI s) : Ext s s := ⟨Ext0.refl s, h⟩
theorem Ext.trans {a b c : Sit} (ha : SI a) (h : Ext a b) (k : Ext b c) : Ext a c := ⟨h.toExt0.trans ha k.toExt0, k.si⟩

theorem BlkOk.ext {s s' : Sit} (hs : SI s) (h : Ext0 s s') {b : Blk} {rv : Value} (hb : BlkOk s b rv) (hk : ∀ g, ob rv = some g → s'.W.heap[g]? = s.W.heap[g]?) : BlkOk s' b rv := by
  rcases hb.att with ⟨_, hz | ⟨xs, ho, hr⟩⟩ | ⟨l, g, h1, rfl, es, clock, h2, h3⟩
  · exact blk_row hb.uni (.inl hz)
  · rcases ho.2 with ⟨rfl, hn⟩ | ⟨g, cap, cur, rfl, hbg, hg, rest⟩
    · exact blk_row hb.uni (.inl ⟨List.eq_nil_of_length_eq_zero hn, none, rfl⟩)
    · cases cap with
      | zero =>
        have h0 : b.es.length = 0 := by omega
        exact blk_row hb.uni (.inl ⟨List.eq_nil_of_length_eq_zero h0, some ⟨g, 0, none⟩, by rw [h0]⟩)
      | succ cap => exact blk_row hb.uni (.inr ⟨xs, ⟨ho.1, .inr ⟨g, cap + 1, cur, rfl, hbg, (hk g rfl).trans hg, rest⟩⟩, hr.mono (fun _ _ => CR.ext hs h)⟩)
  · exact ⟨hb.uni, .inr ⟨l, g, h1, rfl, es, clock, (hk g rfl).trans h2, h3⟩⟩

/-- a new block. -/
theorem Ext.new {s : Sit} (hs : SI s) {W' : World} {blk : Blk} {rv : Value} (hg : s.W.grownBy W' none) (hn : ∀ g, ob rv = some g → s.W.heap.size ≤ g)
    (hb : Ext0 s ⟨W', s.F, s.ρ ++ [rv], s.H ++ [blk]⟩ → BlkOk ⟨W', s.F, s.ρ ++ [rv], s.H ++ [blk]⟩ blk rv) : Ext s ⟨W', s.F, s.ρ ++ [rv], s.H ++ [blk]⟩ := by
  have hl := hs.len
  have hblk : ∀ k, k < s.W.heap.size → W'.heap[k]? = s.W.heap[k]? := fun k hk => hg.block k hk (by simp)
  have hown : ∀ g, OwnG (s.ρ ++ [rv]) g → OwnG s.ρ g ∨ s.W.heap.size ≤ g := by
    rintro g ⟨b, r, h1, h2⟩
    by_cases hb : b < s.ρ.length
    · rw [List.getElem?_append_left hb] at h1
      exact .inl ⟨b, r, h1, h2⟩
    · rw [List.getElem?_append_right (by omega)] at h1
      have : r = rv := by
        cases hbb : b - s.ρ.length with
        | zero => rw [hbb] at h1; simp at h1; exact h1.symm
        | succ n => rw [hbb] at h1; simp at h1
      subst this
      exact .inr (hn g h2)
  have e0 : Ext0 s ⟨W', s.F, s.ρ ++ [rv], s.H ++ [blk]⟩ := by
    refine ⟨hg.os, hg.tape, hg.output, hg.size, fun k hk _ => hblk k hk, fun _ h => h, fun _ h => .inl h, hown, fun b bl r h1 h2 => ?_⟩
    refine ⟨bl, r, ?_, ?_, Nat.le_refl _, fun _ => ⟨rfl, rfl, rfl⟩⟩
    · rw [List.getElem?_append_left (List.getElem?_eq_some_iff.1 h1).1]; exact h1
    · rw [List.getElem?_append_left (List.getElem?_eq_some_iff.1 h2).1]; exact h2
  refine ⟨e0, ⟨by simp [hl], fun b bl r h1 h2 => ?_, fun b b' r r' g hne h1 h2 h3 h4 => ?_, fun g hg' hf => ?_, fun k hk => Nat.lt_of_lt_of_le (hs.fs k hk) hg.size, hs.gl.mono (e0.fheap hs) (fun _ h => h)⟩⟩
  · by_cases hbl : b < s.H.length
    · rw [List.getElem?_append_left hbl] at h1
      rw [List.getElem?_append_left (by omega)] at h2
      exact (hs.blk b bl r h1 h2).ext hs e0 (fun g hg' => hblk g (OwnG.lt hs ⟨b, r, h2, hg'⟩))
    · rw [List.getElem?_append_right (by omega)] at h1 h2
      have hz : b - s.H.length = 0 := by
        cases hbb : b - s.H.length with
        | zero => rfl
        | succ n => rw [hbb] at h1; simp at h1
      rw [hz] at h1
      rw [hl, hz] at h2
      simp at h1 h2
      subst h1; subst h2
      exact hb e0
  · have key : ∀ (b : Nat) (r : Value), (s.ρ ++ [rv])[b]? = some r → (b < s.ρ.length ∧ s.ρ[b]? = some r) ∨ (b = s.ρ.length ∧ r = rv) := by
      intro b r h
      by_cases hb : b < s.ρ.length
      · rw [List.getElem?_append_left hb] at h; exact .inl ⟨hb, h⟩
      · rw [List.getElem?_append_right (by omega)] at h
        cases hbb : b - s.ρ.length with
        | zero => rw [hbb] at h; simp at h; exact .inr ⟨by omega, h.symm⟩
        | succ n => rw [hbb] at h; simp at h
    rcases key b r h1 with ⟨k1, k2⟩ | ⟨k1, k2⟩ <;> rcases key b' r' h2 with ⟨k3, k4⟩ | ⟨k3, k4⟩
    · exact hs.ne b b' r r' g hne k2 k4 h3 h4
    · subst k4
      have := hn g h4
      have := OwnG.lt hs ⟨b, r, k2, h3⟩
      omega
    · subst k2
      have := hn g h3
      have := OwnG.lt hs ⟨b', r', k4, h4⟩
      omega
    · omega
  · rcases hown g hg' with h | h
    · exact hs.nf g h hf
    · have := hs.fs g hf; omega

/-- one of the blocks is another one. -/
theorem Ext.set {s : Sit} (hs : SI s) {W' : World} {b : Nat} {blk blk' : Blk} {rv rv' : Value} (h1 : s.H[b]? = some blk) (h2 : s.ρ[b]? = some rv) (hg : s.W.grownBy W' (ob rv))
    (hn : ∀ g, ob rv' = some g → ob rv = some g ∨ s.W.heap.size ≤ g) (hv : blk.ver ≤ blk'.ver) (hv' : blk'.ver = blk.ver → rv' = rv ∧ blk'.es.length = blk.es.length ∧ blk'.sz = blk.sz)
    (hb : Ext0 s ⟨W', s.F, s.ρ.set b rv', s.H.set b blk'⟩ → BlkOk ⟨W', s.F, s.ρ.set b rv', s.H.set b blk'⟩ blk' rv') : Ext s ⟨W', s.F, s.ρ.set b rv', s.H.set b blk'⟩ := by
  have hl := hs.len
  have hbH := (List.getElem?_eq_some_iff.1 h1).1
  have hbρ := (List.getElem?_eq_some_iff.1 h2).1
  have key : ∀ (i : Nat) (r : Value), (s.ρ.set b rv')[i]? = some r → (i ≠ b ∧ s.ρ[i]? = some r) ∨ (i = b ∧ r = rv') := by
    intro i r h
    by_cases hi : i = b
    · subst hi
      rw [List.getElem?_set_self hbρ] at h
      exact .inr ⟨rfl, (Option.some.inj h).symm⟩
    · rw [List.getElem?_set_ne (Ne.symm hi)] at h
      exact .inl ⟨hi, h⟩
  have hown : ∀ g, OwnG (s.ρ.set b rv') g → OwnG s.ρ g ∨ s.W.heap.size ≤ g := by
    rintro g ⟨i, r, e1, e2⟩
    rcases key i r e1 with ⟨k1, k2⟩ | ⟨rfl, rfl⟩
    · exact .inl ⟨i, r, k2, e2⟩
    · rcases hn g e2 with h | h
      · exact .inl ⟨_, rv, h2, h⟩
      · exact .inr h
  have hblk : ∀ k, k < s.W.heap.size → ob rv ≠ some k → W'.heap[k]? = s.W.heap[k]? := fun k hk hne => hg.block k hk (Ne.symm hne)
  have e0 : Ext0 s ⟨W', s.F, s.ρ.set b rv', s.H.set b blk'⟩ := by
    refine ⟨hg.os, hg.tape, hg.output, hg.size, fun k hk ho => hblk k hk (fun e => ho ⟨b, rv, h2, e⟩), fun _ h => h, fun _ h => .inl h, hown, fun i bl r e1 e2 => ?_⟩
    by_cases hi : i = b
    · subst hi
      rw [h1] at e1; rw [h2] at e2
      cases e1; cases e2
      exact ⟨blk', rv', List.getElem?_set_self hbH, List.getElem?_set_self hbρ, hv, hv'⟩
    · exact ⟨bl, r, by rw [List.getElem?_set_ne (Ne.symm hi)]; exact e1, by rw [List.getElem?_set_ne (Ne.symm hi)]; exact e2, Nat.le_refl _, fun _ => ⟨rfl, rfl, rfl⟩⟩
  refine ⟨e0, ⟨by simp [hl], fun i bl r e1 e2 => ?_, fun i i' r r' g hne e1 e2 e3 e4 => ?_, fun g hg' hf => ?_, fun k hk => Nat.lt_of_lt_of_le (hs.fs k hk) hg.size, hs.gl.mono (e0.fheap hs) (fun _ h => h)⟩⟩
  · by_cases hi : i = b
    · subst hi
      rw [List.getElem?_set_self hbH] at e1
      rw [List.getElem?_set_self hbρ] at e2
      cases e1; cases e2
      exact hb e0
    · rw [List.getElem?_set_ne (Ne.symm hi)] at e1 e2
      refine (hs.blk i bl r e1 e2).ext hs e0 (fun g hg' => hblk g (OwnG.lt hs ⟨i, r, e2, hg'⟩) (fun e => ?_))
      exact hs.ne b i rv r g (Ne.symm hi) h2 e2 e hg'
  · rcases key i r e1 with ⟨k1, k2⟩ | ⟨rfl, rfl⟩ <;> rcases key i' r' e2 with ⟨k3, k4⟩ | ⟨rfl, rfl⟩
    · exact hs.ne i i' r r' g hne k2 k4 e3 e4
    · rcases hn g e4 with h | h
      · exact hs.ne i _ r rv g hne k2 h2 e3 h
      · have := OwnG.lt hs ⟨i, r, k2, e3⟩; omega
    · rcases hn g e3 with h | h
      · exact hs.ne _ i' rv r' g hne h2 k4 h e4
      · have := OwnG.lt hs ⟨i', r', k4, e4⟩; omega
    · exact hne rfl
  · rcases hown g hg' with h | h
    · exact hs.nf g h hf
    · have := hs.fs g hf; omega
end Go.En
