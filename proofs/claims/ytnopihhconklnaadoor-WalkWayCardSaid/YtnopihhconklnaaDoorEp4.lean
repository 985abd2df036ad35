import Derived.Test.YtnopihhconklnaaDoorEs18
/- Ways and loops. -/
namespace Go.Sp
open Go Go.En
set_option linter.unusedVariables false
set_option linter.unusedSimpArgs false
/-- each one's hop leads to the next. -/
def Ch (does : Int → Hop) : List Int → Prop
  | a :: b :: r => ((does a).kind = 1 ∧ (does a).peer = b) ∧ Ch does (b :: r)
  | _ => True
theorem Ch.tail {does : Int → Hop} {x : Int} {l : List Int} (h : Ch does (x :: l)) : Ch does l := by
  cases l with
  | nil => exact trivial
  | cons y r => exact h.2
theorem Ch.drop {does : Int → Hop} : ∀ {l : List Int} (i : Nat), Ch does l → Ch does (l.drop i)
  | l, 0, h => h
  | [], i + 1, h => trivial
  | x :: l, i + 1, h => Ch.drop i h.tail
theorem Ch.at_ {does : Int → Hop} : ∀ {l : List Int} {i : Nat} {x y : Int}, Ch does l → l[i]? = some x → l[i + 1]? = some y → (does x).kind = 1 ∧ (does x).peer = y
  | a :: b :: r, 0, x, y, h, hx, hy => by simp at hx hy; subst hx; subst hy; exact h.1
  | a :: b :: r, i + 1, x, y, h, hx, hy => Ch.at_ (l := b :: r) (i := i) h.2 (by simpa using hx) (by simpa using hy)
  | [a], 0, x, y, h, hx, hy => by simp at hy
  | [a], i + 1, x, y, h, hx, hy => by simp at hx
  | [], i, x, y, h, hx, hy => by simp at hx
theorem Ch.join {does : Int → Hop} {b : Int} {B : List Int} : ∀ {A : List Int}, Ch does (A ++ [b]) → Ch does (b :: B) → Ch does (A ++ b :: B)
  | [], _, h => h
  | [a], h, h2 => ⟨h.1, h2⟩
  | a :: c :: A, h, h2 => ⟨h.1, Ch.join (A := c :: A) h.2 h2⟩
theorem Ch.pre {does : Int → Hop} : ∀ {A B : List Int}, Ch does (A ++ B) → Ch does A
  | [], _, _ => trivial
  | [a], _, _ => trivial
  | a :: c :: A, B, h => ⟨h.1, Ch.pre (A := c :: A) h.2⟩
structure IsWay (does : Int → Hop) (x : Int) (L : List Int) (h : Hop) : Prop where
  hd : ∃ r, L = x :: r
  ch : Ch does L
  nd : L.dropLast.Nodup
  last : ∃ y, L.getLast? = some y ∧ h = does y ∧ (y ∈ L.dropLast ∨ h.kind ≠ 1)
theorem wayS_is {does : Int → Hop} : ∀ {k : Nat} {l : List Int} {x : Int} {L : List Int} {h : Hop}, WayS does k l x L h → l.Nodup →
    ∃ r, L = l ++ x :: r ∧ Ch does (x :: r) ∧ (l ++ x :: r).dropLast.Nodup ∧ ∃ y, (l ++ x :: r).getLast? = some y ∧ h = does y ∧ (y ∈ (l ++ x :: r).dropLast ∨ h.kind ≠ 1)
  | 0, l, x, L, h, ⟨h1, h2, h3⟩, hl => by
    refine ⟨[], h2, trivial, by simpa using hl, x, by simp, h3, ?_⟩
    rcases h1 with h1 | h1
    · exact .inl (by simpa using h1)
    · exact .inr (h3 ▸ h1)
  | k + 1, l, x, L, h, ⟨h1, h2, h3⟩, hl => by
    have hx : x ∉ l := by simpa using h1
    obtain ⟨r, e1, e2, e3, e4⟩ := wayS_is h3 (by
      rw [List.nodup_append]
      refine ⟨hl, by simp, fun z hz w hw => ?_⟩
      simp at hw
      subst hw
      exact fun e => hx (e ▸ hz))
    refine ⟨(does x).peer :: r, by simpa using e1, ⟨⟨h2, rfl⟩, e2⟩, by simpa using e3, by simpa using e4⟩
theorem is_wayS {does : Int → Hop} : ∀ {r : List Int} {l : List Int} {x : Int} {h : Hop}, Ch does (x :: r) → (l ++ x :: r).dropLast.Nodup → (∃ y, (l ++ x :: r).getLast? = some y ∧ h = does y ∧ (y ∈ (l ++ x :: r).dropLast ∨ h.kind ≠ 1)) → WayS does r.length l x (l ++ x :: r) h
  | [], l, x, h, h1, h2, ⟨y, h3, h4, h5⟩ => by
    simp at h3 h5
    subst h3
    refine ⟨?_, rfl, h4⟩
    rcases h5 with h5 | h5
    · exact .inl (by simpa using h5)
    · exact .inr (h4 ▸ h5)
  | p :: r, l, x, h, h1, h2, h3 => by
    have hx : x ∉ l := by
      intro hx
      rw [List.dropLast_append_of_ne_nil (by simp), List.nodup_append] at h2
      refine h2.2.2 x hx x ?_ rfl
      simp
    refine ⟨by simpa using hx, h1.1.1, ?_⟩
    have := is_wayS (r := r) (l := l ++ [x]) (x := p) (h := h) h1.2 (by simpa using h2) (by simpa using h3)
    rw [h1.1.2]
    simpa using this
theorem WayS.one {does : Int → Hop} : ∀ {k k' : Nat} {l : List Int} {x : Int} {L L' : List Int} {h h' : Hop}, WayS does k l x L h → WayS does k' l x L' h' → L = L' ∧ h = h'
  | 0, 0, l, x, L, L', h, h', ⟨_, a, b⟩, ⟨_, c, d⟩ => ⟨a.trans c.symm, b.trans d.symm⟩
  | k + 1, k' + 1, l, x, L, L', h, h', ⟨_, _, a⟩, ⟨_, _, b⟩ => WayS.one a b
  | 0, k' + 1, l, x, L, L', h, h', ⟨a, _, _⟩, ⟨b, c, _⟩ => by
    rcases a with a | a
    · rw [a] at b; cases b
    · exact absurd c a
  | k + 1, 0, l, x, L, L', h, h', ⟨b, c, _⟩, ⟨a, _, _⟩ => by
    rcases a with a | a
    · rw [a] at b; cases b
    · exact absurd c a
theorem IsWay.one {does : Int → Hop} {x : Int} {L L' : List Int} {h h' : Hop} (w : IsWay does x L h) (w' : IsWay does x L' h') : L = L' ∧ h = h' := by
  obtain ⟨⟨r, rfl⟩, a, b, c⟩ := w
  obtain ⟨⟨r', rfl⟩, a', b', c'⟩ := w'
  exact WayS.one (is_wayS (l := []) a b c) (is_wayS (l := []) a' b' c')
/-- what the document answers where it answers. -/
theorem walkR_is {n : Net} {x : Int} {six : Bool} {a : Addr} (hw : n.wf) (ha : a.wf) (h : (walkR n x six a).why = 0) :
    (netOkR n = true ∧ rightAddrR six a = true) ∧ (0 ≤ x ∧ x ≤ 1048576) ∧ ∃ h, IsWay (fun t => netDoesR n t six a) x (walkR n x six a).way h ∧ (walkR n x six a).ver = verOf (walkR n x six a).way h ∧ 0 ≤ h.kind ∧ h.kind < 4 := by
  have hs := walk_says (x := x) (six := six) hw ha
  have h0 : startWhy n x six a = 0 := hs.1 ▸ h
  obtain ⟨h', ⟨⟨k, _, hk⟩, h2, h3⟩, h4, _⟩ := hs.2.2 h0
  have c : (netOkR n = true ∧ rightAddrR six a = true) ∧ (0 ≤ x ∧ x ≤ 1048576) := by
    unfold startWhy at h0
    rw [netOk_eq hw, rightAddr_eq ha.l0] at h0
    split at h0
    · split at h0
      · exact ⟨by assumption, by assumption⟩
      · cases h0
    · cases h0
  refine ⟨c.1, c.2, h', ?_, h4, h2, h3⟩
  have hD : (fun t => netDoes n t six a) = fun t => netDoesR n t six a := funext fun t => netDoes_eq c.1.1 hw ha c.1.2
  rw [hD] at hk
  obtain ⟨r, e1, e2, e3, e4⟩ := wayS_is hk List.nodup_nil
  rw [e1]
  exact ⟨⟨r, rfl⟩, e2, e3, e4⟩
theorem walkR_none {n : Net} {x : Int} {six : Bool} {a : Addr} (h : (walkR n x six a).why ≠ 0) : (walkR n x six a).way = [] ∧ (walkR n x six a).ver = ⟨0, 0⟩ := by
  unfold walkR at h ⊢
  split
  · rename_i c
    rw [if_pos c] at h
    split
    · rename_i c2
      rw [if_pos c2] at h
      exact absurd rfl h
    · exact ⟨rfl, rfl⟩
  · exact ⟨rfl, rfl⟩
theorem walkR_ok {n : Net} {x : Int} {six : Bool} {a : Addr} (h1 : netOkR n = true ∧ rightAddrR six a = true) (h2 : 0 ≤ x ∧ x ≤ 1048576) : (walkR n x six a).why = 0 := by
  unfold walkR
  rw [if_pos h1, if_pos h2]
/-- a list that is a way is the way. -/
theorem walkR_of {n : Net} {x : Int} {six : Bool} {a : Addr} (hw : n.wf) (ha : a.wf) (h1 : netOkR n = true ∧ rightAddrR six a = true) (h2 : 0 ≤ x ∧ x ≤ 1048576) {L : List Int} {h : Hop} (w : IsWay (fun t => netDoesR n t six a) x L h) :
    (walkR n x six a).why = 0 ∧ (walkR n x six a).way = L ∧ (walkR n x six a).ver = verOf L h := by
  have h0 := walkR_ok (x := x) (six := six) (a := a) h1 h2
  obtain ⟨_, _, h', hi, hv, _⟩ := walkR_is hw ha h0
  obtain ⟨e1, e2⟩ := hi.one w
  subst e2
  refine ⟨h0, e1, ?_⟩
  rw [hv, e1]
theorem peerR_mem {t p : Int} : ∀ {l : List Link}, peerR t l = some p → ∃ x ∈ l, x.peer = p
  | x :: l, h => by
    unfold peerR at h
    split at h
    · cases h; exact ⟨x, List.mem_cons_self .., rfl⟩
    · obtain ⟨y, hy, e⟩ := peerR_mem h; exact ⟨y, List.mem_cons_of_mem _ hy, e⟩
  | [], h => by cases h
theorem findR_in {t : Int} : ∀ {l : List Router} {r : Router}, findR t l = some r → r ∈ l
  | x :: l, r, h => by
    unfold findR at h
    split at h
    · cases h; exact List.mem_cons_self ..
    · exact List.mem_cons_of_mem _ (findR_in h)
  | [], r, h => by cases h
theorem peer_range {n : Net} {t : Int} {six : Bool} {a : Addr} (hn : netOkR n = true) (h : (netDoesR n t six a).kind = 1) : 0 ≤ (netDoesR n t six a).peer ∧ (netDoesR n t six a).peer ≤ 1048576 := by
  unfold netDoesR at h ⊢
  cases hf : findR t n.routers with
  | none => rw [hf] at h; cases h
  | some r =>
    rw [hf] at h
    simp only at h ⊢
    have hro := (netOkR_says hn).1 r (findR_in hf)
    simp only [routerOkR, linksOk, Bool.and_eq_true] at hro
    have hlk := (rowOk_pair (fun x y z h1 h2 => by simp only [decide_eq_true_eq] at *; omega) hro.1.2.2).1
    have key : ∀ (y : Route × Bool) (g : Int → Option Int), (hopOf y g).kind = 1 → g y.1.act.iface = some (hopOf y g).peer := by
      intro y g
      unfold hopOf
      cases hz2 : y.2 with
      | false => intro h; cases h
      | true =>
        simp only [if_true]
        split
        · intro h; cases h
        · split
          · intro h; cases h
          · cases hg : g y.1.act.iface with
            | some p => intro _; rfl
            | none => intro h; cases h
    have h3 := key _ _ h
    obtain ⟨x, hx, hp⟩ := peerR_mem h3
    have := hlk x hx
    simp only [rightLink, rightId, Bool.and_eq_true, decide_eq_true_eq] at this
    have h4 := this.2
    rw [hp] at h4
    exact h4
theorem IsWay.range {n : Net} {x : Int} {six : Bool} {a : Addr} {L : List Int} {h : Hop} (w : IsWay (fun t => netDoesR n t six a) x L h) (hn : netOkR n = true) (hx : 0 ≤ x ∧ x ≤ 1048576) : ∀ y ∈ L, 0 ≤ y ∧ y ≤ 1048576 := by
  intro y hy
  obtain ⟨i, hi⟩ := List.mem_iff_getElem?.1 hy
  cases i with
  | zero =>
    obtain ⟨r, rfl⟩ := w.hd
    simp at hi
    subst hi
    exact hx
  | succ i =>
    have hlt := (List.getElem?_eq_some_iff.1 hi).1
    obtain ⟨z, hz⟩ : ∃ z, L[i]? = some z := ⟨L[i], List.getElem?_eq_getElem (by omega)⟩
    obtain ⟨h1, h2⟩ := w.ch.at_ hz hi
    rw [← h2]
    exact peer_range hn h1
theorem getLast_at {L : List Int} {y : Int} (h : L.getLast? = some y) : L[L.length - 1]? = some y := by rw [← h, List.getLast?_eq_getElem?]
theorem dropLast_at {L : List Int} {i : Nat} (h : i + 1 < L.length) : L.dropLast[i]? = L[i]? := by
  rw [List.dropLast_eq_take, List.getElem?_take, if_pos (by omega)]
theorem IsWay.nd_at {does : Int → Hop} {x : Int} {L : List Int} {h : Hop} (w : IsWay does x L h) {i j : Nat} {y : Int} (hi : L[i]? = some y) (hj : L[j]? = some y) (hij : i < j) : j + 1 = L.length := by
  have hlt := (List.getElem?_eq_some_iff.1 hj).1
  rcases Nat.lt_or_ge (j + 1) L.length with c | c
  · have e1 := dropLast_at (L := L) (i := i) (by omega)
    have e2 := dropLast_at (L := L) (i := j) c
    rw [hi] at e1
    rw [hj] at e2
    have := (List.getElem?_inj (List.getElem?_eq_some_iff.1 e1).1 w.nd).1 (e1.trans e2.symm)
    omega
  · omega
/-- on a way that does not go round, the rest of it is the way from each of its routers. -/
theorem IsWay.rest {does : Int → Hop} {x : Int} {L : List Int} {h : Hop} (w : IsWay does x L h) (hk : h.kind ≠ 1) {i : Nat} {y : Int} (hi : L[i]? = some y) : IsWay does y (L.drop i) h ∧ verOf (L.drop i) h = verOf L h := by
  have hlt := (List.getElem?_eq_some_iff.1 hi).1
  obtain ⟨z, h1, h2, h3⟩ := w.last
  have hl : (L.drop i).getLast? = some z := by rw [List.getLast?_drop, if_neg (by omega)]; exact h1
  refine ⟨⟨⟨L.drop (i + 1), ?_⟩, w.ch.drop i, ?_, z, hl, h2, .inr hk⟩, ?_⟩
  · rw [List.drop_eq_getElem_cons hlt]
    have := (List.getElem?_eq_some_iff.1 hi).2
    rw [this]
  · have : (L.drop i).dropLast = L.dropLast.drop i := by
      rw [List.dropLast_eq_take, List.dropLast_eq_take, List.drop_take, List.length_drop]
      congr 1
      omega
    rw [this]
    exact w.nd.sublist (List.drop_sublist _ _)
  · simp only [verOf, hl, h1]
/-- a way that goes round stays within itself. -/
theorem IsWay.stays {does : Int → Hop} {x : Int} {L : List Int} {h : Hop} (w : IsWay does x L h) (hk : h.kind = 1) {y : Int} (hy : y ∈ L) : (does y).kind = 1 ∧ (does y).peer ∈ L := by
  obtain ⟨z, h1, h2, h3⟩ := w.last
  have h3 : z ∈ L.dropLast := h3.resolve_right (fun c => c hk)
  have key : ∀ y ∈ L.dropLast, (does y).kind = 1 ∧ (does y).peer ∈ L := by
    intro y hy
    obtain ⟨i, hi⟩ := List.mem_iff_getElem?.1 hy
    have hlt := (List.getElem?_eq_some_iff.1 hi).1
    rw [List.length_dropLast] at hlt
    rw [dropLast_at (by omega)] at hi
    obtain ⟨q, hq⟩ : ∃ q, L[i + 1]? = some q := ⟨L[i + 1], List.getElem?_eq_getElem (by omega)⟩
    obtain ⟨a1, a2⟩ := w.ch.at_ hi hq
    exact ⟨a1, a2 ▸ List.mem_of_getElem? hq⟩
  obtain ⟨i, hi⟩ := List.mem_iff_getElem?.1 hy
  have hlt := (List.getElem?_eq_some_iff.1 hi).1
  rcases Nat.lt_or_ge (i + 1) L.length with c | c
  · rw [← dropLast_at c] at hi
    exact key y (List.mem_of_getElem? hi)
  · have e : i = L.length - 1 := by omega
    rw [e, getLast_at h1] at hi
    cases hi
    exact key _ h3
theorem IsWay.within {does : Int → Hop} {x y : Int} {L M : List Int} {h h' : Hop} (w : IsWay does x L h) (hk : h.kind = 1) (hy : y ∈ L) (w' : IsWay does y M h') : h'.kind = 1 := by
  have key : ∀ (i : Nat) (q : Int), M[i]? = some q → q ∈ L := by
    intro i
    induction i with
    | zero =>
      intro q hq
      obtain ⟨r, rfl⟩ := w'.hd
      simp at hq
      exact hq ▸ hy
    | succ i ih =>
      intro q hq
      have hlt := (List.getElem?_eq_some_iff.1 hq).1
      obtain ⟨z, hz⟩ : ∃ z, M[i]? = some z := ⟨M[i], List.getElem?_eq_getElem (by omega)⟩
      obtain ⟨h1, h2⟩ := w'.ch.at_ hz hq
      exact h2 ▸ (w.stays hk (ih z hz)).2
  obtain ⟨z, h1, h2, h3⟩ := w'.last
  rw [h2]
  exact (w.stays hk (key _ _ (getLast_at h1))).1
theorem verOf_four {L : List Int} {h : Hop} (h0 : 0 ≤ h.kind ∧ h.kind < 4) : (verOf L h).kind = 4 ↔ h.kind = 1 := by
  unfold verOf
  simp only
  split
  · constructor
    · intro e; cases e
    · intro e; omega
  · split
    · constructor
      · intro; assumption
      · intro; rfl
    · split
      · constructor
        · intro e; cases e
        · intro e; omega
      · constructor
        · intro e; cases e
        · intro e; omega
end Go.Sp
