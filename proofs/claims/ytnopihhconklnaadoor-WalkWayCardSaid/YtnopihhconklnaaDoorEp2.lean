import Derived.Test.YtnopihhconklnaaDoorEp1
import Derived.Test.YtnopihhconklnaaDoorEs16
/- The program's hops are the document's. -/
namespace Go.Sp
open Go Go.En
set_option linter.unusedVariables false
set_option linter.unusedSimpArgs false
theorem lessP_iff (p q : Prefix) : lessP p q = true ↔ kindP p < kindP q ∨ kindP p = kindP q ∧ (p.addr.hi < q.addr.hi ∨ p.addr.hi = q.addr.hi ∧ (p.addr.lo < q.addr.lo ∨ p.addr.lo = q.addr.lo ∧ p.len < q.len)) := by
  unfold lessP cmpP cmpA cmpI
  simp only [decide_eq_true_eq]
  repeat' split
  all_goals omega
theorem rowOk_pair {α : Type} {p : α → Bool} {r : α → α → Bool} (ht : ∀ x y z, r x y = true → r y z = true → r x z = true) : ∀ {l : List α} {a : Option α}, rowOk p r a l = true → (∀ x ∈ l, p x = true) ∧ l.Pairwise (fun x y => r x y = true) ∧ ∀ y, a = some y → ∀ x ∈ l, r y x = true
  | [], a, _ => ⟨fun x h => (by cases h), List.Pairwise.nil, fun y _ x h => (by cases h)⟩
  | x :: l, a, h => by
    simp only [rowOk, Bool.and_eq_true] at h
    obtain ⟨⟨h1, h2⟩, h3⟩ := h
    obtain ⟨i1, i2, i3⟩ := rowOk_pair ht h3
    refine ⟨fun y hy => ?_, List.pairwise_cons.2 ⟨fun y hy => i3 x rfl y hy, i2⟩, fun y hy z hz => ?_⟩
    · rcases List.mem_cons.1 hy with rfl | hy
      · exact h1
      · exact i1 y hy
    · subst hy
      simp only at h2
      rcases List.mem_cons.1 hz with rfl | hz
      · exact h2
      · exact ht y x z h2 (i3 x rfl z hz)
theorem bsGo_spec (p : Nat → Bool) : ∀ (n i j : Nat), j - i ≤ n → i ≤ j → (∀ k m, i ≤ k → k ≤ m → m < j → p m = true → p k = true) → i ≤ bsGo p i j ∧ bsGo p i j ≤ j ∧ (∀ k, i ≤ k → k < bsGo p i j → p k = true) ∧ ∀ k, bsGo p i j ≤ k → k < j → p k = false
  | 0, i, j, hn, hij, hm => by
    have e : i = j := by omega
    subst e
    rw [bsGo_end (by omega)]
    exact ⟨Nat.le_refl _, Nat.le_refl _, fun k h1 h2 => by omega, fun k h1 h2 => by omega⟩
  | n + 1, i, j, hn, hij, hm => by
    by_cases hlt : i < j
    · cases hp : p ((i + j) / 2) with
      | true =>
        rw [bsGo_lt hlt hp]
        obtain ⟨h1, h2, h3, h4⟩ := bsGo_spec p n ((i + j) / 2 + 1) j (by omega) (by omega) (fun k m a b c d => hm k m (by omega) b c d)
        refine ⟨by omega, h2, fun k a b => ?_, h4⟩
        by_cases c : (i + j) / 2 + 1 ≤ k
        · exact h3 k c b
        · exact hm k ((i + j) / 2) a (by omega) (by omega) hp
      | false =>
        rw [bsGo_ge hlt hp]
        obtain ⟨h1, h2, h3, h4⟩ := bsGo_spec p n i ((i + j) / 2) (by omega) (by omega) (fun k m a b c d => hm k m a b (by omega) d)
        refine ⟨h1, by omega, h3, fun k a b => ?_⟩
        by_cases c : k < (i + j) / 2
        · exact h4 k a c
        · cases hk : p k with
          | false => rfl
          | true =>
            have := hm ((i + j) / 2) k (by omega) (by omega) b hk
            rw [hp] at this
            cases this
    · have e : i = j := by omega
      subst e
      rw [bsGo_end (by omega)]
      exact ⟨Nat.le_refl _, Nat.le_refl _, fun k h1 h2 => by omega, fun k h1 h2 => by omega⟩
theorem bs_find {α : Type} {f : α → Int} {l : List α} {t : Int} (hs : l.Pairwise (fun x y => f x < f y)) : l.find? (fun x => f x == t) = if bsIs f l t = true then l[bsI f l t]? else none := by
  have hpw := List.pairwise_iff_getElem.1 hs
  have hmono : ∀ k m, 0 ≤ k → k ≤ m → m < l.length → lessAt f l t m = true → lessAt f l t k = true := by
    intro k m _ hkm hm h
    rw [lessAt_of hm] at h
    rw [lessAt_of (by omega)]
    simp only [decide_eq_true_eq] at h ⊢
    rcases Nat.lt_or_eq_of_le hkm with hlt | he
    · have := hpw k m (by omega) hm hlt
      omega
    · subst he; exact h
  obtain ⟨_, h2, h3, h4⟩ := bsGo_spec (lessAt f l t) l.length 0 l.length (by omega) (by omega) hmono
  have hb : bsI f l t = bsGo (lessAt f l t) 0 l.length := rfl
  rw [← hb] at h2 h3 h4
  by_cases hi : bsIs f l t = true
  · rw [if_pos hi]
    obtain ⟨hlt, he⟩ := bsIs_lt hi
    rw [List.getElem?_eq_getElem hlt, List.find?_eq_some_iff_getElem]
    refine ⟨by simpa using he, bsI f l t, hlt, rfl, fun j hj => ?_⟩
    have := hpw j (bsI f l t) (by omega) hlt hj
    simp only [Bool.not_eq_true', beq_eq_false_iff_ne]
    omega
  · rw [if_neg hi, List.find?_eq_none]
    intro x hx
    obtain ⟨k, hk, rfl⟩ := List.mem_iff_getElem.1 hx
    simp only [beq_iff_eq]
    intro e
    apply hi
    have hk' : ¬ k < bsI f l t := fun hlt => by
      have := h3 k (by omega) hlt
      rw [lessAt_of hk] at this
      simp at this
      omega
    have hlt : bsI f l t < l.length := by omega
    have h5 := h4 (bsI f l t) (Nat.le_refl _) hlt
    rw [lessAt_of hlt] at h5
    simp at h5
    have : bsI f l t = k := by
      rcases Nat.lt_or_eq_of_le (Nat.not_lt.1 hk') with h6 | h6
      · have := hpw (bsI f l t) k hlt hk h6
        omega
      · exact h6
    unfold bsIs
    rw [List.getElem?_eq_getElem hlt]
    simp only [beq_iff_eq]
    have e2 : l[bsI f l t] = l[k] := by congr 1
    rw [e2]
    exact e
theorem findR_find {t : Int} : ∀ l : List Router, findR t l = l.find? (fun x => x.id == t)
  | [] => rfl
  | x :: l => by
    unfold findR
    rw [List.find?_cons]
    by_cases e : x.id = t
    · simp [e]
    · have : (x.id == t) = false := by simpa using e
      simp only [if_neg e, this]
      exact findR_find l
theorem peerR_find {t : Int} : ∀ l : List Link, peerR t l = (l.find? (fun x => x.iface == t)).map Link.peer
  | [] => rfl
  | x :: l => by
    unfold peerR
    rw [List.find?_cons]
    by_cases e : x.iface = t
    · simp [e]
    · have : (x.iface == t) = false := by simpa using e
      simp only [if_neg e, this]
      exact peerR_find l
theorem peer_eq {l : List Link} {t : Int} (h : linksOk l = true) : peerP l t = match peerR t l with | some p => (p, 0) | none => (0, 3) := by
  have hs : l.Pairwise (fun x y => x.iface < y.iface) := by
    simp only [linksOk, Bool.and_eq_true] at h
    have := (rowOk_pair (fun x y z h1 h2 => by simp only [decide_eq_true_eq] at *; omega) h.2).2.1
    simpa using this
  unfold peerP
  rw [if_pos h, peerR_find, bs_find hs]
  by_cases c : bsIs Link.iface l t = true
  · obtain ⟨hlt, _⟩ := bsIs_lt c
    rw [if_pos c, if_pos c, List.getElem?_eq_getElem hlt]
    rfl
  · rw [if_neg c, if_neg c]
    rfl
/-- the values of a trie, as the routes tell. -/
theorem growS_join (six : Bool) (a : Addr) (S : List Bool → Option (Option Route)) (i : Nat) (bs : List Bool) : (growS six a S i bs).join = (S bs).join := by
  unfold growS
  cases S bs with
  | some v => rfl
  | none => simp only; split <;> rfl
theorem stepS_join (six : Bool) (S : List Bool → Option (Option Route)) (r : Route) (bs : List Bool) : (stepS six S r bs).join = if r.pre.six = six ∧ bs = path six r.pre.addr r.pre.len.toNat then some r else (S bs).join := by
  unfold stepS
  by_cases c : r.pre.six = six
  · rw [if_pos c]
    unfold putS
    by_cases c2 : bs = path six r.pre.addr r.pre.len.toNat
    · rw [if_pos c2, if_pos ⟨c, c2⟩]; rfl
    · rw [if_neg c2, if_neg (fun h => c2 h.2), growS_join]
  · rw [if_neg c, if_neg (fun h => c h.1)]
theorem fold_join (six : Bool) (bs : List Bool) : ∀ (l : List Route) (S : List Bool → Option (Option Route)),
    (∀ r, (l.foldl (stepS six) S bs).join = some r → (r ∈ l ∧ r.pre.six = six ∧ bs = path six r.pre.addr r.pre.len.toNat) ∨ (S bs).join = some r) ∧
    ((l.foldl (stepS six) S bs).join = none → (S bs).join = none ∧ ∀ r ∈ l, ¬ (r.pre.six = six ∧ bs = path six r.pre.addr r.pre.len.toNat))
  | [], S => ⟨fun r h => .inr h, fun h => ⟨h, fun r hr => by cases hr⟩⟩
  | x :: l, S => by
    obtain ⟨i1, i2⟩ := fold_join six bs l (stepS six S x)
    simp only [List.foldl_cons]
    refine ⟨fun r h => ?_, fun h => ?_⟩
    · rcases i1 r h with ⟨k1, k2⟩ | k
      · exact .inl ⟨List.mem_cons_of_mem _ k1, k2⟩
      · rw [stepS_join] at k
        split at k
        · rename_i c
          cases k
          exact .inl ⟨List.mem_cons_self, c⟩
        · exact .inr k
    · obtain ⟨k1, k2⟩ := i2 h
      rw [stepS_join] at k1
      split at k1
      · cases k1
      · rename_i c
        refine ⟨k1, fun r hr => ?_⟩
        rcases List.mem_cons.1 hr with rfl | hr
        · exact c
        · exact k2 r hr
theorem ofS_some {six : Bool} {l : List Route} {bs : List Bool} {r : Route} (h : (ofS six l bs).join = some r) : r ∈ l ∧ r.pre.six = six ∧ bs = path six r.pre.addr r.pre.len.toNat := by
  rcases (fold_join six bs l S0).1 r h with h | h
  · exact h
  · unfold S0 at h
    split at h <;> cases h
theorem ofS_none {six : Bool} {l : List Route} {bs : List Bool} (h : (ofS six l bs).join = none) : ∀ r ∈ l, ¬ (r.pre.six = six ∧ bs = path six r.pre.addr r.pre.len.toNat) := ((fold_join six bs l S0).2 h).2
theorem lastN_some {six : Bool} {a : Addr} {S : List Bool → Option (Option Route)} {r : Route} : ∀ {n : Nat}, lastN six a S n = some r → ∃ i, i < n ∧ (S (path six a i)).join = some r ∧ ∀ j, i < j → j < n → (S (path six a j)).join = none
  | 0, h => by simp [lastN, alongN] at h
  | n + 1, h => by
    rw [lastN_succ] at h
    cases hj : (S (path six a n)).join with
    | some v => rw [hj] at h; cases h; exact ⟨n, by omega, hj, fun j h1 h2 => by omega⟩
    | none =>
      rw [hj] at h
      obtain ⟨i, h1, h2, h3⟩ := lastN_some h
      refine ⟨i, by omega, h2, fun j k1 k2 => ?_⟩
      by_cases e : j = n
      · subst e; exact hj
      · exact h3 j k1 (by omega)
theorem lastN_none {six : Bool} {a : Addr} {S : List Bool → Option (Option Route)} : ∀ {n : Nat}, lastN six a S n = none → ∀ i, i < n → (S (path six a i)).join = none
  | 0, _, i, hi => by omega
  | n + 1, h, i, hi => by
    rw [lastN_succ] at h
    cases hj : (S (path six a n)).join with
    | some v => rw [hj] at h; cases h
    | none =>
      rw [hj] at h
      by_cases e : i = n
      · subst e; exact hj
      · exact lastN_none h i (by omega)
theorem path_get {six : Bool} {a b : Addr} {n : Nat} (h : path six a n = path six b n) : ∀ i : Nat, i < n → bitP six a i = bitP six b i := by
  intro i hi
  have := congrArg (fun l => l[i]?) h
  simp only [path, List.getElem?_map, List.getElem?_range hi, Option.map_some, Option.some.injEq] at this
  rcases bitP_01 six a i with e | e <;> rcases bitP_01 six b i with e' | e' <;> rw [e, e'] at this ⊢ <;> simp at this
theorem path_of {six : Bool} {a b : Addr} {n : Nat} (h : ∀ i : Nat, i < n → bitP six a i = bitP six b i) : path six a n = path six b n := by
  unfold path
  apply List.map_congr_left
  intro i hi
  rw [List.mem_range] at hi
  rw [h i hi]
theorem pfx_path {six : Bool} {a b : Addr} (ha : a.wf) (hb : b.wf) {n : Nat} (hn : n ≤ (wide six).toNat) : pfxEq n (bitsA six a) (bitsA six b) = true ↔ path six a n = path six b n := by
  have e : ∀ {c : Addr}, c.wf → (bitsA six c).take n = (List.range n).map fun i : Nat => bitP six c i := by
    intro c hc
    apply List.ext_getElem?
    intro i
    rw [List.getElem?_take]
    by_cases hi : i < n
    · rw [if_pos hi, bitsA_get hc (by omega), List.getElem?_map, List.getElem?_range hi]
      rfl
    · rw [if_neg hi, List.getElem?_eq_none (by simp; omega)]
  unfold pfxEq
  rw [e ha, e hb, beq_iff_eq]
  constructor
  · intro h
    refine path_of (fun i hi => ?_)
    have := congrArg (fun l => l[i]?) h
    simpa [List.getElem?_map, List.getElem?_range hi] using this
  · intro h
    apply List.map_congr_left
    intro i hi
    exact path_get h i (List.mem_range.1 hi)
theorem b2i_inj {x y : Bool} (h : b2i x = b2i y) : x = y := by cases x <;> cases y <;> simp [b2i] at h <;> rfl
theorem bit_high {six : Bool} {a : Addr} (h : a.wf) (hr : rightAddrR six a = true) {j : Nat} (hj : wide six ≤ (j : Int)) : a.bit j = false := by
  obtain ⟨h0, h1, l0, l1⟩ := h
  unfold Addr.bit
  have hz : ∀ x k : Nat, x < 2 ^ k → ∀ j, k ≤ j → x.testBit j = false := fun x k hx j hj => Nat.testBit_lt_two_pow (Nat.lt_of_lt_of_le hx (Nat.pow_le_pow_right (by decide) hj))
  cases six with
  | true =>
    simp only [wide, if_true] at hj
    rw [if_neg (by omega)]
    exact hz _ 64 (by omega) _ (by omega)
  | false =>
    simp only [wide] at hj
    simp [rightAddrR] at hr
    obtain ⟨e1, e2⟩ := hr
    split
    · exact hz _ 32 (by omega) _ (by simp at hj; omega)
    · rw [e1]; simp
theorem addr_eq {six : Bool} {p q : Addr} (hp : p.wf) (hq : q.wf) (rp : rightAddrR six p = true) (rq : rightAddrR six q = true) {n : Int} (h0 : 0 ≤ n) (h1 : n ≤ wide six) (he : path six p n.toNat = path six q n.toNat) (zp : p.zeroAt six n) (zq : q.zeroAt six n) : p = q := by
  obtain ⟨w1, w2⟩ := wide_le six
  have hbit : ∀ j, p.bit j = q.bit j := by
    intro j
    by_cases c : wide six ≤ (j : Int)
    · rw [bit_high hp rp c, bit_high hq rq c]
    · by_cases c2 : (j : Int) < wide six - n
      · rw [zp j c2, zq j c2]
      · have hi : (wide six).toNat - 1 - j < n.toNat := by omega
        have := path_get he _ hi
        rw [bitP_bit hp (by omega) (by omega), bitP_bit hq (by omega) (by omega)] at this
        have e : (wide six - 1 - (((wide six).toNat - 1 - j : Nat) : Int)).toNat = j := by omega
        rw [e] at this
        exact b2i_inj this
  obtain ⟨ph, pl⟩ := p
  obtain ⟨qh, ql⟩ := q
  obtain ⟨a1, a2, a3, a4⟩ := hp
  obtain ⟨b1, b2, b3, b4⟩ := hq
  simp only at a1 a2 a3 a4 b1 b2 b3 b4
  have hz : ∀ x k : Nat, x < 2 ^ k → ∀ j, k ≤ j → x.testBit j = false := fun x k hx j hj => Nat.testBit_lt_two_pow (Nat.lt_of_lt_of_le hx (Nat.pow_le_pow_right (by decide) hj))
  have e1 : pl.toNat = ql.toNat := by
    apply Nat.eq_of_testBit_eq
    intro j
    by_cases c : j < 64
    · have := hbit j
      simpa only [Addr.bit, if_pos c] using this
    · rw [hz _ 64 (by omega) j (by omega), hz _ 64 (by omega) j (by omega)]
  have e2 : ph.toNat = qh.toNat := by
    apply Nat.eq_of_testBit_eq
    intro j
    have := hbit (j + 64)
    simpa only [Addr.bit, if_neg (show ¬ j + 64 < 64 by omega), Nat.add_sub_cancel] using this
  have : ph = qh := by omega
  have : pl = ql := by omega
  subst_vars
  rfl
/-- what a right prefix says. -/
theorem prefOkR_says {p : Prefix} (hw : p.addr.wf) (h : prefOkR p = true) : 0 ≤ p.len ∧ p.len ≤ wide p.six ∧ rightAddrR p.six p.addr = true ∧ p.addr.zeroAt p.six p.len := by
  simp only [prefOkR, Bool.and_eq_true, Bool.not_eq_true', Bool.or_eq_false_iff, decide_eq_false_iff_not] at h
  obtain ⟨⟨⟨h1, h2⟩, h3⟩, h4⟩ := h
  have h1' : 0 ≤ p.len := by omega
  have h2' : p.len ≤ wide p.six := by omega
  exact ⟨h1', h2', by simpa using h3, (zeroFrom_iff hw h1' h2').1 h4⟩
theorem routes_says {l : List Route} (h : routesOkR l = true) : (∀ r ∈ l, rightRouteR r = true) ∧ l.Pairwise (fun x y => lessP x.pre y.pre = true) := by
  simp only [routesOkR, Bool.and_eq_true] at h
  have := rowOk_pair (fun x y z h1 h2 => by rw [lessP_iff] at *; omega) h.2
  exact ⟨this.1, this.2.1⟩
theorem best_says (six : Bool) (a : Addr) : ∀ (l : List Route) (b0 : Route), let b := l.foldl (better six a) b0; (b = b0 ∨ (b ∈ l ∧ hasR b.pre six a = true)) ∧ b0.pre.len ≤ b.pre.len ∧ ∀ r ∈ l, hasR r.pre six a = true → r.pre.len ≤ b.pre.len
  | [], b0 => ⟨.inl rfl, Int.le_refl _, fun r hr => by cases hr⟩
  | x :: l, b0 => by
    obtain ⟨h1, h2, h3⟩ := best_says six a l (better six a b0 x)
    simp only [List.foldl_cons]
    have hb : (better six a b0 x = b0 ∨ (better six a b0 x = x ∧ hasR x.pre six a = true)) ∧ b0.pre.len ≤ (better six a b0 x).pre.len ∧ (hasR x.pre six a = true → x.pre.len ≤ (better six a b0 x).pre.len) := by
      unfold better
      split
      · rename_i c; exact ⟨.inr ⟨rfl, c.2⟩, by omega, fun _ => by omega⟩
      · rename_i c
        refine ⟨.inl rfl, by omega, fun hx => ?_⟩
        by_cases c2 : b0.pre.len < x.pre.len
        · exact absurd ⟨c2, hx⟩ c
        · omega
    obtain ⟨k1, k2, k3⟩ := hb
    refine ⟨?_, by omega, fun r hr hh => ?_⟩
    · rcases h1 with h1 | ⟨h1, h1'⟩
      · rw [h1]
        rcases k1 with k1 | ⟨k1, k1'⟩
        · exact .inl k1
        · exact .inr ⟨by rw [k1]; exact List.mem_cons_self, by rw [k1]; exact k1'⟩
      · exact .inr ⟨List.mem_cons_of_mem _ h1, h1'⟩
    · rcases List.mem_cons.1 hr with rfl | hr
      · have := k3 hh; omega
      · exact h3 r hr hh
theorem hasR_iff {p : Prefix} {six : Bool} {a : Addr} (hp : p.addr.wf) (ha : a.wf) (ra : rightAddrR six a = true) (hok : prefOkR p = true) : hasR p six a = true ↔ p.six = six ∧ path six p.addr p.len.toNat = path six a p.len.toNat := by
  obtain ⟨h0, h1, _, _⟩ := prefOkR_says hp hok
  simp only [hasR, hok, ra, Bool.true_and, Bool.and_eq_true, Bool.and_true, beq_iff_eq]
  constructor
  · rintro ⟨e, h⟩
    subst e
    exact ⟨rfl, (pfx_path hp ha (by omega)).1 h⟩
  · rintro ⟨e, h⟩
    subst e
    exact ⟨rfl, (pfx_path hp ha (by omega)).2 h⟩
theorem best_eq {six : Bool} {a : Addr} {l : List Route} (h : routesOkR l = true) (hl : ∀ r ∈ l, r.pre.addr.wf) (ha : a.wf) (ra : rightAddrR six a = true) : bestOut six a l = match longest six a (ofS six l) with | some r => (r, true) | none => (noRoute, false) := by
  obtain ⟨w1, w2⟩ := wide_le six
  obtain ⟨hok, hpw⟩ := routes_says h
  have hpre : ∀ r ∈ l, prefOkR r.pre = true := fun r hr => by
    have := hok r hr
    simp only [rightRouteR, Bool.and_eq_true] at this
    exact this.1
  have hcov : ∀ r ∈ l, (hasR r.pre six a = true ↔ r.pre.six = six ∧ path six r.pre.addr r.pre.len.toNat = path six a r.pre.len.toNat) := fun r hr => hasR_iff (hl r hr) ha ra (hpre r hr)
  have hlen : ∀ r ∈ l, r.pre.six = six → 0 ≤ r.pre.len ∧ r.pre.len ≤ wide six := fun r hr e => by
    have := prefOkR_says (hl r hr) (hpre r hr)
    rw [e] at this
    exact ⟨this.1, this.2.1⟩
  obtain ⟨b1, b2, b3⟩ := best_says six a l startRoute
  have hb0 : bestR six a l = l.foldl (better six a) startRoute := rfl
  rw [← hb0] at b1 b2 b3
  have hs0 : startRoute.pre.len = -1 := rfl
  cases hlo : longest six a (ofS six l) with
  | none =>
    have hn := lastN_none (show lastN six a (ofS six l) ((wide six).toNat + 1) = none from hlo)
    have hno : ∀ r ∈ l, hasR r.pre six a ≠ true := fun r hr hh => by
      obtain ⟨e1, e2⟩ := (hcov r hr).1 hh
      obtain ⟨k1, k2⟩ := hlen r hr e1
      exact ofS_none (hn r.pre.len.toNat (by omega)) r hr ⟨e1, e2.symm⟩
    have hb : bestR six a l = startRoute := by
      rcases b1 with h | ⟨h1, h2⟩
      · exact h
      · exact absurd h2 (hno _ h1)
    unfold bestOut
    rw [hb, if_pos (by rw [hs0]; decide)]
  | some r =>
    obtain ⟨i, i1, i2, i3⟩ := lastN_some (show lastN six a (ofS six l) ((wide six).toNat + 1) = some r from hlo)
    obtain ⟨hr, e1, e2⟩ := ofS_some i2
    obtain ⟨k1, k2⟩ := hlen r hr e1
    have ei : i = r.pre.len.toNat := by
      have := congrArg List.length e2
      rwa [path_len, path_len] at this
    subst ei
    have hh : hasR r.pre six a = true := (hcov r hr).2 ⟨e1, e2.symm⟩
    have hge := b3 r hr hh
    have hne : bestR six a l ≠ startRoute := fun e => by rw [e, hs0] at hge; omega
    obtain ⟨hb, hbh⟩ := b1.resolve_left hne
    obtain ⟨f1, f2⟩ := (hcov _ hb).1 hbh
    obtain ⟨m1, m2⟩ := hlen _ hb f1
    have hle : (bestR six a l).pre.len ≤ r.pre.len := by
      rcases Int.lt_or_le r.pre.len (bestR six a l).pre.len with hlt | hle
      · exact absurd ⟨f1, f2.symm⟩ (ofS_none (i3 (bestR six a l).pre.len.toNat (by omega) (by omega)) _ hb)
      · exact hle
    have hlen2 : (bestR six a l).pre.len = r.pre.len := by omega
    have hsay1 := prefOkR_says (hl _ hb) (hpre _ hb)
    have hsay2 := prefOkR_says (hl r hr) (hpre r hr)
    rw [f1] at hsay1
    rw [e1] at hsay2
    have hadr : (bestR six a l).pre.addr = r.pre.addr := by
      refine addr_eq (hl _ hb) (hl r hr) hsay1.2.2.1 hsay2.2.2.1 k1 k2 ?_ (hlen2 ▸ hsay1.2.2.2) hsay2.2.2.2
      rw [← e2, ← hlen2]
      exact f2
    have hpe : (bestR six a l).pre = r.pre := by
      have : ∀ p q : Prefix, p.six = q.six → p.addr = q.addr → p.len = q.len → p = q := fun p q h1 h2 h3 => by cases p; cases q; simp_all
      exact this _ _ (by rw [f1, e1]) hadr hlen2
    have hbe : bestR six a l = r := by
      obtain ⟨x, hx, ex⟩ := List.mem_iff_getElem.1 hb
      obtain ⟨y, hy, ey⟩ := List.mem_iff_getElem.1 hr
      have hpw' := List.pairwise_iff_getElem.1 hpw
      rcases Nat.lt_trichotomy x y with hlt | he | hlt
      · have := hpw' x y hx hy hlt
        rw [ex, ey, hpe, lessP_iff] at this
        omega
      · subst he; rw [← ex, ← ey]
      · have := hpw' y x hy hx hlt
        rw [ex, ey, hpe, lessP_iff] at this
        omega
    unfold bestOut
    rw [hbe, if_neg (by omega)]
theorem fib_eq {r : Router} {six : Bool} {a : Addr} (h : routerOkR r = true) (hl : ∀ x ∈ r.routes, x.pre.addr.wf) (ha : a.wf) (ra : rightAddrR six a = true) : fibDoes r six a = doesR r six a := by
  simp only [routerOkR, Bool.and_eq_true] at h
  obtain ⟨⟨⟨_, h1⟩, h2⟩, _⟩ := h
  unfold fibDoes doesR
  rw [best_eq h1 hl ha ra]
  cases longest six a (ofS six r.routes) with
  | none => rfl
  | some x =>
    simp only [hopOf, if_true]
    rw [peer_eq h2]
    cases peerR x.act.iface r.links with
    | none => simp
    | some p => simp
theorem pairsOkR_mem : ∀ {l : List Router} {m : List Seat}, l.length = m.length → pairsOkR l m = true → (∀ r ∈ l, routerOkR r = true) ∧ l.map Router.id = m.map Seat.router
  | [], [], _, _ => ⟨fun r h => (by cases h), rfl⟩
  | [], _ :: _, hl, _ => by simp at hl
  | _ :: _, [], hl, _ => by simp at hl
  | r :: l, s :: m, hl, h => by
    simp only [pairsOkR, pairOkR, Bool.and_eq_true, beq_iff_eq] at h
    obtain ⟨⟨⟨h1, h2⟩, _⟩, h3⟩ := h
    obtain ⟨i1, i2⟩ := pairsOkR_mem (by simpa using hl) h3
    refine ⟨fun x hx => ?_, by simp [h2, i2]⟩
    rcases List.mem_cons.1 hx with rfl | hx
    · exact h1
    · exact i1 x hx
theorem netOkR_says {n : Net} (h : netOkR n = true) : (∀ r ∈ n.routers, routerOkR r = true) ∧ n.routers.Pairwise (fun x y => x.id < y.id) := by
  simp only [netOkR, Bool.and_eq_true, beq_iff_eq] at h
  obtain ⟨⟨⟨h1, h2⟩, h3⟩, _⟩ := h
  obtain ⟨k1, k2⟩ := pairsOkR_mem h2 h3
  refine ⟨k1, ?_⟩
  simp only [seatsOk, Bool.and_eq_true] at h1
  have hp := (rowOk_pair (fun x y z h1 h2 => by simp only [decide_eq_true_eq] at *; omega) h1.2).2.1
  have hp2 : (n.seats.map Seat.router).Pairwise (fun x y => x < y) := by
    rw [List.pairwise_map]
    simpa using hp
  rw [← k2, List.pairwise_map] at hp2
  exact hp2
theorem netDoes_eq {n : Net} {t : Int} {six : Bool} {a : Addr} (h : netOkR n = true) (hl : ∀ r ∈ n.routers, ∀ x ∈ r.routes, x.pre.addr.wf) (ha : a.wf) (ra : rightAddrR six a = true) : netDoes n t six a = netDoesR n t six a := by
  obtain ⟨h1, h2⟩ := netOkR_says h
  unfold netDoes netDoesR
  rw [findR_find, bs_find h2]
  by_cases c : bsIs Router.id n.routers t = true
  · obtain ⟨hlt, _⟩ := bsIs_lt c
    rw [if_pos c, if_pos c, List.getElem?_eq_getElem hlt]
    have hm := List.getElem_mem hlt
    exact fib_eq (h1 _ hm) (hl _ hm) ha ra
  · rw [if_neg c, if_neg c]
theorem rowOk_congr {α : Type} {p p' : α → Bool} {r r' : α → α → Bool} (hr : ∀ x y, r x y = r' x y) : ∀ {l : List α} {a : Option α}, (∀ x ∈ l, p x = p' x) → rowOk p r a l = rowOk p' r' a l
  | [], _, _ => rfl
  | x :: l, a, h => by
    simp only [rowOk, h x List.mem_cons_self, rowOk_congr hr (fun y hy => h y (List.mem_cons_of_mem _ hy)), hr]
theorem routesOk_eq {l : List Route} (hl : ∀ r ∈ l, r.pre.addr.wf) : routesOk l = routesOkR l := by
  unfold routesOk routesOkR
  congr 1
  refine rowOk_congr (fun x y => rfl) (fun r hr => ?_)
  unfold rightRoute rightRouteR
  rw [prefOk_eq (hl r hr), Bool.and_comm]
theorem routerOk_eq {r : Router} (hl : ∀ x ∈ r.routes, x.pre.addr.wf) : routerOk r = routerOkR r := by
  unfold routerOk routerOkR
  rw [routesOk_eq hl]
  cases rightId r.id <;> cases routesOkR r.routes <;> cases linksOk r.links <;> simp
theorem pairsOk_eq : ∀ {l : List Router} {m : List Seat}, (∀ r ∈ l, ∀ x ∈ r.routes, x.pre.addr.wf) → pairsOk l m = pairsOkR l m
  | [], m, _ => by simp [pairsOk, pairsOkR]
  | r :: l, [], _ => by simp [pairsOk, pairsOkR]
  | r :: l, s :: m, h => by
    simp only [pairsOk, pairsOkR, pairOk, pairOkR, routerOk_eq (h r List.mem_cons_self), pairsOk_eq (fun x hx => h x (List.mem_cons_of_mem _ hx))]
theorem netOk_eq {n : Net} (hl : ∀ r ∈ n.routers, ∀ x ∈ r.routes, x.pre.addr.wf) : netOk n = netOkR n := by
  unfold netOk netOkR
  rw [pairsOk_eq hl]
  cases seatsOk n.seats <;> cases n.routers.length == n.seats.length <;> cases pairsOkR n.routers n.seats <;> simp
end Go.Sp
