import Derived.Test.YtnopihhconklnaaDoorEs8
/- The trie. -/
namespace Go.Sp
open Go Go.En
/-- a bit of an address, as the program takes it. -/
def bitP (six : Bool) (a : Addr) (at_ : Int) : Int := if 64 ≤ wide six - 1 - at_ then IntKind.i64.wrap (bitsOp .and .u64 (a.hi.fdiv (2 ^ min (wide six - 1 - at_ - 64).toNat 64)) 1) else IntKind.i64.wrap (bitsOp .and .u64 (a.lo.fdiv (2 ^ min (wide six - 1 - at_).toNat 64)) 1)
theorem and1 (k : IntKind) (hk : k = .u64) (x : Int) : bitsOp .and k x 1 = 0 ∨ bitsOp .and k x 1 = 1 := by
  subst hk
  have h : (BitVec.ofInt 64 x &&& 1#64).toNat = 0 ∨ (BitVec.ofInt 64 x &&& 1#64).toNat = 1 := by
    rw [BitVec.toNat_and, show (1#64).toNat = 1 from rfl, Nat.and_one_is_mod]
    omega
  show IntKind.u64.wrap ((BitVec.ofInt 64 x &&& 1#64).toNat : Int) = 0 ∨ IntKind.u64.wrap ((BitVec.ofInt 64 x &&& 1#64).toNat : Int) = 1
  rcases h with h | h <;> rw [h]
  · exact .inl rfl
  · exact .inr rfl
theorem bitP_01 (six : Bool) (a : Addr) (i : Int) : bitP six a i = 0 ∨ bitP six a i = 1 := by
  unfold bitP
  split
  · rcases and1 .u64 rfl (a.hi.fdiv (2 ^ min (wide six - 1 - i - 64).toNat 64)) with h | h <;> rw [h]
    · exact .inl rfl
    · exact .inr rfl
  · rcases and1 .u64 rfl (a.lo.fdiv (2 ^ min (wide six - 1 - i).toNat 64)) with h | h <;> rw [h]
    · exact .inl rfl
    · exact .inr rfl
/-- the way to a prefix. -/
def path (six : Bool) (a : Addr) (n : Nat) : List Bool := (List.range n).map fun i : Nat => bitP six a i == 1
theorem path_succ (six : Bool) (a : Addr) (n : Nat) : path six a (n + 1) = path six a n ++ [bitP six a n == 1] := by simp [path, List.range_succ]
/-- a trie as it stands in blocks: which ways there are, and what stands at their ends. -/
structure Tr where
  S : List Bool → Option (Option Route)
  pos : List Bool → Nat
  vp : List Bool → Nat
def Tr.vC (T : Tr) (bs : List Bool) : C := match T.S bs with
  | some (some _) => .ptr (T.vp bs) 0 0 0
  | _ => .v (.pointer none)
def Tr.kC (T : Tr) (bs : List Bool) : C := match T.S bs with
  | some _ => .ptr (T.pos bs) 0 0 0
  | none => .v (.pointer none)
def Tr.nB (tT tN : Nat) (six : Bool) (T : Tr) (bs : List Bool) : Blk := if bs = [] then ⟨tT, 4, 0, [[.v (.bool six), T.vC bs, T.kC (bs ++ [false]), T.kC (bs ++ [true])]]⟩ else ⟨tN, 3, 0, [[T.vC bs, T.kC (bs ++ [false]), T.kC (bs ++ [true])]]⟩
structure TR (tT tN tR : Nat) (H : List Blk) (base b0 : Nat) (six : Bool) (T : Tr) : Prop where
  pos0 : T.pos [] = b0
  some0 : T.S [] ≠ none
  node : ∀ bs : List Bool, T.S bs ≠ none → H[T.pos bs]? = some (T.nB tT tN six bs)
  val : ∀ (bs : List Bool) (r : Route), T.S bs = some (some r) → H[T.vp bs]? = some ⟨tR, 6, 0, [r.enc]⟩
  inj : ∀ bs bs' : List Bool, T.S bs ≠ none → T.S bs' ≠ none → T.pos bs = T.pos bs' → bs = bs'
  pre : ∀ (bs : List Bool) (c : Bool), T.S (bs ++ [c]) ≠ none → T.S bs ≠ none
  base : ∀ bs : List Bool, T.S bs ≠ none → base ≤ T.pos bs
theorem nB_sz (tT tN : Nat) (six : Bool) (T : Tr) (bs : List Bool) : (T.nB tT tN six bs).sz ≠ 6 := by unfold Tr.nB; split <;> simp
theorem TR.app {tT tN tR : Nat} {H : List Blk} {base b0 : Nat} {six : Bool} {T : Tr} (h : TR tT tN tR H base b0 six T) (G : List Blk) : TR tT tN tR (H ++ G) base b0 six T := by
  have key : ∀ (b : Nat) (x : Blk), H[b]? = some x → (H ++ G)[b]? = some x := fun b x hx => by rw [List.getElem?_append_left (List.getElem?_eq_some_iff.1 hx).1]; exact hx
  exact ⟨h.pos0, h.some0, fun bs hb => key _ _ (h.node bs hb), fun bs r hr => key _ _ (h.val bs r hr), h.inj, h.pre, h.base⟩
/-- one more way. -/
def Tr.add (T : Tr) (q : List Bool) (n : Nat) : Tr := ⟨fun x => if x = q then some none else T.S x, fun x => if x = q then n else T.pos x, T.vp⟩
theorem TR.add {tT tN tR : Nat} {H : List Blk} {base b0 : Nat} {six : Bool} {T : Tr} (h : TR tT tN tR H base b0 six T) {bs : List Bool} {c : Bool} (hb : T.S bs ≠ none) (hq : T.S (bs ++ [c]) = none) (hbase : base ≤ H.length) :
    TR tT tN tR ((H ++ [(⟨tN, 3, 0, [[.v (.pointer none), .v (.pointer none), .v (.pointer none)]]⟩ : Blk)]).set (T.pos bs) ((T.add (bs ++ [c]) H.length).nB tT tN six bs)) base b0 six (T.add (bs ++ [c]) H.length) := by
  have hne : ∀ x, T.S x ≠ none → x ≠ bs ++ [c] := fun x hx e => hx (e ▸ hq)
  have hS : ∀ x, x ≠ bs ++ [c] → (T.add (bs ++ [c]) H.length).S x = T.S x := fun x hx => by simp [Tr.add, hx]
  have hP : ∀ x, x ≠ bs ++ [c] → (T.add (bs ++ [c]) H.length).pos x = T.pos x := fun x hx => by simp [Tr.add, hx]
  have hlt : ∀ x, T.S x ≠ none → T.pos x < H.length := fun x hx => (List.getElem?_eq_some_iff.1 (h.node x hx)).1
  have hnil : bs ++ [c] ≠ [] := by simp
  have hk : ∀ x, x ≠ bs ++ [c] → (T.add (bs ++ [c]) H.length).kC x = T.kC x := fun x hx => by simp only [Tr.kC, hS x hx, hP x hx]
  have hv : ∀ x, x ≠ bs ++ [c] → (T.add (bs ++ [c]) H.length).vC x = T.vC x := fun x hx => by simp only [Tr.vC, hS x hx]; rfl
  have hnb : ∀ x, x ≠ bs ++ [c] → x ≠ bs → (T.add (bs ++ [c]) H.length).nB tT tN six x = T.nB tT tN six x := fun x h1 h2 => by
    have e1 : x ++ [false] ≠ bs ++ [c] := fun e => h2 (List.append_inj' e rfl).1
    have e2 : x ++ [true] ≠ bs ++ [c] := fun e => h2 (List.append_inj' e rfl).1
    simp only [Tr.nB, hk _ e1, hk _ e2, hv _ h1]
  have hkids : ∀ d, T.S (bs ++ [c] ++ [d]) = none := fun d => by
    cases hd : T.S (bs ++ [c] ++ [d]) with
    | none => rfl
    | some x => exact absurd hq (h.pre (bs ++ [c]) d (by rw [hd]; simp))
  refine ⟨?_, ?_, fun x hx => ?_, fun x r hr => ?_, fun x y hx hy he => ?_, fun x d hx => ?_, fun x hx => ?_⟩
  · rw [hP [] (Ne.symm hnil)]; exact h.pos0
  · rw [hS [] (Ne.symm hnil)]; exact h.some0
  · by_cases e : x = bs ++ [c]
    · subst e
      have e1 : (T.add (bs ++ [c]) H.length).pos (bs ++ [c]) = H.length := by simp [Tr.add]
      rw [e1, List.getElem?_set_ne (by have := hlt bs hb; omega), List.getElem?_append_right (Nat.le_refl _), Nat.sub_self]
      have k1 : (T.add (bs ++ [c]) H.length).S (bs ++ [c]) = some none := by simp [Tr.add]
      have k2 : ∀ d, (T.add (bs ++ [c]) H.length).kC (bs ++ [c] ++ [d]) = .v (.pointer none) := fun d => by
        rw [hk _ (by simp)]
        simp only [Tr.kC, hkids]
      simp only [Tr.nB, if_neg hnil, k2, Tr.vC, k1]
      rfl
    · rw [hS x e] at hx
      rw [hP x e]
      by_cases e2 : x = bs
      · subst e2
        rw [List.getElem?_set_self (by rw [List.length_append]; have := hlt x hx; omega)]
      · rw [List.getElem?_set_ne (fun e3 => e2 (h.inj _ _ hx hb e3.symm)), List.getElem?_append_left (hlt x hx), h.node x hx, hnb x e e2]
  · have e : x ≠ bs ++ [c] := fun e => by subst e; simp [Tr.add] at hr
    rw [hS x e] at hr
    have hval := h.val x r hr
    show ((H ++ _).set _ _)[T.vp x]? = _
    have hvl := (List.getElem?_eq_some_iff.1 hval).1
    rw [List.getElem?_set_ne (fun e3 => by rw [← e3, h.node bs hb] at hval; exact nB_sz tT tN six T bs (by rw [Option.some.inj hval])), List.getElem?_append_left hvl]
    exact hval
  · by_cases e1 : x = bs ++ [c] <;> by_cases e2 : y = bs ++ [c]
    · rw [e1, e2]
    · rw [hS y e2] at hy
      have := hlt y hy
      rw [hP y e2, e1] at he
      simp [Tr.add] at he
      omega
    · rw [hS x e1] at hx
      have := hlt x hx
      rw [hP x e1, e2] at he
      simp [Tr.add] at he
      omega
    · rw [hS x e1] at hx
      rw [hS y e2] at hy
      rw [hP x e1, hP y e2] at he
      exact h.inj x y hx hy he
  · by_cases e1 : x ++ [d] = bs ++ [c]
    · have := (List.append_inj' e1 rfl).1
      subst this
      rw [hS x (by simp)]
      exact hb
    · rw [hS _ e1] at hx
      have := h.pre x d hx
      rw [hS x (hne x this)]
      exact this
  · by_cases e : x = bs ++ [c]
    · subst e; simp [Tr.add, hbase]
    · rw [hS x e] at hx; rw [hP x e]; exact h.base x hx
/-- a value at a way's end. -/
def Tr.put (T : Tr) (q : List Bool) (r : Route) (n : Nat) : Tr := ⟨fun x => if x = q then some (some r) else T.S x, T.pos, fun x => if x = q then n else T.vp x⟩
theorem TR.put {tT tN tR : Nat} {H : List Blk} {base b0 : Nat} {six : Bool} {T : Tr} (h : TR tT tN tR H base b0 six T) {bs : List Bool} {r : Route} {n : Nat} (hb : T.S bs ≠ none) (hn : H[n]? = some ⟨tR, 6, 0, [r.enc]⟩) :
    TR tT tN tR (H.set (T.pos bs) ((T.put bs r n).nB tT tN six bs)) base b0 six (T.put bs r n) := by
  have hS : ∀ x, (T.put bs r n).S x ≠ none ↔ T.S x ≠ none := fun x => by
    by_cases e : x = bs
    · subst e; simp [Tr.put, hb]
    · simp [Tr.put, e]
  have hk : ∀ x, (T.put bs r n).kC x = T.kC x := fun x => by
    by_cases e : x = bs
    · subst e
      cases hh : T.S x with
      | none => exact absurd hh hb
      | some y => simp [Tr.kC, Tr.put, hh]
    · simp [Tr.kC, Tr.put, e]
  have hnb : ∀ x, x ≠ bs → (T.put bs r n).nB tT tN six x = T.nB tT tN six x := fun x h2 => by
    have : (T.put bs r n).vC x = T.vC x := by simp [Tr.vC, Tr.put, h2]
    simp only [Tr.nB, hk, this]
  have hlt : ∀ x, T.S x ≠ none → T.pos x < H.length := fun x hx => (List.getElem?_eq_some_iff.1 (h.node x hx)).1
  have hnv : ∀ (m : Nat) (y : Route), H[m]? = some ⟨tR, 6, 0, [y.enc]⟩ → (H.set (T.pos bs) ((T.put bs r n).nB tT tN six bs))[m]? = some ⟨tR, 6, 0, [y.enc]⟩ := fun m y hm => by
    rw [List.getElem?_set_ne (fun e3 => by rw [← e3, h.node bs hb] at hm; exact nB_sz tT tN six T bs (by rw [Option.some.inj hm]))]
    exact hm
  refine ⟨h.pos0, (hS []).2 h.some0, fun x hx => ?_, fun x y hy => ?_, fun x y hx hy he => h.inj x y ((hS x).1 hx) ((hS y).1 hy) he, fun x d hx => (hS x).2 (h.pre x d ((hS _).1 hx)), fun x hx => h.base x ((hS x).1 hx)⟩
  · have hx' := (hS x).1 hx
    show (H.set _ _)[T.pos x]? = _
    by_cases e : x = bs
    · subst e
      rw [List.getElem?_set_self (hlt x hx')]
    · rw [List.getElem?_set_ne (fun e3 => e (h.inj _ _ hx' hb e3.symm)), h.node x hx', hnb x e]
  · by_cases e : x = bs
    · subst e
      have e1 : (T.put x r n).vp x = n := by simp [Tr.put]
      have e2 : y = r := by simp [Tr.put] at hy; exact hy.symm
      rw [e1, e2]
      exact hnv n r hn
    · have e1 : (T.put bs r n).vp x = T.vp x := by simp [Tr.put, e]
      have e2 : T.S x = some (some y) := by simpa [Tr.put, e] using hy
      rw [e1]
      exact hnv _ y (h.val x y e2)
theorem app_at0 {α : Type} (H : List α) (x : α) (r : List α) : (H ++ x :: r)[H.length]? = some x := by simp
theorem app_at1 {α : Type} (H : List α) (x y : α) (r : List α) : (H ++ x :: y :: r)[H.length + 1]? = some y := by
  rw [List.getElem?_append_right (by omega), Nat.add_sub_cancel_left]
  rfl
attribute [go_sem] app_at0 app_at1
/-- with all ways that lead to this one's i-th step. -/
def growS (six : Bool) (a : Addr) (S : List Bool → Option (Option Route)) (i : Nat) (bs : List Bool) : Option (Option Route) := match S bs with
  | some v => some v
  | none => if (List.range (i + 1)).any (fun k => bs == path six a k) then some none else none
def putS (six : Bool) (p : Prefix) (r : Route) (S : List Bool → Option (Option Route)) (bs : List Bool) : Option (Option Route) := if bs = path six p.addr p.len.toNat then some (some r) else growS six p.addr S p.len.toNat bs
theorem path_zero (six : Bool) (a : Addr) : path six a 0 = [] := rfl
theorem path_len (six : Bool) (a : Addr) (n : Nat) : (path six a n).length = n := by simp [path]
theorem path_inj {six : Bool} {a : Addr} {n m : Nat} (h : path six a n = path six a m) : n = m := by have := congrArg List.length h; simpa [path_len] using this
theorem growS_here (six : Bool) (a : Addr) (S : List Bool → Option (Option Route)) (i : Nat) : growS six a S i (path six a i) ≠ none := by
  unfold growS
  split
  · simp
  · rw [if_pos]
    · simp
    · rw [List.any_eq_true]; exact ⟨i, by simp, by simp⟩
theorem growS_zero {six : Bool} {a : Addr} {S : List Bool → Option (Option Route)} (h : S [] ≠ none) : growS six a S 0 = S := by
  funext bs
  unfold growS
  cases hb : S bs with
  | some v => rfl
  | none =>
    have : bs ≠ [] := fun e => h (e ▸ hb)
    simp [path_zero, this]
theorem growS_succ (six : Bool) (a : Addr) (S : List Bool → Option (Option Route)) (i : Nat) : growS six a S (i + 1) = fun bs => if bs = path six a (i + 1) ∧ growS six a S i bs = none then some none else growS six a S i bs := by
  funext bs
  unfold growS
  cases hb : S bs with
  | some v => simp
  | none =>
    simp only [List.range_succ (n := i + 1), List.any_append, List.any_cons, List.any_nil, Bool.or_false]
    by_cases e : bs = path six a (i + 1)
    · simp [e]
    · simp [e]
structure PutI (tT tN tR tP : Nat) (H : List Blk) (base b0 : Nat) (six : Bool) (T : Tr) (p : Prefix) (r : Route) (i : Nat) (G : List Blk) (U : Tr) : Prop where
  le : i ≤ p.len.toNat
  tr : TR tT tN tR G base b0 six U
  S : U.S = growS six p.addr T.S i
  bp : G[H.length]? = some ⟨tP, 4, 0, [p.enc]⟩
  br : G[H.length + 1]? = some ⟨tR, 6, 0, [r.enc]⟩
  len : H.length + 2 ≤ G.length
  low : ∀ j, j < base → G[j]? = H[j]?
end Go.Sp
namespace Go.Proofs.YtnopihhconklnaaDoor.S
open Go Go.En Go.Sp Go.Proofs Go.Proofs.YtnopihhconklnaaDoor.T
set_option maxRecDepth 10000
set_option linter.unusedSimpArgs false
set_option linter.unusedVariables false
set_option maxHeartbeats 1000000
theorem trie_bit (b : Bool) (a : Sp.Addr) (i : Int) (h0 : 0 ≤ i) (h1 : i < wide b) : PS Tryd.prog 75 [VB b, .agg a.enc, VI .i64 i] (VI .i64 (bitP b a i)) := by
  obtain ⟨w1, w2⟩ := wide_le b
  refine ps_of 100 Tryd.func75 rfl (ev_ ?_)
  refine callI 100 (ev_ ?_)
  simp only [i64In]
  refine ⟨by omega, by omega, br_d (fun c => ?_) (fun c => ?_)⟩
  · refine ⟨by omega, by omega, ?_⟩
    have e : (if wide b - 1 - i - 64 ≤ 64 then (wide b - 1 - i - 64).toNat else 64) = min (wide b - 1 - i - 64).toNat 64 := by split <;> omega
    simp [bitP, c, e]
  · refine ⟨by omega, ?_⟩
    have e : (if wide b - 1 - i ≤ 64 then (wide b - 1 - i).toNat else 64) = min (wide b - 1 - i).toNat 64 := by split <;> omega
    simp [bitP, c, e]
theorem trie_Put (H : List Blk) (base b0 : Nat) (six : Bool) (T : Tr) (p : Prefix) (r : Route) (h : TR 119 117 85 H base b0 six T) (hb : base ≤ H.length) (h0 : 0 ≤ p.len) (h1 : p.len ≤ wide six) :
    En.Call Tryd.prog false 63 [.c (.ptr b0 0 0 0), .agg p.enc, .agg r.enc] H fun v H' => v = .tup [] ∧ H.length ≤ H'.length ∧ (∀ j, j < base → H'[j]? = H[j]?) ∧ ∃ U, TR 119 117 85 H' base b0 six U ∧ U.S = putS six p r T.S := by
  have hn0 := h.node [] h.some0
  rw [h.pos0] at hn0
  obtain ⟨w1, w2⟩ := wide_le six
  refine cr_of 100 Tryd.func63 rfl (ev_ ?_)
  have hpl : ((p.len.toNat : Nat) : Int) = p.len := by omega
  let HB : List Blk := [⟨83, 4, 0, [p.enc]⟩, ⟨85, 6, 0, [r.enc]⟩]
  refine loop_st (σ := Nat × List Blk × Tr) 100 (fun x => [(14, VI .i64 x.1), (13, VI .i64 p.len), (6, .c (.ptr (x.2.2.pos (path six p.addr x.1)) 0 0 (if x.1 = 0 then 1 else 0))), (5, .c (.ptr (H.length + 1) 0 0 0)), (4, .c (.ptr H.length 0 0 0)), (0, .c (.ptr b0 0 0 0))]) (fun x => x.2.1)
    (fun x => PutI 119 117 85 83 H base b0 six T p r x.1 x.2.1 x.2.2) (fun x => p.len.toNat - x.1) (0, H ++ HB, T)
    ⟨Nat.zero_le _, h.app _, (growS_zero h.some0).symm, app_at0 _ _ _, app_at1 _ _ _ _, by simp only [HB, List.length_append, List.length_cons, List.length_nil]; omega, fun j hj => List.getElem?_append_left (by omega)⟩ ?_ ?_ ?_
  · refine wkS ?_
    simp [subT, lk, path_zero, h.pos0]
  · intro x hx
    have := hx.len
    simp only [List.length_append, List.length_cons, List.length_nil]
    omega
  rintro ⟨i, G, U⟩ Q' hI hn hx hr
  simp only at hI
  obtain ⟨hi, htr, hS, hbp, hbr, hlen, hlow⟩ := hI
  have hr0 := htr.node [] htr.some0
  rw [htr.pos0] at hr0
  have hhas : U.S (path six p.addr i) ≠ none := by rw [hS]; exact growS_here _ _ _ _
  have hnode := htr.node _ hhas
  refine ev_ (br_d (fun hil => ?_) (fun hil => ?_))
  · refine draw 100 (by kernel_rfl) [0, 1, 2, 3, 4, 5, 6, 7, 9, 10, 8, 11, 12] (by kernel_rfl) ?_
    simp only [Tr.nB, if_true, Prefix.enc] at hr0 hbp
    have hh := And.intro hr0 hbp
    refine evh ?_
    clear hh
    refine callN 100 (trie_bit six p.addr i (by omega) (by omega)) ?_
    have hpos : U.pos (path six p.addr i) < G.length := (List.getElem?_eq_some_iff.1 hnode).1
    have hbs := htr.base _ hhas
    have hpl := path_len six p.addr i
    have hp1 := path_succ six p.addr i
    generalize path six p.addr i = q at *
    by_cases hz : i = 0
    · have hq0 : q = [] := List.eq_nil_of_length_eq_zero (by omega)
      rw [if_pos hz]
      rcases bitP_01 six p.addr i with hbit | hbit
      · rw [hbit] at hp1 ⊢
        rw [show ((0 : Int) == 1) = false from rfl] at hp1
        simp only [Tr.nB, if_pos hq0] at hnode
        cases hU : U.S (q ++ [false]) with
        | none =>
          have hkc : U.kC (q ++ [false]) = .v (.pointer none) := by simp [Tr.kC, hU]
          have f1 : ∀ X : Blk, (G ++ [X])[U.pos q]? = some ⟨119, 4, 0, [[.v (.bool six), U.vC q, U.kC (q ++ [false]), U.kC (q ++ [true])]]⟩ := fun X => by rw [List.getElem?_append_left hpos]; exact hnode
          have f2 : ∀ X Y : Blk, ((G ++ [X]).set (U.pos q) Y)[U.pos q]? = some Y := fun X Y => List.getElem?_set_self (by rw [List.length_append]; omega)
          have hh := And.intro hr0 (And.intro hbp (And.intro hnode (And.intro hkc (And.intro f1 f2))))
          refine evh ?_
          refine ⟨by omega, by simp only [i64In]; omega, hn (i + 1, (G ++ [(⟨117, 3, 0, [[.v (.pointer none), .v (.pointer none), .v (.pointer none)]]⟩ : Blk)]).set (U.pos q) ⟨119, 4, 0, [[.v (.bool six), U.vC q, .ptr G.length 0 0 0, U.kC (q ++ [true])]]⟩, U.add (q ++ [false]) G.length) _ _ ?_ ?_ (by simp only; omega)⟩
          · refine wkS ?_
            simp [subT, lk, hp1, Tr.add]
          · have hadd := htr.add (c := false) hhas hU (by omega)
            have e2 : (U.add (q ++ [false]) G.length).nB 119 117 six q = ⟨119, 4, 0, [[.v (.bool six), U.vC q, .ptr G.length 0 0 0, U.kC (q ++ [true])]]⟩ := by simp [Tr.nB, hq0, Tr.vC, Tr.kC, Tr.add]
            rw [e2] at hadd
            refine ⟨by simp only; omega, hadd, ?_, ?_, ?_, by simp only [List.length_set, List.length_append]; omega, fun j hj => ?_⟩
            · simp only
              rw [growS_succ, ← hS, hp1]
              funext x
              by_cases e : x = q ++ [false]
              · subst e; simp [Tr.add, hU]
              · simp [Tr.add, e]
            · rw [List.getElem?_set_ne (fun e => by rw [← e, hnode] at hbp; simp at hbp), List.getElem?_append_left (by omega)]
              exact hbp
            · rw [List.getElem?_set_ne (fun e => by rw [← e, hnode] at hbr; simp at hbr), List.getElem?_append_left (by omega)]
              exact hbr
            · rw [List.getElem?_set_ne (by omega), List.getElem?_append_left (by omega)]
              exact hlow j hj
        | some v =>
          have hkc : U.kC (q ++ [false]) = .ptr (U.pos (q ++ [false])) 0 0 0 := by simp [Tr.kC, hU]
          have hh := And.intro hr0 (And.intro hbp (And.intro hnode hkc))
          refine evh ?_
          refine ⟨by omega, by simp only [i64In]; omega, hn (i + 1, G, U) _ _ ?_ ?_ (by simp only; omega)⟩
          · refine wkS ?_
            simp [subT, lk, hp1]
          · refine ⟨by simp only; omega, htr, ?_, hbp, hbr, hlen, hlow⟩
            simp only
            rw [growS_succ, ← hS, hp1]
            funext x
            rw [if_neg]
            rintro ⟨e, hx⟩
            rw [e, hU] at hx
            cases hx
      · rw [hbit] at hp1 ⊢
        rw [show ((1 : Int) == 1) = true from rfl] at hp1
        simp only [Tr.nB, if_pos hq0] at hnode
        cases hU : U.S (q ++ [true]) with
        | none =>
          have hkc : U.kC (q ++ [true]) = .v (.pointer none) := by simp [Tr.kC, hU]
          have f1 : ∀ X : Blk, (G ++ [X])[U.pos q]? = some ⟨119, 4, 0, [[.v (.bool six), U.vC q, U.kC (q ++ [false]), U.kC (q ++ [true])]]⟩ := fun X => by rw [List.getElem?_append_left hpos]; exact hnode
          have f2 : ∀ X Y : Blk, ((G ++ [X]).set (U.pos q) Y)[U.pos q]? = some Y := fun X Y => List.getElem?_set_self (by rw [List.length_append]; omega)
          have hh := And.intro hr0 (And.intro hbp (And.intro hnode (And.intro hkc (And.intro f1 f2))))
          refine evh ?_
          refine ⟨by omega, by simp only [i64In]; omega, hn (i + 1, (G ++ [(⟨117, 3, 0, [[.v (.pointer none), .v (.pointer none), .v (.pointer none)]]⟩ : Blk)]).set (U.pos q) ⟨119, 4, 0, [[.v (.bool six), U.vC q, U.kC (q ++ [false]), .ptr G.length 0 0 0]]⟩, U.add (q ++ [true]) G.length) _ _ ?_ ?_ (by simp only; omega)⟩
          · refine wkS ?_
            simp [subT, lk, hp1, Tr.add]
          · have hadd := htr.add (c := true) hhas hU (by omega)
            have e2 : (U.add (q ++ [true]) G.length).nB 119 117 six q = ⟨119, 4, 0, [[.v (.bool six), U.vC q, U.kC (q ++ [false]), .ptr G.length 0 0 0]]⟩ := by simp [Tr.nB, hq0, Tr.vC, Tr.kC, Tr.add]
            rw [e2] at hadd
            refine ⟨by simp only; omega, hadd, ?_, ?_, ?_, by simp only [List.length_set, List.length_append]; omega, fun j hj => ?_⟩
            · simp only
              rw [growS_succ, ← hS, hp1]
              funext x
              by_cases e : x = q ++ [true]
              · subst e; simp [Tr.add, hU]
              · simp [Tr.add, e]
            · rw [List.getElem?_set_ne (fun e => by rw [← e, hnode] at hbp; simp at hbp), List.getElem?_append_left (by omega)]
              exact hbp
            · rw [List.getElem?_set_ne (fun e => by rw [← e, hnode] at hbr; simp at hbr), List.getElem?_append_left (by omega)]
              exact hbr
            · rw [List.getElem?_set_ne (by omega), List.getElem?_append_left (by omega)]
              exact hlow j hj
        | some v =>
          have hkc : U.kC (q ++ [true]) = .ptr (U.pos (q ++ [true])) 0 0 0 := by simp [Tr.kC, hU]
          have hh := And.intro hr0 (And.intro hbp (And.intro hnode hkc))
          refine evh ?_
          refine ⟨by omega, by simp only [i64In]; omega, hn (i + 1, G, U) _ _ ?_ ?_ (by simp only; omega)⟩
          · refine wkS ?_
            simp [subT, lk, hp1]
          · refine ⟨by simp only; omega, htr, ?_, hbp, hbr, hlen, hlow⟩
            simp only
            rw [growS_succ, ← hS, hp1]
            funext x
            rw [if_neg]
            rintro ⟨e, hx⟩
            rw [e, hU] at hx
            cases hx
    · have hq0 : ¬ q = [] := fun e => hz (by rw [e] at hpl; simpa using hpl.symm)
      rw [if_neg hz]
      rcases bitP_01 six p.addr i with hbit | hbit
      · rw [hbit] at hp1 ⊢
        rw [show ((0 : Int) == 1) = false from rfl] at hp1
        simp only [Tr.nB, if_neg hq0] at hnode
        cases hU : U.S (q ++ [false]) with
        | none =>
          have hkc : U.kC (q ++ [false]) = .v (.pointer none) := by simp [Tr.kC, hU]
          have f1 : ∀ X : Blk, (G ++ [X])[U.pos q]? = some ⟨117, 3, 0, [[U.vC q, U.kC (q ++ [false]), U.kC (q ++ [true])]]⟩ := fun X => by rw [List.getElem?_append_left hpos]; exact hnode
          have f2 : ∀ X Y : Blk, ((G ++ [X]).set (U.pos q) Y)[U.pos q]? = some Y := fun X Y => List.getElem?_set_self (by rw [List.length_append]; omega)
          have hh := And.intro hr0 (And.intro hbp (And.intro hnode (And.intro hkc (And.intro f1 f2))))
          refine evh ?_
          refine ⟨by omega, by simp only [i64In]; omega, hn (i + 1, (G ++ [(⟨117, 3, 0, [[.v (.pointer none), .v (.pointer none), .v (.pointer none)]]⟩ : Blk)]).set (U.pos q) ⟨117, 3, 0, [[U.vC q, .ptr G.length 0 0 0, U.kC (q ++ [true])]]⟩, U.add (q ++ [false]) G.length) _ _ ?_ ?_ (by simp only; omega)⟩
          · refine wkS ?_
            simp [subT, lk, hp1, Tr.add]
          · have hadd := htr.add (c := false) hhas hU (by omega)
            have e2 : (U.add (q ++ [false]) G.length).nB 119 117 six q = ⟨117, 3, 0, [[U.vC q, .ptr G.length 0 0 0, U.kC (q ++ [true])]]⟩ := by simp [Tr.nB, hq0, Tr.vC, Tr.kC, Tr.add]
            rw [e2] at hadd
            refine ⟨by simp only; omega, hadd, ?_, ?_, ?_, by simp only [List.length_set, List.length_append]; omega, fun j hj => ?_⟩
            · simp only
              rw [growS_succ, ← hS, hp1]
              funext x
              by_cases e : x = q ++ [false]
              · subst e; simp [Tr.add, hU]
              · simp [Tr.add, e]
            · rw [List.getElem?_set_ne (fun e => by rw [← e, hnode] at hbp; simp at hbp), List.getElem?_append_left (by omega)]
              exact hbp
            · rw [List.getElem?_set_ne (fun e => by rw [← e, hnode] at hbr; simp at hbr), List.getElem?_append_left (by omega)]
              exact hbr
            · rw [List.getElem?_set_ne (by omega), List.getElem?_append_left (by omega)]
              exact hlow j hj
        | some v =>
          have hkc : U.kC (q ++ [false]) = .ptr (U.pos (q ++ [false])) 0 0 0 := by simp [Tr.kC, hU]
          have hh := And.intro hr0 (And.intro hbp (And.intro hnode hkc))
          refine evh ?_
          refine ⟨by omega, by simp only [i64In]; omega, hn (i + 1, G, U) _ _ ?_ ?_ (by simp only; omega)⟩
          · refine wkS ?_
            simp [subT, lk, hp1]
          · refine ⟨by simp only; omega, htr, ?_, hbp, hbr, hlen, hlow⟩
            simp only
            rw [growS_succ, ← hS, hp1]
            funext x
            rw [if_neg]
            rintro ⟨e, hx⟩
            rw [e, hU] at hx
            cases hx
      · rw [hbit] at hp1 ⊢
        rw [show ((1 : Int) == 1) = true from rfl] at hp1
        simp only [Tr.nB, if_neg hq0] at hnode
        cases hU : U.S (q ++ [true]) with
        | none =>
          have hkc : U.kC (q ++ [true]) = .v (.pointer none) := by simp [Tr.kC, hU]
          have f1 : ∀ X : Blk, (G ++ [X])[U.pos q]? = some ⟨117, 3, 0, [[U.vC q, U.kC (q ++ [false]), U.kC (q ++ [true])]]⟩ := fun X => by rw [List.getElem?_append_left hpos]; exact hnode
          have f2 : ∀ X Y : Blk, ((G ++ [X]).set (U.pos q) Y)[U.pos q]? = some Y := fun X Y => List.getElem?_set_self (by rw [List.length_append]; omega)
          have hh := And.intro hr0 (And.intro hbp (And.intro hnode (And.intro hkc (And.intro f1 f2))))
          refine evh ?_
          refine ⟨by omega, by simp only [i64In]; omega, hn (i + 1, (G ++ [(⟨117, 3, 0, [[.v (.pointer none), .v (.pointer none), .v (.pointer none)]]⟩ : Blk)]).set (U.pos q) ⟨117, 3, 0, [[U.vC q, U.kC (q ++ [false]), .ptr G.length 0 0 0]]⟩, U.add (q ++ [true]) G.length) _ _ ?_ ?_ (by simp only; omega)⟩
          · refine wkS ?_
            simp [subT, lk, hp1, Tr.add]
          · have hadd := htr.add (c := true) hhas hU (by omega)
            have e2 : (U.add (q ++ [true]) G.length).nB 119 117 six q = ⟨117, 3, 0, [[U.vC q, U.kC (q ++ [false]), .ptr G.length 0 0 0]]⟩ := by simp [Tr.nB, hq0, Tr.vC, Tr.kC, Tr.add]
            rw [e2] at hadd
            refine ⟨by simp only; omega, hadd, ?_, ?_, ?_, by simp only [List.length_set, List.length_append]; omega, fun j hj => ?_⟩
            · simp only
              rw [growS_succ, ← hS, hp1]
              funext x
              by_cases e : x = q ++ [true]
              · subst e; simp [Tr.add, hU]
              · simp [Tr.add, e]
            · rw [List.getElem?_set_ne (fun e => by rw [← e, hnode] at hbp; simp at hbp), List.getElem?_append_left (by omega)]
              exact hbp
            · rw [List.getElem?_set_ne (fun e => by rw [← e, hnode] at hbr; simp at hbr), List.getElem?_append_left (by omega)]
              exact hbr
            · rw [List.getElem?_set_ne (by omega), List.getElem?_append_left (by omega)]
              exact hlow j hj
        | some v =>
          have hkc : U.kC (q ++ [true]) = .ptr (U.pos (q ++ [true])) 0 0 0 := by simp [Tr.kC, hU]
          have hh := And.intro hr0 (And.intro hbp (And.intro hnode hkc))
          refine evh ?_
          refine ⟨by omega, by simp only [i64In]; omega, hn (i + 1, G, U) _ _ ?_ ?_ (by simp only; omega)⟩
          · refine wkS ?_
            simp [subT, lk, hp1]
          · refine ⟨by simp only; omega, htr, ?_, hbp, hbr, hlen, hlow⟩
            simp only
            rw [growS_succ, ← hS, hp1]
            funext x
            rw [if_neg]
            rintro ⟨e, hx⟩
            rw [e, hU] at hx
            cases hx
  · have hil' : i = p.len.toNat := by omega
    subst hil'
    refine hx 0 _ _ _ rfl ?_
    have hpos : U.pos (path six p.addr p.len.toNat) < G.length := (List.getElem?_eq_some_iff.1 hnode).1
    have hbs := htr.base _ hhas
    have hpl := path_len six p.addr p.len.toNat
    generalize hpq : path six p.addr p.len.toNat = q at *
    by_cases hz : p.len.toNat = 0
    · have hq0 : q = [] := List.eq_nil_of_length_eq_zero (by omega)
      rw [if_pos hz]
      simp only [Tr.nB, if_pos hq0] at hnode
      have hh := hnode
      refine evh ?_
      have hput := htr.put (r := r) hhas hbr
      have e2 : (U.put q r (H.length + 1)).nB 119 117 six q = ⟨119, 4, 0, [[.v (.bool six), .ptr (H.length + 1) 0 0 0, U.kC (q ++ [false]), U.kC (q ++ [true])]]⟩ := by
        have k1 : ∀ x, (U.put q r (H.length + 1)).kC x = U.kC x := fun x => by
          by_cases e : x = q
          · subst e
            cases hc : U.S x with
            | none => exact absurd hc hhas
            | some y => simp [Tr.kC, Tr.put, hc]
          · simp [Tr.kC, Tr.put, e]
        have k2 : (U.put q r (H.length + 1)).vC q = .ptr (H.length + 1) 0 0 0 := by simp [Tr.vC, Tr.put]
        simp only [Tr.nB, if_pos hq0, k1, k2]
      rw [e2] at hput
      refine ⟨by simp only [List.length_set]; omega, fun j hj => by rw [List.getElem?_set_ne (by omega)]; exact hlow j hj, U.put q r (H.length + 1), hput, ?_⟩
      funext x
      simp only [Tr.put, putS, ← hpq, ← hS]
    · have hq0 : ¬ q = [] := fun e => hz (by rw [e] at hpl; simpa using hpl.symm)
      rw [if_neg hz]
      simp only [Tr.nB, if_neg hq0] at hnode
      have hh := hnode
      refine evh ?_
      have hput := htr.put (r := r) hhas hbr
      have e2 : (U.put q r (H.length + 1)).nB 119 117 six q = ⟨117, 3, 0, [[.ptr (H.length + 1) 0 0 0, U.kC (q ++ [false]), U.kC (q ++ [true])]]⟩ := by
        have k1 : ∀ x, (U.put q r (H.length + 1)).kC x = U.kC x := fun x => by
          by_cases e : x = q
          · subst e
            cases hc : U.S x with
            | none => exact absurd hc hhas
            | some y => simp [Tr.kC, Tr.put, hc]
          · simp [Tr.kC, Tr.put, e]
        have k2 : (U.put q r (H.length + 1)).vC q = .ptr (H.length + 1) 0 0 0 := by simp [Tr.vC, Tr.put]
        simp only [Tr.nB, if_neg hq0, k1, k2]
      rw [e2] at hput
      refine ⟨by simp only [List.length_set]; omega, fun j hj => by rw [List.getElem?_set_ne (by omega)]; exact hlow j hj, U.put q r (H.length + 1), hput, ?_⟩
      funext x
      simp only [Tr.put, putS, ← hpq, ← hS]
end Go.Proofs.YtnopihhconklnaaDoor.S
