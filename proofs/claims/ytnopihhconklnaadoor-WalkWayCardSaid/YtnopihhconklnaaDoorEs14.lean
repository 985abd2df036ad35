import Derived.Test.YtnopihhconklnaaDoorEs13
import Derived.Test.YtnopihhconklnaaDoorEn15
/- The trie along an address: a range over a function. -/
namespace Go.Sp
open Go Go.En
/-- the values on the way, as far as n steps. -/
def alongN (six : Bool) (a : Addr) (S : List Bool → Option (Option Route)) (n : Nat) : List Route := (List.range n).filterMap fun i => (S (path six a i)).join
def along (six : Bool) (a : Addr) (S : List Bool → Option (Option Route)) : List Route := alongN six a S ((wide six).toNat + 1)
theorem alongN_succ (six : Bool) (a : Addr) (S : List Bool → Option (Option Route)) (n : Nat) : alongN six a S (n + 1) = alongN six a S n ++ (S (path six a n)).join.toList := by
  simp only [alongN, List.range_succ, List.filterMap_append, List.filterMap_cons, List.filterMap_nil]
  cases (S (path six a n)).join <;> rfl
def lastN (six : Bool) (a : Addr) (S : List Bool → Option (Option Route)) (n : Nat) : Option Route := (alongN six a S n).getLast?
def longest (six : Bool) (a : Addr) (S : List Bool → Option (Option Route)) : Option Route := (along six a S).getLast?
theorem lastN_succ (six : Bool) (a : Addr) (S : List Bool → Option (Option Route)) (n : Nat) : lastN six a S (n + 1) = match (S (path six a n)).join with | some r => some r | none => lastN six a S n := by
  unfold lastN
  rw [alongN_succ]
  cases (S (path six a n)).join with
  | none => simp
  | some r => simp
/-- behind the way's end nothing comes. -/
theorem lastN_end {six : Bool} {a : Addr} {S : List Bool → Option (Option Route)} (hp : ∀ (bs : List Bool) (c : Bool), S (bs ++ [c]) ≠ none → S bs ≠ none) {n : Nat} (h : S (path six a n) = none) : ∀ m, n ≤ m → S (path six a m) = none ∧ lastN six a S m = lastN six a S n := by
  intro m hm
  induction m with
  | zero => have : n = 0 := by omega
            subst this; exact ⟨h, rfl⟩
  | succ m ih =>
    by_cases e : n = m + 1
    · subst e; exact ⟨h, rfl⟩
    · obtain ⟨i1, i2⟩ := ih (by omega)
      refine ⟨?_, ?_⟩
      · cases hs : S (path six a (m + 1)) with
        | none => rfl
        | some v =>
          rw [path_succ] at hs
          exact absurd i1 (hp _ _ (by rw [hs]; simp))
      · rw [lastN_succ, i1]
        exact i2
theorem TR.same {tT tN tR : Nat} {H G : List Blk} {base b0 : Nat} {six : Bool} {T : Tr} (h : TR tT tN tR H base b0 six T) (hG : ∀ j, j < H.length → G[j]? = H[j]?) : TR tT tN tR G base b0 six T := by
  have key : ∀ (b : Nat) (x : Blk), H[b]? = some x → G[b]? = some x := fun b x hx => by rw [hG b (List.getElem?_eq_some_iff.1 hx).1]; exact hx
  exact ⟨h.pos0, h.some0, fun bs hb => key _ _ (h.node bs hb), fun bs r hr => key _ _ (h.val bs r hr), h.inj, h.pre, h.base⟩
def routeZ : Route := ⟨⟨false, ⟨0, 0⟩, 0⟩, ⟨0, 0⟩⟩
/-- the heap while the loop of Longest runs. -/
structure LonI (tA tR tB tT : Nat) (H : List Blk) (b0 : Nat) (a : Addr) (o : Option Route) (G : List Blk) : Prop where
  low : ∀ j, j < H.length → G[j]? = H[j]?
  x0 : G[H.length]? = some ⟨tA, 2, 0, [a.enc]⟩
  x1 : G[H.length + 1]? = some ⟨tR, 6, 0, [routeZ.enc]⟩
  x2 : G[H.length + 2]? = some ⟨tR, 6, 0, [(o.getD routeZ).enc]⟩
  x3 : G[H.length + 3]? = some ⟨tB, 1, 0, [[.v (.bool o.isSome)]]⟩
  x4 : G[H.length + 4]? = some ⟨tT, 1, 0, [[.ptr b0 0 0 0]]⟩
  x5 : G[H.length + 4 + 1]? = some ⟨tA, 2, 0, [a.enc]⟩
  len : H.length + 6 ≤ G.length
theorem LonI.step {tA tR tB tT : Nat} {H : List Blk} {b0 : Nat} {a : Addr} {o : Option Route} {G : List Blk} (h : LonI tA tR tB tT H b0 a o G) (X : Blk) (r : Route) :
    LonI tA tR tB tT H b0 a (some r) (((G ++ [X]).set (H.length + 2) ⟨tR, 6, 0, [r.enc]⟩).set (H.length + 3) ⟨tB, 1, 0, [[.v (.bool true)]]⟩) := by
  have hl := h.len
  have key : ∀ (j : Nat) (b : Blk), j ≠ H.length + 2 → j ≠ H.length + 3 → G[j]? = some b → (((G ++ [X]).set (H.length + 2) ⟨tR, 6, 0, [r.enc]⟩).set (H.length + 3) ⟨tB, 1, 0, [[.v (.bool true)]]⟩)[j]? = some b := fun j b h1 h2 h3 => by
    rw [List.getElem?_set_ne (Ne.symm h2), List.getElem?_set_ne (Ne.symm h1), List.getElem?_append_left (List.getElem?_eq_some_iff.1 h3).1, h3]
  refine ⟨fun j hj => ?_, key _ _ (by omega) (by omega) h.x0, key _ _ (by omega) (by omega) h.x1, ?_, ?_, key _ _ (by omega) (by omega) h.x4, key _ _ (by omega) (by omega) h.x5, by simp; omega⟩
  · rw [List.getElem?_set_ne (by omega), List.getElem?_set_ne (by omega), List.getElem?_append_left (by omega)]
    exact h.low j hj
  · rw [List.getElem?_set_ne (by omega), List.getElem?_set_self (by simp; omega)]
    rfl
  · rw [List.getElem?_set_self (by simp; omega)]
    rfl
def LonY (tA tR tB tT : Nat) (H : List Blk) (b0 : Nat) (a : Addr) (vs : List V) (G : List Blk) : Prop := ∃ (o : Option Route) (r : Route), LonI tA tR tB tT H b0 a o G ∧ vs = [.agg r.enc]
def LonZ (tA tR tB tT : Nat) (H : List Blk) (b0 : Nat) (a : Addr) (vs : List V) (_ G' : List Blk) : Prop := ∃ r : Route, LonI tA tR tB tT H b0 a (some r) G' ∧ vs = [.agg r.enc]
def noX (_ : Code) (_ : List V) (_ _ : List Blk) : Prop := False
def noSX (_ : Code) (_ : List Blk) : Prop := False
theorem enc_inj {r r' : Route} (h : r.enc = r'.enc) : r = r' := by
  obtain ⟨⟨s, ⟨h1, l1⟩, n⟩, ⟨k, i⟩⟩ := r
  obtain ⟨⟨s', ⟨h1', l1'⟩, n'⟩, ⟨k', i'⟩⟩ := r'
  simp [Route.enc] at h
  simp [h]
theorem app_at2 {α : Type} (H : List α) (x y z : α) (r : List α) : (H ++ x :: y :: z :: r)[H.length + 2]? = some z := by
  rw [List.getElem?_append_right (by omega), Nat.add_sub_cancel_left]; rfl
theorem app_at3 {α : Type} (H : List α) (x y z u : α) (r : List α) : (H ++ x :: y :: z :: u :: r)[H.length + 3]? = some u := by
  rw [List.getElem?_append_right (by omega), Nat.add_sub_cancel_left]; rfl
theorem app_at4 {α : Type} (H : List α) (x y z u v : α) (r : List α) : (H ++ x :: y :: z :: u :: v :: r)[H.length + 4]? = some v := by
  rw [List.getElem?_append_right (by omega), Nat.add_sub_cancel_left]; rfl
theorem app_at5 {α : Type} (H : List α) (x y z u v w : α) (r : List α) : (H ++ x :: y :: z :: u :: v :: w :: r)[H.length + 5]? = some w := by
  rw [List.getElem?_append_right (by omega), Nat.add_sub_cancel_left]; rfl
theorem app_low {α : Type} (H r : List α) (j : Nat) (h : j < H.length) : (H ++ r)[j]? = H[j]? := List.getElem?_append_left h
theorem app_set0 {α : Type} (H : List α) (x y : α) (r : List α) : (H ++ x :: r).set H.length y = H ++ y :: r := by
  rw [List.set_append_right _ _ (Nat.le_refl _), Nat.sub_self]; rfl
theorem app_set1 {α : Type} (H : List α) (x x1 y : α) (r : List α) : (H ++ x :: x1 :: r).set (H.length + 1) y = H ++ x :: y :: r := by
  rw [List.set_append_right _ _ (by omega), Nat.add_sub_cancel_left]; rfl
theorem app_set2 {α : Type} (H : List α) (x x1 x2 y : α) (r : List α) : (H ++ x :: x1 :: x2 :: r).set (H.length + 2) y = H ++ x :: x1 :: y :: r := by
  rw [List.set_append_right _ _ (by omega), Nat.add_sub_cancel_left]; rfl
theorem app_set3 {α : Type} (H : List α) (x x1 x2 x3 y : α) (r : List α) : (H ++ x :: x1 :: x2 :: x3 :: r).set (H.length + 3) y = H ++ x :: x1 :: x2 :: y :: r := by
  rw [List.set_append_right _ _ (by omega), Nat.add_sub_cancel_left]; rfl
attribute [go_sem] app_at2 app_at3 app_at4 app_at5 app_set0 app_set1 app_set2 app_set3
/-- the node at the i-th step, as the way finds it. -/
def Tr.nC (T : Tr) (six : Bool) (a : Addr) (i : Nat) : C := match T.S (path six a i) with
  | some _ => .ptr (T.pos (path six a i)) 0 0 (if i = 0 then 1 else 0)
  | none => .v (.pointer none)
end Go.Sp
namespace Go.Proofs.YtnopihhconklnaaDoor.S
open Go Go.En Go.Sp Go.Proofs Go.Proofs.YtnopihhconklnaaDoor.T
set_option maxRecDepth 10000
set_option linter.unusedSimpArgs false
set_option linter.unusedVariables false
set_option maxHeartbeats 1000000
theorem trie_Along (H : List Blk) (b0 : Nat) (a : Sp.Addr) : En.Call Tryd.prog false 64 [.c (.ptr b0 0 0 0), .agg a.enc] H fun v H' => v = .c (.fn 76 [.ptr H.length 0 0 0, .ptr (H.length + 1) 0 0 0]) ∧
    H' = H ++ [⟨103, 1, 0, [[.ptr b0 0 0 0]]⟩, ⟨28, 2, 0, [a.enc]⟩] := by
  refine cr_of 100 Tryd.func64 rfl (ev_ ?_)
  trivial
theorem trie_Longest (H : List Blk) (base b0 : Nat) (six : Bool) (T : Tr) (a : Sp.Addr) (h : TR 119 117 85 H base b0 six T) :
    En.Call Tryd.prog false 53 [.c (.ptr b0 0 0 0), .agg a.enc] H fun v H' => v = .tup [.agg ((longest six a T.S).getD routeZ).enc, VB (longest six a T.S).isSome] ∧ H.length ≤ H'.length ∧ ∀ j, j < H.length → H'[j]? = H[j]? := by
  refine cr_of 100 Tryd.func53 rfl (ev_ ?_)
  refine callR 100 (trie_Along _ b0 a) ?_
  rintro v H' ⟨rfl, rfl⟩
  refine ev_ ?_
  refine range_st 100 100 Tryd.func76 rfl
    (LonY 28 85 4 103 H b0 a) (LonZ 28 85 4 103 H b0 a) noX
    (LonI 28 85 4 103 H b0 a (longest six a T.S)) noSX ?_ ?_ ?_ (fun _ _ h => h.elim)
  · rintro l vs G ⟨o, r, hI, rfl⟩
    refine ⟨rfl, ?_⟩
    refine ev_ ?_
    refine shows_run (n := 100) ?_
    have hl := hI.len
    have f2 : ∀ X : Blk, (G ++ [X])[H.length + 2]? = some ⟨85, 6, 0, [(o.getD routeZ).enc]⟩ := fun X => by rw [List.getElem?_append_left (by omega)]; exact hI.x2
    have f3 : ∀ X Y : Blk, ((G ++ [X]).set (H.length + 2) Y)[H.length + 3]? = some ⟨4, 1, 0, [[.v (.bool o.isSome)]]⟩ := fun X Y => by rw [List.getElem?_set_ne (by omega), List.getElem?_append_left (by omega)]; exact hI.x3
    have hh := And.intro f2 f3
    refine evh ?_
    exact ⟨_, wkS, by simp, r, hI.step _ r, rfl⟩
  · intro l
    refine ev_ ?_
    have hlenH : ∀ (G : List Blk), H.length + 6 ≤ G.length → H.length ≤ G.length := fun G h => by omega
    obtain ⟨w1, w2⟩ := wide_le six
    let G0 : List Blk := H ++ [⟨28, 2, 0, [a.enc]⟩, ⟨85, 6, 0, [routeZ.enc]⟩, ⟨85, 6, 0, [routeZ.enc]⟩, ⟨4, 1, 0, [[.v (.bool false)]]⟩, ⟨103, 1, 0, [[.ptr b0 0 0 0]]⟩, ⟨28, 2, 0, [a.enc]⟩]
    have hnC0 : T.nC six a 0 = .ptr b0 0 0 1 := by
      cases hs : T.S (path six a 0) with
      | none => exact absurd hs (by rw [path_zero]; exact h.some0)
      | some v => rw [path_zero] at hs; simp [Tr.nC, hs, path_zero, h.pos0]
    refine loop_st (σ := Nat × Option Route × List Blk) 100 (fun x => [(5, VI .i64 x.1), (4, .c (T.nC six a x.1)), (0, .c (.yld l)), (1, .c (.ptr (H.length + 4) 0 0 0)), (2, .c (.ptr (H.length + 4 + 1) 0 0 0))]) (fun x => x.2.2)
      (fun x => (x.1 : Int) ≤ wide six ∧ lastN six a T.S x.1 = x.2.1 ∧ LonI 28 85 4 103 H b0 a x.2.1 x.2.2) (fun x => (wide six).toNat - x.1) (0, none, G0)
      ⟨w1, rfl, ⟨fun j hj => app_low _ _ j hj, app_at0 _ _ _, app_at1 _ _ _ _, app_at2 _ _ _ _ _, app_at3 _ _ _ _ _ _, app_at4 _ _ _ _ _ _ _, app_at5 _ _ _ _ _ _ _ _, by simp [G0]⟩⟩ ?_ ?_ ?_
    · refine wkS ?_
      simp [subT, lk, hnC0]
    · rintro ⟨i, o, G⟩ ⟨_, _, hI⟩
      have := hI.len
      simp only [List.length_append, List.length_cons, List.length_nil]
      omega
    rintro ⟨i, o, G⟩ Q' ⟨hi, ho, hI⟩ hn hx hr
    simp only at hi ho hI
    have hTR := h.same hI.low
    have hl := hI.len
    cases hs : T.S (path six a i) with
    | none =>
      have hnc : T.nC six a i = .v (.pointer none) := by simp [Tr.nC, hs]
      have hh := hnc
      refine evh ?_
      refine hx 0 _ _ _ rfl (ev_ ?_)
      refine ⟨.inl trivial, ?_⟩
      have := (lastN_end h.pre hs ((wide six).toNat + 1) (by omega)).2
      show LonI _ _ _ _ H b0 a (lastN six a T.S ((wide six).toNat + 1)) G
      rw [this, ho]
      exact hI
    | some v =>
      have hnc : T.nC six a i = .ptr (T.pos (path six a i)) 0 0 (if i = 0 then 1 else 0) := by simp [Tr.nC, hs]
      have hnode := hTR.node (path six a i) (by rw [hs]; simp)
      generalize hpp : path six a i = p at *
      have hnx0 := lastN_succ six a T.S i
      rw [hpp, hs, ho] at hnx0
      by_cases hz : i = 0
      · have hq0 : p = [] := by rw [← hpp, hz]; rfl
        rw [if_pos hz] at hnc
        simp only [Tr.nB, if_pos hq0] at hnode
        have hr0 := hTR.node [] hTR.some0
        rw [hTR.pos0] at hr0
        simp only [Tr.nB, if_true] at hr0
        cases v with
        | none =>
          have hv : T.vC p = .v (.pointer none) := by simp [Tr.vC, hs]
          have hh := And.intro hnc (And.intro hnode (And.intro hv (And.intro hr0 (And.intro hI.x4 hI.x5))))
          refine evh ?_
          refine callI 100 (evh ?_)
          refine br_d (fun hw => ?_) (fun hw => ?_)
          · refine hr _ _ ⟨.inr rfl, ?_⟩
            show LonI _ _ _ _ H b0 a (lastN six a T.S ((wide six).toNat + 1)) G
            rw [show (wide six).toNat = i by omega, hnx0]
            exact hI
          · refine draw 100 (by kernel_rfl) [0, 1, 2, 3, 4, 5, 6, 8, 9, 7, 10, 11, 12] (by kernel_rfl) (evh ?_)
            refine callN 100 (trie_bit six a i (by omega) (by omega)) ?_
            have hp1 := path_succ six a i
            rw [hpp] at hp1
            rcases bitP_01 six a i with hbit | hbit
            · rw [hbit] at hp1 ⊢
              rw [show ((0 : Int) == 1) = false from rfl] at hp1
              have hnx : T.nC six a (i + 1) = T.kC (p ++ [false]) := by
                simp only [Tr.nC, Tr.kC, hp1]
                cases T.S (p ++ [false]) <;> simp
              refine evh ?_
              simp only [i64In]
              exact ⟨by omega, by omega, hn (i + 1, _, G) _ _ (wkS (by simp [subT, lk, hnx])) ⟨by simp only; omega, hnx0, hI⟩ (by simp only; omega)⟩
            · rw [hbit] at hp1 ⊢
              rw [show ((1 : Int) == 1) = true from rfl] at hp1
              have hnx : T.nC six a (i + 1) = T.kC (p ++ [true]) := by
                simp only [Tr.nC, Tr.kC, hp1]
                cases T.S (p ++ [true]) <;> simp
              refine evh ?_
              simp only [i64In]
              exact ⟨by omega, by omega, hn (i + 1, _, G) _ _ (wkS (by simp [subT, lk, hnx])) ⟨by simp only; omega, hnx0, hI⟩ (by simp only; omega)⟩
        | some r =>
          have hv : T.vC p = .ptr (T.vp p) 0 0 0 := by simp [Tr.vC, hs]
          have hval := hTR.val p r hs
          have hh := And.intro hnc (And.intro hnode (And.intro hv hval))
          refine evh ?_
          clear hh
          refine yld_ok 100 (by simp) ⟨o, r, hI, rfl⟩ ?_ (fun _ _ h => h.elim)
          rintro G' ⟨r', hI', he⟩
          obtain rfl : r = r' := enc_inj (by simpa [Route.enc] using he)
          have hTR' := h.same hI'.low
          have hnode' := hTR'.node p (by rw [hs]; simp)
          simp only [Tr.nB, if_pos hq0] at hnode'
          have hr0' := hTR'.node [] hTR'.some0
          rw [hTR'.pos0] at hr0'
          simp only [Tr.nB, if_true] at hr0'
          have hh := And.intro hnc (And.intro hnode' (And.intro hr0' (And.intro hI'.x4 hI'.x5)))
          refine evh ?_
          refine callI 100 (evh ?_)
          refine br_d (fun hw => ?_) (fun hw => ?_)
          · refine hr _ _ ⟨.inr rfl, ?_⟩
            show LonI _ _ _ _ H b0 a (lastN six a T.S ((wide six).toNat + 1)) G'
            rw [show (wide six).toNat = i by omega, hnx0]
            exact hI'
          · refine draw 100 (by kernel_rfl) [0, 1, 2, 3, 4, 5, 6, 8, 9, 7, 10, 11, 12] (by kernel_rfl) (evh ?_)
            refine callN 100 (trie_bit six a i (by omega) (by omega)) ?_
            have hp1 := path_succ six a i
            rw [hpp] at hp1
            rcases bitP_01 six a i with hbit | hbit
            · rw [hbit] at hp1 ⊢
              rw [show ((0 : Int) == 1) = false from rfl] at hp1
              have hnx : T.nC six a (i + 1) = T.kC (p ++ [false]) := by
                simp only [Tr.nC, Tr.kC, hp1]
                cases T.S (p ++ [false]) <;> simp
              refine evh ?_
              simp only [i64In]
              exact ⟨by omega, by omega, hn (i + 1, _, G') _ _ (wkS (by simp [subT, lk, hnx])) ⟨by simp only; omega, hnx0, hI'⟩ (by simp only; omega)⟩
            · rw [hbit] at hp1 ⊢
              rw [show ((1 : Int) == 1) = true from rfl] at hp1
              have hnx : T.nC six a (i + 1) = T.kC (p ++ [true]) := by
                simp only [Tr.nC, Tr.kC, hp1]
                cases T.S (p ++ [true]) <;> simp
              refine evh ?_
              simp only [i64In]
              exact ⟨by omega, by omega, hn (i + 1, _, G') _ _ (wkS (by simp [subT, lk, hnx])) ⟨by simp only; omega, hnx0, hI'⟩ (by simp only; omega)⟩
      · have hq0 : ¬ p = [] := fun e => hz (by have := path_len six a i; rw [hpp, e] at this; simpa using this.symm)
        rw [if_neg hz] at hnc
        simp only [Tr.nB, if_neg hq0] at hnode
        have hr0 := hTR.node [] hTR.some0
        rw [hTR.pos0] at hr0
        simp only [Tr.nB, if_true] at hr0
        cases v with
        | none =>
          have hv : T.vC p = .v (.pointer none) := by simp [Tr.vC, hs]
          have hh := And.intro hnc (And.intro hnode (And.intro hv (And.intro hr0 (And.intro hI.x4 hI.x5))))
          refine evh ?_
          refine callI 100 (evh ?_)
          refine br_d (fun hw => ?_) (fun hw => ?_)
          · refine hr _ _ ⟨.inr rfl, ?_⟩
            show LonI _ _ _ _ H b0 a (lastN six a T.S ((wide six).toNat + 1)) G
            rw [show (wide six).toNat = i by omega, hnx0]
            exact hI
          · refine draw 100 (by kernel_rfl) [0, 1, 2, 3, 4, 5, 6, 8, 9, 7, 10, 11, 12] (by kernel_rfl) (evh ?_)
            refine callN 100 (trie_bit six a i (by omega) (by omega)) ?_
            have hp1 := path_succ six a i
            rw [hpp] at hp1
            rcases bitP_01 six a i with hbit | hbit
            · rw [hbit] at hp1 ⊢
              rw [show ((0 : Int) == 1) = false from rfl] at hp1
              have hnx : T.nC six a (i + 1) = T.kC (p ++ [false]) := by
                simp only [Tr.nC, Tr.kC, hp1]
                cases T.S (p ++ [false]) <;> simp
              refine evh ?_
              simp only [i64In]
              exact ⟨by omega, by omega, hn (i + 1, _, G) _ _ (wkS (by simp [subT, lk, hnx])) ⟨by simp only; omega, hnx0, hI⟩ (by simp only; omega)⟩
            · rw [hbit] at hp1 ⊢
              rw [show ((1 : Int) == 1) = true from rfl] at hp1
              have hnx : T.nC six a (i + 1) = T.kC (p ++ [true]) := by
                simp only [Tr.nC, Tr.kC, hp1]
                cases T.S (p ++ [true]) <;> simp
              refine evh ?_
              simp only [i64In]
              exact ⟨by omega, by omega, hn (i + 1, _, G) _ _ (wkS (by simp [subT, lk, hnx])) ⟨by simp only; omega, hnx0, hI⟩ (by simp only; omega)⟩
        | some r =>
          have hv : T.vC p = .ptr (T.vp p) 0 0 0 := by simp [Tr.vC, hs]
          have hval := hTR.val p r hs
          have hh := And.intro hnc (And.intro hnode (And.intro hv hval))
          refine evh ?_
          clear hh
          refine yld_ok 100 (by simp) ⟨o, r, hI, rfl⟩ ?_ (fun _ _ h => h.elim)
          rintro G' ⟨r', hI', he⟩
          obtain rfl : r = r' := enc_inj (by simpa [Route.enc] using he)
          have hTR' := h.same hI'.low
          have hnode' := hTR'.node p (by rw [hs]; simp)
          simp only [Tr.nB, if_neg hq0] at hnode'
          have hr0' := hTR'.node [] hTR'.some0
          rw [hTR'.pos0] at hr0'
          simp only [Tr.nB, if_true] at hr0'
          have hh := And.intro hnc (And.intro hnode' (And.intro hr0' (And.intro hI'.x4 hI'.x5)))
          refine evh ?_
          refine callI 100 (evh ?_)
          refine br_d (fun hw => ?_) (fun hw => ?_)
          · refine hr _ _ ⟨.inr rfl, ?_⟩
            show LonI _ _ _ _ H b0 a (lastN six a T.S ((wide six).toNat + 1)) G'
            rw [show (wide six).toNat = i by omega, hnx0]
            exact hI'
          · refine draw 100 (by kernel_rfl) [0, 1, 2, 3, 4, 5, 6, 8, 9, 7, 10, 11, 12] (by kernel_rfl) (evh ?_)
            refine callN 100 (trie_bit six a i (by omega) (by omega)) ?_
            have hp1 := path_succ six a i
            rw [hpp] at hp1
            rcases bitP_01 six a i with hbit | hbit
            · rw [hbit] at hp1 ⊢
              rw [show ((0 : Int) == 1) = false from rfl] at hp1
              have hnx : T.nC six a (i + 1) = T.kC (p ++ [false]) := by
                simp only [Tr.nC, Tr.kC, hp1]
                cases T.S (p ++ [false]) <;> simp
              refine evh ?_
              simp only [i64In]
              exact ⟨by omega, by omega, hn (i + 1, _, G') _ _ (wkS (by simp [subT, lk, hnx])) ⟨by simp only; omega, hnx0, hI'⟩ (by simp only; omega)⟩
            · rw [hbit] at hp1 ⊢
              rw [show ((1 : Int) == 1) = true from rfl] at hp1
              have hnx : T.nC six a (i + 1) = T.kC (p ++ [true]) := by
                simp only [Tr.nC, Tr.kC, hp1]
                cases T.S (p ++ [true]) <;> simp
              refine evh ?_
              simp only [i64In]
              exact ⟨by omega, by omega, hn (i + 1, _, G') _ _ (wkS (by simp [subT, lk, hnx])) ⟨by simp only; omega, hnx0, hI'⟩ (by simp only; omega)⟩
  · intro G hI
    refine shows_run (n := 100) ?_
    have hl := hI.len
    have f1 : ∀ X : Blk, (G.set (H.length + 1) X)[H.length + 1]? = some X := fun X => List.getElem?_set_self (by omega)
    have f2 : ∀ X : Blk, (G.set (H.length + 1) X)[H.length + 3]? = some ⟨4, 1, 0, [[.v (.bool (longest six a T.S).isSome)]]⟩ := fun X => by rw [List.getElem?_set_ne (by omega)]; exact hI.x3
    have hh := And.intro hI.x1 (And.intro hI.x2 (And.intro hI.x3 (And.intro f1 f2)))
    refine ev_ ?_
    refine drawP 100 (by kernel_rfl) (.one 0 (.two 1 (lin [2, 3]) 2 (lin [1, 3]))) (by kernel_rfl) ?_
    refine evh ?_
    have hlow : ∀ (X : Blk) (j : Nat), j < H.length → (G.set (H.length + 1) X)[j]? = H[j]? := fun X j hj => by rw [List.getElem?_set_ne (by omega)]; exact hI.low j hj
    exact ⟨⟨by simp; omega, hlow _⟩, by simp; omega, hlow _⟩
end Go.Proofs.YtnopihhconklnaaDoor.S
