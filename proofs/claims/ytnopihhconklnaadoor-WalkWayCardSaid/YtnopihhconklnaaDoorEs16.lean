import Derived.Test.YtnopihhconklnaaDoorEs15
/- A packet's way through a net. -/
namespace Go.Sp
open Go Go.En
set_option linter.unusedVariables false
theorem app_set4 {α : Type} (H : List α) (x x1 x2 x3 x4 y : α) (r : List α) : (H ++ x :: x1 :: x2 :: x3 :: x4 :: r).set (H.length + 4) y = H ++ x :: x1 :: x2 :: x3 :: y :: r := by
  rw [List.set_append_right _ _ (by omega), Nat.add_sub_cancel_left]; rfl
attribute [go_sem] app_set4
/-- a way: so many routers on, from one, behind those of a list. -/
def WayS (does : Int → Hop) : Nat → List Int → Int → List Int → Hop → Prop
  | 0, l, x, L, h => (l.contains x = true ∨ (does x).kind ≠ 1) ∧ L = l ++ [x] ∧ h = does x
  | k + 1, l, x, L, h => l.contains x = false ∧ (does x).kind = 1 ∧ WayS does k (l ++ [x]) (does x).peer L h
theorem WayS.len {does : Int → Hop} : ∀ {k : Nat} {l : List Int} {x : Int} {L : List Int} {h : Hop}, WayS does k l x L h → L.length = l.length + k + 1
  | 0, l, x, L, h, ⟨_, e, _⟩ => by rw [e]; simp
  | k + 1, l, x, L, h, ⟨_, _, hw⟩ => by rw [WayS.len hw]; simp; omega
def RowAt (tIs tInt : Nat) (G : List Blk) (p lo : Nat) (l : List Int) : Prop := (l = [] ∧ G[p]? = some ⟨tIs, 1, 0, [[.e0]]⟩) ∨ ∃ bl ver, lo ≤ bl ∧ G[p]? = some ⟨tIs, 1, 0, [[.own bl ver 0 l.length]]⟩ ∧ G[bl]? = some ⟨tInt, 1, ver, l.map encI⟩
structure WTy where
  v : Nat
  is_ : Nat
  m : Nat
  h : Nat
  p : Nat
  i : Nat
/-- the heap while the loop of way runs: l has come, s has been seen, h was the last hop; the iterator is at x. -/
structure WI (t : WTy) (H : List Blk) (bt : Nat) (l s : List Int) (h : Hop) (x : Int) (G : List Blk) : Prop where
  low : ∀ j, j < H.length → G[j]? = H[j]?
  x0 : G[H.length]? = some ⟨t.v, 2, 0, [[.v (.int .u8 0), .v (.int .i64 0)]]⟩
  x1 : RowAt t.is_ t.i G (H.length + 1) (H.length + 7) l
  x2 : G[H.length + 2]? = some ⟨t.m, 1, 0, [[.row (KS s)]]⟩
  x3 : G[H.length + 3]? = some ⟨t.m, 1, 0, [[.mp (H.length + 2) 0]]⟩
  x4 : G[H.length + 4]? = some ⟨t.h, 2, 0, [h.enc]⟩
  x5 : G[H.length + 5]? = some ⟨t.p, 1, 0, [[.ptr bt 0 0 0]]⟩
  x6 : G[H.length + 5 + 1]? = some ⟨t.i, 1, 0, [[.v (.int .i64 x)]]⟩
  len : H.length + 7 ≤ G.length
theorem WI.app0 {t : WTy} {H : List Blk} {bt : Nat} {h : Hop} {x : Int} {G : List Blk} (w : WI t H bt [] [] h x G) (A B : Blk) (h' : Hop) :
    WI t H bt [x] [] h' x (((G ++ A :: B :: [⟨t.i, 1, 0, [[.v (.int .i64 x)]]⟩]).set (H.length + 1) ⟨t.is_, 1, 0, [[.own (G.length + 2) 0 0 1]]⟩).set (H.length + 4) ⟨t.h, 2, 0, [h'.enc]⟩) := by
  have hl := w.len
  have key : ∀ (j : Nat) (b : Blk), j ≠ H.length + 1 → j ≠ H.length + 4 → G[j]? = some b → (((G ++ A :: B :: [⟨t.i, 1, 0, [[.v (.int .i64 x)]]⟩]).set (H.length + 1) ⟨t.is_, 1, 0, [[.own (G.length + 2) 0 0 1]]⟩).set (H.length + 4) ⟨t.h, 2, 0, [h'.enc]⟩)[j]? = some b := fun j b h1 h2 h3 => by
    rw [List.getElem?_set_ne (Ne.symm h2), List.getElem?_set_ne (Ne.symm h1), List.getElem?_append_left (List.getElem?_eq_some_iff.1 h3).1, h3]
  refine ⟨fun j hj => ?_, key _ _ (by omega) (by omega) w.x0, .inr ⟨G.length + 2, 0, by omega, ?_, ?_⟩, key _ _ (by omega) (by omega) w.x2, key _ _ (by omega) (by omega) w.x3, ?_, key _ _ (by omega) (by omega) w.x5, key _ _ (by omega) (by omega) w.x6, by simp; omega⟩
  · rw [List.getElem?_set_ne (by omega), List.getElem?_set_ne (by omega), List.getElem?_append_left (by omega)]
    exact w.low j hj
  · rw [List.getElem?_set_ne (by omega), List.getElem?_set_self (by simp; omega)]
    rfl
  · rw [List.getElem?_set_ne (by omega), List.getElem?_set_ne (by omega), List.getElem?_append_right (by omega)]
    rw [show G.length + 2 - G.length = 2 by omega]
    rfl
  · rw [List.getElem?_set_self (by simp; omega)]
theorem WI.app1 {t : WTy} {H : List Blk} {bt : Nat} {l s : List Int} {h : Hop} {x : Int} {G : List Blk} (w : WI t H bt l s h x G) {bl ver : Nat} (hb : H.length + 7 ≤ bl) (hbG : G[bl]? = some ⟨t.i, 1, ver, l.map encI⟩) (A B : Blk) (h' : Hop) :
    WI t H bt (l ++ [x]) s h' x ((((G ++ A :: [B]).set bl ⟨t.i, 1, ver + 1, l.map encI ++ [[.v (.int .i64 x)]]⟩).set (H.length + 1) ⟨t.is_, 1, 0, [[.own bl (ver + 1) 0 (l.length + 1)]]⟩).set (H.length + 4) ⟨t.h, 2, 0, [h'.enc]⟩) := by
  have hl := w.len
  have hbl := (List.getElem?_eq_some_iff.1 hbG).1
  have key : ∀ (j : Nat) (b : Blk), j ≠ H.length + 1 → j ≠ H.length + 4 → j ≠ bl → G[j]? = some b → ((((G ++ A :: [B]).set bl ⟨t.i, 1, ver + 1, l.map encI ++ [[.v (.int .i64 x)]]⟩).set (H.length + 1) ⟨t.is_, 1, 0, [[.own bl (ver + 1) 0 (l.length + 1)]]⟩).set (H.length + 4) ⟨t.h, 2, 0, [h'.enc]⟩)[j]? = some b := fun j b h1 h2 h4 h3 => by
    rw [List.getElem?_set_ne (Ne.symm h2), List.getElem?_set_ne (Ne.symm h1), List.getElem?_set_ne (Ne.symm h4), List.getElem?_append_left (List.getElem?_eq_some_iff.1 h3).1, h3]
  refine ⟨fun j hj => ?_, key _ _ (by omega) (by omega) (by omega) w.x0, .inr ⟨bl, ver + 1, by omega, ?_, ?_⟩, key _ _ (by omega) (by omega) (by omega) w.x2, key _ _ (by omega) (by omega) (by omega) w.x3, ?_, key _ _ (by omega) (by omega) (by omega) w.x5, key _ _ (by omega) (by omega) (by omega) w.x6, by simp; omega⟩
  · rw [List.getElem?_set_ne (by omega), List.getElem?_set_ne (by omega), List.getElem?_set_ne (by omega), List.getElem?_append_left (by omega)]
    exact w.low j hj
  · rw [List.getElem?_set_ne (by omega), List.getElem?_set_self (by simp; omega)]
    simp
  · rw [List.getElem?_set_ne (by omega), List.getElem?_set_ne (by omega), List.getElem?_set_self (by simp; omega)]
    simp [encI]
  · rw [List.getElem?_set_self (by simp; omega)]
/-- one more has been seen. -/
theorem WI.seen {t : WTy} {H : List Blk} {bt : Nat} {l s : List Int} {h : Hop} {x : Int} {G : List Blk} (w : WI t H bt l s h x G) (s' : List Int) : WI t H bt l s' h x (G.set (H.length + 2) ⟨t.m, 1, 0, [[.row (KS s')]]⟩) := by
  have hl := w.len
  have key : ∀ (j : Nat) (b : Blk), j ≠ H.length + 2 → G[j]? = some b → (G.set (H.length + 2) ⟨t.m, 1, 0, [[.row (KS s')]]⟩)[j]? = some b := fun j b h1 h3 => by rw [List.getElem?_set_ne (Ne.symm h1), h3]
  refine ⟨fun j hj => by rw [List.getElem?_set_ne (by omega)]; exact w.low j hj, key _ _ (by omega) w.x0, ?_, List.getElem?_set_self (by omega), key _ _ (by omega) w.x3, key _ _ (by omega) w.x4, key _ _ (by omega) w.x5, key _ _ (by omega) w.x6, by simp; exact hl⟩
  rcases w.x1 with ⟨h1, h2⟩ | ⟨bl, ver, h1, h2, h3⟩
  · exact .inl ⟨h1, key _ _ (by omega) h2⟩
  · exact .inr ⟨bl, ver, h1, key _ _ (by omega) h2, key _ _ (by omega) h3⟩
/-- the iterator goes on. -/
theorem WI.next {t : WTy} {H : List Blk} {bt : Nat} {l s : List Int} {h : Hop} {x : Int} {G : List Blk} (w : WI t H bt l s h x G) (Z : List Blk) (y : Int) : WI t H bt l s h y ((G ++ Z).set (H.length + 5 + 1) ⟨t.i, 1, 0, [[.v (.int .i64 y)]]⟩) := by
  have hl := w.len
  have key : ∀ (j : Nat) (b : Blk), j ≠ H.length + 5 + 1 → G[j]? = some b → ((G ++ Z).set (H.length + 5 + 1) ⟨t.i, 1, 0, [[.v (.int .i64 y)]]⟩)[j]? = some b := fun j b h1 h3 => by rw [List.getElem?_set_ne (Ne.symm h1), List.getElem?_append_left (List.getElem?_eq_some_iff.1 h3).1, h3]
  refine ⟨fun j hj => by rw [List.getElem?_set_ne (by omega), List.getElem?_append_left (by omega)]; exact w.low j hj, key _ _ (by omega) w.x0, ?_, key _ _ (by omega) w.x2, key _ _ (by omega) w.x3, key _ _ (by omega) w.x4, key _ _ (by omega) w.x5, List.getElem?_set_self (by simp; omega), by simp; omega⟩
  rcases w.x1 with ⟨h1, h2⟩ | ⟨bl, ver, h1, h2, h3⟩
  · exact .inl ⟨h1, key _ _ (by omega) h2⟩
  · exact .inr ⟨bl, ver, h1, key _ _ (by omega) h2, key _ _ (by omega) h3⟩
theorem WI.grow {t : WTy} {H : List Blk} {bt : Nat} {l s : List Int} {h : Hop} {x : Int} {G : List Blk} (w : WI t H bt l s h x G) (Z : List Blk) : WI t H bt l s h x (G ++ Z) := by
  have hl := w.len
  have key : ∀ (j : Nat) (b : Blk), G[j]? = some b → (G ++ Z)[j]? = some b := fun j b h3 => by rw [List.getElem?_append_left (List.getElem?_eq_some_iff.1 h3).1, h3]
  refine ⟨fun j hj => by rw [List.getElem?_append_left (by omega)]; exact w.low j hj, key _ _ w.x0, ?_, key _ _ w.x2, key _ _ w.x3, key _ _ w.x4, key _ _ w.x5, key _ _ w.x6, by simp; omega⟩
  rcases w.x1 with ⟨h1, h2⟩ | ⟨bl, ver, h1, h2, h3⟩
  · exact .inl ⟨h1, key _ _ h2⟩
  · exact .inr ⟨bl, ver, h1, key _ _ h2, key _ _ h3⟩
/-- what is no row of numbers stays. -/
def KeepT (ti lo : Nat) (G G' : List Blk) : Prop := ∀ (j : Nat) (b : Blk), lo ≤ j → G[j]? = some b → b.t ≠ ti → G'[j]? = some b
theorem keep_app0 {ti lo n : Nat} {G : List Blk} (hn : n + 5 ≤ lo) (Z : List Blk) (U V : Blk) : KeepT ti lo G (((G ++ Z).set (n + 1) U).set (n + 4) V) := fun j b h1 h2 h3 => by
  rw [List.getElem?_set_ne (by omega), List.getElem?_set_ne (by omega), List.getElem?_append_left (List.getElem?_eq_some_iff.1 h2).1, h2]
theorem keep_app1 {ti lo n bl s v : Nat} {es : List (List C)} {G : List Blk} (hn : n + 5 ≤ lo) (hbl : G[bl]? = some ⟨ti, s, v, es⟩) (Z : List Blk) (W U V : Blk) : KeepT ti lo G ((((G ++ Z).set bl W).set (n + 1) U).set (n + 4) V) := fun j b h1 h2 h3 => by
  have : bl ≠ j := fun e => by
    subst e
    rw [hbl] at h2
    cases h2
    exact h3 rfl
  rw [List.getElem?_set_ne (by omega), List.getElem?_set_ne (by omega), List.getElem?_set_ne this, List.getElem?_append_left (List.getElem?_eq_some_iff.1 h2).1, h2]
theorem KeepT.set {ti lo n : Nat} {G G' : List Blk} (h : KeepT ti lo G G') (hn : n < lo) (U : Blk) : KeepT ti lo G (G'.set n U) := fun j b h1 h2 h3 => by
  rw [List.getElem?_set_ne (by omega)]; exact h j b h1 h2 h3
theorem KS_inj {l m : List Int} (h : KS l = KS m) : l = m := by
  exact (List.map_inj_right (fun a b e => by simpa using e)).1 h
def WayY (t : WTy) (H : List Blk) (bt : Nat) (does : Int → Hop) (vs : List V) (G : List Blk) : Prop := ∃ (l : List Int) (h : Hop) (x : Int), WI t H bt l l h x G ∧ l.length ≤ 4096 ∧ vs = [VI .i64 x, .agg (does x).enc]
def WayZ (t : WTy) (H : List Blk) (bt : Nat) (does : Int → Hop) (vs : List V) (G G' : List Blk) : Prop := ∃ (l : List Int) (h : Hop) (x : Int), WI t H bt l l h x G ∧ l.contains x = false ∧ WI t H bt (l ++ [x]) (l ++ [x]) (does x) x G' ∧ KeepT t.i (H.length + 7) G G'
def WayZX (t : WTy) (H : List Blk) (bt : Nat) (does : Int → Hop) (c : Code) (vs : List V) (G G' : List Blk) : Prop := c = .exit 0 ∧ ∃ (l : List Int) (h : Hop) (x : Int), WI t H bt l l h x G ∧ l.contains x = true ∧ WI t H bt (l ++ [x]) l (does x) x G'
def WayE (t : WTy) (H : List Blk) (bt : Nat) (L : List Int) (h : Hop) (G : List Blk) : Prop := ∃ s x, WI t H bt L s h x G
def WayEX (t : WTy) (H : List Blk) (bt : Nat) (L : List Int) (h : Hop) (c : Code) (G : List Blk) : Prop := c = .exit 0 ∧ ∃ s x, WI t H bt L s h x G
theorem WI.same {t : WTy} {H : List Blk} {bt : Nat} {l m l' m' : List Int} {h h' : Hop} {x y : Int} {G : List Blk} (w : WI t H bt l m h x G) (w' : WI t H bt l' m' h' y G) : m = m' ∧ x = y := by
  have h1 := w.x2.symm.trans w'.x2
  have h2 := w.x6.symm.trans w'.x6
  simp at h1 h2
  exact ⟨KS_inj h1, h2⟩
def WayR7 (t : WTy) (H : List Blk) (bt : Nat) (G0 : List Blk) (l : List Int) (does : Int → Hop) (x : Int) (tm : TM) (G : List Blk) : Prop := tm = [(9, VI .i64 x), (7, .c (.ptr (H.length + 3) 0 0 0))] ∧ WI t H bt (l ++ [x]) l (does x) x G ∧ G0.length ≤ G.length ∧ KeepT t.i (H.length + 7) G0 G
def WayR0 (t : WTy) (H G : List Blk) (l : Nat) (h : Hop) (tm : TM) (G' : List Blk) : Prop := tm = [(0, .c (.yld l)), (1, .c (.ptr (H.length + 5) 0 0 0)), (2, .c (.ptr (H.length + 5 + 1) 0 0 0)), (4, .c (.ptr G.length 0 0 0))] ∧ G' = G ++ [⟨t.h, 2, 0, [h.enc]⟩]
end Go.Sp
namespace Go.Proofs.YtnopihhconklnaaDoor.S
open Go Go.En Go.Sp Go.Proofs Go.Proofs.YtnopihhconklnaaDoor.T
set_option maxRecDepth 10000
set_option linter.unusedSimpArgs false
set_option linter.unusedVariables false
set_option maxHeartbeats 1000000
theorem walk_steps (H : List Blk) (bt : Nat) (x : Int) : En.Call Tryd.prog false 30 [.c (.ptr bt 0 0 0), VI .i64 x] H fun v H' => v = .c (.fn 40 [.ptr H.length 0 0 0, .ptr (H.length + 1) 0 0 0]) ∧
    H' = H ++ [⟨49, 1, 0, [[.ptr bt 0 0 0]]⟩, ⟨3, 1, 0, [[.v (.int .i64 x)]]⟩] := by
  refine cr_of 100 Tryd.func30 rfl (ev_ ?_)
  trivial
theorem walk_way (H : List Blk) (bt : Nat) (n : Net) (x : Int) (six : Bool) (a : Sp.Addr) (hn' : n.sm) (hr' : ∀ r ∈ n.routers, ∀ x ∈ r.routes, lenOk x) (hb : H[bt]? = some ⟨70, 5, 0, [[.row (n.seats.map Seat.enc), .row (n.routers.map Router.enc), .v (.bool six), .v (.int .u64 a.hi), .v (.int .u64 a.lo)]]⟩)
    (k : Nat) (L : List Int) (h : Hop) (hw : WayS (fun t => netDoes n t six a) k [] x L h) (hk : k ≤ 4000) (hL : 0 ≤ h.kind ∧ h.kind < 4) :
    En.Call Tryd.prog false 17 [.c (.ptr bt 0 0 0), VI .i64 x] H fun v H' => ∃ b ver, v = .tup [.c (.own b ver 0 L.length), .agg (Verdict.enc ⟨(if h.kind = 0 then 3 else if h.kind = 1 then 4 else if h.kind = 2 then 1 else 2), L.getLast?.getD 0⟩)] ∧ H'[b]? = some ⟨3, 1, ver, L.map encI⟩ ∧ H.length ≤ H'.length ∧ ∀ j, j < H.length → H'[j]? = H[j]? := by
  refine cr_of 100 Tryd.func17 rfl (ev_ ?_)
  refine callR 100 (walk_steps _ bt x) ?_
  rintro v H' ⟨rfl, rfl⟩
  refine ev_ ?_
  have hH : ∀ Z : List Blk, (H ++ Z)[bt]? = H[bt]? := fun Z => List.getElem?_append_left (List.getElem?_eq_some_iff.1 hb).1
  refine range_st 100 100 Tryd.func40 rfl
    (WayY ⟨32, 29, 71, 46, 49, 3⟩ H bt (fun t => netDoes n t six a)) (WayZ ⟨32, 29, 71, 46, 49, 3⟩ H bt (fun t => netDoes n t six a))
    (WayZX ⟨32, 29, 71, 46, 49, 3⟩ H bt (fun t => netDoes n t six a)) (WayE ⟨32, 29, 71, 46, 49, 3⟩ H bt L h)
    (WayEX ⟨32, 29, 71, 46, 49, 3⟩ H bt L h) ?_ ?_ ?_ ?_
  · rintro l vs G ⟨li, hp, y, hI, hll, rfl⟩
    refine ⟨rfl, ?_⟩
    refine ev_ ?_
    refine shows_run (n := 100) (ev_ ?_)
    have hl := hI.len
    refine cutS (WayR7 ⟨32, 29, 71, 46, 49, 3⟩ H bt G li (fun t => netDoes n t six a) y) ?_ ?_
    · rcases hI.x1 with ⟨rfl, h1⟩ | ⟨bl, ver, h1, h2, h3⟩
      · have f1 : ∀ Z : List Blk, (G ++ Z)[H.length + 1]? = some ⟨29, 1, 0, [[.e0]]⟩ := fun Z => by rw [List.getElem?_append_left (by omega)]; exact h1
        have f2 : ∀ (Z : List Blk) (W : Blk), ((G ++ Z).set (H.length + 1) W)[H.length + 4]? = some ⟨46, 2, 0, [hp.enc]⟩ := fun Z W => by rw [List.getElem?_set_ne (by omega), List.getElem?_append_left (by omega)]; exact hI.x4
        have f3 : ∀ (A : Blk) (Z : List Blk) (W : Blk), ((G ++ A :: Z).set (H.length + 1) W)[G.length]? = some A := fun A Z W => by rw [List.getElem?_set_ne (by omega)]; exact app_at0 _ _ _
        have hh := And.intro f1 (And.intro f2 f3)
        refine drawP 100 (by kernel_rfl) (.one 0 (.one 1 (.two 2 (.two 3 (.two 4 (lin [5, 6]) 5 (lin [4, 6])) 4 (lin [3, 5, 6])) 4 (lin [2, 3, 5, 6])))) (by kernel_rfl) ?_
        refine evh ?_
        have hX := hI.app0 ⟨46, 2, 0, [(netDoes n y six a).enc]⟩ ⟨3, 1, 0, [[.v (.int .i64 y)]]⟩ (netDoes n y six a)
        and_intros
        all_goals first | (intro x hx; simp at hx; subst hx; rfl) | exact ⟨[(9, VI .i64 y), (7, .c (.ptr (H.length + 3) 0 0 0))], by simp [subT, lk], rfl, hX, by simp, keep_app0 (by omega) _ _ _⟩
      · have hbl := (List.getElem?_eq_some_iff.1 h3).1
        have f1 : ∀ Z : List Blk, (G ++ Z)[H.length + 1]? = some ⟨29, 1, 0, [[.own bl ver 0 li.length]]⟩ := fun Z => by rw [List.getElem?_append_left (by omega)]; exact h2
        have f1' : ∀ Z : List Blk, (G ++ Z)[bl]? = some ⟨3, 1, ver, li.map encI⟩ := fun Z => by rw [List.getElem?_append_left (by omega)]; exact h3
        have f1'' : ∀ (Z : List Blk) (W : Blk), ((G ++ Z).set bl W)[H.length + 1]? = some ⟨29, 1, 0, [[.own bl ver 0 li.length]]⟩ := fun Z W => by rw [List.getElem?_set_ne (by omega), List.getElem?_append_left (by omega)]; exact h2
        have f2 : ∀ (Z : List Blk) (Y W : Blk), (((G ++ Z).set bl Y).set (H.length + 1) W)[H.length + 4]? = some ⟨46, 2, 0, [hp.enc]⟩ := fun Z Y W => by rw [List.getElem?_set_ne (by omega), List.getElem?_set_ne (by omega), List.getElem?_append_left (by omega)]; exact hI.x4
        have f3 : ∀ (A : Blk) (Z : List Blk) (Y : Blk), ((G ++ A :: Z).set bl Y)[G.length]? = some A := fun A Z Y => by rw [List.getElem?_set_ne (by omega)]; exact app_at0 _ _ _
        have f4 : ∀ (A : Blk) (Z : List Blk) (Y W : Blk), (((G ++ A :: Z).set bl Y).set (H.length + 1) W)[G.length]? = some A := fun A Z Y W => by rw [List.getElem?_set_ne (by omega), List.getElem?_set_ne (by omega)]; exact app_at0 _ _ _
        have hh := And.intro f1 (And.intro f2 (And.intro f3 (And.intro f4 (And.intro f1' f1''))))
        refine drawP 100 (by kernel_rfl) (.one 0 (.one 1 (.two 2 (.two 3 (.two 4 (lin [5, 6]) 5 (lin [4, 6])) 4 (lin [3, 5, 6])) 4 (lin [2, 3, 5, 6])))) (by kernel_rfl) ?_
        refine evh ?_
        have hX := hI.app1 h1 h3 ⟨46, 2, 0, [(netDoes n y six a).enc]⟩ ⟨3, 1, 0, [[.v (.int .i64 y)]]⟩ (netDoes n y six a)
        and_intros
        all_goals first | omega | (intro x hx; simp at hx; subst hx; rfl) | exact ⟨[(9, VI .i64 y), (7, .c (.ptr (H.length + 3) 0 0 0))], by simp [subT, lk], rfl, hX, by simp, keep_app1 (by omega) h3 _ _ _ _⟩
    · rintro tm G' ⟨rfl, hw, hgl, hkp⟩
      refine shows_run (n := 100) ?_
      have hh := And.intro hw.x2 hw.x3
      refine evh ?_
      rw [hasK_KS]
      refine br_i (fun c => ?_) (fun c => ?_)
      · exact ⟨_, wkS, hgl, rfl, li, hp, y, hI, c, hw⟩
      · have hX := hw.seen (li ++ [y])
        rw [show KS (li ++ [y]) = KS li ++ [[.v (.int .i64 y)]] by simp [KS]] at hX
        rw [c]
        exact ⟨_, wkS, by simp; exact hgl, li, hp, y, hI, c, hX, hkp.set (by omega) _⟩
  · intro l
    refine ev_ ?_
    refine loop_st (σ := Nat × List Int × Int × Hop × List Blk) 100 (fun s => [(0, .c (.yld l)), (1, .c (.ptr (H.length + 5) 0 0 0)), (2, .c (.ptr (H.length + 5 + 1) 0 0 0))]) (fun s => s.2.2.2.2)
      (fun s => WayS (fun t => netDoes n t six a) s.1 s.2.1 s.2.2.1 L h ∧ s.2.1.length + s.1 ≤ 4000 ∧ WI ⟨32, 29, 71, 46, 49, 3⟩ H bt s.2.1 s.2.1 s.2.2.2.1 s.2.2.1 s.2.2.2.2) (fun s => s.1)
      (k, [], x, ⟨0, 0⟩, H ++ [⟨32, 2, 0, [[.v (.int .u8 0), .v (.int .i64 0)]]⟩, ⟨29, 1, 0, [[.e0]]⟩, ⟨71, 1, 0, [[.row []]]⟩, ⟨71, 1, 0, [[.mp (H.length + 2) 0]]⟩, ⟨46, 2, 0, [[.v (.int .u8 0), .v (.int .i64 0)]]⟩, ⟨49, 1, 0, [[.ptr bt 0 0 0]]⟩, ⟨3, 1, 0, [[.v (.int .i64 x)]]⟩])
      ⟨hw, by simp; omega, ⟨fun j hj => app_low _ _ j hj, app_at0 _ _ _, .inl ⟨rfl, app_at1 _ _ _ _⟩, app_at2 _ _ _ _ _, app_at3 _ _ _ _ _ _, app_at4 _ _ _ _ _ _ _, app_at5 _ _ _ _ _ _ _ _, ?_, by simp⟩⟩ wkS ?_ ?_
    · show (H ++ _)[H.length + 6]? = _
      rw [List.getElem?_append_right (by omega), Nat.add_sub_cancel_left]; rfl
    · rintro ⟨k, li, y, hp, G⟩ ⟨_, _, hI⟩
      have := hI.len
      simp only [List.length_append, List.length_cons, List.length_nil]
      omega
    rintro ⟨k, li, y, hp, G⟩ Q' ⟨hws, hlk, hI⟩ hn hx hr
    simp only at hws hlk hI
    have hl := hI.len
    have hbt : G[bt]? = _ := (hI.low bt (List.getElem?_eq_some_iff.1 hb).1).trans hb
    have hh := And.intro hI.x5 (And.intro hI.x6 hbt)
    refine ev_ ?_
    refine cutS (WayR0 ⟨32, 29, 71, 46, 49, 3⟩ H G l (netDoes n y six a)) ?_ ?_
    · refine drawP 100 (by kernel_rfl) (.one 0 (.one 1 (.one 2 (.one 3 (.one 4 (.one 5 (.one 6 (.one 7 (.one 8 (.one 9 (.one 10 (.one 11 (.one 12 (.two 13 (lin [14, 15]) 14 (lin [13, 15]))))))))))))))) (by kernel_rfl) ?_
      refine evh ?_
      clear hh
      refine ⟨?_, ?_⟩
      · refine callN 100 (net_Does n y six a hn' hr') (ev_ ?_)
        exact ⟨[(0, .c (.yld l)), (1, .c (.ptr (H.length + 5) 0 0 0)), (2, .c (.ptr (H.length + 5 + 1) 0 0 0)), (4, .c (.ptr G.length 0 0 0))], by simp [subT, lk], rfl, rfl⟩
      · refine callN 100 (net_Does n y six a hn' hr') (ev_ ?_)
        exact ⟨[(0, .c (.yld l)), (1, .c (.ptr (H.length + 5) 0 0 0)), (2, .c (.ptr (H.length + 5 + 1) 0 0 0)), (4, .c (.ptr G.length 0 0 0))], by simp [subT, lk], rfl, rfl⟩
    · rintro tm G' ⟨rfl, rfl⟩
      refine shows_run (n := 100) ?_
      have f6 : ∀ Z : List Blk, (G ++ Z)[H.length + 5 + 1]? = some ⟨3, 1, 0, [[.v (.int .i64 y)]]⟩ := fun Z => by rw [List.getElem?_append_left (by omega)]; exact hI.x6
      have hh := f6
      refine evh ?_
      clear hh
      have hI' := hI.grow [⟨46, 2, 0, [(netDoes n y six a).enc]⟩]
      refine yld_ok 100 (by simp) ⟨li, hp, y, hI', by omega, rfl⟩ ?_ ?_
      · rintro G' ⟨l2, h2, y2, hJ, hc, hK, hkp⟩
        obtain ⟨rfl, rfl⟩ := hI'.same hJ
        have hx4 := hkp G.length _ (by omega) (app_at0 _ _ _) (by simp)
        have hl' := hK.len
        have hh := And.intro hx4 hK.x6
        refine evh ?_
        refine br_i (fun c1 => ?_) (fun c1 => ?_)
        · refine hr _ _ ⟨.inr rfl, ?_⟩
          have hk1 : ¬ (netDoes n y six a).kind = 1 := by simpa using c1
          cases k with
          | zero => obtain ⟨_, e1, e2⟩ := hws; exact ⟨li ++ [y], y, by rw [e1, e2]; exact hK⟩
          | succ k => exact absurd hws.2.1 hk1
        · have hk1 : (netDoes n y six a).kind = 1 := by simpa using c1
          cases k with
          | zero =>
            rcases hws.1 with e | e
            · rw [hc] at e; cases e
            · exact absurd hk1 e
          | succ k =>
            refine hn (k, li ++ [y], (netDoes n y six a).peer, netDoes n y six a, _) _ _ wkS ⟨hws.2.2, by simp; omega, ?_⟩ (by simp)
            simpa using hK.next [] (netDoes n y six a).peer
      · rintro c G' ⟨rfl, l2, h2, y2, hJ, hc, hK⟩
        obtain ⟨rfl, rfl⟩ := hI'.same hJ
        refine ev_ ?_
        cases k with
        | zero => obtain ⟨_, e1, e2⟩ := hws; exact ⟨rfl, li, y, by rw [e1, e2]; exact hK⟩
        | succ k => rw [hws.1] at hc; cases hc
  · rintro G ⟨s, y, hI⟩
    refine shows_run (n := 100) (ev_ ?_)
    have hlenL := hw.len
    simp only [List.length_nil] at hlenL
    rcases hI.x1 with ⟨e, _⟩ | ⟨bl, ver, h1, h2, h3⟩
    · rw [e] at hlenL; simp at hlenL
    have hl := hI.len
    obtain ⟨hk0, hk4⟩ := hL
    obtain ⟨kk, pp⟩ := h
    simp only at hk0 hk4
    have hx4 := hI.x4
    have hkk : kk = 0 ∨ kk = 1 ∨ kk = 2 ∨ kk = 3 := by omega
    have hz : (L.map encI)[(((L.length : Nat) : Int) - 1).toNat]? = some (encI (L.getLast?.getD 0)) := by
      have e : (((L.length : Nat) : Int) - 1).toNat = L.length - 1 := by omega
      rw [e, List.getElem?_map, List.getLast?_eq_getElem?]
      cases hg : L[L.length - 1]? with
      | none => rw [List.getElem?_eq_none_iff] at hg; omega
      | some z => rfl
    have hlow : ∀ (X : Blk) (j : Nat), j < H.length → (G.set H.length X)[j]? = H[j]? := fun X j hj => by rw [List.getElem?_set_ne (by omega)]; exact hI.low j hj
    have f0 : ∀ X : Blk, (G.set H.length X)[H.length]? = some X := fun X => List.getElem?_set_self (by omega)
    have f3 : ∀ X : Blk, (G.set H.length X)[bl]? = some ⟨3, 1, ver, L.map encI⟩ := fun X => by rw [List.getElem?_set_ne (by omega)]; exact h3
    have hh := And.intro hI.x0 (And.intro h2 (And.intro h3 (And.intro hz (And.intro hx4 f0))))
    refine draw 100 (by kernel_rfl) (List.range 14) (by kernel_rfl) ?_
    rcases hkk with rfl | rfl | rfl | rfl
    all_goals
      refine evh ?_
      exact ⟨by omega, by simp only [i64In]; omega, by omega, bl, ver, rfl, f3 _, by simp; omega, hlow _⟩
  · rintro c G ⟨rfl, s, y, hI⟩
    refine .inr ⟨0, rfl, shows_exit (n := 100) rfl (ev_ ?_)⟩
    have hlenL := hw.len
    simp only [List.length_nil] at hlenL
    rcases hI.x1 with ⟨e, _⟩ | ⟨bl, ver, h1, h2, h3⟩
    · rw [e] at hlenL; simp at hlenL
    have hl := hI.len
    obtain ⟨hk0, hk4⟩ := hL
    obtain ⟨kk, pp⟩ := h
    simp only at hk0 hk4
    have hx4 := hI.x4
    have hkk : kk = 0 ∨ kk = 1 ∨ kk = 2 ∨ kk = 3 := by omega
    have hz : (L.map encI)[(((L.length : Nat) : Int) - 1).toNat]? = some (encI (L.getLast?.getD 0)) := by
      have e : (((L.length : Nat) : Int) - 1).toNat = L.length - 1 := by omega
      rw [e, List.getElem?_map, List.getLast?_eq_getElem?]
      cases hg : L[L.length - 1]? with
      | none => rw [List.getElem?_eq_none_iff] at hg; omega
      | some z => rfl
    have hlow : ∀ (X : Blk) (j : Nat), j < H.length → (G.set H.length X)[j]? = H[j]? := fun X j hj => by rw [List.getElem?_set_ne (by omega)]; exact hI.low j hj
    have f0 : ∀ X : Blk, (G.set H.length X)[H.length]? = some X := fun X => List.getElem?_set_self (by omega)
    have f3 : ∀ X : Blk, (G.set H.length X)[bl]? = some ⟨3, 1, ver, L.map encI⟩ := fun X => by rw [List.getElem?_set_ne (by omega)]; exact h3
    have hh := And.intro hI.x0 (And.intro h2 (And.intro h3 (And.intro hz (And.intro hx4 f0))))
    refine draw 100 (by kernel_rfl) (List.range 14) (by kernel_rfl) ?_
    rcases hkk with rfl | rfl | rfl | rfl
    all_goals
      refine evh ?_
      exact ⟨by omega, by simp only [i64In]; omega, by omega, bl, ver, rfl, f3 _, by simp; omega, hlow _⟩
end Go.Proofs.YtnopihhconklnaaDoor.S
