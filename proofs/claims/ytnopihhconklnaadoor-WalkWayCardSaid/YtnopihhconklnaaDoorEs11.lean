import Derived.Test.YtnopihhconklnaaDoorEs10
/- Rows of numbers; the document's ways through routers. -/
namespace Go.Sp
open Go Go.En
/-- the first place of a number, or -1. -/
def idxI (t : Int) : Nat → List Int → Int
  | _, [] => -1
  | i, x :: r => if x = t then (i : Int) else idxI t (i + 1) r
theorem idxI_drop {t : Int} {l : List Int} {i : Nat} (h : i < l.length) : idxI t i (l.drop i) = if l[i] = t then (i : Int) else idxI t (i + 1) (l.drop (i + 1)) := by rw [List.drop_eq_getElem_cons h]; rfl
def findR (t : Int) : List Router → Option Router
  | [] => none
  | x :: r => if x.id = t then some x else findR t r
theorem findR_drop {t : Int} {l : List Router} {i : Nat} (h : i < l.length) : findR t (l.drop i) = if l[i].id = t then some l[i] else findR t (l.drop (i + 1)) := by rw [List.drop_eq_getElem_cons h]; rfl
theorem findR_mem {t : Int} : ∀ {l : List Router} (r : Router), findR t l = some r → r ∈ l
  | [], r, h => by simp [findR] at h
  | x :: l, r, h => by
    unfold findR at h
    split at h
    · cases h; exact List.mem_cons_self
    · exact List.mem_cons_of_mem _ (findR_mem r h)
def noRouter : Router := ⟨0, false, [], []⟩
def alikeFrom (n : Nat) (l m : List Int) : Bool := l.drop n == m.drop n
def pfxEq (n : Nat) (l m : List Int) : Bool := l.take n == m.take n
def hasR (p : Prefix) (six : Bool) (a : Addr) : Bool := prefOkR p && p.six == six && rightAddrR six a && pfxEq p.len.toNat (bitsA six p.addr) (bitsA six a)
def noRoute : Route := ⟨⟨false, ⟨0, 0⟩, 0⟩, ⟨0, 0⟩⟩
def startRoute : Route := ⟨⟨false, ⟨0, 0⟩, -1⟩, ⟨0, 0⟩⟩
def better (six : Bool) (a : Addr) (b r : Route) : Route := if b.pre.len < r.pre.len ∧ hasR r.pre six a = true then r else b
def bestR (six : Bool) (a : Addr) (l : List Route) : Route := l.foldl (better six a) startRoute
def bestOut (six : Bool) (a : Addr) (l : List Route) : Route × Bool := if (bestR six a l).pre.len < 0 then (noRoute, false) else (bestR six a l, true)
def peerR (t : Int) : List Link → Option Int
  | [] => none
  | x :: r => if x.iface = t then some x.peer else peerR t r
theorem peerR_drop {t : Int} {l : List Link} {i : Nat} (h : i < l.length) : peerR t (l.drop i) = if l[i].iface = t then some l[i].peer else peerR t (l.drop (i + 1)) := by rw [List.drop_eq_getElem_cons h]; rfl
def hopOf (x : Route × Bool) (peer : Int → Option Int) : Hop := if x.2 then (if x.1.act.kind = 2 then ⟨2, 0⟩ else if x.1.act.kind = 3 then ⟨3, 0⟩ else match peer x.1.act.iface with
  | some p => ⟨1, p⟩
  | none => ⟨0, 0⟩) else ⟨0, 0⟩
def doesR (r : Router) (six : Bool) (a : Addr) : Hop := hopOf (bestOut six a r.routes) (fun t => peerR t r.links)
def netDoesR (n : Net) (t : Int) (six : Bool) (a : Addr) : Hop := match findR t n.routers with
  | some r => doesR r six a
  | none => ⟨0, 0⟩
theorem bestR_take {six : Bool} {a : Addr} {l : List Route} {i : Nat} (h : i < l.length) : bestR six a (l.take (i + 1)) = better six a (bestR six a (l.take i)) l[i] := by
  unfold bestR
  rw [List.take_succ_eq_append_getElem h, List.foldl_append]
  rfl
theorem pfx_succ {n : Nat} {l m : List Int} (h : n < l.length) (k : n < m.length) : pfxEq (n + 1) l m = (pfxEq n l m && l[n] == m[n]) := by
  unfold pfxEq
  rw [List.take_succ_eq_append_getElem h, List.take_succ_eq_append_getElem k, Bool.eq_iff_iff]
  simp only [beq_iff_eq, Bool.and_eq_true]
  constructor
  · intro e
    have := List.append_inj e (by simp; omega)
    exact ⟨this.1, by simpa using this.2⟩
  · rintro ⟨e1, e2⟩
    rw [e1, e2]
theorem pfx_false {n k : Nat} {l m : List Int} (h : pfxEq n l m = false) (hk : n ≤ k) : pfxEq k l m = false := by
  cases hh : pfxEq k l m with
  | false => rfl
  | true =>
    simp only [pfxEq, beq_iff_eq] at hh
    have : l.take n = m.take n := by
      have e1 := congrArg (List.take n) hh
      rw [List.take_take, List.take_take, Nat.min_eq_left hk] at e1
      exact e1
    simp [pfxEq, this] at h
end Go.Sp
namespace Go.Proofs.YtnopihhconklnaaDoor.S
open Go Go.En Go.Sp Go.Proofs Go.Proofs.YtnopihhconklnaaDoor.T
set_option maxRecDepth 10000
set_option linter.unusedSimpArgs false
set_option linter.unusedVariables false
set_option maxHeartbeats 1000000
theorem slices_Index_int (l : List Int) (t : Int) (hl : (l.length : Int) ≤ big) : PS Tryd.prog 24 [.c (.row (l.map encI)), VI .i64 t] (VI .i64 (idxI t 0 l)) := by
  simp only [big] at hl
  refine ps_of 100 Tryd.func24 rfl (ev_ ?_)
  refine loop_st (σ := Nat) 100 (fun x => [(8, VI .i64 x), (7, VI .i64 l.length), (0, .c (.row (l.map encI))), (1, VI .i64 t)]) (fun _ => []) (fun x => x ≤ l.length ∧ idxI t 0 l = idxI t x (l.drop x)) (fun x => l.length - x) 0 ⟨by omega, rfl⟩ wk (fun _ _ => Nat.le_refl _) ?_
  rintro i Q' ⟨hi, hs⟩ hn hx hr
  refine ev_ (br_d (fun hil => ?_) (fun hil => ?_))
  · have hil' : i < l.length := by omega
    rw [idxI_drop hil'] at hs
    refine idx_map (x := l[i]) 100 (by simp [hil']) (by omega) rfl (ev_ ?_)
    generalize l[i] = x at *
    refine br_i (fun c => ?_) (fun c => ?_)
    · refine hr _ _ (ev_ ?_)
      have : x = t := by simp at c; omega
      simp [hs, this]
    · have : ¬ x = t := by simp at c; omega
      simp only [i64In]
      exact ⟨by omega, hn (i + 1) _ _ wk ⟨by omega, by simp [hs, this]⟩ (by omega)⟩
  · refine hx 0 _ _ _ rfl (ev_ ?_)
    rw [List.drop_eq_nil_of_le (by omega)] at hs
    simp [hs, idxI]
theorem slices_Contains_int (l : List Int) (t : Int) (hl : (l.length : Int) ≤ big) : PS Tryd.prog 21 [.c (.row (l.map encI)), VI .i64 t] (VB (decide (0 ≤ idxI t 0 l))) := by
  refine ps_of 100 Tryd.func21 rfl (ev_ ?_)
  refine callN 100 (slices_Index_int l t hl) (ev_ ?_)
  trivial
theorem ref23_on (l : List Int) (t : Int) (hl : (l.length : Int) ≤ big) : PS Tryd.prog 22 [.c (.row (l.map encI)), VI .i64 t] (VI .i64 (idxI t 0 l)) := by
  simp only [big] at hl
  refine ps_of 100 Tryd.func22 rfl (ev_ ?_)
  refine loop_st (σ := Nat) 100 (fun x => [(9, VI .i64 x), (8, VI .i64 l.length), (7, .c (.row (l.map encI))), (1, VI .i64 t)]) (fun _ => []) (fun x => x ≤ l.length ∧ idxI t 0 l = idxI t x (l.drop x)) (fun x => l.length - x) 0 ⟨by omega, rfl⟩ wk (fun _ _ => Nat.le_refl _) ?_
  rintro i Q' ⟨hi, hs⟩ hn hx hr
  refine ev_ (br_d (fun hil => ?_) (fun hil => ?_))
  · have hil' : i < l.length := by omega
    rw [idxI_drop hil'] at hs
    refine idx_map (x := l[i]) 100 (by simp [hil']) (by omega) rfl (ev_ ?_)
    generalize l[i] = x at *
    refine br_i (fun c => ?_) (fun c => ?_)
    · refine hr _ _ (ev_ ?_)
      have : x = t := by simpa using c
      simp [hs, this]
    · have : ¬ x = t := by simpa using c
      simp only [i64In]
      exact ⟨by omega, hn (i + 1) _ _ wk ⟨by omega, by simp [hs, this]⟩ (by omega)⟩
  · refine hx 0 _ _ _ rfl (ev_ ?_)
    rw [List.drop_eq_nil_of_le (by omega)] at hs
    simp [hs, idxI]
theorem ref16_Alike (l m : List Int) (hl : (l.length : Int) ≤ big) : PS Tryd.prog 14 [.c (.row (l.map encI)), .c (.row (m.map encI))] (VB (l == m)) := by
  simp only [big] at hl
  refine ps_of 100 Tryd.func14 rfl (ev_ ?_)
  refine br_i (fun c => ?_) (fun c => ?_)
  · have : (l == m) = false := by
      rw [beq_eq_false_iff_ne]
      rintro rfl
      simp at c
    rw [this]
  have hlm : l.length = m.length := by simp at c; omega
  refine loop_st (σ := Nat) 100 (fun x => [(13, VI .i64 x), (12, VI .i64 l.length), (0, .c (.row (l.map encI))), (1, .c (.row (m.map encI)))]) (fun _ => []) (fun x => x ≤ l.length ∧ pfxEq x l m = true) (fun x => l.length - x) 0 ⟨by omega, by simp [pfxEq]⟩ wk (fun _ _ => Nat.le_refl _) ?_
  rintro i Q' ⟨hi, hs⟩ hn hx hr
  have hlast : (l == m) = pfxEq l.length l m := by unfold pfxEq; rw [List.take_length, hlm, List.take_length]
  refine ev_ (br_d (fun hil => ?_) (fun hil => ?_))
  · have hil' : i < l.length := by omega
    have him : i < m.length := by omega
    have hp := pfx_succ hil' him
    refine draw 100 (by kernel_rfl) (List.range 9) (by kernel_rfl) (ev_ ?_)
    refine idx_map (x := l[i]) 100 (by simp [hil']) (by omega) rfl (ev_ ?_)
    refine idx_map (x := m[i]) 100 (by simp [him]) (by omega) rfl (ev_ ?_)
    generalize l[i] = x at *
    generalize m[i] = y at *
    refine br_i (fun d => ?_) (fun d => ?_)
    · refine hr _ _ (ev_ ?_)
      have : (x == y) = false := by simpa using d
      rw [this, Bool.and_false] at hp
      rw [hlast, pfx_false hp (by omega)]
    · have : (x == y) = true := by simpa using d
      rw [this, hs] at hp
      simp only [i64In]
      exact ⟨by omega, hn (i + 1) _ _ wk ⟨by omega, hp⟩ (by omega)⟩
  · refine hx 0 _ _ _ rfl (ev_ ?_)
    have : i = l.length := by omega
    subst this
    rw [hlast, hs]
theorem ref18_find (n : Net) (t : Int) (hl : (n.routers.length : Int) ≤ big) : PS Tryd.prog 43 [.agg n.enc, VI .i64 t] (.tup [.agg ((findR t n.routers).getD noRouter).enc, VB (findR t n.routers).isSome]) := by
  simp only [big] at hl
  refine ps_of 100 Tryd.func43 rfl (ev_ ?_)
  refine loop_st (σ := Nat) 100 (fun x => [(11, VI .i64 x), (10, VI .i64 n.routers.length), (9, .c (.row (n.routers.map Router.enc))), (4, .c (.ptr 1 0 0 0)), (1, VI .i64 t)]) (fun _ => [⟨25, 2, 0, [n.enc]⟩, ⟨64, 4, 0, [[.v (.int .i64 0), .v (.bool false), .e0, .e0]]⟩]) (fun x => x ≤ n.routers.length ∧ findR t n.routers = findR t (n.routers.drop x)) (fun x => n.routers.length - x) 0 ⟨by omega, rfl⟩ wk (fun _ _ => Nat.le_refl _) ?_
  rintro i Q' ⟨hi, hs⟩ hn hx hr
  refine ev_ (br_d (fun hil => ?_) (fun hil => ?_))
  · have hil' : i < n.routers.length := by omega
    rw [findR_drop hil'] at hs
    refine idx_map (x := n.routers[i]) 100 (by simp [hil']) (by omega) rfl (ev_ ?_)
    generalize n.routers[i] = x at *
    refine br_i (fun c => ?_) (fun c => ?_)
    · refine hr _ _ (ev_ ?_)
      have : x.id = t := by simpa using c
      simp [hs, this]
    · have : ¬ x.id = t := by simpa using c
      simp only [i64In]
      exact ⟨by omega, hn (i + 1) _ _ wk ⟨by omega, by simp [hs, this]⟩ (by omega)⟩
  · refine hx 0 _ _ _ rfl (ev_ ?_)
    rw [List.drop_eq_nil_of_le (by omega)] at hs
    simp [hs, findR, noRouter]
instance ref09_Has (b : Bool) (x y n : Int) (six : Bool) (u v : Int) : PSi Tryd.prog 69 [.agg [.v (.bool b), .v (.int .u64 x), .v (.int .u64 y), .v (.int .i64 n)], VB six, .agg [.v (.int .u64 u), .v (.int .u64 v)]] (VB (hasR ⟨b, ⟨x, y⟩, n⟩ six ⟨u, v⟩)) := ⟨by
  refine ps_of 100 Tryd.func69 rfl (ev_ ?_)
  refine callI 100 (ev_ ?_)
  refine br_i (fun c1 => ?_) (fun c1 => ?_)
  · refine br_i (fun c2 => ?_) (fun c2 => ?_)
    · refine callI 100 (ev_ ?_)
      refine br_i (fun c3 => ?_) (fun c3 => ?_)
      · refine draw 100 (by kernel_rfl) [0, 1, 2, 4, 5, 3, 6, 7, 8] (by kernel_rfl) (ev_ ?_)
        refine callI 100 (ev_ ?_)
        refine callI 100 (ev_ ?_)
        have e : hasR ⟨b, ⟨x, y⟩, n⟩ six ⟨u, v⟩ = pfxEq n.toNat (bitsA six ⟨x, y⟩) (bitsA six ⟨u, v⟩) := by simp [hasR, c1, c3]; simp at c2; simp [c2]
        have hn : n ≤ wide six := by
          simp [prefOkR] at c1
          simp at c2
          rw [← c2]
          omega
        have h1 := bitsA_len six ⟨x, y⟩
        have h2 := bitsA_len six ⟨u, v⟩
        obtain ⟨w1, w2⟩ := wide_le six
        rw [e]
        generalize bitsA six ⟨x, y⟩ = l at *
        generalize bitsA six ⟨u, v⟩ = m at *
        refine loop_st (σ := Nat) 100 (fun i => [(9, VI .i64 i), (8, .c (.row (m.map encI))), (7, .c (.row (l.map encI))), (3, .c (.ptr 0 0 0 0))]) (fun _ => [⟨83, 4, 0, [[.v (.bool b), .v (.int .u64 x), .v (.int .u64 y), .v (.int .i64 n)]]⟩, ⟨28, 2, 0, [[.v (.int .u64 u), .v (.int .u64 v)]]⟩]) (fun i => i ≤ n.toNat ∧ pfxEq i l m = true) (fun i => n.toNat - i) 0 ⟨by omega, by simp [pfxEq]⟩ wk (fun _ _ => Nat.le_refl _) ?_
        rintro i Q' ⟨hi, hs⟩ hn' hx hr
        refine ev_ (br_d (fun hil => ?_) (fun hil => ?_))
        · have hil' : i < l.length := by omega
          have him : i < m.length := by omega
          have hp := pfx_succ hil' him
          refine draw 100 (by kernel_rfl) (List.range 9) (by kernel_rfl) (ev_ ?_)
          refine idx_map (x := l[i]) 100 (by simp [hil']) (by omega) rfl (ev_ ?_)
          refine idx_map (x := m[i]) 100 (by simp [him]) (by omega) rfl (ev_ ?_)
          generalize l[i] = x' at *
          generalize m[i] = y' at *
          refine br_i (fun d => ?_) (fun d => ?_)
          · refine hr _ _ (ev_ ?_)
            have : (x' == y') = false := by simpa using d
            rw [this, Bool.and_false] at hp
            rw [pfx_false hp (by omega)]
          · have : (x' == y') = true := by simpa using d
            rw [this, hs] at hp
            simp only [i64In]
            exact ⟨by omega, hn' (i + 1) _ _ wk ⟨by omega, hp⟩ (by omega)⟩
        · refine hx 0 _ _ _ rfl (ev_ ?_)
          have : i = n.toNat := by
            simp [prefOkR] at c1
            omega
          subst this
          rw [hs]
      · simp [hasR, c3]
    · simp at c2
      simp [hasR, c2]
  · simp [hasR, c1]⟩
theorem ref15_Best (l : List Route) (six : Bool) (a : Sp.Addr) (hl : (l.length : Int) ≤ big) : PS Tryd.prog 58 [.c (.row (l.map Route.enc)), VB six, .agg a.enc] (.tup [.agg (bestOut six a l).1.enc, VB (bestOut six a l).2]) := by
  simp only [big] at hl
  refine ps_of 100 Tryd.func58 rfl (ev_ ?_)
  refine loop_st (σ := Nat × Route) 100 (fun x => [(15, VI .i64 x.1), (14, VI .i64 l.length), (13, .c (.row (l.map Route.enc))), (8, .c (.ptr 2 0 0 0)), (6, .c (.ptr 1 0 0 0)), (5, .c (.ptr 0 0 0 0)), (1, VB six)]) (fun x => [⟨28, 2, 0, [a.enc]⟩, ⟨85, 6, 0, [noRoute.enc]⟩, ⟨85, 6, 0, [x.2.enc]⟩]) (fun x => x.1 ≤ l.length ∧ x.2 = bestR six a (l.take x.1)) (fun x => l.length - x.1) (0, startRoute) ⟨by omega, rfl⟩ wk (fun _ _ => Nat.le_refl _) ?_
  rintro ⟨i, z⟩ Q' ⟨hi, hs⟩ hn hx hr
  simp only at hi hs
  refine ev_ (br_d (fun hil => ?_) (fun hil => ?_))
  · have hil' : i < l.length := by omega
    have hb := bestR_take (six := six) (a := a) hil'
    rw [← hs] at hb
    refine idx_map (x := l[i]) 100 (by simp [hil']) (by omega) rfl (ev_ ?_)
    generalize l[i] = x at *
    refine br_d (fun c => ?_) (fun c => ?_)
    · refine callI 100 (ev_ ?_)
      refine br_i (fun d => ?_) (fun d => ?_)
      · simp only [i64In]
        refine ⟨by omega, hn (i + 1, x) _ _ wk ⟨by omega, ?_⟩ (by simp only; omega)⟩
        have d' : hasR x.pre six a = true := d
        simp only
        rw [hb, better, if_pos ⟨c, d'⟩]
      · simp only [i64In]
        refine ⟨by omega, hn (i + 1, z) _ _ wk ⟨by omega, ?_⟩ (by simp only; omega)⟩
        have d' : hasR x.pre six a = false := d
        simp only
        rw [hb, better, if_neg (by rw [d']; simp)]
    · simp only [i64In]
      refine ⟨by omega, hn (i + 1, z) _ _ wk ⟨by omega, ?_⟩ (by simp only; omega)⟩
      simp only
      rw [hb, better, if_neg (fun e => c e.1)]
  · refine hx 0 _ _ _ rfl (ev_ ?_)
    rw [List.take_of_length_le (by omega)] at hs
    refine br_d (fun c => ?_) (fun c => ?_)
    · simp [bestOut, ← hs, c, noRoute]
    · simp [bestOut, ← hs, c]
theorem ref17_Does (r : Router) (six : Bool) (a : Sp.Addr) (h : r.sm) : PS Tryd.prog 44 [.agg r.enc, VB six, .agg a.enc] (.agg (doesR r six a).enc) := by
  obtain ⟨h1, h2⟩ := h
  have h2' := h2
  simp only [big] at h2'
  refine ps_of 100 Tryd.func44 rfl (ev_ ?_)
  refine callN 100 (ref15_Best r.routes six a h1) (ev_ ?_)
  unfold doesR hopOf
  generalize bestOut six a r.routes = z
  obtain ⟨z, is⟩ := z
  refine br_i (fun c1 => ?_) (fun c1 => ?_)
  · simp only at c1
    subst c1
    refine br_i (fun c2 => ?_) (fun c2 => ?_)
    · have : z.act.kind = 2 := by simpa using c2
      simp [this]
    have c2' : ¬ z.act.kind = 2 := by simpa using c2
    refine br_i (fun c3 => ?_) (fun c3 => ?_)
    · have : z.act.kind = 3 := by simpa using c3
      simp [this]
    have c3' : ¬ z.act.kind = 3 := by simpa using c3
    simp only [if_true, if_neg c2', if_neg c3']
    refine loop_st (σ := Nat) 100 (fun x => [(35, VI .i64 x), (34, VI .i64 r.links.length), (33, .c (.row (r.links.map Link.enc))), (7, .c (.ptr 3 0 0 0)), (6, .c (.ptr 2 0 0 0))]) (fun _ => [⟨64, 4, 0, [r.enc]⟩, ⟨28, 2, 0, [a.enc]⟩, ⟨46, 2, 0, [[.v (.int .u8 0), .v (.int .i64 0)]]⟩, ⟨85, 6, 0, [z.enc]⟩]) (fun x => x ≤ r.links.length ∧ peerR z.act.iface r.links = peerR z.act.iface (r.links.drop x)) (fun x => r.links.length - x) 0 ⟨by omega, rfl⟩ wk (fun _ _ => Nat.le_refl _) ?_
    rintro i Q' ⟨hi, hs⟩ hn hx hr
    refine ev_ (br_d (fun hil => ?_) (fun hil => ?_))
    · have hil' : i < r.links.length := by omega
      rw [peerR_drop hil'] at hs
      refine idx_map (x := r.links[i]) 100 (by simp [hil']) (by omega) rfl (ev_ ?_)
      generalize r.links[i] = x at *
      refine br_i (fun d => ?_) (fun d => ?_)
      · refine hr _ _ (ev_ ?_)
        have : x.iface = z.act.iface := by simpa using d
        simp [hs, this]
      · have : ¬ x.iface = z.act.iface := by simpa using d
        simp only [i64In]
        exact ⟨by omega, hn (i + 1) _ _ wk ⟨by omega, by simp [hs, this]⟩ (by omega)⟩
    · refine hx 0 _ _ _ rfl (ev_ ?_)
      rw [List.drop_eq_nil_of_le (by omega)] at hs
      simp [hs, peerR]
  · simp only at c1
    subst c1
    simp
theorem ref18_Does (n : Net) (t : Int) (six : Bool) (a : Sp.Addr) (hl : (n.routers.length : Int) ≤ big) (h : ∀ r ∈ n.routers, r.sm) : PS Tryd.prog 34 [.agg n.enc, VI .i64 t, VB six, .agg a.enc] (.agg (netDoesR n t six a).enc) := by
  refine ps_of 100 Tryd.func34 rfl (ev_ ?_)
  refine callN 100 (ref18_find n t hl) (ev_ ?_)
  unfold netDoesR
  have hm := findR_mem (t := t) (l := n.routers)
  generalize findR t n.routers = o at *
  cases o with
  | none => refine br_i (fun c => by simp at c) (fun c => ?_); simp
  | some r =>
    refine br_i (fun c => ?_) (fun c => by simp at c)
    refine callN 100 (ref17_Does r six a (h r (hm r rfl))) (ev_ ?_)
    simp
end Go.Proofs.YtnopihhconklnaaDoor.S
