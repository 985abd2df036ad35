import Derived.Test.YtnopihhconklnaaDoorEs4
/- Routes, links, routers, nets: the program's tests. -/
namespace Go.Sp
open Go Go.En
def rightRoute (r : Route) : Bool := rightAct r.act && prefOk r.pre
def routesOk (l : List Route) : Bool := decide (l.length ≤ 256) && rowOk rightRoute (fun a b => decide (cmpP a.pre b.pre < 0)) none l
def linksOk (l : List Link) : Bool := decide (l.length ≤ 32) && rowOk rightLink (fun a b => decide (a.iface < b.iface)) none l
def routerOk (r : Router) : Bool := rightId r.id && (r.up || (r.routes.length + r.links.length == 0)) && routesOk r.routes && linksOk r.links
/-- a router and its seat. -/
def pairOk (r : Router) (s : Seat) : Bool := routerOk r && r.id == s.router && r.up == s.up
def pairsOk : List Router → List Seat → Bool
  | r :: l, s :: m => pairOk r s && pairsOk l m
  | [], _ => true
  | _ :: _, [] => false
theorem pairsOk_drop {l : List Router} {m : List Seat} {i : Nat} (h : i < l.length) (k : i < m.length) : pairsOk (l.drop i) (m.drop i) = (pairOk l[i] m[i] && pairsOk (l.drop (i + 1)) (m.drop (i + 1))) := by rw [List.drop_eq_getElem_cons h, List.drop_eq_getElem_cons k]; rfl
def big : Int := 140737488351232
def Router.sm (r : Router) : Prop := (r.routes.length : Int) ≤ big ∧ (r.links.length : Int) ≤ big
def totalR : List Router → Nat
  | [] => 0
  | r :: l => r.routes.length + r.links.length + totalR l
def netOk (n : Net) : Bool := seatsOk n.seats && n.routers.length == n.seats.length && decide (totalR n.routers ≤ 1024) && pairsOk n.routers n.seats
theorem totalR_drop {l : List Router} {i : Nat} (h : i < l.length) : totalR (l.drop i) = l[i].routes.length + l[i].links.length + totalR (l.drop (i + 1)) := by rw [List.drop_eq_getElem_cons h]; rfl
theorem totalR_le : ∀ {l : List Router}, (∀ r ∈ l, r.sm) → (totalR l : Int) ≤ l.length * (2 * big)
  | [], _ => by simp [totalR]
  | r :: l, h => by
    have h1 := h r List.mem_cons_self
    have h2 := totalR_le (l := l) (fun x hx => h x (List.mem_cons_of_mem _ hx))
    simp only [totalR, List.length_cons, Router.sm, big] at *
    omega
theorem links_loop {l : List Link} {i : Nat} (hi : i < l.length) {a : Int} (ha : ∀ y, ahd l i = some y → a = y.iface) (h0 : ahd l i = none → a = -1) : rowOk rightLink (fun a b => decide (a.iface < b.iface)) (ahd l i) (l.drop i) = (rightLink l[i] && decide (a < l[i].iface) && rowOk rightLink (fun a b => decide (a.iface < b.iface)) (some l[i]) (l.drop (i + 1))) := by
  rw [rowOk_take hi]
  cases h : ahd l i with
  | none =>
    rw [h0 h]
    cases hr : rightLink l[i] with
    | false => rfl
    | true =>
      have : -1 < l[i].iface := by simp [rightLink, rightIface] at hr; omega
      simp [this]
  | some y => rw [ha y h]
end Go.Sp
namespace Go.Proofs.YtnopihhconklnaaDoor.S
open Go Go.En Go.Sp Go.Proofs Go.Proofs.YtnopihhconklnaaDoor.T
set_option maxRecDepth 10000
set_option linter.unusedSimpArgs false
set_option linter.unusedVariables false
set_option maxHeartbeats 1000000
instance trie_right (b : Bool) (x y n k i : Int) : PSi Tryd.prog 59 [.agg [.v (.bool b), .v (.int .u64 x), .v (.int .u64 y), .v (.int .i64 n), .v (.int .u8 k), .v (.int .i64 i)]] (VB (rightRoute ⟨⟨b, ⟨x, y⟩, n⟩, ⟨k, i⟩⟩)) := ⟨by
  refine ps_of 100 Tryd.func59 rfl (ev_ ?_)
  refine callI 100 (ev_ ?_)
  refine br_i (fun h1 => ?_) (fun h1 => ?_)
  · refine callI 100 (ev_ ?_)
    simp_all [why, rightRoute]
  · simp_all [why, rightRoute]⟩
instance trie_Cmp (b : Bool) (x y n : Int) (b' : Bool) (x' y' n' : Int) : PSi Tryd.prog 60 [.agg [.v (.bool b), .v (.int .u64 x), .v (.int .u64 y), .v (.int .i64 n)], .agg [.v (.bool b'), .v (.int .u64 x'), .v (.int .u64 y'), .v (.int .i64 n')]] (VI .i64 (cmpP ⟨b, ⟨x, y⟩, n⟩ ⟨b', ⟨x', y'⟩, n'⟩)) := ⟨by
  refine ps_of 100 Tryd.func60 rfl (ev_ ?_)
  refine draw 100 (by kernel_rfl) [0,2,5,6,7,8,10,11,12,13,1,3,4,9,14,15,16,17] (by kernel_rfl) (ev_ ?_)
  repeat refine callI 100 (ev_ ?_)
  refine callS 100 rfl ?_ rfl (cmp_Or_int3 _ _ _) (ev_ ?_)
  · simp [isD]
  simp [cmpP]⟩
instance trie_Check (l : List Route) : PSi Tryd.prog 47 [.c (.row (l.map Route.enc))] (VI .i64 (why (routesOk l))) := ⟨by
  refine ps_of 100 Tryd.func47 rfl (ev_ ?_)
  refine br_d (fun h => ?_) (fun h => ?_)
  · simp [routesOk, why]; omega
  refine loop_st (σ := Nat) 100 (fun x => [(10, VI .i64 x), (9, VI .i64 l.length), (8, .c (.row (l.map Route.enc))), (0, .c (.row (l.map Route.enc)))]) (fun _ => []) (fun x => x ≤ l.length ∧ rowOk rightRoute (fun a b => decide (cmpP a.pre b.pre < 0)) none l = rowOk rightRoute (fun a b => decide (cmpP a.pre b.pre < 0)) (ahd l x) (l.drop x)) (fun x => l.length - x) 0 ⟨by omega, by simp [ahd]⟩ wk (fun _ _ => Nat.le_refl _) ?_
  rintro i Q' ⟨hi, hs⟩ hn hx hr
  refine ev_ (br_d (fun hil => ?_) (fun hil => ?_))
  · have hil' : i < l.length := by omega
    rw [rowOk_take hil'] at hs
    refine idx_map (x := l[i]) 100 (by simp [hil']) (by omega) rfl (ev_ ?_)
    refine draw 100 (by kernel_rfl) (List.range 19) (by kernel_rfl) (ev_ ?_)
    refine callI 100 (ev_ ?_)
    refine br_i (fun hok => ?_) (fun hok => ?_)
    · have hok' : rightRoute l[i] = true := hok
      refine br_d (fun c => ?_) (fun c => ?_)
      · have hi1 : i - 1 < l.length := by omega
        have e : ((i : Int) - 1).toNat = i - 1 := by omega
        simp only [i64In]
        refine ⟨by omega, idx_map (x := l[i - 1]) 100 (by rw [e]; simp [hi1]) (by omega) rfl (ev_ ?_)⟩
        refine callI 100 (ev_ ?_)
        have hah : ahd l i = some l[i - 1] := by simp [ahd, hi1]; omega
        refine br_d (fun d => ?_) (fun d => ?_)
        · refine hr _ _ (ev_ ?_)
          have : ¬ cmpP l[i - 1].pre l[i].pre < 0 := by have d' : 0 ≤ cmpP l[i - 1].pre l[i].pre := d; omega
          simp [why, routesOk, hs, hah, this]
        · simp only [i64In]
          refine ⟨by omega, hn (i + 1) _ _ wk ⟨by omega, ?_⟩ (by omega)⟩
          have : cmpP l[i - 1].pre l[i].pre < 0 := by have d' : ¬ 0 ≤ cmpP l[i - 1].pre l[i].pre := d; omega
          simp [hs, hah, hok', this, ahd_succ hil']
      · simp only [i64In]
        refine ⟨by omega, hn (i + 1) _ _ wk ⟨by omega, ?_⟩ (by omega)⟩
        have h00 : ahd l i = none := by simp [ahd]; omega
        simp [hs, hok', h00, ahd_succ hil']
    · refine hr _ _ (ev_ ?_)
      have hok' : rightRoute l[i] = false := hok
      simp [why, routesOk, hs, hok']
  · refine hx 0 _ _ _ rfl (ev_ ?_)
    rw [rowOk_end (by omega)] at hs
    have : l.length ≤ 256 := by omega
    simp [why, routesOk, hs, this]⟩
instance links_Check (l : List Link) : PSi Tryd.prog 48 [.c (.row (l.map Link.enc))] (VI .i64 (why (linksOk l))) := ⟨by
  refine ps_of 100 Tryd.func48 rfl (ev_ ?_)
  refine br_d (fun h => ?_) (fun h => ?_)
  · simp [linksOk, why]; omega
  refine loop_st (σ := Nat × Int) 100 (fun x => [(11, VI .i64 x.1), (10, VI .i64 l.length), (9, .c (.row (l.map Link.enc))), (3, VI .i64 x.2)]) (fun _ => []) (fun x => x.1 ≤ l.length ∧ (∀ y, ahd l x.1 = some y → x.2 = y.iface) ∧ (ahd l x.1 = none → x.2 = -1) ∧ rowOk rightLink (fun a b => decide (a.iface < b.iface)) none l = rowOk rightLink (fun a b => decide (a.iface < b.iface)) (ahd l x.1) (l.drop x.1)) (fun x => l.length - x.1) (0, -1) ⟨by omega, by simp [ahd], by simp, by simp [ahd]⟩ wk (fun _ _ => Nat.le_refl _) ?_
  rintro ⟨i, a⟩ Q' ⟨hi, ha, h0, hs⟩ hn hx hr
  simp only at hi ha h0 hs
  refine ev_ (br_d (fun hil => ?_) (fun hil => ?_))
  · have hil' : i < l.length := by omega
    rw [links_loop hil' ha h0] at hs
    refine idx_map (x := l[i]) 100 (by simp [hil']) (by omega) rfl (ev_ ?_)
    have hah := ahd_succ hil'
    generalize l[i] = x at *
    refine callI 100 (ev_ ?_)
    refine br_i (fun hok => ?_) (fun hok => ?_)
    · refine br_d (fun c => ?_) (fun c => ?_)
      · refine hr _ _ (ev_ ?_)
        have : ¬ a < x.iface := by omega
        simp [why, linksOk, hs, this]
      · simp only [i64In]
        refine ⟨by omega, hn (i + 1, x.iface) _ _ wk ⟨by omega, by simp [hah], by simp [hah], ?_⟩ (by simp only; omega)⟩
        have hok' : rightLink x = true := hok
        have : a < x.iface := by omega
        simp [hs, hah, hok', this]
    · refine hr _ _ (ev_ ?_)
      have hok' : rightLink x = false := hok
      simp [why, linksOk, hs, hok']
  · refine hx 0 _ _ _ rfl (ev_ ?_)
    rw [rowOk_end (by omega)] at hs
    have : l.length ≤ 32 := by omega
    simp [why, linksOk, hs, this]⟩
theorem net_total (l : List Router) (hl : l.length ≤ 64) (h : ∀ r ∈ l, r.sm) : PS Tryd.prog 36 [.c (.row (l.map Router.enc))] (VI .i64 (totalR l)) := by
  have hb := totalR_le h
  simp only [big] at hb
  refine ps_of 100 Tryd.func36 rfl (ev_ ?_)
  refine loop_st (σ := Nat × Nat) 100 (fun x => [(8, VI .i64 x.1), (7, VI .i64 l.length), (6, .c (.row (l.map Router.enc))), (3, VI .i64 x.2)]) (fun _ => []) (fun x => x.1 ≤ l.length ∧ totalR l = x.2 + totalR (l.drop x.1)) (fun x => l.length - x.1) (0, 0) ⟨by omega, by simp⟩ wk (fun _ _ => Nat.le_refl _) ?_
  rintro ⟨i, a⟩ Q' ⟨hi, hs⟩ hn hx hr
  simp only at hi hs
  refine ev_ (br_d (fun hil => ?_) (fun hil => ?_))
  · have hil' : i < l.length := by omega
    rw [totalR_drop hil'] at hs
    refine idx_map (x := l[i]) 100 (by simp [hil']) (by omega) rfl (ev_ ?_)
    generalize l[i] = x at *
    simp only [i64In]
    refine ⟨by omega, by omega, by omega, ?_⟩
    have e : ((a : Int) + ((x.routes.length : Int) + (x.links.length : Int))) = ((a + (x.routes.length + x.links.length) : Nat) : Int) := by omega
    rw [e]
    exact hn (i + 1, a + (x.routes.length + x.links.length)) _ _ wk ⟨by omega, by simp only; omega⟩ (by simp only; omega)
  · refine hx 0 _ _ _ rfl (ev_ ?_)
    rw [List.drop_eq_nil_of_le (by omega)] at hs
    simp [hs, totalR]
theorem fib_Check (r : Router) (h : r.sm) : PS Tryd.prog 37 [.agg r.enc] (VI .i64 (why (routerOk r))) := by
  obtain ⟨h1, h2⟩ := h
  simp only [big] at h1 h2
  refine ps_of 100 Tryd.func37 rfl (ev_ ?_)
  refine callI 100 (ev_ ?_)
  have h3 : i64In ((r.routes.length : Int) + (r.links.length : Int)) := by simp only [i64In]; omega
  have h4 : (0 : Int) < (r.routes.length : Int) + (r.links.length : Int) ↔ ¬ (r.routes.length + r.links.length = 0) := by omega
  refine br_i (fun c1 => ?_) (fun c1 => ?_)
  · refine br_i (fun c2 => ?_) (fun c2 => ?_)
    · refine callI 100 (ev_ ?_)
      refine br_i (fun c3 => ?_) (fun c3 => ?_)
      · refine callI 100 (ev_ ?_)
        cases c4 : linksOk r.links <;> simp [why, routerOk, c1, c2, c3, c4, br]
      · simp [why, routerOk, c1, c2, c3]
    · refine ⟨h3, br_d (fun c5 => ?_) (fun c5 => ?_)⟩
      · have := h4.1 c5
        simp [why, routerOk, c1, c2]
        intro a b
        simp [a, b] at this
      · refine callI 100 (ev_ ?_)
        refine br_i (fun c3 => ?_) (fun c3 => ?_)
        · refine callI 100 (ev_ ?_)
          have c6 : r.routes.length + r.links.length = 0 := by omega
          cases c4 : linksOk r.links <;> simp [why, routerOk, c1, c2, c3, c4, c6, br]
        · simp [why, routerOk, c1, c2, c3]
  · simp [why, routerOk, c1]
theorem net_Check (n : Net) (h1 : (n.seats.length : Int) ≤ big) (h2 : (n.routers.length : Int) ≤ big) (h : ∀ r ∈ n.routers, r.sm) : PS Tryd.prog 27 [.agg n.enc] (VI .i64 (why (netOk n))) := by
  simp only [big] at h1 h2
  refine ps_of 100 Tryd.func27 rfl (ev_ ?_)
  refine callI 100 (ev_ ?_)
  refine br_i (fun c1 => ?_) (fun c1 => ?_)
  · refine br_i (fun c2 => ?_) (fun c2 => ?_)
    · have : ¬ n.routers.length = n.seats.length := by simp at c2; omega
      simp [why, netOk, c1, this]
    have hle : n.seats.length ≤ 64 := by simp [seatsOk] at c1; exact c1.1
    have hlen : n.routers.length = n.seats.length := by simp at c2; omega
    refine callN 100 (net_total _ (by omega) h) (ev_ ?_)
    refine br_d (fun c3 => ?_) (fun c3 => ?_)
    · have : ¬ totalR n.routers ≤ 1024 := by omega
      simp [why, netOk, c1, hlen, this]
    have h3 : totalR n.routers ≤ 1024 := by omega
    have hok : netOk n = pairsOk n.routers n.seats := by simp [netOk, c1, hlen, h3]
    rw [hok]
    refine loop_st (σ := Nat) 100 (fun x => [(28, VI .i64 x), (27, VI .i64 n.routers.length), (26, .c (.row (n.routers.map Router.enc))), (1, .c (.ptr 0 0 0 0))]) (fun _ => [⟨25, 2, 0, [n.enc]⟩]) (fun x => x ≤ n.routers.length ∧ pairsOk n.routers n.seats = pairsOk (n.routers.drop x) (n.seats.drop x)) (fun x => n.routers.length - x) 0 ⟨by omega, rfl⟩ wk (fun _ _ => Nat.le_refl _) ?_
    rintro i Q' ⟨hi, hs⟩ hn hx hr
    refine ev_ (br_d (fun hil => ?_) (fun hil => ?_))
    · have hil' : i < n.routers.length := by omega
      have hil2 : i < n.seats.length := by omega
      have hsm := h n.routers[i] (List.getElem_mem hil')
      rw [pairsOk_drop hil' hil2] at hs
      refine idx_map (x := n.routers[i]) 100 (by simp [hil']) (by omega) rfl (ev_ ?_)
      refine idx_map (x := n.seats[i]) 100 (by simp [hil2]) (by omega) rfl (ev_ ?_)
      generalize n.routers[i] = x at *
      generalize n.seats[i] = y at *
      refine callN 100 (fib_Check x hsm) (ev_ ?_)
      have bad : pairOk x y = false → why (pairsOk n.routers n.seats) = 2 := fun e => by rw [hs, e]; rfl
      refine br_i (fun d1 => ?_) (fun d1 => ?_)
      · refine br_i (fun d2 => ?_) (fun d2 => ?_)
        · refine hr _ _ (ev_ ?_)
          rw [bad (by simp [pairOk, d1]; intro e; simp [e] at d2)]
        · refine br_i (fun d3 => ?_) (fun d3 => ?_)
          · simp only [i64In]
            refine ⟨by omega, hn (i + 1) _ _ wk ⟨by omega, ?_⟩ (by omega)⟩
            rw [hs]
            simp at d2
            simp [pairOk, d1, d2, d3]
          · refine hr _ _ (ev_ ?_)
            rw [bad (by simp [pairOk, d1, d3])]
      · refine hr _ _ (ev_ ?_)
        rw [bad (by simp [pairOk, d1])]
    · refine hx 0 _ _ _ rfl (ev_ ?_)
      rw [List.drop_eq_nil_of_le (by omega)] at hs
      simp [why, hs, pairsOk]
  · simp [why, netOk, c1]
end Go.Proofs.YtnopihhconklnaaDoor.S
