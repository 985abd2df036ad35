import Derived.Test.YtnopihhconklnaaDoorEs6
/- The document's tests, put together. -/
namespace Go.Sp
open Go Go.En
/-- from the n-th on all are 0. -/
def zeroFrom (n : Int) : Nat → List Int → Bool
  | _, [] => true
  | i, b :: r => !(decide (n ≤ i) && b != 0) && zeroFrom n (i + 1) r
theorem zeroFrom_drop {n : Int} {l : List Int} {i : Nat} (h : i < l.length) : zeroFrom n i (l.drop i) = (!(decide (n ≤ i) && l[i] != 0) && zeroFrom n (i + 1) (l.drop (i + 1))) := by rw [List.drop_eq_getElem_cons h]; rfl
def prefOkR (p : Prefix) : Bool := !(decide (p.len < 0) || decide (wide p.six < p.len) || !rightAddrR p.six p.addr) && zeroFrom p.len 0 (bitsA p.six p.addr)
def rightRouteR (r : Route) : Bool := prefOkR r.pre && rightAct r.act
def routesOkR (l : List Route) : Bool := decide (l.length ≤ 256) && rowOk rightRouteR (fun a b => lessP a.pre b.pre) none l
def routerOkR (r : Router) : Bool := rightId r.id && routesOkR r.routes && linksOk r.links && (r.up || (r.routes.length + r.links.length == 0))
def pairOkR (r : Router) (s : Seat) : Bool := routerOkR r && r.id == s.router && r.up == s.up
def pairsOkR : List Router → List Seat → Bool
  | r :: l, s :: m => pairOkR r s && pairsOkR l m
  | [], _ => true
  | _ :: _, [] => false
theorem pairsOkR_drop {l : List Router} {m : List Seat} {i : Nat} (h : i < l.length) (k : i < m.length) : pairsOkR (l.drop i) (m.drop i) = (pairOkR l[i] m[i] && pairsOkR (l.drop (i + 1)) (m.drop (i + 1))) := by rw [List.drop_eq_getElem_cons h, List.drop_eq_getElem_cons k]; rfl
def netOkR (n : Net) : Bool := seatsOk n.seats && n.routers.length == n.seats.length && pairsOkR n.routers n.seats && decide (totalR n.routers ≤ 1024)
end Go.Sp
namespace Go.Proofs.YtnopihhconklnaaDoor.S
open Go Go.En Go.Sp Go.Proofs Go.Proofs.YtnopihhconklnaaDoor.T
set_option maxRecDepth 10000
set_option linter.unusedSimpArgs false
set_option linter.unusedVariables false
set_option maxHeartbeats 1000000
instance ref09_Check (b : Bool) (x y n : Int) : PSi Tryd.prog 66 [.agg [.v (.bool b), .v (.int .u64 x), .v (.int .u64 y), .v (.int .i64 n)]] (VI .i64 (why (prefOkR ⟨b, ⟨x, y⟩, n⟩))) := ⟨by
  obtain ⟨w1, w2⟩ := wide_le b
  refine ps_of 100 Tryd.func66 rfl (ev_ ?_)
  refine draw 100 (by kernel_rfl) (List.range 19) (by kernel_rfl) (ev_ ?_)
  refine br_d (fun h1 => ?_) (fun h1 => ?_)
  · simp [why, prefOkR, h1]
  refine callI 100 (ev_ ?_)
  refine br_d (fun h2 => ?_) (fun h2 => ?_)
  · simp [why, prefOkR, h2]
  refine callI 100 (ev_ ?_)
  refine br_i (fun h3 => ?_) (fun h3 => ?_)
  · refine callI 100 (ev_ ?_)
    have hl := bitsA_len b ⟨x, y⟩
    have hok : prefOkR ⟨b, ⟨x, y⟩, n⟩ = zeroFrom n 0 (bitsA b ⟨x, y⟩) := by simp [prefOkR, h1, h2, h3]
    rw [hok]
    generalize bitsA b ⟨x, y⟩ = l at *
    refine loop_st (σ := Nat) 100 (fun x => [(30, VI .i64 x), (29, VI .i64 l.length), (28, .c (.row (l.map encI))), (1, .c (.ptr 0 0 0 0))]) (fun _ => [⟨83, 4, 0, [[.v (.bool b), .v (.int .u64 x), .v (.int .u64 y), .v (.int .i64 n)]]⟩]) (fun x => x ≤ l.length ∧ zeroFrom n 0 l = zeroFrom n x (l.drop x)) (fun x => l.length - x) 0 ⟨by omega, rfl⟩ wk (fun _ _ => Nat.le_refl _) ?_
    rintro i Q' ⟨hi, hs⟩ hn hx hr
    refine ev_ (br_d (fun hil => ?_) (fun hil => ?_))
    · have hil' : i < l.length := by omega
      rw [zeroFrom_drop hil'] at hs
      refine idx_map (x := l[i]) 100 (by simp [hil']) (by omega) rfl (ev_ ?_)
      generalize l[i] = c at *
      refine br_d (fun d1 => ?_) (fun d1 => ?_)
      · refine br_i (fun d2 => ?_) (fun d2 => ?_)
        · refine hr _ _ (ev_ ?_)
          simp [why, hs, d1, d2]
        · simp only [i64In]
          exact ⟨by omega, hn (i + 1) _ _ wk ⟨by omega, by simp [hs, d2]⟩ (by omega)⟩
      · simp only [i64In]
        exact ⟨by omega, hn (i + 1) _ _ wk ⟨by omega, by simp [hs, d1]⟩ (by omega)⟩
    · refine hx 0 _ _ _ rfl (ev_ ?_)
      rw [List.drop_eq_nil_of_le (by omega)] at hs
      simp [why, hs, zeroFrom]
  · simp [why, prefOkR, h3]⟩
instance ref15_one (b : Bool) (x y n k i : Int) : PSi Tryd.prog 55 [.agg [.v (.bool b), .v (.int .u64 x), .v (.int .u64 y), .v (.int .i64 n), .v (.int .u8 k), .v (.int .i64 i)]] (VB (rightRouteR ⟨⟨b, ⟨x, y⟩, n⟩, ⟨k, i⟩⟩)) := ⟨by
  refine ps_of 100 Tryd.func55 rfl (ev_ ?_)
  refine callI 100 (ev_ ?_)
  refine br_i (fun h1 => ?_) (fun h1 => ?_)
  · refine callI 100 (ev_ ?_)
    simp_all [why, rightRouteR]
  · simp_all [why, rightRouteR]⟩
instance ref15_Check (l : List Route) : PSi Tryd.prog 41 [.c (.row (l.map Route.enc))] (VI .i64 (why (routesOkR l))) := ⟨by
  refine ps_of 100 Tryd.func41 rfl (ev_ ?_)
  refine br_d (fun h => ?_) (fun h => ?_)
  · simp [routesOkR, why]; omega
  refine loop_st (σ := Nat) 100 (fun x => [(10, VI .i64 x), (9, VI .i64 l.length), (8, .c (.row (l.map Route.enc))), (0, .c (.row (l.map Route.enc)))]) (fun _ => []) (fun x => x ≤ l.length ∧ rowOk rightRouteR (fun a b => lessP a.pre b.pre) none l = rowOk rightRouteR (fun a b => lessP a.pre b.pre) (ahd l x) (l.drop x)) (fun x => l.length - x) 0 ⟨by omega, by simp [ahd]⟩ wk (fun _ _ => Nat.le_refl _) ?_
  rintro i Q' ⟨hi, hs⟩ hn hx hr
  refine ev_ (br_d (fun hil => ?_) (fun hil => ?_))
  · have hil' : i < l.length := by omega
    rw [rowOk_take hil'] at hs
    refine idx_map (x := l[i]) 100 (by simp [hil']) (by omega) rfl (ev_ ?_)
    refine draw 100 (by kernel_rfl) (List.range 19) (by kernel_rfl) (ev_ ?_)
    refine callI 100 (ev_ ?_)
    refine br_i (fun hok => ?_) (fun hok => ?_)
    · have hok' : rightRouteR l[i] = true := hok
      refine br_d (fun c => ?_) (fun c => ?_)
      · have hi1 : i - 1 < l.length := by omega
        have e : ((i : Int) - 1).toNat = i - 1 := by omega
        simp only [i64In]
        refine ⟨by omega, idx_map (x := l[i - 1]) 100 (by rw [e]; simp [hi1]) (by omega) rfl (ev_ ?_)⟩
        refine callI 100 (ev_ ?_)
        have hah : ahd l i = some l[i - 1] := by simp [ahd, hi1]; omega
        refine br_i (fun d => ?_) (fun d => ?_)
        · have d' : lessP l[i - 1].pre l[i].pre = true := d
          simp only [i64In]
          refine ⟨by omega, hn (i + 1) _ _ wk ⟨by omega, ?_⟩ (by omega)⟩
          simp [hs, hah, hok', d', ahd_succ hil']
        · have d' : lessP l[i - 1].pre l[i].pre = false := d
          refine hr _ _ (ev_ ?_)
          simp [why, routesOkR, hs, hah, d']
      · simp only [i64In]
        refine ⟨by omega, hn (i + 1) _ _ wk ⟨by omega, ?_⟩ (by omega)⟩
        have h00 : ahd l i = none := by simp [ahd]; omega
        simp [hs, hok', h00, ahd_succ hil']
    · refine hr _ _ (ev_ ?_)
      have hok' : rightRouteR l[i] = false := hok
      simp [why, routesOkR, hs, hok']
  · refine hx 0 _ _ _ rfl (ev_ ?_)
    rw [rowOk_end (by omega)] at hs
    have : l.length ≤ 256 := by omega
    simp [why, routesOkR, hs, this]⟩
instance ref16_Check (l : List Link) : PSi Tryd.prog 42 [.c (.row (l.map Link.enc))] (VI .i64 (why (linksOk l))) := ⟨by
  refine ps_of 100 Tryd.func42 rfl (ev_ ?_)
  refine br_d (fun h => ?_) (fun h => ?_)
  · simp [linksOk, why]; omega
  refine loop_st (σ := Nat) 100 (fun x => [(10, VI .i64 x), (9, VI .i64 l.length), (8, .c (.row (l.map Link.enc))), (0, .c (.row (l.map Link.enc)))]) (fun _ => []) (fun x => x ≤ l.length ∧ rowOk rightLink (fun a b => decide (a.iface < b.iface)) none l = rowOk rightLink (fun a b => decide (a.iface < b.iface)) (ahd l x) (l.drop x)) (fun x => l.length - x) 0 ⟨by omega, by simp [ahd]⟩ wk (fun _ _ => Nat.le_refl _) ?_
  rintro i Q' ⟨hi, hs⟩ hn hx hr
  refine ev_ (br_d (fun hil => ?_) (fun hil => ?_))
  · have hil' : i < l.length := by omega
    rw [rowOk_take hil'] at hs
    refine idx_map (x := l[i]) 100 (by simp [hil']) (by omega) rfl (ev_ ?_)
    refine draw 100 (by kernel_rfl) (List.range 18) (by kernel_rfl) (ev_ ?_)
    refine callI 100 (ev_ ?_)
    refine br_i (fun hok => ?_) (fun hok => ?_)
    · have hok' : rightLink l[i] = true := hok
      refine br_d (fun c => ?_) (fun c => ?_)
      · have hi1 : i - 1 < l.length := by omega
        have e : ((i : Int) - 1).toNat = i - 1 := by omega
        simp only [i64In]
        refine ⟨by omega, idx_map (x := l[i - 1]) 100 (by rw [e]; simp [hi1]) (by omega) rfl (ev_ ?_)⟩
        have hah : ahd l i = some l[i - 1] := by simp [ahd, hi1]; omega
        refine br_d (fun d => ?_) (fun d => ?_)
        · refine hr _ _ (ev_ ?_)
          have d' : ¬ l[i - 1].iface < l[i].iface := by omega
          simp [why, linksOk, hs, hah, d']
        · have d' : l[i - 1].iface < l[i].iface := by omega
          simp only [i64In]
          refine ⟨by omega, hn (i + 1) _ _ wk ⟨by omega, ?_⟩ (by omega)⟩
          simp [hs, hah, hok', d', ahd_succ hil']
      · simp only [i64In]
        refine ⟨by omega, hn (i + 1) _ _ wk ⟨by omega, ?_⟩ (by omega)⟩
        have h00 : ahd l i = none := by simp [ahd]; omega
        simp [hs, hok', h00, ahd_succ hil']
    · refine hr _ _ (ev_ ?_)
      have hok' : rightLink l[i] = false := hok
      simp [why, linksOk, hs, hok']
  · refine hx 0 _ _ _ rfl (ev_ ?_)
    rw [rowOk_end (by omega)] at hs
    have : l.length ≤ 32 := by omega
    simp [why, linksOk, hs, this]⟩
instance ref14_Check (l : List Seat) : PSi Tryd.prog 31 [.c (.row (l.map Seat.enc))] (VI .i64 (why (seatsOk l))) := ⟨by
  refine ps_of 100 Tryd.func31 rfl (ev_ ?_)
  refine br_d (fun h => ?_) (fun h => ?_)
  · simp [seatsOk, why]; omega
  refine loop_st (σ := Nat) 100 (fun x => [(10, VI .i64 x), (9, VI .i64 l.length), (8, .c (.row (l.map Seat.enc))), (0, .c (.row (l.map Seat.enc)))]) (fun _ => []) (fun x => x ≤ l.length ∧ rowOk rightSeat (fun a b => decide (a.router < b.router)) none l = rowOk rightSeat (fun a b => decide (a.router < b.router)) (ahd l x) (l.drop x)) (fun x => l.length - x) 0 ⟨by omega, by simp [ahd]⟩ wk (fun _ _ => Nat.le_refl _) ?_
  rintro i Q' ⟨hi, hs⟩ hn hx hr
  refine ev_ (br_d (fun hil => ?_) (fun hil => ?_))
  · have hil' : i < l.length := by omega
    rw [rowOk_take hil'] at hs
    refine idx_map (x := l[i]) 100 (by simp [hil']) (by omega) rfl (ev_ ?_)
    have bad : rightSeat l[i] = false → why (seatsOk l) = 2 := fun e => by simp [why, seatsOk, hs, e]
    refine br_d (fun c0 => ?_) (fun c0 => ?_)
    · refine hr _ _ (ev_ ?_)
      rw [bad (by simp only [rightSeat, decide_eq_false_iff_not]; omega)]
    refine br_d (fun c1 => ?_) (fun c1 => ?_)
    · refine hr _ _ (ev_ ?_)
      rw [bad (by simp only [rightSeat, decide_eq_false_iff_not]; omega)]
    refine br_d (fun c2 => ?_) (fun c2 => ?_)
    · refine hr _ _ (ev_ ?_)
      rw [bad (by simp only [rightSeat, decide_eq_false_iff_not]; omega)]
    refine br_d (fun c3 => ?_) (fun c3 => ?_)
    · refine hr _ _ (ev_ ?_)
      rw [bad (by simp only [rightSeat, decide_eq_false_iff_not]; omega)]
    refine br_d (fun c4 => ?_) (fun c4 => ?_)
    · refine hr _ _ (ev_ ?_)
      rw [bad (by simp only [rightSeat, decide_eq_false_iff_not]; omega)]
    refine br_d (fun c5 => ?_) (fun c5 => ?_)
    · refine hr _ _ (ev_ ?_)
      rw [bad (by simp only [rightSeat, decide_eq_false_iff_not]; omega)]
    have hok : rightSeat l[i] = true := by simp only [rightSeat, decide_eq_true_eq]; omega
    refine draw 100 (by kernel_rfl) (List.range 13) (by kernel_rfl) (ev_ ?_)
    refine br_d (fun c => ?_) (fun c => ?_)
    · have hi1 : i - 1 < l.length := by omega
      have e : ((i : Int) - 1).toNat = i - 1 := by omega
      simp only [i64In]
      refine ⟨by omega, idx_map (x := l[i - 1]) 100 (by rw [e]; simp [hi1]) (by omega) rfl (ev_ ?_)⟩
      have hah : ahd l i = some l[i - 1] := by simp [ahd, hi1]; omega
      refine br_d (fun d => ?_) (fun d => ?_)
      · refine hr _ _ (ev_ ?_)
        have d' : ¬ l[i - 1].router < l[i].router := by omega
        simp [why, seatsOk, hs, hah, d']
      · have d' : l[i - 1].router < l[i].router := by omega
        simp only [i64In]
        refine ⟨by omega, hn (i + 1) _ _ wk ⟨by omega, ?_⟩ (by omega)⟩
        simp [hs, hah, hok, d', ahd_succ hil']
    · simp only [i64In]
      refine ⟨by omega, hn (i + 1) _ _ wk ⟨by omega, ?_⟩ (by omega)⟩
      have h00 : ahd l i = none := by simp [ahd]; omega
      simp [hs, hok, h00, ahd_succ hil']
  · refine hx 0 _ _ _ rfl (ev_ ?_)
    rw [rowOk_end (by omega)] at hs
    have : l.length ≤ 64 := by omega
    simp [why, seatsOk, hs, this]⟩
theorem ref17_Check (r : Router) (h : r.sm) : PS Tryd.prog 32 [.agg r.enc] (VI .i64 (why (routerOkR r))) := by
  obtain ⟨h1, h2⟩ := h
  simp only [big] at h1 h2
  have h3 : i64In ((r.routes.length : Int) + (r.links.length : Int)) := by simp only [i64In]; omega
  have h4 : (0 : Int) < (r.routes.length : Int) + (r.links.length : Int) ↔ ¬ (r.routes.length + r.links.length = 0) := by omega
  have bad : ¬ (0 ≤ r.id ∧ r.id ≤ 1048576) → why (routerOkR r) = 2 := fun e => by simp [why, routerOkR, rightId, e]
  refine ps_of 100 Tryd.func32 rfl (ev_ ?_)
  refine br_d (fun c1 => ?_) (fun c1 => ?_)
  · rw [bad (by omega)]
  refine br_d (fun c2 => ?_) (fun c2 => ?_)
  · rw [bad (by omega)]
  have hid : rightId r.id = true := by simp only [rightId, decide_eq_true_eq]; omega
  refine callI 100 (ev_ ?_)
  refine br_i (fun c3 => ?_) (fun c3 => ?_)
  · refine callI 100 (ev_ ?_)
    refine br_i (fun c4 => ?_) (fun c4 => ?_)
    · refine br_i (fun c5 => ?_) (fun c5 => ?_)
      · simp [why, routerOkR, hid, c3, c4, c5]
      · refine ⟨h3, br_d (fun c6 => ?_) (fun c6 => ?_)⟩
        · have := h4.1 c6
          simp [why, routerOkR, hid, c3, c4, c5]
          intro a b
          simp [a, b] at this
        · have c7 : r.routes.length + r.links.length = 0 := by omega
          simp [why, routerOkR, hid, c3, c4, c5, c7]
    · simp [why, routerOkR, c4]
  · simp [why, routerOkR, c3]
theorem ref18_many (l : List Router) (hl : l.length ≤ 64) (h : ∀ r ∈ l, r.sm) : PS Tryd.prog 33 [.c (.row (l.map Router.enc))] (VI .i64 (totalR l)) := by
  have hb := totalR_le h
  simp only [big] at hb
  refine ps_of 100 Tryd.func33 rfl (ev_ ?_)
  refine loop_st (σ := Nat × Nat) 100 (fun x => [(8, VI .i64 x.1), (7, VI .i64 l.length), (6, .c (.row (l.map Router.enc))), (3, VI .i64 x.2)]) (fun _ => []) (fun x => x.1 ≤ l.length ∧ totalR l = x.2 + totalR (l.drop x.1)) (fun x => l.length - x.1) (0, 0) ⟨by omega, by simp⟩ wk (fun _ _ => Nat.le_refl _) ?_
  rintro ⟨i, a⟩ Q' ⟨hi, hs⟩ hn hx hr
  simp only at hi hs
  refine ev_ (br_d (fun hil => ?_) (fun hil => ?_))
  · have hil' : i < l.length := by omega
    rw [totalR_drop hil'] at hs
    refine idx_map (x := l[i]) 100 (by simp [hil']) (by omega) rfl (ev_ ?_)
    generalize l[i] = x at *
    simp only [i64In]
    refine ⟨by omega, by omega, by omega, ?_⟩
    have e : ((a : Int) + ((x.routes.length : Int) + (x.links.length : Int))) = ((a + (x.routes.length + x.links.length) : Nat) : Int) := by omega
    rw [e]
    exact hn (i + 1, a + (x.routes.length + x.links.length)) _ _ wk ⟨by omega, by simp only; omega⟩ (by simp only; omega)
  · refine hx 0 _ _ _ rfl (ev_ ?_)
    rw [List.drop_eq_nil_of_le (by omega)] at hs
    simp [hs, totalR]
theorem ref18_Check (n : Net) (h1 : (n.seats.length : Int) ≤ big) (h2 : (n.routers.length : Int) ≤ big) (h : ∀ r ∈ n.routers, r.sm) : PS Tryd.prog 18 [.agg n.enc] (VI .i64 (why (netOkR n))) := by
  simp only [big] at h1 h2
  refine ps_of 100 Tryd.func18 rfl (ev_ ?_)
  refine callI 100 (ev_ ?_)
  refine br_i (fun c1 => ?_) (fun c1 => ?_)
  · refine br_i (fun c2 => ?_) (fun c2 => ?_)
    · have : ¬ n.routers.length = n.seats.length := by simp at c2; omega
      simp [why, netOkR, c1, this]
    have hle : n.seats.length ≤ 64 := by simp [seatsOk] at c1; exact c1.1
    have hlen : n.routers.length = n.seats.length := by simp at c2; omega
    have hok : netOkR n = (pairsOkR n.routers n.seats && decide (totalR n.routers ≤ 1024)) := by simp [netOkR, c1, hlen]
    rw [hok]
    refine loop_st (σ := Nat) 100 (fun x => [(21, VI .i64 x), (20, VI .i64 n.routers.length), (19, .c (.row (n.routers.map Router.enc))), (1, .c (.ptr 0 0 0 0))]) (fun _ => [⟨25, 2, 0, [n.enc]⟩]) (fun x => x ≤ n.routers.length ∧ pairsOkR n.routers n.seats = pairsOkR (n.routers.drop x) (n.seats.drop x)) (fun x => n.routers.length - x) 0 ⟨by omega, rfl⟩ wk (fun _ _ => Nat.le_refl _) ?_
    rintro i Q' ⟨hi, hs⟩ hn hx hr
    refine ev_ (br_d (fun hil => ?_) (fun hil => ?_))
    · have hil' : i < n.routers.length := by omega
      have hil2 : i < n.seats.length := by omega
      have hsm := h n.routers[i] (List.getElem_mem hil')
      rw [pairsOkR_drop hil' hil2] at hs
      refine idx_map (x := n.routers[i]) 100 (by simp [hil']) (by omega) rfl (ev_ ?_)
      have bad : pairOkR n.routers[i] n.seats[i] = false → why (pairsOkR n.routers n.seats && decide (totalR n.routers ≤ 1024)) = 2 := fun e => by rw [hs, e]; rfl
      have hx2 : n.seats[((i : Nat) : Int).toNat]? = some n.seats[i] := by simp [hil2]
      generalize n.routers[i] = x at *
      generalize n.seats[i] = y at *
      refine draw 100 (by kernel_rfl) (List.range 25) (by kernel_rfl) (ev_ ?_)
      refine callN 100 (ref17_Check x hsm) (ev_ ?_)
      refine br_i (fun d1 => ?_) (fun d1 => ?_)
      · refine idx_map (x := y) 100 hx2 (by omega) rfl (ev_ ?_)
        refine br_i (fun d2 => ?_) (fun d2 => ?_)
        · refine hr _ _ (ev_ ?_)
          rw [bad (by simp [pairOkR, d1]; intro e; simp [e] at d2)]
        · refine idx_map (x := y) 100 hx2 (by omega) rfl (ev_ ?_)
          refine br_i (fun d3 => ?_) (fun d3 => ?_)
          · simp only [i64In]
            refine ⟨by omega, hn (i + 1) _ _ wk ⟨by omega, ?_⟩ (by omega)⟩
            rw [hs]
            simp at d2
            simp [pairOkR, d1, d2, d3]
          · refine hr _ _ (ev_ ?_)
            rw [bad (by simp [pairOkR, d1, d3])]
      · refine hr _ _ (ev_ ?_)
        rw [bad (by simp [pairOkR, d1])]
    · refine hx 0 _ _ _ rfl (ev_ ?_)
      rw [List.drop_eq_nil_of_le (by omega)] at hs
      refine callN 100 (ref18_many _ (by omega) h) (ev_ ?_)
      refine br_d (fun c3 => ?_) (fun c3 => ?_)
      · have : ¬ totalR n.routers ≤ 1024 := by omega
        simp [why, this]
      · have : totalR n.routers ≤ 1024 := by omega
        simp [why, hs, pairsOkR, this]
  · simp [why, netOkR, c1]
end Go.Proofs.YtnopihhconklnaaDoor.S
