import Derived.Test.YtnopihhconklnaaDoorEs7
/- Routers and links by their number. -/
namespace Go.Sp
open Go Go.En
/-- where a key stands, or would: as the search goes. -/
def bsGo (p : Nat → Bool) (i j : Nat) : Nat := if h : i < j then (if p ((i + j) / 2) then bsGo p ((i + j) / 2 + 1) j else bsGo p i ((i + j) / 2)) else i
  termination_by j - i
theorem bsGo_lt {p : Nat → Bool} {i j : Nat} (h : i < j) (k : p ((i + j) / 2) = true) : bsGo p i j = bsGo p ((i + j) / 2 + 1) j := by rw [bsGo, dif_pos h, if_pos k]
theorem bsGo_ge {p : Nat → Bool} {i j : Nat} (h : i < j) (k : p ((i + j) / 2) = false) : bsGo p i j = bsGo p i ((i + j) / 2) := by rw [bsGo, dif_pos h, if_neg (by simp [k])]
theorem bsGo_end {p : Nat → Bool} {i j : Nat} (h : ¬ i < j) : bsGo p i j = i := by rw [bsGo, dif_neg h]
def lessAt {α : Type} (f : α → Int) (l : List α) (t : Int) (i : Nat) : Bool := match l[i]? with
  | some x => decide (f x < t)
  | none => false
theorem lessAt_of {α : Type} {f : α → Int} {l : List α} {t : Int} {i : Nat} (h : i < l.length) : lessAt f l t i = decide (f l[i] < t) := by simp [lessAt, h]
def bsI {α : Type} (f : α → Int) (l : List α) (t : Int) : Nat := bsGo (lessAt f l t) 0 l.length
def bsIs {α : Type} (f : α → Int) (l : List α) (t : Int) : Bool := match l[bsI f l t]? with
  | some x => f x == t
  | none => false
theorem bsIs_lt {α : Type} {f : α → Int} {l : List α} {t : Int} (h : bsIs f l t = true) : ∃ hi : bsI f l t < l.length, f l[bsI f l t] = t := by
  unfold bsIs at h
  split at h
  · rename_i x hx
    obtain ⟨hi, rfl⟩ := List.getElem?_eq_some_iff.1 hx
    exact ⟨hi, by simpa using h⟩
  · cases h
def peerP (l : List Link) (t : Int) : Int × Int := if linksOk l then (if bsIs Link.iface l t then (((l[bsI Link.iface l t]?).map Link.peer).getD 0, 0) else (0, 3)) else (0, 2)
theorem half {i j : Nat} (h : ((i : Int) + (j : Int)) < 9223372036854775808) : IntKind.i64.wrap ((IntKind.u64.wrap ((i : Int) + (j : Int))).fdiv 2) = (((i + j) / 2 : Nat) : Int) := by
  rw [u64_id (by omega) (by omega), Int.fdiv_eq_ediv_of_nonneg _ (by omega)]
  have : i64In (((i : Int) + (j : Int)) / 2) := by simp only [i64In]; omega
  rw [i64_wrap this]
  omega
theorem cmpI_lt (a b : Int) : cmpI a b < 0 ↔ a < b := by unfold cmpI; repeat' split <;> omega
theorem cmpI_eq (a b : Int) : cmpI a b = 0 ↔ a = b := by unfold cmpI; repeat' split <;> omega
end Go.Sp
namespace Go.Proofs.YtnopihhconklnaaDoor.S
open Go Go.En Go.Sp Go.Proofs Go.Proofs.YtnopihhconklnaaDoor.T
set_option maxRecDepth 10000
set_option linter.unusedSimpArgs false
set_option linter.unusedVariables false
set_option maxHeartbeats 1000000
instance net_place_1 (r : Router) (t : Int) : PSi Tryd.prog 50 [.agg [.v (.int .i64 r.id), .v (.bool r.up), .row (r.routes.map Route.enc), .row (r.links.map Link.enc)], VI .i64 t] (VI .i64 (cmpI r.id t)) := ⟨by
  refine ps_of 100 Tryd.func50 rfl (ev_ ?_)
  refine callI 100 (ev_ ?_)
  trivial⟩
theorem bs_Router (l : List Router) (t : Int) (hl : (l.length : Int) ≤ big) : PS Tryd.prog 49 [.c (.row (l.map Router.enc)), VI .i64 t, .c (.fn 50 [])] (.tup [VI .i64 (bsI Router.id l t), VB (bsIs Router.id l t)]) := by
  simp only [big] at hl
  refine ps_of 100 Tryd.func49 rfl (ev_ ?_)
  refine loop_st (σ := Nat × Nat) 100 (fun x => [(0, .c (.row (l.map Router.enc))), (1, VI .i64 t), (2, .c (.fn 50 [])), (8, VI .i64 l.length), (9, VI .i64 x.1), (10, VI .i64 x.2)]) (fun _ => []) (fun x => x.1 ≤ x.2 ∧ x.2 ≤ l.length ∧ bsI Router.id l t = bsGo (lessAt Router.id l t) x.1 x.2) (fun x => x.2 - x.1) (0, l.length) ⟨by omega, by omega, rfl⟩ wk (fun _ _ => Nat.le_refl _) ?_
  rintro ⟨i, j⟩ Q' ⟨h1, h2, hs⟩ hn hx hr
  simp only at h1 h2 hs
  refine ev_ (br_d (fun hil => ?_) (fun hil => ?_))
  · have hij : i < j := by omega
    have hm : (i + j) / 2 < l.length := by omega
    rw [half (by omega)]
    simp only [i64In]
    refine ⟨by omega, idx_map (x := l[(i + j) / 2]) 100 (by rw [Int.toNat_natCast, List.getElem?_eq_getElem hm]) (by omega) rfl (ev_ ?_)⟩
    refine callI 100 (ev_ ?_)
    have hp := lessAt_of (f := Router.id) (t := t) hm
    refine br_d (fun c => ?_) (fun c => ?_)
    · rw [cmpI_lt] at c
      simp only [i64In]
      refine ⟨by omega, hn ((i + j) / 2 + 1, j) _ _ wk ⟨by simp only; omega, h2, ?_⟩ (by simp only; omega)⟩
      rw [hs, bsGo_lt hij (by rw [hp]; simp [c])]
    · rw [cmpI_lt] at c
      refine hn (i, (i + j) / 2) _ _ wk ⟨by simp only; omega, by simp only; omega, ?_⟩ (by simp only; omega)
      rw [hs, bsGo_ge hij (by rw [hp]; simp [c])]
  · rw [bsGo_end (by omega)] at hs
    refine hx 0 _ _ _ rfl (ev_ ?_)
    refine br_d (fun c => ?_) (fun c => ?_)
    · have hi : i < l.length := by omega
      refine idx_map (x := l[i]) 100 (by simp [hi]) (by omega) rfl (ev_ ?_)
      refine callI 100 (ev_ ?_)
      have : bsIs Router.id l t = (l[i].id == t) := by simp [bsIs, hs, hi]
      rw [this, hs]
      have e : (cmpI l[i].id t == 0) = (l[i].id == t) := by rw [Bool.eq_iff_iff, beq_iff_eq, beq_iff_eq]; exact cmpI_eq _ _
      rw [e]
    · have hi : l[i]? = none := by simp; omega
      have : bsIs Router.id l t = false := by simp [bsIs, hs, hi]
      rw [this, hs]
theorem net_place (n : Net) (t : Int) (hl : (n.routers.length : Int) ≤ big) : PS Tryd.prog 38 [.agg n.enc, VI .i64 t] (.tup [VI .i64 (bsI Router.id n.routers t), VB (bsIs Router.id n.routers t)]) := by
  refine ps_of 100 Tryd.func38 rfl (ev_ ?_)
  refine callN 100 (bs_Router _ t hl) (ev_ ?_)
  trivial
instance links_find_1 (a b t : Int) : PSi Tryd.prog 79 [.agg [.v (.int .i64 a), .v (.int .i64 b)], VI .i64 t] (VI .i64 (cmpI a t)) := ⟨by
  refine ps_of 100 Tryd.func79 rfl (ev_ ?_)
  refine callI 100 (ev_ ?_)
  trivial⟩
theorem bs_Link (l : List Link) (t : Int) (hl : (l.length : Int) ≤ big) : PS Tryd.prog 78 [.c (.row (l.map Link.enc)), VI .i64 t, .c (.fn 79 [])] (.tup [VI .i64 (bsI Link.iface l t), VB (bsIs Link.iface l t)]) := by
  simp only [big] at hl
  refine ps_of 100 Tryd.func78 rfl (ev_ ?_)
  refine loop_st (σ := Nat × Nat) 100 (fun x => [(0, .c (.row (l.map Link.enc))), (1, VI .i64 t), (2, .c (.fn 79 [])), (8, VI .i64 l.length), (9, VI .i64 x.1), (10, VI .i64 x.2)]) (fun _ => []) (fun x => x.1 ≤ x.2 ∧ x.2 ≤ l.length ∧ bsI Link.iface l t = bsGo (lessAt Link.iface l t) x.1 x.2) (fun x => x.2 - x.1) (0, l.length) ⟨by omega, by omega, rfl⟩ wk (fun _ _ => Nat.le_refl _) ?_
  rintro ⟨i, j⟩ Q' ⟨h1, h2, hs⟩ hn hx hr
  simp only at h1 h2 hs
  refine ev_ (br_d (fun hil => ?_) (fun hil => ?_))
  · have hij : i < j := by omega
    have hm : (i + j) / 2 < l.length := by omega
    rw [half (by omega)]
    simp only [i64In]
    refine ⟨by omega, idx_map (x := l[(i + j) / 2]) 100 (by rw [Int.toNat_natCast, List.getElem?_eq_getElem hm]) (by omega) rfl (ev_ ?_)⟩
    refine callI 100 (ev_ ?_)
    have hp := lessAt_of (f := Link.iface) (t := t) hm
    refine br_d (fun c => ?_) (fun c => ?_)
    · rw [cmpI_lt] at c
      simp only [i64In]
      refine ⟨by omega, hn ((i + j) / 2 + 1, j) _ _ wk ⟨by simp only; omega, h2, ?_⟩ (by simp only; omega)⟩
      rw [hs, bsGo_lt hij (by rw [hp]; simp [c])]
    · rw [cmpI_lt] at c
      refine hn (i, (i + j) / 2) _ _ wk ⟨by simp only; omega, by simp only; omega, ?_⟩ (by simp only; omega)
      rw [hs, bsGo_ge hij (by rw [hp]; simp [c])]
  · rw [bsGo_end (by omega)] at hs
    refine hx 0 _ _ _ rfl (ev_ ?_)
    refine br_d (fun c => ?_) (fun c => ?_)
    · have hi : i < l.length := by omega
      refine idx_map (x := l[i]) 100 (by simp [hi]) (by omega) rfl (ev_ ?_)
      refine callI 100 (ev_ ?_)
      have : bsIs Link.iface l t = (l[i].iface == t) := by simp [bsIs, hs, hi]
      rw [this, hs]
      have e : (cmpI l[i].iface t == 0) = (l[i].iface == t) := by rw [Bool.eq_iff_iff, beq_iff_eq, beq_iff_eq]; exact cmpI_eq _ _
      rw [e]
    · have hi : l[i]? = none := by simp; omega
      have : bsIs Link.iface l t = false := by simp [bsIs, hs, hi]
      rw [this, hs]
theorem links_find (l : List Link) (t : Int) (hl : (l.length : Int) ≤ big) : PS Tryd.prog 65 [.c (.row (l.map Link.enc)), VI .i64 t] (.tup [VI .i64 (bsI Link.iface l t), VB (bsIs Link.iface l t)]) := by
  refine ps_of 100 Tryd.func65 rfl (ev_ ?_)
  refine callN 100 (bs_Link _ t hl) (ev_ ?_)
  trivial
instance links_Peer (l : List Link) (t : Int) : PSi Tryd.prog 54 [.c (.row (l.map Link.enc)), VI .i64 t] (.tup [VI .i64 (peerP l t).1, VI .i64 (peerP l t).2]) := ⟨by
  refine ps_of 100 Tryd.func54 rfl (ev_ ?_)
  refine callI 100 (ev_ ?_)
  refine br_i (fun c1 => ?_) (fun c1 => ?_)
  · have hle : (l.length : Int) ≤ 32 := by simp [linksOk] at c1; omega
    refine callN 100 (links_find l t (by simp only [big]; omega)) (ev_ ?_)
    refine br_i (fun c2 => ?_) (fun c2 => ?_)
    · obtain ⟨hi, he⟩ := bsIs_lt c2
      refine idx_map (x := l[bsI Link.iface l t]) 100 (by rw [Int.toNat_natCast, List.getElem?_eq_getElem hi]) (by omega) rfl (ev_ ?_)
      simp [peerP, c1, c2, hi, why]
    · simp [peerP, c1, c2]
  · simp [peerP, c1, why]⟩
end Go.Proofs.YtnopihhconklnaaDoor.S
