import Derived.Test.YtnopihhconklnaaDoorEs16
/- The walk. -/
namespace Go.Sp
open Go Go.En
set_option linter.unusedVariables false
structure WayOk (n : Net) (x : Int) (six : Bool) (a : Addr) (L : List Int) (h : Hop) : Prop where
  way : ∃ k, k ≤ 4000 ∧ WayS (fun t => netDoes n t six a) k [] x L h
  kind : 0 ≤ h.kind ∧ h.kind < 4
def verOf (L : List Int) (h : Hop) : Verdict := ⟨(if h.kind = 0 then 3 else if h.kind = 1 then 4 else if h.kind = 2 then 1 else 2), L.getLast?.getD 0⟩
def startWhy (n : Net) (x : Int) (six : Bool) (a : Addr) : Int := if netOk n = true ∧ rightAddr six a = true then (if 0 ≤ x ∧ x ≤ 1048576 then 0 else 1) else 2
end Go.Sp
namespace Go.Proofs.YtnopihhconklnaaDoor.S
open Go Go.En Go.Sp Go.Proofs Go.Proofs.YtnopihhconklnaaDoor.T
set_option maxRecDepth 10000
set_option linter.unusedSimpArgs false
set_option linter.unusedVariables false
set_option maxHeartbeats 1000000
theorem walk_start (n : Net) (x : Int) (six : Bool) (a : Sp.Addr) (hn : n.sm) : En.Call Tryd.prog false 16 [.agg n.enc, VI .i64 x, VB six, .agg a.enc] [] fun v H' =>
    if startWhy n x six a = 0 then ∃ b, v = .tup [.c (.ptr b 0 0 0), VI .i64 0] ∧ H'[b]? = some ⟨70, 5, 0, [[.row (n.seats.map Seat.enc), .row (n.routers.map Router.enc), .v (.bool six), .v (.int .u64 a.hi), .v (.int .u64 a.lo)]]⟩ else v = .tup [.c (.v (.pointer none)), VI .i64 (startWhy n x six a)] := by
  refine cr_of 100 Tryd.func16 rfl (ev_ ?_)
  refine callN 100 (net_Check n hn.1 hn.2.1 hn.2.2) (ev_ ?_)
  unfold startWhy
  refine br_i (fun c1 => ?_) (fun c1 => ?_)
  · rw [c1]
    refine callI 100 (ev_ ?_)
    refine br_i (fun c2 => ?_) (fun c2 => ?_)
    · rw [c2]
      simp only [true_and, if_true]
      refine br_d (fun c3 => ?_) (fun c3 => ?_)
      · have : ¬ (0 ≤ x ∧ x ≤ 1048576) := by omega
        simp [this]
      · refine br_d (fun c4 => ?_) (fun c4 => ?_)
        · have : ¬ (0 ≤ x ∧ x ≤ 1048576) := by omega
          simp [this]
        · have : 0 ≤ x ∧ x ≤ 1048576 := by omega
          simp [this]
    · rw [c2]
      simp
  · rw [c1]
    simp
theorem walk_Walk (n : Net) (x : Int) (six : Bool) (a : Sp.Addr) (hn : n.sm) (hr : startWhy n x six a = 0 → ∀ r ∈ n.routers, ∀ x ∈ r.routes, lenOk x) (L : List Int) (h : Hop) (hw : startWhy n x six a = 0 → WayOk n x six a L h) :
    PS Tryd.prog 7 [.agg n.enc, VI .i64 x, VB six, .agg a.enc] (.tup [.c (.row ((if startWhy n x six a = 0 then L else []).map encI)), .agg (if startWhy n x six a = 0 then verOf L h else ⟨0, 0⟩).enc, VI .i64 (startWhy n x six a)]) := by
  refine ps_of 100 Tryd.func7 rfl (ev_ ?_)
  refine callF [] (ev_ ?_)
  refine hR 100 (walk_start n x six a hn) ?_
  intro v H1 hv
  by_cases hs : startWhy n x six a = 0
  · rw [if_pos hs] at hv
    obtain ⟨b, rfl, hb⟩ := hv
    refine ev_ ?_
    obtain ⟨⟨k, hk, hws⟩, hkind⟩ := hw hs
    refine br_i (fun c => by simp at c) (fun _ => ?_)
    have hbH : ∀ X0 X1 X2 : Blk, (X0 :: X1 :: X2 :: rnBs [] 3 0 H1)[3 + b]? = some ⟨70, 5, 0, [[.row (n.seats.map Seat.enc), .row (n.routers.map Router.enc), .v (.bool six), .v (.int .u64 a.hi), .v (.int .u64 a.lo)]]⟩ := fun X0 X1 X2 => by
      rw [show 3 + b = b + 1 + 1 + 1 by omega]
      simp only [List.getElem?_cons_succ, rnBs_get, hb, Option.map_some]
      rfl
    refine callR 100 (walk_way _ (3 + b) n x six a hn (hr hs) (hbH _ _ _) k L h hws hk hkind) ?_
    rintro v H' ⟨b2, ver, rfl, g1, g2, g3⟩
    have e2 := g3 2 (by simp)
    simp only [List.length_cons] at g2
    have hb2 : b2 ≠ 2 := fun e => by
      subst e
      rw [g1] at e2
      simp at e2
    have hb2l := (List.getElem?_eq_some_iff.1 g1).1
    have f1 : ∀ Z : List Blk, (H' ++ Z)[2]? = some ⟨32, 2, 0, [[.v (.int .u8 0), .v (.int .i64 0)]]⟩ := fun Z => by rw [List.getElem?_append_left (by omega)]; exact e2
    have f2 : ∀ (Z : List Blk) (Y : Blk), ((H' ++ Z).set 2 Y)[2]? = some Y := fun Z Y => List.getElem?_set_self (by simp; omega)
    have f3 : ∀ (Z : List Blk) (Y : Blk), ((H' ++ Z).set 2 Y)[b2]? = some ⟨3, 1, ver, L.map encI⟩ := fun Z Y => by rw [List.getElem?_set_ne (Ne.symm hb2), List.getElem?_append_left hb2l]; exact g1
    have hh := And.intro f1 (And.intro f2 f3)
    refine ev_ ?_
    refine draw 100 (by kernel_rfl) (List.range 5) (by kernel_rfl) ?_
    refine evh ?_
    clear hh
    refine ⟨encI_isD L, ?_⟩
    have hmap : List.map (fun x => List.map nrm x) (L.map encI) = L.map encI := by rw [List.map_map]; rfl
    rw [hmap]
    simp [hs, verOf]
  · rw [if_neg hs] at hv
    subst hv
    refine ev_ ?_
    have hne : (startWhy n x six a != 0) = true := by simpa using hs
    rw [hne]
    simp [hs, br]
end Go.Proofs.YtnopihhconklnaaDoor.S
