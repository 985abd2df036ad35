import Derived.Test.YtnopihhconklnaaDoorEp3
/- Meets, Loop, Hop. -/
namespace Go.Sp
open Go Go.En
set_option linter.unusedVariables false
def hopP (n : Net) (x : Int) (six : Bool) (a : Addr) : Hop × Int := if netOkR n = true ∧ rightAddrR six a = true then (netDoesR n x six a, 0) else (⟨0, 0⟩, 2)
theorem walkR_len64 (n : Net) (x : Int) (six : Bool) (a : Addr) : ((walkR n x six a).way.length : Int) ≤ 67 := by
  unfold walkR
  split
  · rename_i c
    split
    · have := wayGo_len (fun t => netDoesR n t six a) (n.routers.length + 2) [x] x
      have h2 := netOkR_len c.1
      simp only [wayR] at *
      simp at this
      omega
    · simp
  · simp
theorem idxI_take {t : Int} {l : List Int} (h : t ∈ l.take (l.length - 1)) : idxI t 0 l < (l.length : Int) - 1 := by
  obtain ⟨k, hk⟩ := List.mem_iff_getElem?.1 h
  rw [List.getElem?_take] at hk
  split at hk
  · rename_i hlt
    have key : ∀ (l : List Int) (i k : Nat), l[k]? = some t → idxI t i l ≤ ((i + k : Nat) : Int) := by
      intro l
      induction l with
      | nil => intro i k h; simp at h
      | cons x r ih =>
        intro i k h
        unfold idxI
        split
        · omega
        · rename_i e
          cases k with
          | zero => simp at h; exact absurd h e
          | succ k => have := ih (i + 1) k (by simpa using h); omega
    have := key l 0 k hk
    omega
  · cases hk
theorem lenOk_of {n : Net} (hw : n.wf) (h : netOkR n = true) : ∀ r ∈ n.routers, ∀ x ∈ r.routes, lenOk x := fun r hr x hx => by
  have hro := (netOkR_says h).1 r hr
  simp only [routerOkR, Bool.and_eq_true] at hro
  have hxo := (routes_says hro.1.1.2).1 x hx
  simp only [rightRouteR, Bool.and_eq_true] at hxo
  have := prefOkR_says (hw r hr x hx) hxo.1
  exact ⟨this.1, this.2.1⟩
end Go.Sp
namespace Go.Proofs.YtnopihhconklnaaDoor.S
open Go Go.En Go.Sp Go.Proofs Go.Proofs.YtnopihhconklnaaDoor.T
set_option maxRecDepth 10000
set_option linter.unusedSimpArgs false
set_option linter.unusedVariables false
set_option maxHeartbeats 1000000
theorem walk_Meets (n : Net) (x : Int) (six : Bool) (a : Sp.Addr) (o : Int) (hn : n.sm) (hw : n.wf) (ha : a.wf) : PS Tryd.prog 9 [.agg n.enc, VI .i64 x, VB six, .agg a.enc, VI .i64 o] (.tup [VB (decide (0 ≤ idxI o 0 (walkR n x six a).way)), VI .i64 (walkR n x six a).why]) := by
  refine ps_of 100 Tryd.func9 rfl (ev_ ?_)
  refine callN 100 (walk_W n x six a hn hw ha) (ev_ ?_)
  refine callN 100 (slices_Contains_int _ o (walkR_len n x six a hn)) (ev_ ?_)
  trivial
theorem walk_Loop (n : Net) (x : Int) (six : Bool) (a : Sp.Addr) (hn : n.sm) (hw : n.wf) (ha : a.wf) : PS Tryd.prog 11 [.agg n.enc, VI .i64 x, VB six, .agg a.enc] (.tup [.c (.row ((loopR n x six a).1.map encI)), VI .i64 (loopR n x six a).2]) := by
  refine ps_of 100 Tryd.func11 rfl (ev_ ?_)
  refine callN 100 (walk_W n x six a hn hw ha) (ev_ ?_)
  have hl := walkR_len64 n x six a
  have hm := walkR_loop (n := n) (x := x) (six := six) (a := a)
  unfold loopR
  generalize walkR n x six a = w at *
  refine br_i (fun c => ?_) (fun c => ?_)
  · have : ¬ w.why = 0 := by simpa using c
    simp [this]
  · have hw0 : w.why = 0 := by simpa using c
    refine br_i (fun d => ?_) (fun d => ?_)
    · have : ¬ w.ver.kind = 4 := by simpa using d
      simp [hw0, roundR, this]
    · have hk : w.ver.kind = 4 := by simpa using d
      have hmem := hm hk
      have h0 : 0 ≤ idxI w.ver.at_ 0 w.way := idxI_mem.2 (List.mem_of_mem_take hmem)
      have hpos : 0 < w.way.length := List.length_pos_of_mem (List.mem_of_mem_take hmem)
      have h1 : idxI w.ver.at_ 0 w.way < (w.way.length : Int) - 1 := idxI_take hmem
      refine callN 100 (slices_Index_int w.way w.ver.at_ (by simp only [big]; omega)) (ev_ ?_)
      have hr : List.drop (idxI w.ver.at_ 0 w.way).toNat (List.take ((w.way.length : Int) - 1).toNat (List.map encI w.way)) = (roundR w.way w.ver).map encI := by
        have e : ((w.way.length : Int) - 1).toNat = w.way.length - 1 := by omega
        simp [roundR, hk, e]
      have hrl : (roundR w.way w.ver).length ≤ w.way.length := by
        simp [roundR, hk]
        omega
      have hrp : ¬ roundR w.way w.ver = [] := by
        intro e
        have := congrArg List.length e
        simp [roundR, hk] at this
        omega
      simp only [i64In]
      refine ⟨by omega, ⟨h0, by omega, by omega, fun x hx => ?_⟩, ?_⟩
      · obtain ⟨y, _, rfl⟩ := List.mem_map.1 hx
        rfl
      · rw [hr]
        refine callN 100 (slices_Clone_int (roundR w.way w.ver) (by omega)) (ev_ ?_)
        simp [hw0, hrp]
theorem net_Hop (n : Net) (x : Int) (six : Bool) (a : Sp.Addr) (hn : n.sm) (hw : n.wf) (ha : a.wf) : PS Tryd.prog 15 [.agg n.enc, VI .i64 x, VB six, .agg a.enc] (.tup [.agg (hopP n x six a).1.enc, VI .i64 (hopP n x six a).2]) := by
  refine ps_of 100 Tryd.func15 rfl (ev_ ?_)
  refine callN 100 (net_Check n hn.1 hn.2.1 hn.2.2) (ev_ ?_)
  unfold hopP
  rw [netOk_eq hw]
  refine br_i (fun c1 => ?_) (fun c1 => ?_)
  · refine callI 100 (ev_ ?_)
    rw [show (⟨a.hi, a.lo⟩ : Sp.Addr) = a from rfl, rightAddr_eq ha.l0]
    refine br_i (fun c2 => ?_) (fun c2 => ?_)
    · refine callN 100 (net_Does n x six a hn (lenOk_of hw c1)) (ev_ ?_)
      rw [netDoes_eq c1 hw ha c2]
      simp [c1, c2]
    · simp [c2]
  · simp [c1]
end Go.Proofs.YtnopihhconklnaaDoor.S
