import Derived.Test.YtnopihhconklnaaDoorEs12
/- The document's walk. -/
namespace Go.Sp
open Go Go.En
set_option linter.unusedVariables false
def Net.sm (n : Net) : Prop := (n.seats.length : Int) ≤ big ∧ (n.routers.length : Int) ≤ big ∧ ∀ r ∈ n.routers, r.sm
theorem netOkR_len {n : Net} (h : netOkR n = true) : (n.routers.length : Int) ≤ 64 := by
  simp [netOkR, seatsOk] at h
  omega
structure Walked where
  way : List Int
  ver : Verdict
  why : Int
def walkR (n : Net) (x : Int) (six : Bool) (a : Addr) : Walked := if netOkR n = true ∧ rightAddrR six a = true then (if 0 ≤ x ∧ x ≤ 1048576 then ⟨(wayR n x six a).1, (wayR n x six a).2, 0⟩ else ⟨[], ⟨0, 0⟩, 1⟩) else ⟨[], ⟨0, 0⟩, 2⟩
theorem wayGo_len (does : Int → Hop) : ∀ (f : Nat) (way : List Int) (x : Int), (wayGo does f way x).1.length ≤ way.length + f
  | 0, way, x => by simp [wayGo]
  | f + 1, way, x => by
    simp only [wayGo]
    repeat' split
    · simp
    · have := wayGo_len does f (way ++ [(does x).peer]) (does x).peer
      simp only [List.length_append, List.length_cons, List.length_nil] at this
      omega
    all_goals (simp only; omega)
theorem walkR_len (n : Net) (x : Int) (six : Bool) (a : Addr) (h : n.sm) : ((walkR n x six a).way.length : Int) ≤ big := by
  unfold walkR
  split
  · rename_i c
    split
    · have := wayGo_len (fun t => netDoesR n t six a) (n.routers.length + 2) [x] x
      have h2 := netOkR_len c.1
      simp only [wayR, big] at *
      simp at this
      omega
    · simp [big]
  · simp [big]
theorem idxI_lt {t : Int} : ∀ {l : List Int} {i : Nat}, idxI t i l < i + l.length
  | [], i => by simp [idxI]; omega
  | x :: l, i => by
    unfold idxI
    split
    · simp; omega
    · have := idxI_lt (t := t) (l := l) (i := i + 1)
      simp only [List.length_cons]
      omega
theorem wayGo_loop (does : Int → Hop) : ∀ (f : Nat) (way : List Int) (x : Int), (wayGo does f way x).2.kind = 4 → (wayGo does f way x).2.at_ ∈ (wayGo does f way x).1.take ((wayGo does f way x).1.length - 1)
  | 0, way, x => by simp [wayGo]
  | f + 1, way, x => by
    simp only [wayGo]
    split
    · split
      · rename_i c
        intro _
        simp
        exact idxI_mem.1 c
      · exact wayGo_loop does f _ _
    · repeat' split
      all_goals simp
theorem walkR_loop {n : Net} {x : Int} {six : Bool} {a : Addr} (h : (walkR n x six a).ver.kind = 4) : (walkR n x six a).ver.at_ ∈ (walkR n x six a).way.take ((walkR n x six a).way.length - 1) := by
  unfold walkR at h ⊢
  split
  · rename_i c
    rw [if_pos c] at h
    split
    · rename_i c2
      rw [if_pos c2] at h
      exact wayGo_loop _ _ _ _ h
    · rename_i c2
      rw [if_neg c2] at h
      simp at h
  · rename_i c
    rw [if_neg c] at h
    simp at h
def roundR (way : List Int) (v : Verdict) : List Int := if v.kind = 4 then (way.take (way.length - 1)).drop (idxI v.at_ 0 way).toNat else []
def loopR (n : Net) (x : Int) (six : Bool) (a : Addr) : List Int × Int := if (walkR n x six a).why = 0 then (if roundR (walkR n x six a).way (walkR n x six a).ver = [] then ([], 3) else (roundR (walkR n x six a).way (walkR n x six a).ver, 0)) else ([], (walkR n x six a).why)
end Go.Sp
namespace Go.Proofs.YtnopihhconklnaaDoor.S
open Go Go.En Go.Sp Go.Proofs Go.Proofs.YtnopihhconklnaaDoor.T
set_option maxRecDepth 10000
set_option linter.unusedSimpArgs false
set_option linter.unusedVariables false
set_option maxHeartbeats 1000000
theorem ref23_Walk (n : Net) (x : Int) (six : Bool) (a : Sp.Addr) (hs : n.sm) : PS Tryd.prog 8 [.agg n.enc, VI .i64 x, VB six, .agg a.enc] (.tup [.c (.row ((walkR n x six a).way.map encI)), .agg (walkR n x six a).ver.enc, VI .i64 (walkR n x six a).why]) := by
  obtain ⟨h1, h2, h3⟩ := hs
  refine ps_of 100 Tryd.func8 rfl (ev_ ?_)
  refine callN 100 (ref18_Check n h1 h2 h3) (ev_ ?_)
  refine br_i (fun c1 => ?_) (fun c1 => ?_)
  · refine callI 100 (ev_ ?_)
    refine br_i (fun c2 => ?_) (fun c2 => ?_)
    · have c2' : rightAddrR six a = true := c2
      refine br_d (fun c3 => ?_) (fun c3 => ?_)
      · have : ¬ (0 ≤ x ∧ x ≤ 1048576) := by omega
        simp [walkR, c1, c2', this]
      refine br_d (fun c4 => ?_) (fun c4 => ?_)
      · have : ¬ (0 ≤ x ∧ x ≤ 1048576) := by omega
        simp [walkR, c1, c2', this]
      refine callN 100 (ref23_Way n x six a (netOkR_len c1) h3) (ev_ ?_)
      refine draw 100 (by kernel_rfl) (List.range 5) (by kernel_rfl) (ev_ ?_)
      have : 0 ≤ x ∧ x ≤ 1048576 := by omega
      simp [walkR, c1, c2', this]
    · have c2' : rightAddrR six a = false := c2
      simp [walkR, c1, c2']
  · simp [walkR, c1]
theorem ref23_Meets (n : Net) (x : Int) (six : Bool) (a : Sp.Addr) (o : Int) (hs : n.sm) : PS Tryd.prog 10 [.agg n.enc, VI .i64 x, VB six, .agg a.enc, VI .i64 o] (.tup [VB (decide (0 ≤ idxI o 0 (walkR n x six a).way)), VI .i64 (walkR n x six a).why]) := by
  refine ps_of 100 Tryd.func10 rfl (ev_ ?_)
  refine callN 100 (ref23_Walk n x six a hs) (ev_ ?_)
  refine callN 100 (ref23_on _ o (walkR_len n x six a hs)) (ev_ ?_)
  trivial
theorem ref23_Round (way : List Int) (k t : Int) (hl : (way.length : Int) ≤ big) (hm : k = 4 → t ∈ way.take (way.length - 1)) : PS Tryd.prog 25 [.c (.row (way.map encI)), .agg [.v (.int .u8 k), .v (.int .i64 t)]] (.c (.row ((roundR way ⟨k, t⟩).map encI))) := by
  refine ps_of 100 Tryd.func25 rfl (ev_ ?_)
  refine br_i (fun c => ?_) (fun c => ?_)
  · have : ¬ k = 4 := by simpa using c
    simp [roundR, this]
  · have hk : k = 4 := by simpa using c
    refine callN 100 (ref23_on way t hl) (ev_ ?_)
    have hmem := hm hk
    have h0 : 0 ≤ idxI t 0 way := idxI_mem.2 (List.mem_of_mem_take hmem)
    have h1 : idxI t 0 way ≤ (way.length : Int) - 1 := by
      have := idxI_lt (t := t) (l := way) (i := 0)
      omega
    have hpos : 0 < way.length := List.length_pos_of_mem (List.mem_of_mem_take hmem)
    simp only [big] at hl
    simp only [i64In]
    refine ⟨by omega, ⟨h0, h1, by omega, fun x hx => ?_⟩, ?_⟩
    · obtain ⟨y, _, rfl⟩ := List.mem_map.1 hx
      rfl
    · have e : ((way.length : Int) - 1).toNat = way.length - 1 := by omega
      rw [e]
      simp [roundR, hk]
theorem ref23_Loop (n : Net) (x : Int) (six : Bool) (a : Sp.Addr) (hs : n.sm) : PS Tryd.prog 12 [.agg n.enc, VI .i64 x, VB six, .agg a.enc] (.tup [.c (.row ((loopR n x six a).1.map encI)), VI .i64 (loopR n x six a).2]) := by
  refine ps_of 100 Tryd.func12 rfl (ev_ ?_)
  refine callN 100 (ref23_Walk n x six a hs) (ev_ ?_)
  have hl := walkR_len n x six a hs
  have hm := walkR_loop (n := n) (x := x) (six := six) (a := a)
  unfold loopR
  generalize walkR n x six a = w at *
  refine br_i (fun c => ?_) (fun c => ?_)
  · have : ¬ w.why = 0 := by simpa using c
    simp [this]
  · have hw : w.why = 0 := by simpa using c
    refine callN 100 (ref23_Round w.way w.ver.kind w.ver.at_ hl hm) (ev_ ?_)
    refine br_i (fun d => ?_) (fun d => ?_)
    · have e : roundR w.way w.ver = [] := by simpa using d
      simp [hw, e]
    · have e : ¬ roundR w.way w.ver = [] := by simpa using d
      simp [hw, e]
theorem slices_Clone_int (l : List Int) (hl : (l.length : Int) ≤ 1000) : PS Tryd.prog 23 [.c (.row (l.map encI))] (.c (.row (l.map encI))) := by
  refine ps_of 100 Tryd.func23 rfl (ev_ ?_)
  refine nilb 100 (fun b hb => ev_ ?_)
  cases b with
  | true =>
    have := hb rfl
    refine ev_ ?_
    simp at this
    simp [this]
  | false =>
    refine ev_ ?_
    have hmap : List.map (fun x => List.map nrm x) (l.map encI) = l.map encI := by
      rw [List.map_map]
      rfl
    rw [hmap]
    refine ⟨⟨fun x hx => ?_, by omega⟩, encI_isD l, rfl⟩
    obtain ⟨y, _, rfl⟩ := List.mem_map.1 hx
    rfl
end Go.Proofs.YtnopihhconklnaaDoor.S
