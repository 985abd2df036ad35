import Derived.Test.YtnopihhconklnaaDoorEp2
import Derived.Test.YtnopihhconklnaaDoorEs17
/- The program's ways are the document's. -/
namespace Go.Sp
open Go Go.En
set_option linter.unusedVariables false
set_option linter.unusedSimpArgs false
def Net.wf (n : Net) : Prop := ∀ r ∈ n.routers, ∀ x ∈ r.routes, x.pre.addr.wf
theorem fibDoes_kind0 (r : Router) (six : Bool) (a : Addr) : 0 ≤ (doesR r six a).kind ∧ (doesR r six a).kind < 4 := by
  rcases doesR_kind r six a with h | h | h | h <;> rw [h] <;> decide
theorem netDoesR_kind0 (n : Net) (t : Int) (six : Bool) (a : Addr) : 0 ≤ (netDoesR n t six a).kind ∧ (netDoesR n t six a).kind < 4 := by
  rcases netDoesR_kind n t six a with h | h | h | h <;> rw [h] <;> decide
theorem wayS_go {n : Net} {six : Bool} {a : Addr} : ∀ (f : Nat) (l : List Int) (x : Int), l.Nodup → x ∉ l → (∀ y ∈ l, (netDoesR n y six a).kind = 1) → n.routers.length + 2 ≤ f + l.length →
    ∃ k h, k ≤ f ∧ WayS (fun t => netDoesR n t six a) k l x (wayGo (fun t => netDoesR n t six a) f (l ++ [x]) x).1 h ∧ verOf (wayGo (fun t => netDoesR n t six a) f (l ++ [x]) x).1 h = (wayGo (fun t => netDoesR n t six a) f (l ++ [x]) x).2 ∧ ∃ y, h = netDoesR n y six a
  | 0, l, x, hl, hx, hk, hf => by
    have := nodup_sub_len (l := l) (m := n.routers.map Router.id) hl (fun y hy => netDoesR_id (hk y hy))
    simp at this
    omega
  | f + 1, l, x, hl, hx, hk, hf => by
    have hc : l.contains x = false := by simpa using hx
    by_cases c : (netDoesR n x six a).kind = 1
    · by_cases c2 : 0 ≤ idxI (netDoesR n x six a).peer 0 (l ++ [x])
      · have hm := idxI_mem.1 c2
        have hk1 : (netDoesR n (netDoesR n x six a).peer six a).kind = 1 := by
          rcases List.mem_append.1 hm with h | h
          · exact hk _ h
          · simp at h; rw [h]; exact c
        have hw : wayGo (fun t => netDoesR n t six a) (f + 1) (l ++ [x]) x = (l ++ [x] ++ [(netDoesR n x six a).peer], ⟨4, (netDoesR n x six a).peer⟩) := by simp only [wayGo, if_pos c, if_pos c2]
        rw [hw]
        refine ⟨1, netDoesR n (netDoesR n x six a).peer six a, by omega, ⟨hc, c, .inl (by simpa using hm), rfl, rfl⟩, ?_, _, rfl⟩
        simp [verOf, hk1]
      · have hm : (netDoesR n x six a).peer ∉ l ++ [x] := fun h => c2 (idxI_mem.2 h)
        have hw : wayGo (fun t => netDoesR n t six a) (f + 1) (l ++ [x]) x = wayGo (fun t => netDoesR n t six a) f (l ++ [x] ++ [(netDoesR n x six a).peer]) (netDoesR n x six a).peer := by simp only [wayGo, if_pos c, if_neg c2]
        rw [hw]
        obtain ⟨k, h, h1, h2, h3, h4⟩ := wayS_go f (l ++ [x]) (netDoesR n x six a).peer (by
          rw [List.nodup_append]
          refine ⟨hl, by simp, fun z hz w hw => ?_⟩
          simp at hw
          subst hw
          exact fun e => hx (e ▸ hz)) hm (fun y hy => by
          rcases List.mem_append.1 hy with hy | hy
          · exact hk y hy
          · simp at hy; rw [hy]; exact c) (by simp; omega)
        exact ⟨k + 1, h, by omega, ⟨hc, c, h2⟩, h3, h4⟩
    · have hw : (wayGo (fun t => netDoesR n t six a) (f + 1) (l ++ [x]) x).1 = l ++ [x] ∧ verOf (l ++ [x]) (netDoesR n x six a) = (wayGo (fun t => netDoesR n t six a) (f + 1) (l ++ [x]) x).2 := by
        simp only [wayGo, if_neg c]
        rcases netDoesR_kind n x six a with h | h | h | h
        · simp [h, verOf]
        · exact absurd h c
        · simp [h, verOf]
        · simp [h, verOf]
      refine ⟨0, netDoesR n x six a, by omega, ?_, by rw [hw.1]; exact hw.2, _, rfl⟩
      rw [hw.1]
      exact ⟨.inr c, rfl, rfl⟩
theorem walk_says {n : Net} {x : Int} {six : Bool} {a : Addr} (hw : n.wf) (ha : a.wf) :
    (walkR n x six a).why = startWhy n x six a ∧ (startWhy n x six a ≠ 0 → (walkR n x six a).way = [] ∧ (walkR n x six a).ver = ⟨0, 0⟩) ∧
    (startWhy n x six a = 0 → ∃ h, WayOk n x six a (walkR n x six a).way h ∧ (walkR n x six a).ver = verOf (walkR n x six a).way h ∧ ∀ r ∈ n.routers, ∀ x ∈ r.routes, lenOk x) := by
  unfold startWhy walkR
  rw [netOk_eq hw, rightAddr_eq ha.l0]
  by_cases c : netOkR n = true ∧ rightAddrR six a = true
  · simp only [if_pos c]
    by_cases c2 : 0 ≤ x ∧ x ≤ 1048576
    · simp only [if_pos c2]
      refine ⟨trivial, fun h => absurd rfl h, fun _ => ?_⟩
      obtain ⟨k, h, h1, h2, h3, y, h4⟩ := wayS_go (n := n) (six := six) (a := a) (n.routers.length + 2) [] x (by simp) (by simp) (fun y hy => by cases hy) (by simp)
      have hlen := netOkR_len c.1
      have hD : (fun t => netDoes n t six a) = fun t => netDoesR n t six a := funext fun t => netDoes_eq c.1 hw ha c.2
      refine ⟨h, ⟨⟨k, by omega, by rw [hD]; exact h2⟩, by rw [h4]; exact netDoesR_kind0 n y six a⟩, h3.symm, fun r hr x hx => ?_⟩
      have hro := (netOkR_says c.1).1 r hr
      simp only [routerOkR, Bool.and_eq_true] at hro
      have hxo := (routes_says hro.1.1.2).1 x hx
      simp only [rightRouteR, Bool.and_eq_true] at hxo
      have := prefOkR_says (hw r hr x hx) hxo.1
      exact ⟨this.1, this.2.1⟩
    · simp only [if_neg c2]
      exact ⟨trivial, fun _ => by simp, fun h => by simp at h⟩
  · simp only [if_neg c]
    exact ⟨trivial, fun _ => by simp, fun h => by simp at h⟩
end Go.Sp
namespace Go.Proofs.YtnopihhconklnaaDoor.S
open Go Go.En Go.Sp Go.Proofs Go.Proofs.YtnopihhconklnaaDoor.T
set_option maxRecDepth 10000
set_option linter.unusedSimpArgs false
set_option linter.unusedVariables false
set_option maxHeartbeats 1000000
theorem walk_W (n : Net) (x : Int) (six : Bool) (a : Sp.Addr) (hn : n.sm) (hw : n.wf) (ha : a.wf) : PS Tryd.prog 7 [.agg n.enc, VI .i64 x, VB six, .agg a.enc] (.tup [.c (.row ((walkR n x six a).way.map encI)), .agg (walkR n x six a).ver.enc, VI .i64 (walkR n x six a).why]) := by
  obtain ⟨h1, h2, h3⟩ := walk_says (x := x) (six := six) hw ha
  by_cases c : startWhy n x six a = 0
  · obtain ⟨h, k1, k2, k3⟩ := h3 c
    have := walk_Walk n x six a hn (fun _ => k3) _ h (fun _ => k1)
    rw [if_pos c, if_pos c, c] at this
    rw [k2, h1, c]
    exact this
  · obtain ⟨k1, k2⟩ := h2 c
    have := walk_Walk n x six a hn (fun e => absurd e c) [] ⟨0, 0⟩ (fun e => absurd e c)
    rw [if_neg c, if_neg c] at this
    rw [k1, k2, h1]
    exact this
end Go.Proofs.YtnopihhconklnaaDoor.S
