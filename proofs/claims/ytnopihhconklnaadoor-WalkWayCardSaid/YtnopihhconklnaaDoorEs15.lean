import Derived.Test.YtnopihhconklnaaDoorEs14
/- What a router, a net does with a packet. -/
namespace Go.Sp
open Go Go.En
set_option linter.unusedVariables false
def Tr.shift (T : Tr) (n : Nat) : Tr := ⟨T.S, fun bs => n + T.pos bs, fun bs => n + T.vp bs⟩
theorem TR.shift {tT tN tR : Nat} {H1 : List Blk} {b0 : Nat} {six : Bool} {T : Tr} (h : TR tT tN tR H1 0 b0 six T) (H : List Blk) : TR tT tN tR (H ++ rnBs [] H.length 0 H1) H.length (H.length + b0) six (T.shift H.length) := by
  have hget : ∀ (k : Nat) (b : Blk), H1[k]? = some b → (H ++ rnBs [] H.length 0 H1)[H.length + k]? = some (rnB [] H.length k b) := fun k b hk => by
    rw [List.getElem?_append_right (by omega), Nat.add_sub_cancel_left, rnBs_get, hk, Nat.zero_add]
    rfl
  have hv : ∀ bs, rnC [] H.length (T.vC bs) = (T.shift H.length).vC bs := fun bs => by
    simp only [Tr.vC, Tr.shift]
    cases T.S bs with
    | none => rfl
    | some o => cases o with
      | none => rfl
      | some r => simp [rnC, rn0, foN, foD]
  have hk : ∀ bs, rnC [] H.length (T.kC bs) = (T.shift H.length).kC bs := fun bs => by
    simp only [Tr.kC, Tr.shift]
    cases T.S bs with
    | none => rfl
    | some o => simp [rnC, rn0, foN, foD]
  refine ⟨by simp [Tr.shift, h.pos0], h.some0, fun bs hb => ?_, fun bs r hr => ?_, fun bs bs' hb hb' he => h.inj bs bs' hb hb' (by simp [Tr.shift] at he; exact he), h.pre, fun bs hb => by simp [Tr.shift]⟩
  · show (H ++ rnBs [] H.length 0 H1)[H.length + T.pos bs]? = _
    rw [hget _ _ (h.node bs hb)]
    unfold Tr.nB
    by_cases e : bs = []
    · simp only [if_pos e, rnB, rnE_cons, rnE_nil, List.map_cons, List.map_nil, hv, hk, foD]
      rfl
    · simp only [if_neg e, rnB, rnE_cons, rnE_nil, List.map_cons, List.map_nil, hv, hk, foD]
      rfl
  · show (H ++ rnBs [] H.length 0 H1)[H.length + T.vp bs]? = _
    rw [hget _ _ (h.val bs r hr)]
    simp [rnB, rnE_cons, rnE_nil, foD, Route.enc, rnC, rn0]
/-- behind fib.Does's first step: the route, and whether there is one. -/
def FibR (tRo tH tR : Nat) (r : Router) (x : Route) (is_ : Bool) (tm : TM) (H' : List Blk) : Prop := ∃ p7, tm = [(3, .c (.ptr 0 0 0 0)), (6, .c (.ptr 2 0 0 0)), (7, .c (.ptr p7 0 0 0)), (8, VB is_)] ∧ H'[0]? = some ⟨tRo, 4, 0, [r.enc]⟩ ∧ H'[2]? = some ⟨tH, 2, 0, [[.v (.int .u8 0), .v (.int .i64 0)]]⟩ ∧ H'[p7]? = some ⟨tR, 6, 0, [x.enc]⟩
def fibDoes (r : Router) (six : Bool) (a : Addr) : Hop := match longest six a (ofS six r.routes) with
  | none => ⟨0, 0⟩
  | some x => if x.act.kind = 2 then ⟨2, 0⟩ else if x.act.kind = 3 then ⟨3, 0⟩ else if (peerP r.links x.act.iface).2 = 0 then ⟨1, (peerP r.links x.act.iface).1⟩ else ⟨0, 0⟩
def netDoes (n : Net) (x : Int) (six : Bool) (a : Addr) : Hop := if bsIs Router.id n.routers x then (match n.routers[bsI Router.id n.routers x]? with | some r => fibDoes r six a | none => ⟨0, 0⟩) else ⟨0, 0⟩
end Go.Sp
namespace Go.Proofs.YtnopihhconklnaaDoor.S
open Go Go.En Go.Sp Go.Proofs Go.Proofs.YtnopihhconklnaaDoor.T
set_option maxRecDepth 10000
set_option linter.unusedSimpArgs false
set_option linter.unusedVariables false
set_option maxHeartbeats 1000000
theorem fib_Does (r : Router) (six : Bool) (a : Sp.Addr) (h : r.sm) (hr : ∀ x ∈ r.routes, lenOk x) : PS Tryd.prog 39 [.agg r.enc, VB six, .agg a.enc] (.agg (fibDoes r six a).enc) := by
  refine ps_of 100 Tryd.func39 rfl (ev_ ?_)
  obtain ⟨x, hx⟩ : ∃ x, x = (longest six a (ofS six r.routes)).getD routeZ := ⟨_, rfl⟩
  obtain ⟨is_, his⟩ : ∃ b, b = (longest six a (ofS six r.routes)).isSome := ⟨_, rfl⟩
  refine cutS (FibR 64 46 85 r x is_) ?_ ?_
  · refine drawD 100 (by kernel_rfl) [5] (.one 0 (.one 1 (.one 2 (.one 4 (.two 3 (.two 5 (lin [6, 7, 8, 9, 10, 11]) 9 (lin [5, 6, 7, 8, 10, 11])) 9 (lin [3, 5, 6, 7, 8, 10, 11])))))) (by kernel_rfl) ?_
    refine ev_ ?_
    refine ⟨?_, ?_⟩
    · refine callF0 (ev_ ?_)
      refine hR 100 (trie_Of [] r.routes six h.1 hr) ?_
      rintro v H1 ⟨rfl, _, _, U, hU, hUS⟩
      refine ev_ ?_
      refine ⟨?_, ?_⟩
      · have hT := hU.shift [⟨64, 4, 0, [r.enc]⟩, ⟨28, 2, 0, [a.enc]⟩, ⟨46, 2, 0, [[.v (.int .u8 0), .v (.int .i64 0)]]⟩]
        refine callR 100 (trie_Longest _ _ _ six _ a hT) ?_
        rintro v H' ⟨rfl, g1, g2⟩
        have e0 := g2 0 (by simp)
        have e2 := g2 2 (by simp)
        simp only [List.length_append, List.length_cons, List.length_nil] at g1
        refine ev_ ?_
        refine ⟨_, ?_, H'.length, rfl, ?_, ?_, ?_⟩
        · simp [subT, lk, his, Tr.shift, hUS]
        · rw [List.getElem?_append_left (by omega)]; exact e0
        · rw [List.getElem?_append_left (by omega)]; exact e2
        · simp [hx, Tr.shift, hUS, Route.enc]
      · have hT := (hU.shift [⟨64, 4, 0, [r.enc]⟩, ⟨28, 2, 0, [a.enc]⟩, ⟨46, 2, 0, [[.v (.int .u8 0), .v (.int .i64 0)]]⟩]).app [⟨85, 6, 0, [routeZ.enc]⟩]
        refine callR 100 (trie_Longest _ _ _ six _ a hT) ?_
        rintro v H' ⟨rfl, g1, g2⟩
        have e0 := g2 0 (by simp)
        have e2 := g2 2 (by simp)
        have hlt : (rnBs [] 3 0 H1).length + 1 + 1 + 1 < H'.length := by simp only [List.length_append, List.length_cons, List.length_nil] at g1; omega
        have hh : H'[(rnBs [] 3 0 H1).length + 1 + 1 + 1]? = some ⟨85, 6, 0, [routeZ.enc]⟩ := by
          rw [g2 _ (by simp only [List.length_append, List.length_cons, List.length_nil]; omega)]
          simp only [List.getElem?_cons_succ, app_at0]
          rfl
        have h3 : 3 ≤ (rnBs [] 3 0 H1).length + 1 + 1 + 1 := by omega
        clear g2 g1
        generalize (rnBs [] 3 0 H1).length + 1 + 1 + 1 = n at *
        refine evh ?_
        refine ⟨_, ?_, n, rfl, ?_, ?_, ?_⟩
        · simp [subT, lk, his, Tr.shift, hUS]
        · rw [List.getElem?_set_ne (by omega)]; exact e0
        · rw [List.getElem?_set_ne (by omega)]; exact e2
        · rw [List.getElem?_set_self (by omega)]; simp [hx, Tr.shift, hUS, Route.enc]
    · refine callF0 (ev_ ?_)
      refine hR 100 (trie_Of [] r.routes six h.1 hr) ?_
      rintro v H1 ⟨rfl, _, _, U, hU, hUS⟩
      refine ev_ ?_
      have hT := hU.shift [⟨64, 4, 0, [r.enc]⟩, ⟨28, 2, 0, [a.enc]⟩, ⟨46, 2, 0, [[.v (.int .u8 0), .v (.int .i64 0)]]⟩, ⟨85, 6, 0, [routeZ.enc]⟩]
      refine callR 100 (trie_Longest _ _ _ six _ a hT) ?_
      rintro v H' ⟨rfl, g1, g2⟩
      have e0 := g2 0 (by simp)
      have e2 := g2 2 (by simp)
      have e3 := g2 3 (by simp)
      simp only [List.length_append, List.length_cons, List.length_nil] at g1
      have hh : H'[3]? = some ⟨85, 6, 0, [routeZ.enc]⟩ := e3
      refine evh ?_
      refine ⟨_, ?_, 3, rfl, ?_, ?_, ?_⟩
      · simp [subT, lk, his, Tr.shift, hUS]
      · rw [List.getElem?_set_ne (by omega)]; exact e0
      · rw [List.getElem?_set_ne (by omega)]; exact e2
      · rw [List.getElem?_set_self (by omega)]; simp [hx, Tr.shift, hUS, Route.enc]
  · rintro tm H' ⟨p7, rfl, h0, h2, h7⟩
    refine shows_run (n := 100) ?_
    have hl := (List.getElem?_eq_some_iff.1 h2).1
    have f2 : ∀ Y : Blk, (H'.set 2 Y)[2]? = some Y := fun Y => List.getElem?_set_self hl
    have hh := And.intro h0 (And.intro h2 (And.intro h7 f2))
    refine evh ?_
    unfold fibDoes
    cases hlo : longest six a (ofS six r.routes) with
    | none => rw [hlo] at his; simp at his; subst his; simp [br]
    | some y =>
      rw [hlo] at his hx
      simp at his hx
      subst his; subst hx
      refine br_i (fun _ => ?_) (fun c => by cases c)
      refine br_i (fun c => ?_) (fun c => ?_)
      · have : x.act.kind = 2 := by simpa using c
        simp [this]
      · have c2 : ¬ x.act.kind = 2 := by simpa using c
        refine br_i (fun c => ?_) (fun c => ?_)
        · have : x.act.kind = 3 := by simpa using c
          simp [this]
        · have c3 : ¬ x.act.kind = 3 := by simpa using c
          refine callI 100 ?_
          refine evh ?_
          simp only [if_neg c2, if_neg c3]
          refine br_i (fun c => ?_) (fun c => ?_)
          · have : ¬ (peerP r.links x.act.iface).2 = 0 := by simpa using c
            simp [this]
          · have : (peerP r.links x.act.iface).2 = 0 := by simpa using c
            simp [this]
theorem net_Does (n : Net) (x : Int) (six : Bool) (a : Sp.Addr) (h : n.sm) (hr : ∀ r ∈ n.routers, ∀ x ∈ r.routes, lenOk x) : PS Tryd.prog 29 [.agg n.enc, VI .i64 x, VB six, .agg a.enc] (.agg (netDoes n x six a).enc) := by
  refine ps_of 100 Tryd.func29 rfl (ev_ ?_)
  refine callN 100 (net_place n x h.2.1) (ev_ ?_)
  unfold netDoes
  cases hb : bsIs Router.id n.routers x with
  | false => refine br_i (fun c => by cases c) (fun c => ?_); simp
  | true =>
    refine br_i (fun c => ?_) (fun c => by cases c)
    obtain ⟨hi, he⟩ := bsIs_lt hb
    refine draw 100 (by kernel_rfl) (List.range 9) (by kernel_rfl) (ev_ ?_)
    refine idx_map (x := n.routers[bsI Router.id n.routers x]) 100 (by rw [Int.toNat_natCast, List.getElem?_eq_getElem hi]) (by omega) rfl (ev_ ?_)
    have hm := List.getElem_mem hi
    rw [List.getElem?_eq_getElem hi]
    generalize n.routers[bsI Router.id n.routers x] = r at *
    refine callN 100 (fib_Does r six a (h.2.2 r hm) (hr r hm)) (ev_ ?_)
    simp
end Go.Proofs.YtnopihhconklnaaDoor.S
