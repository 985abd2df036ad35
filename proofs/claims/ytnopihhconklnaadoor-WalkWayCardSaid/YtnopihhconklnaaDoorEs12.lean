import Derived.Test.YtnopihhconklnaaDoorEs11
/- The document's way. -/
namespace Go.Sp
open Go Go.En
set_option linter.unusedVariables false
theorem frz_own {α : Type} {f : α → List C} {l : List α} {H : List Blk} {b ver t sz : Nat} (hn : ∀ x, (f x).map nrm = f x) (hH : H[b]? = some ⟨t, sz, ver, l.map f⟩) : frzC H (.own b ver 0 l.length) = some (∀ e ∈ l.map f, ∀ c ∈ e, isD c = true, .row (l.map f)) := by
  have e1 : ((l.map f).drop 0).take l.length = l.map f := by rw [List.drop_zero]; exact take_map f l
  have e2 : (l.map f).map (List.map nrm) = l.map f := by
    rw [List.map_map]
    congr 1
    funext x
    exact hn x
  simp only [frzC, hH, if_true, e1, e2]
theorem frzs_own {α : Type} {f : α → List C} {l : List α} {H : List Blk} {b ver t sz : Nat} {rest rest' : List V} {p : Prop} (hn : ∀ x, (f x).map nrm = f x) (hH : H[b]? = some ⟨t, sz, ver, l.map f⟩) (hr : frzs H rest = some (p, rest')) : frzs H (.c (.own b ver 0 l.length) :: rest) = some ((∀ e ∈ l.map f, ∀ c ∈ e, isD c = true) ∧ p, .c (.row (l.map f)) :: rest') := by
  simp only [frzs, frz1, frz_own hn hH, hr]
theorem encI_nrm (n : Int) : (encI n).map nrm = encI n := rfl
theorem encI_isD (l : List Int) : ∀ e ∈ l.map encI, ∀ c ∈ e, isD c = true := fun e he c hc => by
  obtain ⟨x, _, rfl⟩ := List.mem_map.1 he
  simp [encI] at hc
  subst hc
  rfl
/-- on from router x, over a way that leads to it. -/
def wayGo (does : Int → Hop) : Nat → List Int → Int → List Int × Verdict
  | 0, way, x => (way, ⟨0, 0⟩)
  | f + 1, way, x => if (does x).kind = 1 then (if 0 ≤ idxI (does x).peer 0 way then (way ++ [(does x).peer], ⟨4, (does x).peer⟩) else wayGo does f (way ++ [(does x).peer]) (does x).peer)
    else if (does x).kind = 2 then (way, ⟨1, x⟩) else if (does x).kind = 3 then (way, ⟨2, x⟩) else (way, ⟨3, x⟩)
def wayR (n : Net) (x : Int) (six : Bool) (a : Addr) : List Int × Verdict := wayGo (fun t => netDoesR n t six a) (n.routers.length + 2) [x] x
theorem doesR_kind (r : Router) (six : Bool) (a : Addr) : (doesR r six a).kind = 0 ∨ (doesR r six a).kind = 1 ∨ (doesR r six a).kind = 2 ∨ (doesR r six a).kind = 3 := by
  unfold doesR hopOf
  generalize bestOut six a r.routes = z
  generalize (fun t => peerR t r.links) = g
  by_cases c1 : z.2 = true
  · rw [if_pos c1]
    by_cases c2 : z.1.act.kind = 2
    · rw [if_pos c2]; exact .inr (.inr (.inl rfl))
    · rw [if_neg c2]
      by_cases c3 : z.1.act.kind = 3
      · rw [if_pos c3]; exact .inr (.inr (.inr rfl))
      · rw [if_neg c3]
        cases g z.1.act.iface with
        | some p => exact .inr (.inl rfl)
        | none => exact .inl rfl
  · rw [if_neg c1]; exact .inl rfl
theorem netDoesR_kind (n : Net) (t : Int) (six : Bool) (a : Addr) : (netDoesR n t six a).kind = 0 ∨ (netDoesR n t six a).kind = 1 ∨ (netDoesR n t six a).kind = 2 ∨ (netDoesR n t six a).kind = 3 := by
  unfold netDoesR
  split
  · exact doesR_kind _ _ _
  · exact .inl rfl
theorem findR_id {t : Int} : ∀ {l : List Router} {r : Router}, findR t l = some r → t ∈ l.map Router.id
  | [], r, h => by simp [findR] at h
  | x :: l, r, h => by
    unfold findR at h
    split at h
    · rename_i e; simp [e]
    · rw [List.map_cons]; exact List.mem_cons_of_mem _ (findR_id h)
theorem netDoesR_id {n : Net} {t : Int} {six : Bool} {a : Addr} (h : (netDoesR n t six a).kind = 1) : t ∈ n.routers.map Router.id := by
  unfold netDoesR at h
  split at h
  · rename_i r hr; exact findR_id hr
  · simp at h
theorem idxI_mem {t : Int} : ∀ {l : List Int} {i : Nat}, 0 ≤ idxI t i l ↔ t ∈ l
  | [], i => by simp [idxI]
  | x :: l, i => by
    unfold idxI
    by_cases e : x = t
    · simp [e]
    · rw [if_neg e, idxI_mem (l := l)]
      simp [Ne.symm e]
theorem nodup_sub_len : ∀ {l m : List Int}, l.Nodup → (∀ x ∈ l, x ∈ m) → l.length ≤ m.length
  | [], m, _, _ => Nat.zero_le _
  | x :: l, m, h, hs => by
    have hx := hs x List.mem_cons_self
    have hl := (List.nodup_cons.1 h)
    have := nodup_sub_len (l := l) (m := m.erase x) hl.2 (fun y hy => (List.mem_erase_of_ne (fun e => hl.1 (by rw [← e]; exact hy))).2 (hs y (List.mem_cons_of_mem _ hy)))
    rw [List.length_erase_of_mem hx] at this
    have := List.length_pos_of_mem hx
    simp only [List.length_cons]
    omega
end Go.Sp
namespace Go.Proofs.YtnopihhconklnaaDoor.S
open Go Go.En Go.Sp Go.Proofs Go.Proofs.YtnopihhconklnaaDoor.T
set_option maxRecDepth 10000
set_option linter.unusedSimpArgs false
set_option linter.unusedVariables false
set_option maxHeartbeats 1000000
theorem ref23_Way (n : Net) (x : Int) (six : Bool) (a : Sp.Addr) (hl : (n.routers.length : Int) ≤ 64) (h : ∀ r ∈ n.routers, r.sm) : PS Tryd.prog 20 [.agg n.enc, VI .i64 x, VB six, .agg a.enc] (.tup [.c (.row ((wayR n x six a).1.map encI)), .agg (wayR n x six a).2.enc]) := by
  refine ps_of 100 Tryd.func20 rfl (ev_ ?_)
  refine loop_st (σ := List Int × Int × Nat) 100 (fun s => [(10, .c (.own 3 s.2.2 0 s.1.length)), (9, .c (.ptr 2 0 0 0)), (7, .c (.ptr 1 0 0 0)), (4, .c (.ptr 0 0 0 0)), (1, VI .i64 s.2.1), (2, VB six)]) (fun s => [⟨25, 2, 0, [n.enc]⟩, ⟨28, 2, 0, [a.enc]⟩, ⟨32, 2, 0, [[.v (.int .u8 0), .v (.int .i64 0)]]⟩, ⟨3, 1, s.2.2, s.1.map encI⟩])
    (fun s => s.1.Nodup ∧ s.1 ≠ [] ∧ s.1.getLast? = some s.2.1 ∧ (∀ y ∈ s.1.dropLast, y ∈ n.routers.map Router.id) ∧ wayR n x six a = wayGo (fun t => netDoesR n t six a) (n.routers.length + 3 - s.1.length) s.1 s.2.1) (fun s => n.routers.length + 3 - s.1.length) ([x], x, 0) ⟨by simp, by simp, by simp, by simp, by simp [wayR]⟩ wk (fun _ _ => Nat.le_refl _) ?_
  rintro ⟨way, y, v⟩ Q' ⟨h1, h2, h3, h4, hs⟩ hn hx hr
  simp only at h1 h2 h3 h4 hs
  have hwl : way.length ≤ n.routers.length + 1 := by
    have := nodup_sub_len (l := way.dropLast) (m := n.routers.map Router.id) (h1.sublist (List.dropLast_sublist _)) h4
    simp at this
    omega
  obtain ⟨f, hf⟩ : ∃ f, n.routers.length + 3 - way.length = f + 1 := ⟨n.routers.length + 2 - way.length, by omega⟩
  rw [hf] at hs
  refine ev_ ?_
  refine callN 100 (ref18_Does n y six a (by simp only [big]; omega) h) (ev_ ?_)
  have hk := netDoesR_kind n y six a
  have hid := netDoesR_id (n := n) (t := y) (six := six) (a := a)
  simp only [wayGo] at hs
  obtain ⟨hop, hhop⟩ : ∃ hop, netDoesR n y six a = hop := ⟨_, rfl⟩
  simp only [hhop] at hk hid hs ⊢
  have hmap : ∀ l : List Int, List.map (fun x => List.map nrm x) (l.map encI) = l.map encI := fun l => by
    rw [List.map_map]
    rfl
  refine br_i (fun c => ?_) (fun c => ?_)
  · refine hr _ _ (ev_ ?_)
    have : hop.kind = 0 := by simpa using c
    simp [this] at hs
    rw [hs, hmap]
    exact ⟨encI_isD way, rfl⟩
  refine br_i (fun c2 => ?_) (fun c2 => ?_)
  · refine hr _ _ (ev_ ?_)
    have : hop.kind = 2 := by simpa using c2
    simp [this] at hs
    rw [hs, hmap]
    exact ⟨encI_isD way, rfl⟩
  refine br_i (fun c3 => ?_) (fun c3 => ?_)
  · refine hr _ _ (ev_ ?_)
    have : hop.kind = 3 := by simpa using c3
    simp [this] at hs
    rw [hs, hmap]
    exact ⟨encI_isD way, rfl⟩
  have hk1 : hop.kind = 1 := by
    simp at c c2 c3
    omega
  rw [if_pos hk1] at hs
  have hmem := hid hk1
  refine callS 100 (frzs_own encI_nrm rfl rfl) ⟨encI_isD way, trivial, trivial⟩ rfl (ref23_on way hop.peer (by simp only [big]; omega)) (ev_ ?_)
  have e3 : List.map encI way ++ [[C.v (.int .i64 hop.peer)]] = (way ++ [hop.peer]).map encI := by simp [encI]
  have e4 : way.length + 1 = (way ++ [hop.peer]).length := by simp
  rw [e3, e4]
  refine ⟨⟨by simp, by simp only [List.length_append, List.length_cons, List.length_nil]; omega⟩, br_d (fun c4 => ?_) (fun c4 => ?_)⟩
  · rw [if_pos c4] at hs
    refine hr _ _ (ev_ ?_)
    rw [hs, e4, take_map, hmap]
    exact ⟨encI_isD _, rfl⟩
  · rw [if_neg c4] at hs
    have c5 : hop.peer ∉ way := fun e => c4 (idxI_mem.2 e)
    refine hn (way ++ [hop.peer], hop.peer, v + 1) _ _ wk ⟨?_, by simp, by simp, ?_, ?_⟩ (by simp only [List.length_append, List.length_cons, List.length_nil]; omega)
    · simp only
      rw [List.nodup_append]
      refine ⟨h1, by simp, fun z hz w hw => ?_⟩
      simp at hw
      subst hw
      exact fun e => c5 (e ▸ hz)
    · intro z hz
      simp only [List.dropLast_concat] at hz
      have hne := h2
      rw [← List.dropLast_concat_getLast hne] at hz
      rcases List.mem_append.1 hz with hz | hz
      · exact h4 z hz
      · simp at hz
        have : way.getLast hne = y := by rw [List.getLast?_eq_some_getLast hne] at h3; exact Option.some.inj h3
        rw [hz, this]
        exact hmem
    · simp only
      rw [hs]
      congr 1
      simp only [List.length_append, List.length_cons, List.length_nil]
      omega
end Go.Proofs.YtnopihhconklnaaDoor.S
