import Derived.Test.YtnopihhconklnaaDoorEs9
/- A trie out of routes. -/
namespace Go.Sp
open Go Go.En
theorem set_end {α : Type} (H : List α) (x y : α) : (H ++ [x]).set H.length y = H ++ [y] := by
  rw [List.set_append_right _ _ (Nat.le_refl _), Nat.sub_self]
  rfl
attribute [go_sem] set_end
def S0 (bs : List Bool) : Option (Option Route) := if bs = [] then some none else none
def stepS (six : Bool) (S : List Bool → Option (Option Route)) (r : Route) : List Bool → Option (Option Route) := if r.pre.six = six then putS six r.pre r S else S
def ofS (six : Bool) (l : List Route) : List Bool → Option (Option Route) := l.foldl (stepS six) S0
def lenOk (r : Route) : Prop := 0 ≤ r.pre.len ∧ r.pre.len ≤ wide r.pre.six
theorem ofS_take {six : Bool} {l : List Route} {i : Nat} (h : i < l.length) : ofS six (l.take (i + 1)) = stepS six (ofS six (l.take i)) l[i] := by
  unfold ofS
  rw [List.take_succ_eq_append_getElem h, List.foldl_append]
  rfl
end Go.Sp
namespace Go.Proofs.YtnopihhconklnaaDoor.S
open Go Go.En Go.Sp Go.Proofs Go.Proofs.YtnopihhconklnaaDoor.T
set_option maxRecDepth 10000
set_option linter.unusedSimpArgs false
set_option linter.unusedVariables false
set_option maxHeartbeats 1000000
theorem trie_Of (H : List Blk) (l : List Route) (six : Bool) (hl : (l.length : Int) ≤ big) (hr : ∀ r ∈ l, lenOk r) :
    En.Call Tryd.prog false 52 [.c (.row (l.map Route.enc)), VB six] H fun v H' => v = .c (.ptr H.length 0 0 0) ∧ H.length ≤ H'.length ∧ (∀ j, j < H.length → H'[j]? = H[j]?) ∧ ∃ U, TR 119 117 85 H' H.length H.length six U ∧ U.S = ofS six l := by
  simp only [big] at hl
  refine cr_of 100 Tryd.func52 rfl (ev_ ?_)
  refine loop_st (σ := Nat × List Blk) 100 (fun x => [(13, VI .i64 x.1), (12, VI .i64 l.length), (11, .c (.row (l.map Route.enc))), (5, .c (.ptr H.length 0 0 0)), (1, VB six)]) (fun x => x.2)
    (fun x => x.1 ≤ l.length ∧ H.length ≤ x.2.length ∧ (∀ j, j < H.length → x.2[j]? = H[j]?) ∧ ∃ U, TR 119 117 85 x.2 H.length H.length six U ∧ U.S = ofS six (l.take x.1)) (fun x => l.length - x.1) (0, H ++ [(⟨119, 4, 0, [[.v (.bool six), .v (.pointer none), .v (.pointer none), .v (.pointer none)]]⟩ : Blk)])
    ⟨Nat.zero_le _, by simp, fun j hj => List.getElem?_append_left hj, ⟨S0, fun _ => H.length, fun _ => 0⟩, ⟨rfl, by simp [S0], fun bs hb => ?_, fun bs r hb => by simp [S0] at hb, fun bs bs' hb hb' _ => ?_, fun bs c hb => by simp [S0] at hb, fun _ _ => Nat.le_refl _⟩, rfl⟩ wkS ?_ ?_
  · have e : bs = [] := by
      cases bs with
      | nil => rfl
      | cons x r => simp [S0] at hb
    subst e
    simp [Tr.nB, Tr.vC, Tr.kC, S0]
  · have e : ∀ x, S0 x ≠ none → x = [] := fun x hx => by
      cases x with
      | nil => rfl
      | cons y r => simp [S0] at hx
    rw [e _ hb, e _ hb']
  · rintro ⟨i, G⟩ ⟨h1, h2, h3, U, h4, h5⟩
    have := (List.getElem?_eq_some_iff.1 (h4.node [] h4.some0)).1
    rw [h4.pos0] at this
    simp only [List.length_append, List.length_cons, List.length_nil]
    simp only at this
    omega
  · rintro ⟨i, G⟩ Q' ⟨h1, h2, h3, U, h4, h5⟩ hn hx hr'
    simp only at h1 h2 h3 h4 h5
    refine ev_ (br_d (fun hil => ?_) (fun hil => ?_))
    · have hil' : i < l.length := by omega
      have hlen := hr l[i] (List.getElem_mem hil')
      have htk := ofS_take (six := six) hil'
      refine idx_map (x := l[i]) 100 (by simp [hil']) (by omega) rfl (ev_ ?_)
      generalize l[i] = x at *
      refine br_i (fun c => ?_) (fun c => ?_)
      · have c' : x.pre.six = six := by simpa using c
        obtain ⟨l1, l2⟩ := hlen
        rw [c'] at l2
        refine callR 100 (trie_Put _ H.length H.length six U x.pre x (h4.app _) (by simp; omega) l1 l2) ?_
        rintro v H' ⟨rfl, g1, g2, V, g3, g4⟩
        refine ev_ ?_
        simp only [i64In]
        refine ⟨by omega, hn (i + 1, H') _ _ wkS ⟨by simp only; omega, ?_, fun j hj => ?_, V, g3, ?_⟩ (by simp only; omega)⟩
        · simp at g1; simp only; omega
        · simp only
          rw [g2 j hj, List.getElem?_append_left (by omega)]
          exact h3 j hj
        · simp only
          rw [g4, htk, stepS, if_pos c', h5]
      · have c' : ¬ x.pre.six = six := by simpa using c
        simp only [i64In]
        refine ⟨by omega, hn (i + 1, _) _ _ wkS ⟨by simp only; omega, ?_, fun j hj => ?_, U, h4.app _, ?_⟩ (by simp only; omega)⟩
        · simp; omega
        · simp only
          rw [List.getElem?_append_left (by omega)]
          exact h3 j hj
        · simp only
          rw [htk, stepS, if_neg c', h5]
    · refine hx 0 _ _ _ rfl (ev_ ?_)
      rw [List.take_of_length_le (by omega)] at h5
      exact ⟨h2, h3, U, h4, h5⟩
end Go.Proofs.YtnopihhconklnaaDoor.S
