/- What was taken is never taken again, whatever is taken behind it; the seat of a router has the Seq and the Time of its last event. No condition beyond the statement's own. -/
import Derived.Test.YtdccjkeiifplnaaZPx1005
import Derived.Test.YtdccjkeiifplnaaZOrderTake
set_option linter.unusedVariables false
set_option linter.unusedSimpArgs false
namespace Go.Proofs.Ytdccjkeiifplnaa.Pure
open Go.RowKit Go.Proofs.Ytdccjkeiifplnaa.P Go.Proofs.YtdccjkeiifplnaaW.PrintWords Go.Proofs.YtdccjkeiifplnaaW.PrintLast Go.Proofs.YtdccjkeiifplnaaW.PrintMore
noncomputable def allGo (h : Int) : List Seat → List Event → List Seat × Nat × Int
  | l, [] => (l, 0, 0)
  | l, e :: es =>
    if askedF l (msgC e) h = 0 then
      (if fitsF l e h = 0 then ((allGo h (takeF l (seatOf e)) es).1, (allGo h (takeF l (seatOf e)) es).2.1 + 1, (allGo h (takeF l (seatOf e)) es).2.2) else (l, 0, fitsF l e h))
    else (l, 0, askedF l (msgC e) h)
theorem All_l0 (es : List Event) (h : Int) (hl : es.length ≤ 140737488351232) (d : Nat) : ∀ (i : Nat) (l : List Seat), i + d = es.length → Ev (fun k => order_All.l0 k es h l es (es.length : Int) i) ((allGo h l (es.drop i)).1, ((i + (allGo h l (es.drop i)).2.1 : Nat) : Int), (allGo h l (es.drop i)).2.2) := by
  induction d with
  | zero =>
    intro i l hi
    have ei : i = es.length := by omega
    subst ei
    rw [List.drop_eq_nil_of_le (Nat.le_refl _)]
    refine Ev.step (fun k => ?_) (Ev.now _)
    simp only [order_All.l0]
    rw [if_neg (by omega)]
    rfl
  | succ d ih =>
    intro i l hi
    have hlt : i < es.length := by omega
    have ed : es.drop i = es[i] :: es.drop (i + 1) := List.drop_eq_getElem_cons hlt
    rw [ed]
    unfold allGo
    refine Ev.step (fun k => by
      simp only [order_All.l0]
      rw [if_pos (show (i : Int) < (es.length : Int) by omega), if_pos (show (0 : Int) ≤ (i : Int) by omega), if_pos (show (i : Int) < (es.length : Int) by omega), rdE_nat _ i hlt]) (Ev.bind (asked_ev l es[i] h) ?_)
    by_cases c : askedF l (msgC es[i]) h = 0
    · simp only [if_pos c]
      have hl64 := (asked_len c).1
      refine Ev.bind (fits_ev l es[i] h (by omega)) ?_
      by_cases c2 : fitsF l es[i] h = 0
      · simp only [if_pos c2]
        rw [take_f l es[i] hl64]
        simp only [Option.bind_some]
        rw [wrap_up i (by omega)]
        have := ih (i + 1) (takeF l (seatOf es[i])) (by omega)
        rw [show i + 1 + (allGo h (takeF l (seatOf es[i])) (es.drop (i + 1))).2.1 = i + ((allGo h (takeF l (seatOf es[i])) (es.drop (i + 1))).2.1 + 1) by omega] at this
        exact this
      · simp only [if_neg c2]
        exact Ev.now _
    · simp only [if_neg c]
      exact Ev.now _
def trk (r : Int) (p : Nat × Int) (e : Event) : Nat × Int := if e.f1 = r then (p.1 + 1, e.f3) else p
def trkL (r : Int) (P : List Event) : Nat × Int := P.foldl (trk r) (0, -1)
theorem trkL_snoc (r : Int) (P : List Event) (e : Event) : trkL r (P ++ [e]) = trk r (trkL r P) e := by unfold trkL; rw [List.foldl_append]; rfl
theorem trk_mono (r : Int) (Q : List Event) : ∀ p : Nat × Int, p.1 ≤ (Q.foldl (trk r) p).1 := by
  induction Q with
  | nil => intro p; exact Nat.le_refl _
  | cons e Q ih =>
    intro p
    refine Nat.le_trans ?_ (ih (trk r p e))
    unfold trk
    split
    · exact Nat.le_succ _
    · exact Nat.le_refl _
theorem trkL_le (r : Int) (P Q : List Event) : (trkL r P).1 ≤ (trkL r (P ++ Q)).1 := by
  unfold trkL
  rw [List.foldl_append]
  exact trk_mono r Q _
theorem trkL_len (r : Int) (P : List Event) : (trkL r P).1 ≤ P.length := by
  have : ∀ (Q : List Event) (p : Nat × Int), (Q.foldl (trk r) p).1 ≤ p.1 + Q.length := by
    intro Q
    induction Q with
    | nil => intro p; exact Nat.le_refl _
    | cons e Q ih =>
      intro p
      have h1 := ih (trk r p e)
      have h2 : (trk r p e).1 ≤ p.1 + 1 := by
        unfold trk
        split
        · exact Nat.le_refl _
        · exact Nat.le_succ _
      rw [List.length_cons]
      show (Q.foldl (trk r) (trk r p e)).1 ≤ _
      omega
  have := this P (0, -1)
  unfold trkL
  omega
def fitsSeat (o : Option Seat) (p : Nat × Int) : Prop := match o with
  | none => p = (0, -1)
  | some s => 0 < p.1 ∧ s.f1 = p.1 ∧ s.f2 = p.2
def Inv (P : List Event) (l : List Seat) : Prop := checkS l = 0 ∧ ∀ r, fitsSeat (findS l r) (trkL r P)
def Facts (P : List Event) : Prop := ∀ j, (h : j < P.length) → P[j].f2 = (trkL P[j].f1 (P.take j)).1 + 1 ∧ (trkL P[j].f1 (P.take j)).2 ≤ P[j].f3
theorem Facts_snoc {P : List Event} {e : Event} (hP : Facts P) (h1 : e.f2 = (trkL e.f1 P).1 + 1) (h2 : (trkL e.f1 P).2 ≤ e.f3) : Facts (P ++ [e]) := by
  intro j hj
  rw [List.length_append, List.length_singleton] at hj
  by_cases c : j < P.length
  · have e1 : (P ++ [e])[j] = P[j] := List.getElem_append_left c
    have e2 : (P ++ [e]).take j = P.take j := List.take_append_of_le_length (by omega)
    rw [e1, e2]
    exact hP j c
  · have ej : j = P.length := by omega
    subst ej
    have e1 : (P ++ [e])[P.length] = e := by simp
    have e2 : (P ++ [e]).take P.length = P := List.take_left
    rw [e1, e2]
    exact ⟨h1, h2⟩
theorem Inv_step {P : List Event} {l : List Seat} {e : Event} {h : Int} (hI : Inv P l) (ha : askedF l (msgC e) h = 0) (hf : fitsF l e h = 0) (hu : 0 ≤ e.f2) : Inv (P ++ [e]) (takeF l (seatOf e)) ∧ e.f2 = (trkL e.f1 P).1 + 1 ∧ (trkL e.f1 P).2 ≤ e.f3 := by
  obtain ⟨hc, hS⟩ := hI
  obtain ⟨o1, o2, o3, o4, o5, o6⟩ := msgC_ok e (asked_len ha).2.2
  have hw := wrap_seq e.f2 (by omega) o4
  have hs := ((checkS_iff l).mp hc).2.2
  have key : e.f2 = (trkL e.f1 P).1 + 1 ∧ (trkL e.f1 P).2 ≤ e.f3 := by
    have h1 := hS e.f1
    unfold fitsF at hf
    cases hff : findS l e.f1 with
    | none =>
      rw [hff] at h1 hf
      have h1' : trkL e.f1 P = (0, -1) := h1
      simp only at hf
      rw [hw] at hf
      rw [h1']
      by_cases k0 : e.f0 = 1
      · rw [if_pos k0] at hf
        by_cases k1 : e.f2 - 1 = 0
        · exact ⟨by show e.f2 = ((0 : Nat) : Int) + 1; omega, by show (-1 : Int) ≤ e.f3; omega⟩
        · rw [if_neg k1] at hf; exact absurd hf (by decide)
      · rw [if_neg k0] at hf; exact absurd hf (by decide)
    | some s =>
      rw [hff] at h1 hf
      obtain ⟨p1, p2, p3⟩ := h1
      simp only at hf
      rw [hw] at hf
      split at hf
      · rename_i q
        split at hf
        · exact absurd hf (by decide)
        · rename_i q2
          exact ⟨by rw [← p2, ← q]; omega, by rw [← p3]; omega⟩
      · exact absurd hf (by decide)
  refine ⟨⟨(take_right l (seatOf e) hc (seatOf_right e ⟨o1, o2, o3, o4, o5, o6⟩ hu) (fits_room hf)).1, fun r => ?_⟩, key⟩
  rw [find_take l (seatOf e) hs, trkL_snoc]
  unfold trk
  by_cases c : e.f1 = r
  · rw [if_pos (show (seatOf e).f0 = r from c), if_pos c]
    subst c
    refine ⟨Nat.succ_pos _, ?_, rfl⟩
    show e.f2 = (((trkL e.f1 P).1 + 1 : Nat) : Int)
    rw [key.1]; omega
  · rw [if_neg (show ¬ (seatOf e).f0 = r from c), if_neg c]
    exact hS r
theorem allGo_inv (h : Int) (es : List Event) : ∀ (P : List Event) (l : List Seat), (∀ e ∈ es, 0 ≤ e.f2) → Inv P l → Facts P → (allGo h l es).2.1 ≤ es.length ∧ Inv (P ++ es.take (allGo h l es).2.1) (allGo h l es).1 ∧ Facts (P ++ es.take (allGo h l es).2.1) := by
  induction es with
  | nil => intro P l _ hI hF; unfold allGo; exact ⟨Nat.le_refl _, by simpa using hI, by simpa using hF⟩
  | cons e es ih =>
    intro P l hu hI hF
    unfold allGo
    by_cases c : askedF l (msgC e) h = 0
    · rw [if_pos c]
      by_cases c2 : fitsF l e h = 0
      · rw [if_pos c2]
        obtain ⟨s1, s2, s3⟩ := Inv_step hI c c2 (hu e (by simp))
        obtain ⟨r1, r2, r3⟩ := ih (P ++ [e]) (takeF l (seatOf e)) (fun x hx => hu x (List.mem_cons_of_mem _ hx)) s1 (Facts_snoc hF s2 s3)
        rw [List.append_assoc] at r2 r3
        refine ⟨by show _ + 1 ≤ _; rw [List.length_cons]; omega, ?_, ?_⟩
        · show Inv (P ++ (e :: es).take (_ + 1)) _
          rw [List.take_succ_cons]; exact r2
        · show Facts (P ++ (e :: es).take (_ + 1))
          rw [List.take_succ_cons]; exact r3
      · rw [if_neg c2]
        exact ⟨Nat.zero_le _, by simpa using hI, by simpa using hF⟩
    · rw [if_neg c]
      exact ⟨Nat.zero_le _, by simpa using hI, by simpa using hF⟩
theorem take_succ_trk (r : Int) (Q : List Event) (i : Nat) (hi : i < Q.length) : trkL r (Q.take (i + 1)) = trk r (trkL r (Q.take i)) Q[i] := by
  rw [List.take_succ_eq_append_getElem hi, trkL_snoc]
theorem may_again {Q : List Event} {L : List Seat} (hI : Inv Q L) (hF : Facts Q) (i : Nat) (hi : i < Q.length) (h : Int) : ¬ mayF L Q[i] (msgC Q[i]) h = 0 := by
  unfold mayF
  by_cases c : askedF L (msgC Q[i]) h = 0
  · rw [if_pos c]
    obtain ⟨o1, o2, o3, o4, o5, o6⟩ := msgC_ok _ (asked_len c).2.2
    obtain ⟨f1, f2⟩ := hF i hi
    have hu : 1 ≤ Q[i].f2 := by rw [f1]; omega
    have hw := wrap_seq Q[i].f2 hu o4
    have hcnt : (trkL Q[i].f1 (Q.take i)).1 + 1 ≤ (trkL Q[i].f1 Q).1 := by
      have h1 := trkL_le Q[i].f1 (Q.take (i + 1)) (Q.drop (i + 1))
      rw [List.take_append_drop, take_succ_trk _ Q i hi] at h1
      unfold trk at h1
      rw [if_pos rfl] at h1
      exact h1
    have hS := hI.2 Q[i].f1
    unfold fitsF
    cases hff : findS L Q[i].f1 with
    | none =>
      rw [hff] at hS
      have hS' : trkL Q[i].f1 Q = (0, -1) := hS
      rw [hS'] at hcnt
      exact absurd hcnt (by simp)
    | some s =>
      rw [hff] at hS
      obtain ⟨p1, p2, p3⟩ := hS
      simp only
      rw [hw, if_neg (by rw [p2, f1]; omega)]
      decide
  · rw [if_neg c]
    exact c
theorem wrap_nat (n : Nat) (h : n ≤ 140737488351232) : IntKind.u64.wrap ((n : Int) + 1) = ((n + 1 : Nat) : Int) := by
  have e : IntKind.u64.wrap ((n : Int) + 1) = ((n : Int) + 1) % 18446744073709551616 := by first | rfl | (unfold IntKind.wrap; rfl)
  rw [e]
  omega
theorem Once_l0 (Q : List Event) (L : List Seat) (h : Int) (e : Event) (hl : Q.length ≤ 140737488351232) (hI : Inv Q L) (hF : Facts Q) (d : Nat) : ∀ i : Nat, i + d = Q.length →
    Ev (fun k => spoorlaw14_OrderOnce.l0 k h L ((trkL e.f1 (Q.take i)).1 : Int) (trkL e.f1 (Q.take i)).2 Q (Q.length : Int) i e.f0 e.f1 e.f2 e.f3 e.f4.f0 e.f4.f1.f0 e.f4.f1.f1 e.f4.f2 e.f5.f0 e.f5.f1 e.f6 e.f7) true := by
  induction d with
  | zero =>
    intro i hi
    have hS := hI.2 e.f1
    have hl64 := ((checkS_iff L).mp hI.1).1
    refine Ev.step (fun k => ?_) (Ev.now _)
    simp only [spoorlaw14_OrderOnce.l0]
    rw [if_neg (by omega), List.take_of_length_le (by omega), Find_f L _ (by omega)]
    simp only [Option.bind_some]
    cases hff : findS L e.f1 with
    | none =>
      rw [hff] at hS
      have hS' : trkL e.f1 Q = (0, -1) := hS
      rw [hS']
      rfl
    | some s =>
      rw [hff] at hS
      obtain ⟨p1, p2, p3⟩ := hS
      show (if (true == decide (((trkL e.f1 Q).1 : Int) > 0)) = true then (if true = true then (if s.f1 = ((trkL e.f1 Q).1 : Int) then some (s.f2 == (trkL e.f1 Q).2) else none) else some true) else none) = some true
      rw [decide_eq_true (show ((trkL e.f1 Q).1 : Int) > 0 by omega), if_pos (by decide), if_pos rfl, if_pos p2, p3, beq_iff_eq.mpr rfl]
  | succ d ih =>
    intro i hi
    have hlt : i < Q.length := by omega
    have hm := may_again hI hF i hlt h
    obtain ⟨f1, f2⟩ := hF i hlt
    have hb := trkL_len e.f1 (Q.take i)
    rw [List.length_take] at hb
    have hn := ih (i + 1) (by omega)
    rw [take_succ_trk _ Q i hlt] at hn
    refine Ev.step (fun k => by
      simp only [spoorlaw14_OrderOnce.l0]
      rw [if_pos (show (i : Int) < (Q.length : Int) by omega), if_pos (show (0 : Int) ≤ (i : Int) by omega), if_pos (show (i : Int) < (Q.length : Int) by omega), rdE_nat _ i hlt]) (Ev.bind (May_ev L Q[i] h) ?_)
    simp only [if_neg hm]
    rw [wrap_up i (by omega)]
    by_cases c : Q[i].f1 = e.f1
    · unfold trk at hn
      rw [if_pos c] at hn
      rw [c] at f1 f2
      simp only [if_pos c]
      rw [wrap_nat _ (by omega)]
      have f1' : Q[i].f2 = (((trkL e.f1 (Q.take i)).1 + 1 : Nat) : Int) := by rw [f1]; omega
      simp only [if_pos f1']
      have f2' : ¬ Q[i].f3 < (trkL e.f1 (Q.take i)).2 := by omega
      simp only [if_neg f2']
      exact hn
    · unfold trk at hn
      rw [if_neg c] at hn
      simp only [if_neg c]
      exact hn
theorem OrderOnce : spoorlaw14_OrderOnce.Pure := by
  intro es a0 a1 a2 a3 a4 a5 a6 a7 a8 a9 a10 a11 h hl he hh
  let e : Event := ⟨a0, a1, a2, a3, ⟨a4, ⟨a5, a6⟩, a7⟩, ⟨a8, a9⟩, a10, a11⟩
  have hu : ∀ x ∈ es, 0 ≤ x.f2 := fun x hx => (wf_u64 (hl.2 x hx).2.2.1).1
  have hI0 : Inv [] [] := ⟨rfl, fun r => rfl⟩
  have hF0 : Facts [] := fun j hj => absurd hj (Nat.not_lt_zero _)
  obtain ⟨g1, g2, g3⟩ := allGo_inv h es [] [] hu hI0 hF0
  rw [List.nil_append] at g2 g3
  have hgo := All_l0 es h (by omega) es.length 0 [] (by omega)
  rw [List.drop_zero, Nat.zero_add] at hgo
  apply Ev.rounds
  unfold spoorlaw14_OrderOnce.f
  refine Ev.bind lives_ev ?_
  simp only [if_true]
  have hall : Ev (fun k => order_All.f k [] es h) ((allGo h [] es).1, ((allGo h [] es).2.1 : Int), (allGo h [] es).2.2) := by
    unfold order_All.f
    refine Ev.bind (Check_ev []) ?_
    have c0 : checkS [] = 0 := rfl
    simp only [if_pos c0]
    have hc : api_Seat_19.f [] = some [] := rfl
    rw [hc]
    simp only [Option.bind_some]
    exact hgo
  refine Ev.bind hall ?_
  have c1 : ¬ ((allGo h [] es).2.1 : Int) > (es.length : Int) := by omega
  have c2 : (0 : Int) ≤ ((allGo h [] es).2.1 : Int) := by omega
  have c3 : ((allGo h [] es).2.1 : Int) ≤ (es.length : Int) := by omega
  simp only [if_neg c1, if_pos c2, if_pos c3, Int.toNat_natCast, Option.bind_some]
  have hend := Once_l0 (es.take (allGo h [] es).2.1) (allGo h [] es).1 h e (by rw [List.length_take]; omega) g2 g3 (es.take (allGo h [] es).2.1).length 0 (by omega)
  exact hend
end Go.Proofs.Ytdccjkeiifplnaa.Pure
