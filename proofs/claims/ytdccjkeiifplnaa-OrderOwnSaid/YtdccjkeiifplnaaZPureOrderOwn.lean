/- Whether an event fits hangs on its own router's seat alone, but for ErrFull; what is taken changes no other seat, and seats stay right. No condition beyond the statement's own. -/
import Derived.Test.YtdccjkeiifplnaaZPx1004
import Derived.Test.YtdccjkeiifplnaaZOrderTake
set_option linter.unusedVariables false
set_option linter.unusedSimpArgs false
namespace Go.Proofs.Ytdccjkeiifplnaa.Pure
open Go.RowKit Go.Proofs.Ytdccjkeiifplnaa.P Go.Proofs.YtdccjkeiifplnaaW.PrintWords Go.Proofs.YtdccjkeiifplnaaW.PrintLast Go.Proofs.YtdccjkeiifplnaaW.PrintMore
def alone (l : List Seat) (r : Int) : List Seat := match findS l r with | some s => [s] | none => []
theorem alone_find (l : List Seat) (r : Int) : findS (alone l r) r = findS l r := by
  unfold alone
  cases h : findS l r with
  | some s => simp only; rw [find_cons, if_pos (find_mem h).2]
  | none => rfl
theorem alone_check {l : List Seat} (r : Int) (h : checkS l = 0) : checkS (alone l r) = 0 := by
  unfold alone
  cases hf : findS l r with
  | some s =>
    simp only
    have := ((checkS_iff l).mp h).2.1 s (find_mem hf).1
    exact (checkS_iff _).mpr ⟨by simp, fun t ht => by rw [List.mem_singleton] at ht; rw [ht]; exact this, List.pairwise_singleton _ _⟩
  | none => show checkS [] = 0; rfl
theorem may_alone (l : List Seat) (e : Event) (c h : Int) (hc : checkS l = 0) : mayF (alone l e.f1) e c h = mayF l e c h ∨ mayF l e c h = 8 := by
  have ea : askedF (alone l e.f1) c h = askedF l c h := by unfold askedF; rw [alone_check _ hc, hc]
  unfold mayF
  rw [ea]
  split
  · unfold fitsF
    rw [alone_find]
    cases hf : findS l e.f1 with
    | some s => exact .inl rfl
    | none =>
      have : alone l e.f1 = [] := by unfold alone; rw [hf]
      simp only
      split
      · split
        · split
          · exact .inl rfl
          · by_cases q : l.length ≥ 64
            · rw [if_pos q]; exact .inr rfl
            · rw [if_neg q, this, if_neg (show ¬ ([] : List Seat).length ≥ 64 by decide)]; exact .inl rfl
        · exact .inl rfl
      · exact .inl rfl
  · exact .inl rfl
theorem wrap_count (n m : Nat) (hn : n ≤ 64) (hm : m ≤ 1) : wrap64 (wrap64 ((n : Int) + 1) - (m : Int)) = ((n + 1 - m : Nat) : Int) := by unfold wrap64; omega
theorem Own_l0 (l m al : List Seat) (e : Event) (hl : l.length ≤ 64) (hm : m.length ≤ 1000) (hfind : ∀ s ∈ l, ∃ t, findS m s.f0 = some t ∧ (s.f0 = e.f1 ∨ t = s)) (hcheck : checkS m = 0) (hlen : al.length ≤ 1 ∧ m.length = l.length + 1 - al.length) (d : Nat) : ∀ i : Nat, i + d = l.length →
    Ev (fun k => spoorlaw14_OrderOwn.l0 k l m al l (l.length : Int) i e.f0 e.f1 e.f2 e.f3 e.f4.f0 e.f4.f1.f0 e.f4.f1.f1 e.f4.f2 e.f5.f0 e.f5.f1 e.f6 e.f7) true := by
  induction d with
  | zero =>
    intro i hi
    have hck := Check_ev m
    rw [hcheck] at hck
    have hend : Ev (fun k => (order_Check.f k m).bind fun t335 => (if t335 = 0 then (some ((m.length : Int) == (wrap64 ((wrap64 ((l.length : Int) + 1)) - (al.length : Int))))) else (none))) true := by
      refine Ev.bind hck ?_
      simp only [if_true]
      rw [wrap_count _ _ hl hlen.1, ← hlen.2, beq_iff_eq.mpr rfl]
      exact Ev.now _
    refine Ev.step (fun k => ?_) hend
    simp only [spoorlaw14_OrderOwn.l0]
    rw [if_neg (by omega)]
  | succ d ih =>
    intro i hi
    have hlt : i < l.length := by omega
    obtain ⟨t, h1, h2⟩ := hfind l[i] (List.getElem_mem hlt)
    refine Ev.step (fun k => ?_) (ih (i + 1) (by omega))
    simp only [spoorlaw14_OrderOwn.l0]
    rw [if_pos (by omega), if_pos (by omega), if_pos (by omega), rdS_nat _ i hlt, Find_f m _ (by omega), h1, wrap_up i (by omega)]
    simp only [Option.bind_some, order_Find.r, if_true]
    rcases h2 with h2 | h2
    · rw [if_pos h2]
    · subst h2
      split
      · rfl
      · rw [if_neg (by simp)]
theorem OrderOwn : spoorlaw14_OrderOwn.Pure := by
  intro l a0 a1 a2 a3 a4 a5 a6 a7 a8 a9 a10 a11 h hl he hh
  let e : Event := ⟨a0, a1, a2, a3, ⟨a4, ⟨a5, a6⟩, a7⟩, ⟨a8, a9⟩, a10, a11⟩
  have hu2 := wf_u64 he.2.2.1
  apply Ev.rounds
  unfold spoorlaw14_OrderOwn.f
  refine Ev.bind lives_ev ?_
  simp only [if_true]
  refine Ev.bind (Next_ev l e h) (Ev.bind (Check_ev l) ?_)
  by_cases hc : checkS l = 0
  · simp only [if_pos hc]
    have hl64 := ((checkS_iff l).mp hc).1
    rw [Find_f l a1 (by omega)]
    simp only [Option.bind_some]
    have key : Ev (fun k => spoorlaw14_OrderOwn.j0 k l h (nextF l e (msgC e) h).1 (nextF l e (msgC e) h).2 (alone l a1) a0 a1 a2 a3 a4 a5 a6 a7 a8 a9 a10 a11) true := by
      have hmay := may_alone l e (msgC e) h hc
      have hn2 : (nextF l e (msgC e) h).2 = mayF l e (msgC e) h := by
        unfold nextF mayF
        split
        · split
          · rename_i q1 q2; exact q2.symm
          · rfl
        · rfl
      have j1 : Ev (fun k => spoorlaw14_OrderOwn.j1 k l (nextF l e (msgC e) h).1 (nextF l e (msgC e) h).2 (alone l a1) false a0 a1 a2 a3 a4 a5 a6 a7 a8 a9 a10 a11) true := by
        by_cases w0 : (nextF l e (msgC e) h).2 = 0
        · have ha : askedF l (msgC e) h = 0 := by
            rw [hn2] at w0
            unfold mayF at w0
            by_cases q : askedF l (msgC e) h = 0
            · exact q
            · rw [if_neg q] at w0; exact absurd w0 q
          have hf : fitsF l e h = 0 := by rw [hn2] at w0; unfold mayF at w0; rw [if_pos ha] at w0; exact w0
          have e1 : (nextF l e (msgC e) h).1 = takeF l (seatOf e) := by unfold nextF; rw [if_pos ha, if_pos hf]
          have hok := msgC_ok e (asked_len ha).2.2
          have hr := seatOf_right e hok hu2.1
          obtain ⟨hc2, hlen2⟩ := take_right l (seatOf e) hc hr (fits_room hf)
          have hs := ((checkS_iff l).mp hc).2.2
          have hal : (alone l a1).length = if (findS l a1).isSome then 1 else 0 := by
            unfold alone
            cases findS l a1 <;> rfl
          have hlen3 : (alone l a1).length ≤ 1 ∧ (takeF l (seatOf e)).length = l.length + 1 - (alone l a1).length := by
            rw [hlen2, hal]
            show _ ∧ (if (findS l a1).isSome then l.length else l.length + 1) = _
            cases (findS l a1).isSome <;> simp
          have hfind : ∀ s ∈ l, ∃ t, findS (takeF l (seatOf e)) s.f0 = some t ∧ (s.f0 = e.f1 ∨ t = s) := by
            intro s hsl
            rw [find_take l (seatOf e) hs]
            by_cases q : (seatOf e).f0 = s.f0
            · rw [if_pos q]; exact ⟨_, rfl, .inl q.symm⟩
            · rw [if_neg q]
              obtain ⟨A, B, e4⟩ := List.append_of_mem hsl
              refine ⟨s, ?_, .inr rfl⟩
              have hp := hs
              unfold sorted at hp
              rw [e4, List.pairwise_append] at hp
              rw [e4, find_app A _ _ (fun a ha' => by have := hp.2.2 a ha' s (by simp); omega), find_cons, if_pos rfl]
          have hl0 := Own_l0 l (takeF l (seatOf e)) (alone l a1) e hl64 (by rw [hlen2]; split <;> omega) hfind hc2 hlen3 l.length 0 (by omega)
          refine Ev.step (fun k => ?_) hl0
          simp only [spoorlaw14_OrderOwn.j1]
          rw [if_neg (by decide), if_pos w0, e1]
          rfl
        · by_cases w2 : (nextF l e (msgC e) h).2 = 2
          · refine Ev.step (fun k => ?_) (Ev.now _)
            simp only [spoorlaw14_OrderOwn.j1]
            rw [if_neg (by decide), if_neg w0, if_pos w2]
          · by_cases w1 : (nextF l e (msgC e) h).2 = 1
            · refine Ev.step (fun k => ?_) (Ev.now _)
              simp only [spoorlaw14_OrderOwn.j1]
              rw [if_neg (by decide), if_neg w0, if_neg w2, if_pos w1]
            · have e1 : (nextF l e (msgC e) h).1 = l := by
                unfold nextF at w0 w1 w2 ⊢
                by_cases q : askedF l (msgC e) h = 0
                · rw [if_pos q] at w0 ⊢
                  by_cases q2 : fitsF l e h = 0
                  · rw [if_pos q2] at w0; exact absurd rfl w0
                  · rw [if_neg q2]
                · exfalso
                  rw [if_neg q] at w1 w2
                  unfold askedF at w1 w2 q
                  split at w1
                  · split at w1
                    · exact w1 rfl
                    · rename_i q5 q6; rw [if_pos q5, if_neg q6] at q; exact q rfl
                  · rename_i q5; rw [if_neg q5] at w2; exact w2 rfl
              refine Ev.step (f := fun k => (spoorref14_Same.f k l l).bind fun t => some t) (fun k => ?_) (Ev.bind (Same_refl l (by omega)) (Ev.now _))
              simp only [spoorlaw14_OrderOwn.j1]
              rw [if_neg (by decide), if_neg w0, if_neg w2, if_neg w1, e1]
      refine Ev.step (f := fun k => (order_May.f k (alone l a1) a0 a1 a2 a3 a4 a5 a6 a7 a8 a9 a10 a11 h).bind fun t325 => (if t325 = (nextF l e (msgC e) h).2 then (spoorlaw14_OrderOwn.j1 k l (nextF l e (msgC e) h).1 (nextF l e (msgC e) h).2 (alone l a1) false a0 a1 a2 a3 a4 a5 a6 a7 a8 a9 a10 a11) else (spoorlaw14_OrderOwn.j1 k l (nextF l e (msgC e) h).1 (nextF l e (msgC e) h).2 (alone l a1) ((nextF l e (msgC e) h).2 != 8) a0 a1 a2 a3 a4 a5 a6 a7 a8 a9 a10 a11))) (fun k => by simp only [spoorlaw14_OrderOwn.j0]) (Ev.bind (May_ev (alone l a1) e h) ?_)
      by_cases q : mayF (alone l a1) e (msgC e) h = (nextF l e (msgC e) h).2
      · simp only [if_pos q]; exact j1
      · simp only [if_neg q]
        have e8 : (nextF l e (msgC e) h).2 = 8 := by
          rw [hn2] at q ⊢
          exact hmay.resolve_left q
        have : ((nextF l e (msgC e) h).2 != 8) = false := bne_eq_false_iff_eq.mpr e8
        rw [this]; exact j1
    cases hf : findS l a1 with
    | some s =>
      have ea : alone l a1 = [s] := by unfold alone; rw [hf]
      simp only [order_Find.r, if_true]
      rw [ea] at key
      have : ([] : List Seat).length < 4398046511104 := by decide
      simp only [if_pos this]
      exact key
    | none =>
      have ea : alone l a1 = [] := by unfold alone; rw [hf]
      simp only [order_Find.r, Bool.false_eq_true, if_false]
      rw [ea] at key
      exact key
  · simp only [if_neg hc]
    have : (nextF l e (msgC e) h).2 = 2 := by
      have ha : askedF l (msgC e) h = 2 := by unfold askedF; rw [if_neg (fun z => hc z.1)]
      unfold nextF
      rw [ha, if_neg (by decide)]
    rw [this]
    exact Ev.now _
end Go.Proofs.Ytdccjkeiifplnaa.Pure
