/- The document's answer for events and seats is the program's. -/
import Derived.Test.YtdccjkeiifplnaaZPx1008
import Derived.Test.YtdccjkeiifplnaaZPx1015
import Derived.Test.YtdccjkeiifplnaaZPx1025
import Derived.Test.YtdccjkeiifplnaaZOrderTake
import Derived.Test.YtdccjkeiifplnaaZOrderAddr
set_option linter.unusedVariables false
set_option linter.unusedSimpArgs false
namespace Go.Proofs.Ytdccjkeiifplnaa.Pure
open Go.RowKit Go.Proofs.Ytdccjkeiifplnaa.P Go.Proofs.YtdccjkeiifplnaaW.PrintWords Go.Proofs.YtdccjkeiifplnaaW.PrintLast Go.Proofs.YtdccjkeiifplnaaW.PrintMore
theorem Ev_uniq {α : Type} {g : Nat → Option α} {r s : α} (h : Ev g r) (h' : Ev g s) : r = s := by
  obtain ⟨K, hK⟩ := h
  obtain ⟨K', hK'⟩ := h'
  have e1 := hK (K + K') (by omega)
  have e2 := hK' (K + K') (by omega)
  rw [e1] at e2
  exact Option.some.inj e2
theorem Ev_succ {α : Type} {g : Nat → Option α} {r : α} (h : Ev (fun k => g (k + 1)) r) : Ev g r := Ev.step (fun _ => rfl) h
theorem zc (x : Int) : ((0 : Int) == x) = (x == 0) := by
  by_cases h : x = 0
  · rw [h]
  · rw [beq_eq_false_iff_ne.mpr h, beq_eq_false_iff_ne.mpr (fun e => h e.symm)]
theorem leaf_ev (c d : Bool) (h : c = d) : Ev (fun _ => if c = true then some (2 : Int) else some 0) (if d = true then 2 else 0) := by
  subst h
  cases c
  · exact Ev.now _
  · exact Ev.now _
theorem acts_same (a b : Int) : spoorref11_Acts.f a b = msg_acts.f a b := by
  unfold spoorref11_Acts.f msg_acts.f msg_iface.f
  by_cases h : a = 1
  · rw [if_pos h, if_pos h]
    by_cases c : b ≥ 0
    · rw [if_pos c]; rfl
    · rw [if_neg c]; rfl
  · rw [if_neg h, if_neg h]
def d12 (a4 : Bool) (a5 a6 a7 a8 a9 a10 a11 : Int) : Bool := (a4 || ((!(a5 == 0) || (!(a6 == 0))) || (!(a7 == 0)))) || ((!(a8 == 0) || (!(a9 == 0))) || (!(a10 == 0) || (!(a11 == 0))))
def d3 (a10 a11 : Int) : Bool := !(a10 == 0) || (!(a11 == 0))
def d4 (a8 a9 a10 a11 : Int) : Bool := (!(a8 == 0) || (!(a9 == 0))) || (!(a10 == 0) || (!(a11 == 0)))
def d5 (a4 : Bool) (a5 a6 a7 a8 a9 : Int) : Bool := (a4 || ((!(a5 == 0) || (!(a6 == 0))) || (!(a7 == 0)))) || (!(a8 == 0) || (!(a9 == 0)))
def d6 (a4 : Bool) (a5 a6 a7 a8 a9 a11 : Int) : Bool := (a4 || ((!(a5 == 0) || (!(a6 == 0))) || (!(a7 == 0)))) || ((!(a8 == 0) || (!(a9 == 0))) || (!(a11 == 0)))
theorem j1_both (x37 : Bool) (a0 a1 a2 a3 : Int) (a4 : Bool) (hi lo : Nat) (h1 : hi < 2 ^ 64) (h2 : lo < 2 ^ 64) (a7 a8 a9 a10 a11 : Int) : ∃ v,
    Ev (fun k => msg_Check.j1 k true a0 x37 a0 a1 a2 a3 a4 hi lo a7 a8 a9 a10 a11 0 0 0 0 a4 hi lo a7 a8 a9 a10 a11) v ∧
    Ev (fun k => spoorref11_Check.j1 k true a0 x37 a0 a1 a2 a3 a4 hi lo a7 a8 a9 a10 a11 a0 a1 a2 a3 false 0 0 0 0 0 0 0) v := by
  have ha := addr_ev a4 hi lo h1 h2 a7
  have hr := raddr_ev a4 hi lo h1 h2 a7
  cases x37 with
  | true =>
    refine ⟨if d12 a4 hi lo a7 a8 a9 a10 a11 = true then 2 else 0, Ev_succ ?_, Ev_succ ?_⟩
    · simp only [msg_Check.j1, if_true]
      refine leaf_ev _ _ ?_
      unfold d12
      simp
    · simp only [spoorref11_Check.j1, if_true]
      refine leaf_ev _ _ ?_
      unfold d12
      simp only [beq_self_eq_true, zc]
      simp
  | false =>
    by_cases c3 : a0 = 3
    · subst c3
      obtain ⟨ac, hac⟩ := acts_tot a8 a9
      refine ⟨if ac = true then (if addrF a4 hi lo a7 = 0 then (if d3 a10 a11 = true then 2 else 0) else 2) else 2, Ev_succ ?_, Ev_succ ?_⟩
      · simp only [msg_Check.j1, Bool.false_eq_true, if_false, if_true]
        rw [hac]
        simp only [Option.bind_some]
        cases ac with
        | false => simp only [Bool.false_eq_true, if_false]; exact Ev.now _
        | true =>
          simp only [if_true]
          refine Ev.bind ha ?_
          by_cases z : addrF a4 hi lo a7 = 0
          · simp only [if_pos z]
            refine leaf_ev _ _ ?_
            unfold d3
            simp
          · simp only [if_neg z]; exact Ev.now _
      · simp only [spoorref11_Check.j1, Bool.false_eq_true, if_false, if_true]
        refine Ev.bind hr ?_
        rw [acts_same, hac]
        simp only [Option.bind_some]
        by_cases z : addrF a4 hi lo a7 = 0
        · simp only [if_pos z]
          cases ac with
          | false => simp only [Bool.false_eq_true, if_false]; exact Ev.now _
          | true =>
            simp only [if_true]
            refine leaf_ev _ _ ?_
            unfold d3
            simp only [beq_self_eq_true, zc]
            simp
        · simp only [if_neg z]
          cases ac
          · exact Ev.now _
          · exact Ev.now _
    · by_cases c4 : a0 = 4
      · subst c4
        refine ⟨if addrF a4 hi lo a7 = 0 then (if d4 a8 a9 a10 a11 = true then 2 else 0) else 2, Ev_succ ?_, Ev_succ ?_⟩
        · simp only [msg_Check.j1, Bool.false_eq_true, if_false, if_true, if_neg (show ¬ (4 : Int) = 3 by decide)]
          refine Ev.bind ha ?_
          by_cases z : addrF a4 hi lo a7 = 0
          · simp only [if_pos z]
            refine leaf_ev _ _ ?_
            unfold d4
            simp
          · simp only [if_neg z]; exact Ev.now _
        · simp only [spoorref11_Check.j1, Bool.false_eq_true, if_false, if_true, if_neg (show ¬ (4 : Int) = 3 by decide)]
          refine Ev.bind hr ?_
          by_cases z : addrF a4 hi lo a7 = 0
          · simp only [if_pos z]
            refine leaf_ev _ _ ?_
            unfold d4
            simp only [beq_self_eq_true, zc]
            simp
          · simp only [if_neg z]; exact Ev.now _
      · by_cases c5 : a0 = 5
        · subst c5
          refine ⟨if (0 ≤ a11 ∧ a11 ≤ 1048576) ∧ (0 ≤ a10 ∧ a10 ≤ 65536) then (if d5 a4 hi lo a7 a8 a9 = true then 2 else 0) else 2, Ev_succ ?_, Ev_succ ?_⟩
          · simp only [msg_Check.j1, Bool.false_eq_true, if_false, if_true, if_neg (show ¬ (5 : Int) = 3 by decide), if_neg (show ¬ (5 : Int) = 4 by decide)]
            rw [id_tot]
            simp only [Option.bind_some]
            by_cases p : 0 ≤ a11 ∧ a11 ≤ 1048576
            · rw [decide_eq_true p]
              simp only [if_true]
              unfold msg_iface.f
              by_cases q1 : a10 ≥ 0
              · simp only [if_pos q1, Option.bind_some]
                by_cases q2 : a10 ≤ 65536
                · rw [decide_eq_true q2, if_pos (show (0 ≤ a11 ∧ a11 ≤ 1048576) ∧ (0 ≤ a10 ∧ a10 ≤ 65536) from ⟨p, q1, q2⟩)]
                  simp only [if_true]
                  refine leaf_ev _ _ ?_
                  unfold d5
                  simp
                · rw [decide_eq_false q2, if_neg (show ¬ ((0 ≤ a11 ∧ a11 ≤ 1048576) ∧ (0 ≤ a10 ∧ a10 ≤ 65536)) by omega)]
                  simp only [Bool.false_eq_true, if_false]; exact Ev.now _
              · simp only [if_neg q1, Option.bind_some]
                rw [if_neg (show ¬ ((0 ≤ a11 ∧ a11 ≤ 1048576) ∧ (0 ≤ a10 ∧ a10 ≤ 65536)) by omega)]
                simp only [Bool.false_eq_true, if_false]; exact Ev.now _
            · rw [decide_eq_false p, if_neg (show ¬ ((0 ≤ a11 ∧ a11 ≤ 1048576) ∧ (0 ≤ a10 ∧ a10 ≤ 65536)) by omega)]
              simp only [Bool.false_eq_true, if_false]; exact Ev.now _
          · simp only [spoorref11_Check.j1, Bool.false_eq_true, if_false, if_true, if_neg (show ¬ (5 : Int) = 3 by decide), if_neg (show ¬ (5 : Int) = 4 by decide)]
            by_cases q1 : a10 ≥ 0
            · simp only [if_pos q1]
              by_cases q2 : a10 ≤ 65536
              · simp only [if_pos q2]
                by_cases p1 : a11 ≥ 0
                · simp only [if_pos p1]
                  by_cases p2 : a11 ≤ 1048576
                  · simp only [if_pos p2]
                    rw [if_pos (show (0 ≤ a11 ∧ a11 ≤ 1048576) ∧ (0 ≤ a10 ∧ a10 ≤ 65536) from ⟨⟨p1, p2⟩, q1, q2⟩)]
                    refine leaf_ev _ _ ?_
                    unfold d5
                    simp only [beq_self_eq_true, zc]
                    simp
                  · simp only [if_neg p2]
                    rw [if_neg (show ¬ ((0 ≤ a11 ∧ a11 ≤ 1048576) ∧ (0 ≤ a10 ∧ a10 ≤ 65536)) by omega)]; exact Ev.now _
                · simp only [if_neg p1]
                  rw [if_neg (show ¬ ((0 ≤ a11 ∧ a11 ≤ 1048576) ∧ (0 ≤ a10 ∧ a10 ≤ 65536)) by omega)]; exact Ev.now _
              · simp only [if_neg q2]
                rw [if_neg (show ¬ ((0 ≤ a11 ∧ a11 ≤ 1048576) ∧ (0 ≤ a10 ∧ a10 ≤ 65536)) by omega)]; exact Ev.now _
            · simp only [if_neg q1]
              rw [if_neg (show ¬ ((0 ≤ a11 ∧ a11 ≤ 1048576) ∧ (0 ≤ a10 ∧ a10 ≤ 65536)) by omega)]; exact Ev.now _
        · by_cases c6 : a0 = 6
          · subst c6
            refine ⟨if 0 ≤ a10 ∧ a10 ≤ 65536 then (if d6 a4 hi lo a7 a8 a9 a11 = true then 2 else 0) else 2, Ev_succ ?_, Ev_succ ?_⟩
            · simp only [msg_Check.j1, Bool.false_eq_true, if_false, if_true, if_neg (show ¬ (6 : Int) = 3 by decide), if_neg (show ¬ (6 : Int) = 4 by decide), if_neg (show ¬ (6 : Int) = 5 by decide)]
              unfold msg_iface.f
              by_cases q1 : a10 ≥ 0
              · simp only [if_pos q1, Option.bind_some]
                by_cases q2 : a10 ≤ 65536
                · rw [decide_eq_true q2, if_pos (show 0 ≤ a10 ∧ a10 ≤ 65536 from ⟨q1, q2⟩)]
                  simp only [if_true]
                  refine leaf_ev _ _ ?_
                  unfold d6
                  simp
                · rw [decide_eq_false q2, if_neg (show ¬ (0 ≤ a10 ∧ a10 ≤ 65536) by omega)]
                  simp only [Bool.false_eq_true, if_false]; exact Ev.now _
              · simp only [if_neg q1, Option.bind_some]
                rw [if_neg (show ¬ (0 ≤ a10 ∧ a10 ≤ 65536) by omega)]
                simp only [Bool.false_eq_true, if_false]; exact Ev.now _
            · simp only [spoorref11_Check.j1, Bool.false_eq_true, if_false, if_true, if_neg (show ¬ (6 : Int) = 3 by decide), if_neg (show ¬ (6 : Int) = 4 by decide), if_neg (show ¬ (6 : Int) = 5 by decide)]
              by_cases q1 : a10 ≥ 0
              · simp only [if_pos q1]
                by_cases q2 : a10 ≤ 65536
                · simp only [if_pos q2]
                  rw [if_pos (show 0 ≤ a10 ∧ a10 ≤ 65536 from ⟨q1, q2⟩)]
                  refine leaf_ev _ _ ?_
                  unfold d6
                  simp only [beq_self_eq_true, zc]
                  simp
                · simp only [if_neg q2]
                  rw [if_neg (show ¬ (0 ≤ a10 ∧ a10 ≤ 65536) by omega)]; exact Ev.now _
              · simp only [if_neg q1]
                rw [if_neg (show ¬ (0 ≤ a10 ∧ a10 ≤ 65536) by omega)]; exact Ev.now _
          · refine ⟨2, Ev_succ ?_, Ev_succ ?_⟩
            · simp only [msg_Check.j1, Bool.false_eq_true, if_false, if_neg c3, if_neg c4, if_neg c5, if_neg c6]; exact Ev.now _
            · simp only [spoorref11_Check.j1, Bool.false_eq_true, if_false, if_neg c3, if_neg c4, if_neg c5, if_neg c6]; exact Ev.now _
theorem msg_both (a0 a1 a2 a3 : Int) (a4 : Bool) (hi lo : Nat) (h1 : hi < 2 ^ 64) (h2 : lo < 2 ^ 64) (a7 a8 a9 a10 a11 : Int) (hu : 0 ≤ a2) : ∃ v,
    Ev (fun k => msg_Check.f k a0 a1 a2 a3 a4 hi lo a7 a8 a9 a10 a11) v ∧ Ev (fun k => spoorref11_Check.f k a0 a1 a2 a3 a4 hi lo a7 a8 a9 a10 a11) v := by
  have m0 : Ev (fun k => msg_Check.j0 k true a0 a1 a2 a3 a4 hi lo a7 a8 a9 a10 a11) 2 := Ev.step (fun k => by simp only [msg_Check.j0]; rw [if_pos trivial]) (Ev.now _)
  have r0 : Ev (fun k => spoorref11_Check.j0 k true a0 a1 a2 a3 a4 hi lo a7 a8 a9 a10 a11) 2 := Ev.step (fun k => by simp only [spoorref11_Check.j0]; rw [if_pos trivial]) (Ev.now _)
  unfold msg_Check.f spoorref11_Check.f
  rw [id_tot]
  simp only [Option.bind_some]
  by_cases c1 : a1 < 0
  · have : ¬ (0 ≤ a1 ∧ a1 ≤ 1048576) := by omega
    rw [decide_eq_false this]
    simp only [if_pos c1, Bool.false_eq_true, if_false]
    exact ⟨2, m0, r0⟩
  · simp only [if_neg c1]
    by_cases c2 : a1 > 1048576
    · have : ¬ (0 ≤ a1 ∧ a1 ≤ 1048576) := by omega
      rw [decide_eq_false this]
      simp only [if_pos c2, Bool.false_eq_true, if_false]
      exact ⟨2, m0, r0⟩
    · simp only [if_neg c2]
      have : 0 ≤ a1 ∧ a1 ≤ 1048576 := by omega
      rw [decide_eq_true this]
      simp only [if_true]
      by_cases c3 : a2 = 0
      · have c3' : a2 < 1 := by omega
        simp only [if_pos c3, if_pos c3']
        exact ⟨2, m0, r0⟩
      · have c3' : ¬ a2 < 1 := by omega
        simp only [if_neg c3, if_neg c3']
        by_cases c4 : a2 > 1099511627776
        · simp only [if_pos c4]; exact ⟨2, m0, r0⟩
        · simp only [if_neg c4]
          by_cases c5 : a3 < 0
          · simp only [if_pos c5]; exact ⟨2, m0, r0⟩
          · simp only [if_neg c5]
            by_cases c6 : a3 > 1099511627776
            · rw [decide_eq_true c6]; exact ⟨2, m0, r0⟩
            · rw [decide_eq_false c6]
              obtain ⟨v, e1, e2⟩ := j1_both (if a0 = 1 then (a0 == 1) else (a0 == 2)) a0 a1 a2 a3 a4 hi lo h1 h2 a7 a8 a9 a10 a11
              refine ⟨v, Ev.step (fun k => ?_) e1, Ev.step (fun k => ?_) e2⟩
              · simp only [msg_Check.j0]
                rw [if_neg (by decide)]
                split <;> rfl
              · simp only [spoorref11_Check.j0]
                rw [if_neg (by decide)]
                split <;> rfl
def wfE (e : Event) : Prop := 0 ≤ e.f2 ∧ e.f2 < 18446744073709551616 ∧ 0 ≤ e.f4.f1.f0 ∧ e.f4.f1.f0 < 18446744073709551616 ∧ 0 ≤ e.f4.f1.f1 ∧ e.f4.f1.f1 < 18446744073709551616
theorem rmsg_ev (e : Event) (h : wfE e) : Ev (fun k => spoorref11_Check.f k e.f0 e.f1 e.f2 e.f3 e.f4.f0 e.f4.f1.f0 e.f4.f1.f1 e.f4.f2 e.f5.f0 e.f5.f1 e.f6 e.f7) (msgC e) := by
  obtain ⟨w1, w2, w3, w4, w5, w6⟩ := h
  obtain ⟨hi, hh⟩ : ∃ hi : Nat, e.f4.f1.f0 = hi := ⟨e.f4.f1.f0.toNat, by omega⟩
  obtain ⟨lo, hl⟩ : ∃ lo : Nat, e.f4.f1.f1 = lo := ⟨e.f4.f1.f1.toNat, by omega⟩
  have hm := msgC_ev e
  rw [hh, hl] at hm ⊢
  obtain ⟨v, e1, e2⟩ := msg_both e.f0 e.f1 e.f2 e.f3 e.f4.f0 hi lo (by omega) (by omega) e.f4.f2 e.f5.f0 e.f5.f1 e.f6 e.f7 w1
  rw [Ev_uniq hm e1]
  exact e2
theorem RCheck_l0 (l : List Seat) (hl : l.length ≤ 64) (d : Nat) : ∀ i : Nat, i + d = l.length → Ev (fun k => spoorref14_Check.l0 k l l (l.length : Int) i) (if goodFrom (if h : 0 < i ∧ i - 1 < l.length then (l[i - 1]'h.2).f0 else -1) (l.drop i) = true then 0 else 2) := by
  induction d with
  | zero =>
    intro i hi
    refine Ev.step (fun k => ?_) (Ev.now _)
    simp only [spoorref14_Check.l0]
    rw [if_neg (by omega), List.drop_eq_nil_of_le (by omega)]
    rfl
  | succ d ih =>
    intro i hi
    have hlt : i < l.length := by omega
    have ed : l.drop i = l[i] :: l.drop (i + 1) := List.drop_eq_getElem_cons hlt
    have hn := ih (i + 1) (by omega)
    rw [dif_pos (show 0 < i + 1 ∧ i + 1 - 1 < l.length by omega)] at hn
    have en : l[i + 1 - 1]'(by omega) = l[i] := by congr 1
    rw [en] at hn
    obtain ⟨a, ha⟩ : ∃ a, (if h : 0 < i ∧ i - 1 < l.length then (l[i - 1]'h.2).f0 else -1) = a := ⟨_, rfl⟩
    rw [ha, ed]
    have e0 : goodFrom a (l[i] :: l.drop (i + 1)) = (decide (rightP l[i]) && (decide (a < l[i].f0) && goodFrom l[i].f0 (l.drop (i + 1)))) := rfl
    rw [e0]
    have jbad : Ev (fun k => spoorref14_Check.j1 k l (i : Int) l (l.length : Int) (i : Int) true l[i].f0 l[i].f1 l[i].f2 l[i].f3) 2 := Ev.step (fun k => by simp only [spoorref14_Check.j1]; rw [if_pos trivial]) (Ev.now _)
    have jgood : 0 ≤ l[i].f0 → Ev (fun k => spoorref14_Check.j1 k l (i : Int) l (l.length : Int) (i : Int) false l[i].f0 l[i].f1 l[i].f2 l[i].f3) (if decide (a < l[i].f0) && goodFrom l[i].f0 (l.drop (i + 1)) then 0 else 2) := by
      intro h0
      by_cases p : 0 < i
      · have ea : l[i - 1].f0 = a := by rw [← ha, dif_pos ⟨p, by omega⟩]
        have hw : wrap64 ((i : Int) - 1) = ((i - 1 : Nat) : Int) := by unfold wrap64; omega
        by_cases q : l[i].f0 ≤ a
        · rw [decide_eq_false (by omega), Bool.false_and]
          simp only [Bool.false_eq_true, if_false]
          refine Ev.step (fun k => ?_) (Ev.now _)
          simp only [spoorref14_Check.j1]
          rw [if_neg (by decide), if_pos (by omega), hw, if_pos (by omega), if_pos (by omega), rdS_nat l (i - 1) (by omega), ea, if_pos q]
        · rw [decide_eq_true (by omega), Bool.true_and]
          refine Ev.step (fun k => ?_) hn
          simp only [spoorref14_Check.j1]
          rw [if_neg (by decide), if_pos (by omega), hw, if_pos (by omega), if_pos (by omega), rdS_nat l (i - 1) (by omega), ea, if_neg q, wrap_up i (by omega)]
      · have ea : a = -1 := by rw [← ha, dif_neg (fun z => p z.1)]
        rw [decide_eq_true (by omega), Bool.true_and]
        refine Ev.step (fun k => ?_) hn
        simp only [spoorref14_Check.j1]
        rw [if_neg (by decide), if_neg (by omega), wrap_up i (by omega)]
    by_cases c : rightP l[i]
    · obtain ⟨r1, r2, r3, r4, r5, r6⟩ := c
      have c : rightP l[i] := ⟨r1, r2, r3, r4, r5, r6⟩
      rw [decide_eq_true c, Bool.true_and]
      refine Ev.step (fun k => ?_) (jgood r1)
      simp only [spoorref14_Check.l0]
      rw [if_pos (by omega), if_pos (by omega), if_pos (by omega), rdS_nat l i hlt, if_neg (by omega), if_neg (by omega), if_neg (by omega), if_neg (by omega), if_neg (by omega), decide_eq_false (by omega)]
    · rw [decide_eq_false c, Bool.false_and]
      simp only [Bool.false_eq_true, if_false]
      refine Ev.step (fun k => ?_) jbad
      simp only [spoorref14_Check.l0]
      rw [if_pos (by omega), if_pos (by omega), if_pos (by omega), rdS_nat l i hlt]
      unfold rightP at c
      by_cases q1 : l[i].f0 < 0
      · rw [if_pos q1]
      · rw [if_neg q1]
        by_cases q2 : l[i].f0 > 1048576
        · rw [if_pos q2]
        · rw [if_neg q2]
          by_cases q3 : l[i].f1 < 1
          · rw [if_pos q3]
          · rw [if_neg q3]
            by_cases q4 : l[i].f1 > 1099511627776
            · rw [if_pos q4]
            · rw [if_neg q4]
              by_cases q5 : l[i].f2 < 0
              · rw [if_pos q5]
              · rw [if_neg q5, decide_eq_true (by omega)]
theorem RCheck_ev (l : List Seat) : Ev (fun k => spoorref14_Check.f k l) (checkS l) := by
  unfold spoorref14_Check.f checkS
  by_cases c : l.length > 64
  · have c' : (l.length : Int) > 64 := by omega
    simp only [if_pos c, if_pos c']
    exact Ev.now _
  · have c' : ¬ (l.length : Int) > 64 := by omega
    simp only [if_neg c, if_neg c']
    have := RCheck_l0 l (by omega) l.length 0 (by omega)
    rw [List.drop_zero, dif_neg (by omega)] at this
    exact this
theorem RFind_l0 (l : List Seat) (r : Int) (hl : l.length ≤ 140737488351232) (d : Nat) : ∀ i : Nat, i + d = l.length → Ev (fun k => spoorref14_Find.l0 k r l (l.length : Int) i) (order_Find.r (findS (l.drop i) r)) := by
  induction d with
  | zero =>
    intro i hi
    refine Ev.step (fun k => ?_) (Ev.now _)
    simp only [spoorref14_Find.l0]
    rw [if_neg (by omega), List.drop_eq_nil_of_le (by omega)]
    rfl
  | succ d ih =>
    intro i hi
    have hlt : i < l.length := by omega
    have ed : l.drop i = l[i] :: l.drop (i + 1) := List.drop_eq_getElem_cons hlt
    rw [ed, find_cons]
    by_cases c : l[i].f0 = r
    · rw [if_pos c]
      refine Ev.step (fun k => ?_) (Ev.now _)
      simp only [spoorref14_Find.l0]
      rw [if_pos (by omega), if_pos (by omega), if_pos (by omega), rdS_nat l i hlt, if_pos c]
      rfl
    · rw [if_neg c]
      refine Ev.step (fun k => ?_) (ih (i + 1) (by omega))
      simp only [spoorref14_Find.l0]
      rw [if_pos (by omega), if_pos (by omega), if_pos (by omega), rdS_nat l i hlt, if_neg c, wrap_up i (by omega)]
theorem RFind_ev (l : List Seat) (r : Int) (hl : l.length ≤ 140737488351232) : Ev (fun k => spoorref14_Find.f k l r) (order_Find.r (findS l r)) := by
  have := RFind_l0 l r hl l.length 0 (by omega)
  rw [List.drop_zero] at this
  exact this
theorem seq_same (a s : Int) (h0 : 0 ≤ a) (h1 : a < 18446744073709551616) (g0 : 0 ≤ s) (g1 : s < 18446744073709551616) : (IntKind.u64.wrap (a - 1) = s) ↔ (a = IntKind.u64.wrap (s + 1)) := by
  simp only [IntKind.wrap_u64]
  omega
def wfS (l : List Seat) : Prop := ∀ s ∈ l, 0 ≤ s.f1 ∧ s.f1 < 18446744073709551616
theorem rj2_ev (l : List Seat) (e : Event) (h : Int) (hl : l.length ≤ 64) (hw : wfS l) (he : wfE e) : Ev (fun k => (spoorref14_Find.f k l e.f1).bind fun bt201 => (if bt201.2.2.2.2 = true then (spoorref14_May.j2 k l h bt201.2.2.2.2 false e.f0 e.f1 e.f2 e.f3 e.f4.f0 e.f4.f1.f0 e.f4.f1.f1 e.f4.f2 e.f5.f0 e.f5.f1 e.f6 e.f7 bt201.1 bt201.2.1 bt201.2.2.1 bt201.2.2.2.1) else (spoorref14_May.j2 k l h bt201.2.2.2.2 (e.f0 != 1) e.f0 e.f1 e.f2 e.f3 e.f4.f0 e.f4.f1.f0 e.f4.f1.f1 e.f4.f2 e.f5.f0 e.f5.f1 e.f6 e.f7 bt201.1 bt201.2.1 bt201.2.2.1 bt201.2.2.2.1))) (fitsF l e h) := by
  refine Ev.bind (RFind_ev l e.f1 (by omega)) ?_
  unfold fitsF
  obtain ⟨w1, w2, _⟩ := he
  have j3t : ∀ (x8 : Bool) (s0 s1 s2 : Int) (s3 : Bool), Ev (fun k => spoorref14_May.j3 k l x8 true e.f0 e.f1 e.f2 e.f3 e.f4.f0 e.f4.f1.f0 e.f4.f1.f1 e.f4.f2 e.f5.f0 e.f5.f1 e.f6 e.f7 s0 s1 s2 s3) 13 := fun _ _ _ _ _ => Ev.step (fun k => by simp only [spoorref14_May.j3]; rw [if_pos trivial]) (Ev.now _)
  cases hf : findS l e.f1 with
  | some s =>
    obtain ⟨g0, g1⟩ := hw s (find_mem hf).1
    have hq := seq_same e.f2 s.f1 w1 w2 g0 g1
    simp only [order_Find.r, if_true]
    by_cases c1 : IntKind.u64.wrap (e.f2 - 1) = s.f1
    · rw [if_pos c1]
      have c1' := hq.mp c1
      by_cases c2 : e.f3 < s.f2
      · rw [if_pos (.inl c2)]
        refine Ev.step (fun k => ?_) (j3t true s.f0 s.f1 s.f2 s.f3)
        simp only [spoorref14_May.j2]
        rw [if_neg (by decide), if_pos c1', if_pos c2]
      · by_cases c3 : e.f3 ≤ h
        · rw [if_pos (.inr c3)]
          refine Ev.step (fun k => ?_) (j3t true s.f0 s.f1 s.f2 s.f3)
          simp only [spoorref14_May.j2]
          rw [if_neg (by decide), if_pos c1', if_neg c2, decide_eq_true c3]
        · rw [if_neg (by omega)]
          refine Ev.step (f := fun k => spoorref14_May.j3 k l true false e.f0 e.f1 e.f2 e.f3 e.f4.f0 e.f4.f1.f0 e.f4.f1.f1 e.f4.f2 e.f5.f0 e.f5.f1 e.f6 e.f7 s.f0 s.f1 s.f2 s.f3) (fun k => ?_) (Ev.step (fun k => ?_) (Ev.now _))
          · simp only [spoorref14_May.j2]
            rw [if_neg (by decide), if_pos c1', if_neg c2, decide_eq_false c3]
          · simp only [spoorref14_May.j3]
            rw [if_neg (by decide)]
            by_cases c4 : (e.f0 == 1) = s.f3
            · rw [if_pos c4, if_pos (beq_iff_eq.mpr c4.symm)]
            · rw [if_neg c4, if_neg (fun z => c4 (beq_iff_eq.mp z).symm), if_pos trivial]
    · rw [if_neg c1]
      refine Ev.step (fun k => ?_) (Ev.now _)
      simp only [spoorref14_May.j2]
      rw [if_neg (by decide), if_neg (fun z => c1 (hq.mpr z))]
  | none =>
    have hq := seq_same e.f2 0 w1 w2 (by omega) (by omega)
    simp only [order_Find.r, Bool.false_eq_true, if_false]
    by_cases c0 : e.f0 = 1
    · rw [if_pos c0, bne_eq_false_iff_eq.mpr c0]
      by_cases c1 : IntKind.u64.wrap (e.f2 - 1) = 0
      · rw [if_pos c1]
        have c1' := hq.mp c1
        by_cases c2 : e.f3 < 0
        · rw [if_pos (.inl c2)]
          refine Ev.step (fun k => ?_) (j3t false 0 0 0 false)
          simp only [spoorref14_May.j2]
          rw [if_neg (by decide), if_pos c1', if_pos c2]
        · by_cases c3 : e.f3 ≤ h
          · rw [if_pos (.inr c3)]
            refine Ev.step (fun k => ?_) (j3t false 0 0 0 false)
            simp only [spoorref14_May.j2]
            rw [if_neg (by decide), if_pos c1', if_neg c2, decide_eq_true c3]
          · rw [if_neg (by omega)]
            refine Ev.step (f := fun k => spoorref14_May.j3 k l false false e.f0 e.f1 e.f2 e.f3 e.f4.f0 e.f4.f1.f0 e.f4.f1.f1 e.f4.f2 e.f5.f0 e.f5.f1 e.f6 e.f7 0 0 0 false) (fun k => ?_) (Ev.step (fun k => ?_) (Ev.now _))
            · simp only [spoorref14_May.j2]
              rw [if_neg (by decide), if_pos c1', if_neg c2, decide_eq_false c3]
            · simp only [spoorref14_May.j3]
              rw [if_neg (by decide), beq_iff_eq.mpr c0, if_neg (by decide), if_neg (by decide)]
              by_cases c4 : l.length ≥ 64
              · rw [if_pos c4, if_pos (by omega)]
              · rw [if_neg c4, if_neg (by omega)]
      · rw [if_neg c1]
        refine Ev.step (fun k => ?_) (Ev.now _)
        simp only [spoorref14_May.j2]
        rw [if_neg (by decide), if_neg (fun z => c1 (hq.mpr z))]
    · rw [if_neg c0, bne_iff_ne.mpr c0]
      refine Ev.step (fun k => ?_) (Ev.now _)
      simp only [spoorref14_May.j2]
      rw [if_pos (by decide)]
theorem RMay_ev (l : List Seat) (e : Event) (h : Int) (hw : wfS l) (he : wfE e) : Ev (fun k => spoorref14_May.f k l e.f0 e.f1 e.f2 e.f3 e.f4.f0 e.f4.f1.f0 e.f4.f1.f1 e.f4.f2 e.f5.f0 e.f5.f1 e.f6 e.f7 h) (mayF l e (msgC e) h) := by
  unfold spoorref14_May.f mayF askedF
  have jt : Ev (fun k => spoorref14_May.j0 k l h true e.f0 e.f1 e.f2 e.f3 e.f4.f0 e.f4.f1.f0 e.f4.f1.f1 e.f4.f2 e.f5.f0 e.f5.f1 e.f6 e.f7) 2 := Ev.step (fun k => by simp only [spoorref14_May.j0]; rw [if_pos trivial]) (Ev.now _)
  have j1 : Ev (fun k => spoorref14_May.j1 k l h true e.f0 e.f1 e.f2 e.f3 e.f4.f0 e.f4.f1.f0 e.f4.f1.f1 e.f4.f2 e.f5.f0 e.f5.f1 e.f6 e.f7) 1 := Ev.step (fun k => by simp only [spoorref14_May.j1]; rw [if_pos trivial]) (Ev.now _)
  refine Ev.bind (RCheck_ev l) ?_
  by_cases c1 : checkS l = 0
  · simp only [if_pos c1]
    refine Ev.bind (rmsg_ev e he) ?_
    by_cases c2 : msgC e = 0
    · have hb : (msgC e != 0) = false := bne_eq_false_iff_eq.mpr c2
      rw [hb, if_pos (show checkS l = 0 ∧ msgC e = 0 from ⟨c1, c2⟩)]
      by_cases c3 : h < -1
      · rw [if_pos (show h < -1 ∨ h > 1099511627776 from .inl c3), if_neg (by decide)]
        refine Ev.step (fun k => ?_) j1
        simp only [spoorref14_May.j0]
        rw [if_neg (by decide), if_pos c3]
      · by_cases c4 : h > 1099511627776
        · rw [if_pos (show h < -1 ∨ h > 1099511627776 from .inr c4), if_neg (by decide)]
          refine Ev.step (fun k => ?_) j1
          simp only [spoorref14_May.j0]
          rw [if_neg (by decide), if_neg c3, decide_eq_true c4]
        · rw [if_neg (show ¬ (h < -1 ∨ h > 1099511627776) by omega), if_pos rfl]
          have hl := ((checkS_iff l).mp c1).1
          refine Ev.step (f := fun k => spoorref14_May.j1 k l h false e.f0 e.f1 e.f2 e.f3 e.f4.f0 e.f4.f1.f0 e.f4.f1.f1 e.f4.f2 e.f5.f0 e.f5.f1 e.f6 e.f7) (fun k => ?_) (Ev.step (fun k => ?_) (rj2_ev l e h hl hw he))
          · simp only [spoorref14_May.j0]
            rw [if_neg (by decide), if_neg c3, decide_eq_false c4]
          · simp only [spoorref14_May.j1]
            rw [if_neg (by decide)]
    · have hb : (msgC e != 0) = true := bne_iff_ne.mpr c2
      rw [hb, if_neg (show ¬ (checkS l = 0 ∧ msgC e = 0) from fun z => c2 z.2), if_neg (by decide)]
      exact jt
  · simp only [if_neg c1]
    rw [if_neg (show ¬ (checkS l = 0 ∧ msgC e = 0) from fun z => c1 z.1), if_neg (by decide)]
    exact jt
def lower (l : List Seat) (r : Int) : List Seat := l.filter fun s => decide (s.f0 < r)
def upper (l : List Seat) (r : Int) : List Seat := l.filter fun s => decide (s.f0 > r)
theorem RNext_l1 (l : List Seat) (e : Event) (hl : l.length ≤ 64) (d : Nat) : ∀ (i : Nat) (out : List Seat), i + d = l.length → out.length ≤ 65 + i → Ev (fun k => spoorref14_Next.l1 k out l (l.length : Int) i e.f0 e.f1 e.f2 e.f3 e.f4.f0 e.f4.f1.f0 e.f4.f1.f1 e.f4.f2 e.f5.f0 e.f5.f1 e.f6 e.f7) (out ++ upper (l.drop i) e.f1, 0) := by
  induction d with
  | zero =>
    intro i out hi ho
    refine Ev.step (fun k => ?_) (Ev.now _)
    simp only [spoorref14_Next.l1]
    rw [if_neg (by omega), List.drop_eq_nil_of_le (by omega)]
    unfold upper
    rw [List.filter_nil, List.append_nil]
  | succ d ih =>
    intro i out hi ho
    have hlt : i < l.length := by omega
    have ed : l.drop i = l[i] :: l.drop (i + 1) := List.drop_eq_getElem_cons hlt
    by_cases c : l[i].f0 > e.f1
    · have eu : out ++ upper (l.drop i) e.f1 = (out ++ [l[i]]) ++ upper (l.drop (i + 1)) e.f1 := by
        rw [ed]; unfold upper; rw [List.filter_cons, if_pos (decide_eq_true c), List.append_assoc]; rfl
      rw [eu]
      refine Ev.step (fun k => ?_) (ih (i + 1) (out ++ [l[i]]) (by omega) (by rw [List.length_append, List.length_singleton]; omega))
      simp only [spoorref14_Next.l1]
      rw [if_pos (by omega), if_pos (by omega), if_pos (by omega), rdS_nat l i hlt, if_pos c, if_pos (by omega), wrap_up i (by omega)]
    · have eu : upper (l.drop i) e.f1 = upper (l.drop (i + 1)) e.f1 := by
        rw [ed]; unfold upper; rw [List.filter_cons, if_neg (by simp only [decide_eq_true_eq]; exact c)]
      rw [eu]
      refine Ev.step (fun k => ?_) (ih (i + 1) out (by omega) (by omega))
      simp only [spoorref14_Next.l1]
      rw [if_pos (by omega), if_pos (by omega), if_pos (by omega), rdS_nat l i hlt, if_neg c, wrap_up i (by omega)]
theorem RNext_l0 (l : List Seat) (e : Event) (x : Seat) (hl : l.length ≤ 64) (d : Nat) : ∀ (i : Nat) (out : List Seat), i + d = l.length → out.length ≤ i → Ev (fun k => spoorref14_Next.l0 k l out l (l.length : Int) i e.f0 e.f1 e.f2 e.f3 e.f4.f0 e.f4.f1.f0 e.f4.f1.f1 e.f4.f2 e.f5.f0 e.f5.f1 e.f6 e.f7 x.f0 x.f1 x.f2 x.f3) ((out ++ lower (l.drop i) e.f1 ++ [x]) ++ upper l e.f1, 0) := by
  induction d with
  | zero =>
    intro i out hi ho
    have := RNext_l1 l e hl l.length 0 (out ++ [x]) (by omega) (by rw [List.length_append, List.length_singleton]; omega)
    rw [List.drop_zero] at this
    have el : out ++ lower (l.drop i) e.f1 = out := by rw [List.drop_eq_nil_of_le (by omega)]; unfold lower; rw [List.filter_nil, List.append_nil]
    rw [el]
    refine Ev.step (fun k => ?_) this
    simp only [spoorref14_Next.l0]
    rw [if_neg (by omega), if_pos (by omega)]
    rfl
  | succ d ih =>
    intro i out hi ho
    have hlt : i < l.length := by omega
    have ed : l.drop i = l[i] :: l.drop (i + 1) := List.drop_eq_getElem_cons hlt
    by_cases c : l[i].f0 < e.f1
    · have eu : out ++ lower (l.drop i) e.f1 = (out ++ [l[i]]) ++ lower (l.drop (i + 1)) e.f1 := by
        rw [ed]; unfold lower; rw [List.filter_cons, if_pos (decide_eq_true c), List.append_assoc]; rfl
      rw [eu]
      refine Ev.step (fun k => ?_) (ih (i + 1) (out ++ [l[i]]) (by omega) (by rw [List.length_append, List.length_singleton]; omega))
      simp only [spoorref14_Next.l0]
      rw [if_pos (by omega), if_pos (by omega), if_pos (by omega), rdS_nat l i hlt, if_pos c, if_pos (by omega), wrap_up i (by omega)]
    · have eu : lower (l.drop i) e.f1 = lower (l.drop (i + 1)) e.f1 := by
        rw [ed]; unfold lower; rw [List.filter_cons, if_neg (by simp only [decide_eq_true_eq]; exact c)]
      rw [eu]
      refine Ev.step (fun k => ?_) (ih (i + 1) out (by omega) (by omega))
      simp only [spoorref14_Next.l0]
      rw [if_pos (by omega), if_pos (by omega), if_pos (by omega), rdS_nat l i hlt, if_neg c, wrap_up i (by omega)]
theorem filter_all {p : Seat → Bool} {l : List Seat} (h : ∀ s ∈ l, p s = true) : l.filter p = l := List.filter_eq_self.mpr h
theorem filter_no {p : Seat → Bool} {l : List Seat} (h : ∀ s ∈ l, ¬ p s = true) : l.filter p = [] := List.filter_eq_nil_iff.mpr h
theorem take_filters (l : List Seat) (x : Seat) (hs : sorted l) : takeF l x = (lower l x.f0 ++ [x]) ++ upper l x.f0 := by
  obtain ⟨A, M, C, e1, e2, hA, hC, hM⟩ := take_split l x hs
  have m1 : M.filter (fun s => decide (s.f0 < x.f0)) = [] := by
    rcases hM with rfl | ⟨s, rfl, h⟩
    · rfl
    · exact filter_no (fun t ht => by rw [List.mem_singleton] at ht; rw [ht]; simp; omega)
  have m2 : M.filter (fun s => decide (s.f0 > x.f0)) = [] := by
    rcases hM with rfl | ⟨s, rfl, h⟩
    · rfl
    · exact filter_no (fun t ht => by rw [List.mem_singleton] at ht; rw [ht]; simp; omega)
  rw [e2]
  unfold lower upper
  rw [e1, List.filter_append, List.filter_append, List.filter_append, List.filter_append, m1, m2, filter_all (fun s h => decide_eq_true (hA s h)), filter_no (l := C) (fun s h => by have := hC s h; simp; omega), filter_no (l := A) (fun s h => by have := hA s h; simp; omega), filter_all (fun s h => decide_eq_true (hC s h))]
  simp
theorem fits_not (l : List Seat) (e : Event) (h : Int) : ¬ fitsF l e h = 1 ∧ ¬ fitsF l e h = 2 := by
  unfold fitsF
  cases findS l e.f1 with
  | some s =>
    simp only
    split
    · split
      · decide
      · split <;> decide
    · decide
  | none =>
    simp only
    split
    · split
      · split
        · decide
        · split <;> decide
      · decide
    · decide
theorem RNext_ev (l : List Seat) (e : Event) (h : Int) (hw : wfS l) (he : wfE e) : Ev (fun k => spoorref14_Next.f k l e.f0 e.f1 e.f2 e.f3 e.f4.f0 e.f4.f1.f0 e.f4.f1.f1 e.f4.f2 e.f5.f0 e.f5.f1 e.f6 e.f7 h) (nextF l e (msgC e) h) := by
  unfold spoorref14_Next.f
  refine Ev.bind (RMay_ev l e h hw he) ?_
  have jt : ∀ t, Ev (fun k => spoorref14_Next.j0 k l t true e.f0 e.f1 e.f2 e.f3 e.f4.f0 e.f4.f1.f0 e.f4.f1.f1 e.f4.f2 e.f5.f0 e.f5.f1 e.f6 e.f7) ([], t) := fun t => Ev.step (fun k => by simp only [spoorref14_Next.j0]; rw [if_pos trivial]) (Ev.now _)
  unfold mayF nextF
  by_cases a : askedF l (msgC e) h = 0
  · rw [if_pos a, if_pos a]
    obtain ⟨n1, n2⟩ := fits_not l e h
    simp only [if_neg n2]
    rw [beq_eq_false_iff_ne.mpr n1]
    obtain ⟨hl, hc, _⟩ := asked_len a
    by_cases f : fitsF l e h = 0
    · rw [if_pos f, f]
      have hs := ((checkS_iff l).mp hc).2.2
      rw [take_filters l (seatOf e) hs]
      have hx := RNext_l0 l e (seatOf e) hl l.length 0 [] (by omega) (Nat.le_refl _)
      rw [List.drop_zero, List.nil_append] at hx
      refine Ev.step (fun k => ?_) hx
      simp only [spoorref14_Next.j0]
      rw [if_neg (by decide), if_pos trivial]
      rfl
    · rw [if_neg f]
      refine Ev.step (fun k => ?_) (Ev.now _)
      simp only [spoorref14_Next.j0]
      rw [if_neg (by decide), if_neg f]
      simp only [Option.bind_some, List.nil_append]
      rw [if_pos (by simp; omega)]
  · rw [if_neg a, if_neg a]
    have hv : askedF l (msgC e) h = 2 ∨ askedF l (msgC e) h = 1 := by
      unfold askedF at a ⊢
      split at a
      · rename_i q
        rw [if_pos q]
        split at a
        · rename_i q2; rw [if_pos q2]; exact .inr rfl
        · exact absurd rfl a
      · rename_i q; rw [if_neg q]; exact .inl rfl
    rcases hv with v | v
    · rw [v]; simp only [if_true]; exact jt 2
    · rw [v]
      simp only [if_neg (show ¬ (1 : Int) = 2 by decide)]
      exact jt 1
end Go.Proofs.Ytdccjkeiifplnaa.Pure
