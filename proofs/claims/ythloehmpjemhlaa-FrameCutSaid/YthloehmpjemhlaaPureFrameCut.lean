/- Of frames that are put one behind the other, and cut anywhere, those are read that are whole, and no other one. No condition beyond the statement's own. -/
import Derived.Test.YthloehmpjemhlaaPx9
import Derived.Test.YthloehmpjemhlaaFrameCut
set_option linter.unusedVariables false
set_option linter.unusedSimpArgs false
namespace Go.Proofs.Ythloehmpjemhlaa.Pure
open Go.RowKit Go.Proofs.Ythloehmpjemhlaa.P Go.Proofs.YthloehmpjemhlaaW.PrintWords Go.Proofs.YthloehmpjemhlaaW.PrintLast
theorem wrap_small (n : Nat) (h : n ≤ 9223372036854775806) : wrap64 (n : Int) = (n : Int) := by unfold wrap64; omega
theorem wrap_pred (n : Nat) (h : n ≤ 9223372036854775806) : wrap64 ((n : Int) - 1) = (n : Int) - 1 := by unfold wrap64; omega
theorem wrap_plus (a b : Nat) (h : a + b ≤ 9223372036854775806) : wrap64 ((a : Int) + (b : Int)) = ((a + b : Nat) : Int) := by unfold wrap64; omega
theorem cut_b (i m sz at_ : Nat) (h : sz ≤ at_ ↔ i < m) : ((decide ((i : Int) < (m : Int))) != (decide ((sz : Int) ≤ (at_ : Int)))) = false := by
  have : decide ((i : Int) < (m : Int)) = decide ((sz : Int) ≤ (at_ : Int)) := by
    rw [Bool.eq_iff_iff, decide_eq_true_iff, decide_eq_true_iff, Int.ofNat_lt, Int.ofNat_le]
    exact h.symm
  rw [this]
  cases decide ((sz : Int) ≤ (at_ : Int)) <;> rfl
theorem ne_self (a b : Int) (h : a = b) : (a != b) = false := by rw [h]; simp
theorem cut_l0 (l : List ByteArray) (hg : good l) (at_ : Nat) (m : List ByteArray) (used : Int) (hm : m.length = whole l at_) (hu : used = ((cat (l.take (whole l at_))).size : Int)) (d : Nat) : ∀ i : Nat, i + d = l.length → Ev (fun k => spoorlaw04_FrameCut.l0 k (at_ : Int) m used ((cat (l.take i)).size : Int) false l (l.length : Int) i) true := by
  induction d with
  | zero =>
    intro i hi
    refine Ev.step (f := fun _ => some true) (fun k => ?_) (Ev.now _)
    simp only [spoorlaw04_FrameCut.l0]
    rw [if_neg (by omega), if_neg (by decide)]
    by_cases h0 : (m.length : Int) > 0
    · rw [if_pos h0]
    · rw [if_neg h0]
      have : whole l at_ = 0 := by omega
      rw [hu, this]
      rfl
  | succ d ih =>
    intro i hi
    have hlt : i < l.length := by omega
    have hp := hg.2 l[i] (List.getElem_mem hlt)
    have h20 := hg.1
    have ht : l.take (i + 1) = l.take i ++ [l[i]] := List.take_succ_eq_append_getElem hlt
    have hsz : (cat (l.take (i + 1))).size = (cat (l.take i)).size + sizeS l[i].size := by rw [ht, cat_snoc, ByteArray.size_append, putS_size]; rfl
    have hle := cat_le (l.take i) (fun p q => hg.2 p (List.mem_of_mem_take q))
    have hll : (l.take i).length ≤ 20 := by rw [List.length_take]; omega
    have hss : sizeS l[i].size ≤ 4110 := by have := putS_le l[i] hp; rw [putS_size] at this; exact this
    have hcs := cat_take_size l at_ i hlt
    have hw : wrap64 (((cat (l.take i)).size : Int) + (sizeS l[i].size : Int)) = ((cat (l.take (i + 1))).size : Int) := by rw [hsz]; exact wrap_plus _ _ (by omega)
    have hwl := whole_le l at_
    refine Ev.step (f := fun k => (frame_Size.f k (l[i].size : Int)).bind fun b => if b.2 = 0 then (if ((decide ((i : Int) < (m.length : Int))) != (decide ((wrap64 (((cat (l.take i)).size : Int) + b.1)) ≤ (at_ : Int)))) = true then spoorlaw04_FrameCut.l0 k (at_ : Int) m used (wrap64 (((cat (l.take i)).size : Int) + b.1)) true l (l.length : Int) ((i + 1 : Nat) : Int) else (if (i : Int) = (wrap64 ((m.length : Int) - 1)) then spoorlaw04_FrameCut.l0 k (at_ : Int) m used (wrap64 (((cat (l.take i)).size : Int) + b.1)) (used != (wrap64 (((cat (l.take i)).size : Int) + b.1))) l (l.length : Int) ((i + 1 : Nat) : Int) else spoorlaw04_FrameCut.l0 k (at_ : Int) m used (wrap64 (((cat (l.take i)).size : Int) + b.1)) false l (l.length : Int) ((i + 1 : Nat) : Int))) else spoorlaw04_FrameCut.l0 k (at_ : Int) m used (wrap64 (((cat (l.take i)).size : Int) + b.1)) true l (l.length : Int) ((i + 1 : Nat) : Int)) (fun k => ?_) (Ev.bind (FSize_ev (l[i].size : Int)) ?_)
    · simp only [spoorlaw04_FrameCut.l0]
      rw [if_pos (by omega), if_pos (by omega), if_pos (by omega), rdOf_nat _ _ i hlt, wrap_up i (by omega)]
      simp only [Bool.false_eq_true, if_false]
    · have c1 : 0 ≤ (l[i].size : Int) ∧ (l[i].size : Int) ≤ 4096 := by omega
      simp only [if_pos c1, if_true, Int.toNat_natCast, hw]
      have hb := cut_b i m.length (cat (l.take (i + 1))).size at_ (by rw [hm]; exact hcs)
      rw [hb]
      simp only [Bool.false_eq_true, if_false]
      rw [wrap_pred m.length (by omega)]
      by_cases c2 : (i : Int) = (m.length : Int) - 1
      · have hi1 : i + 1 = whole l at_ := by omega
        have hus : (used != ((cat (l.take (i + 1))).size : Int)) = false := ne_self _ _ (by rw [hu, ← hi1])
        simp only [if_pos c2, hus]
        exact ih (i + 1) (by omega)
      · simp only [if_neg c2]
        exact ih (i + 1) (by omega)
theorem FrameCut : spoorlaw04_FrameCut.Pure := by
  intro l at_ hl ha
  apply Ev.rounds
  have jt : ∀ s, Ev (fun k => spoorlaw04_FrameCut.j0 k l at_ s true) true := fun s => Ev.step (fun k => by simp only [spoorlaw04_FrameCut.j0]; exact if_pos trivial) (Ev.now true)
  unfold spoorlaw04_FrameCut.f
  refine Ev.bind lives_ev ?_
  simp only [if_true]
  refine Ev.bind (frames_ev l (by omega) hl.2) ?_
  by_cases hg : good l
  · simp only [if_pos hg, if_true]
    by_cases c : at_ < 0
    · simp only [if_pos c]
      exact jt _
    · simp only [if_neg c]
      by_cases c2 : at_ > ((cat l).size : Int)
      · simp only [decide_eq_true c2]
        exact jt _
      · simp only [decide_eq_false c2]
        obtain ⟨n, rfl⟩ : ∃ n : Nat, at_ = n := ⟨at_.toNat, by omega⟩
        have hn : n ≤ (cat l).size := by omega
        have hc := cat_le l hg.2
        have h20 := hg.1
        have hBt : B ((cat l).extract 0 n) = (B (cat l)).take n := by rw [B_extract, List.drop_zero]
        have htz : ((cat l).extract 0 n).size = n := by rw [ByteArray.size_extract]; omega
        obtain ⟨p1, p2, p3⟩ := parse_cut l hg.2 ((cat l).extract 0 n) n hn hBt
        have hwl := whole_le l n
        have hcw := cat_whole_le l n
        have hall := FAll_ev ((cat l).extract 0 n) (by omega) (by rw [p2]; omega)
        rw [p1] at hall
        have hu : usedOf ((cat l).extract 0 n) (parse ((cat l).extract 0 n)) = ((cat (l.take (whole l n))).size : Int) := by
          by_cases hw : whole l n = 0
          · have : parse ((cat l).extract 0 n) = [] := List.eq_nil_of_length_eq_zero (by rw [p2, hw])
            rw [this, hw]
            rfl
          · obtain ⟨x, hx, hx2⟩ := p3 hw
            unfold usedOf
            rw [hx]
            simp only
            rw [htz]
            have e : (n : Int) - (x.2.size : Int) = ((cat (l.take (whole l n))).size : Int) := by omega
            rw [e]
            exact wrap_small _ (by omega)
        rw [hu] at hall
        have hlen : (l.take (whole l n)).length = whole l n := by rw [List.length_take]; omega
        have jf : ∀ q, q = false → Ev (fun k => spoorlaw04_FrameCut.j1 k l (n : Int) (l.take (whole l n)) ((cat (l.take (whole l n))).size : Int) q) true := by
          intro q hq
          subst hq
          refine Ev.step (fun k => ?_) (cut_l0 l hg n (l.take (whole l n)) _ hlen rfl l.length 0 (by omega))
          simp only [spoorlaw04_FrameCut.j1]
          rw [if_neg (by decide)]
          rfl
        refine Ev.step (f := fun k => (frame_All.f k ((cat l).extract 0 n)).bind fun b => if b.2 > (n : Int) then spoorlaw04_FrameCut.j1 k l (n : Int) b.1 b.2 true else if (b.1.length : Int) > (l.length : Int) then spoorlaw04_FrameCut.j1 k l (n : Int) b.1 b.2 true else (if 0 ≤ (b.1.length : Int) then (if (b.1.length : Int) ≤ (l.length : Int) then ((spoorref04_Same.f k b.1 (l.take ((b.1.length : Int) : Int).toNat)).bind fun t => spoorlaw04_FrameCut.j1 k l (n : Int) b.1 b.2 (!t)) else none) else none)) (fun k => ?_) (Ev.bind hall ?_)
        · simp only [spoorlaw04_FrameCut.j0]
          rw [if_neg (by decide), if_pos (by omega), if_pos (by omega), Int.toNat_natCast]
        · have c3 : ¬ ((cat (l.take (whole l n))).size : Int) > (n : Int) := by omega
          have c4 : ¬ ((l.take (whole l n)).length : Int) > (l.length : Int) := by omega
          have c5 : 0 ≤ ((l.take (whole l n)).length : Int) := by omega
          have c6 : ((l.take (whole l n)).length : Int) ≤ (l.length : Int) := by omega
          simp only [if_neg c3, if_neg c4, if_pos c5, if_pos c6, Int.toNat_natCast]
          rw [hlen]
          have same := Same_ev (l.take (whole l n)) (l.take (whole l n)) (by omega)
          rw [decide_eq_true rfl] at same
          exact Ev.bind same (jf _ rfl)
  · simp only [if_neg hg]
    have : ¬ (false = true) := by decide
    simp only [if_neg this]
    exact jt _
end Go.Proofs.Ythloehmpjemhlaa.Pure
