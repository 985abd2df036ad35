/- A frame in which one byte of the sum, or of the payload, is another one is not read. No condition beyond the statement's own. -/
import Derived.Test.YthloehmpjemhlaaPx9
import Derived.Test.YthloehmpjemhlaaFrameMany
import Derived.Test.YthloehmpjemhlaaTurned
import Derived.Test.YthloehmpjemhlaaWf
set_option linter.unusedVariables false
set_option linter.unusedSimpArgs false
namespace Go.Proofs.Ythloehmpjemhlaa.Pure
open Go.RowKit Go.Proofs.Ythloehmpjemhlaa.P Go.Proofs.YthloehmpjemhlaaW.PrintWords Go.Proofs.YthloehmpjemhlaaW.PrintLast Go.Proofs.YthloehmpjemhlaaW.PrintMore
theorem wrap_from (n m : Nat) (h : n ≤ 9223372036854775806) (h2 : m + 4 ≤ n) : wrap64 (wrap64 ((n : Int) - (m : Int)) - 4) = ((n - m - 4 : Nat) : Int) := by
  have : wrap64 ((n : Int) - (m : Int)) = (n : Int) - (m : Int) := by unfold wrap64; omega
  rw [this]
  unfold wrap64
  omega
/-- bytes behind a length that hold another sum than the one of what follows. -/
theorem next_turned (p : ByteArray) (hp : p.size ≤ 4096) (t : ByteArray) (S Q M : List UInt8) (hS : S.length = 4) (hQ : Q.length = p.size) (ht : B t = u8s (nb p.size) ++ (S ++ (Q ++ M))) (hne : ¬ I (CrcMath.of Q) = be S) : (nextS t).2.2 = 6 := by
  obtain ⟨m, hm⟩ : ∃ m : ByteArray, B m = S ++ (Q ++ M) := ⟨⟨(S ++ (Q ++ M)).toArray⟩, rfl⟩
  have hg := getS_put p.size (by omega) t m (by rw [ht, hm])
  unfold nextS
  rw [hg]
  simp only [if_true, Int.toNat_natCast]
  have hms : m.size = 4 + (p.size + M.length) := by rw [← B_len, hm, List.length_append, List.length_append, hS, hQ]
  have e1 : (B m).take 4 = S := by rw [hm, ← hS, List.take_left]
  have e2 : ((B m).drop 4).take p.size = Q := by rw [hm, ← hS, List.drop_left, ← hQ, List.take_left]
  unfold tailF
  rw [if_neg (by omega), if_neg (by omega), e1, e2, if_neg hne]
theorem next_turn (p : ByteArray) (hp : p.size ≤ 4096) (i : Nat) (b : Int) (more : ByteArray) (h0 : (nb p.size).length ≤ i) (h1 : i < (putS p).size) (g0 : 0 < b) (g1 : b < 256) : (nextS (Tools.turned (putS p) i b ++ more)).2.2 = 6 := by
  obtain ⟨l, x, y, m, e1, e2, hne, hl⟩ := turned_ne (putS p) i b h1 g0 g1
  rw [B_putS] at e1
  have hz := putS_size p
  have hl0 : (u8s (nb p.size)).length = (nb p.size).length := u8s_len _
  -- what stands ahead is the length's
  obtain ⟨l', rfl⟩ : ∃ l', l = u8s (nb p.size) ++ l' := by
    refine ⟨l.drop (nb p.size).length, ?_⟩
    have := congrArg (List.take (nb p.size).length) e1
    rw [List.take_append_of_le_length (by omega), ← hl0, List.take_length, List.take_append_of_le_length (by omega)] at this
    rw [← hl0]
    conv => rhs; lhs; rw [this]
    exact (List.take_append_drop _ _).symm
  rw [List.append_assoc, List.append_cancel_left_eq] at e1
  rw [List.append_assoc] at e2
  rw [List.length_append, hl0] at hl
  have ht4 : (B (text4 (I (CrcMath.of (B p))))).length = 4 := by rw [B_len, text4_size]
  have hbe := be_text4 _ (I_lo (CrcMath.of (B p))) (I_hi (CrcMath.of (B p)))
  have et : B (Tools.turned (putS p) i b ++ more) = u8s (nb p.size) ++ ((l' ++ y :: m) ++ B more) := by rw [B_app, e2, List.append_assoc]
  have hall : l'.length + (m.length + 1) = 4 + p.size := by
    have := congrArg List.length e1
    rw [List.length_append, List.length_append, ht4, B_len, List.length_cons] at this
    omega
  by_cases c : l'.length < 4
  · -- a byte of the sum
    have hS : (l' ++ y :: m).take 4 ++ (B p ++ B more) = (l' ++ y :: m) ++ B more := by
      have hd : (l' ++ y :: m).drop 4 = B p := by
        have d := congrArg (List.drop 4) e1
        rw [← ht4, List.drop_left] at d
        rw [d, ht4, List.drop_append, List.drop_append]
        congr 1
        cases hk : 4 - l'.length with
        | zero => omega
        | succ k => rfl
      rw [← List.append_assoc, ← hd, List.take_append_drop]
    refine next_turned p hp _ ((l' ++ y :: m).take 4) (B p) (B more) (by rw [List.length_take, List.length_append, List.length_cons]; omega) (B_len p) (by rw [et, hS]) ?_
    rw [← hbe]
    intro e
    have e' := be_inj ht4 (by rw [List.length_take, List.length_append, List.length_cons]; omega) e
    have d := congrArg (List.take 4) e1
    rw [← ht4, List.take_left, ht4] at d
    rw [d] at e'
    have k1 := congrArg (fun z : List UInt8 => z[l'.length]?) e'
    simp only [List.getElem?_take, if_pos c, List.getElem?_append_right (Nat.le_refl _), Nat.sub_self, List.getElem?_cons_zero] at k1
    exact hne (Option.some.inj k1)
  · -- a byte of the payload
    obtain ⟨q, rfl⟩ : ∃ q, l' = B (text4 (I (CrcMath.of (B p)))) ++ q := by
      refine ⟨l'.drop 4, ?_⟩
      have := congrArg (List.take 4) e1
      rw [← ht4, List.take_left, List.take_append_of_le_length (by omega)] at this
      conv => rhs; lhs; rw [this]
      rw [ht4, List.take_append_drop]
    rw [List.append_assoc, List.append_cancel_left_eq] at e1
    refine next_turned p hp _ (B (text4 (I (CrcMath.of (B p))))) (q ++ y :: m) (B more) ht4 (by rw [List.length_append, List.length_cons]; rw [List.length_append, ht4] at hall; omega) (by rw [et]; simp only [List.append_assoc]) ?_
    rw [hbe]
    intro e
    have := I_inj e
    conv at this => rhs; rw [e1]
    exact CrcMath.of_turned q m y x (fun z => hne z.symm) this
theorem FrameTurned : spoorlaw04_FrameTurned.Pure := by
  intro p at_ by_ more hp ha hb hm
  obtain ⟨b0, b1⟩ := wf_u8 hb
  apply Ev.rounds
  unfold spoorlaw04_FrameTurned.f
  refine Ev.bind lives_ev ?_
  simp only [if_true]
  refine Ev.bind (FPut_ev p hp) ?_
  by_cases c0 : p.size > 4096
  · simp only [if_pos c0]
    have d : (11 : Int) ≠ 0 ∨ by_ = 0 := .inl (by decide)
    simp only [if_pos d]
    exact Ev.now _
  · simp only [if_neg c0]
    by_cases c1 : by_ = 0
    · have d : (0 : Int) ≠ 0 ∨ by_ = 0 := .inr c1
      simp only [if_pos d]
      exact Ev.now _
    · have d : ¬ ((0 : Int) ≠ 0 ∨ by_ = 0) := by rintro (h | h); exact h rfl; exact c1 h
      simp only [if_neg d]
      have hz := putS_size p
      have hl := nb_len64 p.size (by omega)
      rw [wrap_from _ _ (by omega) (by omega)]
      by_cases c2 : at_ < (((putS p).size - p.size - 4 : Nat) : Int) ∨ at_ ≥ ((putS p).size : Int)
      · simp only [if_pos c2]
        exact Ev.now _
      · simp only [if_neg c2]
        obtain ⟨i, rfl⟩ : ∃ i : Nat, at_ = i := ⟨at_.toNat, by omega⟩
        have hsz := turned_size (putS p) i by_
        have hn := next_turn p (by omega) i by_ more (by omega) (by omega) (by omega) b1
        simp only [Int.toNat_natCast]
        generalize Tools.turned (putS p) i by_ = T at hn hsz
        have hz2 : (T ++ more).size = T.size + more.size := ByteArray.size_append
        have c3 : 0 ≤ (i : Int) ∧ T.size + more.size ≤ 9223372036854775807 := by omega
        simp only [if_pos c3]
        have hp0 : parse (T ++ more) = [] := parse_no (by rw [hn]; decide)
        refine Ev.bind (FNext_ev _ (by omega)) (Ev.bind (FAll_ev _ (by omega) (by rw [hp0]; decide)) ?_)
        rw [hn, hp0]
        exact Ev.now _
end Go.Proofs.Ythloehmpjemhlaa.Pure
