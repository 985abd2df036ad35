/- The sum of three texts put together is the sum that goes on by each, and that of theirs joined, however they are put in brackets. No condition beyond the statement's own. -/
import Derived.Test.YtlbcnbdliigkdaaPx3
import Derived.Test.YtlbcnbdliigkdaaCrcLives
import Derived.Test.YtlbcnbdliigkdaaCrcEv3
namespace Go.Proofs.Ytlbcnbdliigkdaa.Pure
open Go.RowKit Go.Proofs.Ytlbcnbdliigkdaa.P Go.Proofs.YtlbcnbdliigkdaaW.PrintWords Go.Proofs.YtlbcnbdliigkdaaW.PrintLast

theorem join_yes (l m : List UInt8) (hm : m.length ≤ 1073741824) : Ev (fun k => crc_Join.f k (I (CrcMath.of l)) (I (CrcMath.of m)) (m.length : Int)) (I (CrcMath.of (l ++ m)), 0) := by
  have h := Join_ev (CrcMath.of l) (CrcMath.of m) (m.length : Int)
  rw [if_pos (by omega), Int.toNat_natCast, ← CrcMath.on_mul] at h
  have e : CrcMath.on (CrcMath.of l) m = CrcMath.of (l ++ m) := (CrcMath.on_append _ _ _).symm
  rw [e] at h
  exact h
/-- whatever the length, it answers. -/
theorem join_some (a b : BitVec 32) (n : Int) : ∃ (c : BitVec 32) (w : Int), Ev (fun k => crc_Join.f k (I a) (I b) n) (I c, w) := by
  have h := Join_ev a b n
  by_cases hn : 0 ≤ n ∧ n ≤ 1073741824
  · rw [if_pos hn] at h
    exact ⟨_, _, h⟩
  · rw [if_neg hn] at h
    exact ⟨0#32, 1, h⟩
theorem CrcPieces : spoorlaw02_CrcPieces.Pure := by
  intro a b c ha hb hc
  apply Ev.rounds
  have hy : ∀ (x : BitVec 32) (n : ByteArray), ∃ (c : BitVec 32) (w : Int), Ev (fun k => crc_Join.f k (I x) (I (CrcMath.of (B n))) (n.size : Int)) (I c, w) := fun x n => join_some _ _ _
  unfold spoorlaw02_CrcPieces.f
  by_cases hg : b.size > 1000000 ∨ c.size > 1000000
  · obtain ⟨x, w1, hx⟩ := hy (CrcMath.of (B a)) b
    obtain ⟨y, w2, hyy⟩ := hy x c
    obtain ⟨z, w3, hz⟩ := hy (CrcMath.of (B b)) c
    have j0 : ∀ q1 q2 q3 q4 q5, Ev (fun k => spoorlaw02_CrcPieces.j0 k a b c q1 q2 q3 q4 q5 true) true := fun _ _ _ _ _ => Ev.step (fun k => by simp only [spoorlaw02_CrcPieces.j0]; exact if_pos trivial) (Ev.now true)
    refine Ev.bind lives_ev ?_
    simp only [if_true]
    refine Ev.bind (Of_ev a (by omega)) (Ev.bind (Of_ev b (by omega)) (Ev.bind hx (Ev.bind (Of_ev c (by omega)) (Ev.bind hyy (Ev.bind (Of_ev b (by omega)) (Ev.bind (Of_ev c (by omega)) (Ev.bind hz ?_)))))))
    by_cases h1 : (b.size : Int) > 1000000
    · simp only [if_pos h1]
      exact j0 _ _ _ _ _
    · have h2 : (c.size : Int) > 1000000 := by omega
      simp only [if_neg h1, decide_eq_true h2]
      exact j0 _ _ _ _ _
  · have hb' : b.size ≤ 1000000 := by omega
    have hc' : c.size ≤ 1000000 := by omega
    have hx := join_yes (B a) (B b) (by rw [B_len]; omega)
    have hyy := join_yes (B a ++ B b) (B c) (by rw [B_len]; omega)
    have hz := join_yes (B b) (B c) (by rw [B_len]; omega)
    have hp := join_yes (B a) (B b ++ B c) (by rw [List.length_append, B_len, B_len]; omega)
    rw [B_len] at hx hyy hz
    rw [List.length_append, B_len, B_len] at hp
    have h1 : ¬ (b.size : Int) > 1000000 := by omega
    have h2 : ¬ (c.size : Int) > 1000000 := by omega
    refine Ev.bind lives_ev ?_
    simp only [if_true]
    refine Ev.bind (Of_ev a (by omega)) (Ev.bind (Of_ev b (by omega)) (Ev.bind hx (Ev.bind (Of_ev c (by omega)) (Ev.bind hyy (Ev.bind (Of_ev b (by omega)) (Ev.bind (Of_ev c (by omega)) (Ev.bind hz ?_)))))))
    simp only [if_neg h1, decide_eq_false h2]
    have hw : wrap64 ((b.size : Int) + (c.size : Int)) = ((b.size + c.size : Nat) : Int) := by unfold wrap64; omega
    have hab : (a ++ b).size = a.size + b.size := ByteArray.size_append
    have s1 : a.size + b.size ≤ 9223372036854775807 := by omega
    have s2 : (a ++ b).size + c.size ≤ 9223372036854775807 := by omega
    have hs : ((a ++ b) ++ c).size = a.size + b.size + c.size := by rw [ByteArray.size_append, hab]
    have e : B ((a ++ b) ++ c) = B a ++ B b ++ B c := by rw [B_app, B_app]
    have e' : B a ++ (B b ++ B c) = B a ++ B b ++ B c := (List.append_assoc _ _ _).symm
    rw [e'] at hp
    have hof := Of_ev ((a ++ b) ++ c) (by omega)
    rw [e] at hof
    have g1 := On_ev (CrcMath.of (B a)) b (by omega)
    have g2 := On_ev (CrcMath.of (B a ++ B b)) c (by omega)
    have f1 : CrcMath.on (CrcMath.of (B a)) (B b) = CrcMath.of (B a ++ B b) := (CrcMath.on_append _ _ _).symm
    have f2 : CrcMath.on (CrcMath.of (B a ++ B b)) (B c) = CrcMath.of (B a ++ B b ++ B c) := (CrcMath.on_append _ _ _).symm
    rw [f1] at g1
    rw [f2] at g2
    refine Ev.step (f := fun k => (crc_Of.f k a).bind fun t186 => ((crc_Join.f k t186 (I (CrcMath.of (B b ++ B c))) ((b.size + c.size : Nat) : Int)).bind fun bt187 => (crc_Of.f k ((a ++ b) ++ c)).bind fun t189 => if bt187.2 = 0 then if I (CrcMath.of (B a ++ B b ++ B c)) = t189 then if bt187.1 = t189 then (crc_Of.f k a).bind fun t190 => (crc_On.f k t190 b).bind fun t191 => (crc_On.f k t191 c).bind fun t192 => some (t192 == t189) else some false else some false else some false)) (fun k => ?_) ?_
    · simp only [spoorlaw02_CrcPieces.j0]
      rw [hw]
      simp only [Bool.false_eq_true, if_false, if_pos s1, if_pos s2, if_true]
    · refine Ev.bind (Of_ev a (by omega)) (Ev.bind hp (Ev.bind hof ?_))
      simp only [if_true]
      refine Ev.bind (Of_ev a (by omega)) (Ev.bind g1 (Ev.bind g2 ?_))
      simp only [BEq.rfl]
      exact Ev.now _
end Go.Proofs.Ytlbcnbdliigkdaa.Pure
