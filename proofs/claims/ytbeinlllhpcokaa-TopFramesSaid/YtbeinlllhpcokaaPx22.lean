-- Written by a program of this session (an adapted printer) out of the translation; Lean checks it.
import Derived.Test.YtbeinlllhpcokaaPx0
import Derived.Test.YtbeinlllhpcokaaPx20
import Derived.LoopIn
import Derived.LoopNIn
import Derived.Maps.AppendAt
import Derived.OwnWalkIn
import Derived.RangeFuncBound
import Derived.RangeFuncBox
import Derived.RangeFuncCalls
import Derived.RangeFuncLeaves
import Derived.RangeFuncNested
import Derived.Shelf.Abstract
import Derived.Sort.LoopGhostIn
import Derived.TacticsInMore
namespace Go.Proofs.Ytbeinlllhpcokaa.P
open Go.RowKit Go.Proofs.YtbeinlllhpcokaaW.PrintWords Go.Proofs.YtbeinlllhpcokaaW.PrintLast Go.Proofs.YtbeinlllhpcokaaW.PrintMore
attribute [local go_sem] max2_int min2_int max_two min_two max_three min_three max_four min_four   -- for this text's walks alone
set_option linter.unusedVariables false
set_option linter.unusedSimpArgs false

/-! ### frame_Each: function 23 -/
-- import: Derived.RangeFuncBox
-- import: Derived.RangeFuncLeaves
-- import: Derived.RangeFuncBound
-- import: Derived.RangeFuncCalls
-- import: Derived.RangeFuncNested
-- import: Derived.Shelf.Abstract
-- import: Derived.OwnWalkIn
-- import: Derived.TacticsInMore
-- import: Derived.LoopNIn
-- import: Derived.LoopIn
-- import: Derived.Maps.AppendAt
-- import: Derived.Sort.LoopGhostIn
section
attribute [local go_sem] Oper.semAt_some
/-- the frames that a text begins with, each with what is behind it. -/
def frame_each : Nat → ByteArray → Option (List (ByteArray × ByteArray))
  | 0, _ => none
  | k + 1, s => (frame_Next.f k s).bind fun b => if b.2.2 = 0 then (frame_each k b.2.1).bind fun l => some ((b.1, b.2.1) :: l) else some []
set_option maxRecDepth 100000 in
set_option maxHeartbeats 8000000 in
theorem frame_Each1.in_ (k n : Nat) (hn : 1 ≤ n) (l Bn n₀ : Nat) (s : ByteArray) (xs : List (ByteArray × ByteArray)) (h : frame_each k s = some xs) (J Jx : List (ByteArray × ByteArray) → World → Prop) (W : World)
    (hY : ∀ pre x W1, J pre W1 → pre.length < xs.length → YieldAt Fence.wide (n - 1) Try.prog l #[.string x.1, .string x.2] W1 fun e W' =>
      (e = .returned (.bool true) ∧ J (pre ++ [x]) W' ∧ Below n₀ W1 W') ∨ (e = .returned (.bool false) ∧ Jx (pre ++ [x]) W'))
    (hJ : AbidesFrom W.heap.size J) (hBn : W.cell? ⟨Bn, 0, none⟩ = some (.string s)) (h0 : J [] W) :
    CallsIn Fence.wide n Try.prog 30 #[.func (.yield l) #[] #[], .pointer (some ⟨Bn, 0, none⟩)] W fun e W' => (∃ v, e = .returned v) ∧ ((∃ ys, ys = xs ∧ J ys W') ∨ (∃ pre, pre <+: xs ∧ Jx pre W')) := by
  cases k with
  | zero => exact absurd h (by simp [frame_each])
  | succ k =>
  have HX := Aside0.mk h
  clear h
  simp only [frame_each] at HX
  obtain ⟨⟨p, rest, why⟩, hN, hX⟩ := Option.bind_eq_some_iff.mp HX.out
  have HXX := Aside0.mk hX
  clear hX HX
  have HJ := Aside0.mk hJ
  have HY := Aside0.mk hY
  clear hY hJ
  refine callsIn_of_wp Try.func30 rfl trivial ?_ rfl
  simp only [Try.ntmps30, List.size_toArray, List.length_cons, List.length_nil, Nat.reduceAdd, Nat.reduceSub, Array.replicate_succ, Array.replicate_zero, List.push_toArray, List.append_toArray, List.nil_append, List.cons_append]
  gi_wp2_with (refine ⟨trivial, ?_⟩; gi_at_call 31; refine (callsIn_wide.2 (frame_Next.calls k s p rest why _ hN)).mono ?_; rintro e w1 ⟨rfl, hb⟩; have HB := Aside0.mk hb; clear hb)
  gi_loopg [3, 4, 5] k (fun kq v3 v4 v5 wr => ∃ (p rest : ByteArray) (why : Int) (pre ys : List (ByteArray × ByteArray)), v3 = .string p ∧ v4 = .string rest ∧ v5 = .int .i64 why ∧ Aside0 (xs = pre ++ ys) ∧ Aside0 (if why = 0 then (frame_each kq rest).bind (fun l => some ((p, rest) :: l)) = some ys else ys = []) ∧ Aside0 (J pre wr))
  case atStart =>
    refine ⟨p, rest, why, [], xs, rfl, rfl, rfl, ⟨rfl⟩, ⟨?_⟩, ⟨HJ.out _ _ _ none h0 (grown_of_below HB.out none) (fun r e => by cases e)⟩⟩
    have := HXX.out
    by_cases c : why = 0
    · rw [if_pos c]
      simpa only [if_pos c] using this
    · rw [if_neg c]
      have h2 : some ([] : List (ByteArray × ByteArray)) = some xs := by simpa only [if_neg c] using this
      exact (Option.some.inj h2).symm
  case round =>
    clear HXX HB
    obtain ⟨p1, rest1, why1, pre, ys, rfl, rfl, rfl, HE, HF, HP⟩ := hrel
    by_cases c : why1 = 0
    · have hF := HF.out
      rw [if_pos c] at hF
      subst c
      obtain ⟨l1, hl1, hys⟩ := Option.bind_eq_some_iff.mp hF
      have HYS := Aside0.mk (Option.some.inj hys)
      clear hF hys
      cases gk with
      | zero => exact absurd hl1 (by simp [frame_each])
      | succ k1 =>
        simp only [frame_each] at hl1
        obtain ⟨⟨p2, rest2, why2⟩, hN2, hX2⟩ := Option.bind_eq_some_iff.mp hl1
        have HX2 := Aside0.mk hX2
        clear hl1 hX2
        obtain ⟨fn, tmps, assign, body, hy, hR⟩ := HY.out pre (p1, rest1) wr HP.out (by rw [HE.out, ← HYS.out]; simp)
        dsimp only at hy
        gi_wp2
        refine hR.mono ?_
        rintro e W3 (⟨rfl, hJ3, hk3⟩ | ⟨rfl, hJx3⟩)
        · have HJ3 := Aside0.mk hJ3
          clear hJ3 hk3
          gi_wp2_with (refine ⟨trivial, ?_⟩; gi_at_call 31; refine (callsIn_wide.2 (frame_Next.calls k1 rest1 p2 rest2 why2 _ hN2)).mono ?_; rintro e w4 ⟨rfl, hb4⟩; have HB4 := Aside0.mk hb4; clear hb4)
          gi_roundg k1
          case measure => omega
          case rel =>
            refine ⟨p2, rest2, why2, pre ++ [(p1, rest1)], l1, rfl, rfl, rfl, ⟨by rw [HE.out, ← HYS.out]; simp⟩, ⟨?_⟩, ⟨HJ.out _ _ _ none HJ3.out (grown_of_below HB4.out none) (fun r e => by cases e)⟩⟩
            have := HX2.out
            by_cases c : why2 = 0
            · rw [if_pos c]
              simpa only [if_pos c] using this
            · rw [if_neg c]
              have h2 : some ([] : List (ByteArray × ByteArray)) = some l1 := by simpa only [if_neg c] using this
              exact (Option.some.inj h2).symm
        · gi_wp2
          refine bodyPost_end (results_none rfl _ _ _) rfl ?_
          exact ⟨⟨_, rfl⟩, .inr ⟨pre ++ [(p1, rest1)], ⟨l1, by rw [HE.out, ← HYS.out]; simp⟩, hJx3⟩⟩
    · have hF := HF.out
      rw [if_neg c] at hF
      subst hF
      have hc1 : (why1 == 0) = false := beq_eq_false_iff_ne.mpr c
      gi_wp2
      refine ⟨fun _ h => (by cases h), ?_⟩
      gi_wp2
      refine bodyPost_end (results_none rfl _ _ _) rfl ?_
      exact ⟨⟨_, rfl⟩, .inl ⟨xs, rfl, by have := HP.out; have e := HE.out; rw [List.append_nil] at e; rw [e]; exact this⟩⟩
set_option maxHeartbeats 1000000 in
theorem frame_Each.in_ (n : Nat) (s : ByteArray) (w : World) :
    CallsIn Fence.wide n Try.prog 23 #[.string s] w fun e w' => e = .returned (.func (.func 30) #[] #[.pointer (some ⟨w.heap.size, 0, none⟩)]) ∧ w' = w.alloc (.cells #[.string s] 9) := by
  refine callsIn_of_wp Try.func23 rfl trivial ?_ rfl
  simp only [Try.ntmps23, List.size_toArray, List.length_cons, List.length_nil, Nat.reduceAdd, Nat.reduceSub, Array.replicate_succ, Array.replicate_zero, List.push_toArray, List.append_toArray, List.nil_append, List.cons_append]
  gi_wp2
  go_ret
  exact ⟨rfl, rfl⟩
theorem frame_Each.stops (k n : Nat) (hn : 1 ≤ n) (Bn n₀ : Nat) (s : ByteArray) (xs : List (ByteArray × ByteArray)) (h : frame_each k s = some xs) (w : World) (hBn : Bn < w.heap.size) (hc : w.cell? ⟨Bn, 0, none⟩ = some (.string s)) :
    SeqStopsK Fence.wide n Try.prog 30 #[.pointer (some ⟨Bn, 0, none⟩)] (fun x : ByteArray × ByteArray => #[.string x.1, .string x.2]) (Below n₀) (fun ys => ys = xs) (fun pre => pre <+: xs) xs.length w := fun l J Jx W hW hJ _ hY h0 =>
  frame_Each1.in_ k n hn l Bn n₀ s xs h J Jx W hY hJ ((hW.cell (p := ⟨Bn, 0, none⟩) hBn).trans hc) h0
def usedOf (s : ByteArray) (xs : List (ByteArray × ByteArray)) : Int := match xs.getLast? with | none => 0 | some x => wrap64 ((s.size : Int) - (x.2.size : Int))
theorem usedOf_snoc (s : ByteArray) (xs : List (ByteArray × ByteArray)) (x : ByteArray × ByteArray) : usedOf s (xs ++ [x]) = wrap64 ((s.size : Int) - (x.2.size : Int)) := by
  unfold usedOf
  rw [List.getLast?_append]
  rfl
theorem frame_each.mono : ∀ k s, LeO (frame_each k s) (frame_each (k + 1) s)
  | 0, _ => LeO.none _
  | k + 1, s => by
    have ih := frame_each.mono k
    show LeO ((frame_Next.f k s).bind fun b => if b.2.2 = 0 then (frame_each k b.2.1).bind fun l => some ((b.1, b.2.1) :: l) else some []) ((frame_Next.f (k + 1) s).bind fun b => if b.2.2 = 0 then (frame_each (k + 1) b.2.1).bind fun l => some ((b.1, b.2.1) :: l) else some [])
    exact LeO.bind (frame_Next.mono _ _) (fun b => LeO.ite (LeO.bind (ih _) (fun _ => LeO.refl _)) (LeO.refl _))
end


end Go.Proofs.Ytbeinlllhpcokaa.P
