-- Written by a program of this session (an adapted printer) out of the translation; Lean checks it.
import Derived.Test.YtbeinlllhpcokaaPx0
import Derived.Test.YtbeinlllhpcokaaPx22
import Derived.LoopIn
import Derived.LoopNIn
import Derived.Maps.AppendAt
import Derived.OwnWalkIn
import Derived.RangeFuncBound
import Derived.RangeFuncBox
import Derived.RangeFuncCalls
import Derived.RangeFuncLeaves
import Derived.RangeFuncNested
import Derived.Shelf.Abstract
import Derived.Sort.LoopGhostIn
import Derived.TacticsInMore
namespace Go.Proofs.Ytbeinlllhpcokaa.P
open Go.RowKit Go.Proofs.YtbeinlllhpcokaaW.PrintWords Go.Proofs.YtbeinlllhpcokaaW.PrintLast Go.Proofs.YtbeinlllhpcokaaW.PrintMore
attribute [local go_sem] max2_int min2_int max_two min_two max_three min_three max_four min_four   -- for this text's walks alone
set_option linter.unusedVariables false
set_option linter.unusedSimpArgs false

/-! ### frame_All: function 11 -/
-- import: Derived.RangeFuncBox
-- import: Derived.RangeFuncLeaves
-- import: Derived.RangeFuncBound
-- import: Derived.RangeFuncCalls
-- import: Derived.RangeFuncNested
-- import: Derived.Shelf.Abstract
-- import: Derived.OwnWalkIn
-- import: Derived.TacticsInMore
-- import: Derived.LoopNIn
-- import: Derived.LoopIn
-- import: Derived.Maps.AppendAt
-- import: Derived.Sort.LoopGhostIn
section
attribute [local go_sem] Oper.semAt_some
set_option maxRecDepth 100000 in
set_option maxHeartbeats 8000000 in
theorem frame_All.in_ (k n : Nat) (hn : 3 ≤ n) (s : ByteArray) (xs : List (ByteArray × ByteArray)) (h : frame_each k s = some xs) (hlen : xs.length ≤ 8796093022207) (hs : s.size ≤ 9223372036854775807) (w : World) :
    CallsIn Fence.wide n Try.prog 11 #[.string s] w fun e W' => ∃ v, e = .returned (.tuple #[v, .int .i64 (usedOf s xs)]) ∧ W'.ownsRow w.heap.size 9 1 v xs.length (xs.map fun x => Value.string x.1) ∧ Below w.heap.size w W' := by
  have h1 : 1 ≤ n := by omega
  obtain ⟨i0, hi, hz0, hz1, hz2⟩ := info_parts (show (Try.prog.info? 9).map (fun i => (i.zero, i.size, i.bytes)) = some (some (.string ⟨#[]⟩), 1, 16) by kernel_rfl)
  refine callsIn_of_wp_marks Try.func11 rfl trivial ?_ rfl
  simp only [Try.ntmps11, List.size_toArray, List.length_cons, List.length_nil, Nat.reduceAdd, Nat.reduceSub, Array.replicate_succ, Array.replicate_zero, List.push_toArray, List.append_toArray, List.nil_append, List.cons_append]
  gi_wp2_with (refine ⟨trivial, ?_⟩; gi_at_call 23; refine (frame_Each.in_ (n - 1) s _).mono ?_; rintro e w' ⟨rfl, rfl⟩)
  have bS := Boxed.new w 9 (.string s)
  have bO := Boxed.new (w.alloc (.cells #[.string s] 9)) 22 (.slice none 0 0)
  have bU := Boxed.new ((w.alloc (.cells #[.string s] 9)).alloc (.cells #[.slice none 0 0] 22)) 3 (.int .i64 0)
  have bE := Boxed.new (((w.alloc (.cells #[.string s] 9)).alloc (.cells #[.slice none 0 0] 22)).alloc (.cells #[.int .i64 0] 3)) 9 (.string s)
  simp only [World.size_alloc] at bO bU bE
  have hB0 : Below w.heap.size w ((((w.alloc (.cells #[.string s] 9)).alloc (.cells #[.slice none 0 0] 22)).alloc (.cells #[.int .i64 0] 3)).alloc (.cells #[.string s] 9)) := below_alloc (below_alloc (below_alloc (below_alloc (Below.refl _ _) _) _) _) _
  refine wpIn_rangeFunc_ownG rfl h1 (gf := 30) (lb := #[.pointer (some ⟨w.heap.size + 1 + 1 + 1, 0, none⟩)]) rfl trivial (enters_of Try.func30 (by kernel_rfl) rfl)
    (frame_Each.stops k (n - 1) (by omega) (w.heap.size + 1 + 1 + 1) w.heap.size s xs h _ (by simp) bE.cell) belowK_t (belowK_b (by simp; omega)) (Below.refl _ _) (fun _ => rfl)
    (fun pre W => (((∃ v, Boxed W (w.heap.size + 1) 22 v ∧ W.ownsRow (w.heap.size + 4) 9 1 v pre.length (pre.map fun x => Value.string x.1) ∧ True) ∧ Boxed W w.heap.size 9 (.string s)) ∧ Boxed W (w.heap.size + 1 + 1) 3 (.int .i64 (usedOf s pre)) ∧ w.heap.size + 4 ≤ W.heap.size) ∧ Below w.heap.size w W)
    (fun _ _ _ => False)
    (OwnFrom.and (Own.from (Tools.own_and' (Tools.own_and' (holdsRow_own (w.heap.size + 4) (w.heap.size + 1) 22 9 1 (fun pre : List (ByteArray × ByteArray) => pre.length) (fun pre => pre.map fun x => Value.string x.1) (fun _ _ => True)) (boxed_own w.heap.size 9 (fun _ => .string s))) (Tools.own_and' (boxed_own (w.heap.size + 1 + 1) 3 (fun pre => .int .i64 (usedOf s pre))) (Tools.own_size (w.heap.size + 4)))) _) (ownFrom_below (Nat.le_refl _) (by simp; omega)))
    (fun _ _ _ _ _ hs _ _ => hs)
    ⟨⟨⟨⟨_, (bO.alloc _).alloc _, World.ownsRow_nil _ _ _ _, trivial⟩, ((bS.alloc _).alloc _).alloc _⟩, bU.alloc _, by simp⟩, hB0⟩
    (fun x => { tmps := #[.string s, .pointer (some ⟨w.heap.size, 0, none⟩), .slice none 0 0, .int .i64 0, .pointer (some ⟨w.heap.size + 1, 0, none⟩), .pointer (some ⟨w.heap.size + 1 + 1, 0, none⟩), .string x.1, .string x.2, .string s, .func (.func 30) #[] #[.pointer (some ⟨w.heap.size + 1 + 1 + 1, 0, none⟩)], .string x.1, .string x.2, undef, undef, undef, undef, undef, undef, undef, undef, undef, undef, undef], defers := [] }) ?assign ?body ?done ?stop
  case assign =>
    intro l x W K hK
    gi_wp2
    exact hK
  case body =>
    rintro l pre x W ⟨⟨⟨⟨v, hv, hrow, _⟩, hs1⟩, hu, hsz2⟩, hB⟩ hlt
    have hc := hv.cell
    have hcs := hs1.cell
    have hcu := hu.cell
    have hfu := hu.frozen
    gi_wp2_with (gi_at_builtin; refine wpListIn_append_own _ rfl _ _ 22 rfl (w.heap.size + 4) 9 i0 (.string ⟨#[]⟩) 1 16 Try.underlying22 hi hz0 hz1 hz2 rfl (by decide) _ _ _ rfl (hrow.alloc _) ⟨W.heap.size, 0, none⟩ 1 1 [.string x.1] rfl rfl (cell_one_new _ _ _) (by simp [Value.oneCell']) (by unfold maxLen; omega) (by omega) (by have := hsz2; simp; omega) ?_; intro v' w1 hown' hgrow _; obtain ⟨g', cap', rfl⟩ := ownsRow_succ hown'; obtain ⟨hv1, hv2, hr2, hk2, hb2, hoth⟩ := Tools.boxed_appended (n₀ := w.heap.size) hv (by decide) hrow (by omega) hB.size (by omega) hown' hgrow; have hc1 := hv1.cell; have hf1 := hv1.frozen; have hs2 := hoth _ _ _ hs1 (by omega) (by omega); have hu2 := hoth _ _ _ hu (by omega) (by omega); clear hoth; have hcs2 := hs2.cell; have hcu2 := hu2.cell; have hfu2 := hu2.frozen)
    have hg3 := grownBy_setCell' (w1.setCell ⟨w.heap.size + 1, 0, none⟩ (.slice (some ⟨g', 0, none⟩) (pre.length + 1) cap')) (w.heap.size + 1 + 1) (.int .i64 (wrap64 ((s.size : Int) - (x.2.size : Int))))
    have hb3 := hb2.setCell (p := ⟨w.heap.size + 1 + 1, 0, none⟩) (by show _ ≤ w.heap.size + 1 + 1; omega) (.int .i64 (wrap64 ((s.size : Int) - (x.2.size : Int))))
    refine ⟨(hk2.trans (KeepsOthers.setCell _ _ _)).from _, hb3, ⟨⟨⟨_, hv2.kept hg3 (by simp), ?_, trivial⟩, hs2.kept hg3 (by simp; omega)⟩, ?_, Nat.le_trans hsz2 hb3.size⟩, hB.trans hb3⟩
    · simpa using hr2.kept hg3 (.inr (Tools.not_own hr2 (by omega)).symm)
    · rw [usedOf_snoc]
      exact hu2.set _
  case done =>
    rintro D ys W hD rfl ⟨⟨⟨⟨v, hv, hrow, _⟩, hs1⟩, hu, hsz2⟩, hB⟩ hK
    have hc := hv.cell
    have hcu := hu.cell
    gi_wp2
    gi_region
    gi_wp2
    refine ⟨by simp, .inl ⟨_, _, rfl, run_takeDeferred hK, ?_⟩⟩
    refine ⟨_, results_tmp2 rfl _ _ _, v, rfl, ?_, ?_⟩
    · exact own_less (ownsRow_putObj (o' := .deferred none) (W := W.drew) hrow hK rfl) (by omega)
    · exact hB.trans (Below.drew (belowK_b (w := w) (Nat.le_refl _) W D _ _ (by simp at hD; omega) hK rfl rfl))
  case stop =>
    rintro D c pre W _ _ h _
    exact h.elim
def frame_All.f (k : Nat) (a0 : ByteArray) : Option (List ByteArray × Int) := (frame_each k a0).bind fun xs => if xs.length ≤ 8796093022207 ∧ a0.size ≤ 9223372036854775807 then some (xs.map (·.1), usedOf a0 xs) else none
theorem frame_All.mono : ∀ a0 k, LeO (frame_All.f k a0) (frame_All.f (k + 1) a0) := by
  intro a0 k
  exact LeO.bind (frame_each.mono _ _) (fun _ => LeO.refl _)
theorem frame_All.calls (k : Nat) (a0 : ByteArray) (r1 : List ByteArray) (r2 : Int) (w : World) (h : frame_All.f k a0 = some (r1, r2)) :
    Calls Try.prog 11 #[.string a0] w fun e w' => ∃ v0_ : Value, e = .returned (.tuple #[v0_, .int .i64 r2]) ∧ Kd.R Kd.string 9 w' w.heap.size (fun _ => True) v0_ r1 ∧ Below w.heap.size w w' := by
  obtain ⟨xs, hx, h⟩ := Option.bind_eq_some_iff.mp h
  by_cases c : xs.length ≤ 8796093022207 ∧ a0.size ≤ 9223372036854775807
  · rw [if_pos c] at h
    simp only [Option.some.injEq, Prod.mk.injEq] at h
    obtain ⟨rfl, rfl⟩ := h
    refine (callsIn_wide.1 (frame_All.in_ k 3 (Nat.le_refl _) a0 xs hx c.1 c.2 w)).mono ?_
    rintro e w' ⟨v, rfl, hr, hb⟩
    refine ⟨v, rfl, Tools.R_strings ?_, hb⟩
    rw [List.length_map, List.map_map]
    exact hr
  · rw [if_neg c] at h
    exact absurd h (by simp)
end


end Go.Proofs.Ytbeinlllhpcokaa.P
