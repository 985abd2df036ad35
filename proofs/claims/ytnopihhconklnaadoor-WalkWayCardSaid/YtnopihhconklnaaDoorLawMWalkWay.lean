/- Proved: 'spoorlaw23.WalkWay' returns true whatever its arguments are, and they read behind the call as they read before. Conditions: those that the statement itself has, no other. (Written by a program of this repo, wip/tools/lawm.py.) -/
import Derived.Test.YtnopihhconklnaaDoorOpNet
import Derived.Test.YtnopihhconklnaaDoorEs20
import Derived.Test.YtnopihhconklnaaDoorRows
import Derived.WalkKit
import Derived.ProofKit
import Derived.OpenShut
import Derived.ShutString
import Derived.ChangeOld
import Derived.Below
import Derived.SizedLaws
import Derived.Handed
import Derived.Lay
import Derived.LaidLaws
import Derived.JoinedOf
import Derived.Test.YtnopihhconklnaaDoorCards
import Derived.Test.YtnopihhconklnaaDoorTie
import Derived.SevenTiedAt
namespace Go.Proofs.YtnopihhconklnaaDoor.walkWay
open Go Go.En Go.Sp Go.ChangeShapes Go.WideShapes Go.ChangeAt Go.RowKit
set_option linter.unusedVariables false
theorem own : ownKnob Tryd.prog.godebug = none := by kernel_rfl
theorem laidOut : laidOutB Tryd.prog = true := by kernel_rfl
abbrev laid1 : List (String × DataW Unit) := [("spoor/walk.kinds", Rows.laid_spoor_walk_kinds)]
theorem laid0 (os : Os) (args : Array Value) : laidMet Tryd.prog laid1 ((World.laidAll Tryd.prog os laid1).forCall (fun _ _ => 0) ⟨#[], args, []⟩).memory := laidMet_laidAll _ (by kernel_rfl) (by kernel_rfl)
theorem gl_of {W : World} (h : laidMet Tryd.prog laid1 W) : GL W (· < W.heap.size) := by
  have h1 := laid_table (ns := [3, 4, 1, 2]) (k := .u8) (r := []) (n := 4) (g := 0) (t := 75) (e := 30) h (by kernel_rfl) (by kernel_rfl) (by kernel_rfl) (by kernel_rfl) (by kernel_rfl) rfl
  intro g e he i x hi
  unfold tabs at he
  split at he
  · cases he
    have hx := h1 i x hi
    refine ⟨?_, hx.1, hx.2⟩
    have hm := List.mem_of_getElem? hi
    simp at hm
    rcases hm with rfl | rfl | rfl | rfl <;> rfl
  · cases he
set_option maxRecDepth 100000 in
theorem lifted (os : Os) (started : os.Started) (H : Type) (enc : TypeId × Value → H) :
    ReturnsInHanded {} Tryd.checked os 6 .any (fun w args => (Rows.walkWaySpec.pre enc Tryd.prog Tryd.f6 Rows.walkWayRow.domain false w args ∧ laidMet Tryd.prog laid1 w) ∧ sizedMet enc Tryd.prog Tryd.f6 (OpenSpec.ofChange Rows.walkWaySpec) false w args)
      (Rows.walkWaySpec.post enc Tryd.prog Tryd.f6 false true false false) := by
  refine returnsInHanded_of_change_and (C := Tryd.checked) (X := fun w _ => laidMet Tryd.prog laid1 w) (fun _ _ _ hh h => h.of_heap hh) own started (by kernel_rfl) Tryd.func6
    (ChangeSpec.witness_at (enc := enc) (C := Tryd.checked) (os := os) (X := fun w _ => laidMet Tryd.prog laid1 w) false (World.laidAll Tryd.prog os laid1) #[.agg #[.slice none 0 0, .slice none 0 0], .int .i64 0, .bool false, .agg #[.int .u64 0, .int .u64 0]] 8 (World.laidAll_os _ _ _) (by kernel_rfl) (by kernel_rfl) (by kernel_rfl) (by kernel_rfl) (by kernel_rfl) (laid0 os _)) ?_
  intro W base args ds gs before hval0 hW hcnd hsz0 hL _
  have hsz : (DataW.weightsEach Tryd.prog (Tryd.f6.params.toList ++ Rows.walkWaySpec.plain.varTypes Tryd.prog) (ds ++ gs)).all (· ≤ reachBytes) = true := hsz0
  have hval : ∀ (j : Nat) t v, Tryd.f6.params[j]? = some t → args[j]? = some v → Value.okWide Tryd.prog W .any base t v := hval0
  have hW' := hW
  obtain ⟨p, q, hA0, hV, rfl, hfz, hnd⟩ := hW
  have hA : DataW.TrodAll enc Tryd.prog W 0 (fun _ => true) true Tryd.f6.params.toList args.toList ds p := hA0
  rw [Tryd.params6] at hA hval hsz
  obtain ⟨v0, vs0, d0, ds0, p0, q0, hargs, rfl, rfl, h0, r0⟩ := trodAll_cons hA
  obtain ⟨v1, vs1, d1, ds1, p1, q1, rfl, rfl, rfl, h1, r1⟩ := trodAll_cons r0
  obtain ⟨v2, vs2, d2, ds2, p2, q2, rfl, rfl, rfl, h2, r2⟩ := trodAll_cons r1
  obtain ⟨v3, vs3, d3, ds3, p3, q3, rfl, rfl, rfl, h3, r3⟩ := trodAll_cons r2
  obtain ⟨rfl, rfl, rfl⟩ := trodAll_nil r3
  obtain rfl : args = #[v0, v1, v2, v3] := by cases args; simp_all
  obtain ⟨rfl, rfl⟩ := trodVars_none hV
  have k0 := h0
  have lt0 : ∀ x ∈ p0, x.block < W.heap.size := by obtain ⟨m, hm⟩ := k0; exact DataW.trod_lt m _ _ _ hm
  obtain ⟨b0, hR0, g0⟩ := opm_arg O.opm_Net h0 hsz (j := 0) (t := 25) rfl rfl
  obtain ⟨cs0, rfl, _⟩ := okWide_struct Tryd.underlying25 (hval 0 25 v0 rfl rfl)
  have y0 := vr_agg hR0
  have k1 := h1
  have lt1 : ∀ x ∈ p1, x.block < W.heap.size := by obtain ⟨m, hm⟩ := k1; exact DataW.trod_lt m _ _ _ hm
  obtain ⟨b1, hR1, g1⟩ := opm_arg (opm_int Tryd.underlying3) h1 hsz (j := 1) (t := 3) rfl rfl
  obtain ⟨n1, rfl⟩ := okWide_int Tryd.underlying3 (hval 1 3 v1 rfl rfl)
  have y1 := vr_one hR1 rfl
  have k2 := h2
  have lt2 : ∀ x ∈ p2, x.block < W.heap.size := by obtain ⟨m, hm⟩ := k2; exact DataW.trod_lt m _ _ _ hm
  obtain ⟨b2, hR2, g2⟩ := opm_arg (opm_bool Tryd.underlying4) h2 hsz (j := 2) (t := 4) rfl rfl
  obtain ⟨n2, rfl⟩ := okWide_bool Tryd.underlying4 (hval 2 4 v2 rfl rfl)
  have y2 := vr_one hR2 rfl
  have k3 := h3
  have lt3 : ∀ x ∈ p3, x.block < W.heap.size := by obtain ⟨m, hm⟩ := k3; exact DataW.trod_lt m _ _ _ hm
  obtain ⟨b3, hR3, g3⟩ := opm_arg O.opm_Addr h3 hsz (j := 3) (t := 28) rfl rfl
  obtain ⟨cs3, rfl, _⟩ := okWide_struct Tryd.underlying28 (hval 3 28 v3 rfl rfl)
  have y3 := vr_agg hR3
  clear hA0 hval0 hsz0 hsz
  refine ((S.law23_WalkWay b0 b1 b2 b3 g0.1 g0.2 g3).2 (sit0 W) _ (sit0_ok (gl_of hL)) rfl (R2.cons y0 (R2.cons y1 (R2.cons y2 (R2.cons y3 R2.nil))))).mono fun e W' ⟨s', r, u, he, hx, hw, hv, ⟨hr, _⟩, _⟩ => ?_
  subst he hr hw
  obtain ⟨rfl, _⟩ := hv
  have bel := sit0_below hx
  exact ⟨_, rfl, _, _, _, [], _, [], hW', trodAll_mk1 (shut_bool Tryd.underlying4 _), (trodAll_cons_mk (Below.trod laidOut (by kernel_rfl) (of_decide_eq_true (by kernel_rfl)) k0 bel lt0) (trodAll_cons_mk (Below.trod laidOut (by kernel_rfl) (of_decide_eq_true (by kernel_rfl)) k1 bel lt1) (trodAll_cons_mk (Below.trod laidOut (by kernel_rfl) (of_decide_eq_true (by kernel_rfl)) k2 bel lt2) (trodAll_cons_mk (Below.trod laidOut (by kernel_rfl) (of_decide_eq_true (by kernel_rfl)) k3 bel lt3) trodAll_mk0)))), rfl, bel.frame _, fun h => by cases h⟩
theorem over : Rows.walkWayRow.holds Tryd.pinned (OpenSpec.ofChange Rows.walkWaySpec) :=
  OpenClaim.holds_of_wide 6 Tryd.f6 rfl rfl rfl rfl rfl rfl rfl ⟨rfl, rfl, rfl, rfl, rfl⟩ rfl rfl rfl rfl rfl (by kernel_rfl) Tryd.func6 (by kernel_rfl)
    (of_decide_eq_true (by kernel_rfl)) (by unfold Func.isWrapper; first | (rw [if_pos (by decide +kernel)]; kernel_rfl) | (rw [if_neg (by decide +kernel)]; exact ⟨rfl, rfl⟩))
    (fun os started H enc _ => lifted os started H enc)
theorem card_holds : Claim7.holds Tryd.pinned (.plain (OpenSpec.ofChange Rows.walkWaySpec)) Rows.walkWayCard :=
  Claim7.holds_tied_plain_at .later [] [.data] true (true, "931f8b162a37721a59074b8cf539027f4777ef992a6256fd0d5e2336b7b18efa") false
    over (fun _ h => by cases h) (by kernel_rfl) (fun _ h => by cases h) walkWay_row_tie rfl ⟨rfl, rfl⟩ (by kernel_rfl) rfl
    (fun f fn hf hfn => by
      obtain rfl : f = 6 := Option.some.inj ((show Tryd.prog.funcNamed "spoor/spoorlaw23.WalkWay" = some 6 by kernel_rfl).symm.trans hf) |>.symm
      obtain rfl : fn = Tryd.f6 := (Option.some.inj (Tryd.func6.symm.trans hfn)).symm
      exact ⟨by kernel_rfl, fun j t ht => by
        rw [Tryd.params6] at ht
        have hm : t ∈ [25, 3, 4, 28] := by
          have := Array.mem_of_getElem? ht
          simpa using this
        have key : ∀ x ∈ [25, 3, 4, 28], Tryd.prog.wantsStandIn x = false := by
          intro x hx
          simp only [List.mem_cons, List.not_mem_nil, or_false] at hx
          rcases hx with rfl | rfl | rfl | rfl <;> kernel_rfl
        exact key t hm⟩)
    (by kernel_rfl)
theorem proved : Rows.WalkWayCardSaid := card_holds
#print axioms proved
end Go.Proofs.YtnopihhconklnaaDoor.walkWay
namespace Go.Proofs.YtnopihhconklnaaDoor
theorem walkWay_holds : Rows.WalkWayCardSaid := walkWay.proved
end Go.Proofs.YtnopihhconklnaaDoor
