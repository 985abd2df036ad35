-- kept, by a program of this session, of a text that the printer or this session wrote
import Derived.Test.YtgpkbehodmcbgaaRows
import Derived.Test.YtgpkbehodmcbgaaZPx1003
import Derived.Test.YtgpkbehodmcbgaaZPureTopSealed
import Derived.Test.YtgpkbehodmcbgaaZOpen
import Derived.WalkKit
import Derived.ProofKit
import Derived.OpenShut
import Derived.ShutString
import Derived.ChangeOld
import Derived.Below
import Derived.SizedLaws
namespace Go.Proofs.Ytgpkbehodmcbgaa.topSealed
open Go.ChangeShapes Go.WideShapes Go.ChangeAt Go.RowKit Go.Proofs.Ytgpkbehodmcbgaa.P Go.Proofs.YtgpkbehodmcbgaaW.PrintWords
open Go.ChangeMaps (open_string shut_string)
set_option linter.unusedVariables false
theorem own : ownKnob Try.prog.godebug = none := by kernel_rfl
theorem laidOut : laidOutB Try.prog = true := by kernel_rfl
set_option maxRecDepth 100000 in
theorem lifted (os : Os) (started : os.Started) (H : Type) (enc : TypeId × Value → H) :
    ReturnsInHanded {} Try.checked os 3 .any (Rows.topSealedSpec.pre6 enc Try.prog Try.f3 Rows.topSealedRow.domain false) (Rows.topSealedSpec.post enc Try.prog Try.f3 false true false false) := by
  refine returnsInHanded_of_change_sized (C := Try.checked) own started (by kernel_rfl) Try.func3
    (ChangeSpec.witness6 (enc := enc) (C := Try.checked) false ⟨#[], #[.slice none 0 0, .int .i64 0, .int .u8 0], []⟩ 8 (by kernel_rfl) (by kernel_rfl) (by kernel_rfl) (by kernel_rfl)) ?_
  intro W base args ds gs before hval0 hW hcnd hsz0 _
  have hsz : (DataW.weightsEach Try.prog (Try.f3.params.toList ++ Rows.topSealedSpec.plain.varTypes Try.prog) (ds ++ gs)).all (· ≤ reachBytes) = true := hsz0
  have hval : ∀ (j : Nat) t v, Try.f3.params[j]? = some t → args[j]? = some v → Value.okWide Try.prog W .any base t v := hval0
  have hW' := hW
  obtain ⟨p, q, hA0, hV, rfl, hfz, hnd⟩ := hW
  have hA : DataW.TrodAll enc Try.prog W 0 (fun _ => true) true Try.f3.params.toList args.toList ds p := hA0
  rw [Try.params3] at hA hval hsz
  obtain ⟨v0, vs0, d0, ds0, p0, q0, hargs, rfl, rfl, h0, r0⟩ := trodAll_cons hA
  obtain ⟨v1, vs1, d1, ds1, p1, q1, rfl, rfl, rfl, h1, r1⟩ := trodAll_cons r0
  obtain ⟨v2, vs2, d2, ds2, p2, q2, rfl, rfl, rfl, h2, r2⟩ := trodAll_cons r1
  obtain ⟨rfl, rfl, rfl⟩ := trodAll_nil r2
  obtain rfl : args = #[v0, v1, v2] := by cases args; simp_all
  obtain ⟨rfl, rfl⟩ := trodVars_none hV
  have k0 := h0
  have lt0 : ∀ x ∈ p0, x.block < W.heap.size := by obtain ⟨m, hm⟩ := k0; exact DataW.trod_lt m _ _ _ hm
  obtain ⟨b0, hK0, g0⟩ := Go.Proofs.Ytgpkbehodmcbgaa.Open.open_arg (d := (Kd.slice 24 (Kd.slice 33 (Kd.int .u64)))) (G := (fun z_ : List (List Int) => z_.length * 24 ≤ 140737488351232 ∧ ∀ y_ ∈ z_, y_.length * 8 ≤ 140737488351232 ∧ ∀ y__ ∈ y_, (Lit.int .u64 y__).wf = true)) (Go.Proofs.Ytgpkbehodmcbgaa.Open.opens_slice (d := (Kd.slice 33 (Kd.int .u64))) (G := (fun z_ : List Int => z_.length * 8 ≤ 140737488351232 ∧ ∀ y_ ∈ z_, (Lit.int .u64 y_).wf = true)) (B := 24) Try.underlying22 (by kernel_rfl) (by kernel_rfl) (Go.Proofs.Ytgpkbehodmcbgaa.Open.opens_slice (d := (Kd.int .u64)) (G := (fun z_ : Int => (Lit.int .u64 z_).wf = true)) (B := 8) Try.underlying24 (by kernel_rfl) (by kernel_rfl) (Go.Proofs.Ytgpkbehodmcbgaa.Open.opens_int Try.underlying33))) h0 hsz (j := 0) (t := 22) rfl rfl
  obtain ⟨A0, c0, rfl, hc0, hr0⟩ := Go.Proofs.Ytgpkbehodmcbgaa.Open.slice_of hK0 (okWide_slice Try.underlying22 (hval 0 22 v0 rfl rfl))
  have k1 := h1
  have lt1 : ∀ x ∈ p1, x.block < W.heap.size := by obtain ⟨m, hm⟩ := k1; exact DataW.trod_lt m _ _ _ hm
  obtain ⟨b1, hK1, g1⟩ := Go.Proofs.Ytgpkbehodmcbgaa.Open.open_arg (d := (Kd.int .i64)) (G := (fun z_ : Int => (Lit.int .i64 z_).wf = true)) (Go.Proofs.Ytgpkbehodmcbgaa.Open.opens_int Try.underlying3) h1 hsz (j := 1) (t := 3) rfl rfl
  obtain rfl := Go.Proofs.Ytgpkbehodmcbgaa.Open.int_of hK1 (okWide_int Try.underlying3 (hval 1 3 v1 rfl rfl))
  have k2 := h2
  have lt2 : ∀ x ∈ p2, x.block < W.heap.size := by obtain ⟨m, hm⟩ := k2; exact DataW.trod_lt m _ _ _ hm
  obtain ⟨b2, hK2, g2⟩ := Go.Proofs.Ytgpkbehodmcbgaa.Open.open_arg (d := (Kd.int .u8)) (G := (fun z_ : Int => (Lit.int .u8 z_).wf = true)) (Go.Proofs.Ytgpkbehodmcbgaa.Open.opens_int Try.underlying5) h2 hsz (j := 2) (t := 5) rfl rfl
  obtain rfl := Go.Proofs.Ytgpkbehodmcbgaa.Open.int_of hK2 (okWide_int Try.underlying5 (hval 2 5 v2 rfl rfl))
  clear hA0 hval0 hsz0 hsz
  refine (P.spoortop_TopSealed.walk Pure.TopSealed A0 c0 b0 b1 b2 W g0 g1 g2 hr0 hc0).mono fun e W' ⟨he, bel⟩ => ?_
  subst he
  exact ⟨_, rfl, _, _, _, [], _, [], hW', trodAll_mk1 (shut_bool Try.underlying4 _), (trodAll_cons_mk (Below.trod laidOut (by kernel_rfl) (of_decide_eq_true (by kernel_rfl)) k0 bel lt0) (trodAll_cons_mk (Below.trod laidOut (by kernel_rfl) (of_decide_eq_true (by kernel_rfl)) k1 bel lt1) (trodAll_cons_mk (Below.trod laidOut (by kernel_rfl) (of_decide_eq_true (by kernel_rfl)) k2 bel lt2) trodAll_mk0))), rfl, bel.frame _, fun h => by cases h⟩
theorem over : Rows.topSealedRow.holds Try.pinned (OpenSpec.ofChange Rows.topSealedSpec) :=
  OpenClaim.holds_of_wide 3 Try.f3 rfl rfl rfl rfl rfl rfl rfl ⟨rfl, rfl, rfl, rfl, rfl⟩ rfl rfl rfl rfl rfl (by kernel_rfl) Try.func3 (by kernel_rfl)
    (of_decide_eq_true (by kernel_rfl)) (by unfold Func.isWrapper; first | (rw [if_pos (by decide +kernel)]; kernel_rfl) | (rw [if_neg (by decide +kernel)]; exact ⟨rfl, rfl⟩))
    (fun os started H enc _ => lifted os started H enc)
theorem proved : Rows.TopSealedSaid := over
#print axioms proved
end Go.Proofs.Ytgpkbehodmcbgaa.topSealed
namespace Go.Proofs.Ytgpkbehodmcbgaa
theorem topSealed_holds : Rows.TopSealedSaid := topSealed.proved
end Go.Proofs.Ytgpkbehodmcbgaa
