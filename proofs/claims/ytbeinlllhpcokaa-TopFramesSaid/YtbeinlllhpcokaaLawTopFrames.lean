-- Written by a program of this session (an adapted printer) out of the translation; Lean checks it.
import Derived.Test.YtbeinlllhpcokaaRows
import Derived.Test.YtbeinlllhpcokaaPx24
import Derived.Test.YtbeinlllhpcokaaPureTopFrames
import Derived.Test.YtbeinlllhpcokaaOpen
import Derived.WalkKit
import Derived.ProofKit
import Derived.OpenShut
import Derived.ShutString
import Derived.ChangeOld
import Derived.Below
import Derived.SizedLaws
namespace Go.Proofs.Ytbeinlllhpcokaa.topFrames
open Go.ChangeShapes Go.WideShapes Go.ChangeAt Go.RowKit Go.Proofs.Ytbeinlllhpcokaa.P Go.Proofs.YtbeinlllhpcokaaW.PrintWords
open Go.ChangeMaps (open_string shut_string)
set_option linter.unusedVariables false
theorem own : ownKnob Try.prog.godebug = none := by kernel_rfl
theorem laidOut : laidOutB Try.prog = true := by kernel_rfl
set_option maxRecDepth 100000 in
theorem lifted (os : Os) (started : os.Started) (H : Type) (enc : TypeId × Value → H) :
    ReturnsInHanded {} Try.checked os 3 .any (Rows.topFramesSpec.pre6 enc Try.prog Try.f3 Rows.topFramesRow.domain false) (Rows.topFramesSpec.post enc Try.prog Try.f3 false true false false) := by
  refine returnsInHanded_of_change_sized (C := Try.checked) own started (by kernel_rfl) Try.func3
    (ChangeSpec.witness6 (enc := enc) (C := Try.checked) false ⟨#[], #[.slice none 0 0, .int .i64 0, .slice none 0 0, .int .i64 0, .int .i64 0], []⟩ 8 (by kernel_rfl) (by kernel_rfl) (by kernel_rfl) (by kernel_rfl)) ?_
  intro W base args ds gs before hval0 hW hcnd hsz0 _
  have hsz : (DataW.weightsEach Try.prog (Try.f3.params.toList ++ Rows.topFramesSpec.plain.varTypes Try.prog) (ds ++ gs)).all (· ≤ reachBytes) = true := hsz0
  have hval : ∀ (j : Nat) t v, Try.f3.params[j]? = some t → args[j]? = some v → Value.okWide Try.prog W .any base t v := hval0
  have hW' := hW
  obtain ⟨p, q, hA0, hV, rfl, hfz, hnd⟩ := hW
  have hA : DataW.TrodAll enc Try.prog W 0 (fun _ => true) true Try.f3.params.toList args.toList ds p := hA0
  rw [Try.params3] at hA hval hsz
  obtain ⟨v0, vs0, d0, ds0, p0, q0, hargs, rfl, rfl, h0, r0⟩ := trodAll_cons hA
  obtain ⟨v1, vs1, d1, ds1, p1, q1, rfl, rfl, rfl, h1, r1⟩ := trodAll_cons r0
  obtain ⟨v2, vs2, d2, ds2, p2, q2, rfl, rfl, rfl, h2, r2⟩ := trodAll_cons r1
  obtain ⟨v3, vs3, d3, ds3, p3, q3, rfl, rfl, rfl, h3, r3⟩ := trodAll_cons r2
  obtain ⟨v4, vs4, d4, ds4, p4, q4, rfl, rfl, rfl, h4, r4⟩ := trodAll_cons r3
  obtain ⟨rfl, rfl, rfl⟩ := trodAll_nil r4
  obtain rfl : args = #[v0, v1, v2, v3, v4] := by cases args; simp_all
  obtain ⟨rfl, rfl⟩ := trodVars_none hV
  have k0 := h0
  have lt0 : ∀ x ∈ p0, x.block < W.heap.size := by obtain ⟨m, hm⟩ := k0; exact DataW.trod_lt m _ _ _ hm
  obtain ⟨b0, hK0, g0⟩ := Go.Proofs.Ytbeinlllhpcokaa.Open.open_arg (d := (Kd.slice 9 Kd.string)) (G := (fun z_ : List ByteArray => z_.length * 16 ≤ 140737488351232 ∧ ∀ y_ ∈ z_, y_.size ≤ 140737488351232)) (Go.Proofs.Ytbeinlllhpcokaa.Open.opens_slice (d := Kd.string) (G := (fun z_ : ByteArray => z_.size ≤ 140737488351232)) (B := 16) Try.underlying22 (by kernel_rfl) (by kernel_rfl) (Go.Proofs.Ytbeinlllhpcokaa.Open.opens_string Try.underlying9)) h0 hsz (j := 0) (t := 22) rfl rfl
  obtain ⟨A0, c0, rfl, hc0, hr0⟩ := Go.Proofs.Ytbeinlllhpcokaa.Open.slice_of hK0 (okWide_slice Try.underlying22 (hval 0 22 v0 rfl rfl))
  have k1 := h1
  have lt1 : ∀ x ∈ p1, x.block < W.heap.size := by obtain ⟨m, hm⟩ := k1; exact DataW.trod_lt m _ _ _ hm
  obtain ⟨b1, hK1, g1⟩ := Go.Proofs.Ytbeinlllhpcokaa.Open.open_arg (d := (Kd.int .i64)) (G := (fun z_ : Int => (Lit.int .i64 z_).wf = true)) (Go.Proofs.Ytbeinlllhpcokaa.Open.opens_int Try.underlying3) h1 hsz (j := 1) (t := 3) rfl rfl
  obtain rfl := Go.Proofs.Ytbeinlllhpcokaa.Open.int_of hK1 (okWide_int Try.underlying3 (hval 1 3 v1 rfl rfl))
  have k2 := h2
  have lt2 : ∀ x ∈ p2, x.block < W.heap.size := by obtain ⟨m, hm⟩ := k2; exact DataW.trod_lt m _ _ _ hm
  obtain ⟨b2, hK2, g2⟩ := Go.Proofs.Ytbeinlllhpcokaa.Open.open_arg (d := (Kd.slice 4 Kd.bool)) (G := (fun z_ : List Bool => z_.length * 1 ≤ 140737488351232 ∧ ∀ y_ ∈ z_, True)) (Go.Proofs.Ytbeinlllhpcokaa.Open.opens_slice (d := Kd.bool) (G := (fun z_ : Bool => True)) (B := 1) Try.underlying23 (by kernel_rfl) (by kernel_rfl) (Go.Proofs.Ytbeinlllhpcokaa.Open.opens_bool Try.underlying4)) h2 hsz (j := 2) (t := 23) rfl rfl
  obtain ⟨A2, c2, rfl, hc2, hr2⟩ := Go.Proofs.Ytbeinlllhpcokaa.Open.slice_of hK2 (okWide_slice Try.underlying23 (hval 2 23 v2 rfl rfl))
  have k3 := h3
  have lt3 : ∀ x ∈ p3, x.block < W.heap.size := by obtain ⟨m, hm⟩ := k3; exact DataW.trod_lt m _ _ _ hm
  obtain ⟨b3, hK3, g3⟩ := Go.Proofs.Ytbeinlllhpcokaa.Open.open_arg (d := (Kd.int .i64)) (G := (fun z_ : Int => (Lit.int .i64 z_).wf = true)) (Go.Proofs.Ytbeinlllhpcokaa.Open.opens_int Try.underlying3) h3 hsz (j := 3) (t := 3) rfl rfl
  obtain rfl := Go.Proofs.Ytbeinlllhpcokaa.Open.int_of hK3 (okWide_int Try.underlying3 (hval 3 3 v3 rfl rfl))
  have k4 := h4
  have lt4 : ∀ x ∈ p4, x.block < W.heap.size := by obtain ⟨m, hm⟩ := k4; exact DataW.trod_lt m _ _ _ hm
  obtain ⟨b4, hK4, g4⟩ := Go.Proofs.Ytbeinlllhpcokaa.Open.open_arg (d := (Kd.int .i64)) (G := (fun z_ : Int => (Lit.int .i64 z_).wf = true)) (Go.Proofs.Ytbeinlllhpcokaa.Open.opens_int Try.underlying3) h4 hsz (j := 4) (t := 3) rfl rfl
  obtain rfl := Go.Proofs.Ytbeinlllhpcokaa.Open.int_of hK4 (okWide_int Try.underlying3 (hval 4 3 v4 rfl rfl))
  clear hA0 hval0 hsz0 hsz
  refine (P.spoortop_TopFrames.walk Pure.TopFrames A0 c0 b0 b1 A2 c2 b2 b3 b4 W g0 g1 g2 g3 g4 hr0 hc0 hr2 hc2).mono fun e W' ⟨he, bel⟩ => ?_
  subst he
  exact ⟨_, rfl, _, _, _, [], _, [], hW', trodAll_mk1 (shut_bool Try.underlying4 _), (trodAll_cons_mk (Below.trod laidOut (by kernel_rfl) (of_decide_eq_true (by kernel_rfl)) k0 bel lt0) (trodAll_cons_mk (Below.trod laidOut (by kernel_rfl) (of_decide_eq_true (by kernel_rfl)) k1 bel lt1) (trodAll_cons_mk (Below.trod laidOut (by kernel_rfl) (of_decide_eq_true (by kernel_rfl)) k2 bel lt2) (trodAll_cons_mk (Below.trod laidOut (by kernel_rfl) (of_decide_eq_true (by kernel_rfl)) k3 bel lt3) (trodAll_cons_mk (Below.trod laidOut (by kernel_rfl) (of_decide_eq_true (by kernel_rfl)) k4 bel lt4) trodAll_mk0))))), rfl, bel.frame _, fun h => by cases h⟩
theorem over : Rows.topFramesRow.holds Try.pinned (OpenSpec.ofChange Rows.topFramesSpec) :=
  OpenClaim.holds_of_wide 3 Try.f3 rfl rfl rfl rfl rfl rfl rfl ⟨rfl, rfl, rfl, rfl, rfl⟩ rfl rfl rfl rfl rfl (by kernel_rfl) Try.func3 (by kernel_rfl)
    (of_decide_eq_true (by kernel_rfl)) (by unfold Func.isWrapper; first | (rw [if_pos (by decide +kernel)]; kernel_rfl) | (rw [if_neg (by decide +kernel)]; exact ⟨rfl, rfl⟩))
    (fun os started H enc _ => lifted os started H enc)
theorem proved : Rows.TopFramesSaid := over
#print axioms proved
end Go.Proofs.Ytbeinlllhpcokaa.topFrames
namespace Go.Proofs.Ytbeinlllhpcokaa
/-- The row, under a short name, for the claim. -/
theorem topFrames_holds : Rows.TopFramesSaid := topFrames.proved
end Go.Proofs.Ytbeinlllhpcokaa
