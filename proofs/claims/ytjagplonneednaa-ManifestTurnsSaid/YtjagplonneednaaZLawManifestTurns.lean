-- kept, by a program of this session, of a text that the printer or this session wrote
import Derived.Test.YtjagplonneednaaRows
import Derived.Test.YtjagplonneednaaZPx1007
import Derived.Test.YtjagplonneednaaZPureManifestTurns
import Derived.Test.YtjagplonneednaaZOpen
import Derived.WalkKit
import Derived.ProofKit
import Derived.OpenShut
import Derived.ShutString
import Derived.ChangeOld
import Derived.Below
import Derived.SizedLaws
namespace Go.Proofs.Ytjagplonneednaa.manifestTurns
open Go.ChangeShapes Go.WideShapes Go.ChangeAt Go.RowKit Go.Proofs.Ytjagplonneednaa.P Go.Proofs.YtjagplonneednaaW.PrintWords
open Go.ChangeMaps (open_string shut_string)
set_option linter.unusedVariables false
theorem own : ownKnob Try.prog.godebug = none := by kernel_rfl
theorem laidOut : laidOutB Try.prog = true := by kernel_rfl
theorem opens_S56 : Go.Proofs.Ytjagplonneednaa.Open.Opens Try.prog 56 k56 spoorlaw06_ManifestTurns.GS56 := by
  refine Go.Proofs.Ytjagplonneednaa.Open.opens_struct Try.underlying56 (fs := _) (Go.Proofs.Ytjagplonneednaa.Open.OpensAt.cons ((Go.Proofs.Ytjagplonneednaa.Open.opens_int Try.underlying3)) rfl (by kernel_rfl) (Go.Proofs.Ytjagplonneednaa.Open.OpensAt.cons ((Go.Proofs.Ytjagplonneednaa.Open.opens_int Try.underlying22)) rfl (by kernel_rfl) (Go.Proofs.Ytjagplonneednaa.Open.OpensAt.one ((Go.Proofs.Ytjagplonneednaa.Open.opens_int Try.underlying3)) rfl (by kernel_rfl)))) (by kernel_rfl) (fun x => ⟨x.1, x.2.1, x.2.2⟩) (fun _ => rfl) (fun _ h => h)
theorem cells_S56 {W : World} {x : S56} {cs : Array Value} (h : k56.K W x (Value.agg cs).cells.toList) : cs = #[.int .i64 x.f0, .int .u64 x.f1, .int .i64 x.f2] := by
  obtain ⟨l⟩ := cs
  have e' : l = _ := k56_open h
  subst e'
  rfl
set_option maxRecDepth 100000 in
theorem lifted (os : Os) (started : os.Started) (H : Type) (enc : TypeId × Value → H) :
    ReturnsInHanded {} Try.checked os 7 .any (Rows.manifestTurnsSpec.pre6 enc Try.prog Try.f7 Rows.manifestTurnsRow.domain false) (Rows.manifestTurnsSpec.post enc Try.prog Try.f7 false true false false) := by
  refine returnsInHanded_of_change_sized (C := Try.checked) own started (by kernel_rfl) Try.func7
    (ChangeSpec.witness6 (enc := enc) (C := Try.checked) false ⟨#[], #[.slice none 0 0, .slice none 0 0, .slice none 0 0, .int .i64 0, .int .i64 0], []⟩ 8 (by kernel_rfl) (by kernel_rfl) (by kernel_rfl) (by kernel_rfl)) ?_
  intro W base args ds gs before hval0 hW hcnd hsz0 _
  have hsz : (DataW.weightsEach Try.prog (Try.f7.params.toList ++ Rows.manifestTurnsSpec.plain.varTypes Try.prog) (ds ++ gs)).all (· ≤ reachBytes) = true := hsz0
  have hval : ∀ (j : Nat) t v, Try.f7.params[j]? = some t → args[j]? = some v → Value.okWide Try.prog W .any base t v := hval0
  have hW' := hW
  obtain ⟨p, q, hA0, hV, rfl, hfz, hnd⟩ := hW
  have hA : DataW.TrodAll enc Try.prog W 0 (fun _ => true) true Try.f7.params.toList args.toList ds p := hA0
  rw [Try.params7] at hA hval hsz
  obtain ⟨v0, vs0, d0, ds0, p0, q0, hargs, rfl, rfl, h0, r0⟩ := trodAll_cons hA
  obtain ⟨v1, vs1, d1, ds1, p1, q1, rfl, rfl, rfl, h1, r1⟩ := trodAll_cons r0
  obtain ⟨v2, vs2, d2, ds2, p2, q2, rfl, rfl, rfl, h2, r2⟩ := trodAll_cons r1
  obtain ⟨v3, vs3, d3, ds3, p3, q3, rfl, rfl, rfl, h3, r3⟩ := trodAll_cons r2
  obtain ⟨v4, vs4, d4, ds4, p4, q4, rfl, rfl, rfl, h4, r4⟩ := trodAll_cons r3
  obtain ⟨rfl, rfl, rfl⟩ := trodAll_nil r4
  obtain rfl : args = #[v0, v1, v2, v3, v4] := by cases args; simp_all
  obtain ⟨rfl, rfl⟩ := trodVars_none hV
  have k0 := h0
  have lt0 : ∀ x ∈ p0, x.block < W.heap.size := by obtain ⟨m, hm⟩ := k0; exact DataW.trod_lt m _ _ _ hm
  obtain ⟨b0, hK0, g0⟩ := Go.Proofs.Ytjagplonneednaa.Open.open_arg (d := (Kd.slice 23 (Kd.slice 56 k56))) (G := (fun z_ : List (List (S56)) => z_.length * 24 ≤ 140737488351232 ∧ ∀ y_ ∈ z_, y_.length * 24 ≤ 140737488351232 ∧ ∀ y__ ∈ y_, spoorlaw06_ManifestTurns.GS56 y__)) (Go.Proofs.Ytjagplonneednaa.Open.opens_slice (d := (Kd.slice 56 k56)) (G := (fun z_ : List (S56) => z_.length * 24 ≤ 140737488351232 ∧ ∀ y_ ∈ z_, spoorlaw06_ManifestTurns.GS56 y_)) (B := 24) Try.underlying46 (by kernel_rfl) (by kernel_rfl) (Go.Proofs.Ytjagplonneednaa.Open.opens_slice (d := k56) (G := (fun z_ : S56 => spoorlaw06_ManifestTurns.GS56 z_)) (B := 24) Try.underlying23 (by kernel_rfl) (by kernel_rfl) opens_S56)) h0 hsz (j := 0) (t := 46) rfl rfl
  obtain ⟨A0, c0, rfl, hc0, hr0⟩ := Go.Proofs.Ytjagplonneednaa.Open.slice_of hK0 (okWide_slice Try.underlying46 (hval 0 46 v0 rfl rfl))
  have k1 := h1
  have lt1 : ∀ x ∈ p1, x.block < W.heap.size := by obtain ⟨m, hm⟩ := k1; exact DataW.trod_lt m _ _ _ hm
  obtain ⟨b1, hK1, g1⟩ := Go.Proofs.Ytjagplonneednaa.Open.open_arg (d := (Kd.slice 3 (Kd.int .i64))) (G := (fun z_ : List Int => z_.length * 8 ≤ 140737488351232 ∧ ∀ y_ ∈ z_, (Lit.int .i64 y_).wf = true)) (Go.Proofs.Ytjagplonneednaa.Open.opens_slice (d := (Kd.int .i64)) (G := (fun z_ : Int => (Lit.int .i64 z_).wf = true)) (B := 8) Try.underlying47 (by kernel_rfl) (by kernel_rfl) (Go.Proofs.Ytjagplonneednaa.Open.opens_int Try.underlying3)) h1 hsz (j := 1) (t := 47) rfl rfl
  obtain ⟨A1, c1, rfl, hc1, hr1⟩ := Go.Proofs.Ytjagplonneednaa.Open.slice_of hK1 (okWide_slice Try.underlying47 (hval 1 47 v1 rfl rfl))
  have k2 := h2
  have lt2 : ∀ x ∈ p2, x.block < W.heap.size := by obtain ⟨m, hm⟩ := k2; exact DataW.trod_lt m _ _ _ hm
  obtain ⟨b2, hK2, g2⟩ := Go.Proofs.Ytjagplonneednaa.Open.open_arg (d := (Kd.slice 4 Kd.bool)) (G := (fun z_ : List Bool => z_.length * 1 ≤ 140737488351232 ∧ ∀ y_ ∈ z_, True)) (Go.Proofs.Ytjagplonneednaa.Open.opens_slice (d := Kd.bool) (G := (fun z_ : Bool => True)) (B := 1) Try.underlying48 (by kernel_rfl) (by kernel_rfl) (Go.Proofs.Ytjagplonneednaa.Open.opens_bool Try.underlying4)) h2 hsz (j := 2) (t := 48) rfl rfl
  obtain ⟨A2, c2, rfl, hc2, hr2⟩ := Go.Proofs.Ytjagplonneednaa.Open.slice_of hK2 (okWide_slice Try.underlying48 (hval 2 48 v2 rfl rfl))
  have k3 := h3
  have lt3 : ∀ x ∈ p3, x.block < W.heap.size := by obtain ⟨m, hm⟩ := k3; exact DataW.trod_lt m _ _ _ hm
  obtain ⟨b3, hK3, g3⟩ := Go.Proofs.Ytjagplonneednaa.Open.open_arg (d := (Kd.int .i64)) (G := (fun z_ : Int => (Lit.int .i64 z_).wf = true)) (Go.Proofs.Ytjagplonneednaa.Open.opens_int Try.underlying3) h3 hsz (j := 3) (t := 3) rfl rfl
  obtain rfl := Go.Proofs.Ytjagplonneednaa.Open.int_of hK3 (okWide_int Try.underlying3 (hval 3 3 v3 rfl rfl))
  have k4 := h4
  have lt4 : ∀ x ∈ p4, x.block < W.heap.size := by obtain ⟨m, hm⟩ := k4; exact DataW.trod_lt m _ _ _ hm
  obtain ⟨b4, hK4, g4⟩ := Go.Proofs.Ytjagplonneednaa.Open.open_arg (d := (Kd.int .i64)) (G := (fun z_ : Int => (Lit.int .i64 z_).wf = true)) (Go.Proofs.Ytjagplonneednaa.Open.opens_int Try.underlying3) h4 hsz (j := 4) (t := 3) rfl rfl
  obtain rfl := Go.Proofs.Ytjagplonneednaa.Open.int_of hK4 (okWide_int Try.underlying3 (hval 4 3 v4 rfl rfl))
  clear hA0 hval0 hsz0 hsz
  refine (P.spoorlaw06_ManifestTurns.walk Pure.ManifestTurns A0 c0 b0 A1 c1 b1 A2 c2 b2 b3 b4 W g0 g1 g2 g3 g4 hr0 hc0 hr1 hc1 hr2 hc2).mono fun e W' ⟨he, bel⟩ => ?_
  subst he
  exact ⟨_, rfl, _, _, _, [], _, [], hW', trodAll_mk1 (shut_bool Try.underlying4 _), (trodAll_cons_mk (Below.trod laidOut (by kernel_rfl) (of_decide_eq_true (by kernel_rfl)) k0 bel lt0) (trodAll_cons_mk (Below.trod laidOut (by kernel_rfl) (of_decide_eq_true (by kernel_rfl)) k1 bel lt1) (trodAll_cons_mk (Below.trod laidOut (by kernel_rfl) (of_decide_eq_true (by kernel_rfl)) k2 bel lt2) (trodAll_cons_mk (Below.trod laidOut (by kernel_rfl) (of_decide_eq_true (by kernel_rfl)) k3 bel lt3) (trodAll_cons_mk (Below.trod laidOut (by kernel_rfl) (of_decide_eq_true (by kernel_rfl)) k4 bel lt4) trodAll_mk0))))), rfl, bel.frame _, fun h => by cases h⟩
theorem over : Rows.manifestTurnsRow.holds Try.pinned (OpenSpec.ofChange Rows.manifestTurnsSpec) :=
  OpenClaim.holds_of_wide 7 Try.f7 rfl rfl rfl rfl rfl rfl rfl ⟨rfl, rfl, rfl, rfl, rfl⟩ rfl rfl rfl rfl rfl (by kernel_rfl) Try.func7 (by kernel_rfl)
    (of_decide_eq_true (by kernel_rfl)) (by unfold Func.isWrapper; first | (rw [if_pos (by decide +kernel)]; kernel_rfl) | (rw [if_neg (by decide +kernel)]; exact ⟨rfl, rfl⟩))
    (fun os started H enc _ => lifted os started H enc)
theorem proved : Rows.ManifestTurnsSaid := over
#print axioms proved
end Go.Proofs.Ytjagplonneednaa.manifestTurns
namespace Go.Proofs.Ytjagplonneednaa
theorem manifestTurns_holds : Rows.ManifestTurnsSaid := manifestTurns.proved
end Go.Proofs.Ytjagplonneednaa
