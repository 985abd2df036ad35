-- Written by a program of this session (an adapted printer) out of the translation; Lean checks it.
import Derived.Test.YtbglcbjbjgjebaaRows
import Derived.Test.YtbglcbjbjgjebaaPx27
import Derived.Test.YtbglcbjbjgjebaaPureDiskTorn
import Derived.Test.YtbglcbjbjgjebaaOpen
import Derived.WalkKit
import Derived.ProofKit
import Derived.OpenShut
import Derived.ShutString
import Derived.ChangeOld
import Derived.Below
import Derived.SizedLaws
namespace Go.Proofs.Ytbglcbjbjgjebaa.diskTorn
open Go.ChangeShapes Go.WideShapes Go.ChangeAt Go.RowKit Go.Proofs.Ytbglcbjbjgjebaa.P Go.Proofs.YtbglcbjbjgjebaaW.PrintWords
open Go.ChangeMaps (open_string shut_string)
set_option linter.unusedVariables false
theorem own : ownKnob Try.prog.godebug = none := by kernel_rfl
theorem laidOut : laidOutB Try.prog = true := by kernel_rfl
theorem opens_S40 : Go.Proofs.Ytbglcbjbjgjebaa.Open.Opens Try.prog 40 k40 spoorlaw03_DiskTorn.GS40 := by
  refine Go.Proofs.Ytbglcbjbjgjebaa.Open.opens_struct Try.underlying40 (fs := _) (Go.Proofs.Ytbglcbjbjgjebaa.Open.OpensAt.cons ((Go.Proofs.Ytbglcbjbjgjebaa.Open.opens_int Try.underlying3)) rfl (by kernel_rfl) (Go.Proofs.Ytbglcbjbjgjebaa.Open.OpensAt.one ((Go.Proofs.Ytbglcbjbjgjebaa.Open.opens_string Try.underlying9)) rfl (by kernel_rfl))) (by kernel_rfl) (fun x => ⟨x.1, x.2⟩) (fun _ => rfl) (fun _ h => h)
theorem cells_S40 {W : World} {x : S40} {cs : Array Value} (h : k40.K W x (Value.agg cs).cells.toList) : cs = #[.int .i64 x.f0, .string x.f1] := by
  obtain ⟨l⟩ := cs
  have e' : l = _ := k40_open h
  subst e'
  rfl
theorem opens_S25 : Go.Proofs.Ytbglcbjbjgjebaa.Open.Opens Try.prog 25 k25 spoorlaw03_DiskTorn.GS25 := by
  refine Go.Proofs.Ytbglcbjbjgjebaa.Open.opens_struct Try.underlying25 (fs := _) (Go.Proofs.Ytbglcbjbjgjebaa.Open.OpensAt.cons ((Go.Proofs.Ytbglcbjbjgjebaa.Open.opens_slice (d := Kd.string) (G := (fun z_ : ByteArray => z_.size ≤ 140737488351232)) (B := 16) Try.underlying22 (by kernel_rfl) (by kernel_rfl) (Go.Proofs.Ytbglcbjbjgjebaa.Open.opens_string Try.underlying9))) rfl (by kernel_rfl) (Go.Proofs.Ytbglcbjbjgjebaa.Open.OpensAt.cons ((Go.Proofs.Ytbglcbjbjgjebaa.Open.opens_slice (d := k40) (G := (fun z_ : S40 => spoorlaw03_DiskTorn.GS40 z_)) (B := 24) Try.underlying23 (by kernel_rfl) (by kernel_rfl) opens_S40)) rfl (by kernel_rfl) (Go.Proofs.Ytbglcbjbjgjebaa.Open.OpensAt.cons ((Go.Proofs.Ytbglcbjbjgjebaa.Open.opens_int Try.underlying3)) rfl (by kernel_rfl) (Go.Proofs.Ytbglcbjbjgjebaa.Open.OpensAt.one ((Go.Proofs.Ytbglcbjbjgjebaa.Open.opens_bool Try.underlying4)) rfl (by kernel_rfl))))) (by kernel_rfl) (fun x => ⟨x.1, x.2.1, x.2.2.1, x.2.2.2⟩) (fun _ => rfl) (fun _ h => h)
theorem cells_S25 {W : World} {x : S25} {cs : Array Value} (h : k25.K W x (Value.agg cs).cells.toList) : ∃ (A0 : Option Addr) (c0 : Nat), x.f0.length ≤ c0 ∧ Kd.C Kd.string W A0 x.f0.length x.f0 ∧ ∃ (A1 : Option Addr) (c1 : Nat), x.f1.length ≤ c1 ∧ Kd.C k40 W A1 x.f1.length x.f1 ∧ cs = #[.slice A0 x.f0.length c0, .slice A1 x.f1.length c1, .int .i64 x.f2, .bool x.f3] := by
  obtain ⟨l⟩ := cs
  obtain ⟨A0, c0, A1, c1, e, l0, g0, l1, g1⟩ := k25_open h
  have e' : l = _ := e
  subst e'
  exact ⟨A0, c0, l0, g0, A1, c1, l1, g1, rfl⟩
set_option maxRecDepth 100000 in
theorem lifted (os : Os) (started : os.Started) (H : Type) (enc : TypeId × Value → H) :
    ReturnsInHanded {} Try.checked os 5 .any (Rows.diskTornSpec.pre6 enc Try.prog Try.f5 Rows.diskTornRow.domain false) (Rows.diskTornSpec.post enc Try.prog Try.f5 false true false false) := by
  refine returnsInHanded_of_change_sized (C := Try.checked) own started (by kernel_rfl) Try.func5
    (ChangeSpec.witness6 (enc := enc) (C := Try.checked) false ⟨#[], #[.agg #[.slice none 0 0, .slice none 0 0, .int .i64 0, .bool false], .slice none 0 0, .int .i64 0, .int .i64 0], []⟩ 8 (by kernel_rfl) (by kernel_rfl) (by kernel_rfl) (by kernel_rfl)) ?_
  intro W base args ds gs before hval0 hW hcnd hsz0 _
  have hsz : (DataW.weightsEach Try.prog (Try.f5.params.toList ++ Rows.diskTornSpec.plain.varTypes Try.prog) (ds ++ gs)).all (· ≤ reachBytes) = true := hsz0
  have hval : ∀ (j : Nat) t v, Try.f5.params[j]? = some t → args[j]? = some v → Value.okWide Try.prog W .any base t v := hval0
  have hW' := hW
  obtain ⟨p, q, hA0, hV, rfl, hfz, hnd⟩ := hW
  have hA : DataW.TrodAll enc Try.prog W 0 (fun _ => true) true Try.f5.params.toList args.toList ds p := hA0
  rw [Try.params5] at hA hval hsz
  obtain ⟨v0, vs0, d0, ds0, p0, q0, hargs, rfl, rfl, h0, r0⟩ := trodAll_cons hA
  obtain ⟨v1, vs1, d1, ds1, p1, q1, rfl, rfl, rfl, h1, r1⟩ := trodAll_cons r0
  obtain ⟨v2, vs2, d2, ds2, p2, q2, rfl, rfl, rfl, h2, r2⟩ := trodAll_cons r1
  obtain ⟨v3, vs3, d3, ds3, p3, q3, rfl, rfl, rfl, h3, r3⟩ := trodAll_cons r2
  obtain ⟨rfl, rfl, rfl⟩ := trodAll_nil r3
  obtain rfl : args = #[v0, v1, v2, v3] := by cases args; simp_all
  obtain ⟨rfl, rfl⟩ := trodVars_none hV
  have k0 := h0
  have lt0 : ∀ x ∈ p0, x.block < W.heap.size := by obtain ⟨m, hm⟩ := k0; exact DataW.trod_lt m _ _ _ hm
  obtain ⟨b0, hK0, g0⟩ := Go.Proofs.Ytbglcbjbjgjebaa.Open.open_arg (d := k25) (G := (fun z_ : S25 => spoorlaw03_DiskTorn.GS25 z_)) opens_S25 h0 hsz (j := 0) (t := 25) rfl rfl
  obtain ⟨cs0, rfl, _⟩ := okWide_struct Try.underlying25 (hval 0 25 v0 rfl rfl)
  obtain ⟨A0_0, c0_0, hc0_0, hr0_0, A0_1, c0_1, hc0_1, hr0_1, rfl⟩ := cells_S25 hK0
  have k1 := h1
  have lt1 : ∀ x ∈ p1, x.block < W.heap.size := by obtain ⟨m, hm⟩ := k1; exact DataW.trod_lt m _ _ _ hm
  obtain ⟨b1, hK1, g1⟩ := Go.Proofs.Ytbglcbjbjgjebaa.Open.open_arg (d := (Kd.slice 4 Kd.bool)) (G := (fun z_ : List Bool => z_.length * 1 ≤ 140737488351232 ∧ ∀ y_ ∈ z_, True)) (Go.Proofs.Ytbglcbjbjgjebaa.Open.opens_slice (d := Kd.bool) (G := (fun z_ : Bool => True)) (B := 1) Try.underlying37 (by kernel_rfl) (by kernel_rfl) (Go.Proofs.Ytbglcbjbjgjebaa.Open.opens_bool Try.underlying4)) h1 hsz (j := 1) (t := 37) rfl rfl
  obtain ⟨A1, c1, rfl, hc1, hr1⟩ := Go.Proofs.Ytbglcbjbjgjebaa.Open.slice_of hK1 (okWide_slice Try.underlying37 (hval 1 37 v1 rfl rfl))
  have k2 := h2
  have lt2 : ∀ x ∈ p2, x.block < W.heap.size := by obtain ⟨m, hm⟩ := k2; exact DataW.trod_lt m _ _ _ hm
  obtain ⟨b2, hK2, g2⟩ := Go.Proofs.Ytbglcbjbjgjebaa.Open.open_arg (d := (Kd.int .i64)) (G := (fun z_ : Int => (Lit.int .i64 z_).wf = true)) (Go.Proofs.Ytbglcbjbjgjebaa.Open.opens_int Try.underlying3) h2 hsz (j := 2) (t := 3) rfl rfl
  obtain rfl := Go.Proofs.Ytbglcbjbjgjebaa.Open.int_of hK2 (okWide_int Try.underlying3 (hval 2 3 v2 rfl rfl))
  have k3 := h3
  have lt3 : ∀ x ∈ p3, x.block < W.heap.size := by obtain ⟨m, hm⟩ := k3; exact DataW.trod_lt m _ _ _ hm
  obtain ⟨b3, hK3, g3⟩ := Go.Proofs.Ytbglcbjbjgjebaa.Open.open_arg (d := (Kd.int .i64)) (G := (fun z_ : Int => (Lit.int .i64 z_).wf = true)) (Go.Proofs.Ytbglcbjbjgjebaa.Open.opens_int Try.underlying3) h3 hsz (j := 3) (t := 3) rfl rfl
  obtain rfl := Go.Proofs.Ytbglcbjbjgjebaa.Open.int_of hK3 (okWide_int Try.underlying3 (hval 3 3 v3 rfl rfl))
  clear hA0 hval0 hsz0 hsz
  refine (P.spoorlaw03_DiskTorn.walk Pure.DiskTorn A0_0 c0_0 b0.f0 A0_1 c0_1 b0.f1 (b0.f2) (b0.f3) A1 c1 b1 b2 b3 W g0 g1 g2 g3 hr0_0 hc0_0 hr0_1 hc0_1 hr1 hc1).mono fun e W' ⟨he, bel⟩ => ?_
  subst he
  exact ⟨_, rfl, _, _, _, [], _, [], hW', trodAll_mk1 (shut_bool Try.underlying4 _), (trodAll_cons_mk (Below.trod laidOut (by kernel_rfl) (of_decide_eq_true (by kernel_rfl)) k0 bel lt0) (trodAll_cons_mk (Below.trod laidOut (by kernel_rfl) (of_decide_eq_true (by kernel_rfl)) k1 bel lt1) (trodAll_cons_mk (Below.trod laidOut (by kernel_rfl) (of_decide_eq_true (by kernel_rfl)) k2 bel lt2) (trodAll_cons_mk (Below.trod laidOut (by kernel_rfl) (of_decide_eq_true (by kernel_rfl)) k3 bel lt3) trodAll_mk0)))), rfl, bel.frame _, fun h => by cases h⟩
theorem over : Rows.diskTornRow.holds Try.pinned (OpenSpec.ofChange Rows.diskTornSpec) :=
  OpenClaim.holds_of_wide 5 Try.f5 rfl rfl rfl rfl rfl rfl rfl ⟨rfl, rfl, rfl, rfl, rfl⟩ rfl rfl rfl rfl rfl (by kernel_rfl) Try.func5 (by kernel_rfl)
    (of_decide_eq_true (by kernel_rfl)) (by unfold Func.isWrapper; first | (rw [if_pos (by decide +kernel)]; kernel_rfl) | (rw [if_neg (by decide +kernel)]; exact ⟨rfl, rfl⟩))
    (fun os started H enc _ => lifted os started H enc)
theorem proved : Rows.DiskTornSaid := over
#print axioms proved
end Go.Proofs.Ytbglcbjbjgjebaa.diskTorn
namespace Go.Proofs.Ytbglcbjbjgjebaa
/-- The row, under a short name, for the claim. -/
theorem diskTorn_holds : Rows.DiskTornSaid := diskTorn.proved
end Go.Proofs.Ytbglcbjbjgjebaa
