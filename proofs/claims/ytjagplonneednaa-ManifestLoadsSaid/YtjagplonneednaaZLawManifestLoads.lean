-- kept, by a program of this session, of a text that the printer or this session wrote
import Derived.Test.YtjagplonneednaaRows
import Derived.Test.YtjagplonneednaaZPx1004
import Derived.Test.YtjagplonneednaaZOpen
import Derived.WalkKit
import Derived.ProofKit
import Derived.OpenShut
import Derived.ShutString
import Derived.ChangeOld
import Derived.Below
import Derived.SizedLaws
namespace Go.Proofs.Ytjagplonneednaa.manifestLoads
open Go.ChangeShapes Go.WideShapes Go.ChangeAt Go.RowKit Go.Proofs.Ytjagplonneednaa.P Go.Proofs.YtjagplonneednaaW.PrintWords
open Go.ChangeMaps (open_string shut_string)
set_option linter.unusedVariables false
theorem own : ownKnob Try.prog.godebug = none := by kernel_rfl
theorem laidOut : laidOutB Try.prog = true := by kernel_rfl
theorem opens_S74 : Go.Proofs.Ytjagplonneednaa.Open.Opens Try.prog 74 k74 spoorlaw06_ManifestLoads.GS74 := by
  refine Go.Proofs.Ytjagplonneednaa.Open.opens_struct Try.underlying74 (fs := _) (Go.Proofs.Ytjagplonneednaa.Open.OpensAt.cons ((Go.Proofs.Ytjagplonneednaa.Open.opens_int Try.underlying3)) rfl (by kernel_rfl) (Go.Proofs.Ytjagplonneednaa.Open.OpensAt.one ((Go.Proofs.Ytjagplonneednaa.Open.opens_string Try.underlying9)) rfl (by kernel_rfl))) (by kernel_rfl) (fun x => ⟨x.1, x.2⟩) (fun _ => rfl) (fun _ h => h)
theorem cells_S74 {W : World} {x : S74} {cs : Array Value} (h : k74.K W x (Value.agg cs).cells.toList) : cs = #[.int .i64 x.f0, .string x.f1] := by
  obtain ⟨l⟩ := cs
  have e' : l = _ := k74_open h
  subst e'
  rfl
theorem opens_S38 : Go.Proofs.Ytjagplonneednaa.Open.Opens Try.prog 38 k38 spoorlaw06_ManifestLoads.GS38 := by
  refine Go.Proofs.Ytjagplonneednaa.Open.opens_struct Try.underlying38 (fs := _) (Go.Proofs.Ytjagplonneednaa.Open.OpensAt.cons ((Go.Proofs.Ytjagplonneednaa.Open.opens_slice (d := Kd.string) (G := (fun z_ : ByteArray => z_.size ≤ 140737488351232)) (B := 16) Try.underlying35 (by kernel_rfl) (by kernel_rfl) (Go.Proofs.Ytjagplonneednaa.Open.opens_string Try.underlying9))) rfl (by kernel_rfl) (Go.Proofs.Ytjagplonneednaa.Open.OpensAt.cons ((Go.Proofs.Ytjagplonneednaa.Open.opens_slice (d := k74) (G := (fun z_ : S74 => spoorlaw06_ManifestLoads.GS74 z_)) (B := 24) Try.underlying36 (by kernel_rfl) (by kernel_rfl) opens_S74)) rfl (by kernel_rfl) (Go.Proofs.Ytjagplonneednaa.Open.OpensAt.cons ((Go.Proofs.Ytjagplonneednaa.Open.opens_int Try.underlying3)) rfl (by kernel_rfl) (Go.Proofs.Ytjagplonneednaa.Open.OpensAt.one ((Go.Proofs.Ytjagplonneednaa.Open.opens_bool Try.underlying4)) rfl (by kernel_rfl))))) (by kernel_rfl) (fun x => ⟨x.1, x.2.1, x.2.2.1, x.2.2.2⟩) (fun _ => rfl) (fun _ h => h)
theorem cells_S38 {W : World} {x : S38} {cs : Array Value} (h : k38.K W x (Value.agg cs).cells.toList) : ∃ (A0 : Option Addr) (c0 : Nat), x.f0.length ≤ c0 ∧ Kd.C Kd.string W A0 x.f0.length x.f0 ∧ ∃ (A1 : Option Addr) (c1 : Nat), x.f1.length ≤ c1 ∧ Kd.C k74 W A1 x.f1.length x.f1 ∧ cs = #[.slice A0 x.f0.length c0, .slice A1 x.f1.length c1, .int .i64 x.f2, .bool x.f3] := by
  obtain ⟨l⟩ := cs
  obtain ⟨A0, c0, A1, c1, e, l0, g0, l1, g1⟩ := k38_open h
  have e' : l = _ := e
  subst e'
  exact ⟨A0, c0, l0, g0, A1, c1, l1, g1, rfl⟩
theorem opens_S56 : Go.Proofs.Ytjagplonneednaa.Open.Opens Try.prog 56 k56 spoorlaw06_ManifestLoads.GS56 := by
  refine Go.Proofs.Ytjagplonneednaa.Open.opens_struct Try.underlying56 (fs := _) (Go.Proofs.Ytjagplonneednaa.Open.OpensAt.cons ((Go.Proofs.Ytjagplonneednaa.Open.opens_int Try.underlying3)) rfl (by kernel_rfl) (Go.Proofs.Ytjagplonneednaa.Open.OpensAt.cons ((Go.Proofs.Ytjagplonneednaa.Open.opens_int Try.underlying22)) rfl (by kernel_rfl) (Go.Proofs.Ytjagplonneednaa.Open.OpensAt.one ((Go.Proofs.Ytjagplonneednaa.Open.opens_int Try.underlying3)) rfl (by kernel_rfl)))) (by kernel_rfl) (fun x => ⟨x.1, x.2.1, x.2.2⟩) (fun _ => rfl) (fun _ h => h)
theorem cells_S56 {W : World} {x : S56} {cs : Array Value} (h : k56.K W x (Value.agg cs).cells.toList) : cs = #[.int .i64 x.f0, .int .u64 x.f1, .int .i64 x.f2] := by
  obtain ⟨l⟩ := cs
  have e' : l = _ := k56_open h
  subst e'
  rfl
theorem opens_S25 : Go.Proofs.Ytjagplonneednaa.Open.Opens Try.prog 25 k25 spoorlaw06_ManifestLoads.GS25 := by
  refine Go.Proofs.Ytjagplonneednaa.Open.opens_struct Try.underlying25 (fs := _) (Go.Proofs.Ytjagplonneednaa.Open.OpensAt.cons ((Go.Proofs.Ytjagplonneednaa.Open.opens_int Try.underlying22)) rfl (by kernel_rfl) (Go.Proofs.Ytjagplonneednaa.Open.OpensAt.one ((Go.Proofs.Ytjagplonneednaa.Open.opens_slice (d := k56) (G := (fun z_ : S56 => spoorlaw06_ManifestLoads.GS56 z_)) (B := 24) Try.underlying23 (by kernel_rfl) (by kernel_rfl) opens_S56)) rfl (by kernel_rfl))) (by kernel_rfl) (fun x => ⟨x.1, x.2⟩) (fun _ => rfl) (fun _ h => h)
theorem cells_S25 {W : World} {x : S25} {cs : Array Value} (h : k25.K W x (Value.agg cs).cells.toList) : ∃ (A1 : Option Addr) (c1 : Nat), x.f1.length ≤ c1 ∧ Kd.C k56 W A1 x.f1.length x.f1 ∧ cs = #[.int .u64 x.f0, .slice A1 x.f1.length c1] := by
  obtain ⟨l⟩ := cs
  obtain ⟨A1, c1, e, l1, g1⟩ := k25_open h
  have e' : l = _ := e
  subst e'
  exact ⟨A1, c1, l1, g1, rfl⟩
set_option maxRecDepth 100000 in
theorem lifted (os : Os) (started : os.Started) (H : Type) (enc : TypeId × Value → H) :
    ReturnsInHanded {} Try.checked os 4 .any (Rows.manifestLoadsSpec.pre6 enc Try.prog Try.f4 Rows.manifestLoadsRow.domain false) (Rows.manifestLoadsSpec.post enc Try.prog Try.f4 false true false false) := by
  refine returnsInHanded_of_change_sized (C := Try.checked) own started (by kernel_rfl) Try.func4
    (ChangeSpec.witness6 (enc := enc) (C := Try.checked) false ⟨#[], #[.agg #[.slice none 0 0, .slice none 0 0, .int .i64 0, .bool false], .agg #[.int .u64 0, .slice none 0 0]], []⟩ 8 (by kernel_rfl) (by kernel_rfl) (by kernel_rfl) (by kernel_rfl)) ?_
  intro W base args ds gs before hval0 hW hcnd hsz0 _
  have hsz : (DataW.weightsEach Try.prog (Try.f4.params.toList ++ Rows.manifestLoadsSpec.plain.varTypes Try.prog) (ds ++ gs)).all (· ≤ reachBytes) = true := hsz0
  have hval : ∀ (j : Nat) t v, Try.f4.params[j]? = some t → args[j]? = some v → Value.okWide Try.prog W .any base t v := hval0
  have hW' := hW
  obtain ⟨p, q, hA0, hV, rfl, hfz, hnd⟩ := hW
  have hA : DataW.TrodAll enc Try.prog W 0 (fun _ => true) true Try.f4.params.toList args.toList ds p := hA0
  rw [Try.params4] at hA hval hsz
  obtain ⟨v0, vs0, d0, ds0, p0, q0, hargs, rfl, rfl, h0, r0⟩ := trodAll_cons hA
  obtain ⟨v1, vs1, d1, ds1, p1, q1, rfl, rfl, rfl, h1, r1⟩ := trodAll_cons r0
  obtain ⟨rfl, rfl, rfl⟩ := trodAll_nil r1
  obtain rfl : args = #[v0, v1] := by cases args; simp_all
  obtain ⟨rfl, rfl⟩ := trodVars_none hV
  have k0 := h0
  have lt0 : ∀ x ∈ p0, x.block < W.heap.size := by obtain ⟨m, hm⟩ := k0; exact DataW.trod_lt m _ _ _ hm
  obtain ⟨b0, hK0, g0⟩ := Go.Proofs.Ytjagplonneednaa.Open.open_arg (d := k38) (G := (fun z_ : S38 => spoorlaw06_ManifestLoads.GS38 z_)) opens_S38 h0 hsz (j := 0) (t := 38) rfl rfl
  obtain ⟨cs0, rfl, _⟩ := okWide_struct Try.underlying38 (hval 0 38 v0 rfl rfl)
  obtain ⟨A0_0, c0_0, hc0_0, hr0_0, A0_1, c0_1, hc0_1, hr0_1, rfl⟩ := cells_S38 hK0
  have k1 := h1
  have lt1 : ∀ x ∈ p1, x.block < W.heap.size := by obtain ⟨m, hm⟩ := k1; exact DataW.trod_lt m _ _ _ hm
  obtain ⟨b1, hK1, g1⟩ := Go.Proofs.Ytjagplonneednaa.Open.open_arg (d := k25) (G := (fun z_ : S25 => spoorlaw06_ManifestLoads.GS25 z_)) opens_S25 h1 hsz (j := 1) (t := 25) rfl rfl
  obtain ⟨cs1, rfl, _⟩ := okWide_struct Try.underlying25 (hval 1 25 v1 rfl rfl)
  obtain ⟨A1_1, c1_1, hc1_1, hr1_1, rfl⟩ := cells_S25 hK1
  clear hA0 hval0 hsz0 hsz
  refine (P.spoorlaw06_ManifestLoads.walk Pure.ManifestLoads A0_0 c0_0 b0.f0 A0_1 c0_1 b0.f1 (b0.f2) (b0.f3) (b1.f0) A1_1 c1_1 b1.f1 W g0 g1 hr0_0 hc0_0 hr0_1 hc0_1 hr1_1 hc1_1).mono fun e W' ⟨he, bel⟩ => ?_
  subst he
  exact ⟨_, rfl, _, _, _, [], _, [], hW', trodAll_mk1 (shut_bool Try.underlying4 _), (trodAll_cons_mk (Below.trod laidOut (by kernel_rfl) (of_decide_eq_true (by kernel_rfl)) k0 bel lt0) (trodAll_cons_mk (Below.trod laidOut (by kernel_rfl) (of_decide_eq_true (by kernel_rfl)) k1 bel lt1) trodAll_mk0)), rfl, bel.frame _, fun h => by cases h⟩
theorem over : Rows.manifestLoadsRow.holds Try.pinned (OpenSpec.ofChange Rows.manifestLoadsSpec) :=
  OpenClaim.holds_of_wide 4 Try.f4 rfl rfl rfl rfl rfl rfl rfl ⟨rfl, rfl, rfl, rfl, rfl⟩ rfl rfl rfl rfl rfl (by kernel_rfl) Try.func4 (by kernel_rfl)
    (of_decide_eq_true (by kernel_rfl)) (by unfold Func.isWrapper; first | (rw [if_pos (by decide +kernel)]; kernel_rfl) | (rw [if_neg (by decide +kernel)]; exact ⟨rfl, rfl⟩))
    (fun os started H enc _ => lifted os started H enc)
theorem proved : Rows.ManifestLoadsSaid := over
#print axioms proved
end Go.Proofs.Ytjagplonneednaa.manifestLoads
namespace Go.Proofs.Ytjagplonneednaa
theorem manifestLoads_holds : Rows.ManifestLoadsSaid := manifestLoads.proved
end Go.Proofs.Ytjagplonneednaa
