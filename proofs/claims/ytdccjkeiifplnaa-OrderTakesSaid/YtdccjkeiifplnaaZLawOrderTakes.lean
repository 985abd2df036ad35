-- kept, by a program of this session, of a text that the printer or this session wrote
import Derived.Test.YtdccjkeiifplnaaRows
import Derived.Test.YtdccjkeiifplnaaZPx1003
import Derived.Test.YtdccjkeiifplnaaZOpen
import Derived.WalkKit
import Derived.ProofKit
import Derived.OpenShut
import Derived.ShutString
import Derived.ChangeOld
import Derived.Below
import Derived.SizedLaws
namespace Go.Proofs.Ytdccjkeiifplnaa.orderTakes
open Go.ChangeShapes Go.WideShapes Go.ChangeAt Go.RowKit Go.Proofs.Ytdccjkeiifplnaa.P Go.Proofs.YtdccjkeiifplnaaW.PrintWords
open Go.ChangeMaps (open_string shut_string)
set_option linter.unusedVariables false
theorem own : ownKnob Try.prog.godebug = none := by kernel_rfl
theorem laidOut : laidOutB Try.prog = true := by kernel_rfl
theorem opens_S38 : Go.Proofs.Ytdccjkeiifplnaa.Open.Opens Try.prog 38 k38 spoorlaw14_OrderTakes.GS38 := by
  refine Go.Proofs.Ytdccjkeiifplnaa.Open.opens_struct Try.underlying38 (fs := _) (Go.Proofs.Ytdccjkeiifplnaa.Open.OpensAt.cons ((Go.Proofs.Ytdccjkeiifplnaa.Open.opens_int Try.underlying3)) rfl (by kernel_rfl) (Go.Proofs.Ytdccjkeiifplnaa.Open.OpensAt.cons ((Go.Proofs.Ytdccjkeiifplnaa.Open.opens_int Try.underlying24)) rfl (by kernel_rfl) (Go.Proofs.Ytdccjkeiifplnaa.Open.OpensAt.cons ((Go.Proofs.Ytdccjkeiifplnaa.Open.opens_int Try.underlying2)) rfl (by kernel_rfl) (Go.Proofs.Ytdccjkeiifplnaa.Open.OpensAt.one ((Go.Proofs.Ytdccjkeiifplnaa.Open.opens_bool Try.underlying4)) rfl (by kernel_rfl))))) (by kernel_rfl) (fun x => ⟨x.1, x.2.1, x.2.2.1, x.2.2.2⟩) (fun _ => rfl) (fun _ h => h)
theorem cells_S38 {W : World} {x : S38} {cs : Array Value} (h : k38.K W x (Value.agg cs).cells.toList) : cs = #[.int .i64 x.f0, .int .u64 x.f1, .int .i64 x.f2, .bool x.f3] := by
  obtain ⟨l⟩ := cs
  have e' : l = _ := k38_open h
  subst e'
  rfl
theorem opens_S26 : Go.Proofs.Ytdccjkeiifplnaa.Open.Opens Try.prog 26 k26 spoorlaw14_OrderTakes.GS26 := by
  refine Go.Proofs.Ytdccjkeiifplnaa.Open.opens_struct Try.underlying26 (fs := _) (Go.Proofs.Ytdccjkeiifplnaa.Open.OpensAt.cons ((Go.Proofs.Ytdccjkeiifplnaa.Open.opens_int Try.underlying24)) rfl (by kernel_rfl) (Go.Proofs.Ytdccjkeiifplnaa.Open.OpensAt.one ((Go.Proofs.Ytdccjkeiifplnaa.Open.opens_int Try.underlying24)) rfl (by kernel_rfl))) (by kernel_rfl) (fun x => ⟨x.1, x.2⟩) (fun _ => rfl) (fun _ h => h)
theorem cells_S26 {W : World} {x : S26} {cs : Array Value} (h : k26.K W x (Value.agg cs).cells.toList) : cs = #[.int .u64 x.f0, .int .u64 x.f1] := by
  obtain ⟨l⟩ := cs
  have e' : l = _ := k26_open h
  subst e'
  rfl
theorem opens_S28 : Go.Proofs.Ytdccjkeiifplnaa.Open.Opens Try.prog 28 k28 spoorlaw14_OrderTakes.GS28 := by
  refine Go.Proofs.Ytdccjkeiifplnaa.Open.opens_struct Try.underlying28 (fs := _) (Go.Proofs.Ytdccjkeiifplnaa.Open.OpensAt.cons ((Go.Proofs.Ytdccjkeiifplnaa.Open.opens_bool Try.underlying4)) rfl (by kernel_rfl) (Go.Proofs.Ytdccjkeiifplnaa.Open.OpensAt.cons (opens_S26) rfl (by kernel_rfl) (Go.Proofs.Ytdccjkeiifplnaa.Open.OpensAt.one ((Go.Proofs.Ytdccjkeiifplnaa.Open.opens_int Try.underlying3)) rfl (by kernel_rfl)))) (by kernel_rfl) (fun x => ⟨x.1, x.2.1, x.2.2⟩) (fun _ => rfl) (fun _ h => h)
theorem cells_S28 {W : World} {x : S28} {cs : Array Value} (h : k28.K W x (Value.agg cs).cells.toList) : cs = #[.bool x.f0, .int .u64 x.f1.f0, .int .u64 x.f1.f1, .int .i64 x.f2] := by
  obtain ⟨l⟩ := cs
  have e' : l = _ := k28_open h
  subst e'
  rfl
theorem opens_S31 : Go.Proofs.Ytdccjkeiifplnaa.Open.Opens Try.prog 31 k31 spoorlaw14_OrderTakes.GS31 := by
  refine Go.Proofs.Ytdccjkeiifplnaa.Open.opens_struct Try.underlying31 (fs := _) (Go.Proofs.Ytdccjkeiifplnaa.Open.OpensAt.cons ((Go.Proofs.Ytdccjkeiifplnaa.Open.opens_int Try.underlying29)) rfl (by kernel_rfl) (Go.Proofs.Ytdccjkeiifplnaa.Open.OpensAt.one ((Go.Proofs.Ytdccjkeiifplnaa.Open.opens_int Try.underlying3)) rfl (by kernel_rfl))) (by kernel_rfl) (fun x => ⟨x.1, x.2⟩) (fun _ => rfl) (fun _ h => h)
theorem cells_S31 {W : World} {x : S31} {cs : Array Value} (h : k31.K W x (Value.agg cs).cells.toList) : cs = #[.int .u8 x.f0, .int .i64 x.f1] := by
  obtain ⟨l⟩ := cs
  have e' : l = _ := k31_open h
  subst e'
  rfl
theorem opens_S33 : Go.Proofs.Ytdccjkeiifplnaa.Open.Opens Try.prog 33 k33 spoorlaw14_OrderTakes.GS33 := by
  refine Go.Proofs.Ytdccjkeiifplnaa.Open.opens_struct Try.underlying33 (fs := _) (Go.Proofs.Ytdccjkeiifplnaa.Open.OpensAt.cons ((Go.Proofs.Ytdccjkeiifplnaa.Open.opens_int Try.underlying23)) rfl (by kernel_rfl) (Go.Proofs.Ytdccjkeiifplnaa.Open.OpensAt.cons ((Go.Proofs.Ytdccjkeiifplnaa.Open.opens_int Try.underlying3)) rfl (by kernel_rfl) (Go.Proofs.Ytdccjkeiifplnaa.Open.OpensAt.cons ((Go.Proofs.Ytdccjkeiifplnaa.Open.opens_int Try.underlying24)) rfl (by kernel_rfl) (Go.Proofs.Ytdccjkeiifplnaa.Open.OpensAt.cons ((Go.Proofs.Ytdccjkeiifplnaa.Open.opens_int Try.underlying2)) rfl (by kernel_rfl) (Go.Proofs.Ytdccjkeiifplnaa.Open.OpensAt.cons (opens_S28) rfl (by kernel_rfl) (Go.Proofs.Ytdccjkeiifplnaa.Open.OpensAt.cons (opens_S31) rfl (by kernel_rfl) (Go.Proofs.Ytdccjkeiifplnaa.Open.OpensAt.cons ((Go.Proofs.Ytdccjkeiifplnaa.Open.opens_int Try.underlying3)) rfl (by kernel_rfl) (Go.Proofs.Ytdccjkeiifplnaa.Open.OpensAt.one ((Go.Proofs.Ytdccjkeiifplnaa.Open.opens_int Try.underlying3)) rfl (by kernel_rfl))))))))) (by kernel_rfl) (fun x => ⟨x.1, x.2.1, x.2.2.1, x.2.2.2.1, x.2.2.2.2.1, x.2.2.2.2.2.1, x.2.2.2.2.2.2.1, x.2.2.2.2.2.2.2⟩) (fun _ => rfl) (fun _ h => h)
theorem cells_S33 {W : World} {x : S33} {cs : Array Value} (h : k33.K W x (Value.agg cs).cells.toList) : cs = #[.int .u8 x.f0, .int .i64 x.f1, .int .u64 x.f2, .int .i64 x.f3, .bool x.f4.f0, .int .u64 x.f4.f1.f0, .int .u64 x.f4.f1.f1, .int .i64 x.f4.f2, .int .u8 x.f5.f0, .int .i64 x.f5.f1, .int .i64 x.f6, .int .i64 x.f7] := by
  obtain ⟨l⟩ := cs
  have e' : l = _ := k33_open h
  subst e'
  rfl
set_option maxRecDepth 100000 in
theorem lifted (os : Os) (started : os.Started) (H : Type) (enc : TypeId × Value → H) :
    ReturnsInHanded {} Try.checked os 3 .any (Rows.orderTakesSpec.pre6 enc Try.prog Try.f3 Rows.orderTakesRow.domain false) (Rows.orderTakesSpec.post enc Try.prog Try.f3 false true false false) := by
  refine returnsInHanded_of_change_sized (C := Try.checked) own started (by kernel_rfl) Try.func3
    (ChangeSpec.witness6 (enc := enc) (C := Try.checked) false ⟨#[], #[.slice none 0 0, .agg #[.int .u8 0, .int .i64 0, .int .u64 0, .int .i64 0, .bool false, .int .u64 0, .int .u64 0, .int .i64 0, .int .u8 0, .int .i64 0, .int .i64 0, .int .i64 0], .int .i64 0], []⟩ 8 (by kernel_rfl) (by kernel_rfl) (by kernel_rfl) (by kernel_rfl)) ?_
  intro W base args ds gs before hval0 hW hcnd hsz0 _
  have hsz : (DataW.weightsEach Try.prog (Try.f3.params.toList ++ Rows.orderTakesSpec.plain.varTypes Try.prog) (ds ++ gs)).all (· ≤ reachBytes) = true := hsz0
  have hval : ∀ (j : Nat) t v, Try.f3.params[j]? = some t → args[j]? = some v → Value.okWide Try.prog W .any base t v := hval0
  have hW' := hW
  obtain ⟨p, q, hA0, hV, rfl, hfz, hnd⟩ := hW
  have hA : DataW.TrodAll enc Try.prog W 0 (fun _ => true) true Try.f3.params.toList args.toList ds p := hA0
  rw [Try.params3] at hA hval hsz
  obtain ⟨v0, vs0, d0, ds0, p0, q0, hargs, rfl, rfl, h0, r0⟩ := trodAll_cons hA
  obtain ⟨v1, vs1, d1, ds1, p1, q1, rfl, rfl, rfl, h1, r1⟩ := trodAll_cons r0
  obtain ⟨v2, vs2, d2, ds2, p2, q2, rfl, rfl, rfl, h2, r2⟩ := trodAll_cons r1
  obtain ⟨rfl, rfl, rfl⟩ := trodAll_nil r2
  obtain rfl : args = #[v0, v1, v2] := by cases args; simp_all
  obtain ⟨rfl, rfl⟩ := trodVars_none hV
  have k0 := h0
  have lt0 : ∀ x ∈ p0, x.block < W.heap.size := by obtain ⟨m, hm⟩ := k0; exact DataW.trod_lt m _ _ _ hm
  obtain ⟨b0, hK0, g0⟩ := Go.Proofs.Ytdccjkeiifplnaa.Open.open_arg (d := (Kd.slice 38 k38)) (G := (fun z_ : List (S38) => z_.length * 32 ≤ 140737488351232 ∧ ∀ y_ ∈ z_, spoorlaw14_OrderTakes.GS38 y_)) (Go.Proofs.Ytdccjkeiifplnaa.Open.opens_slice (d := k38) (G := (fun z_ : S38 => spoorlaw14_OrderTakes.GS38 z_)) (B := 32) Try.underlying22 (by kernel_rfl) (by kernel_rfl) opens_S38) h0 hsz (j := 0) (t := 22) rfl rfl
  obtain ⟨A0, c0, rfl, hc0, hr0⟩ := Go.Proofs.Ytdccjkeiifplnaa.Open.slice_of hK0 (okWide_slice Try.underlying22 (hval 0 22 v0 rfl rfl))
  have k1 := h1
  have lt1 : ∀ x ∈ p1, x.block < W.heap.size := by obtain ⟨m, hm⟩ := k1; exact DataW.trod_lt m _ _ _ hm
  obtain ⟨b1, hK1, g1⟩ := Go.Proofs.Ytdccjkeiifplnaa.Open.open_arg (d := k33) (G := (fun z_ : S33 => spoorlaw14_OrderTakes.GS33 z_)) opens_S33 h1 hsz (j := 1) (t := 33) rfl rfl
  obtain ⟨cs1, rfl, _⟩ := okWide_struct Try.underlying33 (hval 1 33 v1 rfl rfl)
  obtain ⟨rfl⟩ := cells_S33 hK1
  have k2 := h2
  have lt2 : ∀ x ∈ p2, x.block < W.heap.size := by obtain ⟨m, hm⟩ := k2; exact DataW.trod_lt m _ _ _ hm
  obtain ⟨b2, hK2, g2⟩ := Go.Proofs.Ytdccjkeiifplnaa.Open.open_arg (d := (Kd.int .i64)) (G := (fun z_ : Int => (Lit.int .i64 z_).wf = true)) (Go.Proofs.Ytdccjkeiifplnaa.Open.opens_int Try.underlying2) h2 hsz (j := 2) (t := 2) rfl rfl
  obtain rfl := Go.Proofs.Ytdccjkeiifplnaa.Open.int_of hK2 (okWide_int Try.underlying2 (hval 2 2 v2 rfl rfl))
  clear hA0 hval0 hsz0 hsz
  refine (P.spoorlaw14_OrderTakes.walk Pure.OrderTakes A0 c0 b0 (b1.f0) (b1.f1) (b1.f2) (b1.f3) (b1.f4.f0) (b1.f4.f1.f0) (b1.f4.f1.f1) (b1.f4.f2) (b1.f5.f0) (b1.f5.f1) (b1.f6) (b1.f7) b2 W g0 g1 g2 hr0 hc0).mono fun e W' ⟨he, bel⟩ => ?_
  subst he
  exact ⟨_, rfl, _, _, _, [], _, [], hW', trodAll_mk1 (shut_bool Try.underlying4 _), (trodAll_cons_mk (Below.trod laidOut (by kernel_rfl) (of_decide_eq_true (by kernel_rfl)) k0 bel lt0) (trodAll_cons_mk (Below.trod laidOut (by kernel_rfl) (of_decide_eq_true (by kernel_rfl)) k1 bel lt1) (trodAll_cons_mk (Below.trod laidOut (by kernel_rfl) (of_decide_eq_true (by kernel_rfl)) k2 bel lt2) trodAll_mk0))), rfl, bel.frame _, fun h => by cases h⟩
theorem over : Rows.orderTakesRow.holds Try.pinned (OpenSpec.ofChange Rows.orderTakesSpec) :=
  OpenClaim.holds_of_wide 3 Try.f3 rfl rfl rfl rfl rfl rfl rfl ⟨rfl, rfl, rfl, rfl, rfl⟩ rfl rfl rfl rfl rfl (by kernel_rfl) Try.func3 (by kernel_rfl)
    (of_decide_eq_true (by kernel_rfl)) (by unfold Func.isWrapper; first | (rw [if_pos (by decide +kernel)]; kernel_rfl) | (rw [if_neg (by decide +kernel)]; exact ⟨rfl, rfl⟩))
    (fun os started H enc _ => lifted os started H enc)
theorem proved : Rows.OrderTakesSaid := over
#print axioms proved
end Go.Proofs.Ytdccjkeiifplnaa.orderTakes
namespace Go.Proofs.Ytdccjkeiifplnaa
theorem orderTakes_holds : Rows.OrderTakesSaid := orderTakes.proved
end Go.Proofs.Ytdccjkeiifplnaa
