-- kept, by a program of this session, of a text that the printer or this session wrote
import Derived.Test.YtjagplonneednaaZPx0
import Derived.Test.YtjagplonneednaaZPx1033
import Derived.Test.YtjagplonneednaaZPx30016
import Derived.Test.YtjagplonneednaaZPx1034
namespace Go.Proofs.Ytjagplonneednaa.P
open Go.RowKit Go.Proofs.YtjagplonneednaaW.PrintWords Go.Proofs.YtjagplonneednaaW.PrintLast Go.Proofs.YtjagplonneednaaW.PrintMore
attribute [local go_sem] max2_int min2_int max_two min_two max_three min_three max_four min_four
set_option linter.unusedVariables false
set_option linter.unusedSimpArgs false
theorem copy_f (S : List ByteArray) (C : List S74) (f : Int) (o : Bool) (h0 : S.length < 8796093022208) (h1 : C.length < 5864062014805) : spoorref03_Copy.f S C f o = some (S, C, f, o) := by
 unfold spoorref03_Copy.f
 simp only [Option.bind_some, List.length_nil, Nat.zero_add, List.nil_append]
 rw [if_pos h0, if_pos h1]
set_option maxHeartbeats 8000000 in
theorem rFlush_bad (k : Nat) (A0 A1 : Option Addr) (c0 c1 : Nat) (S : List ByteArray) (C : List S74) (f : Int) (o : Bool) (w : World) (hr0 : Kd.C Kd.string w A0 S.length S) (hc0 : S.length ≤ c0) (hr1 : Kd.C k74 w A1 C.length C) (hc1 : C.length ≤ c1) (t1 : Int) (h : spoorref03_Check.f k S C f o = some t1) (ht : ¬ t1 = 0) :
 Calls Try.prog 40 #[.agg #[.slice A0 S.length c0, .slice A1 C.length c1, .int .i64 f, .bool o]] w fun e w' => ∃ v0_ v1_ : Value, e = .returned (.tuple #[.agg #[v0_, v1_, .int .i64 0, .bool false], .int .i64 2]) ∧ Kd.R Kd.string 9 w' w.heap.size (fun _ => True) v0_ ([] : List ByteArray) ∧ Kd.R k74 74 w' w.heap.size (fun _ => True) v1_ ([] : List S74) ∧ Below w.heap.size w w' := by
 have R0 := Aside0.mk hr0
 have R1 := Aside0.mk hr1
 have HC0 := Aside0.mk hc0
 have HC1 := Aside0.mk hc1
 have HH := Aside0.mk h
 clear hr0 hc0 hr1 hc1 h
 have k1 : (t1 == 0) = false := by simpa using ht
 have k2 : (t1 != 0) = true := by simpa using ht
 clear ht
 go_enter Try.func40, Try.ntmps40
 go_wp2_with (first
  | ((with_reducible refine gate_dst (N := 1) rfl ?_); refine box_event ?hg (N := 1) ?hd (cs := #[.slice A0 S.length c0, .slice A1 C.length c1, .int .i64 f, .bool o]) (t := 38) ?hr ?_; (case hd => rfl); (case hg => rfl); (case hr => first | (go_simp; done) | (go_simp; rfl)); intro gx hg w3 hbox hb3; obtain ⟨h0, h1, h2, h3⟩ := cells25_ hbox; have HX := Aside0.mk hbox; have HGX := Aside0.mk (show w.heap.size ≤ gx by rw [hg]; exact Nat.le_refl _); have HB := Aside0.mk (Below.trans (Below.refl _ _) hb3); clear hg hbox hb3)
  | ((with_reducible refine gate_dst (N := 2) rfl ?_); refine box_event ?hg (N := 2) ?hd (cs := #[.slice none 0 0, .slice none 0 0, .int .i64 0, .bool false]) (t := 38) ?hr ?_; (case hd => rfl); (case hg => rfl); (case hr => first | (go_simp; done) | (go_simp; rfl)); intro gr hg w4 hbox hb3; have HNE := Aside0.mk (show gx ≠ gr by rw [hg]; exact Nat.ne_of_lt (blk_lt HX.out)); have HG := Aside0.mk (by rw [hg]; exact HB.out.size : w.heap.size ≤ gr); have HZ := Aside0.mk hbox; have n1_ := Aside0.mk (blk_below HX.out hb3); have n0_ := Aside0.mk (below_step HB.out hb3); clear h0 h1 h2 h3 HX HB; have HX := n1_; have HB := n0_; obtain ⟨h0, h1, h2, h3⟩ := cells25_ HX.out; clear hg hbox hb3 n0_ n1_)
  | (go_at_call 34; refine (spoorref03_Check.calls k A0 c0 S A1 c1 C f o t1 _ (Kd.C_below R0.out HB.out) HC0.out (Kd.C_below R1.out HB.out) HC1.out HH.out).mono ?_; rintro e w5 ⟨rfl, hb5⟩; have n0_ := Aside0.mk (below_step HB.out hb5); have n1_ := Aside0.mk (blk_below HX.out hb5); have n2_ := Aside0.mk (blk_below HZ.out hb5); clear HB HX HZ hb5 h0 h1 h2 h3; have HB := n0_; have HX := n1_; have HZ := n2_; clear n0_ n1_ n2_; obtain ⟨h0, h1, h2, h3⟩ := cells25_ HX.out; obtain ⟨y0, y1, y2, y3⟩ := cells25_ HZ.out; obtain ⟨q0, q1, q2, q3⟩ := f25a HZ.out))
 have F := fin25 (S := []) (C := []) (A0 := none) (A1 := none) (c0 := 0) (c1 := 0) (f := 0) (o := false) HZ.out (Kd.R_nil _ _ _ _ _) (Kd.R_nil _ _ _ _ _) HB.out HG.out
 refine bodyPost_ret (results_ct rfl _ _ gr 38 #[.slice none 0 0, .slice none 0 0, .int .i64 0, .bool false] (0, 0) _ rfl F.1 Try.underlying38 rfl (by kernel_rfl)) rfl ?_
 exact ⟨_, _, rfl, F.2.1, F.2.2.1, F.2.2.2⟩
set_option maxHeartbeats 8000000 in
theorem rFlush_off (k : Nat) (A0 A1 : Option Addr) (c0 c1 : Nat) (S : List ByteArray) (C : List S74) (f : Int) (w : World) (hr0 : Kd.C Kd.string w A0 S.length S) (hc0 : S.length ≤ c0) (hr1 : Kd.C k74 w A1 C.length C) (hc1 : C.length ≤ c1) (h : spoorref03_Check.f k S C f true = some 0) (hcp : spoorref03_Copy.f S C f true = some (S, C, f, true))  :
 Calls Try.prog 40 #[.agg #[.slice A0 S.length c0, .slice A1 C.length c1, .int .i64 f, .bool true]] w fun e w' => ∃ v0_ v1_ : Value, e = .returned (.tuple #[.agg #[v0_, v1_, .int .i64 f, .bool true], .int .i64 9]) ∧ Kd.R Kd.string 9 w' w.heap.size (fun _ => True) v0_ S ∧ Kd.R k74 74 w' w.heap.size (fun _ => True) v1_ C ∧ Below w.heap.size w w' := by
 have R0 := Aside0.mk hr0
 have R1 := Aside0.mk hr1
 have HC0 := Aside0.mk hc0
 have HC1 := Aside0.mk hc1
 have HH := Aside0.mk h
 clear hr0 hc0 hr1 hc1 h
 have HCP := Aside0.mk hcp
 clear hcp
 go_enter Try.func40, Try.ntmps40
 go_upto_region 4 with (first
  | ((with_reducible refine gate_dst (N := 1) rfl ?_); refine box_event ?hg (N := 1) ?hd (cs := #[.slice A0 S.length c0, .slice A1 C.length c1, .int .i64 f, .bool true]) (t := 38) ?hr ?_; (case hd => rfl); (case hg => rfl); (case hr => first | (go_simp; done) | (go_simp; rfl)); intro gx hg w3 hbox hb3; obtain ⟨h0, h1, h2, h3⟩ := cells25_ hbox; have HX := Aside0.mk hbox; have HGX := Aside0.mk (show w.heap.size ≤ gx by rw [hg]; exact Nat.le_refl _); have HB := Aside0.mk (Below.trans (Below.refl _ _) hb3); clear hg hbox hb3)
  | ((with_reducible refine gate_dst (N := 2) rfl ?_); refine box_event ?hg (N := 2) ?hd (cs := #[.slice none 0 0, .slice none 0 0, .int .i64 0, .bool false]) (t := 38) ?hr ?_; (case hd => rfl); (case hg => rfl); (case hr => first | (go_simp; done) | (go_simp; rfl)); intro gr hg w4 hbox hb3; have HNE := Aside0.mk (show gx ≠ gr by rw [hg]; exact Nat.ne_of_lt (blk_lt HX.out)); have HG := Aside0.mk (by rw [hg]; exact HB.out.size : w.heap.size ≤ gr); have HZ := Aside0.mk hbox; have n1_ := Aside0.mk (blk_below HX.out hb3); have n0_ := Aside0.mk (below_step HB.out hb3); clear h0 h1 h2 h3 HX HB; have HX := n1_; have HB := n0_; obtain ⟨h0, h1, h2, h3⟩ := cells25_ HX.out; clear hg hbox hb3 n0_ n1_)
  | (go_at_call 34; refine (spoorref03_Check.calls k A0 c0 S A1 c1 C f true 0 _ (Kd.C_below R0.out HB.out) HC0.out (Kd.C_below R1.out HB.out) HC1.out HH.out).mono ?_; rintro e w5 ⟨rfl, hb5⟩; have n0_ := Aside0.mk (below_step HB.out hb5); have n1_ := Aside0.mk (blk_below HX.out hb5); have n2_ := Aside0.mk (blk_below HZ.out hb5); clear HB HX HZ hb5 h0 h1 h2 h3; have HB := n0_; have HX := n1_; have HZ := n2_; clear n0_ n1_ n2_; obtain ⟨h0, h1, h2, h3⟩ := cells25_ HX.out; obtain ⟨y0, y1, y2, y3⟩ := cells25_ HZ.out; obtain ⟨q0, q1, q2, q3⟩ := f25a HZ.out)
  | (go_at_call 16; refine (spoorref03_Copy.calls A0 c0 S A1 c1 C f true S C f true _ (Kd.C_below R0.out HB.out) HC0.out (Kd.C_below R1.out HB.out) HC1.out HCP.out).mono ?_; rintro e w6 ⟨v0, v1, rfl, hR0, hR1, hb6⟩; obtain ⟨B0, e0, rfl⟩ := Kd.R_slice hR0; obtain ⟨B1, e1, rfl⟩ := Kd.R_slice hR1; have HD2 := Aside0.mk (Kd.R_lower hR0 HB.out.size); have HD3 := Aside0.mk (Kd.R_lower hR1 HB.out.size); have n0_ := Aside0.mk (below_step HB.out hb6); have n1_ := Aside0.mk (blk_below HX.out hb6); have n2_ := Aside0.mk (blk_below HZ.out hb6); clear HB HX HZ hb6 h0 h1 h2 h3 y0 y1 y2 y3 q0 q1 q2 q3 hR0 hR1; have HB := n0_; have HX := n1_; have HZ := n2_; clear n0_ n1_ n2_; obtain ⟨h0, h1, h2, h3⟩ := cells25_ HX.out; obtain ⟨z0, z1, z2, z3⟩ := f25a HX.out))
 have F := fin25 (f := f) (o := true) HX.out HD2.out HD3.out HB.out HGX.out
 have Z := blk_far (p := ⟨gx, 3, none⟩) (blk_far (p := ⟨gx, 2, none⟩) (blk_far (p := ⟨gx, 1, none⟩) (blk_far (p := ⟨gx, 0, none⟩) HZ.out HNE.out.symm (.slice B0 S.length e0)) HNE.out.symm (.slice B1 C.length e1)) HNE.out.symm (.int .i64 f)) HNE.out.symm (.bool true)
 obtain ⟨W6, hW6⟩ : ∃ W, W = ((((w6.setCell ⟨gx, 0, none⟩ (.slice B0 S.length e0)).setCell ⟨gx, 1, none⟩ (.slice B1 C.length e1)).setCell ⟨gx, 2, none⟩ (.int .i64 f)).setCell ⟨gx, 3, none⟩ (.bool true)) := ⟨_, rfl⟩
 (try simp only [Act.put, List.setIfInBounds_toArray, List.set_cons_zero, List.set_cons_succ])
 rw [← hW6] at F Z ⊢
 obtain ⟨F1, F2, F3, F4⟩ := F
 clear HX HD2 HD3 HB HZ h0 h1 h2 h3 z0 z1 z2 z3 hW6
 have HX := Aside0.mk F1
 have HD2 := Aside0.mk F2
 have HD3 := Aside0.mk F3
 have HB := Aside0.mk F4
 have HZ := Aside0.mk Z
 obtain ⟨h0, h1, h2, h3⟩ := cells25_ HX.out
 obtain ⟨z0, z1, z2, z3⟩ := f25a HX.out
 obtain ⟨y0, y1, y2, y3⟩ := cells25_ HZ.out
 obtain ⟨q0, q1, q2, q3⟩ := f25a HZ.out
 clear F1 F2 F3 F4 Z
 go_wp2
 have F := fin25 (f := f) (o := true) HZ.out HD2.out HD3.out HB.out HG.out
 refine bodyPost_ret (results_ct rfl _ _ gr 38 #[.slice B0 S.length e0, .slice B1 C.length e1, .int .i64 f, .bool true] (0, 0) _ rfl F.1 Try.underlying38 rfl (by kernel_rfl)) rfl ?_
 exact ⟨_, _, rfl, F.2.1, F.2.2.1, F.2.2.2⟩
set_option maxHeartbeats 8000000 in
theorem rFlush_blown (k : Nat) (A0 A1 : Option Addr) (c0 c1 : Nat) (S : List ByteArray) (C : List S74) (f : Int) (w : World) (hr0 : Kd.C Kd.string w A0 S.length S) (hc0 : S.length ≤ c0) (hr1 : Kd.C k74 w A1 C.length C) (hc1 : C.length ≤ c1) (h : spoorref03_Check.f k S C f false = some 0) (hcp : spoorref03_Copy.f S C f false = some (S, C, f, false)) (hf : f = 0) :
 Calls Try.prog 40 #[.agg #[.slice A0 S.length c0, .slice A1 C.length c1, .int .i64 f, .bool false]] w fun e w' => ∃ v0_ v1_ : Value, e = .returned (.tuple #[.agg #[v0_, v1_, .int .i64 f, .bool true], .int .i64 9]) ∧ Kd.R Kd.string 9 w' w.heap.size (fun _ => True) v0_ S ∧ Kd.R k74 74 w' w.heap.size (fun _ => True) v1_ C ∧ Below w.heap.size w w' := by
 have R0 := Aside0.mk hr0
 have R1 := Aside0.mk hr1
 have HC0 := Aside0.mk hc0
 have HC1 := Aside0.mk hc1
 have HH := Aside0.mk h
 clear hr0 hc0 hr1 hc1 h
 have HCP := Aside0.mk hcp
 clear hcp
 have f1 : (f == 0) = true := beq_iff_eq.mpr hf
 have HF := Aside0.mk hf
 clear hf
 go_enter Try.func40, Try.ntmps40
 go_upto_region 4 with (first
  | ((with_reducible refine gate_dst (N := 1) rfl ?_); refine box_event ?hg (N := 1) ?hd (cs := #[.slice A0 S.length c0, .slice A1 C.length c1, .int .i64 f, .bool false]) (t := 38) ?hr ?_; (case hd => rfl); (case hg => rfl); (case hr => first | (go_simp; done) | (go_simp; rfl)); intro gx hg w3 hbox hb3; obtain ⟨h0, h1, h2, h3⟩ := cells25_ hbox; have HX := Aside0.mk hbox; have HGX := Aside0.mk (show w.heap.size ≤ gx by rw [hg]; exact Nat.le_refl _); have HB := Aside0.mk (Below.trans (Below.refl _ _) hb3); clear hg hbox hb3)
  | ((with_reducible refine gate_dst (N := 2) rfl ?_); refine box_event ?hg (N := 2) ?hd (cs := #[.slice none 0 0, .slice none 0 0, .int .i64 0, .bool false]) (t := 38) ?hr ?_; (case hd => rfl); (case hg => rfl); (case hr => first | (go_simp; done) | (go_simp; rfl)); intro gr hg w4 hbox hb3; have HNE := Aside0.mk (show gx ≠ gr by rw [hg]; exact Nat.ne_of_lt (blk_lt HX.out)); have HG := Aside0.mk (by rw [hg]; exact HB.out.size : w.heap.size ≤ gr); have HZ := Aside0.mk hbox; have n1_ := Aside0.mk (blk_below HX.out hb3); have n0_ := Aside0.mk (below_step HB.out hb3); clear h0 h1 h2 h3 HX HB; have HX := n1_; have HB := n0_; obtain ⟨h0, h1, h2, h3⟩ := cells25_ HX.out; clear hg hbox hb3 n0_ n1_)
  | (go_at_call 34; refine (spoorref03_Check.calls k A0 c0 S A1 c1 C f false 0 _ (Kd.C_below R0.out HB.out) HC0.out (Kd.C_below R1.out HB.out) HC1.out HH.out).mono ?_; rintro e w5 ⟨rfl, hb5⟩; have n0_ := Aside0.mk (below_step HB.out hb5); have n1_ := Aside0.mk (blk_below HX.out hb5); have n2_ := Aside0.mk (blk_below HZ.out hb5); clear HB HX HZ hb5 h0 h1 h2 h3; have HB := n0_; have HX := n1_; have HZ := n2_; clear n0_ n1_ n2_; obtain ⟨h0, h1, h2, h3⟩ := cells25_ HX.out; obtain ⟨y0, y1, y2, y3⟩ := cells25_ HZ.out; obtain ⟨q0, q1, q2, q3⟩ := f25a HZ.out)
  | (go_at_call 16; refine (spoorref03_Copy.calls A0 c0 S A1 c1 C f false S C f false _ (Kd.C_below R0.out HB.out) HC0.out (Kd.C_below R1.out HB.out) HC1.out HCP.out).mono ?_; rintro e w6 ⟨v0, v1, rfl, hR0, hR1, hb6⟩; obtain ⟨B0, e0, rfl⟩ := Kd.R_slice hR0; obtain ⟨B1, e1, rfl⟩ := Kd.R_slice hR1; have HD2 := Aside0.mk (Kd.R_lower hR0 HB.out.size); have HD3 := Aside0.mk (Kd.R_lower hR1 HB.out.size); have n0_ := Aside0.mk (below_step HB.out hb6); have n1_ := Aside0.mk (blk_below HX.out hb6); have n2_ := Aside0.mk (blk_below HZ.out hb6); clear HB HX HZ hb6 h0 h1 h2 h3 y0 y1 y2 y3 q0 q1 q2 q3 hR0 hR1; have HB := n0_; have HX := n1_; have HZ := n2_; clear n0_ n1_ n2_; obtain ⟨h0, h1, h2, h3⟩ := cells25_ HX.out; obtain ⟨z0, z1, z2, z3⟩ := f25a HX.out))
 have F := fin25 (f := f) (o := false) HX.out HD2.out HD3.out HB.out HGX.out
 have Z := blk_far (p := ⟨gx, 3, none⟩) (blk_far (p := ⟨gx, 2, none⟩) (blk_far (p := ⟨gx, 1, none⟩) (blk_far (p := ⟨gx, 0, none⟩) HZ.out HNE.out.symm (.slice B0 S.length e0)) HNE.out.symm (.slice B1 C.length e1)) HNE.out.symm (.int .i64 f)) HNE.out.symm (.bool false)
 obtain ⟨W6, hW6⟩ : ∃ W, W = ((((w6.setCell ⟨gx, 0, none⟩ (.slice B0 S.length e0)).setCell ⟨gx, 1, none⟩ (.slice B1 C.length e1)).setCell ⟨gx, 2, none⟩ (.int .i64 f)).setCell ⟨gx, 3, none⟩ (.bool false)) := ⟨_, rfl⟩
 (try simp only [Act.put, List.setIfInBounds_toArray, List.set_cons_zero, List.set_cons_succ])
 rw [← hW6] at F Z ⊢
 obtain ⟨F1, F2, F3, F4⟩ := F
 clear HX HD2 HD3 HB HZ h0 h1 h2 h3 z0 z1 z2 z3 hW6
 have HX := Aside0.mk F1
 have HD2 := Aside0.mk F2
 have HD3 := Aside0.mk F3
 have HB := Aside0.mk F4
 have HZ := Aside0.mk Z
 obtain ⟨h0, h1, h2, h3⟩ := cells25_ HX.out
 obtain ⟨z0, z1, z2, z3⟩ := f25a HX.out
 obtain ⟨y0, y1, y2, y3⟩ := cells25_ HZ.out
 obtain ⟨q0, q1, q2, q3⟩ := f25a HZ.out
 clear F1 F2 F3 F4 Z
 have HX2 := Aside0.mk (blk_put HX.out 3 (.bool true) rfl)
 have HZ2 := Aside0.mk (blk_far (p := ⟨gx, 3, none⟩) HZ.out HNE.out.symm (.bool true))
 have HE2 := Aside0.mk (Kd.R_set HD2.out HX.out (by decide) 3 (.bool true))
 have HE3 := Aside0.mk (Kd.R_set HD3.out HX.out (by decide) 3 (.bool true))
 have HB2 := Aside0.mk (below_set (j := 3) (v := .bool true) HB.out HGX.out)
 go_upto_region 8 with (fail)
 obtain ⟨W7, hW7⟩ : ∃ W, W = (W6.setCell ⟨gx, 3, none⟩ (.bool true)) := ⟨_, rfl⟩
 (try simp only [Act.put, List.setIfInBounds_toArray, List.set_cons_zero, List.set_cons_succ])
 rw [← hW7] at HX2 HZ2 HE2 HE3 HB2 ⊢
 clear h0 h1 h2 h3 y0 y1 y2 y3 z0 z1 z2 z3 q0 q1 q2 q3 hW7 HX HZ HD2 HD3 HB
 obtain ⟨h0, h1, h2, h3⟩ := cells25_ HX2.out
 obtain ⟨y0, y1, y2, y3⟩ := cells25_ HZ2.out
 obtain ⟨q0, q1, q2, q3⟩ := f25a HZ2.out
 go_wp2
 have F := fin25 (f := f) (o := true) HZ2.out HE2.out HE3.out HB2.out HG.out
 refine bodyPost_ret (results_ct rfl _ _ gr 38 #[.slice B0 S.length e0, .slice B1 C.length e1, .int .i64 f, .bool true] (0, 0) _ rfl F.1 Try.underlying38 rfl (by kernel_rfl)) rfl ?_
 exact ⟨_, _, rfl, F.2.1, F.2.2.1, F.2.2.2⟩
set_option maxHeartbeats 8000000 in
theorem rFlush_pos (k : Nat) (A0 A1 : Option Addr) (c0 c1 : Nat) (S : List ByteArray) (C : List S74) (f : Int) (w : World) (hr0 : Kd.C Kd.string w A0 S.length S) (hc0 : S.length ≤ c0) (hr1 : Kd.C k74 w A1 C.length C) (hc1 : C.length ≤ c1) (h : spoorref03_Check.f k S C f false = some 0) (hcp : spoorref03_Copy.f S C f false = some (S, C, f, false)) (hf : ¬ f = 0) (hp : 0 < f) (hl : C.length < 5864062014805) (hin : ∀ i, (h : i < C.length) → 0 ≤ C[i].f0 ∧ C[i].f0 < (S.length : Int)) :
 Calls Try.prog 40 #[.agg #[.slice A0 S.length c0, .slice A1 C.length c1, .int .i64 f, .bool false]] w fun e w' => ∃ v0_ v1_ : Value, e = .returned (.tuple #[.agg #[v0_, v1_, .int .i64 (wrap64 (f - 1)), .bool false], .int .i64 0]) ∧ Kd.R Kd.string 9 w' w.heap.size (fun _ => True) v0_ (applyF S C) ∧ Kd.R k74 74 w' w.heap.size (fun _ => True) v1_ ([] : List S74) ∧ Below w.heap.size w w' := by
 have R0 := Aside0.mk hr0
 have R1 := Aside0.mk hr1
 have HC0 := Aside0.mk hc0
 have HC1 := Aside0.mk hc1
 have HH := Aside0.mk h
 clear hr0 hc0 hr1 hc1 h
 have HCP := Aside0.mk hcp
 clear hcp
 have f1 : (f == 0) = false := beq_eq_false_iff_ne.mpr hf
 have f2 : decide (0 < f) = true := decide_eq_true hp
 have HIN := Aside0.mk hin
 clear hf hp hin
 go_enter Try.func40, Try.ntmps40
 go_upto_region 4 with (first
  | ((with_reducible refine gate_dst (N := 1) rfl ?_); refine box_event ?hg (N := 1) ?hd (cs := #[.slice A0 S.length c0, .slice A1 C.length c1, .int .i64 f, .bool false]) (t := 38) ?hr ?_; (case hd => rfl); (case hg => rfl); (case hr => first | (go_simp; done) | (go_simp; rfl)); intro gx hg w3 hbox hb3; obtain ⟨h0, h1, h2, h3⟩ := cells25_ hbox; have HX := Aside0.mk hbox; have HGX := Aside0.mk (show w.heap.size ≤ gx by rw [hg]; exact Nat.le_refl _); have HB := Aside0.mk (Below.trans (Below.refl _ _) hb3); clear hg hbox hb3)
  | ((with_reducible refine gate_dst (N := 2) rfl ?_); refine box_event ?hg (N := 2) ?hd (cs := #[.slice none 0 0, .slice none 0 0, .int .i64 0, .bool false]) (t := 38) ?hr ?_; (case hd => rfl); (case hg => rfl); (case hr => first | (go_simp; done) | (go_simp; rfl)); intro gr hg w4 hbox hb3; have HNE := Aside0.mk (show gx ≠ gr by rw [hg]; exact Nat.ne_of_lt (blk_lt HX.out)); have HG := Aside0.mk (by rw [hg]; exact HB.out.size : w.heap.size ≤ gr); have HZ := Aside0.mk hbox; have n1_ := Aside0.mk (blk_below HX.out hb3); have n0_ := Aside0.mk (below_step HB.out hb3); clear h0 h1 h2 h3 HX HB; have HX := n1_; have HB := n0_; obtain ⟨h0, h1, h2, h3⟩ := cells25_ HX.out; clear hg hbox hb3 n0_ n1_)
  | (go_at_call 34; refine (spoorref03_Check.calls k A0 c0 S A1 c1 C f false 0 _ (Kd.C_below R0.out HB.out) HC0.out (Kd.C_below R1.out HB.out) HC1.out HH.out).mono ?_; rintro e w5 ⟨rfl, hb5⟩; have n0_ := Aside0.mk (below_step HB.out hb5); have n1_ := Aside0.mk (blk_below HX.out hb5); have n2_ := Aside0.mk (blk_below HZ.out hb5); clear HB HX HZ hb5 h0 h1 h2 h3; have HB := n0_; have HX := n1_; have HZ := n2_; clear n0_ n1_ n2_; obtain ⟨h0, h1, h2, h3⟩ := cells25_ HX.out; obtain ⟨y0, y1, y2, y3⟩ := cells25_ HZ.out; obtain ⟨q0, q1, q2, q3⟩ := f25a HZ.out)
  | (go_at_call 16; refine (spoorref03_Copy.calls A0 c0 S A1 c1 C f false S C f false _ (Kd.C_below R0.out HB.out) HC0.out (Kd.C_below R1.out HB.out) HC1.out HCP.out).mono ?_; rintro e w6 ⟨v0, v1, rfl, hR0, hR1, hb6⟩; obtain ⟨B0, e0, rfl⟩ := Kd.R_slice hR0; obtain ⟨B1, e1, rfl⟩ := Kd.R_slice hR1; have HD2 := Aside0.mk (Kd.R_lower hR0 HB.out.size); have HD3 := Aside0.mk (Kd.R_lower hR1 HB.out.size); have n0_ := Aside0.mk (below_step HB.out hb6); have n1_ := Aside0.mk (blk_below HX.out hb6); have n2_ := Aside0.mk (blk_below HZ.out hb6); clear HB HX HZ hb6 h0 h1 h2 h3 y0 y1 y2 y3 q0 q1 q2 q3 hR0 hR1; have HB := n0_; have HX := n1_; have HZ := n2_; clear n0_ n1_ n2_; obtain ⟨h0, h1, h2, h3⟩ := cells25_ HX.out; obtain ⟨z0, z1, z2, z3⟩ := f25a HX.out))
 have F := fin25 (f := f) (o := false) HX.out HD2.out HD3.out HB.out HGX.out
 have Z := blk_far (p := ⟨gx, 3, none⟩) (blk_far (p := ⟨gx, 2, none⟩) (blk_far (p := ⟨gx, 1, none⟩) (blk_far (p := ⟨gx, 0, none⟩) HZ.out HNE.out.symm (.slice B0 S.length e0)) HNE.out.symm (.slice B1 C.length e1)) HNE.out.symm (.int .i64 f)) HNE.out.symm (.bool false)
 obtain ⟨W6, hW6⟩ : ∃ W, W = ((((w6.setCell ⟨gx, 0, none⟩ (.slice B0 S.length e0)).setCell ⟨gx, 1, none⟩ (.slice B1 C.length e1)).setCell ⟨gx, 2, none⟩ (.int .i64 f)).setCell ⟨gx, 3, none⟩ (.bool false)) := ⟨_, rfl⟩
 (try simp only [Act.put, List.setIfInBounds_toArray, List.set_cons_zero, List.set_cons_succ])
 rw [← hW6] at F Z ⊢
 obtain ⟨F1, F2, F3, F4⟩ := F
 clear HX HD2 HD3 HB HZ h0 h1 h2 h3 z0 z1 z2 z3 hW6
 have HX := Aside0.mk F1
 have HD2 := Aside0.mk F2
 have HD3 := Aside0.mk F3
 have HB := Aside0.mk F4
 have HZ := Aside0.mk Z
 obtain ⟨h0, h1, h2, h3⟩ := cells25_ HX.out
 obtain ⟨z0, z1, z2, z3⟩ := f25a HX.out
 obtain ⟨y0, y1, y2, y3⟩ := cells25_ HZ.out
 obtain ⟨q0, q1, q2, q3⟩ := f25a HZ.out
 clear F1 F2 F3 F4 Z
 have HX2 := Aside0.mk (blk_put HX.out 2 (.int .i64 (wrap64 (f - 1))) rfl)
 have HZ2 := Aside0.mk (blk_far (p := ⟨gx, 2, none⟩) HZ.out HNE.out.symm (.int .i64 (wrap64 (f - 1))))
 have HE2 := Aside0.mk (Kd.R_set HD2.out HX.out (by decide) 2 (.int .i64 (wrap64 (f - 1))))
 have HE3 := Aside0.mk (Kd.R_set HD3.out HX.out (by decide) 2 (.int .i64 (wrap64 (f - 1))))
 have HB2 := Aside0.mk (below_set (j := 2) (v := .int .i64 (wrap64 (f - 1))) HB.out HGX.out)
 go_upto_region 11 with (fail)
 obtain ⟨W7, hW7⟩ : ∃ W, W = (W6.setCell ⟨gx, 2, none⟩ (.int .i64 (wrap64 (f - 1)))) := ⟨_, rfl⟩
 (try simp only [Act.put, List.setIfInBounds_toArray, List.set_cons_zero, List.set_cons_succ])
 rw [← hW7] at HX2 HZ2 HE2 HE3 HB2 ⊢
 clear h0 h1 h2 h3 y0 y1 y2 y3 z0 z1 z2 z3 q0 q1 q2 q3 hW7 HX HZ HD2 HD3 HB
 have HX := HX2
 have HZ := HZ2
 have HD2 := HE2
 have HD3 := HE3
 have HB := HB2
 clear HX2 HZ2 HE2 HE3 HB2
 obtain ⟨h0, h1, h2, h3⟩ := cells25_ HX.out
 obtain ⟨z0, z1, z2, z3⟩ := f25a HX.out
 obtain ⟨y0, y1, y2, y3⟩ := cells25_ HZ.out
 obtain ⟨q0, q1, q2, q3⟩ := f25a HZ.out
 go_wp2
 go_loopg [5, 30] C.length (fun gg _ s10 wr => ∃ kk : Nat, kk ≤ C.length ∧ C.length - kk ≤ gg ∧ s10 = .int .i64 kk ∧ Aside0 (wr.heap[gx]? = some (.cells #[.slice B0 S.length e0, .slice B1 C.length e1, .int .i64 (wrap64 (f - 1)), .bool false] 38 (0, 0))) ∧ Aside0 (wr.heap[gr]? = some (.cells #[.slice none 0 0, .slice none 0 0, .int .i64 0, .bool false] 38 (0, 0))) ∧ Aside0 (Kd.R Kd.string 9 wr w.heap.size (fun _ => True) (.slice B0 S.length e0) (applyF S (C.take kk))) ∧ Aside0 (Kd.R k74 74 wr w.heap.size (fun _ => True) (.slice B1 C.length e1) C) ∧ Aside0 (Below w.heap.size w wr))
 case atStart => exact ⟨0, Nat.zero_le _, by omega, rfl, HX, HZ, HD2, HD3, HB⟩
 case round =>
  clear HX HZ HD2 HD3 HB h0 h1 h2 h3 y0 y1 y2 y3 z0 z1 z2 z3 q0 q1 q2 q3
  obtain ⟨kk, hkk, hg, rfl, HX, HZ, HD2, HD3, HB⟩ := hrel
  by_cases hlt : kk < C.length
  · have hltz : (kk : Int) < (C.length : Int) := by omega
    have hin := HIN.out kk hlt
    have ht := applyF_take S C kk hlt
    have hla := applyF_len (C.take kk) S
    obtain ⟨ad, rfl, hx0, hx1⟩ := at_T74 (Kd.R_reads' HD3.out).2.2 (kk : Int) (by omega) (by omega)
    have hrd : rd_T74 C (kk : Int) = C[kk] := rdOf_at z74 C kk hlt
    rw [hrd, Int.toNat_natCast] at hx0 hx1
    generalize C[kk] = p at hx0 hx1 hin ht
    obtain ⟨i0, i1⟩ := hin
    obtain ⟨gs, cs, es, hgs, hls, cells, hcs⟩ := Kd.R_form HD2.out (by rw [hla]; omega)
    injection es with ea en ec
    subst ea
    subst ec
    clear en
    have hcell := Kd.R_celln (⟨#[]⟩ : ByteArray) HD2.out p.f0 i0 i1
    have HP := Kd.R_putn HD2.out p.f0 p.f1
    rw [← ht] at HP
    have hgg : gs ≠ gx := blk_ne hcs HX.out (by decide)
    have hgr : gs ≠ gr := blk_ne hcs HZ.out (by decide)
    have HP' := Aside0.mk HP
    have hcell := Kd.R_celln (⟨#[]⟩ : ByteArray) (Kd.R_below HD2.out (below_alloc (Below.refl _ _) (.cells #[.int .i64 p.f0, .string p.f1] 74))) p.f0 i0 i1
    obtain ⟨hcell, hcellf⟩ := hcell
    obtain ⟨e0', e1', e2', e3'⟩ := cells25_ (blk_alloc HX.out (.cells #[.int .i64 p.f0, .string p.f1] 74))
    have n0 := (blk_cell (blk_new wr (.cells #[.int .i64 p.f0, .string p.f1] 74)) 0).trans rfl
    have n1 := (blk_cell (blk_new wr (.cells #[.int .i64 p.f0, .string p.f1] 74)) 1).trans rfl
    have HQ := Aside0.mk (Kd.R_set HD3.out (g := gs) (t := 9) hcs (by decide) p.f0.toNat (.string p.f1))
    have q0 : decide (0 ≤ p.f0) = true := decide_eq_true i0
    have q1 : decide (p.f0 < (S.length : Int)) = true := decide_eq_true i1
    clear HP ht hla
    go_wp2
    go_roundg (C.length - (kk + 1))
    case measure => omega
    case rel =>
     exact ⟨kk + 1, by omega, by omega, by go_num, ⟨blk_alloc (blk_far (p := ⟨gs, p.f0.toNat, none⟩) HX.out hgg.symm _) _⟩, ⟨blk_alloc (blk_far (p := ⟨gs, p.f0.toNat, none⟩) HZ.out hgr.symm _) _⟩, ⟨Kd.R_alloc HP'.out _⟩, ⟨Kd.R_alloc HQ.out _⟩, ⟨below_alloc (below_set HB.out hgs) _⟩⟩
  · have hltz : ¬ (kk : Int) < (C.length : Int) := by omega
    obtain rfl : kk = C.length := by omega
    have ht : applyF S (C.take C.length) = applyF S C := by rw [List.take_length]
    rw [ht] at HD2
    clear ht
    have hla := applyF_len C S
    have HX2 := Aside0.mk (blk_put HX.out 1 (.slice none 0 0) rfl)
    have HZ2 := Aside0.mk (blk_far (p := ⟨gx, 1, none⟩) HZ.out HNE.out.symm (.slice none 0 0))
    have HE2 := Aside0.mk (Kd.R_set HD2.out HX.out (by decide) 1 (.slice none 0 0))
    have HB2 := Aside0.mk (below_set (j := 1) (v := .slice none 0 0) HB.out HGX.out)
    obtain ⟨h0, h1, h2, h3⟩ := cells25_ HX.out
    obtain ⟨z0, z1, z2, z3⟩ := f25a HX.out
    go_upto_region 17 with (fail)
    obtain ⟨W7, hW7⟩ : ∃ W, W = (wr.setCell ⟨gx, 1, none⟩ (.slice none 0 0)) := ⟨_, rfl⟩
    (try simp only [Act.put, List.setIfInBounds_toArray, List.set_cons_zero, List.set_cons_succ])
    rw [← hW7] at HX2 HZ2 HE2 HB2 ⊢
    clear h0 h1 h2 h3 z0 z1 z2 z3 hW7 HX HZ HD2 HD3 HB
    obtain ⟨T, hT⟩ : ∃ T, T = applyF S C := ⟨_, rfl⟩
    rw [← hT] at HE2 hla
    have HTT := Aside0.mk hT
    rw [← hla] at HE2 HX2
    obtain ⟨h0, h1, h2, h3⟩ := cells25_ HX2.out
    obtain ⟨y0, y1, y2, y3⟩ := cells25_ HZ2.out
    obtain ⟨q0, q1, q2, q3⟩ := f25a HZ2.out
    clear hT hla
    go_wp2
    have F := fin25 (S := T) (C := []) (A1 := none) (c1 := 0) (f := (wrap64 (f - 1))) (o := false) HZ2.out HE2.out (Kd.R_nil _ _ _ _ _) HB2.out HG.out
    rw [← HTT.out]
    refine bodyPost_ret (results_ct rfl _ _ gr 38 #[.slice B0 T.length e0, .slice none 0 0, .int .i64 (wrap64 (f - 1)), .bool false] (0, 0) _ rfl F.1 Try.underlying38 rfl (by kernel_rfl)) rfl ?_
    exact ⟨_, _, rfl, F.2.1, F.2.2.1, F.2.2.2⟩
set_option maxHeartbeats 8000000 in
theorem rFlush_neg (k : Nat) (A0 A1 : Option Addr) (c0 c1 : Nat) (S : List ByteArray) (C : List S74) (f : Int) (w : World) (hr0 : Kd.C Kd.string w A0 S.length S) (hc0 : S.length ≤ c0) (hr1 : Kd.C k74 w A1 C.length C) (hc1 : C.length ≤ c1) (h : spoorref03_Check.f k S C f false = some 0) (hcp : spoorref03_Copy.f S C f false = some (S, C, f, false)) (hf : ¬ f = 0) (hp : ¬ 0 < f) (hl : C.length < 5864062014805) (hin : ∀ i, (h : i < C.length) → 0 ≤ C[i].f0 ∧ C[i].f0 < (S.length : Int)) :
 Calls Try.prog 40 #[.agg #[.slice A0 S.length c0, .slice A1 C.length c1, .int .i64 f, .bool false]] w fun e w' => ∃ v0_ v1_ : Value, e = .returned (.tuple #[.agg #[v0_, v1_, .int .i64 f, .bool false], .int .i64 0]) ∧ Kd.R Kd.string 9 w' w.heap.size (fun _ => True) v0_ (applyF S C) ∧ Kd.R k74 74 w' w.heap.size (fun _ => True) v1_ ([] : List S74) ∧ Below w.heap.size w w' := by
 have R0 := Aside0.mk hr0
 have R1 := Aside0.mk hr1
 have HC0 := Aside0.mk hc0
 have HC1 := Aside0.mk hc1
 have HH := Aside0.mk h
 clear hr0 hc0 hr1 hc1 h
 have HCP := Aside0.mk hcp
 clear hcp
 have f1 : (f == 0) = false := beq_eq_false_iff_ne.mpr hf
 have f2 : decide (0 < f) = false := decide_eq_false hp
 have HIN := Aside0.mk hin
 clear hf hp hin
 go_enter Try.func40, Try.ntmps40
 go_upto_region 4 with (first
  | ((with_reducible refine gate_dst (N := 1) rfl ?_); refine box_event ?hg (N := 1) ?hd (cs := #[.slice A0 S.length c0, .slice A1 C.length c1, .int .i64 f, .bool false]) (t := 38) ?hr ?_; (case hd => rfl); (case hg => rfl); (case hr => first | (go_simp; done) | (go_simp; rfl)); intro gx hg w3 hbox hb3; obtain ⟨h0, h1, h2, h3⟩ := cells25_ hbox; have HX := Aside0.mk hbox; have HGX := Aside0.mk (show w.heap.size ≤ gx by rw [hg]; exact Nat.le_refl _); have HB := Aside0.mk (Below.trans (Below.refl _ _) hb3); clear hg hbox hb3)
  | ((with_reducible refine gate_dst (N := 2) rfl ?_); refine box_event ?hg (N := 2) ?hd (cs := #[.slice none 0 0, .slice none 0 0, .int .i64 0, .bool false]) (t := 38) ?hr ?_; (case hd => rfl); (case hg => rfl); (case hr => first | (go_simp; done) | (go_simp; rfl)); intro gr hg w4 hbox hb3; have HNE := Aside0.mk (show gx ≠ gr by rw [hg]; exact Nat.ne_of_lt (blk_lt HX.out)); have HG := Aside0.mk (by rw [hg]; exact HB.out.size : w.heap.size ≤ gr); have HZ := Aside0.mk hbox; have n1_ := Aside0.mk (blk_below HX.out hb3); have n0_ := Aside0.mk (below_step HB.out hb3); clear h0 h1 h2 h3 HX HB; have HX := n1_; have HB := n0_; obtain ⟨h0, h1, h2, h3⟩ := cells25_ HX.out; clear hg hbox hb3 n0_ n1_)
  | (go_at_call 34; refine (spoorref03_Check.calls k A0 c0 S A1 c1 C f false 0 _ (Kd.C_below R0.out HB.out) HC0.out (Kd.C_below R1.out HB.out) HC1.out HH.out).mono ?_; rintro e w5 ⟨rfl, hb5⟩; have n0_ := Aside0.mk (below_step HB.out hb5); have n1_ := Aside0.mk (blk_below HX.out hb5); have n2_ := Aside0.mk (blk_below HZ.out hb5); clear HB HX HZ hb5 h0 h1 h2 h3; have HB := n0_; have HX := n1_; have HZ := n2_; clear n0_ n1_ n2_; obtain ⟨h0, h1, h2, h3⟩ := cells25_ HX.out; obtain ⟨y0, y1, y2, y3⟩ := cells25_ HZ.out; obtain ⟨q0, q1, q2, q3⟩ := f25a HZ.out)
  | (go_at_call 16; refine (spoorref03_Copy.calls A0 c0 S A1 c1 C f false S C f false _ (Kd.C_below R0.out HB.out) HC0.out (Kd.C_below R1.out HB.out) HC1.out HCP.out).mono ?_; rintro e w6 ⟨v0, v1, rfl, hR0, hR1, hb6⟩; obtain ⟨B0, e0, rfl⟩ := Kd.R_slice hR0; obtain ⟨B1, e1, rfl⟩ := Kd.R_slice hR1; have HD2 := Aside0.mk (Kd.R_lower hR0 HB.out.size); have HD3 := Aside0.mk (Kd.R_lower hR1 HB.out.size); have n0_ := Aside0.mk (below_step HB.out hb6); have n1_ := Aside0.mk (blk_below HX.out hb6); have n2_ := Aside0.mk (blk_below HZ.out hb6); clear HB HX HZ hb6 h0 h1 h2 h3 y0 y1 y2 y3 q0 q1 q2 q3 hR0 hR1; have HB := n0_; have HX := n1_; have HZ := n2_; clear n0_ n1_ n2_; obtain ⟨h0, h1, h2, h3⟩ := cells25_ HX.out; obtain ⟨z0, z1, z2, z3⟩ := f25a HX.out))
 have F := fin25 (f := f) (o := false) HX.out HD2.out HD3.out HB.out HGX.out
 have Z := blk_far (p := ⟨gx, 3, none⟩) (blk_far (p := ⟨gx, 2, none⟩) (blk_far (p := ⟨gx, 1, none⟩) (blk_far (p := ⟨gx, 0, none⟩) HZ.out HNE.out.symm (.slice B0 S.length e0)) HNE.out.symm (.slice B1 C.length e1)) HNE.out.symm (.int .i64 f)) HNE.out.symm (.bool false)
 obtain ⟨W6, hW6⟩ : ∃ W, W = ((((w6.setCell ⟨gx, 0, none⟩ (.slice B0 S.length e0)).setCell ⟨gx, 1, none⟩ (.slice B1 C.length e1)).setCell ⟨gx, 2, none⟩ (.int .i64 f)).setCell ⟨gx, 3, none⟩ (.bool false)) := ⟨_, rfl⟩
 (try simp only [Act.put, List.setIfInBounds_toArray, List.set_cons_zero, List.set_cons_succ])
 rw [← hW6] at F Z ⊢
 obtain ⟨F1, F2, F3, F4⟩ := F
 clear HX HD2 HD3 HB HZ h0 h1 h2 h3 z0 z1 z2 z3 hW6
 have HX := Aside0.mk F1
 have HD2 := Aside0.mk F2
 have HD3 := Aside0.mk F3
 have HB := Aside0.mk F4
 have HZ := Aside0.mk Z
 obtain ⟨h0, h1, h2, h3⟩ := cells25_ HX.out
 obtain ⟨z0, z1, z2, z3⟩ := f25a HX.out
 obtain ⟨y0, y1, y2, y3⟩ := cells25_ HZ.out
 obtain ⟨q0, q1, q2, q3⟩ := f25a HZ.out
 clear F1 F2 F3 F4 Z
 go_wp2
 go_loopg [5, 30] C.length (fun gg _ s10 wr => ∃ kk : Nat, kk ≤ C.length ∧ C.length - kk ≤ gg ∧ s10 = .int .i64 kk ∧ Aside0 (wr.heap[gx]? = some (.cells #[.slice B0 S.length e0, .slice B1 C.length e1, .int .i64 f, .bool false] 38 (0, 0))) ∧ Aside0 (wr.heap[gr]? = some (.cells #[.slice none 0 0, .slice none 0 0, .int .i64 0, .bool false] 38 (0, 0))) ∧ Aside0 (Kd.R Kd.string 9 wr w.heap.size (fun _ => True) (.slice B0 S.length e0) (applyF S (C.take kk))) ∧ Aside0 (Kd.R k74 74 wr w.heap.size (fun _ => True) (.slice B1 C.length e1) C) ∧ Aside0 (Below w.heap.size w wr))
 case atStart => exact ⟨0, Nat.zero_le _, by omega, rfl, HX, HZ, HD2, HD3, HB⟩
 case round =>
  clear HX HZ HD2 HD3 HB h0 h1 h2 h3 y0 y1 y2 y3 z0 z1 z2 z3 q0 q1 q2 q3
  obtain ⟨kk, hkk, hg, rfl, HX, HZ, HD2, HD3, HB⟩ := hrel
  by_cases hlt : kk < C.length
  · have hltz : (kk : Int) < (C.length : Int) := by omega
    have hin := HIN.out kk hlt
    have ht := applyF_take S C kk hlt
    have hla := applyF_len (C.take kk) S
    obtain ⟨ad, rfl, hx0, hx1⟩ := at_T74 (Kd.R_reads' HD3.out).2.2 (kk : Int) (by omega) (by omega)
    have hrd : rd_T74 C (kk : Int) = C[kk] := rdOf_at z74 C kk hlt
    rw [hrd, Int.toNat_natCast] at hx0 hx1
    generalize C[kk] = p at hx0 hx1 hin ht
    obtain ⟨i0, i1⟩ := hin
    obtain ⟨gs, cs, es, hgs, hls, cells, hcs⟩ := Kd.R_form HD2.out (by rw [hla]; omega)
    injection es with ea en ec
    subst ea
    subst ec
    clear en
    have hcell := Kd.R_celln (⟨#[]⟩ : ByteArray) HD2.out p.f0 i0 i1
    have HP := Kd.R_putn HD2.out p.f0 p.f1
    rw [← ht] at HP
    have hgg : gs ≠ gx := blk_ne hcs HX.out (by decide)
    have hgr : gs ≠ gr := blk_ne hcs HZ.out (by decide)
    have HP' := Aside0.mk HP
    have hcell := Kd.R_celln (⟨#[]⟩ : ByteArray) (Kd.R_below HD2.out (below_alloc (Below.refl _ _) (.cells #[.int .i64 p.f0, .string p.f1] 74))) p.f0 i0 i1
    obtain ⟨hcell, hcellf⟩ := hcell
    obtain ⟨e0', e1', e2', e3'⟩ := cells25_ (blk_alloc HX.out (.cells #[.int .i64 p.f0, .string p.f1] 74))
    have n0 := (blk_cell (blk_new wr (.cells #[.int .i64 p.f0, .string p.f1] 74)) 0).trans rfl
    have n1 := (blk_cell (blk_new wr (.cells #[.int .i64 p.f0, .string p.f1] 74)) 1).trans rfl
    have HQ := Aside0.mk (Kd.R_set HD3.out (g := gs) (t := 9) hcs (by decide) p.f0.toNat (.string p.f1))
    have q0 : decide (0 ≤ p.f0) = true := decide_eq_true i0
    have q1 : decide (p.f0 < (S.length : Int)) = true := decide_eq_true i1
    clear HP ht hla
    go_wp2
    go_roundg (C.length - (kk + 1))
    case measure => omega
    case rel =>
     exact ⟨kk + 1, by omega, by omega, by go_num, ⟨blk_alloc (blk_far (p := ⟨gs, p.f0.toNat, none⟩) HX.out hgg.symm _) _⟩, ⟨blk_alloc (blk_far (p := ⟨gs, p.f0.toNat, none⟩) HZ.out hgr.symm _) _⟩, ⟨Kd.R_alloc HP'.out _⟩, ⟨Kd.R_alloc HQ.out _⟩, ⟨below_alloc (below_set HB.out hgs) _⟩⟩
  · have hltz : ¬ (kk : Int) < (C.length : Int) := by omega
    obtain rfl : kk = C.length := by omega
    have ht : applyF S (C.take C.length) = applyF S C := by rw [List.take_length]
    rw [ht] at HD2
    clear ht
    have hla := applyF_len C S
    have HX2 := Aside0.mk (blk_put HX.out 1 (.slice none 0 0) rfl)
    have HZ2 := Aside0.mk (blk_far (p := ⟨gx, 1, none⟩) HZ.out HNE.out.symm (.slice none 0 0))
    have HE2 := Aside0.mk (Kd.R_set HD2.out HX.out (by decide) 1 (.slice none 0 0))
    have HB2 := Aside0.mk (below_set (j := 1) (v := .slice none 0 0) HB.out HGX.out)
    obtain ⟨h0, h1, h2, h3⟩ := cells25_ HX.out
    obtain ⟨z0, z1, z2, z3⟩ := f25a HX.out
    go_upto_region 17 with (fail)
    obtain ⟨W7, hW7⟩ : ∃ W, W = (wr.setCell ⟨gx, 1, none⟩ (.slice none 0 0)) := ⟨_, rfl⟩
    (try simp only [Act.put, List.setIfInBounds_toArray, List.set_cons_zero, List.set_cons_succ])
    rw [← hW7] at HX2 HZ2 HE2 HB2 ⊢
    clear h0 h1 h2 h3 z0 z1 z2 z3 hW7 HX HZ HD2 HD3 HB
    obtain ⟨T, hT⟩ : ∃ T, T = applyF S C := ⟨_, rfl⟩
    rw [← hT] at HE2 hla
    have HTT := Aside0.mk hT
    rw [← hla] at HE2 HX2
    obtain ⟨h0, h1, h2, h3⟩ := cells25_ HX2.out
    obtain ⟨y0, y1, y2, y3⟩ := cells25_ HZ2.out
    obtain ⟨q0, q1, q2, q3⟩ := f25a HZ2.out
    clear hT hla
    go_wp2
    have F := fin25 (S := T) (C := []) (A1 := none) (c1 := 0) (f := f) (o := false) HZ2.out HE2.out (Kd.R_nil _ _ _ _ _) HB2.out HG.out
    rw [← HTT.out]
    refine bodyPost_ret (results_ct rfl _ _ gr 38 #[.slice B0 T.length e0, .slice none 0 0, .int .i64 f, .bool false] (0, 0) _ rfl F.1 Try.underlying38 rfl (by kernel_rfl)) rfl ?_
    exact ⟨_, _, rfl, F.2.1, F.2.2.1, F.2.2.2⟩
def spoorref03_Flush.f (k : Nat) (l0_0 : List ByteArray) (l0_1 : List (S74)) (a0_2 : Int) (a0_3 : Bool) : Option (List ByteArray × (List (S74)) × Int × Bool × Int) := (spoorref03_Check.f k l0_0 l0_1 a0_2 a0_3).bind fun t => if t = 0 then
 (if l0_0.length < 8796093022208 ∧ l0_1.length < 5864062014805 then
  (if a0_3 = true then some (l0_0, l0_1, a0_2, a0_3, 9) else if a0_2 = 0 then some (l0_0, l0_1, a0_2, true, 9)
   else if ∀ i, (h : i < l0_1.length) → 0 ≤ l0_1[i].f0 ∧ l0_1[i].f0 < (l0_0.length : Int) then some (applyF l0_0 l0_1, [], if 0 < a0_2 then wrap64 (a0_2 - 1) else a0_2, false, 0) else none) else none)
 else some ([], [], 0, false, 2)
theorem spoorref03_Flush.calls (k : Nat) (A0_0 : Option Addr) (c0_0 : Nat) (l0_0 : List ByteArray) (A0_1 : Option Addr) (c0_1 : Nat) (l0_1 : List (S74)) (a0_2 : Int) (a0_3 : Bool) (r1 : List ByteArray) (r2 : List (S74)) (r3 : Int) (r4 : Bool) (r5 : Int) (w : World) (hr0_0 : Kd.C Kd.string w A0_0 l0_0.length l0_0) (hc0_0 : l0_0.length ≤ c0_0) (hr0_1 : Kd.C k74 w A0_1 l0_1.length l0_1) (hc0_1 : l0_1.length ≤ c0_1) (h : spoorref03_Flush.f k l0_0 l0_1 a0_2 a0_3 = some (r1, r2, r3, r4, r5)) :
 Calls Try.prog 40 #[.agg #[.slice A0_0 l0_0.length c0_0, .slice A0_1 l0_1.length c0_1, .int .i64 a0_2, .bool a0_3]] w fun e w' => ∃ v0_ v1_ : Value, e = .returned (.tuple #[.agg #[v0_, v1_, .int .i64 r3, .bool r4], .int .i64 r5]) ∧ Kd.R Kd.string 9 w' w.heap.size (fun _ => True) v0_ r1 ∧ Kd.R k74 74 w' w.heap.size (fun _ => True) v1_ r2 ∧ Below w.heap.size w w' := by
 obtain ⟨t, ht, h⟩ := Option.bind_eq_some_iff.mp h
 by_cases c : t = 0
 · rw [if_pos c] at h
   subst c
   by_cases c1 : l0_0.length < 8796093022208 ∧ l0_1.length < 5864062014805
   · rw [if_pos c1] at h
     have hcp := copy_f l0_0 l0_1 a0_2 a0_3 c1.1 c1.2
     cases a0_3 with
     | true =>
      rw [if_pos rfl] at h
      cases h
      exact rFlush_off k A0_0 A0_1 c0_0 c0_1 l0_0 l0_1 _ w hr0_0 hc0_0 hr0_1 hc0_1 ht hcp
     | false =>
      rw [if_neg (by decide)] at h
      by_cases c2 : a0_2 = 0
      · rw [if_pos c2] at h
        cases h
        exact rFlush_blown k A0_0 A0_1 c0_0 c0_1 l0_0 l0_1 _ w hr0_0 hc0_0 hr0_1 hc0_1 ht hcp c2
      · rw [if_neg c2] at h
        by_cases c3 : ∀ i, (h : i < l0_1.length) → 0 ≤ l0_1[i].f0 ∧ l0_1[i].f0 < (l0_0.length : Int)
        · rw [if_pos c3] at h
          by_cases c4 : 0 < a0_2
          · rw [if_pos c4] at h
            cases h
            exact rFlush_pos k A0_0 A0_1 c0_0 c0_1 l0_0 l0_1 _ w hr0_0 hc0_0 hr0_1 hc0_1 ht hcp c2 c4 c1.2 c3
          · rw [if_neg c4] at h
            cases h
            exact rFlush_neg k A0_0 A0_1 c0_0 c0_1 l0_0 l0_1 _ w hr0_0 hc0_0 hr0_1 hc0_1 ht hcp c2 c4 c1.2 c3
        · rw [if_neg c3] at h
          exact absurd h (by simp)
   · rw [if_neg c1] at h
     exact absurd h (by simp)
 · rw [if_neg c] at h
   cases h
   exact rFlush_bad k A0_0 A0_1 c0_0 c0_1 l0_0 l0_1 a0_2 a0_3 w hr0_0 hc0_0 hr0_1 hc0_1 t ht c
end Go.Proofs.Ytjagplonneednaa.P
