-- kept, by a program of this session, of a text that the printer or this session wrote
import Derived.Test.YtjagplonneednaaZPx0
import Derived.Test.YtjagplonneednaaZPx30013
import Derived.Test.YtjagplonneednaaZPx1017
import Derived.Test.YtjagplonneednaaZPx30022
namespace Go.Proofs.Ytjagplonneednaa.P
open Go.RowKit Go.Proofs.YtjagplonneednaaW.PrintWords Go.Proofs.YtjagplonneednaaW.PrintLast Go.Proofs.YtjagplonneednaaW.PrintMore
attribute [local go_sem] max2_int min2_int max_two min_two max_three min_three max_four min_four
set_option linter.unusedVariables false
set_option linter.unusedSimpArgs false
def manifest_Save.j0 : Nat → Bool → List ByteArray → List (S74) → Int → Bool → Int → List (S56) → Option (List ByteArray × (List (S74)) × Int × Bool × Int)
 | 0, _, _, _, _, _, _, _ => none
 | k + 1, x42, x163000, x163001, x163002, x163003, x164000, x164001 => if x42 = true then (some (x163000, x163001, x163002, x163003, 1)) else ((manifest_written.f k x164000 x164001).bind fun t181 => ((disk_Write.f x163000 x163001 x163002 x163003 (wrap64 (Int.tmod x164000 2)) t181).bind fun bt182 => (if bt182.2.2.2.2 = 0 then ((disk_Flush.f bt182.1 bt182.2.1 bt182.2.2.1 bt182.2.2.2.1).bind fun bt191 => (some (bt191.1, bt191.2.1, bt191.2.2.1, bt191.2.2.2.1, bt191.2.2.2.2))) else (some (bt182.1, bt182.2.1, bt182.2.2.1, bt182.2.2.2.1, bt182.2.2.2.2)))))
def manifest_Save.f (k : Nat) (l0_0 : List ByteArray) (l0_1 : List (S74)) (a0_2 : Int) (a0_3 : Bool) (a1_0 : Int) (l1_1 : List (S56)) : Option (List ByteArray × (List (S74)) × Int × Bool × Int) := (disk_Own.f l0_0 l0_1 a0_2 a0_3).bind fun bt165 => (if bt165.2.2.2.2 = 0 then ((manifest_Check.f a1_0 l1_1).bind fun t174 => (if t174 = 0 then (if bt165.2.2.2.1 = true then (some (bt165.1, bt165.2.1, bt165.2.2.1, bt165.2.2.2.1, 9)) else ((manifest_Load.f k bt165.1 bt165.2.1 bt165.2.2.1 bt165.2.2.2.1).bind fun bt175 => (if bt175.2.2 = 1 then (manifest_Save.j0 k true bt165.1 bt165.2.1 bt165.2.2.1 bt165.2.2.2.1 a1_0 l1_1) else (manifest_Save.j0 k ((IntKind.u64.wrap (a1_0 - 1)) != bt175.1) bt165.1 bt165.2.1 bt165.2.2.1 bt165.2.2.2.1 a1_0 l1_1)))) else (some (bt165.1, bt165.2.1, bt165.2.2.1, bt165.2.2.2.1, t174)))) else (some (bt165.1, bt165.2.1, bt165.2.2.1, bt165.2.2.2.1, bt165.2.2.2.2)))
theorem manifest_Save.mono_l : ∀ k, (∀ y0 y1 y2 y3 y4 y5 y6, LeO (manifest_Save.j0 k y0 y1 y2 y3 y4 y5 y6) (manifest_Save.j0 (k + 1) y0 y1 y2 y3 y4 y5 y6))
 | 0 => fun _ _ _ _ _ _ _ r h => by simp [manifest_Save.j0] at h
 | k + 1 => by
  have ih0 := manifest_Save.mono_l k
  · intro y0 y1 y2 y3 y4 y5 y6
    unfold manifest_Save.j0
    repeat' first
    | (with_reducible exact ih0 _ _ _ _ _ _ _)
    | (with_reducible exact manifest_Load.mono _ _ _ _ _)
    | (with_reducible exact manifest_written.mono _ _ _)
    | (with_reducible exact LeO.refl _)
    | (with_reducible exact LeO.none _)
    | (with_reducible refine LeO.ite ?_ ?_)
    | (with_reducible refine LeO.bind ?_ (fun _ => ?_))
    | exact ih0 _ _ _ _ _ _ _
    | exact manifest_Load.mono _ _ _ _ _
    | exact manifest_written.mono _ _ _
    | exact LeO.none _
    | refine LeO.ite ?_ ?_
    | refine LeO.bind ?_ (fun _ => ?_)
theorem manifest_Save.mono : ∀ a0 a1 a2 a3 a4 a5 k, LeO (manifest_Save.f k a0 a1 a2 a3 a4 a5) (manifest_Save.f (k + 1) a0 a1 a2 a3 a4 a5) := by
 intro a0 a1 a2 a3 a4 a5 k
 have ih0 := manifest_Save.mono_l k
 unfold manifest_Save.f
 repeat' first
  | (with_reducible exact ih0 _ _ _ _ _ _ _)
  | (with_reducible exact manifest_Load.mono _ _ _ _ _)
  | (with_reducible exact manifest_written.mono _ _ _)
  | (with_reducible exact LeO.refl _)
  | (with_reducible exact LeO.none _)
  | (with_reducible refine LeO.ite ?_ ?_)
  | (with_reducible refine LeO.bind ?_ (fun _ => ?_))
  | exact ih0 _ _ _ _ _ _ _
  | exact manifest_Load.mono _ _ _ _ _
  | exact manifest_written.mono _ _ _
  | exact LeO.none _
  | refine LeO.ite ?_ ?_
  | refine LeO.bind ?_ (fun _ => ?_)
def manifest_Save.T12 : Bool × List (List Nat × List Nat) := (true, [([], []), ([], []), ([1], [1]), ([2], [2]), ([3], [3]), ([], []), ([5], [5]), ([0, 4, 6, 6], [0, 4, 6]), ([7], [7]), ([8], [8]), ([8], [8]), ([9, 7, 0, 1, 2, 3, 4, 5, 6, 7, 8, 9], [9]), ([10, 11, 0, 1, 2, 3, 4, 5, 6, 7, 8, 9, 10, 11], [10])])
def manifest_Save.B12 : List Nat := [0, 0, 2, 6, 14, 0, 32, 127, 255, 511, 511, 1023, 4095]
theorem manifest_Save.tab12 : rtab .any (opsOf Try.f19 12) = manifest_Save.T12 := by kernel_rfl
theorem manifest_Save.bits12 : waitsOk manifest_Save.T12.2 manifest_Save.B12 = true := by kernel_rfl
set_option maxHeartbeats 8000000 in
set_option maxRecDepth 100000 in
theorem manifest_Save.calls (k : Nat) (A0_0 : Option Addr) (c0_0 : Nat) (l0_0 : List ByteArray) (A0_1 : Option Addr) (c0_1 : Nat) (l0_1 : List (S74)) (a0_2 : Int) (a0_3 : Bool) (a1_0 : Int) (A1_1 : Option Addr) (c1_1 : Nat) (l1_1 : List (S56)) (r1 : List ByteArray) (r2 : List (S74)) (r3 : Int) (r4 : Bool) (r5 : Int) (w : World) (hr0_0 : Kd.C Kd.string w A0_0 l0_0.length l0_0) (hc0_0 : l0_0.length ≤ c0_0) (hr0_1 : Kd.C k74 w A0_1 l0_1.length l0_1) (hc0_1 : l0_1.length ≤ c0_1) (hr1_1 : Kd.C k56 w A1_1 l1_1.length l1_1) (hc1_1 : l1_1.length ≤ c1_1) (h : manifest_Save.f k l0_0 l0_1 a0_2 a0_3 a1_0 l1_1 = some (r1, r2, r3, r4, r5)) :
 Calls Try.prog 19 #[.agg #[.slice A0_0 l0_0.length c0_0, .slice A0_1 l0_1.length c0_1, .int .i64 a0_2, .bool a0_3], .agg #[.int .u64 a1_0, .slice A1_1 l1_1.length c1_1]] w fun e w' => ∃ v0_ v1_ : Value, e = .returned (.tuple #[.agg #[v0_, v1_, .int .i64 r3, .bool r4], .int .i64 r5]) ∧ Kd.R Kd.string 9 w' w.heap.size (fun _ => True) v0_ r1 ∧ Kd.R k74 74 w' w.heap.size (fun _ => True) v1_ r2 ∧ Below w.heap.size w w' := by
 have hu38 := Try.underlying38
 have hu25 := Try.underlying25
 have HR0_0 := Aside0.mk hr0_0
 have HC0_0 := Aside0.mk hc0_0
 clear hr0_0 hc0_0
 have HR0_1 := Aside0.mk hr0_1
 have HC0_1 := Aside0.mk hc0_1
 clear hr0_1 hc0_1
 have HR1_1 := Aside0.mk hr1_1
 have HC1_1 := Aside0.mk hc1_1
 clear hr1_1 hc1_1
 have HB := Aside0.mk (Below.refl w.heap.size w)
 have H : ((disk_Own.f l0_0 l0_1 a0_2 a0_3).bind fun bt165 => (if bt165.2.2.2.2 = 0 then ((manifest_Check.f a1_0 l1_1).bind fun t174 => (if t174 = 0 then (if bt165.2.2.2.1 = true then (some (bt165.1, bt165.2.1, bt165.2.2.1, bt165.2.2.2.1, 9)) else ((manifest_Load.f k bt165.1 bt165.2.1 bt165.2.2.1 bt165.2.2.2.1).bind fun bt175 => (if bt175.2.2 = 1 then (manifest_Save.j0 k true bt165.1 bt165.2.1 bt165.2.2.1 bt165.2.2.2.1 a1_0 l1_1) else (manifest_Save.j0 k ((IntKind.u64.wrap (a1_0 - 1)) != bt175.1) bt165.1 bt165.2.1 bt165.2.2.1 bt165.2.2.2.1 a1_0 l1_1)))) else (some (bt165.1, bt165.2.1, bt165.2.2.1, bt165.2.2.2.1, t174)))) else (some (bt165.1, bt165.2.1, bt165.2.2.1, bt165.2.2.2.1, bt165.2.2.2.2)))) = some (r1, r2, r3, r4, r5) := h
 clear h
 replace H := Option.bind_eq_some_iff.mp H
 obtain ⟨⟨t165, t168, t171, t172, t173⟩, A30, H⟩ := H
 replace H : (if t173 = 0 then ((manifest_Check.f a1_0 l1_1).bind fun t174 => (if t174 = 0 then (if t172 = true then (some (t165, t168, t171, t172, 9)) else ((manifest_Load.f k t165 t168 t171 t172).bind fun bt175 => (if bt175.2.2 = 1 then (manifest_Save.j0 k true t165 t168 t171 t172 a1_0 l1_1) else (manifest_Save.j0 k ((IntKind.u64.wrap (a1_0 - 1)) != bt175.1) t165 t168 t171 t172 a1_0 l1_1)))) else (some (t165, t168, t171, t172, t174)))) else (some (t165, t168, t171, t172, t173))) = some (r1, r2, r3, r4, r5) := H
 have A3 := Aside0.mk A30
 clear A30
 by_cases c4 : t173 = 0
 · rw [if_pos c4] at H
   have c4b0 : (t173 == 0) = true := beq_iff_eq.mpr c4
   have c4b1 : (t173 != 0) = false := bne_eq_false_iff_eq.mpr c4
   clear c4
   replace H := Option.bind_eq_some_iff.mp H
   obtain ⟨t174, A50, H⟩ := H
   replace H : (if t174 = 0 then (if t172 = true then (some (t165, t168, t171, t172, 9)) else ((manifest_Load.f k t165 t168 t171 t172).bind fun bt175 => (if bt175.2.2 = 1 then (manifest_Save.j0 k true t165 t168 t171 t172 a1_0 l1_1) else (manifest_Save.j0 k ((IntKind.u64.wrap (a1_0 - 1)) != bt175.1) t165 t168 t171 t172 a1_0 l1_1)))) else (some (t165, t168, t171, t172, t174))) = some (r1, r2, r3, r4, r5) := H
   have A5 := Aside0.mk A50
   clear A50
   by_cases c6 : t174 = 0
   · rw [if_pos c6] at H
     have c6b0 : (t174 == 0) = true := beq_iff_eq.mpr c6
     have c6b1 : (t174 != 0) = false := bne_eq_false_iff_eq.mpr c6
     clear c6
     by_cases c7 : t172 = true
     · subst c7
       have H1 : (some (t165, t168, t171, true, 9)) = some (r1, r2, r3, r4, r5) := by rw [if_pos rfl] at H; exact H
       clear H
       have H := H1
       clear H1
       simp only [Option.some.injEq, Prod.mk.injEq] at H
       obtain ⟨rfl, rfl, rfl, rfl, rfl⟩ := H
       go_enter Try.func19, Try.ntmps19
       go_wp2_with (first | ((with_reducible refine gate_dst (N := 2) rfl ?_); refine box_event ?hg (N := 2) ?hd (cs := #[.slice A0_0 l0_0.length c0_0, .slice A0_1 l0_1.length c0_1, .int .i64 a0_2, .bool a0_3]) (t := 38) ?hr ?_; (case hd => rfl); (case hg => rfl); (case hr => first | (go_simp; done) | (go_simp; rfl)); intro gb162 hg w8 hbox hb; have n0_ := Aside0.mk (below_step bel_ hb); have n1_ := Aside0.mk (hbox); have n2_ := Aside0.mk ((gE_ hg : w.heap.size ≤ gb162)); have n3_ := Aside0.mk ((gE_ hg : w.heap.size ≤ gb162)); clear HB; have HB := n0_; have BK162 := n1_; have GW162 := n2_; have GE162 := n3_; clear n0_ n1_ n2_ n3_; clear hb hbox hg) | ((with_reducible refine gate_dst (N := 3) rfl ?_); refine box_event ?hg (N := 3) ?hd (cs := #[.int .u64 a1_0, .slice A1_1 l1_1.length c1_1]) (t := 25) ?hr ?_; (case hd => rfl); (case hg => rfl); (case hr => first | (go_simp; done) | (go_simp; rfl)); intro gb163 hg w9 hbox hb; have n0_ := Aside0.mk (blk_below (blkU BK162.out) hb); have n1_ := Aside0.mk (below_step bel_ hb); have n2_ := Aside0.mk (hbox); have n3_ := Aside0.mk ((gE_ hg : w.heap.size ≤ gb163)); have n4_ := Aside0.mk ((gE_ hg : w.heap.size ≤ gb163)); have n5_ := Aside0.mk ((by rw [hg]; exact Nat.ne_of_lt (blk_lt (blkU BK162.out)) : gb162 ≠ gb163)); have n6_ := Aside0.mk ((by rw [hg]; exact Nat.ne_of_gt (blk_lt (blkU BK162.out)) : gb163 ≠ gb162)); clear BK162; clear HB; have BK162 := n0_; have HB := n1_; have BK163 := n2_; have GW163 := n3_; have GE163 := n4_; have NB162_163 := n5_; have NB163_162 := n6_; clear n0_ n1_ n2_ n3_ n4_ n5_ n6_; clear hb hbox hg) | ((with_reducible refine gate_dst (N := 4) rfl ?_); refine box_event ?hg (N := 4) ?hd (cs := #[.slice none 0 0, .slice none 0 0, .int .i64 0, .bool false]) (t := 38) ?hr ?_; (case hd => rfl); (case hg => rfl); (case hr => first | (go_simp; done) | (go_simp; rfl)); intro gb164 hg w10 hbox hb; have n0_ := Aside0.mk (blk_below (blkU BK162.out) hb); have n1_ := Aside0.mk (blk_below (blkU BK163.out) hb); have n2_ := Aside0.mk (below_step bel_ hb); have n3_ := Aside0.mk (hbox); have n4_ := Aside0.mk ((gE_ hg : w.heap.size ≤ gb164)); have n5_ := Aside0.mk ((gE_ hg : w.heap.size ≤ gb164)); have n6_ := Aside0.mk ((by rw [hg]; exact Nat.ne_of_lt (blk_lt (blkU BK162.out)) : gb162 ≠ gb164)); have n7_ := Aside0.mk ((by rw [hg]; exact Nat.ne_of_gt (blk_lt (blkU BK162.out)) : gb164 ≠ gb162)); have n8_ := Aside0.mk ((by rw [hg]; exact Nat.ne_of_lt (blk_lt (blkU BK163.out)) : gb163 ≠ gb164)); have n9_ := Aside0.mk ((by rw [hg]; exact Nat.ne_of_gt (blk_lt (blkU BK163.out)) : gb164 ≠ gb163)); clear BK162; clear BK163; clear HB; have BK162 := n0_; have BK163 := n1_; have HB := n2_; have BK164 := n3_; have GW164 := n4_; have GE164 := n5_; have NB162_164 := n6_; have NB164_162 := n7_; have NB163_164 := n8_; have NB164_163 := n9_; clear n0_ n1_ n2_ n3_ n4_ n5_ n6_ n7_ n8_ n9_; clear hb hbox hg; have hnb11 := NB162_163.out; have hnc11 := NB163_162.out; have hnb12 := NB162_164.out; have hnc12 := NB164_162.out; obtain ⟨hcz13_0, hcz13_1, hcz13_2, hcz13_3, hfz13_0, hfz13_1, hfz13_2, hfz13_3⟩ := cz4_ BK162.out) | ((with_reducible refine gate_callee (f := 36) rfl ?_); refine goesL_ (some 12) rfl rfl Try.func36 (by kernel_rfl) rfl #[.agg #[.slice A0_0 l0_0.length c0_0, .slice A0_1 l0_1.length c0_1, .int .i64 a0_2, .bool a0_3]] rfl args_ ?_; (with_reducible refine (disk_Own.calls _ _ l0_0 _ _ l0_1 a0_2 a0_3 t165 t168 t171 true t173 _ ?side1 ?side2 ?side3 ?side4 A3.out).mono ?_); (case side1 => exact CU (Kd.C_below HR0_0.out HB.out)); (case side2 => exact HC0_0.out); (case side3 => exact CU (Kd.C_below HR0_1.out HB.out)); (case side4 => exact HC0_1.out); rintro e w14 ⟨v166, v169, rfl, ho0, ho1, hb⟩; refine ⟨_, rfl, ?_⟩; have n0_ := Aside0.mk (Kd.R_lower ho0 (below_size bel_)); have n1_ := Aside0.mk (Kd.R_lower ho1 (below_size bel_)); have n2_ := Aside0.mk (blk_below (blkU BK162.out) hb); have n3_ := Aside0.mk (blk_below (blkU BK163.out) hb); have n4_ := Aside0.mk (blk_below (blkU BK164.out) hb); have n5_ := Aside0.mk (below_step bel_ hb); clear BK162; clear BK163; clear BK164; clear HB; have HO167 := n0_; have HO170 := n1_; have BK162 := n2_; have BK163 := n3_; have BK164 := n4_; have HB := n5_; clear n0_ n1_ n2_ n3_ n4_ n5_; (try clear hb); (try clear hb2); (try clear hk); (try clear hi); (try clear ho0); (try clear ho1); obtain ⟨Ao15, co15, eo15⟩ := Kd.R_slice HO167.out; subst eo15; obtain ⟨hcz16_0, hcz16_1, hcz16_2, hcz16_3, hfz16_0, hfz16_1, hfz16_2, hfz16_3⟩ := cz4_ BK162.out; obtain ⟨Ao17, co17, eo17⟩ := Kd.R_slice HO170.out; subst eo17; have hnb18 := NB163_164.out; have hnc18 := NB164_163.out; obtain ⟨hcz19_0, hcz19_1, hfz19_0, hfz19_1⟩ := cz2_ BK163.out) | ((with_reducible refine gate_callee (f := 13) rfl ?_); refine goesL_ (some 20) rfl rfl Try.func13 (by kernel_rfl) rfl #[.agg #[.int .u64 a1_0, .slice A1_1 l1_1.length c1_1]] rfl args_ ?_; (with_reducible refine (manifest_Check.calls a1_0 _ _ l1_1 t174 _ ?side1 ?side2 A5.out).mono ?_); (case side1 => exact Kd.C_below HR1_1.out bel_); (case side2 => exact HC1_1.out); rintro e w20 ⟨rfl, hb⟩; refine ⟨_, rfl, ?_⟩; have n0_ := Aside0.mk (Kd.R_below (by (try apply RU); exact (Kd.R_mono (Kd.R_far (p := ⟨gb162, 3, none⟩) (Kd.R_far (p := ⟨gb162, 2, none⟩) (Kd.R_far (p := ⟨gb162, 1, none⟩) (Kd.R_far (p := ⟨gb162, 0, none⟩) (Kd.R_types HO167.out BK162.out (by decide)) (fun _ hk => hk.2) (.slice Ao15 t165.length co15)) (fun _ hk => hk.2) (.slice Ao17 t168.length co17)) (fun _ hk => hk.2) (.int .i64 t171)) (fun _ hk => hk.2) (.bool true)) (fun _ h_ => h_.1))) hb); have n1_ := Aside0.mk (Kd.R_below (by (try apply RU); exact (Kd.R_mono (Kd.R_far (p := ⟨gb162, 3, none⟩) (Kd.R_far (p := ⟨gb162, 2, none⟩) (Kd.R_far (p := ⟨gb162, 1, none⟩) (Kd.R_far (p := ⟨gb162, 0, none⟩) (Kd.R_types HO170.out BK162.out (by decide)) (fun _ hk => hk.2) (.slice Ao15 t165.length co15)) (fun _ hk => hk.2) (.slice Ao17 t168.length co17)) (fun _ hk => hk.2) (.int .i64 t171)) (fun _ hk => hk.2) (.bool true)) (fun _ h_ => h_.1))) hb); have n2_ := Aside0.mk (blk_below (g := gb162) (o := .cells #[.slice Ao15 t165.length co15, .slice Ao17 t168.length co17, .int .i64 t171, .bool true] 38 (0, 0)) (by refine blkU ?_; refine blk_put (cs := #[.slice Ao15 t165.length co15, .slice Ao17 t168.length co17, .int .i64 t171, .bool a0_3]) ?_ 3 _ rfl; refine blkU ?_; refine blk_put (cs := #[.slice Ao15 t165.length co15, .slice Ao17 t168.length co17, .int .i64 a0_2, .bool a0_3]) ?_ 2 _ rfl; refine blkU ?_; refine blk_put (cs := #[.slice Ao15 t165.length co15, .slice A0_1 l0_1.length c0_1, .int .i64 a0_2, .bool a0_3]) ?_ 1 _ rfl; refine blkU ?_; refine blk_put (cs := #[.slice A0_0 l0_0.length c0_0, .slice A0_1 l0_1.length c0_1, .int .i64 a0_2, .bool a0_3]) ?_ 0 _ rfl; refine blkU ?_; exact BK162.out) hb); have n3_ := Aside0.mk (blk_below (g := gb163) (o := .cells #[.int .u64 a1_0, .slice A1_1 l1_1.length c1_1] 25 (0, 0)) (by refine blkU ?_; refine blk_far ?_ NB163_162.out _; refine blkU ?_; refine blk_far ?_ NB163_162.out _; refine blkU ?_; refine blk_far ?_ NB163_162.out _; refine blkU ?_; refine blk_far ?_ NB163_162.out _; refine blkU ?_; exact BK163.out) hb); have n4_ := Aside0.mk (blk_below (g := gb164) (o := .cells #[.slice none 0 0, .slice none 0 0, .int .i64 0, .bool false] 38 (0, 0)) (by refine blkU ?_; refine blk_far ?_ NB164_162.out _; refine blkU ?_; refine blk_far ?_ NB164_162.out _; refine blkU ?_; refine blk_far ?_ NB164_162.out _; refine blkU ?_; refine blk_far ?_ NB164_162.out _; refine blkU ?_; exact BK164.out) hb); have n5_ := Aside0.mk (below_step bel_ hb); clear HO167; clear HO170; clear BK162; clear BK163; clear BK164; clear HB; have HO167 := n0_; have HO170 := n1_; have BK162 := n2_; have BK163 := n3_; have BK164 := n4_; have HB := n5_; clear n0_ n1_ n2_ n3_ n4_ n5_; (try clear hb); (try clear hb2); (try clear hk); (try clear hi); obtain ⟨hcz21_0, hcz21_1, hcz21_2, hcz21_3, hfz21_0, hfz21_1, hfz21_2, hfz21_3⟩ := cz4_ BK162.out; obtain ⟨hcz22_0, hcz22_1, hcz22_2, hcz22_3, hfz22_0, hfz22_1, hfz22_2, hfz22_3⟩ := cz4_ BK164.out))
       refine bodyPost_ret (results_ct rfl _ _ gb164 38 #[.slice Ao15 t165.length co15, .slice Ao17 t168.length co17, .int .i64 t171, .bool true] (0, 0) _ rfl (by refine blkU ?_; refine blk_put (cs := #[.slice Ao15 t165.length co15, .slice Ao17 t168.length co17, .int .i64 t171, .bool false]) ?_ 3 _ rfl; refine blkU ?_; refine blk_put (cs := #[.slice Ao15 t165.length co15, .slice Ao17 t168.length co17, .int .i64 0, .bool false]) ?_ 2 _ rfl; refine blkU ?_; refine blk_put (cs := #[.slice Ao15 t165.length co15, .slice none 0 0, .int .i64 0, .bool false]) ?_ 1 _ rfl; refine blkU ?_; refine blk_put (cs := #[.slice none 0 0, .slice none 0 0, .int .i64 0, .bool false]) ?_ 0 _ rfl; refine blkU ?_; exact BK164.out) Try.underlying38 rfl (by kernel_rfl)) rfl ?_
       exact ⟨_, _, by first | rfl | (simp [errW_none, errW_some] <;> rfl) | (simp [*, errW_none, errW_some] <;> rfl), by (try apply RU); exact Kd.R_mono (Kd.R_far (p := ⟨gb164, 3, none⟩) (Kd.R_far (p := ⟨gb164, 2, none⟩) (Kd.R_far (p := ⟨gb164, 1, none⟩) (Kd.R_far (p := ⟨gb164, 0, none⟩) (Kd.R_types HO167.out BK164.out (by decide)) (fun _ hk => hk.2) (.slice Ao15 t165.length co15)) (fun _ hk => hk.2) (.slice Ao17 t168.length co17)) (fun _ hk => hk.2) (.int .i64 t171)) (fun _ hk => hk.2) (.bool true)) (fun _ hk => trivial), by (try apply RU); exact Kd.R_mono (Kd.R_far (p := ⟨gb164, 3, none⟩) (Kd.R_far (p := ⟨gb164, 2, none⟩) (Kd.R_far (p := ⟨gb164, 1, none⟩) (Kd.R_far (p := ⟨gb164, 0, none⟩) (Kd.R_types HO170.out BK164.out (by decide)) (fun _ hk => hk.2) (.slice Ao15 t165.length co15)) (fun _ hk => hk.2) (.slice Ao17 t168.length co17)) (fun _ hk => hk.2) (.int .i64 t171)) (fun _ hk => hk.2) (.bool true)) (fun _ hk => trivial), bel_⟩
     · replace c7 := Bool.eq_false_iff.mpr c7
       subst c7
       have H1 : ((manifest_Load.f k t165 t168 t171 false).bind fun bt175 => (if bt175.2.2 = 1 then (manifest_Save.j0 k true t165 t168 t171 false a1_0 l1_1) else (manifest_Save.j0 k ((IntKind.u64.wrap (a1_0 - 1)) != bt175.1) t165 t168 t171 false a1_0 l1_1))) = some (r1, r2, r3, r4, r5) := by rw [if_neg (show ¬ (false = true) by decide)] at H; exact H
       clear H
       have H := H1
       clear H1
       replace H := Option.bind_eq_some_iff.mp H
       obtain ⟨⟨t175, t176, t179⟩, A230, H⟩ := H
       replace H : (if t179 = 1 then (manifest_Save.j0 k true t165 t168 t171 false a1_0 l1_1) else (manifest_Save.j0 k ((IntKind.u64.wrap (a1_0 - 1)) != t175) t165 t168 t171 false a1_0 l1_1)) = some (r1, r2, r3, r4, r5) := H
       have A23 := Aside0.mk A230
       clear A230
       have HC24 := Aside0.mk H
       clear H
       go_enter Try.func19, Try.ntmps19
       go_upto_region 10 with (first | ((with_reducible refine gate_dst (N := 2) rfl ?_); refine box_event ?hg (N := 2) ?hd (cs := #[.slice A0_0 l0_0.length c0_0, .slice A0_1 l0_1.length c0_1, .int .i64 a0_2, .bool a0_3]) (t := 38) ?hr ?_; (case hd => rfl); (case hg => rfl); (case hr => first | (go_simp; done) | (go_simp; rfl)); intro gb162 hg w25 hbox hb; have n0_ := Aside0.mk (below_step bel_ hb); have n1_ := Aside0.mk (hbox); have n2_ := Aside0.mk ((gE_ hg : w.heap.size ≤ gb162)); have n3_ := Aside0.mk ((gE_ hg : w.heap.size ≤ gb162)); clear HB; have HB := n0_; have BK162 := n1_; have GW162 := n2_; have GE162 := n3_; clear n0_ n1_ n2_ n3_; clear hb hbox hg) | ((with_reducible refine gate_dst (N := 3) rfl ?_); refine box_event ?hg (N := 3) ?hd (cs := #[.int .u64 a1_0, .slice A1_1 l1_1.length c1_1]) (t := 25) ?hr ?_; (case hd => rfl); (case hg => rfl); (case hr => first | (go_simp; done) | (go_simp; rfl)); intro gb163 hg w26 hbox hb; have n0_ := Aside0.mk (blk_below (blkU BK162.out) hb); have n1_ := Aside0.mk (below_step bel_ hb); have n2_ := Aside0.mk (hbox); have n3_ := Aside0.mk ((gE_ hg : w.heap.size ≤ gb163)); have n4_ := Aside0.mk ((gE_ hg : w.heap.size ≤ gb163)); have n5_ := Aside0.mk ((by rw [hg]; exact Nat.ne_of_lt (blk_lt (blkU BK162.out)) : gb162 ≠ gb163)); have n6_ := Aside0.mk ((by rw [hg]; exact Nat.ne_of_gt (blk_lt (blkU BK162.out)) : gb163 ≠ gb162)); clear BK162; clear HB; have BK162 := n0_; have HB := n1_; have BK163 := n2_; have GW163 := n3_; have GE163 := n4_; have NB162_163 := n5_; have NB163_162 := n6_; clear n0_ n1_ n2_ n3_ n4_ n5_ n6_; clear hb hbox hg) | ((with_reducible refine gate_dst (N := 4) rfl ?_); refine box_event ?hg (N := 4) ?hd (cs := #[.slice none 0 0, .slice none 0 0, .int .i64 0, .bool false]) (t := 38) ?hr ?_; (case hd => rfl); (case hg => rfl); (case hr => first | (go_simp; done) | (go_simp; rfl)); intro gb164 hg w27 hbox hb; have n0_ := Aside0.mk (blk_below (blkU BK162.out) hb); have n1_ := Aside0.mk (blk_below (blkU BK163.out) hb); have n2_ := Aside0.mk (below_step bel_ hb); have n3_ := Aside0.mk (hbox); have n4_ := Aside0.mk ((gE_ hg : w.heap.size ≤ gb164)); have n5_ := Aside0.mk ((gE_ hg : w.heap.size ≤ gb164)); have n6_ := Aside0.mk ((by rw [hg]; exact Nat.ne_of_lt (blk_lt (blkU BK162.out)) : gb162 ≠ gb164)); have n7_ := Aside0.mk ((by rw [hg]; exact Nat.ne_of_gt (blk_lt (blkU BK162.out)) : gb164 ≠ gb162)); have n8_ := Aside0.mk ((by rw [hg]; exact Nat.ne_of_lt (blk_lt (blkU BK163.out)) : gb163 ≠ gb164)); have n9_ := Aside0.mk ((by rw [hg]; exact Nat.ne_of_gt (blk_lt (blkU BK163.out)) : gb164 ≠ gb163)); clear BK162; clear BK163; clear HB; have BK162 := n0_; have BK163 := n1_; have HB := n2_; have BK164 := n3_; have GW164 := n4_; have GE164 := n5_; have NB162_164 := n6_; have NB164_162 := n7_; have NB163_164 := n8_; have NB164_163 := n9_; clear n0_ n1_ n2_ n3_ n4_ n5_ n6_ n7_ n8_ n9_; clear hb hbox hg; have hnb28 := NB162_163.out; have hnc28 := NB163_162.out; have hnb29 := NB162_164.out; have hnc29 := NB164_162.out; obtain ⟨hcz30_0, hcz30_1, hcz30_2, hcz30_3, hfz30_0, hfz30_1, hfz30_2, hfz30_3⟩ := cz4_ BK162.out) | ((with_reducible refine gate_callee (f := 36) rfl ?_); refine goesL_ (some 12) rfl rfl Try.func36 (by kernel_rfl) rfl #[.agg #[.slice A0_0 l0_0.length c0_0, .slice A0_1 l0_1.length c0_1, .int .i64 a0_2, .bool a0_3]] rfl args_ ?_; (with_reducible refine (disk_Own.calls _ _ l0_0 _ _ l0_1 a0_2 a0_3 t165 t168 t171 false t173 _ ?side1 ?side2 ?side3 ?side4 A3.out).mono ?_); (case side1 => exact CU (Kd.C_below HR0_0.out HB.out)); (case side2 => exact HC0_0.out); (case side3 => exact CU (Kd.C_below HR0_1.out HB.out)); (case side4 => exact HC0_1.out); rintro e w31 ⟨v166, v169, rfl, ho0, ho1, hb⟩; refine ⟨_, rfl, ?_⟩; have n0_ := Aside0.mk (Kd.R_lower ho0 (below_size bel_)); have n1_ := Aside0.mk (Kd.R_lower ho1 (below_size bel_)); have n2_ := Aside0.mk (blk_below (blkU BK162.out) hb); have n3_ := Aside0.mk (blk_below (blkU BK163.out) hb); have n4_ := Aside0.mk (blk_below (blkU BK164.out) hb); have n5_ := Aside0.mk (below_step bel_ hb); clear BK162; clear BK163; clear BK164; clear HB; have HO167 := n0_; have HO170 := n1_; have BK162 := n2_; have BK163 := n3_; have BK164 := n4_; have HB := n5_; clear n0_ n1_ n2_ n3_ n4_ n5_; (try clear hb); (try clear hb2); (try clear hk); (try clear hi); (try clear ho0); (try clear ho1); obtain ⟨Ao32, co32, eo32⟩ := Kd.R_slice HO167.out; subst eo32; obtain ⟨hcz33_0, hcz33_1, hcz33_2, hcz33_3, hfz33_0, hfz33_1, hfz33_2, hfz33_3⟩ := cz4_ BK162.out; obtain ⟨Ao34, co34, eo34⟩ := Kd.R_slice HO170.out; subst eo34; have hnb35 := NB163_164.out; have hnc35 := NB164_163.out; obtain ⟨hcz36_0, hcz36_1, hfz36_0, hfz36_1⟩ := cz2_ BK163.out) | ((with_reducible refine gate_callee (f := 13) rfl ?_); refine goesL_ (some 20) rfl rfl Try.func13 (by kernel_rfl) rfl #[.agg #[.int .u64 a1_0, .slice A1_1 l1_1.length c1_1]] rfl args_ ?_; (with_reducible refine (manifest_Check.calls a1_0 _ _ l1_1 t174 _ ?side1 ?side2 A5.out).mono ?_); (case side1 => exact Kd.C_below HR1_1.out bel_); (case side2 => exact HC1_1.out); rintro e w37 ⟨rfl, hb⟩; refine ⟨_, rfl, ?_⟩; have n0_ := Aside0.mk (Kd.R_below (by (try apply RU); exact (Kd.R_mono (Kd.R_far (p := ⟨gb162, 3, none⟩) (Kd.R_far (p := ⟨gb162, 2, none⟩) (Kd.R_far (p := ⟨gb162, 1, none⟩) (Kd.R_far (p := ⟨gb162, 0, none⟩) (Kd.R_types HO167.out BK162.out (by decide)) (fun _ hk => hk.2) (.slice Ao32 t165.length co32)) (fun _ hk => hk.2) (.slice Ao34 t168.length co34)) (fun _ hk => hk.2) (.int .i64 t171)) (fun _ hk => hk.2) (.bool false)) (fun _ h_ => h_.1))) hb); have n1_ := Aside0.mk (Kd.R_below (by (try apply RU); exact (Kd.R_mono (Kd.R_far (p := ⟨gb162, 3, none⟩) (Kd.R_far (p := ⟨gb162, 2, none⟩) (Kd.R_far (p := ⟨gb162, 1, none⟩) (Kd.R_far (p := ⟨gb162, 0, none⟩) (Kd.R_types HO170.out BK162.out (by decide)) (fun _ hk => hk.2) (.slice Ao32 t165.length co32)) (fun _ hk => hk.2) (.slice Ao34 t168.length co34)) (fun _ hk => hk.2) (.int .i64 t171)) (fun _ hk => hk.2) (.bool false)) (fun _ h_ => h_.1))) hb); have n2_ := Aside0.mk (blk_below (g := gb162) (o := .cells #[.slice Ao32 t165.length co32, .slice Ao34 t168.length co34, .int .i64 t171, .bool false] 38 (0, 0)) (by refine blkU ?_; refine blk_put (cs := #[.slice Ao32 t165.length co32, .slice Ao34 t168.length co34, .int .i64 t171, .bool a0_3]) ?_ 3 _ rfl; refine blkU ?_; refine blk_put (cs := #[.slice Ao32 t165.length co32, .slice Ao34 t168.length co34, .int .i64 a0_2, .bool a0_3]) ?_ 2 _ rfl; refine blkU ?_; refine blk_put (cs := #[.slice Ao32 t165.length co32, .slice A0_1 l0_1.length c0_1, .int .i64 a0_2, .bool a0_3]) ?_ 1 _ rfl; refine blkU ?_; refine blk_put (cs := #[.slice A0_0 l0_0.length c0_0, .slice A0_1 l0_1.length c0_1, .int .i64 a0_2, .bool a0_3]) ?_ 0 _ rfl; refine blkU ?_; exact BK162.out) hb); have n3_ := Aside0.mk (blk_below (g := gb163) (o := .cells #[.int .u64 a1_0, .slice A1_1 l1_1.length c1_1] 25 (0, 0)) (by refine blkU ?_; refine blk_far ?_ NB163_162.out _; refine blkU ?_; refine blk_far ?_ NB163_162.out _; refine blkU ?_; refine blk_far ?_ NB163_162.out _; refine blkU ?_; refine blk_far ?_ NB163_162.out _; refine blkU ?_; exact BK163.out) hb); have n4_ := Aside0.mk (blk_below (g := gb164) (o := .cells #[.slice none 0 0, .slice none 0 0, .int .i64 0, .bool false] 38 (0, 0)) (by refine blkU ?_; refine blk_far ?_ NB164_162.out _; refine blkU ?_; refine blk_far ?_ NB164_162.out _; refine blkU ?_; refine blk_far ?_ NB164_162.out _; refine blkU ?_; refine blk_far ?_ NB164_162.out _; refine blkU ?_; exact BK164.out) hb); have n5_ := Aside0.mk (below_step bel_ hb); clear HO167; clear HO170; clear BK162; clear BK163; clear BK164; clear HB; have HO167 := n0_; have HO170 := n1_; have BK162 := n2_; have BK163 := n3_; have BK164 := n4_; have HB := n5_; clear n0_ n1_ n2_ n3_ n4_ n5_; (try clear hb); (try clear hb2); (try clear hk); (try clear hi); obtain ⟨hcz38_0, hcz38_1, hcz38_2, hcz38_3, hfz38_0, hfz38_1, hfz38_2, hfz38_3⟩ := cz4_ BK162.out) | ((with_reducible refine gate_callee (f := 17) rfl ?_); refine goesL_ (some 30) rfl rfl Try.func17 (by kernel_rfl) rfl #[.agg #[.slice Ao32 t165.length co32, .slice Ao34 t168.length co34, .int .i64 t171, .bool false]] rfl args_ ?_; (with_reducible refine (manifest_Load.calls k _ _ t165 _ _ t168 t171 false t175 t176 t179 _ ?side1 ?side2 ?side3 ?side4 A23.out).mono ?_); (case side1 => repeat (first | exact (Kd.R_reads' HO167.out).2.2 | (with_reducible refine Kd.C_alloc ?_ _) | (with_reducible refine Kd.C_drewN ?_ _) | (with_reducible refine Kd.C_drew ?_))); (case side2 => exact (Kd.R_reads' HO167.out).2.1); (case side3 => repeat (first | exact (Kd.R_reads' HO170.out).2.2 | (with_reducible refine Kd.C_alloc ?_ _) | (with_reducible refine Kd.C_drewN ?_ _) | (with_reducible refine Kd.C_drew ?_))); (case side4 => exact (Kd.R_reads' HO170.out).2.1); rintro e w39 ⟨v177, rfl, ho0, hb⟩; refine ⟨_, rfl, ?_⟩; have n0_ := Aside0.mk (Kd.R_below (by (try apply RU); exact HO167.out) hb); have n1_ := Aside0.mk (Kd.R_below (by (try apply RU); exact HO170.out) hb); have n2_ := Aside0.mk (Kd.R_lower ho0 (below_size bel_)); have n3_ := Aside0.mk (blk_below (blkU BK162.out) hb); have n4_ := Aside0.mk (blk_below (blkU BK163.out) hb); have n5_ := Aside0.mk (blk_below (blkU BK164.out) hb); have n6_ := Aside0.mk (below_step bel_ hb); clear HO167; clear HO170; clear BK162; clear BK163; clear BK164; clear HB; have HO167 := n0_; have HO170 := n1_; have HO178 := n2_; have BK162 := n3_; have BK163 := n4_; have BK164 := n5_; have HB := n6_; clear n0_ n1_ n2_ n3_ n4_ n5_ n6_; (try clear hb); (try clear hb2); (try clear hk); (try clear hi); (try clear ho0)) | ((with_reducible refine gate_dst (N := 8) rfl ?_); refine box_event ?hg (N := 8) ?hd (cs := #[.int .u64 0, .slice none 0 0]) (t := 25) ?hr ?_; (case hd => rfl); (case hg => rfl); (case hr => first | (go_simp; done) | (go_simp; rfl)); intro gb180 hg w40 hbox hb; have n0_ := Aside0.mk (Kd.R_below (by (try apply RU); exact HO167.out) hb); have n1_ := Aside0.mk (Kd.R_below (by (try apply RU); exact HO170.out) hb); have n2_ := Aside0.mk (Kd.R_below (by (try apply RU); exact HO178.out) hb); have n3_ := Aside0.mk (blk_below (blkU BK162.out) hb); have n4_ := Aside0.mk (blk_below (blkU BK163.out) hb); have n5_ := Aside0.mk (blk_below (blkU BK164.out) hb); have n6_ := Aside0.mk (below_step bel_ hb); have n7_ := Aside0.mk (hbox); have n8_ := Aside0.mk ((gE_ hg : w.heap.size ≤ gb180)); have n9_ := Aside0.mk ((gE_ hg : w.heap.size ≤ gb180)); have n10_ := Aside0.mk ((by rw [hg]; exact Nat.ne_of_lt (blk_lt (blkU BK162.out)) : gb162 ≠ gb180)); have n11_ := Aside0.mk ((by rw [hg]; exact Nat.ne_of_gt (blk_lt (blkU BK162.out)) : gb180 ≠ gb162)); have n12_ := Aside0.mk ((by rw [hg]; exact Nat.ne_of_lt (blk_lt (blkU BK163.out)) : gb163 ≠ gb180)); have n13_ := Aside0.mk ((by rw [hg]; exact Nat.ne_of_gt (blk_lt (blkU BK163.out)) : gb180 ≠ gb163)); have n14_ := Aside0.mk ((by rw [hg]; exact Nat.ne_of_lt (blk_lt (blkU BK164.out)) : gb164 ≠ gb180)); have n15_ := Aside0.mk ((by rw [hg]; exact Nat.ne_of_gt (blk_lt (blkU BK164.out)) : gb180 ≠ gb164)); clear HO167; clear HO170; clear HO178; clear BK162; clear BK163; clear BK164; clear HB; have HO167 := n0_; have HO170 := n1_; have HO178 := n2_; have BK162 := n3_; have BK163 := n4_; have BK164 := n5_; have HB := n6_; have BK180 := n7_; have GW180 := n8_; have GE180 := n9_; have NB162_180 := n10_; have NB180_162 := n11_; have NB163_180 := n12_; have NB180_163 := n13_; have NB164_180 := n14_; have NB180_164 := n15_; clear n0_ n1_ n2_ n3_ n4_ n5_ n6_ n7_ n8_ n9_ n10_ n11_ n12_ n13_ n14_ n15_; clear hb hbox hg; have hnb41 := NB180_162.out; have hnc41 := NB162_180.out; have hnb42 := NB180_163.out; have hnc42 := NB163_180.out; have hnb43 := NB180_164.out; have hnc43 := NB164_180.out; obtain ⟨hcz44_0, hcz44_1, hfz44_0, hfz44_1⟩ := cz2_ BK180.out; obtain ⟨Ao45, co45, eo45⟩ := Kd.R_slice HO178.out; subst eo45))
       (try simp only [Act.put, List.setIfInBounds_toArray, List.set_cons_zero, List.set_cons_succ])
       go_cut [42] (fun v42 wc => ∃ (kq : Nat) (x42_23 : Bool), v42 = .bool x42_23 ∧ Aside0 (manifest_Save.j0 kq x42_23 t165 t168 t171 false a1_0 l1_1 = some (r1, r2, r3, r4, r5)) ∧ Aside0 (kq ≤ k) ∧ Aside0 (Kd.R Kd.string 9 wc w.heap.size (fun _ => True) (.slice Ao32 t165.length co32) t165) ∧ Aside0 (Kd.R k74 74 wc w.heap.size (fun _ => True) (.slice Ao34 t168.length co34) t168) ∧ Aside0 (Kd.R k56 56 wc w.heap.size (fun _ => True) (.slice Ao45 t176.length co45) t176) ∧ Aside0 (wc.heap[gb162]? = some (.cells #[(.slice Ao32 t165.length co32), (.slice Ao34 t168.length co34), .int .i64 t171, .bool false] 38 (0, 0))) ∧ Aside0 (wc.heap[gb163]? = some (.cells #[.int .u64 a1_0, (.slice A1_1 l1_1.length c1_1)] 25 (0, 0))) ∧ Aside0 (wc.heap[gb164]? = some (.cells #[(.slice none 0 0), (.slice none 0 0), .int .i64 0, .bool false] 38 (0, 0))) ∧ Aside0 (wc.heap[gb180]? = some (.cells #[.int .u64 t175, (.slice Ao45 t176.length co45)] 25 (0, 0))) ∧ Aside0 (Below w.heap.size w wc))
       case first =>
        have H := HC24.out
        clear HC24
        by_cases c46 : t179 = 1
        · rw [if_pos c46] at H
          have c46b0 : (t179 == 1) = true := beq_iff_eq.mpr c46
          have c46b1 : (t179 != 1) = false := bne_eq_false_iff_eq.mpr c46
          clear c46
          (first | rw [c46b0] | (simp only [i64_w, i32_w]; rw [c46b0]) | skip)
          have H' := Aside0.mk H
          clear H
          go_wp2
          go_meet
          case rel => exact ⟨_, (true), st_, H', ⟨by first | omega | exact Nat.le_refl _⟩, ⟨by (try apply RU); exact Kd.R_mono (Kd.R_far (p := ⟨gb180, 1, none⟩) (Kd.R_far (p := ⟨gb180, 0, none⟩) (Kd.R_types HO167.out BK180.out (by decide)) (fun _ hk => hk.2) (.int .u64 t175)) (fun _ hk => hk.2) (.slice Ao45 t176.length co45)) (fun _ hk => trivial)⟩, ⟨by (try apply RU); exact Kd.R_mono (Kd.R_far (p := ⟨gb180, 1, none⟩) (Kd.R_far (p := ⟨gb180, 0, none⟩) (Kd.R_types HO170.out BK180.out (by decide)) (fun _ hk => hk.2) (.int .u64 t175)) (fun _ hk => hk.2) (.slice Ao45 t176.length co45)) (fun _ hk => trivial)⟩, ⟨by (try apply RU); exact Kd.R_mono (Kd.R_far (p := ⟨gb180, 1, none⟩) (Kd.R_far (p := ⟨gb180, 0, none⟩) (Kd.R_types HO178.out BK180.out (by decide)) (fun _ hk => hk.2) (.int .u64 t175)) (fun _ hk => hk.2) (.slice Ao45 t176.length co45)) (fun _ hk => trivial)⟩, ⟨by refine blkU ?_; refine blk_far ?_ NB162_180.out _; refine blkU ?_; refine blk_far ?_ NB162_180.out _; refine blkU ?_; exact BK162.out⟩, ⟨by refine blkU ?_; refine blk_far ?_ NB163_180.out _; refine blkU ?_; refine blk_far ?_ NB163_180.out _; refine blkU ?_; exact BK163.out⟩, ⟨by refine blkU ?_; refine blk_far ?_ NB164_180.out _; refine blkU ?_; refine blk_far ?_ NB164_180.out _; refine blkU ?_; exact BK164.out⟩, ⟨by refine blkU ?_; refine blk_put (cs := #[.int .u64 t175, .slice none 0 0]) ?_ 1 _ rfl; refine blkU ?_; refine blk_put (cs := #[.int .u64 0, .slice none 0 0]) ?_ 0 _ rfl; refine blkU ?_; exact BK180.out⟩, ⟨bel_⟩⟩
        · rw [if_neg c46] at H
          have c46b0 : (t179 == 1) = false := beq_eq_false_iff_ne.mpr c46
          have c46b1 : (t179 != 1) = true := bne_iff_ne.mpr c46
          (first | rw [c46b0] | (simp only [i64_w, i32_w]; rw [c46b0]) | skip)
          have H' := Aside0.mk H
          clear H
          have hnb47 := NB163_162.out
          have hnc47 := NB162_163.out
          have hnb48 := NB163_164.out
          have hnc48 := NB164_163.out
          have hnb49 := NB163_180.out
          have hnc49 := NB180_163.out
          obtain ⟨hcz50_0, hcz50_1, hfz50_0, hfz50_1⟩ := cz2_ BK163.out
          have hnb51 := NB180_162.out
          have hnc51 := NB162_180.out
          have hnb52 := NB180_164.out
          have hnc52 := NB164_180.out
          obtain ⟨hcz53_0, hcz53_1, hfz53_0, hfz53_1⟩ := cz2_ BK180.out
          go_wp2
          go_meet
          case rel => exact ⟨_, (((IntKind.u64.wrap (a1_0 - 1)) != t175)), st_, H', ⟨by first | omega | exact Nat.le_refl _⟩, ⟨by (try apply RU); exact Kd.R_mono (Kd.R_far (p := ⟨gb180, 1, none⟩) (Kd.R_far (p := ⟨gb180, 0, none⟩) (Kd.R_types HO167.out BK180.out (by decide)) (fun _ hk => hk.2) (.int .u64 t175)) (fun _ hk => hk.2) (.slice Ao45 t176.length co45)) (fun _ hk => trivial)⟩, ⟨by (try apply RU); exact Kd.R_mono (Kd.R_far (p := ⟨gb180, 1, none⟩) (Kd.R_far (p := ⟨gb180, 0, none⟩) (Kd.R_types HO170.out BK180.out (by decide)) (fun _ hk => hk.2) (.int .u64 t175)) (fun _ hk => hk.2) (.slice Ao45 t176.length co45)) (fun _ hk => trivial)⟩, ⟨by (try apply RU); exact Kd.R_mono (Kd.R_far (p := ⟨gb180, 1, none⟩) (Kd.R_far (p := ⟨gb180, 0, none⟩) (Kd.R_types HO178.out BK180.out (by decide)) (fun _ hk => hk.2) (.int .u64 t175)) (fun _ hk => hk.2) (.slice Ao45 t176.length co45)) (fun _ hk => trivial)⟩, ⟨by refine blkU ?_; refine blk_far ?_ NB162_180.out _; refine blkU ?_; refine blk_far ?_ NB162_180.out _; refine blkU ?_; exact BK162.out⟩, ⟨by refine blkU ?_; refine blk_far ?_ NB163_180.out _; refine blkU ?_; refine blk_far ?_ NB163_180.out _; refine blkU ?_; exact BK163.out⟩, ⟨by refine blkU ?_; refine blk_far ?_ NB164_180.out _; refine blkU ?_; refine blk_far ?_ NB164_180.out _; refine blkU ?_; exact BK164.out⟩, ⟨by refine blkU ?_; refine blk_put (cs := #[.int .u64 t175, .slice none 0 0]) ?_ 1 _ rfl; refine blkU ?_; refine blk_put (cs := #[.int .u64 0, .slice none 0 0]) ?_ 0 _ rfl; refine blkU ?_; exact BK180.out⟩, ⟨bel_⟩⟩
       case rest =>
        clear HC24; try clear c1; try clear c2; try clear p2; try clear c3; try clear c4; try clear c4b0; try clear c4b1; try clear c5; try clear c6; try clear c6b0; try clear c6b1; try clear c7; try clear c11; try clear c12; try clear c13; try clear c17; try clear c18; try clear c19; try clear c28; try clear c29; try clear c35; try clear c36; try clear c41; try clear c42; try clear c43; try clear c46; try clear c46b0; try clear c46b1; try clear c47; try clear c48; try clear c49; try clear c51; try clear c52; try clear hcz13_0; try clear hcz13_1; try clear hcz13_2; try clear hcz13_3; try clear hcz16_0; try clear hcz16_1; try clear hcz16_2; try clear hcz16_3; try clear hcz19_0; try clear hcz19_1; try clear hcz21_0; try clear hcz21_1; try clear hcz21_2; try clear hcz21_3; try clear hcz22_0; try clear hcz22_1; try clear hcz22_2; try clear hcz22_3; try clear hcz30_0; try clear hcz30_1; try clear hcz30_2; try clear hcz30_3; try clear hcz33_0; try clear hcz33_1; try clear hcz33_2; try clear hcz33_3; try clear hcz36_0; try clear hcz36_1; try clear hcz38_0; try clear hcz38_1; try clear hcz38_2; try clear hcz38_3; try clear hcz44_0; try clear hcz44_1; try clear hcz50_0; try clear hcz50_1; try clear hcz53_0; try clear hcz53_1; try clear hfz13_0; try clear hfz13_1; try clear hfz13_2; try clear hfz13_3; try clear hfz16_0; try clear hfz16_1; try clear hfz16_2; try clear hfz16_3; try clear hfz19_0; try clear hfz19_1; try clear hfz21_0; try clear hfz21_1; try clear hfz21_2; try clear hfz21_3; try clear hfz22_0; try clear hfz22_1; try clear hfz22_2; try clear hfz22_3; try clear hfz30_0; try clear hfz30_1; try clear hfz30_2; try clear hfz30_3; try clear hfz33_0; try clear hfz33_1; try clear hfz33_2; try clear hfz33_3; try clear hfz36_0; try clear hfz36_1; try clear hfz38_0; try clear hfz38_1; try clear hfz38_2; try clear hfz38_3; try clear hfz44_0; try clear hfz44_1; try clear hfz50_0; try clear hfz50_1; try clear hfz53_0; try clear hfz53_1
        obtain ⟨kq, x42_23, rfl, HA, HJ23, HO_163000, HO_163001, HO_181001, BK162, BK163, BK164, BK180, HB⟩ := hcut
        cases kq with
        | zero => exact absurd HA.out (by simp [manifest_Save.j0])
        | succ kj23 =>
         have H := HA.out
         clear HA
         simp only [manifest_Save.j0] at H
         by_cases c54 : x42_23 = true
         · subst c54
           have H1 : (some (t165, t168, t171, false, 1)) = some (r1, r2, r3, r4, r5) := by rw [if_pos rfl] at H; exact H
           clear H
           have H := H1
           clear H1
           simp only [Option.some.injEq, Prod.mk.injEq] at H
           obtain ⟨rfl, rfl, rfl, rfl, rfl⟩ := H
           have hnb55 := NB162_163.out
           have hnc55 := NB163_162.out
           have hnb56 := NB162_164.out
           have hnc56 := NB164_162.out
           have hnb57 := NB162_180.out
           have hnc57 := NB180_162.out
           obtain ⟨hcz58_0, hcz58_1, hcz58_2, hcz58_3, hfz58_0, hfz58_1, hfz58_2, hfz58_3⟩ := cz4_ BK162.out
           have hnb59 := NB164_163.out
           have hnc59 := NB163_164.out
           have hnb60 := NB164_180.out
           have hnc60 := NB180_164.out
           obtain ⟨hcz61_0, hcz61_1, hcz61_2, hcz61_3, hfz61_0, hfz61_1, hfz61_2, hfz61_3⟩ := cz4_ BK164.out
           go_wp2
           refine bodyPost_ret (results_ct rfl _ _ gb164 38 #[.slice Ao32 t165.length co32, .slice Ao34 t168.length co34, .int .i64 t171, .bool false] (0, 0) _ rfl (by refine blkU ?_; refine blk_put (cs := #[.slice Ao32 t165.length co32, .slice Ao34 t168.length co34, .int .i64 t171, .bool false]) ?_ 3 _ rfl; refine blkU ?_; refine blk_put (cs := #[.slice Ao32 t165.length co32, .slice Ao34 t168.length co34, .int .i64 0, .bool false]) ?_ 2 _ rfl; refine blkU ?_; refine blk_put (cs := #[.slice Ao32 t165.length co32, .slice none 0 0, .int .i64 0, .bool false]) ?_ 1 _ rfl; refine blkU ?_; refine blk_put (cs := #[.slice none 0 0, .slice none 0 0, .int .i64 0, .bool false]) ?_ 0 _ rfl; refine blkU ?_; exact BK164.out) Try.underlying38 rfl (by kernel_rfl)) rfl ?_
           exact ⟨_, _, by first | rfl | (simp [errW_none, errW_some] <;> rfl) | (simp [*, errW_none, errW_some] <;> rfl), by (try apply RU); exact Kd.R_mono (Kd.R_far (p := ⟨gb164, 3, none⟩) (Kd.R_far (p := ⟨gb164, 2, none⟩) (Kd.R_far (p := ⟨gb164, 1, none⟩) (Kd.R_far (p := ⟨gb164, 0, none⟩) (Kd.R_types HO_163000.out BK164.out (by decide)) (fun _ hk => hk.2) (.slice Ao32 t165.length co32)) (fun _ hk => hk.2) (.slice Ao34 t168.length co34)) (fun _ hk => hk.2) (.int .i64 t171)) (fun _ hk => hk.2) (.bool false)) (fun _ hk => trivial), by (try apply RU); exact Kd.R_mono (Kd.R_far (p := ⟨gb164, 3, none⟩) (Kd.R_far (p := ⟨gb164, 2, none⟩) (Kd.R_far (p := ⟨gb164, 1, none⟩) (Kd.R_far (p := ⟨gb164, 0, none⟩) (Kd.R_types HO_163001.out BK164.out (by decide)) (fun _ hk => hk.2) (.slice Ao32 t165.length co32)) (fun _ hk => hk.2) (.slice Ao34 t168.length co34)) (fun _ hk => hk.2) (.int .i64 t171)) (fun _ hk => hk.2) (.bool false)) (fun _ hk => trivial), bel_⟩
         · replace c54 := Bool.eq_false_iff.mpr c54
           subst c54
           have H1 : ((manifest_written.f kj23 a1_0 l1_1).bind fun t181 => ((disk_Write.f t165 t168 t171 false (wrap64 (Int.tmod a1_0 2)) t181).bind fun bt182 => (if bt182.2.2.2.2 = 0 then ((disk_Flush.f bt182.1 bt182.2.1 bt182.2.2.1 bt182.2.2.2.1).bind fun bt191 => (some (bt191.1, bt191.2.1, bt191.2.2.1, bt191.2.2.2.1, bt191.2.2.2.2))) else (some (bt182.1, bt182.2.1, bt182.2.2.1, bt182.2.2.2.1, bt182.2.2.2.2))))) = some (r1, r2, r3, r4, r5) := by rw [if_neg (show ¬ (false = true) by decide)] at H; exact H
           clear H
           have H := H1
           clear H1
           replace H := Option.bind_eq_some_iff.mp H
           obtain ⟨t181, A620, H⟩ := H
           replace H : ((disk_Write.f t165 t168 t171 false (wrap64 (Int.tmod a1_0 2)) t181).bind fun bt182 => (if bt182.2.2.2.2 = 0 then ((disk_Flush.f bt182.1 bt182.2.1 bt182.2.2.1 bt182.2.2.2.1).bind fun bt191 => (some (bt191.1, bt191.2.1, bt191.2.2.1, bt191.2.2.2.1, bt191.2.2.2.2))) else (some (bt182.1, bt182.2.1, bt182.2.2.1, bt182.2.2.2.1, bt182.2.2.2.2)))) = some (r1, r2, r3, r4, r5) := H
           have A62 := Aside0.mk A620
           clear A620
           replace H := Option.bind_eq_some_iff.mp H
           obtain ⟨⟨t182, t185, t188, t189, t190⟩, A630, H⟩ := H
           replace H : (if t190 = 0 then ((disk_Flush.f t182 t185 t188 t189).bind fun bt191 => (some (bt191.1, bt191.2.1, bt191.2.2.1, bt191.2.2.2.1, bt191.2.2.2.2))) else (some (t182, t185, t188, t189, t190))) = some (r1, r2, r3, r4, r5) := H
           have A63 := Aside0.mk A630
           clear A630
           by_cases c64 : t190 = 0
           · rw [if_pos c64] at H
             have c64b0 : (t190 == 0) = true := beq_iff_eq.mpr c64
             have c64b1 : (t190 != 0) = false := bne_eq_false_iff_eq.mpr c64
             clear c64
             replace H := Option.bind_eq_some_iff.mp H
             obtain ⟨⟨t191, t194, t197, t198, t199⟩, A650, H⟩ := H
             replace H : (some (t191, t194, t197, t198, t199)) = some (r1, r2, r3, r4, r5) := H
             have A65 := Aside0.mk A650
             clear A650
             simp only [Option.some.injEq, Prod.mk.injEq] at H
             obtain ⟨rfl, rfl, rfl, rfl, rfl⟩ := H
             try go_wp2
             have n0_ := Aside0.mk (Kd.R_drew HO_163000.out)
             have n1_ := Aside0.mk (Kd.R_drew HO_163001.out)
             have n2_ := Aside0.mk (Kd.R_drew HO_181001.out)
             have n3_ := Aside0.mk (blk_drew BK162.out)
             have n4_ := Aside0.mk (blk_drew BK163.out)
             have n5_ := Aside0.mk (blk_drew BK164.out)
             have n6_ := Aside0.mk (blk_drew BK180.out)
             have n7_ := Aside0.mk (below_drew1 HB.out)
             clear HO_163000; clear HO_163001; clear HO_181001; clear BK162; clear BK163; clear BK164; clear BK180; clear HB
             have HO_163000 := n0_
             have HO_163001 := n1_
             have HO_181001 := n2_
             have BK162 := n3_
             have BK163 := n4_
             have BK164 := n5_
             have BK180 := n6_
             have HB := n7_
             clear n0_ n1_ n2_ n3_ n4_ n5_ n6_ n7_
             refine start_ (n := 13) (S := fun w' => w'.cell? ⟨gb162, 0, none⟩ = some (.slice Ao32 t165.length co32) ∧ w'.cell? ⟨gb162, 1, none⟩ = some (.slice Ao34 t168.length co34) ∧ w'.cell? ⟨gb162, 2, none⟩ = some (.int .i64 t171) ∧ w'.cell? ⟨gb162, 3, none⟩ = some (.bool false) ∧ w'.cell? ⟨gb163, 0, none⟩ = some (.int .u64 a1_0) ∧ w'.cell? ⟨gb163, 1, none⟩ = some (.slice A1_1 l1_1.length c1_1)) (ds := [11]) #[false, false, false, false, false, false, false, false, false, false, false, false, false] (by kernel_rfl) rfl rfl ⟨(blk_cell BK162.out 0).trans rfl, (blk_cell BK162.out 1).trans rfl, (blk_cell BK162.out 2).trans rfl, (blk_cell BK162.out 3).trans rfl, (blk_cell BK163.out 0).trans rfl, (blk_cell BK163.out 1).trans rfl⟩ (fun hHeld => ?_); refine with_tabW manifest_Save.tab12 manifest_Save.bits12 (fun HT_ HW_ => ?_)
             generalize wc.drew = w66 at HO_163000 HO_163001 HO_181001 BK162 BK163 BK164 BK180 HB hHeld ⊢
             refine pure_ (i := 1) (N := some 46) (v := ?_) (a' := ?_) #[false, true, false, false, false, false, false, false, false, false, false, false, false] rfl rfl (any_of HT_.out (by kernel_rfl)) (fun _ _ _ h => h) (Or.inl ⟨by rfl, ?_⟩) ?_ ?_
             rotate_left
             · intro w'
               go_simp
               with_reducible rfl
             rotate_left
             · simp only [Act.put, List.setIfInBounds_toArray, List.set_cons_zero, List.set_cons_succ, i64_w, i32_w]
               rfl
             refine take_ (i := 0) (N := some 45) (v := ?_) (a' := ?_) #[true, true, false, false, false, false, false, false, false, false, false, false, false] rfl rfl (take_ofW HT_.out HW_.out (by kernel_rfl)) (fun _ _ _ h => h) (Or.inl ⟨by rfl, ?_⟩) hHeld ?_ ?_
             rotate_left
             · rintro w' ⟨s0, s1, s2, s3, s4, s5⟩
               go_simp
               with_reducible rfl
             rotate_left
             · simp only [Act.put, List.setIfInBounds_toArray, List.set_cons_zero, List.set_cons_succ, i64_w, i32_w]
               rfl
             refine take_ (i := 2) (N := some 47) (v := ?_) (a' := ?_) #[true, true, true, false, false, false, false, false, false, false, false, false, false] rfl rfl (take_ofW HT_.out HW_.out (by kernel_rfl)) (fun _ _ _ h => h) (Or.inl ⟨by rfl, ?_⟩) hHeld ?_ ?_
             rotate_left
             · rintro w' ⟨s0, s1, s2, s3, s4, s5⟩
               go_simp
               with_reducible rfl
             rotate_left
             · simp only [Act.put, List.setIfInBounds_toArray, List.set_cons_zero, List.set_cons_succ, i64_w, i32_w]
               rfl
             refine pure_ (i := 3) (N := some 48) (v := ?_) (a' := ?_) #[true, true, true, true, false, false, false, false, false, false, false, false, false] rfl rfl (any_of HT_.out (by kernel_rfl)) (fun _ _ _ h => h) (Or.inl ⟨by rfl, ?_⟩) ?_ ?_
             rotate_left
             · intro w'
               go_simp
               with_reducible rfl
             rotate_left
             · simp only [Act.put, List.setIfInBounds_toArray, List.set_cons_zero, List.set_cons_succ, i64_w, i32_w]
               rfl
             refine pure_ (i := 4) (N := some 49) (v := ?_) (a' := ?_) #[true, true, true, true, true, false, false, false, false, false, false, false, false] rfl rfl (any_of HT_.out (by kernel_rfl)) (fun _ _ _ h => h) (Or.inl ⟨by rfl, ?_⟩) ?_ ?_
             rotate_left
             · intro w'
               go_simp
               with_reducible rfl
             rotate_left
             · simp only [Act.put, List.setIfInBounds_toArray, List.set_cons_zero, List.set_cons_succ, i64_w, i32_w]
               rfl
             refine take_ (i := 5) (N := some 50) (v := ?_) (a' := ?_) #[true, true, true, true, true, true, false, false, false, false, false, false, false] rfl rfl (take_ofW HT_.out HW_.out (by kernel_rfl)) (fun _ _ _ h => h) (Or.inl ⟨by rfl, ?_⟩) hHeld ?_ ?_
             rotate_left
             · rintro w' ⟨s0, s1, s2, s3, s4, s5⟩
               go_simp
               with_reducible rfl
             rotate_left
             · simp only [Act.put, List.setIfInBounds_toArray, List.set_cons_zero, List.set_cons_succ, i64_w, i32_w]
               rfl
             refine one_ (i := 6) (N := some 51) #[true, true, true, true, true, true, true, false, false, false, false, false, false] rfl rfl (one_of HT_.out (by kernel_rfl)) (by decide) (fun K hK => ?_)
             refine goes_ Try.func24 (by kernel_rfl) rfl #[.agg #[.int .u64 a1_0, .slice A1_1 l1_1.length c1_1]] (by rfl) rfl rfl args_ ?_
             with_reducible refine (manifest_written.calls kj23 a1_0 _ _ l1_1 t181 _ ?side1 ?side2 A62.out).mono ?_
             (case side1 => exact CU (Kd.C_below HR1_1.out HB.out))
             (case side2 => exact HC1_1.out)
             rintro e w67 ⟨rfl, hb⟩
             refine ⟨_, rfl, ?_⟩
             have n0_ := Aside0.mk (Kd.R_below (by (try apply RU); exact HO_163000.out) hb)
             have n1_ := Aside0.mk (Kd.R_below (by (try apply RU); exact HO_163001.out) hb)
             have n2_ := Aside0.mk (Kd.R_below (by (try apply RU); exact HO_181001.out) hb)
             have n3_ := Aside0.mk (blk_below (blkU BK162.out) hb)
             have n4_ := Aside0.mk (blk_below (blkU BK163.out) hb)
             have n5_ := Aside0.mk (blk_below (blkU BK164.out) hb)
             have n6_ := Aside0.mk (blk_below (blkU BK180.out) hb)
             have n7_ := Aside0.mk (below_step bel_ hb)
             clear HO_163000; clear HO_163001; clear HO_181001; clear BK162; clear BK163; clear BK164; clear BK180; clear HB
             have HO_163000 := n0_
             have HO_163001 := n1_
             have HO_181001 := n2_
             have BK162 := n3_
             have BK163 := n4_
             have BK164 := n5_
             have BK180 := n6_
             have HB := n7_
             clear n0_ n1_ n2_ n3_ n4_ n5_ n6_ n7_
             (try clear hb)
             (try clear hb2)
             (try clear hk)
             (try clear hi)
             refine hK.out _ _ ⟨(blk_cell BK162.out 0).trans rfl, (blk_cell BK162.out 1).trans rfl, (blk_cell BK162.out 2).trans rfl, (blk_cell BK162.out 3).trans rfl, (blk_cell BK163.out 0).trans rfl, (blk_cell BK163.out 1).trans rfl⟩ (fun hHeld => ?_)
             clear hK K
             refine norm_ (a' := ?_) ?_ ?_
             rotate_left
             · show Act.put _ (some 51) _ = _
               simp only [Act.put, List.setIfInBounds_toArray, List.set_cons_zero, List.set_cons_succ, i64_w, i32_w]
               rfl
             refine one_ (i := 7) (N := some 52) #[true, true, true, true, true, true, true, true, false, false, false, false, false] rfl rfl (one_of HT_.out (by kernel_rfl)) (by decide) (fun K hK => ?_)
             refine goes_ Try.func37 (by kernel_rfl) rfl #[.agg #[.slice Ao32 t165.length co32, .slice Ao34 t168.length co34, .int .i64 t171, .bool false], .int .i64 (wrap64 (Int.tmod a1_0 2)), .string t181] (by rfl) rfl rfl args_ ?_
             with_reducible refine (disk_Write.calls _ _ t165 _ _ t168 t171 false (wrap64 (Int.tmod a1_0 2)) t181 t182 t185 t188 t189 t190 _ ?side1 ?side2 ?side3 ?side4 A63.out).mono ?_
             (case side1 => repeat (first | exact (Kd.R_reads' HO_163000.out).2.2 | (with_reducible refine Kd.C_alloc ?_ _) | (with_reducible refine Kd.C_drewN ?_ _) | (with_reducible refine Kd.C_drew ?_)))
             (case side2 => exact (Kd.R_reads' HO_163000.out).2.1)
             (case side3 => repeat (first | exact (Kd.R_reads' HO_163001.out).2.2 | (with_reducible refine Kd.C_alloc ?_ _) | (with_reducible refine Kd.C_drewN ?_ _) | (with_reducible refine Kd.C_drew ?_)))
             (case side4 => exact (Kd.R_reads' HO_163001.out).2.1)
             rintro e w68 ⟨v183, v186, rfl, ho0, ho1, hb⟩
             refine ⟨_, rfl, ?_⟩
             have n0_ := Aside0.mk (Kd.R_elder' (by (try apply RU); exact HO_163000.out) (Kd.R_base ho0) hb)
             have n1_ := Aside0.mk (Kd.R_elder' (by (try apply RU); exact HO_163001.out) (Kd.R_base ho1) hb)
             have n2_ := Aside0.mk (Kd.R_below (by (try apply RU); exact HO_181001.out) hb)
             have n3_ := Aside0.mk (Kd.R_lower (Kd.R_new' ho0 (Kd.R_lt (by (try apply RU); exact HO_163000.out))) (below_size bel_))
             have n4_ := Aside0.mk (Kd.R_lower (Kd.R_new' ho1 (Kd.R_lt (by (try apply RU); exact HO_163001.out))) (below_size bel_))
             have n5_ := Aside0.mk (blk_below (blkU BK162.out) hb)
             have n6_ := Aside0.mk (blk_below (blkU BK163.out) hb)
             have n7_ := Aside0.mk (blk_below (blkU BK164.out) hb)
             have n8_ := Aside0.mk (blk_below (blkU BK180.out) hb)
             have n9_ := Aside0.mk (below_step bel_ hb)
             clear HO_163000; clear HO_163001; clear HO_181001; clear BK162; clear BK163; clear BK164; clear BK180; clear HB
             have HO_163000 := n0_
             have HO_163001 := n1_
             have HO_181001 := n2_
             have HO184 := n3_
             have HO187 := n4_
             have BK162 := n5_
             have BK163 := n6_
             have BK164 := n7_
             have BK180 := n8_
             have HB := n9_
             clear n0_ n1_ n2_ n3_ n4_ n5_ n6_ n7_ n8_ n9_
             (try clear hb)
             (try clear hb2)
             (try clear hk)
             (try clear hi)
             (try clear ho0)
             (try clear ho1)
             obtain ⟨Ao69, co69, eo69⟩ := Kd.R_slice HO184.out
             (first | subst eo69 | (injection eo69 with f1_ f2_ f3_; have f4_ := f1_.symm; have f5_ := f3_.symm; clear f1_ f2_ f3_; subst f4_; subst f5_))
             obtain ⟨Ao71, co71, eo71⟩ := Kd.R_slice HO187.out
             (first | subst eo71 | (injection eo71 with f1_ f2_ f3_; have f4_ := f1_.symm; have f5_ := f3_.symm; clear f1_ f2_ f3_; subst f4_; subst f5_))
             refine hK.out _ _ ⟨(blk_cell BK162.out 0).trans rfl, (blk_cell BK162.out 1).trans rfl, (blk_cell BK162.out 2).trans rfl, (blk_cell BK162.out 3).trans rfl, (blk_cell BK163.out 0).trans rfl, (blk_cell BK163.out 1).trans rfl⟩ (fun hHeld => ?_)
             clear hK K
             refine norm_ (a' := ?_) ?_ ?_
             rotate_left
             · show Act.put _ (some 52) _ = _
               simp only [Act.put, List.setIfInBounds_toArray, List.set_cons_zero, List.set_cons_succ, i64_w, i32_w]
               rfl
             refine pure_ (i := 8) (N := some 44) (v := ?_) (a' := ?_) #[true, true, true, true, true, true, true, true, true, false, false, false, false] rfl rfl (any_of HT_.out (by kernel_rfl)) (fun _ _ _ h => h) (Or.inl ⟨by rfl, ?_⟩) ?_ ?_
             rotate_left
             · intro w'
               go_simp
               with_reducible rfl
             rotate_left
             · simp only [Act.put, List.setIfInBounds_toArray, List.set_cons_zero, List.set_cons_succ, i64_w, i32_w]
               rfl
             refine pure_ (i := 9) (N := some 53) (v := ?_) (a' := ?_) #[true, true, true, true, true, true, true, true, true, true, false, false, false] rfl rfl (any_of HT_.out (by kernel_rfl)) (fun _ _ _ h => h) (Or.inl ⟨by rfl, ?_⟩) ?_ ?_
             rotate_left
             · intro w'
               go_simp
               with_reducible rfl
             rotate_left
             · simp only [Act.put, List.setIfInBounds_toArray, List.set_cons_zero, List.set_cons_succ, i64_w, i32_w]
               rfl
             refine pure_ (i := 10) (N := some 54) (v := ?_) (a' := ?_) #[true, true, true, true, true, true, true, true, true, true, true, false, false] rfl rfl (any_of HT_.out (by kernel_rfl)) (fun _ _ _ h => h) (Or.inl ⟨by rfl, ?_⟩) ?_ ?_
             rotate_left
             · intro w'
               go_simp
               with_reducible rfl
             rotate_left
             · simp only [Act.put, List.setIfInBounds_toArray, List.set_cons_zero, List.set_cons_succ, i64_w, i32_w]
               rfl
             refine last_ (i := 11) (N := none) #[true, true, true, true, true, true, true, true, true, true, true, true, false] rfl rfl (one_of HT_.out (by kernel_rfl)) (by decide) (fun K hK => ?_)
             have hs70 : w68.cell? ⟨gb162, 0, none⟩ = some (.slice Ao32 t165.length co32) := (blk_cell BK162.out 0).trans rfl
             have hfs70 := blk_frozen BK162.out 0
             have hns70_1 := NB163_162.out
             have hns70_2 := NB164_162.out
             have hns70_3 := NB180_162.out
             have hms70_1 := NB162_163.out
             have hms70_2 := NB162_164.out
             have hms70_3 := NB162_180.out
             have hs72 : w68.cell? ⟨gb162, 1, none⟩ = some (.slice Ao34 t168.length co34) := (blk_cell BK162.out 1).trans rfl
             have hfs72 := blk_frozen BK162.out 1
             have hns72_1 := NB163_162.out
             have hns72_2 := NB164_162.out
             have hns72_3 := NB180_162.out
             have hms72_1 := NB162_163.out
             have hms72_2 := NB162_164.out
             have hms72_3 := NB162_180.out
             have hs73 : w68.cell? ⟨gb162, 2, none⟩ = some (.int .i64 t171) := (blk_cell BK162.out 2).trans rfl
             have hfs73 := blk_frozen BK162.out 2
             have hns73_1 := NB163_162.out
             have hns73_2 := NB164_162.out
             have hns73_3 := NB180_162.out
             have hms73_1 := NB162_163.out
             have hms73_2 := NB162_164.out
             have hms73_3 := NB162_180.out
             have hs74 : w68.cell? ⟨gb162, 3, none⟩ = some (.bool false) := (blk_cell BK162.out 3).trans rfl
             have hfs74 := blk_frozen BK162.out 3
             have hns74_1 := NB163_162.out
             have hns74_2 := NB164_162.out
             have hns74_3 := NB180_162.out
             have hms74_1 := NB162_163.out
             have hms74_2 := NB162_164.out
             have hms74_3 := NB162_180.out
             refine skip_ (w1 := ?_) (by rfl) rfl ?_ ?_
             rotate_left
             · go_simp
               rfl
             refine hK.out _ _ ?_
             clear hK K
             refine pure_ (i := 12) (N := some 6) (v := ?_) (a' := ?_) #[true, true, true, true, true, true, true, true, true, true, true, true, true] rfl rfl (any_of HT_.out (by kernel_rfl)) (fun _ _ _ h => h) (Or.inl ⟨by rfl, ?_⟩) ?_ ?_
             rotate_left
             · intro w'
               go_simp
               with_reducible rfl
             rotate_left
             · simp only [Act.put, List.setIfInBounds_toArray, List.set_cons_zero, List.set_cons_succ, i64_w, i32_w]
               rfl
             refine done_ (done_of HT_.out (by kernel_rfl)) ?_
             have hnb75 := NB162_163.out
             have hnc75 := NB163_162.out
             have hnb76 := NB162_164.out
             have hnc76 := NB164_162.out
             have hnb77 := NB162_180.out
             have hnc77 := NB180_162.out
             obtain ⟨hcz78_0, hcz78_1, hcz78_2, hcz78_3, hfz78_0, hfz78_1, hfz78_2, hfz78_3⟩ := cz4_ BK162.out
             try go_wp2_with (first | ((with_reducible refine gate_callee (f := 38) rfl ?_); refine goesL_ (some 59) rfl rfl Try.func38 (by kernel_rfl) rfl #[.agg #[.slice Ao69 t182.length co69, .slice Ao71 t185.length co71, .int .i64 t188, .bool t189]] rfl args_ ?_; (with_reducible refine (disk_Flush.calls _ _ t182 _ _ t185 t188 t189 t191 t194 t197 t198 t199 _ ?side1 ?side2 ?side3 ?side4 A65.out).mono ?_); (case side1 => refine (Kd.R_reads' (e := 9) (base := w.heap.size) (ok := fun k_ => (True ∧ some k_ ≠ (.slice Ao32 t165.length co32 : Value).ownBlock)) (n := t182.length) (c := co69) ?_).2.2; exact (by (try apply RU); exact (Kd.R_mono (Kd.R_far (p := ⟨gb162, 3, none⟩) (Kd.R_far (p := ⟨gb162, 2, none⟩) (Kd.R_far (p := ⟨gb162, 1, none⟩) (Kd.R_far (p := ⟨gb162, 0, none⟩) (Kd.R_types HO184.out BK162.out (by decide)) (fun _ hk => hk.2) (.slice Ao69 t182.length co69)) (fun _ hk => hk.2) (.slice Ao71 t185.length co71)) (fun _ hk => hk.2) (.int .i64 t188)) (fun _ hk => hk.2) (.bool t189)) (fun _ h_ => h_.1)))); (case side2 => exact (Kd.R_reads' HO184.out).2.1); (case side3 => refine (Kd.R_reads' (e := 74) (base := w.heap.size) (ok := fun k_ => (True ∧ some k_ ≠ (.slice Ao34 t168.length co34 : Value).ownBlock)) (n := t185.length) (c := co71) ?_).2.2; exact (by (try apply RU); exact (Kd.R_mono (Kd.R_far (p := ⟨gb162, 3, none⟩) (Kd.R_far (p := ⟨gb162, 2, none⟩) (Kd.R_far (p := ⟨gb162, 1, none⟩) (Kd.R_far (p := ⟨gb162, 0, none⟩) (Kd.R_types HO187.out BK162.out (by decide)) (fun _ hk => hk.2) (.slice Ao69 t182.length co69)) (fun _ hk => hk.2) (.slice Ao71 t185.length co71)) (fun _ hk => hk.2) (.int .i64 t188)) (fun _ hk => hk.2) (.bool t189)) (fun _ h_ => h_.1)))); (case side4 => exact (Kd.R_reads' HO187.out).2.1); rintro e w79 ⟨v192, v195, rfl, ho0, ho1, hb⟩; refine ⟨_, rfl, ?_⟩; have n0_ := Aside0.mk (Kd.R_elder' (by (try apply RU); exact (Kd.R_mono (Kd.R_far (p := ⟨gb162, 3, none⟩) (Kd.R_far (p := ⟨gb162, 2, none⟩) (Kd.R_far (p := ⟨gb162, 1, none⟩) (Kd.R_far (p := ⟨gb162, 0, none⟩) (Kd.R_types HO_163000.out BK162.out (by decide)) (fun _ hk => hk.2) (.slice Ao69 t182.length co69)) (fun _ hk => hk.2) (.slice Ao71 t185.length co71)) (fun _ hk => hk.2) (.int .i64 t188)) (fun _ hk => hk.2) (.bool t189)) (fun _ h_ => h_.1))) (Kd.R_base ho0) hb); have n1_ := Aside0.mk (Kd.R_elder' (by (try apply RU); exact (Kd.R_mono (Kd.R_far (p := ⟨gb162, 3, none⟩) (Kd.R_far (p := ⟨gb162, 2, none⟩) (Kd.R_far (p := ⟨gb162, 1, none⟩) (Kd.R_far (p := ⟨gb162, 0, none⟩) (Kd.R_types HO_163001.out BK162.out (by decide)) (fun _ hk => hk.2) (.slice Ao69 t182.length co69)) (fun _ hk => hk.2) (.slice Ao71 t185.length co71)) (fun _ hk => hk.2) (.int .i64 t188)) (fun _ hk => hk.2) (.bool t189)) (fun _ h_ => h_.1))) (Kd.R_base ho1) hb); have n2_ := Aside0.mk (Kd.R_below (by (try apply RU); exact (Kd.R_mono (Kd.R_far (p := ⟨gb162, 3, none⟩) (Kd.R_far (p := ⟨gb162, 2, none⟩) (Kd.R_far (p := ⟨gb162, 1, none⟩) (Kd.R_far (p := ⟨gb162, 0, none⟩) (Kd.R_types HO_181001.out BK162.out (by decide)) (fun _ hk => hk.2) (.slice Ao69 t182.length co69)) (fun _ hk => hk.2) (.slice Ao71 t185.length co71)) (fun _ hk => hk.2) (.int .i64 t188)) (fun _ hk => hk.2) (.bool t189)) (fun _ h_ => h_.1))) hb); have n3_ := Aside0.mk (Kd.R_elder' (by (try apply RU); exact (Kd.R_mono (Kd.R_far (p := ⟨gb162, 3, none⟩) (Kd.R_far (p := ⟨gb162, 2, none⟩) (Kd.R_far (p := ⟨gb162, 1, none⟩) (Kd.R_far (p := ⟨gb162, 0, none⟩) (Kd.R_types HO184.out BK162.out (by decide)) (fun _ hk => hk.2) (.slice Ao69 t182.length co69)) (fun _ hk => hk.2) (.slice Ao71 t185.length co71)) (fun _ hk => hk.2) (.int .i64 t188)) (fun _ hk => hk.2) (.bool t189)) (fun _ h_ => h_.1))) (Kd.R_base ho0) hb); have n4_ := Aside0.mk (Kd.R_elder' (by (try apply RU); exact (Kd.R_mono (Kd.R_far (p := ⟨gb162, 3, none⟩) (Kd.R_far (p := ⟨gb162, 2, none⟩) (Kd.R_far (p := ⟨gb162, 1, none⟩) (Kd.R_far (p := ⟨gb162, 0, none⟩) (Kd.R_types HO187.out BK162.out (by decide)) (fun _ hk => hk.2) (.slice Ao69 t182.length co69)) (fun _ hk => hk.2) (.slice Ao71 t185.length co71)) (fun _ hk => hk.2) (.int .i64 t188)) (fun _ hk => hk.2) (.bool t189)) (fun _ h_ => h_.1))) (Kd.R_base ho1) hb); have n5_ := Aside0.mk (Kd.R_lower (Kd.R_new' (Kd.R_new' ho0 (Kd.R_lt (by (try apply RU); exact (Kd.R_mono (Kd.R_far (p := ⟨gb162, 3, none⟩) (Kd.R_far (p := ⟨gb162, 2, none⟩) (Kd.R_far (p := ⟨gb162, 1, none⟩) (Kd.R_far (p := ⟨gb162, 0, none⟩) (Kd.R_types HO_163000.out BK162.out (by decide)) (fun _ hk => hk.2) (.slice Ao69 t182.length co69)) (fun _ hk => hk.2) (.slice Ao71 t185.length co71)) (fun _ hk => hk.2) (.int .i64 t188)) (fun _ hk => hk.2) (.bool t189)) (fun _ h_ => h_.1))))) (Kd.R_lt (by (try apply RU); exact (Kd.R_mono (Kd.R_far (p := ⟨gb162, 3, none⟩) (Kd.R_far (p := ⟨gb162, 2, none⟩) (Kd.R_far (p := ⟨gb162, 1, none⟩) (Kd.R_far (p := ⟨gb162, 0, none⟩) (Kd.R_types HO184.out BK162.out (by decide)) (fun _ hk => hk.2) (.slice Ao69 t182.length co69)) (fun _ hk => hk.2) (.slice Ao71 t185.length co71)) (fun _ hk => hk.2) (.int .i64 t188)) (fun _ hk => hk.2) (.bool t189)) (fun _ h_ => h_.1))))) (below_size bel_)); have n6_ := Aside0.mk (Kd.R_lower (Kd.R_new' (Kd.R_new' ho1 (Kd.R_lt (by (try apply RU); exact (Kd.R_mono (Kd.R_far (p := ⟨gb162, 3, none⟩) (Kd.R_far (p := ⟨gb162, 2, none⟩) (Kd.R_far (p := ⟨gb162, 1, none⟩) (Kd.R_far (p := ⟨gb162, 0, none⟩) (Kd.R_types HO_163001.out BK162.out (by decide)) (fun _ hk => hk.2) (.slice Ao69 t182.length co69)) (fun _ hk => hk.2) (.slice Ao71 t185.length co71)) (fun _ hk => hk.2) (.int .i64 t188)) (fun _ hk => hk.2) (.bool t189)) (fun _ h_ => h_.1))))) (Kd.R_lt (by (try apply RU); exact (Kd.R_mono (Kd.R_far (p := ⟨gb162, 3, none⟩) (Kd.R_far (p := ⟨gb162, 2, none⟩) (Kd.R_far (p := ⟨gb162, 1, none⟩) (Kd.R_far (p := ⟨gb162, 0, none⟩) (Kd.R_types HO187.out BK162.out (by decide)) (fun _ hk => hk.2) (.slice Ao69 t182.length co69)) (fun _ hk => hk.2) (.slice Ao71 t185.length co71)) (fun _ hk => hk.2) (.int .i64 t188)) (fun _ hk => hk.2) (.bool t189)) (fun _ h_ => h_.1))))) (below_size bel_)); have n7_ := Aside0.mk (blk_below (g := gb162) (o := .cells #[.slice Ao69 t182.length co69, .slice Ao71 t185.length co71, .int .i64 t188, .bool t189] 38 (0, 0)) (by refine blkU ?_; refine blk_put (cs := #[.slice Ao69 t182.length co69, .slice Ao71 t185.length co71, .int .i64 t188, .bool false]) ?_ 3 _ rfl; refine blkU ?_; refine blk_put (cs := #[.slice Ao69 t182.length co69, .slice Ao71 t185.length co71, .int .i64 t171, .bool false]) ?_ 2 _ rfl; refine blkU ?_; refine blk_put (cs := #[.slice Ao69 t182.length co69, .slice Ao34 t168.length co34, .int .i64 t171, .bool false]) ?_ 1 _ rfl; refine blkU ?_; refine blk_put (cs := #[.slice Ao32 t165.length co32, .slice Ao34 t168.length co34, .int .i64 t171, .bool false]) ?_ 0 _ rfl; refine blkU ?_; exact BK162.out) hb); have n8_ := Aside0.mk (blk_below (g := gb163) (o := .cells #[.int .u64 a1_0, .slice A1_1 l1_1.length c1_1] 25 (0, 0)) (by refine blkU ?_; refine blk_far ?_ NB163_162.out _; refine blkU ?_; refine blk_far ?_ NB163_162.out _; refine blkU ?_; refine blk_far ?_ NB163_162.out _; refine blkU ?_; refine blk_far ?_ NB163_162.out _; refine blkU ?_; exact BK163.out) hb); have n9_ := Aside0.mk (blk_below (g := gb164) (o := .cells #[.slice none 0 0, .slice none 0 0, .int .i64 0, .bool false] 38 (0, 0)) (by refine blkU ?_; refine blk_far ?_ NB164_162.out _; refine blkU ?_; refine blk_far ?_ NB164_162.out _; refine blkU ?_; refine blk_far ?_ NB164_162.out _; refine blkU ?_; refine blk_far ?_ NB164_162.out _; refine blkU ?_; exact BK164.out) hb); have n10_ := Aside0.mk (blk_below (g := gb180) (o := .cells #[.int .u64 t175, .slice Ao45 t176.length co45] 25 (0, 0)) (by refine blkU ?_; refine blk_far ?_ NB180_162.out _; refine blkU ?_; refine blk_far ?_ NB180_162.out _; refine blkU ?_; refine blk_far ?_ NB180_162.out _; refine blkU ?_; refine blk_far ?_ NB180_162.out _; refine blkU ?_; exact BK180.out) hb); have n11_ := Aside0.mk (below_step bel_ hb); clear HO_163000; clear HO_163001; clear HO_181001; clear HO184; clear HO187; clear BK162; clear BK163; clear BK164; clear BK180; clear HB; have HO_163000 := n0_; have HO_163001 := n1_; have HO_181001 := n2_; have HO184 := n3_; have HO187 := n4_; have HO193 := n5_; have HO196 := n6_; have BK162 := n7_; have BK163 := n8_; have BK164 := n9_; have BK180 := n10_; have HB := n11_; clear n0_ n1_ n2_ n3_ n4_ n5_ n6_ n7_ n8_ n9_ n10_ n11_; (try clear hb); (try clear hb2); (try clear hk); (try clear hi); (try clear ho0); (try clear ho1); obtain ⟨Ao80, co80, eo80⟩ := Kd.R_slice HO193.out; subst eo80; obtain ⟨hcz81_0, hcz81_1, hcz81_2, hcz81_3, hfz81_0, hfz81_1, hfz81_2, hfz81_3⟩ := cz4_ BK162.out; obtain ⟨Ao82, co82, eo82⟩ := Kd.R_slice HO196.out; subst eo82; have hnb83 := NB164_163.out; have hnc83 := NB163_164.out; have hnb84 := NB164_180.out; have hnc84 := NB180_164.out; obtain ⟨hcz85_0, hcz85_1, hcz85_2, hcz85_3, hfz85_0, hfz85_1, hfz85_2, hfz85_3⟩ := cz4_ BK164.out))
             refine bodyPost_ret (results_ct rfl _ _ gb164 38 #[.slice Ao80 t191.length co80, .slice Ao82 t194.length co82, .int .i64 t197, .bool t198] (0, 0) _ rfl (by refine blkU ?_; refine blk_put (cs := #[.slice Ao80 t191.length co80, .slice Ao82 t194.length co82, .int .i64 t197, .bool false]) ?_ 3 _ rfl; refine blkU ?_; refine blk_put (cs := #[.slice Ao80 t191.length co80, .slice Ao82 t194.length co82, .int .i64 0, .bool false]) ?_ 2 _ rfl; refine blkU ?_; refine blk_put (cs := #[.slice Ao80 t191.length co80, .slice none 0 0, .int .i64 0, .bool false]) ?_ 1 _ rfl; refine blkU ?_; refine blk_put (cs := #[.slice none 0 0, .slice none 0 0, .int .i64 0, .bool false]) ?_ 0 _ rfl; refine blkU ?_; refine blk_far ?_ NB164_162.out _; refine blkU ?_; refine blk_far ?_ NB164_162.out _; refine blkU ?_; refine blk_far ?_ NB164_162.out _; refine blkU ?_; refine blk_far ?_ NB164_162.out _; refine blkU ?_; exact BK164.out) Try.underlying38 rfl (by kernel_rfl)) rfl ?_
             exact ⟨_, _, by first | rfl | (simp [errW_none, errW_some] <;> rfl) | (simp [*, errW_none, errW_some] <;> rfl), by (try apply RU); exact Kd.R_mono (Kd.R_far (p := ⟨gb164, 3, none⟩) (Kd.R_far (p := ⟨gb164, 2, none⟩) (Kd.R_far (p := ⟨gb164, 1, none⟩) (Kd.R_far (p := ⟨gb164, 0, none⟩) (Kd.R_far (p := ⟨gb162, 3, none⟩) (Kd.R_far (p := ⟨gb162, 2, none⟩) (Kd.R_far (p := ⟨gb162, 1, none⟩) (Kd.R_far (p := ⟨gb162, 0, none⟩) (Kd.R_types (Kd.R_types HO193.out BK162.out (by decide)) BK164.out (by decide)) (fun _ hk => hk.1.2) (.slice Ao80 t191.length co80)) (fun _ hk => hk.1.2) (.slice Ao82 t194.length co82)) (fun _ hk => hk.1.2) (.int .i64 t197)) (fun _ hk => hk.1.2) (.bool t198)) (fun _ hk => hk.2) (.slice Ao80 t191.length co80)) (fun _ hk => hk.2) (.slice Ao82 t194.length co82)) (fun _ hk => hk.2) (.int .i64 t197)) (fun _ hk => hk.2) (.bool t198)) (fun _ hk => trivial), by (try apply RU); exact Kd.R_mono (Kd.R_far (p := ⟨gb164, 3, none⟩) (Kd.R_far (p := ⟨gb164, 2, none⟩) (Kd.R_far (p := ⟨gb164, 1, none⟩) (Kd.R_far (p := ⟨gb164, 0, none⟩) (Kd.R_far (p := ⟨gb162, 3, none⟩) (Kd.R_far (p := ⟨gb162, 2, none⟩) (Kd.R_far (p := ⟨gb162, 1, none⟩) (Kd.R_far (p := ⟨gb162, 0, none⟩) (Kd.R_types (Kd.R_types HO196.out BK162.out (by decide)) BK164.out (by decide)) (fun _ hk => hk.1.2) (.slice Ao80 t191.length co80)) (fun _ hk => hk.1.2) (.slice Ao82 t194.length co82)) (fun _ hk => hk.1.2) (.int .i64 t197)) (fun _ hk => hk.1.2) (.bool t198)) (fun _ hk => hk.2) (.slice Ao80 t191.length co80)) (fun _ hk => hk.2) (.slice Ao82 t194.length co82)) (fun _ hk => hk.2) (.int .i64 t197)) (fun _ hk => hk.2) (.bool t198)) (fun _ hk => trivial), bel_⟩
           · rw [if_neg c64] at H
             have c64b0 : (t190 == 0) = false := beq_eq_false_iff_ne.mpr c64
             have c64b1 : (t190 != 0) = true := bne_iff_ne.mpr c64
             simp only [Option.some.injEq, Prod.mk.injEq] at H
             obtain ⟨rfl, rfl, rfl, rfl, rfl⟩ := H
             try go_wp2
             have n0_ := Aside0.mk (Kd.R_drew HO_163000.out)
             have n1_ := Aside0.mk (Kd.R_drew HO_163001.out)
             have n2_ := Aside0.mk (Kd.R_drew HO_181001.out)
             have n3_ := Aside0.mk (blk_drew BK162.out)
             have n4_ := Aside0.mk (blk_drew BK163.out)
             have n5_ := Aside0.mk (blk_drew BK164.out)
             have n6_ := Aside0.mk (blk_drew BK180.out)
             have n7_ := Aside0.mk (below_drew1 HB.out)
             clear HO_163000; clear HO_163001; clear HO_181001; clear BK162; clear BK163; clear BK164; clear BK180; clear HB
             have HO_163000 := n0_
             have HO_163001 := n1_
             have HO_181001 := n2_
             have BK162 := n3_
             have BK163 := n4_
             have BK164 := n5_
             have BK180 := n6_
             have HB := n7_
             clear n0_ n1_ n2_ n3_ n4_ n5_ n6_ n7_
             refine start_ (n := 13) (S := fun w' => w'.cell? ⟨gb162, 0, none⟩ = some (.slice Ao32 t165.length co32) ∧ w'.cell? ⟨gb162, 1, none⟩ = some (.slice Ao34 t168.length co34) ∧ w'.cell? ⟨gb162, 2, none⟩ = some (.int .i64 t171) ∧ w'.cell? ⟨gb162, 3, none⟩ = some (.bool false) ∧ w'.cell? ⟨gb163, 0, none⟩ = some (.int .u64 a1_0) ∧ w'.cell? ⟨gb163, 1, none⟩ = some (.slice A1_1 l1_1.length c1_1)) (ds := [11]) #[false, false, false, false, false, false, false, false, false, false, false, false, false] (by kernel_rfl) rfl rfl ⟨(blk_cell BK162.out 0).trans rfl, (blk_cell BK162.out 1).trans rfl, (blk_cell BK162.out 2).trans rfl, (blk_cell BK162.out 3).trans rfl, (blk_cell BK163.out 0).trans rfl, (blk_cell BK163.out 1).trans rfl⟩ (fun hHeld => ?_); refine with_tabW manifest_Save.tab12 manifest_Save.bits12 (fun HT_ HW_ => ?_)
             generalize wc.drew = w86 at HO_163000 HO_163001 HO_181001 BK162 BK163 BK164 BK180 HB hHeld ⊢
             refine pure_ (i := 1) (N := some 46) (v := ?_) (a' := ?_) #[false, true, false, false, false, false, false, false, false, false, false, false, false] rfl rfl (any_of HT_.out (by kernel_rfl)) (fun _ _ _ h => h) (Or.inl ⟨by rfl, ?_⟩) ?_ ?_
             rotate_left
             · intro w'
               go_simp
               with_reducible rfl
             rotate_left
             · simp only [Act.put, List.setIfInBounds_toArray, List.set_cons_zero, List.set_cons_succ, i64_w, i32_w]
               rfl
             refine take_ (i := 0) (N := some 45) (v := ?_) (a' := ?_) #[true, true, false, false, false, false, false, false, false, false, false, false, false] rfl rfl (take_ofW HT_.out HW_.out (by kernel_rfl)) (fun _ _ _ h => h) (Or.inl ⟨by rfl, ?_⟩) hHeld ?_ ?_
             rotate_left
             · rintro w' ⟨s0, s1, s2, s3, s4, s5⟩
               go_simp
               with_reducible rfl
             rotate_left
             · simp only [Act.put, List.setIfInBounds_toArray, List.set_cons_zero, List.set_cons_succ, i64_w, i32_w]
               rfl
             refine take_ (i := 2) (N := some 47) (v := ?_) (a' := ?_) #[true, true, true, false, false, false, false, false, false, false, false, false, false] rfl rfl (take_ofW HT_.out HW_.out (by kernel_rfl)) (fun _ _ _ h => h) (Or.inl ⟨by rfl, ?_⟩) hHeld ?_ ?_
             rotate_left
             · rintro w' ⟨s0, s1, s2, s3, s4, s5⟩
               go_simp
               with_reducible rfl
             rotate_left
             · simp only [Act.put, List.setIfInBounds_toArray, List.set_cons_zero, List.set_cons_succ, i64_w, i32_w]
               rfl
             refine pure_ (i := 3) (N := some 48) (v := ?_) (a' := ?_) #[true, true, true, true, false, false, false, false, false, false, false, false, false] rfl rfl (any_of HT_.out (by kernel_rfl)) (fun _ _ _ h => h) (Or.inl ⟨by rfl, ?_⟩) ?_ ?_
             rotate_left
             · intro w'
               go_simp
               with_reducible rfl
             rotate_left
             · simp only [Act.put, List.setIfInBounds_toArray, List.set_cons_zero, List.set_cons_succ, i64_w, i32_w]
               rfl
             refine pure_ (i := 4) (N := some 49) (v := ?_) (a' := ?_) #[true, true, true, true, true, false, false, false, false, false, false, false, false] rfl rfl (any_of HT_.out (by kernel_rfl)) (fun _ _ _ h => h) (Or.inl ⟨by rfl, ?_⟩) ?_ ?_
             rotate_left
             · intro w'
               go_simp
               with_reducible rfl
             rotate_left
             · simp only [Act.put, List.setIfInBounds_toArray, List.set_cons_zero, List.set_cons_succ, i64_w, i32_w]
               rfl
             refine take_ (i := 5) (N := some 50) (v := ?_) (a' := ?_) #[true, true, true, true, true, true, false, false, false, false, false, false, false] rfl rfl (take_ofW HT_.out HW_.out (by kernel_rfl)) (fun _ _ _ h => h) (Or.inl ⟨by rfl, ?_⟩) hHeld ?_ ?_
             rotate_left
             · rintro w' ⟨s0, s1, s2, s3, s4, s5⟩
               go_simp
               with_reducible rfl
             rotate_left
             · simp only [Act.put, List.setIfInBounds_toArray, List.set_cons_zero, List.set_cons_succ, i64_w, i32_w]
               rfl
             refine one_ (i := 6) (N := some 51) #[true, true, true, true, true, true, true, false, false, false, false, false, false] rfl rfl (one_of HT_.out (by kernel_rfl)) (by decide) (fun K hK => ?_)
             refine goes_ Try.func24 (by kernel_rfl) rfl #[.agg #[.int .u64 a1_0, .slice A1_1 l1_1.length c1_1]] (by rfl) rfl rfl args_ ?_
             with_reducible refine (manifest_written.calls kj23 a1_0 _ _ l1_1 t181 _ ?side1 ?side2 A62.out).mono ?_
             (case side1 => exact CU (Kd.C_below HR1_1.out HB.out))
             (case side2 => exact HC1_1.out)
             rintro e w87 ⟨rfl, hb⟩
             refine ⟨_, rfl, ?_⟩
             have n0_ := Aside0.mk (Kd.R_below (by (try apply RU); exact HO_163000.out) hb)
             have n1_ := Aside0.mk (Kd.R_below (by (try apply RU); exact HO_163001.out) hb)
             have n2_ := Aside0.mk (Kd.R_below (by (try apply RU); exact HO_181001.out) hb)
             have n3_ := Aside0.mk (blk_below (blkU BK162.out) hb)
             have n4_ := Aside0.mk (blk_below (blkU BK163.out) hb)
             have n5_ := Aside0.mk (blk_below (blkU BK164.out) hb)
             have n6_ := Aside0.mk (blk_below (blkU BK180.out) hb)
             have n7_ := Aside0.mk (below_step bel_ hb)
             clear HO_163000; clear HO_163001; clear HO_181001; clear BK162; clear BK163; clear BK164; clear BK180; clear HB
             have HO_163000 := n0_
             have HO_163001 := n1_
             have HO_181001 := n2_
             have BK162 := n3_
             have BK163 := n4_
             have BK164 := n5_
             have BK180 := n6_
             have HB := n7_
             clear n0_ n1_ n2_ n3_ n4_ n5_ n6_ n7_
             (try clear hb)
             (try clear hb2)
             (try clear hk)
             (try clear hi)
             refine hK.out _ _ ⟨(blk_cell BK162.out 0).trans rfl, (blk_cell BK162.out 1).trans rfl, (blk_cell BK162.out 2).trans rfl, (blk_cell BK162.out 3).trans rfl, (blk_cell BK163.out 0).trans rfl, (blk_cell BK163.out 1).trans rfl⟩ (fun hHeld => ?_)
             clear hK K
             refine norm_ (a' := ?_) ?_ ?_
             rotate_left
             · show Act.put _ (some 51) _ = _
               simp only [Act.put, List.setIfInBounds_toArray, List.set_cons_zero, List.set_cons_succ, i64_w, i32_w]
               rfl
             refine one_ (i := 7) (N := some 52) #[true, true, true, true, true, true, true, true, false, false, false, false, false] rfl rfl (one_of HT_.out (by kernel_rfl)) (by decide) (fun K hK => ?_)
             refine goes_ Try.func37 (by kernel_rfl) rfl #[.agg #[.slice Ao32 t165.length co32, .slice Ao34 t168.length co34, .int .i64 t171, .bool false], .int .i64 (wrap64 (Int.tmod a1_0 2)), .string t181] (by rfl) rfl rfl args_ ?_
             with_reducible refine (disk_Write.calls _ _ t165 _ _ t168 t171 false (wrap64 (Int.tmod a1_0 2)) t181 t182 t185 t188 t189 t190 _ ?side1 ?side2 ?side3 ?side4 A63.out).mono ?_
             (case side1 => repeat (first | exact (Kd.R_reads' HO_163000.out).2.2 | (with_reducible refine Kd.C_alloc ?_ _) | (with_reducible refine Kd.C_drewN ?_ _) | (with_reducible refine Kd.C_drew ?_)))
             (case side2 => exact (Kd.R_reads' HO_163000.out).2.1)
             (case side3 => repeat (first | exact (Kd.R_reads' HO_163001.out).2.2 | (with_reducible refine Kd.C_alloc ?_ _) | (with_reducible refine Kd.C_drewN ?_ _) | (with_reducible refine Kd.C_drew ?_)))
             (case side4 => exact (Kd.R_reads' HO_163001.out).2.1)
             rintro e w88 ⟨v183, v186, rfl, ho0, ho1, hb⟩
             refine ⟨_, rfl, ?_⟩
             have n0_ := Aside0.mk (Kd.R_elder' (by (try apply RU); exact HO_163000.out) (Kd.R_base ho0) hb)
             have n1_ := Aside0.mk (Kd.R_elder' (by (try apply RU); exact HO_163001.out) (Kd.R_base ho1) hb)
             have n2_ := Aside0.mk (Kd.R_below (by (try apply RU); exact HO_181001.out) hb)
             have n3_ := Aside0.mk (Kd.R_lower (Kd.R_new' ho0 (Kd.R_lt (by (try apply RU); exact HO_163000.out))) (below_size bel_))
             have n4_ := Aside0.mk (Kd.R_lower (Kd.R_new' ho1 (Kd.R_lt (by (try apply RU); exact HO_163001.out))) (below_size bel_))
             have n5_ := Aside0.mk (blk_below (blkU BK162.out) hb)
             have n6_ := Aside0.mk (blk_below (blkU BK163.out) hb)
             have n7_ := Aside0.mk (blk_below (blkU BK164.out) hb)
             have n8_ := Aside0.mk (blk_below (blkU BK180.out) hb)
             have n9_ := Aside0.mk (below_step bel_ hb)
             clear HO_163000; clear HO_163001; clear HO_181001; clear BK162; clear BK163; clear BK164; clear BK180; clear HB
             have HO_163000 := n0_
             have HO_163001 := n1_
             have HO_181001 := n2_
             have HO184 := n3_
             have HO187 := n4_
             have BK162 := n5_
             have BK163 := n6_
             have BK164 := n7_
             have BK180 := n8_
             have HB := n9_
             clear n0_ n1_ n2_ n3_ n4_ n5_ n6_ n7_ n8_ n9_
             (try clear hb)
             (try clear hb2)
             (try clear hk)
             (try clear hi)
             (try clear ho0)
             (try clear ho1)
             obtain ⟨Ao89, co89, eo89⟩ := Kd.R_slice HO184.out
             (first | subst eo89 | (injection eo89 with f1_ f2_ f3_; have f4_ := f1_.symm; have f5_ := f3_.symm; clear f1_ f2_ f3_; subst f4_; subst f5_))
             obtain ⟨Ao91, co91, eo91⟩ := Kd.R_slice HO187.out
             (first | subst eo91 | (injection eo91 with f1_ f2_ f3_; have f4_ := f1_.symm; have f5_ := f3_.symm; clear f1_ f2_ f3_; subst f4_; subst f5_))
             refine hK.out _ _ ⟨(blk_cell BK162.out 0).trans rfl, (blk_cell BK162.out 1).trans rfl, (blk_cell BK162.out 2).trans rfl, (blk_cell BK162.out 3).trans rfl, (blk_cell BK163.out 0).trans rfl, (blk_cell BK163.out 1).trans rfl⟩ (fun hHeld => ?_)
             clear hK K
             refine norm_ (a' := ?_) ?_ ?_
             rotate_left
             · show Act.put _ (some 52) _ = _
               simp only [Act.put, List.setIfInBounds_toArray, List.set_cons_zero, List.set_cons_succ, i64_w, i32_w]
               rfl
             refine pure_ (i := 8) (N := some 44) (v := ?_) (a' := ?_) #[true, true, true, true, true, true, true, true, true, false, false, false, false] rfl rfl (any_of HT_.out (by kernel_rfl)) (fun _ _ _ h => h) (Or.inl ⟨by rfl, ?_⟩) ?_ ?_
             rotate_left
             · intro w'
               go_simp
               with_reducible rfl
             rotate_left
             · simp only [Act.put, List.setIfInBounds_toArray, List.set_cons_zero, List.set_cons_succ, i64_w, i32_w]
               rfl
             refine pure_ (i := 9) (N := some 53) (v := ?_) (a' := ?_) #[true, true, true, true, true, true, true, true, true, true, false, false, false] rfl rfl (any_of HT_.out (by kernel_rfl)) (fun _ _ _ h => h) (Or.inl ⟨by rfl, ?_⟩) ?_ ?_
             rotate_left
             · intro w'
               go_simp
               with_reducible rfl
             rotate_left
             · simp only [Act.put, List.setIfInBounds_toArray, List.set_cons_zero, List.set_cons_succ, i64_w, i32_w]
               rfl
             refine pure_ (i := 10) (N := some 54) (v := ?_) (a' := ?_) #[true, true, true, true, true, true, true, true, true, true, true, false, false] rfl rfl (any_of HT_.out (by kernel_rfl)) (fun _ _ _ h => h) (Or.inl ⟨by rfl, ?_⟩) ?_ ?_
             rotate_left
             · intro w'
               go_simp
               with_reducible rfl
             rotate_left
             · simp only [Act.put, List.setIfInBounds_toArray, List.set_cons_zero, List.set_cons_succ, i64_w, i32_w]
               rfl
             refine last_ (i := 11) (N := none) #[true, true, true, true, true, true, true, true, true, true, true, true, false] rfl rfl (one_of HT_.out (by kernel_rfl)) (by decide) (fun K hK => ?_)
             have hs90 : w88.cell? ⟨gb162, 0, none⟩ = some (.slice Ao32 t165.length co32) := (blk_cell BK162.out 0).trans rfl
             have hfs90 := blk_frozen BK162.out 0
             have hns90_1 := NB163_162.out
             have hns90_2 := NB164_162.out
             have hns90_3 := NB180_162.out
             have hms90_1 := NB162_163.out
             have hms90_2 := NB162_164.out
             have hms90_3 := NB162_180.out
             have hs92 : w88.cell? ⟨gb162, 1, none⟩ = some (.slice Ao34 t168.length co34) := (blk_cell BK162.out 1).trans rfl
             have hfs92 := blk_frozen BK162.out 1
             have hns92_1 := NB163_162.out
             have hns92_2 := NB164_162.out
             have hns92_3 := NB180_162.out
             have hms92_1 := NB162_163.out
             have hms92_2 := NB162_164.out
             have hms92_3 := NB162_180.out
             have hs93 : w88.cell? ⟨gb162, 2, none⟩ = some (.int .i64 t171) := (blk_cell BK162.out 2).trans rfl
             have hfs93 := blk_frozen BK162.out 2
             have hns93_1 := NB163_162.out
             have hns93_2 := NB164_162.out
             have hns93_3 := NB180_162.out
             have hms93_1 := NB162_163.out
             have hms93_2 := NB162_164.out
             have hms93_3 := NB162_180.out
             have hs94 : w88.cell? ⟨gb162, 3, none⟩ = some (.bool false) := (blk_cell BK162.out 3).trans rfl
             have hfs94 := blk_frozen BK162.out 3
             have hns94_1 := NB163_162.out
             have hns94_2 := NB164_162.out
             have hns94_3 := NB180_162.out
             have hms94_1 := NB162_163.out
             have hms94_2 := NB162_164.out
             have hms94_3 := NB162_180.out
             refine skip_ (w1 := ?_) (by rfl) rfl ?_ ?_
             rotate_left
             · go_simp
               rfl
             refine hK.out _ _ ?_
             clear hK K
             refine pure_ (i := 12) (N := some 6) (v := ?_) (a' := ?_) #[true, true, true, true, true, true, true, true, true, true, true, true, true] rfl rfl (any_of HT_.out (by kernel_rfl)) (fun _ _ _ h => h) (Or.inl ⟨by rfl, ?_⟩) ?_ ?_
             rotate_left
             · intro w'
               go_simp
               with_reducible rfl
             rotate_left
             · simp only [Act.put, List.setIfInBounds_toArray, List.set_cons_zero, List.set_cons_succ, i64_w, i32_w]
               rfl
             refine done_ (done_of HT_.out (by kernel_rfl)) ?_
             have hnb95 := NB162_163.out
             have hnc95 := NB163_162.out
             have hnb96 := NB162_164.out
             have hnc96 := NB164_162.out
             have hnb97 := NB162_180.out
             have hnc97 := NB180_162.out
             obtain ⟨hcz98_0, hcz98_1, hcz98_2, hcz98_3, hfz98_0, hfz98_1, hfz98_2, hfz98_3⟩ := cz4_ BK162.out
             have hnb99 := NB164_163.out
             have hnc99 := NB163_164.out
             have hnb100 := NB164_180.out
             have hnc100 := NB180_164.out
             obtain ⟨hcz101_0, hcz101_1, hcz101_2, hcz101_3, hfz101_0, hfz101_1, hfz101_2, hfz101_3⟩ := cz4_ BK164.out
             try go_wp2
             refine bodyPost_ret (results_ct rfl _ _ gb164 38 #[.slice Ao89 t182.length co89, .slice Ao91 t185.length co91, .int .i64 t188, .bool t189] (0, 0) _ rfl (by refine blkU ?_; refine blk_put (cs := #[.slice Ao89 t182.length co89, .slice Ao91 t185.length co91, .int .i64 t188, .bool false]) ?_ 3 _ rfl; refine blkU ?_; refine blk_put (cs := #[.slice Ao89 t182.length co89, .slice Ao91 t185.length co91, .int .i64 0, .bool false]) ?_ 2 _ rfl; refine blkU ?_; refine blk_put (cs := #[.slice Ao89 t182.length co89, .slice none 0 0, .int .i64 0, .bool false]) ?_ 1 _ rfl; refine blkU ?_; refine blk_put (cs := #[.slice none 0 0, .slice none 0 0, .int .i64 0, .bool false]) ?_ 0 _ rfl; refine blkU ?_; refine blk_far ?_ NB164_162.out _; refine blkU ?_; refine blk_far ?_ NB164_162.out _; refine blkU ?_; refine blk_far ?_ NB164_162.out _; refine blkU ?_; refine blk_far ?_ NB164_162.out _; refine blkU ?_; exact BK164.out) Try.underlying38 rfl (by kernel_rfl)) rfl ?_
             exact ⟨_, _, by first | rfl | (simp [errW_none, errW_some] <;> rfl) | (simp [*, errW_none, errW_some] <;> rfl), by (try apply RU); exact Kd.R_mono (Kd.R_far (p := ⟨gb164, 3, none⟩) (Kd.R_far (p := ⟨gb164, 2, none⟩) (Kd.R_far (p := ⟨gb164, 1, none⟩) (Kd.R_far (p := ⟨gb164, 0, none⟩) (Kd.R_far (p := ⟨gb162, 3, none⟩) (Kd.R_far (p := ⟨gb162, 2, none⟩) (Kd.R_far (p := ⟨gb162, 1, none⟩) (Kd.R_far (p := ⟨gb162, 0, none⟩) (Kd.R_types (Kd.R_types HO184.out BK162.out (by decide)) BK164.out (by decide)) (fun _ hk => hk.1.2) (.slice Ao89 t182.length co89)) (fun _ hk => hk.1.2) (.slice Ao91 t185.length co91)) (fun _ hk => hk.1.2) (.int .i64 t188)) (fun _ hk => hk.1.2) (.bool t189)) (fun _ hk => hk.2) (.slice Ao89 t182.length co89)) (fun _ hk => hk.2) (.slice Ao91 t185.length co91)) (fun _ hk => hk.2) (.int .i64 t188)) (fun _ hk => hk.2) (.bool t189)) (fun _ hk => trivial), by (try apply RU); exact Kd.R_mono (Kd.R_far (p := ⟨gb164, 3, none⟩) (Kd.R_far (p := ⟨gb164, 2, none⟩) (Kd.R_far (p := ⟨gb164, 1, none⟩) (Kd.R_far (p := ⟨gb164, 0, none⟩) (Kd.R_far (p := ⟨gb162, 3, none⟩) (Kd.R_far (p := ⟨gb162, 2, none⟩) (Kd.R_far (p := ⟨gb162, 1, none⟩) (Kd.R_far (p := ⟨gb162, 0, none⟩) (Kd.R_types (Kd.R_types HO187.out BK162.out (by decide)) BK164.out (by decide)) (fun _ hk => hk.1.2) (.slice Ao89 t182.length co89)) (fun _ hk => hk.1.2) (.slice Ao91 t185.length co91)) (fun _ hk => hk.1.2) (.int .i64 t188)) (fun _ hk => hk.1.2) (.bool t189)) (fun _ hk => hk.2) (.slice Ao89 t182.length co89)) (fun _ hk => hk.2) (.slice Ao91 t185.length co91)) (fun _ hk => hk.2) (.int .i64 t188)) (fun _ hk => hk.2) (.bool t189)) (fun _ hk => trivial), bel_⟩
   · rw [if_neg c6] at H
     have c6b0 : (t174 == 0) = false := beq_eq_false_iff_ne.mpr c6
     have c6b1 : (t174 != 0) = true := bne_iff_ne.mpr c6
     simp only [Option.some.injEq, Prod.mk.injEq] at H
     obtain ⟨rfl, rfl, rfl, rfl, rfl⟩ := H
     go_enter Try.func19, Try.ntmps19
     go_wp2_with (first | ((with_reducible refine gate_dst (N := 2) rfl ?_); refine box_event ?hg (N := 2) ?hd (cs := #[.slice A0_0 l0_0.length c0_0, .slice A0_1 l0_1.length c0_1, .int .i64 a0_2, .bool a0_3]) (t := 38) ?hr ?_; (case hd => rfl); (case hg => rfl); (case hr => first | (go_simp; done) | (go_simp; rfl)); intro gb162 hg w102 hbox hb; have n0_ := Aside0.mk (below_step bel_ hb); have n1_ := Aside0.mk (hbox); have n2_ := Aside0.mk ((gE_ hg : w.heap.size ≤ gb162)); have n3_ := Aside0.mk ((gE_ hg : w.heap.size ≤ gb162)); clear HB; have HB := n0_; have BK162 := n1_; have GW162 := n2_; have GE162 := n3_; clear n0_ n1_ n2_ n3_; clear hb hbox hg) | ((with_reducible refine gate_dst (N := 3) rfl ?_); refine box_event ?hg (N := 3) ?hd (cs := #[.int .u64 a1_0, .slice A1_1 l1_1.length c1_1]) (t := 25) ?hr ?_; (case hd => rfl); (case hg => rfl); (case hr => first | (go_simp; done) | (go_simp; rfl)); intro gb163 hg w103 hbox hb; have n0_ := Aside0.mk (blk_below (blkU BK162.out) hb); have n1_ := Aside0.mk (below_step bel_ hb); have n2_ := Aside0.mk (hbox); have n3_ := Aside0.mk ((gE_ hg : w.heap.size ≤ gb163)); have n4_ := Aside0.mk ((gE_ hg : w.heap.size ≤ gb163)); have n5_ := Aside0.mk ((by rw [hg]; exact Nat.ne_of_lt (blk_lt (blkU BK162.out)) : gb162 ≠ gb163)); have n6_ := Aside0.mk ((by rw [hg]; exact Nat.ne_of_gt (blk_lt (blkU BK162.out)) : gb163 ≠ gb162)); clear BK162; clear HB; have BK162 := n0_; have HB := n1_; have BK163 := n2_; have GW163 := n3_; have GE163 := n4_; have NB162_163 := n5_; have NB163_162 := n6_; clear n0_ n1_ n2_ n3_ n4_ n5_ n6_; clear hb hbox hg) | ((with_reducible refine gate_dst (N := 4) rfl ?_); refine box_event ?hg (N := 4) ?hd (cs := #[.slice none 0 0, .slice none 0 0, .int .i64 0, .bool false]) (t := 38) ?hr ?_; (case hd => rfl); (case hg => rfl); (case hr => first | (go_simp; done) | (go_simp; rfl)); intro gb164 hg w104 hbox hb; have n0_ := Aside0.mk (blk_below (blkU BK162.out) hb); have n1_ := Aside0.mk (blk_below (blkU BK163.out) hb); have n2_ := Aside0.mk (below_step bel_ hb); have n3_ := Aside0.mk (hbox); have n4_ := Aside0.mk ((gE_ hg : w.heap.size ≤ gb164)); have n5_ := Aside0.mk ((gE_ hg : w.heap.size ≤ gb164)); have n6_ := Aside0.mk ((by rw [hg]; exact Nat.ne_of_lt (blk_lt (blkU BK162.out)) : gb162 ≠ gb164)); have n7_ := Aside0.mk ((by rw [hg]; exact Nat.ne_of_gt (blk_lt (blkU BK162.out)) : gb164 ≠ gb162)); have n8_ := Aside0.mk ((by rw [hg]; exact Nat.ne_of_lt (blk_lt (blkU BK163.out)) : gb163 ≠ gb164)); have n9_ := Aside0.mk ((by rw [hg]; exact Nat.ne_of_gt (blk_lt (blkU BK163.out)) : gb164 ≠ gb163)); clear BK162; clear BK163; clear HB; have BK162 := n0_; have BK163 := n1_; have HB := n2_; have BK164 := n3_; have GW164 := n4_; have GE164 := n5_; have NB162_164 := n6_; have NB164_162 := n7_; have NB163_164 := n8_; have NB164_163 := n9_; clear n0_ n1_ n2_ n3_ n4_ n5_ n6_ n7_ n8_ n9_; clear hb hbox hg; have hnb105 := NB162_163.out; have hnc105 := NB163_162.out; have hnb106 := NB162_164.out; have hnc106 := NB164_162.out; obtain ⟨hcz107_0, hcz107_1, hcz107_2, hcz107_3, hfz107_0, hfz107_1, hfz107_2, hfz107_3⟩ := cz4_ BK162.out) | ((with_reducible refine gate_callee (f := 36) rfl ?_); refine goesL_ (some 12) rfl rfl Try.func36 (by kernel_rfl) rfl #[.agg #[.slice A0_0 l0_0.length c0_0, .slice A0_1 l0_1.length c0_1, .int .i64 a0_2, .bool a0_3]] rfl args_ ?_; (with_reducible refine (disk_Own.calls _ _ l0_0 _ _ l0_1 a0_2 a0_3 t165 t168 t171 t172 t173 _ ?side1 ?side2 ?side3 ?side4 A3.out).mono ?_); (case side1 => exact CU (Kd.C_below HR0_0.out HB.out)); (case side2 => exact HC0_0.out); (case side3 => exact CU (Kd.C_below HR0_1.out HB.out)); (case side4 => exact HC0_1.out); rintro e w108 ⟨v166, v169, rfl, ho0, ho1, hb⟩; refine ⟨_, rfl, ?_⟩; have n0_ := Aside0.mk (Kd.R_lower ho0 (below_size bel_)); have n1_ := Aside0.mk (Kd.R_lower ho1 (below_size bel_)); have n2_ := Aside0.mk (blk_below (blkU BK162.out) hb); have n3_ := Aside0.mk (blk_below (blkU BK163.out) hb); have n4_ := Aside0.mk (blk_below (blkU BK164.out) hb); have n5_ := Aside0.mk (below_step bel_ hb); clear BK162; clear BK163; clear BK164; clear HB; have HO167 := n0_; have HO170 := n1_; have BK162 := n2_; have BK163 := n3_; have BK164 := n4_; have HB := n5_; clear n0_ n1_ n2_ n3_ n4_ n5_; (try clear hb); (try clear hb2); (try clear hk); (try clear hi); (try clear ho0); (try clear ho1); obtain ⟨Ao109, co109, eo109⟩ := Kd.R_slice HO167.out; subst eo109; obtain ⟨hcz110_0, hcz110_1, hcz110_2, hcz110_3, hfz110_0, hfz110_1, hfz110_2, hfz110_3⟩ := cz4_ BK162.out; obtain ⟨Ao111, co111, eo111⟩ := Kd.R_slice HO170.out; subst eo111; have hnb112 := NB163_164.out; have hnc112 := NB164_163.out; obtain ⟨hcz113_0, hcz113_1, hfz113_0, hfz113_1⟩ := cz2_ BK163.out) | ((with_reducible refine gate_callee (f := 13) rfl ?_); refine goesL_ (some 20) rfl rfl Try.func13 (by kernel_rfl) rfl #[.agg #[.int .u64 a1_0, .slice A1_1 l1_1.length c1_1]] rfl args_ ?_; (with_reducible refine (manifest_Check.calls a1_0 _ _ l1_1 t174 _ ?side1 ?side2 A5.out).mono ?_); (case side1 => exact Kd.C_below HR1_1.out bel_); (case side2 => exact HC1_1.out); rintro e w114 ⟨rfl, hb⟩; refine ⟨_, rfl, ?_⟩; have n0_ := Aside0.mk (Kd.R_below (by (try apply RU); exact (Kd.R_mono (Kd.R_far (p := ⟨gb162, 3, none⟩) (Kd.R_far (p := ⟨gb162, 2, none⟩) (Kd.R_far (p := ⟨gb162, 1, none⟩) (Kd.R_far (p := ⟨gb162, 0, none⟩) (Kd.R_types HO167.out BK162.out (by decide)) (fun _ hk => hk.2) (.slice Ao109 t165.length co109)) (fun _ hk => hk.2) (.slice Ao111 t168.length co111)) (fun _ hk => hk.2) (.int .i64 t171)) (fun _ hk => hk.2) (.bool t172)) (fun _ h_ => h_.1))) hb); have n1_ := Aside0.mk (Kd.R_below (by (try apply RU); exact (Kd.R_mono (Kd.R_far (p := ⟨gb162, 3, none⟩) (Kd.R_far (p := ⟨gb162, 2, none⟩) (Kd.R_far (p := ⟨gb162, 1, none⟩) (Kd.R_far (p := ⟨gb162, 0, none⟩) (Kd.R_types HO170.out BK162.out (by decide)) (fun _ hk => hk.2) (.slice Ao109 t165.length co109)) (fun _ hk => hk.2) (.slice Ao111 t168.length co111)) (fun _ hk => hk.2) (.int .i64 t171)) (fun _ hk => hk.2) (.bool t172)) (fun _ h_ => h_.1))) hb); have n2_ := Aside0.mk (blk_below (g := gb162) (o := .cells #[.slice Ao109 t165.length co109, .slice Ao111 t168.length co111, .int .i64 t171, .bool t172] 38 (0, 0)) (by refine blkU ?_; refine blk_put (cs := #[.slice Ao109 t165.length co109, .slice Ao111 t168.length co111, .int .i64 t171, .bool a0_3]) ?_ 3 _ rfl; refine blkU ?_; refine blk_put (cs := #[.slice Ao109 t165.length co109, .slice Ao111 t168.length co111, .int .i64 a0_2, .bool a0_3]) ?_ 2 _ rfl; refine blkU ?_; refine blk_put (cs := #[.slice Ao109 t165.length co109, .slice A0_1 l0_1.length c0_1, .int .i64 a0_2, .bool a0_3]) ?_ 1 _ rfl; refine blkU ?_; refine blk_put (cs := #[.slice A0_0 l0_0.length c0_0, .slice A0_1 l0_1.length c0_1, .int .i64 a0_2, .bool a0_3]) ?_ 0 _ rfl; refine blkU ?_; exact BK162.out) hb); have n3_ := Aside0.mk (blk_below (g := gb163) (o := .cells #[.int .u64 a1_0, .slice A1_1 l1_1.length c1_1] 25 (0, 0)) (by refine blkU ?_; refine blk_far ?_ NB163_162.out _; refine blkU ?_; refine blk_far ?_ NB163_162.out _; refine blkU ?_; refine blk_far ?_ NB163_162.out _; refine blkU ?_; refine blk_far ?_ NB163_162.out _; refine blkU ?_; exact BK163.out) hb); have n4_ := Aside0.mk (blk_below (g := gb164) (o := .cells #[.slice none 0 0, .slice none 0 0, .int .i64 0, .bool false] 38 (0, 0)) (by refine blkU ?_; refine blk_far ?_ NB164_162.out _; refine blkU ?_; refine blk_far ?_ NB164_162.out _; refine blkU ?_; refine blk_far ?_ NB164_162.out _; refine blkU ?_; refine blk_far ?_ NB164_162.out _; refine blkU ?_; exact BK164.out) hb); have n5_ := Aside0.mk (below_step bel_ hb); clear HO167; clear HO170; clear BK162; clear BK163; clear BK164; clear HB; have HO167 := n0_; have HO170 := n1_; have BK162 := n2_; have BK163 := n3_; have BK164 := n4_; have HB := n5_; clear n0_ n1_ n2_ n3_ n4_ n5_; (try clear hb); (try clear hb2); (try clear hk); (try clear hi); obtain ⟨hcz115_0, hcz115_1, hcz115_2, hcz115_3, hfz115_0, hfz115_1, hfz115_2, hfz115_3⟩ := cz4_ BK162.out; obtain ⟨hcz116_0, hcz116_1, hcz116_2, hcz116_3, hfz116_0, hfz116_1, hfz116_2, hfz116_3⟩ := cz4_ BK164.out))
     refine bodyPost_ret (results_ct rfl _ _ gb164 38 #[.slice Ao109 t165.length co109, .slice Ao111 t168.length co111, .int .i64 t171, .bool t172] (0, 0) _ rfl (by refine blkU ?_; refine blk_put (cs := #[.slice Ao109 t165.length co109, .slice Ao111 t168.length co111, .int .i64 t171, .bool false]) ?_ 3 _ rfl; refine blkU ?_; refine blk_put (cs := #[.slice Ao109 t165.length co109, .slice Ao111 t168.length co111, .int .i64 0, .bool false]) ?_ 2 _ rfl; refine blkU ?_; refine blk_put (cs := #[.slice Ao109 t165.length co109, .slice none 0 0, .int .i64 0, .bool false]) ?_ 1 _ rfl; refine blkU ?_; refine blk_put (cs := #[.slice none 0 0, .slice none 0 0, .int .i64 0, .bool false]) ?_ 0 _ rfl; refine blkU ?_; exact BK164.out) Try.underlying38 rfl (by kernel_rfl)) rfl ?_
     exact ⟨_, _, by first | rfl | (simp [errW_none, errW_some] <;> rfl) | (simp [*, errW_none, errW_some] <;> rfl), by (try apply RU); exact Kd.R_mono (Kd.R_far (p := ⟨gb164, 3, none⟩) (Kd.R_far (p := ⟨gb164, 2, none⟩) (Kd.R_far (p := ⟨gb164, 1, none⟩) (Kd.R_far (p := ⟨gb164, 0, none⟩) (Kd.R_types HO167.out BK164.out (by decide)) (fun _ hk => hk.2) (.slice Ao109 t165.length co109)) (fun _ hk => hk.2) (.slice Ao111 t168.length co111)) (fun _ hk => hk.2) (.int .i64 t171)) (fun _ hk => hk.2) (.bool t172)) (fun _ hk => trivial), by (try apply RU); exact Kd.R_mono (Kd.R_far (p := ⟨gb164, 3, none⟩) (Kd.R_far (p := ⟨gb164, 2, none⟩) (Kd.R_far (p := ⟨gb164, 1, none⟩) (Kd.R_far (p := ⟨gb164, 0, none⟩) (Kd.R_types HO170.out BK164.out (by decide)) (fun _ hk => hk.2) (.slice Ao109 t165.length co109)) (fun _ hk => hk.2) (.slice Ao111 t168.length co111)) (fun _ hk => hk.2) (.int .i64 t171)) (fun _ hk => hk.2) (.bool t172)) (fun _ hk => trivial), bel_⟩
 · rw [if_neg c4] at H
   have c4b0 : (t173 == 0) = false := beq_eq_false_iff_ne.mpr c4
   have c4b1 : (t173 != 0) = true := bne_iff_ne.mpr c4
   simp only [Option.some.injEq, Prod.mk.injEq] at H
   obtain ⟨rfl, rfl, rfl, rfl, rfl⟩ := H
   go_enter Try.func19, Try.ntmps19
   go_wp2_with (first | ((with_reducible refine gate_dst (N := 2) rfl ?_); refine box_event ?hg (N := 2) ?hd (cs := #[.slice A0_0 l0_0.length c0_0, .slice A0_1 l0_1.length c0_1, .int .i64 a0_2, .bool a0_3]) (t := 38) ?hr ?_; (case hd => rfl); (case hg => rfl); (case hr => first | (go_simp; done) | (go_simp; rfl)); intro gb162 hg w117 hbox hb; have n0_ := Aside0.mk (below_step bel_ hb); have n1_ := Aside0.mk (hbox); have n2_ := Aside0.mk ((gE_ hg : w.heap.size ≤ gb162)); have n3_ := Aside0.mk ((gE_ hg : w.heap.size ≤ gb162)); clear HB; have HB := n0_; have BK162 := n1_; have GW162 := n2_; have GE162 := n3_; clear n0_ n1_ n2_ n3_; clear hb hbox hg) | ((with_reducible refine gate_dst (N := 3) rfl ?_); refine box_event ?hg (N := 3) ?hd (cs := #[.int .u64 a1_0, .slice A1_1 l1_1.length c1_1]) (t := 25) ?hr ?_; (case hd => rfl); (case hg => rfl); (case hr => first | (go_simp; done) | (go_simp; rfl)); intro gb163 hg w118 hbox hb; have n0_ := Aside0.mk (blk_below (blkU BK162.out) hb); have n1_ := Aside0.mk (below_step bel_ hb); have n2_ := Aside0.mk (hbox); have n3_ := Aside0.mk ((gE_ hg : w.heap.size ≤ gb163)); have n4_ := Aside0.mk ((gE_ hg : w.heap.size ≤ gb163)); have n5_ := Aside0.mk ((by rw [hg]; exact Nat.ne_of_lt (blk_lt (blkU BK162.out)) : gb162 ≠ gb163)); have n6_ := Aside0.mk ((by rw [hg]; exact Nat.ne_of_gt (blk_lt (blkU BK162.out)) : gb163 ≠ gb162)); clear BK162; clear HB; have BK162 := n0_; have HB := n1_; have BK163 := n2_; have GW163 := n3_; have GE163 := n4_; have NB162_163 := n5_; have NB163_162 := n6_; clear n0_ n1_ n2_ n3_ n4_ n5_ n6_; clear hb hbox hg) | ((with_reducible refine gate_dst (N := 4) rfl ?_); refine box_event ?hg (N := 4) ?hd (cs := #[.slice none 0 0, .slice none 0 0, .int .i64 0, .bool false]) (t := 38) ?hr ?_; (case hd => rfl); (case hg => rfl); (case hr => first | (go_simp; done) | (go_simp; rfl)); intro gb164 hg w119 hbox hb; have n0_ := Aside0.mk (blk_below (blkU BK162.out) hb); have n1_ := Aside0.mk (blk_below (blkU BK163.out) hb); have n2_ := Aside0.mk (below_step bel_ hb); have n3_ := Aside0.mk (hbox); have n4_ := Aside0.mk ((gE_ hg : w.heap.size ≤ gb164)); have n5_ := Aside0.mk ((gE_ hg : w.heap.size ≤ gb164)); have n6_ := Aside0.mk ((by rw [hg]; exact Nat.ne_of_lt (blk_lt (blkU BK162.out)) : gb162 ≠ gb164)); have n7_ := Aside0.mk ((by rw [hg]; exact Nat.ne_of_gt (blk_lt (blkU BK162.out)) : gb164 ≠ gb162)); have n8_ := Aside0.mk ((by rw [hg]; exact Nat.ne_of_lt (blk_lt (blkU BK163.out)) : gb163 ≠ gb164)); have n9_ := Aside0.mk ((by rw [hg]; exact Nat.ne_of_gt (blk_lt (blkU BK163.out)) : gb164 ≠ gb163)); clear BK162; clear BK163; clear HB; have BK162 := n0_; have BK163 := n1_; have HB := n2_; have BK164 := n3_; have GW164 := n4_; have GE164 := n5_; have NB162_164 := n6_; have NB164_162 := n7_; have NB163_164 := n8_; have NB164_163 := n9_; clear n0_ n1_ n2_ n3_ n4_ n5_ n6_ n7_ n8_ n9_; clear hb hbox hg; have hnb120 := NB162_163.out; have hnc120 := NB163_162.out; have hnb121 := NB162_164.out; have hnc121 := NB164_162.out; obtain ⟨hcz122_0, hcz122_1, hcz122_2, hcz122_3, hfz122_0, hfz122_1, hfz122_2, hfz122_3⟩ := cz4_ BK162.out) | ((with_reducible refine gate_callee (f := 36) rfl ?_); refine goesL_ (some 12) rfl rfl Try.func36 (by kernel_rfl) rfl #[.agg #[.slice A0_0 l0_0.length c0_0, .slice A0_1 l0_1.length c0_1, .int .i64 a0_2, .bool a0_3]] rfl args_ ?_; (with_reducible refine (disk_Own.calls _ _ l0_0 _ _ l0_1 a0_2 a0_3 t165 t168 t171 t172 t173 _ ?side1 ?side2 ?side3 ?side4 A3.out).mono ?_); (case side1 => exact CU (Kd.C_below HR0_0.out HB.out)); (case side2 => exact HC0_0.out); (case side3 => exact CU (Kd.C_below HR0_1.out HB.out)); (case side4 => exact HC0_1.out); rintro e w123 ⟨v166, v169, rfl, ho0, ho1, hb⟩; refine ⟨_, rfl, ?_⟩; have n0_ := Aside0.mk (Kd.R_lower ho0 (below_size bel_)); have n1_ := Aside0.mk (Kd.R_lower ho1 (below_size bel_)); have n2_ := Aside0.mk (blk_below (blkU BK162.out) hb); have n3_ := Aside0.mk (blk_below (blkU BK163.out) hb); have n4_ := Aside0.mk (blk_below (blkU BK164.out) hb); have n5_ := Aside0.mk (below_step bel_ hb); clear BK162; clear BK163; clear BK164; clear HB; have HO167 := n0_; have HO170 := n1_; have BK162 := n2_; have BK163 := n3_; have BK164 := n4_; have HB := n5_; clear n0_ n1_ n2_ n3_ n4_ n5_; (try clear hb); (try clear hb2); (try clear hk); (try clear hi); (try clear ho0); (try clear ho1); obtain ⟨Ao124, co124, eo124⟩ := Kd.R_slice HO167.out; subst eo124; obtain ⟨hcz125_0, hcz125_1, hcz125_2, hcz125_3, hfz125_0, hfz125_1, hfz125_2, hfz125_3⟩ := cz4_ BK162.out; obtain ⟨Ao126, co126, eo126⟩ := Kd.R_slice HO170.out; subst eo126; have hnb127 := NB164_163.out; have hnc127 := NB163_164.out; obtain ⟨hcz128_0, hcz128_1, hcz128_2, hcz128_3, hfz128_0, hfz128_1, hfz128_2, hfz128_3⟩ := cz4_ BK164.out))
   refine bodyPost_ret (results_ct rfl _ _ gb164 38 #[.slice Ao124 t165.length co124, .slice Ao126 t168.length co126, .int .i64 t171, .bool t172] (0, 0) _ rfl (by refine blkU ?_; refine blk_put (cs := #[.slice Ao124 t165.length co124, .slice Ao126 t168.length co126, .int .i64 t171, .bool false]) ?_ 3 _ rfl; refine blkU ?_; refine blk_put (cs := #[.slice Ao124 t165.length co124, .slice Ao126 t168.length co126, .int .i64 0, .bool false]) ?_ 2 _ rfl; refine blkU ?_; refine blk_put (cs := #[.slice Ao124 t165.length co124, .slice none 0 0, .int .i64 0, .bool false]) ?_ 1 _ rfl; refine blkU ?_; refine blk_put (cs := #[.slice none 0 0, .slice none 0 0, .int .i64 0, .bool false]) ?_ 0 _ rfl; refine blkU ?_; refine blk_far ?_ NB164_162.out _; refine blkU ?_; refine blk_far ?_ NB164_162.out _; refine blkU ?_; refine blk_far ?_ NB164_162.out _; refine blkU ?_; refine blk_far ?_ NB164_162.out _; refine blkU ?_; exact BK164.out) Try.underlying38 rfl (by kernel_rfl)) rfl ?_
   exact ⟨_, _, by first | rfl | (simp [errW_none, errW_some] <;> rfl) | (simp [*, errW_none, errW_some] <;> rfl), by (try apply RU); exact Kd.R_mono (Kd.R_far (p := ⟨gb164, 3, none⟩) (Kd.R_far (p := ⟨gb164, 2, none⟩) (Kd.R_far (p := ⟨gb164, 1, none⟩) (Kd.R_far (p := ⟨gb164, 0, none⟩) (Kd.R_far (p := ⟨gb162, 3, none⟩) (Kd.R_far (p := ⟨gb162, 2, none⟩) (Kd.R_far (p := ⟨gb162, 1, none⟩) (Kd.R_far (p := ⟨gb162, 0, none⟩) (Kd.R_types (Kd.R_types HO167.out BK162.out (by decide)) BK164.out (by decide)) (fun _ hk => hk.1.2) (.slice Ao124 t165.length co124)) (fun _ hk => hk.1.2) (.slice Ao126 t168.length co126)) (fun _ hk => hk.1.2) (.int .i64 t171)) (fun _ hk => hk.1.2) (.bool t172)) (fun _ hk => hk.2) (.slice Ao124 t165.length co124)) (fun _ hk => hk.2) (.slice Ao126 t168.length co126)) (fun _ hk => hk.2) (.int .i64 t171)) (fun _ hk => hk.2) (.bool t172)) (fun _ hk => trivial), by (try apply RU); exact Kd.R_mono (Kd.R_far (p := ⟨gb164, 3, none⟩) (Kd.R_far (p := ⟨gb164, 2, none⟩) (Kd.R_far (p := ⟨gb164, 1, none⟩) (Kd.R_far (p := ⟨gb164, 0, none⟩) (Kd.R_far (p := ⟨gb162, 3, none⟩) (Kd.R_far (p := ⟨gb162, 2, none⟩) (Kd.R_far (p := ⟨gb162, 1, none⟩) (Kd.R_far (p := ⟨gb162, 0, none⟩) (Kd.R_types (Kd.R_types HO170.out BK162.out (by decide)) BK164.out (by decide)) (fun _ hk => hk.1.2) (.slice Ao124 t165.length co124)) (fun _ hk => hk.1.2) (.slice Ao126 t168.length co126)) (fun _ hk => hk.1.2) (.int .i64 t171)) (fun _ hk => hk.1.2) (.bool t172)) (fun _ hk => hk.2) (.slice Ao124 t165.length co124)) (fun _ hk => hk.2) (.slice Ao126 t168.length co126)) (fun _ hk => hk.2) (.int .i64 t171)) (fun _ hk => hk.2) (.bool t172)) (fun _ hk => trivial), bel_⟩
end Go.Proofs.Ytjagplonneednaa.P
