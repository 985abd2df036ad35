-- kept, by a program of this session, of a text that the printer or this session wrote
import Derived.Test.YtjagplonneednaaZPx0
import Derived.Test.YtjagplonneednaaZPx30013
import Derived.Test.YtjagplonneednaaZPx30026
import Derived.Test.YtjagplonneednaaZPx1009
import Derived.Test.YtjagplonneednaaZPx1010
import Derived.Test.YtjagplonneednaaZPx30025
namespace Go.Proofs.Ytjagplonneednaa.P
open Go.RowKit Go.Proofs.YtjagplonneednaaW.PrintWords Go.Proofs.YtjagplonneednaaW.PrintLast Go.Proofs.YtjagplonneednaaW.PrintMore
attribute [local go_sem] max2_int min2_int max_two min_two max_three min_three max_four min_four
set_option linter.unusedVariables false
set_option linter.unusedSimpArgs false
def rparts (k : Nat) (s : ByteArray) : Nat → Nat → List S56 → Option (Option (List S56))
 | 0, _, l => some (some l)
 | d + 1, i, l => (spoorref05_Number.f k ((s.extract (9 + 13 * i) (9 + 13 * i + 13)).extract 9 13)).bind fun n => if n > 1048577 then some none else
  (spoorref05_Number.f k ((s.extract (9 + 13 * i) (9 + 13 * i + 13)).extract 1 9)).bind fun t => rparts k s d (i + 1) (l ++ [⟨wrap64 (bt (s.extract (9 + 13 * i) (9 + 13 * i + 13)) 0), t, wrap64 (wrap64 n - 1)⟩])
theorem rparts.mono (s : ByteArray) (k : Nat) : ∀ d i l, LeO (rparts k s d i l) (rparts (k + 1) s d i l) := by
 intro d
 induction d with
 | zero => intro i l; exact LeO.refl _
 | succ d ih =>
  intro i l
  exact LeO.bind (spoorref05_Number.mono _ _) (fun _ => LeO.ite (LeO.refl _) (LeO.bind (spoorref05_Number.mono _ _) (fun _ => ih _ _)))
def spoorref06_Get.f (k : Nat) (a0 : ByteArray) : Option (Int × List S56 × Int) :=
 if a0.size = 128 then
  (spoorref05_Number.f k (a0.extract 0 8)).bind fun n =>
  if (a0.extract 0 8).toList ≠ (a0.extract 120 128).toList then some (0, [], 3) else if n = 0 then some (0, [], 3) else
  (spoorref02_Of.f k (a0.extract 0 116)).bind fun c => (spoorref02_Text.f c).bind fun t =>
  if t.toList ≠ (a0.extract 116 120).toList then some (0, [], 6) else
  if bt a0 8 > 8 then some (0, [], 7) else
  (rparts k a0 (bt a0 8).toNat 0 []).bind fun o => match o with
   | none => some (0, [], 7)
   | some l => (spoorref06_Put.f k n l).bind fun p => if p.2 ≠ 0 then some (0, [], 7) else if p.1.toList ≠ a0.toList then some (0, [], 7) else some (n, l, 0)
 else some (0, [], 11)
def spoorref06_Get.Goal (a0 : ByteArray) (r1 : Int) (r2 : List (S56)) (r3 : Int) (w : World) : Prop := Calls Try.prog 11 #[.string a0] w fun e w' => ∃ v1_ : Value, e = .returned (.tuple #[.agg #[.int .u64 r1, v1_], .int .i64 r3]) ∧ Kd.R k56 56 w' w.heap.size (fun _ => True) v1_ r2 ∧ Below w.heap.size w w'
set_option maxHeartbeats 16000000 in
set_option maxRecDepth 100000 in
theorem spoorref06_Get.long (a0 : ByteArray) (ht : ¬ a0.size = 128) (w : World) : spoorref06_Get.Goal a0 0 [] 11 w := by
 unfold spoorref06_Get.Goal
 have d0 : ((a0.size : Int) != 128) = true := bne_iff_ne.mpr (by omega)
 have d1 : (a0.size != 128) = true := bne_iff_ne.mpr ht
 go_enter Try.func11, Try.ntmps11
 go_wp2_with ((with_reducible refine gate_dst (N := 2) rfl ?_); refine box_event ?hg (N := 2) ?hd (cs := #[.int .u64 0, .slice none 0 0]) (t := 25) ?hr ?_; (case hd => rfl); (case hg => rfl); (case hr => first | (go_simp; done) | (go_simp; rfl)); intro gr hgr w1 hbox hb1; have GR := Aside0.mk (by rw [hgr]; exact Nat.le_refl _ : w.heap.size ≤ gr); have HR := Aside0.mk hbox; have HB := Aside0.mk (Below.trans (Below.refl _ _) hb1); obtain ⟨r0, r1⟩ := manifest_cells hbox; have q0 := blk_frozen hbox 0; have q1 := blk_frozen hbox 1; clear hgr hbox hb1)
 refine bodyPost_ret (results_ct rfl _ _ gr 25 #[.int .u64 0, .slice none 0 0] (0, 0) _ rfl (by refine blkU ?_; refine blk_put (cs := #[.int .u64 0, .slice none 0 0]) ?_ 1 _ rfl; refine blkU ?_; refine blk_put (cs := #[.int .u64 0, .slice none 0 0]) ?_ 0 _ rfl; (repeat (first | exact HR.out | (with_reducible refine blk_drewN ?_ _) | (with_reducible refine blk_drew ?_) | (with_reducible refine blk_alloc ?_ _)))) Try.underlying25 rfl (by kernel_rfl)) rfl ?_
 exact ⟨_, rfl, Kd.R_nil _ _ _ _ _, by repeat (first | (with_reducible first | exact HB.out | apply below_alloc | apply pw_below_drewN | apply below_drew1 | refine below_set ?_ GR.out) | exact HB.out)⟩
set_option maxHeartbeats 16000000 in
set_option maxRecDepth 100000 in
theorem spoorref06_Get.main (k : Nat) (a0 : ByteArray) (ht : a0.size = 128) (n : Int) (hn : spoorref05_Number.f k (a0.extract 0 8) = some n) (r1 : Int) (r2 : List (S56)) (r3 : Int) (w : World)
 (h : (if (a0.extract 0 8).toList ≠ (a0.extract 120 128).toList then (some ((0 : Int), ([] : List S56), (3 : Int)) : Option (Int × List S56 × Int)) else if n = 0 then some (0, [], 3) else
 (spoorref02_Of.f k (a0.extract 0 116)).bind fun c => (spoorref02_Text.f c).bind fun t =>
 if t.toList ≠ (a0.extract 116 120).toList then some (0, [], 6) else
 if bt a0 8 > 8 then some (0, [], 7) else
 (rparts k a0 (bt a0 8).toNat 0 []).bind fun o => match o with
  | none => some (0, [], 7)
  | some l => (spoorref06_Put.f k n l).bind fun p => if p.2 ≠ 0 then some (0, [], 7) else if p.1.toList ≠ a0.toList then some (0, [], 7) else some (n, l, 0)) = some (r1, r2, r3)) : spoorref06_Get.Goal a0 r1 r2 r3 w := by
 unfold spoorref06_Get.Goal
 have HN := Aside0.mk hn
 have H0 := Aside0.mk h
 have d0 : ((a0.size : Int) != 128) = false := bne_eq_false_iff_eq.mpr (by omega)
 have d1 : (a0.size != 128) = false := bne_eq_false_iff_eq.mpr ht
 clear h hn
 go_enter Try.func11, Try.ntmps11
 go_upto_region 4 with (first
  | ((with_reducible refine gate_dst (N := 2) rfl ?_); refine box_event ?hg (N := 2) ?hd (cs := #[.int .u64 0, .slice none 0 0]) (t := 25) ?hr ?_; (case hd => rfl); (case hg => rfl); (case hr => first | (go_simp; done) | (go_simp; rfl)); intro gr hgr w1 hbox hb1; have GR := Aside0.mk (by rw [hgr]; exact Nat.le_refl _ : w.heap.size ≤ gr); have HR := Aside0.mk hbox; have HB := Aside0.mk (Below.trans (Below.refl _ _) hb1); obtain ⟨r0, r1⟩ := manifest_cells hbox; have q0 := blk_frozen hbox 0; have q1 := blk_frozen hbox 1; clear hgr hbox hb1)
  | (go_at_call 31; refine (spoorref05_Number.calls k (a0.extract 0 8) n _ HN.out).mono ?_; rintro e w2 ⟨rfl, hb⟩; replace hb : Below _ _ _ := (by first | exact hb | exact hb.below); have n1_ := Aside0.mk (blk_alloc (blk_below HR.out hb) (.cells #[.int .u64 n, .slice none 0 0] 25)); have n0_ := Aside0.mk (below_alloc (below_step HB.out hb) (.cells #[.int .u64 n, .slice none 0 0] 25)); have N3 := Aside0.mk (show gr ≠ w2.heap.size by have := blk_lt (blk_below HR.out hb); omega); have GM := Aside0.mk (below_step HB.out hb).size; clear HR HB r0 r1 q0 q1; have HM := Aside0.mk (blk_new w2 (.cells #[.int .u64 n, .slice none 0 0] 25)); have HR := n1_; have HB := n0_; clear n0_ n1_ hb; obtain ⟨m0, m1⟩ := manifest_cells HM.out))
 have h := H0.out
 clear H0
 by_cases c0 : (a0.extract 0 8).toList ≠ (a0.extract 120 128).toList
 · rw [if_pos c0] at h
   cases h
   have e0 : ((a0.extract 0 8).toList == (a0.extract 120 128).toList) = false := beq_eq_false_iff_ne.mpr c0
   clear c0
   obtain ⟨r0, r1⟩ := manifest_cells HR.out
   have q0 := blk_frozen HR.out 0
   have q1 := blk_frozen HR.out 1
   go_wp2
   go_region
   go_wp2
   refine bodyPost_ret (results_ct rfl _ _ gr 25 #[.int .u64 0, .slice none 0 0] (0, 0) _ rfl (by refine blkU ?_; refine blk_put (cs := #[.int .u64 0, .slice none 0 0]) ?_ 1 _ rfl; refine blkU ?_; refine blk_put (cs := #[.int .u64 0, .slice none 0 0]) ?_ 0 _ rfl; (repeat (first | exact HR.out | (with_reducible refine blk_drewN ?_ _) | (with_reducible refine blk_drew ?_) | (with_reducible refine blk_alloc ?_ _)))) Try.underlying25 rfl (by kernel_rfl)) rfl ?_
   exact ⟨_, rfl, Kd.R_nil _ _ _ _ _, by repeat (first | (with_reducible first | exact HB.out | apply below_alloc | apply pw_below_drewN | apply below_drew1 | refine below_set ?_ GR.out) | exact HB.out)⟩
 rw [if_neg c0] at h
 have e0 : ((a0.extract 0 8).toList == (a0.extract 120 128).toList) = true := beq_iff_eq.mpr (Decidable.byContradiction c0)
 clear c0
 by_cases c1 : n = 0
 · rw [if_pos c1] at h
   cases h
   subst c1
   have e1 : ((0 : Int) == 0) = true := rfl
   obtain ⟨r0, r1⟩ := manifest_cells HR.out
   have q0 := blk_frozen HR.out 0
   have q1 := blk_frozen HR.out 1
   go_wp2
   go_region
   go_wp2
   refine bodyPost_ret (results_ct rfl _ _ gr 25 #[.int .u64 0, .slice none 0 0] (0, 0) _ rfl (by refine blkU ?_; refine blk_put (cs := #[.int .u64 0, .slice none 0 0]) ?_ 1 _ rfl; refine blkU ?_; refine blk_put (cs := #[.int .u64 0, .slice none 0 0]) ?_ 0 _ rfl; (repeat (first | exact HR.out | (with_reducible refine blk_drewN ?_ _) | (with_reducible refine blk_drew ?_) | (with_reducible refine blk_alloc ?_ _)))) Try.underlying25 rfl (by kernel_rfl)) rfl ?_
   exact ⟨_, rfl, Kd.R_nil _ _ _ _ _, by repeat (first | (with_reducible first | exact HB.out | apply below_alloc | apply pw_below_drewN | apply below_drew1 | refine below_set ?_ GR.out) | exact HB.out)⟩
 rw [if_neg c1] at h
 have e1 : (n == 0) = false := beq_eq_false_iff_ne.mpr c1
 clear c1
 obtain ⟨c, hc, h⟩ := Option.bind_eq_some_iff.mp h
 obtain ⟨t, htx, h⟩ := Option.bind_eq_some_iff.mp h
 have HC := Aside0.mk hc
 have HX := Aside0.mk htx
 clear hc htx
 by_cases c2 : t.toList ≠ (a0.extract 116 120).toList
 · rw [if_pos c2] at h
   cases h
   have e2 : (t.toList == (a0.extract 116 120).toList) = false := beq_eq_false_iff_ne.mpr c2
   clear c2
   go_wp2
   go_region
   go_wp2
   have n2_ := Aside0.mk (blk_drew HM.out)
   have n1_ := Aside0.mk (blk_drew HR.out)
   have n0_ := Aside0.mk (below_drew1 HB.out)
   clear HR HB HM
   have HM := n2_
   have HR := n1_
   have HB := n0_
   clear n0_ n1_ n2_
   go_region_with (first
    | (go_at_call 28; refine (spoorref02_Of.calls k (a0.extract 0 116) c _ HC.out).mono ?_; rintro e w3 ⟨rfl, hb⟩; (first | (replace hb : Below _ _ _ := (by first | exact hb | exact hb.below); have n2_ := Aside0.mk (blk_below (blk_drew HM.out) hb); have n1_ := Aside0.mk (blk_below (blk_drew HR.out) hb); have n0_ := Aside0.mk (below_step (below_drew1 HB.out) hb); clear HR HB HM; have HM := n2_; have HR := n1_; have HB := n0_; clear n0_ n1_ n2_ hb) | (replace hb : Below _ _ _ := (by first | exact hb | exact hb.below); have n2_ := Aside0.mk (blk_below HM.out hb); have n1_ := Aside0.mk (blk_below HR.out hb); have n0_ := Aside0.mk (below_step HB.out hb); clear HR HB HM; have HM := n2_; have HR := n1_; have HB := n0_; clear n0_ n1_ n2_ hb)))
    | (go_at_call 26; refine (spoorref02_Text.calls c t _ HX.out).mono ?_; rintro e w4 ⟨rfl, hb⟩; (first | (replace hb : Below _ _ _ := (by first | exact hb | exact hb.below); have n2_ := Aside0.mk (blk_below (blk_drew HM.out) hb); have n1_ := Aside0.mk (blk_below (blk_drew HR.out) hb); have n0_ := Aside0.mk (below_step (below_drew1 HB.out) hb); clear HR HB HM; have HM := n2_; have HR := n1_; have HB := n0_; clear n0_ n1_ n2_ hb) | (replace hb : Below _ _ _ := (by first | exact hb | exact hb.below); have n2_ := Aside0.mk (blk_below HM.out hb); have n1_ := Aside0.mk (blk_below HR.out hb); have n0_ := Aside0.mk (below_step HB.out hb); clear HR HB HM; have HM := n2_; have HR := n1_; have HB := n0_; clear n0_ n1_ n2_ hb))))
   obtain ⟨r0, r1⟩ := manifest_cells HR.out
   have q0 := blk_frozen HR.out 0
   have q1 := blk_frozen HR.out 1
   go_wp2
   refine bodyPost_ret (results_ct rfl _ _ gr 25 #[.int .u64 0, .slice none 0 0] (0, 0) _ rfl (by refine blkU ?_; refine blk_put (cs := #[.int .u64 0, .slice none 0 0]) ?_ 1 _ rfl; refine blkU ?_; refine blk_put (cs := #[.int .u64 0, .slice none 0 0]) ?_ 0 _ rfl; (repeat (first | exact HR.out | (with_reducible refine blk_drewN ?_ _) | (with_reducible refine blk_drew ?_) | (with_reducible refine blk_alloc ?_ _)))) Try.underlying25 rfl (by kernel_rfl)) rfl ?_
   exact ⟨_, rfl, Kd.R_nil _ _ _ _ _, by repeat (first | (with_reducible first | exact HB.out | apply below_alloc | apply pw_below_drewN | apply below_drew1 | refine below_set ?_ GR.out) | exact HB.out)⟩
 rw [if_neg c2] at h
 have e2 : (t.toList == (a0.extract 116 120).toList) = true := beq_iff_eq.mpr (Decidable.byContradiction c2)
 clear c2
 have H1 := Aside0.mk h
 clear h
 go_wp2
 go_region
 go_wp2
 have n2_ := Aside0.mk (blk_drew HM.out)
 have n1_ := Aside0.mk (blk_drew HR.out)
 have n0_ := Aside0.mk (below_drew1 HB.out)
 clear HR HB HM
 have HM := n2_
 have HR := n1_
 have HB := n0_
 clear n0_ n1_ n2_
 go_region_with (first
  | (go_at_call 28; refine (spoorref02_Of.calls k (a0.extract 0 116) c _ HC.out).mono ?_; rintro e w3 ⟨rfl, hb⟩; (first | (replace hb : Below _ _ _ := (by first | exact hb | exact hb.below); have n2_ := Aside0.mk (blk_below (blk_drew HM.out) hb); have n1_ := Aside0.mk (blk_below (blk_drew HR.out) hb); have n0_ := Aside0.mk (below_step (below_drew1 HB.out) hb); clear HR HB HM; have HM := n2_; have HR := n1_; have HB := n0_; clear n0_ n1_ n2_ hb) | (replace hb : Below _ _ _ := (by first | exact hb | exact hb.below); have n2_ := Aside0.mk (blk_below HM.out hb); have n1_ := Aside0.mk (blk_below HR.out hb); have n0_ := Aside0.mk (below_step HB.out hb); clear HR HB HM; have HM := n2_; have HR := n1_; have HB := n0_; clear n0_ n1_ n2_ hb)))
  | (go_at_call 26; refine (spoorref02_Text.calls c t _ HX.out).mono ?_; rintro e w4 ⟨rfl, hb⟩; (first | (replace hb : Below _ _ _ := (by first | exact hb | exact hb.below); have n2_ := Aside0.mk (blk_below (blk_drew HM.out) hb); have n1_ := Aside0.mk (blk_below (blk_drew HR.out) hb); have n0_ := Aside0.mk (below_step (below_drew1 HB.out) hb); clear HR HB HM; have HM := n2_; have HR := n1_; have HB := n0_; clear n0_ n1_ n2_ hb) | (replace hb : Below _ _ _ := (by first | exact hb | exact hb.below); have n2_ := Aside0.mk (blk_below HM.out hb); have n1_ := Aside0.mk (blk_below HR.out hb); have n0_ := Aside0.mk (below_step HB.out hb); clear HR HB HM; have HM := n2_; have HR := n1_; have HB := n0_; clear n0_ n1_ n2_ hb))))
 have hx8 : ∀ h : 8 < a0.size, ((a0[8]'h).toNat : Int) = bt a0 8 := bt_at a0 8
 have hy8 := bt_range a0 8
 have h := H1.out
 clear H1
 by_cases c3 : bt a0 8 > 8
 · rw [if_pos c3] at h
   cases h
   have e3 : decide (8 < bt a0 8) = true := decide_eq_true c3
   obtain ⟨r0, r1⟩ := manifest_cells HR.out
   have q0 := blk_frozen HR.out 0
   have q1 := blk_frozen HR.out 1
   go_wp2
   refine bodyPost_ret (results_ct rfl _ _ gr 25 #[.int .u64 0, .slice none 0 0] (0, 0) _ rfl (by refine blkU ?_; refine blk_put (cs := #[.int .u64 0, .slice none 0 0]) ?_ 1 _ rfl; refine blkU ?_; refine blk_put (cs := #[.int .u64 0, .slice none 0 0]) ?_ 0 _ rfl; (repeat (first | exact HR.out | (with_reducible refine blk_drewN ?_ _) | (with_reducible refine blk_drew ?_) | (with_reducible refine blk_alloc ?_ _)))) Try.underlying25 rfl (by kernel_rfl)) rfl ?_
   exact ⟨_, rfl, Kd.R_nil _ _ _ _ _, by repeat (first | (with_reducible first | exact HB.out | apply below_alloc | apply pw_below_drewN | apply below_drew1 | refine below_set ?_ GR.out) | exact HB.out)⟩
 rw [if_neg c3] at h
 have e3 : decide (8 < bt a0 8) = false := decide_eq_false c3
 obtain ⟨o, ho, h⟩ := Option.bind_eq_some_iff.mp h
 obtain ⟨M, hM⟩ : ∃ M : Nat, bt a0 8 = M := ⟨(bt a0 8).toNat, by omega⟩
 have hn8 : M ≤ 8 := by omega
 rw [hM, Int.toNat_natCast] at ho
 have HO_ := Aside0.mk ho
 have H1 := Aside0.mk h
 clear h ho c3
 go_wp2
 (try rw [hM])
 go_loopg [6] M (fun gq v6 wr => ∃ (i : Nat) (v : Value) (l : List S56), i ≤ M ∧ M - i ≤ gq ∧ v6 = .int .i64 (i : Int) ∧ l.length = i ∧ Aside0 (rparts k a0 (M - i) i l = some o) ∧ Aside0 (wr.heap[gr]? = some (.cells #[.int .u64 0, .slice none 0 0] 25 (0, 0))) ∧ Aside0 (wr.heap[w2.heap.size]? = some (.cells #[.int .u64 n, v] 25 (0, 0))) ∧ Aside0 (Kd.R k56 56 wr w.heap.size (fun _ => True) v l) ∧ Aside0 (Below w.heap.size w wr))
 case atStart => exact ⟨0, .slice none 0 0, [], Nat.zero_le _, by omega, rfl, rfl, HO_, HR, HM, ⟨Kd.R_nil _ _ _ _ _⟩, HB⟩
 case round =>
  clear HO_ HR HM HB m0 m1
  obtain ⟨i, v, l, hi, hgq, rfl, hll, HA, HR, HM, HO, HB⟩ := hrel
  by_cases hlt : i < M
  · have hltz : (i : Int) < (M : Int) := by omega
    have dlt : decide ((i : Int) < (M : Int)) = true := decide_eq_true hltz
    have hA := HA.out
    rw [show M - i = (M - (i + 1)) + 1 by omega] at hA
    simp only [rparts] at hA
    clear HA
    obtain ⟨b, hbx⟩ : ∃ b, a0.extract (9 + 13 * i) (9 + 13 * i + 13) = b := ⟨_, rfl⟩
    have hbs : b.size = 13 := by rw [← hbx, ByteArray.size_extract]; omega
    rw [hbx] at hA
    obtain ⟨q, hq, hA⟩ := Option.bind_eq_some_iff.mp hA
    have HQ := Aside0.mk hq
    clear hq
    go_upto_region 15 with fail
    rw [hbx]
    clear hbx
    go_upto_region 16 with (go_at_call 31; refine (spoorref05_Number.calls k (b.extract 9 13) q _ HQ.out).mono ?_; rintro e w5 ⟨rfl, hb⟩; replace hb : Below _ _ _ := (by first | exact hb | exact hb.below); have n3_ := Aside0.mk (Kd.R_below HO.out hb); have n2_ := Aside0.mk (blk_below HM.out hb); have n1_ := Aside0.mk (blk_below HR.out hb); have n0_ := Aside0.mk (below_step HB.out hb); clear HR HB HM HO; have HO := n3_; have HM := n2_; have HR := n1_; have HB := n0_; clear n0_ n1_ n2_ n3_ hb)
    by_cases c5 : q > 1048577
    · rw [if_pos c5] at hA
      cases hA
      have h := H1.out
      cases h
      have e5 : decide (1048577 < q) = true := decide_eq_true c5
      clear c5
      obtain ⟨r0, r1⟩ := manifest_cells HR.out
      have q0 := blk_frozen HR.out 0
      have q1 := blk_frozen HR.out 1
      go_wp2
      refine bodyPost_ret (results_ct rfl _ _ gr 25 #[.int .u64 0, .slice none 0 0] (0, 0) _ rfl (by refine blkU ?_; refine blk_put (cs := #[.int .u64 0, .slice none 0 0]) ?_ 1 _ rfl; refine blkU ?_; refine blk_put (cs := #[.int .u64 0, .slice none 0 0]) ?_ 0 _ rfl; (repeat (first | exact HR.out | (with_reducible refine blk_drewN ?_ _) | (with_reducible refine blk_drew ?_) | (with_reducible refine blk_alloc ?_ _)))) Try.underlying25 rfl (by kernel_rfl)) rfl ?_
      exact ⟨_, rfl, Kd.R_nil _ _ _ _ _, by repeat (first | (with_reducible first | exact HB.out | apply below_alloc | apply pw_below_drewN | apply below_drew1 | refine below_set ?_ GR.out) | exact HB.out)⟩
    rw [if_neg c5] at hA
    have e5 : decide (1048577 < q) = false := decide_eq_false c5
    clear c5
    obtain ⟨tg, htg, hA⟩ := Option.bind_eq_some_iff.mp hA
    have HTG := Aside0.mk htg
    have HA := Aside0.mk hA
    clear htg hA
    go_wp2
    have hx0 : ∀ h : 0 < b.size, ((b[0]'h).toNat : Int) = bt b 0 := bt_at b 0
    have hy0 : (0 < b.size) = True := eq_true (by omega)
    have hz0 : (0 < (b.size : Int)) = True := eq_true (by omega)
    have n0_ := Aside0.mk (Kd.R_drew HO.out)
    have n1_ := Aside0.mk (blk_drew HR.out)
    have n2_ := Aside0.mk (blk_drew HM.out)
    have n4_ := Aside0.mk (below_drew HB.out)
    clear HO HR HM HB
    have HO := n0_
    have HR := n1_
    have HM := n2_
    have HB := n4_
    clear n0_ n1_ n2_ n4_
    refine start_ (n := 16) (S := fun w' => w'.cell? ⟨w2.heap.size, 0, none⟩ = some (.int .u64 n) ∧ w'.cell? ⟨w2.heap.size, 1, none⟩ = some v) (ds := [15]) #[false, false, false, false, false, false, false, false, false, false, false, false, false, false, false, false] (by kernel_rfl) rfl rfl ⟨(blk_cell HM.out 0).trans rfl, (blk_cell HM.out 1).trans rfl⟩ (fun hHeld => ?_)
    generalize World.drew _ = w54 at HO HR HM HB hHeld ⊢
    refine pure_ (i := 0) (N := some 64) (v := ?_) (a' := ?_) #[true, false, false, false, false, false, false, false, false, false, false, false, false, false, false, false] rfl rfl (by kernel_rfl) (fun _ _ _ h => h) (Or.inl ⟨by rfl, ?_⟩) ?_ ?_
    rotate_left
    · intro w'
      go_simp
      with_reducible rfl
    rotate_left
    · simp only [Act.put, List.setIfInBounds_toArray, List.set_cons_zero, List.set_cons_succ, i64_w, i32_w]
      rfl
    refine pure_ (i := 2) (N := some 66) (v := ?_) (a' := ?_) #[true, false, true, false, false, false, false, false, false, false, false, false, false, false, false, false] rfl rfl (by kernel_rfl) (fun _ _ _ h => h) (Or.inl ⟨by rfl, ?_⟩) ?_ ?_
    rotate_left
    · intro w'
      go_simp
      with_reducible rfl
    rotate_left
    · simp only [Act.put, List.setIfInBounds_toArray, List.set_cons_zero, List.set_cons_succ, i64_w, i32_w]
      rfl
    refine pure_ (i := 5) (N := some 69) (v := ?_) (a' := ?_) #[true, false, true, false, false, true, false, false, false, false, false, false, false, false, false, false] rfl rfl (by kernel_rfl) (fun _ _ _ h => h) (Or.inl ⟨by rfl, ?_⟩) ?_ ?_
    rotate_left
    · intro w'
      go_simp
      with_reducible rfl
    rotate_left
    · simp only [Act.put, List.setIfInBounds_toArray, List.set_cons_zero, List.set_cons_succ, i64_w, i32_w]
      rfl
    refine pure_ (i := 6) (N := some 70) (v := ?_) (a' := ?_) #[true, false, true, false, false, true, true, false, false, false, false, false, false, false, false, false] rfl rfl (by kernel_rfl) (fun _ _ _ h => h) (Or.inl ⟨by rfl, ?_⟩) ?_ ?_
    rotate_left
    · intro w'
      go_simp
      with_reducible rfl
    rotate_left
    · simp only [Act.put, List.setIfInBounds_toArray, List.set_cons_zero, List.set_cons_succ, i64_w, i32_w]
      rfl
    refine pure_ (i := 8) (N := some 72) (v := ?_) (a' := ?_) #[true, false, true, false, false, true, true, false, true, false, false, false, false, false, false, false] rfl rfl (by kernel_rfl) (fun _ _ _ h => h) (Or.inl ⟨by rfl, ?_⟩) ?_ ?_
    rotate_left
    · intro w'
      go_simp
      with_reducible rfl
    rotate_left
    · simp only [Act.put, List.setIfInBounds_toArray, List.set_cons_zero, List.set_cons_succ, i64_w, i32_w]
      rfl
    refine pure_ (i := 9) (N := some 73) (v := ?_) (a' := ?_) #[true, false, true, false, false, true, true, false, true, true, false, false, false, false, false, false] rfl rfl (by kernel_rfl) (fun _ _ _ h => h) (Or.inl ⟨by rfl, ?_⟩) ?_ ?_
    rotate_left
    · intro w'
      go_simp
      with_reducible rfl
    rotate_left
    · simp only [Act.put, List.setIfInBounds_toArray, List.set_cons_zero, List.set_cons_succ, i64_w, i32_w]
      rfl
    refine pure_ (i := 10) (N := some 74) (v := ?_) (a' := ?_) #[true, false, true, false, false, true, true, false, true, true, true, false, false, false, false, false] rfl rfl (by kernel_rfl) (fun _ _ _ h => h) (Or.inl ⟨by rfl, ?_⟩) ?_ ?_
    rotate_left
    · intro w'
      go_simp
      with_reducible rfl
    rotate_left
    · simp only [Act.put, List.setIfInBounds_toArray, List.set_cons_zero, List.set_cons_succ, i64_w, i32_w]
      rfl
    refine take_ (i := 1) (N := some 65) (v := ?_) (a' := ?_) #[true, true, true, false, false, true, true, false, true, true, true, false, false, false, false, false] rfl rfl (by kernel_rfl) (fun _ _ _ h => h) (Or.inl ⟨by rfl, ?_⟩) hHeld ?_ ?_
    rotate_left
    · rintro w' ⟨s0, s1⟩
      go_simp
      with_reducible rfl
    rotate_left
    · simp only [Act.put, List.setIfInBounds_toArray, List.set_cons_zero, List.set_cons_succ, i64_w, i32_w]
      rfl
    refine take_ (i := 3) (N := some 67) (v := ?_) (a' := ?_) #[true, true, true, true, false, true, true, false, true, true, true, false, false, false, false, false] rfl rfl (by kernel_rfl) (fun _ _ _ h => h) (Or.inl ⟨by rfl, ?_⟩) hHeld ?_ ?_
    rotate_left
    · rintro w' ⟨s0, s1⟩
      go_simp
      with_reducible rfl
    rotate_left
    · simp only [Act.put, List.setIfInBounds_toArray, List.set_cons_zero, List.set_cons_succ, i64_w, i32_w]
      rfl
    refine pure_ (i := 4) (N := some 68) (v := ?_) (a' := ?_) #[true, true, true, true, true, true, true, false, true, true, true, false, false, false, false, false] rfl rfl (by kernel_rfl) (fun _ _ _ h => h) (Or.inl ⟨by rfl, ?_⟩) ?_ ?_
    rotate_left
    · intro w'
      go_simp
      with_reducible rfl
    rotate_left
    · simp only [Act.put, List.setIfInBounds_toArray, List.set_cons_zero, List.set_cons_succ, i64_w, i32_w]
      rfl
    refine one_ (i := 7) (N := some 71) #[true, true, true, true, true, true, true, true, true, true, true, false, false, false, false, false] rfl rfl (by kernel_rfl) (by decide) (fun K hK => ?_)
    refine goes_ Try.func31 (by kernel_rfl) rfl #[.string (b.extract 1 9)] (by rfl) rfl rfl (by (try simp only [List.map_toArray, List.map_cons, List.map_nil]); first | done | rfl) ?_
    with_reducible refine (spoorref05_Number.calls k (b.extract 1 9) tg _ HTG.out).mono ?_
    rintro e w6 ⟨rfl, hb⟩
    refine ⟨_, rfl, ?_⟩
    replace hb : Below _ _ _ := (by first | exact hb | exact hb.below)
    have n3_ := Aside0.mk (Kd.R_below HO.out hb)
    have n2_ := Aside0.mk (blk_below HM.out hb)
    have n1_ := Aside0.mk (blk_below HR.out hb)
    have n0_ := Aside0.mk (below_step HB.out hb)
    clear HR HB HM HO
    have HO := n3_
    have HM := n2_
    have HR := n1_
    have HB := n0_
    clear n0_ n1_ n2_ n3_ hb
    refine hK.out _ _ ⟨(blk_cell HM.out 0).trans rfl, (blk_cell HM.out 1).trans rfl⟩ (fun hHeld => ?_)
    clear hK K
    refine norm_ (a' := ?_) ?_ ?_
    rotate_left
    · show Act.put _ (some 71) _ = _
      simp only [Act.put, List.setIfInBounds_toArray, List.set_cons_zero, List.set_cons_succ, i64_w, i32_w]
      rfl
    refine pure_ (i := 11) (N := some 75) (v := ?_) (a' := ?_) #[true, true, true, true, true, true, true, true, true, true, true, true, false, false, false, false] rfl rfl (by kernel_rfl) (fun _ _ _ h => h) (Or.inl ⟨by rfl, ?_⟩) ?_ ?_
    rotate_left
    · intro w'
      go_simp
      with_reducible rfl
    rotate_left
    · simp only [Act.put, List.setIfInBounds_toArray, List.set_cons_zero, List.set_cons_succ, i64_w, i32_w]
      rfl
    refine one_ (i := 12) (N := some 76) #[true, true, true, true, true, true, true, true, true, true, true, true, true, false, false, false] rfl rfl (by kernel_rfl) (by decide) (fun K hK => ?_)
    refine value_ (w1 := ?_) (v := ?_) (by rfl) rfl ?_ ?_
    rotate_left 2
    · go_simp
      constructor
      · rfl
      · rfl
    refine hK.out _ _ ⟨(blk_cell (blk_alloc HM.out _) 0).trans rfl, (blk_cell (blk_alloc HM.out _) 1).trans rfl⟩ (fun hHeld => ?_)
    clear hK K
    refine norm_ (a' := ?_) ?_ ?_
    rotate_left
    · show Act.put _ (some 76) _ = _
      simp only [Act.put, List.setIfInBounds_toArray, List.set_cons_zero, List.set_cons_succ, i64_w, i32_w]
      rfl
    refine one_ (i := 13) (N := some 77) #[true, true, true, true, true, true, true, true, true, true, true, true, true, true, false, false] rfl rfl (by kernel_rfl) (by decide) (fun K hK => ?_)
    refine Kd.R_append_step k56 (w0 := w) w.heap.size (by rfl) (.tmp 65) (.tmp 76) 23 56 (.agg #[(.int .i64 0), (.int .u64 0), (.int .i64 0)]) 24 rfl Try.underlying23 info56 rfl (by decide) (by omega) v l (⟨wrap64 (bt b 0), tg, wrap64 (wrap64 q - 1)⟩ : S56) [.int .i64 (wrap64 (bt b 0)), .int .u64 tg, .int .i64 (wrap64 (wrap64 q - 1))] (fun _ => True) (fun _ => False) rfl rfl ?aP (fun _ hk => hk.elim) ?aF ?aO ?aB ?aS ?aL ?_
    (case aP => exact k56_mkM _ _ _ (⟨wrap64 (bt b 0), tg, wrap64 (wrap64 q - 1)⟩ : S56))
    (case aB => exact HB.out)
    (case aF => exact (fun _ _ => trivial))
    (case aO => exact HO.out)
    (case aS => exact HB.out.size)
    (case aL => omega)
    intro v2 w59 ho hb hg hat
    have n0_ := Aside0.mk (blk_grown HR.out hg (Kd.R_ne HO.out HR.out (by decide)))
    have n1_ := Aside0.mk (blk_grown HM.out hg (Kd.R_ne HO.out HM.out (by decide)))
    clear HR HM HB HO
    have HR := n0_
    have HM := n1_
    have HB := Aside0.mk hb
    have HO := Aside0.mk ho
    clear n0_ n1_ hb ho hg hat
    obtain ⟨Ao, co, rfl⟩ := Kd.R_slice HO.out
    refine hK.out _ _ ⟨(blk_cell HM.out 0).trans rfl, (blk_cell HM.out 1).trans rfl⟩ (fun hHeld => ?_)
    clear hK K
    refine norm_ (a' := ?_) ?_ ?_
    rotate_left
    · show Act.put _ (some 77) _ = _
      simp only [Act.put, List.setIfInBounds_toArray, List.set_cons_zero, List.set_cons_succ, i64_w, i32_w]
      rfl
    refine pure_ (i := 14) (N := some 78) (v := ?_) (a' := ?_) #[true, true, true, true, true, true, true, true, true, true, true, true, true, true, true, false] rfl rfl (by kernel_rfl) (fun _ _ _ h => h) (Or.inl ⟨by rfl, ?_⟩) ?_ ?_
    rotate_left
    · intro w'
      go_simp
      with_reducible rfl
    rotate_left
    · simp only [Act.put, List.setIfInBounds_toArray, List.set_cons_zero, List.set_cons_succ, i64_w, i32_w]
      rfl
    refine last_ (i := 15) (N := none) #[true, true, true, true, true, true, true, true, true, true, true, true, true, true, true, true] rfl rfl (by kernel_rfl) (by decide) (fun K hK => ?_)
    have hs57 : w59.cell? ⟨w2.heap.size, 1, none⟩ = some v := (blk_cell HM.out 1).trans rfl
    have hfs57 := blk_frozen HM.out 1
    refine skip_ (w1 := ?_) (by rfl) rfl ?_ ?_
    rotate_left
    · go_simp
      rfl
    refine hK.out _ _ ?_
    clear hK K
    refine done_ (by kernel_rfl) ?_
    (try go_wp2)
    go_roundg (M - (i + 1))
    case measure => omega
    case rel => exact ⟨i + 1, _, l ++ [(⟨wrap64 (bt b 0), tg, wrap64 (wrap64 q - 1)⟩ : S56)], by omega, by omega, by first | rfl | go_num, by rw [List.length_append]; simp; exact hll, HA, ⟨blk_far (p := ⟨w2.heap.size, 1, none⟩) HR.out N3.out _⟩, ⟨blk_put HM.out 1 _ rfl⟩, ⟨by have z_ := Kd.R_mono (ok' := fun _ => True) (Kd.R_far (p := ⟨w2.heap.size, 1, none⟩) (Kd.R_types HO.out HM.out (by decide)) (fun _ hk => hk.2) (.slice Ao (l ++ [(⟨wrap64 (bt b 0), tg, wrap64 (wrap64 q - 1)⟩ : S56)]).length co)) (fun _ _ => trivial); rw [show (l ++ [(⟨wrap64 (bt b 0), tg, wrap64 (wrap64 q - 1)⟩ : S56)]).length = i + 1 by rw [List.length_append, hll]; rfl] at z_; exact z_⟩, ⟨below_set HB.out GM.out⟩⟩
  · obtain rfl : i = M := by omega
    subst hll
    have dlt : decide ((l.length : Int) < (l.length : Int)) = false := decide_eq_false (by omega)
    have hA := HA.out
    rw [Nat.sub_self] at hA
    simp only [rparts] at hA
    obtain rfl := Option.some.inj hA
    have h := H1.out
    clear H1 hA HA
    simp only at h
    obtain ⟨⟨x, y⟩, hxy, h⟩ := Option.bind_eq_some_iff.mp h
    simp only at h
    have HP := Aside0.mk hxy
    clear hxy
    obtain ⟨Ao, co, rfl⟩ := Kd.R_slice HO.out
    obtain ⟨m0, m1⟩ := manifest_cells HM.out
    by_cases c6 : y ≠ 0
    · rw [if_pos c6] at h
      cases h
      have e6 : (y != 0) = true := bne_iff_ne.mpr c6
      have e6' : (y == 0) = false := beq_eq_false_iff_ne.mpr c6
      clear c6
      go_wp2_with (go_at_call 9; refine (spoorref06_Put.calls k n _ _ l x y _ (Kd.R_reads' HO.out).2.2 (Kd.R_reads' HO.out).2.1 HP.out).mono ?_; rintro e w9 ⟨rfl, hb⟩; clear m0 m1; replace hb : Below _ _ _ := (by first | exact hb | exact hb.below); have n3_ := Aside0.mk (Kd.R_below HO.out hb); have n2_ := Aside0.mk (blk_below HM.out hb); have n1_ := Aside0.mk (blk_below HR.out hb); have n0_ := Aside0.mk (below_step HB.out hb); clear HR HB HM HO; have HO := n3_; have HM := n2_; have HR := n1_; have HB := n0_; clear n0_ n1_ n2_ n3_ hb; obtain ⟨m0, m1⟩ := manifest_cells HM.out; obtain ⟨r0, r1⟩ := manifest_cells HR.out; have q0 := blk_frozen HR.out 0; have q1 := blk_frozen HR.out 1)
      refine bodyPost_ret (results_ct rfl _ _ gr 25 #[.int .u64 0, .slice none 0 0] (0, 0) _ rfl (by refine blkU ?_; refine blk_put (cs := #[.int .u64 0, .slice none 0 0]) ?_ 1 _ rfl; refine blkU ?_; refine blk_put (cs := #[.int .u64 0, .slice none 0 0]) ?_ 0 _ rfl; (repeat (first | exact HR.out | (with_reducible refine blk_drewN ?_ _) | (with_reducible refine blk_drew ?_) | (with_reducible refine blk_alloc ?_ _)))) Try.underlying25 rfl (by kernel_rfl)) rfl ?_
      exact ⟨_, rfl, Kd.R_nil _ _ _ _ _, by repeat (first | (with_reducible first | exact HB.out | apply below_alloc | apply pw_below_drewN | apply below_drew1 | refine below_set ?_ GR.out) | exact HB.out)⟩
    rw [if_neg c6] at h
    have e6 : (y != 0) = false := bne_eq_false_iff_eq.mpr (Decidable.byContradiction c6)
    have e6' : (y == 0) = true := beq_iff_eq.mpr (Decidable.byContradiction c6)
    clear c6
    by_cases c7 : x.toList ≠ a0.toList
    · rw [if_pos c7] at h
      cases h
      have e7 : (x.toList == a0.toList) = false := beq_eq_false_iff_ne.mpr c7
      clear c7
      go_wp2_with (go_at_call 9; refine (spoorref06_Put.calls k n _ _ l x y _ (Kd.R_reads' HO.out).2.2 (Kd.R_reads' HO.out).2.1 HP.out).mono ?_; rintro e w9 ⟨rfl, hb⟩; clear m0 m1; replace hb : Below _ _ _ := (by first | exact hb | exact hb.below); have n3_ := Aside0.mk (Kd.R_below HO.out hb); have n2_ := Aside0.mk (blk_below HM.out hb); have n1_ := Aside0.mk (blk_below HR.out hb); have n0_ := Aside0.mk (below_step HB.out hb); clear HR HB HM HO; have HO := n3_; have HM := n2_; have HR := n1_; have HB := n0_; clear n0_ n1_ n2_ n3_ hb; obtain ⟨m0, m1⟩ := manifest_cells HM.out; obtain ⟨r0, r1⟩ := manifest_cells HR.out; have q0 := blk_frozen HR.out 0; have q1 := blk_frozen HR.out 1)
      refine bodyPost_ret (results_ct rfl _ _ gr 25 #[.int .u64 0, .slice none 0 0] (0, 0) _ rfl (by refine blkU ?_; refine blk_put (cs := #[.int .u64 0, .slice none 0 0]) ?_ 1 _ rfl; refine blkU ?_; refine blk_put (cs := #[.int .u64 0, .slice none 0 0]) ?_ 0 _ rfl; (repeat (first | exact HR.out | (with_reducible refine blk_drewN ?_ _) | (with_reducible refine blk_drew ?_) | (with_reducible refine blk_alloc ?_ _)))) Try.underlying25 rfl (by kernel_rfl)) rfl ?_
      exact ⟨_, rfl, Kd.R_nil _ _ _ _ _, by repeat (first | (with_reducible first | exact HB.out | apply below_alloc | apply pw_below_drewN | apply below_drew1 | refine below_set ?_ GR.out) | exact HB.out)⟩
    rw [if_neg c7] at h
    have e7 : (x.toList == a0.toList) = true := beq_iff_eq.mpr (Decidable.byContradiction c7)
    clear c7
    injection h with h
    injection h with h1 h
    injection h with h2 h3
    subst h1
    subst h2
    subst h3
    go_wp2_with (go_at_call 9; refine (spoorref06_Put.calls k n _ _ l x y _ (Kd.R_reads' HO.out).2.2 (Kd.R_reads' HO.out).2.1 HP.out).mono ?_; rintro e w9 ⟨rfl, hb⟩; clear m0 m1; replace hb : Below _ _ _ := (by first | exact hb | exact hb.below); have n3_ := Aside0.mk (Kd.R_below HO.out hb); have n2_ := Aside0.mk (blk_below HM.out hb); have n1_ := Aside0.mk (blk_below HR.out hb); have n0_ := Aside0.mk (below_step HB.out hb); clear HR HB HM HO; have HO := n3_; have HM := n2_; have HR := n1_; have HB := n0_; clear n0_ n1_ n2_ n3_ hb; obtain ⟨m0, m1⟩ := manifest_cells HM.out; obtain ⟨r0, r1⟩ := manifest_cells HR.out; have q0 := blk_frozen HR.out 0; have q1 := blk_frozen HR.out 1)
    refine bodyPost_ret (results_ct rfl _ _ gr 25 #[.int .u64 n, .slice Ao l.length co] (0, 0) _ rfl (by refine blkU ?_; refine blk_put (cs := #[.int .u64 n, .slice none 0 0]) ?_ 1 _ rfl; refine blkU ?_; refine blk_put (cs := #[.int .u64 0, .slice none 0 0]) ?_ 0 _ rfl; (repeat (first | exact HR.out | (with_reducible refine blk_drewN ?_ _) | (with_reducible refine blk_drew ?_) | (with_reducible refine blk_alloc ?_ _)))) Try.underlying25 rfl (by kernel_rfl)) rfl ?_
    exact ⟨_, rfl, by (try apply RU); exact Kd.R_mono (Kd.R_far (p := ⟨gr, 1, none⟩) (Kd.R_far (p := ⟨gr, 0, none⟩) (Kd.R_types HO.out HR.out (by decide)) (fun _ hk => hk.2) _) (fun _ hk => hk.2) _) (fun _ _ => trivial), by repeat (first | (with_reducible first | exact HB.out | apply below_alloc | apply pw_below_drewN | apply below_drew1 | refine below_set ?_ GR.out) | exact HB.out)⟩
theorem spoorref06_Get.calls (k : Nat) (a0 : ByteArray) (r1 : Int) (r2 : List (S56)) (r3 : Int) (w : World) (h : spoorref06_Get.f k a0 = some (r1, r2, r3)) :
 Calls Try.prog 11 #[.string a0] w fun e w' => ∃ v1_ : Value, e = .returned (.tuple #[.agg #[.int .u64 r1, v1_], .int .i64 r3]) ∧ Kd.R k56 56 w' w.heap.size (fun _ => True) v1_ r2 ∧ Below w.heap.size w w' := by
 unfold spoorref06_Get.f at h
 by_cases c : a0.size = 128
 · rw [if_pos c] at h
   obtain ⟨n, hn, h⟩ := Option.bind_eq_some_iff.mp h
   exact spoorref06_Get.main k a0 c n hn r1 r2 r3 w h
 · rw [if_neg c] at h
   cases h
   exact spoorref06_Get.long a0 c w
end Go.Proofs.Ytjagplonneednaa.P
