-- kept, by a program of this session, of a text that the printer or this session wrote
import Derived.Test.YtjagplonneednaaZPx0
import Derived.Test.YtjagplonneednaaZPx30013
import Derived.Test.YtjagplonneednaaZPx1065
import Derived.Test.YtjagplonneednaaZPx1043
import Derived.Lib.LazyBuf
namespace Go.Proofs.Ytjagplonneednaa.P
open Go.RowKit Go.Proofs.YtjagplonneednaaW.PrintWords Go.Proofs.YtjagplonneednaaW.PrintLast Go.Proofs.YtjagplonneednaaW.PrintMore
attribute [local go_sem] max2_int min2_int max_two min_two max_three min_three max_four min_four
set_option linter.unusedVariables false
set_option linter.unusedSimpArgs false
theorem blk_setCells {g g' : Nat} {o' : Obj} (hne : g' ≠ g) (vs : List Value) : ∀ (W : World) (o : Nat), W.heap[g']? = some o' → (W.setCells g o vs).heap[g']? = some o' := by
 induction vs with
 | nil => intro W o h; exact h
 | cons v vs ih => intro W o h; exact ih _ (o + 1) ((Below.heap_setCell W ⟨g, o, none⟩ v g' hne).trans h)
theorem below_setCells' {w0 : World} {g : Nat} (hg : w0.heap.size ≤ g) (vs : List Value) : ∀ (W : World) (o : Nat), Below w0.heap.size w0 W → Below w0.heap.size w0 (W.setCells g o vs) := by
 induction vs with
 | nil => intro W o h; exact h
 | cons v vs ih => intro W o h; exact ih _ _ (below_set h hg)
theorem sec_fill {g : Nat} {a : Int} (vs : List Int) : ∀ (W : World) (b : List Int) (o : Nat), IsSec W g b a → o + vs.length ≤ 128 → IsSec (W.setCells g o (vs.map (Value.int .u8))) g (b.take o ++ vs ++ b.drop (o + vs.length)) a := by
 induction vs with
 | nil => intro W b o h _; rw [List.append_nil]; show IsSec W g (b.take o ++ b.drop o) a; rw [List.take_append_drop]; exact h
 | cons v vs ih =>
  intro W b o h hl
  rw [List.length_cons] at hl
  have := ih _ (b.set o v) (o + 1) (h.put o (by omega) v) (by omega)
  have hb := h.1
  have e1 : (b.set o v).take (o + 1) = b.take o ++ [v] := by
   rw [List.take_succ_eq_append_getElem (by rw [List.length_set]; omega), List.getElem_set_self, List.take_set_of_le (Nat.le_refl _)]
  have e2 : (b.set o v).drop (o + 1 + vs.length) = b.drop (o + (vs.length + 1)) := by
   rw [List.drop_set_of_lt (by omega)]
   congr 1
   omega
  rw [e1, e2] at this
  rw [List.length_cons, show b.take o ++ (v :: vs) = b.take o ++ [v] ++ vs by simp]
  exact this
theorem nums8_map (t : ByteArray) : (t.data.toList.map fun x => Value.int .u8 (x.toNat : Int)) = (Tools.nums8 t).map (Value.int .u8) := by
 unfold Tools.nums8
 rw [List.map_map]
 rfl
theorem sec_filled {W : World} {g : Nat} {b : List Int} {a : Int} (h : IsSec W g b a) (t : ByteArray) (ht : t.size = 128) : IsSec (W.setCells g 0 (t.data.toList.map fun x => Value.int .u8 (x.toNat : Int))) g (Tools.nums8 t) a := by
 rw [nums8_map]
 have := sec_fill (Tools.nums8 t) W b 0 h (by rw [Tools.nums8_len]; omega)
 rw [Tools.nums8_len, ht, List.take_zero, List.nil_append, List.drop_eq_nil_of_le (by rw [h.1]; omega), List.append_nil] at this
 exact this
theorem sec_copy {W : World} {g : Nat} {b : List Int} {a : Int} (h : IsSec W g b a) (t : ByteArray) (ht : t.size = 128) :
 (Builtin.copy_ #[54, 9] 3 #[.slice (some ⟨g, 0, none⟩) 128 128, .string t]).run Try.prog W = .ok (.int .i64 128) (W.setCells g 0 (t.data.toList.map fun x => Value.int .u8 (x.toNat : Int))) := by
 have hz : ∀ w, (sizeOf 5).run Try.prog w = .ok 1 w := by
  intro w
  obtain ⟨i, hi, hz⟩ := Option.map_eq_some_iff.1 (show (Try.prog.info? 5).map (·.size) = some 1 by kernel_rfl)
  simp [sizeOf, typeInfo, hi, hz]
 have := run_copy_string (P := Try.prog) W 54 9 3 5 g 0 128 128 t Try.underlying54 hz (by omega) (fun j hj => by rw [Nat.zero_add, h.byte j (by omega)]; rfl) (fun j hj => by rw [Nat.zero_add]; exact h.frozen j)
 rw [this, ht]
 rfl
def partAt (b : List Int) (j : Nat) : S56 := ⟨wrap64 (secGet b (9 + 13 * j) 1), secGet b (9 + 13 * j + 1) 8, wrap64 (wrap64 (secGet b (9 + 13 * j + 1 + 8) 4) - 1)⟩
def partsOf (b : List Int) (n : Nat) : List S56 := (List.range n).map (partAt b)
theorem partsOf_succ (b : List Int) (n : Nat) : partsOf b (n + 1) = partsOf b n ++ [partAt b n] := by unfold partsOf; rw [List.range_succ, List.map_append]; rfl
theorem partsOf_len (b : List Int) (n : Nat) : (partsOf b n).length = n := by unfold partsOf; rw [List.length_map, List.length_range]
def manifest_Get.f (k : Nat) (a0 : ByteArray) : Option (Int × List S56 × Int) :=
 if a0.size = 128 then
  (if secGet (Tools.nums8 a0) 0 8 = 0 then some (0, [], 3) else
   if secGet (Tools.nums8 a0) 0 8 ≠ secGet (Tools.nums8 a0) 120 8 then some (0, [], 3) else
   (crc_Of.f k (strOfNums ((Tools.nums8 a0).take 116))).bind fun s =>
    if secGet (Tools.nums8 a0) 116 4 ≠ IntKind.u64.wrap s then some (0, [], 6) else
    if secGet (Tools.nums8 a0) 8 1 > 8 then some (0, [], 7) else
    if secGet (Tools.nums8 a0) 8 1 < 0 then none else
    if checkM (secGet (Tools.nums8 a0) 0 8) (partsOf (Tools.nums8 a0) (secGet (Tools.nums8 a0) 8 1).toNat) ≠ 0 then some (0, [], 7) else
    (manifest_written.f k (secGet (Tools.nums8 a0) 0 8) (partsOf (Tools.nums8 a0) (secGet (Tools.nums8 a0) 8 1).toNat)).bind fun x =>
     if x.toList ≠ a0.toList then some (0, [], 7) else some (secGet (Tools.nums8 a0) 0 8, partsOf (Tools.nums8 a0) (secGet (Tools.nums8 a0) 8 1).toNat, 0))
 else some (0, [], 11)
theorem manifest_Get.mono : ∀ a0 k, LeO (manifest_Get.f k a0) (manifest_Get.f (k + 1) a0) := by
 intro a0 k
 unfold manifest_Get.f
 repeat' first
  | (with_reducible exact LeO.refl _)
  | (with_reducible exact LeO.none _)
  | (with_reducible refine LeO.ite ?_ ?_)
  | (with_reducible refine LeO.bind ?_ (fun _ => ?_))
  | exact crc_Of.mono _ _
  | exact manifest_written.mono _ _ _
theorem sec_zeros : Try.zeroCells64 = secCells (List.replicate 128 0) 0 := by
 unfold secCells
 kernel_rfl
theorem sec_begun : Try.zeroCells64.setIfInBounds 128 (.int .i64 116) = secCells (List.replicate 128 0) 116 := by
 rw [sec_zeros, secCells_go (by rw [List.length_replicate])]
theorem sec_start {W : World} {g : Nat} (h : W.heap[g]? = some (.cells (Try.zeroCells64.setIfInBounds 128 (.int .i64 116)) 64 (0, 0))) : IsSec W g (List.replicate 128 0) ((116 : Nat) : Int) := by
 rw [sec_begun] at h
 exact ⟨by rw [List.length_replicate], h⟩
def manifest_Get.Goal (a0 : ByteArray) (r1 : Int) (r2 : List (S56)) (r3 : Int) (w : World) : Prop := Calls Try.prog 10 #[.string a0] w fun e w' => ∃ v1_ : Value, e = .returned (.tuple #[.agg #[.int .u64 r1, v1_], .int .i64 r3]) ∧ Kd.R k56 56 w' w.heap.size (fun _ => True) v1_ r2 ∧ Below w.heap.size w w'
set_option maxHeartbeats 16000000 in
set_option maxRecDepth 100000 in
theorem manifest_Get.long (a0 : ByteArray) (ht : ¬ a0.size = 128) (w : World) : manifest_Get.Goal a0 0 [] 11 w := by
 unfold manifest_Get.Goal
 have d0 : ((a0.size : Int) != 128) = true := bne_iff_ne.mpr (by omega)
 have d1 : (a0.size != 128) = true := bne_iff_ne.mpr ht
 go_enter Try.func10, Try.ntmps10
 go_wp2_with ((with_reducible refine gate_dst (N := 2) rfl ?_); refine box_event ?hg (N := 2) ?hd (cs := #[.int .u64 0, .slice none 0 0]) (t := 25) ?hr ?_; (case hd => rfl); (case hg => rfl); (case hr => first | (go_simp; done) | (go_simp; rfl)); intro gr hgr w1 hbox hb1; have GR := Aside0.mk (by rw [hgr]; exact Nat.le_refl _ : w.heap.size ≤ gr); have HR := Aside0.mk hbox; have HB := Aside0.mk (Below.trans (Below.refl _ _) hb1); obtain ⟨r0, r1⟩ := manifest_cells hbox; have q0 := blk_frozen hbox 0; have q1 := blk_frozen hbox 1; clear hgr hbox hb1)
 refine bodyPost_ret (results_ct rfl _ _ gr 25 #[.int .u64 0, .slice none 0 0] (0, 0) _ rfl (by refine blkU ?_; refine blk_put (cs := #[.int .u64 0, .slice none 0 0]) ?_ 1 _ rfl; refine blkU ?_; refine blk_put (cs := #[.int .u64 0, .slice none 0 0]) ?_ 0 _ rfl; (repeat (first | exact HR.out | (with_reducible refine blk_drewN ?_ _) | (with_reducible refine blk_drew ?_) | (with_reducible refine blk_alloc ?_ _)))) Try.underlying25 rfl (by kernel_rfl)) rfl ?_
 exact ⟨_, rfl, Kd.R_nil _ _ _ _ _, by repeat (first | (with_reducible first | exact HB.out | apply below_alloc | apply pw_below_drewN | apply below_drew1 | refine below_set ?_ GR.out) | exact HB.out)⟩
set_option maxHeartbeats 16000000 in
set_option maxRecDepth 100000 in
theorem manifest_Get.main (k : Nat) (a0 : ByteArray) (ht : a0.size = 128) (E L M S0 : Int) (hE : secGet (Tools.nums8 a0) 0 8 = E) (hL : secGet (Tools.nums8 a0) 120 8 = L) (hS : secGet (Tools.nums8 a0) 116 4 = S0) (hM : secGet (Tools.nums8 a0) 8 1 = M) (r1 : Int) (r2 : List (S56)) (r3 : Int) (w : World)
 (h : (if E = 0 then some (0, [], 3) else
  if E ≠ L then some (0, [], 3) else
  (crc_Of.f k (strOfNums ((Tools.nums8 a0).take 116))).bind fun s =>
   if S0 ≠ IntKind.u64.wrap s then some (0, [], 6) else
   if M > 8 then some (0, [], 7) else
   if M < 0 then none else
   if checkM E (partsOf (Tools.nums8 a0) M.toNat) ≠ 0 then some (0, [], 7) else
   (manifest_written.f k E (partsOf (Tools.nums8 a0) M.toNat)).bind fun x =>
    if x.toList ≠ a0.toList then some (0, [], 7) else some (E, partsOf (Tools.nums8 a0) M.toNat, 0)) = some (r1, r2, r3)) : manifest_Get.Goal a0 r1 r2 r3 w := by
 unfold manifest_Get.Goal
 have HE := Aside0.mk hE
 have HL := Aside0.mk hL
 have HS := Aside0.mk hS
 have HMM := Aside0.mk hM
 have HT := Aside0.mk ht
 have H0 := Aside0.mk h
 have d0 : ((a0.size : Int) != 128) = false := bne_eq_false_iff_eq.mpr (by omega)
 have d1 : (a0.size != 128) = false := bne_eq_false_iff_eq.mpr ht
 have M1 := Aside0.mk True.intro
 have M2 := Aside0.mk True.intro
 have M3 := Aside0.mk True.intro
 clear h ht hE hL hS hM
 go_enter Try.func10, Try.ntmps10
 go_upto_region 8 with (first
  | ((with_reducible refine gate_dst (N := 2) rfl ?_); refine box_event ?hg (N := 2) ?hd (cs := #[.int .u64 0, .slice none 0 0]) (t := 25) ?hr ?_; (case hd => rfl); (case hg => rfl); (case hr => first | (go_simp; done) | (go_simp; rfl)); intro gr hgr w1 hbox hb1; have GR := Aside0.mk (by rw [hgr]; exact Nat.le_refl _ : w.heap.size ≤ gr); have HR := Aside0.mk hbox; have HB := Aside0.mk (Below.trans (Below.refl _ _) hb1); obtain ⟨r0, r1⟩ := manifest_cells hbox; have q0 := blk_frozen hbox 0; have q1 := blk_frozen hbox 1; clear hgr hbox hb1)
  | ((with_reducible refine gate_dst (N := 14) rfl ?_); refine box_event ?hg (N := 14) ?hd (cs := Try.zeroCells64.setIfInBounds 128 (.int .i64 116)) (t := 64) ?hr ?_; (case hd => rfl); (case hg => rfl); (case hr => first | (go_simp; done) | (go_simp; rfl)); intro gs hgs w2 hbox hb2; have HG := Aside0.mk (by rw [hgs]; exact HB.out.size : w.heap.size ≤ gs); have HI0 := Aside0.mk (sec_start hbox); have n1_ := Aside0.mk (blk_below HR.out hb2); have n0_ := Aside0.mk (below_step HB.out hb2); clear HR HB r0 r1 q0 q1; have N1 := Aside0.mk (show gr ≠ gs from blk_ne n1_.out HI0.out.2 (by decide)); have kcp := sec_copy HI0.out a0 HT.out; have HI := Aside0.mk (sec_filled HI0.out a0 HT.out); have HR := Aside0.mk (blk_setCells N1.out (a0.data.toList.map fun x => Value.int .u8 (x.toNat : Int)) w2 0 n1_.out); have HB := Aside0.mk (below_setCells' HG.out (a0.data.toList.map fun x => Value.int .u8 (x.toNat : Int)) w2 0 n0_.out); clear hgs hbox hb2 n0_ n1_ HI0)
  | (go_at_call_of 29 (4 : Int); clear M1; refine (sec_get4 gs _ _ w _ HI.out HB.out HG.out (by omega)).mono ?_; rintro e w9 ⟨rfl, hI, hB, hk⟩; rw [HS.out]; have n1_ := Aside0.mk (hk.blk HR.out N1.out (by simp)); clear HI HB HR; have HI := Aside0.mk hI; have HB := Aside0.mk hB; have HR := n1_; clear n1_ hI hB hk; skip)
  | (go_at_call_of 29 (8 : Int); clear M2; refine (sec_get8 gs _ _ w _ HI.out HB.out HG.out (by omega)).mono ?_; rintro e w10 ⟨rfl, hI, hB, hk⟩; rw [HL.out]; have n1_ := Aside0.mk (hk.blk HR.out N1.out (by simp)); clear HI HB HR; have HI := Aside0.mk hI; have HB := Aside0.mk hB; have HR := n1_; clear n1_ hI hB hk; have hf := HI.out.frozen 128; have hp := HI.out.place; have n2_ := Aside0.mk (show IsSec (w10.setCell ⟨gs, 128, none⟩ (.int .i64 0)) gs (Tools.nums8 a0) ((0 : Nat) : Int) from HI.out.go 0); have n1_ := Aside0.mk (blk_far (p := ⟨gs, 128, none⟩) HR.out N1.out (.int .i64 0)); have n0_ := Aside0.mk (below_set (j := 128) (v := .int .i64 0) HB.out HG.out); clear HR HB HI; have HB := n0_; have HR := n1_; have HI := n2_; clear n0_ n1_ n2_)
  | (go_at_call_of 29 (8 : Int); clear M3; refine (sec_get8 gs _ _ w _ HI.out HB.out HG.out (by omega)).mono ?_; rintro e w11 ⟨rfl, hI, hB, hk⟩; rw [HE.out]; have n1_ := Aside0.mk (hk.blk HR.out N1.out (by simp)); clear HI HB HR; have HI := Aside0.mk hI; have HB := Aside0.mk hB; have HR := n1_; clear n1_ hI hB hk; clear hf hp; have n3_ := Aside0.mk (blk_new w11 (.cells #[.int .u64 E, .slice none 0 0] 25)); have GM := Aside0.mk HB.out.size; have n2_ := Aside0.mk (show IsSec (w11.alloc (.cells #[.int .u64 E, .slice none 0 0] 25)) gs (Tools.nums8 a0) ((8 : Nat) : Int) from HI.out.alloc (.cells #[.int .u64 E, .slice none 0 0] 25)); have n1_ := Aside0.mk (blk_alloc HR.out (.cells #[.int .u64 E, .slice none 0 0] 25)); have n0_ := Aside0.mk (below_alloc HB.out (.cells #[.int .u64 E, .slice none 0 0] 25)); have N3 := Aside0.mk (show gr ≠ w11.heap.size by have := blk_lt HR.out; omega); have N2 := Aside0.mk (show w11.heap.size ≠ gs by have := HI.out.lt; omega); clear HR HB HI; have HB := n0_; have HR := n1_; have HI := n2_; have HM := n3_; clear n0_ n1_ n2_ n3_; obtain ⟨m0, m1⟩ := manifest_cells HM.out))
 have h := H0.out
 clear H0
 by_cases c0 : E = 0
 · rw [if_pos c0] at h
   cases h
   subst c0
   have e0 : ((0 : Int) == 0) = true := rfl
   obtain ⟨r0, r1⟩ := manifest_cells HR.out
   have q0 := blk_frozen HR.out 0
   have q1 := blk_frozen HR.out 1
   go_wp2
   refine bodyPost_ret (results_ct rfl _ _ gr 25 #[.int .u64 0, .slice none 0 0] (0, 0) _ rfl (by refine blkU ?_; refine blk_put (cs := #[.int .u64 0, .slice none 0 0]) ?_ 1 _ rfl; refine blkU ?_; refine blk_put (cs := #[.int .u64 0, .slice none 0 0]) ?_ 0 _ rfl; (repeat (first | exact HR.out | (with_reducible refine blk_drewN ?_ _) | (with_reducible refine blk_drew ?_) | (with_reducible refine blk_alloc ?_ _)))) Try.underlying25 rfl (by kernel_rfl)) rfl ?_
   exact ⟨_, rfl, Kd.R_nil _ _ _ _ _, by repeat (first | (with_reducible first | exact HB.out | apply below_alloc | apply pw_below_drewN | apply below_drew1 | refine below_set ?_ GR.out) | exact HB.out)⟩
 rw [if_neg c0] at h
 have e0 : (E == 0) = false := beq_eq_false_iff_ne.mpr c0
 by_cases c1 : E ≠ L
 · rw [if_pos c1] at h
   cases h
   have e1 : (E != L) = true := bne_iff_ne.mpr c1
   obtain ⟨r0, r1⟩ := manifest_cells HR.out
   have q0 := blk_frozen HR.out 0
   have q1 := blk_frozen HR.out 1
   go_wp2
   refine bodyPost_ret (results_ct rfl _ _ gr 25 #[.int .u64 0, .slice none 0 0] (0, 0) _ rfl (by refine blkU ?_; refine blk_put (cs := #[.int .u64 0, .slice none 0 0]) ?_ 1 _ rfl; refine blkU ?_; refine blk_put (cs := #[.int .u64 0, .slice none 0 0]) ?_ 0 _ rfl; (repeat (first | exact HR.out | (with_reducible refine blk_drewN ?_ _) | (with_reducible refine blk_drew ?_) | (with_reducible refine blk_alloc ?_ _)))) Try.underlying25 rfl (by kernel_rfl)) rfl ?_
   exact ⟨_, rfl, Kd.R_nil _ _ _ _ _, by repeat (first | (with_reducible first | exact HB.out | apply below_alloc | apply pw_below_drewN | apply below_drew1 | refine below_set ?_ GR.out) | exact HB.out)⟩
 rw [if_neg c1] at h
 have e1 : (E != L) = false := bne_eq_false_iff_eq.mpr (Decidable.byContradiction c1)
 obtain ⟨s, hs, h⟩ := Option.bind_eq_some_iff.mp h
 have HC := Aside0.mk hs
 clear hs c1
 by_cases c2 : S0 ≠ IntKind.u64.wrap s
 · rw [if_pos c2] at h
   cases h
   have e2 : (S0 != IntKind.u64.wrap s) = true := bne_iff_ne.mpr c2
   go_wp2_with (go_at_call 30; refine (sec_sum k gs _ _ s w _ HI.out HB.out HG.out HC.out).mono ?_; rintro e w12 ⟨rfl, hI, hB, hk⟩; have n2_ := Aside0.mk (hk.blk HM.out N2.out (by simp)); have n1_ := Aside0.mk (hk.blk HR.out N1.out (by simp)); clear HI HB HR HM m0 m1; have HI := Aside0.mk hI; have HB := Aside0.mk hB; have HR := n1_; have HM := n2_; clear n1_ n2_ hI hB hk; obtain ⟨m0, m1⟩ := manifest_cells HM.out; obtain ⟨r0, r1⟩ := manifest_cells HR.out; have q0 := blk_frozen HR.out 0; have q1 := blk_frozen HR.out 1)
   refine bodyPost_ret (results_ct rfl _ _ gr 25 #[.int .u64 0, .slice none 0 0] (0, 0) _ rfl (by refine blkU ?_; refine blk_put (cs := #[.int .u64 0, .slice none 0 0]) ?_ 1 _ rfl; refine blkU ?_; refine blk_put (cs := #[.int .u64 0, .slice none 0 0]) ?_ 0 _ rfl; (repeat (first | exact HR.out | (with_reducible refine blk_drewN ?_ _) | (with_reducible refine blk_drew ?_) | (with_reducible refine blk_alloc ?_ _)))) Try.underlying25 rfl (by kernel_rfl)) rfl ?_
   exact ⟨_, rfl, Kd.R_nil _ _ _ _ _, by repeat (first | (with_reducible first | exact HB.out | apply below_alloc | apply pw_below_drewN | apply below_drew1 | refine below_set ?_ GR.out) | exact HB.out)⟩
 rw [if_neg c2] at h
 have e2 : (S0 != IntKind.u64.wrap s) = false := bne_eq_false_iff_eq.mpr (Decidable.byContradiction c2)
 clear c2
 have H1 := Aside0.mk h
 clear h
 go_upto_region 13 with (first
  | (go_at_call 30; refine (sec_sum k gs _ _ s w _ HI.out HB.out HG.out HC.out).mono ?_; rintro e w12 ⟨rfl, hI, hB, hk⟩; have n2_ := Aside0.mk (hk.blk HM.out N2.out (by simp)); have n1_ := Aside0.mk (hk.blk HR.out N1.out (by simp)); clear HI HB HR HM m0 m1; have HI := Aside0.mk hI; have HB := Aside0.mk hB; have HR := n1_; have HM := n2_; clear n1_ n2_ hI hB hk; obtain ⟨m0, m1⟩ := manifest_cells HM.out)
  | (go_at_call_of 29 (1 : Int); refine (sec_get1 gs _ _ w _ HI.out HB.out HG.out (by omega)).mono ?_; rintro e w13 ⟨rfl, hI, hB, hk⟩; rw [HMM.out]; have n2_ := Aside0.mk (hk.blk HM.out N2.out (by simp)); have n1_ := Aside0.mk (hk.blk HR.out N1.out (by simp)); clear HI HB HR HM m0 m1; have HI := Aside0.mk hI; have HB := Aside0.mk hB; have HR := n1_; have HM := n2_; clear n1_ n2_ hI hB hk; obtain ⟨m0, m1⟩ := manifest_cells HM.out))
 have h := H1.out
 clear H1
 by_cases c3 : M > 8
 · rw [if_pos c3] at h
   cases h
   have e3 : decide (8 < M) = true := decide_eq_true c3
   obtain ⟨r0, r1⟩ := manifest_cells HR.out
   have q0 := blk_frozen HR.out 0
   have q1 := blk_frozen HR.out 1
   go_wp2
   refine bodyPost_ret (results_ct rfl _ _ gr 25 #[.int .u64 0, .slice none 0 0] (0, 0) _ rfl (by refine blkU ?_; refine blk_put (cs := #[.int .u64 0, .slice none 0 0]) ?_ 1 _ rfl; refine blkU ?_; refine blk_put (cs := #[.int .u64 0, .slice none 0 0]) ?_ 0 _ rfl; (repeat (first | exact HR.out | (with_reducible refine blk_drewN ?_ _) | (with_reducible refine blk_drew ?_) | (with_reducible refine blk_alloc ?_ _)))) Try.underlying25 rfl (by kernel_rfl)) rfl ?_
   exact ⟨_, rfl, Kd.R_nil _ _ _ _ _, by repeat (first | (with_reducible first | exact HB.out | apply below_alloc | apply pw_below_drewN | apply below_drew1 | refine below_set ?_ GR.out) | exact HB.out)⟩
 rw [if_neg c3] at h
 have e3 : decide (8 < M) = false := decide_eq_false c3
 by_cases c4 : M < 0
 · rw [if_pos c4] at h
   exact absurd h (by simp)
 rw [if_neg c4] at h
 obtain ⟨n, rfl⟩ : ∃ n : Nat, M = n := ⟨M.toNat, by omega⟩
 rw [Int.toNat_natCast] at h
 have hn8 : n ≤ 8 := by omega
 have H1 := Aside0.mk h
 clear h c3 c4
 go_wp2
 go_loopg [54] n (fun gq v54 wr => ∃ (j : Nat) (v : Value), j ≤ n ∧ n - j ≤ gq ∧ v54 = .int .u64 (j : Int) ∧ Aside0 (IsSec wr gs (Tools.nums8 a0) ((9 + 13 * j : Nat) : Int)) ∧ Aside0 (wr.heap[gr]? = some (.cells #[.int .u64 0, .slice none 0 0] 25 (0, 0))) ∧ Aside0 (wr.heap[w11.heap.size]? = some (.cells #[.int .u64 E, v] 25 (0, 0))) ∧ Aside0 (Kd.R k56 56 wr w.heap.size (fun _ => True) v (partsOf (Tools.nums8 a0) j)) ∧ Aside0 (Below w.heap.size w wr))
 case atStart => exact ⟨0, .slice none 0 0, Nat.zero_le _, by omega, rfl, HI, HR, HM, ⟨Kd.R_nil _ _ _ _ _⟩, HB⟩
 case round =>
  clear HI HR HM HB m0 m1
  obtain ⟨j, v, hj, hgq, rfl, HI, HR, HM, HO, HB⟩ := hrel
  by_cases hlt : j < n
  · have hltz : (j : Int) < (n : Int) := by omega
    have dlt : decide ((j : Int) < (n : Int)) = true := decide_eq_true hltz
    go_wp2
    have n0_ := Aside0.mk (Kd.R_drew HO.out)
    have n1_ := Aside0.mk (blk_drew HR.out)
    have n2_ := Aside0.mk (blk_drew HM.out)
    have n3_ := Aside0.mk (HI.out.drew)
    have n4_ := Aside0.mk (below_drew HB.out)
    clear HO HR HM HI HB
    have HO := n0_
    have HR := n1_
    have HM := n2_
    have HI := n3_
    have HB := n4_
    clear n0_ n1_ n2_ n3_ n4_
    refine start_ (n := 16) (S := fun w' => w'.cell? ⟨w11.heap.size, 0, none⟩ = some (.int .u64 E) ∧ w'.cell? ⟨w11.heap.size, 1, none⟩ = some v) (ds := [15]) #[false, false, false, false, false, false, false, false, false, false, false, false, false, false, false, false] (by kernel_rfl) rfl rfl ⟨(blk_cell HM.out 0).trans rfl, (blk_cell HM.out 1).trans rfl⟩ (fun hHeld => ?_)
    generalize wr.drew = w54 at HO HR HM HI HB hHeld ⊢
    refine pure_ (i := 0) (N := some 56) (v := ?_) (a' := ?_) #[true, false, false, false, false, false, false, false, false, false, false, false, false, false, false, false] rfl rfl (by kernel_rfl) (fun _ _ _ h => h) (Or.inl ⟨by rfl, ?_⟩) ?_ ?_
    rotate_left
    · intro w'
      go_simp
      with_reducible rfl
    rotate_left
    · simp only [Act.put, List.setIfInBounds_toArray, List.set_cons_zero, List.set_cons_succ, i64_w, i32_w]
      rfl
    refine pure_ (i := 2) (N := some 58) (v := ?_) (a' := ?_) #[true, false, true, false, false, false, false, false, false, false, false, false, false, false, false, false] rfl rfl (by kernel_rfl) (fun _ _ _ h => h) (Or.inl ⟨by rfl, ?_⟩) ?_ ?_
    rotate_left
    · intro w'
      go_simp
      with_reducible rfl
    rotate_left
    · simp only [Act.put, List.setIfInBounds_toArray, List.set_cons_zero, List.set_cons_succ, i64_w, i32_w]
      rfl
    refine pure_ (i := 5) (N := some 61) (v := ?_) (a' := ?_) #[true, false, true, false, false, true, false, false, false, false, false, false, false, false, false, false] rfl rfl (by kernel_rfl) (fun _ _ _ h => h) (Or.inl ⟨by rfl, ?_⟩) ?_ ?_
    rotate_left
    · intro w'
      go_simp
      with_reducible rfl
    rotate_left
    · simp only [Act.put, List.setIfInBounds_toArray, List.set_cons_zero, List.set_cons_succ, i64_w, i32_w]
      rfl
    refine pure_ (i := 7) (N := some 63) (v := ?_) (a' := ?_) #[true, false, true, false, false, true, false, true, false, false, false, false, false, false, false, false] rfl rfl (by kernel_rfl) (fun _ _ _ h => h) (Or.inl ⟨by rfl, ?_⟩) ?_ ?_
    rotate_left
    · intro w'
      go_simp
      with_reducible rfl
    rotate_left
    · simp only [Act.put, List.setIfInBounds_toArray, List.set_cons_zero, List.set_cons_succ, i64_w, i32_w]
      rfl
    refine take_ (i := 1) (N := some 57) (v := ?_) (a' := ?_) #[true, true, true, false, false, true, false, true, false, false, false, false, false, false, false, false] rfl rfl (by kernel_rfl) (fun _ _ _ h => h) (Or.inl ⟨by rfl, ?_⟩) hHeld ?_ ?_
    rotate_left
    · rintro w' ⟨s0, s1⟩
      go_simp
      with_reducible rfl
    rotate_left
    · simp only [Act.put, List.setIfInBounds_toArray, List.set_cons_zero, List.set_cons_succ, i64_w, i32_w]
      rfl
    refine one_ (i := 3) (N := some 59) #[true, true, true, true, false, true, false, true, false, false, false, false, false, false, false, false] rfl rfl (by kernel_rfl) (by decide) (fun K hK => ?_)
    refine goes_ Try.func29 (by kernel_rfl) rfl #[.pointer (some ⟨gs, 0, none⟩), .int .i64 1] (by rfl) rfl rfl (by (try simp only [List.map_toArray, List.map_cons, List.map_nil]); first | done | rfl) ?_
    with_reducible refine (sec_get1 gs _ _ w _ HI.out HB.out HG.out (by omega)).mono ?_
    rintro e w55 ⟨rfl, hI, hB, hk⟩
    refine ⟨_, rfl, ?_⟩
    have n0_ := Aside0.mk (Kd.R_mono (Kd.R_keep (Kd.R_types HO.out HI.out.2 (by decide)) hk (fun _ h => h.2)) (fun _ _ => trivial))
    have n1_ := Aside0.mk (hk.blk HR.out N1.out (by simp))
    have n2_ := Aside0.mk (hk.blk HM.out N2.out (by simp))
    clear HI HB HR HM HO
    have HI := Aside0.mk hI
    have HB := Aside0.mk hB
    have HO := n0_
    have HR := n1_
    have HM := n2_
    clear n0_ n1_ n2_ hI hB hk
    refine hK.out _ _ ⟨(blk_cell HM.out 0).trans rfl, (blk_cell HM.out 1).trans rfl⟩ (fun hHeld => ?_)
    clear hK K
    refine norm_ (a' := ?_) ?_ ?_
    rotate_left
    · show Act.put _ (some 59) _ = _
      simp only [Act.put, List.setIfInBounds_toArray, List.set_cons_zero, List.set_cons_succ, i64_w, i32_w]
      rfl
    refine pure_ (i := 4) (N := some 60) (v := ?_) (a' := ?_) #[true, true, true, true, true, true, false, true, false, false, false, false, false, false, false, false] rfl rfl (by kernel_rfl) (fun _ _ _ h => h) (Or.inl ⟨by rfl, ?_⟩) ?_ ?_
    rotate_left
    · intro w'
      go_simp
      with_reducible rfl
    rotate_left
    · simp only [Act.put, List.setIfInBounds_toArray, List.set_cons_zero, List.set_cons_succ, i64_w, i32_w]
      rfl
    refine one_ (i := 6) (N := some 62) #[true, true, true, true, true, true, true, true, false, false, false, false, false, false, false, false] rfl rfl (by kernel_rfl) (by decide) (fun K hK => ?_)
    refine goes_ Try.func29 (by kernel_rfl) rfl #[.pointer (some ⟨gs, 0, none⟩), .int .i64 8] (by rfl) rfl rfl (by (try simp only [List.map_toArray, List.map_cons, List.map_nil]); first | done | rfl) ?_
    with_reducible refine (sec_get8 gs _ _ w _ HI.out HB.out HG.out (by omega)).mono ?_
    rintro e w56 ⟨rfl, hI, hB, hk⟩
    refine ⟨_, rfl, ?_⟩
    have n0_ := Aside0.mk (Kd.R_mono (Kd.R_keep (Kd.R_types HO.out HI.out.2 (by decide)) hk (fun _ h => h.2)) (fun _ _ => trivial))
    have n1_ := Aside0.mk (hk.blk HR.out N1.out (by simp))
    have n2_ := Aside0.mk (hk.blk HM.out N2.out (by simp))
    clear HI HB HR HM HO
    have HI := Aside0.mk hI
    have HB := Aside0.mk hB
    have HO := n0_
    have HR := n1_
    have HM := n2_
    clear n0_ n1_ n2_ hI hB hk
    refine hK.out _ _ ⟨(blk_cell HM.out 0).trans rfl, (blk_cell HM.out 1).trans rfl⟩ (fun hHeld => ?_)
    clear hK K
    refine norm_ (a' := ?_) ?_ ?_
    rotate_left
    · show Act.put _ (some 62) _ = _
      simp only [Act.put, List.setIfInBounds_toArray, List.set_cons_zero, List.set_cons_succ, i64_w, i32_w]
      rfl
    refine one_ (i := 8) (N := some 64) #[true, true, true, true, true, true, true, true, true, false, false, false, false, false, false, false] rfl rfl (by kernel_rfl) (by decide) (fun K hK => ?_)
    refine goes_ Try.func29 (by kernel_rfl) rfl #[.pointer (some ⟨gs, 0, none⟩), .int .i64 4] (by rfl) rfl rfl (by (try simp only [List.map_toArray, List.map_cons, List.map_nil]); first | done | rfl) ?_
    with_reducible refine (sec_get4 gs _ _ w _ HI.out HB.out HG.out (by omega)).mono ?_
    rintro e w57 ⟨rfl, hI, hB, hk⟩
    refine ⟨_, rfl, ?_⟩
    have n0_ := Aside0.mk (Kd.R_mono (Kd.R_keep (Kd.R_types HO.out HI.out.2 (by decide)) hk (fun _ h => h.2)) (fun _ _ => trivial))
    have n1_ := Aside0.mk (hk.blk HR.out N1.out (by simp))
    have n2_ := Aside0.mk (hk.blk HM.out N2.out (by simp))
    clear HI HB HR HM HO
    have HI := Aside0.mk hI
    have HB := Aside0.mk hB
    have HO := n0_
    have HR := n1_
    have HM := n2_
    clear n0_ n1_ n2_ hI hB hk
    refine hK.out _ _ ⟨(blk_cell HM.out 0).trans rfl, (blk_cell HM.out 1).trans rfl⟩ (fun hHeld => ?_)
    clear hK K
    refine norm_ (a' := ?_) ?_ ?_
    rotate_left
    · show Act.put _ (some 64) _ = _
      simp only [Act.put, List.setIfInBounds_toArray, List.set_cons_zero, List.set_cons_succ, i64_w, i32_w]
      rfl
    refine pure_ (i := 9) (N := some 65) (v := ?_) (a' := ?_) #[true, true, true, true, true, true, true, true, true, true, false, false, false, false, false, false] rfl rfl (by kernel_rfl) (fun _ _ _ h => h) (Or.inl ⟨by rfl, ?_⟩) ?_ ?_
    rotate_left
    · intro w'
      go_simp
      with_reducible rfl
    rotate_left
    · simp only [Act.put, List.setIfInBounds_toArray, List.set_cons_zero, List.set_cons_succ, i64_w, i32_w]
      rfl
    refine pure_ (i := 10) (N := some 66) (v := ?_) (a' := ?_) #[true, true, true, true, true, true, true, true, true, true, true, false, false, false, false, false] rfl rfl (by kernel_rfl) (fun _ _ _ h => h) (Or.inl ⟨by rfl, ?_⟩) ?_ ?_
    rotate_left
    · intro w'
      go_simp
      with_reducible rfl
    rotate_left
    · simp only [Act.put, List.setIfInBounds_toArray, List.set_cons_zero, List.set_cons_succ, i64_w, i32_w]
      rfl
    refine pure_ (i := 11) (N := some 67) (v := ?_) (a' := ?_) #[true, true, true, true, true, true, true, true, true, true, true, true, false, false, false, false] rfl rfl (by kernel_rfl) (fun _ _ _ h => h) (Or.inl ⟨by rfl, ?_⟩) ?_ ?_
    rotate_left
    · intro w'
      go_simp
      with_reducible rfl
    rotate_left
    · simp only [Act.put, List.setIfInBounds_toArray, List.set_cons_zero, List.set_cons_succ, i64_w, i32_w]
      rfl
    refine one_ (i := 12) (N := some 68) #[true, true, true, true, true, true, true, true, true, true, true, true, true, false, false, false] rfl rfl (by kernel_rfl) (by decide) (fun K hK => ?_)
    refine value_ (w1 := ?_) (v := ?_) (by rfl) rfl ?_ ?_
    rotate_left 2
    · go_simp
      constructor
      · rfl
      · rfl
    refine hK.out _ _ ⟨(blk_cell (blk_alloc HM.out _) 0).trans rfl, (blk_cell (blk_alloc HM.out _) 1).trans rfl⟩ (fun hHeld => ?_)
    clear hK K
    refine norm_ (a' := ?_) ?_ ?_
    rotate_left
    · show Act.put _ (some 68) _ = _
      simp only [Act.put, List.setIfInBounds_toArray, List.set_cons_zero, List.set_cons_succ, i64_w, i32_w]
      rfl
    refine one_ (i := 13) (N := some 69) #[true, true, true, true, true, true, true, true, true, true, true, true, true, true, false, false] rfl rfl (by kernel_rfl) (by decide) (fun K hK => ?_)
    refine Kd.R_append_step k56 (w0 := w) w.heap.size (by rfl) (.tmp 57) (.tmp 68) 23 56 (.agg #[(.int .i64 0), (.int .u64 0), (.int .i64 0)]) 24 rfl Try.underlying23 info56 rfl (by decide) (by omega) v (partsOf (Tools.nums8 a0) j) (partAt (Tools.nums8 a0) j) [.int .i64 (partAt (Tools.nums8 a0) j).f0, .int .u64 (partAt (Tools.nums8 a0) j).f1, .int .i64 (partAt (Tools.nums8 a0) j).f2] (fun _ => True) (fun _ => False) rfl rfl ?aP (fun _ hk => hk.elim) ?aF ?aO ?aB ?aS ?aL ?_
    (case aP => exact k56_mkM _ _ _ (partAt (Tools.nums8 a0) j))
    (case aB => exact HB.out)
    (case aF => exact (fun _ _ => trivial))
    (case aO => exact HO.out)
    (case aS => exact HB.out.size)
    (case aL => rw [partsOf_len]; omega)
    intro v2 w59 ho hb hg hat
    rw [← partsOf_succ] at ho
    have n0_ := Aside0.mk (blk_grown HR.out hg (Kd.R_ne HO.out HR.out (by decide)))
    have n1_ := Aside0.mk (blk_grown HM.out hg (Kd.R_ne HO.out HM.out (by decide)))
    have n2_ := Aside0.mk (show IsSec w59 gs (Tools.nums8 a0) ((9 + 13 * j + 1 + 8 + 4 : Nat) : Int) from ⟨HI.out.1, blk_grown HI.out.2 hg (Kd.R_ne HO.out HI.out.2 (by decide))⟩)
    clear HR HM HI HB HO
    have HR := n0_
    have HM := n1_
    have HI := n2_
    have HB := Aside0.mk hb
    have HO := Aside0.mk ho
    clear n0_ n1_ n2_ hb ho hg hat
    obtain ⟨Ao, co, rfl⟩ := Kd.R_slice HO.out
    refine hK.out _ _ ⟨(blk_cell HM.out 0).trans rfl, (blk_cell HM.out 1).trans rfl⟩ (fun hHeld => ?_)
    clear hK K
    refine norm_ (a' := ?_) ?_ ?_
    rotate_left
    · show Act.put _ (some 69) _ = _
      simp only [Act.put, List.setIfInBounds_toArray, List.set_cons_zero, List.set_cons_succ, i64_w, i32_w]
      rfl
    refine pure_ (i := 14) (N := some 70) (v := ?_) (a' := ?_) #[true, true, true, true, true, true, true, true, true, true, true, true, true, true, true, false] rfl rfl (by kernel_rfl) (fun _ _ _ h => h) (Or.inl ⟨by rfl, ?_⟩) ?_ ?_
    rotate_left
    · intro w'
      go_simp
      with_reducible rfl
    rotate_left
    · simp only [Act.put, List.setIfInBounds_toArray, List.set_cons_zero, List.set_cons_succ, i64_w, i32_w]
      rfl
    refine last_ (i := 15) (N := none) #[true, true, true, true, true, true, true, true, true, true, true, true, true, true, true, true] rfl rfl (by kernel_rfl) (by decide) (fun K hK => ?_)
    have hs57 : w59.cell? ⟨w11.heap.size, 1, none⟩ = some v := (blk_cell HM.out 1).trans rfl
    have hfs57 := blk_frozen HM.out 1
    refine skip_ (w1 := ?_) (by rfl) rfl ?_ ?_
    rotate_left
    · go_simp
      rfl
    refine hK.out _ _ ?_
    clear hK K
    refine done_ (by kernel_rfl) ?_
    (try go_wp2)
    go_roundg (n - (j + 1))
    case measure => omega
    case rel => exact ⟨j + 1, _, by omega, by omega, by first | rfl | go_num, ⟨HI.out.far (p := ⟨w11.heap.size, 1, none⟩) (fun z => N2.out z.symm) _⟩, ⟨blk_far (p := ⟨w11.heap.size, 1, none⟩) HR.out N3.out _⟩, ⟨blk_put HM.out 1 _ rfl⟩, ⟨Kd.R_mono (Kd.R_far (p := ⟨w11.heap.size, 1, none⟩) (Kd.R_types HO.out HM.out (by decide)) (fun _ hk => hk.2) _) (fun _ _ => trivial)⟩, ⟨below_set HB.out GM.out⟩⟩
  · obtain rfl : j = n := by omega
    have dlt : decide ((j : Int) < (j : Int)) = false := decide_eq_false (by omega)
    have h := H1.out
    clear H1
    obtain ⟨q, hq⟩ : ∃ q, checkM E (partsOf (Tools.nums8 a0) j) = q := ⟨_, rfl⟩
    rw [hq] at h
    have HQ := Aside0.mk (show manifest_Check.f E (partsOf (Tools.nums8 a0) j) = some q from congrArg some hq)
    clear hq
    obtain ⟨Ao, co, rfl⟩ := Kd.R_slice HO.out
    obtain ⟨m0, m1⟩ := manifest_cells HM.out
    obtain ⟨r0, r1⟩ := manifest_cells HR.out
    have q0 := blk_frozen HR.out 0
    have q1 := blk_frozen HR.out 1
    by_cases c5 : q ≠ 0
    · rw [if_pos c5] at h
      cases h
      have e5 : (q != 0) = true := bne_iff_ne.mpr c5
      clear c5
      go_wp2_with (go_at_call 13; refine (manifest_Check.calls E _ _ (partsOf (Tools.nums8 a0) j) q _ (Kd.R_reads' HO.out).2.2 (Kd.R_reads' HO.out).2.1 HQ.out).mono ?_; rintro e w20 ⟨rfl, hb⟩; have n0_ := Aside0.mk (Kd.R_below HO.out hb); have n1_ := Aside0.mk (blk_below HR.out hb); have n2_ := Aside0.mk (blk_below HM.out hb); have n3_ := Aside0.mk (below_step HB.out hb); clear HO HR HM HB m0 m1 r0 r1 q0 q1; have HO := n0_; have HR := n1_; have HM := n2_; have HB := n3_; clear n0_ n1_ n2_ n3_ hb; obtain ⟨m0, m1⟩ := manifest_cells HM.out; obtain ⟨r0, r1⟩ := manifest_cells HR.out; have q0 := blk_frozen HR.out 0; have q1 := blk_frozen HR.out 1; clear HI)
      refine bodyPost_ret (results_ct rfl _ _ gr 25 #[.int .u64 0, .slice none 0 0] (0, 0) _ rfl (by refine blkU ?_; refine blk_put (cs := #[.int .u64 0, .slice none 0 0]) ?_ 1 _ rfl; refine blkU ?_; refine blk_put (cs := #[.int .u64 0, .slice none 0 0]) ?_ 0 _ rfl; (repeat (first | exact HR.out | (with_reducible refine blk_drewN ?_ _) | (with_reducible refine blk_drew ?_) | (with_reducible refine blk_alloc ?_ _)))) Try.underlying25 rfl (by kernel_rfl)) rfl ?_
      exact ⟨_, rfl, Kd.R_nil _ _ _ _ _, by repeat (first | (with_reducible first | exact HB.out | apply below_alloc | apply pw_below_drewN | apply below_drew1 | refine below_set ?_ GR.out) | exact HB.out)⟩
    rw [if_neg c5] at h
    have e5 : (q != 0) = false := bne_eq_false_iff_eq.mpr (Decidable.byContradiction c5)
    clear c5
    obtain ⟨x, hx, h⟩ := Option.bind_eq_some_iff.mp h
    have HX := Aside0.mk hx
    clear hx
    by_cases c6 : x.toList ≠ a0.toList
    · rw [if_pos c6] at h
      cases h
      have e6 : (x.toList == a0.toList) = false := beq_eq_false_iff_ne.mpr c6
      clear c6
      go_wp2_with (first
       | (go_at_call 13; refine (manifest_Check.calls E _ _ (partsOf (Tools.nums8 a0) j) q _ (Kd.R_reads' HO.out).2.2 (Kd.R_reads' HO.out).2.1 HQ.out).mono ?_; rintro e w20 ⟨rfl, hb⟩; have n0_ := Aside0.mk (Kd.R_below HO.out hb); have n1_ := Aside0.mk (blk_below HR.out hb); have n2_ := Aside0.mk (blk_below HM.out hb); have n3_ := Aside0.mk (below_step HB.out hb); clear HO HR HM HB m0 m1 r0 r1 q0 q1; have HO := n0_; have HR := n1_; have HM := n2_; have HB := n3_; clear n0_ n1_ n2_ n3_ hb; obtain ⟨m0, m1⟩ := manifest_cells HM.out; obtain ⟨r0, r1⟩ := manifest_cells HR.out; have q0 := blk_frozen HR.out 0; have q1 := blk_frozen HR.out 1; clear HI)
       | (go_at_call 24; refine (manifest_written.calls k E _ _ (partsOf (Tools.nums8 a0) j) x _ (Kd.R_reads' HO.out).2.2 (Kd.R_reads' HO.out).2.1 HX.out).mono ?_; rintro e w21 ⟨rfl, hb⟩; have n0_ := Aside0.mk (Kd.R_below HO.out hb); have n1_ := Aside0.mk (blk_below HR.out hb); have n2_ := Aside0.mk (blk_below HM.out hb); have n3_ := Aside0.mk (below_step HB.out hb); clear HO HR HM HB m0 m1 r0 r1 q0 q1; have HO := n0_; have HR := n1_; have HM := n2_; have HB := n3_; clear n0_ n1_ n2_ n3_ hb; obtain ⟨m0, m1⟩ := manifest_cells HM.out; obtain ⟨r0, r1⟩ := manifest_cells HR.out; have q0 := blk_frozen HR.out 0; have q1 := blk_frozen HR.out 1))
      refine bodyPost_ret (results_ct rfl _ _ gr 25 #[.int .u64 0, .slice none 0 0] (0, 0) _ rfl (by refine blkU ?_; refine blk_put (cs := #[.int .u64 0, .slice none 0 0]) ?_ 1 _ rfl; refine blkU ?_; refine blk_put (cs := #[.int .u64 0, .slice none 0 0]) ?_ 0 _ rfl; (repeat (first | exact HR.out | (with_reducible refine blk_drewN ?_ _) | (with_reducible refine blk_drew ?_) | (with_reducible refine blk_alloc ?_ _)))) Try.underlying25 rfl (by kernel_rfl)) rfl ?_
      exact ⟨_, rfl, Kd.R_nil _ _ _ _ _, by repeat (first | (with_reducible first | exact HB.out | apply below_alloc | apply pw_below_drewN | apply below_drew1 | refine below_set ?_ GR.out) | exact HB.out)⟩
    rw [if_neg c6] at h
    have e6 : (x.toList == a0.toList) = true := beq_iff_eq.mpr (Decidable.byContradiction c6)
    clear c6
    cases h
    go_wp2_with (first
     | (go_at_call 13; refine (manifest_Check.calls E _ _ (partsOf (Tools.nums8 a0) j) q _ (Kd.R_reads' HO.out).2.2 (Kd.R_reads' HO.out).2.1 HQ.out).mono ?_; rintro e w20 ⟨rfl, hb⟩; have n0_ := Aside0.mk (Kd.R_below HO.out hb); have n1_ := Aside0.mk (blk_below HR.out hb); have n2_ := Aside0.mk (blk_below HM.out hb); have n3_ := Aside0.mk (below_step HB.out hb); clear HO HR HM HB m0 m1 r0 r1 q0 q1; have HO := n0_; have HR := n1_; have HM := n2_; have HB := n3_; clear n0_ n1_ n2_ n3_ hb; obtain ⟨m0, m1⟩ := manifest_cells HM.out; obtain ⟨r0, r1⟩ := manifest_cells HR.out; have q0 := blk_frozen HR.out 0; have q1 := blk_frozen HR.out 1; clear HI)
     | (go_at_call 24; refine (manifest_written.calls k E _ _ (partsOf (Tools.nums8 a0) j) x _ (Kd.R_reads' HO.out).2.2 (Kd.R_reads' HO.out).2.1 HX.out).mono ?_; rintro e w21 ⟨rfl, hb⟩; have n0_ := Aside0.mk (Kd.R_below HO.out hb); have n1_ := Aside0.mk (blk_below HR.out hb); have n2_ := Aside0.mk (blk_below HM.out hb); have n3_ := Aside0.mk (below_step HB.out hb); clear HO HR HM HB m0 m1 r0 r1 q0 q1; have HO := n0_; have HR := n1_; have HM := n2_; have HB := n3_; clear n0_ n1_ n2_ n3_ hb; obtain ⟨m0, m1⟩ := manifest_cells HM.out; obtain ⟨r0, r1⟩ := manifest_cells HR.out; have q0 := blk_frozen HR.out 0; have q1 := blk_frozen HR.out 1))
    refine bodyPost_ret (results_ct rfl _ _ gr 25 #[.int .u64 E, .slice Ao (partsOf (Tools.nums8 a0) j).length co] (0, 0) _ rfl (by refine blkU ?_; refine blk_put (cs := #[.int .u64 E, .slice none 0 0]) ?_ 1 _ rfl; refine blkU ?_; refine blk_put (cs := #[.int .u64 0, .slice none 0 0]) ?_ 0 _ rfl; (repeat (first | exact HR.out | (with_reducible refine blk_drewN ?_ _) | (with_reducible refine blk_drew ?_) | (with_reducible refine blk_alloc ?_ _)))) Try.underlying25 rfl (by kernel_rfl)) rfl ?_
    exact ⟨_, rfl, by (try apply RU); exact Kd.R_mono (Kd.R_far (p := ⟨gr, 1, none⟩) (Kd.R_far (p := ⟨gr, 0, none⟩) (Kd.R_types HO.out HR.out (by decide)) (fun _ hk => hk.2) _) (fun _ hk => hk.2) _) (fun _ _ => trivial), by repeat (first | (with_reducible first | exact HB.out | apply below_alloc | apply pw_below_drewN | apply below_drew1 | refine below_set ?_ GR.out) | exact HB.out)⟩
theorem manifest_Get.calls (k : Nat) (a0 : ByteArray) (r1 : Int) (r2 : List (S56)) (r3 : Int) (w : World) (h : manifest_Get.f k a0 = some (r1, r2, r3)) :
 Calls Try.prog 10 #[.string a0] w fun e w' => ∃ v1_ : Value, e = .returned (.tuple #[.agg #[.int .u64 r1, v1_], .int .i64 r3]) ∧ Kd.R k56 56 w' w.heap.size (fun _ => True) v1_ r2 ∧ Below w.heap.size w w' := by
 unfold manifest_Get.f at h
 by_cases c : a0.size = 128
 · rw [if_pos c] at h
   exact manifest_Get.main k a0 c _ _ _ _ rfl rfl rfl rfl r1 r2 r3 w h
 · rw [if_neg c] at h
   cases h
   exact manifest_Get.long a0 c w
end Go.Proofs.Ytjagplonneednaa.P
