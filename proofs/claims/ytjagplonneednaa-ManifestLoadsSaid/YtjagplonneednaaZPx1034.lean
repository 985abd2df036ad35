-- kept, by a program of this session, of a text that the printer or this session wrote
import Derived.Test.YtjagplonneednaaZPx0
namespace Go.Proofs.Ytjagplonneednaa.P
open Go.RowKit Go.Proofs.YtjagplonneednaaW.PrintWords Go.Proofs.YtjagplonneednaaW.PrintLast Go.Proofs.YtjagplonneednaaW.PrintMore
attribute [local go_sem] max2_int min2_int max_two min_two max_three min_three max_four min_four
set_option linter.unusedVariables false
set_option linter.unusedSimpArgs false
mutual
def spoorref03_Check.j0 : Nat → Bool → List ByteArray → List (S74) → Int → Bool → Option (Int)
 | 0, _, _, _, _, _ => none
 | k + 1, x27, x302000, x302001, x302002, x302003 => if x27 = true then (some 2) else (spoorref03_Check.l0 k x302000 (x302000.length : Int) 0 x302000 x302001 x302002 x302003)
def spoorref03_Check.l0 : Nat → List ByteArray → Int → Int → List ByteArray → List (S74) → Int → Bool → Option (Int)
 | 0, _, _, _, _, _, _, _ => none
 | k + 1, x29, x30, x31, x302000, x302001, x302002, x302003 => if x31 < x30 then (if 0 ≤ x31 then (if x31 < (x29.length : Int) then (if ((rdOf ByteArray.empty x29 x31).size : Int) = 128 then (spoorref03_Check.l0 k x29 x30 (wrap64 (x31 + 1)) x302000 x302001 x302002 x302003) else (some 2)) else (none)) else (none)) else (spoorref03_Check.l1 k x302001 (x302001.length : Int) 0 x302000 x302001 x302002 x302003)
def spoorref03_Check.l1 : Nat → List (S74) → Int → Int → List ByteArray → List (S74) → Int → Bool → Option (Int)
 | 0, _, _, _, _, _, _, _ => none
 | k + 1, x40, x41, x42, x302000, x302001, x302002, x302003 => if x42 < x41 then (if 0 ≤ x42 then (if x42 < (x40.length : Int) then (if ((rd_T74 x40 x42).f0) < 0 then (some 2) else (if ((rd_T74 x40 x42).f0) ≥ (x302000.length : Int) then (some 2) else (if (((rd_T74 x40 x42).f1).size : Int) = 128 then (spoorref03_Check.l1 k x40 x41 (wrap64 (x42 + 1)) x302000 x302001 x302002 x302003) else (some 2)))) else (none)) else (none)) else (some 0)
end
def spoorref03_Check.f (k : Nat) (l0_0 : List ByteArray) (l0_1 : List (S74)) (a0_2 : Int) (a0_3 : Bool) : Option (Int) := if (l0_0.length : Int) < 1 then (spoorref03_Check.j0 k true l0_0 l0_1 a0_2 a0_3) else (if (l0_0.length : Int) > 1024 then (spoorref03_Check.j0 k true l0_0 l0_1 a0_2 a0_3) else (if (l0_1.length : Int) > 4096 then (spoorref03_Check.j0 k true l0_0 l0_1 a0_2 a0_3) else (spoorref03_Check.j0 k (decide (a0_2 < (-1))) l0_0 l0_1 a0_2 a0_3)))
set_option maxHeartbeats 8000000 in
set_option maxRecDepth 100000 in
theorem spoorref03_Check.calls (k : Nat) (A0_0 : Option Addr) (c0_0 : Nat) (l0_0 : List ByteArray) (A0_1 : Option Addr) (c0_1 : Nat) (l0_1 : List (S74)) (a0_2 : Int) (a0_3 : Bool) (r : Int) (w : World) (hr0_0 : Kd.C Kd.string w A0_0 l0_0.length l0_0) (hc0_0 : l0_0.length ≤ c0_0) (hr0_1 : Kd.C k74 w A0_1 l0_1.length l0_1) (hc0_1 : l0_1.length ≤ c0_1) (h : spoorref03_Check.f k l0_0 l0_1 a0_2 a0_3 = some r) :
 Calls Try.prog 34 #[.agg #[.slice A0_0 l0_0.length c0_0, .slice A0_1 l0_1.length c0_1, .int .i64 a0_2, .bool a0_3]] w fun e w' => e = .returned (.int .i64 r) ∧ Below w.heap.size w w' := by
 have hu38 := Try.underlying38
 have hu74 := Try.underlying74
 have HR0_0 := Aside0.mk hr0_0
 have HC0_0 := Aside0.mk hc0_0
 clear hr0_0 hc0_0
 have HR0_1 := Aside0.mk hr0_1
 have HC0_1 := Aside0.mk hc0_1
 clear hr0_1 hc0_1
 have HB := Aside0.mk (Below.refl w.heap.size w)
 have H : (if (l0_0.length : Int) < 1 then (spoorref03_Check.j0 k true l0_0 l0_1 a0_2 a0_3) else (if (l0_0.length : Int) > 1024 then (spoorref03_Check.j0 k true l0_0 l0_1 a0_2 a0_3) else (if (l0_1.length : Int) > 4096 then (spoorref03_Check.j0 k true l0_0 l0_1 a0_2 a0_3) else (spoorref03_Check.j0 k (decide (a0_2 < (-1))) l0_0 l0_1 a0_2 a0_3)))) = some r := h
 clear h
 have HC2 := Aside0.mk H
 clear H
 go_enter Try.func34, Try.ntmps34
 go_upto_region 1 with (first | ((with_reducible refine gate_dst (N := 1) rfl ?_); (try (refine gate_guard (by rfl) ?_; dsimp only)); refine box_event ?hg (N := 1) ?hd (cs := #[.slice A0_0 l0_0.length c0_0, .slice A0_1 l0_1.length c0_1, .int .i64 a0_2, .bool a0_3]) (t := 38) ?hr ?_; (case hd => rfl); (case hg => rfl); (case hr => first | (go_simp; done) | (go_simp; rfl)); intro gb301 hg w3 hbox hb; have n0_ := Aside0.mk (below_step bel_ hb); have n1_ := Aside0.mk (hbox); have n2_ := Aside0.mk ((by rw [hg]; exact (below_size bel_) : w.heap.size ≤ gb301)); have n3_ := Aside0.mk ((by rw [hg]; exact (below_size bel_) : w.heap.size ≤ gb301)); clear HB; have HB := n0_; have BK301 := n1_; have GW301 := n2_; have GE301 := n3_; clear n0_ n1_ n2_ n3_; clear hb hbox hg))
 (try simp only [Act.put, List.setIfInBounds_toArray, List.set_cons_zero, List.set_cons_succ])
 go_cut [27] (fun v27 wc => ∃ (kq : Nat) (x27_1 : Bool), v27 = .bool x27_1 ∧ Aside0 (spoorref03_Check.j0 kq x27_1 l0_0 l0_1 a0_2 a0_3 = some r) ∧ Aside0 (kq ≤ k) ∧ Aside0 (wc.heap[gb301]? = some (.cells #[(.slice A0_0 l0_0.length c0_0), (.slice A0_1 l0_1.length c0_1), .int .i64 a0_2, .bool a0_3] 38 (0, 0))) ∧ Aside0 (Below w.heap.size w wc))
 case first =>
  have H := HC2.out
  clear HC2
  by_cases c4 : (l0_0.length : Int) < 1
  · rw [if_pos c4] at H
    have c4b0 : decide ((l0_0.length : Int) < 1) = true := decide_eq_true c4
    have c4b1 : decide (l0_0.length < 1) = true := decide_eq_true (by omega)
    clear c4
    (first | rw [c4b0] | (simp only [i64_w, i32_w]; rw [c4b0]) | skip)
    have H' := Aside0.mk H
    clear H
    obtain ⟨hcz5_0, hcz5_1, hcz5_2, hcz5_3, hfz5_0, hfz5_1, hfz5_2, hfz5_3⟩ := c4_ BK301.out
    go_wp2
    go_meet
    case rel => exact ⟨_, (true), (by first | rfl | (simp; done) | (simp [*]; done)), H', ⟨by first | omega | exact Nat.le_refl _⟩, ⟨by refine blkU ?_; exact BK301.out⟩, ⟨bel_⟩⟩
  · rw [if_neg c4] at H
    have c4b0 : decide ((l0_0.length : Int) < 1) = false := decide_eq_false c4
    have c4b1 : decide (l0_0.length < 1) = false := decide_eq_false (by omega)
    clear c4
    (first | rw [c4b0] | (simp only [i64_w, i32_w]; rw [c4b0]) | skip)
    by_cases c6 : (l0_0.length : Int) > 1024
    · rw [if_pos c6] at H
      have c6b0 : decide (1024 < (l0_0.length : Int)) = true := decide_eq_true c6
      have c6b1 : decide (1024 < l0_0.length) = true := decide_eq_true (by omega)
      clear c6
      have H' := Aside0.mk H
      clear H
      obtain ⟨hcz7_0, hcz7_1, hcz7_2, hcz7_3, hfz7_0, hfz7_1, hfz7_2, hfz7_3⟩ := c4_ BK301.out
      go_wp2
      go_meet
      case rel => exact ⟨_, (true), (by first | rfl | (simp; done) | (simp [*]; done)), H', ⟨by first | omega | exact Nat.le_refl _⟩, ⟨by refine blkU ?_; exact BK301.out⟩, ⟨bel_⟩⟩
    · rw [if_neg c6] at H
      have c6b0 : decide (1024 < (l0_0.length : Int)) = false := decide_eq_false c6
      try have c6bw : IntKind.u64.wrap (l0_0.length : Int) = (l0_0.length : Int) := by have q_ := of_decide_eq_false c6b0; rw [IntKind.wrap_u64]; omega
      have c6b1 : decide (1024 < l0_0.length) = false := decide_eq_false (by omega)
      clear c6
      by_cases c8 : (l0_1.length : Int) > 4096
      · rw [if_pos c8] at H
        have c8b0 : decide (4096 < (l0_1.length : Int)) = true := decide_eq_true c8
        have c8b1 : decide (4096 < l0_1.length) = true := decide_eq_true (by omega)
        clear c8
        have H' := Aside0.mk H
        clear H
        obtain ⟨hcz9_0, hcz9_1, hcz9_2, hcz9_3, hfz9_0, hfz9_1, hfz9_2, hfz9_3⟩ := c4_ BK301.out
        go_wp2
        go_meet
        case rel => exact ⟨_, (true), (by first | rfl | (simp; done) | (simp [*]; done)), H', ⟨by first | omega | exact Nat.le_refl _⟩, ⟨by refine blkU ?_; exact BK301.out⟩, ⟨bel_⟩⟩
      · rw [if_neg c8] at H
        have c8b0 : decide (4096 < (l0_1.length : Int)) = false := decide_eq_false c8
        try have c8bw : IntKind.u64.wrap (l0_1.length : Int) = (l0_1.length : Int) := by have q_ := of_decide_eq_false c8b0; rw [IntKind.wrap_u64]; omega
        have c8b1 : decide (4096 < l0_1.length) = false := decide_eq_false (by omega)
        clear c8
        have H' := Aside0.mk H
        clear H
        obtain ⟨hcz10_0, hcz10_1, hcz10_2, hcz10_3, hfz10_0, hfz10_1, hfz10_2, hfz10_3⟩ := c4_ BK301.out
        go_wp2
        go_meet
        case rel => exact ⟨_, (decide (a0_2 < (-1))), (by first | rfl | (simp; done) | (simp [*]; done)), H', ⟨by first | omega | exact Nat.le_refl _⟩, ⟨by refine blkU ?_; exact BK301.out⟩, ⟨bel_⟩⟩
 case rest =>
  clear HC2; try clear p2; try clear c3; try clear c4; try clear c4b0; try clear c4b1; try clear c6; try clear c6b0; try clear c6b1; try clear c8; try clear c8b0; try clear c8b1; try clear hcz10_0; try clear hcz10_1; try clear hcz10_2; try clear hcz10_3; try clear hcz5_0; try clear hcz5_1; try clear hcz5_2; try clear hcz5_3; try clear hcz7_0; try clear hcz7_1; try clear hcz7_2; try clear hcz7_3; try clear hcz9_0; try clear hcz9_1; try clear hcz9_2; try clear hcz9_3; try clear hfz10_0; try clear hfz10_1; try clear hfz10_2; try clear hfz10_3; try clear hfz5_0; try clear hfz5_1; try clear hfz5_2; try clear hfz5_3; try clear hfz7_0; try clear hfz7_1; try clear hfz7_2; try clear hfz7_3; try clear hfz9_0; try clear hfz9_1; try clear hfz9_2; try clear hfz9_3
  obtain ⟨kq, x27_1, rfl, HA, HJ1, BK301, HB⟩ := hcut
  cases kq with
  | zero => exact absurd HA.out (by simp [spoorref03_Check.j0])
  | succ kj1 =>
   have H := HA.out
   clear HA
   simp only [spoorref03_Check.j0] at H
   by_cases c11 : x27_1 = true
   · subst c11
     have H1 : (some 2) = some r := by rw [if_pos rfl] at H; exact H
     clear H
     have H := H1
     clear H1
     obtain rfl := Option.some.inj H
     go_wp2
     go_ret
     exact ⟨by first | rfl | (simp [errW_none, errW_some] <;> rfl) | (simp [*, errW_none, errW_some] <;> rfl), bel_⟩
   · replace c11 := Bool.eq_false_iff.mpr c11
     subst c11
     have H1 : (spoorref03_Check.l0 kj1 l0_0 (l0_0.length : Int) 0 l0_0 l0_1 a0_2 a0_3) = some r := by rw [if_neg (show ¬ (false = true) by decide)] at H; exact H
     clear H
     have H := H1
     clear H1
     have H' := Aside0.mk H
     clear H
     obtain ⟨hcz12_0, hcz12_1, hcz12_2, hcz12_3, hfz12_0, hfz12_1, hfz12_2, hfz12_3⟩ := c4_ BK301.out
     go_wp2
     go_loopg [31] kj1 (fun kq v31 w' => ∃ (x31_2 : Int), v31 = .int .i64 x31_2 ∧ Aside0 (spoorref03_Check.l0 kq l0_0 (l0_0.length : Int) x31_2 l0_0 l0_1 a0_2 a0_3 = some r) ∧ Aside0 (kq ≤ kj1) ∧ Aside0 (w'.heap[gb301]? = some (.cells #[(.slice A0_0 l0_0.length c0_0), (.slice A0_1 l0_1.length c0_1), .int .i64 a0_2, .bool a0_3] 38 (0, 0))) ∧ Aside0 (Below w.heap.size w w'))
     case atStart => exact ⟨(0), (by first | rfl | (simp; done) | (simp [*]; done)), H', ⟨Nat.le_refl _⟩, ⟨by refine blkU ?_; exact BK301.out⟩, ⟨bel_⟩⟩
     case round =>
      clear H'; try clear c1; try clear p2; try clear c3; try clear c4; try clear c4b0; try clear c4b1; try clear c6; try clear c6b0; try clear c6b1; try clear c8; try clear c8b0; try clear c8b1; try clear c11; try clear hcz10_0; try clear hcz10_1; try clear hcz10_2; try clear hcz10_3; try clear hcz12_0; try clear hcz12_1; try clear hcz12_2; try clear hcz12_3; try clear hcz5_0; try clear hcz5_1; try clear hcz5_2; try clear hcz5_3; try clear hcz7_0; try clear hcz7_1; try clear hcz7_2; try clear hcz7_3; try clear hcz9_0; try clear hcz9_1; try clear hcz9_2; try clear hcz9_3; try clear hfz10_0; try clear hfz10_1; try clear hfz10_2; try clear hfz10_3; try clear hfz12_0; try clear hfz12_1; try clear hfz12_2; try clear hfz12_3; try clear hfz5_0; try clear hfz5_1; try clear hfz5_2; try clear hfz5_3; try clear hfz7_0; try clear hfz7_1; try clear hfz7_2; try clear hfz7_3; try clear hfz9_0; try clear hfz9_1; try clear hfz9_2; try clear hfz9_3; try clear p2
      obtain ⟨x31_2, rfl, HA, HK2, BK301, HB⟩ := hrel
      cases gk with
      | zero => exact absurd HA.out (by simp [spoorref03_Check.l0])
      | succ k2 =>
       have H := HA.out
       clear HA
       simp only [spoorref03_Check.l0] at H
       by_cases c13 : x31_2 < (l0_0.length : Int)
       · rw [if_pos c13] at H
         have c13b0 : decide (x31_2 < (l0_0.length : Int)) = true := decide_eq_true c13
         clear c13
         by_cases c14 : 0 ≤ x31_2
         · rw [if_pos c14] at H
           have c14b0 : decide (0 ≤ x31_2) = true := decide_eq_true c14
           clear c14
           by_cases c15 : x31_2 < (l0_0.length : Int)
           · rw [if_pos c15] at H
             have c15b0 : decide (x31_2 < (l0_0.length : Int)) = true := decide_eq_true c15
             clear c15
             by_cases c16 : ((rdOf ByteArray.empty l0_0 x31_2).size : Int) = 128
             · rw [if_pos c16] at H
               have c16b0 : (((rdOf ByteArray.empty l0_0 x31_2).size : Int) == 128) = true := beq_iff_eq.mpr c16
               have c16b1 : (((rdOf ByteArray.empty l0_0 x31_2).size : Int) != 128) = false := bne_eq_false_iff_eq.mpr c16
               clear c16
               have H' := Aside0.mk H
               clear H
               have p302 : 0 ≤ (x31_2 : Int) := of_decide_eq_true (by first | (with_reducible assumption) | assumption)
               have q302 : x31_2 < (l0_0.length : Int) := of_decide_eq_true (by first | (with_reducible assumption) | assumption)
               obtain ⟨ad302, e302, hx302_0⟩ := Kd.at_string HR0_0.out x31_2 p302 q302
               cases e302
               replace hx302_0 := (HB.out.cell (World.block_lt_of_cell? w _ hx302_0)).trans hx302_0
               replace p302 := eq_true p302
               replace q302 := eq_true q302
               go_wp2
               go_roundg k2
               case measure => have := HJ1.out; have := HK2.out; omega
               case rel => exact ⟨(wrap64 (x31_2 + 1)), (by first | rfl | (simp; done) | (simp [*]; done)), H', ⟨by have := HJ1.out; have := HK2.out; omega⟩, ⟨by refine blkU ?_; exact BK301.out⟩, ⟨bel_⟩⟩
             · rw [if_neg c16] at H
               have c16b0 : (((rdOf ByteArray.empty l0_0 x31_2).size : Int) == 128) = false := beq_eq_false_iff_ne.mpr c16
               have c16b1 : (((rdOf ByteArray.empty l0_0 x31_2).size : Int) != 128) = true := bne_iff_ne.mpr c16
               obtain rfl := Option.some.inj H
               have p302 : 0 ≤ (x31_2 : Int) := of_decide_eq_true (by first | (with_reducible assumption) | assumption)
               have q302 : x31_2 < (l0_0.length : Int) := of_decide_eq_true (by first | (with_reducible assumption) | assumption)
               obtain ⟨ad302, e302, hx302_0⟩ := Kd.at_string HR0_0.out x31_2 p302 q302
               cases e302
               replace hx302_0 := (HB.out.cell (World.block_lt_of_cell? w _ hx302_0)).trans hx302_0
               replace p302 := eq_true p302
               replace q302 := eq_true q302
               go_wp2
               go_ret
               exact ⟨by first | rfl | (simp [errW_none, errW_some] <;> rfl) | (simp [*, errW_none, errW_some] <;> rfl), bel_⟩
           · rw [if_neg c15] at H
             exact absurd H (by simp)
         · rw [if_neg c14] at H
           exact absurd H (by simp)
       · rw [if_neg c13] at H
         have c13b0 : decide (x31_2 < (l0_0.length : Int)) = false := decide_eq_false c13
         clear c13
         have H' := Aside0.mk H
         clear H
         obtain ⟨hcz17_0, hcz17_1, hcz17_2, hcz17_3, hfz17_0, hfz17_1, hfz17_2, hfz17_3⟩ := c4_ BK301.out
         go_wp2
         go_loopg [42] k2 (fun kq v42 w' => ∃ (x42_3 : Int), v42 = .int .i64 x42_3 ∧ Aside0 (spoorref03_Check.l1 kq l0_1 (l0_1.length : Int) x42_3 l0_0 l0_1 a0_2 a0_3 = some r) ∧ Aside0 (kq ≤ k2) ∧ Aside0 (w'.heap[gb301]? = some (.cells #[(.slice A0_0 l0_0.length c0_0), (.slice A0_1 l0_1.length c0_1), .int .i64 a0_2, .bool a0_3] 38 (0, 0))) ∧ Aside0 (Below w.heap.size w w'))
         case atStart => exact ⟨(0), (by first | rfl | (simp; done) | (simp [*]; done)), H', ⟨Nat.le_refl _⟩, ⟨by refine blkU ?_; exact BK301.out⟩, ⟨bel_⟩⟩
         case round =>
          clear H'; try clear c1; try clear p2; try clear c3; try clear p3; try clear q3; try clear hx3; try clear c4; try clear c4b0; try clear c4b1; try clear c6; try clear c6b0; try clear c6b1; try clear p6; try clear c8; try clear c8b0; try clear c8b1; try clear c11; try clear c13; try clear c13b0; try clear c14; try clear c14b0; try clear c15; try clear c15b0; try clear c16; try clear c16b0; try clear c16b1; try clear hcz10_0; try clear hcz10_1; try clear hcz10_2; try clear hcz10_3; try clear hcz12_0; try clear hcz12_1; try clear hcz12_2; try clear hcz12_3; try clear hcz17_0; try clear hcz17_1; try clear hcz17_2; try clear hcz17_3; try clear hcz5_0; try clear hcz5_1; try clear hcz5_2; try clear hcz5_3; try clear hcz7_0; try clear hcz7_1; try clear hcz7_2; try clear hcz7_3; try clear hcz9_0; try clear hcz9_1; try clear hcz9_2; try clear hcz9_3; try clear hfz10_0; try clear hfz10_1; try clear hfz10_2; try clear hfz10_3; try clear hfz12_0; try clear hfz12_1; try clear hfz12_2; try clear hfz12_3; try clear hfz17_0; try clear hfz17_1; try clear hfz17_2; try clear hfz17_3; try clear hfz5_0; try clear hfz5_1; try clear hfz5_2; try clear hfz5_3; try clear hfz7_0; try clear hfz7_1; try clear hfz7_2; try clear hfz7_3; try clear hfz9_0; try clear hfz9_1; try clear hfz9_2; try clear hfz9_3; try clear hx302_0; try clear p2; try clear p302; try clear q302
          obtain ⟨x42_3, rfl, HA, HK3, BK301, HB⟩ := hrel
          cases gk with
          | zero => exact absurd HA.out (by simp [spoorref03_Check.l1])
          | succ k3 =>
           have H := HA.out
           clear HA
           simp only [spoorref03_Check.l1] at H
           by_cases c18 : x42_3 < (l0_1.length : Int)
           · rw [if_pos c18] at H
             have c18b0 : decide (x42_3 < (l0_1.length : Int)) = true := decide_eq_true c18
             clear c18
             by_cases c19 : 0 ≤ x42_3
             · rw [if_pos c19] at H
               have c19b0 : decide (0 ≤ x42_3) = true := decide_eq_true c19
               clear c19
               by_cases c20 : x42_3 < (l0_1.length : Int)
               · rw [if_pos c20] at H
                 have c20b0 : decide (x42_3 < (l0_1.length : Int)) = true := decide_eq_true c20
                 clear c20
                 by_cases c21 : ((rd_T74 l0_1 x42_3).f0) < 0
                 · rw [if_pos c21] at H
                   have c21b0 : decide (((rd_T74 l0_1 x42_3).f0) < 0) = true := decide_eq_true c21
                   clear c21
                   obtain rfl := Option.some.inj H
                   have p303 : 0 ≤ (x42_3 : Int) := of_decide_eq_true (by first | (with_reducible assumption) | assumption)
                   have q303 : x42_3 < (l0_1.length : Int) := of_decide_eq_true (by first | (with_reducible assumption) | assumption)
                   obtain ⟨ad303, e303, hx303_0, hx303_1⟩ := at_T74 HR0_1.out x42_3 p303 q303
                   cases e303
                   replace hx303_0 := (HB.out.cell (World.block_lt_of_cell? w _ hx303_0)).trans hx303_0
                   replace hx303_1 := (HB.out.cell (World.block_lt_of_cell? w _ hx303_1)).trans hx303_1
                   replace p303 := eq_true p303
                   replace q303 := eq_true q303
                   go_wp2_with (first | ((with_reducible refine gate_dst (N := 6) rfl ?_); (try (refine gate_guard (by rfl) ?_; dsimp only)); refine box_event ?hg (N := 6) ?hd (cs := #[.int .i64 0, .string (⟨#[]⟩ : ByteArray)]) (t := 74) ?hr ?_; (case hd => rfl); (case hg => rfl); (case hr => first | (go_simp; done) | (go_simp; rfl)); intro gb304 hg w22 hbox hb; have n0_ := Aside0.mk (blk_below (blkU BK301.out) hb); have n1_ := Aside0.mk (below_step bel_ hb); have n2_ := Aside0.mk (hbox); have n3_ := Aside0.mk ((by rw [hg]; exact (below_size bel_) : w.heap.size ≤ gb304)); have n4_ := Aside0.mk ((by rw [hg]; exact (below_size bel_) : w.heap.size ≤ gb304)); have n5_ := Aside0.mk ((by rw [hg]; exact Nat.ne_of_lt (blk_lt (blkU BK301.out)) : gb301 ≠ gb304)); have n6_ := Aside0.mk ((by rw [hg]; exact Nat.ne_of_gt (blk_lt (blkU BK301.out)) : gb304 ≠ gb301)); clear BK301; clear HB; have BK301 := n0_; have HB := n1_; have BK304 := n2_; have GW304 := n3_; have GE304 := n4_; have NB301_304 := n5_; have NB304_301 := n6_; clear n0_ n1_ n2_ n3_ n4_ n5_ n6_; clear hb hbox hg; have hnb23 := NB304_301.out; have hnc23 := NB301_304.out; obtain ⟨hcz24_0, hcz24_1, hfz24_0, hfz24_1⟩ := c2_ BK304.out))
                   go_ret
                   exact ⟨by first | rfl | (simp [errW_none, errW_some] <;> rfl) | (simp [*, errW_none, errW_some] <;> rfl), bel_⟩
                 · rw [if_neg c21] at H
                   have c21b0 : decide (((rd_T74 l0_1 x42_3).f0) < 0) = false := decide_eq_false c21
                   clear c21
                   by_cases c25 : ((rd_T74 l0_1 x42_3).f0) ≥ (l0_0.length : Int)
                   · rw [if_pos c25] at H
                     have c25b0 : decide ((l0_0.length : Int) ≤ ((rd_T74 l0_1 x42_3).f0)) = true := decide_eq_true c25
                     clear c25
                     obtain rfl := Option.some.inj H
                     have p303 : 0 ≤ (x42_3 : Int) := of_decide_eq_true (by first | (with_reducible assumption) | assumption)
                     have q303 : x42_3 < (l0_1.length : Int) := of_decide_eq_true (by first | (with_reducible assumption) | assumption)
                     obtain ⟨ad303, e303, hx303_0, hx303_1⟩ := at_T74 HR0_1.out x42_3 p303 q303
                     cases e303
                     replace hx303_0 := (HB.out.cell (World.block_lt_of_cell? w _ hx303_0)).trans hx303_0
                     replace hx303_1 := (HB.out.cell (World.block_lt_of_cell? w _ hx303_1)).trans hx303_1
                     replace p303 := eq_true p303
                     replace q303 := eq_true q303
                     go_wp2_with (first | ((with_reducible refine gate_dst (N := 6) rfl ?_); (try (refine gate_guard (by rfl) ?_; dsimp only)); refine box_event ?hg (N := 6) ?hd (cs := #[.int .i64 0, .string (⟨#[]⟩ : ByteArray)]) (t := 74) ?hr ?_; (case hd => rfl); (case hg => rfl); (case hr => first | (go_simp; done) | (go_simp; rfl)); intro gb304 hg w26 hbox hb; have n0_ := Aside0.mk (blk_below (blkU BK301.out) hb); have n1_ := Aside0.mk (below_step bel_ hb); have n2_ := Aside0.mk (hbox); have n3_ := Aside0.mk ((by rw [hg]; exact (below_size bel_) : w.heap.size ≤ gb304)); have n4_ := Aside0.mk ((by rw [hg]; exact (below_size bel_) : w.heap.size ≤ gb304)); have n5_ := Aside0.mk ((by rw [hg]; exact Nat.ne_of_lt (blk_lt (blkU BK301.out)) : gb301 ≠ gb304)); have n6_ := Aside0.mk ((by rw [hg]; exact Nat.ne_of_gt (blk_lt (blkU BK301.out)) : gb304 ≠ gb301)); clear BK301; clear HB; have BK301 := n0_; have HB := n1_; have BK304 := n2_; have GW304 := n3_; have GE304 := n4_; have NB301_304 := n5_; have NB304_301 := n6_; clear n0_ n1_ n2_ n3_ n4_ n5_ n6_; clear hb hbox hg; have hnb27 := NB304_301.out; have hnc27 := NB301_304.out; obtain ⟨hcz28_0, hcz28_1, hfz28_0, hfz28_1⟩ := c2_ BK304.out; obtain ⟨hcz29_0, hcz29_1, hcz29_2, hcz29_3, hfz29_0, hfz29_1, hfz29_2, hfz29_3⟩ := c4_ BK301.out))
                     go_ret
                     exact ⟨by first | rfl | (simp [errW_none, errW_some] <;> rfl) | (simp [*, errW_none, errW_some] <;> rfl), bel_⟩
                   · rw [if_neg c25] at H
                     have c25b0 : decide ((l0_0.length : Int) ≤ ((rd_T74 l0_1 x42_3).f0)) = false := decide_eq_false c25
                     clear c25
                     by_cases c30 : (((rd_T74 l0_1 x42_3).f1).size : Int) = 128
                     · rw [if_pos c30] at H
                       have c30b0 : ((((rd_T74 l0_1 x42_3).f1).size : Int) == 128) = true := beq_iff_eq.mpr c30
                       have c30b1 : ((((rd_T74 l0_1 x42_3).f1).size : Int) != 128) = false := bne_eq_false_iff_eq.mpr c30
                       clear c30
                       have H' := Aside0.mk H
                       clear H
                       have p303 : 0 ≤ (x42_3 : Int) := of_decide_eq_true (by first | (with_reducible assumption) | assumption)
                       have q303 : x42_3 < (l0_1.length : Int) := of_decide_eq_true (by first | (with_reducible assumption) | assumption)
                       obtain ⟨ad303, e303, hx303_0, hx303_1⟩ := at_T74 HR0_1.out x42_3 p303 q303
                       cases e303
                       replace hx303_0 := (HB.out.cell (World.block_lt_of_cell? w _ hx303_0)).trans hx303_0
                       replace hx303_1 := (HB.out.cell (World.block_lt_of_cell? w _ hx303_1)).trans hx303_1
                       replace p303 := eq_true p303
                       replace q303 := eq_true q303
                       go_wp2_with (first | ((with_reducible refine gate_dst (N := 6) rfl ?_); (try (refine gate_guard (by rfl) ?_; dsimp only)); refine box_event ?hg (N := 6) ?hd (cs := #[.int .i64 0, .string (⟨#[]⟩ : ByteArray)]) (t := 74) ?hr ?_; (case hd => rfl); (case hg => rfl); (case hr => first | (go_simp; done) | (go_simp; rfl)); intro gb304 hg w31 hbox hb; have n0_ := Aside0.mk (blk_below (blkU BK301.out) hb); have n1_ := Aside0.mk (below_step bel_ hb); have n2_ := Aside0.mk (hbox); have n3_ := Aside0.mk ((by rw [hg]; exact (below_size bel_) : w.heap.size ≤ gb304)); have n4_ := Aside0.mk ((by rw [hg]; exact (below_size bel_) : w.heap.size ≤ gb304)); have n5_ := Aside0.mk ((by rw [hg]; exact Nat.ne_of_lt (blk_lt (blkU BK301.out)) : gb301 ≠ gb304)); have n6_ := Aside0.mk ((by rw [hg]; exact Nat.ne_of_gt (blk_lt (blkU BK301.out)) : gb304 ≠ gb301)); clear BK301; clear HB; have BK301 := n0_; have HB := n1_; have BK304 := n2_; have GW304 := n3_; have GE304 := n4_; have NB301_304 := n5_; have NB304_301 := n6_; clear n0_ n1_ n2_ n3_ n4_ n5_ n6_; clear hb hbox hg; have hnb32 := NB304_301.out; have hnc32 := NB301_304.out; obtain ⟨hcz33_0, hcz33_1, hfz33_0, hfz33_1⟩ := c2_ BK304.out; obtain ⟨hcz34_0, hcz34_1, hcz34_2, hcz34_3, hfz34_0, hfz34_1, hfz34_2, hfz34_3⟩ := c4_ BK301.out))
                       go_roundg k3
                       case measure => have := HJ1.out; have := HK2.out; have := HK3.out; omega
                       case rel => exact ⟨(wrap64 (x42_3 + 1)), (by first | rfl | (simp; done) | (simp [*]; done)), H', ⟨by have := HJ1.out; have := HK2.out; have := HK3.out; omega⟩, ⟨by refine blkU ?_; refine blk_far ?_ NB301_304.out _; refine blkU ?_; refine blk_far ?_ NB301_304.out _; refine blkU ?_; exact BK301.out⟩, ⟨bel_⟩⟩
                     · rw [if_neg c30] at H
                       have c30b0 : ((((rd_T74 l0_1 x42_3).f1).size : Int) == 128) = false := beq_eq_false_iff_ne.mpr c30
                       have c30b1 : ((((rd_T74 l0_1 x42_3).f1).size : Int) != 128) = true := bne_iff_ne.mpr c30
                       obtain rfl := Option.some.inj H
                       have p303 : 0 ≤ (x42_3 : Int) := of_decide_eq_true (by first | (with_reducible assumption) | assumption)
                       have q303 : x42_3 < (l0_1.length : Int) := of_decide_eq_true (by first | (with_reducible assumption) | assumption)
                       obtain ⟨ad303, e303, hx303_0, hx303_1⟩ := at_T74 HR0_1.out x42_3 p303 q303
                       cases e303
                       replace hx303_0 := (HB.out.cell (World.block_lt_of_cell? w _ hx303_0)).trans hx303_0
                       replace hx303_1 := (HB.out.cell (World.block_lt_of_cell? w _ hx303_1)).trans hx303_1
                       replace p303 := eq_true p303
                       replace q303 := eq_true q303
                       go_wp2_with (first | ((with_reducible refine gate_dst (N := 6) rfl ?_); (try (refine gate_guard (by rfl) ?_; dsimp only)); refine box_event ?hg (N := 6) ?hd (cs := #[.int .i64 0, .string (⟨#[]⟩ : ByteArray)]) (t := 74) ?hr ?_; (case hd => rfl); (case hg => rfl); (case hr => first | (go_simp; done) | (go_simp; rfl)); intro gb304 hg w35 hbox hb; have n0_ := Aside0.mk (blk_below (blkU BK301.out) hb); have n1_ := Aside0.mk (below_step bel_ hb); have n2_ := Aside0.mk (hbox); have n3_ := Aside0.mk ((by rw [hg]; exact (below_size bel_) : w.heap.size ≤ gb304)); have n4_ := Aside0.mk ((by rw [hg]; exact (below_size bel_) : w.heap.size ≤ gb304)); have n5_ := Aside0.mk ((by rw [hg]; exact Nat.ne_of_lt (blk_lt (blkU BK301.out)) : gb301 ≠ gb304)); have n6_ := Aside0.mk ((by rw [hg]; exact Nat.ne_of_gt (blk_lt (blkU BK301.out)) : gb304 ≠ gb301)); clear BK301; clear HB; have BK301 := n0_; have HB := n1_; have BK304 := n2_; have GW304 := n3_; have GE304 := n4_; have NB301_304 := n5_; have NB304_301 := n6_; clear n0_ n1_ n2_ n3_ n4_ n5_ n6_; clear hb hbox hg; have hnb36 := NB304_301.out; have hnc36 := NB301_304.out; obtain ⟨hcz37_0, hcz37_1, hfz37_0, hfz37_1⟩ := c2_ BK304.out; obtain ⟨hcz38_0, hcz38_1, hcz38_2, hcz38_3, hfz38_0, hfz38_1, hfz38_2, hfz38_3⟩ := c4_ BK301.out))
                       go_ret
                       exact ⟨by first | rfl | (simp [errW_none, errW_some] <;> rfl) | (simp [*, errW_none, errW_some] <;> rfl), bel_⟩
               · rw [if_neg c20] at H
                 exact absurd H (by simp)
             · rw [if_neg c19] at H
               exact absurd H (by simp)
           · rw [if_neg c18] at H
             have c18b0 : decide (x42_3 < (l0_1.length : Int)) = false := decide_eq_false c18
             clear c18
             obtain rfl := Option.some.inj H
             go_wp2
             go_ret
             exact ⟨by first | rfl | (simp [errW_none, errW_some] <;> rfl) | (simp [*, errW_none, errW_some] <;> rfl), bel_⟩
end Go.Proofs.Ytjagplonneednaa.P
