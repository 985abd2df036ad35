-- kept, by a program of this session, of a text that the printer or this session wrote
import Derived.Test.YtgpkbehodmcbgaaZPx0
import Derived.Test.YtgpkbehodmcbgaaZPx30005
import Derived.Test.YtgpkbehodmcbgaaZPx30018
namespace Go.Proofs.Ytgpkbehodmcbgaa.P
open Go.RowKit Go.Proofs.YtgpkbehodmcbgaaW.PrintWords Go.Proofs.YtgpkbehodmcbgaaW.PrintLast Go.Proofs.YtgpkbehodmcbgaaW.PrintMore
attribute [local go_sem] max2_int min2_int max_two min_two max_three min_three max_four min_four
set_option linter.unusedVariables false
set_option linter.unusedSimpArgs false
def spoortop_begins.f (k : Nat)  : Option (Bool) := (num_Get.f k (⟨#[172, 2, 122]⟩ : ByteArray)).bind fun bt109 => ((crc_Of.f k (⟨#[49, 50, 51, 52, 53, 54, 55, 56, 57]⟩ : ByteArray)).bind fun t112 => (if t112 = 3808858755 then (if bt109.1 = 300 then (if bt109.2.1.toList = ([122] : List UInt8) then (if bt109.2.2 = 0 then ((num_Put.f k 300).bind fun t113 => (some (t113.toList == ([172, 2] : List UInt8)))) else (none)) else (none)) else (none)) else (none)))
theorem spoortop_begins.mono : ∀ k, LeO (spoortop_begins.f k ) (spoortop_begins.f (k + 1) ) := by
  intro  k
  unfold spoortop_begins.f
  repeat' first
      | (with_reducible exact crc_Of.mono _ _)
      | (with_reducible exact num_Get.mono _ _)
      | (with_reducible exact num_Put.mono _ _)
      | (with_reducible exact LeO.refl _)
      | (with_reducible exact LeO.none _)
      | (with_reducible refine LeO.ite ?_ ?_)
      | (with_reducible refine LeO.bind ?_ (fun _ => ?_))
      | exact crc_Of.mono _ _
      | exact num_Get.mono _ _
      | exact num_Put.mono _ _
      | exact LeO.none _
      | refine LeO.ite ?_ ?_
      | refine LeO.bind ?_ (fun _ => ?_)
set_option maxHeartbeats 8000000 in
set_option maxRecDepth 100000 in
theorem spoortop_begins.calls (k : Nat)  (r : Bool) (w : World) (h : spoortop_begins.f k  = some r) :
    Calls Try.prog 4 #[] w fun e w' => e = .returned (.bool r) ∧ Below w.heap.size w w' := by
  have HB := Aside0.mk (Below.refl w.heap.size w)
  have H : ((num_Get.f k (⟨#[172, 2, 122]⟩ : ByteArray)).bind fun bt109 => ((crc_Of.f k (⟨#[49, 50, 51, 52, 53, 54, 55, 56, 57]⟩ : ByteArray)).bind fun t112 => (if t112 = 3808858755 then (if bt109.1 = 300 then (if bt109.2.1.toList = ([122] : List UInt8) then (if bt109.2.2 = 0 then ((num_Put.f k 300).bind fun t113 => (some (t113.toList == ([172, 2] : List UInt8)))) else (none)) else (none)) else (none)) else (none)))) = some r := h
  clear h
  replace H := Option.bind_eq_some_iff.mp H
  obtain ⟨⟨t109, t110, t111⟩, A10, H⟩ := H
  replace H : ((crc_Of.f k (⟨#[49, 50, 51, 52, 53, 54, 55, 56, 57]⟩ : ByteArray)).bind fun t112 => (if t112 = 3808858755 then (if t109 = 300 then (if t110.toList = ([122] : List UInt8) then (if t111 = 0 then ((num_Put.f k 300).bind fun t113 => (some (t113.toList == ([172, 2] : List UInt8)))) else (none)) else (none)) else (none)) else (none))) = some r := H
  have A1 := Aside0.mk A10
  clear A10
  replace H := Option.bind_eq_some_iff.mp H
  obtain ⟨t112, A20, H⟩ := H
  replace H : (if t112 = 3808858755 then (if t109 = 300 then (if t110.toList = ([122] : List UInt8) then (if t111 = 0 then ((num_Put.f k 300).bind fun t113 => (some (t113.toList == ([172, 2] : List UInt8)))) else (none)) else (none)) else (none)) else (none)) = some r := H
  have A2 := Aside0.mk A20
  clear A20
  by_cases c3 : t112 = 3808858755
  · rw [if_pos c3] at H
    have c3b0 : (t112 == 3808858755) = true := beq_iff_eq.mpr c3
    have c3b1 : (t112 != 3808858755) = false := bne_eq_false_iff_eq.mpr c3
    clear c3
    by_cases c4 : t109 = 300
    · rw [if_pos c4] at H
      have c4b0 : (t109 == 300) = true := beq_iff_eq.mpr c4
      have c4b1 : (t109 != 300) = false := bne_eq_false_iff_eq.mpr c4
      clear c4
      by_cases c5 : t110.toList = ([122] : List UInt8)
      · rw [if_pos c5] at H
        have c5b0 : (t110.toList == ([122] : List UInt8)) = true := beq_iff_eq.mpr c5
        have c5b1 : (t110.toList != ([122] : List UInt8)) = false := bne_eq_false_iff_eq.mpr c5
        clear c5
        by_cases c6 : t111 = 0
        · rw [if_pos c6] at H
          have c6b0 : (t111 == 0) = true := beq_iff_eq.mpr c6
          have c6b1 : (t111 != 0) = false := bne_eq_false_iff_eq.mpr c6
          clear c6
          replace H := Option.bind_eq_some_iff.mp H
          obtain ⟨t113, A70, H⟩ := H
          replace H : (some (t113.toList == ([172, 2] : List UInt8))) = some r := H
          have A7 := Aside0.mk A70
          clear A70
          obtain rfl := Option.some.inj H
          go_enter Try.func4, Try.ntmps4
          go_wp2_with (first | ((with_reducible refine gate_callee (f := 11) rfl ?_); refine goesL_ (some 5) rfl rfl Try.func11 (by kernel_rfl) rfl #[.string (⟨#[172, 2, 122]⟩ : ByteArray)] rfl (by (try simp only [List.map_toArray, List.map_cons, List.map_nil]); first | done | rfl | (simp only [List.length_drop, List.length_take]; rfl)) ?_; (with_reducible refine (num_Get.calls k (⟨#[172, 2, 122]⟩ : ByteArray) t109 t110 t111 _ A1.out).mono ?_); rintro e w8 ⟨rfl, hb⟩; refine ⟨_, rfl, ?_⟩; have n0_ := Aside0.mk (below_step (by repeat (first | (with_reducible first | exact HB.out | apply below_alloc | apply pw_below_drewN | apply below_drew1) | exact HB.out)) hb); clear HB; have HB := n0_; clear n0_; (try clear hb); (try clear hb2); (try clear hk); (try clear hi)) | ((with_reducible refine gate_callee (f := 12) rfl ?_); refine goesL_ (some 9) rfl rfl Try.func12 (by kernel_rfl) rfl #[.string (⟨#[49, 50, 51, 52, 53, 54, 55, 56, 57]⟩ : ByteArray)] rfl (by (try simp only [List.map_toArray, List.map_cons, List.map_nil]); first | done | rfl | (simp only [List.length_drop, List.length_take]; rfl)) ?_; (with_reducible refine (crc_Of.calls k (⟨#[49, 50, 51, 52, 53, 54, 55, 56, 57]⟩ : ByteArray) t112 _ A2.out).mono ?_); rintro e w' ⟨rfl, ⟨nd, rfl⟩⟩; refine ⟨_, rfl, ?_⟩) | (go_at_call 13; (with_reducible refine (num_Put.calls k 300 t113 _ A7.out).mono ?_); rintro e w9 ⟨rfl, hb⟩; have n0_ := Aside0.mk (below_step (by repeat (first | (with_reducible first | exact HB.out | apply below_alloc | apply pw_below_drewN | apply below_drew1) | exact HB.out)) hb); clear HB; have HB := n0_; clear n0_; (try clear hb); (try clear hb2); (try clear hk); (try clear hi)))
          go_ret
          exact ⟨by first | rfl | (simp [errW_none, errW_some] <;> rfl) | (simp [*, errW_none, errW_some] <;> rfl), by repeat (first | (with_reducible first | exact HB.out | apply below_alloc | apply pw_below_drewN | apply below_drew1) | exact HB.out)⟩
        · rw [if_neg c6] at H
          exact absurd H (by simp)
      · rw [if_neg c5] at H
        exact absurd H (by simp)
    · rw [if_neg c4] at H
      exact absurd H (by simp)
  · rw [if_neg c3] at H
    exact absurd H (by simp)
end Go.Proofs.Ytgpkbehodmcbgaa.P
