-- kept, by a program of this session, of a text that the printer or this session wrote
import Derived.Test.YtgpkbehodmcbgaaZPx0
import Derived.Test.YtgpkbehodmcbgaaZPx1004
import Derived.Test.YtgpkbehodmcbgaaZPx30005
import Derived.Test.YtgpkbehodmcbgaaZPx30018
namespace Go.Proofs.Ytgpkbehodmcbgaa.P
open Go.RowKit Go.Proofs.YtgpkbehodmcbgaaW.PrintWords Go.Proofs.YtgpkbehodmcbgaaW.PrintLast Go.Proofs.YtgpkbehodmcbgaaW.PrintMore
attribute [local go_sem] max2_int min2_int max_two min_two max_three min_three max_four min_four
set_option linter.unusedVariables false
set_option linter.unusedSimpArgs false
mutual
def spoortop_TopSealed.l0 : Nat → List (List Int) → Int → Int → ByteArray → List (List Int) → Int → Int → Option (Bool)
  | 0, _, _, _, _, _, _, _ => none
  | k + 1, x0, x1, x2, x7, x35, x36, x37 => if x37 < x36 then (if 0 ≤ x37 then (if x37 < (x35.length : Int) then ((num_Row.f k (rd_L2 x35 x37)).bind fun bt144 => ((crc_Sealed.f k bt144.1).bind fun bt146 => ((num_Text.f k bt146.1).bind fun bt148 => (if x37 ≥ 8 then (some true) else (if bt144.2 = 0 then (if bt146.2 = 0 then (if bt148.2 = 0 then (if x7.size + bt148.1.size ≤ 9223372036854775807 then (spoortop_TopSealed.l0 k x0 x1 x2 (x7 ++ bt148.1) x35 x36 (wrap64 (x37 + 1))) else (none)) else (some true)) else (some true)) else (some true)))))) else (none)) else (none)) else (spoortop_TopSealed.l1 k x1 x2 x7 x7 x0 (x0.length : Int) 0)
def spoortop_TopSealed.l1 : Nat → Int → Int → ByteArray → ByteArray → List (List Int) → Int → Int → Option (Bool)
  | 0, _, _, _, _, _, _, _ => none
  | k + 1, x1, x2, x7, x16, x76, x77, x78 => if x78 < x77 then (if 0 ≤ x78 then (if x78 < (x76.length : Int) then ((num_GetText.f k x16).bind fun bt151 => ((crc_Open.f k bt151.1).bind fun bt154 => ((num_GetRow.f k bt154.1).bind fun bt156 => (if bt151.2.2 = 0 then (if bt154.2 = 0 then (if bt156.2.2 = 0 then (if bt156.2.1.toList = ([] : List UInt8) then (spoortop_TopSealed.j2 k x1 x2 x7 (rd_L2 x76 x78) bt151.2.1 bt156.1 x76 x77 x78 ((bt156.1.length : Int) != ((rd_L2 x76 x78).length : Int))) else (spoortop_TopSealed.j2 k x1 x2 x7 (rd_L2 x76 x78) bt151.2.1 bt156.1 x76 x77 x78 true)) else (spoortop_TopSealed.j2 k x1 x2 x7 (rd_L2 x76 x78) bt151.2.1 bt156.1 x76 x77 x78 true)) else (spoortop_TopSealed.j2 k x1 x2 x7 (rd_L2 x76 x78) bt151.2.1 bt156.1 x76 x77 x78 true)) else (spoortop_TopSealed.j2 k x1 x2 x7 (rd_L2 x76 x78) bt151.2.1 bt156.1 x76 x77 x78 true))))) else (none)) else (none)) else ((crc_Sealed.f k x7).bind fun bt163 => (if x16.toList = ([] : List UInt8) then (if bt163.2 = 0 then (if x1 < 0 then (some (x16.toList == ([] : List UInt8))) else (if x1 ≥ (bt163.1.size : Int) then (some (x16.toList == ([] : List UInt8))) else (if x2 = 0 then (some (x16.toList == ([] : List UInt8))) else ((crc_Open.f k (Tools.turned bt163.1 x1.toNat x2)).bind fun bt165 => (some (bt165.2 == 6)))))) else (some (x16.toList == ([] : List UInt8)))) else (some (x16.toList == ([] : List UInt8)))))
def spoortop_TopSealed.j2 : Nat → Int → Int → ByteArray → List Int → ByteArray → List Int → List (List Int) → Int → Int → Bool → Option (Bool)
  | 0, _, _, _, _, _, _, _, _, _, _ => none
  | k + 1, x1, x2, x7, x18, x20, x24, x76, x77, x78, x119 => if x119 = true then (none) else (spoortop_TopSealed.l2 k x1 x2 x7 x18 x20 x24 x76 x77 x78 (x24.length : Int) 0)
def spoortop_TopSealed.l2 : Nat → Int → Int → ByteArray → List Int → ByteArray → List Int → List (List Int) → Int → Int → Int → Int → Option (Bool)
  | 0, _, _, _, _, _, _, _, _, _, _, _ => none
  | k + 1, x1, x2, x7, x18, x20, x24, x76, x77, x78, x121, x122 => if x122 < x121 then (if 0 ≤ x122 then (if x122 < (x24.length : Int) then (if x122 < (x18.length : Int) then (if (rd x24 x122) = (rd x18 x122) then (spoortop_TopSealed.l2 k x1 x2 x7 x18 x20 x24 x76 x77 x78 x121 (wrap64 (x122 + 1))) else (none)) else (none)) else (none)) else (none)) else (spoortop_TopSealed.l1 k x1 x2 x7 x20 x76 x77 (wrap64 (x78 + 1)))
end
def spoortop_TopSealed.f (k : Nat) (l0 : List (List Int)) (a1 : Int) (a2 : Int) : Option (Bool) := (spoortop_begins.f k).bind fun t142 => (if t142 = true then (spoortop_TopSealed.l0 k l0 a1 a2 (⟨#[]⟩ : ByteArray) l0 (l0.length : Int) 0) else (none))
set_option maxHeartbeats 8000000 in
set_option maxRecDepth 100000 in
theorem spoortop_TopSealed.calls (k : Nat) (A0 : Option Addr) (c0 : Nat) (l0 : List (List Int)) (a1 : Int) (a2 : Int) (r : Bool) (w : World) (hr0 : Kd.C (Kd.slice 33 (Kd.int .u64)) w A0 l0.length l0) (hc0 : l0.length ≤ c0) (h : spoortop_TopSealed.f k l0 a1 a2 = some r) :
    Calls Try.prog 3 #[.slice A0 l0.length c0, .int .i64 a1, .int .u8 a2] w fun e w' => e = .returned (.bool r) ∧ Below w.heap.size w w' := by
  have HR0 := Aside0.mk hr0
  have HC0 := Aside0.mk hc0
  clear hr0 hc0
  have HB := Aside0.mk (Below.refl w.heap.size w)
  have H : ((spoortop_begins.f k).bind fun t142 => (if t142 = true then (spoortop_TopSealed.l0 k l0 a1 a2 (⟨#[]⟩ : ByteArray) l0 (l0.length : Int) 0) else (none))) = some r := h
  clear h
  replace H := Option.bind_eq_some_iff.mp H
  obtain ⟨t142, A40, H⟩ := H
  replace H : (if t142 = true then (spoortop_TopSealed.l0 k l0 a1 a2 (⟨#[]⟩ : ByteArray) l0 (l0.length : Int) 0) else (none)) = some r := H
  have A4 := Aside0.mk A40
  clear A40
  by_cases c5 : t142 = true
  · subst c5
    have H1 : (spoortop_TopSealed.l0 k l0 a1 a2 (⟨#[]⟩ : ByteArray) l0 (l0.length : Int) 0) = some r := by rw [if_pos rfl] at H; exact H
    clear H
    have H := H1
    clear H1
    have H' := Aside0.mk H
    clear H
    go_enter Try.func3, Try.ntmps3
    go_wp2_with (first | (go_at_call 4; (with_reducible refine (spoortop_begins.calls k  true _ A4.out).mono ?_); rintro e w6 ⟨rfl, hb⟩; have n0_ := Aside0.mk (below_step (by repeat (first | (with_reducible first | exact HB.out | apply below_alloc | apply pw_below_drewN | apply below_drew1) | exact HB.out)) hb); clear HB; have HB := n0_; clear n0_; (try clear hb); (try clear hb2); (try clear hk); (try clear hi)))
    repeat (go_quiet (first | (go_at_call 4; (with_reducible refine (spoortop_begins.calls k  true _ A4.out).mono ?_); rintro e w6 ⟨rfl, hb⟩; have n0_ := Aside0.mk (below_step (by repeat (first | (with_reducible first | exact HB.out | apply below_alloc | apply pw_below_drewN | apply below_drew1) | exact HB.out)) hb); clear HB; have HB := n0_; clear n0_; (try clear hb); (try clear hb2); (try clear hk); (try clear hi))); try go_wp2_with (first | (go_at_call 4; (with_reducible refine (spoortop_begins.calls k  true _ A4.out).mono ?_); rintro e w6 ⟨rfl, hb⟩; have n0_ := Aside0.mk (below_step (by repeat (first | (with_reducible first | exact HB.out | apply below_alloc | apply pw_below_drewN | apply below_drew1) | exact HB.out)) hb); clear HB; have HB := n0_; clear n0_; (try clear hb); (try clear hb2); (try clear hk); (try clear hi))))
    go_loopg [7, 37] k (fun kq v7 v37 w' => ∃ (x7_1 : ByteArray) (x37_1 : Int), v7 = .string x7_1 ∧ v37 = .int .i64 x37_1 ∧ Aside0 (spoortop_TopSealed.l0 kq l0 a1 a2 x7_1 l0 (l0.length : Int) x37_1 = some r) ∧ Aside0 (kq ≤ k) ∧ Aside0 (Below w.heap.size w w'))
    case atStart => exact ⟨((⟨#[]⟩ : ByteArray)), (0), (by first | rfl | (simp; done) | (simp [*]; done)), (by first | rfl | (simp; done) | (simp [*]; done)), H', ⟨Nat.le_refl _⟩, ⟨by repeat (first | (with_reducible first | exact HB.out | apply below_alloc | apply pw_below_drewN | apply below_drew1) | exact HB.out)⟩⟩
    case round =>
      clear H'; try clear p2; try clear c3; try clear c5
      obtain ⟨x7_1, x37_1, rfl, rfl, HA, HK1, HB⟩ := hrel
      cases gk with
      | zero => exact absurd HA.out (by simp [spoortop_TopSealed.l0])
      | succ k1 =>
        have H := HA.out
        clear HA
        simp only [spoortop_TopSealed.l0] at H
        by_cases c7 : x37_1 < (l0.length : Int)
        · rw [if_pos c7] at H
          have c7b0 : decide (x37_1 < (l0.length : Int)) = true := decide_eq_true c7
          clear c7
          by_cases c8 : 0 ≤ x37_1
          · rw [if_pos c8] at H
            have c8b0 : decide (0 ≤ x37_1) = true := decide_eq_true c8
            clear c8
            by_cases c9 : x37_1 < (l0.length : Int)
            · rw [if_pos c9] at H
              have c9b0 : decide (x37_1 < (l0.length : Int)) = true := decide_eq_true c9
              clear c9
              replace H := Option.bind_eq_some_iff.mp H
              obtain ⟨⟨t144, t145⟩, A100, H⟩ := H
              replace H : ((crc_Sealed.f k1 t144).bind fun bt146 => ((num_Text.f k1 bt146.1).bind fun bt148 => (if x37_1 ≥ 8 then (some true) else (if t145 = 0 then (if bt146.2 = 0 then (if bt148.2 = 0 then (if x7_1.size + bt148.1.size ≤ 9223372036854775807 then (spoortop_TopSealed.l0 k1 l0 a1 a2 (x7_1 ++ bt148.1) l0 (l0.length : Int) (wrap64 (x37_1 + 1))) else (none)) else (some true)) else (some true)) else (some true))))) = some r := H
              have A10 := Aside0.mk A100
              clear A100
              replace H := Option.bind_eq_some_iff.mp H
              obtain ⟨⟨t146, t147⟩, A110, H⟩ := H
              replace H : ((num_Text.f k1 t146).bind fun bt148 => (if x37_1 ≥ 8 then (some true) else (if t145 = 0 then (if t147 = 0 then (if bt148.2 = 0 then (if x7_1.size + bt148.1.size ≤ 9223372036854775807 then (spoortop_TopSealed.l0 k1 l0 a1 a2 (x7_1 ++ bt148.1) l0 (l0.length : Int) (wrap64 (x37_1 + 1))) else (none)) else (some true)) else (some true)) else (some true)))) = some r := H
              have A11 := Aside0.mk A110
              clear A110
              replace H := Option.bind_eq_some_iff.mp H
              obtain ⟨⟨t148, t149⟩, A120, H⟩ := H
              replace H : (if x37_1 ≥ 8 then (some true) else (if t145 = 0 then (if t147 = 0 then (if t149 = 0 then (if x7_1.size + t148.size ≤ 9223372036854775807 then (spoortop_TopSealed.l0 k1 l0 a1 a2 (x7_1 ++ t148) l0 (l0.length : Int) (wrap64 (x37_1 + 1))) else (none)) else (some true)) else (some true)) else (some true))) = some r := H
              have A12 := Aside0.mk A120
              clear A120
              by_cases c13 : x37_1 ≥ 8
              · rw [if_pos c13] at H
                have c13b0 : decide (8 ≤ x37_1) = true := decide_eq_true c13
                clear c13
                obtain rfl := Option.some.inj H
                have p143 : 0 ≤ (x37_1 : Int) := of_decide_eq_true (by first | (with_reducible assumption) | assumption)
                have q143 : x37_1 < (l0.length : Int) := of_decide_eq_true (by first | (with_reducible assumption) | assumption)
                obtain ⟨ad143, A143_0, c143_0, e143, hx143_0, hl143_0, hi143_0⟩ := at_L2 HR0.out x37_1 p143 q143
                cases e143
                replace hx143_0 := (HB.out.cell (World.block_lt_of_cell? w _ hx143_0)).trans hx143_0
                have HR143_0 := Aside0.mk hi143_0
                have HC143_0 := Aside0.mk hl143_0
                clear hi143_0 hl143_0
                replace p143 := eq_true p143
                replace q143 := eq_true q143
                go_wp2_with (first | (go_at_call 5; (with_reducible refine (num_Row.calls k1 _ _ (rd_L2 l0 x37_1) t144 t145 _ ?side1 ?side2 A10.out).mono ?_); (case side1 => repeat (first | exact (Kd.C_below HR143_0.out HB.out) | (with_reducible refine Kd.C_alloc ?_ _) | (with_reducible refine Kd.C_drewN ?_ _) | (with_reducible refine Kd.C_drew ?_))); (case side2 => exact HC143_0.out); rintro e w14 ⟨rfl, hb⟩; have n0_ := Aside0.mk (below_step (by repeat (first | (with_reducible first | exact HB.out | apply below_alloc | apply pw_below_drewN | apply below_drew1) | exact HB.out)) hb); clear HB; have HB := n0_; clear n0_; (try clear hb); (try clear hb2); (try clear hk); (try clear hi)) | (go_at_call 6; (with_reducible refine (crc_Sealed.calls k1 t144 t146 t147 _ A11.out).mono ?_); rintro e w15 ⟨rfl, hb⟩; have n0_ := Aside0.mk (below_step (by repeat (first | (with_reducible first | exact HB.out | apply below_alloc | apply pw_below_drewN | apply below_drew1) | exact HB.out)) hb); clear HB; have HB := n0_; clear n0_; (try clear hb); (try clear hb2); (try clear hk); (try clear hi)) | (go_at_call 7; (with_reducible refine (num_Text.calls k1 t146 t148 t149 _ A12.out).mono ?_); rintro e w16 ⟨rfl, hb⟩; have n0_ := Aside0.mk (below_step (by repeat (first | (with_reducible first | exact HB.out | apply below_alloc | apply pw_below_drewN | apply below_drew1) | exact HB.out)) hb); clear HB; have HB := n0_; clear n0_; (try clear hb); (try clear hb2); (try clear hk); (try clear hi)))
                repeat (go_quiet (first | (go_at_call 5; (with_reducible refine (num_Row.calls k1 _ _ (rd_L2 l0 x37_1) t144 t145 _ ?side1 ?side2 A10.out).mono ?_); (case side1 => repeat (first | exact (Kd.C_below HR143_0.out HB.out) | (with_reducible refine Kd.C_alloc ?_ _) | (with_reducible refine Kd.C_drewN ?_ _) | (with_reducible refine Kd.C_drew ?_))); (case side2 => exact HC143_0.out); rintro e w14 ⟨rfl, hb⟩; have n0_ := Aside0.mk (below_step (by repeat (first | (with_reducible first | exact HB.out | apply below_alloc | apply pw_below_drewN | apply below_drew1) | exact HB.out)) hb); clear HB; have HB := n0_; clear n0_; (try clear hb); (try clear hb2); (try clear hk); (try clear hi)) | (go_at_call 6; (with_reducible refine (crc_Sealed.calls k1 t144 t146 t147 _ A11.out).mono ?_); rintro e w15 ⟨rfl, hb⟩; have n0_ := Aside0.mk (below_step (by repeat (first | (with_reducible first | exact HB.out | apply below_alloc | apply pw_below_drewN | apply below_drew1) | exact HB.out)) hb); clear HB; have HB := n0_; clear n0_; (try clear hb); (try clear hb2); (try clear hk); (try clear hi)) | (go_at_call 7; (with_reducible refine (num_Text.calls k1 t146 t148 t149 _ A12.out).mono ?_); rintro e w16 ⟨rfl, hb⟩; have n0_ := Aside0.mk (below_step (by repeat (first | (with_reducible first | exact HB.out | apply below_alloc | apply pw_below_drewN | apply below_drew1) | exact HB.out)) hb); clear HB; have HB := n0_; clear n0_; (try clear hb); (try clear hb2); (try clear hk); (try clear hi))); try go_wp2_with (first | (go_at_call 5; (with_reducible refine (num_Row.calls k1 _ _ (rd_L2 l0 x37_1) t144 t145 _ ?side1 ?side2 A10.out).mono ?_); (case side1 => repeat (first | exact (Kd.C_below HR143_0.out HB.out) | (with_reducible refine Kd.C_alloc ?_ _) | (with_reducible refine Kd.C_drewN ?_ _) | (with_reducible refine Kd.C_drew ?_))); (case side2 => exact HC143_0.out); rintro e w14 ⟨rfl, hb⟩; have n0_ := Aside0.mk (below_step (by repeat (first | (with_reducible first | exact HB.out | apply below_alloc | apply pw_below_drewN | apply below_drew1) | exact HB.out)) hb); clear HB; have HB := n0_; clear n0_; (try clear hb); (try clear hb2); (try clear hk); (try clear hi)) | (go_at_call 6; (with_reducible refine (crc_Sealed.calls k1 t144 t146 t147 _ A11.out).mono ?_); rintro e w15 ⟨rfl, hb⟩; have n0_ := Aside0.mk (below_step (by repeat (first | (with_reducible first | exact HB.out | apply below_alloc | apply pw_below_drewN | apply below_drew1) | exact HB.out)) hb); clear HB; have HB := n0_; clear n0_; (try clear hb); (try clear hb2); (try clear hk); (try clear hi)) | (go_at_call 7; (with_reducible refine (num_Text.calls k1 t146 t148 t149 _ A12.out).mono ?_); rintro e w16 ⟨rfl, hb⟩; have n0_ := Aside0.mk (below_step (by repeat (first | (with_reducible first | exact HB.out | apply below_alloc | apply pw_below_drewN | apply below_drew1) | exact HB.out)) hb); clear HB; have HB := n0_; clear n0_; (try clear hb); (try clear hb2); (try clear hk); (try clear hi))))
                go_ret
                exact ⟨by first | rfl | (simp [errW_none, errW_some] <;> rfl) | (simp [*, errW_none, errW_some] <;> rfl), by repeat (first | (with_reducible first | exact HB.out | apply below_alloc | apply pw_below_drewN | apply below_drew1) | exact HB.out)⟩
              · rw [if_neg c13] at H
                have c13b0 : decide (8 ≤ x37_1) = false := decide_eq_false c13
                clear c13
                by_cases c17 : t145 = 0
                · rw [if_pos c17] at H
                  have c17b0 : (t145 == 0) = true := beq_iff_eq.mpr c17
                  have c17b1 : (t145 != 0) = false := bne_eq_false_iff_eq.mpr c17
                  clear c17
                  by_cases c18 : t147 = 0
                  · rw [if_pos c18] at H
                    have c18b0 : (t147 == 0) = true := beq_iff_eq.mpr c18
                    have c18b1 : (t147 != 0) = false := bne_eq_false_iff_eq.mpr c18
                    clear c18
                    by_cases c19 : t149 = 0
                    · rw [if_pos c19] at H
                      have c19b0 : (t149 == 0) = true := beq_iff_eq.mpr c19
                      have c19b1 : (t149 != 0) = false := bne_eq_false_iff_eq.mpr c19
                      clear c19
                      by_cases c20 : x7_1.size + t148.size ≤ 9223372036854775807
                      · rw [if_pos c20] at H
                        have c20b0 := eq_true c20
                        have c20b1 : decide (x7_1.size + t148.size ≤ 9223372036854775807) = true := decide_eq_true c20
                        try have c20b2 : (9223372036854775807 < x7_1.size + t148.size) = False := eq_false (Nat.not_lt.2 c20)
                        have H' := Aside0.mk H
                        clear H
                        have p143 : 0 ≤ (x37_1 : Int) := of_decide_eq_true (by first | (with_reducible assumption) | assumption)
                        have q143 : x37_1 < (l0.length : Int) := of_decide_eq_true (by first | (with_reducible assumption) | assumption)
                        obtain ⟨ad143, A143_0, c143_0, e143, hx143_0, hl143_0, hi143_0⟩ := at_L2 HR0.out x37_1 p143 q143
                        cases e143
                        replace hx143_0 := (HB.out.cell (World.block_lt_of_cell? w _ hx143_0)).trans hx143_0
                        have HR143_0 := Aside0.mk hi143_0
                        have HC143_0 := Aside0.mk hl143_0
                        clear hi143_0 hl143_0
                        replace p143 := eq_true p143
                        replace q143 := eq_true q143
                        go_wp2_with (first | (go_at_call 5; (with_reducible refine (num_Row.calls k1 _ _ (rd_L2 l0 x37_1) t144 t145 _ ?side1 ?side2 A10.out).mono ?_); (case side1 => repeat (first | exact (Kd.C_below HR143_0.out HB.out) | (with_reducible refine Kd.C_alloc ?_ _) | (with_reducible refine Kd.C_drewN ?_ _) | (with_reducible refine Kd.C_drew ?_))); (case side2 => exact HC143_0.out); rintro e w21 ⟨rfl, hb⟩; have n0_ := Aside0.mk (below_step (by repeat (first | (with_reducible first | exact HB.out | apply below_alloc | apply pw_below_drewN | apply below_drew1) | exact HB.out)) hb); clear HB; have HB := n0_; clear n0_; (try clear hb); (try clear hb2); (try clear hk); (try clear hi)) | (go_at_call 6; (with_reducible refine (crc_Sealed.calls k1 t144 t146 t147 _ A11.out).mono ?_); rintro e w22 ⟨rfl, hb⟩; have n0_ := Aside0.mk (below_step (by repeat (first | (with_reducible first | exact HB.out | apply below_alloc | apply pw_below_drewN | apply below_drew1) | exact HB.out)) hb); clear HB; have HB := n0_; clear n0_; (try clear hb); (try clear hb2); (try clear hk); (try clear hi)) | (go_at_call 7; (with_reducible refine (num_Text.calls k1 t146 t148 t149 _ A12.out).mono ?_); rintro e w23 ⟨rfl, hb⟩; have n0_ := Aside0.mk (below_step (by repeat (first | (with_reducible first | exact HB.out | apply below_alloc | apply pw_below_drewN | apply below_drew1) | exact HB.out)) hb); clear HB; have HB := n0_; clear n0_; (try clear hb); (try clear hb2); (try clear hk); (try clear hi)))
                        repeat (go_quiet (first | (go_at_call 5; (with_reducible refine (num_Row.calls k1 _ _ (rd_L2 l0 x37_1) t144 t145 _ ?side1 ?side2 A10.out).mono ?_); (case side1 => repeat (first | exact (Kd.C_below HR143_0.out HB.out) | (with_reducible refine Kd.C_alloc ?_ _) | (with_reducible refine Kd.C_drewN ?_ _) | (with_reducible refine Kd.C_drew ?_))); (case side2 => exact HC143_0.out); rintro e w21 ⟨rfl, hb⟩; have n0_ := Aside0.mk (below_step (by repeat (first | (with_reducible first | exact HB.out | apply below_alloc | apply pw_below_drewN | apply below_drew1) | exact HB.out)) hb); clear HB; have HB := n0_; clear n0_; (try clear hb); (try clear hb2); (try clear hk); (try clear hi)) | (go_at_call 6; (with_reducible refine (crc_Sealed.calls k1 t144 t146 t147 _ A11.out).mono ?_); rintro e w22 ⟨rfl, hb⟩; have n0_ := Aside0.mk (below_step (by repeat (first | (with_reducible first | exact HB.out | apply below_alloc | apply pw_below_drewN | apply below_drew1) | exact HB.out)) hb); clear HB; have HB := n0_; clear n0_; (try clear hb); (try clear hb2); (try clear hk); (try clear hi)) | (go_at_call 7; (with_reducible refine (num_Text.calls k1 t146 t148 t149 _ A12.out).mono ?_); rintro e w23 ⟨rfl, hb⟩; have n0_ := Aside0.mk (below_step (by repeat (first | (with_reducible first | exact HB.out | apply below_alloc | apply pw_below_drewN | apply below_drew1) | exact HB.out)) hb); clear HB; have HB := n0_; clear n0_; (try clear hb); (try clear hb2); (try clear hk); (try clear hi))); try go_wp2_with (first | (go_at_call 5; (with_reducible refine (num_Row.calls k1 _ _ (rd_L2 l0 x37_1) t144 t145 _ ?side1 ?side2 A10.out).mono ?_); (case side1 => repeat (first | exact (Kd.C_below HR143_0.out HB.out) | (with_reducible refine Kd.C_alloc ?_ _) | (with_reducible refine Kd.C_drewN ?_ _) | (with_reducible refine Kd.C_drew ?_))); (case side2 => exact HC143_0.out); rintro e w21 ⟨rfl, hb⟩; have n0_ := Aside0.mk (below_step (by repeat (first | (with_reducible first | exact HB.out | apply below_alloc | apply pw_below_drewN | apply below_drew1) | exact HB.out)) hb); clear HB; have HB := n0_; clear n0_; (try clear hb); (try clear hb2); (try clear hk); (try clear hi)) | (go_at_call 6; (with_reducible refine (crc_Sealed.calls k1 t144 t146 t147 _ A11.out).mono ?_); rintro e w22 ⟨rfl, hb⟩; have n0_ := Aside0.mk (below_step (by repeat (first | (with_reducible first | exact HB.out | apply below_alloc | apply pw_below_drewN | apply below_drew1) | exact HB.out)) hb); clear HB; have HB := n0_; clear n0_; (try clear hb); (try clear hb2); (try clear hk); (try clear hi)) | (go_at_call 7; (with_reducible refine (num_Text.calls k1 t146 t148 t149 _ A12.out).mono ?_); rintro e w23 ⟨rfl, hb⟩; have n0_ := Aside0.mk (below_step (by repeat (first | (with_reducible first | exact HB.out | apply below_alloc | apply pw_below_drewN | apply below_drew1) | exact HB.out)) hb); clear HB; have HB := n0_; clear n0_; (try clear hb); (try clear hb2); (try clear hk); (try clear hi))))
                        go_roundg k1
                        case measure => have := HK1.out; omega
                        case rel => exact ⟨(x7_1 ++ t148), (wrap64 (x37_1 + 1)), (by first | rfl | (simp; done) | (simp [*]; done)), (by first | rfl | (simp; done) | (simp [*]; done)), H', ⟨by have := HK1.out; omega⟩, ⟨by repeat (first | (with_reducible first | exact HB.out | apply below_alloc | apply pw_below_drewN | apply below_drew1) | exact HB.out)⟩⟩
                      · rw [if_neg c20] at H
                        exact absurd H (by simp)
                    · rw [if_neg c19] at H
                      have c19b0 : (t149 == 0) = false := beq_eq_false_iff_ne.mpr c19
                      have c19b1 : (t149 != 0) = true := bne_iff_ne.mpr c19
                      obtain rfl := Option.some.inj H
                      have p143 : 0 ≤ (x37_1 : Int) := of_decide_eq_true (by first | (with_reducible assumption) | assumption)
                      have q143 : x37_1 < (l0.length : Int) := of_decide_eq_true (by first | (with_reducible assumption) | assumption)
                      obtain ⟨ad143, A143_0, c143_0, e143, hx143_0, hl143_0, hi143_0⟩ := at_L2 HR0.out x37_1 p143 q143
                      cases e143
                      replace hx143_0 := (HB.out.cell (World.block_lt_of_cell? w _ hx143_0)).trans hx143_0
                      have HR143_0 := Aside0.mk hi143_0
                      have HC143_0 := Aside0.mk hl143_0
                      clear hi143_0 hl143_0
                      replace p143 := eq_true p143
                      replace q143 := eq_true q143
                      go_wp2_with (first | (go_at_call 5; (with_reducible refine (num_Row.calls k1 _ _ (rd_L2 l0 x37_1) t144 t145 _ ?side1 ?side2 A10.out).mono ?_); (case side1 => repeat (first | exact (Kd.C_below HR143_0.out HB.out) | (with_reducible refine Kd.C_alloc ?_ _) | (with_reducible refine Kd.C_drewN ?_ _) | (with_reducible refine Kd.C_drew ?_))); (case side2 => exact HC143_0.out); rintro e w24 ⟨rfl, hb⟩; have n0_ := Aside0.mk (below_step (by repeat (first | (with_reducible first | exact HB.out | apply below_alloc | apply pw_below_drewN | apply below_drew1) | exact HB.out)) hb); clear HB; have HB := n0_; clear n0_; (try clear hb); (try clear hb2); (try clear hk); (try clear hi)) | (go_at_call 6; (with_reducible refine (crc_Sealed.calls k1 t144 t146 t147 _ A11.out).mono ?_); rintro e w25 ⟨rfl, hb⟩; have n0_ := Aside0.mk (below_step (by repeat (first | (with_reducible first | exact HB.out | apply below_alloc | apply pw_below_drewN | apply below_drew1) | exact HB.out)) hb); clear HB; have HB := n0_; clear n0_; (try clear hb); (try clear hb2); (try clear hk); (try clear hi)) | (go_at_call 7; (with_reducible refine (num_Text.calls k1 t146 t148 t149 _ A12.out).mono ?_); rintro e w26 ⟨rfl, hb⟩; have n0_ := Aside0.mk (below_step (by repeat (first | (with_reducible first | exact HB.out | apply below_alloc | apply pw_below_drewN | apply below_drew1) | exact HB.out)) hb); clear HB; have HB := n0_; clear n0_; (try clear hb); (try clear hb2); (try clear hk); (try clear hi)))
                      repeat (go_quiet (first | (go_at_call 5; (with_reducible refine (num_Row.calls k1 _ _ (rd_L2 l0 x37_1) t144 t145 _ ?side1 ?side2 A10.out).mono ?_); (case side1 => repeat (first | exact (Kd.C_below HR143_0.out HB.out) | (with_reducible refine Kd.C_alloc ?_ _) | (with_reducible refine Kd.C_drewN ?_ _) | (with_reducible refine Kd.C_drew ?_))); (case side2 => exact HC143_0.out); rintro e w24 ⟨rfl, hb⟩; have n0_ := Aside0.mk (below_step (by repeat (first | (with_reducible first | exact HB.out | apply below_alloc | apply pw_below_drewN | apply below_drew1) | exact HB.out)) hb); clear HB; have HB := n0_; clear n0_; (try clear hb); (try clear hb2); (try clear hk); (try clear hi)) | (go_at_call 6; (with_reducible refine (crc_Sealed.calls k1 t144 t146 t147 _ A11.out).mono ?_); rintro e w25 ⟨rfl, hb⟩; have n0_ := Aside0.mk (below_step (by repeat (first | (with_reducible first | exact HB.out | apply below_alloc | apply pw_below_drewN | apply below_drew1) | exact HB.out)) hb); clear HB; have HB := n0_; clear n0_; (try clear hb); (try clear hb2); (try clear hk); (try clear hi)) | (go_at_call 7; (with_reducible refine (num_Text.calls k1 t146 t148 t149 _ A12.out).mono ?_); rintro e w26 ⟨rfl, hb⟩; have n0_ := Aside0.mk (below_step (by repeat (first | (with_reducible first | exact HB.out | apply below_alloc | apply pw_below_drewN | apply below_drew1) | exact HB.out)) hb); clear HB; have HB := n0_; clear n0_; (try clear hb); (try clear hb2); (try clear hk); (try clear hi))); try go_wp2_with (first | (go_at_call 5; (with_reducible refine (num_Row.calls k1 _ _ (rd_L2 l0 x37_1) t144 t145 _ ?side1 ?side2 A10.out).mono ?_); (case side1 => repeat (first | exact (Kd.C_below HR143_0.out HB.out) | (with_reducible refine Kd.C_alloc ?_ _) | (with_reducible refine Kd.C_drewN ?_ _) | (with_reducible refine Kd.C_drew ?_))); (case side2 => exact HC143_0.out); rintro e w24 ⟨rfl, hb⟩; have n0_ := Aside0.mk (below_step (by repeat (first | (with_reducible first | exact HB.out | apply below_alloc | apply pw_below_drewN | apply below_drew1) | exact HB.out)) hb); clear HB; have HB := n0_; clear n0_; (try clear hb); (try clear hb2); (try clear hk); (try clear hi)) | (go_at_call 6; (with_reducible refine (crc_Sealed.calls k1 t144 t146 t147 _ A11.out).mono ?_); rintro e w25 ⟨rfl, hb⟩; have n0_ := Aside0.mk (below_step (by repeat (first | (with_reducible first | exact HB.out | apply below_alloc | apply pw_below_drewN | apply below_drew1) | exact HB.out)) hb); clear HB; have HB := n0_; clear n0_; (try clear hb); (try clear hb2); (try clear hk); (try clear hi)) | (go_at_call 7; (with_reducible refine (num_Text.calls k1 t146 t148 t149 _ A12.out).mono ?_); rintro e w26 ⟨rfl, hb⟩; have n0_ := Aside0.mk (below_step (by repeat (first | (with_reducible first | exact HB.out | apply below_alloc | apply pw_below_drewN | apply below_drew1) | exact HB.out)) hb); clear HB; have HB := n0_; clear n0_; (try clear hb); (try clear hb2); (try clear hk); (try clear hi))))
                      go_ret
                      exact ⟨by first | rfl | (simp [errW_none, errW_some] <;> rfl) | (simp [*, errW_none, errW_some] <;> rfl), by repeat (first | (with_reducible first | exact HB.out | apply below_alloc | apply pw_below_drewN | apply below_drew1) | exact HB.out)⟩
                  · rw [if_neg c18] at H
                    have c18b0 : (t147 == 0) = false := beq_eq_false_iff_ne.mpr c18
                    have c18b1 : (t147 != 0) = true := bne_iff_ne.mpr c18
                    obtain rfl := Option.some.inj H
                    have p143 : 0 ≤ (x37_1 : Int) := of_decide_eq_true (by first | (with_reducible assumption) | assumption)
                    have q143 : x37_1 < (l0.length : Int) := of_decide_eq_true (by first | (with_reducible assumption) | assumption)
                    obtain ⟨ad143, A143_0, c143_0, e143, hx143_0, hl143_0, hi143_0⟩ := at_L2 HR0.out x37_1 p143 q143
                    cases e143
                    replace hx143_0 := (HB.out.cell (World.block_lt_of_cell? w _ hx143_0)).trans hx143_0
                    have HR143_0 := Aside0.mk hi143_0
                    have HC143_0 := Aside0.mk hl143_0
                    clear hi143_0 hl143_0
                    replace p143 := eq_true p143
                    replace q143 := eq_true q143
                    go_wp2_with (first | (go_at_call 5; (with_reducible refine (num_Row.calls k1 _ _ (rd_L2 l0 x37_1) t144 t145 _ ?side1 ?side2 A10.out).mono ?_); (case side1 => repeat (first | exact (Kd.C_below HR143_0.out HB.out) | (with_reducible refine Kd.C_alloc ?_ _) | (with_reducible refine Kd.C_drewN ?_ _) | (with_reducible refine Kd.C_drew ?_))); (case side2 => exact HC143_0.out); rintro e w27 ⟨rfl, hb⟩; have n0_ := Aside0.mk (below_step (by repeat (first | (with_reducible first | exact HB.out | apply below_alloc | apply pw_below_drewN | apply below_drew1) | exact HB.out)) hb); clear HB; have HB := n0_; clear n0_; (try clear hb); (try clear hb2); (try clear hk); (try clear hi)) | (go_at_call 6; (with_reducible refine (crc_Sealed.calls k1 t144 t146 t147 _ A11.out).mono ?_); rintro e w28 ⟨rfl, hb⟩; have n0_ := Aside0.mk (below_step (by repeat (first | (with_reducible first | exact HB.out | apply below_alloc | apply pw_below_drewN | apply below_drew1) | exact HB.out)) hb); clear HB; have HB := n0_; clear n0_; (try clear hb); (try clear hb2); (try clear hk); (try clear hi)) | (go_at_call 7; (with_reducible refine (num_Text.calls k1 t146 t148 t149 _ A12.out).mono ?_); rintro e w29 ⟨rfl, hb⟩; have n0_ := Aside0.mk (below_step (by repeat (first | (with_reducible first | exact HB.out | apply below_alloc | apply pw_below_drewN | apply below_drew1) | exact HB.out)) hb); clear HB; have HB := n0_; clear n0_; (try clear hb); (try clear hb2); (try clear hk); (try clear hi)))
                    repeat (go_quiet (first | (go_at_call 5; (with_reducible refine (num_Row.calls k1 _ _ (rd_L2 l0 x37_1) t144 t145 _ ?side1 ?side2 A10.out).mono ?_); (case side1 => repeat (first | exact (Kd.C_below HR143_0.out HB.out) | (with_reducible refine Kd.C_alloc ?_ _) | (with_reducible refine Kd.C_drewN ?_ _) | (with_reducible refine Kd.C_drew ?_))); (case side2 => exact HC143_0.out); rintro e w27 ⟨rfl, hb⟩; have n0_ := Aside0.mk (below_step (by repeat (first | (with_reducible first | exact HB.out | apply below_alloc | apply pw_below_drewN | apply below_drew1) | exact HB.out)) hb); clear HB; have HB := n0_; clear n0_; (try clear hb); (try clear hb2); (try clear hk); (try clear hi)) | (go_at_call 6; (with_reducible refine (crc_Sealed.calls k1 t144 t146 t147 _ A11.out).mono ?_); rintro e w28 ⟨rfl, hb⟩; have n0_ := Aside0.mk (below_step (by repeat (first | (with_reducible first | exact HB.out | apply below_alloc | apply pw_below_drewN | apply below_drew1) | exact HB.out)) hb); clear HB; have HB := n0_; clear n0_; (try clear hb); (try clear hb2); (try clear hk); (try clear hi)) | (go_at_call 7; (with_reducible refine (num_Text.calls k1 t146 t148 t149 _ A12.out).mono ?_); rintro e w29 ⟨rfl, hb⟩; have n0_ := Aside0.mk (below_step (by repeat (first | (with_reducible first | exact HB.out | apply below_alloc | apply pw_below_drewN | apply below_drew1) | exact HB.out)) hb); clear HB; have HB := n0_; clear n0_; (try clear hb); (try clear hb2); (try clear hk); (try clear hi))); try go_wp2_with (first | (go_at_call 5; (with_reducible refine (num_Row.calls k1 _ _ (rd_L2 l0 x37_1) t144 t145 _ ?side1 ?side2 A10.out).mono ?_); (case side1 => repeat (first | exact (Kd.C_below HR143_0.out HB.out) | (with_reducible refine Kd.C_alloc ?_ _) | (with_reducible refine Kd.C_drewN ?_ _) | (with_reducible refine Kd.C_drew ?_))); (case side2 => exact HC143_0.out); rintro e w27 ⟨rfl, hb⟩; have n0_ := Aside0.mk (below_step (by repeat (first | (with_reducible first | exact HB.out | apply below_alloc | apply pw_below_drewN | apply below_drew1) | exact HB.out)) hb); clear HB; have HB := n0_; clear n0_; (try clear hb); (try clear hb2); (try clear hk); (try clear hi)) | (go_at_call 6; (with_reducible refine (crc_Sealed.calls k1 t144 t146 t147 _ A11.out).mono ?_); rintro e w28 ⟨rfl, hb⟩; have n0_ := Aside0.mk (below_step (by repeat (first | (with_reducible first | exact HB.out | apply below_alloc | apply pw_below_drewN | apply below_drew1) | exact HB.out)) hb); clear HB; have HB := n0_; clear n0_; (try clear hb); (try clear hb2); (try clear hk); (try clear hi)) | (go_at_call 7; (with_reducible refine (num_Text.calls k1 t146 t148 t149 _ A12.out).mono ?_); rintro e w29 ⟨rfl, hb⟩; have n0_ := Aside0.mk (below_step (by repeat (first | (with_reducible first | exact HB.out | apply below_alloc | apply pw_below_drewN | apply below_drew1) | exact HB.out)) hb); clear HB; have HB := n0_; clear n0_; (try clear hb); (try clear hb2); (try clear hk); (try clear hi))))
                    go_ret
                    exact ⟨by first | rfl | (simp [errW_none, errW_some] <;> rfl) | (simp [*, errW_none, errW_some] <;> rfl), by repeat (first | (with_reducible first | exact HB.out | apply below_alloc | apply pw_below_drewN | apply below_drew1) | exact HB.out)⟩
                · rw [if_neg c17] at H
                  have c17b0 : (t145 == 0) = false := beq_eq_false_iff_ne.mpr c17
                  have c17b1 : (t145 != 0) = true := bne_iff_ne.mpr c17
                  obtain rfl := Option.some.inj H
                  have p143 : 0 ≤ (x37_1 : Int) := of_decide_eq_true (by first | (with_reducible assumption) | assumption)
                  have q143 : x37_1 < (l0.length : Int) := of_decide_eq_true (by first | (with_reducible assumption) | assumption)
                  obtain ⟨ad143, A143_0, c143_0, e143, hx143_0, hl143_0, hi143_0⟩ := at_L2 HR0.out x37_1 p143 q143
                  cases e143
                  replace hx143_0 := (HB.out.cell (World.block_lt_of_cell? w _ hx143_0)).trans hx143_0
                  have HR143_0 := Aside0.mk hi143_0
                  have HC143_0 := Aside0.mk hl143_0
                  clear hi143_0 hl143_0
                  replace p143 := eq_true p143
                  replace q143 := eq_true q143
                  go_wp2_with (first | (go_at_call 5; (with_reducible refine (num_Row.calls k1 _ _ (rd_L2 l0 x37_1) t144 t145 _ ?side1 ?side2 A10.out).mono ?_); (case side1 => repeat (first | exact (Kd.C_below HR143_0.out HB.out) | (with_reducible refine Kd.C_alloc ?_ _) | (with_reducible refine Kd.C_drewN ?_ _) | (with_reducible refine Kd.C_drew ?_))); (case side2 => exact HC143_0.out); rintro e w30 ⟨rfl, hb⟩; have n0_ := Aside0.mk (below_step (by repeat (first | (with_reducible first | exact HB.out | apply below_alloc | apply pw_below_drewN | apply below_drew1) | exact HB.out)) hb); clear HB; have HB := n0_; clear n0_; (try clear hb); (try clear hb2); (try clear hk); (try clear hi)) | (go_at_call 6; (with_reducible refine (crc_Sealed.calls k1 t144 t146 t147 _ A11.out).mono ?_); rintro e w31 ⟨rfl, hb⟩; have n0_ := Aside0.mk (below_step (by repeat (first | (with_reducible first | exact HB.out | apply below_alloc | apply pw_below_drewN | apply below_drew1) | exact HB.out)) hb); clear HB; have HB := n0_; clear n0_; (try clear hb); (try clear hb2); (try clear hk); (try clear hi)) | (go_at_call 7; (with_reducible refine (num_Text.calls k1 t146 t148 t149 _ A12.out).mono ?_); rintro e w32 ⟨rfl, hb⟩; have n0_ := Aside0.mk (below_step (by repeat (first | (with_reducible first | exact HB.out | apply below_alloc | apply pw_below_drewN | apply below_drew1) | exact HB.out)) hb); clear HB; have HB := n0_; clear n0_; (try clear hb); (try clear hb2); (try clear hk); (try clear hi)))
                  repeat (go_quiet (first | (go_at_call 5; (with_reducible refine (num_Row.calls k1 _ _ (rd_L2 l0 x37_1) t144 t145 _ ?side1 ?side2 A10.out).mono ?_); (case side1 => repeat (first | exact (Kd.C_below HR143_0.out HB.out) | (with_reducible refine Kd.C_alloc ?_ _) | (with_reducible refine Kd.C_drewN ?_ _) | (with_reducible refine Kd.C_drew ?_))); (case side2 => exact HC143_0.out); rintro e w30 ⟨rfl, hb⟩; have n0_ := Aside0.mk (below_step (by repeat (first | (with_reducible first | exact HB.out | apply below_alloc | apply pw_below_drewN | apply below_drew1) | exact HB.out)) hb); clear HB; have HB := n0_; clear n0_; (try clear hb); (try clear hb2); (try clear hk); (try clear hi)) | (go_at_call 6; (with_reducible refine (crc_Sealed.calls k1 t144 t146 t147 _ A11.out).mono ?_); rintro e w31 ⟨rfl, hb⟩; have n0_ := Aside0.mk (below_step (by repeat (first | (with_reducible first | exact HB.out | apply below_alloc | apply pw_below_drewN | apply below_drew1) | exact HB.out)) hb); clear HB; have HB := n0_; clear n0_; (try clear hb); (try clear hb2); (try clear hk); (try clear hi)) | (go_at_call 7; (with_reducible refine (num_Text.calls k1 t146 t148 t149 _ A12.out).mono ?_); rintro e w32 ⟨rfl, hb⟩; have n0_ := Aside0.mk (below_step (by repeat (first | (with_reducible first | exact HB.out | apply below_alloc | apply pw_below_drewN | apply below_drew1) | exact HB.out)) hb); clear HB; have HB := n0_; clear n0_; (try clear hb); (try clear hb2); (try clear hk); (try clear hi))); try go_wp2_with (first | (go_at_call 5; (with_reducible refine (num_Row.calls k1 _ _ (rd_L2 l0 x37_1) t144 t145 _ ?side1 ?side2 A10.out).mono ?_); (case side1 => repeat (first | exact (Kd.C_below HR143_0.out HB.out) | (with_reducible refine Kd.C_alloc ?_ _) | (with_reducible refine Kd.C_drewN ?_ _) | (with_reducible refine Kd.C_drew ?_))); (case side2 => exact HC143_0.out); rintro e w30 ⟨rfl, hb⟩; have n0_ := Aside0.mk (below_step (by repeat (first | (with_reducible first | exact HB.out | apply below_alloc | apply pw_below_drewN | apply below_drew1) | exact HB.out)) hb); clear HB; have HB := n0_; clear n0_; (try clear hb); (try clear hb2); (try clear hk); (try clear hi)) | (go_at_call 6; (with_reducible refine (crc_Sealed.calls k1 t144 t146 t147 _ A11.out).mono ?_); rintro e w31 ⟨rfl, hb⟩; have n0_ := Aside0.mk (below_step (by repeat (first | (with_reducible first | exact HB.out | apply below_alloc | apply pw_below_drewN | apply below_drew1) | exact HB.out)) hb); clear HB; have HB := n0_; clear n0_; (try clear hb); (try clear hb2); (try clear hk); (try clear hi)) | (go_at_call 7; (with_reducible refine (num_Text.calls k1 t146 t148 t149 _ A12.out).mono ?_); rintro e w32 ⟨rfl, hb⟩; have n0_ := Aside0.mk (below_step (by repeat (first | (with_reducible first | exact HB.out | apply below_alloc | apply pw_below_drewN | apply below_drew1) | exact HB.out)) hb); clear HB; have HB := n0_; clear n0_; (try clear hb); (try clear hb2); (try clear hk); (try clear hi))))
                  go_ret
                  exact ⟨by first | rfl | (simp [errW_none, errW_some] <;> rfl) | (simp [*, errW_none, errW_some] <;> rfl), by repeat (first | (with_reducible first | exact HB.out | apply below_alloc | apply pw_below_drewN | apply below_drew1) | exact HB.out)⟩
            · rw [if_neg c9] at H
              exact absurd H (by simp)
          · rw [if_neg c8] at H
            exact absurd H (by simp)
        · rw [if_neg c7] at H
          have c7b0 : decide (x37_1 < (l0.length : Int)) = false := decide_eq_false c7
          clear c7
          have H' := Aside0.mk H
          clear H
          go_wp2
          repeat (go_quiet (fail); try go_wp2)
          go_loopg [16, 78] k1 (fun kq v16 v78 w' => ∃ (x16_2 : ByteArray) (x78_2 : Int), v16 = .string x16_2 ∧ v78 = .int .i64 x78_2 ∧ Aside0 (spoortop_TopSealed.l1 kq a1 a2 x7_1 x16_2 l0 (l0.length : Int) x78_2 = some r) ∧ Aside0 (kq ≤ k1) ∧ Aside0 (Below w.heap.size w w'))
          case atStart => exact ⟨(x7_1), (0), (by first | rfl | (simp; done) | (simp [*]; done)), (by first | rfl | (simp; done) | (simp [*]; done)), H', ⟨Nat.le_refl _⟩, ⟨by repeat (first | (with_reducible first | exact HB.out | apply below_alloc | apply pw_below_drewN | apply below_drew1) | exact HB.out)⟩⟩
          case round =>
            clear H'; try clear c1; try clear p1; try clear q1; try clear hx1; try clear c2; try clear p2; try clear c3; try clear c5; try clear p6; try clear c7; try clear c7b0; try clear c8; try clear c8b0; try clear c9; try clear c9b0; try clear c13; try clear c13b0; try clear c14; try clear p14; try clear q14; try clear hx14; try clear c17; try clear c17b0; try clear c17b1; try clear c18; try clear c18b0; try clear c18b1; try clear c19; try clear c19b0; try clear c19b1; try clear c20; try clear c20b0; try clear c20b1; try clear c20b2; try clear hx143_0; try clear p143; try clear p2; try clear q143
            obtain ⟨x16_2, x78_2, rfl, rfl, HA, HK2, HB⟩ := hrel
            cases gk with
            | zero => exact absurd HA.out (by simp [spoortop_TopSealed.l1])
            | succ k2 =>
              have H := HA.out
              clear HA
              simp only [spoortop_TopSealed.l1] at H
              by_cases c33 : x78_2 < (l0.length : Int)
              · rw [if_pos c33] at H
                have c33b0 : decide (x78_2 < (l0.length : Int)) = true := decide_eq_true c33
                clear c33
                by_cases c34 : 0 ≤ x78_2
                · rw [if_pos c34] at H
                  have c34b0 : decide (0 ≤ x78_2) = true := decide_eq_true c34
                  clear c34
                  by_cases c35 : x78_2 < (l0.length : Int)
                  · rw [if_pos c35] at H
                    have c35b0 : decide (x78_2 < (l0.length : Int)) = true := decide_eq_true c35
                    clear c35
                    replace H := Option.bind_eq_some_iff.mp H
                    obtain ⟨⟨t151, t152, t153⟩, A360, H⟩ := H
                    replace H : ((crc_Open.f k2 t151).bind fun bt154 => ((num_GetRow.f k2 bt154.1).bind fun bt156 => (if t153 = 0 then (if bt154.2 = 0 then (if bt156.2.2 = 0 then (if bt156.2.1.toList = ([] : List UInt8) then (spoortop_TopSealed.j2 k2 a1 a2 x7_1 (rd_L2 l0 x78_2) t152 bt156.1 l0 (l0.length : Int) x78_2 ((bt156.1.length : Int) != ((rd_L2 l0 x78_2).length : Int))) else (spoortop_TopSealed.j2 k2 a1 a2 x7_1 (rd_L2 l0 x78_2) t152 bt156.1 l0 (l0.length : Int) x78_2 true)) else (spoortop_TopSealed.j2 k2 a1 a2 x7_1 (rd_L2 l0 x78_2) t152 bt156.1 l0 (l0.length : Int) x78_2 true)) else (spoortop_TopSealed.j2 k2 a1 a2 x7_1 (rd_L2 l0 x78_2) t152 bt156.1 l0 (l0.length : Int) x78_2 true)) else (spoortop_TopSealed.j2 k2 a1 a2 x7_1 (rd_L2 l0 x78_2) t152 bt156.1 l0 (l0.length : Int) x78_2 true)))) = some r := H
                    have A36 := Aside0.mk A360
                    clear A360
                    replace H := Option.bind_eq_some_iff.mp H
                    obtain ⟨⟨t154, t155⟩, A370, H⟩ := H
                    replace H : ((num_GetRow.f k2 t154).bind fun bt156 => (if t153 = 0 then (if t155 = 0 then (if bt156.2.2 = 0 then (if bt156.2.1.toList = ([] : List UInt8) then (spoortop_TopSealed.j2 k2 a1 a2 x7_1 (rd_L2 l0 x78_2) t152 bt156.1 l0 (l0.length : Int) x78_2 ((bt156.1.length : Int) != ((rd_L2 l0 x78_2).length : Int))) else (spoortop_TopSealed.j2 k2 a1 a2 x7_1 (rd_L2 l0 x78_2) t152 bt156.1 l0 (l0.length : Int) x78_2 true)) else (spoortop_TopSealed.j2 k2 a1 a2 x7_1 (rd_L2 l0 x78_2) t152 bt156.1 l0 (l0.length : Int) x78_2 true)) else (spoortop_TopSealed.j2 k2 a1 a2 x7_1 (rd_L2 l0 x78_2) t152 bt156.1 l0 (l0.length : Int) x78_2 true)) else (spoortop_TopSealed.j2 k2 a1 a2 x7_1 (rd_L2 l0 x78_2) t152 bt156.1 l0 (l0.length : Int) x78_2 true))) = some r := H
                    have A37 := Aside0.mk A370
                    clear A370
                    replace H := Option.bind_eq_some_iff.mp H
                    obtain ⟨⟨t156, t157, t158⟩, A380, H⟩ := H
                    replace H : (if t153 = 0 then (if t155 = 0 then (if t158 = 0 then (if t157.toList = ([] : List UInt8) then (spoortop_TopSealed.j2 k2 a1 a2 x7_1 (rd_L2 l0 x78_2) t152 t156 l0 (l0.length : Int) x78_2 ((t156.length : Int) != ((rd_L2 l0 x78_2).length : Int))) else (spoortop_TopSealed.j2 k2 a1 a2 x7_1 (rd_L2 l0 x78_2) t152 t156 l0 (l0.length : Int) x78_2 true)) else (spoortop_TopSealed.j2 k2 a1 a2 x7_1 (rd_L2 l0 x78_2) t152 t156 l0 (l0.length : Int) x78_2 true)) else (spoortop_TopSealed.j2 k2 a1 a2 x7_1 (rd_L2 l0 x78_2) t152 t156 l0 (l0.length : Int) x78_2 true)) else (spoortop_TopSealed.j2 k2 a1 a2 x7_1 (rd_L2 l0 x78_2) t152 t156 l0 (l0.length : Int) x78_2 true)) = some r := H
                    have A38 := Aside0.mk A380
                    clear A380
                    have HC39 := Aside0.mk H
                    clear H
                    have p150 : 0 ≤ (x78_2 : Int) := of_decide_eq_true (by first | (with_reducible assumption) | assumption)
                    have q150 : x78_2 < (l0.length : Int) := of_decide_eq_true (by first | (with_reducible assumption) | assumption)
                    obtain ⟨ad150, A150_0, c150_0, e150, hx150_0, hl150_0, hi150_0⟩ := at_L2 HR0.out x78_2 p150 q150
                    cases e150
                    replace hx150_0 := (HB.out.cell (World.block_lt_of_cell? w _ hx150_0)).trans hx150_0
                    have HR150_0 := Aside0.mk hi150_0
                    have HC150_0 := Aside0.mk hl150_0
                    clear hi150_0 hl150_0
                    replace p150 := eq_true p150
                    replace q150 := eq_true q150
                    go_upto_region 21 with (first | (go_at_call 8; (with_reducible refine (num_GetText.calls k2 x16_2 t151 t152 t153 _ A36.out).mono ?_); rintro e w40 ⟨rfl, hb⟩; have n0_ := Aside0.mk (below_step (by repeat (first | (with_reducible first | exact HB.out | apply below_alloc | apply pw_below_drewN | apply below_drew1) | exact HB.out)) hb); clear HB; have HB := n0_; clear n0_; (try clear hb); (try clear hb2); (try clear hk); (try clear hi)) | (go_at_call 9; (with_reducible refine (crc_Open.calls k2 t151 t154 t155 _ A37.out).mono ?_); rintro e w' ⟨rfl, ⟨nd, rfl⟩⟩; (try first | exact ⟨rfl, _, World.drewN_drewN _ _ _⟩ | exact ⟨rfl, _, Eq.trans (World.drewN_drewN _ _ _) (congrArg (World.drewN _) (Nat.add_assoc _ _ _))⟩)) | (go_at_call 10; (with_reducible refine (num_GetRow.calls k2 t154 t156 t157 t158 _ A38.out).mono ?_); rintro e w41 ⟨v159, rfl, ho0, hb⟩; have n0_ := Aside0.mk (Kd.R_lower ho0 (below_size (by repeat (first | (with_reducible first | exact HB.out | apply below_alloc | apply pw_below_drewN | apply below_drew1) | exact HB.out)))); have n1_ := Aside0.mk (below_step (by repeat (first | (with_reducible first | exact HB.out | apply below_alloc | apply pw_below_drewN | apply below_drew1) | exact HB.out)) hb); clear HB; have HO160 := n0_; have HB := n1_; clear n0_ n1_; (try clear hb); (try clear hb2); (try clear hk); (try clear hi); (try clear ho0)))
                    repeat (go_quiet (first | (go_at_call 8; (with_reducible refine (num_GetText.calls k2 x16_2 t151 t152 t153 _ A36.out).mono ?_); rintro e w40 ⟨rfl, hb⟩; have n0_ := Aside0.mk (below_step (by repeat (first | (with_reducible first | exact HB.out | apply below_alloc | apply pw_below_drewN | apply below_drew1) | exact HB.out)) hb); clear HB; have HB := n0_; clear n0_; (try clear hb); (try clear hb2); (try clear hk); (try clear hi)) | (go_at_call 9; (with_reducible refine (crc_Open.calls k2 t151 t154 t155 _ A37.out).mono ?_); rintro e w' ⟨rfl, ⟨nd, rfl⟩⟩; (try first | exact ⟨rfl, _, World.drewN_drewN _ _ _⟩ | exact ⟨rfl, _, Eq.trans (World.drewN_drewN _ _ _) (congrArg (World.drewN _) (Nat.add_assoc _ _ _))⟩)) | (go_at_call 10; (with_reducible refine (num_GetRow.calls k2 t154 t156 t157 t158 _ A38.out).mono ?_); rintro e w41 ⟨v159, rfl, ho0, hb⟩; have n0_ := Aside0.mk (Kd.R_lower ho0 (below_size (by repeat (first | (with_reducible first | exact HB.out | apply below_alloc | apply pw_below_drewN | apply below_drew1) | exact HB.out)))); have n1_ := Aside0.mk (below_step (by repeat (first | (with_reducible first | exact HB.out | apply below_alloc | apply pw_below_drewN | apply below_drew1) | exact HB.out)) hb); clear HB; have HO160 := n0_; have HB := n1_; clear n0_ n1_; (try clear hb); (try clear hb2); (try clear hk); (try clear hi); (try clear ho0))); go_upto_region 21 with (first | (go_at_call 8; (with_reducible refine (num_GetText.calls k2 x16_2 t151 t152 t153 _ A36.out).mono ?_); rintro e w40 ⟨rfl, hb⟩; have n0_ := Aside0.mk (below_step (by repeat (first | (with_reducible first | exact HB.out | apply below_alloc | apply pw_below_drewN | apply below_drew1) | exact HB.out)) hb); clear HB; have HB := n0_; clear n0_; (try clear hb); (try clear hb2); (try clear hk); (try clear hi)) | (go_at_call 9; (with_reducible refine (crc_Open.calls k2 t151 t154 t155 _ A37.out).mono ?_); rintro e w' ⟨rfl, ⟨nd, rfl⟩⟩; (try first | exact ⟨rfl, _, World.drewN_drewN _ _ _⟩ | exact ⟨rfl, _, Eq.trans (World.drewN_drewN _ _ _) (congrArg (World.drewN _) (Nat.add_assoc _ _ _))⟩)) | (go_at_call 10; (with_reducible refine (num_GetRow.calls k2 t154 t156 t157 t158 _ A38.out).mono ?_); rintro e w41 ⟨v159, rfl, ho0, hb⟩; have n0_ := Aside0.mk (Kd.R_lower ho0 (below_size (by repeat (first | (with_reducible first | exact HB.out | apply below_alloc | apply pw_below_drewN | apply below_drew1) | exact HB.out)))); have n1_ := Aside0.mk (below_step (by repeat (first | (with_reducible first | exact HB.out | apply below_alloc | apply pw_below_drewN | apply below_drew1) | exact HB.out)) hb); clear HB; have HO160 := n0_; have HB := n1_; clear n0_ n1_; (try clear hb); (try clear hb2); (try clear hk); (try clear hi); (try clear ho0))))
                    (try simp only [Act.put, List.setIfInBounds_toArray, List.set_cons_zero, List.set_cons_succ])
                    go_cut [119] (fun v119 wc => ∃ (kq : Nat) (x119_38 : Bool), v119 = .bool x119_38 ∧ Aside0 (spoortop_TopSealed.j2 kq a1 a2 x7_1 (rd_L2 l0 x78_2) t152 t156 l0 (l0.length : Int) x78_2 x119_38 = some r) ∧ Aside0 (kq ≤ k2) ∧ Aside0 (Kd.R (Kd.int .u64) 33 wc w.heap.size (fun _ => True) v159 t156) ∧ Aside0 (Below w.heap.size w wc))
                    case first =>
                      have H := HC39.out
                      clear HC39
                      by_cases c42 : t153 = 0
                      · rw [if_pos c42] at H
                        have c42b0 : (t153 == 0) = true := beq_iff_eq.mpr c42
                        have c42b1 : (t153 != 0) = false := bne_eq_false_iff_eq.mpr c42
                        clear c42
                        (first | rw [c42b0] | (simp only [i64_w, i32_w]; rw [c42b0]) | skip)
                        by_cases c43 : t155 = 0
                        · rw [if_pos c43] at H
                          have c43b0 : (t155 == 0) = true := beq_iff_eq.mpr c43
                          have c43b1 : (t155 != 0) = false := bne_eq_false_iff_eq.mpr c43
                          clear c43
                          by_cases c44 : t158 = 0
                          · rw [if_pos c44] at H
                            have c44b0 : (t158 == 0) = true := beq_iff_eq.mpr c44
                            have c44b1 : (t158 != 0) = false := bne_eq_false_iff_eq.mpr c44
                            clear c44
                            by_cases c45 : t157.toList = ([] : List UInt8)
                            · rw [if_pos c45] at H
                              have c45b0 : (t157.toList == ([] : List UInt8)) = true := beq_iff_eq.mpr c45
                              have c45b1 : (t157.toList != ([] : List UInt8)) = false := bne_eq_false_iff_eq.mpr c45
                              clear c45
                              have H' := Aside0.mk H
                              clear H
                              obtain ⟨Ao46, co46, eo46⟩ := Kd.R_slice HO160.out
                              subst eo46
                              go_wp2
                              repeat (go_quiet (fail); try go_wp2)
                              go_meet
                              case rel => exact ⟨_, (((t156.length : Int) != ((rd_L2 l0 x78_2).length : Int))), (by first | rfl | (simp; done) | (simp [*]; done)), H', ⟨by have := HK1.out; have := HK2.out; first | omega | exact Nat.le_refl _⟩, ⟨by (with_reducible repeat (first | apply Kd.R_alloc | apply Kd.R_drewN | apply Kd.R_drew)); exact HO160.out⟩, ⟨by repeat (first | (with_reducible first | exact HB.out | apply below_alloc | apply pw_below_drewN | apply below_drew1) | exact HB.out)⟩⟩
                            · rw [if_neg c45] at H
                              have c45b0 : (t157.toList == ([] : List UInt8)) = false := beq_eq_false_iff_ne.mpr c45
                              have c45b1 : (t157.toList != ([] : List UInt8)) = true := bne_iff_ne.mpr c45
                              have H' := Aside0.mk H
                              clear H
                              go_wp2
                              repeat (go_quiet (fail); try go_wp2)
                              go_meet
                              case rel => exact ⟨_, (true), (by first | rfl | (simp; done) | (simp [*]; done)), H', ⟨by have := HK1.out; have := HK2.out; first | omega | exact Nat.le_refl _⟩, ⟨by (with_reducible repeat (first | apply Kd.R_alloc | apply Kd.R_drewN | apply Kd.R_drew)); exact HO160.out⟩, ⟨by repeat (first | (with_reducible first | exact HB.out | apply below_alloc | apply pw_below_drewN | apply below_drew1) | exact HB.out)⟩⟩
                          · rw [if_neg c44] at H
                            have c44b0 : (t158 == 0) = false := beq_eq_false_iff_ne.mpr c44
                            have c44b1 : (t158 != 0) = true := bne_iff_ne.mpr c44
                            have H' := Aside0.mk H
                            clear H
                            go_wp2
                            repeat (go_quiet (fail); try go_wp2)
                            go_meet
                            case rel => exact ⟨_, (true), (by first | rfl | (simp; done) | (simp [*]; done)), H', ⟨by have := HK1.out; have := HK2.out; first | omega | exact Nat.le_refl _⟩, ⟨by (with_reducible repeat (first | apply Kd.R_alloc | apply Kd.R_drewN | apply Kd.R_drew)); exact HO160.out⟩, ⟨by repeat (first | (with_reducible first | exact HB.out | apply below_alloc | apply pw_below_drewN | apply below_drew1) | exact HB.out)⟩⟩
                        · rw [if_neg c43] at H
                          have c43b0 : (t155 == 0) = false := beq_eq_false_iff_ne.mpr c43
                          have c43b1 : (t155 != 0) = true := bne_iff_ne.mpr c43
                          have H' := Aside0.mk H
                          clear H
                          go_wp2
                          repeat (go_quiet (fail); try go_wp2)
                          go_meet
                          case rel => exact ⟨_, (true), (by first | rfl | (simp; done) | (simp [*]; done)), H', ⟨by have := HK1.out; have := HK2.out; first | omega | exact Nat.le_refl _⟩, ⟨by (with_reducible repeat (first | apply Kd.R_alloc | apply Kd.R_drewN | apply Kd.R_drew)); exact HO160.out⟩, ⟨by repeat (first | (with_reducible first | exact HB.out | apply below_alloc | apply pw_below_drewN | apply below_drew1) | exact HB.out)⟩⟩
                      · rw [if_neg c42] at H
                        have c42b0 : (t153 == 0) = false := beq_eq_false_iff_ne.mpr c42
                        have c42b1 : (t153 != 0) = true := bne_iff_ne.mpr c42
                        (first | rw [c42b0] | (simp only [i64_w, i32_w]; rw [c42b0]) | skip)
                        have H' := Aside0.mk H
                        clear H
                        go_wp2
                        repeat (go_quiet (fail); try go_wp2)
                        go_meet
                        case rel => exact ⟨_, (true), (by first | rfl | (simp; done) | (simp [*]; done)), H', ⟨by have := HK1.out; have := HK2.out; first | omega | exact Nat.le_refl _⟩, ⟨by (with_reducible repeat (first | apply Kd.R_alloc | apply Kd.R_drewN | apply Kd.R_drew)); exact HO160.out⟩, ⟨by repeat (first | (with_reducible first | exact HB.out | apply below_alloc | apply pw_below_drewN | apply below_drew1) | exact HB.out)⟩⟩
                    case rest =>
                      clear HC39; try clear c1; try clear p1; try clear q1; try clear hx1; try clear c2; try clear p2; try clear c3; try clear c4; try clear c5; try clear p6; try clear c7; try clear c7b0; try clear c8; try clear c8b0; try clear c9; try clear c9b0; try clear c13; try clear c13b0; try clear c14; try clear p14; try clear q14; try clear hx14; try clear c15; try clear p15; try clear q15; try clear hx15; try clear c17; try clear c17b0; try clear c17b1; try clear c18; try clear c18b0; try clear c18b1; try clear c19; try clear c19b0; try clear c19b1; try clear c20; try clear c20b0; try clear c20b1; try clear c20b2; try clear c33; try clear c33b0; try clear c34; try clear c34b0; try clear c35; try clear c35b0; try clear c42; try clear c42b0; try clear c42b1; try clear c43; try clear c43b0; try clear c43b1; try clear c44; try clear c44b0; try clear c44b1; try clear c45; try clear c45b0; try clear c45b1; try clear hx143_0; try clear hx150_0; try clear p1; try clear p14; try clear p143; try clear p150; try clear p2; try clear p6; try clear q1; try clear q14; try clear q143; try clear q150
                      obtain ⟨kq, x119_38, rfl, HA, HJ38, HO_24, HB⟩ := hcut
                      cases kq with
                      | zero => exact absurd HA.out (by simp [spoortop_TopSealed.j2])
                      | succ kj38 =>
                        have H := HA.out
                        clear HA
                        simp only [spoortop_TopSealed.j2] at H
                        by_cases c47 : x119_38 = true
                        · subst c47
                          have H1 : (none) = some r := by rw [if_pos rfl] at H; exact H
                          clear H
                          have H := H1
                          clear H1
                          exact absurd H (by simp)
                        · replace c47 := Bool.eq_false_iff.mpr c47
                          subst c47
                          have H1 : (spoortop_TopSealed.l2 kj38 a1 a2 x7_1 (rd_L2 l0 x78_2) t152 t156 l0 (l0.length : Int) x78_2 (t156.length : Int) 0) = some r := by rw [if_neg (show ¬ (false = true) by decide)] at H; exact H
                          clear H
                          have H := H1
                          clear H1
                          have H' := Aside0.mk H
                          clear H
                          obtain ⟨Ao48, co48, eo48⟩ := Kd.R_slice HO_24.out
                          subst eo48
                          go_wp2
                          repeat (go_quiet (fail); try go_wp2)
                          go_loopg [122] kj38 (fun kq v122 w' => ∃ (x122_4 : Int), v122 = .int .i64 x122_4 ∧ Aside0 (spoortop_TopSealed.l2 kq a1 a2 x7_1 (rd_L2 l0 x78_2) t152 t156 l0 (l0.length : Int) x78_2 (t156.length : Int) x122_4 = some r) ∧ Aside0 (kq ≤ kj38) ∧ Aside0 (Kd.R (Kd.int .u64) 33 w' w.heap.size (fun _ => True) (.slice Ao48 t156.length co48) t156) ∧ Aside0 (Below w.heap.size w w'))
                          case atStart => exact ⟨(0), (by first | rfl | (simp; done) | (simp [*]; done)), H', ⟨Nat.le_refl _⟩, ⟨by (with_reducible repeat (first | apply Kd.R_alloc | apply Kd.R_drewN | apply Kd.R_drew)); exact HO_24.out⟩, ⟨by repeat (first | (with_reducible first | exact HB.out | apply below_alloc | apply pw_below_drewN | apply below_drew1) | exact HB.out)⟩⟩
                          case round =>
                            clear H'; try clear c1; try clear p1; try clear q1; try clear hx1; try clear c2; try clear p2; try clear c3; try clear c4; try clear c5; try clear p6; try clear c7; try clear c7b0; try clear c8; try clear c8b0; try clear c9; try clear c9b0; try clear c13; try clear c13b0; try clear c14; try clear p14; try clear q14; try clear hx14; try clear c15; try clear p15; try clear q15; try clear hx15; try clear c17; try clear c17b0; try clear c17b1; try clear c18; try clear c18b0; try clear c18b1; try clear c19; try clear c19b0; try clear c19b1; try clear c20; try clear c20b0; try clear c20b1; try clear c20b2; try clear c33; try clear c33b0; try clear c34; try clear c34b0; try clear c35; try clear c35b0; try clear c42; try clear c42b0; try clear c42b1; try clear c43; try clear c43b0; try clear c43b1; try clear c44; try clear c44b0; try clear c44b1; try clear c45; try clear c45b0; try clear c45b1; try clear c47; try clear hx143_0; try clear hx150_0; try clear p1; try clear p14; try clear p143; try clear p15; try clear p150; try clear p2; try clear p6; try clear q1; try clear q14; try clear q143; try clear q15; try clear q150
                            obtain ⟨x122_4, rfl, HA, HK4, HO_24, HB⟩ := hrel
                            cases gk with
                            | zero => exact absurd HA.out (by simp [spoortop_TopSealed.l2])
                            | succ k4 =>
                              have H := HA.out
                              clear HA
                              simp only [spoortop_TopSealed.l2] at H
                              by_cases c49 : x122_4 < (t156.length : Int)
                              · rw [if_pos c49] at H
                                have c49b0 : decide (x122_4 < (t156.length : Int)) = true := decide_eq_true c49
                                clear c49
                                by_cases c50 : 0 ≤ x122_4
                                · rw [if_pos c50] at H
                                  have c50b0 : decide (0 ≤ x122_4) = true := decide_eq_true c50
                                  clear c50
                                  by_cases c51 : x122_4 < (t156.length : Int)
                                  · rw [if_pos c51] at H
                                    have c51b0 : decide (x122_4 < (t156.length : Int)) = true := decide_eq_true c51
                                    clear c51
                                    by_cases c52 : x122_4 < ((rd_L2 l0 x78_2).length : Int)
                                    · rw [if_pos c52] at H
                                      have c52b0 : decide (x122_4 < ((rd_L2 l0 x78_2).length : Int)) = true := decide_eq_true c52
                                      clear c52
                                      by_cases c53 : (rd t156 x122_4) = (rd (rd_L2 l0 x78_2) x122_4)
                                      · rw [if_pos c53] at H
                                        have c53b0 : ((rd t156 x122_4) == (rd (rd_L2 l0 x78_2) x122_4)) = true := beq_iff_eq.mpr c53
                                        have c53b1 : ((rd t156 x122_4) != (rd (rd_L2 l0 x78_2) x122_4)) = false := bne_eq_false_iff_eq.mpr c53
                                        clear c53
                                        have H' := Aside0.mk H
                                        clear H
                                        have p161 : 0 ≤ (x122_4 : Int) := of_decide_eq_true (by first | (with_reducible assumption) | assumption)
                                        have q161 : x122_4 < (t156.length : Int) := of_decide_eq_true (by first | (with_reducible assumption) | assumption)
                                        obtain ⟨ad161, e161, hx161_0⟩ := Kd.at_int (Kd.R_reads' HO_24.out).2.2 x122_4 p161 q161
                                        cases e161
                                        replace p161 := eq_true p161
                                        replace q161 := eq_true q161
                                        have p162 : 0 ≤ (x122_4 : Int) := of_decide_eq_true (by first | (with_reducible assumption) | assumption)
                                        have q162 : x122_4 < ((rd_L2 l0 x78_2).length : Int) := of_decide_eq_true (by first | (with_reducible assumption) | assumption)
                                        obtain ⟨ad162, e162, hx162_0⟩ := Kd.at_int HR150_0.out x122_4 p162 q162
                                        cases e162
                                        replace hx162_0 := (HB.out.cell (World.block_lt_of_cell? w _ hx162_0)).trans hx162_0
                                        replace p162 := eq_true p162
                                        replace q162 := eq_true q162
                                        go_wp2
                                        repeat (go_quiet (fail); try go_wp2)
                                        go_roundg k4
                                        case measure => have := HK1.out; have := HK2.out; have := HJ38.out; have := HK4.out; omega
                                        case rel => exact ⟨(wrap64 (x122_4 + 1)), (by first | rfl | (simp; done) | (simp [*]; done)), H', ⟨by have := HK1.out; have := HK2.out; have := HJ38.out; have := HK4.out; omega⟩, ⟨by (with_reducible repeat (first | apply Kd.R_alloc | apply Kd.R_drewN | apply Kd.R_drew)); exact HO_24.out⟩, ⟨by repeat (first | (with_reducible first | exact HB.out | apply below_alloc | apply pw_below_drewN | apply below_drew1) | exact HB.out)⟩⟩
                                      · rw [if_neg c53] at H
                                        exact absurd H (by simp)
                                    · rw [if_neg c52] at H
                                      exact absurd H (by simp)
                                  · rw [if_neg c51] at H
                                    exact absurd H (by simp)
                                · rw [if_neg c50] at H
                                  exact absurd H (by simp)
                              · rw [if_neg c49] at H
                                have c49b0 : decide (x122_4 < (t156.length : Int)) = false := decide_eq_false c49
                                clear c49
                                have H' := Aside0.mk H
                                clear H
                                go_wp2
                                repeat (go_quiet (fail); try go_wp2)
                                go_roundg k4
                                case measure => have := HK1.out; have := HK2.out; have := HJ38.out; have := HK4.out; omega
                                case rel => exact ⟨(t152), (wrap64 (x78_2 + 1)), (by first | rfl | (simp; done) | (simp [*]; done)), (by first | rfl | (simp; done) | (simp [*]; done)), H', ⟨by have := HK1.out; have := HK2.out; have := HJ38.out; have := HK4.out; omega⟩, ⟨by repeat (first | (with_reducible first | exact HB.out | apply below_alloc | apply pw_below_drewN | apply below_drew1) | exact HB.out)⟩⟩
                  · rw [if_neg c35] at H
                    exact absurd H (by simp)
                · rw [if_neg c34] at H
                  exact absurd H (by simp)
              · rw [if_neg c33] at H
                have c33b0 : decide (x78_2 < (l0.length : Int)) = false := decide_eq_false c33
                clear c33
                replace H := Option.bind_eq_some_iff.mp H
                obtain ⟨⟨t163, t164⟩, A540, H⟩ := H
                replace H : (if x16_2.toList = ([] : List UInt8) then (if t164 = 0 then (if a1 < 0 then (some (x16_2.toList == ([] : List UInt8))) else (if a1 ≥ (t163.size : Int) then (some (x16_2.toList == ([] : List UInt8))) else (if a2 = 0 then (some (x16_2.toList == ([] : List UInt8))) else ((crc_Open.f k2 (Tools.turned t163 a1.toNat a2)).bind fun bt165 => (some (bt165.2 == 6)))))) else (some (x16_2.toList == ([] : List UInt8)))) else (some (x16_2.toList == ([] : List UInt8)))) = some r := H
                have A54 := Aside0.mk A540
                clear A540
                by_cases c55 : x16_2.toList = ([] : List UInt8)
                · rw [if_pos c55] at H
                  have c55b0 : (x16_2.toList == ([] : List UInt8)) = true := beq_iff_eq.mpr c55
                  have c55b1 : (x16_2.toList != ([] : List UInt8)) = false := bne_eq_false_iff_eq.mpr c55
                  clear c55
                  by_cases c56 : t164 = 0
                  · rw [if_pos c56] at H
                    have c56b0 : (t164 == 0) = true := beq_iff_eq.mpr c56
                    have c56b1 : (t164 != 0) = false := bne_eq_false_iff_eq.mpr c56
                    clear c56
                    by_cases c57 : a1 < 0
                    · rw [if_pos c57] at H
                      have c57b0 : decide (a1 < 0) = true := decide_eq_true c57
                      clear c57
                      obtain rfl := Option.some.inj H
                      go_wp2_with (first | (go_at_call 6; (with_reducible refine (crc_Sealed.calls k2 x7_1 t163 t164 _ A54.out).mono ?_); rintro e w58 ⟨rfl, hb⟩; have n0_ := Aside0.mk (below_step (by repeat (first | (with_reducible first | exact HB.out | apply below_alloc | apply pw_below_drewN | apply below_drew1) | exact HB.out)) hb); clear HB; have HB := n0_; clear n0_; (try clear hb); (try clear hb2); (try clear hk); (try clear hi)))
                      repeat (go_quiet (first | (go_at_call 6; (with_reducible refine (crc_Sealed.calls k2 x7_1 t163 t164 _ A54.out).mono ?_); rintro e w58 ⟨rfl, hb⟩; have n0_ := Aside0.mk (below_step (by repeat (first | (with_reducible first | exact HB.out | apply below_alloc | apply pw_below_drewN | apply below_drew1) | exact HB.out)) hb); clear HB; have HB := n0_; clear n0_; (try clear hb); (try clear hb2); (try clear hk); (try clear hi))); try go_wp2_with (first | (go_at_call 6; (with_reducible refine (crc_Sealed.calls k2 x7_1 t163 t164 _ A54.out).mono ?_); rintro e w58 ⟨rfl, hb⟩; have n0_ := Aside0.mk (below_step (by repeat (first | (with_reducible first | exact HB.out | apply below_alloc | apply pw_below_drewN | apply below_drew1) | exact HB.out)) hb); clear HB; have HB := n0_; clear n0_; (try clear hb); (try clear hb2); (try clear hk); (try clear hi))))
                      go_ret
                      exact ⟨by first | rfl | (simp [errW_none, errW_some] <;> rfl) | (simp [*, errW_none, errW_some] <;> rfl), by repeat (first | (with_reducible first | exact HB.out | apply below_alloc | apply pw_below_drewN | apply below_drew1) | exact HB.out)⟩
                    · rw [if_neg c57] at H
                      have c57b0 : decide (a1 < 0) = false := decide_eq_false c57
                      clear c57
                      by_cases c59 : a1 ≥ (t163.size : Int)
                      · rw [if_pos c59] at H
                        have c59b0 : decide ((t163.size : Int) ≤ a1) = true := decide_eq_true c59
                        clear c59
                        obtain rfl := Option.some.inj H
                        go_wp2_with (first | (go_at_call 6; (with_reducible refine (crc_Sealed.calls k2 x7_1 t163 t164 _ A54.out).mono ?_); rintro e w60 ⟨rfl, hb⟩; have n0_ := Aside0.mk (below_step (by repeat (first | (with_reducible first | exact HB.out | apply below_alloc | apply pw_below_drewN | apply below_drew1) | exact HB.out)) hb); clear HB; have HB := n0_; clear n0_; (try clear hb); (try clear hb2); (try clear hk); (try clear hi)))
                        repeat (go_quiet (first | (go_at_call 6; (with_reducible refine (crc_Sealed.calls k2 x7_1 t163 t164 _ A54.out).mono ?_); rintro e w60 ⟨rfl, hb⟩; have n0_ := Aside0.mk (below_step (by repeat (first | (with_reducible first | exact HB.out | apply below_alloc | apply pw_below_drewN | apply below_drew1) | exact HB.out)) hb); clear HB; have HB := n0_; clear n0_; (try clear hb); (try clear hb2); (try clear hk); (try clear hi))); try go_wp2_with (first | (go_at_call 6; (with_reducible refine (crc_Sealed.calls k2 x7_1 t163 t164 _ A54.out).mono ?_); rintro e w60 ⟨rfl, hb⟩; have n0_ := Aside0.mk (below_step (by repeat (first | (with_reducible first | exact HB.out | apply below_alloc | apply pw_below_drewN | apply below_drew1) | exact HB.out)) hb); clear HB; have HB := n0_; clear n0_; (try clear hb); (try clear hb2); (try clear hk); (try clear hi))))
                        go_ret
                        exact ⟨by first | rfl | (simp [errW_none, errW_some] <;> rfl) | (simp [*, errW_none, errW_some] <;> rfl), by repeat (first | (with_reducible first | exact HB.out | apply below_alloc | apply pw_below_drewN | apply below_drew1) | exact HB.out)⟩
                      · rw [if_neg c59] at H
                        have c59b0 : decide ((t163.size : Int) ≤ a1) = false := decide_eq_false c59
                        clear c59
                        by_cases c61 : a2 = 0
                        · rw [if_pos c61] at H
                          have c61b0 : (a2 == 0) = true := beq_iff_eq.mpr c61
                          have c61b1 : (a2 != 0) = false := bne_eq_false_iff_eq.mpr c61
                          clear c61
                          obtain rfl := Option.some.inj H
                          go_wp2_with (first | (go_at_call 6; (with_reducible refine (crc_Sealed.calls k2 x7_1 t163 t164 _ A54.out).mono ?_); rintro e w62 ⟨rfl, hb⟩; have n0_ := Aside0.mk (below_step (by repeat (first | (with_reducible first | exact HB.out | apply below_alloc | apply pw_below_drewN | apply below_drew1) | exact HB.out)) hb); clear HB; have HB := n0_; clear n0_; (try clear hb); (try clear hb2); (try clear hk); (try clear hi)))
                          repeat (go_quiet (first | (go_at_call 6; (with_reducible refine (crc_Sealed.calls k2 x7_1 t163 t164 _ A54.out).mono ?_); rintro e w62 ⟨rfl, hb⟩; have n0_ := Aside0.mk (below_step (by repeat (first | (with_reducible first | exact HB.out | apply below_alloc | apply pw_below_drewN | apply below_drew1) | exact HB.out)) hb); clear HB; have HB := n0_; clear n0_; (try clear hb); (try clear hb2); (try clear hk); (try clear hi))); try go_wp2_with (first | (go_at_call 6; (with_reducible refine (crc_Sealed.calls k2 x7_1 t163 t164 _ A54.out).mono ?_); rintro e w62 ⟨rfl, hb⟩; have n0_ := Aside0.mk (below_step (by repeat (first | (with_reducible first | exact HB.out | apply below_alloc | apply pw_below_drewN | apply below_drew1) | exact HB.out)) hb); clear HB; have HB := n0_; clear n0_; (try clear hb); (try clear hb2); (try clear hk); (try clear hi))))
                          go_ret
                          exact ⟨by first | rfl | (simp [errW_none, errW_some] <;> rfl) | (simp [*, errW_none, errW_some] <;> rfl), by repeat (first | (with_reducible first | exact HB.out | apply below_alloc | apply pw_below_drewN | apply below_drew1) | exact HB.out)⟩
                        · rw [if_neg c61] at H
                          have c61b0 : (a2 == 0) = false := beq_eq_false_iff_ne.mpr c61
                          have c61b1 : (a2 != 0) = true := bne_iff_ne.mpr c61
                          replace H := Option.bind_eq_some_iff.mp H
                          obtain ⟨⟨t165, t166⟩, A630, H⟩ := H
                          replace H : (some (t166 == 6)) = some r := H
                          obtain ⟨i_, hi_⟩ : ∃ i_ : Nat, a1 = i_ := ⟨a1.toNat, by have := of_decide_eq_false c57b0; omega⟩
                          subst hi_
                          have hz_ : i_ < t163.size := by have := of_decide_eq_false c59b0; omega
                          have g2_ : decide (t163.size ≤ i_) = false := decide_eq_false (by omega)
                          obtain ⟨T_, hT_⟩ : ∃ T_, Tools.turned t163 i_ a2 = T_ := ⟨_, rfl⟩
                          simp only [Int.toNat_natCast] at A630
                          rw [hT_] at A630
                          have HT_ := Aside0.mk hT_
                          clear hT_
                          have A63 := Aside0.mk A630
                          clear A630
                          obtain rfl := Option.some.inj H
                          go_wp2_with (first
                            | (go_at_call 6; (with_reducible refine (crc_Sealed.calls k2 x7_1 t163 t164 _ A54.out).mono ?_); rintro e w64 ⟨rfl, hb⟩; have n0_ := Aside0.mk (below_step (by repeat (first | (with_reducible first | exact HB.out | apply below_alloc | apply pw_below_drewN | apply below_drew1) | exact HB.out)) hb); clear HB; have HB := n0_; clear n0_; (try clear hb); obtain ⟨cap_, W2_, kc_, hcell_, hfr_, hbl_, hsz_⟩ := Tools.str_bytes (P := Try.prog) w64 9 34 5 t163 Try.underlying9 Try.underlying34 Try.underlying5; have hci_ := hcell_ i_ hz_; have hfi_ := hfr_ i_ hz_; have kb_ := Tools.bytes_back (P := Try.prog) 34 9 5 t163 cap_ i_ (Go.bits .xor .u8 (bt t163 (i_ : Int)) a2) Try.underlying34 Try.underlying5 Try.underlying9 hz_ hcell_; rw [show strOfNums ((Tools.nums8 t163).set i_ (Go.bits .xor .u8 (bt t163 (i_ : Int)) a2)) = T_ from HT_.out] at kb_; have HBM_ := Aside0.mk hbl_; clear hbl_ hsz_ hcell_ hfr_)
                            | (go_at_call 9; (with_reducible refine (crc_Open.calls k2 T_ t165 t166 _ A63.out).mono ?_); rintro e w' ⟨rfl, ⟨nd, rfl⟩⟩))
                          go_ret
                          exact ⟨rfl, by repeat (first | exact below_set (below_step HB.out HBM_.out) HB.out.size | apply pw_below_drewN | apply below_drew1)⟩
                  · rw [if_neg c56] at H
                    have c56b0 : (t164 == 0) = false := beq_eq_false_iff_ne.mpr c56
                    have c56b1 : (t164 != 0) = true := bne_iff_ne.mpr c56
                    obtain rfl := Option.some.inj H
                    go_wp2_with (first | (go_at_call 6; (with_reducible refine (crc_Sealed.calls k2 x7_1 t163 t164 _ A54.out).mono ?_); rintro e w65 ⟨rfl, hb⟩; have n0_ := Aside0.mk (below_step (by repeat (first | (with_reducible first | exact HB.out | apply below_alloc | apply pw_below_drewN | apply below_drew1) | exact HB.out)) hb); clear HB; have HB := n0_; clear n0_; (try clear hb); (try clear hb2); (try clear hk); (try clear hi)))
                    repeat (go_quiet (first | (go_at_call 6; (with_reducible refine (crc_Sealed.calls k2 x7_1 t163 t164 _ A54.out).mono ?_); rintro e w65 ⟨rfl, hb⟩; have n0_ := Aside0.mk (below_step (by repeat (first | (with_reducible first | exact HB.out | apply below_alloc | apply pw_below_drewN | apply below_drew1) | exact HB.out)) hb); clear HB; have HB := n0_; clear n0_; (try clear hb); (try clear hb2); (try clear hk); (try clear hi))); try go_wp2_with (first | (go_at_call 6; (with_reducible refine (crc_Sealed.calls k2 x7_1 t163 t164 _ A54.out).mono ?_); rintro e w65 ⟨rfl, hb⟩; have n0_ := Aside0.mk (below_step (by repeat (first | (with_reducible first | exact HB.out | apply below_alloc | apply pw_below_drewN | apply below_drew1) | exact HB.out)) hb); clear HB; have HB := n0_; clear n0_; (try clear hb); (try clear hb2); (try clear hk); (try clear hi))))
                    go_ret
                    exact ⟨by first | rfl | (simp [errW_none, errW_some] <;> rfl) | (simp [*, errW_none, errW_some] <;> rfl), by repeat (first | (with_reducible first | exact HB.out | apply below_alloc | apply pw_below_drewN | apply below_drew1) | exact HB.out)⟩
                · rw [if_neg c55] at H
                  have c55b0 : (x16_2.toList == ([] : List UInt8)) = false := beq_eq_false_iff_ne.mpr c55
                  have c55b1 : (x16_2.toList != ([] : List UInt8)) = true := bne_iff_ne.mpr c55
                  obtain rfl := Option.some.inj H
                  go_wp2_with (first | (go_at_call 6; (with_reducible refine (crc_Sealed.calls k2 x7_1 t163 t164 _ A54.out).mono ?_); rintro e w66 ⟨rfl, hb⟩; have n0_ := Aside0.mk (below_step (by repeat (first | (with_reducible first | exact HB.out | apply below_alloc | apply pw_below_drewN | apply below_drew1) | exact HB.out)) hb); clear HB; have HB := n0_; clear n0_; (try clear hb); (try clear hb2); (try clear hk); (try clear hi)))
                  repeat (go_quiet (first | (go_at_call 6; (with_reducible refine (crc_Sealed.calls k2 x7_1 t163 t164 _ A54.out).mono ?_); rintro e w66 ⟨rfl, hb⟩; have n0_ := Aside0.mk (below_step (by repeat (first | (with_reducible first | exact HB.out | apply below_alloc | apply pw_below_drewN | apply below_drew1) | exact HB.out)) hb); clear HB; have HB := n0_; clear n0_; (try clear hb); (try clear hb2); (try clear hk); (try clear hi))); try go_wp2_with (first | (go_at_call 6; (with_reducible refine (crc_Sealed.calls k2 x7_1 t163 t164 _ A54.out).mono ?_); rintro e w66 ⟨rfl, hb⟩; have n0_ := Aside0.mk (below_step (by repeat (first | (with_reducible first | exact HB.out | apply below_alloc | apply pw_below_drewN | apply below_drew1) | exact HB.out)) hb); clear HB; have HB := n0_; clear n0_; (try clear hb); (try clear hb2); (try clear hk); (try clear hi))))
                  go_ret
                  exact ⟨by first | rfl | (simp [errW_none, errW_some] <;> rfl) | (simp [*, errW_none, errW_some] <;> rfl), by repeat (first | (with_reducible first | exact HB.out | apply below_alloc | apply pw_below_drewN | apply below_drew1) | exact HB.out)⟩
  · replace c5 := Bool.eq_false_iff.mpr c5
    subst c5
    have H1 : (none) = some r := by rw [if_neg (show ¬ (false = true) by decide)] at H; exact H
    clear H
    have H := H1
    clear H1
    exact absurd H (by simp)
def spoortop_TopSealed.Pure : Prop := ∀ (l0 : List (List Int)) (a1 : Int) (a2 : Int), (l0.length * 24 ≤ 140737488351232 ∧ ∀ y_ ∈ l0, y_.length * 8 ≤ 140737488351232 ∧ ∀ y__ ∈ y_, (Lit.int .u64 y__).wf = true) → ((Lit.int .i64 a1).wf = true) → ((Lit.int .u8 a2).wf = true) → ∃ k, spoortop_TopSealed.f k l0 a1 a2 = some true
theorem spoortop_TopSealed.walk (P : spoortop_TopSealed.Pure) (A0 : Option Addr) (c0 : Nat) (l0 : List (List Int)) (a1 : Int) (a2 : Int) (w : World) (g0 : l0.length * 24 ≤ 140737488351232 ∧ ∀ y_ ∈ l0, y_.length * 8 ≤ 140737488351232 ∧ ∀ y__ ∈ y_, (Lit.int .u64 y__).wf = true) (g1 : (Lit.int .i64 a1).wf = true) (g2 : (Lit.int .u8 a2).wf = true) (hr0 : Kd.C (Kd.slice 33 (Kd.int .u64)) w A0 l0.length l0) (hc0 : l0.length ≤ c0) :
    Calls Try.prog 3 #[.slice A0 l0.length c0, .int .i64 a1, .int .u8 a2] w fun e w' => e = .returned (.bool true) ∧ Below w.heap.size w w' := by
  obtain ⟨k, h⟩ := P l0 a1 a2 g0 g1 g2
  refine (spoortop_TopSealed.calls k A0 c0 l0 a1 a2 true w hr0 hc0 h).mono ?_
  rintro e w' ⟨rfl, hd⟩
  exact ⟨rfl, hd⟩
end Go.Proofs.Ytgpkbehodmcbgaa.P
