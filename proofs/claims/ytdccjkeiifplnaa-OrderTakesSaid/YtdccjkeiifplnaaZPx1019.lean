-- kept, by a program of this session, of a text that the printer or this session wrote
import Derived.Test.YtdccjkeiifplnaaZPx0
import Derived.Deep.RegionWith
import Derived.LoopIn
import Derived.LoopNIn
import Derived.Maps.AppendAt
import Derived.OwnWalkIn
import Derived.RangeFuncBound
import Derived.RangeFuncBox
import Derived.RangeFuncCalls
import Derived.RangeFuncLeaves
import Derived.RangeFuncNested
import Derived.Shelf.Abstract
import Derived.Sort.LoopGhostIn
import Derived.TacticsInMore
import Derived.WalkSpells
namespace Go.Proofs.Ytdccjkeiifplnaa.P
open Go.RowKit Go.Proofs.YtdccjkeiifplnaaW.PrintWords Go.Proofs.YtdccjkeiifplnaaW.PrintLast Go.Proofs.YtdccjkeiifplnaaW.PrintMore
attribute [local go_sem] max2_int min2_int max_two min_two max_three min_three max_four min_four
set_option linter.unusedVariables false
set_option linter.unusedSimpArgs false
set_option maxHeartbeats 4000000 in
theorem Clone_Seat (A0 : Option Addr) (c0 : Nat) (l0 : List S38) (w : World) (hr : Kd.C k38 w A0 l0.length l0) (hc : l0.length ≤ c0) (hl : l0.length < 4398046511104) :
 Calls Try.prog 19 #[.slice A0 l0.length c0] w fun e w' => ∃ v0 : Value, e = .returned v0 ∧ Kd.R k38 38 w' w.heap.size (fun _ => True) v0 l0 ∧ Below w.heap.size w w' := by
 have HR := Aside0.mk hr
 have HL := Aside0.mk hl
 clear hr hl
 cases A0 with
 | none =>
  have hl0 : l0 = [] := by
   cases l0 with
   | nil => rfl
   | cons x l =>
    obtain ⟨ad, e, _⟩ := at_T38 HR.out 0 (by omega) (by simp)
    cases e
  subst hl0
  have ke := Lib.run_eql_slice_nil (P := Try.prog) w 22 38 none 0 c0 0 0 Try.underlying22
  go_enter Try.func19, Try.ntmps19
  go_wp2
  go_ret
  exact ⟨_, rfl, Kd.R_nil _ _ _ _ _, Below.refl _ _⟩
 | some ad =>
  have ke := Lib.run_eql_slice_nil (P := Try.prog) w 22 38 (some ad) l0.length c0 0 0 Try.underlying22
  go_enter Try.func19, Try.ntmps19
  go_wp2_with (first
   | ((with_reducible refine gate_dst (N := 5) rfl ?_); refine Kd.R_lit k38 _ 38 ?hg (N := 5) ?hd (xs := ([] : List S38)) (inner := []) (ok := fun _ => True) (okp := fun _ => True) ?hr ?hp (fun _ hk => hk) trivial (Below.refl _ _) (Nat.le_refl _) (by simp) ?_; (case hd => rfl); (case hg => rfl); (case hr => first | (go_simp; done) | (go_simp; rfl)); (case hp => exact (Reps.none _ _)); intro v5 w5 ho5 hb hg_ hnew_; clear hg_ hnew_; have HO5 := Aside0.mk ho5; have HB := Aside0.mk hb; clear ho5 hb)
   | ((with_reducible refine gate_builtin (b := .append) (xs := #[.tmp 5, .tmp 6]) rfl ?_); at_builtin; refine Kd.R_append_rows k38 (w0 := w) w.heap.size rfl (.tmp 5) (.tmp 6) 22 38 (.agg #[.int .i64 0, .int .u64 0, .int .i64 0, .bool false]) 32 rfl Try.underlying22 info38 rfl (by decide) (by omega) v5 [] l0 _ _ _ (fun _ => True) (fun _ => False) rfl rfl HO5.out (Kd.C_below HR.out HB.out) (fun _ _ h => by obtain rfl := k38_open h; exact k38_mkM _ _ _ _) (fun _ h => h.elim) (fun _ _ => trivial) HB.out HB.out.size (by have := HL.out; simp; omega) ?_; intro v7 w7 ho hb7 hg hat; have HO7 := Aside0.mk ho; have HB7 := Aside0.mk hb7; clear ho hb7 hg hat))
  go_ret
  exact ⟨_, rfl, HO7.out, HB7.out⟩
def api_Seat_19.f (l0 : List (S38)) : Option (List (S38)) := if l0.length < 4398046511104 then some l0 else none
theorem api_Seat_19.calls (A0 : Option Addr) (c0 : Nat) (l0 : List (S38)) (r : List (S38)) (w : World) (hr0 : Kd.C k38 w A0 l0.length l0) (hc0 : l0.length ≤ c0) (h : api_Seat_19.f l0 = some r) :
 Calls Try.prog 19 #[.slice A0 l0.length c0] w fun e w' => ∃ v0_ : Value, e = .returned (v0_) ∧ Kd.R k38 38 w' w.heap.size (fun _ => True) v0_ r ∧ Below w.heap.size w w' := by
 unfold api_Seat_19.f at h
 by_cases c : l0.length < 4398046511104
 · rw [if_pos c] at h
   obtain rfl := Option.some.inj h
   exact Clone_Seat A0 c0 l0 w hr0 hc0 c
 · rw [if_neg c] at h
   exact absurd h (by simp)
end Go.Proofs.Ytdccjkeiifplnaa.P
