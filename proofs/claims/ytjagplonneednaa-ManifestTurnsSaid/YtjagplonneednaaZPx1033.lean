-- kept, by a program of this session, of a text that the printer or this session wrote
import Derived.Test.YtjagplonneednaaZPx0
import Derived.Test.YtjagplonneednaaZPx1043
import Derived.Deep.RegionWith
import Derived.LoopIn
import Derived.LoopNIn
import Derived.Maps.AppendAt
import Derived.OwnWalkIn
import Derived.RangeFuncBound
import Derived.RangeFuncBox
import Derived.RangeFuncCalls
import Derived.RangeFuncLeaves
import Derived.RangeFuncNested
import Derived.Shelf.Abstract
import Derived.Sort.LoopGhostIn
import Derived.TacticsInMore
import Derived.WalkSpells
namespace Go.Proofs.Ytjagplonneednaa.P
open Go.RowKit Go.Proofs.YtjagplonneednaaW.PrintWords Go.Proofs.YtjagplonneednaaW.PrintLast Go.Proofs.YtjagplonneednaaW.PrintMore
attribute [local go_sem] max2_int min2_int max_two min_two max_three min_three max_four min_four
set_option linter.unusedVariables false
set_option linter.unusedSimpArgs false
section
def idxF {α : Type} (p : α → Bool) (l : List α) : Int := match l.findIdx? p with | some i => (i : Int) | none => -1
theorem idxF_any {α : Type} (p : α → Bool) (l : List α) : decide (idxF p l ≥ 0) = l.any p := by
 unfold idxF
 cases h : l.findIdx? p with
 | some i =>
  have : l.any p = true := by
   rw [List.any_eq_true]
   have := List.findIdx?_eq_some_iff_getElem.mp h
   obtain ⟨hi, hp, _⟩ := this
   exact ⟨l[i], List.getElem_mem hi, hp⟩
  rw [this]
  simp
 | none =>
  have : l.any p = false := by
   rw [List.any_eq_false]
   intro x hx
   have := List.findIdx?_eq_none_iff.mp h x hx
   simp [this]
  rw [this]
  rfl
theorem idxF_hit {α : Type} (p : α → Bool) (l : List α) (i : Nat) (hi : i < l.length) (hp : p l[i] = true) (hb : ∀ j, (h : j < l.length) → j < i → p l[j] = false) : idxF p l = i := by
 unfold idxF
 have : l.findIdx? p = some i := by
  rw [List.findIdx?_eq_some_iff_getElem]
  exact ⟨hi, hp, fun j hj => by rw [hb j (by omega) hj]; simp⟩
 rw [this]
theorem idxF_miss {α : Type} (p : α → Bool) (l : List α) (hb : ∀ j, (h : j < l.length) → p l[j] = false) : idxF p l = -1 := by
 unfold idxF
 have : l.findIdx? p = none := by
  rw [List.findIdx?_eq_none_iff]
  intro x hx
  obtain ⟨j, hj, rfl⟩ := List.getElem_of_mem hx
  exact hb j hj
 rw [this]
theorem rdOf_at {α : Type} (d : α) (l : List α) (i : Nat) (h : i < l.length) : rdOf d l (i : Int) = l[i] := by
 unfold rdOf
 rw [Int.toNat_natCast, List.getD_eq_getElem?_getD, List.getElem?_eq_getElem h]
 rfl
set_option maxHeartbeats 4000000 in
theorem IndexFunc_string (A0 : Option Addr) (c0 : Nat) (l0 : List ByteArray) (p : ByteArray → Bool) (g : Nat) (lb : Array Value) (eg : ∀ args w, (callFunc g args).run Try.prog w = .ok (.enter g args) w) (w : World)
 (hp : ∀ (W : World) x, Below w.heap.size w W → Calls Try.prog g (#[.string x] ++ lb) W fun e w' => e = .returned (.bool (p x)) ∧ Below w.heap.size w w')
 (hr : Kd.C Kd.string w A0 l0.length l0) (hn : l0.length ≤ 9223372036854775806) :
 Calls Try.prog 61 #[.slice A0 l0.length c0, .func (.func g) #[] lb] w fun e w' => e = .returned (.int .i64 (idxF p l0)) ∧ Below w.heap.size w w' := by
 have HR := Aside0.mk hr
 have HP := Aside0.mk hp
 clear hr hp
 go_enter Try.func61, Try.ntmps61
 go_wp2
 go_loopg [5, 8] l0.length (fun gg _ s8 wr => ∃ kk : Nat, kk ≤ l0.length ∧ l0.length - kk ≤ gg ∧ s8 = .int .i64 kk ∧ Aside0 (Below w.heap.size w wr) ∧ Aside0 (∀ j, (h : j < l0.length) → j < kk → p l0[j] = false))
 case atStart => exact ⟨0, Nat.zero_le _, by omega, rfl, ⟨Below.refl _ w⟩, ⟨fun j _ hj => absurd hj (Nat.not_lt_zero _)⟩⟩
 case round =>
  obtain ⟨kk, hkk, hg, rfl, BW, A⟩ := hrel
  by_cases hlt : kk < l0.length
  · have hltz : (kk : Int) < (l0.length : Int) := by omega
    obtain ⟨ad, rfl, hx⟩ := Kd.at_string (Kd.C_below HR.out BW.out) (kk : Int) (by omega) (by omega)
    have hcall := HP.out wr l0[kk] BW.out
    rw [rdOf_at _ _ _ hlt] at hx
    rw [Int.toNat_natCast] at hx
    generalize hy : l0[kk] = y at hx hcall
    have Y := Aside0.mk hy
    clear hy
    cases hq : p y with
    | true =>
     rw [hq] at hcall
     go_wp2_with (go_at_fn g; refine hcall.mono ?_; rintro e w' ⟨rfl, hb'⟩)
     go_ret
     refine ⟨?_, hb'⟩
     rw [idxF_hit p l0 kk hlt (by rw [Y.out]; exact hq) (fun j h hj => A.out j h hj)]
     rfl
    | false =>
     rw [hq] at hcall
     go_wp2_with (go_at_fn g; refine hcall.mono ?_; rintro e w' ⟨rfl, hb'⟩)
     go_roundg (l0.length - (kk + 1))
     case measure => omega
     case rel =>
      refine ⟨kk + 1, by omega, by omega, by go_num, ⟨hb'⟩, ⟨fun j h hj => ?_⟩⟩
      by_cases e : j = kk
      · subst e
        rw [Y.out]; exact hq
      · exact A.out j h (by omega)
  · have hltz : ¬ (kk : Int) < (l0.length : Int) := by omega
    obtain rfl : kk = l0.length := by omega
    go_wp2
    go_ret
    refine ⟨?_, BW.out⟩
    rw [idxF_miss p l0 (fun j h => A.out j h h)]
    rfl
set_option maxHeartbeats 4000000 in
theorem ContainsFunc_string (A0 : Option Addr) (c0 : Nat) (l0 : List ByteArray) (p : ByteArray → Bool) (g : Nat) (lb : Array Value) (eg : ∀ args w, (callFunc g args).run Try.prog w = .ok (.enter g args) w) (w : World)
 (hp : ∀ (W : World) x, Below w.heap.size w W → Calls Try.prog g (#[.string x] ++ lb) W fun e w' => e = .returned (.bool (p x)) ∧ Below w.heap.size w w')
 (hr : Kd.C Kd.string w A0 l0.length l0) (hn : l0.length ≤ 9223372036854775806) :
 Calls Try.prog 49 #[.slice A0 l0.length c0, .func (.func g) #[] lb] w fun e w' => e = .returned (.bool (l0.any p)) ∧ Below w.heap.size w w' := by
 have HA := Aside0.mk (idxF_any p l0)
 go_enter Try.func49, Try.ntmps49
 go_wp2_with (go_at_call 61; refine (IndexFunc_string A0 c0 l0 p g lb eg w hp hr hn).mono ?_; rintro e w' ⟨rfl, hb'⟩)
 go_ret
 exact ⟨by rw [← HA.out]; rfl, hb'⟩
set_option maxHeartbeats 4000000 in
theorem IndexFunc_S40 (A0 : Option Addr) (c0 : Nat) (l0 : List S74) (p : S74 → Bool) (g : Nat) (lb : Array Value) (eg : ∀ args w, (callFunc g args).run Try.prog w = .ok (.enter g args) w) (w : World)
 (hp : ∀ (W : World) x, Below w.heap.size w W → Calls Try.prog g (#[.agg #[.int .i64 x.f0, .string x.f1]] ++ lb) W fun e w' => e = .returned (.bool (p x)) ∧ Below w.heap.size w w')
 (hr : Kd.C k74 w A0 l0.length l0) (hn : l0.length ≤ 9223372036854775806) :
 Calls Try.prog 62 #[.slice A0 l0.length c0, .func (.func g) #[] lb] w fun e w' => e = .returned (.int .i64 (idxF p l0)) ∧ Below w.heap.size w w' := by
 have HR := Aside0.mk hr
 have HP := Aside0.mk hp
 clear hr hp
 go_enter Try.func62, Try.ntmps62
 go_wp2
 go_loopg [5, 8] l0.length (fun gg _ s8 wr => ∃ kk : Nat, kk ≤ l0.length ∧ l0.length - kk ≤ gg ∧ s8 = .int .i64 kk ∧ Aside0 (Below w.heap.size w wr) ∧ Aside0 (∀ j, (h : j < l0.length) → j < kk → p l0[j] = false))
 case atStart => exact ⟨0, Nat.zero_le _, by omega, rfl, ⟨Below.refl _ w⟩, ⟨fun j _ hj => absurd hj (Nat.not_lt_zero _)⟩⟩
 case round =>
  obtain ⟨kk, hkk, hg, rfl, BW, A⟩ := hrel
  by_cases hlt : kk < l0.length
  · have hltz : (kk : Int) < (l0.length : Int) := by omega
    obtain ⟨ad, rfl, hx, hx1⟩ := at_T74 (Kd.C_below HR.out BW.out) (kk : Int) (by omega) (by omega)
    have hcall := HP.out wr l0[kk] BW.out
    have hrd : rd_T74 l0 (kk : Int) = l0[kk] := rdOf_at z74 l0 kk hlt
    rw [hrd, Int.toNat_natCast] at hx hx1
    generalize hy : l0[kk] = y at hx hx1 hcall
    have Y := Aside0.mk hy
    clear hy
    cases hq : p y with
    | true =>
     rw [hq] at hcall
     go_wp2_with (go_at_fn g; refine hcall.mono ?_; rintro e w' ⟨rfl, hb'⟩)
     go_ret
     refine ⟨?_, hb'⟩
     rw [idxF_hit p l0 kk hlt (by rw [Y.out]; exact hq) (fun j h hj => A.out j h hj)]
     rfl
    | false =>
     rw [hq] at hcall
     go_wp2_with (go_at_fn g; refine hcall.mono ?_; rintro e w' ⟨rfl, hb'⟩)
     go_roundg (l0.length - (kk + 1))
     case measure => omega
     case rel =>
      refine ⟨kk + 1, by omega, by omega, by go_num, ⟨hb'⟩, ⟨fun j h hj => ?_⟩⟩
      by_cases e : j = kk
      · subst e
        rw [Y.out]; exact hq
      · exact A.out j h (by omega)
  · have hltz : ¬ (kk : Int) < (l0.length : Int) := by omega
    obtain rfl : kk = l0.length := by omega
    go_wp2
    go_ret
    refine ⟨?_, BW.out⟩
    rw [idxF_miss p l0 (fun j h => A.out j h h)]
    rfl
set_option maxHeartbeats 4000000 in
theorem ContainsFunc_S40 (A0 : Option Addr) (c0 : Nat) (l0 : List S74) (p : S74 → Bool) (g : Nat) (lb : Array Value) (eg : ∀ args w, (callFunc g args).run Try.prog w = .ok (.enter g args) w) (w : World)
 (hp : ∀ (W : World) x, Below w.heap.size w W → Calls Try.prog g (#[.agg #[.int .i64 x.f0, .string x.f1]] ++ lb) W fun e w' => e = .returned (.bool (p x)) ∧ Below w.heap.size w w')
 (hr : Kd.C k74 w A0 l0.length l0) (hn : l0.length ≤ 9223372036854775806) :
 Calls Try.prog 50 #[.slice A0 l0.length c0, .func (.func g) #[] lb] w fun e w' => e = .returned (.bool (l0.any p)) ∧ Below w.heap.size w w' := by
 have HA := Aside0.mk (idxF_any p l0)
 go_enter Try.func50, Try.ntmps50
 go_wp2_with (go_at_call 62; refine (IndexFunc_S40 A0 c0 l0 p g lb eg w hp hr hn).mono ?_; rintro e w' ⟨rfl, hb'⟩)
 go_ret
 exact ⟨by rw [← HA.out]; rfl, hb'⟩
theorem odd_calls (x : ByteArray) (W : World) : Calls Try.prog 48 #[.string x] W fun e w' => e = .returned (.bool ((x.size : Int) != 128)) ∧ Below W.heap.size W w' := by
 by_cases h : (x.size : Int) = 128
 all_goals
  first | have d1 : ((x.size : Int) != 128) = false := bne_eq_false_iff_eq.mpr h | have d1 : ((x.size : Int) != 128) = true := bne_iff_ne.mpr h
  first | have d2 : ((x.size : Int) == 128) = true := beq_iff_eq.mpr h | have d2 : ((x.size : Int) == 128) = false := beq_eq_false_iff_ne.mpr h
  first | have d3 : (x.size == 128) = true := beq_iff_eq.mpr (by omega) | have d3 : (x.size == 128) = false := beq_eq_false_iff_ne.mpr (by omega)
  clear h
  go_enter Try.func48, Try.ntmps48
  go_wp2
  go_ret
  exact ⟨by simp_all, Below.refl _ _⟩
def hasF (n : Nat) (at_ : Int) : Bool := decide (0 ≤ at_) && decide (at_ < (n : Int))
def badF (n : Nat) (p : S74) : Bool := !(hasF n p.f0) || (p.f1.size : Int) != 128
set_option maxHeartbeats 4000000 in
theorem has_calls (v0 v1 : Value) (A0 : Option Addr) (c0 n : Nat) (f : Int) (o : Bool) (at_ : Int) (W : World) : Calls Try.prog 46 #[.agg #[.slice A0 n c0, v1, .int .i64 f, .bool o], .int .i64 at_] W fun e w' => e = .returned (.bool (hasF n at_)) ∧ Below W.heap.size W w' := by
 by_cases h : 0 ≤ at_ <;> by_cases h2 : at_ < (n : Int)
 all_goals
  first | have d1 : decide (0 ≤ at_) = true := decide_eq_true h | have d1 : decide (0 ≤ at_) = false := decide_eq_false h
  first | have d2 : decide (at_ < (n : Int)) = true := decide_eq_true h2 | have d2 : decide (at_ < (n : Int)) = false := decide_eq_false h2
  have d3 : hasF n at_ = (decide (0 ≤ at_) && decide (at_ < (n : Int))) := rfl
  rw [d1, d2] at d3
  have D := Aside0.mk d3
  clear h h2 d3
  go_enter Try.func46, Try.ntmps46
  go_wp2
  go_ret
  exact ⟨by rw [D.out]; rfl, below_alloc (Below.refl _ _) _⟩
theorem cells25_ {W : World} {gb : Nat} {a b c d : Value} (hb : W.heap[gb]? = some (.cells #[a, b, c, d] 38 (0, 0))) : W.cell? ⟨gb, 0, none⟩ = some a ∧ W.cell? ⟨gb, 1, none⟩ = some b ∧ W.cell? ⟨gb, 2, none⟩ = some c ∧ W.cell? ⟨gb, 3, none⟩ = some d := ⟨(blk_cell hb 0).trans rfl, (blk_cell hb 1).trans rfl, (blk_cell hb 2).trans rfl, (blk_cell hb 3).trans rfl⟩
theorem k40c {W : World} {gb : Nat} {a b : Value} (hb : W.heap[gb]? = some (.cells #[a, b] 74 (0, 0))) : W.cell? ⟨gb, 0, none⟩ = some a ∧ W.cell? ⟨gb, 1, none⟩ = some b := ⟨(blk_cell hb 0).trans rfl, (blk_cell hb 1).trans rfl⟩
set_option maxHeartbeats 4000000 in
theorem bad_calls (A0 A1 : Option Addr) (c0 c1 n m : Nat) (f : Int) (o : Bool) (gb go : Nat) (x : S74) (W : World)
 (hb : W.heap[gb]? = some (.cells #[.slice A0 n c0, .slice A1 m c1, .int .i64 f, .bool o] 38 (0, 0))) (ho : W.heap[go]? = some (.cells #[.func (.func 48) #[] #[]] 87 (0, 0))) :
 Calls Try.prog 51 #[.agg #[.int .i64 x.f0, .string x.f1], .pointer (some ⟨gb, 0, none⟩), .pointer (some ⟨go, 0, none⟩)] W fun e w' => e = .returned (.bool (badF n x)) ∧ Below W.heap.size W w' := by
 have BK := Aside0.mk hb
 have BO := Aside0.mk ho
 clear hb ho
 cases hh : hasF n x.f0
 all_goals
  first | have D := Aside0.mk (show badF n x = true by unfold badF; rw [hh]; rfl) | have D := Aside0.mk (show badF n x = ((x.f1.size : Int) != 128) by unfold badF; rw [hh]; rfl)
  go_enter Try.func51, Try.ntmps51
  go_wp2_with (first
   | ((with_reducible refine gate_dst (N := 3) rfl ?_); refine box_event ?hg (N := 3) ?hd (cs := #[.int .i64 x.f0, .string x.f1]) (t := 74) ?hr ?_; (case hd => rfl); (case hg => rfl); (case hr => first | (go_simp; done) | (go_simp; rfl)); intro gx hg w3 hbox hb3; obtain ⟨h0, h1, h2, h3⟩ := cells25_ (blk_below BK.out hb3); obtain ⟨x0, x1⟩ := k40c hbox; have HX := Aside0.mk hbox; have HB := Aside0.mk (Below.trans (Below.refl _ _) hb3); have h4 : w3.cell? ⟨go, 0, none⟩ = some (.func (.func 48) #[] #[]) := (blk_cell (blk_below BO.out hb3) 0).trans rfl; clear hg hbox hb3)
   | (go_at_call 46; refine (has_calls .nilIface _ A0 c0 n f o x.f0 _).mono ?_; rintro e w1 ⟨rfl, hb1⟩; rw [hh]; have k4 : w1.cell? ⟨go, 0, none⟩ = some (.func (.func 48) #[] #[]) := (hb1.cell (p := ⟨go, 0, none⟩) (by first | exact lt_of_cell h4 | exact blk_lt (blk_below BO.out HB.out))).trans h4; obtain ⟨y0, y1⟩ := k40c (blk_below HX.out hb1); have HB1 := Aside0.mk hb1; clear hb1)
   | (go_at_call 48; refine (odd_calls x.f1 _).mono ?_; rintro e w2 ⟨rfl, hb2⟩; have HB2 := Aside0.mk hb2; clear hb2))
  go_ret
  refine ⟨by rw [D.out]; rfl, ?_⟩
  first | exact below_step (below_step HB.out HB1.out) HB2.out | exact below_step HB.out HB1.out
@[local go_sem] theorem run_store_func {P : Program} {w : World} {a : Addr} {m : Mode} (f : Fn) (t lb : Array Value) : (store a (.func f t lb) m).run P w = stored P w a (.func f t lb) m := run_store P w a _ m rfl
def wideF (S : List ByteArray) (C : List S74) (f : Int) : Bool := decide ((S.length : Int) = 0) || decide ((S.length : Int) > 1024) || decide ((C.length : Int) > 4096) || decide (f < -1)
def checkF (S : List ByteArray) (C : List S74) (f : Int) : Int := if wideF S C f = true then 2 else if S.any (fun s => (s.size : Int) != 128) = true then 2 else if C.any (badF S.length) = true then 2 else 0
theorem enters32 : ∀ args w, (callFunc 48 args).run Try.prog w = .ok (.enter 48 args) w := enters_of Try.func48 (by kernel_rfl) rfl
theorem enters35 : ∀ args w, (callFunc 51 args).run Try.prog w = .ok (.enter 51 args) w := enters_of Try.func51 (by kernel_rfl) rfl
set_option maxHeartbeats 8000000 in
theorem disk_Check_early (A0 A1 : Option Addr) (c0 c1 : Nat) (S : List ByteArray) (C : List S74) (f : Int) (o : Bool) (w : World) (h : wideF S C f = true) :
 Calls Try.prog 33 #[.agg #[.slice A0 S.length c0, .slice A1 C.length c1, .int .i64 f, .bool o]] w fun e w' => e = .returned (.int .i64 2) ∧ Below w.heap.size w w' := by
 unfold wideF at h
 by_cases q1 : (S.length : Int) = 0
 · have d1 : ((S.length : Int) == 0) = true := beq_iff_eq.mpr q1
   have d1' : (S.length == 0) = true := beq_iff_eq.mpr (by omega)
   have d0' : S.length = 0 := by omega
   clear q1 h
   go_enter Try.func33, Try.ntmps33
   go_wp2_with (first
    | ((with_reducible refine gate_dst (N := 1) rfl ?_); refine box_event ?hg (N := 1) ?hd (cs := #[.slice A0 S.length c0, .slice A1 C.length c1, .int .i64 f, .bool o]) (t := 38) ?hr ?_; (case hd => rfl); (case hg => rfl); (case hr => first | (go_simp; done) | (go_simp; rfl)); intro gx hg w3 hbox hb3; obtain ⟨h0, h1, h2, h3⟩ := cells25_ hbox; obtain ⟨g0, g1, g2, g3⟩ := cells25_ (blk_alloc hbox (.cells #[.func (.func 48) #[] #[]] 87)); have HX := Aside0.mk hbox; have HB := Aside0.mk (Below.trans (Below.refl _ _) hb3); clear hg hbox hb3))
   go_ret
   exact ⟨rfl, below_alloc HB.out _⟩
 · have d1 : ((S.length : Int) == 0) = false := beq_eq_false_iff_ne.mpr q1
   have d1' : (S.length == 0) = false := beq_eq_false_iff_ne.mpr (by omega)
   by_cases q2 : (S.length : Int) > 1024
   · have d2 : decide (1024 < (S.length : Int)) = true := decide_eq_true q2
     have d2' : decide (1024 < S.length) = true := decide_eq_true (by omega)
     clear q1 q2 h
     go_enter Try.func33, Try.ntmps33
     go_wp2_with (first
      | ((with_reducible refine gate_dst (N := 1) rfl ?_); refine box_event ?hg (N := 1) ?hd (cs := #[.slice A0 S.length c0, .slice A1 C.length c1, .int .i64 f, .bool o]) (t := 38) ?hr ?_; (case hd => rfl); (case hg => rfl); (case hr => first | (go_simp; done) | (go_simp; rfl)); intro gx hg w3 hbox hb3; obtain ⟨h0, h1, h2, h3⟩ := cells25_ hbox; obtain ⟨g0, g1, g2, g3⟩ := cells25_ (blk_alloc hbox (.cells #[.func (.func 48) #[] #[]] 87)); have HX := Aside0.mk hbox; have HB := Aside0.mk (Below.trans (Below.refl _ _) hb3); clear hg hbox hb3))
     go_ret
     exact ⟨rfl, below_alloc HB.out _⟩
   · have d2 : decide (1024 < (S.length : Int)) = false := decide_eq_false q2
     have d2' : decide (1024 < S.length) = false := decide_eq_false (by omega)
     by_cases q3 : (C.length : Int) > 4096
     · have d3 : decide (4096 < (C.length : Int)) = true := decide_eq_true q3
       have d3' : decide (4096 < C.length) = true := decide_eq_true (by omega)
       clear q1 q2 q3 h
       go_enter Try.func33, Try.ntmps33
       go_wp2_with (first
        | ((with_reducible refine gate_dst (N := 1) rfl ?_); refine box_event ?hg (N := 1) ?hd (cs := #[.slice A0 S.length c0, .slice A1 C.length c1, .int .i64 f, .bool o]) (t := 38) ?hr ?_; (case hd => rfl); (case hg => rfl); (case hr => first | (go_simp; done) | (go_simp; rfl)); intro gx hg w3 hbox hb3; obtain ⟨h0, h1, h2, h3⟩ := cells25_ hbox; obtain ⟨g0, g1, g2, g3⟩ := cells25_ (blk_alloc hbox (.cells #[.func (.func 48) #[] #[]] 87)); have HX := Aside0.mk hbox; have HB := Aside0.mk (Below.trans (Below.refl _ _) hb3); clear hg hbox hb3))
       go_ret
       exact ⟨rfl, below_alloc HB.out _⟩
     · have d3 : decide (4096 < (C.length : Int)) = false := decide_eq_false q3
       have d3' : decide (4096 < C.length) = false := decide_eq_false (by omega)
       have d4 : decide (f < -1) = true := by
        rw [decide_eq_false q1, decide_eq_false q2, decide_eq_false q3] at h
        exact h
       clear q1 q2 q3 h
       go_enter Try.func33, Try.ntmps33
       go_wp2_with (first
        | ((with_reducible refine gate_dst (N := 1) rfl ?_); refine box_event ?hg (N := 1) ?hd (cs := #[.slice A0 S.length c0, .slice A1 C.length c1, .int .i64 f, .bool o]) (t := 38) ?hr ?_; (case hd => rfl); (case hg => rfl); (case hr => first | (go_simp; done) | (go_simp; rfl)); intro gx hg w3 hbox hb3; obtain ⟨h0, h1, h2, h3⟩ := cells25_ hbox; obtain ⟨g0, g1, g2, g3⟩ := cells25_ (blk_alloc hbox (.cells #[.func (.func 48) #[] #[]] 87)); have HX := Aside0.mk hbox; have HB := Aside0.mk (Below.trans (Below.refl _ _) hb3); clear hg hbox hb3))
       go_ret
       exact ⟨rfl, below_alloc HB.out _⟩
set_option maxHeartbeats 8000000 in
theorem disk_Check_late (A0 A1 : Option Addr) (c0 c1 : Nat) (S : List ByteArray) (C : List S74) (f : Int) (o : Bool) (w : World) (h : wideF S C f = false) (hr0 : Kd.C Kd.string w A0 S.length S) (hr1 : Kd.C k74 w A1 C.length C) :
 Calls Try.prog 33 #[.agg #[.slice A0 S.length c0, .slice A1 C.length c1, .int .i64 f, .bool o]] w fun e w' => e = .returned (.int .i64 (if S.any (fun s => (s.size : Int) != 128) = true then 2 else if C.any (badF S.length) = true then 2 else 0)) ∧ Below w.heap.size w w' := by
 have R0 := Aside0.mk hr0
 have R1 := Aside0.mk hr1
 clear hr0 hr1
 unfold wideF at h
 simp only [Bool.or_eq_false_iff, decide_eq_false_iff_not] at h
 obtain ⟨⟨⟨q1, q2⟩, q3⟩, q4⟩ := h
 have d1 : ((S.length : Int) == 0) = false := beq_eq_false_iff_ne.mpr q1
 have d1' : (S.length == 0) = false := beq_eq_false_iff_ne.mpr (by omega)
 have d2 : decide (1024 < (S.length : Int)) = false := decide_eq_false q2
 have d2' : decide (1024 < S.length) = false := decide_eq_false (by omega)
 have d3 : decide (4096 < (C.length : Int)) = false := decide_eq_false q3
 have d3' : decide (4096 < C.length) = false := decide_eq_false (by omega)
 have d4 : decide (f < -1) = false := decide_eq_false q4
 have L1 := Aside0.mk (show S.length ≤ 9223372036854775806 by omega)
 have L2 := Aside0.mk (show C.length ≤ 9223372036854775806 by omega)
 clear q1 q2 q3 q4
 cases hs : S.any (fun s => (s.size : Int) != 128) <;> cases hc : C.any (badF S.length)
 all_goals
  have HS := Aside0.mk hs
  have HC := Aside0.mk hc
  clear hs hc
  go_enter Try.func33, Try.ntmps33
  go_wp2_with (first
   | ((with_reducible refine gate_dst (N := 1) rfl ?_); refine box_event ?hg (N := 1) ?hd (cs := #[.slice A0 S.length c0, .slice A1 C.length c1, .int .i64 f, .bool o]) (t := 38) ?hr ?_; (case hd => rfl); (case hg => rfl); (case hr => first | (go_simp; done) | (go_simp; rfl)); intro gx hg w3 hbox hb3; obtain ⟨h0, h1, h2, h3⟩ := cells25_ hbox; obtain ⟨g0, g1, g2, g3⟩ := cells25_ (blk_alloc hbox (.cells #[.func (.func 48) #[] #[]] 87)); have HX := Aside0.mk hbox; have HB := Aside0.mk (Below.trans (Below.refl _ _) hb3); clear hg hbox hb3)
   | (go_at_call 49; refine (ContainsFunc_string A0 c0 S (fun s => (s.size : Int) != 128) 48 #[] enters32 _ (fun W x hW => (odd_calls x W).mono fun e w' h => ⟨h.1, below_step hW h.2⟩) (Kd.C_below R0.out (below_alloc HB.out _)) L1.out).mono ?_; rintro e w4 ⟨rfl, hb4⟩; rw [HS.out]; have hodd := blk_below (blk_new w3 _) hb4; have hdd := blk_below (blk_alloc HX.out _) hb4; have HB4 := Aside0.mk (below_step (below_alloc HB.out _) hb4); obtain ⟨y0, y1, y2, y3⟩ := cells25_ hdd; have HO := Aside0.mk hodd; have HD := Aside0.mk hdd; clear hb4 hodd hdd)
   | (go_at_call 50; refine (ContainsFunc_S40 A1 c1 C (badF S.length) 51 #[.pointer (some ⟨gx, 0, none⟩), .pointer (some ⟨w3.heap.size, 0, none⟩)] enters35 _ (fun W x hW => (bad_calls A0 A1 c0 c1 S.length C.length f o gx w3.heap.size x W (blk_below HD.out hW) (blk_below HO.out hW)).mono fun e w' h => ⟨h.1, below_step hW h.2⟩) (Kd.C_below R1.out HB4.out) L2.out).mono ?_; rintro e w5 ⟨rfl, hb5⟩; rw [HC.out]; have HB5 := Aside0.mk (below_step HB4.out hb5); clear hb5))
  go_ret
  exact ⟨rfl, by first | exact HB5.out | exact HB4.out⟩
theorem disk_Check_calls (A0 A1 : Option Addr) (c0 c1 : Nat) (S : List ByteArray) (C : List S74) (f : Int) (o : Bool) (w : World) (hr0 : Kd.C Kd.string w A0 S.length S) (hr1 : Kd.C k74 w A1 C.length C) :
 Calls Try.prog 33 #[.agg #[.slice A0 S.length c0, .slice A1 C.length c1, .int .i64 f, .bool o]] w fun e w' => e = .returned (.int .i64 (checkF S C f)) ∧ Below w.heap.size w w' := by
 unfold checkF
 cases h : wideF S C f with
 | true => rw [if_pos rfl]; exact disk_Check_early A0 A1 c0 c1 S C f o w h
 | false => rw [if_neg (by decide)]; exact disk_Check_late A0 A1 c0 c1 S C f o w h hr0 hr1
set_option maxHeartbeats 4000000 in
theorem Clone_string (A0 : Option Addr) (c0 : Nat) (l0 : List ByteArray) (w : World) (hr : Kd.C Kd.string w A0 l0.length l0) (hc : l0.length ≤ c0) (hl : l0.length < 8796093022208) :
 Calls Try.prog 56 #[.slice A0 l0.length c0] w fun e w' => ∃ v0 : Value, e = .returned v0 ∧ Kd.R Kd.string 9 w' w.heap.size (fun _ => True) v0 l0 ∧ Below w.heap.size w w' := by
 have HR := Aside0.mk hr
 have HL := Aside0.mk hl
 clear hr hl
 cases A0 with
 | none =>
  have hl0 : l0 = [] := by
   cases l0 with
   | nil => rfl
   | cons x l =>
    obtain ⟨ad, e, _⟩ := Kd.at_string HR.out 0 (by omega) (by simp)
    cases e
  subst hl0
  have ke := Lib.run_eql_slice_nil (P := Try.prog) w 35 9 none 0 c0 0 0 Try.underlying35
  go_enter Try.func56, Try.ntmps56
  go_wp2
  go_ret
  exact ⟨_, rfl, Kd.R_nil _ _ _ _ _, Below.refl _ _⟩
 | some ad =>
  have ke := Lib.run_eql_slice_nil (P := Try.prog) w 35 9 (some ad) l0.length c0 0 0 Try.underlying35
  go_enter Try.func56, Try.ntmps56
  go_wp2_with (first
   | ((with_reducible refine gate_dst (N := 5) rfl ?_); refine Kd.R_lit Kd.string _ 9 ?hg (N := 5) ?hd (xs := ([] : List ByteArray)) (inner := []) (ok := fun _ => True) (okp := fun _ => True) ?hr ?hp (fun _ hk => hk) trivial (Below.refl _ _) (Nat.le_refl _) (by simp) ?_; (case hd => rfl); (case hg => rfl); (case hr => first | (go_simp; done) | (go_simp; rfl)); (case hp => exact (Reps.none _ _)); intro v5 w5 ho5 hb hg_ hnew_; clear hg_ hnew_; have HO5 := Aside0.mk ho5; have HB := Aside0.mk hb; clear ho5 hb)
   | ((with_reducible refine gate_builtin (b := .append) (xs := #[.tmp 5, .tmp 6]) rfl ?_); at_builtin; refine Kd.R_append_rows Kd.string (w0 := w) w.heap.size rfl (.tmp 5) (.tmp 6) 35 9 (.string ⟨#[]⟩) 16 rfl Try.underlying35 info9 rfl (by decide) (by omega) v5 [] l0 _ _ _ (fun _ => True) (fun _ => False) rfl rfl HO5.out (Kd.C_below HR.out HB.out) (fun _ _ h => h) (fun _ h => h.elim) (fun _ _ => trivial) HB.out HB.out.size (by have := HL.out; simp; omega) ?_; intro v7 w7 ho hb7 hg hat; have HO7 := Aside0.mk ho; have HB7 := Aside0.mk hb7; clear ho hb7 hg hat))
  go_ret
  exact ⟨_, rfl, HO7.out, HB7.out⟩
set_option maxHeartbeats 4000000 in
theorem Clone_S40 (A0 : Option Addr) (c0 : Nat) (l0 : List S74) (w : World) (hr : Kd.C k74 w A0 l0.length l0) (hc : l0.length ≤ c0) (hl : l0.length < 5864062014805) :
 Calls Try.prog 57 #[.slice A0 l0.length c0] w fun e w' => ∃ v0 : Value, e = .returned v0 ∧ Kd.R k74 74 w' w.heap.size (fun _ => True) v0 l0 ∧ Below w.heap.size w w' := by
 have HR := Aside0.mk hr
 have HL := Aside0.mk hl
 clear hr hl
 cases A0 with
 | none =>
  have hl0 : l0 = [] := by
   cases l0 with
   | nil => rfl
   | cons x l =>
    obtain ⟨ad, e, _⟩ := at_T74 HR.out 0 (by omega) (by simp)
    cases e
  subst hl0
  have ke := Lib.run_eql_slice_nil (P := Try.prog) w 36 74 none 0 c0 0 0 Try.underlying36
  go_enter Try.func57, Try.ntmps57
  go_wp2
  go_ret
  exact ⟨_, rfl, Kd.R_nil _ _ _ _ _, Below.refl _ _⟩
 | some ad =>
  have ke := Lib.run_eql_slice_nil (P := Try.prog) w 36 74 (some ad) l0.length c0 0 0 Try.underlying36
  go_enter Try.func57, Try.ntmps57
  go_wp2_with (first
   | ((with_reducible refine gate_dst (N := 5) rfl ?_); refine Kd.R_lit k74 _ 74 ?hg (N := 5) ?hd (xs := ([] : List S74)) (inner := []) (ok := fun _ => True) (okp := fun _ => True) ?hr ?hp (fun _ hk => hk) trivial (Below.refl _ _) (Nat.le_refl _) (by simp) ?_; (case hd => rfl); (case hg => rfl); (case hr => first | (go_simp; done) | (go_simp; rfl)); (case hp => exact (Reps.none _ _)); intro v5 w5 ho5 hb hg_ hnew_; clear hg_ hnew_; have HO5 := Aside0.mk ho5; have HB := Aside0.mk hb; clear ho5 hb)
   | ((with_reducible refine gate_builtin (b := .append) (xs := #[.tmp 5, .tmp 6]) rfl ?_); at_builtin; refine Kd.R_append_rows k74 (w0 := w) w.heap.size rfl (.tmp 5) (.tmp 6) 36 74 (.agg #[.int .i64 0, .string ⟨#[]⟩]) 24 rfl Try.underlying36 info74 rfl (by decide) (by omega) v5 [] l0 _ _ _ (fun _ => True) (fun _ => False) rfl rfl HO5.out (Kd.C_below HR.out HB.out) (fun _ _ h => h) (fun _ h => h.elim) (fun _ _ => trivial) HB.out HB.out.size (by have := HL.out; simp; omega) ?_; intro v7 w7 ho hb7 hg hat; have HO7 := Aside0.mk ho; have HB7 := Aside0.mk hb7; clear ho hb7 hg hat))
  go_ret
  exact ⟨_, rfl, HO7.out, HB7.out⟩
theorem checkF_cases (S : List ByteArray) (C : List S74) (f : Int) : checkF S C f = 2 ∨ checkF S C f = 0 ∧ S.length ≤ 1024 ∧ C.length ≤ 4096 := by
 unfold checkF
 split
 · exact .inl rfl
 · rename_i h
   unfold wideF at h
   simp only [Bool.or_eq_true, decide_eq_true_eq, not_or] at h
   split
   · exact .inl rfl
   · split
     · exact .inl rfl
     · exact .inr ⟨rfl, by omega, by omega⟩
set_option maxHeartbeats 8000000 in
theorem disk_open_bad (A0 A1 : Option Addr) (c0 c1 : Nat) (S : List ByteArray) (C : List S74) (f : Int) (o : Bool) (w : World) (hr0 : Kd.C Kd.string w A0 S.length S) (hr1 : Kd.C k74 w A1 C.length C) (h : checkF S C f = 2) :
 Calls Try.prog 42 #[.agg #[.slice A0 S.length c0, .slice A1 C.length c1, .int .i64 f, .bool o]] w fun e w' => e = .returned (.tuple #[.pointer none, .int .i64 2]) ∧ Below w.heap.size w w' := by
 have R0 := Aside0.mk hr0
 have R1 := Aside0.mk hr1
 have HH := Aside0.mk h
 clear hr0 hr1 h
 go_enter Try.func42, Try.ntmps42
 go_wp2_with (first
  | ((with_reducible refine gate_dst (N := 1) rfl ?_); refine box_event ?hg (N := 1) ?hd (cs := #[.slice A0 S.length c0, .slice A1 C.length c1, .int .i64 f, .bool o]) (t := 38) ?hr ?_; (case hd => rfl); (case hg => rfl); (case hr => first | (go_simp; done) | (go_simp; rfl)); intro gx hg w3 hbox hb3; obtain ⟨h0, h1, h2, h3⟩ := cells25_ hbox; have HX := Aside0.mk hbox; have HB := Aside0.mk (Below.trans (Below.refl _ _) hb3); clear hg hbox hb3)
  | (go_at_call 33; refine (disk_Check_calls A0 A1 c0 c1 S C f o _ (Kd.C_below R0.out HB.out) (Kd.C_below R1.out HB.out)).mono ?_; rintro e w4 ⟨rfl, hb4⟩; rw [HH.out]; have HB4 := Aside0.mk (below_step HB.out hb4); clear hb4))
 refine bodyPost_ret (results_tmp2 rfl _ _ _) rfl ?_
 exact ⟨rfl, HB4.out⟩
theorem f25 {W : World} {gb : Nat} {a b c d : Value} (hb : W.heap[gb]? = some (.cells #[a, b, c, d] 38 (0, 0))) : W.frozen? ⟨gb, 0, none⟩ = false ∧ W.frozen? ⟨gb, 1, none⟩ = false := ⟨blk_frozen hb 0, blk_frozen hb 1⟩
set_option maxHeartbeats 8000000 in
theorem disk_open_good (A0 A1 : Option Addr) (c0 c1 : Nat) (S : List ByteArray) (C : List S74) (f : Int) (o : Bool) (w : World) (hr0 : Kd.C Kd.string w A0 S.length S) (hc0 : S.length ≤ c0) (hr1 : Kd.C k74 w A1 C.length C) (hc1 : C.length ≤ c1) (h : checkF S C f = 0) (l0 : S.length ≤ 1024) (l1 : C.length ≤ 4096) :
 Calls Try.prog 42 #[.agg #[.slice A0 S.length c0, .slice A1 C.length c1, .int .i64 f, .bool o]] w fun e w' => ∃ g B0 B1 e0 e1, e = .returned (.tuple #[.pointer (some ⟨g, 0, none⟩), .int .i64 0]) ∧ w.heap.size ≤ g ∧ w'.heap[g]? = some (.cells #[.slice B0 S.length e0, .slice B1 C.length e1, .int .i64 f, .bool o] 80 (0, 0)) ∧
  Kd.R Kd.string 9 w' w.heap.size (fun _ => True) (.slice B0 S.length e0) S ∧ Kd.R k74 74 w' w.heap.size (fun _ => True) (.slice B1 C.length e1) C ∧ Below w.heap.size w w' := by
 have R0 := Aside0.mk hr0
 have R1 := Aside0.mk hr1
 have HH := Aside0.mk h
 have HL0 := Aside0.mk (show S.length < 8796093022208 by omega)
 have HL1 := Aside0.mk (show C.length < 5864062014805 by omega)
 have HC0 := Aside0.mk hc0
 have HC1 := Aside0.mk hc1
 clear hr0 hr1 h hc0 hc1 l0 l1
 go_enter Try.func42, Try.ntmps42
 go_wp2_with (first
  | ((with_reducible refine gate_dst (N := 1) rfl ?_); refine box_event ?hg (N := 1) ?hd (cs := #[.slice A0 S.length c0, .slice A1 C.length c1, .int .i64 f, .bool o]) (t := 38) ?hr ?_; (case hd => rfl); (case hg => rfl); (case hr => first | (go_simp; done) | (go_simp; rfl)); intro gx hg w3 hbox hb3; obtain ⟨h0, h1, h2, h3⟩ := cells25_ hbox; have HX := Aside0.mk hbox; have HGX := Aside0.mk (show w.heap.size ≤ gx by rw [hg]; exact Nat.le_refl _); have HB := Aside0.mk (Below.trans (Below.refl _ _) hb3); clear hg hbox hb3)
  | (go_at_call 33; refine (disk_Check_calls A0 A1 c0 c1 S C f o _ (Kd.C_below R0.out HB.out) (Kd.C_below R1.out HB.out)).mono ?_; rintro e w4 ⟨rfl, hb4⟩; rw [HH.out]; have n0_ := Aside0.mk (below_step HB.out hb4); have n1_ := Aside0.mk (blk_below HX.out hb4); clear HB HX h0 h1 h2 h3; have HB := n0_; have HX := n1_; obtain ⟨h0, h1, h2, h3⟩ := cells25_ HX.out; clear hb4 n0_ n1_))
 go_region_with (first
  | (go_at_call 56; refine (Clone_string A0 c0 S _ ?sr HC0.out HL0.out).mono ?_; (case sr => first | exact Kd.C_below R0.out HB.out | exact Kd.C_below R0.out (Below.drew HB.out)); rintro e wa ⟨va, rfl, hRa, hba⟩; obtain ⟨B0, e0, rfl⟩ := Kd.R_slice hRa; have ra_ := Aside0.mk (Kd.R_lower hRa HB.out.size); have n0_ := Aside0.mk (below_step (by first | exact HB.out | exact Below.drew HB.out) hba); have n1_ := Aside0.mk (by first | exact blk_below HX.out hba | exact blk_below (blk_drew HX.out) hba : wa.heap[gx]? = some (.cells #[.slice A0 S.length c0, .slice A1 C.length c1, .int .i64 f, .bool o] 38 (0, 0))); (first | (have nb_ := Aside0.mk (Kd.R_below RB.out hba); clear RB; have RB := nb_; clear nb_) | skip); clear HB HX h0 h1 h2 h3; have RA := ra_; have HB := n0_; have HX := n1_; obtain ⟨h0, h1, h2, h3⟩ := cells25_ HX.out; (try clear z0 z1); obtain ⟨z0, z1⟩ := f25 HX.out; clear hba hRa ra_ n0_ n1_)
  | (go_at_call 57; refine (Clone_S40 A1 c1 C _ ?sr HC1.out HL1.out).mono ?_; (case sr => first | exact Kd.C_below R1.out HB.out | exact Kd.C_below R1.out (Below.drew HB.out)); rintro e wb ⟨vb, rfl, hRb, hbb⟩; obtain ⟨B1, e1, rfl⟩ := Kd.R_slice hRb; have rb_ := Aside0.mk (Kd.R_lower hRb HB.out.size); have n0_ := Aside0.mk (below_step (by first | exact HB.out | exact Below.drew HB.out) hbb); have n1_ := Aside0.mk (by first | exact blk_below HX.out hbb | exact blk_below (blk_drew HX.out) hbb : wb.heap[gx]? = some (.cells #[.slice A0 S.length c0, .slice A1 C.length c1, .int .i64 f, .bool o] 38 (0, 0))); (first | (have na_ := Aside0.mk (Kd.R_below RA.out hbb); clear RA; have RA := na_; clear na_) | skip); clear HB HX h0 h1 h2 h3; have RB := rb_; have HB := n0_; have HX := n1_; obtain ⟨h0, h1, h2, h3⟩ := cells25_ HX.out; (try clear z0 z1); obtain ⟨z0, z1⟩ := f25 HX.out; clear hbb hRb rb_ n0_ n1_))
 all_goals
  have hx2 := blk_put (blk_put HX.out 0 (.slice B0 S.length e0) rfl) 1 (.slice B1 C.length e1) rfl
  have RA2 := Aside0.mk (Kd.R_set (Kd.R_set RA.out HX.out (by decide) 0 (.slice B0 S.length e0)) (blk_put HX.out 0 (.slice B0 S.length e0) rfl) (by decide) 1 (.slice B1 C.length e1))
  have RB2 := Aside0.mk (Kd.R_set (Kd.R_set RB.out HX.out (by decide) 0 (.slice B0 S.length e0)) (blk_put HX.out 0 (.slice B0 S.length e0) rfl) (by decide) 1 (.slice B1 C.length e1))
  have HB2 := Aside0.mk (below_set (j := 1) (v := .slice B1 C.length e1) (below_set (j := 0) (v := .slice B0 S.length e0) HB.out HGX.out) HGX.out)
  obtain ⟨y0, y1, y2, y3⟩ := cells25_ hx2
  clear hx2 h0 h1 h2 h3 z0 z1 RA RB HB
  go_wp2_with (first
   | ((with_reducible refine gate_dst (N := 20) rfl ?_); refine box_event ?hg (N := 20) ?hd (cs := #[.slice B0 S.length e0, .slice B1 C.length e1, .int .i64 f, .bool o]) (t := 80) ?hr ?_; (case hd => rfl); (case hg => rfl); (case hr => first | (go_simp; done) | (go_simp; rfl)); intro gy hgy w9 hboxy hb9; have HY := Aside0.mk hboxy; have HB9 := Aside0.mk hb9; have HGY := Aside0.mk hgy; clear hboxy hb9 hgy))
  refine bodyPost_ret (results_tmp2 rfl _ _ _) rfl ?_
  exact ⟨gy, B0, B1, e0, e1, rfl, by rw [HGY.out]; exact HB2.out.size, HY.out, Kd.R_below RA2.out HB9.out, Kd.R_below RB2.out HB9.out, below_step HB2.out HB9.out⟩
def Dr (w0 w : World) (g : Nat) (S : List ByteArray) (C : List S74) (f : Int) (o : Bool) : Prop :=
 ∃ A0 c0 A1 c1, w0.heap.size ≤ g ∧ w.heap[g]? = some (.cells #[.slice A0 S.length c0, .slice A1 C.length c1, .int .i64 f, .bool o] 80 (0, 0)) ∧
  Kd.R Kd.string 9 w w0.heap.size (fun _ => True) (.slice A0 S.length c0) S ∧ Kd.R k74 74 w w0.heap.size (fun _ => True) (.slice A1 C.length c1) C ∧ Below w0.heap.size w0 w
theorem Dr.below {w0 w w1 : World} {g : Nat} {S : List ByteArray} {C : List S74} {f : Int} {o : Bool} (h : Dr w0 w g S C f o) (hb : Below w.heap.size w w1) : Dr w0 w1 g S C f o := by
 obtain ⟨A0, c0, A1, c1, h0, h1, h2, h3, h4⟩ := h
 exact ⟨A0, c0, A1, c1, h0, blk_below h1 hb, Kd.R_below h2 hb, Kd.R_below h3 hb, below_step h4 hb⟩
theorem Dr.fuse {w0 w : World} {g : Nat} {S : List ByteArray} {C : List S74} {f : Int} {o : Bool} (h : Dr w0 w g S C f o) (r : Int) : Dr w0 (w.setCell ⟨g, 2, none⟩ (.int .i64 r)) g S C r o := by
 obtain ⟨A0, c0, A1, c1, h0, h1, h2, h3, h4⟩ := h
 exact ⟨A0, c0, A1, c1, h0, blk_put h1 2 _ rfl, Kd.R_set h2 h1 (by decide) 2 _, Kd.R_set h3 h1 (by decide) 2 _, below_set h4 h0⟩
theorem Dr.off {w0 w : World} {g : Nat} {S : List ByteArray} {C : List S74} {f : Int} {o : Bool} (h : Dr w0 w g S C f o) (r : Bool) : Dr w0 (w.setCell ⟨g, 3, none⟩ (.bool r)) g S C f r := by
 obtain ⟨A0, c0, A1, c1, h0, h1, h2, h3, h4⟩ := h
 exact ⟨A0, c0, A1, c1, h0, blk_put h1 3 _ rfl, Kd.R_set h2 h1 (by decide) 3 _, Kd.R_set h3 h1 (by decide) 3 _, below_set h4 h0⟩
theorem k51 {W : World} {gb : Nat} {a b c d : Value} (hb : W.heap[gb]? = some (.cells #[a, b, c, d] 80 (0, 0))) : (W.cell? ⟨gb, 0, none⟩ = some a ∧ W.cell? ⟨gb, 1, none⟩ = some b ∧ W.cell? ⟨gb, 2, none⟩ = some c ∧ W.cell? ⟨gb, 3, none⟩ = some d) ∧ (W.frozen? ⟨gb, 0, none⟩ = false ∧ W.frozen? ⟨gb, 1, none⟩ = false ∧ W.frozen? ⟨gb, 2, none⟩ = false ∧ W.frozen? ⟨gb, 3, none⟩ = false) :=
 ⟨⟨(blk_cell hb 0).trans rfl, (blk_cell hb 1).trans rfl, (blk_cell hb 2).trans rfl, (blk_cell hb 3).trans rfl⟩, ⟨blk_frozen hb 0, blk_frozen hb 1, blk_frozen hb 2, blk_frozen hb 3⟩⟩
def Keep25 (w w' : World) : Prop := ∀ (k : Nat) (cells : Array Value), w.heap[k]? = some (.cells cells 38 (0, 0)) → w'.heap[k]? = some (.cells cells 38 (0, 0))
theorem Keep25.refl (w : World) : Keep25 w w := fun _ _ h => h
theorem Keep25.set {w w' : World} (h : Keep25 w w') {g t : Nat} {cs : Array Value} (hg : w'.heap[g]? = some (.cells cs t (0, 0))) (ht : 38 ≠ t) (j : Nat) (u : Value) : Keep25 w (w'.setCell ⟨g, j, none⟩ u) := fun k cells hk => blk_far (p := ⟨g, j, none⟩) (h k cells hk) (blk_ne (h k cells hk) hg ht) u
theorem Keep25.alloc {w w' : World} (h : Keep25 w w') (o : Obj) : Keep25 w (w'.alloc o) := fun k cells hk => blk_alloc (h k cells hk) o
theorem Keep25.drew {w w' : World} (h : Keep25 w w') : Keep25 w w'.drew := fun k cells hk => h k cells hk
def powerF (f : Int) (o : Bool) : Int × Int × Bool := if o = true then (9, f, o) else if f = 0 then (9, f, true) else if f > 0 then (0, wrap64 (f - 1), o) else (0, f, o)
set_option maxHeartbeats 4000000 in
theorem power_dr (w0 w : World) (g : Nat) (S : List ByteArray) (C : List S74) (f : Int) (o : Bool) (h : Dr w0 w g S C f o) :
 Calls Try.prog 53 #[.pointer (some ⟨g, 0, none⟩)] w fun e w' => e = .returned (.int .i64 (powerF f o).1) ∧ Dr w0 w' g S C (powerF f o).2.1 (powerF f o).2.2 ∧ Keep25 w w' := by
 have HD := Aside0.mk h
 obtain ⟨A0, c0, A1, c1, h0, h1, h2, h3, h4⟩ := h
 obtain ⟨⟨e0, e1, e2, e3⟩, ⟨z0, z1, z2, z3⟩⟩ := k51 h1
 have H1 := Aside0.mk h1
 clear h0 h1 h2 h3 h4
 unfold powerF
 cases o with
 | true =>
  rw [if_pos rfl]
  go_enter Try.func53, Try.ntmps53
  go_wp2
  go_ret
  exact ⟨rfl, HD.out, Keep25.refl _⟩
 | false =>
  rw [if_neg (by decide)]
  by_cases q : f = 0
  · have q1 : (f == 0) = true := beq_iff_eq.mpr q
    rw [if_pos q]
    have Q := Aside0.mk q
    clear q
    go_enter Try.func53, Try.ntmps53
    go_wp2
    go_ret
    exact ⟨rfl, Dr.off HD.out true, Keep25.set (Keep25.refl _) H1.out (by decide) 3 _⟩
  · have q1 : (f == 0) = false := beq_eq_false_iff_ne.mpr q
    rw [if_neg q]
    clear q
    by_cases q2 : f > 0
    · have q3 : decide (0 < f) = true := decide_eq_true q2
      rw [if_pos q2]
      clear q2
      go_enter Try.func53, Try.ntmps53
      go_wp2
      go_ret
      exact ⟨rfl, Dr.fuse HD.out _, Keep25.set (Keep25.refl _) H1.out (by decide) 2 _⟩
    · have q3 : decide (0 < f) = false := decide_eq_false q2
      rw [if_neg q2]
      clear q2
      go_enter Try.func53, Try.ntmps53
      go_wp2
      go_ret
      exact ⟨rfl, HD.out, Keep25.refl _⟩
def applyF (S : List ByteArray) (C : List S74) : List ByteArray := C.foldl (fun s p => s.set p.f0.toNat p.f1) S
theorem applyF_len (C : List S74) : ∀ S, (applyF S C).length = S.length := by
 induction C with
 | nil => intro S; rfl
 | cons p C ih => intro S; show (applyF (S.set p.f0.toNat p.f1) C).length = _; rw [ih, List.length_set]
theorem applyF_snoc (S : List ByteArray) (C : List S74) (p : S74) : applyF S (C ++ [p]) = (applyF S C).set p.f0.toNat p.f1 := by
 unfold applyF
 rw [List.foldl_append]
 rfl
theorem applyF_take (S : List ByteArray) (C : List S74) (i : Nat) (h : i < C.length) : applyF S (C.take (i + 1)) = (applyF S (C.take i)).set (C[i].f0.toNat) C[i].f1 := by
 rw [List.take_succ_eq_append_getElem h, applyF_snoc]
set_option maxHeartbeats 8000000 in
theorem settle_dr (w0 w : World) (g : Nat) (S : List ByteArray) (C : List S74) (f : Int) (o : Bool) (h : Dr w0 w g S C f o) (hc : ∀ i, (h : i < C.length) → 0 ≤ C[i].f0 ∧ C[i].f0 < (S.length : Int)) (hl : C.length ≤ 4096) :
 Calls Try.prog 54 #[.pointer (some ⟨g, 0, none⟩)] w fun e w' => e = .returned (.tuple #[]) ∧ Dr w0 w' g (applyF S C) [] f o ∧ Keep25 w w' := by
 have HD := Aside0.mk h
 have HC := Aside0.mk hc
 obtain ⟨A0, c0, A1, c1, h0, h1, h2, h3, h4⟩ := h
 obtain ⟨⟨e0, e1, e2, e3⟩, ⟨z0, z1, z2, z3⟩⟩ := k51 h1
 have H0 := Aside0.mk h0
 have H1 := Aside0.mk h1
 have H2 := Aside0.mk h2
 have H3 := Aside0.mk h3
 have H4 := Aside0.mk h4
 clear h0 h1 h2 h3 h4 hc
 go_enter Try.func54, Try.ntmps54
 go_wp2
 go_loopg [3, 10] C.length (fun gg _ s10 wr => ∃ kk : Nat, kk ≤ C.length ∧ C.length - kk ≤ gg ∧ s10 = .int .i64 kk ∧ Aside0 (wr.heap[g]? = some (.cells #[.slice A0 S.length c0, .slice A1 C.length c1, .int .i64 f, .bool o] 80 (0, 0))) ∧ Aside0 (Kd.R Kd.string 9 wr w0.heap.size (fun _ => True) (.slice A0 S.length c0) (applyF S (C.take kk))) ∧ Aside0 (Kd.R k74 74 wr w0.heap.size (fun _ => True) (.slice A1 C.length c1) C) ∧ Aside0 (Below w0.heap.size w0 wr) ∧ Aside0 (Keep25 w wr))
 case atStart => exact ⟨0, Nat.zero_le _, by omega, rfl, H1, H2, H3, H4, ⟨Keep25.refl _⟩⟩
 case round =>
  clear H1 H2 H3 H4 HD e0 e1 e2 e3 z0 z1 z2 z3
  obtain ⟨kk, hkk, hg, rfl, H1, H2, H3, H4, H5⟩ := hrel
  by_cases hlt : kk < C.length
  · have hltz : (kk : Int) < (C.length : Int) := by omega
    have hin := HC.out kk hlt
    have ht := applyF_take S C kk hlt
    have hla := applyF_len (C.take kk) S
    obtain ⟨ad, rfl, hx0, hx1⟩ := at_T74 (Kd.R_reads' H3.out).2.2 (kk : Int) (by omega) (by omega)
    have hrd : rd_T74 C (kk : Int) = C[kk] := rdOf_at z74 C kk hlt
    rw [hrd, Int.toNat_natCast] at hx0 hx1
    generalize C[kk] = p at hx0 hx1 hin ht
    obtain ⟨i0, i1⟩ := hin
    obtain ⟨gs, cs, es, hgs, hls, cells, hcs⟩ := Kd.R_form H2.out (by rw [hla]; omega)
    injection es with ea en ec
    subst ea
    subst ec
    clear en
    have hcell := Kd.R_celln (⟨#[]⟩ : ByteArray) H2.out p.f0 i0 i1
    have HP := Kd.R_putn H2.out p.f0 p.f1
    rw [← ht] at HP
    have hgg : gs ≠ g := by
     exact blk_ne hcs H1.out (by decide)
    clear hla hcell
    have HP' := Aside0.mk HP
    have hcell := Kd.R_celln (⟨#[]⟩ : ByteArray) (Kd.R_below H2.out (below_alloc (Below.refl _ _) (.cells #[.int .i64 p.f0, .string p.f1] 74))) p.f0 i0 i1
    obtain ⟨hcell, hcellf⟩ := hcell
    obtain ⟨⟨e0, e1, e2, e3⟩, ⟨z0, z1, z2, z3⟩⟩ := k51 (blk_alloc H1.out (.cells #[.int .i64 p.f0, .string p.f1] 74))
    have n0 := (blk_cell (blk_new wr (.cells #[.int .i64 p.f0, .string p.f1] 74)) 0).trans rfl
    have n1 := (blk_cell (blk_new wr (.cells #[.int .i64 p.f0, .string p.f1] 74)) 1).trans rfl
    have hne3 := Aside0.mk (Kd.R_set H3.out (g := gs) (t := 9) hcs (by decide) p.f0.toNat (.string p.f1))
    have q0 : decide (0 ≤ p.f0) = true := decide_eq_true i0
    have q1 : decide (p.f0 < (S.length : Int)) = true := decide_eq_true i1
    have HCS := Aside0.mk hcs
    clear HP ht hcs
    go_wp2
    go_region
    go_wp2
    go_roundg (C.length - (kk + 1))
    case measure => omega
    case rel =>
     exact ⟨kk + 1, by omega, by omega, by go_num, ⟨blk_drew (blk_alloc (blk_far (p := ⟨gs, p.f0.toNat, none⟩) H1.out hgg.symm _) _)⟩, ⟨Kd.R_drew (Kd.R_alloc HP'.out _)⟩, ⟨Kd.R_drew (Kd.R_alloc hne3.out _)⟩, ⟨Below.drew (below_alloc (below_set H4.out hgs) _)⟩, ⟨Keep25.drew (Keep25.alloc (Keep25.set H5.out HCS.out (by decide) _ _) _)⟩⟩
  · have hltz : ¬ (kk : Int) < (C.length : Int) := by omega
    obtain rfl : kk = C.length := by omega
    have ht : applyF S (C.take C.length) = applyF S C := by rw [List.take_length]
    have hla := applyF_len C S
    rw [ht] at H2
    obtain ⟨⟨e0, e1, e2, e3⟩, ⟨z0, z1, z2, z3⟩⟩ := k51 H1.out
    have H0' := H0.out
    go_wp2
    refine bodyPost_end (results_none rfl _ _ _) rfl ⟨rfl, ?_⟩
    refine ⟨⟨A0, c0, none, 0, H0', ?_, ?_, Kd.R_nil _ _ _ _ _, below_set H4.out H0'⟩, Keep25.set H5.out H1.out (by decide) 1 _⟩
    · rw [hla]
      exact blk_put H1.out 1 _ rfl
    · rw [hla]
      exact Kd.R_set H2.out H1.out (by decide) 1 _
theorem f25a {W : World} {gb : Nat} {a b c d : Value} (hb : W.heap[gb]? = some (.cells #[a, b, c, d] 38 (0, 0))) : W.frozen? ⟨gb, 0, none⟩ = false ∧ W.frozen? ⟨gb, 1, none⟩ = false ∧ W.frozen? ⟨gb, 2, none⟩ = false ∧ W.frozen? ⟨gb, 3, none⟩ = false := ⟨blk_frozen hb 0, blk_frozen hb 1, blk_frozen hb 2, blk_frozen hb 3⟩
theorem open_dr (A0 A1 : Option Addr) (c0 c1 : Nat) (S : List ByteArray) (C : List S74) (f : Int) (o : Bool) (w w1 : World) (hB : Below w.heap.size w w1) (hr0 : Kd.C Kd.string w A0 S.length S) (hc0 : S.length ≤ c0) (hr1 : Kd.C k74 w A1 C.length C) (hc1 : C.length ≤ c1) (h : checkF S C f = 0) :
 Calls Try.prog 42 #[.agg #[.slice A0 S.length c0, .slice A1 C.length c1, .int .i64 f, .bool o]] w1 fun e w' => ∃ g, e = .returned (.tuple #[.pointer (some ⟨g, 0, none⟩), .int .i64 0]) ∧ w1.heap.size ≤ g ∧ Dr w w' g S C f o ∧ Below w1.heap.size w1 w' := by
 have hl := (checkF_cases S C f).resolve_left (by rw [h]; decide)
 refine (disk_open_good A0 A1 c0 c1 S C f o w1 (Kd.C_below hr0 hB) hc0 (Kd.C_below hr1 hB) hc1 h hl.2.1 hl.2.2).mono ?_
 rintro e w' ⟨g, B0, B1, e0, e1, rfl, h1, h2, h3, h4, h5⟩
 exact ⟨g, rfl, h1, ⟨B0, e0, B1, e1, Nat.le_trans hB.size h1, h2, Kd.R_lower h3 hB.size, Kd.R_lower h4 hB.size, below_step hB h5⟩, h5⟩
theorem fin25 {w0 w : World} {gr : Nat} {x0 x1 x2 x3 : Value} {A0 A1 : Option Addr} {c0 c1 : Nat} {S : List ByteArray} {C : List S74} {f : Int} {o : Bool} (hr : w.heap[gr]? = some (.cells #[x0, x1, x2, x3] 38 (0, 0)))
 (h2 : Kd.R Kd.string 9 w w0.heap.size (fun _ => True) (.slice A0 S.length c0) S) (h3 : Kd.R k74 74 w w0.heap.size (fun _ => True) (.slice A1 C.length c1) C) (h4 : Below w0.heap.size w0 w) (hg : w0.heap.size ≤ gr) :
 ((((w.setCell ⟨gr, 0, none⟩ (.slice A0 S.length c0)).setCell ⟨gr, 1, none⟩ (.slice A1 C.length c1)).setCell ⟨gr, 2, none⟩ (.int .i64 f)).setCell ⟨gr, 3, none⟩ (.bool o)).heap[gr]? = some (.cells #[.slice A0 S.length c0, .slice A1 C.length c1, .int .i64 f, .bool o] 38 (0, 0)) ∧
 Kd.R Kd.string 9 ((((w.setCell ⟨gr, 0, none⟩ (.slice A0 S.length c0)).setCell ⟨gr, 1, none⟩ (.slice A1 C.length c1)).setCell ⟨gr, 2, none⟩ (.int .i64 f)).setCell ⟨gr, 3, none⟩ (.bool o)) w0.heap.size (fun _ => True) (.slice A0 S.length c0) S ∧
 Kd.R k74 74 ((((w.setCell ⟨gr, 0, none⟩ (.slice A0 S.length c0)).setCell ⟨gr, 1, none⟩ (.slice A1 C.length c1)).setCell ⟨gr, 2, none⟩ (.int .i64 f)).setCell ⟨gr, 3, none⟩ (.bool o)) w0.heap.size (fun _ => True) (.slice A1 C.length c1) C ∧
 Below w0.heap.size w0 ((((w.setCell ⟨gr, 0, none⟩ (.slice A0 S.length c0)).setCell ⟨gr, 1, none⟩ (.slice A1 C.length c1)).setCell ⟨gr, 2, none⟩ (.int .i64 f)).setCell ⟨gr, 3, none⟩ (.bool o)) := by
 have b0 := blk_put hr 0 (.slice A0 S.length c0) rfl
 have b1 := blk_put b0 1 (.slice A1 C.length c1) rfl
 have b2 := blk_put b1 2 (.int .i64 f) rfl
 have b3 := blk_put b2 3 (.bool o) rfl
 exact ⟨b3, Kd.R_set (Kd.R_set (Kd.R_set (Kd.R_set h2 hr (by decide) 0 _) b0 (by decide) 1 _) b1 (by decide) 2 _) b2 (by decide) 3 _, Kd.R_set (Kd.R_set (Kd.R_set (Kd.R_set h3 hr (by decide) 0 _) b0 (by decide) 1 _) b1 (by decide) 2 _) b2 (by decide) 3 _, below_set (below_set (below_set (below_set h4 hg) hg) hg) hg⟩
set_option maxHeartbeats 8000000 in
theorem Write_bad (A0 A1 : Option Addr) (c0 c1 : Nat) (S : List ByteArray) (C : List S74) (f : Int) (o : Bool) (at_ : Int) (data : ByteArray) (w : World) (hr0 : Kd.C Kd.string w A0 S.length S) (hc0 : S.length ≤ c0) (hr1 : Kd.C k74 w A1 C.length C) (hc1 : C.length ≤ c1) (h : checkF S C f = 2) :
 Calls Try.prog 37 #[.agg #[.slice A0 S.length c0, .slice A1 C.length c1, .int .i64 f, .bool o], .int .i64 at_, .string data] w fun e w' => ∃ v0_ v1_ : Value, e = .returned (.tuple #[.agg #[v0_, v1_, .int .i64 0, .bool false], .int .i64 2]) ∧ Kd.R Kd.string 9 w' w.heap.size (fun _ => True) v0_ ([] : List ByteArray) ∧ Kd.R k74 74 w' w.heap.size (fun _ => True) v1_ ([] : List S74) ∧ Below w.heap.size w w' := by
 have R0 := Aside0.mk hr0
 have R1 := Aside0.mk hr1
 have HC0 := Aside0.mk hc0
 have HC1 := Aside0.mk hc1
 have HH := Aside0.mk h
 clear hr0 hc0 hr1 hc1 h
 go_enter Try.func37, Try.ntmps37
 go_wp2_with (first
  | ((with_reducible refine gate_dst (N := 3) rfl ?_); refine box_event ?hg (N := 3) ?hd (cs := #[.slice A0 S.length c0, .slice A1 C.length c1, .int .i64 f, .bool o]) (t := 38) ?hr ?_; (case hd => rfl); (case hg => rfl); (case hr => first | (go_simp; done) | (go_simp; rfl)); intro gx hg w3 hbox hb3; obtain ⟨h0, h1, h2, h3⟩ := cells25_ hbox; have HX := Aside0.mk hbox; have HB := Aside0.mk (Below.trans (Below.refl _ _) hb3); clear hg hbox hb3)
  | ((with_reducible refine gate_dst (N := 6) rfl ?_); refine box_event ?hg (N := 6) ?hd (cs := #[.slice none 0 0, .slice none 0 0, .int .i64 0, .bool false]) (t := 38) ?hr ?_; (case hd => rfl); (case hg => rfl); (case hr => first | (go_simp; done) | (go_simp; rfl)); intro gr hg w4 hbox hb3; have HG := Aside0.mk (by rw [hg]; exact HB.out.size : w.heap.size ≤ gr); have HZ := Aside0.mk hbox; have n1_ := Aside0.mk (blk_below HX.out hb3); have n0_ := Aside0.mk (below_step HB.out hb3); clear h0 h1 h2 h3 HX HB; have HX := n1_; have HB := n0_; obtain ⟨h0, h1, h2, h3⟩ := cells25_ HX.out; clear hg hbox hb3 n0_ n1_)
  | (go_at_call 42; refine (disk_open_bad A0 A1 c0 c1 S C f o _ (Kd.C_below R0.out HB.out) (Kd.C_below R1.out HB.out) HH.out).mono ?_; rintro e w5 ⟨rfl, hb5⟩; have HB5 := Aside0.mk (below_step HB.out hb5); have HZ5 := Aside0.mk (blk_below HZ.out hb5); clear HB hb5 HX h0 h1 h2 h3; obtain ⟨y0, y1, y2, y3⟩ := cells25_ HZ5.out; obtain ⟨q0, q1, q2, q3⟩ := f25a HZ5.out))
 have F := fin25 (S := []) (C := []) (A0 := none) (A1 := none) (c0 := 0) (c1 := 0) (f := 0) (o := false) HZ5.out (Kd.R_nil _ _ _ _ _) (Kd.R_nil _ _ _ _ _) HB5.out HG.out
 refine bodyPost_ret (results_ct rfl _ _ gr 38 #[.slice none 0 0, .slice none 0 0, .int .i64 0, .bool false] (0, 0) _ rfl F.1 Try.underlying38 rfl (by kernel_rfl)) rfl ?_
 exact ⟨_, _, rfl, F.2.1, F.2.2.1, F.2.2.2⟩
set_option maxHeartbeats 8000000 in
theorem Write_off (A0 A1 : Option Addr) (c0 c1 : Nat) (S : List ByteArray) (C : List S74) (f : Int) (at_ : Int) (data : ByteArray) (w : World) (hr0 : Kd.C Kd.string w A0 S.length S) (hc0 : S.length ≤ c0) (hr1 : Kd.C k74 w A1 C.length C) (hc1 : C.length ≤ c1) (h : checkF S C f = 0)  :
 Calls Try.prog 37 #[.agg #[.slice A0 S.length c0, .slice A1 C.length c1, .int .i64 f, .bool true], .int .i64 at_, .string data] w fun e w' => ∃ v0_ v1_ : Value, e = .returned (.tuple #[.agg #[v0_, v1_, .int .i64 f, .bool true], .int .i64 9]) ∧ Kd.R Kd.string 9 w' w.heap.size (fun _ => True) v0_ S ∧ Kd.R k74 74 w' w.heap.size (fun _ => True) v1_ C ∧ Below w.heap.size w w' := by
 have R0 := Aside0.mk hr0
 have R1 := Aside0.mk hr1
 have HC0 := Aside0.mk hc0
 have HC1 := Aside0.mk hc1
 have HH := Aside0.mk h
 clear hr0 hc0 hr1 hc1 h
 go_enter Try.func37, Try.ntmps37
 go_wp2_with (first
  | ((with_reducible refine gate_dst (N := 3) rfl ?_); refine box_event ?hg (N := 3) ?hd (cs := #[.slice A0 S.length c0, .slice A1 C.length c1, .int .i64 f, .bool true]) (t := 38) ?hr ?_; (case hd => rfl); (case hg => rfl); (case hr => first | (go_simp; done) | (go_simp; rfl)); intro gx hg w3 hbox hb3; obtain ⟨h0, h1, h2, h3⟩ := cells25_ hbox; have HX := Aside0.mk hbox; have HB := Aside0.mk (Below.trans (Below.refl _ _) hb3); clear hg hbox hb3)
  | ((with_reducible refine gate_dst (N := 6) rfl ?_); refine box_event ?hg (N := 6) ?hd (cs := #[.slice none 0 0, .slice none 0 0, .int .i64 0, .bool false]) (t := 38) ?hr ?_; (case hd => rfl); (case hg => rfl); (case hr => first | (go_simp; done) | (go_simp; rfl)); intro gr hg w4 hbox hb3; have HG := Aside0.mk (by rw [hg]; exact HB.out.size : w.heap.size ≤ gr); have HZ := Aside0.mk hbox; have n1_ := Aside0.mk (blk_below HX.out hb3); have n0_ := Aside0.mk (below_step HB.out hb3); clear h0 h1 h2 h3 HX HB; have HX := n1_; have HB := n0_; obtain ⟨h0, h1, h2, h3⟩ := cells25_ HX.out; clear hg hbox hb3 n0_ n1_)
  | (go_at_call 42; refine (open_dr A0 A1 c0 c1 S C f true w _ HB.out R0.out HC0.out R1.out HC1.out HH.out).mono ?_; rintro e w5 ⟨g, rfl, hgw, hdr, hb5⟩; have HB5 := Aside0.mk (below_step HB.out hb5); have HZ5 := Aside0.mk (blk_below HZ.out hb5); have n1_ := Aside0.mk (blk_below HX.out hb5); have HN := Aside0.mk (show gr ≠ g by have := blk_lt HZ.out; omega); clear HB h0 h1 h2 h3 HX; have HX := n1_; obtain ⟨h0, h1, h2, h3⟩ := cells25_ HX.out; have HDR := Aside0.mk hdr; obtain ⟨B0, e0, B1, e1, hd0, hd1, hd2, hd3, hd4⟩ := hdr; have HD1 := Aside0.mk hd1; have HD2 := Aside0.mk hd2; have HD3 := Aside0.mk hd3; obtain ⟨⟨d0, d1, d2, d3⟩, ⟨t0, t1, t2, t3⟩⟩ := k51 hd1; obtain ⟨y0, y1, y2, y3⟩ := cells25_ HZ5.out; obtain ⟨q0, q1, q2, q3⟩ := f25a HZ5.out; clear hb5 n1_ hd0 hd1 hd2 hd3 hd4 hgw))
 have F := fin25 (f := f) (o := true) HZ5.out HD2.out HD3.out HB5.out HG.out
 refine bodyPost_ret (results_ct rfl _ _ gr 38 #[.slice B0 S.length e0, .slice B1 C.length e1, .int .i64 f, .bool true] (0, 0) _ rfl F.1 Try.underlying38 rfl (by kernel_rfl)) rfl ?_
 exact ⟨_, _, rfl, F.2.1, F.2.2.1, F.2.2.2⟩
set_option maxHeartbeats 8000000 in
theorem Write_range (A0 A1 : Option Addr) (c0 c1 : Nat) (S : List ByteArray) (C : List S74) (f : Int) (at_ : Int) (data : ByteArray) (w : World) (hr0 : Kd.C Kd.string w A0 S.length S) (hc0 : S.length ≤ c0) (hr1 : Kd.C k74 w A1 C.length C) (hc1 : C.length ≤ c1) (h : checkF S C f = 0) (hh : hasF S.length at_ = false) :
 Calls Try.prog 37 #[.agg #[.slice A0 S.length c0, .slice A1 C.length c1, .int .i64 f, .bool false], .int .i64 at_, .string data] w fun e w' => ∃ v0_ v1_ : Value, e = .returned (.tuple #[.agg #[v0_, v1_, .int .i64 f, .bool false], .int .i64 1]) ∧ Kd.R Kd.string 9 w' w.heap.size (fun _ => True) v0_ S ∧ Kd.R k74 74 w' w.heap.size (fun _ => True) v1_ C ∧ Below w.heap.size w w' := by
 have R0 := Aside0.mk hr0
 have R1 := Aside0.mk hr1
 have HC0 := Aside0.mk hc0
 have HC1 := Aside0.mk hc1
 have HH := Aside0.mk h
 clear hr0 hc0 hr1 hc1 h
 have HHAS := Aside0.mk hh
 clear hh
 go_enter Try.func37, Try.ntmps37
 go_wp2_with (first
  | ((with_reducible refine gate_dst (N := 3) rfl ?_); refine box_event ?hg (N := 3) ?hd (cs := #[.slice A0 S.length c0, .slice A1 C.length c1, .int .i64 f, .bool false]) (t := 38) ?hr ?_; (case hd => rfl); (case hg => rfl); (case hr => first | (go_simp; done) | (go_simp; rfl)); intro gx hg w3 hbox hb3; obtain ⟨h0, h1, h2, h3⟩ := cells25_ hbox; have HX := Aside0.mk hbox; have HB := Aside0.mk (Below.trans (Below.refl _ _) hb3); clear hg hbox hb3)
  | ((with_reducible refine gate_dst (N := 6) rfl ?_); refine box_event ?hg (N := 6) ?hd (cs := #[.slice none 0 0, .slice none 0 0, .int .i64 0, .bool false]) (t := 38) ?hr ?_; (case hd => rfl); (case hg => rfl); (case hr => first | (go_simp; done) | (go_simp; rfl)); intro gr hg w4 hbox hb3; have HG := Aside0.mk (by rw [hg]; exact HB.out.size : w.heap.size ≤ gr); have HZ := Aside0.mk hbox; have n1_ := Aside0.mk (blk_below HX.out hb3); have n0_ := Aside0.mk (below_step HB.out hb3); clear h0 h1 h2 h3 HX HB; have HX := n1_; have HB := n0_; obtain ⟨h0, h1, h2, h3⟩ := cells25_ HX.out; clear hg hbox hb3 n0_ n1_)
  | (go_at_call 42; refine (open_dr A0 A1 c0 c1 S C f false w _ HB.out R0.out HC0.out R1.out HC1.out HH.out).mono ?_; rintro e w5 ⟨g, rfl, hgw, hdr, hb5⟩; have HB5 := Aside0.mk (below_step HB.out hb5); have HZ5 := Aside0.mk (blk_below HZ.out hb5); have n1_ := Aside0.mk (blk_below HX.out hb5); have HN := Aside0.mk (show gr ≠ g by have := blk_lt HZ.out; omega); clear HB h0 h1 h2 h3 HX; have HX := n1_; obtain ⟨h0, h1, h2, h3⟩ := cells25_ HX.out; have HDR := Aside0.mk hdr; obtain ⟨B0, e0, B1, e1, hd0, hd1, hd2, hd3, hd4⟩ := hdr; have HD1 := Aside0.mk hd1; have HD2 := Aside0.mk hd2; have HD3 := Aside0.mk hd3; obtain ⟨⟨d0, d1, d2, d3⟩, ⟨t0, t1, t2, t3⟩⟩ := k51 hd1; obtain ⟨y0, y1, y2, y3⟩ := cells25_ HZ5.out; obtain ⟨q0, q1, q2, q3⟩ := f25a HZ5.out; clear hb5 n1_ hd0 hd1 hd2 hd3 hd4 hgw)
  | (go_at_call 46; refine (has_calls .nilIface _ A0 c0 S.length f false at_ _).mono ?_; rintro e w6 ⟨rfl, hb6⟩; rw [HHAS.out]; have m0_ := Aside0.mk (blk_below HX.out hb6); have m1_ := Aside0.mk (blk_below HZ5.out hb6); have m2_ := Aside0.mk (blk_below HD1.out hb6); have m3_ := Aside0.mk (Kd.R_below HD2.out hb6); have m4_ := Aside0.mk (Kd.R_below HD3.out hb6); have m5_ := Aside0.mk (below_step HB5.out hb6); have m6_ := Aside0.mk (Dr.below HDR.out hb6); clear HX HZ5 HD1 HD2 HD3 HB5 HDR h0 h1 h2 h3 d0 d1 d2 d3 t0 t1 t2 t3 y0 y1 y2 y3 q0 q1 q2 q3; have HX := m0_; have HZ5 := m1_; have HD1 := m2_; have HD2 := m3_; have HD3 := m4_; have HB5 := m5_; have HDR := m6_; clear m0_ m1_ m2_ m3_ m4_ m5_ m6_ hb6; obtain ⟨h0, h1, h2, h3⟩ := cells25_ HX.out; obtain ⟨⟨d0, d1, d2, d3⟩, ⟨t0, t1, t2, t3⟩⟩ := k51 HD1.out; obtain ⟨y0, y1, y2, y3⟩ := cells25_ HZ5.out; obtain ⟨q0, q1, q2, q3⟩ := f25a HZ5.out))
 have F := fin25 (f := f) (o := false) HZ5.out HD2.out HD3.out HB5.out HG.out
 refine bodyPost_ret (results_ct rfl _ _ gr 38 #[.slice B0 S.length e0, .slice B1 C.length e1, .int .i64 f, .bool false] (0, 0) _ rfl F.1 Try.underlying38 rfl (by kernel_rfl)) rfl ?_
 exact ⟨_, _, rfl, F.2.1, F.2.2.1, F.2.2.2⟩
set_option maxHeartbeats 8000000 in
theorem Write_long (A0 A1 : Option Addr) (c0 c1 : Nat) (S : List ByteArray) (C : List S74) (f : Int) (at_ : Int) (data : ByteArray) (w : World) (hr0 : Kd.C Kd.string w A0 S.length S) (hc0 : S.length ≤ c0) (hr1 : Kd.C k74 w A1 C.length C) (hc1 : C.length ≤ c1) (h : checkF S C f = 0) (hh : hasF S.length at_ = true) (hd : ¬ data.size = 128) :
 Calls Try.prog 37 #[.agg #[.slice A0 S.length c0, .slice A1 C.length c1, .int .i64 f, .bool false], .int .i64 at_, .string data] w fun e w' => ∃ v0_ v1_ : Value, e = .returned (.tuple #[.agg #[v0_, v1_, .int .i64 f, .bool false], .int .i64 11]) ∧ Kd.R Kd.string 9 w' w.heap.size (fun _ => True) v0_ S ∧ Kd.R k74 74 w' w.heap.size (fun _ => True) v1_ C ∧ Below w.heap.size w w' := by
 have R0 := Aside0.mk hr0
 have R1 := Aside0.mk hr1
 have HC0 := Aside0.mk hc0
 have HC1 := Aside0.mk hc1
 have HH := Aside0.mk h
 clear hr0 hc0 hr1 hc1 h
 have HHAS := Aside0.mk hh
 clear hh
 have k1 : ((data.size : Int) == 128) = false := by simp; omega
 have k2 : ((data.size : Int) != 128) = true := by simp; omega
 have k3 : (data.size == 128) = false := by simp; omega
 clear hd
 go_enter Try.func37, Try.ntmps37
 go_wp2_with (first
  | ((with_reducible refine gate_dst (N := 3) rfl ?_); refine box_event ?hg (N := 3) ?hd (cs := #[.slice A0 S.length c0, .slice A1 C.length c1, .int .i64 f, .bool false]) (t := 38) ?hr ?_; (case hd => rfl); (case hg => rfl); (case hr => first | (go_simp; done) | (go_simp; rfl)); intro gx hg w3 hbox hb3; obtain ⟨h0, h1, h2, h3⟩ := cells25_ hbox; have HX := Aside0.mk hbox; have HB := Aside0.mk (Below.trans (Below.refl _ _) hb3); clear hg hbox hb3)
  | ((with_reducible refine gate_dst (N := 6) rfl ?_); refine box_event ?hg (N := 6) ?hd (cs := #[.slice none 0 0, .slice none 0 0, .int .i64 0, .bool false]) (t := 38) ?hr ?_; (case hd => rfl); (case hg => rfl); (case hr => first | (go_simp; done) | (go_simp; rfl)); intro gr hg w4 hbox hb3; have HG := Aside0.mk (by rw [hg]; exact HB.out.size : w.heap.size ≤ gr); have HZ := Aside0.mk hbox; have n1_ := Aside0.mk (blk_below HX.out hb3); have n0_ := Aside0.mk (below_step HB.out hb3); clear h0 h1 h2 h3 HX HB; have HX := n1_; have HB := n0_; obtain ⟨h0, h1, h2, h3⟩ := cells25_ HX.out; clear hg hbox hb3 n0_ n1_)
  | (go_at_call 42; refine (open_dr A0 A1 c0 c1 S C f false w _ HB.out R0.out HC0.out R1.out HC1.out HH.out).mono ?_; rintro e w5 ⟨g, rfl, hgw, hdr, hb5⟩; have HB5 := Aside0.mk (below_step HB.out hb5); have HZ5 := Aside0.mk (blk_below HZ.out hb5); have n1_ := Aside0.mk (blk_below HX.out hb5); have HN := Aside0.mk (show gr ≠ g by have := blk_lt HZ.out; omega); clear HB h0 h1 h2 h3 HX; have HX := n1_; obtain ⟨h0, h1, h2, h3⟩ := cells25_ HX.out; have HDR := Aside0.mk hdr; obtain ⟨B0, e0, B1, e1, hd0, hd1, hd2, hd3, hd4⟩ := hdr; have HD1 := Aside0.mk hd1; have HD2 := Aside0.mk hd2; have HD3 := Aside0.mk hd3; obtain ⟨⟨d0, d1, d2, d3⟩, ⟨t0, t1, t2, t3⟩⟩ := k51 hd1; obtain ⟨y0, y1, y2, y3⟩ := cells25_ HZ5.out; obtain ⟨q0, q1, q2, q3⟩ := f25a HZ5.out; clear hb5 n1_ hd0 hd1 hd2 hd3 hd4 hgw)
  | (go_at_call 46; refine (has_calls .nilIface _ A0 c0 S.length f false at_ _).mono ?_; rintro e w6 ⟨rfl, hb6⟩; rw [HHAS.out]; have m0_ := Aside0.mk (blk_below HX.out hb6); have m1_ := Aside0.mk (blk_below HZ5.out hb6); have m2_ := Aside0.mk (blk_below HD1.out hb6); have m3_ := Aside0.mk (Kd.R_below HD2.out hb6); have m4_ := Aside0.mk (Kd.R_below HD3.out hb6); have m5_ := Aside0.mk (below_step HB5.out hb6); have m6_ := Aside0.mk (Dr.below HDR.out hb6); clear HX HZ5 HD1 HD2 HD3 HB5 HDR h0 h1 h2 h3 d0 d1 d2 d3 t0 t1 t2 t3 y0 y1 y2 y3 q0 q1 q2 q3; have HX := m0_; have HZ5 := m1_; have HD1 := m2_; have HD2 := m3_; have HD3 := m4_; have HB5 := m5_; have HDR := m6_; clear m0_ m1_ m2_ m3_ m4_ m5_ m6_ hb6; obtain ⟨h0, h1, h2, h3⟩ := cells25_ HX.out; obtain ⟨⟨d0, d1, d2, d3⟩, ⟨t0, t1, t2, t3⟩⟩ := k51 HD1.out; obtain ⟨y0, y1, y2, y3⟩ := cells25_ HZ5.out; obtain ⟨q0, q1, q2, q3⟩ := f25a HZ5.out))
 have F := fin25 (f := f) (o := false) HZ5.out HD2.out HD3.out HB5.out HG.out
 refine bodyPost_ret (results_ct rfl _ _ gr 38 #[.slice B0 S.length e0, .slice B1 C.length e1, .int .i64 f, .bool false] (0, 0) _ rfl F.1 Try.underlying38 rfl (by kernel_rfl)) rfl ?_
 exact ⟨_, _, rfl, F.2.1, F.2.2.1, F.2.2.2⟩
set_option maxHeartbeats 8000000 in
theorem Write_full (A0 A1 : Option Addr) (c0 c1 : Nat) (S : List ByteArray) (C : List S74) (f : Int) (at_ : Int) (data : ByteArray) (w : World) (hr0 : Kd.C Kd.string w A0 S.length S) (hc0 : S.length ≤ c0) (hr1 : Kd.C k74 w A1 C.length C) (hc1 : C.length ≤ c1) (h : checkF S C f = 0) (hh : hasF S.length at_ = true) (hd : data.size = 128) (hl : C.length = 4096) :
 Calls Try.prog 37 #[.agg #[.slice A0 S.length c0, .slice A1 C.length c1, .int .i64 f, .bool false], .int .i64 at_, .string data] w fun e w' => ∃ v0_ v1_ : Value, e = .returned (.tuple #[.agg #[v0_, v1_, .int .i64 f, .bool false], .int .i64 8]) ∧ Kd.R Kd.string 9 w' w.heap.size (fun _ => True) v0_ S ∧ Kd.R k74 74 w' w.heap.size (fun _ => True) v1_ C ∧ Below w.heap.size w w' := by
 have R0 := Aside0.mk hr0
 have R1 := Aside0.mk hr1
 have HC0 := Aside0.mk hc0
 have HC1 := Aside0.mk hc1
 have HH := Aside0.mk h
 clear hr0 hc0 hr1 hc1 h
 have HHAS := Aside0.mk hh
 clear hh
 have k1 : ((data.size : Int) == 128) = true := by simp; omega
 have k2 : ((data.size : Int) != 128) = false := by simp; omega
 have k3 : (data.size == 128) = true := by simp; omega
 have k4 : ((C.length : Int) == 4096) = true := by simp; omega
 have k5 : (C.length == 4096) = true := by simp; omega
 clear hd hl
 go_enter Try.func37, Try.ntmps37
 go_wp2_with (first
  | ((with_reducible refine gate_dst (N := 3) rfl ?_); refine box_event ?hg (N := 3) ?hd (cs := #[.slice A0 S.length c0, .slice A1 C.length c1, .int .i64 f, .bool false]) (t := 38) ?hr ?_; (case hd => rfl); (case hg => rfl); (case hr => first | (go_simp; done) | (go_simp; rfl)); intro gx hg w3 hbox hb3; obtain ⟨h0, h1, h2, h3⟩ := cells25_ hbox; have HX := Aside0.mk hbox; have HB := Aside0.mk (Below.trans (Below.refl _ _) hb3); clear hg hbox hb3)
  | ((with_reducible refine gate_dst (N := 6) rfl ?_); refine box_event ?hg (N := 6) ?hd (cs := #[.slice none 0 0, .slice none 0 0, .int .i64 0, .bool false]) (t := 38) ?hr ?_; (case hd => rfl); (case hg => rfl); (case hr => first | (go_simp; done) | (go_simp; rfl)); intro gr hg w4 hbox hb3; have HG := Aside0.mk (by rw [hg]; exact HB.out.size : w.heap.size ≤ gr); have HZ := Aside0.mk hbox; have n1_ := Aside0.mk (blk_below HX.out hb3); have n0_ := Aside0.mk (below_step HB.out hb3); clear h0 h1 h2 h3 HX HB; have HX := n1_; have HB := n0_; obtain ⟨h0, h1, h2, h3⟩ := cells25_ HX.out; clear hg hbox hb3 n0_ n1_)
  | (go_at_call 42; refine (open_dr A0 A1 c0 c1 S C f false w _ HB.out R0.out HC0.out R1.out HC1.out HH.out).mono ?_; rintro e w5 ⟨g, rfl, hgw, hdr, hb5⟩; have HB5 := Aside0.mk (below_step HB.out hb5); have HZ5 := Aside0.mk (blk_below HZ.out hb5); have n1_ := Aside0.mk (blk_below HX.out hb5); have HN := Aside0.mk (show gr ≠ g by have := blk_lt HZ.out; omega); clear HB h0 h1 h2 h3 HX; have HX := n1_; obtain ⟨h0, h1, h2, h3⟩ := cells25_ HX.out; have HDR := Aside0.mk hdr; obtain ⟨B0, e0, B1, e1, hd0, hd1, hd2, hd3, hd4⟩ := hdr; have HD1 := Aside0.mk hd1; have HD2 := Aside0.mk hd2; have HD3 := Aside0.mk hd3; obtain ⟨⟨d0, d1, d2, d3⟩, ⟨t0, t1, t2, t3⟩⟩ := k51 hd1; obtain ⟨y0, y1, y2, y3⟩ := cells25_ HZ5.out; obtain ⟨q0, q1, q2, q3⟩ := f25a HZ5.out; clear hb5 n1_ hd0 hd1 hd2 hd3 hd4 hgw)
  | (go_at_call 46; refine (has_calls .nilIface _ A0 c0 S.length f false at_ _).mono ?_; rintro e w6 ⟨rfl, hb6⟩; rw [HHAS.out]; have m0_ := Aside0.mk (blk_below HX.out hb6); have m1_ := Aside0.mk (blk_below HZ5.out hb6); have m2_ := Aside0.mk (blk_below HD1.out hb6); have m3_ := Aside0.mk (Kd.R_below HD2.out hb6); have m4_ := Aside0.mk (Kd.R_below HD3.out hb6); have m5_ := Aside0.mk (below_step HB5.out hb6); have m6_ := Aside0.mk (Dr.below HDR.out hb6); clear HX HZ5 HD1 HD2 HD3 HB5 HDR h0 h1 h2 h3 d0 d1 d2 d3 t0 t1 t2 t3 y0 y1 y2 y3 q0 q1 q2 q3; have HX := m0_; have HZ5 := m1_; have HD1 := m2_; have HD2 := m3_; have HD3 := m4_; have HB5 := m5_; have HDR := m6_; clear m0_ m1_ m2_ m3_ m4_ m5_ m6_ hb6; obtain ⟨h0, h1, h2, h3⟩ := cells25_ HX.out; obtain ⟨⟨d0, d1, d2, d3⟩, ⟨t0, t1, t2, t3⟩⟩ := k51 HD1.out; obtain ⟨y0, y1, y2, y3⟩ := cells25_ HZ5.out; obtain ⟨q0, q1, q2, q3⟩ := f25a HZ5.out))
 have F := fin25 (f := f) (o := false) HZ5.out HD2.out HD3.out HB5.out HG.out
 refine bodyPost_ret (results_ct rfl _ _ gr 38 #[.slice B0 S.length e0, .slice B1 C.length e1, .int .i64 f, .bool false] (0, 0) _ rfl F.1 Try.underlying38 rfl (by kernel_rfl)) rfl ?_
 exact ⟨_, _, rfl, F.2.1, F.2.2.1, F.2.2.2⟩
set_option maxHeartbeats 8000000 in
theorem Write_put (A0 A1 : Option Addr) (c0 c1 : Nat) (S : List ByteArray) (C : List S74) (f : Int) (at_ : Int) (data : ByteArray) (w : World) (hr0 : Kd.C Kd.string w A0 S.length S) (hc0 : S.length ≤ c0) (hr1 : Kd.C k74 w A1 C.length C) (hc1 : C.length ≤ c1) (h : checkF S C f = 0) (hh : hasF S.length at_ = true) (hd : data.size = 128) (hl : C.length ≤ 4095) (C' : List S74) (hC' : C' = C ++ [⟨at_, data⟩]) (r1 r2 : Int) (r3 : Bool) (hp : powerF f false = (r1, r2, r3)) :
 Calls Try.prog 37 #[.agg #[.slice A0 S.length c0, .slice A1 C.length c1, .int .i64 f, .bool false], .int .i64 at_, .string data] w fun e w' => ∃ v0_ v1_ : Value, e = .returned (.tuple #[.agg #[v0_, v1_, .int .i64 r2, .bool r3], .int .i64 r1]) ∧ Kd.R Kd.string 9 w' w.heap.size (fun _ => True) v0_ S ∧ Kd.R k74 74 w' w.heap.size (fun _ => True) v1_ C' ∧ Below w.heap.size w w' := by
 have R0 := Aside0.mk hr0
 have R1 := Aside0.mk hr1
 have HC0 := Aside0.mk hc0
 have HC1 := Aside0.mk hc1
 have HH := Aside0.mk h
 clear hr0 hc0 hr1 hc1 h
 have HHAS := Aside0.mk hh
 clear hh
 have k1 : ((data.size : Int) == 128) = true := by simp; omega
 have k2 : ((data.size : Int) != 128) = false := by simp; omega
 have k3 : (data.size == 128) = true := by simp; omega
 have k4 : ((C.length : Int) == 4096) = false := by simp; omega
 have k5 : (C.length == 4096) = false := by simp; omega
 have HLN := Aside0.mk hl
 have HC' := Aside0.mk hC'
 have HP := Aside0.mk hp
 clear hd hl hC' hp
 go_enter Try.func37, Try.ntmps37
 go_wp2_with (first
  | ((with_reducible refine gate_dst (N := 3) rfl ?_); refine box_event ?hg (N := 3) ?hd (cs := #[.slice A0 S.length c0, .slice A1 C.length c1, .int .i64 f, .bool false]) (t := 38) ?hr ?_; (case hd => rfl); (case hg => rfl); (case hr => first | (go_simp; done) | (go_simp; rfl)); intro gx hg w3 hbox hb3; obtain ⟨h0, h1, h2, h3⟩ := cells25_ hbox; have HX := Aside0.mk hbox; have HB := Aside0.mk (Below.trans (Below.refl _ _) hb3); clear hg hbox hb3)
  | ((with_reducible refine gate_dst (N := 6) rfl ?_); refine box_event ?hg (N := 6) ?hd (cs := #[.slice none 0 0, .slice none 0 0, .int .i64 0, .bool false]) (t := 38) ?hr ?_; (case hd => rfl); (case hg => rfl); (case hr => first | (go_simp; done) | (go_simp; rfl)); intro gr hg w4 hbox hb3; have HG := Aside0.mk (by rw [hg]; exact HB.out.size : w.heap.size ≤ gr); have HZ := Aside0.mk hbox; have n1_ := Aside0.mk (blk_below HX.out hb3); have n0_ := Aside0.mk (below_step HB.out hb3); clear h0 h1 h2 h3 HX HB; have HX := n1_; have HB := n0_; obtain ⟨h0, h1, h2, h3⟩ := cells25_ HX.out; clear hg hbox hb3 n0_ n1_)
  | (go_at_call 42; refine (open_dr A0 A1 c0 c1 S C f false w _ HB.out R0.out HC0.out R1.out HC1.out HH.out).mono ?_; rintro e w5 ⟨g, rfl, hgw, hdr, hb5⟩; have HB5 := Aside0.mk (below_step HB.out hb5); have HZ5 := Aside0.mk (blk_below HZ.out hb5); have n1_ := Aside0.mk (blk_below HX.out hb5); have HN := Aside0.mk (show gr ≠ g by have := blk_lt HZ.out; omega); clear HB h0 h1 h2 h3 HX; have HX := n1_; obtain ⟨h0, h1, h2, h3⟩ := cells25_ HX.out; have HDR := Aside0.mk hdr; obtain ⟨B0, e0, B1, e1, hd0, hd1, hd2, hd3, hd4⟩ := hdr; have HD1 := Aside0.mk hd1; have HGW := Aside0.mk hd0; have HD2 := Aside0.mk hd2; have HD3 := Aside0.mk hd3; obtain ⟨⟨d0, d1, d2, d3⟩, ⟨t0, t1, t2, t3⟩⟩ := k51 hd1; obtain ⟨y0, y1, y2, y3⟩ := cells25_ HZ5.out; obtain ⟨q0, q1, q2, q3⟩ := f25a HZ5.out; clear hb5 n1_ hd0 hd1 hd2 hd3 hd4 hgw)
  | (go_at_call 46; refine (has_calls .nilIface _ A0 c0 S.length f false at_ _).mono ?_; rintro e w6 ⟨rfl, hb6⟩; rw [HHAS.out]; have m0_ := Aside0.mk (blk_below HX.out hb6); have m1_ := Aside0.mk (blk_below HZ5.out hb6); have m2_ := Aside0.mk (blk_below HD1.out hb6); have m3_ := Aside0.mk (Kd.R_below HD2.out hb6); have m4_ := Aside0.mk (Kd.R_below HD3.out hb6); have m5_ := Aside0.mk (below_step HB5.out hb6); have m6_ := Aside0.mk (Dr.below HDR.out hb6); clear HX HZ5 HD1 HD2 HD3 HB5 HDR h0 h1 h2 h3 d0 d1 d2 d3 t0 t1 t2 t3 y0 y1 y2 y3 q0 q1 q2 q3; have HX := m0_; have HZ5 := m1_; have HD1 := m2_; have HD2 := m3_; have HD3 := m4_; have HB5 := m5_; have HDR := m6_; clear m0_ m1_ m2_ m3_ m4_ m5_ m6_ hb6; obtain ⟨h0, h1, h2, h3⟩ := cells25_ HX.out; obtain ⟨⟨d0, d1, d2, d3⟩, ⟨t0, t1, t2, t3⟩⟩ := k51 HD1.out; obtain ⟨y0, y1, y2, y3⟩ := cells25_ HZ5.out; obtain ⟨q0, q1, q2, q3⟩ := f25a HZ5.out)
  | ((with_reducible refine gate_builtin (b := .append) (xs := #[.tmp 58, .tmp 62]) rfl ?_); at_builtin; refine Kd.R_append k74 (w0 := w) w.heap.size rfl (.tmp 58) (.tmp 62) 36 74 (.agg #[(.int .i64 0), (.string ⟨#[]⟩)]) 24 rfl Try.underlying36 info74 rfl (by decide) (by omega) (.slice B1 C.length e1) C (⟨at_, data⟩ : S74) [.int .i64 at_, .string data] (fun _ => True) (fun _ => False) rfl rfl (k74_mkM _ _ _ (⟨at_, data⟩ : S74)) (fun _ hk => hk.elim) (fun _ _ => trivial) HD3.out HB5.out HB5.out.size (by have := HLN.out; omega) ?_; intro v7 w7 ho hb7 hg hat; rw [← HC'.out] at ho; obtain ⟨B2, e2, rfl⟩ := Kd.R_slice ho; have m0_ := Aside0.mk (blk_grown HZ5.out hg (Kd.R_ne HD3.out HZ5.out (by decide))); have m1_ := Aside0.mk (blk_grown HD1.out hg (Kd.R_ne HD3.out HD1.out (by decide))); have m2_ := Aside0.mk (Kd.R_over' HD2.out (Kd.R_typed HD3.out) (by decide) hg); have m3_ := Aside0.mk ho; have m4_ := Aside0.mk hb7; have m5_ := HGW; clear HX HZ5 HD1 HD2 HD3 HB5 HDR h0 h1 h2 h3 d0 d1 d2 d3 t0 t1 t2 t3 y0 y1 y2 y3 q0 q1 q2 q3; have HZ5 := m0_; have HD1 := m1_; have HD2 := m2_; have HD3 := m3_; have HB5 := m4_; clear m0_ m1_ m2_ m3_ m4_ ho hb7 hg hat; obtain ⟨⟨d0, d1, d2, d3⟩, ⟨t0, t1, t2, t3⟩⟩ := k51 HD1.out)
  | (go_at_call 53; refine (power_dr w _ g S C' f false ?dr).mono ?_; (case dr => exact ⟨B0, e0, B2, e2, HGW.out, blk_put HD1.out 1 _ rfl, Kd.R_set HD2.out HD1.out (by decide) 1 _, Kd.R_set HD3.out HD1.out (by decide) 1 _, below_set HB5.out HGW.out⟩); rw [HP.out]; rintro e w8 ⟨rfl, hdr8, hk8⟩; obtain ⟨B3, e3, B4, e4, hd0, hd1, hd2, hd3, hd4⟩ := hdr8; have HE1 := Aside0.mk hd1; have HE2 := Aside0.mk hd2; have HE3 := Aside0.mk hd3; have HE4 := Aside0.mk hd4; have HZ8 := Aside0.mk (hk8 _ _ (blk_far (p := ⟨g, 1, none⟩) HZ5.out HN.out _)); obtain ⟨⟨d0, d1, d2, d3⟩, ⟨t0, t1, t2, t3⟩⟩ := k51 hd1; obtain ⟨y0, y1, y2, y3⟩ := cells25_ HZ8.out; obtain ⟨q0, q1, q2, q3⟩ := f25a HZ8.out; clear hd0 hd1 hd2 hd3 hd4 hk8))
 have F := fin25 (f := r2) (o := r3) HZ8.out HE2.out HE3.out HE4.out HG.out
 refine bodyPost_ret (results_ct rfl _ _ gr 38 #[.slice B3 S.length e3, .slice B4 C'.length e4, .int .i64 r2, .bool r3] (0, 0) _ rfl F.1 Try.underlying38 rfl (by kernel_rfl)) rfl ?_
 exact ⟨_, _, rfl, F.2.1, F.2.2.1, F.2.2.2⟩
theorem checkF_in (S : List ByteArray) (C : List S74) (f : Int) (h : checkF S C f = 0) : (∀ i, (h : i < C.length) → 0 ≤ C[i].f0 ∧ C[i].f0 < (S.length : Int)) ∧ S.length ≤ 1024 ∧ C.length ≤ 4096 := by
 refine ⟨?_, ((checkF_cases S C f).resolve_left (by rw [h]; decide)).2⟩
 unfold checkF at h
 split at h
 · exact absurd h (by decide)
 · split at h
   · exact absurd h (by decide)
   · split at h
     · exact absurd h (by decide)
     · rename_i hc
       intro i hi
       rw [Bool.not_eq_true, List.any_eq_false] at hc
       have := hc C[i] (List.getElem_mem hi)
       unfold badF hasF at this
       simp only [Bool.or_eq_true, not_or, Bool.not_eq_true', Bool.and_eq_false_iff, decide_eq_false_iff_not] at this
       omega
set_option maxHeartbeats 8000000 in
theorem Flush_bad (A0 A1 : Option Addr) (c0 c1 : Nat) (S : List ByteArray) (C : List S74) (f : Int) (o : Bool)  (w : World) (hr0 : Kd.C Kd.string w A0 S.length S) (hc0 : S.length ≤ c0) (hr1 : Kd.C k74 w A1 C.length C) (hc1 : C.length ≤ c1) (h : checkF S C f = 2) :
 Calls Try.prog 38 #[.agg #[.slice A0 S.length c0, .slice A1 C.length c1, .int .i64 f, .bool o]] w fun e w' => ∃ v0_ v1_ : Value, e = .returned (.tuple #[.agg #[v0_, v1_, .int .i64 0, .bool false], .int .i64 2]) ∧ Kd.R Kd.string 9 w' w.heap.size (fun _ => True) v0_ ([] : List ByteArray) ∧ Kd.R k74 74 w' w.heap.size (fun _ => True) v1_ ([] : List S74) ∧ Below w.heap.size w w' := by
 have R0 := Aside0.mk hr0
 have R1 := Aside0.mk hr1
 have HC0 := Aside0.mk hc0
 have HC1 := Aside0.mk hc1
 have HH := Aside0.mk h
 clear hr0 hc0 hr1 hc1 h
 go_enter Try.func38, Try.ntmps38
 go_wp2_with (first
  | ((with_reducible refine gate_dst (N := 1) rfl ?_); refine box_event ?hg (N := 1) ?hd (cs := #[.slice A0 S.length c0, .slice A1 C.length c1, .int .i64 f, .bool o]) (t := 38) ?hr ?_; (case hd => rfl); (case hg => rfl); (case hr => first | (go_simp; done) | (go_simp; rfl)); intro gx hg w3 hbox hb3; obtain ⟨h0, h1, h2, h3⟩ := cells25_ hbox; have HX := Aside0.mk hbox; have HB := Aside0.mk (Below.trans (Below.refl _ _) hb3); clear hg hbox hb3)
  | ((with_reducible refine gate_dst (N := 2) rfl ?_); refine box_event ?hg (N := 2) ?hd (cs := #[.slice none 0 0, .slice none 0 0, .int .i64 0, .bool false]) (t := 38) ?hr ?_; (case hd => rfl); (case hg => rfl); (case hr => first | (go_simp; done) | (go_simp; rfl)); intro gr hg w4 hbox hb3; have HG := Aside0.mk (by rw [hg]; exact HB.out.size : w.heap.size ≤ gr); have HZ := Aside0.mk hbox; have n1_ := Aside0.mk (blk_below HX.out hb3); have n0_ := Aside0.mk (below_step HB.out hb3); clear h0 h1 h2 h3 HX HB; have HX := n1_; have HB := n0_; obtain ⟨h0, h1, h2, h3⟩ := cells25_ HX.out; clear hg hbox hb3 n0_ n1_)
  | (go_at_call 42; refine (disk_open_bad A0 A1 c0 c1 S C f o _ (Kd.C_below R0.out HB.out) (Kd.C_below R1.out HB.out) HH.out).mono ?_; rintro e w5 ⟨rfl, hb5⟩; have HB5 := Aside0.mk (below_step HB.out hb5); have HZ5 := Aside0.mk (blk_below HZ.out hb5); clear HB hb5 HX h0 h1 h2 h3; obtain ⟨y0, y1, y2, y3⟩ := cells25_ HZ5.out; obtain ⟨q0, q1, q2, q3⟩ := f25a HZ5.out))
 have F := fin25 (S := []) (C := []) (A0 := none) (A1 := none) (c0 := 0) (c1 := 0) (f := 0) (o := false) HZ5.out (Kd.R_nil _ _ _ _ _) (Kd.R_nil _ _ _ _ _) HB5.out HG.out
 refine bodyPost_ret (results_ct rfl _ _ gr 38 #[.slice none 0 0, .slice none 0 0, .int .i64 0, .bool false] (0, 0) _ rfl F.1 Try.underlying38 rfl (by kernel_rfl)) rfl ?_
 exact ⟨_, _, rfl, F.2.1, F.2.2.1, F.2.2.2⟩
set_option maxHeartbeats 8000000 in
theorem Flush_no (A0 A1 : Option Addr) (c0 c1 : Nat) (S : List ByteArray) (C : List S74) (f : Int) (o : Bool) (w : World) (hr0 : Kd.C Kd.string w A0 S.length S) (hc0 : S.length ≤ c0) (hr1 : Kd.C k74 w A1 C.length C) (hc1 : C.length ≤ c1) (h : checkF S C f = 0) (r1 r2 : Int) (r3 : Bool) (hp : powerF f o = (r1, r2, r3)) (hr : ¬ r1 = 0) :
 Calls Try.prog 38 #[.agg #[.slice A0 S.length c0, .slice A1 C.length c1, .int .i64 f, .bool o]] w fun e w' => ∃ v0_ v1_ : Value, e = .returned (.tuple #[.agg #[v0_, v1_, .int .i64 r2, .bool r3], .int .i64 r1]) ∧ Kd.R Kd.string 9 w' w.heap.size (fun _ => True) v0_ S ∧ Kd.R k74 74 w' w.heap.size (fun _ => True) v1_ C ∧ Below w.heap.size w w' := by
 have R0 := Aside0.mk hr0
 have R1 := Aside0.mk hr1
 have HC0 := Aside0.mk hc0
 have HC1 := Aside0.mk hc1
 have HH := Aside0.mk h
 clear hr0 hc0 hr1 hc1 h
 have k1 : (r1 == 0) = false := by simpa using hr
 have k2 : (r1 != 0) = true := by simpa using hr
 have HP := Aside0.mk hp
 clear hr hp
 go_enter Try.func38, Try.ntmps38
 go_wp2_with (first
  | ((with_reducible refine gate_dst (N := 1) rfl ?_); refine box_event ?hg (N := 1) ?hd (cs := #[.slice A0 S.length c0, .slice A1 C.length c1, .int .i64 f, .bool o]) (t := 38) ?hr ?_; (case hd => rfl); (case hg => rfl); (case hr => first | (go_simp; done) | (go_simp; rfl)); intro gx hg w3 hbox hb3; obtain ⟨h0, h1, h2, h3⟩ := cells25_ hbox; have HX := Aside0.mk hbox; have HB := Aside0.mk (Below.trans (Below.refl _ _) hb3); clear hg hbox hb3)
  | ((with_reducible refine gate_dst (N := 2) rfl ?_); refine box_event ?hg (N := 2) ?hd (cs := #[.slice none 0 0, .slice none 0 0, .int .i64 0, .bool false]) (t := 38) ?hr ?_; (case hd => rfl); (case hg => rfl); (case hr => first | (go_simp; done) | (go_simp; rfl)); intro gr hg w4 hbox hb3; have HG := Aside0.mk (by rw [hg]; exact HB.out.size : w.heap.size ≤ gr); have HZ := Aside0.mk hbox; have n1_ := Aside0.mk (blk_below HX.out hb3); have n0_ := Aside0.mk (below_step HB.out hb3); clear h0 h1 h2 h3 HX HB; have HX := n1_; have HB := n0_; obtain ⟨h0, h1, h2, h3⟩ := cells25_ HX.out; clear hg hbox hb3 n0_ n1_)
  | (go_at_call 42; refine (open_dr A0 A1 c0 c1 S C f o w _ HB.out R0.out HC0.out R1.out HC1.out HH.out).mono ?_; rintro e w5 ⟨g, rfl, hgw, hdr, hb5⟩; have HB5 := Aside0.mk (below_step HB.out hb5); have HZ5 := Aside0.mk (blk_below HZ.out hb5); have n1_ := Aside0.mk (blk_below HX.out hb5); have HN := Aside0.mk (show gr ≠ g by have := blk_lt HZ.out; omega); clear HB h0 h1 h2 h3 HX; have HX := n1_; obtain ⟨h0, h1, h2, h3⟩ := cells25_ HX.out; have HDR := Aside0.mk hdr; obtain ⟨B0, e0, B1, e1, hd0, hd1, hd2, hd3, hd4⟩ := hdr; have HD1 := Aside0.mk hd1; have HD2 := Aside0.mk hd2; have HD3 := Aside0.mk hd3; obtain ⟨⟨d0, d1, d2, d3⟩, ⟨t0, t1, t2, t3⟩⟩ := k51 hd1; obtain ⟨y0, y1, y2, y3⟩ := cells25_ HZ5.out; obtain ⟨q0, q1, q2, q3⟩ := f25a HZ5.out; clear hb5 n1_ hd0 hd1 hd2 hd3 hd4 hgw)
  | (go_at_call 53; refine (power_dr w _ g S C f o HDR.out).mono ?_; rw [HP.out]; rintro e w8 ⟨rfl, hdr8, hk8⟩; have HDR8 := Aside0.mk hdr8; obtain ⟨B3, e3, B4, e4, hd0, hd1, hd2, hd3, hd4⟩ := hdr8; have HE1 := Aside0.mk hd1; have HE2 := Aside0.mk hd2; have HE3 := Aside0.mk hd3; have HE4 := Aside0.mk hd4; have HZ8 := Aside0.mk (hk8 _ _ HZ5.out); clear h0 h1 h2 h3 d0 d1 d2 d3 t0 t1 t2 t3 y0 y1 y2 y3 q0 q1 q2 q3; obtain ⟨⟨d0, d1, d2, d3⟩, ⟨t0, t1, t2, t3⟩⟩ := k51 hd1; obtain ⟨y0, y1, y2, y3⟩ := cells25_ HZ8.out; obtain ⟨q0, q1, q2, q3⟩ := f25a HZ8.out; clear hd0 hd1 hd2 hd3 hd4 hk8))
 have F := fin25 (f := r2) (o := r3) HZ8.out HE2.out HE3.out HE4.out HG.out
 refine bodyPost_ret (results_ct rfl _ _ gr 38 #[.slice B3 S.length e3, .slice B4 C.length e4, .int .i64 r2, .bool r3] (0, 0) _ rfl F.1 Try.underlying38 rfl (by kernel_rfl)) rfl ?_
 exact ⟨_, _, rfl, F.2.1, F.2.2.1, F.2.2.2⟩
set_option maxHeartbeats 8000000 in
theorem Flush_yes (A0 A1 : Option Addr) (c0 c1 : Nat) (S : List ByteArray) (C : List S74) (f : Int) (o : Bool) (w : World) (hr0 : Kd.C Kd.string w A0 S.length S) (hc0 : S.length ≤ c0) (hr1 : Kd.C k74 w A1 C.length C) (hc1 : C.length ≤ c1) (h : checkF S C f = 0) (r2 : Int) (r3 : Bool) (hp : powerF f o = (0, r2, r3)) (T : List ByteArray) (hT : T = applyF S C) :
 Calls Try.prog 38 #[.agg #[.slice A0 S.length c0, .slice A1 C.length c1, .int .i64 f, .bool o]] w fun e w' => ∃ v0_ v1_ : Value, e = .returned (.tuple #[.agg #[v0_, v1_, .int .i64 r2, .bool r3], .int .i64 0]) ∧ Kd.R Kd.string 9 w' w.heap.size (fun _ => True) v0_ T ∧ Kd.R k74 74 w' w.heap.size (fun _ => True) v1_ ([] : List S74) ∧ Below w.heap.size w w' := by
 have HIN := Aside0.mk (checkF_in S C f h).1
 have HLEN := Aside0.mk (checkF_in S C f h).2.2
 have R0 := Aside0.mk hr0
 have R1 := Aside0.mk hr1
 have HC0 := Aside0.mk hc0
 have HC1 := Aside0.mk hc1
 have HH := Aside0.mk h
 clear hr0 hc0 hr1 hc1 h
 have HP := Aside0.mk hp
 have HT := Aside0.mk hT
 clear hp hT
 go_enter Try.func38, Try.ntmps38
 go_wp2_with (first
  | ((with_reducible refine gate_dst (N := 1) rfl ?_); refine box_event ?hg (N := 1) ?hd (cs := #[.slice A0 S.length c0, .slice A1 C.length c1, .int .i64 f, .bool o]) (t := 38) ?hr ?_; (case hd => rfl); (case hg => rfl); (case hr => first | (go_simp; done) | (go_simp; rfl)); intro gx hg w3 hbox hb3; obtain ⟨h0, h1, h2, h3⟩ := cells25_ hbox; have HX := Aside0.mk hbox; have HB := Aside0.mk (Below.trans (Below.refl _ _) hb3); clear hg hbox hb3)
  | ((with_reducible refine gate_dst (N := 2) rfl ?_); refine box_event ?hg (N := 2) ?hd (cs := #[.slice none 0 0, .slice none 0 0, .int .i64 0, .bool false]) (t := 38) ?hr ?_; (case hd => rfl); (case hg => rfl); (case hr => first | (go_simp; done) | (go_simp; rfl)); intro gr hg w4 hbox hb3; have HG := Aside0.mk (by rw [hg]; exact HB.out.size : w.heap.size ≤ gr); have HZ := Aside0.mk hbox; have n1_ := Aside0.mk (blk_below HX.out hb3); have n0_ := Aside0.mk (below_step HB.out hb3); clear h0 h1 h2 h3 HX HB; have HX := n1_; have HB := n0_; obtain ⟨h0, h1, h2, h3⟩ := cells25_ HX.out; clear hg hbox hb3 n0_ n1_)
  | (go_at_call 42; refine (open_dr A0 A1 c0 c1 S C f o w _ HB.out R0.out HC0.out R1.out HC1.out HH.out).mono ?_; rintro e w5 ⟨g, rfl, hgw, hdr, hb5⟩; have HB5 := Aside0.mk (below_step HB.out hb5); have HZ5 := Aside0.mk (blk_below HZ.out hb5); have n1_ := Aside0.mk (blk_below HX.out hb5); have HN := Aside0.mk (show gr ≠ g by have := blk_lt HZ.out; omega); clear HB h0 h1 h2 h3 HX; have HX := n1_; obtain ⟨h0, h1, h2, h3⟩ := cells25_ HX.out; have HDR := Aside0.mk hdr; obtain ⟨B0, e0, B1, e1, hd0, hd1, hd2, hd3, hd4⟩ := hdr; have HD1 := Aside0.mk hd1; have HD2 := Aside0.mk hd2; have HD3 := Aside0.mk hd3; obtain ⟨⟨d0, d1, d2, d3⟩, ⟨t0, t1, t2, t3⟩⟩ := k51 hd1; obtain ⟨y0, y1, y2, y3⟩ := cells25_ HZ5.out; obtain ⟨q0, q1, q2, q3⟩ := f25a HZ5.out; clear hb5 n1_ hd0 hd1 hd2 hd3 hd4 hgw)
  | (go_at_call 53; refine (power_dr w _ g S C f o HDR.out).mono ?_; rw [HP.out]; rintro e w8 ⟨rfl, hdr8, hk8⟩; have HDR8 := Aside0.mk hdr8; obtain ⟨B3, e3, B4, e4, hd0, hd1, hd2, hd3, hd4⟩ := hdr8; have HE1 := Aside0.mk hd1; have HE2 := Aside0.mk hd2; have HE3 := Aside0.mk hd3; have HE4 := Aside0.mk hd4; have HZ8 := Aside0.mk (hk8 _ _ HZ5.out); clear h0 h1 h2 h3 d0 d1 d2 d3 t0 t1 t2 t3 y0 y1 y2 y3 q0 q1 q2 q3; obtain ⟨⟨d0, d1, d2, d3⟩, ⟨t0, t1, t2, t3⟩⟩ := k51 hd1; obtain ⟨y0, y1, y2, y3⟩ := cells25_ HZ8.out; obtain ⟨q0, q1, q2, q3⟩ := f25a HZ8.out; clear hd0 hd1 hd2 hd3 hd4 hk8)
  | (go_at_call 54; refine (settle_dr w _ g S C r2 r3 HDR8.out HIN.out HLEN.out).mono ?_; rintro e w9 ⟨rfl, hdr9, hk9⟩; rw [← HT.out] at hdr9; have HZ9 := Aside0.mk (hk9 _ _ HZ8.out); obtain ⟨B5, e5, B6, e6, hd0, hd1, hd2, hd3, hd4⟩ := hdr9; have HG1 := Aside0.mk hd1; have HG2 := Aside0.mk hd2; have HG3 := Aside0.mk hd3; have HG4 := Aside0.mk hd4; clear d0 d1 d2 d3 t0 t1 t2 t3 y0 y1 y2 y3 q0 q1 q2 q3; obtain ⟨⟨d0, d1, d2, d3⟩, ⟨t0, t1, t2, t3⟩⟩ := k51 hd1; obtain ⟨y0, y1, y2, y3⟩ := cells25_ HZ9.out; obtain ⟨q0, q1, q2, q3⟩ := f25a HZ9.out; clear hd0 hd1 hd2 hd3 hd4 hk9))
 have F := fin25 (S := T) (C := []) (f := r2) (o := r3) HZ9.out HG2.out HG3.out HG4.out HG.out
 refine bodyPost_ret (results_ct rfl _ _ gr 38 #[.slice B5 T.length e5, .slice B6 0 e6, .int .i64 r2, .bool r3] (0, 0) _ rfl F.1 Try.underlying38 rfl (by kernel_rfl)) rfl ?_
 exact ⟨_, _, rfl, F.2.1, F.2.2.1, F.2.2.2⟩
section
attribute [-go_sem] max2_int min2_int max_two min_two max_three min_three max_four min_four
def crashStep (K : List Bool) (torn : Int) (n : Nat) (i : Nat) (p : S74) (s : List ByteArray) : List ByteArray :=
 if (i : Int) = torn then s.set p.f0.toNat (p.f1.extract 0 n ++ (rdOf (⟨#[]⟩ : ByteArray) s p.f0).extract n (rdOf (⟨#[]⟩ : ByteArray) s p.f0).size)
 else if K.getD i false = true then s.set p.f0.toNat p.f1 else s
def crashN (K : List Bool) (torn : Int) (n : Nat) (S : List ByteArray) (C : List S74) : Nat → List ByteArray
 | 0 => S
 | i + 1 => crashStep K torn n i (C.getD i z74) (crashN K torn n S C i)
def crashF (K : List Bool) (torn : Int) (n : Nat) (S : List ByteArray) (C : List S74) : List ByteArray := crashN K torn n S C C.length
theorem crashStep_len (K : List Bool) (torn : Int) (n i : Nat) (p : S74) (s : List ByteArray) : (crashStep K torn n i p s).length = s.length := by
 unfold crashStep
 split
 · exact List.length_set
 · split
   · exact List.length_set
   · rfl
theorem crashN_len (K : List Bool) (torn : Int) (n : Nat) (S : List ByteArray) (C : List S74) : ∀ i, (crashN K torn n S C i).length = S.length := by
 intro i
 induction i with
 | zero => rfl
 | succ i ih => exact (crashStep_len ..).trans ih
def Right (s : List ByteArray) : Prop := ∀ x ∈ s, x.size = 128
theorem rdOf_mem (s : List ByteArray) (i : Int) (h0 : 0 ≤ i) (h : i < (s.length : Int)) : rdOf (⟨#[]⟩ : ByteArray) s i ∈ s := by
 obtain ⟨k, rfl⟩ : ∃ k : Nat, i = k := ⟨i.toNat, by omega⟩
 rw [rdOf_at _ _ _ (by omega)]
 exact List.getElem_mem _
theorem Right.set {s : List ByteArray} (h : Right s) (i : Nat) {x : ByteArray} (hx : x.size = 128) : Right (s.set i x) := by
 intro y hy
 rcases List.mem_or_eq_of_mem_set hy with h1 | h1
 · exact h y h1
 · rw [h1]; exact hx
theorem crashStep_right {K : List Bool} {torn : Int} {n i : Nat} {p : S74} {s : List ByteArray} (h : Right s) (hn : n ≤ 128) (hp : p.f1.size = 128) (h0 : 0 ≤ p.f0) (h1 : p.f0 < (s.length : Int)) : Right (crashStep K torn n i p s) := by
 unfold crashStep
 split
 · refine h.set _ ?_
   have := h _ (rdOf_mem s p.f0 h0 h1)
   rw [ByteArray.size_append, ByteArray.size_extract, ByteArray.size_extract]
   omega
 · split
   · exact h.set _ hp
   · exact h
theorem checkF_right (S : List ByteArray) (C : List S74) (f : Int) (h : checkF S C f = 0) : Right S ∧ ∀ p ∈ C, p.f1.size = 128 := by
 unfold checkF at h
 split at h
 · exact absurd h (by decide)
 · split at h
   · exact absurd h (by decide)
   · rename_i hs
     split at h
     · exact absurd h (by decide)
     · rename_i hc
       rw [Bool.not_eq_true, List.any_eq_false] at hs hc
       refine ⟨fun x hx => ?_, fun p hp => ?_⟩
       · have := hs x hx
         simp only [Bool.not_eq_true, bne_eq_false_iff_eq] at this
         omega
       · have := hc p hp
         unfold badF at this
         simp only [Bool.or_eq_true, not_or, Bool.not_eq_true, bne_eq_false_iff_eq] at this
         omega
set_option maxHeartbeats 8000000 in
theorem Crash_bad (A0 A1 : Option Addr) (c0 c1 : Nat) (S : List ByteArray) (C : List S74) (f : Int) (o : Bool) (A2 : Option Addr) (c2 : Nat) (K : List Bool) (torn b : Int) (w : World) (hr0 : Kd.C Kd.string w A0 S.length S) (hc0 : S.length ≤ c0) (hr1 : Kd.C k74 w A1 C.length C) (hc1 : C.length ≤ c1) (hr2 : Kd.C Kd.bool w A2 K.length K) (h : checkF S C f = 2) :
 Calls Try.prog 23 #[.agg #[.slice A0 S.length c0, .slice A1 C.length c1, .int .i64 f, .bool o], .slice A2 K.length c2, .int .i64 torn, .int .i64 b] w fun e w' => ∃ v0_ v1_ : Value, e = .returned (.tuple #[.agg #[v0_, v1_, .int .i64 0, .bool false], .int .i64 2]) ∧ Kd.R Kd.string 9 w' w.heap.size (fun _ => True) v0_ ([] : List ByteArray) ∧ Kd.R k74 74 w' w.heap.size (fun _ => True) v1_ ([] : List S74) ∧ Below w.heap.size w w' := by
 have R0 := Aside0.mk hr0
 have R1 := Aside0.mk hr1
 have HC0 := Aside0.mk hc0
 have HC1 := Aside0.mk hc1
 have HH := Aside0.mk h
 clear hr0 hc0 hr1 hc1 h; clear hr2
 go_enter Try.func23, Try.ntmps23
 go_wp2_with (first
  | ((with_reducible refine gate_dst (N := 4) rfl ?_); refine box_event ?hg (N := 4) ?hd (cs := #[.slice A0 S.length c0, .slice A1 C.length c1, .int .i64 f, .bool o]) (t := 38) ?hr ?_; (case hd => rfl); (case hg => rfl); (case hr => first | (go_simp; done) | (go_simp; rfl)); intro gx hg w3 hbox hb3; obtain ⟨h0, h1, h2, h3⟩ := cells25_ hbox; have HX := Aside0.mk hbox; have HB := Aside0.mk (Below.trans (Below.refl _ _) hb3); clear hg hbox hb3)
  | ((with_reducible refine gate_dst (N := 8) rfl ?_); refine box_event ?hg (N := 8) ?hd (cs := #[.slice none 0 0, .slice none 0 0, .int .i64 0, .bool false]) (t := 38) ?hr ?_; (case hd => rfl); (case hg => rfl); (case hr => first | (go_simp; done) | (go_simp; rfl)); intro gr hg w4 hbox hb3; have HG := Aside0.mk (by rw [hg]; exact HB.out.size : w.heap.size ≤ gr); have HZ := Aside0.mk hbox; have n1_ := Aside0.mk (blk_below HX.out hb3); have n0_ := Aside0.mk (below_step HB.out hb3); clear h0 h1 h2 h3 HX HB; have HX := n1_; have HB := n0_; obtain ⟨h0, h1, h2, h3⟩ := cells25_ HX.out; clear hg hbox hb3 n0_ n1_)
  | (go_at_call 42; refine (disk_open_bad A0 A1 c0 c1 S C f o _ (Kd.C_below R0.out HB.out) (Kd.C_below R1.out HB.out) HH.out).mono ?_; rintro e w5 ⟨rfl, hb5⟩; have HB5 := Aside0.mk (below_step HB.out hb5); have HZ5 := Aside0.mk (blk_below HZ.out hb5); clear HB hb5 HX h0 h1 h2 h3; obtain ⟨y0, y1, y2, y3⟩ := cells25_ HZ5.out; obtain ⟨q0, q1, q2, q3⟩ := f25a HZ5.out))
 have F := fin25 (S := []) (C := []) (A0 := none) (A1 := none) (c0 := 0) (c1 := 0) (f := 0) (o := false) HZ5.out (Kd.R_nil _ _ _ _ _) (Kd.R_nil _ _ _ _ _) HB5.out HG.out
 refine bodyPost_ret (results_ct rfl _ _ gr 38 #[.slice none 0 0, .slice none 0 0, .int .i64 0, .bool false] (0, 0) _ rfl F.1 Try.underlying38 rfl (by kernel_rfl)) rfl ?_
 exact ⟨_, _, rfl, F.2.1, F.2.2.1, F.2.2.2⟩
theorem blk_cell_of {W : World} {g j : Nat} {cs : Array Value} {t : Nat} {v : Value} {o' : Obj} (h : W.heap[g]? = some (.cells cs t (0, 0))) (hc : W.cell? ⟨g, j, none⟩ = some v) : (W.alloc o').cell? ⟨g, j, none⟩ = some v := (Below.cell (below_alloc (Below.refl _ _) o') (p := ⟨g, j, none⟩) (blk_lt h)).trans hc
theorem blk_frozen_of {W : World} {g j : Nat} {cs : Array Value} {t : Nat} {b : Bool} {o' : Obj} (h : W.heap[g]? = some (.cells cs t (0, 0))) (hc : W.frozen? ⟨g, j, none⟩ = b) : (W.alloc o').frozen? ⟨g, j, none⟩ = b := (Below.frozen (below_alloc (Below.refl _ _) o') (p := ⟨g, j, none⟩) (blk_lt h)).trans hc
set_option maxHeartbeats 8000000 in
theorem Crash_good (A0 A1 : Option Addr) (c0 c1 : Nat) (S : List ByteArray) (C : List S74) (f : Int) (o : Bool) (A2 : Option Addr) (c2 : Nat) (K : List Bool) (torn b : Int) (w : World) (hr0 : Kd.C Kd.string w A0 S.length S) (hc0 : S.length ≤ c0) (hr1 : Kd.C k74 w A1 C.length C) (hc1 : C.length ≤ c1) (hr2 : Kd.C Kd.bool w A2 K.length K) (h : checkF S C f = 0) (n : Nat) (hn : max 0 (min b 128) = (n : Int)) (hn1 : n ≤ 128) :
 Calls Try.prog 23 #[.agg #[.slice A0 S.length c0, .slice A1 C.length c1, .int .i64 f, .bool o], .slice A2 K.length c2, .int .i64 torn, .int .i64 b] w fun e w' => ∃ v0_ v1_ : Value, e = .returned (.tuple #[.agg #[v0_, v1_, .int .i64 (-1), .bool false], .int .i64 0]) ∧ Kd.R Kd.string 9 w' w.heap.size (fun _ => True) v0_ (crashF K torn n S C) ∧ Kd.R k74 74 w' w.heap.size (fun _ => True) v1_ ([] : List S74) ∧ Below w.heap.size w w' := by
 have HIN := Aside0.mk (checkF_in S C f h).1
 have HRT := Aside0.mk (checkF_right S C f h).1
 have HRC := Aside0.mk (checkF_right S C f h).2
 have hlen := (checkF_in S C f h).2.2
 have R2 := Aside0.mk hr2
 have HN1 := Aside0.mk hn1
 have km0 : Builtin.min2 (.int .i64 b) (.int .i64 128) = pure (.int .i64 (min b 128)) := by rw [min2_int]; congr 2; split <;> omega
 have km1 : ∀ w, (Builtin.min_ #[3, 3] 3 #[.int .i64 b, .int .i64 128]).run Try.prog w = .ok (.int .i64 (min b 128)) w := by intro w; rw [min_two, km0]; rfl
 have km2 : Builtin.max2 (.int .i64 0) (.int .i64 (min b 128)) = pure (.int .i64 (n : Int)) := by rw [max2_int, ← hn]; congr 2; split <;> omega
 have km3 : ∀ w, (Builtin.max_ #[3, 3] 3 #[.int .i64 0, .int .i64 (min b 128)]).run Try.prog w = .ok (.int .i64 (n : Int)) w := by intro w; rw [max_two, km2]; rfl
 clear hr2 km0 km2 hn
 have R0 := Aside0.mk hr0
 have R1 := Aside0.mk hr1
 have HC0 := Aside0.mk hc0
 have HC1 := Aside0.mk hc1
 have HH := Aside0.mk h
 clear hr0 hc0 hr1 hc1 h
 go_enter Try.func23, Try.ntmps23
 go_wp2_with (first
  | ((with_reducible refine gate_dst (N := 4) rfl ?_); refine box_event ?hg (N := 4) ?hd (cs := #[.slice A0 S.length c0, .slice A1 C.length c1, .int .i64 f, .bool o]) (t := 38) ?hr ?_; (case hd => rfl); (case hg => rfl); (case hr => first | (go_simp; done) | (go_simp; rfl)); intro gx hg w3 hbox hb3; obtain ⟨h0, h1, h2, h3⟩ := cells25_ hbox; have HX := Aside0.mk hbox; have HB := Aside0.mk (Below.trans (Below.refl _ _) hb3); clear hg hbox hb3)
  | ((with_reducible refine gate_dst (N := 8) rfl ?_); refine box_event ?hg (N := 8) ?hd (cs := #[.slice none 0 0, .slice none 0 0, .int .i64 0, .bool false]) (t := 38) ?hr ?_; (case hd => rfl); (case hg => rfl); (case hr => first | (go_simp; done) | (go_simp; rfl)); intro gr hg w4 hbox hb3; have HG := Aside0.mk (by rw [hg]; exact HB.out.size : w.heap.size ≤ gr); have HZ := Aside0.mk hbox; have n1_ := Aside0.mk (blk_below HX.out hb3); have n0_ := Aside0.mk (below_step HB.out hb3); clear h0 h1 h2 h3 HX HB; have HX := n1_; have HB := n0_; obtain ⟨h0, h1, h2, h3⟩ := cells25_ HX.out; clear hg hbox hb3 n0_ n1_)
  | (go_at_call 42; refine (open_dr A0 A1 c0 c1 S C f o w _ HB.out R0.out HC0.out R1.out HC1.out HH.out).mono ?_; rintro e w5 ⟨g, rfl, hgw, hdr, hb5⟩; have HB5 := Aside0.mk (below_step HB.out hb5); have HZ5 := Aside0.mk (blk_below HZ.out hb5); have n1_ := Aside0.mk (blk_below HX.out hb5); have HN := Aside0.mk (show gr ≠ g by have := blk_lt HZ.out; omega); clear HB h0 h1 h2 h3 HX; have HX := n1_; obtain ⟨h0, h1, h2, h3⟩ := cells25_ HX.out; have HDR := Aside0.mk hdr; obtain ⟨B0, e0, B1, e1, hd0, hd1, hd2, hd3, hd4⟩ := hdr; have HD1 := Aside0.mk hd1; have HD2 := Aside0.mk hd2; have HD3 := Aside0.mk hd3; obtain ⟨⟨d0, d1, d2, d3⟩, ⟨t0, t1, t2, t3⟩⟩ := k51 hd1; obtain ⟨y0, y1, y2, y3⟩ := cells25_ HZ5.out; obtain ⟨q0, q1, q2, q3⟩ := f25a HZ5.out; clear hb5 n1_ hd0 hd1 hd2 hd3 hd4 hgw))
 go_loopg [13, 14, 15, 34] C.length (fun gg _ _ _ s34 wr => ∃ kk : Nat, kk ≤ C.length ∧ C.length - kk ≤ gg ∧ s34 = .int .i64 kk ∧ Aside0 (wr.heap[g]? = some (.cells #[.slice B0 S.length e0, .slice B1 C.length e1, .int .i64 f, .bool o] 80 (0, 0))) ∧ Aside0 (wr.heap[gr]? = some (.cells #[.slice none 0 0, .slice none 0 0, .int .i64 0, .bool false] 38 (0, 0))) ∧ Aside0 (Kd.R Kd.string 9 wr w.heap.size (fun _ => True) (.slice B0 S.length e0) (crashN K torn n S C kk)) ∧ Aside0 (Kd.R k74 74 wr w.heap.size (fun _ => True) (.slice B1 C.length e1) C) ∧ Aside0 (Below w.heap.size w wr) ∧ Aside0 (Right (crashN K torn n S C kk)))
 case atStart => exact ⟨0, Nat.zero_le _, by omega, rfl, HD1, HZ5, HD2, HD3, HB5, HRT⟩
 case round =>
  clear HD1 HZ5 HD2 HD3 HB5 HDR h0 h1 h2 h3 d0 d1 d2 d3 t0 t1 t2 t3 y0 y1 y2 y3 q0 q1 q2 q3
  obtain ⟨kk, hkk, hg, rfl, HD1, HZ5, HD2, HD3, HB5, HRT⟩ := hrel
  by_cases hlt : kk < C.length
  · have hltz : (kk : Int) < (C.length : Int) := by omega
    have hin := HIN.out kk hlt
    have hrc := HRC.out C[kk] (List.getElem_mem hlt)
    have hla := crashN_len K torn n S C kk
    have hcd : C.getD kk z74 = C[kk] := by rw [List.getD_eq_getElem?_getD, List.getElem?_eq_getElem hlt]; rfl
    have ht : crashN K torn n S C (kk + 1) = crashStep K torn n kk C[kk] (crashN K torn n S C kk) := by rw [← hcd]; rfl
    obtain ⟨ad, rfl, hx0, hx1⟩ := at_T74 (Kd.R_reads' HD3.out).2.2 (kk : Int) (by omega) (by omega)
    have hrd : rd_T74 C (kk : Int) = C[kk] := rdOf_at z74 C kk hlt
    rw [hrd, Int.toNat_natCast] at hx0 hx1
    clear hcd hrd
    generalize C[kk] = p at hx0 hx1 hin ht hrc
    obtain ⟨i0, i1⟩ := hin
    have hright := crashStep_right (K := K) (torn := torn) (i := kk) HRT.out HN1.out hrc i0 (by rw [hla]; exact i1)
    have hold := HRT.out _ (rdOf_mem (crashN K torn n S C kk) p.f0 i0 (by rw [hla]; exact i1))
    rw [← ht] at hright
    have HRT2 := Aside0.mk hright
    obtain ⟨gs, cs, es, hgs, hls, cells, hcs⟩ := Kd.R_form HD2.out (by rw [hla]; omega)
    injection es with ea en ec
    subst ea
    subst ec
    clear en hright
    have hcell0 := Kd.R_celln (⟨#[]⟩ : ByteArray) HD2.out p.f0 i0 i1
    generalize hcur : crashN K torn n S C kk = cur at HD2 HRT ht hcell0 hold
    have HT := Aside0.mk ht
    clear hcur ht hla
    generalize hod : rdOf (⟨#[]⟩ : ByteArray) cur p.f0 = od at hcell0 hold
    have HOD := Aside0.mk hod
    clear hod
    have hgg : gs ≠ g := blk_ne hcs HD1.out (by decide)
    have hgr : gs ≠ gr := blk_ne hcs HZ5.out (by decide)
    have HGG := Aside0.mk hgg
    have HGR := Aside0.mk hgr
    have HCS := Aside0.mk hcs
    have HGS := Aside0.mk hgs
    clear hgg hgr
    have hcell := (blk_cell_of (o' := .cells #[.int .i64 p.f0, .string p.f1] 74) hcs hcell0.1)
    have hcellf := (blk_frozen_of (o' := .cells #[.int .i64 p.f0, .string p.f1] 74) hcs hcell0.2)
    obtain ⟨⟨e0', e1', e2', e3'⟩, _⟩ := k51 (blk_alloc HD1.out (.cells #[.int .i64 p.f0, .string p.f1] 74))
    have n0 := (blk_cell (blk_new wr (.cells #[.int .i64 p.f0, .string p.f1] 74)) 0).trans rfl
    have n1 := (blk_cell (blk_new wr (.cells #[.int .i64 p.f0, .string p.f1] 74)) 1).trans rfl
    have u0 : decide (0 ≤ p.f0) = true := decide_eq_true i0
    have u1 : decide (p.f0 < (S.length : Int)) = true := decide_eq_true i1
    have s0 : decide (0 ≤ (n : Int)) = true := decide_eq_true (by omega)
    have s1 : decide ((n : Int) ≤ (p.f1.size : Int)) = true := decide_eq_true (by omega)
    have s2 : decide ((n : Int) ≤ (od.size : Int)) = true := decide_eq_true (by have := HN1.out; omega)
    have s1' : n ≤ p.f1.size := by omega
    have s2' : n ≤ od.size := by have := HN1.out; omega
    clear hcs hcell0
    by_cases ct : (kk : Int) = torn
    · have c1 : ((kk : Int) == torn) = true := beq_iff_eq.mpr ct
      have hst : crashStep K torn n kk p cur = cur.set p.f0.toNat (p.f1.extract 0 n ++ od.extract n od.size) := by unfold crashStep; rw [if_pos ct, HOD.out]
      have hap : p.f1.extract 0 n ++ od.extract n od.size = p.f1.extract 0 n ++ od.extract n od.size := rfl
      have HP := Kd.R_putn HD2.out p.f0 (p.f1.extract 0 n ++ od.extract n od.size)
      rw [← hst, ← HT.out] at HP
      have HP' := Aside0.mk HP
      have HQ := Aside0.mk (Kd.R_set HD3.out (g := gs) (t := 9) HCS.out (by decide) p.f0.toNat (.string (p.f1.extract 0 n ++ od.extract n od.size)))
      have s3 : (p.f1.extract 0 n).size + (od.extract n od.size).size ≤ 9223372036854775807 := by rw [ByteArray.size_extract, ByteArray.size_extract]; omega
      clear ct HP hst hap hrc hold
      go_wp2
      go_region
      go_wp2
      go_region
      go_wp2
      go_roundg (C.length - (kk + 1))
      case measure => omega
      case rel =>
       exact ⟨kk + 1, by omega, by omega, by go_num, ⟨blk_drew (blk_drew (blk_alloc (blk_far (p := ⟨gs, p.f0.toNat, none⟩) HD1.out HGG.out.symm _) _))⟩, ⟨blk_drew (blk_drew (blk_alloc (blk_far (p := ⟨gs, p.f0.toNat, none⟩) HZ5.out HGR.out.symm _) _))⟩, ⟨Kd.R_drew (Kd.R_drew (Kd.R_alloc HP'.out _))⟩, ⟨Kd.R_drew (Kd.R_drew (Kd.R_alloc HQ.out _))⟩, ⟨Below.drew (Below.drew (below_alloc (below_set HB5.out HGS.out) _))⟩, HRT2⟩
    · have c1 : ((kk : Int) == torn) = false := beq_eq_false_iff_ne.mpr ct
      by_cases ck : kk < K.length
      · have c2' : decide ((kk : Int) < (K.length : Int)) = true := decide_eq_true (by omega)
        have c2i : (kk : Int) < (K.length : Int) := by omega
        have c2z : (0 : Int) ≤ (kk : Int) := by omega
        obtain ⟨ak, rfl, hxk⟩ := Kd.at_bool (Kd.C_below R2.out HB5.out) (kk : Int) (by omega) (by omega)
        have hgk : rdOf false K (kk : Int) = K.getD kk false := by unfold rdOf; rw [Int.toNat_natCast]
        rw [hgk, Int.toNat_natCast] at hxk
        have hxk1 : (wr.alloc (.cells #[.int .i64 p.f0, .string p.f1] 74)).cell? (ak.add kk) = some (.bool (K.getD kk false)) := (Below.cell (below_alloc (Below.refl _ _) _) (block_lt_of_cell hxk)).trans hxk
        clear hgk
        cases hb : K.getD kk false with
        | true =>
         rw [hb] at hxk hxk1
         have hst : crashStep K torn n kk p cur = cur.set p.f0.toNat p.f1 := by unfold crashStep; rw [if_neg ct, if_pos hb]
         have HP := Kd.R_putn HD2.out p.f0 p.f1
         rw [← hst, ← HT.out] at HP
         have HP' := Aside0.mk HP
         have HQ := Aside0.mk (Kd.R_set HD3.out (g := gs) (t := 9) HCS.out (by decide) p.f0.toNat (.string p.f1))
         clear ct HP hst hrc hold
         go_wp2
         go_region
         go_wp2
         go_roundg (C.length - (kk + 1))
         case measure => omega
         case rel =>
          exact ⟨kk + 1, by omega, by omega, by go_num, ⟨blk_drew (blk_alloc (blk_far (p := ⟨gs, p.f0.toNat, none⟩) HD1.out HGG.out.symm _) _)⟩, ⟨blk_drew (blk_alloc (blk_far (p := ⟨gs, p.f0.toNat, none⟩) HZ5.out HGR.out.symm _) _)⟩, ⟨Kd.R_drew (Kd.R_alloc HP'.out _)⟩, ⟨Kd.R_drew (Kd.R_alloc HQ.out _)⟩, ⟨Below.drew (below_alloc (below_set HB5.out HGS.out) _)⟩, HRT2⟩
        | false =>
         rw [hb] at hxk hxk1
         have hst : crashStep K torn n kk p cur = cur := by unfold crashStep; rw [if_neg ct, if_neg (by rw [hb]; decide)]
         have HP := HD2.out
         rw [← hst, ← HT.out] at HP
         have HP' := Aside0.mk HP
         clear ct HP hst hrc hold
         go_wp2
         go_region
         go_wp2
         go_roundg (C.length - (kk + 1))
         case measure => omega
         case rel =>
          exact ⟨kk + 1, by omega, by omega, by go_num, ⟨blk_drew (blk_alloc HD1.out _)⟩, ⟨blk_drew (blk_alloc HZ5.out _)⟩, ⟨Kd.R_drew (Kd.R_alloc HP'.out _)⟩, ⟨Kd.R_drew (Kd.R_alloc HD3.out _)⟩, ⟨Below.drew (below_alloc HB5.out _)⟩, HRT2⟩
      · have c2' : decide ((kk : Int) < (K.length : Int)) = false := decide_eq_false (by omega)
        have hb : K.getD kk false = false := by rw [List.getD_eq_getElem?_getD, List.getElem?_eq_none (by omega)]; rfl
        have hst : crashStep K torn n kk p cur = cur := by unfold crashStep; rw [if_neg ct, if_neg (by rw [hb]; decide)]
        have HP := HD2.out
        rw [← hst, ← HT.out] at HP
        have HP' := Aside0.mk HP
        clear ct HP hst hrc hold
        go_wp2
        go_region
        go_wp2
        go_roundg (C.length - (kk + 1))
        case measure => omega
        case rel =>
         exact ⟨kk + 1, by omega, by omega, by go_num, ⟨blk_drew (blk_alloc HD1.out _)⟩, ⟨blk_drew (blk_alloc HZ5.out _)⟩, ⟨Kd.R_drew (Kd.R_alloc HP'.out _)⟩, ⟨Kd.R_drew (Kd.R_alloc HD3.out _)⟩, ⟨Below.drew (below_alloc HB5.out _)⟩, HRT2⟩
  · have hltz : ¬ (kk : Int) < (C.length : Int) := by omega
    obtain rfl : kk = C.length := by omega
    have ht : crashN K torn n S C C.length = crashF K torn n S C := rfl
    have hla := crashN_len K torn n S C C.length
    rw [ht] at HD2 hla
    obtain ⟨T, hT⟩ : ∃ T, T = crashF K torn n S C := ⟨_, rfl⟩
    rw [← hT] at HD2 hla
    have HTT := Aside0.mk hT
    rw [← hla] at HD2 HD1
    obtain ⟨⟨d0, d1, d2, d3⟩, ⟨t0, t1, t2, t3⟩⟩ := k51 HD1.out
    obtain ⟨y0, y1, y2, y3⟩ := cells25_ HZ5.out
    obtain ⟨q0, q1, q2, q3⟩ := f25a HZ5.out
    clear hla ht hT
    go_wp2
    have F := fin25 (S := T) (C := []) (A1 := none) (c1 := 0) (f := -1) (o := false) HZ5.out HD2.out (Kd.R_nil _ _ _ _ _) HB5.out HG.out
    rw [← HTT.out]
    refine bodyPost_ret (results_ct rfl _ _ gr 38 #[.slice B0 T.length e0, .slice none 0 0, .int .i64 (-1), .bool false] (0, 0) _ rfl F.1 Try.underlying38 rfl (by kernel_rfl)) rfl ?_
    exact ⟨_, _, rfl, F.2.1, F.2.2.1, F.2.2.2⟩
end
end
def disk_Check.f (l0_0 : List ByteArray) (l0_1 : List (S74)) (a0_2 : Int) (a0_3 : Bool) : Option Int := some (checkF l0_0 l0_1 a0_2)
theorem disk_Check.calls (A0_0 : Option Addr) (c0_0 : Nat) (l0_0 : List ByteArray) (A0_1 : Option Addr) (c0_1 : Nat) (l0_1 : List (S74)) (a0_2 : Int) (a0_3 : Bool) (r : Int) (w : World) (hr0_0 : Kd.C Kd.string w A0_0 l0_0.length l0_0) (hc0_0 : l0_0.length ≤ c0_0) (hr0_1 : Kd.C k74 w A0_1 l0_1.length l0_1) (hc0_1 : l0_1.length ≤ c0_1) (h : disk_Check.f l0_0 l0_1 a0_2 a0_3 = some r) :
 Calls Try.prog 33 #[.agg #[.slice A0_0 l0_0.length c0_0, .slice A0_1 l0_1.length c0_1, .int .i64 a0_2, .bool a0_3]] w fun e w' => e = .returned (.int .i64 r) ∧ Below w.heap.size w w' := by
 obtain rfl := Option.some.inj h
 exact disk_Check_calls A0_0 A0_1 c0_0 c0_1 l0_0 l0_1 a0_2 a0_3 w hr0_0 hr0_1
theorem checkF_two {S : List ByteArray} {C : List S74} {f : Int} (h : ¬ checkF S C f = 0) : checkF S C f = 2 := (checkF_cases S C f).resolve_right (fun e => h e.1)
end Go.Proofs.Ytjagplonneednaa.P
