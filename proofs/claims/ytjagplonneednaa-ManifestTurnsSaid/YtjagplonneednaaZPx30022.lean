-- kept, by a program of this session, of a text that the printer or this session wrote
import Derived.Test.YtjagplonneednaaZPx0
import Derived.Test.YtjagplonneednaaZPx1043
import Derived.Test.YtjagplonneednaaZPx1033
import Derived.Deep.RegionWith
import Derived.LoopIn
import Derived.LoopNIn
import Derived.Maps.AppendAt
import Derived.OwnWalkIn
import Derived.RangeFuncBound
import Derived.RangeFuncBox
import Derived.RangeFuncCalls
import Derived.RangeFuncLeaves
import Derived.RangeFuncNested
import Derived.Shelf.Abstract
import Derived.Sort.LoopGhostIn
import Derived.TacticsInMore
import Derived.WalkSpells
import Derived.Test.YtjagplonneednaaZPx1063
namespace Go.Proofs.Ytjagplonneednaa.P
open Go.RowKit Go.Proofs.YtjagplonneednaaW.PrintWords Go.Proofs.YtjagplonneednaaW.PrintLast Go.Proofs.YtjagplonneednaaW.PrintMore
attribute [local go_sem] max2_int min2_int max_two min_two max_three min_three max_four min_four
set_option linter.unusedVariables false
set_option linter.unusedSimpArgs false
section
attribute [local go_sem] Oper.semAt_some
def backs (C : List S74) : Nat → List (Int × S74)
 | 0 => []
 | i + 1 => ((i : Int), C.getD i z74) :: backs C i
set_option maxRecDepth 100000 in
set_option maxHeartbeats 8000000 in
theorem Backward1_in (n : Nat) (hn : 1 ≤ n) (l Bn n₀ : Nat) (A : Option Addr) (c : Nat) (C : List S74) (hcl : C.length ≤ 4096) (J Jx : List (Int × S74) → World → Prop) (W W0 : World)
 (hW0 : n₀ = W0.heap.size) (hb0 : Below n₀ W0 W) (hC : Kd.C k74 W0 A C.length C)
 (hY : ∀ pre x W1, J pre W1 → pre.length < C.length → YieldAt Fence.wide (n - 1) Try.prog l #[.int .i64 x.1, .agg #[.int .i64 x.2.f0, .string x.2.f1]] W1 fun e W' =>
  (e = .returned (.bool true) ∧ J (pre ++ [x]) W' ∧ Below n₀ W1 W') ∨ (e = .returned (.bool false) ∧ Jx (pre ++ [x]) W'))
 (hBlt : Bn < n₀) (hBn : W0.cell? ⟨Bn, 0, none⟩ = some (.slice A C.length c)) (h0 : J [] W) :
 CallsIn Fence.wide n Try.prog 66 #[.func (.yield l) #[] #[], .pointer (some ⟨Bn, 0, none⟩)] W fun e W' => (∃ v, e = .returned v) ∧ ((∃ ys, ys = backs C C.length ∧ J ys W') ∨ (∃ pre, pre <+: backs C C.length ∧ Jx pre W')) := by
 subst hW0
 have HY := Aside0.mk hY
 have HC := Aside0.mk hC
 have HB0 := Aside0.mk hb0
 have HBN := Aside0.mk hBn
 have HBL := Aside0.mk hBlt
 have hbn := (hb0.cell (p := ⟨Bn, 0, none⟩) hBlt).trans hBn
 clear hY hC hb0 hBn hBlt
 refine callsIn_of_wp Try.func66 rfl trivial ?_ rfl
 simp only [Try.ntmps66, List.size_toArray, List.length_cons, List.length_nil, Nat.reduceAdd, Nat.reduceSub, Array.replicate_succ, Array.replicate_zero, List.push_toArray, List.append_toArray, List.nil_append, List.cons_append]
 gi_wp2
 gi_loopg [3] C.length (fun kq v3 wr => ∃ (i : Nat) (pre : List (Int × S74)), i ≤ C.length ∧ i ≤ kq ∧ v3 = .int .i64 ((i : Int) - 1) ∧ pre.length + i = C.length ∧ Aside0 (backs C C.length = pre ++ backs C i) ∧ Aside0 (J pre wr) ∧ Aside0 (Below W0.heap.size W0 wr))
 case atStart =>
  refine ⟨C.length, [], Nat.le_refl _, Nat.le_refl _, ?_, by simp, ⟨rfl⟩, ⟨h0⟩, HB0⟩
  go_num
 case round =>
  obtain ⟨i, pre, hi, hg, rfl, hpl, HE, HP, HB⟩ := hrel
  cases i with
  | zero =>
   have q : decide ((0 : Int) ≤ ((0 : Nat) : Int) - 1) = false := decide_eq_false (by omega)
   gi_wp2
   refine bodyPost_end (results_none rfl _ _ _) rfl ?_
   exact ⟨⟨_, rfl⟩, .inl ⟨_, rfl, by rw [HE.out]; show J (pre ++ []) wr; rw [List.append_nil]; exact HP.out⟩⟩
  | succ i =>
   have hlt : i < C.length := by omega
   have e0 : (((i + 1 : Nat) : Int) - 1) = (i : Int) := by omega
   rw [e0]
   have hbn1 := (HB.out.cell (p := ⟨Bn, 0, none⟩) HBL.out).trans HBN.out
   obtain ⟨ad, rfl, hx0, hx1⟩ := at_T74 (Kd.C_below HC.out HB.out) (i : Int) (by omega) (by omega)
   have hrd : rd_T74 C (i : Int) = C.getD i z74 := by unfold rd_T74; rw [Int.toNat_natCast]
   rw [hrd, Int.toNat_natCast] at hx0 hx1
   have hltz : (i : Int) < (C.length : Int) := by omega
   have hEE : backs C C.length = pre ++ ((i : Int), C.getD i z74) :: backs C i := HE.out
   have HEE := Aside0.mk hEE
   obtain ⟨fn, tmps, assign, body, hy, hR⟩ := HY.out pre ((i : Int), C.getD i z74) wr HP.out (by omega)
   dsimp only at hy hR
   generalize C.getD i z74 = p at hx0 hx1 hy hR HEE
   clear hEE hrd
   gi_wp2
   refine hR.mono ?_
   rintro e W3 (⟨rfl, hJ3, hk3⟩ | ⟨rfl, hJx3⟩)
   · have HJ3 := Aside0.mk hJ3
     have HK3 := Aside0.mk hk3
     clear hJ3 hk3
     gi_wp2
     gi_roundg i
     case measure => omega
     case rel =>
      refine ⟨i, pre ++ [((i : Int), p)], by omega, Nat.le_refl _, ?_, by simp; omega, ⟨by rw [HEE.out]; simp⟩, HJ3, ⟨Below.trans HB.out HK3.out⟩⟩
      go_num
   · gi_wp2
     refine bodyPost_ret (results_none rfl _ _ _) rfl ?_
     exact ⟨⟨_, rfl⟩, .inr ⟨pre ++ [((i : Int), p)], ⟨backs C i, by rw [HEE.out]; simp⟩, hJx3⟩⟩
attribute [local go_sem] Oper.semAt_some
theorem Backward_stops (n : Nat) (hn : 1 ≤ n) (Bn : Nat) (A : Option Addr) (c : Nat) (C : List S74) (hcl : C.length ≤ 4096) (w : World) (hB : Bn < w.heap.size) (hc : w.cell? ⟨Bn, 0, none⟩ = some (.slice A C.length c)) (hC : Kd.C k74 w A C.length C) :
 SeqStopsK Fence.wide n Try.prog 66 #[.pointer (some ⟨Bn, 0, none⟩)] (fun x : Int × S74 => #[.int .i64 x.1, .agg #[.int .i64 x.2.f0, .string x.2.f1]]) (Below w.heap.size) (fun ys => ys = backs C C.length) (fun pre => pre <+: backs C C.length) C.length w := fun l J Jx W hW hJ _ hY h0 =>
 Backward1_in n hn l Bn w.heap.size A c C hcl J Jx W w rfl hW hC hY hB hc h0
set_option maxHeartbeats 1000000 in
theorem Backward_in (n : Nat) (v : Value) (w : World) (A : Option Addr) (m c : Nat) (hv : v = .slice A m c) :
 CallsIn Fence.wide n Try.prog 60 #[v] w fun e w' => e = .returned (.func (.func 66) #[] #[.pointer (some ⟨w.heap.size, 0, none⟩)]) ∧ w' = w.alloc (.cells #[v] 36) := by
 subst hv
 refine callsIn_of_wp Try.func60 rfl trivial ?_ rfl
 simp only [Try.ntmps60, List.size_toArray, List.length_cons, List.length_nil, Nat.reduceAdd, Nat.reduceSub, Array.replicate_succ, Array.replicate_zero, List.push_toArray, List.append_toArray, List.nil_append, List.cons_append]
 gi_wp2
 go_ret
 exact ⟨rfl, rfl⟩
def holdsF (S : List ByteArray) (C : List S74) (at_ : Int) : ByteArray := match (backs C C.length).find? (fun x => x.2.f0 == at_) with | some x => x.2.f1 | none => rdOf (⟨#[]⟩ : ByteArray) S at_
theorem holdsF_hit (S : List ByteArray) (C : List S74) (at_ : Int) (init : List (Int × S74)) (x : Int × S74) (h : init ++ [x] <+: backs C C.length) (hx : x.2.f0 = at_) (hi : ∀ y ∈ init, ¬ y.2.f0 = at_) : holdsF S C at_ = x.2.f1 := by
 unfold holdsF
 obtain ⟨t, ht⟩ := h
 have : (backs C C.length).find? (fun x => x.2.f0 == at_) = some x := by
  rw [← ht, List.append_assoc, List.find?_append]
  have h1 : init.find? (fun x => x.2.f0 == at_) = none := by
   rw [List.find?_eq_none]
   intro y hy
   simpa using hi y hy
  rw [h1]
  simp [hx]
 rw [this]
theorem holdsF_miss (S : List ByteArray) (C : List S74) (at_ : Int) (hi : ∀ y ∈ backs C C.length, ¬ y.2.f0 = at_) : holdsF S C at_ = rdOf (⟨#[]⟩ : ByteArray) S at_ := by
 unfold holdsF
 have : (backs C C.length).find? (fun x => x.2.f0 == at_) = none := by
  rw [List.find?_eq_none]
  intro y hy
  simpa using hi y hy
 rw [this]
theorem results_str {fn : Func} {p : Tmp} (h : fn.results = #[.cell p 9]) (tmps : Array Value) (w : World) (a : Addr) (v : ByteArray) (hp : tmps.getD p undef = .pointer (some a)) (hc : w.cell? a = some (.string v)) : (results fn tmps).run Try.prog w = .ok (.string v) w := by
 have hp' : tmps[p]?.getD undef = .pointer (some a) := by simpa using hp
 have h1 : (isAgg 9).run Try.prog w = .ok false w := run_isAgg_plain Try.underlying9 rfl w
 simp [results, h, hp', asAddr, loadVar, h1, run_load, hc]
theorem blk_putObj {W : World} {g D : Nat} {o o' : Obj} (h : W.heap[g]? = some o) (hne : g ≠ D) : (W.putObj D o').heap[g]? = some o := (World.putObj_heap_other hne).trans h
theorem below_step' {w W : World} (h : Below w.heap.size w W) (o : Obj) : Below w.heap.size w (W.alloc o) := below_alloc h o
set_option maxRecDepth 100000 in
set_option maxHeartbeats 8000000 in
theorem holds_in (n : Nat) (hn : 3 ≤ n) (A0 A1 : Option Addr) (c0 c1 : Nat) (S : List ByteArray) (C : List S74) (f : Int) (o : Bool) (at_ : Int) (w : World) (hr0 : Kd.C Kd.string w A0 S.length S) (hr1 : Kd.C k74 w A1 C.length C) (hcl : C.length ≤ 4096) (h0 : 0 ≤ at_) (h1 : at_ < (S.length : Int)) :
 CallsIn Fence.wide n Try.prog 47 #[.agg #[.slice A0 S.length c0, .slice A1 C.length c1, .int .i64 f, .bool o], .int .i64 at_] w fun e W' => e = .returned (.string (holdsF S C at_)) ∧ Below w.heap.size w W' := by
 have hn1 : 1 ≤ n := by omega
 refine callsIn_of_wp_marks Try.func47 rfl trivial ?_ rfl
 simp only [Try.ntmps47, List.size_toArray, List.length_cons, List.length_nil, Nat.reduceAdd, Nat.reduceSub, Array.replicate_succ, Array.replicate_zero, List.push_toArray, List.append_toArray, List.nil_append, List.cons_append]
 gi_wp2_with (refine ⟨trivial, ?_⟩; gi_at_call 60; refine (Backward_in (n - 1) _ _ A1 C.length c1 rfl).mono ?_; rintro e w' ⟨rfl, rfl⟩)
 have HS0 := Aside0.mk hr0
 have HS1 := Aside0.mk hr1
 clear hr0 hr1
 obtain ⟨WR, hWR⟩ : ∃ WR, WR = ((((w.alloc (.cells #[.slice A0 S.length c0, .slice A1 C.length c1, .int .i64 f, .bool o] 38)).alloc (.cells #[.int .i64 at_] 3)).alloc (.cells #[.string ⟨#[]⟩] 9)).alloc (.cells #[.slice A1 C.length c1] 36)) := ⟨_, rfl⟩
 have hsz : WR.heap.size = w.heap.size + 4 := by rw [hWR]; simp
 have hbR : Below w.heap.size w WR := by rw [hWR]; exact below_alloc (below_alloc (below_alloc (below_alloc (Below.refl _ _) _) _) _) _
 have hb25 : WR.heap[w.heap.size]? = some (.cells #[.slice A0 S.length c0, .slice A1 C.length c1, .int .i64 f, .bool o] 38 (0, 0)) := by rw [hWR]; exact blk_alloc (blk_alloc (blk_alloc (blk_new w _) _) _) _
 have hb3 : WR.heap[w.heap.size + 1]? = some (.cells #[.int .i64 at_] 3 (0, 0)) := by rw [hWR]; exact blk_alloc (blk_alloc (by have := blk_new (w.alloc (.cells #[.slice A0 S.length c0, .slice A1 C.length c1, .int .i64 f, .bool o] 38)) (.cells #[.int .i64 at_] 3); rw [World.size_alloc] at this; exact this) _) _
 have hb9 : WR.heap[w.heap.size + 1 + 1]? = some (.cells #[.string ⟨#[]⟩] 9 (0, 0)) := by rw [hWR]; exact blk_alloc (by have := blk_new ((w.alloc (.cells #[.slice A0 S.length c0, .slice A1 C.length c1, .int .i64 f, .bool o] 38)).alloc (.cells #[.int .i64 at_] 3)) (.cells #[.string ⟨#[]⟩] 9); rw [World.size_alloc, World.size_alloc] at this; exact this) _
 have hbS : WR.cell? ⟨w.heap.size + 1 + 1 + 1, 0, none⟩ = some (.slice A1 C.length c1) := by rw [hWR]; have := blk_cell (blk_new (((w.alloc (.cells #[.slice A0 S.length c0, .slice A1 C.length c1, .int .i64 f, .bool o] 38)).alloc (.cells #[.int .i64 at_] 3)).alloc (.cells #[.string ⟨#[]⟩] 9)) (.cells #[.slice A1 C.length c1] 36)) 0; rw [World.size_alloc, World.size_alloc, World.size_alloc] at this; exact this.trans rfl
 try simp only [World.size_alloc]
 rw [← hWR]
 clear hWR
 have h1' : 1 ≤ n := hn1
 refine wpIn_rangeFunc_ownH rfl hn1 (gf := 66) (lb := #[.pointer (some ⟨w.heap.size + 1 + 1 + 1, 0, none⟩)]) rfl trivial (enters_of Try.func66 (by kernel_rfl) rfl)
  (Backward_stops (n - 1) (by omega) (w.heap.size + 1 + 1 + 1) A1 c1 C hcl WR (by omega) hbS (Kd.C_below HS1.out hbR)) belowK_t (belowK_b (Nat.le_refl _)) (Below.refl _ _) ?hps
  (fun pre W => Below WR.heap.size WR W ∧ ∀ x ∈ pre, ¬ x.2.f0 = at_)
  (fun c pre W => c = .ret ∧ (∃ init x, pre = init ++ [x] ∧ x.2.f0 = at_ ∧ (∀ y ∈ init, ¬ y.2.f0 = at_) ∧ W.heap[w.heap.size + 1 + 1]? = some (.cells #[.string x.2.f1] 9 (0, 0))) ∧ Below w.heap.size w W)
  (OwnFrom.and (ownFrom_below (Nat.le_refl _) (Nat.le_refl _)) (fun _ _ _ _ hs _ _ => hs))
  ?ix
  ⟨Below.refl _ _, fun x hx => by cases hx⟩
  (fun x a' W => ∃ gp, a' = { tmps := #[.agg #[.slice A0 S.length c0, .slice A1 C.length c1, .int .i64 f, .bool o], .int .i64 at_, .pointer (some ⟨w.heap.size, 0, none⟩), .pointer (some ⟨w.heap.size + 1, 0, none⟩), .pointer (some ⟨w.heap.size + 1 + 1, 0, none⟩), undef, .pointer (some ⟨gp, 0, none⟩), .pointer (some ⟨w.heap.size, 1, none⟩), .slice A1 C.length c1, .func (.func 66) #[] #[.pointer (some ⟨w.heap.size + 1 + 1 + 1, 0, none⟩)], .int .i64 x.1, .agg #[.int .i64 x.2.f0, .string x.2.f1], undef, undef, undef, undef, undef, undef, undef, undef, undef, undef, undef], defers := [] } ∧ W.heap[gp]? = some (.cells #[.int .i64 x.2.f0, .string x.2.f1] 74 (0, 0)) ∧ WR.heap.size ≤ gp)
  ?ax ?assign ?body ?done ?stop
 case hps => exact fun _ => rfl
 case ix =>
  rintro c pre W W' row ⟨hc, ⟨init, x, e1, e2, e3, e4⟩, hb⟩ hg hrow
  refine ⟨hc, ⟨init, x, e1, e2, e3, blk_grown e4 hg (fun e => ?_)⟩, hb.grown hg hb.size (fun k e => by have := (hrow k e).1; omega)⟩
  obtain ⟨ob, h2, h3⟩ := (hrow _ e.symm).2
  rw [e4] at h2
  cases h2
  exact absurd h3 (by simp [Obj.isCells])
 case ax =>
  rintro x a' _ W W' row ⟨gp, e1, e2, e3⟩ hg hrow
  refine ⟨gp, e1, blk_grown e2 hg (fun e => ?_), e3⟩
  obtain ⟨ob, h2, h3⟩ := (hrow _ e.symm).2
  rw [e2] at h2
  cases h2
  exact absurd h3 (by simp [Obj.isCells])
 case assign =>
  rintro l pre x W K hI hK
  have hsW := hI.1.size
  gi_wp2
  exact hK _ _ ((KeepsOthers.alloc W _).from _) (below_alloc (Below.refl _ _) _ |>.mono hsW) ⟨below_step' hI.1 _, hI.2⟩ ⟨W.heap.size, rfl, blk_new W _, hsW⟩
 case body =>
  rintro l pre x a' W hl _ hI ⟨gp, rfl, hgp, hle⟩ hlt
  obtain ⟨hb, hne⟩ := hI
  have b3 := (hb.block _ (by omega : w.heap.size + 1 < WR.heap.size)).trans hb3
  have b9 := (hb.block _ (by omega : w.heap.size + 1 + 1 < WR.heap.size)).trans hb9
  obtain ⟨x0, x1⟩ := k40c hgp
  have a0 : W.cell? ⟨w.heap.size + 1, 0, none⟩ = some (.int .i64 at_) := (blk_cell b3 0).trans rfl
  have r0 : W.cell? ⟨w.heap.size + 1 + 1, 0, none⟩ = some (.string ⟨#[]⟩) := (blk_cell b9 0).trans rfl
  have rf : W.frozen? ⟨w.heap.size + 1 + 1, 0, none⟩ = false := blk_frozen b9 0
  have HB := Aside0.mk hb
  have HNE := Aside0.mk hne
  have B9 := Aside0.mk b9
  have HBR := Aside0.mk hbR
  clear hb hne b3 b9 hb25 hb3 hb9 hbS hbR
  by_cases q : x.2.f0 = at_
  · have q1 : (x.2.f0 == at_) = true := beq_iff_eq.mpr q
    have Q1 := Aside0.mk q
    clear q
    gi_wp2
    refine ⟨(KeepsOthers.setCell _ _ _).from _, rfl, ⟨pre, x, rfl, Q1.out, HNE.out, blk_put B9.out 0 _ rfl⟩, ?_⟩
    exact below_set (below_step HBR.out HB.out) (by omega)
  · have q1 : (x.2.f0 == at_) = false := beq_eq_false_iff_ne.mpr q
    have Q1 := Aside0.mk q
    clear q
    gi_wp2
    refine ⟨KeepsFrom.refl _ _, Below.refl _ _, HB.out, ?_⟩
    intro y hy
    rcases List.mem_append.1 hy with h | h
    · exact HNE.out y h
    · rw [List.mem_singleton.1 h]; exact Q1.out
 case done =>
  rintro D ys W hD rfl ⟨hb, hne⟩ hK
  obtain ⟨d0, d1, d2, d3⟩ := cells25_ ((hb.block _ (by omega : w.heap.size < WR.heap.size)).trans hb25)
  have b3 := (hb.block _ (by omega : w.heap.size + 1 < WR.heap.size)).trans hb3
  have b9 := (hb.block _ (by omega : w.heap.size + 1 + 1 < WR.heap.size)).trans hb9
  have a0 : W.cell? ⟨w.heap.size + 1, 0, none⟩ = some (.int .i64 at_) := (blk_cell b3 0).trans rfl
  have r0 : W.cell? ⟨w.heap.size + 1 + 1, 0, none⟩ = some (.string ⟨#[]⟩) := (blk_cell b9 0).trans rfl
  have rf : W.frozen? ⟨w.heap.size + 1 + 1, 0, none⟩ = false := blk_frozen b9 0
  have hbw := below_step hbR hb
  obtain ⟨ad, rfl, hx⟩ := Kd.at_string (Kd.C_below HS0.out hbw) at_ h0 h1
  have HM := Aside0.mk (holdsF_miss S C at_ hne)
  have B9 := Aside0.mk b9
  have HBW := Aside0.mk hbw
  clear hb hne b3 b9 hb25 hb3 hb9 hbS hbR hbw
  gi_wp2
  have hK2 : (W.setCell ⟨w.heap.size + 1 + 1, 0, none⟩ (.string (rdOf ByteArray.empty S at_))).heap[D]? = some (.deferred (some [])) := (Below.heap_setCell W ⟨w.heap.size + 1 + 1, 0, none⟩ _ D (by show D ≠ w.heap.size + 1 + 1; omega)).trans hK
  refine ⟨by simp, .inl ⟨_, _, rfl, run_takeDeferred hK2, ?_⟩⟩
  refine ⟨_, results_str rfl _ _ ⟨w.heap.size + 1 + 1, 0, none⟩ _ rfl ((blk_cell (blk_putObj (blk_put B9.out 0 _ rfl) (by omega)) 0).trans rfl), ?_, ?_⟩
  · rw [HM.out]; rfl
  · exact (below_set HBW.out (by omega)).trans (belowK_b (w := w) (Nat.le_refl _) _ D _ _ (by omega) hK2 rfl rfl)
 case stop =>
  rintro D c pre W hD hpre ⟨rfl, ⟨init, x, rfl, e2, e3, e4⟩, hb⟩ hK
  have HH := Aside0.mk (holdsF_hit S C at_ init x hpre e2 e3)
  gi_wp2
  refine ⟨by simp, .inl ⟨_, _, rfl, run_takeDeferred hK, ?_⟩⟩
  refine ⟨_, results_str rfl _ _ ⟨w.heap.size + 1 + 1, 0, none⟩ _ rfl ((blk_cell (blk_putObj e4 (by omega)) 0).trans rfl), ?_, ?_⟩
  · rw [HH.out]
  · exact hb.trans (belowK_b (w := w) (Nat.le_refl _) _ D _ _ (by omega) hK rfl rfl)
theorem hasF_in {n : Nat} {a : Int} (h : hasF n a = true) : 0 ≤ a ∧ a < (n : Int) := by
 unfold hasF at h
 rw [Bool.and_eq_true, decide_eq_true_iff, decide_eq_true_iff] at h
 exact h
set_option maxHeartbeats 8000000 in
theorem Read_bad (A0 A1 : Option Addr) (c0 c1 : Nat) (S : List ByteArray) (C : List S74) (f : Int) (o : Bool) (at_ : Int) (w : World) (hr0 : Kd.C Kd.string w A0 S.length S) (hc0 : S.length ≤ c0) (hr1 : Kd.C k74 w A1 C.length C) (hc1 : C.length ≤ c1) (h : checkF S C f = 2) :
 Calls Try.prog 32 #[.agg #[.slice A0 S.length c0, .slice A1 C.length c1, .int .i64 f, .bool o], .int .i64 at_] w fun e w' => e = .returned (.tuple #[.string ⟨#[]⟩, .int .i64 2]) ∧ Below w.heap.size w w' := by
 have R0 := Aside0.mk hr0
 have R1 := Aside0.mk hr1
 have HC0 := Aside0.mk hc0
 have HC1 := Aside0.mk hc1
 have HH := Aside0.mk h
 clear hr0 hc0 hr1 hc1 h
 go_enter Try.func32, Try.ntmps32
 go_wp2_with (first
  | ((with_reducible refine gate_dst (N := 2) rfl ?_); refine box_event ?hg (N := 2) ?hd (cs := #[.slice A0 S.length c0, .slice A1 C.length c1, .int .i64 f, .bool o]) (t := 38) ?hr ?_; (case hd => rfl); (case hg => rfl); (case hr => first | (go_simp; done) | (go_simp; rfl)); intro gx hg w3 hbox hb3; obtain ⟨h0, h1, h2, h3⟩ := cells25_ hbox; have HX := Aside0.mk hbox; have HB := Aside0.mk (Below.trans (Below.refl _ _) hb3); clear hg hbox hb3)
  | (go_at_call 33; refine (disk_Check_calls A0 A1 c0 c1 S C f o _ (Kd.C_below R0.out HB.out) (Kd.C_below R1.out HB.out)).mono ?_; rintro e w4 ⟨rfl, hb4⟩; rw [HH.out]; have n0_ := Aside0.mk (below_step HB.out hb4); have n1_ := Aside0.mk (blk_below HX.out hb4); clear HB HX h0 h1 h2 h3; have HB := n0_; have HX := n1_; obtain ⟨h0, h1, h2, h3⟩ := cells25_ HX.out; clear hb4 n0_ n1_))
 refine bodyPost_ret (results_tmp2 rfl _ _ _) rfl ?_
 exact ⟨rfl, HB.out⟩
set_option maxHeartbeats 8000000 in
theorem Read_off (A0 A1 : Option Addr) (c0 c1 : Nat) (S : List ByteArray) (C : List S74) (f : Int) (at_ : Int) (w : World) (hr0 : Kd.C Kd.string w A0 S.length S) (hc0 : S.length ≤ c0) (hr1 : Kd.C k74 w A1 C.length C) (hc1 : C.length ≤ c1) (h : checkF S C f = 0) :
 Calls Try.prog 32 #[.agg #[.slice A0 S.length c0, .slice A1 C.length c1, .int .i64 f, .bool true], .int .i64 at_] w fun e w' => e = .returned (.tuple #[.string ⟨#[]⟩, .int .i64 9]) ∧ Below w.heap.size w w' := by
 have R0 := Aside0.mk hr0
 have R1 := Aside0.mk hr1
 have HC0 := Aside0.mk hc0
 have HC1 := Aside0.mk hc1
 have HH := Aside0.mk h
 clear hr0 hc0 hr1 hc1 h
 go_enter Try.func32, Try.ntmps32
 go_wp2_with (first
  | ((with_reducible refine gate_dst (N := 2) rfl ?_); refine box_event ?hg (N := 2) ?hd (cs := #[.slice A0 S.length c0, .slice A1 C.length c1, .int .i64 f, .bool true]) (t := 38) ?hr ?_; (case hd => rfl); (case hg => rfl); (case hr => first | (go_simp; done) | (go_simp; rfl)); intro gx hg w3 hbox hb3; obtain ⟨h0, h1, h2, h3⟩ := cells25_ hbox; have HX := Aside0.mk hbox; have HB := Aside0.mk (Below.trans (Below.refl _ _) hb3); clear hg hbox hb3)
  | (go_at_call 33; refine (disk_Check_calls A0 A1 c0 c1 S C f true _ (Kd.C_below R0.out HB.out) (Kd.C_below R1.out HB.out)).mono ?_; rintro e w4 ⟨rfl, hb4⟩; rw [HH.out]; have n0_ := Aside0.mk (below_step HB.out hb4); have n1_ := Aside0.mk (blk_below HX.out hb4); clear HB HX h0 h1 h2 h3; have HB := n0_; have HX := n1_; obtain ⟨h0, h1, h2, h3⟩ := cells25_ HX.out; clear hb4 n0_ n1_))
 refine bodyPost_ret (results_tmp2 rfl _ _ _) rfl ?_
 exact ⟨rfl, HB.out⟩
set_option maxHeartbeats 8000000 in
theorem Read_range (A0 A1 : Option Addr) (c0 c1 : Nat) (S : List ByteArray) (C : List S74) (f : Int) (at_ : Int) (w : World) (hr0 : Kd.C Kd.string w A0 S.length S) (hc0 : S.length ≤ c0) (hr1 : Kd.C k74 w A1 C.length C) (hc1 : C.length ≤ c1) (h : checkF S C f = 0) (hh : hasF S.length at_ = false) :
 Calls Try.prog 32 #[.agg #[.slice A0 S.length c0, .slice A1 C.length c1, .int .i64 f, .bool false], .int .i64 at_] w fun e w' => e = .returned (.tuple #[.string ⟨#[]⟩, .int .i64 1]) ∧ Below w.heap.size w w' := by
 have R0 := Aside0.mk hr0
 have R1 := Aside0.mk hr1
 have HC0 := Aside0.mk hc0
 have HC1 := Aside0.mk hc1
 have HH := Aside0.mk h
 clear hr0 hc0 hr1 hc1 h
 have HHAS := Aside0.mk hh
 clear hh
 go_enter Try.func32, Try.ntmps32
 go_wp2_with (first
  | ((with_reducible refine gate_dst (N := 2) rfl ?_); refine box_event ?hg (N := 2) ?hd (cs := #[.slice A0 S.length c0, .slice A1 C.length c1, .int .i64 f, .bool false]) (t := 38) ?hr ?_; (case hd => rfl); (case hg => rfl); (case hr => first | (go_simp; done) | (go_simp; rfl)); intro gx hg w3 hbox hb3; obtain ⟨h0, h1, h2, h3⟩ := cells25_ hbox; have HX := Aside0.mk hbox; have HB := Aside0.mk (Below.trans (Below.refl _ _) hb3); clear hg hbox hb3)
  | (go_at_call 33; refine (disk_Check_calls A0 A1 c0 c1 S C f false _ (Kd.C_below R0.out HB.out) (Kd.C_below R1.out HB.out)).mono ?_; rintro e w4 ⟨rfl, hb4⟩; rw [HH.out]; have n0_ := Aside0.mk (below_step HB.out hb4); have n1_ := Aside0.mk (blk_below HX.out hb4); clear HB HX h0 h1 h2 h3; have HB := n0_; have HX := n1_; obtain ⟨h0, h1, h2, h3⟩ := cells25_ HX.out; clear hb4 n0_ n1_)
  | (go_at_call 46; refine (has_calls .nilIface _ A0 c0 S.length f false at_ _).mono ?_; rintro e w6 ⟨rfl, hb6⟩; rw [HHAS.out]; have n0_ := Aside0.mk (below_step HB.out hb6); have n1_ := Aside0.mk (blk_below HX.out hb6); clear HB HX h0 h1 h2 h3; have HB := n0_; have HX := n1_; obtain ⟨h0, h1, h2, h3⟩ := cells25_ HX.out; clear hb6 n0_ n1_))
 refine bodyPost_ret (results_tmp2 rfl _ _ _) rfl ?_
 exact ⟨rfl, HB.out⟩
set_option maxHeartbeats 8000000 in
theorem Read_good (A0 A1 : Option Addr) (c0 c1 : Nat) (S : List ByteArray) (C : List S74) (f : Int) (at_ : Int) (w : World) (hr0 : Kd.C Kd.string w A0 S.length S) (hc0 : S.length ≤ c0) (hr1 : Kd.C k74 w A1 C.length C) (hc1 : C.length ≤ c1) (h : checkF S C f = 0) (hh : hasF S.length at_ = true) :
 Calls Try.prog 32 #[.agg #[.slice A0 S.length c0, .slice A1 C.length c1, .int .i64 f, .bool false], .int .i64 at_] w fun e w' => e = .returned (.tuple #[.string (holdsF S C at_), .int .i64 0]) ∧ Below w.heap.size w w' := by
 have HLEN := Aside0.mk (checkF_in S C f h).2.2
 have R0 := Aside0.mk hr0
 have R1 := Aside0.mk hr1
 have HC0 := Aside0.mk hc0
 have HC1 := Aside0.mk hc1
 have HH := Aside0.mk h
 clear hr0 hc0 hr1 hc1 h
 have HI := Aside0.mk (hasF_in hh)
 have HHAS := Aside0.mk hh
 clear hh
 go_enter Try.func32, Try.ntmps32
 go_wp2_with (first
  | ((with_reducible refine gate_dst (N := 2) rfl ?_); refine box_event ?hg (N := 2) ?hd (cs := #[.slice A0 S.length c0, .slice A1 C.length c1, .int .i64 f, .bool false]) (t := 38) ?hr ?_; (case hd => rfl); (case hg => rfl); (case hr => first | (go_simp; done) | (go_simp; rfl)); intro gx hg w3 hbox hb3; obtain ⟨h0, h1, h2, h3⟩ := cells25_ hbox; have HX := Aside0.mk hbox; have HB := Aside0.mk (Below.trans (Below.refl _ _) hb3); clear hg hbox hb3)
  | (go_at_call 33; refine (disk_Check_calls A0 A1 c0 c1 S C f false _ (Kd.C_below R0.out HB.out) (Kd.C_below R1.out HB.out)).mono ?_; rintro e w4 ⟨rfl, hb4⟩; rw [HH.out]; have n0_ := Aside0.mk (below_step HB.out hb4); have n1_ := Aside0.mk (blk_below HX.out hb4); clear HB HX h0 h1 h2 h3; have HB := n0_; have HX := n1_; obtain ⟨h0, h1, h2, h3⟩ := cells25_ HX.out; clear hb4 n0_ n1_)
  | (go_at_call 46; refine (has_calls .nilIface _ A0 c0 S.length f false at_ _).mono ?_; rintro e w6 ⟨rfl, hb6⟩; rw [HHAS.out]; have n0_ := Aside0.mk (below_step HB.out hb6); have n1_ := Aside0.mk (blk_below HX.out hb6); clear HB HX h0 h1 h2 h3; have HB := n0_; have HX := n1_; obtain ⟨h0, h1, h2, h3⟩ := cells25_ HX.out; clear hb6 n0_ n1_)
  | (go_at_call 47; refine (callsIn_wide.1 (holds_in 3 (Nat.le_refl _) A0 A1 c0 c1 S C f false at_ _ (Kd.C_below R0.out HB.out) (Kd.C_below R1.out HB.out) HLEN.out HI.out.1 HI.out.2)).mono ?_; rintro e w7 ⟨rfl, hb7⟩; have n0_ := Aside0.mk (below_step HB.out hb7); clear HB h0 h1 h2 h3; have HB := n0_; clear hb7 n0_))
 refine bodyPost_ret (results_tmp2 rfl _ _ _) rfl ?_
 exact ⟨rfl, HB.out⟩
end
def readF (l0_0 : List ByteArray) (l0_1 : List (S74)) (a0_2 : Int) (a0_3 : Bool) (a1 : Int) : ByteArray × Int :=
 if checkF l0_0 l0_1 a0_2 = 0 then if a0_3 = true then (⟨#[]⟩, 9) else if hasF l0_0.length a1 = false then (⟨#[]⟩, 1) else (holdsF l0_0 l0_1 a1, 0) else (⟨#[]⟩, 2)
def disk_Read.f (l0_0 : List ByteArray) (l0_1 : List (S74)) (a0_2 : Int) (a0_3 : Bool) (a1 : Int) : Option (ByteArray × Int) := some (readF l0_0 l0_1 a0_2 a0_3 a1)
theorem disk_Read.calls (A0_0 : Option Addr) (c0_0 : Nat) (l0_0 : List ByteArray) (A0_1 : Option Addr) (c0_1 : Nat) (l0_1 : List (S74)) (a0_2 : Int) (a0_3 : Bool) (a1 : Int) (r1 : ByteArray) (r2 : Int) (w : World) (hr0_0 : Kd.C Kd.string w A0_0 l0_0.length l0_0) (hc0_0 : l0_0.length ≤ c0_0) (hr0_1 : Kd.C k74 w A0_1 l0_1.length l0_1) (hc0_1 : l0_1.length ≤ c0_1) (h : disk_Read.f l0_0 l0_1 a0_2 a0_3 a1 = some (r1, r2)) :
 Calls Try.prog 32 #[.agg #[.slice A0_0 l0_0.length c0_0, .slice A0_1 l0_1.length c0_1, .int .i64 a0_2, .bool a0_3], .int .i64 a1] w fun e w' => e = .returned (.tuple #[.string r1, .int .i64 r2]) ∧ Below w.heap.size w w' := by
 have h := Option.some.inj h
 unfold readF at h
 by_cases c : checkF l0_0 l0_1 a0_2 = 0
 · rw [if_pos c] at h
   cases a0_3 with
   | true =>
    rw [if_pos rfl] at h
    cases h
    exact Read_off A0_0 A0_1 c0_0 c0_1 l0_0 l0_1 _ a1 w hr0_0 hc0_0 hr0_1 hc0_1 c
   | false =>
    rw [if_neg (by decide)] at h
    cases hh : hasF l0_0.length a1 with
    | false =>
     rw [hh, if_pos rfl] at h
     cases h
     exact Read_range A0_0 A0_1 c0_0 c0_1 l0_0 l0_1 _ a1 w hr0_0 hc0_0 hr0_1 hc0_1 c hh
    | true =>
     rw [hh, if_neg (by decide)] at h
     cases h
     exact Read_good A0_0 A0_1 c0_0 c0_1 l0_0 l0_1 _ a1 w hr0_0 hc0_0 hr0_1 hc0_1 c hh
 · rw [if_neg c] at h
   cases h
   exact Read_bad A0_0 A0_1 c0_0 c0_1 l0_0 l0_1 a0_2 a0_3 a1 w hr0_0 hc0_0 hr0_1 hc0_1 (checkF_two c)
set_option maxHeartbeats 8000000 in
theorem Own_bad (A0 A1 : Option Addr) (c0 c1 : Nat) (S : List ByteArray) (C : List S74) (f : Int) (o : Bool)  (w : World) (hr0 : Kd.C Kd.string w A0 S.length S) (hc0 : S.length ≤ c0) (hr1 : Kd.C k74 w A1 C.length C) (hc1 : C.length ≤ c1) (h : checkF S C f = 2) :
 Calls Try.prog 36 #[.agg #[.slice A0 S.length c0, .slice A1 C.length c1, .int .i64 f, .bool o]] w fun e w' => ∃ v0_ v1_ : Value, e = .returned (.tuple #[.agg #[v0_, v1_, .int .i64 0, .bool false], .int .i64 2]) ∧ Kd.R Kd.string 9 w' w.heap.size (fun _ => True) v0_ ([] : List ByteArray) ∧ Kd.R k74 74 w' w.heap.size (fun _ => True) v1_ ([] : List S74) ∧ Below w.heap.size w w' := by
 have R0 := Aside0.mk hr0
 have R1 := Aside0.mk hr1
 have HC0 := Aside0.mk hc0
 have HC1 := Aside0.mk hc1
 have HH := Aside0.mk h
 clear hr0 hc0 hr1 hc1 h
 go_enter Try.func36, Try.ntmps36
 go_wp2_with (first
  | ((with_reducible refine gate_dst (N := 1) rfl ?_); refine box_event ?hg (N := 1) ?hd (cs := #[.slice A0 S.length c0, .slice A1 C.length c1, .int .i64 f, .bool o]) (t := 38) ?hr ?_; (case hd => rfl); (case hg => rfl); (case hr => first | (go_simp; done) | (go_simp; rfl)); intro gx hg w3 hbox hb3; obtain ⟨h0, h1, h2, h3⟩ := cells25_ hbox; have HX := Aside0.mk hbox; have HB := Aside0.mk (Below.trans (Below.refl _ _) hb3); clear hg hbox hb3)
  | ((with_reducible refine gate_dst (N := 2) rfl ?_); refine box_event ?hg (N := 2) ?hd (cs := #[.slice none 0 0, .slice none 0 0, .int .i64 0, .bool false]) (t := 38) ?hr ?_; (case hd => rfl); (case hg => rfl); (case hr => first | (go_simp; done) | (go_simp; rfl)); intro gr hg w4 hbox hb3; have HG := Aside0.mk (by rw [hg]; exact HB.out.size : w.heap.size ≤ gr); have HZ := Aside0.mk hbox; have n1_ := Aside0.mk (blk_below HX.out hb3); have n0_ := Aside0.mk (below_step HB.out hb3); clear h0 h1 h2 h3 HX HB; have HX := n1_; have HB := n0_; obtain ⟨h0, h1, h2, h3⟩ := cells25_ HX.out; clear hg hbox hb3 n0_ n1_)
  | (go_at_call 42; refine (disk_open_bad A0 A1 c0 c1 S C f o _ (Kd.C_below R0.out HB.out) (Kd.C_below R1.out HB.out) HH.out).mono ?_; rintro e w5 ⟨rfl, hb5⟩; have HB5 := Aside0.mk (below_step HB.out hb5); have HZ5 := Aside0.mk (blk_below HZ.out hb5); clear HB hb5 HX h0 h1 h2 h3; obtain ⟨y0, y1, y2, y3⟩ := cells25_ HZ5.out; obtain ⟨q0, q1, q2, q3⟩ := f25a HZ5.out))
 have F := fin25 (S := []) (C := []) (A0 := none) (A1 := none) (c0 := 0) (c1 := 0) (f := 0) (o := false) HZ5.out (Kd.R_nil _ _ _ _ _) (Kd.R_nil _ _ _ _ _) HB5.out HG.out
 refine bodyPost_ret (results_ct rfl _ _ gr 38 #[.slice none 0 0, .slice none 0 0, .int .i64 0, .bool false] (0, 0) _ rfl F.1 Try.underlying38 rfl (by kernel_rfl)) rfl ?_
 exact ⟨_, _, rfl, F.2.1, F.2.2.1, F.2.2.2⟩
set_option maxHeartbeats 8000000 in
theorem Own_good (A0 A1 : Option Addr) (c0 c1 : Nat) (S : List ByteArray) (C : List S74) (f : Int) (o : Bool) (w : World) (hr0 : Kd.C Kd.string w A0 S.length S) (hc0 : S.length ≤ c0) (hr1 : Kd.C k74 w A1 C.length C) (hc1 : C.length ≤ c1) (h : checkF S C f = 0) :
 Calls Try.prog 36 #[.agg #[.slice A0 S.length c0, .slice A1 C.length c1, .int .i64 f, .bool o]] w fun e w' => ∃ v0_ v1_ : Value, e = .returned (.tuple #[.agg #[v0_, v1_, .int .i64 f, .bool o], .int .i64 0]) ∧ Kd.R Kd.string 9 w' w.heap.size (fun _ => True) v0_ S ∧ Kd.R k74 74 w' w.heap.size (fun _ => True) v1_ C ∧ Below w.heap.size w w' := by
 have R0 := Aside0.mk hr0
 have R1 := Aside0.mk hr1
 have HC0 := Aside0.mk hc0
 have HC1 := Aside0.mk hc1
 have HH := Aside0.mk h
 clear hr0 hc0 hr1 hc1 h
 go_enter Try.func36, Try.ntmps36
 go_wp2_with (first
  | ((with_reducible refine gate_dst (N := 1) rfl ?_); refine box_event ?hg (N := 1) ?hd (cs := #[.slice A0 S.length c0, .slice A1 C.length c1, .int .i64 f, .bool o]) (t := 38) ?hr ?_; (case hd => rfl); (case hg => rfl); (case hr => first | (go_simp; done) | (go_simp; rfl)); intro gx hg w3 hbox hb3; obtain ⟨h0, h1, h2, h3⟩ := cells25_ hbox; have HX := Aside0.mk hbox; have HB := Aside0.mk (Below.trans (Below.refl _ _) hb3); clear hg hbox hb3)
  | ((with_reducible refine gate_dst (N := 2) rfl ?_); refine box_event ?hg (N := 2) ?hd (cs := #[.slice none 0 0, .slice none 0 0, .int .i64 0, .bool false]) (t := 38) ?hr ?_; (case hd => rfl); (case hg => rfl); (case hr => first | (go_simp; done) | (go_simp; rfl)); intro gr hg w4 hbox hb3; have HG := Aside0.mk (by rw [hg]; exact HB.out.size : w.heap.size ≤ gr); have HZ := Aside0.mk hbox; have n1_ := Aside0.mk (blk_below HX.out hb3); have n0_ := Aside0.mk (below_step HB.out hb3); clear h0 h1 h2 h3 HX HB; have HX := n1_; have HB := n0_; obtain ⟨h0, h1, h2, h3⟩ := cells25_ HX.out; clear hg hbox hb3 n0_ n1_)
  | (go_at_call 42; refine (open_dr A0 A1 c0 c1 S C f o w _ HB.out R0.out HC0.out R1.out HC1.out HH.out).mono ?_; rintro e w5 ⟨g, rfl, hgw, hdr, hb5⟩; have HB5 := Aside0.mk (below_step HB.out hb5); have HZ5 := Aside0.mk (blk_below HZ.out hb5); have n1_ := Aside0.mk (blk_below HX.out hb5); have HN := Aside0.mk (show gr ≠ g by have := blk_lt HZ.out; omega); clear HB h0 h1 h2 h3 HX; have HX := n1_; obtain ⟨h0, h1, h2, h3⟩ := cells25_ HX.out; have HDR := Aside0.mk hdr; obtain ⟨B0, e0, B1, e1, hd0, hd1, hd2, hd3, hd4⟩ := hdr; have HD1 := Aside0.mk hd1; have HD2 := Aside0.mk hd2; have HD3 := Aside0.mk hd3; have HD4 := Aside0.mk hd4; obtain ⟨⟨d0, d1, d2, d3⟩, ⟨t0, t1, t2, t3⟩⟩ := k51 hd1; obtain ⟨y0, y1, y2, y3⟩ := cells25_ HZ5.out; obtain ⟨q0, q1, q2, q3⟩ := f25a HZ5.out; clear hb5 n1_ hd0 hd1 hd2 hd3 hd4 hgw))
 have F := fin25 (f := f) (o := o) HZ5.out HD2.out HD3.out HD4.out HG.out
 refine bodyPost_ret (results_ct rfl _ _ gr 38 #[.slice B0 S.length e0, .slice B1 C.length e1, .int .i64 f, .bool o] (0, 0) _ rfl F.1 Try.underlying38 rfl (by kernel_rfl)) rfl ?_
 exact ⟨_, _, rfl, F.2.1, F.2.2.1, F.2.2.2⟩
def ownF (l0_0 : List ByteArray) (l0_1 : List (S74)) (a0_2 : Int) (a0_3 : Bool) : List ByteArray × (List (S74)) × Int × Bool × Int := if checkF l0_0 l0_1 a0_2 = 0 then (l0_0, l0_1, a0_2, a0_3, 0) else ([], [], 0, false, 2)
def disk_Own.f (l0_0 : List ByteArray) (l0_1 : List (S74)) (a0_2 : Int) (a0_3 : Bool) : Option (List ByteArray × (List (S74)) × Int × Bool × Int) := some (ownF l0_0 l0_1 a0_2 a0_3)
theorem disk_Own.calls (A0_0 : Option Addr) (c0_0 : Nat) (l0_0 : List ByteArray) (A0_1 : Option Addr) (c0_1 : Nat) (l0_1 : List (S74)) (a0_2 : Int) (a0_3 : Bool) (r1 : List ByteArray) (r2 : List (S74)) (r3 : Int) (r4 : Bool) (r5 : Int) (w : World) (hr0_0 : Kd.C Kd.string w A0_0 l0_0.length l0_0) (hc0_0 : l0_0.length ≤ c0_0) (hr0_1 : Kd.C k74 w A0_1 l0_1.length l0_1) (hc0_1 : l0_1.length ≤ c0_1) (h : disk_Own.f l0_0 l0_1 a0_2 a0_3 = some (r1, r2, r3, r4, r5)) :
 Calls Try.prog 36 #[.agg #[.slice A0_0 l0_0.length c0_0, .slice A0_1 l0_1.length c0_1, .int .i64 a0_2, .bool a0_3]] w fun e w' => ∃ v0_ v1_ : Value, e = .returned (.tuple #[.agg #[v0_, v1_, .int .i64 r3, .bool r4], .int .i64 r5]) ∧ Kd.R Kd.string 9 w' w.heap.size (fun _ => True) v0_ r1 ∧ Kd.R k74 74 w' w.heap.size (fun _ => True) v1_ r2 ∧ Below w.heap.size w w' := by
 have h := Option.some.inj h
 unfold ownF at h
 by_cases c : checkF l0_0 l0_1 a0_2 = 0
 · rw [if_pos c] at h
   simp only [Prod.mk.injEq] at h
   obtain ⟨h1, h2, h3, h4, h5⟩ := h
   subst h1 h2 h3 h4 h5
   exact Own_good A0_0 A0_1 c0_0 c0_1 l0_0 l0_1 a0_2 a0_3 w hr0_0 hc0_0 hr0_1 hc0_1 c
 · rw [if_neg c] at h
   cases h
   exact Own_bad A0_0 A0_1 c0_0 c0_1 l0_0 l0_1 a0_2 a0_3 w hr0_0 hc0_0 hr0_1 hc0_1 (checkF_two c)
def IsS80 (w0 W : World) (g : Nat) (f0 : List ByteArray) (f1 : List (S74)) (f2 : Int) (f3 : Bool) : Prop := ∃ A0 c0, ∃ A1 c1, W.heap[g]? = some (.cells #[.slice A0 f0.length c0, .slice A1 f1.length c1, .int .i64 f2, .bool f3] 80 (0, 0)) ∧ w0.heap.size ≤ g ∧ Kd.C Kd.string w0 A0 f0.length f0 ∧ Kd.C k74 w0 A1 f1.length f1
theorem IsS80.grown {w0 W : World} {g : Nat} {f0 : List ByteArray} {f1 : List (S74)} {f2 : Int} {f3 : Bool} {W1 : World} {row : Option Nat} (h : IsS80 w0 W g f0 f1 f2 f3) (hw : W.grownBy W1 row) (hne : some g ≠ row) : IsS80 w0 W1 g f0 f1 f2 f3 := by
 obtain ⟨A0, c0, A1, c1, hb, hg, hr0, hr1⟩ := h
 exact ⟨A0, c0, A1, c1, blk_grown hb hw hne, hg, hr0, hr1⟩
theorem IsS80.kept {w0 W : World} {g : Nat} {f0 : List ByteArray} {f1 : List (S74)} {f2 : Int} {f3 : Bool} {W1 : World} {S : Nat → Prop} (h : IsS80 w0 W g f0 f1 f2 f3) (hk : Kept W W1 S) (hne : ¬ S g) : IsS80 w0 W1 g f0 f1 f2 f3 := by
 obtain ⟨A0, c0, A1, c1, hb, hg, hr0, hr1⟩ := h
 exact ⟨A0, c0, A1, c1, blk_kept hb hk hne, hg, hr0, hr1⟩
theorem IsS80.below {w0 W : World} {g : Nat} {f0 : List ByteArray} {f1 : List (S74)} {f2 : Int} {f3 : Bool} {W1 : World} (h : IsS80 w0 W g f0 f1 f2 f3) (hw : Below W.heap.size W W1) : IsS80 w0 W1 g f0 f1 f2 f3 := h.grown (grown_of_below hw none) (by simp)
theorem IsS80.alloc {w0 W : World} {g : Nat} {f0 : List ByteArray} {f1 : List (S74)} {f2 : Int} {f3 : Bool} (h : IsS80 w0 W g f0 f1 f2 f3) (o : Obj) : IsS80 w0 (W.alloc o) g f0 f1 f2 f3 := h.below (below_alloc (Below.refl _ _) o)
theorem IsS80.drewN {w0 W : World} {g : Nat} {f0 : List ByteArray} {f1 : List (S74)} {f2 : Int} {f3 : Bool} (h : IsS80 w0 W g f0 f1 f2 f3) (m : Nat) : IsS80 w0 (W.drewN m) g f0 f1 f2 f3 := h
theorem IsS80.drew {w0 W : World} {g : Nat} {f0 : List ByteArray} {f1 : List (S74)} {f2 : Int} {f3 : Bool} (h : IsS80 w0 W g f0 f1 f2 f3) : IsS80 w0 W.drew g f0 f1 f2 f3 := h
theorem IsS80.at_ {w0 W : World} {g : Nat} {f0 : List ByteArray} {f1 : List (S74)} {f2 : Int} {f3 : Bool} {w' : World} {m : Nat} (hq : W.drewN m = w') (h : IsS80 w0 W g f0 f1 f2 f3) : IsS80 w0 w' g f0 f1 f2 f3 := by subst hq; exact IsS80.drewN h m
theorem IsS80.apart {w0 W : World} {g : Nat} {f0 : List ByteArray} {f1 : List (S74)} {f2 : Int} {f3 : Bool} {α : Type} {d : Kd α} {e : Nat} {base : Nat} {ok : Nat → Prop} {v : Value} {xs : List α} (h : IsS80 w0 W g f0 f1 f2 f3) (ho : d.R e W base ok v xs) (ht : ∀ q, q ∈ e :: d.E → q ≠ 80) : d.R e W base (fun k => ok k ∧ k ≠ g) v xs := by
 obtain ⟨A0, c0, A1, c1, hb, hg, hr0, hr1⟩ := h
 exact Kd.R_types ho hb ht
theorem IsS80.own_ne {w0 W : World} {g : Nat} {f0 : List ByteArray} {f1 : List (S74)} {f2 : Int} {f3 : Bool} {α : Type} {d : Kd α} {e : Nat} {base : Nat} {ok : Nat → Prop} {v : Value} {xs : List α} (h : IsS80 w0 W g f0 f1 f2 f3) (ho : d.R e W base ok v xs) (ht : e ≠ 80) : some g ≠ v.ownBlock := by
 obtain ⟨A0, c0, A1, c1, hb, hg, hr0, hr1⟩ := h
 exact Kd.R_ne ho hb ht
theorem IsS80.lt {w0 W : World} {g : Nat} {f0 : List ByteArray} {f1 : List (S74)} {f2 : Int} {f3 : Bool} (h : IsS80 w0 W g f0 f1 f2 f3) : g < W.heap.size := by
 obtain ⟨A0, c0, A1, c1, hb, hg, hr0, hr1⟩ := h
 exact blk_lt hb
theorem IsS80.far {w0 W : World} {g : Nat} {f0 : List ByteArray} {f1 : List (S74)} {f2 : Int} {f3 : Bool} {p : Addr} (h : IsS80 w0 W g f0 f1 f2 f3) (hne : g ≠ p.block) (u : Value) : IsS80 w0 (W.setCell p u) g f0 f1 f2 f3 := by
 obtain ⟨A0, c0, A1, c1, hb, hg, hr0, hr1⟩ := h
 exact ⟨A0, c0, A1, c1, blk_far hb hne u, hg, hr0, hr1⟩
def writeF (l0_0 : List ByteArray) (l0_1 : List (S74)) (a0_2 : Int) (a0_3 : Bool) (a1 : Int) (a2 : ByteArray) : List ByteArray × (List (S74)) × Int × Bool × Int :=
 if checkF l0_0 l0_1 a0_2 = 0 then
  if a0_3 = true then (l0_0, l0_1, a0_2, a0_3, 9) else if hasF l0_0.length a1 = false then (l0_0, l0_1, a0_2, a0_3, 1) else if ¬ a2.size = 128 then (l0_0, l0_1, a0_2, a0_3, 11)
  else if l0_1.length = 4096 then (l0_0, l0_1, a0_2, a0_3, 8) else (l0_0, l0_1 ++ [⟨a1, a2⟩], (powerF a0_2 a0_3).2.1, (powerF a0_2 a0_3).2.2, (powerF a0_2 a0_3).1)
 else ([], [], 0, false, 2)
def disk_Write.f (l0_0 : List ByteArray) (l0_1 : List (S74)) (a0_2 : Int) (a0_3 : Bool) (a1 : Int) (a2 : ByteArray) : Option (List ByteArray × (List (S74)) × Int × Bool × Int) := some (writeF l0_0 l0_1 a0_2 a0_3 a1 a2)
theorem disk_Write.calls (A0_0 : Option Addr) (c0_0 : Nat) (l0_0 : List ByteArray) (A0_1 : Option Addr) (c0_1 : Nat) (l0_1 : List (S74)) (a0_2 : Int) (a0_3 : Bool) (a1 : Int) (a2 : ByteArray) (r1 : List ByteArray) (r2 : List (S74)) (r3 : Int) (r4 : Bool) (r5 : Int) (w : World) (hr0_0 : Kd.C Kd.string w A0_0 l0_0.length l0_0) (hc0_0 : l0_0.length ≤ c0_0) (hr0_1 : Kd.C k74 w A0_1 l0_1.length l0_1) (hc0_1 : l0_1.length ≤ c0_1) (h : disk_Write.f l0_0 l0_1 a0_2 a0_3 a1 a2 = some (r1, r2, r3, r4, r5)) :
 Calls Try.prog 37 #[.agg #[.slice A0_0 l0_0.length c0_0, .slice A0_1 l0_1.length c0_1, .int .i64 a0_2, .bool a0_3], .int .i64 a1, .string a2] w fun e w' => ∃ v0_ v1_ : Value, e = .returned (.tuple #[.agg #[v0_, v1_, .int .i64 r3, .bool r4], .int .i64 r5]) ∧ Kd.R Kd.string 9 w' w.heap.size (fun _ => True) v0_ r1 ∧ Kd.R k74 74 w' w.heap.size (fun _ => True) v1_ r2 ∧ Below w.heap.size w w' := by
 have h := Option.some.inj h
 unfold writeF at h
 by_cases c : checkF l0_0 l0_1 a0_2 = 0
 · rw [if_pos c] at h
   cases a0_3 with
   | true =>
    rw [if_pos rfl] at h
    cases h
    exact Write_off A0_0 A0_1 c0_0 c0_1 l0_0 l0_1 _ a1 a2 w hr0_0 hc0_0 hr0_1 hc0_1 c
   | false =>
    rw [if_neg (by decide)] at h
    cases hh : hasF l0_0.length a1 with
    | false =>
     rw [hh, if_pos rfl] at h
     cases h
     exact Write_range A0_0 A0_1 c0_0 c0_1 l0_0 l0_1 _ a1 a2 w hr0_0 hc0_0 hr0_1 hc0_1 c hh
    | true =>
     rw [hh, if_neg (by decide)] at h
     by_cases hd : a2.size = 128
     · rw [if_neg (fun z => z hd)] at h
       by_cases hl : l0_1.length = 4096
       · rw [if_pos hl] at h
         cases h
         exact Write_full A0_0 A0_1 c0_0 c0_1 l0_0 l0_1 _ a1 a2 w hr0_0 hc0_0 hr0_1 hc0_1 c hh hd hl
       · rw [if_neg hl] at h
         have hle := (checkF_in _ _ _ c).2.2
         simp only [Prod.mk.injEq] at h
         obtain ⟨rfl, e2, rfl, rfl, rfl⟩ := h
         exact Write_put A0_0 A0_1 c0_0 c0_1 l0_0 l0_1 a0_2 a1 a2 w hr0_0 hc0_0 hr0_1 hc0_1 c hh hd (by omega) r2 e2.symm _ _ _ rfl
     · rw [if_pos hd] at h
       cases h
       exact Write_long A0_0 A0_1 c0_0 c0_1 l0_0 l0_1 _ a1 a2 w hr0_0 hc0_0 hr0_1 hc0_1 c hh hd
 · rw [if_neg c] at h
   cases h
   exact Write_bad A0_0 A0_1 c0_0 c0_1 l0_0 l0_1 a0_2 a0_3 a1 a2 w hr0_0 hc0_0 hr0_1 hc0_1 (checkF_two c)
def flushF (l0_0 : List ByteArray) (l0_1 : List (S74)) (a0_2 : Int) (a0_3 : Bool) : List ByteArray × (List (S74)) × Int × Bool × Int :=
 if checkF l0_0 l0_1 a0_2 = 0 then
  if (powerF a0_2 a0_3).1 = 0 then (applyF l0_0 l0_1, [], (powerF a0_2 a0_3).2.1, (powerF a0_2 a0_3).2.2, 0) else (l0_0, l0_1, (powerF a0_2 a0_3).2.1, (powerF a0_2 a0_3).2.2, (powerF a0_2 a0_3).1)
 else ([], [], 0, false, 2)
def disk_Flush.f (l0_0 : List ByteArray) (l0_1 : List (S74)) (a0_2 : Int) (a0_3 : Bool) : Option (List ByteArray × (List (S74)) × Int × Bool × Int) := some (flushF l0_0 l0_1 a0_2 a0_3)
theorem disk_Flush.calls (A0_0 : Option Addr) (c0_0 : Nat) (l0_0 : List ByteArray) (A0_1 : Option Addr) (c0_1 : Nat) (l0_1 : List (S74)) (a0_2 : Int) (a0_3 : Bool) (r1 : List ByteArray) (r2 : List (S74)) (r3 : Int) (r4 : Bool) (r5 : Int) (w : World) (hr0_0 : Kd.C Kd.string w A0_0 l0_0.length l0_0) (hc0_0 : l0_0.length ≤ c0_0) (hr0_1 : Kd.C k74 w A0_1 l0_1.length l0_1) (hc0_1 : l0_1.length ≤ c0_1) (h : disk_Flush.f l0_0 l0_1 a0_2 a0_3 = some (r1, r2, r3, r4, r5)) :
 Calls Try.prog 38 #[.agg #[.slice A0_0 l0_0.length c0_0, .slice A0_1 l0_1.length c0_1, .int .i64 a0_2, .bool a0_3]] w fun e w' => ∃ v0_ v1_ : Value, e = .returned (.tuple #[.agg #[v0_, v1_, .int .i64 r3, .bool r4], .int .i64 r5]) ∧ Kd.R Kd.string 9 w' w.heap.size (fun _ => True) v0_ r1 ∧ Kd.R k74 74 w' w.heap.size (fun _ => True) v1_ r2 ∧ Below w.heap.size w w' := by
 have h := Option.some.inj h
 unfold flushF at h
 by_cases c : checkF l0_0 l0_1 a0_2 = 0
 · rw [if_pos c] at h
   by_cases hp : (powerF a0_2 a0_3).1 = 0
   · rw [if_pos hp] at h
     simp only [Prod.mk.injEq] at h
     obtain ⟨e1, rfl, rfl, rfl, rfl⟩ := h
     exact Flush_yes A0_0 A0_1 c0_0 c0_1 l0_0 l0_1 a0_2 a0_3 w hr0_0 hc0_0 hr0_1 hc0_1 c _ _ (by rw [← hp]) r1 e1.symm
   · rw [if_neg hp] at h
     cases h
     exact Flush_no A0_0 A0_1 c0_0 c0_1 l0_0 l0_1 a0_2 a0_3 w hr0_0 hc0_0 hr0_1 hc0_1 c _ _ _ rfl hp
 · rw [if_neg c] at h
   cases h
   exact Flush_bad A0_0 A0_1 c0_0 c0_1 l0_0 l0_1 a0_2 a0_3 w hr0_0 hc0_0 hr0_1 hc0_1 (checkF_two c)
section
theorem wraps_u64_ (n : Int) (h₀ : 0 ≤ n) (h₁ : n < 2 ^ 64) : IntKind.u64.wrap n = n := by rw [IntKind.wrap_u64]; omega
theorem mul_one_f (n : Nat) (hn : n ≤ 1024) : bits_Mul.f 1 (n : Int) = some (0, (n : Int)) := by
 have e1 : Go.bits .and .u64 1 4294967295 = 1 := by rfl
 have e2 : Go.bits .and .u64 (n : Int) 4294967295 = (n : Int) := by
  have := bits_mask .u64 64 (by decide) wraps_u64_ 32 (by decide) (n : Int) (by omega) (by omega)
  exact this.trans (by omega)
 unfold bits_Mul.f bits_Mul64.f
 rw [e1, e2]
 simp only [IntKind.wrap_u64]
 have a1 : (1 : Int) / 4294967296 = 0 := by decide
 have a2 : (n : Int) / 4294967296 = 0 := by omega
 have a3 : (n : Int) % 18446744073709551616 = (n : Int) := by omega
 have e3 : Go.bits .and .u64 0 4294967295 = 0 := by rfl
 rw [a1, a2]
 simp [a3, a2, e2, e3]
def putL (xs : List ByteArray) (o : Nat) : List ByteArray → List ByteArray
 | [] => xs
 | v :: vs => putL (xs.set o v) (o + 1) vs
theorem putL_len (vs : List ByteArray) : ∀ xs o, (putL xs o vs).length = xs.length := by
 induction vs with
 | nil => intro xs o; rfl
 | cons v vs ih => intro xs o; exact (ih _ _).trans List.length_set
theorem R_setCells {g n cap base : Nat} (vs : List ByteArray) : ∀ (W : World) (o : Nat) (xs : List ByteArray), Kd.R Kd.string 9 W base (fun _ => True) (.slice (some ⟨g, 0, none⟩) n cap) xs → Kd.R Kd.string 9 (W.setCells g o (vs.map Value.string)) base (fun _ => True) (.slice (some ⟨g, 0, none⟩) n cap) (putL xs o vs) := by
 induction vs with
 | nil => intro W o xs h; exact h
 | cons v vs ih =>
  intro W o xs h
  have := Kd.R_putn h (o : Int) v
  rw [Int.toNat_natCast] at this
  exact ih _ (o + 1) _ this
theorem below_setCells {w0 : World} {g : Nat} (hg : w0.heap.size ≤ g) (vs : List Value) : ∀ (W : World) (o : Nat), Below w0.heap.size w0 W → Below w0.heap.size w0 (W.setCells g o vs) := by
 induction vs with
 | nil => intro W o h; exact h
 | cons v vs ih => intro W o h; exact ih _ _ (below_set h hg)
theorem putL_all (z : ByteArray) (vs : List ByteArray) (hv : ∀ v ∈ vs, v = z) : ∀ (xs : List ByteArray) (o : Nat), o + vs.length ≤ xs.length → (∀ j, j < o → xs[j]? = some z) → ∀ j, j < o + vs.length → (putL xs o vs)[j]? = some z := by
 induction vs with
 | nil => intro xs o _ h j hj; exact h j (by simpa using hj)
 | cons v vs ih =>
  intro xs o hl h j hj
  rw [List.length_cons] at hl hj
  refine ih (fun v hv' => hv v (List.mem_cons_of_mem _ hv')) (xs.set o v) (o + 1) (by rw [List.length_set]; omega) (fun j hj => ?_) j (by omega)
  by_cases e : o = j
  · subst e
    rw [List.getElem?_set_self (by omega), hv v List.mem_cons_self]
  · rw [List.getElem?_set_ne e]
    exact h j (by omega)
theorem copy_own {base n cap : Nat} (W : World) (g o dl dc : Nat) (a : Addr) (sl sc : Nat) (vs xs : List ByteArray) (h : Kd.R Kd.string 9 W base (fun _ => True) (.slice (some ⟨g, 0, none⟩) n cap) xs) (hn : vs.length = Nat.min sl dl)
 (hsrc : ∀ j, (hj : j < vs.length) → W.cell? (a.add j) = some (.string vs[j])) (ho : o + vs.length ≤ n) :
 (Builtin.copy_ #[35, 35] 3 #[.slice (some ⟨g, o, none⟩) dl dc, .slice (some a) sl sc]).run Try.prog W = .ok (.int .i64 ((vs.length : Nat) : Int)) (W.setCells g o (vs.map Value.string)) := by
 have := run_copy_cells (P := Try.prog) W 35 35 3 9 g o dl dc a sl sc (vs.map Value.string) Try.underlying35 (by kernel_rfl) (by rw [List.length_map]; exact hn) (fun j v hv => ?_) (fun j hj => ?_) (fun j hj => ?_) (fun v hv => ?_)
 · rw [List.length_map] at this
   exact this
 · rw [List.getElem?_map] at hv
   obtain ⟨x, hx, rfl⟩ := Option.map_eq_some_iff.1 hv
   obtain ⟨hj, rfl⟩ := List.getElem?_eq_some_iff.1 hx
   exact hsrc j hj
 · rw [List.length_map] at hj
   have := (Kd.R_celln (⟨#[]⟩ : ByteArray) h ((o + j : Nat) : Int) (by omega) (by omega)).1
   rw [Int.toNat_natCast] at this
   rw [this]
   rfl
 · rw [List.length_map] at hj
   have := (Kd.R_celln (⟨#[]⟩ : ByteArray) h ((o + j : Nat) : Int) (by omega) (by omega)).2
   rw [Int.toNat_natCast] at this
   exact this
 · obtain ⟨x, _, rfl⟩ := List.mem_map.1 hv
   rfl
set_option maxHeartbeats 8000000 in
theorem Repeat_calls (z : ByteArray) (N : Nat) (hN : 1 ≤ N) (hN2 : N ≤ 1024) (A : Option Addr) (c : Nat) (w : World) (hr : Kd.C Kd.string w A 1 [z]) :
 Calls Try.prog 41 #[.slice A 1 c, .int .i64 (N : Int)] w fun e w' => ∃ v0 : Value, e = .returned v0 ∧ Kd.R Kd.string 9 w' w.heap.size (fun _ => True) v0 (List.replicate N z) ∧ Below w.heap.size w w' := by
 obtain ⟨ad, rfl, hs0⟩ := Kd.at_string hr 0 (by omega) (by omega)
 have HS0 := Aside0.mk (show w.cell? (ad.add 0) = some (.string z) from hs0)
 have HR := Aside0.mk hr
 clear hs0
 have k0 : decide ((N : Int) < 0) = false := decide_eq_false (by omega)
 have k1 : IntKind.u64.wrap (N : Int) = (N : Int) := by rw [IntKind.wrap_u64]; omega
 have k2 : IntKind.i64.wrap (N : Int) = (N : Int) := by rw [IntKind.wrap_i64]; omega
 have k3 : decide (9223372036854775807 < (N : Int)) = false := decide_eq_false (by omega)
 clear hr
 go_enter Try.func41, Try.ntmps41
 go_wp2_with (first
  | (go_at_call 55; refine (bits_Mul.calls 1 (N : Int) 0 (N : Int) _ (mul_one_f N hN2)).mono ?_; rintro e w1 ⟨rfl, hd⟩; have HB := Aside0.mk hd.below; clear hd)
  | ((with_reducible refine gate_dst (N := 30) rfl ?_); refine Kd.R_make Kd.string (w0 := w) w.heap.size 9 ?hg (N := 30) ?hd 35 (.tmp 29) (.tmp 29) rfl (N : Int) rfl rfl Try.underlying35 (.string ⟨#[]⟩) 16 info9 rfl (by decide) (by decide) (⟨#[]⟩ : ByteArray) (ok := fun _ => True) (okp := fun _ => True) rfl (fun _ h => h) trivial (by omega) (by simp; omega) HB.out HB.out.size ?_; (case hd => rfl); (case hg => rfl); intro v30 w30 ho hb hg hat;  rw [Int.toNat_natCast] at ho; have HB2 := Aside0.mk hb; obtain ⟨gs, cap, rfl, hgs, hls, cells, hcs⟩ := Kd.R_form ho (by rw [List.length_replicate]; omega); rw [List.length_replicate] at ho ⊢; have HO := Aside0.mk ho; have HG := Aside0.mk hgs; have kcp := copy_own (n := N) (cap := cap) (base := w.heap.size) w30 gs 0 N cap ad 1 c [z] (List.replicate N (⟨#[]⟩ : ByteArray)) ho (by show 1 = min 1 N; omega) (by intro j hj; obtain rfl : j = 0 := (by simpa using hj); exact (hb.cell (p := ad.add 0) (block_lt_of_cell HS0.out)).trans HS0.out) (by simp; omega); clear HB hb hg hat ho hgs hls hcs))
 go_loopg [8] N (fun gg s8 wr => ∃ (kk : Nat) (cur : List ByteArray), 1 ≤ kk ∧ kk ≤ N ∧ N - kk ≤ gg ∧ s8 = .int .i64 kk ∧ cur.length = N ∧ Aside0 (Kd.R Kd.string 9 wr w.heap.size (fun _ => True) (.slice (some ⟨gs, 0, none⟩) N cap) cur) ∧ Aside0 (∀ j, j < kk → cur[j]? = some z) ∧ Aside0 (Below w.heap.size w wr))
 case atStart => exact ⟨1, putL (List.replicate N (⟨#[]⟩ : ByteArray)) 0 [z], Nat.le_refl _, hN, by omega, rfl, by rw [putL_len, List.length_replicate], ⟨R_setCells (g := gs) [z] w30 0 _ HO.out⟩, ⟨fun j hj => putL_all z [z] (by simp) _ 0 (by simp; omega) (fun j hj => absurd hj (Nat.not_lt_zero _)) j (by simpa using hj)⟩, ⟨below_setCells HG.out _ _ _ HB2.out⟩⟩
 case round =>
  clear HO HB2 kcp
  obtain ⟨kk, cur, h1, h2, hg, rfl, hcl, HO, HZ, HB⟩ := hrel
  by_cases hlt : kk < N
  · have hltz : (kk : Int) < (N : Int) := by omega
    have hm : min kk (N - kk) ≤ 1024 := by omega
    have hcap : N ≤ cap := (Kd.R_reads' HO.out).2.1
    have kcp := copy_own (n := N) (cap := cap) (base := w.heap.size) wr.drew gs kk (N - kk) (cap - kk) ⟨gs, 0, none⟩ kk cap (List.replicate (min kk (N - kk)) z) cur (Kd.R_drew HO.out) (by rw [List.length_replicate]) (by
     intro j hj
     rw [List.length_replicate] at hj
     have e := (Kd.R_celln (⟨#[]⟩ : ByteArray) HO.out (j : Int) (by omega) (by omega)).1
     rw [Int.toNat_natCast] at e
     rw [List.getElem_replicate]
     have hz := HZ.out j (by omega)
     have : rdOf (⟨#[]⟩ : ByteArray) cur (j : Int) = z := by unfold rdOf; rw [Int.toNat_natCast, List.getD_eq_getElem?_getD, hz]; rfl
     rw [this] at e
     rw [Addr.add_lit, Nat.zero_add]
     exact e) (by rw [List.length_replicate]; omega)
    rw [List.length_replicate] at kcp
    have s0 : decide ((kk : Int) ≤ (N : Int)) = true := decide_eq_true (by omega)
    have s1 : (0 : Int) ≤ (kk : Int) := by omega
    have s2 : (kk : Int) ≤ (N : Int) := by omega
    have s3 : (kk : Int) ≤ (cap : Int) := by omega
    go_wp2
    go_region
    go_wp2
    have hmap : (List.replicate (min kk (N - kk)) z).map Value.string = List.replicate (min kk (N - kk)) (Value.string z) := List.map_replicate
    have HO2 := R_setCells (g := gs) (List.replicate (min kk (N - kk)) z) wr.drew kk cur (Kd.R_drew HO.out)
    rw [hmap] at HO2
    have HZ2 := putL_all z (List.replicate (min kk (N - kk)) z) (fun v hv => List.eq_of_mem_replicate hv) cur kk (by rw [List.length_replicate]; omega) HZ.out
    rw [List.length_replicate] at HZ2
    go_roundg (N - (kk + min kk (N - kk)))
    case measure => omega
    case rel => exact ⟨kk + min kk (N - kk), putL cur kk (List.replicate (min kk (N - kk)) z), by omega, by omega, by omega, by simp, by rw [putL_len]; exact hcl, ⟨HO2⟩, ⟨HZ2⟩, ⟨below_setCells HG.out _ _ _ (Below.drew HB.out)⟩⟩
  · have hltz : ¬ (kk : Int) < (N : Int) := by omega
    obtain rfl : kk = N := by omega
    have hrep : cur = List.replicate kk z := by
     apply List.ext_getElem?
     intro j
     by_cases hj : j < kk
     · rw [HZ.out j hj, List.getElem?_replicate, if_pos hj]
     · rw [List.getElem?_eq_none (by omega), List.getElem?_replicate, if_neg hj]
    have HRP := Aside0.mk hrep
    clear hrep
    go_wp2
    go_ret
    exact ⟨_, rfl, by rw [← HRP.out]; exact HO.out, HB.out⟩
@[irreducible] def zero128 : ByteArray := strOfNums (List.replicate 128 0)
@[irreducible] def Z128 : Array Value := Array.replicate 128 (.int .u8 0)
theorem z128_get (j : Nat) (h : j < 128) : Z128[j]? = some (.int .u8 0) := by
 unfold Z128
 rw [Array.getElem?_replicate, if_pos h]
theorem info60 : (Try.prog.info? 62).map (·.zero) = some (some (.agg Z128)) := by
 unfold Z128
 kernel_rfl
theorem zero60 (w : World) : (zeroValue 62).run Try.prog w = .ok (.agg Z128) w := by
 obtain ⟨i, hi, hz⟩ := Option.map_eq_some_iff.1 info60
 simp [zeroValue, typeInfo, hi, hz]
theorem conv128 (w4 : World) (gz : Nat) (hbox : w4.heap[gz]? = some (.cells Z128 62 (0, 0))) : (convert 54 9 (.slice (some ⟨gz, 0, none⟩) 128 128)).run Try.prog w4 = .ok (.string zero128) w4 := by
 unfold zero128
 exact run_convert_bytes_arg (P := Try.prog) w4 54 5 Try.underlying54 Try.underlying5 gz 0 128 128 (List.replicate 128 0) (by rw [List.length_replicate]) (fun i hi => by rw [Nat.zero_add, blk_cell hbox i, z128_get i hi, List.getD_eq_getElem?_getD, List.getElem?_replicate, if_pos hi]; rfl) 9 Try.underlying9
theorem C_one (w : World) (z : ByteArray) : Kd.C Kd.string (w.alloc (.cells #[.string z] 9)) (some ⟨w.heap.size, 0, none⟩) 1 [z] := by
 refine ⟨rfl, by decide, fun _ => ⟨_, rfl, fun j p hp => ?_⟩⟩
 cases j with
 | succ j => simp at hp
 | zero =>
  obtain rfl : z = p := by simpa using hp
  refine ⟨[.string z], rfl, rfl, fun i u hu => ?_⟩
  cases i with
  | succ i => simp at hu
  | zero =>
   obtain rfl : Value.string z = u := by simpa using hu
   exact (blk_cell (blk_new w (.cells #[.string z] 9)) 0).trans rfl
set_option maxHeartbeats 8000000 in
theorem Make_good (N : Nat) (h1 : 1 ≤ N) (h2 : N ≤ 1024) (w : World) :
 Calls Try.prog 22 #[.int .i64 (N : Int)] w fun e w' => ∃ v0_ v1_ : Value, e = .returned (.tuple #[.agg #[v0_, v1_, .int .i64 (-1), .bool false], .int .i64 0]) ∧ Kd.R Kd.string 9 w' w.heap.size (fun _ => True) v0_ (List.replicate N zero128) ∧ Kd.R k74 74 w' w.heap.size (fun _ => True) v1_ ([] : List S74) ∧ Below w.heap.size w w' := by
 have k0 : decide ((N : Int) < 1) = false := decide_eq_false (by omega)
 have k0' : decide (N < 1) = false := decide_eq_false (by omega)
 have k1 : decide (1024 < (N : Int)) = false := decide_eq_false (by omega)
 have k1' : decide (1024 < N) = false := decide_eq_false (by omega)
 have kz := zero60
 go_enter Try.func22, Try.ntmps22
 go_upto_region 4 with (first
  | ((with_reducible refine gate_dst (N := 2) rfl ?_); refine box_event ?hg (N := 2) ?hd (cs := #[.slice none 0 0, .slice none 0 0, .int .i64 0, .bool false]) (t := 38) ?hr ?_; (case hd => rfl); (case hg => rfl); (case hr => first | (go_simp; done) | (go_simp; rfl)); intro gr hg w3 hbox hb3; have HG := Aside0.mk (by rw [hg]; exact Nat.le_refl _ : w.heap.size ≤ gr); have HZ := Aside0.mk hbox; have HB := Aside0.mk hb3; clear hg hbox hb3)
  | ((with_reducible refine gate_dst (N := 4) rfl ?_); refine box_event ?hg (N := 4) ?hd (cs := Z128) (t := 62) ?hr ?_; (case hd => rfl); (case hg => rfl); (case hr => first | (go_simp; done) | (go_simp; rfl)); intro gz hg w4 hbox hb4; have HZ4 := Aside0.mk (blk_below HZ.out hb4); have HB4 := Aside0.mk (below_step HB.out hb4); have kc := conv128 w4 gz hbox; clear hg hbox hb4 HB HZ))
 go_wp2_with (first
  | (go_at_call 41; refine (Repeat_calls zero128 N h1 h2 _ 1 _ (C_one _ _)).mono ?_; rintro e w5 ⟨v5, rfl, hR5, hb5⟩; obtain ⟨B0, e0, rfl⟩ := Kd.R_slice hR5; rw [List.length_replicate] at hR5 ⊢; have HB5 := Aside0.mk (below_step (below_alloc HB4.out _) hb5); have HR5 := Aside0.mk (Kd.R_lower hR5 (below_alloc HB4.out _).size); have HZ5 := Aside0.mk (blk_below (blk_alloc HZ4.out _) hb5); obtain ⟨y0, y1, y2, y3⟩ := cells25_ HZ5.out; obtain ⟨q0, q1, q2, q3⟩ := f25a HZ5.out; clear hb5 hR5))
 have hlr : (List.replicate N zero128).length = N := List.length_replicate
 have F := fin25 (S := List.replicate N zero128) (C := []) (A0 := B0) (c0 := e0) (A1 := none) (c1 := 0) (f := -1) (o := false) HZ5.out (by rw [hlr]; exact HR5.out) (Kd.R_nil _ _ _ _ _) HB5.out HG.out
 rw [hlr] at F
 refine bodyPost_ret (results_ct rfl _ _ gr 38 #[.slice B0 N e0, .slice none 0 0, .int .i64 (-1), .bool false] (0, 0) _ rfl F.1 Try.underlying38 rfl (by kernel_rfl)) rfl ?_
 exact ⟨_, _, rfl, F.2.1, F.2.2.1, F.2.2.2⟩
set_option maxHeartbeats 8000000 in
theorem Make_bad (n : Int) (h : n < 1 ∨ n > 1024) (w : World) :
 Calls Try.prog 22 #[.int .i64 n] w fun e w' => ∃ v0_ v1_ : Value, e = .returned (.tuple #[.agg #[v0_, v1_, .int .i64 0, .bool false], .int .i64 1]) ∧ Kd.R Kd.string 9 w' w.heap.size (fun _ => True) v0_ ([] : List ByteArray) ∧ Kd.R k74 74 w' w.heap.size (fun _ => True) v1_ ([] : List S74) ∧ Below w.heap.size w w' := by
 by_cases c : n < 1
 all_goals
  first | have k0 : decide (n < 1) = true := decide_eq_true c | have k0 : decide (n < 1) = false := decide_eq_false c
  first | have k1 : decide (1024 < n) = true := decide_eq_true (h.resolve_left c) | skip
  clear h c
  go_enter Try.func22, Try.ntmps22
  go_wp2_with (first
   | ((with_reducible refine gate_dst (N := 2) rfl ?_); refine box_event ?hg (N := 2) ?hd (cs := #[.slice none 0 0, .slice none 0 0, .int .i64 0, .bool false]) (t := 38) ?hr ?_; (case hd => rfl); (case hg => rfl); (case hr => first | (go_simp; done) | (go_simp; rfl)); intro gr hg w3 hbox hb3; have HG := Aside0.mk (by rw [hg]; exact Nat.le_refl _ : w.heap.size ≤ gr); have HZ := Aside0.mk hbox; have HB := Aside0.mk hb3; obtain ⟨y0, y1, y2, y3⟩ := cells25_ hbox; obtain ⟨q0, q1, q2, q3⟩ := f25a hbox; clear hg hbox hb3))
  have F := fin25 (S := []) (C := []) (A0 := none) (A1 := none) (c0 := 0) (c1 := 0) (f := 0) (o := false) HZ.out (Kd.R_nil _ _ _ _ _) (Kd.R_nil _ _ _ _ _) HB.out HG.out
  refine bodyPost_ret (results_ct rfl _ _ gr 38 #[.slice none 0 0, .slice none 0 0, .int .i64 0, .bool false] (0, 0) _ rfl F.1 Try.underlying38 rfl (by kernel_rfl)) rfl ?_
  exact ⟨_, _, rfl, F.2.1, F.2.2.1, F.2.2.2⟩
end
def disk_Make.f (a0 : Int) : Option (List ByteArray × (List (S74)) × Int × Bool × Int) := some (if a0 < 1 ∨ a0 > 1024 then ([], [], 0, false, 1) else (List.replicate a0.toNat zero128, [], -1, false, 0))
theorem disk_Make.calls (a0 : Int) (r1 : List ByteArray) (r2 : List (S74)) (r3 : Int) (r4 : Bool) (r5 : Int) (w : World) (h : disk_Make.f a0 = some (r1, r2, r3, r4, r5)) :
 Calls Try.prog 22 #[.int .i64 a0] w fun e w' => ∃ v0_ v1_ : Value, e = .returned (.tuple #[.agg #[v0_, v1_, .int .i64 r3, .bool r4], .int .i64 r5]) ∧ Kd.R Kd.string 9 w' w.heap.size (fun _ => True) v0_ r1 ∧ Kd.R k74 74 w' w.heap.size (fun _ => True) v1_ r2 ∧ Below w.heap.size w w' := by
 have h := Option.some.inj h
 by_cases c : a0 < 1 ∨ a0 > 1024
 · rw [if_pos c] at h
   cases h
   exact Make_bad a0 c w
 · rw [if_neg c] at h
   obtain ⟨n, rfl⟩ : ∃ n : Nat, a0 = n := ⟨a0.toNat, by omega⟩
   rw [Int.toNat_natCast] at h
   cases h
   exact Make_good n (by omega) (by omega) w
def disk_Crash.f (l0_0 : List ByteArray) (l0_1 : List (S74)) (a0_2 : Int) (a0_3 : Bool) (l1 : List Bool) (a2 a3 : Int) : Option (List ByteArray × (List (S74)) × Int × Bool × Int) := some (if checkF l0_0 l0_1 a0_2 = 0 then (crashF l1 a2 (max 0 (min a3 128)).toNat l0_0 l0_1, [], -1, false, 0) else ([], [], 0, false, 2))
theorem disk_Crash.calls (A0_0 : Option Addr) (c0_0 : Nat) (l0_0 : List ByteArray) (A0_1 : Option Addr) (c0_1 : Nat) (l0_1 : List (S74)) (a0_2 : Int) (a0_3 : Bool) (A1 : Option Addr) (c1 : Nat) (l1 : List Bool) (a2 a3 : Int) (r1 : List ByteArray) (r2 : List (S74)) (r3 : Int) (r4 : Bool) (r5 : Int) (w : World) (hr0_0 : Kd.C Kd.string w A0_0 l0_0.length l0_0) (hc0_0 : l0_0.length ≤ c0_0) (hr0_1 : Kd.C k74 w A0_1 l0_1.length l0_1) (hc0_1 : l0_1.length ≤ c0_1) (hr1 : Kd.C Kd.bool w A1 l1.length l1) (hc1 : l1.length ≤ c1) (h : disk_Crash.f l0_0 l0_1 a0_2 a0_3 l1 a2 a3 = some (r1, r2, r3, r4, r5)) :
 Calls Try.prog 23 #[.agg #[.slice A0_0 l0_0.length c0_0, .slice A0_1 l0_1.length c0_1, .int .i64 a0_2, .bool a0_3], .slice A1 l1.length c1, .int .i64 a2, .int .i64 a3] w fun e w' => ∃ v0_ v1_ : Value, e = .returned (.tuple #[.agg #[v0_, v1_, .int .i64 r3, .bool r4], .int .i64 r5]) ∧ Kd.R Kd.string 9 w' w.heap.size (fun _ => True) v0_ r1 ∧ Kd.R k74 74 w' w.heap.size (fun _ => True) v1_ r2 ∧ Below w.heap.size w w' := by
 have h := Option.some.inj h
 by_cases c : checkF l0_0 l0_1 a0_2 = 0
 · rw [if_pos c] at h
   cases h
   exact Crash_good A0_0 A0_1 c0_0 c0_1 l0_0 l0_1 a0_2 a0_3 A1 c1 l1 a2 a3 w hr0_0 hc0_0 hr0_1 hc0_1 hr1 c _ (by omega) (by omega)
 · rw [if_neg c] at h
   cases h
   exact Crash_bad A0_0 A0_1 c0_0 c0_1 l0_0 l0_1 a0_2 a0_3 A1 c1 l1 a2 a3 w hr0_0 hc0_0 hr0_1 hc0_1 hr1 (checkF_two c)
end Go.Proofs.Ytjagplonneednaa.P
