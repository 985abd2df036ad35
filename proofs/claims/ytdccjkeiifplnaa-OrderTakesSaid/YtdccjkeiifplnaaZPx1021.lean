-- kept, by a program of this session, of a text that the printer or this session wrote
import Derived.Test.YtdccjkeiifplnaaZPx0
import Derived.Test.YtdccjkeiifplnaaZPx30009
import Derived.Test.YtdccjkeiifplnaaZPx1045
import Derived.Deep.RegionWith
import Derived.Laws.CopyOwn
import Derived.Laws.CopyRow
import Derived.Laws.Externs
import Derived.Lib.AppendZerosOnto
import Derived.Lib.Overlaps
import Derived.LoopIn
import Derived.LoopNIn
import Derived.Maps.AppendAt
import Derived.OwnWalkIn
import Derived.RangeFuncBound
import Derived.RangeFuncBox
import Derived.RangeFuncCalls
import Derived.RangeFuncLeaves
import Derived.RangeFuncNested
import Derived.Shelf.Abstract
import Derived.Shelf.RegionOpenPlain
import Derived.Shelf.Spec.SlicesInsert
import Derived.Sort.LoopGhostIn
import Derived.TacticsInMore
import Derived.WalkSpells
namespace Go.Proofs.Ytdccjkeiifplnaa.P
open Go.RowKit Go.Proofs.YtdccjkeiifplnaaW.PrintWords Go.Proofs.YtdccjkeiifplnaaW.PrintLast Go.Proofs.YtdccjkeiifplnaaW.PrintMore
attribute [local go_sem] max2_int min2_int max_two min_two max_three min_three max_four min_four
set_option linter.unusedVariables false
set_option linter.unusedSimpArgs false
section
def bsN (l : List S38) (t : Int) : Nat → Nat → Nat → Nat
 | 0, lo, _ => lo
 | d + 1, lo, hi => if lo < hi then (if (rd_T38 l (((lo + hi) / 2 : Nat) : Int)).f0 < t then bsN l t d ((lo + hi) / 2 + 1) hi else bsN l t d lo ((lo + hi) / 2)) else lo
theorem bsN_succ (l : List S38) (t : Int) (d lo hi : Nat) : bsN l t (d + 1) lo hi = if lo < hi then (if (rd_T38 l (((lo + hi) / 2 : Nat) : Int)).f0 < t then bsN l t d ((lo + hi) / 2 + 1) hi else bsN l t d lo ((lo + hi) / 2)) else lo := rfl
theorem bsN_more (l : List S38) (t : Int) (d : Nat) : ∀ lo hi, hi - lo ≤ d → bsN l t (d + 1) lo hi = bsN l t d lo hi := by
 induction d with
 | zero => intro lo hi h; rw [bsN_succ, if_neg (by omega)]; rfl
 | succ d ih =>
  intro lo hi h
  rw [bsN_succ l t (d + 1) lo hi, bsN_succ l t d lo hi]
  by_cases c : lo < hi
  · rw [if_pos c, if_pos c, ih _ _ (by omega), ih _ _ (by omega)]
  · rw [if_neg c, if_neg c]
theorem bsN_fuel (l : List S38) (t : Int) (lo hi e : Nat) : bsN l t (hi - lo + e) lo hi = bsN l t (hi - lo) lo hi := by
 induction e with
 | zero => rfl
 | succ e ih => rw [← ih, ← Nat.add_assoc]; exact bsN_more l t _ lo hi (by omega)
def bsL (l : List S38) (t : Int) (lo hi : Nat) : Nat := bsN l t (hi - lo) lo hi
theorem bsL_stop {l : List S38} {t : Int} {lo hi : Nat} (h : ¬ lo < hi) : bsL l t lo hi = lo := by
 unfold bsL
 rw [show hi - lo = 0 by omega]
 rfl
theorem bsL_up {l : List S38} {t : Int} {lo hi : Nat} (h : lo < hi) (c : (rd_T38 l (((lo + hi) / 2 : Nat) : Int)).f0 < t) : bsL l t lo hi = bsL l t ((lo + hi) / 2 + 1) hi := by
 unfold bsL
 obtain ⟨e, he⟩ : ∃ e, hi - lo = (hi - ((lo + hi) / 2 + 1) + e) + 1 := ⟨hi - lo - 1 - (hi - ((lo + hi) / 2 + 1)), by omega⟩
 rw [he, bsN_succ, if_pos h, if_pos c, bsN_fuel]
theorem bsL_down {l : List S38} {t : Int} {lo hi : Nat} (h : lo < hi) (c : ¬ (rd_T38 l (((lo + hi) / 2 : Nat) : Int)).f0 < t) : bsL l t lo hi = bsL l t lo ((lo + hi) / 2) := by
 unfold bsL
 obtain ⟨e, he⟩ : ∃ e, hi - lo = ((lo + hi) / 2 - lo + e) + 1 := ⟨hi - lo - 1 - ((lo + hi) / 2 - lo), by omega⟩
 rw [he, bsN_succ, if_pos h, if_neg c, bsN_fuel]
theorem bsL_le (l : List S38) (t : Int) (d : Nat) : ∀ lo hi, hi - lo ≤ d → lo ≤ hi → lo ≤ bsL l t lo hi ∧ bsL l t lo hi ≤ hi := by
 induction d with
 | zero => intro lo hi h1 h2; rw [bsL_stop (by omega)]; omega
 | succ d ih =>
  intro lo hi h1 h2
  by_cases h : lo < hi
  · by_cases c : (rd_T38 l (((lo + hi) / 2 : Nat) : Int)).f0 < t
    · rw [bsL_up h c]; have := ih ((lo + hi) / 2 + 1) hi (by omega) (by omega); omega
    · rw [bsL_down h c]; have := ih lo ((lo + hi) / 2) (by omega) (by omega); omega
  · rw [bsL_stop h]; omega
def bsF (l : List S38) (t : Int) : Nat := bsL l t 0 l.length
def bsI (l : List S38) (t : Int) : Bool := decide (bsF l t < l.length) && ((rd_T38 l (bsF l t : Int)).f0 == t)
theorem by_f (x : S38) (t : Int) : order_by.f x.f0 x.f1 x.f2 x.f3 t = some (if x.f0 < t then -1 else if x.f0 > t then 1 else 0) := by
 unfold order_by.f cmp_Compare_int.f cmp_isNaN_int.f
 simp only [bne_self_eq_false, Option.bind_some, Bool.false_eq_true, if_false]
 split
 · rfl
 · split <;> rfl
set_option maxHeartbeats 4000000 in
theorem BinSearch_Seat (A0 : Option Addr) (c0 : Nat) (l : List S38) (t : Int) (w : World) (hr : Kd.C k38 w A0 l.length l) (hn : l.length < 4611686018427387904) :
 Calls Try.prog 27 #[.slice A0 l.length c0, .int .i64 t, .func (.func 28) #[] #[]] w fun e w' => e = .returned (.tuple #[.int .i64 (bsF l t : Nat), .bool (bsI l t)]) ∧ Below w.heap.size w w' := by
 have HR := Aside0.mk hr
 have eg := enters_of Try.func28 (by kernel_rfl) rfl
 have EG := Aside0.mk (show ∀ args w, (callFunc 28 args).run Try.prog w = .ok (.enter 28 args) w from eg)
 have eg := EG.out
 clear hr
 generalize hF : bsF l t = F
 have FI := Aside0.mk (show (decide (F < l.length) && ((rd_T38 l (F : Int)).f0 == t)) = bsI l t by unfold bsI; rw [hF])
 have FF := Aside0.mk hF
 clear hF
 go_enter Try.func27, Try.ntmps27
 go_wp2
 go_loopg [9, 10] l.length (fun kx s9 s10 wr => ∃ lo hi : Nat, s9 = .int .i64 lo ∧ s10 = .int .i64 hi ∧ lo ≤ hi ∧ hi ≤ l.length ∧ hi - lo ≤ kx ∧ Aside0 (Below w.heap.size w wr) ∧ Aside0 (bsL l t lo hi = F))
 case atStart => exact ⟨0, l.length, rfl, rfl, Nat.zero_le _, Nat.le_refl _, by omega, ⟨Below.refl _ _⟩, ⟨FF.out⟩⟩
 case round =>
  obtain ⟨lo, hi, rfl, rfl, hlh, hin, hg, BW, I⟩ := hrel
  by_cases hlt : lo < hi
  · obtain ⟨ad, rfl, hx, hx1, hx2, hx3⟩ := at_T38 (Kd.C_below HR.out BW.out) (((lo + hi) / 2 : Nat) : Int) (by omega) (by omega)
    rw [Int.toNat_natCast] at hx hx1 hx2 hx3
    generalize hy : rd_T38 l (((lo + hi) / 2 : Nat) : Int) = y at hx hx1 hx2 hx3
    have Y := Aside0.mk hy
    have B := Aside0.mk (by_f y t)
    clear hy
    by_cases c : y.f0 < t
    · have B' := Aside0.mk (show order_by.f y.f0 y.f1 y.f2 y.f3 t = some (-1) by rw [B.out, if_pos c])
      go_wp2_with (go_at_fn 28; refine (order_by.calls y.f0 y.f1 y.f2 y.f3 t _ _ B'.out).mono ?_; rintro e w' ⟨rfl, hb'⟩)
      go_roundg (hi - ((lo + hi) / 2 + 1))
      case measure => omega
      case rel =>
       refine ⟨(lo + hi) / 2 + 1, hi, by rw [show ((lo : Int) + (hi : Int)) / 2 + 1 = (((lo + hi) / 2 + 1 : Nat) : Int) by omega], rfl, by omega, hin, Nat.le_refl _, ⟨below_step BW.out hb'⟩, ⟨?_⟩⟩
       rw [← bsL_up hlt (by rw [Y.out]; exact c)]; exact I.out
    · have B' : ∃ q : Int, 0 ≤ q ∧ order_by.f y.f0 y.f1 y.f2 y.f3 t = some q := by
       rw [B.out, if_neg c]
       split
       · exact ⟨1, by omega, rfl⟩
       · exact ⟨0, by omega, rfl⟩
      obtain ⟨q, hq, B2⟩ := B'
      have B'' := Aside0.mk B2
      have hq' : ¬ q < 0 := by omega
      have C := Aside0.mk (Int.not_lt.mpr (Int.not_lt.mp c))
      clear B2 c
      go_wp2_with (go_at_fn 28; refine (order_by.calls y.f0 y.f1 y.f2 y.f3 t _ _ B''.out).mono ?_; rintro e w' ⟨rfl, hb'⟩)
      go_roundg ((lo + hi) / 2 - lo)
      case measure => omega
      case rel =>
       refine ⟨lo, (lo + hi) / 2, rfl, by rw [show ((lo : Int) + (hi : Int)) / 2 = (((lo + hi) / 2 : Nat) : Int) by omega], by omega, by omega, Nat.le_refl _, ⟨below_step BW.out hb'⟩, ⟨?_⟩⟩
       rw [← bsL_down hlt (by rw [Y.out]; exact Int.not_lt.mpr C.out)]; exact I.out
  · obtain rfl : hi = lo := by omega
    have e0 : hi = F := by have := I.out; rw [bsL_stop hlt] at this; exact this
    subst e0
    by_cases hn2 : hi < l.length
    · obtain ⟨ad, rfl, hx, hx1, hx2, hx3⟩ := at_T38 (Kd.C_below HR.out BW.out) (hi : Int) (by omega) (by omega)
      rw [Int.toNat_natCast] at hx hx1 hx2 hx3
      generalize hy : rd_T38 l (hi : Int) = y at hx hx1 hx2 hx3
      have Y := Aside0.mk hy
      have B := Aside0.mk (by_f y t)
      clear hy
      by_cases c : y.f0 = t
      · have B' := Aside0.mk (show order_by.f y.f0 y.f1 y.f2 y.f3 t = some 0 by rw [B.out, if_neg (by omega), if_neg (by omega)])
        have C := Aside0.mk c
        clear c
        go_wp2_with (go_at_fn 28; refine (order_by.calls y.f0 y.f1 y.f2 y.f3 t _ _ B'.out).mono ?_; rintro e w' ⟨rfl, hb'⟩)
        go_ret2
        exact ⟨by rw [← FI.out, Y.out]; simp [hn2, C.out], below_step BW.out hb'⟩
      · have B' : ∃ q : Int, ¬ q = 0 ∧ order_by.f y.f0 y.f1 y.f2 y.f3 t = some q := by
         rw [B.out]
         split
         · exact ⟨-1, by omega, rfl⟩
         · rw [if_pos (by omega)]; exact ⟨1, by omega, rfl⟩
        obtain ⟨q, hq, B2⟩ := B'
        have B'' := Aside0.mk B2
        have C := Aside0.mk c
        clear B2 c
        go_wp2_with (go_at_fn 28; refine (order_by.calls y.f0 y.f1 y.f2 y.f3 t _ _ B''.out).mono ?_; rintro e w' ⟨rfl, hb'⟩)
        go_ret2
        exact ⟨by rw [← FI.out, Y.out, beq_eq_false_iff_ne.mpr C.out]; have e := beq_eq_false_iff_ne.mpr hq; simp [hn2, e], below_step BW.out hb'⟩
    · go_wp2
      go_ret2
      exact ⟨by rw [← FI.out]; simp [hn2], BW.out⟩
def seatC (x : S38) : List Value := [.int .i64 x.f0, .int .u64 x.f1, .int .i64 x.f2, .bool x.f3]
def seatsC (l : List S38) : List Value := l.flatMap seatC
theorem seatsC_cons (x : S38) (l : List S38) : seatsC (x :: l) = seatC x ++ seatsC l := by unfold seatsC; rw [List.flatMap_cons]
theorem seatsC_len (l : List S38) : (seatsC l).length = l.length * 4 := by
 induction l with
 | nil => rfl
 | cons x l ih => rw [seatsC_cons, List.length_append, ih, List.length_cons]; show 4 + _ = _; omega
theorem seatsC_app (l m : List S38) : seatsC (l ++ m) = seatsC l ++ seatsC m := by unfold seatsC; rw [List.flatMap_append]
theorem seatsC_take (l : List S38) (i : Nat) (h : i ≤ l.length) : (seatsC l).take (i * 4) = seatsC (l.take i) := by
 conv => lhs; rw [← List.take_append_drop i l, seatsC_app]
 exact List.take_left' (by rw [seatsC_len, List.length_take]; omega)
theorem seatsC_drop (l : List S38) (i : Nat) (h : i ≤ l.length) : (seatsC l).drop (i * 4) = seatsC (l.drop i) := by
 conv => lhs; rw [← List.take_append_drop i l, seatsC_app]
 exact List.drop_left' (by rw [seatsC_len, List.length_take]; omega)
theorem seatC_one (x : S38) : ∀ v ∈ seatC x, v.oneCell' = true := by
 intro v hv
 unfold seatC at hv
 simp only [List.mem_cons, List.not_mem_nil, or_false] at hv
 rcases hv with rfl | rfl | rfl | rfl <;> rfl
theorem seatsC_one (l : List S38) : ∀ v ∈ seatsC l, v.oneCell' = true := by
 intro v hv
 obtain ⟨x, _, h⟩ := List.mem_flatMap.mp hv
 exact seatC_one x v h
theorem seats_reps {R : S38 → List Value → Prop} (hR : ∀ x, R x (seatC x)) (l : List S38) : Reps R 4 l (seatsC l) := by
 refine ⟨seatsC_len l, fun j p hj => ?_⟩
 have hlt : j < l.length := by
  rcases Nat.lt_or_ge j l.length with h | h
  · exact h
  · rw [List.getElem?_eq_none h] at hj; cases hj
 rw [seatsC_drop l j (by omega), List.drop_eq_getElem_cons hlt, seatsC_cons, List.take_left' (show (seatC l[j]).length = 4 from rfl)]
 rw [List.getElem?_eq_getElem hlt] at hj
 obtain rfl := Option.some.inj hj
 exact hR _
theorem reps_seats {R : S38 → List Value → Prop} (hR : ∀ x cs, R x cs → cs = seatC x) (l : List S38) : ∀ inner, Reps R 4 l inner → inner = seatsC l := by
 induction l with
 | nil => intro inner h; exact List.length_eq_zero_iff.mp (by have := h.1; simpa using this)
 | cons x l ih =>
  intro inner h
  have h0 := hR _ _ (h.2 0 x rfl)
  rw [Nat.zero_mul, List.drop_zero] at h0
  have h1 := ih (inner.drop 4) ⟨by rw [List.length_drop, h.1, List.length_cons]; omega, fun j p hj => by
   have := h.2 (j + 1) p hj
   rw [List.drop_drop, show 4 + j * 4 = (j + 1) * 4 by omega]; exact this⟩
  rw [seatsC_cons, ← h0, ← h1, List.take_append_drop]
theorem own_seats {w : World} {base : Nat} {ok : Nat → Prop} {v : Value} {l : List S38} (h : Kd.R k38 38 w base ok v l) : w.ownsRow base 38 4 v l.length (seatsC l) := by
 obtain ⟨_, inner, ho, hr⟩ := h
 obtain rfl := reps_seats (fun x cs hx => k38_openM hx) l inner hr
 exact ho
theorem R_seats {w : World} {base : Nat} {ok : Nat → Prop} {v : Value} {l : List S38} (h : w.ownsRow base 38 4 v l.length (seatsC l)) (hok : ∀ k, v.ownBlock = some k → ok k) : Kd.R k38 38 w base ok v l :=
 ⟨hok, seatsC l, h, seats_reps (fun x => k38_mkM _ _ _ x) l⟩
theorem copy_rowK {P : Program} (w : World) (dT sT ty elem : TypeId) (g o dLen dCap : Nat) (a : Addr) (sLen sCap m size : Nat) (cur : Array Value) (t : TypeId) (cs : List Value)
 (hu : P.underlying dT = some (.slice elem)) (hs : (P.info? elem).map (·.size) = some size)
 (hg : w.heap[g]? = some (.cells cur t (0, 0))) (hm : Nat.min sLen dLen = m) (hn : cs.length = m * size)
 (hsrc : ∀ j v, cs[j]? = some v → w.cell? (a.add j) = some v) (hfit : o + cs.length ≤ cur.size) (h1 : ∀ v ∈ cs, v.oneCell' = true) :
 (Builtin.copy_ #[dT, sT] ty #[.slice (some ⟨g, o, none⟩) dLen dCap, .slice (some a) sLen sCap]).run P w =
  .ok (goInt m) (w.setRow g (cur.toList.take o ++ cs ++ cur.toList.drop (o + cs.length)).toArray) := by
 have hl := run_loadCells_list (P := P) w a cs hsrc
 have hst := run_storeCells_at P g o t cs 0 cur w hg (by simpa using hfit) h1
 rw [hn] at hl
 cases hq : P.info? elem with
 | none => simp [hq] at hs
 | some i =>
  have hi : i.size = size := by simpa [hq] using hs
  simp [Builtin.copy_, run_underlying hu, Builtin.lenOf, Builtin.firstCells, sizeOf, typeInfo, hq, hi, hm, hl, hst]
def shiftC (cur : List Value) (i n : Nat) (D : List Value) : List Value := cur.take ((i + 1) * 4) ++ D ++ cur.drop ((i + 1) * 4 + D.length)
def putC (cur : List Value) (i : Nat) (X : List Value) : List Value := cur.take (i * 4) ++ X ++ cur.drop (i * 4 + X.length)
theorem shift_put (cur : List Value) (l : List S38) (x : S38) (i c : Nat) (hi : i < l.length) (hc : l.length + 1 ≤ c) (hl : cur.length = c * 4) (hcur : cur.take (l.length * 4) = seatsC l) :
 (putC (shiftC cur i l.length (seatsC (l.drop i))) i (seatC x)).length = c * 4 ∧ (putC (shiftC cur i l.length (seatsC (l.drop i))) i (seatC x)).take ((l.length + 1) * 4) = seatsC (l.take i ++ x :: l.drop i) ∧ (shiftC cur i l.length (seatsC (l.drop i))).length = c * 4 := by
 have hD : (seatsC (l.drop i)).length = (l.length - i) * 4 := by rw [seatsC_len, List.length_drop]
 have hA : (seatsC (l.take i)).length = i * 4 := by rw [seatsC_len, List.length_take, Nat.min_eq_left (by omega)]
 have hX : (seatC x).length = 4 := rfl
 have e0 : cur.take (i * 4) = seatsC (l.take i) := by
  have := congrArg (List.take (i * 4)) hcur
  rw [List.take_take, Nat.min_eq_left (by omega), seatsC_take l i (by omega)] at this
  exact this
 have hS : (shiftC cur i l.length (seatsC (l.drop i))).length = c * 4 := by
  unfold shiftC
  rw [List.length_append, List.length_append, List.length_take, List.length_drop, hD, hl]
  omega
 have e1 : (shiftC cur i l.length (seatsC (l.drop i))).take (i * 4) = seatsC (l.take i) := by
  unfold shiftC
  rw [List.append_assoc, List.take_append_of_le_length (by rw [List.length_take]; omega), List.take_take, Nat.min_eq_left (by omega), e0]
 have e2 : (shiftC cur i l.length (seatsC (l.drop i))).drop (i * 4 + 4) = seatsC (l.drop i) ++ cur.drop ((i + 1) * 4 + (seatsC (l.drop i)).length) := by
  unfold shiftC
  rw [List.append_assoc]
  exact List.drop_left' (by rw [List.length_take]; omega)
 refine ⟨?_, ?_, hS⟩
 · unfold putC
   rw [List.length_append, List.length_append, List.length_take, List.length_drop, hS, hX]
   omega
 · unfold putC
   rw [hX, e1, e2, seatsC_app, seatsC_cons]
   rw [← List.append_assoc (seatsC (l.take i)), ← List.append_assoc (seatsC (l.take i) ++ seatC x)]
   exact List.take_left' (by rw [List.length_append, List.length_append, hA, hX, hD]; omega)
theorem put_shift (row : List Value) (l : List S38) (x : S38) (i c : Nat) (hi : i < l.length) (hc : l.length + 1 ≤ c) (hl : row.length = c * 4) (hrow : row.take (i * 4) = seatsC (l.take i)) :
 (shiftC (putC row i (seatC x)) i l.length (seatsC (l.drop i))).length = c * 4 ∧ (shiftC (putC row i (seatC x)) i l.length (seatsC (l.drop i))).take ((l.length + 1) * 4) = seatsC (l.take i ++ x :: l.drop i) ∧ (putC row i (seatC x)).length = c * 4 := by
 have hD : (seatsC (l.drop i)).length = (l.length - i) * 4 := by rw [seatsC_len, List.length_drop]
 have hA : (seatsC (l.take i)).length = i * 4 := by rw [seatsC_len, List.length_take, Nat.min_eq_left (by omega)]
 have hX : (seatC x).length = 4 := rfl
 have hS : (putC row i (seatC x)).length = c * 4 := by
  unfold putC
  rw [List.length_append, List.length_append, List.length_take, List.length_drop, hX, hl]
  omega
 have e1 : (putC row i (seatC x)).take ((i + 1) * 4) = seatsC (l.take i) ++ seatC x := by
  unfold putC
  rw [hrow]
  exact List.take_left' (by rw [List.length_append, hA, hX]; omega)
 refine ⟨?_, ?_, hS⟩
 · unfold shiftC
   rw [List.length_append, List.length_append, List.length_take, List.length_drop, hS, hD]
   omega
 · unfold shiftC
   rw [e1, seatsC_app, seatsC_cons, ← List.append_assoc (seatsC (l.take i))]
   exact List.take_left' (by rw [List.length_append, List.length_append, hA, hX, hD]; omega)
set_option maxHeartbeats 8000000 in
set_option maxRecDepth 100000 in
theorem Insert_end (w0 w : World) (P0 : Nat → Prop) (A0 : Option Addr) (c0 : Nat) (l : List S38) (x : S38) (vb : Nat) (hl : l.length < 4398046511103) (hB : Below w0.heap.size w0 w) (ho : Kd.R k38 38 w w0.heap.size P0 (.slice A0 l.length c0) l)
 (hv : w.heap[vb]? = some (.cells #[.int .i64 x.f0, .int .u64 x.f1, .int .i64 x.f2, .bool x.f3] 38 (0, 0))) :
 Calls Try.prog 29 #[.slice A0 l.length c0, .int .i64 l.length, .slice (some ⟨vb, 0, none⟩) 1 1] w fun e w' => ∃ v0 : Value, e = .returned v0 ∧ Kd.R k38 38 w' w0.heap.size (fun k => P0 k ∨ w.heap.size ≤ k) v0 (l ++ [x]) ∧ Below w0.heap.size w0 w' ∧ Kept w w' P0 := by
 have hrx : Kd.C k38 w (some ⟨vb, 0, none⟩) 1 [x] := by
  refine ⟨rfl, by omega, fun _ => ⟨⟨vb, 0, none⟩, rfl, fun j p hj => ?_⟩⟩
  cases j with
  | zero =>
   obtain rfl : x = p := by simpa using hj
   refine ⟨_, rfl, k38_mk w x, fun i u hi => ?_⟩
   rw [Addr.add_lit]
   show w.cell? ⟨vb, 0 + (0 * 4 + i), none⟩ = some u
   rw [blk_cell hv, ← hi]
   simp
  | succ j => simp at hj
 have HRX := Aside0.mk hrx
 have HO := Aside0.mk (Kd.R_mono (ok' := fun k => P0 k ∨ w.heap.size ≤ k) ho (fun k h => .inl h))
 have HP := Aside0.mk ho.1
 have HB := Aside0.mk hB
 have HL := Aside0.mk hl
 clear ho hB hv hrx hl
 go_enter Try.func29, Try.ntmps29
 go_wp2_with (first
  | ((with_reducible refine gate_builtin (b := .append) (xs := #[.tmp 23, .tmp 24]) rfl ?_); at_builtin; refine Kd.R_append_rows k38 (w0 := w0) w0.heap.size rfl (.tmp 23) (.tmp 24) 22 38 (.agg #[.int .i64 0, .int .u64 0, .int .i64 0, .bool false]) 32 rfl Try.underlying22 info38 rfl (by decide) (by omega) (.slice A0 l.length c0) l [x] _ _ _ (fun k => P0 k ∨ w.heap.size ≤ k) (fun _ => False) rfl rfl HO.out HRX.out (fun _ _ h => by obtain rfl := k38_open h; exact k38_mkM _ _ _ _) (fun _ h => h.elim) (fun _ h => .inr h) HB.out HB.out.size (by have := HL.out; omega) ?_; intro v7 w7 ho hb7 hg hat; have HO7 := Aside0.mk ho; have HB7 := Aside0.mk hb7; have HG7 := Aside0.mk hg; clear ho hb7 hg hat))
 all_goals go_ret
 all_goals exact ⟨_, rfl, HO7.out, HB7.out, Kept.of_grown HG7.out (Kept.refl _ _) (fun k hk => .inl (HP.out k hk))⟩
set_option maxHeartbeats 8000000 in
set_option maxRecDepth 100000 in
theorem Insert_shift (w0 w : World) (P0 : Nat → Prop) (g c : Nat) (cur : Array Value) (l : List S38) (x : S38) (vb i : Nat) (hi : i < l.length) (hB : Below w0.heap.size w0 w) (hg : w.heap[g]? = some (.cells cur 38 (0, 0))) (hbg : w0.heap.size ≤ g) (hP : P0 g) (hroom : l.length + 1 ≤ c) (hcm : c ≤ maxLen) (hcs : cur.size = c * 4) (hcur : cur.toList.take (l.length * 4) = seatsC l)
 (hv : w.heap[vb]? = some (.cells #[.int .i64 x.f0, .int .u64 x.f1, .int .i64 x.f2, .bool x.f3] 38 (0, 0))) (hvb : vb ≠ g) :
 Calls Try.prog 29 #[.slice (some ⟨g, 0, none⟩) l.length c, .int .i64 i, .slice (some ⟨vb, 0, none⟩) 1 1] w fun e w' => ∃ v0 : Value, e = .returned v0 ∧ Kd.R k38 38 w' w0.heap.size (fun k => P0 k ∨ w.heap.size ≤ k) v0 (l.take i ++ x :: l.drop i) ∧ Below w0.heap.size w0 w' ∧ Kept w w' P0 := by
 obtain ⟨L1, L2, L3⟩ := shift_put cur.toList l x i c hi hroom (by rw [Array.length_toList]; exact hcs) hcur
 obtain ⟨n, hn⟩ : ∃ n, l.length = n := ⟨_, rfl⟩
 obtain ⟨D, hD⟩ : ∃ D, seatsC (l.drop i) = D := ⟨_, rfl⟩
 have hDl : D.length = (n - i) * 4 := by rw [← hD, seatsC_len, List.length_drop, hn]
 have hD1 : ∀ v ∈ D, v.oneCell' = true := by rw [← hD]; exact seatsC_one _
 have hDc : ∀ j v, D[j]? = some v → w.cell? ⟨g, i * 4 + j, none⟩ = some v := by
  intro j v hj
  have hlt : j < D.length := by
   rcases Nat.lt_or_ge j D.length with h | h
   · exact h
   · rw [List.getElem?_eq_none h] at hj; cases hj
  rw [blk_cell hg, ← Array.getElem?_toList]
  rw [← hD, ← seatsC_drop l i (by omega), ← hcur, List.getElem?_drop, List.getElem?_take] at hj
  rw [if_pos (by rw [hn]; omega)] at hj
  exact hj
 rw [hn] at hi hroom hcur L1 L2 L3 ⊢
 rw [hD] at L1 L2 L3
 have hsz : (Try.prog.info? 38).map (·.size) = some 4 := by
  obtain ⟨i0, hi0, h0, h1, h2⟩ := info_parts info38
  rw [hi0]; simp [h1]
 have hzs : ∀ w, (Go.sizeOf 38).run Try.prog w = .ok 4 w := by
  obtain ⟨i0, hi0, h0, h1, h2⟩ := info_parts info38
  intro w; simp [Go.sizeOf, typeInfo, hi0, h1]
 have hz2 : ¬ ((i : Int) = (n : Int)) := by omega
 have hw1 : IntKind.i64.wrap ((i : Int) + 1) = (i : Int) + 1 := by rw [IntKind.wrap_i64]; unfold maxLen at hcm; omega
 have hw2 : IntKind.i64.wrap ((n : Int) + 1) = (n : Int) + 1 := by rw [IntKind.wrap_i64]; unfold maxLen at hcm; omega
 have hov : ∀ lb cb, (callFunc 37 #[.slice (some ⟨vb, 0, none⟩) 1 1, .slice (some ⟨g, (i + 1) * 4, none⟩) lb cb]).run Try.prog w = .ok (.value (.bool false)) w := fun lb cb => by
  rw [run_callFunc_extern Try.func37 (by kernel_rfl) (by kernel_rfl) (by kernel_rfl) (e := Extern.SlicesOverlaps.overlaps #[22, 22] #[4]) (by kernel_rfl),
   Lib.run_overlaps_apart w 22 4 38 Try.underlying22 4 hzs ⟨vb, 0, none⟩ ⟨g, (i + 1) * 4, none⟩ 1 1 lb cb hvb 38 38 4 cur.size (by simp [World.shape?, hv]) (by simp [World.shape?, hg]) (by omega) (blk_frozen hv 0) (blk_frozen hv 4)]
  rfl
 have hcp1 : ∀ ty dc sc, (Builtin.copy_ #[22, 22] ty #[.slice (some ⟨g, (i + 1) * 4, none⟩) (n - i) dc, .slice (some ⟨g, i * 4, none⟩) (n + 1 - i) sc]).run Try.prog w.drew = .ok (goInt ((n - i : Nat) : Int)) (w.drew.setRow g (shiftC cur.toList i n D).toArray) := fun ty dc sc =>
  copy_rowK w.drew _ _ ty 38 g ((i + 1) * 4) (n - i) dc ⟨g, i * 4, none⟩ (n + 1 - i) sc (n - i) 4 cur 38 D Try.underlying22 hsz hg (by simp only [Nat.min_def]; split <;> omega) hDl (fun j v hj => by rw [Addr.add_lit]; exact hDc j v hj) (by rw [hDl, hcs]; omega) hD1
 obtain ⟨W1, hW1⟩ : ∃ W1, W1 = w.drew.setRow g (shiftC cur.toList i n D).toArray := ⟨_, rfl⟩
 have hg1 : W1.heap[g]? = some (.cells (shiftC cur.toList i n D).toArray 38 (0, 0)) := by rw [hW1]; exact setRow_heap w.drew g cur _ _ _ hg
 have hv1 : W1.heap[vb]? = some (.cells #[.int .i64 x.f0, .int .u64 x.f1, .int .i64 x.f2, .bool x.f3] 38 (0, 0)) := by rw [hW1]; exact (setRow_other w.drew g vb _ hvb).trans hv
 have hcp2 : ∀ ty dc, (Builtin.copy_ #[22, 22] ty #[.slice (some ⟨g, i * 4, none⟩) (n + 1 - i) dc, .slice (some ⟨vb, 0, none⟩) 1 1]).run Try.prog W1 = .ok (goInt 1) (W1.setRow g (putC (shiftC cur.toList i n D) i (seatC x)).toArray) := fun ty dc =>
  copy_rowK W1 _ _ ty 38 g (i * 4) (n + 1 - i) dc ⟨vb, 0, none⟩ 1 1 1 4 _ 38 (seatC x) Try.underlying22 hsz hg1 (by simp only [Nat.min_def]; split <;> omega) rfl (fun j v hj => by rw [Addr.add_lit, Nat.zero_add, blk_cell hv1, ← hj]; unfold seatC; simp) (by show i * 4 + 4 ≤ _; have := L3; unfold shiftC at this; rw [List.size_toArray, this]; omega) (seatC_one x)
 obtain ⟨W2, hW2⟩ : ∃ W2, W2 = W1.setRow g (putC (shiftC cur.toList i n D) i (seatC x)).toArray := ⟨_, rfl⟩
 rw [← hW2] at hcp2
 rw [← hW1] at hcp1
 have hg2 : W2.heap[g]? = some (.cells (putC (shiftC cur.toList i n D) i (seatC x)).toArray 38 (0, 0)) := by rw [hW2]; exact setRow_heap W1 g _ _ _ _ hg1
 have hB2 : Below w0.heap.size w0 W2 := by rw [hW2]; exact below_setRow (by rw [hW1]; exact below_setRow (below_drew1 hB) hbg _) hbg _
 have hK2 : Kept w W2 P0 := by
  rw [hW2, hW1]
  refine ⟨by simp, fun j hj hn => ?_⟩
  have hjg : j ≠ g := by rintro rfl; exact hn hP
  rw [setRow_other _ g j _ hjg, setRow_other _ g j _ hjg]
  rfl
 have hR2 : Kd.R k38 38 W2 w0.heap.size (fun k => P0 k ∨ w.heap.size ≤ k) (.slice (some ⟨g, 0, none⟩) (n + 1) c) (l.take i ++ x :: l.drop i) := by
  have hlen : (l.take i ++ x :: l.drop i).length = n + 1 := by rw [List.length_append, List.length_cons, List.length_take, List.length_drop, hn]; omega
  refine R_seats ⟨by rw [seatsC_len], .inr ⟨g, c, _, by rw [hlen], hbg, hg2, by rw [hlen]; exact hroom, hcm, by rw [List.size_toArray]; exact L1, by rw [hlen]; exact L2⟩⟩ (fun k hk => .inl ?_)
  have : g = k := by simpa [Value.ownBlock] using hk
  rw [← this]; exact hP
 have R2 := Aside0.mk hR2
 have B2 := Aside0.mk hB2
 have K2 := Aside0.mk hK2
 clear hR2 hB2 hK2 hg2 hW2 hg1 hv1 hW1 L1 L2 L3 hD hDl hD1 hDc hcur hv hg hB hP hn
 have hb1 : (0 : Int) ≤ (i : Int) + 1 := by omega
 have hin : i ≤ n := by omega
 have htn : ((i : Int) + 1).toNat = i + 1 := by omega
 have htm : ((n : Int) + 1).toNat = n + 1 := by omega
 have hb2 : ¬ (c = i + 1) := by omega
 have hb3 : (i : Int) ≤ (n : Int) + 1 := by omega
 have hb4 : ¬ (c = i) := by omega
 have hb5 : ¬ ((c : Int) < (n : Int) + 1) := by omega
 have mixed : Try.prog.follows Departure.mixedOrders = true := by kernel_rfl
 go_enter Try.func29, Try.ntmps29
 go_wp2_with (simp only [hov])
 go_region_law_o (refine step_copy_runI rfl _ _ 22 22 rfl _ _ (by simp [Act.eval, Act.put]) (by simp [Act.eval, Act.put]) (hcp1 _ _ _) ?_)
 go_wp2_with (at_builtin; refine wpList_copy_runI _ rfl _ _ 22 22 rfl _ _ rfl rfl (hcp2 _ _) ?_)
 go_ret
 exact ⟨_, rfl, R2.out, B2.out, K2.out⟩
set_option maxHeartbeats 8000000 in
set_option maxRecDepth 100000 in
theorem Insert_grow (w0 w : World) (P0 : Nat → Prop) (g c : Nat) (cur : Array Value) (l : List S38) (x : S38) (vb i : Nat) (hi : i < l.length) (hl : l.length < 4398046511103) (hB : Below w0.heap.size w0 w) (hg : w.heap[g]? = some (.cells cur 38 (0, 0))) (hnc : l.length ≤ c) (hroom : c < l.length + 1) (hcs : cur.size = c * 4) (hcur : cur.toList.take (l.length * 4) = seatsC l)
 (hv : w.heap[vb]? = some (.cells #[.int .i64 x.f0, .int .u64 x.f1, .int .i64 x.f2, .bool x.f3] 38 (0, 0))) :
 Calls Try.prog 29 #[.slice (some ⟨g, 0, none⟩) l.length c, .int .i64 i, .slice (some ⟨vb, 0, none⟩) 1 1] w fun e w' => ∃ v0 : Value, e = .returned v0 ∧ Kd.R k38 38 w' w0.heap.size (fun k => P0 k ∨ w.heap.size ≤ k) v0 (l.take i ++ x :: l.drop i) ∧ Below w0.heap.size w0 w' ∧ Kept w w' P0 := by
 obtain ⟨i0, hi0, hz0, hzs, hzb⟩ := info_parts info38
 have hsz : (Try.prog.info? 38).map (·.size) = some 4 := by rw [hi0]; simp [hzs]
 have hgw : g < w.heap.size := blk_lt hg
 have hvw : vb < w.heap.size := blk_lt hv
 obtain ⟨n, hn⟩ : ∃ n, l.length = n := ⟨_, rfl⟩
 obtain ⟨D, hD⟩ : ∃ D, seatsC (l.drop i) = D := ⟨_, rfl⟩
 have hDl : D.length = (n - i) * 4 := by rw [← hD, seatsC_len, List.length_drop, hn]
 have hD1 : ∀ v ∈ D, v.oneCell' = true := by rw [← hD]; exact seatsC_one _
 have hAt : ∀ (k : Nat) (j : Nat) (v : Value), ((seatsC l).drop (k * 4))[j]? = some v → w.cell? ⟨g, k * 4 + j, none⟩ = some v := by
  intro k j v hj
  rw [blk_cell hg, ← Array.getElem?_toList]
  rw [← hcur, List.getElem?_drop, List.getElem?_take] at hj
  split at hj
  · exact hj
  · cases hj
 have hDc : ∀ j v, D[j]? = some v → w.cell? ⟨g, i * 4 + j, none⟩ = some v := by
  intro j v hj
  rw [← hD, ← seatsC_drop l i (by omega)] at hj
  exact hAt i j v hj
 have hold : (Builtin.firstCells i0.size i (.slice (some ⟨g, 0, none⟩) i c)).run Try.prog w.drew = .ok (seatsC (l.take i)).toArray w.drew := by
  rw [hzs]
  refine run_firstCells_some w.drew 4 i ⟨g, 0, none⟩ i c (seatsC (l.take i)) (by rw [seatsC_len, List.length_take]; omega) (fun j v hj => ?_)
  rw [Addr.add_lit]
  have := hAt 0 j v (by
   rw [Nat.zero_mul, List.drop_zero, ← List.take_append_drop i l, seatsC_app, List.getElem?_append_left]
   · exact hj
   · rcases Nat.lt_or_ge j (seatsC (l.take i)).length with h | h
     · exact h
     · rw [List.getElem?_eq_none h] at hj; cases hj)
  rw [Nat.zero_mul] at this
  exact this
 have hkk : (n : Int) + 1 - (i : Int) = ((n + 1 - i : Nat) : Int) := by omega
 have hik : i + (n + 1 - i) = n + 1 := by omega
 obtain ⟨G, hG⟩ : ∃ G, G = grownCap w (n + 1) c 38 := ⟨_, rfl⟩
 obtain ⟨ROW, hROW⟩ : ∃ ROW : Array Value, ROW = (seatsC (l.take i)).toArray ++ Builtin.zeroCells (Value.agg #[.int .i64 0, .int .u64 0, .int .i64 0, .bool false]).cells (n + 1 - i) ++ Builtin.zeroCells (Value.agg #[.int .i64 0, .int .u64 0, .int .i64 0, .bool false]).cells (G - (n + 1)) := ⟨_, rfl⟩
 have hrz : ∀ ty, (Builtin.append_ #[22, 3] ty #[.slice (some ⟨g, 0, none⟩) i c, .int .i64 ((n : Int) + 1 - (i : Int))]).run Try.prog w = .ok (.slice (some ⟨w.heap.size, 0, none⟩) (n + 1) G) (w.drew.alloc (.cells ROW 38)) := fun ty => by
  have h := Lib.run_append_grow_zeros w 22 3 ty 38 i0 _ .i64 .i64 Try.underlying22 Try.underlying3 hi0 hz0 (some ⟨g, 0, none⟩) i c (seatsC (l.take i)) hold (n + 1 - i) (by omega) (by omega) (by omega) (by omega) (by rw [hzb]; omega) (by rw [hzb, hik]; exact growslice_fits (by omega) (by omega))
  rw [hik] at h
  rw [hkk, hROW, hG]
  exact h
 have hGn : n + 1 ≤ G := by rw [hG]; exact grownCap_ge w _ _ _
 have hGm : G ≤ maxLen := by rw [hG]; exact grownCap_le_maxLen w (n + 1) c 38 (by unfold maxLen; omega)
 have hG63 : G ≤ 9223372036854775807 := by unfold maxLen at hGm; omega
 have hRl : ROW.size = G * 4 := by
  rw [hROW]
  simp [Builtin.zeroCells, Value.cells, seatsC_len]
  omega
 have hRt : ROW.toList.take (i * 4) = seatsC (l.take i) := by
  rw [hROW, Array.toList_append, Array.toList_append, List.append_assoc]
  exact List.take_left' (by rw [seatsC_len, List.length_take]; omega)
 obtain ⟨L1, L2, L3⟩ := put_shift ROW.toList l x i G hi (by omega) (by rw [Array.length_toList]; exact hRl) hRt
 rw [hD] at L1 L2
 rw [hn] at L1 L2 hi hnc hroom hl ⊢
 obtain ⟨C1, hC1⟩ : ∃ C1, C1 = putC ROW.toList i (seatC x) := ⟨_, rfl⟩
 rw [← hC1] at L1 L2 L3
 obtain ⟨C2, hC2⟩ : ∃ C2, C2 = shiftC C1 i n D := ⟨_, rfl⟩
 rw [← hC2] at L1 L2
 obtain ⟨N, hN⟩ : ∃ N, N = w.heap.size := ⟨_, rfl⟩
 rw [← hN] at hrz
 have hW1 : ∀ (W : World), W.heap = (w.alloc (.cells ROW 38)).heap → W.heap[N]? = some (.cells ROW 38 (0, 0)) ∧ (∀ k, k < N → W.heap[k]? = w.heap[k]?) := fun W h => by
  rw [h, hN]
  exact ⟨heap_alloc_new w _, fun k hk => by
   have := (below_alloc (Below.refl w.heap.size w) (.cells ROW 38)).block k hk
   exact this⟩
 have hcpA : ∀ (W : World), W.heap = (w.alloc (.cells ROW 38)).heap → ∀ ty dc, (Builtin.copy_ #[22, 22] ty #[.slice (some ⟨N, i * 4, none⟩) (n + 1 - i) dc, .slice (some ⟨vb, 0, none⟩) 1 1]).run Try.prog W = .ok (goInt 1) (W.setRow N C1.toArray) := fun W hW ty dc => by
  obtain ⟨q1, q2⟩ := hW1 W hW
  have hv1 := (q2 vb (by omega)).trans hv
  rw [hC1]
  exact copy_rowK W _ _ ty 38 N (i * 4) (n + 1 - i) dc ⟨vb, 0, none⟩ 1 1 1 4 ROW 38 (seatC x) Try.underlying22 hsz q1 (by simp only [Nat.min_def]; split <;> omega) rfl (fun j v hj => by rw [Addr.add_lit, Nat.zero_add, blk_cell hv1, ← hj]; unfold seatC; simp) (by show i * 4 + 4 ≤ _; rw [hRl]; omega) (seatC_one x)
 have hW2 : ∀ (W : World), W.heap = ((w.alloc (.cells ROW 38)).setRow N C1.toArray).heap → W.heap[N]? = some (.cells C1.toArray 38 (0, 0)) ∧ (∀ k, k < N → W.heap[k]? = w.heap[k]?) := fun W h => by
  obtain ⟨q1, q2⟩ := hW1 (w.alloc (.cells ROW 38)) rfl
  rw [h]
  exact ⟨setRow_heap _ N _ _ _ _ q1, fun k hk => (setRow_other _ N k _ (by omega)).trans (q2 k hk)⟩
 have hcpB : ∀ (W : World), W.heap = ((w.alloc (.cells ROW 38)).setRow N C1.toArray).heap → ∀ ty dc sc, (Builtin.copy_ #[22, 22] ty #[.slice (some ⟨N, (i + 1) * 4, none⟩) (n - i) dc, .slice (some ⟨g, i * 4, none⟩) (n - i) sc]).run Try.prog W = .ok (goInt ((n - i : Nat) : Int)) (W.setRow N C2.toArray) := fun W hW ty dc sc => by
  obtain ⟨q1, q2⟩ := hW2 W hW
  rw [hC2]
  exact copy_rowK W _ _ ty 38 N ((i + 1) * 4) (n - i) dc ⟨g, i * 4, none⟩ (n - i) sc (n - i) 4 C1.toArray 38 D Try.underlying22 hsz q1 (by simp only [Nat.min_def]; split <;> omega) hDl (fun j v hj => by
   have e := q2 g (by omega)
   rw [Addr.add_lit, World.cell?_of_block (w := w) (w' := W) e]
   exact hDc j v hj) (by rw [hDl, List.size_toArray, L3]; omega) hD1
 have hF : ∀ (W : World), W.os = w.os → W.tape = w.tape → W.output = w.output → W.heap = (((w.alloc (.cells ROW 38)).setRow N C1.toArray).setRow N C2.toArray).heap → Kd.R k38 38 W w0.heap.size (fun k => P0 k ∨ w.heap.size ≤ k) (.slice (some ⟨N, 0, none⟩) (n + 1) G) (l.take i ++ x :: l.drop i) ∧ Below w0.heap.size w0 W ∧ Kept w W P0 := fun W o1 o2 o3 h => by
  obtain ⟨q1, q2⟩ := hW2 _ rfl
  have q3 : W.heap[N]? = some (.cells C2.toArray 38 (0, 0)) := by rw [h]; exact setRow_heap _ N _ _ _ _ q1
  have q4 : ∀ k, k < w.heap.size → W.heap[k]? = w.heap[k]? := fun k hk => by rw [h, setRow_other _ N k _ (by omega)]; exact q2 k (by omega)
  have q5 : w.heap.size ≤ W.heap.size := by rw [h]; simp
  have hlen : (l.take i ++ x :: l.drop i).length = n + 1 := by rw [List.length_append, List.length_cons, List.length_take, List.length_drop, hn]; omega
  refine ⟨R_seats ⟨by rw [seatsC_len], .inr ⟨N, G, _, by rw [hlen], by rw [hN]; exact hB.size, q3, by rw [hlen]; exact hGn, hGm, by rw [List.size_toArray]; exact L1, by rw [hlen]; exact L2⟩⟩ (fun k hk => .inr ?_), below_step hB ⟨o1, o2, o3, q5, q4⟩, ⟨q5, fun k hk _ => q4 k hk⟩⟩
  have : N = k := by simpa [Value.ownBlock] using hk
  omega
 have HF := Aside0.mk hF
 have hE : ∀ (W : World), W.heap = w.heap → True := fun _ _ => trivial
 have hGi : ¬ (G = i) := by omega
 have hGim : ¬ (G = i + 1) := by omega
 have hci : ¬ (c = i) := by omega
 have hw1 : IntKind.i64.wrap ((i : Int) + 1) = (i : Int) + 1 := by rw [IntKind.wrap_i64]; omega
 have hw2 : IntKind.i64.wrap ((n : Int) + 1) = (n : Int) + 1 := by rw [IntKind.wrap_i64]; omega
 have hz2 : ¬ ((i : Int) = (n : Int)) := by omega
 have hz3 : (c : Int) < (n : Int) + 1 := by omega
 have hb1 : (0 : Int) ≤ (i : Int) + 1 := by omega
 have hin : i ≤ n := by omega
 have htn : ((i : Int) + 1).toNat = i + 1 := by omega
 have hb3 : (i : Int) ≤ (n : Int) := by omega
 have mixed : Try.prog.follows Departure.mixedOrders = true := by kernel_rfl
 have hE1 : ((w.alloc (.cells ROW 38)).drew).heap = (w.alloc (.cells ROW 38)).heap := rfl
 have hE2 : (((w.alloc (.cells ROW 38)).drew.setRow N C1.toArray).drew).heap = ((w.alloc (.cells ROW 38)).setRow N C1.toArray).heap := rfl
 have HN := Aside0.mk hN
 clear hN hF hE hW1 hW2 L1 L2 L3 hC1 hC2 hRt hRl hROW hG hGm hGn hold hAt hDc hD1 hDl hD hkk hik hcur hv hg hB hsz hi0 hz0 hzs hzb hn hcs
 go_enter Try.func29, Try.ntmps29
 go_wp2_with (first
  | (at_builtin; refine Lib.wpList_append_run _ rfl _ _ _ _ rfl _ _ rfl rfl _ _ (hrz _) ?_)
  | (at_builtin; refine wpList_copy_runI _ rfl _ _ 22 22 rfl _ _ rfl rfl (hcpA _ hE1 _ _) ?_))
 go_region_law_o (refine step_copy_runI rfl _ _ 22 22 rfl (.slice (some ⟨N, (i + 1) * 4, none⟩) (n - i) (G - (i + 1))) (.slice (some ⟨g, i * 4, none⟩) (n - i) (c - i)) (by simp [Act.eval, Act.put]) (by simp [Act.eval, Act.put]) (hcpB _ hE2 3 (G - (i + 1)) (c - i)) ?_)
 go_wp2
 go_ret
 exact ⟨_, rfl, HF.out _ rfl rfl rfl rfl⟩
theorem Insert_Seat (w0 w : World) (P0 : Nat → Prop) (u : Value) (l : List S38) (x : S38) (vb i : Nat) (hi : i ≤ l.length) (hl : l.length < 4398046511103) (hB : Below w0.heap.size w0 w) (ho : Kd.R k38 38 w w0.heap.size P0 u l)
 (hv : w.heap[vb]? = some (.cells #[.int .i64 x.f0, .int .u64 x.f1, .int .i64 x.f2, .bool x.f3] 38 (0, 0))) (hvb : some vb ≠ u.ownBlock) :
 Calls Try.prog 29 #[u, .int .i64 i, .slice (some ⟨vb, 0, none⟩) 1 1] w fun e w' => ∃ v0 : Value, e = .returned v0 ∧ Kd.R k38 38 w' w0.heap.size (fun k => P0 k ∨ w.heap.size ≤ k) v0 (l.take i ++ x :: l.drop i) ∧ Below w0.heap.size w0 w' ∧ Kept w w' P0 := by
 by_cases hin : i = l.length
 · subst hin
   obtain ⟨A, c, rfl⟩ := Kd.R_slice ho
   rw [List.take_of_length_le (Nat.le_refl _), List.drop_eq_nil_of_le (Nat.le_refl _)]
   exact Insert_end w0 w P0 A c l x vb hl hB ho hv
 · have hs := own_seats ho
   rcases hs.2 with ⟨_, h0⟩ | ⟨g, c, cur, rfl, hbg, hg, hnc, hcm, hcs, hcur⟩
   · omega
   · have hP : P0 g := ho.1 g rfl
     by_cases hr : l.length + 1 ≤ c
     · exact Insert_shift w0 w P0 g c cur l x vb i (by omega) hB hg hbg hP hr hcm hcs hcur hv (fun e => hvb (by rw [e]; rfl))
     · exact Insert_grow w0 w P0 g c cur l x vb i (by omega) hl hB hg hnc (by omega) hcs hcur hv
theorem seatsC_set (x : S38) (l : List S38) : ∀ i, i < l.length → (((((seatsC l).set (i * 4) (.int .i64 x.f0)).set (i * 4 + 1) (.int .u64 x.f1)).set (i * 4 + 2) (.int .i64 x.f2)).set (i * 4 + 3) (.bool x.f3)) = seatsC (l.set i x) := by
 induction l with
 | nil => intro i hi; simp at hi
 | cons y l ih =>
  intro i hi
  cases i with
  | zero => rw [List.set_cons_zero, seatsC_cons, seatsC_cons]; rfl
  | succ i =>
   rw [List.set_cons_succ, seatsC_cons, seatsC_cons, ← ih i (by simpa using hi)]
   rw [show (i + 1) * 4 = i * 4 + 4 by omega]
   rfl
theorem own_put {w : World} {base : Nat} {g c n : Nat} {cur : Array Value} (l : List S38) (x : S38) (i : Nat) (hi : i < l.length) (hbg : base ≤ g) (hg : w.heap[g]? = some (.cells cur 38 (0, 0))) (hnc : l.length ≤ c) (hcm : c ≤ maxLen) (hcs : cur.size = c * 4) (hcur : cur.toList.take (l.length * 4) = seatsC l) :
 ((((w.setCell ⟨g, i * 4, none⟩ (.int .i64 x.f0)).setCell ⟨g, i * 4 + 1, none⟩ (.int .u64 x.f1)).setCell ⟨g, i * 4 + 2, none⟩ (.int .i64 x.f2)).setCell ⟨g, i * 4 + 3, none⟩ (.bool x.f3)).ownsRow base 38 4 (.slice (some ⟨g, 0, none⟩) l.length c) (l.set i x).length (seatsC (l.set i x)) := by
 have q := blk_put (blk_put (blk_put (blk_put hg (i * 4) (.int .i64 x.f0) rfl) (i * 4 + 1) (.int .u64 x.f1) rfl) (i * 4 + 2) (.int .i64 x.f2) rfl) (i * 4 + 3) (.bool x.f3) rfl
 have hlen : (l.set i x).length = l.length := List.length_set
 refine ⟨by rw [seatsC_len], .inr ⟨g, c, _, by rw [hlen], hbg, q, by rw [hlen]; exact hnc, hcm, by simp only [Array.size_setIfInBounds]; exact hcs, ?_⟩⟩
 rw [hlen]
 simp only [Array.toList_setIfInBounds, List.take_set]
 rw [hcur]
 exact seatsC_set x l i hi
end
theorem kept_set {w W : World} {P : Nat → Prop} {g j : Nat} {v : Value} (h : Kept w W P) (hg : P g) : Kept w (W.setCell ⟨g, j, none⟩ v) P := ⟨by simpa [World.setCell] using h.1, fun k hk hn => (Below.heap_setCell W ⟨g, j, none⟩ v k (fun e => hn (by rw [e]; exact hg))).trans (h.2 k hk hn)⟩
def order_take.x (a1_0 a1_1 a1_2 a1_3 : Int) : S38 := ⟨a1_1, a1_2, a1_3, a1_0 != 2⟩
def takeF (l : List S38) (x : S38) : List S38 := if bsI l x.f0 = true then l.set (bsF l x.f0) x else l.take (bsF l x.f0) ++ x :: l.drop (bsF l x.f0)
def order_take.f (l0 : List (S38)) (a1_0 : Int) (a1_1 : Int) (a1_2 : Int) (a1_3 : Int) (a1_4 : Bool) (a1_5 : Int) (a1_6 : Int) (a1_7 : Int) (a1_8 : Int) (a1_9 : Int) (a1_10 : Int) (a1_11 : Int) : Option (List (S38)) := if l0.length < 4398046511103 then some (takeF l0 (order_take.x a1_0 a1_1 a1_2 a1_3)) else none
theorem c12_ {W : World} {gb t : Nat} {b0 b1 b2 b3 b4 b5 b6 b7 b8 b9 b10 b11 : Value} (hb : W.heap[gb]? = some (.cells #[b0, b1, b2, b3, b4, b5, b6, b7, b8, b9, b10, b11] t (0, 0))) : W.cell? ⟨gb, 0, none⟩ = some b0 ∧ W.cell? ⟨gb, 1, none⟩ = some b1 ∧ W.cell? ⟨gb, 2, none⟩ = some b2 ∧ W.cell? ⟨gb, 3, none⟩ = some b3 := ⟨(blk_cell hb 0).trans rfl, (blk_cell hb 1).trans rfl, (blk_cell hb 2).trans rfl, (blk_cell hb 3).trans rfl⟩
set_option maxHeartbeats 8000000 in
set_option maxRecDepth 100000 in
theorem order_take.calls (P0_ : Nat → Prop) (u9000_ : Value) (l0 : List (S38)) (a1_0 : Int) (a1_1 : Int) (a1_2 : Int) (a1_3 : Int) (a1_4 : Bool) (a1_5 : Int) (a1_6 : Int) (a1_7 : Int) (a1_8 : Int) (a1_9 : Int) (a1_10 : Int) (a1_11 : Int) (r : List (S38)) (w0 w : World) (hB : Below w0.heap.size w0 w) (ho0 : Kd.R k38 38 w w0.heap.size P0_ u9000_ l0) (h : order_take.f l0 a1_0 a1_1 a1_2 a1_3 a1_4 a1_5 a1_6 a1_7 a1_8 a1_9 a1_10 a1_11 = some r) :
 Calls Try.prog 21 #[u9000_, .agg #[.int .u8 a1_0, .int .i64 a1_1, .int .u64 a1_2, .int .i64 a1_3, .bool a1_4, .int .u64 a1_5, .int .u64 a1_6, .int .i64 a1_7, .int .u8 a1_8, .int .i64 a1_9, .int .i64 a1_10, .int .i64 a1_11]] w fun e w' => ∃ v0_ : Value, e = .returned (v0_) ∧ Kd.R k38 38 w' w0.heap.size (fun k_ => (P0_ k_ ∨ w.heap.size ≤ k_)) v0_ r ∧ Below w0.heap.size w0 w' ∧ Kept w w' (fun k_ => P0_ k_) := by
 unfold order_take.f at h
 by_cases hn : l0.length < 4398046511103
 · rw [if_pos hn] at h
   obtain rfl := Option.some.inj h
   clear h
   obtain ⟨A, c, rfl⟩ := Kd.R_slice ho0
   have HC := Aside0.mk (Kd.R_reads' ho0).2.2
   have HS := Aside0.mk (own_seats ho0)
   have HP := Aside0.mk ho0.1
   have HO := Aside0.mk ho0
   have HB := Aside0.mk hB
   have HN := Aside0.mk hn
   have hle := bsL_le l0 a1_1 l0.length 0 l0.length (by omega) (Nat.zero_le _)
   have hu38 := Try.underlying38
   have hu33 := Try.underlying33
   obtain ⟨kd, hkd⟩ : ∃ kd : Bool, (a1_0 != 2) = kd := ⟨_, rfl⟩
   have HX := Aside0.mk (show order_take.x a1_0 a1_1 a1_2 a1_3 = ⟨a1_1, a1_2, a1_3, kd⟩ by unfold order_take.x; rw [hkd])
   obtain ⟨i, hi⟩ : ∃ i, bsF l0 a1_1 = i := ⟨_, rfl⟩
   have hil : i ≤ l0.length := by rw [← hi]; exact hle.2
   have HF := Aside0.mk hi
   clear hle hi hn ho0 hB
   cases hbs : bsI l0 a1_1 with
   | true =>
    have HBS := Aside0.mk hbs
    have hlt : i < l0.length := by
     unfold bsI at hbs
     rw [Bool.and_eq_true, decide_eq_true_iff, HF.out] at hbs
     exact hbs.1
    have HT := Aside0.mk (show takeF l0 (order_take.x a1_0 a1_1 a1_2 a1_3) = l0.set i ⟨a1_1, a1_2, a1_3, kd⟩ by unfold takeF; rw [HX.out]; show (if bsI l0 a1_1 = true then _ else _) = _; rw [if_pos hbs]; show l0.set (bsF l0 a1_1) _ = _; rw [HF.out])
    rcases HS.out.2 with ⟨_, h0⟩ | ⟨g, c', cur, e, hbg, hg, hnc, hcm, hcs, hcur⟩
    · omega
    · injection e with e1 e2 e3
      subst e1
      subst e3
      have HG := Aside0.mk hg
      have HBG := Aside0.mk hbg
      have HPUT := Aside0.mk (fun (W : World) (hW : W.heap[g]? = some (.cells cur 38 (0, 0))) => own_put (base := w0.heap.size) (n := 0) l0 ⟨a1_1, a1_2, a1_3, kd⟩ i hlt hbg hW hnc hcm hcs hcur)
      have hc0 : ∀ j, j < 4 → ∃ v, cur[i * 4 + j]? = some v := fun j hj => ⟨_, Array.getElem?_eq_getElem (by omega)⟩
      obtain ⟨b0, q0⟩ := hc0 0 (by omega)
      obtain ⟨b1, q1⟩ := hc0 1 (by omega)
      obtain ⟨b2, q2⟩ := hc0 2 (by omega)
      obtain ⟨b3, q3⟩ := hc0 3 (by omega)
      have Q0 := Aside0.mk q0
      have Q1 := Aside0.mk q1
      have Q2 := Aside0.mk q2
      have Q3 := Aside0.mk q3
      have hP := Aside0.mk (HP.out g rfl)
      have hlt1 : (i : Int) < (l0.length : Int) := by omega
      clear hc0 q0 q1 q2 q3 e2 hbg hg hnc hcm hcs hcur hbs
      go_enter Try.func21, Try.ntmps21
      go_wp2_with (first
       | ((with_reducible refine gate_dst (N := 3) rfl ?_); refine box_event ?hg (N := 3) ?hd (cs := #[.int .u8 a1_0, .int .i64 a1_1, .int .u64 a1_2, .int .i64 a1_3, .bool a1_4, .int .u64 a1_5, .int .u64 a1_6, .int .i64 a1_7, .int .u8 a1_8, .int .i64 a1_9, .int .i64 a1_10, .int .i64 a1_11]) (t := 33) ?hr ?_; (case hd => rfl); (case hg => rfl); (case hr => first | (go_simp; done) | (go_simp; rfl)); intro ge hg w1 hbox hb1; have HE := Aside0.mk hbox; have HB1 := Aside0.mk (Below.trans (Below.refl _ _) hb1); obtain ⟨z0, z1, z2, z3⟩ := c12_ hbox; clear hg hbox hb1)
       | ((with_reducible refine gate_dst (N := 5) rfl ?_); refine box_event ?hg (N := 5) ?hd (cs := #[.int .i64 0, .int .u64 0, .int .i64 0, .bool false]) (t := 38) ?hr ?_; (case hd => rfl); (case hg => rfl); (case hr => first | (go_simp; done) | (go_simp; rfl)); intro gs hg w2 hbox hb2; have HGS := Aside0.mk (by rw [hg]; exact HB1.out.size : w.heap.size ≤ gs); have HZ := Aside0.mk hbox; have HE2 := Aside0.mk (blk_below HE.out hb2); have HB2 := Aside0.mk (below_step HB1.out hb2); obtain ⟨x0, x1, x2, x3⟩ := c12_ HE2.out; obtain ⟨y0, y1, y2, y3⟩ := c4_ hbox; obtain ⟨p0, p1, p2, p3⟩ := f4_ hbox; have HNE := Aside0.mk (by have := blk_lt HE.out; omega : ge ≠ gs); have hne := HNE.out; clear hg hbox hb2)
       | (go_at_call 27; refine (BinSearch_Seat (some ⟨g, 0, none⟩) c l0 a1_1 _ (Kd.C_below HC.out (four_below HB2.out HGS.out _ _ _ _)) (by have := HN.out; omega)).mono ?_; rintro e w5 ⟨rfl, hb5⟩; rw [HF.out, HBS.out]; have h5 := blk_below (four_puts HZ.out _ _ _ _) hb5; have hb6 := below_step (four_below HB2.out HGS.out _ _ _ _) hb5; have HB6 := Aside0.mk hb6; have hcur5 := (hb6.block g (blk_lt HG.out)).trans HG.out; have HCUR5 := Aside0.mk hcur5; clear y0 y1 y2 y3 p0 p1 p2 p3; obtain ⟨y0, y1, y2, y3⟩ := c4_ h5; have g0 := (blk_cell hcur5 (i * 4)).trans Q0.out; have g1 := (blk_cell hcur5 (i * 4 + 1)).trans Q1.out; have g2 := (blk_cell hcur5 (i * 4 + 2)).trans Q2.out; have g3 := (blk_cell hcur5 (i * 4 + 3)).trans Q3.out; have f0 := blk_frozen hcur5 (i * 4); have f1 := blk_frozen hcur5 (i * 4 + 1); have f2 := blk_frozen hcur5 (i * 4 + 2); have f3 := blk_frozen hcur5 (i * 4 + 3); clear h5 hb5 hb6 hcur5))
      go_ret
      refine ⟨_, rfl, ?_, ?_, ?_⟩
      · rw [HT.out]
        exact R_seats (HPUT.out w5 HCUR5.out) (fun k hk => .inl (by
         have : g = k := by simpa [Value.ownBlock] using hk
         rw [← this]; exact hP.out))
      · exact below_set (below_set (below_set (below_set (below_step HB.out HB6.out) HBG.out) HBG.out) HBG.out) HBG.out
      · exact kept_set (kept_set (kept_set (kept_set (Kept.of_below HB6.out _) hP.out) hP.out) hP.out) hP.out
   | false =>
    have HBS := Aside0.mk hbs
    have HT := Aside0.mk (show takeF l0 (order_take.x a1_0 a1_1 a1_2 a1_3) = l0.take i ++ ⟨a1_1, a1_2, a1_3, kd⟩ :: l0.drop i by unfold takeF; rw [HX.out]; show (if bsI l0 a1_1 = true then _ else _) = _; rw [if_neg (by rw [hbs]; decide)]; show l0.take (bsF l0 a1_1) ++ _ :: l0.drop (bsF l0 a1_1) = _; rw [HF.out])
    have HIL := Aside0.mk hil
    clear hbs hil
    go_enter Try.func21, Try.ntmps21
    go_wp2_with (first
     | ((with_reducible refine gate_dst (N := 3) rfl ?_); refine box_event ?hg (N := 3) ?hd (cs := #[.int .u8 a1_0, .int .i64 a1_1, .int .u64 a1_2, .int .i64 a1_3, .bool a1_4, .int .u64 a1_5, .int .u64 a1_6, .int .i64 a1_7, .int .u8 a1_8, .int .i64 a1_9, .int .i64 a1_10, .int .i64 a1_11]) (t := 33) ?hr ?_; (case hd => rfl); (case hg => rfl); (case hr => first | (go_simp; done) | (go_simp; rfl)); intro ge hg w1 hbox hb1; have HE := Aside0.mk hbox; have HB1 := Aside0.mk (Below.trans (Below.refl _ _) hb1); obtain ⟨z0, z1, z2, z3⟩ := c12_ hbox; clear hg hbox hb1)
     | ((with_reducible refine gate_dst (N := 5) rfl ?_); refine box_event ?hg (N := 5) ?hd (cs := #[.int .i64 0, .int .u64 0, .int .i64 0, .bool false]) (t := 38) ?hr ?_; (case hd => rfl); (case hg => rfl); (case hr => first | (go_simp; done) | (go_simp; rfl)); intro gs hg w2 hbox hb2; have HGS := Aside0.mk (by rw [hg]; exact HB1.out.size : w.heap.size ≤ gs); have HZ := Aside0.mk hbox; have HE2 := Aside0.mk (blk_below HE.out hb2); have HB2 := Aside0.mk (below_step HB1.out hb2); obtain ⟨x0, x1, x2, x3⟩ := c12_ HE2.out; obtain ⟨y0, y1, y2, y3⟩ := c4_ hbox; obtain ⟨p0, p1, p2, p3⟩ := f4_ hbox; have HNE := Aside0.mk (by have := blk_lt HE.out; omega : ge ≠ gs); have hne := HNE.out; clear hg hbox hb2)
     | (go_at_call 27; refine (BinSearch_Seat A c l0 a1_1 _ (Kd.C_below HC.out (four_below HB2.out HGS.out _ _ _ _)) (by have := HN.out; omega)).mono ?_; rintro e w5 ⟨rfl, hb5⟩; rw [HF.out, HBS.out]; have h5 := blk_below (four_puts HZ.out _ _ _ _) hb5; have hb6 := below_step (four_below HB2.out HGS.out _ _ _ _) hb5; have HB6 := Aside0.mk hb6; clear y0 y1 y2 y3 p0 p1 p2 p3; obtain ⟨y0, y1, y2, y3⟩ := c4_ h5; clear h5 hb5 hb6)
     | (go_at_call 29; refine (Insert_Seat w0 _ P0_ (.slice A l0.length c) l0 ⟨a1_1, a1_2, a1_3, kd⟩ w5.heap.size i HIL.out HN.out (below_alloc (below_step HB.out HB6.out) _) (Kd.R_alloc (Kd.R_below HO.out HB6.out) _) (blk_new w5 _) (fun e => by have h1 := own_lt HS.out _ e.symm; have h2 := HB6.out.size; omega)).mono ?_; rintro e w7 ⟨v7, rfl, r1, r2, r3⟩; have R1 := Aside0.mk r1; have R2 := Aside0.mk r2; have R3 := Aside0.mk r3; clear r1 r2 r3))
    go_ret
    refine ⟨_, rfl, ?_, R2.out, (Kept.of_below (below_alloc HB6.out _) _).then_ R3.out (fun k h => .inl h)⟩
    rw [HT.out]
    exact Kd.R_mono R1.out (fun k hk => hk.imp id (fun h => Nat.le_trans (below_alloc HB6.out _).size h))
 · rw [if_neg hn] at h
   exact absurd h (by simp)
end Go.Proofs.Ytdccjkeiifplnaa.P
