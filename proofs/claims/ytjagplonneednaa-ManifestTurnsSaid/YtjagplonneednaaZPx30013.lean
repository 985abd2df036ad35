-- kept, by a program of this session, of a text that the printer or this session wrote
import Derived.Test.YtjagplonneednaaZPx0
import Derived.Test.YtjagplonneednaaZPx1033
import Derived.Test.YtjagplonneednaaZPx1065
import Derived.Test.YtjagplonneednaaZPx1043
namespace Go.Proofs.Ytjagplonneednaa.P
open Go.RowKit Go.Proofs.YtjagplonneednaaW.PrintWords Go.Proofs.YtjagplonneednaaW.PrintLast Go.Proofs.YtjagplonneednaaW.PrintMore
attribute [local go_sem] max2_int min2_int max_two min_two max_three min_three max_four min_four
set_option linter.unusedVariables false
set_option linter.unusedSimpArgs false
def mcheck : List S56 → Int → List Bool → Int
 | [], _, _ => 0
 | p :: r, a, s => if p.f0 < 0 then 2 else if p.f0 ≥ 8 then 2 else if s.getD p.f0.toNat false = true then 2 else if p.f1 ≤ a then 2 else if p.f1 > 4611686018427387904 then 2 else
  if p.f2 < (if r = [] then (-1) else 0) then 2 else if p.f2 > 1048576 then 2 else mcheck r p.f1 (s.set p.f0.toNat true)
def checkM (e : Int) (l : List S56) : Int := if e = 0 then 2 else if e > 4611686018427387904 then 2 else if (l.length : Int) > 8 then 2 else mcheck l 0 (List.replicate 8 false)
def manifest_Check.f (a0_0 : Int) (l0_1 : List (S56)) : Option Int := some (checkM a0_0 l0_1)
def seenCells (s : List Bool) : Array Value := (s.map Value.bool).toArray
theorem seenCells_at {s : List Bool} (hs : s.length = 8) (i : Nat) (hi : i < 8) : (seenCells s)[i]? = some (.bool (s.getD i false)) := by
 unfold seenCells
 rw [List.getElem?_toArray, List.getElem?_map, List.getD_eq_getElem?_getD, List.getElem?_eq_getElem (by omega)]
 rfl
theorem seenCells_set {s : List Bool} (i : Nat) (b : Bool) : (seenCells s).setIfInBounds i (.bool b) = seenCells (s.set i b) := by
 unfold seenCells
 rw [List.setIfInBounds_toArray, List.map_set]
theorem manifest_cells {W : World} {g : Nat} {e : Int} {A : Option Addr} {n c : Nat} (h : W.heap[g]? = some (.cells #[.int .u64 e, .slice A n c] 25 (0, 0))) : W.cell? ⟨g, 0, none⟩ = some (.int .u64 e) ∧ W.cell? ⟨g, 1, none⟩ = some (.slice A n c) := ⟨(blk_cell h 0).trans rfl, (blk_cell h 1).trans rfl⟩
theorem part_cells {W : World} {g : Nat} {p0 p1 p2 : Int} (h : W.heap[g]? = some (.cells #[.int .i64 p0, .int .u64 p1, .int .i64 p2] 56 (0, 0))) : W.cell? ⟨g, 0, none⟩ = some (.int .i64 p0) ∧ W.cell? ⟨g, 1, none⟩ = some (.int .u64 p1) ∧ W.cell? ⟨g, 2, none⟩ = some (.int .i64 p2) := ⟨(blk_cell h 0).trans rfl, (blk_cell h 1).trans rfl, (blk_cell h 2).trans rfl⟩
set_option maxHeartbeats 16000000 in
set_option maxRecDepth 100000 in
theorem manifest_Check.calls (a0_0 : Int) (A0_1 : Option Addr) (c0_1 : Nat) (l0_1 : List (S56)) (r : Int) (w : World) (hr0_1 : Kd.C k56 w A0_1 l0_1.length l0_1) (hc0_1 : l0_1.length ≤ c0_1) (h : manifest_Check.f a0_0 l0_1 = some r) :
 Calls Try.prog 13 #[.agg #[.int .u64 a0_0, .slice A0_1 l0_1.length c0_1]] w fun e w' => e = .returned (.int .i64 r) ∧ Below w.heap.size w w' := by
 have h := Option.some.inj h
 unfold checkM at h
 have R0 := Aside0.mk hr0_1
 have HC := Aside0.mk hc0_1
 by_cases c0 : a0_0 = 0
 · rw [if_pos c0] at h
   subst h
   have d0 : (a0_0 == 0) = true := beq_iff_eq.mpr c0
   clear hr0_1 hc0_1 c0
   go_enter Try.func13, Try.ntmps13
   go_wp2
   go_ret
   exact ⟨rfl, below_alloc (Below.refl _ _) _⟩
 by_cases c1 : a0_0 > 4611686018427387904
 · rw [if_neg c0, if_pos c1] at h
   subst h
   have d0 : (a0_0 == 0) = false := beq_eq_false_iff_ne.mpr c0
   have d1 : decide (4611686018427387904 < a0_0) = true := decide_eq_true c1
   clear hr0_1 hc0_1 c0 c1
   go_enter Try.func13, Try.ntmps13
   go_wp2
   go_ret
   exact ⟨rfl, below_alloc (Below.refl _ _) _⟩
 by_cases c2 : (l0_1.length : Int) > 8
 · rw [if_neg c0, if_neg c1, if_pos c2] at h
   subst h
   have d0 : (a0_0 == 0) = false := beq_eq_false_iff_ne.mpr c0
   have d1 : decide (4611686018427387904 < a0_0) = false := decide_eq_false c1
   have d2 : decide ((8 : Int) < (l0_1.length : Int)) = true := decide_eq_true c2
   have d3 : decide (8 < l0_1.length) = true := decide_eq_true (by omega)
   clear hr0_1 hc0_1 c0 c1
   go_enter Try.func13, Try.ntmps13
   go_wp2
   go_ret
   exact ⟨rfl, below_alloc (Below.refl _ _) _⟩
 rw [if_neg c0, if_neg c1, if_neg c2] at h
 have H0 := Aside0.mk h
 have d0 : (a0_0 == 0) = false := beq_eq_false_iff_ne.mpr c0
 have d1 : decide (4611686018427387904 < a0_0) = false := decide_eq_false c1
 have d2 : decide ((8 : Int) < (l0_1.length : Int)) = false := decide_eq_false c2
 have d3 : decide (8 < l0_1.length) = false := decide_eq_false (by omega)
 have hl8 : l0_1.length ≤ 8 := by omega
 clear hr0_1 hc0_1 c0 c1 c2 h
 go_enter Try.func13, Try.ntmps13
 go_wp2_with (first
  | ((with_reducible refine gate_dst (N := 1) rfl ?_); refine box_event ?hg (N := 1) ?hd (cs := #[.int .u64 a0_0, .slice A0_1 l0_1.length c0_1]) (t := 25) ?hr ?_; (case hd => rfl); (case hg => rfl); (case hr => first | (go_simp; done) | (go_simp; rfl)); intro gb hgb w1 hbox hb1; obtain ⟨m0, m1⟩ := manifest_cells hbox; have HM := Aside0.mk hbox; have HB := Aside0.mk (Below.trans (Below.refl _ _) hb1); clear hgb hbox hb1)
  | ((with_reducible refine gate_dst (N := 3) rfl ?_); refine box_event ?hg (N := 3) ?hd (cs := seenCells (List.replicate 8 false)) (t := 69) ?hr ?_; (case hd => rfl); (case hg => rfl); (case hr => first | (go_simp; done) | (go_simp; rfl)); intro gs hgs w2 hbox hb2; have HG := Aside0.mk (by rw [hgs]; exact HB.out.size : w.heap.size ≤ gs); have HS := Aside0.mk hbox; have n1_ := Aside0.mk (blk_below HM.out hb2); have n0_ := Aside0.mk (below_step HB.out hb2); clear m0 m1 HM HB; have HM := n1_; have HB := n0_; obtain ⟨m0, m1⟩ := manifest_cells HM.out; clear hgs hbox hb2 n0_ n1_))
 go_loopg [4, 25] l0_1.length (fun gq v4 v25 wr => ∃ (i : Nat) (a : Int) (s : List Bool), i ≤ l0_1.length ∧ l0_1.length - i ≤ gq ∧ v4 = .int .u64 a ∧ v25 = .int .i64 (i : Int) ∧ s.length = 8 ∧ Aside0 (mcheck (l0_1.drop i) a s = r) ∧ Aside0 (wr.heap[gb]? = some (.cells #[.int .u64 a0_0, .slice A0_1 l0_1.length c0_1] 25 (0, 0))) ∧ Aside0 (wr.heap[gs]? = some (.cells (seenCells s) 69 (0, 0))) ∧ Aside0 (Below w.heap.size w wr))
 case atStart => exact ⟨0, 0, List.replicate 8 false, Nat.zero_le _, by omega, rfl, rfl, rfl, H0, HM, HS, HB⟩
 case round =>
  clear H0 HM HS HB m0 m1 d0 d1 d2 d3
  obtain ⟨i, a, s, hi, hgq, rfl, rfl, hs, HA, HM, HS, HB⟩ := hrel
  by_cases hlt : i < l0_1.length
  · have hltz : (i : Int) < (l0_1.length : Int) := by omega
    have dlt : decide ((i : Int) < (l0_1.length : Int)) = true := decide_eq_true hltz
    have hA := HA.out
    rw [List.drop_eq_getElem_cons hlt] at hA
    simp only [mcheck] at hA
    have hgg : gb ≠ gs := blk_ne HM.out HS.out (by decide)
    obtain ⟨ad, rfl, hx0, hx1, hx2⟩ := at_T56 (Kd.C_below R0.out HB.out) (i : Int) (by omega) (by omega)
    rw [show rd_T56 l0_1 (i : Int) = l0_1[i] from rdOf_at z56 l0_1 i hlt, Int.toNat_natCast] at hx0 hx1 hx2
    generalize l0_1[i] = p at hx0 hx1 hx2 hA
    obtain ⟨p0, p1, p2⟩ := p
    simp only at hx0 hx1 hx2 hA
    clear HA
    obtain ⟨m0, m1⟩ := manifest_cells (blk_alloc HM.out (.cells #[.int .i64 p0, .int .u64 p1, .int .i64 p2] 56))
    obtain ⟨n0, n1, n2⟩ := part_cells (blk_new wr (.cells #[.int .i64 p0, .int .u64 p1, .int .i64 p2] 56))
    by_cases hl : i + 1 = l0_1.length
    · have e0 : ((i : Int) == (l0_1.length : Int) - 1) = true := beq_iff_eq.mpr (by omega)
      rw [if_pos (List.drop_eq_nil_of_le (by omega))] at hA
      by_cases c0 : p0 < 0
      · rw [if_pos c0] at hA
        subst hA
        have d0 : decide (p0 < 0) = true := decide_eq_true c0
        clear c0 HM HS
        go_wp2
        go_ret
        exact ⟨rfl, below_alloc HB.out _⟩
      rw [if_neg c0] at hA
      have d0 : decide (p0 < 0) = false := decide_eq_false c0
      by_cases c1 : p0 ≥ 8
      · rw [if_pos c1] at hA
        subst hA
        have d1 : decide (8 ≤ p0) = true := decide_eq_true c1
        clear c1 HM HS
        go_wp2
        go_ret
        exact ⟨rfl, below_alloc HB.out _⟩
      rw [if_neg c1] at hA
      have d1 : decide (8 ≤ p0) = false := decide_eq_false c1
      obtain ⟨q, rfl⟩ : ∃ q : Nat, p0 = (q : Int) := ⟨p0.toNat, by omega⟩
      rw [Int.toNat_natCast] at hA
      have s0 := (blk_cell (blk_alloc HS.out (.cells #[.int .i64 (q : Int), .int .u64 p1, .int .i64 p2] 56)) q).trans (seenCells_at hs q (by omega))
      have s1 := blk_frozen (blk_alloc HS.out (.cells #[.int .i64 (q : Int), .int .u64 p1, .int .i64 p2] 56)) q
      by_cases c2 : s.getD q false = true
      · rw [if_pos c2] at hA
        subst hA
        rw [c2] at s0
        clear c2 HM HS
        go_wp2
        go_ret
        exact ⟨rfl, below_alloc HB.out _⟩
      rw [if_neg c2] at hA
      have c2_ : s.getD q false = false := by simpa using c2
      rw [c2_] at s0
      by_cases c3 : p1 ≤ a
      · rw [if_pos c3] at hA
        subst hA
        have d3 : decide (p1 ≤ a) = true := decide_eq_true c3
        clear c3 HM HS
        go_wp2
        go_ret
        exact ⟨rfl, below_alloc HB.out _⟩
      rw [if_neg c3] at hA
      have d3 : decide (p1 ≤ a) = false := decide_eq_false c3
      by_cases c4 : p1 > 4611686018427387904
      · rw [if_pos c4] at hA
        subst hA
        have d4 : decide (4611686018427387904 < p1) = true := decide_eq_true c4
        clear c4 HM HS
        go_wp2
        go_ret
        exact ⟨rfl, below_alloc HB.out _⟩
      rw [if_neg c4] at hA
      have d4 : decide (4611686018427387904 < p1) = false := decide_eq_false c4
      by_cases c5 : p2 < (-1)
      · rw [if_pos c5] at hA
        subst hA
        have d5 : decide (p2 < (-1)) = true := decide_eq_true c5
        clear c5 HM HS
        go_wp2
        go_ret
        exact ⟨rfl, below_alloc HB.out _⟩
      rw [if_neg c5] at hA
      have d5 : decide (p2 < (-1)) = false := decide_eq_false c5
      by_cases c6 : p2 > 1048576
      · rw [if_pos c6] at hA
        subst hA
        have d6 : decide (1048576 < p2) = true := decide_eq_true c6
        clear c6 HM HS
        go_wp2
        go_ret
        exact ⟨rfl, below_alloc HB.out _⟩
      rw [if_neg c6] at hA
      have d6 : decide (1048576 < p2) = false := decide_eq_false c6
      have HA := Aside0.mk hA
      clear hA
      have n3 : ((wr.alloc (.cells #[.int .i64 (q : Int), .int .u64 p1, .int .i64 p2] 56)).setCell ⟨gs, q, none⟩ (.bool true)).cell? ⟨wr.heap.size, 1, none⟩ = some (.int .u64 p1) := (blk_cell (blk_far (p := ⟨gs, q, none⟩) (blk_new wr _) (show wr.heap.size ≠ gs by have := blk_lt HS.out; omega) _) 1).trans rfl
      go_wp2
      go_region
      go_wp2
      go_roundg (l0_1.length - (i + 1))
      case measure => omega
      case rel => exact ⟨i + 1, p1, s.set q true, by omega, by omega, rfl, rfl, by rw [List.length_set]; exact hs, HA, ⟨blk_drew (blk_far (p := ⟨gs, q, none⟩) (blk_alloc HM.out _) hgg _)⟩, ⟨blk_drew (blk_put (blk_alloc HS.out _) q _ (seenCells_set q true))⟩, ⟨Below.drew (below_set (below_alloc HB.out _) HG.out)⟩⟩
    · have e0 : ((i : Int) == (l0_1.length : Int) - 1) = false := beq_eq_false_iff_ne.mpr (by omega)
      rw [if_neg (show ¬ l0_1.drop (i + 1) = [] from fun z => by have := congrArg List.length z; rw [List.length_drop] at this; simp at this; omega)] at hA
      by_cases c0 : p0 < 0
      · rw [if_pos c0] at hA
        subst hA
        have d0 : decide (p0 < 0) = true := decide_eq_true c0
        clear c0 HM HS
        go_wp2
        go_ret
        exact ⟨rfl, below_alloc HB.out _⟩
      rw [if_neg c0] at hA
      have d0 : decide (p0 < 0) = false := decide_eq_false c0
      by_cases c1 : p0 ≥ 8
      · rw [if_pos c1] at hA
        subst hA
        have d1 : decide (8 ≤ p0) = true := decide_eq_true c1
        clear c1 HM HS
        go_wp2
        go_ret
        exact ⟨rfl, below_alloc HB.out _⟩
      rw [if_neg c1] at hA
      have d1 : decide (8 ≤ p0) = false := decide_eq_false c1
      obtain ⟨q, rfl⟩ : ∃ q : Nat, p0 = (q : Int) := ⟨p0.toNat, by omega⟩
      rw [Int.toNat_natCast] at hA
      have s0 := (blk_cell (blk_alloc HS.out (.cells #[.int .i64 (q : Int), .int .u64 p1, .int .i64 p2] 56)) q).trans (seenCells_at hs q (by omega))
      have s1 := blk_frozen (blk_alloc HS.out (.cells #[.int .i64 (q : Int), .int .u64 p1, .int .i64 p2] 56)) q
      by_cases c2 : s.getD q false = true
      · rw [if_pos c2] at hA
        subst hA
        rw [c2] at s0
        clear c2 HM HS
        go_wp2
        go_ret
        exact ⟨rfl, below_alloc HB.out _⟩
      rw [if_neg c2] at hA
      have c2_ : s.getD q false = false := by simpa using c2
      rw [c2_] at s0
      by_cases c3 : p1 ≤ a
      · rw [if_pos c3] at hA
        subst hA
        have d3 : decide (p1 ≤ a) = true := decide_eq_true c3
        clear c3 HM HS
        go_wp2
        go_ret
        exact ⟨rfl, below_alloc HB.out _⟩
      rw [if_neg c3] at hA
      have d3 : decide (p1 ≤ a) = false := decide_eq_false c3
      by_cases c4 : p1 > 4611686018427387904
      · rw [if_pos c4] at hA
        subst hA
        have d4 : decide (4611686018427387904 < p1) = true := decide_eq_true c4
        clear c4 HM HS
        go_wp2
        go_ret
        exact ⟨rfl, below_alloc HB.out _⟩
      rw [if_neg c4] at hA
      have d4 : decide (4611686018427387904 < p1) = false := decide_eq_false c4
      by_cases c5 : p2 < 0
      · rw [if_pos c5] at hA
        subst hA
        have d5 : decide (p2 < 0) = true := decide_eq_true c5
        clear c5 HM HS
        go_wp2
        go_ret
        exact ⟨rfl, below_alloc HB.out _⟩
      rw [if_neg c5] at hA
      have d5 : decide (p2 < 0) = false := decide_eq_false c5
      by_cases c6 : p2 > 1048576
      · rw [if_pos c6] at hA
        subst hA
        have d6 : decide (1048576 < p2) = true := decide_eq_true c6
        clear c6 HM HS
        go_wp2
        go_ret
        exact ⟨rfl, below_alloc HB.out _⟩
      rw [if_neg c6] at hA
      have d6 : decide (1048576 < p2) = false := decide_eq_false c6
      have HA := Aside0.mk hA
      clear hA
      have n3 : ((wr.alloc (.cells #[.int .i64 (q : Int), .int .u64 p1, .int .i64 p2] 56)).setCell ⟨gs, q, none⟩ (.bool true)).cell? ⟨wr.heap.size, 1, none⟩ = some (.int .u64 p1) := (blk_cell (blk_far (p := ⟨gs, q, none⟩) (blk_new wr _) (show wr.heap.size ≠ gs by have := blk_lt HS.out; omega) _) 1).trans rfl
      go_wp2
      go_region
      go_wp2
      go_roundg (l0_1.length - (i + 1))
      case measure => omega
      case rel => exact ⟨i + 1, p1, s.set q true, by omega, by omega, rfl, rfl, by rw [List.length_set]; exact hs, HA, ⟨blk_drew (blk_far (p := ⟨gs, q, none⟩) (blk_alloc HM.out _) hgg _)⟩, ⟨blk_drew (blk_put (blk_alloc HS.out _) q _ (seenCells_set q true))⟩, ⟨Below.drew (below_set (below_alloc HB.out _) HG.out)⟩⟩
  · have dlt : decide ((i : Int) < (l0_1.length : Int)) = false := decide_eq_false (by omega)
    have hA := HA.out
    rw [List.drop_eq_nil_of_le (by omega)] at hA
    have hA' : (0 : Int) = r := hA
    subst hA'
    clear hA HA
    go_wp2
    go_ret
    exact ⟨rfl, HB.out⟩
def writtenL (b : List Int) (a : Nat) : List S56 → List Int
 | [] => b
 | p :: r => writtenL (secPut (secPut (secPut b a (IntKind.u64.wrap p.f0) 1 1) (a + 1) p.f1 8 8) (a + 9) (IntKind.u64.wrap (wrap64 (p.f2 + 1))) 4 4) (a + 13) r
def writtenB (e : Int) (l : List S56) : List Int := writtenL (secPut (secPut (List.replicate 128 0) 0 e 8 8) 8 (l.length : Int) 1 1) 9 l
def manifest_written.f (k : Nat) (a0_0 : Int) (l0_1 : List (S56)) : Option ByteArray := if l0_1.length ≤ 8 then (crc_Of.f k (strOfNums ((writtenB a0_0 l0_1).take 116))).bind fun s => some (strOfNums (secPut (secPut (writtenB a0_0 l0_1) 116 (IntKind.u64.wrap s) 4 4) 120 a0_0 8 8)) else none
theorem manifest_written.mono : ∀ a0_0 l0_1 k, LeO (manifest_written.f k a0_0 l0_1) (manifest_written.f (k + 1) a0_0 l0_1) := by
 intro a0_0 l0_1 k
 unfold manifest_written.f
 exact LeO.ite (LeO.bind (crc_Of.mono _ _) (fun _ => LeO.refl _)) (LeO.refl _)
theorem sec_info : (Try.prog.info? 64).map (·.zero) = some (some (.agg (secCells (List.replicate 128 0) 0))) := by
 unfold secCells
 kernel_rfl
theorem sec_zero (w : World) : (zeroValue 64).run Try.prog w = .ok (.agg (secCells (List.replicate 128 0) 0)) w := by
 obtain ⟨i, hi, hz⟩ := Option.map_eq_some_iff.1 sec_info
 simp [zeroValue, typeInfo, hi, hz]
set_option maxHeartbeats 16000000 in
set_option maxRecDepth 100000 in
theorem manifest_written.calls (k : Nat) (a0_0 : Int) (A0_1 : Option Addr) (c0_1 : Nat) (l0_1 : List (S56)) (r : ByteArray) (w : World) (hr0_1 : Kd.C k56 w A0_1 l0_1.length l0_1) (hc0_1 : l0_1.length ≤ c0_1) (h : manifest_written.f k a0_0 l0_1 = some r) :
 Calls Try.prog 24 #[.agg #[.int .u64 a0_0, .slice A0_1 l0_1.length c0_1]] w fun e w' => e = .returned (.string r) ∧ Below w.heap.size w w' := by
 unfold manifest_written.f at h
 by_cases hl8 : l0_1.length ≤ 8
 rotate_left
 · rw [if_neg hl8] at h
   exact absurd h (by simp)
 rw [if_pos hl8] at h
 obtain ⟨cs, hcs, h⟩ := Option.bind_eq_some_iff.mp h
 obtain rfl := Option.some.inj h
 have R0 := Aside0.mk hr0_1
 have HC := Aside0.mk hc0_1
 have HS := Aside0.mk hcs
 have kz := sec_zero
 clear hr0_1 hc0_1 h hcs
 go_enter Try.func24, Try.ntmps24
 go_wp2_with (first
  | ((with_reducible refine gate_dst (N := 1) rfl ?_); refine box_event ?hg (N := 1) ?hd (cs := #[.int .u64 a0_0, .slice A0_1 l0_1.length c0_1]) (t := 25) ?hr ?_; (case hd => rfl); (case hg => rfl); (case hr => first | (go_simp; done) | (go_simp; rfl)); intro gb hgb w1 hbox hb1; obtain ⟨m0, m1⟩ := manifest_cells hbox; have HM := Aside0.mk hbox; have HB := Aside0.mk (Below.trans (Below.refl _ _) hb1); clear hgb hbox hb1)
  | ((with_reducible refine gate_dst (N := 7) rfl ?_); refine box_event ?hg (N := 7) ?hd (cs := secCells (List.replicate 128 0) 0) (t := 64) ?hr ?_; (case hd => rfl); (case hg => rfl); (case hr => first | (go_simp; done) | (go_simp; rfl)); intro gs hgs w2 hbox hb2; have HG := Aside0.mk (by rw [hgs]; exact HB.out.size : w.heap.size ≤ gs); have HI := Aside0.mk (show IsSec w2 gs (List.replicate 128 0) ((0 : Nat) : Int) from ⟨by rw [List.length_replicate], hbox⟩); have n1_ := Aside0.mk (blk_below HM.out hb2); have n0_ := Aside0.mk (below_step HB.out hb2); clear m0 m1 HM HB; have HM := n1_; have HB := n0_; obtain ⟨m0, m1⟩ := manifest_cells HM.out; have HN := Aside0.mk (show gb ≠ gs from blk_ne HM.out HI.out.2 (by decide)); clear hgs hbox hb2 n0_ n1_)
  | (go_at_call_of 43 (8 : Int); refine (sec_put8 gs _ _ _ w _ HI.out HB.out HG.out (by omega)).mono ?_; rintro e w9 ⟨rfl, hI, hB, hk⟩; have n1_ := Aside0.mk (hk.blk HM.out HN.out (by simp)); clear HI HB HM m0 m1; have HI := Aside0.mk hI; have HB := Aside0.mk hB; have HM := n1_; clear n1_ hI hB; obtain ⟨m0, m1⟩ := manifest_cells HM.out; clear hk)
  | (go_at_call_of 43 (1 : Int); refine (sec_put1 gs _ _ _ w _ HI.out HB.out HG.out (by omega)).mono ?_; rintro e w9 ⟨rfl, hI, hB, hk⟩; have n1_ := Aside0.mk (hk.blk HM.out HN.out (by simp)); clear HI HB HM m0 m1; have HI := Aside0.mk hI; have HB := Aside0.mk hB; have HM := n1_; clear n1_ hI hB; obtain ⟨m0, m1⟩ := manifest_cells HM.out; clear hk))
 go_loopg [21] l0_1.length (fun gq v21 wr => ∃ (i a : Nat) (b : List Int), i ≤ l0_1.length ∧ l0_1.length - i ≤ gq ∧ a = 9 + 13 * i ∧ v21 = .int .i64 (i : Int) ∧ Aside0 (writtenL b a (l0_1.drop i) = writtenB a0_0 l0_1) ∧ Aside0 (wr.heap[gb]? = some (.cells #[.int .u64 a0_0, .slice A0_1 l0_1.length c0_1] 25 (0, 0))) ∧ Aside0 (IsSec wr gs b (a : Int)) ∧ Aside0 (Below w.heap.size w wr))
 case atStart =>
  have HA0 := Aside0.mk (show writtenL (secPut (secPut (List.replicate 128 0) 0 a0_0 8 8) 8 (l0_1.length : Int) 1 1) 9 (l0_1.drop 0) = writtenB a0_0 l0_1 from rfl)
  exact ⟨0, 9, secPut (secPut (List.replicate 128 0) 0 a0_0 8 8) 8 (l0_1.length : Int) 1 1, Nat.zero_le _, by omega, rfl, rfl, HA0, HM, HI, HB⟩
 case round =>
  clear HM HI HB m0 m1
  obtain ⟨i, a, b, hi, hgq, ha, rfl, HA, HM, HI, HB⟩ := hrel
  obtain ⟨m0, m1⟩ := manifest_cells HM.out
  by_cases hlt : i < l0_1.length
  · have hltz : (i : Int) < (l0_1.length : Int) := by omega
    have dlt : decide ((i : Int) < (l0_1.length : Int)) = true := decide_eq_true hltz
    have hA := HA.out
    rw [List.drop_eq_getElem_cons hlt] at hA
    simp only [writtenL] at hA
    obtain ⟨ad, rfl, hx0, hx1, hx2⟩ := at_T56 (Kd.C_below R0.out HB.out) (i : Int) (by omega) (by omega)
    rw [show rd_T56 l0_1 (i : Int) = l0_1[i] from rdOf_at z56 l0_1 i hlt, Int.toNat_natCast] at hx0 hx1 hx2
    generalize l0_1[i] = p at hx0 hx1 hx2 hA
    obtain ⟨p0, p1, p2⟩ := p
    simp only at hx0 hx1 hx2 hA
    have HA' := Aside0.mk hA
    clear HA hA
    obtain ⟨n0, n1, n2⟩ := part_cells (blk_new wr (.cells #[.int .i64 p0, .int .u64 p1, .int .i64 p2] 56))
    have HP := Aside0.mk (blk_new wr (.cells #[.int .i64 p0, .int .u64 p1, .int .i64 p2] 56))
    have HPN := Aside0.mk (show wr.heap.size ≠ gs by have := HI.out.lt; omega)
    go_wp2_with (first
     | (go_at_call_of 43 (4 : Int); refine (sec_put4 gs _ _ _ w _ HI.out HB.out HG.out (by omega)).mono ?_; rintro e w9 ⟨rfl, hI, hB, hk⟩; have n1_ := Aside0.mk (hk.blk HM.out HN.out (by simp)); clear HI HB HM m0 m1; have HI := Aside0.mk hI; have HB := Aside0.mk hB; have HM := n1_; clear n1_ hI hB; obtain ⟨m0, m1⟩ := manifest_cells HM.out; have n3_ := Aside0.mk (hk.blk HP.out HPN.out (by simp)); clear HP n0 n1 n2; have HP := n3_; clear n3_; obtain ⟨n0, n1, n2⟩ := part_cells HP.out; clear hk)
     | (go_at_call_of 43 (8 : Int); refine (sec_put8 gs _ _ _ w _ HI.out HB.out HG.out (by omega)).mono ?_; rintro e w9 ⟨rfl, hI, hB, hk⟩; have n1_ := Aside0.mk (hk.blk HM.out HN.out (by simp)); clear HI HB HM m0 m1; have HI := Aside0.mk hI; have HB := Aside0.mk hB; have HM := n1_; clear n1_ hI hB; obtain ⟨m0, m1⟩ := manifest_cells HM.out; have n3_ := Aside0.mk (hk.blk HP.out HPN.out (by simp)); clear HP n0 n1 n2; have HP := n3_; clear n3_; obtain ⟨n0, n1, n2⟩ := part_cells HP.out; clear hk)
     | (go_at_call_of 43 (1 : Int); refine (sec_put1 gs _ _ _ w _ (HI.out.alloc _) (below_alloc HB.out _) HG.out (by omega)).mono ?_; rintro e w9 ⟨rfl, hI, hB, hk⟩; have n1_ := Aside0.mk (hk.blk (blk_alloc HM.out _) HN.out (by simp)); clear HI HB HM m0 m1; have HI := Aside0.mk hI; have HB := Aside0.mk hB; have HM := n1_; clear n1_ hI hB; obtain ⟨m0, m1⟩ := manifest_cells HM.out; have n3_ := Aside0.mk (hk.blk HP.out HPN.out (by simp)); clear HP n0 n1 n2; have HP := n3_; clear n3_; obtain ⟨n0, n1, n2⟩ := part_cells HP.out; clear hk))
    go_roundg (l0_1.length - (i + 1))
    case measure => omega
    case rel => exact ⟨i + 1, a + 13, _, by omega, by omega, by omega, rfl, HA', HM, HI, HB⟩
  · have dlt : decide ((i : Int) < (l0_1.length : Int)) = false := decide_eq_false (by omega)
    have hA := HA.out
    rw [List.drop_eq_nil_of_le (by omega)] at hA
    have hA' : b = writtenB a0_0 l0_1 := hA
    subst hA'
    clear hA HA
    have hf := HI.out.frozen 128
    have hp := HI.out.place
    have n2_ := Aside0.mk (show IsSec (wr.setCell ⟨gs, 128, none⟩ (.int .i64 116)) gs (writtenB a0_0 l0_1) ((116 : Nat) : Int) from HI.out.go 116)
    have n1_ := Aside0.mk (blk_far (p := ⟨gs, 128, none⟩) HM.out HN.out (.int .i64 116))
    have n0_ := Aside0.mk (below_set (j := 128) (v := .int .i64 116) HB.out HG.out)
    clear HM HB HI m0 m1
    have HB := n0_
    have HM := n1_
    have HI := n2_
    clear n0_ n1_ n2_
    obtain ⟨m0, m1⟩ := manifest_cells HM.out
    go_wp2_with (first
     | (go_at_call 30; refine (sec_sum k gs _ _ cs w _ HI.out HB.out HG.out HS.out).mono ?_; rintro e w9 ⟨rfl, hI, hB, hk⟩; have n1_ := Aside0.mk (hk.blk HM.out HN.out (by simp)); clear HI HB HM m0 m1; have HI := Aside0.mk hI; have HB := Aside0.mk hB; have HM := n1_; clear n1_ hI hB hk; obtain ⟨m0, m1⟩ := manifest_cells HM.out)
     | (go_at_call_of 43 (4 : Int); refine (sec_put4 gs _ _ _ w _ HI.out HB.out HG.out (by omega)).mono ?_; rintro e w9 ⟨rfl, hI, hB, hk⟩; have n1_ := Aside0.mk (hk.blk HM.out HN.out (by simp)); clear HI HB HM m0 m1; have HI := Aside0.mk hI; have HB := Aside0.mk hB; have HM := n1_; clear n1_ hI hB hk; obtain ⟨m0, m1⟩ := manifest_cells HM.out)
     | (go_at_call_of 43 (8 : Int); refine (sec_put8 gs _ _ _ w _ HI.out HB.out HG.out (by omega)).mono ?_; rintro e w9 ⟨rfl, hI, hB, hk⟩; have kc := hI.text; clear HI HB HM m0 m1; have HI := Aside0.mk hI; have HB := Aside0.mk hB; clear hI hB hk))
    go_ret
    exact ⟨rfl, HB.out⟩
def manifest_Put.f (k : Nat) (a0_0 : Int) (l0_1 : List (S56)) : Option (ByteArray × Int) := (manifest_Check.f a0_0 l0_1).bind fun t104 => (if t104 = 0 then ((manifest_written.f k a0_0 l0_1).bind fun t105 => (some (t105, 0))) else (some ((⟨#[]⟩ : ByteArray), t104)))
theorem manifest_Put.mono : ∀ a0 a1 k, LeO (manifest_Put.f k a0 a1) (manifest_Put.f (k + 1) a0 a1) := by
 intro a0 a1 k
 unfold manifest_Put.f
 repeat' first
  | (with_reducible exact manifest_written.mono _ _ _)
  | (with_reducible exact LeO.refl _)
  | (with_reducible exact LeO.none _)
  | (with_reducible refine LeO.ite ?_ ?_)
  | (with_reducible refine LeO.bind ?_ (fun _ => ?_))
  | exact manifest_written.mono _ _ _
  | exact LeO.none _
  | refine LeO.ite ?_ ?_
  | refine LeO.bind ?_ (fun _ => ?_)
set_option maxHeartbeats 8000000 in
set_option maxRecDepth 100000 in
theorem manifest_Put.calls (k : Nat) (a0_0 : Int) (A0_1 : Option Addr) (c0_1 : Nat) (l0_1 : List (S56)) (r1 : ByteArray) (r2 : Int) (w : World) (hr0_1 : Kd.C k56 w A0_1 l0_1.length l0_1) (hc0_1 : l0_1.length ≤ c0_1) (h : manifest_Put.f k a0_0 l0_1 = some (r1, r2)) :
 Calls Try.prog 8 #[.agg #[.int .u64 a0_0, .slice A0_1 l0_1.length c0_1]] w fun e w' => e = .returned (.tuple #[.string r1, .int .i64 r2]) ∧ Below w.heap.size w w' := by
 have hu25 := Try.underlying25
 have HR0_1 := Aside0.mk hr0_1
 have HC0_1 := Aside0.mk hc0_1
 clear hr0_1 hc0_1
 have HB := Aside0.mk (Below.refl w.heap.size w)
 have H : ((manifest_Check.f a0_0 l0_1).bind fun t104 => (if t104 = 0 then ((manifest_written.f k a0_0 l0_1).bind fun t105 => (some (t105, 0))) else (some ((⟨#[]⟩ : ByteArray), t104)))) = some (r1, r2) := h
 clear h
 replace H := Option.bind_eq_some_iff.mp H
 obtain ⟨t104, A20, H⟩ := H
 replace H : (if t104 = 0 then ((manifest_written.f k a0_0 l0_1).bind fun t105 => (some (t105, 0))) else (some ((⟨#[]⟩ : ByteArray), t104))) = some (r1, r2) := H
 have A2 := Aside0.mk A20
 clear A20
 by_cases c3 : t104 = 0
 · rw [if_pos c3] at H
   have c3b0 : (t104 == 0) = true := beq_iff_eq.mpr c3
   have c3b1 : (t104 != 0) = false := bne_eq_false_iff_eq.mpr c3
   clear c3
   replace H := Option.bind_eq_some_iff.mp H
   obtain ⟨t105, A40, H⟩ := H
   replace H : (some (t105, 0)) = some (r1, r2) := H
   have A4 := Aside0.mk A40
   clear A40
   simp only [Option.some.injEq, Prod.mk.injEq] at H
   obtain ⟨rfl, rfl⟩ := H
   go_enter Try.func8, Try.ntmps8
   go_wp2_with (first | ((with_reducible refine gate_dst (N := 1) rfl ?_); refine box_event ?hg (N := 1) ?hd (cs := #[.int .u64 a0_0, .slice A0_1 l0_1.length c0_1]) (t := 25) ?hr ?_; (case hd => rfl); (case hg => rfl); (case hr => first | (go_simp; done) | (go_simp; rfl)); intro gb103 hg w5 hbox hb; have n0_ := Aside0.mk (below_step bel_ hb); have n1_ := Aside0.mk (hbox); have n2_ := Aside0.mk ((gE_ hg : w.heap.size ≤ gb103)); have n3_ := Aside0.mk ((gE_ hg : w.heap.size ≤ gb103)); clear HB; have HB := n0_; have BK103 := n1_; have GW103 := n2_; have GE103 := n3_; clear n0_ n1_ n2_ n3_; clear hb hbox hg; obtain ⟨hcz6_0, hcz6_1, hfz6_0, hfz6_1⟩ := cz2_ BK103.out) | ((with_reducible refine gate_callee (f := 13) rfl ?_); refine goesL_ (some 6) rfl rfl Try.func13 (by kernel_rfl) rfl #[.agg #[.int .u64 a0_0, .slice A0_1 l0_1.length c0_1]] rfl args_ ?_; (with_reducible refine (manifest_Check.calls a0_0 _ _ l0_1 t104 _ ?side1 ?side2 A2.out).mono ?_); (case side1 => exact CU (Kd.C_below HR0_1.out HB.out)); (case side2 => exact HC0_1.out); rintro e w7 ⟨rfl, hb⟩; refine ⟨_, rfl, ?_⟩; have n0_ := Aside0.mk (blk_below (blkU BK103.out) hb); have n1_ := Aside0.mk (below_step bel_ hb); clear BK103; clear HB; have BK103 := n0_; have HB := n1_; clear n0_ n1_; (try clear hb); (try clear hb2); (try clear hk); (try clear hi); obtain ⟨hcz8_0, hcz8_1, hfz8_0, hfz8_1⟩ := cz2_ BK103.out) | ((with_reducible refine gate_callee (f := 24) rfl ?_); refine goesL_ (some 11) rfl rfl Try.func24 (by kernel_rfl) rfl #[.agg #[.int .u64 a0_0, .slice A0_1 l0_1.length c0_1]] rfl args_ ?_; (with_reducible refine (manifest_written.calls k a0_0 _ _ l0_1 t105 _ ?side1 ?side2 A4.out).mono ?_); (case side1 => exact CU (Kd.C_below HR0_1.out HB.out)); (case side2 => exact HC0_1.out); rintro e w9 ⟨rfl, hb⟩; refine ⟨_, rfl, ?_⟩; have n0_ := Aside0.mk (blk_below (blkU BK103.out) hb); have n1_ := Aside0.mk (below_step bel_ hb); clear BK103; clear HB; have BK103 := n0_; have HB := n1_; clear n0_ n1_; (try clear hb); (try clear hb2); (try clear hk); (try clear hi)))
   go_ret2
   exact fin_ bel_
 · rw [if_neg c3] at H
   have c3b0 : (t104 == 0) = false := beq_eq_false_iff_ne.mpr c3
   have c3b1 : (t104 != 0) = true := bne_iff_ne.mpr c3
   simp only [Option.some.injEq, Prod.mk.injEq] at H
   obtain ⟨rfl, rfl⟩ := H
   go_enter Try.func8, Try.ntmps8
   go_wp2_with (first | ((with_reducible refine gate_dst (N := 1) rfl ?_); refine box_event ?hg (N := 1) ?hd (cs := #[.int .u64 a0_0, .slice A0_1 l0_1.length c0_1]) (t := 25) ?hr ?_; (case hd => rfl); (case hg => rfl); (case hr => first | (go_simp; done) | (go_simp; rfl)); intro gb103 hg w10 hbox hb; have n0_ := Aside0.mk (below_step bel_ hb); have n1_ := Aside0.mk (hbox); have n2_ := Aside0.mk ((gE_ hg : w.heap.size ≤ gb103)); have n3_ := Aside0.mk ((gE_ hg : w.heap.size ≤ gb103)); clear HB; have HB := n0_; have BK103 := n1_; have GW103 := n2_; have GE103 := n3_; clear n0_ n1_ n2_ n3_; clear hb hbox hg; obtain ⟨hcz11_0, hcz11_1, hfz11_0, hfz11_1⟩ := cz2_ BK103.out) | ((with_reducible refine gate_callee (f := 13) rfl ?_); refine goesL_ (some 6) rfl rfl Try.func13 (by kernel_rfl) rfl #[.agg #[.int .u64 a0_0, .slice A0_1 l0_1.length c0_1]] rfl args_ ?_; (with_reducible refine (manifest_Check.calls a0_0 _ _ l0_1 t104 _ ?side1 ?side2 A2.out).mono ?_); (case side1 => exact CU (Kd.C_below HR0_1.out HB.out)); (case side2 => exact HC0_1.out); rintro e w12 ⟨rfl, hb⟩; refine ⟨_, rfl, ?_⟩; have n0_ := Aside0.mk (blk_below (blkU BK103.out) hb); have n1_ := Aside0.mk (below_step bel_ hb); clear BK103; clear HB; have BK103 := n0_; have HB := n1_; clear n0_ n1_; (try clear hb); (try clear hb2); (try clear hk); (try clear hi)))
   go_ret2
   exact fin_ bel_
end Go.Proofs.Ytjagplonneednaa.P
