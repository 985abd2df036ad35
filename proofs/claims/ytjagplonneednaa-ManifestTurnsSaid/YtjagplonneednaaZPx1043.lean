-- kept, by a program of this session, of a text that the printer or this session wrote
import Derived.Test.YtjagplonneednaaZPx0
import Derived.Test.YtjagplonneednaaZPx1065
import Derived.Shelf.Abstract
namespace Go.Proofs.Ytjagplonneednaa.P
open Go.RowKit Go.Proofs.YtjagplonneednaaW.PrintWords Go.Proofs.YtjagplonneednaaW.PrintLast Go.Proofs.YtjagplonneednaaW.PrintMore
attribute [local go_sem] max2_int min2_int max_two min_two max_three min_three max_four min_four
set_option linter.unusedVariables false
set_option linter.unusedSimpArgs false
@[irreducible] def secCells (b : List Int) (a : Int) : Array Value := ((b.map (Value.int .u8)) ++ [Value.int .i64 a]).toArray
theorem secCells_byte {b : List Int} {a : Int} (hb : b.length = 128) (i : Nat) (hi : i < 128) : (secCells b a)[i]? = some (.int .u8 (b.getD i 0)) := by
 unfold secCells
 rw [List.getElem?_toArray, List.getElem?_append_left (by rw [List.length_map]; omega), List.getElem?_map, List.getD_eq_getElem?_getD, List.getElem?_eq_getElem (by omega)]
 rfl
theorem secCells_place {b : List Int} {a : Int} (hb : b.length = 128) : (secCells b a)[128]? = some (.int .i64 a) := by
 unfold secCells
 rw [List.getElem?_toArray, List.getElem?_append_right (by rw [List.length_map]; omega), List.length_map, hb]
 rfl
theorem secCells_set {b : List Int} {a : Int} (hb : b.length = 128) (i : Nat) (hi : i < 128) (x : Int) : (secCells b a).setIfInBounds i (.int .u8 x) = secCells (b.set i x) a := by
 unfold secCells
 rw [List.setIfInBounds_toArray, List.set_append_left _ _ (by rw [List.length_map]; omega), List.map_set]
theorem secCells_go {b : List Int} {a : Int} (hb : b.length = 128) (x : Int) : (secCells b a).setIfInBounds 128 (.int .i64 x) = secCells b x := by
 unfold secCells
 rw [List.setIfInBounds_toArray, List.set_append_right _ _ (by rw [List.length_map]; omega), List.length_map, hb]
 rfl
def IsSec (W : World) (g : Nat) (b : List Int) (a : Int) : Prop := b.length = 128 ∧ W.heap[g]? = some (.cells (secCells b a) 64 (0, 0))
namespace IsSec
variable {W W' : World} {g : Nat} {b : List Int} {a : Int}
theorem byte (h : IsSec W g b a) (i : Nat) (hi : i < 128) : W.cell? ⟨g, i, none⟩ = some (.int .u8 (b.getD i 0)) := (blk_cell h.2 i).trans (secCells_byte h.1 i hi)
theorem place (h : IsSec W g b a) : W.cell? ⟨g, 128, none⟩ = some (.int .i64 a) := (blk_cell h.2 128).trans (secCells_place h.1)
theorem frozen (h : IsSec W g b a) (i : Nat) : W.frozen? ⟨g, i, none⟩ = false := blk_frozen h.2 i
theorem put (h : IsSec W g b a) (i : Nat) (hi : i < 128) (x : Int) : IsSec (W.setCell ⟨g, i, none⟩ (.int .u8 x)) g (b.set i x) a := ⟨by rw [List.length_set]; exact h.1, blk_put h.2 i _ (secCells_set h.1 i hi x)⟩
theorem go (h : IsSec W g b a) (x : Int) : IsSec (W.setCell ⟨g, 128, none⟩ (.int .i64 x)) g b x := ⟨h.1, blk_put h.2 128 _ (secCells_go h.1 x)⟩
theorem drew (h : IsSec W g b a) : IsSec W.drew g b a := h
theorem drewN (h : IsSec W g b a) (n : Nat) : IsSec (W.drewN n) g b a := h
theorem alloc (h : IsSec W g b a) (o : Obj) : IsSec (W.alloc o) g b a := ⟨h.1, blk_alloc h.2 o⟩
theorem below (h : IsSec W g b a) (hb : Below W.heap.size W W') : IsSec W' g b a := ⟨h.1, blk_below h.2 hb⟩
theorem far (h : IsSec W g b a) {p : Addr} (hp : g ≠ p.block) (u : Value) : IsSec (W.setCell p u) g b a := ⟨h.1, blk_far h.2 hp u⟩
theorem lt (h : IsSec W g b a) : g < W.heap.size := blk_lt h.2
theorem text (h : IsSec W g b a) : (convert 54 9 (.slice (some ⟨g, 0, none⟩) 128 128)).run Try.prog W = .ok (.string (strOfNums b)) W := run_convert_bytes_arg (P := Try.prog) W 54 5 Try.underlying54 Try.underlying5 g 0 128 128 b h.1 (fun i hi => by rw [Nat.zero_add]; exact h.byte i hi) 9 Try.underlying9
end IsSec
def secPut (b : List Int) (a : Nat) (n : Int) (many : Nat) : Nat → List Int
 | 0 => b
 | k + 1 => (secPut b a n many k).set (a + k) (n / 2 ^ (8 * (many - 1 - k)) % 256)
set_option maxHeartbeats 8000000 in
set_option maxRecDepth 100000 in
theorem sec_put (g : Nat) (b : List Int) (a many : Nat) (n : Int) (w0 w : World) (hI : IsSec w g b a) (hB : Below w0.heap.size w0 w) (hg : w0.heap.size ≤ g) (hm : many ≤ 8) (ha : a + many ≤ 128) :
 Calls Try.prog 43 #[.pointer (some ⟨g, 0, none⟩), .int .u64 n, .int .i64 (many : Int)] w fun e w' => e = .returned (.tuple #[]) ∧ IsSec w' g (secPut b a n many many) ((a + many : Nat) : Int) ∧ Below w0.heap.size w0 w' ∧ KeepBut w w' g none := by
 have HI := Aside0.mk hI
 have HB := Aside0.mk hB
 have HK := Aside0.mk (KeepBut.refl w g none)
 clear hI hB
 go_enter Try.func43, Try.ntmps43
 go_wp2
 go_loopg [6, 8] many (fun gq _ v8 wr => ∃ k : Nat, k ≤ many ∧ many - k ≤ gq ∧ v8 = .int .i64 (k : Int) ∧ Aside0 (IsSec wr g (secPut b a n many k) a) ∧ Aside0 (Below w0.heap.size w0 wr) ∧ Aside0 (KeepBut w wr g none))
 case atStart => exact ⟨0, Nat.zero_le _, by omega, rfl, HI, HB, HK⟩
 case round =>
  clear HI HB HK
  obtain ⟨k, hk, hgq, rfl, HI, HB, HK⟩ := hrel
  by_cases hlt : k < many
  · have hltz : (k : Int) < (many : Int) := by omega
    have d1 : decide ((k : Int) < (many : Int)) = true := decide_eq_true hltz
    have hp := HI.out.place
    have hc := HI.out.byte (a + k) (by omega)
    have hf := HI.out.frozen (a + k)
    go_wp2
    go_region
    go_wp2
    go_roundg (many - (k + 1))
    case measure => omega
    case rel => exact ⟨k + 1, by omega, by omega, rfl, ⟨HI.out.drew.put (a + k) (by omega) _⟩, ⟨below_set (below_drew HB.out) hg⟩, ⟨(keep_drew HK.out).set_ _ _⟩⟩
  · obtain rfl : k = many := by omega
    have d1 : decide ((k : Int) < (k : Int)) = false := decide_eq_false (by omega)
    have hp := HI.out.place
    have hf := HI.out.frozen 128
    have hw : wrap64 ((a : Int) + (k : Int)) = ((a + k : Nat) : Int) := by unfold wrap64; omega
    go_wp2
    refine bodyPost_end (results_none rfl _ _ _) rfl ⟨rfl, ?_, below_set HB.out hg, HK.out.set_ _ _⟩
    exact HI.out.go _
theorem sec_put1 (g : Nat) (b : List Int) (a : Nat) (n : Int) (w0 w : World) (hI : IsSec w g b a) (hB : Below w0.heap.size w0 w) (hg : w0.heap.size ≤ g) (ha : a + 1 ≤ 128) :
 Calls Try.prog 43 #[.pointer (some ⟨g, 0, none⟩), .int .u64 n, .int .i64 1] w fun e w' => e = .returned (.tuple #[]) ∧ IsSec w' g (secPut b a n 1 1) ((a + 1 : Nat) : Int) ∧ Below w0.heap.size w0 w' ∧ KeepBut w w' g none := sec_put g b a 1 n w0 w hI hB hg (by omega) ha
theorem sec_put4 (g : Nat) (b : List Int) (a : Nat) (n : Int) (w0 w : World) (hI : IsSec w g b a) (hB : Below w0.heap.size w0 w) (hg : w0.heap.size ≤ g) (ha : a + 4 ≤ 128) :
 Calls Try.prog 43 #[.pointer (some ⟨g, 0, none⟩), .int .u64 n, .int .i64 4] w fun e w' => e = .returned (.tuple #[]) ∧ IsSec w' g (secPut b a n 4 4) ((a + 4 : Nat) : Int) ∧ Below w0.heap.size w0 w' ∧ KeepBut w w' g none := sec_put g b a 4 n w0 w hI hB hg (by omega) ha
theorem sec_put8 (g : Nat) (b : List Int) (a : Nat) (n : Int) (w0 w : World) (hI : IsSec w g b a) (hB : Below w0.heap.size w0 w) (hg : w0.heap.size ≤ g) (ha : a + 8 ≤ 128) :
 Calls Try.prog 43 #[.pointer (some ⟨g, 0, none⟩), .int .u64 n, .int .i64 8] w fun e w' => e = .returned (.tuple #[]) ∧ IsSec w' g (secPut b a n 8 8) ((a + 8 : Nat) : Int) ∧ Below w0.heap.size w0 w' ∧ KeepBut w w' g none := sec_put g b a 8 n w0 w hI hB hg (by omega) ha
def secGet (b : List Int) (a : Nat) : Nat → Int
 | 0 => 0
 | k + 1 => Go.bits .or .u64 (IntKind.u64.wrap (secGet b a k * 256)) (IntKind.u64.wrap (b.getD (a + k) 0))
theorem sec_cut (g a many : Nat) (h1 : 1 ≤ many) (ha : a + many ≤ 128) (W : World) : (Instr.sliceAt 62 (.pointer (some ⟨g, 0, none⟩)) (some (.int .i64 (a : Int))) (some (.int .i64 ((a : Int) + (many : Int)))) none).run Try.prog W = .ok (.slice (some ⟨g, a, none⟩) many (128 - a)) W := by
 have hl : Try.prog.arrayLen 62 = 128 := by kernel_rfl
 have he : Try.prog.elem 62 = 5 := by kernel_rfl
 have hs : (sizeOf 5).run Try.prog W = .ok 1 W := by
  obtain ⟨i, hi, hz⟩ := Option.map_eq_some_iff.1 (show (Try.prog.info? 5).map (·.size) = some 1 by kernel_rfl)
  simp [sizeOf, typeInfo, hi, hz]
 rw [run_sliceAt_array_lh W 62 ⟨g, 0, none⟩ (by rw [hl, he]; exact Try.underlying62) .i64 .i64 _ _ (by omega) (by omega) (by rw [hl]; omega), he, hs]
 have e1 : ((a : Int)).toNat = a := by omega
 have e2 : ((a : Int) + (many : Int)).toNat = a + many := by omega
 show Result.ok (slicedAt _ _ _ _ 1) W = _
 rw [e1, e2, hl]
 unfold slicedAt
 rw [if_neg (by omega), Nat.mul_one, add_plain, Nat.add_sub_cancel_left]
set_option maxHeartbeats 8000000 in
set_option maxRecDepth 100000 in
theorem sec_get (g : Nat) (b : List Int) (a many : Nat) (w0 w : World) (hI : IsSec w g b a) (hB : Below w0.heap.size w0 w) (hg : w0.heap.size ≤ g) (hm : many ≤ 8) (h1 : 1 ≤ many) (ha : a + many ≤ 128) :
 Calls Try.prog 29 #[.pointer (some ⟨g, 0, none⟩), .int .i64 (many : Int)] w fun e w' => e = .returned (.int .u64 (secGet b a many)) ∧ IsSec w' g b ((a + many : Nat) : Int) ∧ Below w0.heap.size w0 w' ∧ KeepBut w w' g none := by
 have HI := Aside0.mk hI
 have HB := Aside0.mk hB
 have HK := Aside0.mk (KeepBut.refl w g none)
 have hp := HI.out.place
 have kcut := sec_cut g a many h1 ha
 clear hI hB
 go_enter Try.func29, Try.ntmps29
 go_wp2
 go_region
 go_wp2
 go_loopg [5, 7, 23] many (fun gq v5 _ v23 wr => ∃ k : Nat, k ≤ many ∧ many - k ≤ gq ∧ v23 = .int .i64 (k : Int) ∧ v5 = .int .u64 (secGet b a k) ∧ Aside0 (IsSec wr g b a) ∧ Aside0 (Below w0.heap.size w0 wr) ∧ Aside0 (KeepBut w wr g none))
 case atStart => exact ⟨0, Nat.zero_le _, by omega, rfl, rfl, ⟨HI.out.drew⟩, ⟨below_drew HB.out⟩, ⟨keep_drew HK.out⟩⟩
 case round =>
  clear HI HB HK hp
  obtain ⟨k, hk, hgq, rfl, rfl, HI, HB, HK⟩ := hrel
  by_cases hlt : k < many
  · have hltz : (k : Int) < (many : Int) := by omega
    have d1 : decide ((k : Int) < (many : Int)) = true := decide_eq_true hltz
    have hc := HI.out.byte (a + k) (by omega)
    go_wp2
    go_roundg (many - (k + 1))
    case measure => omega
    case rel => exact ⟨k + 1, by omega, by omega, rfl, by simp only [secGet, List.getD_eq_getElem?_getD], HI, HB, HK⟩
  · obtain rfl : k = many := by omega
    have d1 : decide ((k : Int) < (k : Int)) = false := decide_eq_false (by omega)
    have hp := HI.out.place
    have hf := HI.out.frozen 128
    have hw : wrap64 ((a : Int) + (k : Int)) = ((a + k : Nat) : Int) := by unfold wrap64; omega
    go_wp2
    go_ret
    refine ⟨rfl, ?_, below_set HB.out hg, HK.out.set_ _ _⟩
    exact HI.out.go _
theorem sec_get1 (g : Nat) (b : List Int) (a : Nat) (w0 w : World) (hI : IsSec w g b a) (hB : Below w0.heap.size w0 w) (hg : w0.heap.size ≤ g) (ha : a + 1 ≤ 128) :
 Calls Try.prog 29 #[.pointer (some ⟨g, 0, none⟩), .int .i64 1] w fun e w' => e = .returned (.int .u64 (secGet b a 1)) ∧ IsSec w' g b ((a + 1 : Nat) : Int) ∧ Below w0.heap.size w0 w' ∧ KeepBut w w' g none := sec_get g b a 1 w0 w hI hB hg (by omega) (by omega) ha
theorem sec_get4 (g : Nat) (b : List Int) (a : Nat) (w0 w : World) (hI : IsSec w g b a) (hB : Below w0.heap.size w0 w) (hg : w0.heap.size ≤ g) (ha : a + 4 ≤ 128) :
 Calls Try.prog 29 #[.pointer (some ⟨g, 0, none⟩), .int .i64 4] w fun e w' => e = .returned (.int .u64 (secGet b a 4)) ∧ IsSec w' g b ((a + 4 : Nat) : Int) ∧ Below w0.heap.size w0 w' ∧ KeepBut w w' g none := sec_get g b a 4 w0 w hI hB hg (by omega) (by omega) ha
theorem sec_get8 (g : Nat) (b : List Int) (a : Nat) (w0 w : World) (hI : IsSec w g b a) (hB : Below w0.heap.size w0 w) (hg : w0.heap.size ≤ g) (ha : a + 8 ≤ 128) :
 Calls Try.prog 29 #[.pointer (some ⟨g, 0, none⟩), .int .i64 8] w fun e w' => e = .returned (.int .u64 (secGet b a 8)) ∧ IsSec w' g b ((a + 8 : Nat) : Int) ∧ Below w0.heap.size w0 w' ∧ KeepBut w w' g none := sec_get g b a 8 w0 w hI hB hg (by omega) (by omega) ha
set_option maxHeartbeats 8000000 in
set_option maxRecDepth 100000 in
theorem sec_sum (k g : Nat) (b : List Int) (a : Int) (r : Int) (w0 w : World) (hI : IsSec w g b a) (hB : Below w0.heap.size w0 w) (hg : w0.heap.size ≤ g) (h : crc_Of.f k (strOfNums (b.take 116)) = some r) :
 Calls Try.prog 30 #[.pointer (some ⟨g, 0, none⟩)] w fun e w' => e = .returned (.int .u64 (IntKind.u64.wrap r)) ∧ IsSec w' g b a ∧ Below w0.heap.size w0 w' ∧ KeepBut w w' g none := by
 have HI := Aside0.mk hI
 have HB := Aside0.mk hB
 have kc := run_convert_bytes_arg (P := Try.prog) w 54 5 Try.underlying54 Try.underlying5 g 0 116 128 (b.take 116) (by rw [List.length_take, hI.1]; rfl) (fun i hi => by rw [Nat.zero_add, hI.byte i (by omega), List.getD_eq_getElem?_getD, List.getD_eq_getElem?_getD, List.getElem?_take_of_lt hi]) 9 Try.underlying9
 clear hI hB
 go_enter Try.func30, Try.ntmps30
 go_wp2_with (go_at_call 45; refine (crc_Of.calls k _ r _ h).mono ?_; rintro e w1 ⟨rfl, hd⟩; replace hd : Below w.heap.size w w1 := (by first | exact hd | exact hd.below))
 go_ret
 exact ⟨rfl, HI.out.below hd, below_step HB.out hd, KeepBut.of_below hd g none⟩
end Go.Proofs.Ytjagplonneednaa.P
