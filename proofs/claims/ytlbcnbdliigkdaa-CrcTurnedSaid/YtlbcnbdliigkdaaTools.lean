/- Small lemmas on memory for functions that are walked by hand. -/
import Derived.Test.YtlbcnbdliigkdaaWWords
import Derived.Lib.ConvBytes
set_option linter.unusedVariables false
set_option linter.unusedSimpArgs false
namespace Go.Proofs.Ytlbcnbdliigkdaa.Tools
open Go.RowKit Go.Proofs.YtlbcnbdliigkdaaW.PrintWords
/-- '[]byte(s)': a row of the string's bytes, that may be written. -/
theorem str_bytes {P : Program} (w : World) (src dst e : TypeId) (s : ByteArray) (hs : P.underlying src = some .string) (hd : P.underlying dst = some (.slice e)) (he : P.underlying e = some (.int .u8)) :
    ∃ cap W2, (convert src dst (.string s)).run P w = .ok (.slice (some ⟨w.heap.size, 0, none⟩) s.size cap) W2 ∧
      (∀ j, j < s.size → W2.cell? ⟨w.heap.size, j, none⟩ = some (.int .u8 (bt s (j : Int)))) ∧ (∀ j, j < s.size → W2.frozen? ⟨w.heap.size, j, none⟩ = false) ∧
      Below w.heap.size w W2 ∧ W2.heap.size = w.heap.size + 1 := by
  refine ⟨_, _, Lib.run_convert_string_bytes w src dst e s hs hd he, ?_, ?_, ?_, Lib.bytesWorld_size w e s⟩
  · intro j hj
    rw [Lib.bytesWorld_cell w e s j hj]
    unfold bt
    have h : (j : Int).toNat < s.size := by omega
    rw [dif_pos h]
    simp only [Int.toNat_natCast]
    have hl : j < s.data.toList.length := by rw [Array.length_toList]; exact hj
    rw [List.getD_eq_getElem?_getD, List.getElem?_eq_getElem hl]
    rfl
  · intro j hj
    unfold World.frozen?
    simp only [Lib.bytesWorld_at_new]
    have : (Lib.bytesCells w e s).size ≥ s.size := by
      unfold Lib.bytesCells
      rw [Array.size_append, Array.size_map]
      exact Nat.le_add_right _ _
    have h : ¬ (Lib.bytesCells w e s).size ≤ j := by omega
    simp [h]
  · refine ⟨?_, ?_, ?_, ?_, fun i hi => Lib.bytesWorld_at_old w e s i hi⟩
    · simp [Lib.bytesWorld, World.freeze, World.alloc, World.drew, -World.alloc_eq, -World.drew_eq]
    · simp [Lib.bytesWorld, World.freeze, World.alloc, World.drew, -World.alloc_eq, -World.drew_eq]
    · simp [Lib.bytesWorld, World.freeze, World.alloc, World.drew, -World.alloc_eq, -World.drew_eq]
    · rw [Lib.bytesWorld_size]; omega
/-- a string's bytes, as numbers. -/
def nums8 (s : ByteArray) : List Int := s.data.toList.map fun b => (b.toNat : Int)
theorem nums8_len (s : ByteArray) : (nums8 s).length = s.size := by unfold nums8; rw [List.length_map, Array.length_toList]; rfl
theorem nums8_at (s : ByteArray) (j : Nat) (hj : j < s.size) : (nums8 s).getD j 0 = bt s (j : Int) := by
  unfold nums8 bt
  have h : (j : Int).toNat < s.size := by omega
  rw [dif_pos h]
  simp only [Int.toNat_natCast]
  have hl : j < s.data.toList.length := by rw [Array.length_toList]; exact hj
  rw [List.getD_eq_getElem?_getD, List.getElem?_map, List.getElem?_eq_getElem hl]
  rfl
/-- '[]byte(s)' with one byte stored, and back. -/
theorem bytes_back {P : Program} {w W2 : World} (src dst e : TypeId) (s : ByteArray) (cap i : Nat) (v : Int) (hs : P.underlying src = some (.slice e)) (he : P.underlying e = some (.int .u8)) (hd : P.underlying dst = some .string)
    (hi : i < s.size) (hc : ∀ j, j < s.size → W2.cell? ⟨w.heap.size, j, none⟩ = some (.int .u8 (bt s (j : Int)))) :
    (convert src dst (.slice (some ⟨w.heap.size, 0, none⟩) s.size cap)).run P (W2.setCell ⟨w.heap.size, i, none⟩ (.int .u8 v)) = .ok (.string (strOfNums ((nums8 s).set i v))) (W2.setCell ⟨w.heap.size, i, none⟩ (.int .u8 v)) := by
  refine run_convert_bytes_arg _ src e hs he w.heap.size 0 s.size cap _ (by rw [List.length_set, nums8_len]) (fun j hj => ?_) dst hd
  rw [Nat.zero_add]
  by_cases h : i = j
  · subst h
    rw [World.cell?_setCell_same _ _ _ (hc i hi)]
    rw [List.getD_eq_getElem?_getD, List.getElem?_set_self (by rw [nums8_len]; exact hi)]
    rfl
  · have hne : (⟨w.heap.size, i, none⟩ : Addr) ≠ ⟨w.heap.size, j, none⟩ := by intro z; injection z with z1 z2; exact h z2
    rw [World.cell?_setCell_other _ _ _ _ hne, hc j hj]
    rw [List.getD_eq_getElem?_getD, List.getElem?_set_ne h, ← List.getD_eq_getElem?_getD, nums8_at s j hj]
/-- the text with one byte turned. -/
def turned (s : ByteArray) (at_ : Nat) (by_ : Int) : ByteArray := strOfNums ((nums8 s).set at_ (Go.bits .xor .u8 (bt s (at_ : Int)) by_))
end Go.Proofs.Ytlbcnbdliigkdaa.Tools
