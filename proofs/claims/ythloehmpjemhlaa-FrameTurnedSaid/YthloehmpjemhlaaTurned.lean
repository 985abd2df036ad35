/- A text in which one byte is another one: its bytes, and that its sum is another one. -/
import Derived.Test.YthloehmpjemhlaaCrcEv2
import Derived.Test.YthloehmpjemhlaaTools
set_option linter.unusedVariables false
set_option linter.unusedSimpArgs false
namespace Go.Proofs.Ythloehmpjemhlaa.Pure
open Go.RowKit Go.Proofs.Ythloehmpjemhlaa.P Go.Proofs.YthloehmpjemhlaaW.PrintWords Go.Proofs.YthloehmpjemhlaaW.PrintLast
theorem turned_size (s : ByteArray) (i : Nat) (b : Int) : (Tools.turned s i b).size = s.size := by
  unfold Tools.turned
  rw [strOfNums_size, List.length_set, Tools.nums8_len]
theorem nums8_back (l : List UInt8) : (l.map fun b => (b.toNat : Int)).map (fun n : Int => UInt8.ofNat n.toNat) = l := by
  rw [List.map_map]
  conv => rhs; rw [← List.map_id l]
  apply List.map_congr_left
  intro b _
  simp
/-- its bytes: what was, but for one. -/
theorem B_turned (s : ByteArray) (i : Nat) (b : Int) : B (Tools.turned s i b) = (B s).set i (UInt8.ofNat (Go.bits .xor .u8 (bt s (i : Int)) b).toNat) := by
  unfold Tools.turned B
  rw [strOfNums_data, List.map_set]
  unfold Tools.nums8
  rw [nums8_back]
theorem xor_u8_ne (x b : Int) (h0 : 0 ≤ x) (h1 : x < 256) (g0 : 0 < b) (g1 : b < 256) : 0 ≤ Go.bits .xor .u8 x b ∧ Go.bits .xor .u8 x b < 256 ∧ Go.bits .xor .u8 x b ≠ x := by
  rw [u8_xor x b h0 h1 (by omega) g1]
  have hx : x.toNat ^^^ b.toNat < 2 ^ 8 := Nat.xor_lt_two_pow (by omega) (by omega)
  refine ⟨by omega, by omega, fun e => ?_⟩
  have e' : x.toNat ^^^ b.toNat = x.toNat := by omega
  have : x.toNat ^^^ (x.toNat ^^^ b.toNat) = x.toNat ^^^ x.toNat := by rw [e']
  rw [← Nat.xor_assoc, Nat.xor_self, Nat.zero_xor] at this
  omega
/-- the byte that was there is another one now. -/
theorem turned_ne (s : ByteArray) (i : Nat) (b : Int) (hi : i < s.size) (g0 : 0 < b) (g1 : b < 256) : ∃ l x y m, B s = l ++ x :: m ∧ B (Tools.turned s i b) = l ++ y :: m ∧ x ≠ y ∧ l.length = i := by
  have hl : i < (B s).length := by rw [B_len]; exact hi
  have hb := bt_range s (i : Int)
  obtain ⟨c0, c1, c2⟩ := xor_u8_ne (bt s (i : Int)) b hb.1 (by omega) g0 g1
  refine ⟨(B s).take i, (B s)[i], UInt8.ofNat (Go.bits .xor .u8 (bt s (i : Int)) b).toNat, (B s).drop (i + 1), ?_, ?_, ?_, by rw [List.length_take]; omega⟩
  · rw [← List.drop_eq_getElem_cons hl, List.take_append_drop]
  · rw [B_turned, List.set_eq_take_append_cons_drop, if_pos hl]
  · intro e
    have := congrArg (fun z : UInt8 => (z.toNat : Int)) e
    rw [u8_of _ c0 c1, ← bt_B s i hi] at this
    exact c2 this.symm
theorem of_turned_ne (s : ByteArray) (i : Nat) (b : Int) (hi : i < s.size) (g0 : 0 < b) (g1 : b < 256) : CrcMath.of (B (Tools.turned s i b)) ≠ CrcMath.of (B s) := by
  obtain ⟨l, x, y, m, e1, e2, hne, _⟩ := turned_ne s i b hi g0 g1
  rw [e1, e2]
  exact CrcMath.of_turned l m y x (fun z => hne z.symm)
end Go.Proofs.Ythloehmpjemhlaa.Pure
