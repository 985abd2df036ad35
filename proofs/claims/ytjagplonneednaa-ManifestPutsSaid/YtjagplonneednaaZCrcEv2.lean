/- What reading, writing, sealing and opening of sums come to, and products and powers. -/
import Derived.Test.YtjagplonneednaaZCrcEv
set_option linter.unusedVariables false
set_option linter.unusedSimpArgs false
namespace Go.Proofs.Ytjagplonneednaa.Pure
open Go.RowKit Go.Proofs.Ytjagplonneednaa.P Go.Proofs.YtjagplonneednaaW.PrintWords Go.Proofs.YtjagplonneednaaW.PrintLast
def be (l : List UInt8) : Int := l.foldl (fun n b => 256 * n + (b.toNat : Int)) 0
theorem be4 (a b c d : UInt8) : be [a, b, c, d] = 256 * (256 * (256 * (a.toNat : Int) + b.toNat) + c.toNat) + d.toNat := by
  simp [be]
def text4 (x : Int) : ByteArray := strOfNums [x / 16777216 % 256, x / 65536 % 256, x / 256 % 256, x % 256]
theorem u8_of (n : Int) (h0 : 0 ≤ n) (h1 : n < 256) : ((UInt8.ofNat n.toNat).toNat : Int) = n := by
  rw [UInt8.toNat_ofNat']
  omega
theorem text4_size (x : Int) : (text4 x).size = 4 := strOfNums_size _
theorem B_text4 (x : Int) : B (text4 x) = [UInt8.ofNat (x / 16777216 % 256).toNat, UInt8.ofNat (x / 65536 % 256).toNat, UInt8.ofNat (x / 256 % 256).toNat, UInt8.ofNat (x % 256).toNat] := rfl
theorem be_text4 (x : Int) (h0 : 0 ≤ x) (h1 : x < 4294967296) : be (B (text4 x)) = x := by
  rw [B_text4, be4, u8_of _ (by omega) (by omega), u8_of _ (by omega) (by omega), u8_of _ (by omega) (by omega), u8_of _ (by omega) (by omega)]
  omega
theorem len4 {l : List UInt8} (h : l.length = 4) : ∃ a b c d, l = [a, b, c, d] := by
  match l, h with
  | [a, b, c, d], _ => exact ⟨a, b, c, d, rfl⟩
theorem be_range {l : List UInt8} (h : l.length = 4) : 0 ≤ be l ∧ be l < 4294967296 := by
  obtain ⟨a, b, c, d, rfl⟩ := len4 h
  rw [be4]
  have := a.toNat_lt; have := b.toNat_lt; have := c.toNat_lt; have := d.toNat_lt
  omega
theorem be_inj {l m : List UInt8} (hl : l.length = 4) (hm : m.length = 4) (h : be l = be m) : l = m := by
  obtain ⟨a, b, c, d, rfl⟩ := len4 hl
  obtain ⟨a', b', c', d', rfl⟩ := len4 hm
  rw [be4, be4] at h
  have := a.toNat_lt; have := b.toNat_lt; have := c.toNat_lt; have := d.toNat_lt
  have := a'.toNat_lt; have := b'.toNat_lt; have := c'.toNat_lt; have := d'.toNat_lt
  have e1 : a.toNat = a'.toNat := by omega
  have e2 : b.toNat = b'.toNat := by omega
  have e3 : c.toNat = c'.toNat := by omega
  have e4 : d.toNat = d'.toNat := by omega
  rw [UInt8.toNat_inj.mp e1, UInt8.toNat_inj.mp e2, UInt8.toNat_inj.mp e3, UInt8.toNat_inj.mp e4]
theorem text4_be {s : ByteArray} (h : s.size = 4) : text4 (be (B s)) = s := by
  have hl : (B s).length = 4 := by rw [B_len]; exact h
  have hr := be_range hl
  exact B_inj (be_inj (by rw [B_len]; exact text4_size _) hl (be_text4 _ hr.1 hr.2))
theorem be_snoc (l : List UInt8) (b : UInt8) : be (l ++ [b]) = 256 * be l + b.toNat := by simp [be, List.foldl_append]
theorem be_lt (l : List UInt8) : 0 ≤ be l ∧ be l < 256 ^ l.length := by
  induction h : l.length generalizing l with
  | zero => obtain rfl := List.eq_nil_of_length_eq_zero h; simp [be]
  | succ n ih =>
    have hne : l ≠ [] := by intro e; rw [e] at h; simp at h
    obtain ⟨m, b, rfl⟩ : ∃ m b, l = m ++ [b] := ⟨l.dropLast, l.getLast hne, (List.dropLast_concat_getLast hne).symm⟩
    rw [be_snoc]
    have := ih m (by simpa using h)
    have := b.toNat_lt
    rw [Int.pow_succ]
    omega
theorem be_take (s : ByteArray) (i : Nat) (h : i < s.size) : be ((B s).take (i + 1)) = 256 * be ((B s).take i) + bt s (i : Int) := by
  rw [List.take_succ_eq_append_getElem (by rw [B_len]; exact h), be_snoc, bt_B s i h]
end Go.Proofs.Ytjagplonneednaa.Pure
