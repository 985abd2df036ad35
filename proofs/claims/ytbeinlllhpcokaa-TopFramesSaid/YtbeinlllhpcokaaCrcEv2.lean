/- What reading, writing, sealing and opening of sums come to, and products and powers. -/
import Derived.Test.YtbeinlllhpcokaaPx19
import Derived.Test.YtbeinlllhpcokaaPx6
import Derived.Test.YtbeinlllhpcokaaCrcEv
set_option linter.unusedVariables false
set_option linter.unusedSimpArgs false
namespace Go.Proofs.Ytbeinlllhpcokaa.Pure
open Go.RowKit Go.Proofs.Ytbeinlllhpcokaa.P Go.Proofs.YtbeinlllhpcokaaW.PrintWords Go.Proofs.YtbeinlllhpcokaaW.PrintLast

/-! ### a sum's four bytes -/
def be (l : List UInt8) : Int := l.foldl (fun n b => 256 * n + (b.toNat : Int)) 0
theorem be4 (a b c d : UInt8) : be [a, b, c, d] = 256 * (256 * (256 * (a.toNat : Int) + b.toNat) + c.toNat) + d.toNat := by
  simp [be]
def text4 (x : Int) : ByteArray := strOfNums [x / 16777216 % 256, x / 65536 % 256, x / 256 % 256, x % 256]
theorem Text_f (x : Int) : crc_Text.f x = some (text4 x) := rfl
theorem u8_of (n : Int) (h0 : 0 ≤ n) (h1 : n < 256) : ((UInt8.ofNat n.toNat).toNat : Int) = n := by
  rw [UInt8.toNat_ofNat']
  omega
theorem text4_size (x : Int) : (text4 x).size = 4 := strOfNums_size _
theorem B_text4 (x : Int) : B (text4 x) = [UInt8.ofNat (x / 16777216 % 256).toNat, UInt8.ofNat (x / 65536 % 256).toNat, UInt8.ofNat (x / 256 % 256).toNat, UInt8.ofNat (x % 256).toNat] := rfl
theorem be_text4 (x : Int) (h0 : 0 ≤ x) (h1 : x < 4294967296) : be (B (text4 x)) = x := by
  rw [B_text4, be4, u8_of _ (by omega) (by omega), u8_of _ (by omega) (by omega), u8_of _ (by omega) (by omega), u8_of _ (by omega) (by omega)]
  omega
theorem len4 {l : List UInt8} (h : l.length = 4) : ∃ a b c d, l = [a, b, c, d] := by
  match l, h with
  | [a, b, c, d], _ => exact ⟨a, b, c, d, rfl⟩
theorem be_range {l : List UInt8} (h : l.length = 4) : 0 ≤ be l ∧ be l < 4294967296 := by
  obtain ⟨a, b, c, d, rfl⟩ := len4 h
  rw [be4]
  have := a.toNat_lt; have := b.toNat_lt; have := c.toNat_lt; have := d.toNat_lt
  omega
theorem be_inj {l m : List UInt8} (hl : l.length = 4) (hm : m.length = 4) (h : be l = be m) : l = m := by
  obtain ⟨a, b, c, d, rfl⟩ := len4 hl
  obtain ⟨a', b', c', d', rfl⟩ := len4 hm
  rw [be4, be4] at h
  have := a.toNat_lt; have := b.toNat_lt; have := c.toNat_lt; have := d.toNat_lt
  have := a'.toNat_lt; have := b'.toNat_lt; have := c'.toNat_lt; have := d'.toNat_lt
  have e1 : a.toNat = a'.toNat := by omega
  have e2 : b.toNat = b'.toNat := by omega
  have e3 : c.toNat = c'.toNat := by omega
  have e4 : d.toNat = d'.toNat := by omega
  rw [UInt8.toNat_inj.mp e1, UInt8.toNat_inj.mp e2, UInt8.toNat_inj.mp e3, UInt8.toNat_inj.mp e4]
theorem text4_be {s : ByteArray} (h : s.size = 4) : text4 (be (B s)) = s := by
  have hl : (B s).length = 4 := by rw [B_len]; exact h
  have hr := be_range hl
  exact B_inj (be_inj (by rw [B_len]; exact text4_size _) hl (be_text4 _ hr.1 hr.2))
theorem or_byte (n b : Int) (h0 : 0 ≤ n) (h1 : n < 16777216) (g0 : 0 ≤ b) (g1 : b < 256) : Go.bits .or .u32 ((n * 256) % 4294967296) (b % 4294967296) = 256 * n + b := by
  obtain ⟨N, rfl⟩ : ∃ N : Nat, n = N := ⟨n.toNat, by omega⟩
  obtain ⟨C, rfl⟩ : ∃ C : Nat, b = C := ⟨b.toNat, by omega⟩
  have e1 : ((N : Int) * (256 : Int)) % (4294967296 : Int) = ((N <<< 8 : Nat) : Int) := by rw [Nat.shiftLeft_eq]; omega
  have e2 : ((C : Int) % (4294967296 : Int)) = (C : Int) := by omega
  have l1 : N <<< 8 < 4294967296 := by rw [Nat.shiftLeft_eq]; omega
  rw [e1, e2, u32_or_nat _ _ l1 (by omega), ← Nat.shiftLeft_add_eq_or_of_lt (by omega), Nat.shiftLeft_eq]
  omega
theorem be_snoc (l : List UInt8) (b : UInt8) : be (l ++ [b]) = 256 * be l + b.toNat := by simp [be, List.foldl_append]
theorem be_lt (l : List UInt8) : 0 ≤ be l ∧ be l < 256 ^ l.length := by
  induction h : l.length generalizing l with
  | zero => obtain rfl := List.eq_nil_of_length_eq_zero h; simp [be]
  | succ n ih =>
    have hne : l ≠ [] := by intro e; rw [e] at h; simp at h
    obtain ⟨m, b, rfl⟩ : ∃ m b, l = m ++ [b] := ⟨l.dropLast, l.getLast hne, (List.dropLast_concat_getLast hne).symm⟩
    rw [be_snoc]
    have := ih m (by simpa using h)
    have := b.toNat_lt
    rw [Int.pow_succ]
    omega
theorem be_take (s : ByteArray) (i : Nat) (h : i < s.size) : be ((B s).take (i + 1)) = 256 * be ((B s).take i) + bt s (i : Int) := by
  rw [List.take_succ_eq_append_getElem (by rw [B_len]; exact h), be_snoc, bt_B s i h]
theorem be_take_lt (s : ByteArray) (i : Nat) (h : i ≤ 3) : 0 ≤ be ((B s).take i) ∧ be ((B s).take i) < 16777216 := by
  have := be_lt ((B s).take i)
  have hl : ((B s).take i).length ≤ 3 := by rw [List.length_take]; omega
  have hp : (256 : Nat) ^ ((B s).take i).length ≤ 256 ^ 3 := Nat.pow_le_pow_right (by omega) hl
  have hq : ((256 ^ ((B s).take i).length : Nat) : Int) = (256 : Int) ^ ((B s).take i).length := by rw [Int.natCast_pow]; rfl
  omega
theorem Read_l0 (s : ByteArray) (hs : 4 ≤ s.size) (d : Nat) : ∀ i : Nat, i + d = 4 → Ev (fun k => crc_Read.l0 k s (be ((B s).take i)) i) (be ((B s).take 4), s.extract 4 s.size, 0) := by
  induction d with
  | zero =>
    intro i hi
    obtain rfl : i = 4 := by omega
    refine Ev.step (fun k => ?_) (Ev.now _)
    simp only [crc_Read.l0]
    rw [if_neg (by omega), if_pos (by omega)]
  | succ d ih =>
    intro i hi
    refine Ev.step (fun k => ?_) (ih (i + 1) (by omega))
    simp only [crc_Read.l0]
    have hb := bt_range s i
    have hn := be_take_lt s i (by omega)
    rw [if_pos (by omega), if_pos (by omega), if_pos (by omega), or_byte _ _ hn.1 hn.2 hb.1 (by omega), be_take s i (by omega), wrap_up i (by omega)]
theorem Read_ev (s : ByteArray) : Ev (fun k => crc_Read.f k s) (if s.size < 4 then (0, ⟨#[]⟩, 5) else (be ((B s).take 4), s.extract 4 s.size, 0)) := by
  unfold crc_Read.f
  by_cases h : s.size < 4
  · have h' : (s.size : Int) < 4 := by omega
    simp only [if_pos h, if_pos h']
    exact Ev.now _
  · have h' : ¬ (s.size : Int) < 4 := by omega
    simp only [if_neg h, if_neg h']
    exact Read_l0 s (by omega) 4 0 (by omega)

end Go.Proofs.Ytbeinlllhpcokaa.Pure
