-- kept, by a program of this session, of texts that the printer or this session wrote
import Derived.Test.YtjagplonneednaaZPx1065
import Derived.Test.YtjagplonneednaaZCrcMath
section
set_option linter.unusedVariables false
set_option linter.unusedSimpArgs false
namespace Go.Proofs.Ytjagplonneednaa.Pure
open Go.RowKit Go.Proofs.Ytjagplonneednaa.P Go.Proofs.YtjagplonneednaaW.PrintWords Go.Proofs.YtjagplonneednaaW.PrintLast
def I (x : BitVec 32) : Int := (x.toNat : Int)
theorem I_lo (x : BitVec 32) : 0 ≤ I x := by unfold I; omega
theorem I_hi (x : BitVec 32) : I x < 4294967296 := by unfold I; have := x.isLt; omega
theorem I_xor (x y : BitVec 32) : Go.bits .xor .u32 (I x) (I y) = I (x ^^^ y) := by
  unfold I
  rw [u32_xor_nat _ _ x.isLt y.isLt, BitVec.toNat_xor]
theorem I_not (x : BitVec 32) : Go.bits .xor .u32 4294967295 (I x) = I (~~~ x) := by
  have e : (4294967295 : Int) = I 0xffffffff#32 := by decide
  rw [e, I_xor]
  refine congrArg I ?_
  apply BitVec.eq_of_getLsbD_eq
  intro i hi
  have h : (0xffffffff#32).getLsbD i = true := by
    have : (0xffffffff#32) = BitVec.allOnes 32 := by decide
    rw [this, BitVec.getLsbD_allOnes]
    exact decide_eq_true hi
  rw [BitVec.getLsbD_xor, h]
  simp [hi]
theorem I_half (x : BitVec 32) : I x / (2 : Int) = I (x >>> (1 : Nat)) := by
  unfold I
  rw [BitVec.toNat_ushiftRight, Nat.shiftRight_eq_div_pow]
  omega
theorem I_mod (x : BitVec 32) : I x % (2 : Int) = if x.getLsbD 0 then 1 else 0 := by
  unfold I
  have h : x.getLsbD 0 = x.toNat.testBit 0 := rfl
  rw [h, Nat.testBit_zero]
  by_cases e : x.toNat % 2 = 1
  · simp [e]; omega
  · simp [e]; omega
theorem I_and1 (x : BitVec 32) : Go.bits .and .u32 (I x) 1 = if x.getLsbD 0 then 1 else 0 := by
  rw [← I_mod]
  unfold I
  have := u32_and_nat x.toNat 1 x.isLt (by omega)
  rw [show ((1 : Nat) : Int) = 1 from rfl] at this
  rw [this, Nat.and_one_is_mod]
  omega
theorem half_f (x : BitVec 32) : crc_half.f (I x) = some (I (CrcMath.half x)) := by
  unfold crc_half.f CrcMath.half
  rw [I_and1, I_half]
  cases x.getLsbD 0
  · have : Go.bits .and .u32 2197175160 (-(if (false : Bool) = true then (1 : Int) else 0) % 4294967296) = I 0#32 := by decide
    rw [this, I_xor]
    simp
  · have : Go.bits .and .u32 2197175160 (-(if (true : Bool) = true then (1 : Int) else 0) % 4294967296) = I CrcMath.poly := by decide
    rw [this, I_xor]
    simp
def B (s : ByteArray) : List UInt8 := s.data.toList
theorem B_len (s : ByteArray) : (B s).length = s.size := by unfold B; rw [Array.length_toList]; rfl
theorem B_inj {s t : ByteArray} (h : B s = B t) : s = t := by
  unfold B at h
  exact ByteArray.ext (Array.toList_inj.mp h)
theorem toList_B (s : ByteArray) : s.toList = B s := ByteArray.toList_eq s
theorem B_app (s t : ByteArray) : B (s ++ t) = B s ++ B t := by unfold B; rw [ByteArray.data_append, Array.toList_append]
theorem B_extract (s : ByteArray) (a b : Nat) : B (s.extract a b) = ((B s).take b).drop a := by
  unfold B
  rw [ByteArray.data_extract, Array.toList_extract]
  simp [List.extract, List.drop_take]
theorem bt_B (s : ByteArray) (i : Nat) (h : i < s.size) : bt s (i : Int) = (((B s)[i]'(by rw [B_len]; exact h)).toNat : Int) := by
  unfold bt B
  have h' : (i : Int).toNat < s.size := by omega
  rw [dif_pos h']
  simp only [Int.toNat_natCast]
  rfl
theorem I_byte (x : BitVec 32) (s : ByteArray) (i : Nat) (h : i < s.size) : Go.bits .xor .u32 (I x) (bt s (i : Int) % 4294967296) = I (x ^^^ BitVec.ofNat 32 ((B s)[i]'(by rw [B_len]; exact h)).toNat) := by
  rw [bt_B s i h]
  have hb := ((B s)[i]'(by rw [B_len]; exact h)).toNat_lt
  have : ((((B s)[i]'(by rw [B_len]; exact h)).toNat : Int) % 4294967296) = I (BitVec.ofNat 32 ((B s)[i]'(by rw [B_len]; exact h)).toNat) := by
    unfold I
    rw [BitVec.toNat_ofNat]
    omega
  rw [this, I_xor]
theorem wrap_up (i : Nat) (h : i < 9223372036854775807) : wrap64 ((i : Int) + 1) = ((i + 1 : Nat) : Int) := by
  unfold wrap64
  omega
theorem On_l1 (s : ByteArray) (n i : Int) (r : Int) (d : Nat) : ∀ (x : BitVec 32) (j : Nat), j + d = 8 → Ev (fun k => crc_On.l0 k s (I (CrcMath.halves d x)) n (wrap64 (i + 1))) r → Ev (fun k => crc_On.l1 k s (I x) n i j) r := by
  induction d with
  | zero => intro x j hj h; exact Ev.step (fun k => by simp only [crc_On.l1]; rw [if_neg (by omega)]; rfl) h
  | succ d ih =>
    intro x j hj h
    refine Ev.step (fun k => ?_) (ih (CrcMath.half x) (j + 1) (by omega) h)
    simp only [crc_On.l1]
    rw [if_pos (by omega), half_f]
    simp only [Option.bind_some]
    rw [wrap_up j (by omega)]
theorem On_l0 (s : ByteArray) (hs : s.size ≤ 9223372036854775806) (d : Nat) : ∀ (x : BitVec 32) (i : Nat), i + d = s.size → Ev (fun k => crc_On.l0 k s (I x) (s.size : Int) i) (I (~~~ CrcMath.run x ((B s).drop i))) := by
  induction d with
  | zero =>
    intro x i hi
    refine Ev.step (fun k => ?_) (Ev.now _)
    simp only [crc_On.l0]
    rw [if_neg (by omega), I_not, List.drop_eq_nil_of_le (by rw [B_len]; omega)]
    rfl
  | succ d ih =>
    intro x i hi
    have hl : i < s.size := by omega
    have e : (B s).drop i = ((B s)[i]'(by rw [B_len]; exact hl)) :: (B s).drop (i + 1) := List.drop_eq_getElem_cons (by rw [B_len]; exact hl)
    refine Ev.step (fun k => ?_) (On_l1 s (s.size : Int) (i : Int) _ 8 (x ^^^ BitVec.ofNat 32 ((B s)[i]'(by rw [B_len]; exact hl)).toNat) 0 (by omega) ?_)
    · simp only [crc_On.l0]
      rw [if_pos (by omega), if_pos (by omega), if_pos (by omega), I_byte x s i hl]
      rfl
    · rw [wrap_up i (by omega), e]
      exact ih _ (i + 1) (by omega)
theorem On_ev (x : BitVec 32) (s : ByteArray) (hs : s.size ≤ 9223372036854775806) : Ev (fun k => crc_On.f k (I x) s) (I (CrcMath.on x (B s))) := by
  unfold crc_On.f CrcMath.on
  rw [I_not]
  have := On_l0 s hs s.size (~~~ x) 0 (by omega)
  rw [List.drop_zero] at this
  exact this
theorem Of_ev (s : ByteArray) (hs : s.size ≤ 9223372036854775806) : Ev (fun k => crc_Of.f k s) (I (CrcMath.of (B s))) := by
  unfold crc_Of.f
  have e : (0 : Int) = I 0#32 := by decide
  rw [e]
  exact Ev.bind (On_ev _ s hs) (Ev.now _)
end Go.Proofs.Ytjagplonneednaa.Pure
end
section
set_option linter.unusedVariables false
set_option linter.unusedSimpArgs false
namespace Go.Proofs.Ytjagplonneednaa.Pure
open Go.RowKit Go.Proofs.Ytjagplonneednaa.P Go.Proofs.YtjagplonneednaaW.PrintWords Go.Proofs.YtjagplonneednaaW.PrintLast
def be (l : List UInt8) : Int := l.foldl (fun n b => 256 * n + (b.toNat : Int)) 0
theorem u8_of (n : Int) (h0 : 0 ≤ n) (h1 : n < 256) : ((UInt8.ofNat n.toNat).toNat : Int) = n := by
  rw [UInt8.toNat_ofNat']
  omega
theorem be_snoc (l : List UInt8) (b : UInt8) : be (l ++ [b]) = 256 * be l + b.toNat := by simp [be, List.foldl_append]
theorem be_lt (l : List UInt8) : 0 ≤ be l ∧ be l < 256 ^ l.length := by
  induction h : l.length generalizing l with
  | zero => obtain rfl := List.eq_nil_of_length_eq_zero h; simp [be]
  | succ n ih =>
    have hne : l ≠ [] := by intro e; rw [e] at h; simp at h
    obtain ⟨m, b, rfl⟩ : ∃ m b, l = m ++ [b] := ⟨l.dropLast, l.getLast hne, (List.dropLast_concat_getLast hne).symm⟩
    rw [be_snoc]
    have := ih m (by simpa using h)
    have := b.toNat_lt
    rw [Int.pow_succ]
    omega
end Go.Proofs.Ytjagplonneednaa.Pure
end
