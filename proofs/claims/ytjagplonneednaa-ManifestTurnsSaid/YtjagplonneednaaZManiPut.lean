/- A right manifest's sector: the program and the document write one. -/
import Derived.Test.YtjagplonneednaaZPx30013
import Derived.Test.YtjagplonneednaaZPx0
import Derived.Test.YtjagplonneednaaZCrcMath
import Derived.Test.YtjagplonneednaaZManiCheck
import Derived.Test.YtjagplonneednaaZCrcEv2
set_option linter.unusedVariables false
set_option linter.unusedSimpArgs false
namespace Go.Proofs.Ytjagplonneednaa.Pure
open Go.RowKit Go.Proofs.Ytjagplonneednaa.P Go.Proofs.YtjagplonneednaaW.PrintWords Go.Proofs.YtjagplonneednaaW.PrintLast Go.Proofs.YtjagplonneednaaW.PrintMore
def partB (p : S56) : List Int := beN 1 p.f0 ++ beN 8 p.f1 ++ beN 4 (p.f2 + 1)
def bodyB (e : Int) (l : List S56) : List Int := beN 8 e ++ beN 1 (l.length : Int) ++ l.flatMap partB ++ List.replicate (107 - 13 * l.length) 0
def crcB (b : List Int) : Int := I (CrcMath.of (u8l b))
def sectorB (e : Int) (l : List S56) : List Int := bodyB e l ++ beN 4 (crcB (bodyB e l)) ++ beN 8 e
def sectorS (e : Int) (l : List S56) : ByteArray := strOfNums (sectorB e l)
theorem partB_len (p : S56) : (partB p).length = 13 := by unfold partB; rw [List.length_append, List.length_append, beN_len, beN_len, beN_len]
theorem flat_len (l : List S56) : (l.flatMap partB).length = 13 * l.length := by
  induction l with
  | nil => rfl
  | cons p l ih => rw [List.flatMap_cons, List.length_append, ih, partB_len, List.length_cons]; omega
theorem bodyB_len (e : Int) (l : List S56) (hl : l.length ≤ 8) : (bodyB e l).length = 116 := by
  unfold bodyB
  rw [List.length_append, List.length_append, List.length_append, beN_len, beN_len, flat_len, List.length_replicate]
  omega
theorem sectorB_len (e : Int) (l : List S56) (hl : l.length ≤ 8) : (sectorB e l).length = 128 := by
  unfold sectorB
  rw [List.length_append, List.length_append, bodyB_len e l hl, beN_len, beN_len]
theorem sectorS_size (e : Int) (l : List S56) (hl : l.length ≤ 8) : (sectorS e l).size = 128 := by
  unfold sectorS
  rw [strOfNums_size]
  exact sectorB_len e l hl
def Fit (p : S56) : Prop := 0 ≤ p.f0 ∧ p.f0 < 9223372036854775808 ∧ -1 ≤ p.f2 ∧ p.f2 < 4294967295
theorem fit_of {l : List S56} (h : AllOk l 0) : ∀ p ∈ l, Fit p := by
  intro p hp
  obtain ⟨i, hi, rfl⟩ := List.getElem_of_mem hp
  have o := h i (Nat.zero_le _) hi
  rw [← pa_at l i hi]
  exact ⟨o.s0, by have := o.s1; omega, o.m0, by have := o.m1; omega⟩
theorem part_wide (p : S56) (h : Fit p) : beN 1 (IntKind.u64.wrap p.f0) ++ beN 8 p.f1 ++ beN 4 (IntKind.u64.wrap (wrap64 (p.f2 + 1))) = partB p := by
  obtain ⟨a, b, c, d⟩ := h
  have e1 : IntKind.u64.wrap p.f0 = p.f0 := by rw [IntKind.wrap_u64]; omega
  have e2 : wrap64 (p.f2 + 1) = p.f2 + 1 := by unfold wrap64; omega
  have e3 : IntKind.u64.wrap (p.f2 + 1) = p.f2 + 1 := by rw [IntKind.wrap_u64]; omega
  rw [e1, e2, e3]
  rfl
theorem writtenL_eq (l : List S56) (hf : ∀ p ∈ l, Fit p) : ∀ (b : List Int) (a : Nat), a + 13 * l.length ≤ b.length → writtenL b a l = b.take a ++ l.flatMap partB ++ b.drop (a + 13 * l.length) := by
  induction l with
  | nil => intro b a _; show b = b.take a ++ [] ++ b.drop (a + 0); rw [List.append_nil, Nat.add_zero, List.take_append_drop]
  | cons p l ih =>
    intro b a ha
    rw [List.length_cons] at ha
    show writtenL (secPut (secPut (secPut b a (IntKind.u64.wrap p.f0) 1 1) (a + 1) p.f1 8 8) (a + 9) (IntKind.u64.wrap (wrap64 (p.f2 + 1))) 4 4) (a + 13) l = _
    have l0 : (b.take a).length = a := by rw [List.length_take]; omega
    rw [secPut_eq b a _ 1 (by omega)]
    have e1 : (b.take a ++ beN 1 (IntKind.u64.wrap p.f0) ++ b.drop (a + 1)).length = b.length := by simp [beN_len]; omega
    rw [secPut_eq _ (a + 1) _ 8 (by omega)]
    have t1 : (b.take a ++ beN 1 (IntKind.u64.wrap p.f0) ++ b.drop (a + 1)).take (a + 1) = b.take a ++ beN 1 (IntKind.u64.wrap p.f0) := by
      rw [List.take_append_of_le_length (by rw [List.length_append, l0, beN_len]; exact Nat.le_refl _), List.take_of_length_le (by rw [List.length_append, l0, beN_len]; exact Nat.le_refl _)]
    have d1 : (b.take a ++ beN 1 (IntKind.u64.wrap p.f0) ++ b.drop (a + 1)).drop (a + 1 + 8) = b.drop (a + 9) := by
      rw [List.drop_append, List.drop_eq_nil_of_le (by rw [List.length_append, l0, beN_len]; omega), List.nil_append, List.length_append, l0, beN_len, List.drop_drop]
      congr 1
      omega
    rw [t1, d1]
    have e2 : (b.take a ++ beN 1 (IntKind.u64.wrap p.f0) ++ beN 8 p.f1 ++ b.drop (a + 9)).length = b.length := by simp [beN_len]; omega
    rw [secPut_eq _ (a + 9) _ 4 (by omega)]
    have t2 : (b.take a ++ beN 1 (IntKind.u64.wrap p.f0) ++ beN 8 p.f1 ++ b.drop (a + 9)).take (a + 9) = b.take a ++ beN 1 (IntKind.u64.wrap p.f0) ++ beN 8 p.f1 := by
      rw [List.take_append_of_le_length (by simp [beN_len]; omega), List.take_of_length_le (by simp [beN_len]; omega)]
    have d2 : (b.take a ++ beN 1 (IntKind.u64.wrap p.f0) ++ beN 8 p.f1 ++ b.drop (a + 9)).drop (a + 9 + 4) = b.drop (a + 13) := by
      rw [List.drop_append, List.drop_eq_nil_of_le (by simp [beN_len]; omega), List.nil_append, List.drop_drop]
      congr 1
      simp [beN_len]
      omega
    rw [t2, d2]
    have e3 : b.take a ++ beN 1 (IntKind.u64.wrap p.f0) ++ beN 8 p.f1 ++ beN 4 (IntKind.u64.wrap (wrap64 (p.f2 + 1))) = b.take a ++ partB p := by
      rw [← part_wide p (hf p (by simp))]
      simp [List.append_assoc]
    rw [e3, ih (fun q hq => hf q (List.mem_cons_of_mem _ hq)) _ (a + 13) (by simp [partB_len]; omega)]
    have l3 : (b.take a ++ partB p).length = a + 13 := by rw [List.length_append, l0, partB_len]
    rw [List.take_append_of_le_length (by omega), List.take_of_length_le (by omega), List.drop_append, List.drop_eq_nil_of_le (by omega), List.nil_append, l3, List.drop_drop, List.flatMap_cons, List.length_cons]
    rw [show a + 13 + (a + 13 + 13 * l.length - (a + 13)) = a + 13 * (l.length + 1) by omega]
    simp [List.append_assoc]
theorem writtenB_eq (e : Int) (l : List S56) (hl : l.length ≤ 8) (hf : ∀ p ∈ l, Fit p) : writtenB e l = bodyB e l ++ List.replicate 12 0 := by
  unfold writtenB
  rw [secPut_eq (List.replicate 128 0) 0 e 8 (by simp)]
  have e1 : (List.replicate 128 (0 : Int)).take 0 ++ beN 8 e ++ (List.replicate 128 (0 : Int)).drop (0 + 8) = beN 8 e ++ List.replicate 120 0 := by simp
  rw [e1, secPut_eq (beN 8 e ++ List.replicate 120 0) 8 _ 1 (by simp [beN_len])]
  have e2 : (beN 8 e ++ List.replicate 120 (0 : Int)).take 8 = beN 8 e := by rw [List.take_append_of_le_length (by rw [beN_len]; omega), List.take_of_length_le (by rw [beN_len]; omega)]
  have e3 : (beN 8 e ++ List.replicate 120 (0 : Int)).drop (8 + 1) = List.replicate 119 0 := by
    rw [List.drop_append, List.drop_eq_nil_of_le (by rw [beN_len]; omega), beN_len]
    simp
  rw [e2, e3]
  have l1 : (beN 8 e ++ beN 1 (l.length : Int)).length = 9 := by rw [List.length_append, beN_len, beN_len]
  rw [writtenL_eq l hf _ 9 (by simp [beN_len]; omega), List.take_append_of_le_length (by omega), List.take_of_length_le (by omega), List.drop_append, List.drop_eq_nil_of_le (by omega), l1]
  unfold bodyB
  rw [List.nil_append, List.drop_replicate, List.append_assoc _ (List.replicate (107 - 13 * l.length) 0), List.replicate_append_replicate]
  congr 2
  omega
theorem crc_body (e : Int) (l : List S56) (hl : l.length ≤ 8) (hf : ∀ p ∈ l, Fit p) : (writtenB e l).take 116 = bodyB e l := by
  rw [writtenB_eq e l hl hf, List.take_append_of_le_length (by rw [bodyB_len e l hl]; exact Nat.le_refl _), List.take_of_length_le (by rw [bodyB_len e l hl]; exact Nat.le_refl _)]
theorem crcB_range (b : List Int) : 0 ≤ crcB b ∧ crcB b < 4294967296 := ⟨I_lo _, I_hi _⟩
theorem written_ev (e : Int) (l : List S56) (hl : l.length ≤ 8) (hf : ∀ p ∈ l, Fit p) : Ev (fun k => manifest_written.f k e l) (sectorS e l) := by
  unfold manifest_written.f
  simp only [if_pos hl, crc_body e l hl hf]
  refine Ev.bind (Of_ev (strOfNums (bodyB e l)) (by rw [strOfNums_size, bodyB_len e l hl]; omega)) ?_
  have hr := crcB_range (bodyB e l)
  have hc : I (CrcMath.of (B (strOfNums (bodyB e l)))) = crcB (bodyB e l) := rfl
  rw [hc]
  have e1 : IntKind.u64.wrap (crcB (bodyB e l)) = crcB (bodyB e l) := by rw [IntKind.wrap_u64]; omega
  have hb := bodyB_len e l hl
  rw [e1, writtenB_eq e l hl hf, secPut_eq (bodyB e l ++ List.replicate 12 0) 116 _ 4 (by simp [hb])]
  have e2 : (bodyB e l ++ List.replicate 12 (0 : Int)).take 116 = bodyB e l := by rw [List.take_append_of_le_length (by omega), List.take_of_length_le (by omega)]
  have e3 : (bodyB e l ++ List.replicate 12 (0 : Int)).drop (116 + 4) = List.replicate 8 0 := by rw [List.drop_append, List.drop_eq_nil_of_le (by omega), hb]; simp
  rw [e2, e3]
  have h4 : (bodyB e l ++ beN 4 (crcB (bodyB e l))).length = 120 := by rw [List.length_append, hb, beN_len]
  rw [secPut_eq (bodyB e l ++ beN 4 (crcB (bodyB e l)) ++ List.replicate 8 0) 120 e 8 (by rw [List.length_append, h4]; simp), List.take_append_of_le_length (by omega), List.take_of_length_le (by omega), List.drop_eq_nil_of_le (by rw [List.length_append, h4]; simp), List.append_nil]
  exact Ev.now _
end Go.Proofs.Ytjagplonneednaa.Pure
