/- A right manifest's sector: the program and the document write one. -/
import Derived.Test.YtjagplonneednaaZPx30013
import Derived.Test.YtjagplonneednaaZPx1009
import Derived.Test.YtjagplonneednaaZPx30025
import Derived.Test.YtjagplonneednaaZManiCheck
import Derived.Test.YtjagplonneednaaZCrcRText
set_option linter.unusedVariables false
set_option linter.unusedSimpArgs false
namespace Go.Proofs.Ytjagplonneednaa.Pure
open Go.RowKit Go.Proofs.Ytjagplonneednaa.P Go.Proofs.YtjagplonneednaaW.PrintWords Go.Proofs.YtjagplonneednaaW.PrintLast Go.Proofs.YtjagplonneednaaW.PrintMore
def partB (p : S56) : List Int := beN 1 p.f0 ++ beN 8 p.f1 ++ beN 4 (p.f2 + 1)
def bodyB (e : Int) (l : List S56) : List Int := beN 8 e ++ beN 1 (l.length : Int) ++ l.flatMap partB ++ List.replicate (107 - 13 * l.length) 0
def crcB (b : List Int) : Int := I (CrcMath.of (u8l b))
def sectorB (e : Int) (l : List S56) : List Int := bodyB e l ++ beN 4 (crcB (bodyB e l)) ++ beN 8 e
def sectorS (e : Int) (l : List S56) : ByteArray := strOfNums (sectorB e l)
theorem str_app (a b : List Int) : strOfNums (a ++ b) = strOfNums a ++ strOfNums b := by apply B_inj; rw [B_app, B_strN, B_strN, B_strN, u8l_app]
theorem beN_one (x : Int) : beN 1 x = [x % 256] := by rw [beN_succ]; rfl
theorem beN_four (x : Int) : beN 4 x = [x / 16777216 % 256, x / 65536 % 256, x / 256 % 256, x % 256] := by
  rw [beN_succ, beN_succ, beN_succ, beN_succ]
  show [x / 256 / 256 / 256 % 256, x / 256 / 256 % 256, x / 256 % 256, x % 256] = _
  rw [show x / 256 / 256 / 256 = x / 16777216 by omega, show x / 256 / 256 = x / 65536 by omega]
theorem text4_beN (x : Int) : text4 x = strOfNums (beN 4 x) := by rw [beN_four]; rfl
theorem partB_len (p : S56) : (partB p).length = 13 := by unfold partB; rw [List.length_append, List.length_append, beN_len, beN_len, beN_len]
theorem flat_len (l : List S56) : (l.flatMap partB).length = 13 * l.length := by
  induction l with
  | nil => rfl
  | cons p l ih => rw [List.flatMap_cons, List.length_append, ih, partB_len, List.length_cons]; omega
theorem bodyB_len (e : Int) (l : List S56) (hl : l.length ≤ 8) : (bodyB e l).length = 116 := by
  unfold bodyB
  rw [List.length_append, List.length_append, List.length_append, beN_len, beN_len, flat_len, List.length_replicate]
  omega
def Fit (p : S56) : Prop := 0 ≤ p.f0 ∧ p.f0 < 9223372036854775808 ∧ -1 ≤ p.f2 ∧ p.f2 < 4294967295
theorem fit_of {l : List S56} (h : AllOk l 0) : ∀ p ∈ l, Fit p := by
  intro p hp
  obtain ⟨i, hi, rfl⟩ := List.getElem_of_mem hp
  have o := h i (Nat.zero_le _) hi
  rw [← pa_at l i hi]
  exact ⟨o.s0, by have := o.s1; omega, o.m0, by have := o.m1; omega⟩
theorem part_wide (p : S56) (h : Fit p) : beN 1 (IntKind.u64.wrap p.f0) ++ beN 8 p.f1 ++ beN 4 (IntKind.u64.wrap (wrap64 (p.f2 + 1))) = partB p := by
  obtain ⟨a, b, c, d⟩ := h
  have e1 : IntKind.u64.wrap p.f0 = p.f0 := by rw [IntKind.wrap_u64]; omega
  have e2 : wrap64 (p.f2 + 1) = p.f2 + 1 := by unfold wrap64; omega
  have e3 : IntKind.u64.wrap (p.f2 + 1) = p.f2 + 1 := by rw [IntKind.wrap_u64]; omega
  rw [e1, e2, e3]
  rfl
theorem writtenL_eq (l : List S56) (hf : ∀ p ∈ l, Fit p) : ∀ (b : List Int) (a : Nat), a + 13 * l.length ≤ b.length → writtenL b a l = b.take a ++ l.flatMap partB ++ b.drop (a + 13 * l.length) := by
  induction l with
  | nil => intro b a _; show b = b.take a ++ [] ++ b.drop (a + 0); rw [List.append_nil, Nat.add_zero, List.take_append_drop]
  | cons p l ih =>
    intro b a ha
    rw [List.length_cons] at ha
    show writtenL (secPut (secPut (secPut b a (IntKind.u64.wrap p.f0) 1 1) (a + 1) p.f1 8 8) (a + 9) (IntKind.u64.wrap (wrap64 (p.f2 + 1))) 4 4) (a + 13) l = _
    have l0 : (b.take a).length = a := by rw [List.length_take]; omega
    rw [secPut_eq b a _ 1 (by omega)]
    have e1 : (b.take a ++ beN 1 (IntKind.u64.wrap p.f0) ++ b.drop (a + 1)).length = b.length := by simp [beN_len]; omega
    rw [secPut_eq _ (a + 1) _ 8 (by omega)]
    have t1 : (b.take a ++ beN 1 (IntKind.u64.wrap p.f0) ++ b.drop (a + 1)).take (a + 1) = b.take a ++ beN 1 (IntKind.u64.wrap p.f0) := by
      rw [List.take_append_of_le_length (by rw [List.length_append, l0, beN_len]; exact Nat.le_refl _), List.take_of_length_le (by rw [List.length_append, l0, beN_len]; exact Nat.le_refl _)]
    have d1 : (b.take a ++ beN 1 (IntKind.u64.wrap p.f0) ++ b.drop (a + 1)).drop (a + 1 + 8) = b.drop (a + 9) := by
      rw [List.drop_append, List.drop_eq_nil_of_le (by rw [List.length_append, l0, beN_len]; omega), List.nil_append, List.length_append, l0, beN_len, List.drop_drop]
      congr 1
      omega
    rw [t1, d1]
    have e2 : (b.take a ++ beN 1 (IntKind.u64.wrap p.f0) ++ beN 8 p.f1 ++ b.drop (a + 9)).length = b.length := by simp [beN_len]; omega
    rw [secPut_eq _ (a + 9) _ 4 (by omega)]
    have t2 : (b.take a ++ beN 1 (IntKind.u64.wrap p.f0) ++ beN 8 p.f1 ++ b.drop (a + 9)).take (a + 9) = b.take a ++ beN 1 (IntKind.u64.wrap p.f0) ++ beN 8 p.f1 := by
      rw [List.take_append_of_le_length (by simp [beN_len]; omega), List.take_of_length_le (by simp [beN_len]; omega)]
    have d2 : (b.take a ++ beN 1 (IntKind.u64.wrap p.f0) ++ beN 8 p.f1 ++ b.drop (a + 9)).drop (a + 9 + 4) = b.drop (a + 13) := by
      rw [List.drop_append, List.drop_eq_nil_of_le (by simp [beN_len]; omega), List.nil_append, List.drop_drop]
      congr 1
      simp [beN_len]
      omega
    rw [t2, d2]
    have e3 : b.take a ++ beN 1 (IntKind.u64.wrap p.f0) ++ beN 8 p.f1 ++ beN 4 (IntKind.u64.wrap (wrap64 (p.f2 + 1))) = b.take a ++ partB p := by
      rw [← part_wide p (hf p (by simp))]
      simp [List.append_assoc]
    rw [e3, ih (fun q hq => hf q (List.mem_cons_of_mem _ hq)) _ (a + 13) (by simp [partB_len]; omega)]
    have l3 : (b.take a ++ partB p).length = a + 13 := by rw [List.length_append, l0, partB_len]
    rw [List.take_append_of_le_length (by omega), List.take_of_length_le (by omega), List.drop_append, List.drop_eq_nil_of_le (by omega), List.nil_append, l3, List.drop_drop, List.flatMap_cons, List.length_cons]
    rw [show a + 13 + (a + 13 + 13 * l.length - (a + 13)) = a + 13 * (l.length + 1) by omega]
    simp [List.append_assoc]
theorem writtenB_eq (e : Int) (l : List S56) (hl : l.length ≤ 8) (hf : ∀ p ∈ l, Fit p) : writtenB e l = bodyB e l ++ List.replicate 12 0 := by
  unfold writtenB
  rw [secPut_eq (List.replicate 128 0) 0 e 8 (by simp)]
  have e1 : (List.replicate 128 (0 : Int)).take 0 ++ beN 8 e ++ (List.replicate 128 (0 : Int)).drop (0 + 8) = beN 8 e ++ List.replicate 120 0 := by simp
  rw [e1, secPut_eq (beN 8 e ++ List.replicate 120 0) 8 _ 1 (by simp [beN_len])]
  have e2 : (beN 8 e ++ List.replicate 120 (0 : Int)).take 8 = beN 8 e := by rw [List.take_append_of_le_length (by rw [beN_len]; omega), List.take_of_length_le (by rw [beN_len]; omega)]
  have e3 : (beN 8 e ++ List.replicate 120 (0 : Int)).drop (8 + 1) = List.replicate 119 0 := by
    rw [List.drop_append, List.drop_eq_nil_of_le (by rw [beN_len]; omega), beN_len]
    simp
  rw [e2, e3]
  have l1 : (beN 8 e ++ beN 1 (l.length : Int)).length = 9 := by rw [List.length_append, beN_len, beN_len]
  rw [writtenL_eq l hf _ 9 (by simp [beN_len]; omega), List.take_append_of_le_length (by omega), List.take_of_length_le (by omega), List.drop_append, List.drop_eq_nil_of_le (by omega), l1]
  unfold bodyB
  rw [List.nil_append, List.drop_replicate, List.append_assoc _ (List.replicate (107 - 13 * l.length) 0), List.replicate_append_replicate]
  congr 2
  omega
theorem crc_body (e : Int) (l : List S56) (hl : l.length ≤ 8) (hf : ∀ p ∈ l, Fit p) : (writtenB e l).take 116 = bodyB e l := by
  rw [writtenB_eq e l hl hf, List.take_append_of_le_length (by rw [bodyB_len e l hl]; exact Nat.le_refl _), List.take_of_length_le (by rw [bodyB_len e l hl]; exact Nat.le_refl _)]
theorem crcB_range (b : List Int) : 0 ≤ crcB b ∧ crcB b < 4294967296 := ⟨I_lo _, I_hi _⟩
theorem written_ev (e : Int) (l : List S56) (hl : l.length ≤ 8) (hf : ∀ p ∈ l, Fit p) : Ev (fun k => manifest_written.f k e l) (sectorS e l) := by
  unfold manifest_written.f
  simp only [if_pos hl, crc_body e l hl hf]
  refine Ev.bind (Of_ev (strOfNums (bodyB e l)) (by rw [strOfNums_size, bodyB_len e l hl]; omega)) ?_
  have hr := crcB_range (bodyB e l)
  have hc : I (CrcMath.of (B (strOfNums (bodyB e l)))) = crcB (bodyB e l) := rfl
  rw [hc]
  have e1 : IntKind.u64.wrap (crcB (bodyB e l)) = crcB (bodyB e l) := by rw [IntKind.wrap_u64]; omega
  have hb := bodyB_len e l hl
  rw [e1, writtenB_eq e l hl hf, secPut_eq (bodyB e l ++ List.replicate 12 0) 116 _ 4 (by simp [hb])]
  have e2 : (bodyB e l ++ List.replicate 12 (0 : Int)).take 116 = bodyB e l := by rw [List.take_append_of_le_length (by omega), List.take_of_length_le (by omega)]
  have e3 : (bodyB e l ++ List.replicate 12 (0 : Int)).drop (116 + 4) = List.replicate 8 0 := by rw [List.drop_append, List.drop_eq_nil_of_le (by omega), hb]; simp
  rw [e2, e3]
  have h4 : (bodyB e l ++ beN 4 (crcB (bodyB e l))).length = 120 := by rw [List.length_append, hb, beN_len]
  rw [secPut_eq (bodyB e l ++ beN 4 (crcB (bodyB e l)) ++ List.replicate 8 0) 120 e 8 (by rw [List.length_append, h4]; simp), List.take_append_of_le_length (by omega), List.take_of_length_le (by omega), List.drop_eq_nil_of_le (by rw [List.length_append, h4]; simp), List.append_nil]
  exact Ev.now _
theorem RPut_l0 (e : Int) (l : List S56) (h : RightM e l) (d : Nat) : ∀ i : Nat, i + d = l.length → Ev (fun k => spoorref06_Put.l0 k (strOfNums (beN 8 e ++ beN 1 (l.length : Int) ++ (l.take i).flatMap partB)) l (l.length : Int) (i : Int) e l) (sectorS e l, 0) := by
  have hl := h.2.2.1
  induction d with
  | zero =>
    intro i hi
    have hsz : (strOfNums (beN 8 e ++ beN 1 (l.length : Int) ++ l.flatMap partB)).size = 9 + 13 * l.length := by
      rw [strOfNums_size, List.length_append, List.length_append, beN_len, beN_len, flat_len]
    rw [List.take_of_length_le (by omega)]
    have w : wrap64 (116 - ((9 + 13 * l.length : Nat) : Int)) = ((107 - 13 * l.length : Nat) : Int) := by unfold wrap64; omega
    have hbody : strOfNums (beN 8 e ++ beN 1 (l.length : Int) ++ l.flatMap partB) ++ strOfNums (List.replicate (107 - 13 * l.length) 0) = strOfNums (bodyB e l) := by rw [← str_app]; rfl
    have hbs : (strOfNums (bodyB e l)).size = 116 := by rw [strOfNums_size]; exact bodyB_len e l hl
    have hr := crcB_range (bodyB e l)
    refine Ev.step (f := fun k => (spoorref02_Of.f k (strOfNums (bodyB e l))).bind fun t143 => (spoorref02_Text.f t143).bind fun t144 => if (strOfNums (bodyB e l)).size + t144.size ≤ 9223372036854775807 then (spoorref05_Eight.f k e).bind fun t145 => if (strOfNums (bodyB e l) ++ t144).size + t145.size ≤ 9223372036854775807 then some ((strOfNums (bodyB e l) ++ t144) ++ t145, 0) else none else none) (fun k => ?_) ?_
    · simp only [spoorref06_Put.l0]
      rw [if_neg (by omega), hsz, w]
      have z : spoorref05_Zeros.f ((107 - 13 * l.length : Nat) : Int) = some (strOfNums (List.replicate (107 - 13 * l.length) 0)) := by
        unfold spoorref05_Zeros.f
        rw [if_pos (by omega), Int.toNat_natCast, if_pos (by omega)]
      rw [z, Option.bind_some, hbody, if_pos (by rw [strOfNums_size, List.length_replicate]; omega)]
    · refine Ev.bind (ROf_ev (strOfNums (bodyB e l)) (by omega)) ?_
      have hc : I (CrcMath.of (B (strOfNums (bodyB e l)))) = crcB (bodyB e l) := rfl
      rw [hc]
      simp only [RText_f _ hr.1 hr.2, Option.bind_some, text4_beN]
      have s4 : (strOfNums (beN 4 (crcB (bodyB e l)))).size = 4 := by rw [strOfNums_size, beN_len]
      have s8 : (strOfNums (beN 8 e)).size = 8 := by rw [strOfNums_size, beN_len]
      simp only [if_pos (show (strOfNums (bodyB e l)).size + (strOfNums (beN 4 (crcB (bodyB e l)))).size ≤ 9223372036854775807 by omega)]
      refine Ev.bind (Eight_ev e (by have := h.1; omega) (by have := h.2.1; omega)) ?_
      simp only [if_pos (show (strOfNums (bodyB e l) ++ strOfNums (beN 4 (crcB (bodyB e l)))).size + (strOfNums (beN 8 e)).size ≤ 9223372036854775807 by rw [ByteArray.size_append]; omega)]
      rw [← str_app, ← str_app]
      exact Ev.now _
  | succ d ih =>
    intro i hi
    have hlt : i < l.length := by omega
    have o := h.2.2.2 i (Nat.zero_le _) hlt
    have hnext : strOfNums (beN 8 e ++ beN 1 (l.length : Int) ++ (l.take i).flatMap partB) ++ ((strOfNums [(pa l i).f0 % 256] ++ strOfNums (beN 8 (pa l i).f1)) ++ strOfNums (beN 4 ((pa l i).f2 + 1))) = strOfNums (beN 8 e ++ beN 1 (l.length : Int) ++ (l.take (i + 1)).flatMap partB) := by
      rw [← str_app, ← str_app, ← str_app, List.take_succ_eq_append_getElem hlt, List.flatMap_append, ← pa_at l i hlt]
      congr 1
      rw [List.flatMap_cons, List.flatMap_nil, List.append_nil]
      unfold partB
      rw [beN_one (pa l i).f0]
      simp [List.append_assoc]
    have := ih (i + 1) (by omega)
    rw [← hnext] at this
    have s1 : (strOfNums [(pa l i).f0 % 256]).size = 1 := by rw [strOfNums_size]; rfl
    have s8 : (strOfNums (beN 8 (pa l i).f1)).size = 8 := by rw [strOfNums_size, beN_len]
    have s4 : (strOfNums (beN 4 ((pa l i).f2 + 1))).size = 4 := by rw [strOfNums_size, beN_len]
    have s0 : (strOfNums (beN 8 e ++ beN 1 (l.length : Int) ++ (l.take i).flatMap partB)).size ≤ 1000 := by
      rw [strOfNums_size, List.length_append, List.length_append, beN_len, beN_len, flat_len, List.length_take]
      omega
    have w : wrap64 ((pa l i).f2 + 1) % 4294967296 = (pa l i).f2 + 1 := by have := o.m0; have := o.m1; unfold wrap64; omega
    refine Ev.step (f := fun k => (spoorref05_Eight.f k (pa l i).f1).bind fun t140 => if (strOfNums [(pa l i).f0 % 256]).size + t140.size ≤ 9223372036854775807 then (spoorref02_Text.f (wrap64 ((pa l i).f2 + 1) % 4294967296)).bind fun t141 => if ((strOfNums [(pa l i).f0 % 256]) ++ t140).size + t141.size ≤ 9223372036854775807 then if (strOfNums (beN 8 e ++ beN 1 (l.length : Int) ++ (l.take i).flatMap partB)).size + (((strOfNums [(pa l i).f0 % 256]) ++ t140) ++ t141).size ≤ 9223372036854775807 then spoorref06_Put.l0 k (strOfNums (beN 8 e ++ beN 1 (l.length : Int) ++ (l.take i).flatMap partB) ++ (((strOfNums [(pa l i).f0 % 256]) ++ t140) ++ t141)) l (l.length : Int) ((i + 1 : Nat) : Int) e l else none else none else none) (fun k => ?_) ?_
    · simp only [spoorref06_Put.l0]
      rw [if_pos (by omega), if_pos (by omega), if_pos (by omega), Option.bind_some, wrap_up i (by omega)]
      rfl
    · refine Ev.bind (Eight_ev _ (by have := o.t0; omega) (by have := o.t1; omega)) ?_
      simp only [w, RText_f ((pa l i).f2 + 1) (by have := o.m0; omega) (by have := o.m1; omega), Option.bind_some, text4_beN]
      have g1 : (strOfNums [(pa l i).f0 % 256]).size + (strOfNums (beN 8 (pa l i).f1)).size ≤ 9223372036854775807 := by omega
      have g2 : (strOfNums [(pa l i).f0 % 256] ++ strOfNums (beN 8 (pa l i).f1)).size + (strOfNums (beN 4 ((pa l i).f2 + 1))).size ≤ 9223372036854775807 := by rw [ByteArray.size_append]; omega
      have g3 : (strOfNums (beN 8 e ++ beN 1 (l.length : Int) ++ (l.take i).flatMap partB)).size + ((strOfNums [(pa l i).f0 % 256] ++ strOfNums (beN 8 (pa l i).f1)) ++ strOfNums (beN 4 ((pa l i).f2 + 1))).size ≤ 9223372036854775807 := by rw [ByteArray.size_append, ByteArray.size_append]; omega
      simp only [if_pos g1, if_pos g2, if_pos g3]
      exact this
theorem RPut_yes {e : Int} {l : List S56} (h : RightM e l) : Ev (fun k => spoorref06_Put.f k e l) (sectorS e l, 0) := by
  unfold spoorref06_Put.f
  have hl := h.2.2.1
  refine Ev.bind (RMCheck_ev e l (by omega)) ?_
  simp only [rightI_yes h, if_true]
  refine Ev.bind (Eight_ev e (by have := h.1; omega) (by have := h.2.1; omega)) ?_
  have s8 : (strOfNums (beN 8 e)).size = 8 := by rw [strOfNums_size, beN_len]
  have s1 : (strOfNums [(l.length : Int) % 256]).size = 1 := by rw [strOfNums_size]; rfl
  simp only [Option.bind_some, if_pos (show (strOfNums (beN 8 e)).size + (strOfNums [(l.length : Int) % 256]).size ≤ 9223372036854775807 by omega)]
  have := RPut_l0 e l h l.length 0 (by omega)
  rw [List.take_zero, List.flatMap_nil, List.append_nil, beN_one, str_app] at this
  exact this
theorem RPut_no {e : Int} {l : List S56} (hl : l.length < 9223372036854775807) (h : ¬ RightM e l) : Ev (fun k => spoorref06_Put.f k e l) ((⟨#[]⟩ : ByteArray), 2) := by
  unfold spoorref06_Put.f
  refine Ev.bind (RMCheck_ev e l hl) ?_
  simp only [rightI_no h]
  exact Ev.now _
end Go.Proofs.Ytjagplonneednaa.Pure
