/- On a new disk manifests are saved one by one, the power going at any time, and coming again: what is loaded is the last one that was answered, or the one that was being saved. No condition beyond the statement's own. -/
import Derived.Test.YtjagplonneednaaZPx1007
import Derived.Test.YtjagplonneednaaZDiskRight
set_option linter.unusedVariables false
set_option linter.unusedSimpArgs false
namespace Go.Proofs.Ytjagplonneednaa.Pure
open Go.RowKit Go.Proofs.Ytjagplonneednaa.P Go.Proofs.YtjagplonneednaaW.PrintWords Go.Proofs.YtjagplonneednaaW.PrintLast Go.Proofs.YtjagplonneednaaW.PrintMore
abbrev Part := S56
theorem holds_nil (S : List ByteArray) (i : Nat) (h : i < S.length) : holdsF S [] (i : Int) = S[i] := by
  rw [holdsF_fold]
  exact rdOf_at _ S i h
theorem getM_tail {s : ByteArray} (h : (getM s).2.2 = 0) : (getM s).1 = num s 120 8 := by
  obtain ⟨_, h2, _, h4⟩ := getM_ok h
  rw [h4]; exact h2
structure Inv (S : List ByteArray) (e : Int) (l : List Part) : Prop where
  len : S.length = 3
  sizes : ∀ s ∈ S, s.size = 128
  lo : 0 ≤ e
  none : e = 0 → l = [] ∧ (∀ h : 0 < S.length, num S[0] 120 8 = 0) ∧ (∀ h : 1 < S.length, num S[1] 120 8 = 0)
  even : 0 < e → e % 2 = 0 → (∀ h : 0 < S.length, getM S[0] = (e, l, 0)) ∧ (∀ h : 1 < S.length, num S[1] 120 8 = e - 1)
  odd : 0 < e → e % 2 = 1 → (∀ h : 1 < S.length, getM S[1] = (e, l, 0)) ∧ (∀ h : 0 < S.length, num S[0] 120 8 = e - 1)
theorem Inv.right {S : List ByteArray} {e : Int} {l : List Part} (h : Inv S e l) {f : Int} (hf : -1 ≤ f) : RightDisk S [] f :=
  ⟨by rw [h.len]; omega, by rw [h.len]; omega, by simp, hf, h.sizes, fun p hp => by cases hp⟩
theorem load_inv {S : List ByteArray} {e : Int} {l : List Part} (h : Inv S e l) {f : Int} (hf : -1 ≤ f) : loadF S [] f false = (e, l, if e = 0 then 3 else 0) := by
  have h0 : 0 < S.length := by rw [h.len]; omega
  have h1 : 1 < S.length := by rw [h.len]; omega
  unfold loadF
  rw [if_pos (of_right (h.right hf)), if_neg (by decide), if_neg (by rw [h.len]; decide)]
  have e0 : holdsF S [] 0 = S[0] := holds_nil S 0 h0
  have e1 : holdsF S [] 1 = S[1] := holds_nil S 1 h1
  rw [e0, e1]
  have hlo := h.lo
  unfold best
  by_cases z : e = 0
  · obtain ⟨q1, q2, q3⟩ := h.none z
    have n0 : ¬ (getM S[0]).2.2 = 0 := fun y => by have := getM_tail y; have := getM_pos y; rw [q2 h0] at *; omega
    have n1 : ¬ (getM S[1]).2.2 = 0 := fun y => by have := getM_tail y; have := getM_pos y; rw [q3 h1] at *; omega
    rw [if_neg n0, if_neg n1, if_pos z, q1, z]
  · rw [if_neg z]
    by_cases p : e % 2 = 0
    · obtain ⟨q1, q2⟩ := h.even (by omega) p
      rw [q1 h0]
      simp only [if_true]
      by_cases y : (getM S[1]).2.2 = 0
      · rw [if_pos y, if_neg (by rw [getM_tail y, q2 h1]; omega)]
      · rw [if_neg y]
    · obtain ⟨q1, q2⟩ := h.odd (by omega) (by omega)
      rw [q1 h1]
      simp only [if_true]
      by_cases y : (getM S[0]).2.2 = 0
      · rw [if_pos y, if_pos (by rw [getM_tail y, q2 h0]; omega)]
      · rw [if_neg y]
def slot (e : Int) : Int := (e + 1) % 2
theorem slot_or (e : Int) : (slot e = 0 ∧ e % 2 = 1) ∨ (slot e = 1 ∧ e % 2 = 0) := by unfold slot; omega
def before (e : Int) : Int := if e = 0 then 0 else e - 1
theorem set0 {S : List ByteArray} (x : ByteArray) (h : 0 < (S.set 0 x).length) : (S.set 0 x)[0] = x := by simp
theorem set1 {S : List ByteArray} (x : ByteArray) (h : 1 < (S.set 1 x).length) : (S.set 1 x)[1] = x := by simp
theorem set01 {S : List ByteArray} (x : ByteArray) (h : 1 < (S.set 0 x).length) : (S.set 0 x)[1] = S[1]'(by simpa using h) := by simp
theorem set10 {S : List ByteArray} (x : ByteArray) (h : 0 < (S.set 1 x).length) : (S.set 1 x)[0] = S[0]'(by simpa using h) := by simp
theorem mem_set_size {S : List ByteArray} {i : Nat} {x : ByteArray} (h : ∀ s ∈ S, s.size = 128) (hx : x.size = 128) : ∀ s ∈ S.set i x, s.size = 128 := by
  intro s hs
  rcases List.mem_or_eq_of_mem_set hs with h1 | h1
  · exact h s h1
  · rw [h1]; exact hx
theorem inv_next {S : List ByteArray} {e : Int} {l q : List Part} (h : Inv S e l) (hq : RightM (e + 1) q) : Inv (S.set (slot e).toNat (sectorS (e + 1) q)) (e + 1) q := by
  have hg := getM_put hq
  have hz := sectorS_size (e + 1) q hq.2.2.1
  have hlo := h.lo
  have h0 : 0 < S.length := by rw [h.len]; omega
  have h1 : 1 < S.length := by rw [h.len]; omega
  rcases slot_or e with ⟨s, p⟩ | ⟨s, p⟩
  · rw [s]
    refine ⟨by rw [List.length_set]; exact h.len, mem_set_size h.sizes hz, by omega, fun z => by omega, fun _ _ => ⟨fun hh => ?_, fun hh => ?_⟩, fun _ z => by omega⟩
    · show getM ((S.set 0 _)[0]) = _
      rw [set0]; exact hg
    · show num ((S.set 0 _)[1]) 120 8 = _
      rw [set01]
      obtain ⟨q1, _⟩ := h.odd (by omega) p
      have y : (getM S[1]).2.2 = 0 := by rw [q1 h1]
      rw [← getM_tail y, q1 h1]
      show e = e + 1 - 1
      omega
  · rw [s]
    refine ⟨by rw [List.length_set]; exact h.len, mem_set_size h.sizes hz, by omega, fun z => by omega, fun _ z => by omega, fun _ _ => ⟨fun hh => ?_, fun hh => ?_⟩⟩
    · show getM ((S.set 1 _)[1]) = _
      rw [set1]; exact hg
    · show num ((S.set 1 _)[0]) 120 8 = _
      rw [set10]
      by_cases z : e = 0
      · rw [(h.none z).2.1 h0]; omega
      · obtain ⟨q1, _⟩ := h.even (by omega) p
        have y : (getM S[0]).2.2 = 0 := by rw [q1 h0]
        rw [← getM_tail y, q1 h0]
        show e = e + 1 - 1
        omega
theorem inv_other {S : List ByteArray} {e : Int} {l : List Part} (h : Inv S e l) (x : ByteArray) (hx : x.size = 128) (ht : num x 120 8 = before e) : Inv (S.set (slot e).toNat x) e l := by
  have hlo := h.lo
  have h0 : 0 < S.length := by rw [h.len]; omega
  have h1 : 1 < S.length := by rw [h.len]; omega
  unfold before at ht
  rcases slot_or e with ⟨s, p⟩ | ⟨s, p⟩
  · rw [s]
    rw [if_neg (by omega)] at ht
    obtain ⟨q1, _⟩ := h.odd (by omega) p
    refine ⟨by rw [List.length_set]; exact h.len, mem_set_size h.sizes hx, hlo, fun z => by omega, fun _ z => by omega, fun _ _ => ⟨fun hh => ?_, fun hh => ?_⟩⟩
    · show getM ((S.set 0 _)[1]) = _
      rw [set01]; exact q1 h1
    · show num ((S.set 0 _)[0]) 120 8 = _
      rw [set0]; exact ht
  · rw [s]
    refine ⟨by rw [List.length_set]; exact h.len, mem_set_size h.sizes hx, hlo, fun z => ?_, fun z _ => ?_, fun _ z => by omega⟩
    · rw [if_pos z] at ht
      refine ⟨(h.none z).1, fun hh => ?_, fun hh => ?_⟩
      · show num ((S.set 1 _)[0]) 120 8 = _
        rw [set10]; exact (h.none z).2.1 h0
      · show num ((S.set 1 _)[1]) 120 8 = _
        rw [set1]; exact ht
    · rw [if_neg (by omega)] at ht
      refine ⟨fun hh => ?_, fun hh => ?_⟩
      · show getM ((S.set 1 _)[0]) = _
        rw [set10]; exact (h.even z p).1 h0
      · show num ((S.set 1 _)[1]) 120 8 = _
        rw [set1]; exact ht
theorem inv_before {S : List ByteArray} {e : Int} {l : List Part} (h : Inv S e l) : ∃ (hs : (slot e).toNat < S.length), num S[(slot e).toNat] 120 8 = before e := by
  have hlo := h.lo
  have h0 : 0 < S.length := by rw [h.len]; omega
  have h1 : 1 < S.length := by rw [h.len]; omega
  unfold before
  rcases slot_or e with ⟨s, p⟩ | ⟨s, p⟩
  · rw [s]
    refine ⟨h0, ?_⟩
    rw [if_neg (by omega)]
    exact (h.odd (by omega) p).2 h0
  · rw [s]
    refine ⟨h1, ?_⟩
    by_cases z : e = 0
    · rw [if_pos z]; exact (h.none z).2.2 h1
    · rw [if_neg z]; exact (h.even (by omega) p).2 h1
theorem small_head : ∀ x : Fin 256, (u8l (beN 8 (x.val : Int))).take 7 = List.replicate 7 0 := by decide +kernel
theorem be8_head {L : List UInt8} (hL : L.length = 8) (h : be L < 256) : L.take 7 = List.replicate 7 0 := by
  have h0 := (be_upto L 8 (by omega)).1
  have := beN_be L
  rw [hL] at this
  have hx := small_head ⟨(be L).toNat, by omega⟩
  have e : (((be L).toNat : Nat) : Int) = be L := by omega
  simp only at hx
  rw [e] at hx
  rw [← this]
  exact hx
theorem B_mix (s o : ByteArray) (n : Nat) (hs : s.size = 128) (ho : o.size = 128) (hn : n ≤ 128) : B (s.extract 0 n ++ o.extract n o.size) = (B s).take n ++ (B o).drop n := by
  rw [B_app, B_extract, B_extract, List.drop_zero, List.take_of_length_le (l := B o) (by rw [B_len]; omega)]
theorem mix_tail (s o : ByteArray) (n : Nat) (hs : s.size = 128) (ho : o.size = 128) (hn : n < 128) (h1 : num s 120 8 < 256) (h2 : num o 120 8 < 256) : num (s.extract 0 n ++ o.extract n o.size) 120 8 = num o 120 8 := by
  unfold num at *
  rw [B_mix s o n hs ho (by omega)]
  have ls : (B s).length = 128 := by rw [B_len]; exact hs
  have lo : (B o).length = 128 := by rw [B_len]; exact ho
  congr 2
  by_cases c : n ≤ 120
  · rw [List.drop_append, List.drop_eq_nil_of_le (by rw [List.length_take]; omega), List.nil_append, List.drop_drop]
    congr 1
    rw [List.length_take]
    omega
  · have as7 : ((B s).drop 120).take 7 = List.replicate 7 0 := by
      have l8 : ((B s).drop 120).length = 8 := by rw [List.length_drop]; omega
      rw [List.take_of_length_le (by omega)] at h1
      exact be8_head l8 h1
    have ao : ((B o).drop 120).take 7 = List.replicate 7 0 := by
      have l8 : ((B o).drop 120).length = 8 := by rw [List.length_drop]; omega
      rw [List.take_of_length_le (by omega)] at h2
      exact be8_head l8 h2
    obtain ⟨m, rfl⟩ : ∃ m, n = 120 + m := ⟨n - 120, by omega⟩
    have e1 : ((B s).take (120 + m)).drop 120 = ((B s).drop 120).take m := by rw [List.drop_take, show 120 + m - 120 = m by omega]
    have e2 : ((B s).drop 120).take m = ((B o).drop 120).take m := by
      have x1 := congrArg (List.take m) as7
      have x2 := congrArg (List.take m) ao
      rw [List.take_take, Nat.min_eq_left (by omega)] at x1 x2
      rw [x1, x2]
    rw [List.drop_append, e1, e2, List.length_take, show 120 - min (120 + m) (B s).length = 0 by omega, List.drop_zero, ← List.drop_drop, List.take_append_drop]
theorem mix_size (s o : ByteArray) (n : Nat) (hs : s.size = 128) (ho : o.size = 128) (hn : n ≤ 128) : (s.extract 0 n ++ o.extract n o.size).size = 128 := by
  rw [ByteArray.size_append, ByteArray.size_extract, ByteArray.size_extract]; omega
theorem mix_all (s o : ByteArray) (hs : s.size = 128) (ho : o.size = 128) : s.extract 0 128 ++ o.extract 128 o.size = s := by
  apply B_inj
  rw [B_mix s o 128 hs ho (by omega), List.take_of_length_le (by rw [B_len]; omega), List.drop_eq_nil_of_le (by rw [B_len]; omega), List.append_nil]
theorem save_ways {S : List ByteArray} {e : Int} {l q : List Part} (h : Inv S e l) (hq : RightM (e + 1) q) {f : Int} (hf : -1 ≤ f) (hf2 : f ≤ 9223372036854775807) :
    (∃ f', -1 ≤ f' ∧ saveF S [] f false (e + 1) q = (S.set (slot e).toNat (sectorS (e + 1) q), [], f', false, 0)) ∨
    (∃ f', -1 ≤ f' ∧ saveF S [] f false (e + 1) q = (S, [⟨slot e, sectorS (e + 1) q⟩], f', true, 9)) := by
  have hc := of_right (h.right hf)
  have hl := load_inv h hf
  have hz := sectorS_size (e + 1) q hq.2.2.1
  have hs : 0 ≤ slot e ∧ slot e < (S.length : Int) := by rw [h.len]; rcases slot_or e with ⟨s, _⟩ | ⟨s, _⟩ <;> omega
  have hw : writeF S [] f false (slot e) (sectorS (e + 1) q) = (S, [⟨slot e, sectorS (e + 1) q⟩], (powerF f false).2.1, (powerF f false).2.2, (powerF f false).1) := by
    unfold writeF
    rw [if_pos hc, if_neg (by decide), if_neg (by unfold hasF; simp [hs.1, hs.2]), if_neg (by rw [hz]; simp), if_neg (by simp)]
    rfl
  have hsave : saveF S [] f false (e + 1) q = (if (powerF f false).1 = 0 then flushF S [⟨slot e, sectorS (e + 1) q⟩] (powerF f false).2.1 (powerF f false).2.2 else (S, [⟨slot e, sectorS (e + 1) q⟩], (powerF f false).2.1, (powerF f false).2.2, (powerF f false).1)) := by
    unfold saveF
    rw [if_pos hc, if_pos (rightI_yes hq), if_neg (by decide), hl, if_neg (show ¬ ((if e = 0 then (3 : Int) else 0) = 1 ∨ e + 1 - 1 ≠ e) by
      rintro (z | z)
      · split at z <;> exact absurd z (by decide)
      · omega), show (e + 1) % 2 = slot e from rfl, hw]
  rw [hsave]
  have hr := right_put (f' := f) (h.right hf) hs.1 hs.2 hz (by simp) hf
  rw [List.nil_append] at hr
  by_cases c0 : f = 0
  · have hp : powerF f false = (9, f, true) := by unfold powerF; rw [if_neg (by decide), if_pos c0]
    rw [hp, if_neg (show ¬ (9 : Int) = 0 by decide)]
    exact .inr ⟨f, hf, rfl⟩
  · obtain ⟨g, hg, hg2, hp⟩ : ∃ g, -1 ≤ g ∧ g ≤ 9223372036854775807 ∧ powerF f false = (0, g, false) := by
      unfold powerF
      rw [if_neg (by decide), if_neg c0]
      by_cases c1 : f > 0
      · rw [if_pos c1]
        have : wrap64 (f - 1) = f - 1 := by unfold wrap64; omega
        rw [this]; exact ⟨f - 1, by omega, by omega, rfl⟩
      · rw [if_neg c1]; exact ⟨f, hf, hf2, rfl⟩
    rw [hp, if_pos rfl]
    have hr' : RightDisk S [⟨slot e, sectorS (e + 1) q⟩] g := by
      have := right_put (f' := g) (h.right hf) hs.1 hs.2 hz (by simp) hg
      rw [List.nil_append] at this
      exact this
    unfold flushF
    rw [if_pos (of_right hr')]
    by_cases c1 : g = 0
    · have hp2 : powerF g false = (9, g, true) := by unfold powerF; rw [if_neg (by decide), if_pos c1]
      rw [hp2, if_neg (show ¬ (9 : Int) = 0 by decide)]
      exact .inr ⟨g, hg, rfl⟩
    · obtain ⟨g', hg', hp2⟩ : ∃ g', -1 ≤ g' ∧ powerF g false = (0, g', false) := by
        unfold powerF
        rw [if_neg (by decide), if_neg c1]
        by_cases c2 : g > 0
        · rw [if_pos c2]
          have : wrap64 (g - 1) = g - 1 := by unfold wrap64; omega
          rw [this]; exact ⟨g - 1, by omega, rfl⟩
        · rw [if_neg c2]; exact ⟨g, hg, rfl⟩
      rw [hp2, if_pos rfl]
      exact .inl ⟨g', hg', rfl⟩
theorem MSame_no (e e' : Int) (l l' : List Part) (h : ¬ e = e') : Ev (fun k => spoorref06_Same.f k e l e' l') false := by
  unfold spoorref06_Same.f
  simp only [if_neg h]
  refine Ev.step (fun k => ?_) (Ev.now _)
  simp only [spoorref06_Same.j0]
  rw [if_pos trivial]
theorem crash_ways {S : List ByteArray} {e : Int} {l q : List Part} (h : Inv S e l) (he : e < 255) (hq : RightM (e + 1) q) (K : List Bool) (torn : Int) (n : Nat) (hn : n ≤ 128) :
    crashF K torn n S [⟨slot e, sectorS (e + 1) q⟩] = S.set (slot e).toNat (sectorS (e + 1) q) ∨ Inv (crashF K torn n S [⟨slot e, sectorS (e + 1) q⟩]) e l := by
  have hz := sectorS_size (e + 1) q hq.2.2.1
  have hlo := h.lo
  obtain ⟨hs, hb⟩ := inv_before h
  have hsn : 0 ≤ slot e := by rcases slot_or e with ⟨s, _⟩ | ⟨s, _⟩ <;> omega
  have hst : (((slot e).toNat : Nat) : Int) = slot e := by omega
  have e1 : crashF K torn n S [⟨slot e, sectorS (e + 1) q⟩] = crashStep K torn n 0 ⟨slot e, sectorS (e + 1) q⟩ S := rfl
  rw [e1]
  unfold crashStep
  split
  · have ho : rdOf (⟨#[]⟩ : ByteArray) S (slot e) = S[(slot e).toNat] := by
      have := rdOf_at (⟨#[]⟩ : ByteArray) S (slot e).toNat hs
      rw [hst] at this
      exact this
    show S.set (slot e).toNat ((sectorS (e + 1) q).extract 0 n ++ (rdOf (⟨#[]⟩ : ByteArray) S (slot e)).extract n (rdOf (⟨#[]⟩ : ByteArray) S (slot e)).size) = _ ∨ Inv (S.set (slot e).toNat ((sectorS (e + 1) q).extract 0 n ++ (rdOf (⟨#[]⟩ : ByteArray) S (slot e)).extract n (rdOf (⟨#[]⟩ : ByteArray) S (slot e)).size)) e l
    rw [ho]
    have hoz := h.sizes S[(slot e).toNat] (List.getElem_mem hs)
    by_cases c : n = 128
    · subst c
      rw [mix_all _ _ hz hoz]
      exact .inl rfl
    · refine .inr (inv_other h _ (mix_size _ _ n hz hoz hn) ?_)
      have hb2 : before e < 256 := by unfold before; split <;> omega
      rw [mix_tail _ _ n hz hoz (by omega) (by rw [(sector_bears hq).2.1]; omega) (by rw [hb]; exact hb2)]
      exact hb
  · split
    · exact .inl rfl
    · exact .inr h
theorem j2_ev (fs : List Int) (K : List Bool) (torn b : Int) (L : List (List Part)) (i : Int) {S : List ByteArray} {e : Int} {p : List Part} (f : Int) (h : Inv S e p) (hp : p.length < 9223372036854775807)
    (hn : Ev (fun k => spoorlaw06_ManifestTurns.l0 k fs K torn b 0 L (L.length : Int) (wrap64 (i + 1)) S [] (-1) false e p) true) :
    Ev (fun k => spoorlaw06_ManifestTurns.j2 k fs K torn b 0 L (L.length : Int) i e S [] f false p) true := by
  have hl := Load_ev S [] (-1) false
  rw [load_inv h (by omega)] at hl
  have hlo := h.lo
  refine Ev.step (f := fun k => (manifest_Load.f k S [] (-1) false).bind fun bt268 => (if ((bt268.2.2 == 0) != (decide (e > 0))) = true then (none) else ((spoorref06_Same.f k bt268.1 bt268.2.1 e p).bind fun t274 => (if t274 = true then (spoorlaw06_ManifestTurns.l0 k fs K torn b 0 L (L.length : Int) (wrap64 (i + 1)) S [] (-1) false e p) else (none))))) (fun k => by simp only [spoorlaw06_ManifestTurns.j2]) (Ev.bind hl ?_)
  have hb : (((if e = 0 then (3 : Int) else 0) == 0) != decide (e > 0)) = false := by
    by_cases z : e = 0
    · rw [if_pos z, decide_eq_false (by omega)]; rfl
    · rw [if_neg z, decide_eq_true (by omega)]; rfl
  simp only [hb, Bool.false_eq_true, if_false]
  refine Ev.bind (MSame_ev e p hp) ?_
  simp only [if_true]
  exact hn
theorem j1_ev (fs : List Int) (K : List Bool) (torn b : Int) (L : List (List Part)) (i : Int) {S : List ByteArray} {e : Int} {p q : List Part} (f : Int) (h : Inv S e p) (he : e < 255) (hq : RightM (e + 1) q) (hf : -1 ≤ f) (hf2 : f ≤ 9223372036854775807)
    (hn : ∀ S' e' p' f', Inv S' e' p' → (e' = e ∧ p' = p) ∨ (e' = e + 1 ∧ p' = q) → Ev (fun k => spoorlaw06_ManifestTurns.j2 k fs K torn b 0 L (L.length : Int) i e' S' [] f' false p') true) :
    Ev (fun k => spoorlaw06_ManifestTurns.j1 k fs K torn b 0 L (L.length : Int) i S [] f false e (e + 1) q p) true := by
  have hlo := h.lo
  have hs := Save_ev S [] f false (e + 1) q (by omega)
  have hstep : ∀ k, spoorlaw06_ManifestTurns.j1 (k + 1) fs K torn b 0 L (L.length : Int) i S [] f false e (e + 1) q p = (manifest_Save.f k S [] f false (e + 1) q).bind fun bt242 => (if bt242.2.2.2.2 = 0 then (spoorlaw06_ManifestTurns.j2 k fs K torn b 0 L (L.length : Int) i (e + 1) bt242.1 bt242.2.1 bt242.2.2.1 bt242.2.2.2.1 q) else (if bt242.2.2.2.2 = 9 then ((disk_Crash.f bt242.1 bt242.2.1 bt242.2.2.1 bt242.2.2.2.1 K torn b).bind fun bt252 => ((manifest_Load.f k bt252.1 bt252.2.1 bt252.2.2.1 bt252.2.2.2.1).bind fun bt261 => (if bt261.2.2 = 0 then ((spoorref06_Same.f k bt261.1 bt261.2.1 (e + 1) q).bind fun t267 => (if t267 = true then (spoorlaw06_ManifestTurns.j2 k fs K torn b 0 L (L.length : Int) i (e + 1) bt252.1 bt252.2.1 bt252.2.2.1 bt252.2.2.2.1 q) else (spoorlaw06_ManifestTurns.j2 k fs K torn b 0 L (L.length : Int) i e bt252.1 bt252.2.1 bt252.2.2.1 bt252.2.2.2.1 p))) else (spoorlaw06_ManifestTurns.j2 k fs K torn b 0 L (L.length : Int) i e bt252.1 bt252.2.1 bt252.2.2.1 bt252.2.2.2.1 p)))) else (none))) := fun k => by simp only [spoorlaw06_ManifestTurns.j1]
  refine Ev.step hstep (Ev.bind hs ?_)
  rcases save_ways h hq hf hf2 with ⟨f', hf', ew⟩ | ⟨f', hf', ew⟩
  · rw [ew]
    simp only [if_true]
    exact hn _ _ _ _ (inv_next h hq) (.inr ⟨rfl, rfl⟩)
  · rw [ew]
    simp only [if_neg (show ¬ (9 : Int) = 0 by decide), if_true]
    have hz := sectorS_size (e + 1) q hq.2.2.1
    have hsl : 0 ≤ slot e ∧ slot e < (S.length : Int) := by rw [h.len]; rcases slot_or e with ⟨s, _⟩ | ⟨s, _⟩ <;> omega
    have hr := right_put (f' := f') (h.right hf) hsl.1 hsl.2 hz (by simp) hf'
    rw [List.nil_append] at hr
    have hcr : disk_Crash.f S [⟨slot e, sectorS (e + 1) q⟩] f' true K torn b = some (crashF K torn (max 0 (min b 128)).toNat S [⟨slot e, sectorS (e + 1) q⟩], [], -1, false, 0) := by
      unfold disk_Crash.f
      rw [if_pos (of_right hr)]
    rw [hcr]
    simp only [Option.bind_some]
    have hnb : (max 0 (min b 128)).toNat ≤ 128 := by omega
    rcases crash_ways h he hq K torn _ hnb with e1 | hI
    · rw [e1]
      have hI := inv_next h hq
      have hl := Load_ev (S.set (slot e).toNat (sectorS (e + 1) q)) [] (-1) false
      rw [load_inv hI (by omega), if_neg (show ¬ e + 1 = 0 by omega)] at hl
      refine Ev.bind hl ?_
      simp only [if_true]
      refine Ev.bind (MSame_ev (e + 1) q (by have := hq.2.2.1; omega)) ?_
      simp only [if_true]
      exact hn _ _ _ _ hI (.inr ⟨rfl, rfl⟩)
    · have hl := Load_ev (crashF K torn (max 0 (min b 128)).toNat S [⟨slot e, sectorS (e + 1) q⟩]) [] (-1) false
      rw [load_inv hI (by omega)] at hl
      refine Ev.bind hl ?_
      by_cases z : e = 0
      · simp only [if_pos z, if_neg (show ¬ (3 : Int) = 0 by decide)]
        exact hn _ _ _ _ hI (.inl ⟨rfl, rfl⟩)
      · simp only [if_neg z, if_true]
        refine Ev.bind (MSame_no e (e + 1) p q (by omega)) ?_
        simp only [Bool.false_eq_true, if_false]
        exact hn _ _ _ _ hI (.inl ⟨rfl, rfl⟩)
theorem mx_range (a : Int) (h : -9223372036854775808 ≤ a ∧ a ≤ 9223372036854775807) : -1 ≤ mx a (-1) ∧ mx a (-1) ≤ 9223372036854775807 := by unfold mx; split <;> omega
theorem rdI_nat (l : List Int) (i : Nat) (h : i < l.length) : rd l (i : Int) = l[i] := by
  first
    | (unfold rd; rw [List.getD_eq_getElem?_getD, Int.toNat_natCast, List.getElem?_eq_getElem h]; rfl)
    | (unfold rd; simp [h])
theorem rdP_nat (l : List (List Part)) (i : Nat) (h : i < l.length) : rd_L6 l (i : Int) = l[i] := by
  unfold rd_L6
  rw [List.getD_eq_getElem?_getD, Int.toNat_natCast, List.getElem?_eq_getElem h]
  rfl
theorem l0_ev (fs : List Int) (hfs : ∀ y ∈ fs, -9223372036854775808 ≤ y ∧ y ≤ 9223372036854775807) (K : List Bool) (torn b : Int) (L : List (List Part)) (hL : L.length ≤ 140737488351232) (d : Nat) : ∀ (i : Nat) (S : List ByteArray) (e : Int) (p : List Part) (f : Int), i + d = L.length → i ≤ 30 → e ≤ (i : Int) → Inv S e p → p.length < 9223372036854775807 → -1 ≤ f → f ≤ 9223372036854775807 →
    Ev (fun k => spoorlaw06_ManifestTurns.l0 k fs K torn b 0 L (L.length : Int) i S [] f false e p) true := by
  induction d with
  | zero =>
    intro i S e p f hi h30 hei h hp hf hf2
    refine Ev.step (fun k => ?_) (Ev.now _)
    simp only [spoorlaw06_ManifestTurns.l0]
    rw [if_neg (by omega)]
    rfl
  | succ d ih =>
    intro i S e p f hi h30 hei h hp hf hf2
    have hlt : i < L.length := by omega
    have hlo := h.lo
    by_cases c : i = 30
    · refine Ev.step (fun k => ?_) (Ev.now _)
      simp only [spoorlaw06_ManifestTurns.l0]
      rw [if_pos (by omega), if_pos (by omega), if_pos (by omega), if_pos (by omega)]
      rfl
    · have hw : IntKind.u64.wrap (e + 1) = e + 1 := by rw [IntKind.wrap_u64]; omega
      have hcheck : manifest_Check.f (e + 1) L[i] = some (rightI (RightM (e + 1) L[i])) := by unfold manifest_Check.f; rw [checkM_ev (e + 1) L[i] (by omega)]
      have hstep : ∀ k, spoorlaw06_ManifestTurns.l0 (k + 1) fs K torn b 0 L (L.length : Int) i S [] f false e p = (if rightI (RightM (e + 1) L[i]) = 0 then (if (i : Int) < (fs.length : Int) then (spoorlaw06_ManifestTurns.j1 k fs K torn b 0 L (L.length : Int) i S [] (mx (rd fs (i : Int)) (-1)) false e (e + 1) L[i] p) else (spoorlaw06_ManifestTurns.j1 k fs K torn b 0 L (L.length : Int) i S [] (-1) false e (e + 1) L[i] p)) else (spoorlaw06_ManifestTurns.l0 k fs K torn b 0 L (L.length : Int) ((i + 1 : Nat) : Int) S [] f false e p)) := fun k => by
        simp only [spoorlaw06_ManifestTurns.l0]
        rw [if_pos (by omega), if_pos (by omega), if_pos (by omega), if_neg (by omega), hw, rdP_nat L i hlt, hcheck, wrap_up i (by omega)]
        rfl
      refine Ev.step hstep ?_
      by_cases hr : RightM (e + 1) L[i]
      · simp only [rightI_yes hr, if_true]
        have next : ∀ S' e' p' f', Inv S' e' p' → (e' = e ∧ p' = p) ∨ (e' = e + 1 ∧ p' = L[i]) → Ev (fun k => spoorlaw06_ManifestTurns.j2 k fs K torn b 0 L (L.length : Int) i e' S' [] f' false p') true := by
          intro S' e' p' f' hI hep
          have hp' : p'.length < 9223372036854775807 := by
            rcases hep with ⟨_, e2⟩ | ⟨_, e2⟩
            · rw [e2]; exact hp
            · rw [e2]; have := hr.2.2.1; omega
          refine j2_ev fs K torn b L (i : Int) f' hI hp' ?_
          rw [wrap_up i (by omega)]
          exact ih (i + 1) S' e' p' (-1) (by omega) (by omega) (by rcases hep with ⟨e2, _⟩ | ⟨e2, _⟩ <;> omega) hI hp' (by omega) (by omega)
        by_cases g : (i : Int) < (fs.length : Int)
        · simp only [if_pos g]
          have hg : i < fs.length := by omega
          have hm := mx_range _ (hfs fs[i] (List.getElem_mem hg))
          rw [rdI_nat fs i hg]
          exact j1_ev fs K torn b L (i : Int) _ h (by omega) hr hm.1 hm.2 next
        · simp only [if_neg g]
          exact j1_ev fs K torn b L (i : Int) _ h (by omega) hr (by omega) (by omega) next
      · simp only [rightI_no hr, if_neg (show ¬ (2 : Int) = 0 by decide)]
        exact ih (i + 1) S e p f (by omega) (by omega) (by omega) h hp hf hf2
theorem zero_tail : num zero128 120 8 = 0 := by decide +kernel
theorem ManifestTurns : spoorlaw06_ManifestTurns.Pure := by
  intro L fs K torn b hL hfs hK ht hb
  apply Ev.rounds
  unfold spoorlaw06_ManifestTurns.f
  refine Ev.bind lives_ev ?_
  simp only [if_true]
  have hm : disk_Make.f 3 = some (List.replicate 3 zero128, [], -1, false, 0) := rfl
  rw [hm]
  simp only [Option.bind_some]
  have hz : ∀ s ∈ List.replicate 3 zero128, s.size = 128 := fun s hs => by rw [List.eq_of_mem_replicate hs]; decide +kernel
  have hI : Inv (List.replicate 3 zero128) 0 [] := ⟨rfl, hz, Int.le_refl 0, fun _ => ⟨rfl, fun _ => zero_tail, fun _ => zero_tail⟩, fun z => absurd z (by decide), fun z => absurd z (by decide)⟩
  exact l0_ev fs (fun y hy => wf_range (hfs.2 y hy)) K torn b L (by omega) L.length 0 _ 0 [] (-1) (by omega) (by omega) (Int.le_refl 0) hI (by simp) (by omega) (by omega)
end Go.Proofs.Ytjagplonneednaa.Pure
