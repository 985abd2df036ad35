-- kept, by a program of this session, of texts that the printer or this session wrote
import Derived.Test.YtjagplonneednaaZPx1015
import Derived.Test.YtjagplonneednaaZManiGet
import Derived.Test.YtjagplonneednaaZPx1033
import Derived.Test.YtjagplonneednaaZPx30022
section
set_option linter.unusedVariables false
set_option linter.unusedSimpArgs false
namespace Go.Proofs.Ytjagplonneednaa.Pure
open Go.RowKit Go.Proofs.Ytjagplonneednaa.P Go.Proofs.YtjagplonneednaaW.PrintWords Go.Proofs.YtjagplonneednaaW.PrintLast Go.Proofs.YtjagplonneednaaW.PrintMore
theorem MSame_l0 (e e' : Int) (l : List S56) (hl : l.length < 9223372036854775807) (d : Nat) : ∀ i : Nat, i + d = l.length → Ev (fun k => spoorref06_Same.l0 k (l.length : Int) (i : Int) e l e' l) true := by
  induction d with
  | zero =>
    intro i hi
    refine Ev.step (f := fun _ => some true) (fun k => ?_) (Ev.now _)
    simp only [spoorref06_Same.l0]
    rw [if_neg (by omega)]
  | succ d ih =>
    intro i hi
    refine Ev.step (fun k => ?_) (ih (i + 1) (by omega))
    simp only [spoorref06_Same.l0]
    rw [if_pos (by omega), if_pos (by omega), if_pos (by omega), if_pos (by omega), if_neg (by simp), wrap_up i (by omega)]
theorem MSame_ev (e : Int) (l : List S56) (hl : l.length < 9223372036854775807) : Ev (fun k => spoorref06_Same.f k e l e l) true := by
  unfold spoorref06_Same.f
  simp only [if_true, bne_self_eq_false]
  refine Ev.step (fun k => ?_) (MSame_l0 e e l hl l.length 0 (by omega))
  simp only [spoorref06_Same.j0]
  rw [if_neg nofun]
  rfl
theorem getM_len (s : ByteArray) : (getM s).2.1.length ≤ 8 := by
  unfold getM
  split
  · split
    · simp
    · split
      · simp
      · split
        · rename_i h
          show (parts s (many s)).length ≤ 8
          rw [parts_len]
          exact h.1
        · simp
  · simp
theorem getM_ok {s : ByteArray} (h : (getM s).2.2 = 0) : s.size = 128 ∧ num s 0 8 = num s 120 8 ∧ Bears s ∧ getM s = (num s 0 8, parts s (many s), 0) := by
  unfold getM at h ⊢
  by_cases c : s.size = 128
  · rw [if_pos c] at h ⊢
    by_cases c1 : num s 0 8 = 0 ∨ num s 0 8 ≠ num s 120 8
    · rw [if_pos c1] at h; exact absurd h (by decide)
    · rw [if_neg c1] at h ⊢
      by_cases c2 : num s 116 4 ≠ crcB ((Tools.nums8 s).take 116)
      · rw [if_pos c2] at h; exact absurd h (by decide)
      · rw [if_neg c2] at h ⊢
        by_cases c3 : Bears s
        · exact ⟨c, Decidable.byContradiction fun z => c1 (.inr z), c3, by rw [if_pos c3]⟩
        · rw [if_neg c3] at h; exact absurd h (by decide)
  · rw [if_neg c] at h; exact absurd h (by decide)
end Go.Proofs.Ytjagplonneednaa.Pure
end
section
set_option linter.unusedVariables false
set_option linter.unusedSimpArgs false
namespace Go.Proofs.Ytjagplonneednaa.Pure
open Go.RowKit Go.Proofs.Ytjagplonneednaa.P Go.Proofs.YtjagplonneednaaW.PrintWords Go.Proofs.YtjagplonneednaaW.PrintLast Go.Proofs.YtjagplonneednaaW.PrintMore
theorem up_ (i : Nat) (h : i < 9223372036854775807) : wrap64 ((i : Int) + 1) = ((i + 1 : Nat) : Int) := by
  unfold wrap64
  omega
theorem rdE (l : List ByteArray) (i : Nat) (h : i < l.length) : rdOf ByteArray.empty l (i : Int) = l[i] := rdOf_at _ l i h
theorem rdP (l : List S74) (i : Nat) (h : i < l.length) : rd_T74 l (i : Int) = l[i] := rdOf_at z74 l i h
theorem badF_iff (n : Nat) (p : S74) : badF n p = true ↔ p.f0 < 0 ∨ p.f0 ≥ (n : Int) ∨ ¬ (p.f1.size : Int) = 128 := by
  unfold badF hasF
  simp only [Bool.or_eq_true, Bool.not_eq_true', Bool.and_eq_false_iff, decide_eq_false_iff_not, bne_iff_ne, ne_eq]
  omega
theorem backs_find (C : List S74) (at_ : Int) (s : ByteArray) : ∀ n, n ≤ C.length → (match (backs C n).find? (fun x => x.2.f0 == at_) with | some x => x.2.f1 | none => s) = (C.take n).foldl (fun s p => if p.f0 = at_ then p.f1 else s) s := by
  intro n
  induction n with
  | zero => intro _; rfl
  | succ n ih =>
    intro h
    have hlt : n < C.length := h
    rw [List.take_succ_eq_append_getElem hlt, List.foldl_append, ← ih (by omega)]
    show (match (((n : Int), C.getD n z74) :: backs C n).find? (fun x => x.2.f0 == at_) with | some x => x.2.f1 | none => s) = _
    have hg : C.getD n z74 = C[n] := by rw [List.getD_eq_getElem?_getD, List.getElem?_eq_getElem hlt]; rfl
    rw [hg, List.find?_cons]
    simp only [List.foldl_cons, List.foldl_nil]
    by_cases e : C[n].f0 = at_
    · rw [if_pos e]
      simp [e]
    · rw [if_neg e]
      have : (C[n].f0 == at_) = false := beq_eq_false_iff_ne.mpr e
      simp [this]
theorem holdsF_fold (S : List ByteArray) (C : List S74) (at_ : Int) : holdsF S C at_ = C.foldl (fun s p => if p.f0 = at_ then p.f1 else s) (rdOf ByteArray.empty S at_) := by
  have := backs_find C at_ (rdOf ByteArray.empty S at_) C.length (Nat.le_refl _)
  rw [List.take_length] at this
  exact this
end Go.Proofs.Ytjagplonneednaa.Pure
end
