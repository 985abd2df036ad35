/- Disks: small facts. -/
import Derived.Test.YtbglcbjbjgjebaaPx4
import Derived.Test.YtbglcbjbjgjebaaPx8
import Derived.Test.YtbglcbjbjgjebaaPx12
import Derived.Test.YtbglcbjbjgjebaaPx15
import Derived.Test.YtbglcbjbjgjebaaPx29
set_option linter.unusedVariables false
set_option linter.unusedSimpArgs false
namespace Go.Proofs.Ytbglcbjbjgjebaa.Pure
open Go.RowKit Go.Proofs.Ytbglcbjbjgjebaa.P Go.Proofs.YtbglcbjbjgjebaaW.PrintWords Go.Proofs.YtbglcbjbjgjebaaW.PrintLast Go.Proofs.YtbglcbjbjgjebaaW.PrintMore
theorem up_ (i : Nat) (h : i < 9223372036854775807) : wrap64 ((i : Int) + 1) = ((i + 1 : Nat) : Int) := by
  unfold wrap64
  omega
theorem rdE (l : List ByteArray) (i : Nat) (h : i < l.length) : rdOf ByteArray.empty l (i : Int) = l[i] := rdOf_at _ l i h
theorem rdP (l : List S40) (i : Nat) (h : i < l.length) : rd_T40 l (i : Int) = l[i] := rdOf_at z40 l i h
theorem badF_iff (n : Nat) (p : S40) : badF n p = true ↔ p.f0 < 0 ∨ p.f0 ≥ (n : Int) ∨ ¬ (p.f1.size : Int) = 128 := by
  unfold badF hasF
  simp only [Bool.or_eq_true, Bool.not_eq_true', Bool.and_eq_false_iff, decide_eq_false_iff_not, bne_iff_ne, ne_eq]
  omega
theorem backs_find (C : List S40) (at_ : Int) (s : ByteArray) : ∀ n, n ≤ C.length → (match (backs C n).find? (fun x => x.2.f0 == at_) with | some x => x.2.f1 | none => s) = (C.take n).foldl (fun s p => if p.f0 = at_ then p.f1 else s) s := by
  intro n
  induction n with
  | zero => intro _; rfl
  | succ n ih =>
    intro h
    have hlt : n < C.length := h
    rw [List.take_succ_eq_append_getElem hlt, List.foldl_append, ← ih (by omega)]
    show (match (((n : Int), C.getD n z40) :: backs C n).find? (fun x => x.2.f0 == at_) with | some x => x.2.f1 | none => s) = _
    have hg : C.getD n z40 = C[n] := by rw [List.getD_eq_getElem?_getD, List.getElem?_eq_getElem hlt]; rfl
    rw [hg, List.find?_cons]
    simp only [List.foldl_cons, List.foldl_nil]
    by_cases e : C[n].f0 = at_
    · rw [if_pos e]
      simp [e]
    · rw [if_neg e]
      have : (C[n].f0 == at_) = false := beq_eq_false_iff_ne.mpr e
      simp [this]
theorem holdsF_fold (S : List ByteArray) (C : List S40) (at_ : Int) : holdsF S C at_ = C.foldl (fun s p => if p.f0 = at_ then p.f1 else s) (rdOf ByteArray.empty S at_) := by
  have := backs_find C at_ (rdOf ByteArray.empty S at_) C.length (Nat.le_refl _)
  rw [List.take_length] at this
  exact this
end Go.Proofs.Ytbglcbjbjgjebaa.Pure
