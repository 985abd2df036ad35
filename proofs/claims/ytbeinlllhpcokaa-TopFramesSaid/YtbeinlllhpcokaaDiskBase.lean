/- Disks: small facts. -/
import Derived.Test.YtbeinlllhpcokaaPx14
import Derived.Test.YtbeinlllhpcokaaPx18
set_option linter.unusedVariables false
set_option linter.unusedSimpArgs false
namespace Go.Proofs.Ytbeinlllhpcokaa.Pure
open Go.RowKit Go.Proofs.Ytbeinlllhpcokaa.P Go.Proofs.YtbeinlllhpcokaaW.PrintWords Go.Proofs.YtbeinlllhpcokaaW.PrintLast Go.Proofs.YtbeinlllhpcokaaW.PrintMore
theorem up_ (i : Nat) (h : i < 9223372036854775807) : wrap64 ((i : Int) + 1) = ((i + 1 : Nat) : Int) := by
  unfold wrap64
  omega
theorem rdE (l : List ByteArray) (i : Nat) (h : i < l.length) : rdOf ByteArray.empty l (i : Int) = l[i] := rdOf_at _ l i h
theorem rdP (l : List S61) (i : Nat) (h : i < l.length) : rd_T61 l (i : Int) = l[i] := rdOf_at z61 l i h
theorem badF_iff (n : Nat) (p : S61) : badF n p = true ↔ p.f0 < 0 ∨ p.f0 ≥ (n : Int) ∨ ¬ (p.f1.size : Int) = 128 := by
  unfold badF hasF
  simp only [Bool.or_eq_true, Bool.not_eq_true', Bool.and_eq_false_iff, decide_eq_false_iff_not, bne_iff_ne, ne_eq]
  omega
theorem hasF_in_ {n : Nat} {a : Int} (h : hasF n a = true) : 0 ≤ a ∧ a < (n : Int) := by
  unfold hasF at h
  simpa using h
end Go.Proofs.Ytbeinlllhpcokaa.Pure
