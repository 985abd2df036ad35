/- What reading, writing, sealing and opening of sums come to, and products and powers. -/
import Derived.Test.YtjagplonneednaaZCrcEv
set_option linter.unusedVariables false
set_option linter.unusedSimpArgs false
namespace Go.Proofs.Ytjagplonneednaa.Pure
open Go.RowKit Go.Proofs.Ytjagplonneednaa.P Go.Proofs.YtjagplonneednaaW.PrintWords Go.Proofs.YtjagplonneednaaW.PrintLast
def be (l : List UInt8) : Int := l.foldl (fun n b => 256 * n + (b.toNat : Int)) 0
theorem u8_of (n : Int) (h0 : 0 ≤ n) (h1 : n < 256) : ((UInt8.ofNat n.toNat).toNat : Int) = n := by
  rw [UInt8.toNat_ofNat']
  omega
theorem be_snoc (l : List UInt8) (b : UInt8) : be (l ++ [b]) = 256 * be l + b.toNat := by simp [be, List.foldl_append]
theorem be_lt (l : List UInt8) : 0 ≤ be l ∧ be l < 256 ^ l.length := by
  induction h : l.length generalizing l with
  | zero => obtain rfl := List.eq_nil_of_length_eq_zero h; simp [be]
  | succ n ih =>
    have hne : l ≠ [] := by intro e; rw [e] at h; simp at h
    obtain ⟨m, b, rfl⟩ : ∃ m b, l = m ++ [b] := ⟨l.dropLast, l.getLast hne, (List.dropLast_concat_getLast hne).symm⟩
    rw [be_snoc]
    have := ih m (by simpa using h)
    have := b.toNat_lt
    rw [Int.pow_succ]
    omega
end Go.Proofs.Ytjagplonneednaa.Pure
