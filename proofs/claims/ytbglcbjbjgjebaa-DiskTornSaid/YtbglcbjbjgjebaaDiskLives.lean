/- The answers of layer 3 that its statements ask for are given. -/
import Derived.Test.YtbglcbjbjgjebaaPx23
import Derived.Test.YtbglcbjbjgjebaaDiskBase
set_option linter.unusedVariables false
set_option linter.unusedSimpArgs false
namespace Go.Proofs.Ytbglcbjbjgjebaa.Pure
open Go.RowKit Go.Proofs.Ytbglcbjbjgjebaa.P Go.Proofs.YtbglcbjbjgjebaaW.PrintWords Go.Proofs.YtbglcbjbjgjebaaW.PrintLast Go.Proofs.YtbglcbjbjgjebaaW.PrintMore
theorem lives_ev : Ev (fun k => spoorlaw03_lives.f k) true := Ev.of spoorlaw03_lives.mono (k := 200) (by kernel_rfl)
theorem writeF_len (S : List ByteArray) (C : List S40) (f : Int) (o : Bool) (a : Int) (d : ByteArray) : (writeF S C f o a d).1.length ≤ 1024 ∧ (writeF S C f o a d).2.1.length ≤ 4097 := by
  unfold writeF
  by_cases c : checkF S C f = 0
  · have := checkF_in S C f c
    rw [if_pos c]
    repeat' split
    all_goals (constructor <;> (try simp only [List.length_append, List.length_cons, List.length_nil]) <;> omega)
  · rw [if_neg c]
    exact ⟨Nat.zero_le _, Nat.zero_le _⟩
theorem flushF_len (S : List ByteArray) (C : List S40) (f : Int) (o : Bool) : (flushF S C f o).1.length ≤ 1024 ∧ (flushF S C f o).2.1.length ≤ 4097 := by
  unfold flushF
  by_cases c : checkF S C f = 0
  · have := checkF_in S C f c
    rw [if_pos c]
    repeat' split
    all_goals (constructor <;> (try simp only [applyF_len, List.length_nil]) <;> omega)
  · rw [if_neg c]
    exact ⟨Nat.zero_le _, Nat.zero_le _⟩
end Go.Proofs.Ytbglcbjbjgjebaa.Pure
