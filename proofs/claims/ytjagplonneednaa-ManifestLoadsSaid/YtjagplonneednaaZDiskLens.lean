-- kept, by a program of this session, of texts that the printer or this session wrote
import Derived.Test.YtjagplonneednaaZPx1039
import Derived.Test.YtjagplonneednaaZPx1040
import Derived.Test.YtjagplonneednaaZPx30016
import Derived.Test.YtjagplonneednaaZDiskCheck
import Derived.Test.YtjagplonneednaaZPx30022
import Derived.Test.YtjagplonneednaaZDiskBase
section
set_option linter.unusedVariables false
set_option linter.unusedSimpArgs false
namespace Go.Proofs.Ytjagplonneednaa.Pure
open Go.RowKit Go.Proofs.Ytjagplonneednaa.P Go.Proofs.YtjagplonneednaaW.PrintWords Go.Proofs.YtjagplonneednaaW.PrintLast Go.Proofs.YtjagplonneednaaW.PrintMore
theorem RWrite_ev (S : List ByteArray) (C : List S74) (f : Int) (o : Bool) (at_ : Int) (data : ByteArray) : Ev (fun k => spoorref03_Write.f k S C f o at_ data) (writeF S C f o at_ data) := by
  unfold spoorref03_Write.f writeF
  refine Ev.bind (RCheck_ev S C f o) ?_
  by_cases c : checkF S C f = 0
  · obtain ⟨_, hS, hC⟩ := checkF_in S C f c
    have hj : ∀ b : Bool, hasF S.length at_ = !b → Ev (fun k => spoorref03_Write.j0 k at_ data b S C f false) (if hasF S.length at_ = false then (S, C, f, false, 1) else if ¬ data.size = 128 then (S, C, f, false, 11) else if C.length = 4096 then (S, C, f, false, 8) else (S, C ++ [⟨at_, data⟩], (powerF f false).2.1, (powerF f false).2.2, (powerF f false).1)) := by
      intro b hb
      rw [hb]
      refine Ev.step (f := fun _ => some _) (fun k => ?_) (Ev.now _)
      simp only [spoorref03_Write.j0]
      cases b with
      | true => rfl
      | false =>
        rw [if_neg (by decide), if_neg (show ¬ ((!false) = false) from nofun)]
        by_cases hd : data.size = 128
        · rw [if_pos (show (data.size : Int) = 128 by omega), if_neg (show ¬ ¬ data.size = 128 from fun z => z hd)]
          by_cases hl : C.length = 4096
          · rw [if_pos (show (C.length : Int) = 4096 by omega), if_pos hl]
          · rw [if_neg (show ¬ (C.length : Int) = 4096 by omega), if_neg hl, if_pos (show C.length < 5864062014805 by omega)]
            simp only [Option.bind_some]
            unfold powerF
            rw [if_neg (show ¬ (false = true) from nofun)]
            by_cases z : f = 0
            · rw [if_pos z, if_pos z]
            · rw [if_neg z, if_neg z]
              by_cases y : f > 0
              · rw [if_pos y, if_pos y]
              · rw [if_neg y, if_neg y]
        · rw [if_neg (show ¬ (data.size : Int) = 128 by omega), if_pos hd]
    simp only [if_pos c, RCopy_now S C f o (by omega) (by omega), Option.bind_some]
    cases o with
    | true => simp only [if_true]; exact Ev.now _
    | false =>
      simp only [if_neg (show ¬ (false = true) by decide)]
      by_cases h0 : at_ < 0
      · simp only [if_pos h0]
        exact hj true (by unfold hasF; rw [decide_eq_false (by omega)]; rfl)
      · simp only [if_neg h0]
        refine hj _ ?_
        unfold hasF
        rw [decide_eq_true (by omega), Bool.true_and]
        by_cases h1 : at_ < (S.length : Int)
        · rw [decide_eq_true h1, decide_eq_false (by omega)]; rfl
        · rw [decide_eq_false h1, decide_eq_true (by omega)]; rfl
  · simp only [if_neg c]
    exact Ev.now _
theorem RFlush_ev (S : List ByteArray) (C : List S74) (f : Int) (o : Bool) : Ev (fun k => spoorref03_Flush.f k S C f o) (flushF S C f o) := by
  unfold spoorref03_Flush.f flushF
  refine Ev.bind (RCheck_ev S C f o) ?_
  by_cases c : checkF S C f = 0
  · obtain ⟨hin, hS, hC⟩ := checkF_in S C f c
    simp only [if_pos c, if_pos (show S.length < 8796093022208 ∧ C.length < 5864062014805 by omega), if_pos hin]
    unfold powerF
    cases o with
    | true => simp only [if_true]; exact Ev.now _
    | false =>
      simp only [if_neg (show ¬ (false = true) by decide)]
      by_cases z : f = 0
      · simp only [if_pos z]; exact Ev.now _
      · simp only [if_neg z]
        by_cases y : f > 0
        · simp only [if_pos y, if_true]; exact Ev.now _
        · simp only [if_neg y, if_true]; exact Ev.now _
  · simp only [if_neg c]
    exact Ev.now _
theorem RRead_ev (S : List ByteArray) (C : List S74) (f : Int) (o : Bool) (at_ : Int) : Ev (fun k => spoorref03_Read.f k S C f o at_) (readF S C f o at_) := by
  unfold spoorref03_Read.f readF
  refine Ev.bind (RCheck_ev S C f o) ?_
  by_cases c : checkF S C f = 0
  · obtain ⟨_, hS, hC⟩ := checkF_in S C f c
    simp only [if_pos c]
    cases o with
    | true => simp only [if_true]; exact Ev.now _
    | false =>
      simp only [if_neg (show ¬ (false = true) by decide)]
      by_cases h0 : at_ < 0
      · have : hasF S.length at_ = false := by unfold hasF; rw [decide_eq_false (by omega)]; rfl
        simp only [if_pos h0, this, if_true]; exact Ev.now _
      · by_cases h1 : at_ ≥ (S.length : Int)
        · have : hasF S.length at_ = false := by unfold hasF; rw [decide_eq_false (show ¬ at_ < (S.length : Int) by omega), Bool.and_false]
          simp only [if_neg h0, if_pos h1, this, if_true]; exact Ev.now _
        · have : hasF S.length at_ = true := by unfold hasF; rw [decide_eq_true (by omega), decide_eq_true (by omega)]; rfl
          simp only [if_neg h0, if_neg h1, this, if_neg (show ¬ (true = false) by decide)]
          exact Ev.bind (Rholds_ev S C f false at_ hC this) (Ev.now _)
  · simp only [if_neg c]
    exact Ev.now _
end Go.Proofs.Ytjagplonneednaa.Pure
end
section
set_option linter.unusedVariables false
set_option linter.unusedSimpArgs false
namespace Go.Proofs.Ytjagplonneednaa.Pure
open Go.RowKit Go.Proofs.Ytjagplonneednaa.P Go.Proofs.YtjagplonneednaaW.PrintWords Go.Proofs.YtjagplonneednaaW.PrintLast Go.Proofs.YtjagplonneednaaW.PrintMore
theorem writeF_len (S : List ByteArray) (C : List S74) (f : Int) (o : Bool) (a : Int) (d : ByteArray) : (writeF S C f o a d).1.length ≤ 1024 ∧ (writeF S C f o a d).2.1.length ≤ 4097 := by
  unfold writeF
  by_cases c : checkF S C f = 0
  · have := checkF_in S C f c
    rw [if_pos c]
    repeat' split
    all_goals (constructor <;> (try simp only [List.length_append, List.length_cons, List.length_nil]) <;> omega)
  · rw [if_neg c]
    exact ⟨Nat.zero_le _, Nat.zero_le _⟩
theorem flushF_len (S : List ByteArray) (C : List S74) (f : Int) (o : Bool) : (flushF S C f o).1.length ≤ 1024 ∧ (flushF S C f o).2.1.length ≤ 4097 := by
  unfold flushF
  by_cases c : checkF S C f = 0
  · have := checkF_in S C f c
    rw [if_pos c]
    repeat' split
    all_goals (constructor <;> (try simp only [applyF_len, List.length_nil]) <;> omega)
  · rw [if_neg c]
    exact ⟨Nat.zero_le _, Nat.zero_le _⟩
end Go.Proofs.Ytjagplonneednaa.Pure
end
