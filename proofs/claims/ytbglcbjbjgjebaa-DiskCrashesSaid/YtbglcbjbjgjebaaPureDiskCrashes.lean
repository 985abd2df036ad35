/- Whatever a disk is, it comes out of a crash as the document says; so it is with what it holds, and with new ones. No condition beyond the statement's own. -/
import Derived.Test.YtbglcbjbjgjebaaPx32
import Derived.Test.YtbglcbjbjgjebaaDiskLives
import Derived.Test.YtbglcbjbjgjebaaDiskMore
set_option linter.unusedVariables false
set_option linter.unusedSimpArgs false
namespace Go.Proofs.Ytbglcbjbjgjebaa.Pure
open Go.RowKit Go.Proofs.Ytbglcbjbjgjebaa.P Go.Proofs.YtbglcbjbjgjebaaW.PrintWords Go.Proofs.YtbglcbjbjgjebaaW.PrintLast Go.Proofs.YtbglcbjbjgjebaaW.PrintMore
theorem Crashes_l0 (L : List ByteArray) (hL : L.length ≤ 1024) (x12 x16 x20 : Int) (A : List ByteArray) (A1 : List S40) (A2 : Int) (A3 : Bool) (hA : A.length ≤ 1024) (hA1 : A1.length ≤ 1024) (B : List ByteArray) (B1 : List S40) (B2 : Int) (B3 : Bool) (hB : B.length ≤ 1024) (hB1 : B1.length ≤ 1024) (d : Nat) : ∀ i : Nat, i + d = L.length →
    Ev (fun k => spoorlaw03_DiskCrashes.l0 k x12 x12 L x16 L x16 x20 x20 (L.length : Int) i A A1 A2 A3 A A1 A2 A3 B B1 B2 B3 B B1 B2 B3) true := by
  induction d with
  | zero =>
    intro i hi
    refine Ev.step (f := fun k => (spoorlaw03_lives.f k).bind fun t => if t = true then (spoorref03_Same.f k A A1 A2 A3 A A1 A2 A3).bind fun t => if t = true then (spoorref03_Same.f k B B1 B2 B3 B B1 B2 B3).bind fun t => if t = true then some (x20 == x20) else none else none else none) (fun k => ?_) ?_
    · simp only [spoorlaw03_DiskCrashes.l0]
      rw [if_neg (by omega)]
      simp only [if_true]
    · refine Ev.bind lives_ev ?_
      simp only [if_true]
      refine Ev.bind (Same_ev _ _ _ _ (by omega) (by omega)) ?_
      simp only [if_true]
      refine Ev.bind (Same_ev _ _ _ _ (by omega) (by omega)) ?_
      simp only [if_true, beq_self_eq_true]
      exact Ev.now _
  | succ d ih =>
    intro i hi
    refine Ev.step (f := fun k => spoorlaw03_DiskCrashes.l0 k x12 x12 L x16 L x16 x20 x20 (L.length : Int) ((i + 1 : Nat) : Int) A A1 A2 A3 A A1 A2 A3 B B1 B2 B3 B B1 B2 B3) (fun k => ?_) (ih (i + 1) (by omega))
    simp only [spoorlaw03_DiskCrashes.l0]
    rw [if_pos (by omega), if_pos (by omega), if_pos (by omega), if_pos (by omega), if_pos trivial, up_ i (by omega)]
theorem crashF_len (K : List Bool) (torn : Int) (n : Nat) (S : List ByteArray) (C : List S40) : (crashF K torn n S C).length = S.length := crashN_len K torn n S C C.length
theorem DiskCrashes : spoorlaw03_DiskCrashes.Pure := by
  intro S C f o K torn b n hd hK ht hb hn
  apply Ev.rounds
  unfold spoorlaw03_DiskCrashes.f
  simp only [disk_Crash.f, disk_Held.f, disk_Make.f, Option.bind_some]
  refine Ev.bind (RCrash_ev S C f o K torn b) (Ev.bind (RHeld_ev S C f o) (Ev.bind (RMake_ev n) ?_))
  simp only [if_true]
  have hl : S.length ≤ 1024 ∨ ¬ checkF S C f = 0 := by
    by_cases c : checkF S C f = 0
    · exact .inl (checkF_in S C f c).2.1
    · exact .inr c
  refine Crashes_l0 _ ?_ _ _ _ _ _ _ _ ?_ ?_ _ _ _ _ ?_ ?_ _ 0 (Nat.zero_add _)
  · split
    · rename_i c; rw [applyF_len]; exact hl.resolve_right (fun z => z c)
    · exact Nat.zero_le _
  · split
    · rename_i c; rw [crashF_len]; exact hl.resolve_right (fun z => z c)
    · exact Nat.zero_le _
  · split <;> exact Nat.zero_le _
  · split
    · exact Nat.zero_le _
    · rw [List.length_replicate]; omega
  · split <;> exact Nat.zero_le _
end Go.Proofs.Ytbglcbjbjgjebaa.Pure
