/- Disks: crashes, what is held, new ones: what the document's functions say is what the program's say. -/
import Derived.Test.YtbglcbjbjgjebaaPx28
import Derived.Test.YtbglcbjbjgjebaaPx30
import Derived.Test.YtbglcbjbjgjebaaPx31
import Derived.Test.YtbglcbjbjgjebaaPx21
import Derived.Test.YtbglcbjbjgjebaaPx29
import Derived.Test.YtbglcbjbjgjebaaPx20
import Derived.Test.YtbglcbjbjgjebaaDiskCheck
set_option linter.unusedVariables false
set_option linter.unusedSimpArgs false
namespace Go.Proofs.Ytbglcbjbjgjebaa.Pure
open Go.RowKit Go.Proofs.Ytbglcbjbjgjebaa.P Go.Proofs.YtbglcbjbjgjebaaW.PrintWords Go.Proofs.YtbglcbjbjgjebaaW.PrintLast Go.Proofs.YtbglcbjbjgjebaaW.PrintMore
theorem applyF_get (i : Nat) (C : List S40) : ∀ (S : List ByteArray), i < S.length → (∀ p ∈ C, 0 ≤ p.f0 ∧ p.f0 < (S.length : Int)) → rdOf ByteArray.empty (applyF S C) (i : Int) = C.foldl (fun s p => if p.f0 = (i : Int) then p.f1 else s) (rdOf ByteArray.empty S (i : Int)) := by
  induction C with
  | nil => intro S _ _; rfl
  | cons p C ih =>
    intro S hi hp
    obtain ⟨p0, p1⟩ := hp p List.mem_cons_self
    have := ih (S.set p.f0.toNat p.f1) (by rw [List.length_set]; exact hi) (fun q hq => by rw [List.length_set]; exact hp q (List.mem_cons_of_mem _ hq))
    show rdOf ByteArray.empty (applyF (S.set p.f0.toNat p.f1) C) (i : Int) = _
    rw [this, List.foldl_cons]
    congr 1
    rw [rdE _ i (by rw [List.length_set]; exact hi), rdE S i hi, List.getElem_set]
    by_cases e : p.f0 = (i : Int)
    · rw [if_pos e, if_pos (by omega)]
    · rw [if_neg e, if_neg (by omega)]
theorem Held_l0 (S : List ByteArray) (C : List S40) (f : Int) (o : Bool) (c : checkF S C f = 0) (d : Nat) : ∀ i : Nat, i + d = S.length → Ev (fun k => spoorref03_Held.l0 k ((applyF S C).take i) (S.length : Int) i S C f o) (applyF S C, 0) := by
  obtain ⟨hin, hS, hC⟩ := checkF_in S C f c
  have hin' : ∀ p ∈ C, 0 ≤ p.f0 ∧ p.f0 < (S.length : Int) := by
    intro p hp
    obtain ⟨j, hj, rfl⟩ := List.getElem_of_mem hp
    exact hin j hj
  have hl := applyF_len C S
  induction d with
  | zero =>
    intro i hi
    obtain rfl : i = S.length := by omega
    rw [List.take_of_length_le (by omega)]
    refine Ev.step (f := fun _ => some _) (fun k => ?_) (Ev.now _)
    simp only [spoorref03_Held.l0]
    rw [if_neg (by omega)]
  | succ d ih =>
    intro i hi
    have hlt : i < S.length := by omega
    have hh : hasF S.length (i : Int) = true := by unfold hasF; rw [decide_eq_true (by omega), decide_eq_true (by omega)]; rfl
    have ht : (applyF S C).take (i + 1) = (applyF S C).take i ++ [holdsF S C (i : Int)] := by
      rw [List.take_succ_eq_append_getElem (by omega), holdsF_fold, ← applyF_get i C S hlt hin', rdE _ i (by omega)]
    have hlen : ((applyF S C).take i).length < 8796093022208 := by rw [List.length_take]; omega
    refine Ev.step (f := fun k => (spoorref03_holds.f k S C f o (i : Int)).bind fun s => spoorref03_Held.l0 k ((applyF S C).take i ++ [s]) (S.length : Int) ((i + 1 : Nat) : Int) S C f o) (fun k => ?_) ?_
    · simp only [spoorref03_Held.l0]
      rw [if_pos (by omega), up_ i (by omega)]
      simp only [if_pos hlen]
    · refine Ev.bind (Rholds_ev S C f o (i : Int) hC hh) ?_
      rw [← ht]
      exact ih (i + 1) (by omega)
theorem RHeld_ev (S : List ByteArray) (C : List S40) (f : Int) (o : Bool) : Ev (fun k => spoorref03_Held.f k S C f o) (if checkF S C f = 0 then (applyF S C, 0) else ([], 2)) := by
  unfold spoorref03_Held.f
  refine Ev.bind (RCheck_ev S C f o) ?_
  by_cases c : checkF S C f = 0
  · simp only [if_pos c]
    exact Held_l0 S C f o c S.length 0 (by omega)
  · simp only [if_neg c]
    exact Ev.now _
theorem Crash_l0 (S : List ByteArray) (C : List S40) (f : Int) (o : Bool) (K : List Bool) (torn : Int) (n : Nat) (hn : n ≤ 128) (c : checkF S C f = 0) (d : Nat) : ∀ i : Nat, i + d = C.length → Right (crashN K torn n S C i) → Ev (fun k => spoorref03_Crash.l0 k K torn (n : Int) C (C.length : Int) i (crashN K torn n S C i) C f o) (crashF K torn n S C, [], -1, false, 0) := by
  obtain ⟨hin, hS, hC⟩ := checkF_in S C f c
  have hrt := (checkF_right S C f c).2
  induction d with
  | zero =>
    intro i hi _
    obtain rfl : i = C.length := by omega
    refine Ev.step (f := fun _ => some _) (fun k => ?_) (Ev.now _)
    simp only [spoorref03_Crash.l0]
    rw [if_neg (by omega)]
    rfl
  | succ d ih =>
    intro i hi hR
    have hlt : i < C.length := by omega
    have hcd : C.getD i z40 = C[i] := by rw [List.getD_eq_getElem?_getD, List.getElem?_eq_getElem hlt]; rfl
    have ht : crashN K torn n S C (i + 1) = crashStep K torn n i C[i] (crashN K torn n S C i) := by rw [← hcd]; rfl
    obtain ⟨i0, i1⟩ := hin i hlt
    have hps := hrt C[i] (List.getElem_mem hlt)
    have hlen := crashN_len K torn n S C i
    have hold := hR _ (rdOf_mem (crashN K torn n S C i) C[i].f0 i0 (by rw [hlen]; exact i1))
    have hR2 : Right (crashN K torn n S C (i + 1)) := by rw [ht]; exact crashStep_right hR hn hps i0 (by rw [hlen]; exact i1)
    have hold' : (rdOf ByteArray.empty (crashN K torn n S C i) C[i].f0).size = 128 := hold
    refine Ev.step (f := fun k => spoorref03_Crash.l0 k K torn (n : Int) C (C.length : Int) ((i + 1 : Nat) : Int) (crashN K torn n S C (i + 1)) C f o) (fun k => ?_) (ih (i + 1) (by omega) hR2)
    simp only [spoorref03_Crash.l0]
    rw [if_pos (by omega), if_pos (by omega), if_pos (by omega), rdP C i hlt, up_ i (by omega), ht]
    unfold crashStep
    by_cases e : (i : Int) = torn
    · have hsz : (C[i].f1.extract 0 n).size + ((rdOf ByteArray.empty (crashN K torn n S C i) C[i].f0).extract n (rdOf ByteArray.empty (crashN K torn n S C i) C[i].f0).size).size ≤ 9223372036854775807 := by rw [ByteArray.size_extract, ByteArray.size_extract]; omega
      rw [if_pos e, if_pos e, if_pos (by omega), if_pos (by omega), if_pos i0, if_pos (by rw [hlen]; exact i1), if_pos (by omega), Int.toNat_natCast, if_pos hsz]
      rfl
    · rw [if_neg e, if_neg e]
      by_cases hk : i < K.length
      · have hg : rdOf false K (i : Int) = K.getD i false := by unfold rdOf; rw [Int.toNat_natCast]
        rw [if_pos (by omega), hg]
        by_cases hb : K.getD i false = true
        · rw [if_pos hb, if_pos hb, if_pos i0, if_pos (by rw [hlen]; exact i1)]
        · rw [if_neg hb, if_neg hb]
      · have hb : ¬ K.getD i false = true := by rw [List.getD_eq_getElem?_getD, List.getElem?_eq_none (by omega)]; decide
        rw [if_neg (by omega), if_neg hb]
theorem RCrash_ev (S : List ByteArray) (C : List S40) (f : Int) (o : Bool) (K : List Bool) (torn b : Int) : Ev (fun k => spoorref03_Crash.f k S C f o K torn b) (if checkF S C f = 0 then (crashF K torn (max 0 (min b 128)).toNat S C, [], -1, false, 0) else ([], [], 0, false, 2)) := by
  unfold spoorref03_Crash.f
  refine Ev.bind (RCheck_ev S C f o) ?_
  by_cases c : checkF S C f = 0
  · obtain ⟨hin, hS, hC⟩ := checkF_in S C f c
    have hj1 : ∀ n : Nat, n ≤ 128 → Ev (fun k => spoorref03_Crash.j1 k K torn (n : Int) S C f o) (crashF K torn n S C, [], -1, false, 0) := by
      intro n hn
      refine Ev.step (f := fun k => spoorref03_Crash.l0 k K torn (n : Int) C (C.length : Int) ((0 : Nat) : Int) (crashN K torn n S C 0) C f o) (fun k => ?_) (Crash_l0 S C f o K torn n hn c C.length 0 (by omega) (checkF_right S C f c).1)
      simp only [spoorref03_Crash.j1]
      rfl
    have hj0 : ∀ m : Int, 0 ≤ m → Ev (fun k => spoorref03_Crash.j0 k K torn m S C f o) (crashF K torn (min m 128).toNat S C, [], -1, false, 0) := by
      intro m hm
      by_cases h : m > 128
      · refine Ev.step (f := fun k => spoorref03_Crash.j1 k K torn ((128 : Nat) : Int) S C f o) (fun k => ?_) ?_
        · simp only [spoorref03_Crash.j0, if_pos h]; rfl
        · rw [show (min m 128).toNat = 128 by omega]; exact hj1 128 (by omega)
      · obtain ⟨n, rfl⟩ : ∃ n : Nat, m = n := ⟨m.toNat, by omega⟩
        refine Ev.step (f := fun k => spoorref03_Crash.j1 k K torn (n : Int) S C f o) (fun k => ?_) ?_
        · simp only [spoorref03_Crash.j0, if_neg h]
        · rw [show (min (n : Int) 128).toNat = n by omega]; exact hj1 n (by omega)
    simp only [if_pos c, RCopy_now S C f o (by omega) (by omega), Option.bind_some]
    by_cases h : b < 0
    · simp only [if_pos h]
      have := hj0 0 (by omega)
      rw [show (min (0 : Int) 128).toNat = (max 0 (min b 128)).toNat by omega] at this
      exact this
    · simp only [if_neg h]
      have := hj0 b (by omega)
      rw [show (min b 128).toNat = (max 0 (min b 128)).toNat by omega] at this
      exact this
  · simp only [if_neg c]
    exact Ev.now _
theorem Make_l0 (n : Nat) (hn : n ≤ 1024) (d : Nat) : ∀ i : Nat, i + d = n → Ev (fun k => spoorref03_Make.l0 k (n : Int) i (List.replicate i zero128) (-1) false) (List.replicate n zero128, [], -1, false, 0) := by
  induction d with
  | zero =>
    intro i hi
    obtain rfl : i = n := by omega
    refine Ev.step (f := fun _ => some _) (fun k => ?_) (Ev.now _)
    simp only [spoorref03_Make.l0]
    rw [if_neg (by omega)]
  | succ d ih =>
    intro i hi
    have hz : strOfNums (List.replicate 128 0) = zero128 := by unfold zero128; rfl
    have ht : List.replicate (i + 1) zero128 = List.replicate i zero128 ++ [zero128] := List.replicate_succ'
    refine Ev.step (f := fun k => spoorref03_Make.l0 k (n : Int) ((i + 1 : Nat) : Int) (List.replicate (i + 1) zero128) (-1) false) (fun k => ?_) (ih (i + 1) (by omega))
    simp only [spoorref03_Make.l0]
    rw [if_pos (by omega), if_pos (by omega), if_pos (by rw [List.length_replicate]; omega), hz, up_ i (by omega), ht]
theorem RMake_ev (n : Int) : Ev (fun k => spoorref03_Make.f k n) (if n < 1 ∨ n > 1024 then ([], [], 0, false, 1) else (List.replicate n.toNat zero128, [], -1, false, 0)) := by
  unfold spoorref03_Make.f
  by_cases h0 : n < 1
  · simp only [if_pos h0, if_pos (Or.inl h0 : n < 1 ∨ n > 1024)]
    refine Ev.step (f := fun _ => some _) (fun k => ?_) (Ev.now _)
    simp only [spoorref03_Make.j0, if_true]
  · by_cases h1 : n > 1024
    · simp only [if_neg h0, if_pos (Or.inr h1 : n < 1 ∨ n > 1024)]
      refine Ev.step (f := fun _ => some _) (fun k => ?_) (Ev.now _)
      simp only [spoorref03_Make.j0]
      rw [if_pos (by simp [h1])]
    · obtain ⟨m, rfl⟩ : ∃ m : Nat, n = m := ⟨n.toNat, by omega⟩
      simp only [if_neg h0, if_neg (show ¬ ((m : Int) < 1 ∨ (m : Int) > 1024) by omega), Int.toNat_natCast]
      refine Ev.step (f := fun k => spoorref03_Make.l0 k (m : Int) ((0 : Nat) : Int) (List.replicate 0 zero128) (-1) false) (fun k => ?_) (Make_l0 m (by omega) m 0 (by omega))
      simp only [spoorref03_Make.j0]
      rw [if_neg (by simp; omega)]
      rfl
end Go.Proofs.Ytbglcbjbjgjebaa.Pure
