/- Disks: what is right, copied, held, and the same, by the document and by the program. -/
import Derived.Test.YtjagplonneednaaZPx1034
import Derived.Test.YtjagplonneednaaZPx30016
import Derived.Test.YtjagplonneednaaZPx1021
import Derived.Test.YtjagplonneednaaZDiskBase
set_option linter.unusedVariables false
set_option linter.unusedSimpArgs false
namespace Go.Proofs.Ytjagplonneednaa.Pure
open Go.RowKit Go.Proofs.Ytjagplonneednaa.P Go.Proofs.YtjagplonneednaaW.PrintWords Go.Proofs.YtjagplonneednaaW.PrintLast Go.Proofs.YtjagplonneednaaW.PrintMore
theorem any_at {α : Type} (p : α → Bool) (l : List α) (i : Nat) (h : i < l.length) : (l.drop i).any p = (p l[i] || (l.drop (i + 1)).any p) := by rw [List.drop_eq_getElem_cons h]; rfl
theorem any_end {α : Type} (p : α → Bool) (l : List α) : (l.drop l.length).any p = false := by rw [List.drop_length]; rfl
theorem RCheck_l1 (S : List ByteArray) (C : List S74) (f : Int) (o : Bool) (hC : C.length ≤ 4096) (d : Nat) : ∀ i : Nat, i + d = C.length → Ev (fun k => spoorref03_Check.l1 k C (C.length : Int) i S C f o) (if (C.drop i).any (badF S.length) = true then 2 else 0) := by
  induction d with
  | zero =>
    intro i hi
    obtain rfl : i = C.length := by omega
    refine Ev.step (f := fun _ => some 0) (fun k => ?_) (by rw [any_end]; exact Ev.now _)
    simp only [spoorref03_Check.l1]
    rw [if_neg (by omega)]
  | succ d ih =>
    intro i hi
    have hlt : i < C.length := by omega
    have hb := badF_iff S.length C[i]
    rw [any_at _ _ _ hlt]
    refine Ev.step (f := fun k => if C[i].f0 < 0 then some 2 else if C[i].f0 ≥ (S.length : Int) then some 2 else if (C[i].f1.size : Int) = 128 then spoorref03_Check.l1 k C (C.length : Int) ((i + 1 : Nat) : Int) S C f o else some 2) (fun k => ?_) ?_
    · simp only [spoorref03_Check.l1]
      rw [if_pos (by omega), if_pos (by omega), if_pos (by omega), rdP C i hlt, up_ i (by omega)]
    · by_cases h0 : C[i].f0 < 0
      · simp only [if_pos h0, hb.2 (.inl h0), Bool.true_or, if_true]; exact Ev.now _
      · by_cases h1 : C[i].f0 ≥ (S.length : Int)
        · simp only [if_neg h0, if_pos h1, hb.2 (.inr (.inl h1)), Bool.true_or, if_true]; exact Ev.now _
        · by_cases h2 : (C[i].f1.size : Int) = 128
          · have hbf : badF S.length C[i] = false := by
              cases hbb : badF S.length C[i] with
              | false => rfl
              | true => rcases hb.1 hbb with z | z | z <;> contradiction
            simp only [if_neg h0, if_neg h1, if_pos h2, hbf, Bool.false_or]
            exact ih (i + 1) (by omega)
          · simp only [if_neg h0, if_neg h1, if_neg h2, hb.2 (.inr (.inr h2)), Bool.true_or, if_true]; exact Ev.now _
theorem RCheck_l0 (S : List ByteArray) (C : List S74) (f : Int) (o : Bool) (hS : S.length ≤ 1024) (hC : C.length ≤ 4096) (d : Nat) : ∀ i : Nat, i + d = S.length → Ev (fun k => spoorref03_Check.l0 k S (S.length : Int) i S C f o) (if (S.drop i).any (fun s => (s.size : Int) != 128) = true then 2 else if C.any (badF S.length) = true then 2 else 0) := by
  induction d with
  | zero =>
    intro i hi
    obtain rfl : i = S.length := by omega
    refine Ev.step (f := fun k => spoorref03_Check.l1 k C (C.length : Int) ((0 : Nat) : Int) S C f o) (fun k => ?_) (by rw [any_end]; exact RCheck_l1 S C f o hC C.length 0 (by omega))
    simp only [spoorref03_Check.l0]
    rw [if_neg (by omega)]
    rfl
  | succ d ih =>
    intro i hi
    have hlt : i < S.length := by omega
    rw [any_at _ _ _ hlt]
    refine Ev.step (f := fun k => if (S[i].size : Int) = 128 then spoorref03_Check.l0 k S (S.length : Int) ((i + 1 : Nat) : Int) S C f o else some 2) (fun k => ?_) ?_
    · simp only [spoorref03_Check.l0]
      rw [if_pos (by omega), if_pos (by omega), if_pos (by omega), rdE S i hlt, up_ i (by omega)]
    · by_cases h2 : (S[i].size : Int) = 128
      · have : ((S[i].size : Int) != 128) = false := by simpa using h2
        simp only [if_pos h2, this, Bool.false_or]
        exact ih (i + 1) (by omega)
      · have : ((S[i].size : Int) != 128) = true := by simpa using h2
        simp only [if_neg h2, this, Bool.true_or, if_true]
        exact Ev.now _
theorem RCheck_ev (S : List ByteArray) (C : List S74) (f : Int) (o : Bool) : Ev (fun k => spoorref03_Check.f k S C f o) (checkF S C f) := by
  have hj : ∀ b : Bool, wideF S C f = b → (b = true ∨ S.length ≤ 1024 ∧ C.length ≤ 4096) → Ev (fun k => spoorref03_Check.j0 k b S C f o) (checkF S C f) := by
    intro b hb hl
    cases b with
    | true =>
      refine Ev.step (f := fun _ => some 2) (fun k => ?_) (by unfold checkF; rw [if_pos hb]; exact Ev.now _)
      simp only [spoorref03_Check.j0, if_true]
    | false =>
      have hl := hl.resolve_left (by decide)
      refine Ev.step (f := fun k => spoorref03_Check.l0 k S (S.length : Int) ((0 : Nat) : Int) S C f o) (fun k => ?_) ?_
      · simp only [spoorref03_Check.j0, if_neg (show ¬ (false = true) by decide)]; rfl
      · have := RCheck_l0 S C f o hl.1 hl.2 S.length 0 (by omega)
        unfold checkF
        rw [if_neg (by rw [hb]; decide)]
        exact this
  have hw : wideF S C f = (decide ((S.length : Int) < 1) || decide ((S.length : Int) > 1024) || decide ((C.length : Int) > 4096) || decide (f < -1)) := by
    unfold wideF
    congr 3
    apply decide_eq_decide.2
    omega
  unfold spoorref03_Check.f
  by_cases h0 : (S.length : Int) < 1
  · simp only [if_pos h0]; exact hj true (by rw [hw]; simp [h0]) (.inl rfl)
  · by_cases h1 : (S.length : Int) > 1024
    · simp only [if_neg h0, if_pos h1]; exact hj true (by rw [hw]; simp [h1]) (.inl rfl)
    · by_cases h2 : (C.length : Int) > 4096
      · simp only [if_neg h0, if_neg h1, if_pos h2]; exact hj true (by rw [hw]; simp [h2]) (.inl rfl)
      · simp only [if_neg h0, if_neg h1, if_neg h2]
        exact hj _ (by rw [hw, decide_eq_false h0, decide_eq_false h1, decide_eq_false h2]; rfl) (.inr ⟨by omega, by omega⟩)
theorem RCopy_now (S : List ByteArray) (C : List S74) (f : Int) (o : Bool) (hS : S.length < 8796093022208) (hC : C.length < 5864062014805) : spoorref03_Copy.f S C f o = some (S, C, f, o) := by
  unfold spoorref03_Copy.f
  simp only [Option.bind_some, List.length_nil, Nat.zero_add, if_pos hS, if_pos hC, List.nil_append]
theorem Rholds_l0 (C : List S74) (at_ : Int) (hC : C.length ≤ 4096) (d : Nat) : ∀ (i : Nat) (s : ByteArray), i + d = C.length → Ev (fun k => spoorref03_holds.l0 k at_ s C (C.length : Int) i) ((C.drop i).foldl (fun s p => if p.f0 = at_ then p.f1 else s) s) := by
  induction d with
  | zero =>
    intro i s hi
    obtain rfl : i = C.length := by omega
    refine Ev.step (f := fun _ => some s) (fun k => ?_) (by rw [List.drop_length]; exact Ev.now _)
    simp only [spoorref03_holds.l0]
    rw [if_neg (by omega)]
  | succ d ih =>
    intro i s hi
    have hlt : i < C.length := by omega
    rw [List.drop_eq_getElem_cons hlt, List.foldl_cons]
    refine Ev.step (f := fun k => if C[i].f0 = at_ then spoorref03_holds.l0 k at_ C[i].f1 C (C.length : Int) ((i + 1 : Nat) : Int) else spoorref03_holds.l0 k at_ s C (C.length : Int) ((i + 1 : Nat) : Int)) (fun k => ?_) ?_
    · simp only [spoorref03_holds.l0]
      rw [if_pos (by omega), if_pos (by omega), if_pos (by omega), rdP C i hlt, up_ i (by omega)]
    · by_cases e : C[i].f0 = at_
      · simp only [if_pos e]; exact ih (i + 1) _ (by omega)
      · simp only [if_neg e]; exact ih (i + 1) _ (by omega)
theorem Rholds_ev (S : List ByteArray) (C : List S74) (f : Int) (o : Bool) (at_ : Int) (hC : C.length ≤ 4096) (h : hasF S.length at_ = true) : Ev (fun k => spoorref03_holds.f k S C f o at_) (holdsF S C at_) := by
  obtain ⟨h0, h1⟩ := hasF_in h
  unfold spoorref03_holds.f
  simp only [if_pos h0, if_pos h1]
  rw [holdsF_fold]
  exact Rholds_l0 C at_ hC C.length 0 _ (by omega)
theorem Same_l1 (S : List ByteArray) (C : List S74) (f : Int) (o : Bool) (hC : C.length < 9223372036854775807) (d : Nat) : ∀ i : Nat, i + d = C.length → Ev (fun k => spoorref03_Same.l1 k (C.length : Int) i S C f o S C f o) true := by
  induction d with
  | zero =>
    intro i hi
    refine Ev.step (f := fun _ => some true) (fun k => ?_) (Ev.now _)
    simp only [spoorref03_Same.l1]
    rw [if_neg (by omega)]
  | succ d ih =>
    intro i hi
    refine Ev.step (f := fun k => spoorref03_Same.l1 k (C.length : Int) ((i + 1 : Nat) : Int) S C f o S C f o) (fun k => ?_) (ih (i + 1) (by omega))
    simp only [spoorref03_Same.l1]
    rw [if_pos (by omega), if_pos (by omega), if_pos (by omega), if_pos (by omega), up_ i (by omega)]
    simp
theorem Same_l0 (S : List ByteArray) (C : List S74) (f : Int) (o : Bool) (hS : S.length < 9223372036854775807) (hC : C.length < 9223372036854775807) (d : Nat) : ∀ i : Nat, i + d = S.length → Ev (fun k => spoorref03_Same.l0 k (S.length : Int) i S C f o S C f o) true := by
  induction d with
  | zero =>
    intro i hi
    refine Ev.step (f := fun k => spoorref03_Same.l1 k (C.length : Int) ((0 : Nat) : Int) S C f o S C f o) (fun k => ?_) (Same_l1 S C f o hC C.length 0 (by omega))
    simp only [spoorref03_Same.l0]
    rw [if_neg (by omega)]
    rfl
  | succ d ih =>
    intro i hi
    refine Ev.step (f := fun k => spoorref03_Same.l0 k (S.length : Int) ((i + 1 : Nat) : Int) S C f o S C f o) (fun k => ?_) (ih (i + 1) (by omega))
    simp only [spoorref03_Same.l0]
    rw [if_pos (by omega), if_pos (by omega), if_pos (by omega), if_pos (by omega), if_pos trivial, up_ i (by omega)]
theorem Same_ev (S : List ByteArray) (C : List S74) (f : Int) (o : Bool) (hS : S.length < 9223372036854775807) (hC : C.length < 9223372036854775807) : Ev (fun k => spoorref03_Same.f k S C f o S C f o) true := by
  unfold spoorref03_Same.f
  simp only [if_true]
  refine Ev.step (f := fun k => spoorref03_Same.l0 k (S.length : Int) ((0 : Nat) : Int) S C f o S C f o) (fun k => ?_) (Same_l0 S C f o hS hC S.length 0 (by omega))
  simp only [spoorref03_Same.j0]
  rw [if_neg (by simp)]
  rfl
end Go.Proofs.Ytjagplonneednaa.Pure
