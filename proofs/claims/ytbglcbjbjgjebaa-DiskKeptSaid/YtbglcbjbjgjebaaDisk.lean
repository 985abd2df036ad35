/- Disks: what the document's functions say is what the program's say. -/
import Derived.Test.YtbglcbjbjgjebaaPx4
import Derived.Test.YtbglcbjbjgjebaaPx5
import Derived.Test.YtbglcbjbjgjebaaPx6
import Derived.Test.YtbglcbjbjgjebaaPx10
set_option linter.unusedVariables false
set_option linter.unusedSimpArgs false
namespace Go.Proofs.Ytbglcbjbjgjebaa.Pure
open Go.RowKit Go.Proofs.Ytbglcbjbjgjebaa.P Go.Proofs.YtbglcbjbjgjebaaW.PrintWords Go.Proofs.YtbglcbjbjgjebaaW.PrintLast Go.Proofs.YtbglcbjbjgjebaaW.PrintMore
theorem up_ (i : Nat) (h : i < 9223372036854775807) : wrap64 ((i : Int) + 1) = ((i + 1 : Nat) : Int) := by
  unfold wrap64
  omega
theorem rdE (l : List ByteArray) (i : Nat) (h : i < l.length) : rdOf ByteArray.empty l (i : Int) = l[i] := rdOf_at _ l i h
theorem rdP (l : List S40) (i : Nat) (h : i < l.length) : rd_T40 l (i : Int) = l[i] := rdOf_at z40 l i h
theorem any_at {α : Type} (p : α → Bool) (l : List α) (i : Nat) (h : i < l.length) : (l.drop i).any p = (p l[i] || (l.drop (i + 1)).any p) := by rw [List.drop_eq_getElem_cons h]; rfl
theorem any_end {α : Type} (p : α → Bool) (l : List α) : (l.drop l.length).any p = false := by rw [List.drop_length]; rfl
theorem badF_iff (n : Nat) (p : S40) : badF n p = true ↔ p.f0 < 0 ∨ p.f0 ≥ (n : Int) ∨ ¬ (p.f1.size : Int) = 128 := by
  unfold badF hasF
  simp only [Bool.or_eq_true, Bool.not_eq_true', Bool.and_eq_false_iff, decide_eq_false_iff_not, bne_iff_ne, ne_eq]
  omega
theorem RCheck_l1 (S : List ByteArray) (C : List S40) (f : Int) (o : Bool) (hC : C.length ≤ 4096) (d : Nat) : ∀ i : Nat, i + d = C.length → Ev (fun k => spoorref03_Check.l1 k C (C.length : Int) i S C f o) (if (C.drop i).any (badF S.length) = true then 2 else 0) := by
  induction d with
  | zero =>
    intro i hi
    obtain rfl : i = C.length := by omega
    refine Ev.step (f := fun _ => some 0) (fun k => ?_) (by rw [any_end]; exact Ev.now _)
    simp only [spoorref03_Check.l1]
    rw [if_neg (by omega)]
  | succ d ih =>
    intro i hi
    have hlt : i < C.length := by omega
    have hb := badF_iff S.length C[i]
    rw [any_at _ _ _ hlt]
    refine Ev.step (f := fun k => if C[i].f0 < 0 then some 2 else if C[i].f0 ≥ (S.length : Int) then some 2 else if (C[i].f1.size : Int) = 128 then spoorref03_Check.l1 k C (C.length : Int) ((i + 1 : Nat) : Int) S C f o else some 2) (fun k => ?_) ?_
    · simp only [spoorref03_Check.l1]
      rw [if_pos (by omega), if_pos (by omega), if_pos (by omega), rdP C i hlt, up_ i (by omega)]
    · by_cases h0 : C[i].f0 < 0
      · simp only [if_pos h0, hb.2 (.inl h0), Bool.true_or, if_true]; exact Ev.now _
      · by_cases h1 : C[i].f0 ≥ (S.length : Int)
        · simp only [if_neg h0, if_pos h1, hb.2 (.inr (.inl h1)), Bool.true_or, if_true]; exact Ev.now _
        · by_cases h2 : (C[i].f1.size : Int) = 128
          · have hbf : badF S.length C[i] = false := by
              cases hbb : badF S.length C[i] with
              | false => rfl
              | true => rcases hb.1 hbb with z | z | z <;> contradiction
            simp only [if_neg h0, if_neg h1, if_pos h2, hbf, Bool.false_or]
            exact ih (i + 1) (by omega)
          · simp only [if_neg h0, if_neg h1, if_neg h2, hb.2 (.inr (.inr h2)), Bool.true_or, if_true]; exact Ev.now _
theorem RCheck_l0 (S : List ByteArray) (C : List S40) (f : Int) (o : Bool) (hS : S.length ≤ 1024) (hC : C.length ≤ 4096) (d : Nat) : ∀ i : Nat, i + d = S.length → Ev (fun k => spoorref03_Check.l0 k S (S.length : Int) i S C f o) (if (S.drop i).any (fun s => (s.size : Int) != 128) = true then 2 else if C.any (badF S.length) = true then 2 else 0) := by
  induction d with
  | zero =>
    intro i hi
    obtain rfl : i = S.length := by omega
    refine Ev.step (f := fun k => spoorref03_Check.l1 k C (C.length : Int) ((0 : Nat) : Int) S C f o) (fun k => ?_) (by rw [any_end]; exact RCheck_l1 S C f o hC C.length 0 (by omega))
    simp only [spoorref03_Check.l0]
    rw [if_neg (by omega)]
    rfl
  | succ d ih =>
    intro i hi
    have hlt : i < S.length := by omega
    rw [any_at _ _ _ hlt]
    refine Ev.step (f := fun k => if (S[i].size : Int) = 128 then spoorref03_Check.l0 k S (S.length : Int) ((i + 1 : Nat) : Int) S C f o else some 2) (fun k => ?_) ?_
    · simp only [spoorref03_Check.l0]
      rw [if_pos (by omega), if_pos (by omega), if_pos (by omega), rdE S i hlt, up_ i (by omega)]
    · by_cases h2 : (S[i].size : Int) = 128
      · have : ((S[i].size : Int) != 128) = false := by simpa using h2
        simp only [if_pos h2, this, Bool.false_or]
        exact ih (i + 1) (by omega)
      · have : ((S[i].size : Int) != 128) = true := by simpa using h2
        simp only [if_neg h2, this, Bool.true_or, if_true]
        exact Ev.now _
theorem RCheck_ev (S : List ByteArray) (C : List S40) (f : Int) (o : Bool) : Ev (fun k => spoorref03_Check.f k S C f o) (checkF S C f) := by
  have hj : ∀ b : Bool, wideF S C f = b → (b = true ∨ S.length ≤ 1024 ∧ C.length ≤ 4096) → Ev (fun k => spoorref03_Check.j0 k b S C f o) (checkF S C f) := by
    intro b hb hl
    cases b with
    | true =>
      refine Ev.step (f := fun _ => some 2) (fun k => ?_) (by unfold checkF; rw [if_pos hb]; exact Ev.now _)
      simp only [spoorref03_Check.j0, if_true]
    | false =>
      have hl := hl.resolve_left (by decide)
      refine Ev.step (f := fun k => spoorref03_Check.l0 k S (S.length : Int) ((0 : Nat) : Int) S C f o) (fun k => ?_) ?_
      · simp only [spoorref03_Check.j0, if_neg (show ¬ (false = true) by decide)]; rfl
      · have := RCheck_l0 S C f o hl.1 hl.2 S.length 0 (by omega)
        unfold checkF
        rw [if_neg (by rw [hb]; decide)]
        exact this
  have hw : wideF S C f = (decide ((S.length : Int) < 1) || decide ((S.length : Int) > 1024) || decide ((C.length : Int) > 4096) || decide (f < -1)) := by
    unfold wideF
    congr 3
    apply decide_eq_decide.2
    omega
  unfold spoorref03_Check.f
  by_cases h0 : (S.length : Int) < 1
  · simp only [if_pos h0]; exact hj true (by rw [hw]; simp [h0]) (.inl rfl)
  · by_cases h1 : (S.length : Int) > 1024
    · simp only [if_neg h0, if_pos h1]; exact hj true (by rw [hw]; simp [h1]) (.inl rfl)
    · by_cases h2 : (C.length : Int) > 4096
      · simp only [if_neg h0, if_neg h1, if_pos h2]; exact hj true (by rw [hw]; simp [h2]) (.inl rfl)
      · simp only [if_neg h0, if_neg h1, if_neg h2]
        exact hj _ (by rw [hw, decide_eq_false h0, decide_eq_false h1, decide_eq_false h2]; rfl) (.inr ⟨by omega, by omega⟩)
theorem RCopy_now (S : List ByteArray) (C : List S40) (f : Int) (o : Bool) (hS : S.length < 8796093022208) (hC : C.length < 5864062014805) : spoorref03_Copy.f S C f o = some (S, C, f, o) := by
  unfold spoorref03_Copy.f
  simp only [Option.bind_some, List.length_nil, Nat.zero_add, if_pos hS, if_pos hC, List.nil_append]
theorem RWrite_ev (S : List ByteArray) (C : List S40) (f : Int) (o : Bool) (at_ : Int) (data : ByteArray) : Ev (fun k => spoorref03_Write.f k S C f o at_ data) (writeF S C f o at_ data) := by
  unfold spoorref03_Write.f writeF
  refine Ev.bind (RCheck_ev S C f o) ?_
  by_cases c : checkF S C f = 0
  · obtain ⟨_, hS, hC⟩ := checkF_in S C f c
    have hj : ∀ b : Bool, hasF S.length at_ = !b → Ev (fun k => spoorref03_Write.j0 k at_ data b S C f false) (if hasF S.length at_ = false then (S, C, f, false, 1) else if ¬ data.size = 128 then (S, C, f, false, 11) else if C.length = 4096 then (S, C, f, false, 8) else (S, C ++ [⟨at_, data⟩], (powerF f false).2.1, (powerF f false).2.2, (powerF f false).1)) := by
      intro b hb
      rw [hb]
      refine Ev.step (f := fun _ => some _) (fun k => ?_) (Ev.now _)
      simp only [spoorref03_Write.j0]
      cases b with
      | true => rfl
      | false =>
        rw [if_neg (by decide), if_neg (show ¬ ((!false) = false) from nofun)]
        by_cases hd : data.size = 128
        · rw [if_pos (show (data.size : Int) = 128 by omega), if_neg (show ¬ ¬ data.size = 128 from fun z => z hd)]
          by_cases hl : C.length = 4096
          · rw [if_pos (show (C.length : Int) = 4096 by omega), if_pos hl]
          · rw [if_neg (show ¬ (C.length : Int) = 4096 by omega), if_neg hl, if_pos (show C.length < 5864062014805 by omega)]
            simp only [Option.bind_some]
            unfold powerF
            rw [if_neg (show ¬ (false = true) from nofun)]
            by_cases z : f = 0
            · rw [if_pos z, if_pos z]
            · rw [if_neg z, if_neg z]
              by_cases y : f > 0
              · rw [if_pos y, if_pos y]
              · rw [if_neg y, if_neg y]
        · rw [if_neg (show ¬ (data.size : Int) = 128 by omega), if_pos hd]
    simp only [if_pos c, RCopy_now S C f o (by omega) (by omega), Option.bind_some]
    cases o with
    | true => simp only [if_true]; exact Ev.now _
    | false =>
      simp only [if_neg (show ¬ (false = true) by decide)]
      by_cases h0 : at_ < 0
      · simp only [if_pos h0]
        exact hj true (by unfold hasF; rw [decide_eq_false (by omega)]; rfl)
      · simp only [if_neg h0]
        refine hj _ ?_
        unfold hasF
        rw [decide_eq_true (by omega), Bool.true_and]
        by_cases h1 : at_ < (S.length : Int)
        · rw [decide_eq_true h1, decide_eq_false (by omega)]; rfl
        · rw [decide_eq_false h1, decide_eq_true (by omega)]; rfl
  · simp only [if_neg c]
    exact Ev.now _
theorem RFlush_ev (S : List ByteArray) (C : List S40) (f : Int) (o : Bool) : Ev (fun k => spoorref03_Flush.f k S C f o) (flushF S C f o) := by
  unfold spoorref03_Flush.f flushF
  refine Ev.bind (RCheck_ev S C f o) ?_
  by_cases c : checkF S C f = 0
  · obtain ⟨hin, hS, hC⟩ := checkF_in S C f c
    simp only [if_pos c, if_pos (show S.length < 8796093022208 ∧ C.length < 5864062014805 by omega), if_pos hin]
    unfold powerF
    cases o with
    | true => simp only [if_true]; exact Ev.now _
    | false =>
      simp only [if_neg (show ¬ (false = true) by decide)]
      by_cases z : f = 0
      · simp only [if_pos z]; exact Ev.now _
      · simp only [if_neg z]
        by_cases y : f > 0
        · simp only [if_pos y, if_true]; exact Ev.now _
        · simp only [if_neg y, if_true]; exact Ev.now _
  · simp only [if_neg c]
    exact Ev.now _
theorem backs_find (C : List S40) (at_ : Int) (s : ByteArray) : ∀ n, n ≤ C.length → (match (backs C n).find? (fun x => x.2.f0 == at_) with | some x => x.2.f1 | none => s) = (C.take n).foldl (fun s p => if p.f0 = at_ then p.f1 else s) s := by
  intro n
  induction n with
  | zero => intro _; rfl
  | succ n ih =>
    intro h
    have hlt : n < C.length := h
    rw [List.take_succ_eq_append_getElem hlt, List.foldl_append, ← ih (by omega)]
    show (match (((n : Int), C.getD n z40) :: backs C n).find? (fun x => x.2.f0 == at_) with | some x => x.2.f1 | none => s) = _
    have hg : C.getD n z40 = C[n] := by rw [List.getD_eq_getElem?_getD, List.getElem?_eq_getElem hlt]; rfl
    rw [hg, List.find?_cons]
    simp only [List.foldl_cons, List.foldl_nil]
    by_cases e : C[n].f0 = at_
    · rw [if_pos e]
      simp [e]
    · rw [if_neg e]
      have : (C[n].f0 == at_) = false := beq_eq_false_iff_ne.mpr e
      simp [this]
theorem holdsF_fold (S : List ByteArray) (C : List S40) (at_ : Int) : holdsF S C at_ = C.foldl (fun s p => if p.f0 = at_ then p.f1 else s) (rdOf ByteArray.empty S at_) := by
  have := backs_find C at_ (rdOf ByteArray.empty S at_) C.length (Nat.le_refl _)
  rw [List.take_length] at this
  exact this
theorem Rholds_l0 (C : List S40) (at_ : Int) (hC : C.length ≤ 4096) (d : Nat) : ∀ (i : Nat) (s : ByteArray), i + d = C.length → Ev (fun k => spoorref03_holds.l0 k at_ s C (C.length : Int) i) ((C.drop i).foldl (fun s p => if p.f0 = at_ then p.f1 else s) s) := by
  induction d with
  | zero =>
    intro i s hi
    obtain rfl : i = C.length := by omega
    refine Ev.step (f := fun _ => some s) (fun k => ?_) (by rw [List.drop_length]; exact Ev.now _)
    simp only [spoorref03_holds.l0]
    rw [if_neg (by omega)]
  | succ d ih =>
    intro i s hi
    have hlt : i < C.length := by omega
    rw [List.drop_eq_getElem_cons hlt, List.foldl_cons]
    refine Ev.step (f := fun k => if C[i].f0 = at_ then spoorref03_holds.l0 k at_ C[i].f1 C (C.length : Int) ((i + 1 : Nat) : Int) else spoorref03_holds.l0 k at_ s C (C.length : Int) ((i + 1 : Nat) : Int)) (fun k => ?_) ?_
    · simp only [spoorref03_holds.l0]
      rw [if_pos (by omega), if_pos (by omega), if_pos (by omega), rdP C i hlt, up_ i (by omega)]
    · by_cases e : C[i].f0 = at_
      · simp only [if_pos e]; exact ih (i + 1) _ (by omega)
      · simp only [if_neg e]; exact ih (i + 1) _ (by omega)
theorem Rholds_ev (S : List ByteArray) (C : List S40) (f : Int) (o : Bool) (at_ : Int) (hC : C.length ≤ 4096) (h : hasF S.length at_ = true) : Ev (fun k => spoorref03_holds.f k S C f o at_) (holdsF S C at_) := by
  obtain ⟨h0, h1⟩ := hasF_in h
  unfold spoorref03_holds.f
  simp only [if_pos h0, if_pos h1]
  rw [holdsF_fold]
  exact Rholds_l0 C at_ hC C.length 0 _ (by omega)
theorem RRead_ev (S : List ByteArray) (C : List S40) (f : Int) (o : Bool) (at_ : Int) : Ev (fun k => spoorref03_Read.f k S C f o at_) (readF S C f o at_) := by
  unfold spoorref03_Read.f readF
  refine Ev.bind (RCheck_ev S C f o) ?_
  by_cases c : checkF S C f = 0
  · obtain ⟨_, hS, hC⟩ := checkF_in S C f c
    simp only [if_pos c]
    cases o with
    | true => simp only [if_true]; exact Ev.now _
    | false =>
      simp only [if_neg (show ¬ (false = true) by decide)]
      by_cases h0 : at_ < 0
      · have : hasF S.length at_ = false := by unfold hasF; rw [decide_eq_false (by omega)]; rfl
        simp only [if_pos h0, this, if_true]; exact Ev.now _
      · by_cases h1 : at_ ≥ (S.length : Int)
        · have : hasF S.length at_ = false := by unfold hasF; rw [decide_eq_false (show ¬ at_ < (S.length : Int) by omega), Bool.and_false]
          simp only [if_neg h0, if_pos h1, this, if_true]; exact Ev.now _
        · have : hasF S.length at_ = true := by unfold hasF; rw [decide_eq_true (by omega), decide_eq_true (by omega)]; rfl
          simp only [if_neg h0, if_neg h1, this, if_neg (show ¬ (true = false) by decide)]
          exact Ev.bind (Rholds_ev S C f false at_ hC this) (Ev.now _)
  · simp only [if_neg c]
    exact Ev.now _
theorem Same_l1 (S : List ByteArray) (C : List S40) (f : Int) (o : Bool) (hC : C.length < 9223372036854775807) (d : Nat) : ∀ i : Nat, i + d = C.length → Ev (fun k => spoorref03_Same.l1 k (C.length : Int) i S C f o S C f o) true := by
  induction d with
  | zero =>
    intro i hi
    refine Ev.step (f := fun _ => some true) (fun k => ?_) (Ev.now _)
    simp only [spoorref03_Same.l1]
    rw [if_neg (by omega)]
  | succ d ih =>
    intro i hi
    refine Ev.step (f := fun k => spoorref03_Same.l1 k (C.length : Int) ((i + 1 : Nat) : Int) S C f o S C f o) (fun k => ?_) (ih (i + 1) (by omega))
    simp only [spoorref03_Same.l1]
    rw [if_pos (by omega), if_pos (by omega), if_pos (by omega), if_pos (by omega), up_ i (by omega)]
    simp
theorem Same_l0 (S : List ByteArray) (C : List S40) (f : Int) (o : Bool) (hS : S.length < 9223372036854775807) (hC : C.length < 9223372036854775807) (d : Nat) : ∀ i : Nat, i + d = S.length → Ev (fun k => spoorref03_Same.l0 k (S.length : Int) i S C f o S C f o) true := by
  induction d with
  | zero =>
    intro i hi
    refine Ev.step (f := fun k => spoorref03_Same.l1 k (C.length : Int) ((0 : Nat) : Int) S C f o S C f o) (fun k => ?_) (Same_l1 S C f o hC C.length 0 (by omega))
    simp only [spoorref03_Same.l0]
    rw [if_neg (by omega)]
    rfl
  | succ d ih =>
    intro i hi
    refine Ev.step (f := fun k => spoorref03_Same.l0 k (S.length : Int) ((i + 1 : Nat) : Int) S C f o S C f o) (fun k => ?_) (ih (i + 1) (by omega))
    simp only [spoorref03_Same.l0]
    rw [if_pos (by omega), if_pos (by omega), if_pos (by omega), if_pos (by omega), if_pos trivial, up_ i (by omega)]
theorem Same_ev (S : List ByteArray) (C : List S40) (f : Int) (o : Bool) (hS : S.length < 9223372036854775807) (hC : C.length < 9223372036854775807) : Ev (fun k => spoorref03_Same.f k S C f o S C f o) true := by
  unfold spoorref03_Same.f
  simp only [if_true]
  refine Ev.step (f := fun k => spoorref03_Same.l0 k (S.length : Int) ((0 : Nat) : Int) S C f o S C f o) (fun k => ?_) (Same_l0 S C f o hS hC S.length 0 (by omega))
  simp only [spoorref03_Same.j0]
  rw [if_neg (by simp)]
  rfl
end Go.Proofs.Ytbglcbjbjgjebaa.Pure
