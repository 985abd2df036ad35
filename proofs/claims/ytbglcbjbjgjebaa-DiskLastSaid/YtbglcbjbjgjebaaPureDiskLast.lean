/- Without the document: what was written last is read, all other sectors hold what they held; a flush changes nothing that is held; refused, all is as it was. No condition beyond the statement's own. -/
import Derived.Test.YtbglcbjbjgjebaaPx33
import Derived.Test.YtbglcbjbjgjebaaDiskRight
set_option linter.unusedVariables false
set_option linter.unusedSimpArgs false
namespace Go.Proofs.Ytbglcbjbjgjebaa.Pure
open Go.RowKit Go.Proofs.Ytbglcbjbjgjebaa.P Go.Proofs.YtbglcbjbjgjebaaW.PrintWords Go.Proofs.YtbglcbjbjgjebaaW.PrintLast Go.Proofs.YtbglcbjbjgjebaaW.PrintMore
theorem Last_l1 (A : List ByteArray) (hA : A.length ≤ 1024) (d : Nat) : ∀ i : Nat, i + d = A.length → Ev (fun k => spoorlaw03_DiskLast.l1 k A A (A.length : Int) i) true := by
  induction d with
  | zero =>
    intro i hi
    refine Ev.step (f := fun _ => some true) (fun k => ?_) (Ev.now _)
    simp only [spoorlaw03_DiskLast.l1]
    rw [if_neg (by omega)]
  | succ d ih =>
    intro i hi
    refine Ev.step (f := fun k => spoorlaw03_DiskLast.l1 k A A (A.length : Int) ((i + 1 : Nat) : Int)) (fun k => ?_) (ih (i + 1) (by omega))
    simp only [spoorlaw03_DiskLast.l1]
    rw [if_pos (by omega), if_pos (by omega), if_pos (by omega), if_pos (by omega), if_pos trivial, up_ i (by omega)]
/-- what is held behind a flush is what was held. -/
theorem Last_end (S : List ByteArray) (C : List S40) (f : Int) (o : Bool) (h : RightDisk S C f) (hf : f ≤ 9223372036854775807) :
    Ev (fun k => (disk_Flush.f S C f o).bind fun x => (disk_Held.f x.1 x.2.1 x.2.2.1 x.2.2.2.1).bind fun y => if y.2 = 0 then if (y.1.length : Int) = ((applyF S C).length : Int) then if x.2.2.2.2 = 0 then spoorlaw03_DiskLast.j3 k (applyF S C) y.1 ((x.2.1.length : Int) != 0) else spoorlaw03_DiskLast.j3 k (applyF S C) y.1 false else spoorlaw03_DiskLast.j3 k (applyF S C) y.1 true else spoorlaw03_DiskLast.j3 k (applyF S C) y.1 true) true := by
  have hc := of_right h
  have hp := powerF_range o h.2.2.2.1 hf
  have hl : (applyF S C).length ≤ 1024 := by rw [applyF_len]; exact h.2.1
  have hj : Ev (fun k => spoorlaw03_DiskLast.j3 k (applyF S C) (applyF S C) false) true := by
    refine Ev.step (f := fun k => spoorlaw03_DiskLast.l1 k (applyF S C) (applyF S C) ((applyF S C).length : Int) ((0 : Nat) : Int)) (fun k => ?_) (Last_l1 _ hl (applyF S C).length 0 (by omega))
    simp only [spoorlaw03_DiskLast.j3, if_neg (show ¬ (false = true) from nofun)]
    rfl
  simp only [disk_Flush.f, disk_Held.f, Option.bind_some]
  unfold flushF
  rw [if_pos hc]
  by_cases z : (powerF f o).1 = 0
  · rw [if_pos z]
    simp only [if_pos (of_right (right_flushed (f' := (powerF f o).2.1) h hp.1)), if_true]
    have e : applyF (applyF S C) [] = applyF S C := rfl
    have e2 : ((([] : List S40).length : Int) != 0) = false := rfl
    simp only [e, e2, if_true]
    exact hj
  · rw [if_neg z]
    have hc2 : checkF S C (powerF f o).2.1 = 0 := of_right ⟨h.1, h.2.1, h.2.2.1, hp.1, h.2.2.2.2⟩
    simp only [if_pos hc2, if_true, if_neg z]
    exact hj
theorem Last_l0 (S : List ByteArray) (C C' : List S40) (f f' : Int) (o o' : Bool) (a : Int) (data : ByteArray) (n : Int) (h : RightDisk S C' f') (hf : f' ≤ 9223372036854775807)
    (hw : ∀ i : Nat, i < S.length → (((i : Int) = a ∧ (n = 0 ∨ n = 9 ∧ o = false ∧ data.size = 128 ∧ C.length < 4096)) ∧ rdOf ByteArray.empty (applyF S C') (i : Int) = data) ∨ (¬ ((i : Int) = a ∧ (n = 0 ∨ n = 9 ∧ o = false ∧ data.size = 128 ∧ C.length < 4096)) ∧ rdOf ByteArray.empty (applyF S C') (i : Int) = rdOf ByteArray.empty (applyF S C) (i : Int))) (d : Nat) :
    ∀ i : Nat, i + d = S.length → Ev (fun k => spoorlaw03_DiskLast.l0 k a data (applyF S C) n (applyF S C') (S.length : Int) i S C f o S C' f' o') true := by
  have hl1 := applyF_len C S
  have hl2 := applyF_len C' S
  have hS := h.2.1
  induction d with
  | zero =>
    intro i hi
    refine Ev.step (fun k => ?_) (Last_end S C' f' o' h hf)
    simp only [spoorlaw03_DiskLast.l0]
    rw [if_neg (by omega)]
  | succ d ih =>
    intro i hi
    have hlt : i < S.length := by omega
    have hrec := ih (i + 1) (by omega)
    have ht : rdOf ByteArray.empty (applyF S C') (i : Int) = data → Ev (fun k => spoorlaw03_DiskLast.j2 k a data (applyF S C) n (applyF S C') (i : Int) (rdOf ByteArray.empty (applyF S C) (i : Int)) (S.length : Int) (i : Int) true S C f o S C' f' o') true := by
      intro e
      refine Ev.step (fun k => ?_) hrec
      simp only [spoorlaw03_DiskLast.j2, if_true]
      rw [if_pos (by omega), if_pos (by omega), e, if_pos rfl, up_ i (by omega)]
    have hfl : rdOf ByteArray.empty (applyF S C') (i : Int) = rdOf ByteArray.empty (applyF S C) (i : Int) → Ev (fun k => spoorlaw03_DiskLast.j2 k a data (applyF S C) n (applyF S C') (i : Int) (rdOf ByteArray.empty (applyF S C) (i : Int)) (S.length : Int) (i : Int) false S C f o S C' f' o') true := by
      intro e
      refine Ev.step (fun k => ?_) hrec
      simp only [spoorlaw03_DiskLast.j2, if_neg (show ¬ (false = true) from nofun)]
      rw [if_pos (by omega), if_pos (by omega), e, if_pos rfl, up_ i (by omega)]
    refine Ev.step (f := fun k => if (i : Int) = a then if n = 0 then spoorlaw03_DiskLast.j2 k a data (applyF S C) n (applyF S C') (i : Int) (rdOf ByteArray.empty (applyF S C) (i : Int)) (S.length : Int) (i : Int) true S C f o S C' f' o' else if n = 9 then if o = true then spoorlaw03_DiskLast.j2 k a data (applyF S C) n (applyF S C') (i : Int) (rdOf ByteArray.empty (applyF S C) (i : Int)) (S.length : Int) (i : Int) false S C f o S C' f' o' else if (data.size : Int) = 128 then spoorlaw03_DiskLast.j2 k a data (applyF S C) n (applyF S C') (i : Int) (rdOf ByteArray.empty (applyF S C) (i : Int)) (S.length : Int) (i : Int) (decide ((C.length : Int) < 4096)) S C f o S C' f' o' else spoorlaw03_DiskLast.j2 k a data (applyF S C) n (applyF S C') (i : Int) (rdOf ByteArray.empty (applyF S C) (i : Int)) (S.length : Int) (i : Int) false S C f o S C' f' o' else spoorlaw03_DiskLast.j2 k a data (applyF S C) n (applyF S C') (i : Int) (rdOf ByteArray.empty (applyF S C) (i : Int)) (S.length : Int) (i : Int) false S C f o S C' f' o' else spoorlaw03_DiskLast.j2 k a data (applyF S C) n (applyF S C') (i : Int) (rdOf ByteArray.empty (applyF S C) (i : Int)) (S.length : Int) (i : Int) false S C f o S C' f' o') (fun k => ?_) ?_
    · simp only [spoorlaw03_DiskLast.l0]
      rw [if_pos (by omega), if_pos (by omega), if_pos (by omega)]
    · rcases hw i hlt with ⟨⟨e, w⟩, r⟩ | ⟨w, r⟩
      · simp only [if_pos e]
        by_cases n0 : n = 0
        · simp only [if_pos n0]; exact ht r
        · obtain ⟨n9, ho, hd, hc⟩ := w.resolve_left n0
          have hd' : (data.size : Int) = 128 := by omega
          have hc' : decide ((C.length : Int) < 4096) = true := decide_eq_true (by omega)
          simp only [if_neg n0, if_pos n9, ho, if_neg (show ¬ (false = true) from nofun), if_pos hd', hc']
          rw [ho] at ht
          exact ht r
      · by_cases e : (i : Int) = a
        · simp only [if_pos e]
          have w' := fun z => w ⟨e, z⟩
          have n0 : ¬ n = 0 := fun z => w' (.inl z)
          simp only [if_neg n0]
          by_cases n9 : n = 9
          · simp only [if_pos n9]
            cases o with
            | true => simp only [if_true]; exact hfl r
            | false =>
              simp only [if_neg (show ¬ (false = true) from nofun)]
              by_cases hd : (data.size : Int) = 128
              · have hc' : decide ((C.length : Int) < 4096) = false := decide_eq_false (fun z => w' (.inr ⟨n9, rfl, by omega, by omega⟩))
                simp only [if_pos hd, hc']
                exact hfl r
              · simp only [if_neg hd]; exact hfl r
          · simp only [if_neg n9]; exact hfl r
        · simp only [if_neg e]; exact hfl r
theorem DiskLast : spoorlaw03_DiskLast.Pure := by
  intro S C f o a data hd ha hdat
  have hf := wf_range hd.2.2.1
  apply Ev.rounds
  unfold spoorlaw03_DiskLast.f
  refine Ev.bind lives_ev ?_
  simp only [if_true, disk_Held.f, disk_Write.f, Option.bind_some]
  by_cases c : checkF S C f = 0
  · have hr := right_of c
    simp only [if_pos c, if_true]
    have main : ∀ C' f' o' n, writeF S C f o a data = (S, C', f', o', n) → RightDisk S C' f' → f' ≤ 9223372036854775807 →
        (∀ i : Nat, i < S.length → (((i : Int) = a ∧ (n = 0 ∨ n = 9 ∧ o = false ∧ data.size = 128 ∧ C.length < 4096)) ∧ rdOf ByteArray.empty (applyF S C') (i : Int) = data) ∨ (¬ ((i : Int) = a ∧ (n = 0 ∨ n = 9 ∧ o = false ∧ data.size = 128 ∧ C.length < 4096)) ∧ rdOf ByteArray.empty (applyF S C') (i : Int) = rdOf ByteArray.empty (applyF S C) (i : Int))) →
        Ev (fun k => if (if checkF (writeF S C f o a data).1 (writeF S C f o a data).2.1 (writeF S C f o a data).2.2.1 = 0 then (applyF (writeF S C f o a data).1 (writeF S C f o a data).2.1, (0 : Int)) else ([], 2)).2 = 0 then if (((if checkF (writeF S C f o a data).1 (writeF S C f o a data).2.1 (writeF S C f o a data).2.2.1 = 0 then (applyF (writeF S C f o a data).1 (writeF S C f o a data).2.1, (0 : Int)) else ([], 2)).1.length : Nat) : Int) = ((applyF S C).length : Int) then (disk_Check.f (writeF S C f o a data).1 (writeF S C f o a data).2.1 (writeF S C f o a data).2.2.1 (writeF S C f o a data).2.2.2.1).bind fun t => spoorlaw03_DiskLast.j0 k a data (applyF S C) (writeF S C f o a data).2.2.2.2 (if checkF (writeF S C f o a data).1 (writeF S C f o a data).2.1 (writeF S C f o a data).2.2.1 = 0 then (applyF (writeF S C f o a data).1 (writeF S C f o a data).2.1, (0 : Int)) else ([], 2)).1 (t != 0) S C f o (writeF S C f o a data).1 (writeF S C f o a data).2.1 (writeF S C f o a data).2.2.1 (writeF S C f o a data).2.2.2.1 else spoorlaw03_DiskLast.j0 k a data (applyF S C) (writeF S C f o a data).2.2.2.2 (if checkF (writeF S C f o a data).1 (writeF S C f o a data).2.1 (writeF S C f o a data).2.2.1 = 0 then (applyF (writeF S C f o a data).1 (writeF S C f o a data).2.1, (0 : Int)) else ([], 2)).1 true S C f o (writeF S C f o a data).1 (writeF S C f o a data).2.1 (writeF S C f o a data).2.2.1 (writeF S C f o a data).2.2.2.1 else spoorlaw03_DiskLast.j0 k a data (applyF S C) (writeF S C f o a data).2.2.2.2 (if checkF (writeF S C f o a data).1 (writeF S C f o a data).2.1 (writeF S C f o a data).2.2.1 = 0 then (applyF (writeF S C f o a data).1 (writeF S C f o a data).2.1, (0 : Int)) else ([], 2)).1 true S C f o (writeF S C f o a data).1 (writeF S C f o a data).2.1 (writeF S C f o a data).2.2.1 (writeF S C f o a data).2.2.2.1) true := by
      intro C' f' o' n e h hf' hw
      rw [e]
      simp only [if_pos (of_right h), if_true, disk_Check.f, Option.bind_some, of_right h, applyF_len]
      have e2 : ((0 : Int) != 0) = false := rfl
      simp only [e2]
      refine Ev.step (f := fun k => spoorlaw03_DiskLast.l0 k a data (applyF S C) n (applyF S C') (S.length : Int) ((0 : Nat) : Int) S C f o S C' f' o') (fun k => ?_) (Last_l0 S C C' f f' o o' a data n h hf' hw S.length 0 (by omega))
      simp only [spoorlaw03_DiskLast.j0, if_neg (show ¬ (false = true) from nofun), applyF_len]
      rfl
    rcases writeF_ways o a data c with ⟨f', o', n, e, ho, h0, h1, h2, h3, h4, h5⟩ | ⟨n, e, h0, h1⟩
    · have hpr := powerF_range false hr.2.2.2.1 hf.2
      have hf' : f' = (powerF f false).2.1 := congrArg (·.1) h5
      refine main _ _ _ _ e (right_put hr h0 h1 h2 h3 (by rw [hf']; exact hpr.1)) (by rw [hf']; exact hpr.2) (fun i hi => ?_)
      rw [applyF_snoc]
      have hlen : i < (applyF S C).length := by rw [applyF_len]; exact hi
      rw [rdE _ i (by rw [List.length_set]; exact hlen), rdE _ i hlen, List.getElem_set]
      by_cases q : (i : Int) = a
      · refine .inl ⟨⟨q, ?_⟩, by rw [if_pos (by show a.toNat = i; omega)]⟩
        rcases h4 with z | z
        · exact .inl z
        · exact .inr ⟨z, ho, h2, h3⟩
      · exact .inr ⟨fun z => q z.1, by rw [if_neg (by show ¬ a.toNat = i; omega)]⟩
    · refine main _ _ _ _ e hr hf.2 (fun i hi => .inr ⟨?_, rfl⟩)
      rintro ⟨_, z | z⟩
      · exact h0 z
      · have := h1 z.1
        rw [z.2.1] at this
        exact absurd this (by decide)
  · have hw : writeF S C f o a data = ([], [], 0, false, 2) := by unfold writeF; rw [if_neg c]
    simp only [if_neg c, hw]
    exact Ev.now _
end Go.Proofs.Ytbglcbjbjgjebaa.Pure
