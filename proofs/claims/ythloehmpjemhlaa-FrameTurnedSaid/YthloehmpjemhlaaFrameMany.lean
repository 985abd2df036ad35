/- Several frames, one behind the other: what is read of them, whole and cut; and of a number's bytes that are cut. -/
import Derived.Test.YthloehmpjemhlaaPx8
import Derived.Test.YthloehmpjemhlaaPx6
import Derived.Test.YthloehmpjemhlaaFrameLives
import Derived.Test.YthloehmpjemhlaaFrame
set_option linter.unusedVariables false
set_option linter.unusedSimpArgs false
namespace Go.Proofs.Ythloehmpjemhlaa.Pure
open Go.RowKit Go.Proofs.Ythloehmpjemhlaa.P Go.Proofs.YthloehmpjemhlaaW.PrintWords Go.Proofs.YthloehmpjemhlaaW.PrintLast Go.Proofs.YthloehmpjemhlaaW.PrintMore
/-- payloads' frames, one behind the other. -/
def cat : List ByteArray → ByteArray
  | [] => E0
  | p :: l => putS p ++ cat l
def good (l : List ByteArray) : Prop := l.length ≤ 20 ∧ ∀ p ∈ l, p.size ≤ 4096
instance (l : List ByteArray) : Decidable (good l) := inferInstanceAs (Decidable (_ ∧ _))
theorem B_E0 : B E0 = [] := rfl
theorem B_ext {s t : ByteArray} (h : B s = B t) : s = t := B_inj h
theorem app_assoc (a b c : ByteArray) : (a ++ b) ++ c = a ++ (b ++ c) := by apply B_inj; rw [B_app, B_app, B_app, B_app, List.append_assoc]
theorem E0_app (a : ByteArray) : E0 ++ a = a := by apply B_inj; rw [B_app, B_E0, List.nil_append]
theorem app_E0 (a : ByteArray) : a ++ E0 = a := by apply B_inj; rw [B_app, B_E0, List.append_nil]
theorem cat_snoc (l : List ByteArray) (p : ByteArray) : cat (l ++ [p]) = cat l ++ putS p := by
  induction l with
  | nil => show putS p ++ E0 = E0 ++ putS p; rw [E0_app, app_E0]
  | cons q l ih => show putS q ++ cat (l ++ [p]) = (putS q ++ cat l) ++ putS p; rw [ih, app_assoc]
theorem putS_le (p : ByteArray) (h : p.size ≤ 4096) : (putS p).size ≤ 4110 := by rw [putS_size]; have := nb_len64 p.size (by omega); omega
theorem cat_le (l : List ByteArray) (h : ∀ p ∈ l, p.size ≤ 4096) : (cat l).size ≤ 4110 * l.length := by
  induction l with
  | nil => exact Nat.zero_le _
  | cons p l ih =>
    show (putS p ++ cat l).size ≤ _
    rw [ByteArray.size_append, List.length_cons]
    have := ih (fun q hq => h q (List.mem_cons_of_mem _ hq))
    have := putS_le p (h p (by simp))
    omega
theorem frames_l0 (l : List ByteArray) (hl : l.length ≤ 8796093022202) (hs : ∀ p ∈ l, p.size ≤ 140737488351232) (d : Nat) : ∀ i : Nat, i + d = l.length → i ≤ 20 → good (l.take i) → Ev (fun k => spoorlaw04_frames.l0 k (cat (l.take i)) l (l.length : Int) i) (if good l then (cat l, true) else (E0, false)) := by
  induction d with
  | zero =>
    intro i hi h20 hg
    rw [List.take_of_length_le (by omega)] at hg ⊢
    rw [if_pos hg]
    refine Ev.step (fun k => ?_) (Ev.now _)
    simp only [spoorlaw04_frames.l0]
    rw [if_neg (by omega)]
  | succ d ih =>
    intro i hi h20 hg
    have hlt : i < l.length := by omega
    have hps := hs l[i] (List.getElem_mem hlt)
    have ht : l.take (i + 1) = l.take i ++ [l[i]] := List.take_succ_eq_append_getElem hlt
    refine Ev.step (f := fun k => (frame_Put.f k l[i]).bind fun b => if b.2 = 0 then (if (i : Int) ≥ 20 then some (E0, false) else if (cat (l.take i)).size + b.1.size ≤ 9223372036854775807 then spoorlaw04_frames.l0 k (cat (l.take i) ++ b.1) l (l.length : Int) ((i + 1 : Nat) : Int) else none) else some (E0, false)) (fun k => ?_) (Ev.bind (FPut_ev l[i] hps) ?_)
    · simp only [spoorlaw04_frames.l0]
      rw [if_pos (by omega), if_pos (by omega), if_pos (by omega), rdOf_nat _ _ i hlt, wrap_up i (by omega)]
      rfl
    · by_cases hp : l[i].size > 4096
      · have hng : ¬ good l := fun g => by have := g.2 l[i] (List.getElem_mem hlt); omega
        have : ¬ (11 : Int) = 0 := by decide
        simp only [if_pos hp, if_neg this, if_neg hng]
        exact Ev.now _
      · simp only [if_neg hp, if_true]
        by_cases h : i ≥ 20
        · have h' : (i : Int) ≥ 20 := by omega
          have hng : ¬ good l := fun g => by have := g.1; omega
          simp only [if_pos h', if_neg hng]
          exact Ev.now _
        · have h' : ¬ (i : Int) ≥ 20 := by omega
          have hsz : (cat (l.take i)).size + (putS l[i]).size ≤ 9223372036854775807 := by
            have h1 := cat_le (l.take i) hg.2
            have h2 := hg.1
            have h3 := putS_le l[i] (by omega)
            omega
          simp only [if_neg h', if_pos hsz]
          have := ih (i + 1) (by omega) (by omega) ⟨by rw [List.length_take]; omega, fun p hp' => by
            rw [ht] at hp'
            rcases List.mem_append.1 hp' with q | q
            · exact hg.2 p q
            · rw [List.mem_singleton.1 q]; omega⟩
          rw [ht, cat_snoc] at this
          exact this
theorem frames_ev (l : List ByteArray) (hl : l.length ≤ 8796093022202) (hs : ∀ p ∈ l, p.size ≤ 140737488351232) : Ev (fun k => spoorlaw04_frames.f k l) (if good l then (cat l, true) else (E0, false)) :=
  frames_l0 l hl hs l.length 0 (by omega) (by omega) ⟨by simp, fun p hp => by simp at hp⟩
theorem nextS_E0 : ¬ (nextS E0).2.2 = 0 := fun h => by have := nextS_smaller E0 h; exact absurd this (Nat.not_lt_zero _)
/-- the frames of several payloads are just these. -/
theorem parse_cat (l : List ByteArray) (h : ∀ p ∈ l, p.size ≤ 4096) (m : ByteArray) (hm : ¬ (nextS m).2.2 = 0) : (parse (cat l ++ m)).map (·.1) = l ∧ (parse (cat l ++ m)).length = l.length ∧ (l ≠ [] → ∃ x, (parse (cat l ++ m)).getLast? = some x ∧ x.2 = m) := by
  induction l with
  | nil =>
    have e0 : cat [] ++ m = m := E0_app m
    rw [e0, parse_no hm]
    exact ⟨rfl, rfl, fun h => absurd rfl h⟩
  | cons p l ih =>
    have hn := nextS_put p (cat l ++ m) (h p (by simp))
    have e : cat (p :: l) ++ m = putS p ++ (cat l ++ m) := by show (putS p ++ cat l) ++ m = _; rw [app_assoc]
    obtain ⟨i1, i2, i3⟩ := ih (fun q hq => h q (List.mem_cons_of_mem _ hq))
    rw [e]
    have hy := parse_yes (s := putS p ++ (cat l ++ m)) (by rw [hn])
    rw [hn] at hy
    rw [hy]
    refine ⟨by simp [i1], by simp [i2], fun _ => ?_⟩
    by_cases hl : l = []
    · subst hl
      have e2 : cat [] ++ m = m := E0_app m
      rw [e2, parse_no hm]
      exact ⟨_, rfl, rfl⟩
    · obtain ⟨x, hx, hx2⟩ := i3 hl
      refine ⟨x, ?_, hx2⟩
      rw [List.getLast?_cons, hx]
      rfl
theorem Take_cat (more : ByteArray) (hmore : more.size ≤ 140737488351232) (l : List ByteArray) (h : ∀ p ∈ l, p.size ≤ 4096) (out : List ByteArray) (hl : out.length + l.length ≤ 8796093022207) : Ev (fun k => frame_Take.l0 k (cat l ++ more) ((out.length + l.length : Nat) : Int) out) (out ++ l, more, 0) := by
  induction l generalizing out with
  | nil =>
    show Ev (fun k => frame_Take.l0 k (E0 ++ more) _ out) _
    rw [E0_app]
    refine Ev.step (fun k => ?_) (Ev.now _)
    simp only [frame_Take.l0]
    rw [if_neg (by simp)]
    simp
  | cons p l ih =>
    have hn := nextS_put p (cat l ++ more) (h p (by simp))
    have e : cat (p :: l) ++ more = putS p ++ (cat l ++ more) := by show (putS p ++ cat l) ++ more = _; rw [app_assoc]
    rw [e]
    have hc := cat_le l (fun q hq => h q (List.mem_cons_of_mem _ hq))
    have hp := putS_le p (h p (by simp))
    have hlc : (p :: l).length = l.length + 1 := rfl
    have := ih (fun q hq => h q (List.mem_cons_of_mem _ hq)) (out ++ [p]) (by rw [List.length_append]; simp; omega)
    rw [List.append_assoc] at this
    have el : (out ++ [p]).length + l.length = out.length + (p :: l).length := by rw [List.length_append]; simp; omega
    rw [el] at this
    have c1 : (out.length : Int) < ((out.length + (p :: l).length : Nat) : Int) := by omega
    have c2 : out.length < 8796093022208 := by omega
    refine Ev.step (f := fun k => (frame_Next.f k (putS p ++ (cat l ++ more))).bind fun b => if b.2.2 = 0 then (if out.length < 8796093022208 then frame_Take.l0 k b.2.1 ((out.length + (p :: l).length : Nat) : Int) (out ++ [b.1]) else none) else some ([], E0, b.2.2)) (fun k => ?_) (Ev.bind (FNext_ev _ ?_) ?_)
    · simp only [frame_Take.l0]; rw [if_pos c1]; rfl
    · rw [ByteArray.size_append, ByteArray.size_append]; omega
    · rw [hn]
      simp only [if_true, if_pos c2]
      exact this
end Go.Proofs.Ythloehmpjemhlaa.Pure
