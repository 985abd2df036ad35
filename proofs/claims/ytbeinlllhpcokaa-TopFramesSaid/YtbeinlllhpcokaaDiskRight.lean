/- Right disks stay right; what a sector holds behind a write, a flush, a crash. -/
import Derived.Test.YtbeinlllhpcokaaDiskBase
set_option linter.unusedVariables false
set_option linter.unusedSimpArgs false
namespace Go.Proofs.Ytbeinlllhpcokaa.Pure
open Go.RowKit Go.Proofs.Ytbeinlllhpcokaa.P Go.Proofs.YtbeinlllhpcokaaW.PrintWords Go.Proofs.YtbeinlllhpcokaaW.PrintLast Go.Proofs.YtbeinlllhpcokaaW.PrintMore
def RightDisk (S : List ByteArray) (C : List S61) (f : Int) : Prop := 1 ≤ S.length ∧ S.length ≤ 1024 ∧ C.length ≤ 4096 ∧ -1 ≤ f ∧ (∀ s ∈ S, s.size = 128) ∧ ∀ p ∈ C, 0 ≤ p.f0 ∧ p.f0 < (S.length : Int) ∧ p.f1.size = 128
theorem right_of {S : List ByteArray} {C : List S61} {f : Int} (h : checkF S C f = 0) : RightDisk S C f := by
  have hr := checkF_right S C f h
  have hi := checkF_in S C f h
  have hw : wideF S C f = false := by
    cases hw : wideF S C f with
    | false => rfl
    | true => unfold checkF at h; rw [if_pos hw] at h; exact absurd h (by decide)
  unfold wideF at hw
  simp only [Bool.or_eq_false_iff, decide_eq_false_iff_not] at hw
  refine ⟨by omega, hi.2.1, hi.2.2, by omega, hr.1, fun p hp => ?_⟩
  obtain ⟨j, hj, rfl⟩ := List.getElem_of_mem hp
  exact ⟨(hi.1 j hj).1, (hi.1 j hj).2, hr.2 _ hp⟩
theorem of_right {S : List ByteArray} {C : List S61} {f : Int} (h : RightDisk S C f) : checkF S C f = 0 := by
  obtain ⟨h0, h1, h2, h3, h4, h5⟩ := h
  have hw : wideF S C f = false := by
    unfold wideF
    simp only [Bool.or_eq_false_iff, decide_eq_false_iff_not]
    omega
  have hs : S.any (fun s => (s.size : Int) != 128) = false := by
    rw [List.any_eq_false]
    intro s hs
    have := h4 s hs
    simp only [bne_iff_ne, ne_eq, Classical.not_not]
    omega
  have hc : C.any (badF S.length) = false := by
    rw [List.any_eq_false]
    intro p hp z
    obtain ⟨a, b, c⟩ := h5 p hp
    rcases (badF_iff S.length p).1 z with z | z | z <;> omega
  unfold checkF
  rw [if_neg (by rw [hw]; decide), if_neg (by rw [hs]; decide), if_neg (by rw [hc]; decide)]
theorem applyF_sizes (C : List S61) : ∀ S : List ByteArray, (∀ s ∈ S, s.size = 128) → (∀ p ∈ C, p.f1.size = 128) → ∀ s ∈ applyF S C, s.size = 128 := by
  induction C with
  | nil => intro S h _; exact h
  | cons p C ih =>
    intro S h hp
    refine ih (S.set p.f0.toNat p.f1) (fun s hs => ?_) (fun q hq => hp q (List.mem_cons_of_mem _ hq))
    rcases List.mem_or_eq_of_mem_set hs with z | z
    · exact h s z
    · rw [z]; exact hp p List.mem_cons_self
theorem powerF_range {f : Int} (o : Bool) (h : -1 ≤ f) (h1 : f ≤ 9223372036854775807) : -1 ≤ (powerF f o).2.1 ∧ (powerF f o).2.1 ≤ 9223372036854775807 := by
  unfold powerF
  split
  · exact ⟨h, h1⟩
  · split
    · exact ⟨h, h1⟩
    · split
      · show -1 ≤ wrap64 (f - 1) ∧ wrap64 (f - 1) ≤ _
        unfold wrap64
        omega
      · exact ⟨h, h1⟩
theorem powerF_word (f : Int) : (powerF f false).1 = 0 ∨ (powerF f false).1 = 9 := by
  unfold powerF
  rw [if_neg (show ¬ (false = true) from nofun)]
  split
  · exact .inr rfl
  · split <;> exact .inl rfl
/-- a write either puts, or lets all be. -/
theorem writeF_ways {S : List ByteArray} {C : List S61} {f : Int} (o : Bool) (a : Int) (d : ByteArray) (h : checkF S C f = 0) :
    (∃ f' o' n, writeF S C f o a d = (S, C ++ [⟨a, d⟩], f', o', n) ∧ o = false ∧ 0 ≤ a ∧ a < (S.length : Int) ∧ d.size = 128 ∧ C.length < 4096 ∧ (n = 0 ∨ n = 9) ∧ (f', o', n) = ((powerF f false).2.1, (powerF f false).2.2, (powerF f false).1)) ∨
    (∃ n, writeF S C f o a d = (S, C, f, o, n) ∧ ¬ n = 0 ∧ (n = 9 → o = true)) := by
  have hl := (checkF_in S C f h).2.2
  unfold writeF
  rw [if_pos h]
  cases o with
  | true => rw [if_pos rfl]; exact .inr ⟨9, rfl, by decide, fun _ => rfl⟩
  | false =>
    rw [if_neg (show ¬ (false = true) from nofun)]
    cases hh : hasF S.length a with
    | false => rw [if_pos rfl]; exact .inr ⟨1, rfl, by decide, fun z => absurd z (by decide)⟩
    | true =>
      rw [if_neg (show ¬ (true = false) from nofun)]
      by_cases hd : d.size = 128
      · rw [if_neg (fun z => z hd)]
        by_cases hc : C.length = 4096
        · rw [if_pos hc]; exact .inr ⟨8, rfl, by decide, fun z => absurd z (by decide)⟩
        · rw [if_neg hc]
          exact .inl ⟨_, _, _, rfl, rfl, (hasF_in_ hh).1, (hasF_in_ hh).2, hd, by omega, powerF_word f, rfl⟩
      · rw [if_pos hd]; exact .inr ⟨11, rfl, by decide, fun z => absurd z (by decide)⟩
theorem right_put {S : List ByteArray} {C : List S61} {f f' : Int} {a : Int} {d : ByteArray} (h : RightDisk S C f) (h0 : 0 ≤ a) (h1 : a < (S.length : Int)) (h2 : d.size = 128) (h3 : C.length < 4096) (h4 : -1 ≤ f') : RightDisk S (C ++ [⟨a, d⟩]) f' := by
  obtain ⟨b0, b1, b2, b3, b4, b5⟩ := h
  refine ⟨b0, b1, by rw [List.length_append]; simp only [List.length_cons, List.length_nil]; omega, h4, b4, fun p hp => ?_⟩
  rcases List.mem_append.1 hp with z | z
  · exact b5 p z
  · obtain rfl := List.mem_singleton.1 z
    exact ⟨h0, h1, h2⟩
theorem right_flushed {S : List ByteArray} {C : List S61} {f f' : Int} (h : RightDisk S C f) (h4 : -1 ≤ f') : RightDisk (applyF S C) [] f' := by
  obtain ⟨b0, b1, b2, b3, b4, b5⟩ := h
  refine ⟨by rw [applyF_len]; exact b0, by rw [applyF_len]; exact b1, by simp, h4, applyF_sizes C S b4 (fun p hp => (b5 p hp).2.2), fun p hp => absurd hp (by simp)⟩
theorem wf_range {f : Int} (h : (Lit.int .i64 f).wf = true) : -9223372036854775808 ≤ f ∧ f ≤ 9223372036854775807 := by
  simp only [Lit.wf, Bool.and_eq_true, decide_eq_true_eq] at h
  have h1 : IntKind.min .i64 = -9223372036854775808 := by rfl
  have h2 : IntKind.max .i64 = 9223372036854775807 := by rfl
  omega
theorem crashN_far (K : List Bool) (torn : Int) (n : Nat) (S : List ByteArray) (C : List S61) (a : Nat) (ha : a < S.length) (h : ∀ p ∈ C, 0 ≤ p.f0 ∧ ¬ p.f0 = (a : Int)) : ∀ i : Nat, i ≤ C.length → rdOf ByteArray.empty (crashN K torn n S C i) (a : Int) = rdOf ByteArray.empty S (a : Int) := by
  intro i
  induction i with
  | zero => intro _; rfl
  | succ i ih =>
    intro hi
    have hlt : i < C.length := hi
    have hcd : C.getD i z61 = C[i] := by rw [List.getD_eq_getElem?_getD, List.getElem?_eq_getElem hlt]; rfl
    have hp := h C[i] (List.getElem_mem hlt)
    have hl := crashN_len K torn n S C i
    rw [← ih (by omega)]
    show rdOf ByteArray.empty (crashStep K torn n i (C.getD i z61) (crashN K torn n S C i)) (a : Int) = _
    rw [hcd]
    unfold crashStep
    have key : ∀ v : ByteArray, rdOf ByteArray.empty ((crashN K torn n S C i).set C[i].f0.toNat v) (a : Int) = rdOf ByteArray.empty (crashN K torn n S C i) (a : Int) := by
      intro v
      rw [rdE _ a (by rw [List.length_set]; omega), rdE _ a (by omega), List.getElem_set_ne (by omega)]
    split
    · exact key _
    · split
      · exact key _
      · rfl
theorem crashN_right (K : List Bool) (torn : Int) (n : Nat) (hn : n ≤ 128) (S : List ByteArray) (C : List S61) (f : Int) (h : RightDisk S C f) : ∀ i : Nat, i ≤ C.length → Right (crashN K torn n S C i) := by
  intro i
  induction i with
  | zero => intro _; exact h.2.2.2.2.1
  | succ i ih =>
    intro hi
    have hlt : i < C.length := hi
    have hcd : C.getD i z61 = C[i] := by rw [List.getD_eq_getElem?_getD, List.getElem?_eq_getElem hlt]; rfl
    obtain ⟨p0, p1, p2⟩ := h.2.2.2.2.2 C[i] (List.getElem_mem hlt)
    have := crashStep_right (K := K) (torn := torn) (i := i) (ih (by omega)) hn p2 p0 (by rw [crashN_len]; exact p1)
    show Right (crashStep K torn n i (C.getD i z61) (crashN K torn n S C i))
    rw [hcd]
    exact this
theorem powerF_free : powerF (-1) false = (0, -1, false) := by unfold powerF; rw [if_neg (by decide), if_neg (by decide), if_neg (by decide)]
end Go.Proofs.Ytbeinlllhpcokaa.Pure
