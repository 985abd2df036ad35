/- Without the document: what was flushed is there behind any crash, whatever was written elsewhere since. No condition beyond the statement's own. -/
import Derived.Test.YtbglcbjbjgjebaaPx12
import Derived.Test.YtbglcbjbjgjebaaDiskRight
set_option linter.unusedVariables false
set_option linter.unusedSimpArgs false
namespace Go.Proofs.Ytbglcbjbjgjebaa.Pure
open Go.RowKit Go.Proofs.Ytbglcbjbjgjebaa.P Go.Proofs.YtbglcbjbjgjebaaW.PrintWords Go.Proofs.YtbglcbjbjgjebaaW.PrintLast Go.Proofs.YtbglcbjbjgjebaaW.PrintMore
theorem crashN_far (K : List Bool) (torn : Int) (n : Nat) (S : List ByteArray) (C : List S40) (a : Nat) (ha : a < S.length) (h : ∀ p ∈ C, 0 ≤ p.f0 ∧ ¬ p.f0 = (a : Int)) : ∀ i : Nat, i ≤ C.length → rdOf ByteArray.empty (crashN K torn n S C i) (a : Int) = rdOf ByteArray.empty S (a : Int) := by
  intro i
  induction i with
  | zero => intro _; rfl
  | succ i ih =>
    intro hi
    have hlt : i < C.length := hi
    have hcd : C.getD i z40 = C[i] := by rw [List.getD_eq_getElem?_getD, List.getElem?_eq_getElem hlt]; rfl
    have hp := h C[i] (List.getElem_mem hlt)
    have hl := crashN_len K torn n S C i
    rw [← ih (by omega)]
    show rdOf ByteArray.empty (crashStep K torn n i (C.getD i z40) (crashN K torn n S C i)) (a : Int) = _
    rw [hcd]
    unfold crashStep
    have key : ∀ v : ByteArray, rdOf ByteArray.empty ((crashN K torn n S C i).set C[i].f0.toNat v) (a : Int) = rdOf ByteArray.empty (crashN K torn n S C i) (a : Int) := by
      intro v
      rw [rdE _ a (by rw [List.length_set]; omega), rdE _ a (by omega), List.getElem_set_ne (by omega)]
    split
    · exact key _
    · split
      · exact key _
      · rfl
theorem crashN_right (K : List Bool) (torn : Int) (n : Nat) (hn : n ≤ 128) (S : List ByteArray) (C : List S40) (f : Int) (h : RightDisk S C f) : ∀ i : Nat, i ≤ C.length → Right (crashN K torn n S C i) := by
  intro i
  induction i with
  | zero => intro _; exact h.2.2.2.2.1
  | succ i ih =>
    intro hi
    have hlt : i < C.length := hi
    have hcd : C.getD i z40 = C[i] := by rw [List.getD_eq_getElem?_getD, List.getElem?_eq_getElem hlt]; rfl
    obtain ⟨p0, p1, p2⟩ := h.2.2.2.2.2 C[i] (List.getElem_mem hlt)
    have := crashStep_right (K := K) (torn := torn) (i := i) (ih (by omega)) hn p2 p0 (by rw [crashN_len]; exact p1)
    show Right (crashStep K torn n i (C.getD i z40) (crashN K torn n S C i))
    rw [hcd]
    exact this
theorem powerF_free : powerF (-1) false = (0, -1, false) := by unfold powerF; rw [if_neg (by decide), if_neg (by decide), if_neg (by decide)]
theorem Kept_l0 (a : Nat) (data : ByteArray) (l : List S40) (hl : l.length < 9223372036854775807) (K : List Bool) (torn b : Int) (S : List ByteArray) (ha : a < S.length) (hv : rdOf ByteArray.empty S (a : Int) = data) (d : Nat) :
    ∀ (i : Nat) (C : List S40), i + d = l.length → RightDisk S C (-1) → (∀ p ∈ C, ¬ p.f0 = (a : Int)) → Ev (fun k => spoorlaw03_DiskKept.l0 k (a : Int) data K torn b 0 l (l.length : Int) i S C (-1) false) true := by
  induction d with
  | zero =>
    intro i C hi h hp
    have hc := of_right h
    have hn : (max 0 (min b 128)).toNat ≤ 128 := by omega
    have hr := crashN_right K torn (max 0 (min b 128)).toNat hn S C (-1) h C.length (Nat.le_refl _)
    have hlen : (crashF K torn (max 0 (min b 128)).toNat S C).length = S.length := crashN_len _ _ _ _ _ _
    have hfar : rdOf ByteArray.empty (crashF K torn (max 0 (min b 128)).toNat S C) (a : Int) = data := (crashN_far K torn _ S C a ha (fun p q => ⟨(h.2.2.2.2.2 p q).1, hp p q⟩) C.length (Nat.le_refl _)).trans hv
    have hc2 : checkF (crashF K torn (max 0 (min b 128)).toNat S C) [] (-1) = 0 := of_right ⟨by rw [hlen]; exact h.1, by rw [hlen]; exact h.2.1, by simp, by decide, hr, fun p q => absurd q (by simp)⟩
    have hrd : readF (crashF K torn (max 0 (min b 128)).toNat S C) [] (-1) false (a : Int) = (data, 0) := by
      unfold readF
      have hh : hasF (crashF K torn (max 0 (min b 128)).toNat S C).length (a : Int) = true := by unfold hasF; rw [hlen, decide_eq_true (by omega), decide_eq_true (by omega)]; rfl
      rw [if_pos hc2, if_neg (show ¬ (false = true) from nofun), hh, if_neg (show ¬ (true = false) from nofun), holdsF_fold]
      show (rdOf ByteArray.empty (crashF K torn (max 0 (min b 128)).toNat S C) (a : Int), (0 : Int)) = _
      rw [hfar]
    refine Ev.step (f := fun _ => some true) (fun k => ?_) (Ev.now _)
    simp only [spoorlaw03_DiskKept.l0]
    rw [if_neg (by omega)]
    simp only [disk_Crash.f, disk_Read.f, Option.bind_some, if_pos hc, hrd, if_true]
    rfl
  | succ d ih =>
    intro i C hi h hp
    have hlt : i < l.length := by omega
    have hc := of_right h
    by_cases e : l[i].f0 = (a : Int)
    · refine Ev.step (fun k => ?_) (ih (i + 1) C (by omega) h hp)
      simp only [spoorlaw03_DiskKept.l0]
      rw [if_pos (by omega), if_pos (by omega), if_pos (by omega), rdP l i hlt, if_pos e, up_ i (by omega)]
    · by_cases e2 : i < 50
      · have hb : ∃ C' n, writeF S C (-1) false l[i].f0 l[i].f1 = (S, C', -1, false, n) ∧ RightDisk S C' (-1) ∧ ∀ p ∈ C', ¬ p.f0 = (a : Int) := by
          rcases writeF_ways false l[i].f0 l[i].f1 hc with ⟨f', o', n, w, ho, h0, h1, h2, h3, h4, h5⟩ | ⟨n, w, _⟩
          · rw [powerF_free] at h5
            cases h5
            refine ⟨_, _, w, right_put h h0 h1 h2 h3 (by decide), fun p hq => ?_⟩
            rcases List.mem_append.1 hq with z | z
            · exact hp p z
            · obtain rfl := List.mem_singleton.1 z
              exact e
          · exact ⟨C, n, w, h, hp⟩
        obtain ⟨C', n, w, h', hp'⟩ := hb
        refine Ev.step (fun k => ?_) (ih (i + 1) C' (by omega) h' hp')
        simp only [spoorlaw03_DiskKept.l0]
        rw [if_pos (by omega), if_pos (by omega), if_pos (by omega), rdP l i hlt, if_neg e, if_pos (by omega), up_ i (by omega)]
        simp only [disk_Write.f, Option.bind_some, w]
      · refine Ev.step (fun k => ?_) (ih (i + 1) C (by omega) h hp)
        simp only [spoorlaw03_DiskKept.l0]
        rw [if_pos (by omega), if_pos (by omega), if_pos (by omega), rdP l i hlt, if_neg e, if_neg (by omega), up_ i (by omega)]
theorem zero128_size : zero128.size = 128 := by kernel_rfl
theorem DiskKept : spoorlaw03_DiskKept.Pure := by
  intro n a data l K torn b hn ha hdat hl hK ht hb
  have hl1 : l.length * 24 ≤ 140737488351232 := hl.1
  apply Ev.rounds
  unfold spoorlaw03_DiskKept.f
  refine Ev.bind lives_ev ?_
  simp only [if_true, disk_Make.f, disk_Write.f, disk_Flush.f, Option.bind_some]
  have hj : ∀ (x : Int) (S : List ByteArray) (C : List S40) (f : Int) (o : Bool), Ev (fun k => spoorlaw03_DiskKept.j0 k a data l K torn b x true S C f o) true := by
    intro x S C f o
    refine Ev.step (f := fun _ => some true) (fun k => ?_) (Ev.now _)
    simp only [spoorlaw03_DiskKept.j0, if_true]
  by_cases c : n < 1 ∨ n > 1024
  · simp only [if_pos c, if_neg (show ¬ (1 : Int) = 0 by decide)]
    exact hj _ _ _ _ _
  · simp only [if_neg c, if_true]
    obtain ⟨m, rfl⟩ : ∃ m : Nat, n = m := ⟨n.toNat, by omega⟩
    simp only [Int.toNat_natCast]
    have hr : RightDisk (List.replicate m zero128) [] (-1) := ⟨by rw [List.length_replicate]; omega, by rw [List.length_replicate]; omega, by simp, by decide, fun s hs => by rw [List.eq_of_mem_replicate hs]; exact zero128_size, fun p hp => absurd hp (by simp)⟩
    rcases writeF_ways false a data (of_right hr) with ⟨f', o', r, w, _, h0, h1, h2, h3, h4, h5⟩ | ⟨r, w, h0, _⟩
    · rw [powerF_free] at h5
      cases h5
      have hq := right_put (f' := -1) hr h0 h1 h2 h3 (by decide)
      obtain ⟨a', rfl⟩ : ∃ a' : Nat, a = a' := ⟨a.toNat, by omega⟩
      have hw : flushF (List.replicate m zero128) ([] ++ [⟨(a' : Int), data⟩]) (-1) false = ((List.replicate m zero128).set a' data, [], -1, false, 0) := by
        unfold flushF
        rw [if_pos (of_right hq), powerF_free]
        rfl
      simp only [w, hw]
      have e2 : ((0 : Int) != 0) = false := rfl
      simp only [e2]
      have hlen : a' < (List.replicate m zero128).length := by omega
      have hR : RightDisk ((List.replicate m zero128).set a' data) [] (-1) := by
        have := right_flushed (f' := -1) hq (by decide)
        exact this
      refine Ev.step (f := fun k => spoorlaw03_DiskKept.l0 k (a' : Int) data K torn b 0 l (l.length : Int) ((0 : Nat) : Int) ((List.replicate m zero128).set a' data) [] (-1) false) (fun k => ?_) (Kept_l0 a' data l (by omega) K torn b _ (by rw [List.length_set]; exact hlen) (by rw [rdE _ a' (by rw [List.length_set]; exact hlen), List.getElem_set_self]) l.length 0 [] (by omega) hR (fun p hp => absurd hp (by simp)))
      simp only [spoorlaw03_DiskKept.j0, if_neg (show ¬ (false = true) from nofun)]
      rfl
    · have e2 : (r != 0) = true := bne_iff_ne.mpr h0
      simp only [w, e2]
      exact hj _ _ _ _ _
end Go.Proofs.Ytbglcbjbjgjebaa.Pure
