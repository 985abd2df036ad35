/- Frames that are written over sectors are read behind any crash, torn anywhere, as far as sectors were flushed, whatever was written behind these. No condition beyond the statement's own. -/
import Derived.Test.YtbeinlllhpcokaaPx24
import Derived.Test.YtbeinlllhpcokaaDiskRight
import Derived.Test.YtbeinlllhpcokaaFrameCut
set_option linter.unusedVariables false
set_option linter.unusedSimpArgs false
namespace Go.Proofs.Ytbeinlllhpcokaa.Pure
open Go.RowKit Go.Proofs.Ytbeinlllhpcokaa.P Go.Proofs.YtbeinlllhpcokaaW.PrintWords Go.Proofs.YtbeinlllhpcokaaW.PrintLast Go.Proofs.YtbeinlllhpcokaaW.PrintMore
theorem T_l4 (l m : List ByteArray) (hm : m.length ≤ l.length) (hl : l.length ≤ 20) (h : ∀ (i : Nat) (hi : i < m.length), m[i] = l[i]'(by omega)) (d : Nat) : ∀ i : Nat, i + d = m.length → Ev (fun k => spoortop_TopFrames.l4 k l m (m.length : Int) i) true := by
  induction d with
  | zero =>
    intro i hi
    refine Ev.step (f := fun _ => some true) (fun k => ?_) (Ev.now _)
    simp only [spoortop_TopFrames.l4]
    rw [if_neg (by omega)]
  | succ d ih =>
    intro i hi
    refine Ev.step (fun k => ?_) (ih (i + 1) (by omega))
    simp only [spoortop_TopFrames.l4]
    rw [if_pos (by omega), if_pos (by omega), if_pos (by omega), if_pos (by omega), rdE m i (by omega), rdE l i (by omega), if_pos (congrArg ByteArray.toList (h i (by omega))), up_ i (by omega)]
theorem T_j5 (l : List ByteArray) (hl : l.length ≤ 20) (hs : ∀ p ∈ l, p.size ≤ 4096) (c : Nat) (hc : c ≤ (cat l).size) : Ev (fun k => spoortop_TopFrames.j5 k l (cat l) ((cat l).extract 0 c)) true := by
  have hsz := cat_le l hs
  have hBt : B ((cat l).extract 0 c) = (B (cat l)).take c := by rw [B_extract, List.drop_zero]
  have htz : ((cat l).extract 0 c).size = c := by rw [ByteArray.size_extract]; omega
  obtain ⟨p1, p2, _⟩ := parse_cut l hs ((cat l).extract 0 c) c hc hBt
  have hwl := whole_le l c
  have hall := FAll_ev ((cat l).extract 0 c) (by omega) (by rw [p2]; omega)
  rw [p1] at hall
  have hmn : mn ((cat l).size : Int) (((cat l).extract 0 c).size : Int) = (c : Int) := by rw [htz]; unfold mn; split <;> omega
  have hlen : (l.take (whole l c)).length = whole l c := by rw [List.length_take]; omega
  have hj : Ev (fun k => spoortop_TopFrames.j6 k l (l.take (whole l c)) false) true := by
    refine Ev.step (fun k => ?_) (T_l4 l (l.take (whole l c)) (by omega) hl (fun i hi => List.getElem_take) (l.take (whole l c)).length 0 (by omega))
    simp only [spoortop_TopFrames.j6]
    rw [if_neg nofun]
    rfl
  refine Ev.step (f := fun k => (frame_All.f k ((cat l).extract 0 c)).bind fun a => (frame_All.f k ((cat l).extract 0 c)).bind fun b => if (a.1.length : Int) = (b.1.length : Int) then if a.2 = b.2 then spoortop_TopFrames.j6 k l a.1 (decide ((a.1.length : Int) > (l.length : Int))) else spoortop_TopFrames.j6 k l a.1 true else spoortop_TopFrames.j6 k l a.1 true) (fun k => ?_) ?_
  · simp only [spoortop_TopFrames.j5, hmn, if_pos (show (0 : Int) ≤ (c : Int) by omega), if_pos (show (c : Int) ≤ ((cat l).size : Int) by omega), Int.toNat_natCast]
  · refine Ev.bind hall (Ev.bind hall ?_)
    simp only [if_true]
    rw [decide_eq_false (by omega)]
    exact hj
theorem T_l3 (l : List ByteArray) (hl : l.length ≤ 20) (hs : ∀ p ∈ l, p.size ≤ 4096) (fl : Int) (n : Nat) (hn : n ≤ 100) (held : List ByteArray) (hlen : held.length = n + 1) (hend : fl < (n : Int) → 128 * fl ≤ ((cat l).size : Int)) (ht : ∀ i : Nat, (i : Int) < fl → fl < (n : Int) → rdOf ByteArray.empty held (i : Int) = (cat l).extract (128 * i) (128 * i + 128)) (d : Nat) :
    ∀ i : Nat, i + d = n → (i = 0 ∨ fl < (n : Int) ∧ (i : Int) ≤ fl) → Ev (fun k => spoortop_TopFrames.l3 k l fl (cat l) (n : Int) held ((cat l).extract 0 (128 * i)) (i : Int)) true := by
  have hcz : ∀ i : Nat, (i = 0 ∨ fl < (n : Int) ∧ (i : Int) ≤ fl) → 128 * i ≤ (cat l).size := by
    intro i h
    rcases h with rfl | ⟨h1, h2⟩
    · omega
    · have := hend h1; omega
  have stop : ∀ i : Nat, (i = 0 ∨ fl < (n : Int) ∧ (i : Int) ≤ fl) → ¬ ((i : Int) < (n : Int) ∧ fl < (n : Int) ∧ (i : Int) < fl) → Ev (fun k => spoortop_TopFrames.l3 k l fl (cat l) (n : Int) held ((cat l).extract 0 (128 * i)) (i : Int)) true := by
    intro i h c
    refine Ev.step (fun k => ?_) (T_j5 l hl hs (128 * i) (hcz i h))
    simp only [spoortop_TopFrames.l3]
    by_cases c1 : (i : Int) < (n : Int)
    · rw [if_pos c1]
      by_cases c2 : fl < (n : Int)
      · rw [if_pos c2, if_neg (fun z => c ⟨c1, c2, z⟩)]
      · rw [if_neg c2]
    · rw [if_neg c1]
  induction d with
  | zero =>
    intro i hi h
    exact stop i h (by omega)
  | succ d ih =>
    intro i hi h
    by_cases c : (i : Int) < (n : Int) ∧ fl < (n : Int) ∧ (i : Int) < fl
    · have hx := hcz (i + 1) (.inr ⟨c.2.1, by omega⟩)
      have hcat : (cat l).extract 0 (128 * i) ++ (cat l).extract (128 * i) (128 * i + 128) = (cat l).extract 0 (128 * (i + 1)) := by
        apply B_inj
        rw [B_app, B_extract, B_extract, B_extract, List.drop_zero, List.drop_zero, List.drop_take, Nat.add_sub_cancel_left, show 128 * (i + 1) = 128 * i + 128 by omega, List.take_add]
      have hsz : ((cat l).extract 0 (128 * i)).size + ((cat l).extract (128 * i) (128 * i + 128)).size ≤ 9223372036854775807 := by rw [ByteArray.size_extract, ByteArray.size_extract]; omega
      refine Ev.step (fun k => ?_) (ih (i + 1) (by omega) (.inr ⟨c.2.1, by omega⟩))
      simp only [spoortop_TopFrames.l3]
      rw [if_pos c.1, if_pos c.2.1, if_pos c.2.2, if_pos (by omega), if_pos (by omega), ht i c.2.2 c.2.1, if_pos hsz, hcat, up_ i (by omega)]
    · exact stop i h c
def chunk (T : ByteArray) (j : Nat) : ByteArray := T.extract (128 * j) (128 * j + 128)
theorem chunk_size (T : ByteArray) (n j : Nat) (hT : T.size = 128 * n) (hj : j < n) : (chunk T j).size = 128 := by
  unfold chunk
  rw [ByteArray.size_extract]
  omega
theorem write_free {S : List ByteArray} {C : List S61} (a : Nat) (d : ByteArray) (h : RightDisk S C (-1)) (h1 : a < S.length) (h2 : d.size = 128) (h3 : C.length < 4096) : writeF S C (-1) false (a : Int) d = (S, C ++ [⟨(a : Int), d⟩], -1, false, 0) := by
  rcases writeF_ways false (a : Int) d (of_right h) with ⟨f', o', n, w, _, _, _, _, _, _, h5⟩ | ⟨n, w, h0, _⟩
  · rw [powerF_free] at h5
    cases h5
    exact w
  · exfalso
    unfold writeF at w
    have hh : hasF S.length (a : Int) = true := by unfold hasF; rw [decide_eq_true (by omega), decide_eq_true (by omega)]; rfl
    rw [if_pos (of_right h), if_neg (show ¬ (false = true) from nofun), hh, if_neg (show ¬ (true = false) from nofun), if_neg (fun z => z h2), if_neg (by omega), powerF_free] at w
    injection w with _ w
    injection w with _ w
    injection w with _ w
    injection w with _ w
    exact h0 w.symm
theorem flush_free {S : List ByteArray} {C : List S61} (h : RightDisk S C (-1)) : flushF S C (-1) false = (applyF S C, [], -1, false, 0) := by
  unfold flushF
  rw [if_pos (of_right h), powerF_free]
  rfl
/-- what holds ahead of the write of the sector i. -/
structure At (T : ByteArray) (n : Nat) (fl : Int) (i : Nat) (S : List ByteArray) (C : List S61) : Prop where
  right : RightDisk S C (-1)
  len : S.length = n + 1
  few : C.length ≤ i
  held : ∀ j, j < i → rdOf ByteArray.empty (applyF S C) (j : Int) = chunk T j
  safe : ∀ j : Nat, (j : Int) < fl → fl < (i : Int) → rdOf ByteArray.empty S (j : Int) = chunk T j
  far : fl < (i : Int) → ∀ p ∈ C, fl ≤ p.f0
theorem applyF_snoc (S : List ByteArray) (C : List S61) (a : Nat) (d : ByteArray) : applyF S (C ++ [⟨(a : Int), d⟩]) = (applyF S C).set a d := by
  unfold applyF
  rw [List.foldl_append]
  rfl
theorem rd_set (S : List ByteArray) (a j : Nat) (d : ByteArray) (ha : a < S.length) (hj : j < S.length) : rdOf ByteArray.empty (S.set a d) (j : Int) = if a = j then d else rdOf ByteArray.empty S (j : Int) := by
  rw [rdE _ j (by rw [List.length_set]; exact hj), rdE _ j hj]
  by_cases e : a = j
  · subst e
    rw [if_pos rfl, List.getElem_set_self]
  · rw [if_neg e, List.getElem_set_ne e]
theorem At.write {T : ByteArray} {n i : Nat} {fl : Int} {S : List ByteArray} {C : List S61} (h : At T n fl i S C) (hn : n ≤ 100) (hi : i < n) (hT : T.size = 128 * n) (hf : fl ≠ (i : Int) ∨ ((∀ j : Nat, (j : Int) < fl → rdOf ByteArray.empty S (j : Int) = chunk T j) ∧ ∀ p ∈ C, fl ≤ p.f0)) : At T n fl (i + 1) S (C ++ [⟨(i : Int), chunk T i⟩]) where
  right := right_put h.right (by omega) (by have := h.len; omega) (chunk_size T n i hT hi) (by have := h.few; omega) (by decide)
  len := h.len
  few := by rw [List.length_append]; have := h.few; simp; omega
  held := by
    intro j hj
    have hl : (applyF S C).length = n + 1 := (applyF_len C S).trans h.len
    rw [applyF_snoc, rd_set _ i j _ (by omega) (by omega)]
    by_cases e : i = j
    · rw [if_pos e, e]
    · rw [if_neg e]
      exact h.held j (by omega)
  safe := by
    intro j hj hl
    by_cases e : fl = (i : Int)
    · exact (hf.resolve_left (fun z => z e)).1 j hj
    · exact h.safe j hj (by omega)
  far := by
    intro hl p hp
    rcases List.mem_append.1 hp with z | z
    · by_cases e : fl = (i : Int)
      · exact (hf.resolve_left (fun z => z e)).2 p z
      · exact h.far (by omega) p z
    · obtain rfl := List.mem_singleton.1 z
      show fl ≤ (i : Int)
      omega
theorem At.flush {T : ByteArray} {n i : Nat} {S : List ByteArray} {C : List S61} (h : At T n (i : Int) i S C) : At T n (i : Int) i (applyF S C) [] where
  right := right_flushed h.right (by decide)
  len := (applyF_len C S).trans h.len
  few := Nat.zero_le _
  held := h.held
  safe := fun j hj hl => absurd hl (by omega)
  far := fun hl p hp => absurd hp (by simp)
theorem ext_left (s z : ByteArray) (a b : Nat) (h : b ≤ s.size) : (s ++ z).extract a b = s.extract a b := by
  apply B_inj
  rw [B_extract, B_extract, B_app]
  rw [List.take_append_of_le_length (by rw [B_len]; exact h)]
theorem T_l2 (l : List ByteArray) (hl : l.length ≤ 20) (hs : ∀ p ∈ l, p.size ≤ 4096) (fl : Int) (K : List Bool) (torn b : Int) (z : ByteArray) (n : Nat) (hn : n ≤ 100) (hT : (cat l ++ z).size = 128 * n) (hz : z.size < 128) (d : Nat) :
    ∀ (i : Nat) (S : List ByteArray) (C : List S61), i + d = n → At (cat l ++ z) n fl i S C → Ev (fun k => spoortop_TopFrames.l2 k l fl K torn b (cat l) (cat l ++ z) (n : Int) 0 (n : Int) (i : Int) S C (-1) false) true := by
  induction d with
  | zero =>
    intro i S C hi h
    obtain rfl : i = n := by omega
    have hc := of_right h.right
    have hnn : (max 0 (min b 128)).toNat ≤ 128 := by omega
    have hr := crashN_right K torn (max 0 (min b 128)).toNat hnn S C (-1) h.right C.length (Nat.le_refl _)
    have hlen : (crashF K torn (max 0 (min b 128)).toNat S C).length = S.length := crashN_len _ _ _ _ _ _
    have hc2 : checkF (crashF K torn (max 0 (min b 128)).toNat S C) [] (-1) = 0 := of_right ⟨by rw [hlen]; exact h.right.1, by rw [hlen]; exact h.right.2.1, by simp, by decide, hr, fun p q => absurd q (by simp)⟩
    have hlh : (crashF K torn (max 0 (min b 128)).toNat S C).length = i + 1 := hlen.trans h.len
    have hb : (((crashF K torn (max 0 (min b 128)).toNat S C).length : Int) != wrap64 ((i : Int) + 1)) = false := by
      rw [hlh, up_ i (by omega)]
      exact bne_self_eq_false _
    rw [ByteArray.size_append] at hT
    have hlast := T_l3 l hl hs fl i hn (crashF K torn (max 0 (min b 128)).toNat S C) hlh (by intro hf; omega) (by
      intro j hj hf
      have hfar := crashN_far K torn (max 0 (min b 128)).toNat S C j (by have := h.len; omega) (fun p hp => ⟨(h.right.2.2.2.2.2 p hp).1, by have := h.far hf p hp; omega⟩) C.length (Nat.le_refl _)
      have hsafe := h.safe j hj hf
      have : rdOf ByteArray.empty (crashF K torn (max 0 (min b 128)).toNat S C) (j : Int) = chunk (cat l ++ z) j := hfar.trans hsafe
      rw [this]
      exact ext_left _ _ _ _ (by omega)) i 0 (by omega) (.inl rfl)
    refine Ev.step (f := fun k => spoortop_TopFrames.j3 k l fl (cat l) (i : Int) (crashF K torn (max 0 (min b 128)).toNat S C) false) (fun k => ?_) (Ev.step (fun k => ?_) hlast)
    · simp only [spoortop_TopFrames.l2]
      rw [if_neg (by omega)]
      simp only [disk_Crash.f, disk_Held.f, Option.bind_some, if_pos hc, if_pos hc2, if_true]
      have ha : applyF (crashF K torn (max 0 (min b 128)).toNat S C) [] = crashF K torn (max 0 (min b 128)).toNat S C := rfl
      rw [ha, hb]
    · simp only [spoortop_TopFrames.j3]
      rw [if_neg nofun, show (cat l).extract 0 (128 * 0) = (⟨#[]⟩ : ByteArray) from B_inj (by rw [B_extract]; rfl)]
      rfl
  | succ d ih =>
    intro i S C hi h
    have e1 : wrap64 (128 * (i : Int)) = ((128 * i : Nat) : Int) := by unfold wrap64; omega
    have e2 : wrap64 (((128 * i : Nat) : Int) + 128) = ((128 * i + 128 : Nat) : Int) := by unfold wrap64; omega
    have g0 : (0 : Int) ≤ ((128 * i : Nat) : Int) := by omega
    have g1 : ((128 * i : Nat) : Int) ≤ ((128 * i + 128 : Nat) : Int) := by omega
    have g2 : ((128 * i + 128 : Nat) : Int) ≤ ((cat l ++ z).size : Int) := by omega
    by_cases e : (i : Int) = fl
    · subst e
      have hf := h.flush
      have hw := write_free i (chunk (cat l ++ z) i) hf.right (by have := hf.len; omega) (chunk_size _ n i hT (by omega)) (by simp)
      have hnext := hf.write hn (by omega) hT (.inr ⟨fun j hj => hf.held j (by omega), fun p hp => absurd hp (by simp)⟩)
      refine Ev.step (fun k => ?_) (ih (i + 1) _ _ (by omega) hnext)
      simp only [spoortop_TopFrames.l2]
      rw [if_pos (by omega)]
      simp only [if_true, disk_Flush.f, disk_Write.f, flush_free h.right, Option.bind_some, e1, e2, if_pos g0, if_pos g1, if_pos g2, Int.toNat_natCast]
      rw [show (cat l ++ z).extract (128 * i) (128 * i + 128) = chunk (cat l ++ z) i from rfl, hw, up_ i (by omega)]
    · have hw := write_free i (chunk (cat l ++ z) i) h.right (by have := h.len; omega) (chunk_size _ n i hT (by omega)) (by have := h.few; omega)
      have hnext := h.write hn (by omega) hT (.inl (fun z => e z.symm))
      refine Ev.step (fun k => ?_) (ih (i + 1) _ _ (by omega) hnext)
      simp only [spoortop_TopFrames.l2]
      rw [if_pos (by omega), if_neg e]
      simp only [disk_Write.f, Option.bind_some, e1, e2, if_pos g0, if_pos g1, if_pos g2, Int.toNat_natCast]
      rw [show (cat l ++ z).extract (128 * i) (128 * i + 128) = chunk (cat l ++ z) i from rfl, hw, up_ i (by omega)]
theorem zero128_size : zero128.size = 128 := by kernel_rfl
theorem T_l1 (l : List ByteArray) (hl : l.length ≤ 20) (hs : ∀ p ∈ l, p.size ≤ 4096) (fl : Int) (K : List Bool) (torn b : Int) (d : Nat) :
    ∀ z : ByteArray, z.size < 128 → ((cat l).size + z.size + d) % 128 = 0 → z.size + d < 128 → Ev (fun k => spoortop_TopFrames.l1 k l fl K torn b (cat l) (cat l ++ z)) true := by
  have hsz := cat_le l hs
  have stop : ∀ z : ByteArray, z.size < 128 → ((cat l).size + z.size) % 128 = 0 → Ev (fun k => spoortop_TopFrames.l1 k l fl K torn b (cat l) (cat l ++ z)) true := by
    intro z hz hm
    obtain ⟨n, hn⟩ : ∃ n, (cat l).size + z.size = 128 * n := ⟨((cat l).size + z.size) / 128, by omega⟩
    have hT : (cat l ++ z).size = 128 * n := by rw [ByteArray.size_append]; exact hn
    have e1 : wrap64 (((cat l ++ z).size : Int) / 128) = (n : Int) := by rw [hT]; unfold wrap64; omega
    have e0 : ((cat l ++ z).size : Int) % 128 = 0 := by rw [hT]; omega
    by_cases c : n > 100
    · refine Ev.step (f := fun _ => some true) (fun k => ?_) (Ev.now _)
      simp only [spoortop_TopFrames.l1, if_pos e0, e1, disk_Make.f, Option.bind_some]
      rw [if_pos (by omega)]
    · have hr : RightDisk (List.replicate (n + 1) zero128) [] (-1) := ⟨by rw [List.length_replicate]; omega, by rw [List.length_replicate]; omega, by simp, by decide, fun s hs => by rw [List.eq_of_mem_replicate hs]; exact zero128_size, fun p hp => absurd hp (by simp)⟩
      have h0 : At (cat l ++ z) n fl 0 (List.replicate (n + 1) zero128) [] := ⟨hr, List.length_replicate, Nat.zero_le _, fun j hj => absurd hj (Nat.not_lt_zero _), fun j hj hl => absurd hl (by omega), fun _ p hp => absurd hp (by simp)⟩
      refine Ev.step (fun k => ?_) (T_l2 l hl hs fl K torn b z n (by omega) hT hz n 0 _ _ (by omega) h0)
      simp only [spoortop_TopFrames.l1, if_pos e0, e1, up_ n (by omega), disk_Make.f, Option.bind_some]
      have c1 : ¬ (((n + 1 : Nat) : Int) < 1 ∨ ((n + 1 : Nat) : Int) > 1024) := by omega
      simp only [if_neg c1, Int.toNat_natCast]
      rw [if_neg (by omega)]
      rfl
  induction d with
  | zero =>
    intro z hz hm _
    exact stop z hz hm
  | succ d ih =>
    intro z hz hm hd
    have e0 : ¬ ((cat l ++ z).size : Int) % 128 = 0 := by rw [ByteArray.size_append]; omega
    have hx : (cat l ++ z).size + 1 ≤ 9223372036854775807 := by rw [ByteArray.size_append]; omega
    have h1 : (z ++ (⟨#[0]⟩ : ByteArray)).size = z.size + 1 := by rw [ByteArray.size_append]; rfl
    have := ih (z ++ ⟨#[0]⟩) (by omega) (by rw [h1, ← hm]; congr 1; omega) (by omega)
    rw [← app_assoc] at this
    refine Ev.step (fun k => ?_) this
    simp only [spoortop_TopFrames.l1, if_neg e0, if_pos hx]
theorem T_l0 (l : List ByteArray) (hl : l.length ≤ 8796093022202) (hs : ∀ p ∈ l, p.size ≤ 140737488351232) (fl : Int) (K : List Bool) (torn b : Int) (d : Nat) :
    ∀ i : Nat, i + d = l.length → i ≤ 10 → (∀ p ∈ l.take i, p.size ≤ 4096) → Ev (fun k => spoortop_TopFrames.l0 k l fl K torn b (cat (l.take i)) l (l.length : Int) i) true := by
  induction d with
  | zero =>
    intro i hi h10 hg
    rw [List.take_of_length_le (by omega)] at hg ⊢
    have hj := T_l1 l (by omega) hg fl K torn b ((128 - (cat l).size % 128) % 128) E0 (by decide) (by show ((cat l).size + 0 + _) % 128 = 0; omega) (by show 0 + _ < 128; omega)
    rw [app_E0] at hj
    refine Ev.step (fun k => ?_) hj
    simp only [spoortop_TopFrames.l0]
    rw [if_neg (by omega)]
  | succ d ih =>
    intro i hi h10 hg
    have hlt : i < l.length := by omega
    have hps := hs l[i] (List.getElem_mem hlt)
    have ht : l.take (i + 1) = l.take i ++ [l[i]] := List.take_succ_eq_append_getElem hlt
    refine Ev.step (f := fun k => (frame_Put.f k l[i]).bind fun b_ => if b_.2 = 0 then (if (i : Int) ≥ 10 then some true else if (cat (l.take i)).size + b_.1.size ≤ 9223372036854775807 then spoortop_TopFrames.l0 k l fl K torn b (cat (l.take i) ++ b_.1) l (l.length : Int) ((i + 1 : Nat) : Int) else none) else some true) (fun k => ?_) (Ev.bind (FPut_ev l[i] hps) ?_)
    · simp only [spoortop_TopFrames.l0]
      rw [if_pos (by omega), if_pos (by omega), if_pos (by omega), rdE l i hlt, up_ i (by omega)]
    · by_cases hp : l[i].size > 4096
      · have : ¬ (11 : Int) = 0 := by decide
        simp only [if_pos hp, if_neg this]
        exact Ev.now _
      · simp only [if_neg hp, if_true]
        by_cases h : i ≥ 10
        · have h' : (i : Int) ≥ 10 := by omega
          simp only [if_pos h']
          exact Ev.now _
        · have h' : ¬ (i : Int) ≥ 10 := by omega
          have hsz : (cat (l.take i)).size + (putS l[i]).size ≤ 9223372036854775807 := by
            have h1 := cat_le (l.take i) hg
            have h3 := putS_le l[i] (by omega)
            rw [List.length_take] at h1
            omega
          simp only [if_neg h', if_pos hsz]
          have := ih (i + 1) (by omega) (by omega) (fun p hp' => by
            rw [ht] at hp'
            rcases List.mem_append.1 hp' with q | q
            · exact hg p q
            · rw [List.mem_singleton.1 q]; omega)
          rw [ht, cat_snoc] at this
          exact this
theorem begins_ev : Ev (fun k => spoortop_begins.f k) true := Ev.of spoortop_begins.mono (k := 120) (by kernel_rfl)
theorem TopFrames : spoortop_TopFrames.Pure := by
  intro l fl K torn b hl _ _ _ _
  apply Ev.rounds
  unfold spoortop_TopFrames.f
  refine Ev.bind begins_ev ?_
  simp only [if_true]
  exact T_l0 l (by have := hl.1; omega) hl.2 fl K torn b l.length 0 (by omega) (by omega) (fun p hp => absurd hp (by simp))
end Go.Proofs.Ytbeinlllhpcokaa.Pure
