import Derived.Test.YtnopihhconklnaaDoorEs19
import Derived.Test.YtnopihhconklnaaDoorEp4
/- The laws of layer 23. -/
namespace Go.Sp
open Go Go.En
set_option linter.unusedVariables false
set_option linter.unusedSimpArgs false
theorem walk_on {n : Net} {x y : Int} {six : Bool} {a : Addr} (hw : n.wf) (ha : a.wf) (hok : netOkR n = true ∧ rightAddrR six a = true) (hx : 0 ≤ x ∧ x ≤ 1048576) {L : List Int} {h : Hop} (hk : 0 ≤ h.kind ∧ h.kind < 4) (hi : IsWay (fun t => netDoesR n t six a) x L h) {i : Nat} (hy : L[i]? = some y) :
    (walkR n y six a).why = 0 ∧ (walkR n y six a).ver.kind = (verOf L h).kind ∧ ((verOf L h).kind ≠ 4 → (walkR n y six a).ver = verOf L h ∧ (walkR n y six a).way = L.drop i) := by
  have hyr := hi.range hok.1 hx y (List.mem_of_getElem? hy)
  by_cases c : h.kind = 1
  · have h0 := walkR_ok (n := n) (six := six) (a := a) hok hyr
    obtain ⟨_, _, h', hi', hv', hk'⟩ := walkR_is hw ha h0
    have := (verOf_four (L := L) hk).2 c
    refine ⟨h0, ?_, fun d => absurd this d⟩
    rw [this, hv']
    exact (verOf_four hk').2 (hi.within c (List.mem_of_getElem? hy) hi')
  · obtain ⟨r1, r2⟩ := hi.rest c hy
    obtain ⟨e1, e2, e3⟩ := walkR_of hw ha hok hyr r1
    rw [r2] at e3
    exact ⟨e1, by rw [e3], fun _ => ⟨e3, e2⟩⟩
theorem loopR_len (n : Net) (x : Int) (six : Bool) (a : Addr) : ((loopR n x six a).1.length : Int) ≤ big := by
  have := walkR_len64 n x six a
  unfold loopR roundR
  simp only [big]
  repeat' split
  all_goals (try simp)
  all_goals omega
theorem idxI_at {t : Int} : ∀ {l : List Int} {i : Nat}, 0 ≤ idxI t i l → ∃ k : Nat, idxI t i l = ((i + k : Nat) : Int) ∧ l[k]? = some t
  | [], i, h => by simp [idxI] at h
  | x :: l, i, h => by
    unfold idxI at h ⊢
    split
    · rename_i e
      exact ⟨0, by simp, by simp [e]⟩
    · rename_i e
      rw [if_neg e] at h
      obtain ⟨k, h1, h2⟩ := idxI_at h
      exact ⟨k + 1, by rw [h1]; omega, by simpa using h2⟩
/-- the round of a way that goes round. -/
theorem round_says {does : Int → Hop} {x : Int} {L : List Int} {h : Hop} (w : IsWay does x L h) (hk : h.kind = 1) :
    ∃ z c', roundR L (verOf L h) = z :: c' ∧ (z :: c').Nodup ∧ (∀ y ∈ z :: c', y ∈ L) ∧ (z :: c').length ≤ L.length ∧ Ch does (z :: c' ++ [z]) := by
  obtain ⟨z, h1, h2, h3⟩ := w.last
  have h3 : z ∈ L.dropLast := h3.resolve_right (fun c => c hk)
  have hv : verOf L h = ⟨4, z⟩ := by simp [verOf, hk, h1]
  have hzL : z ∈ L := (List.dropLast_sublist L).subset h3
  obtain ⟨j, hj, hjL⟩ := idxI_at (i := 0) (idxI_mem.2 hzL)
  have hlt := idxI_take (t := z) (l := L) (by rw [← List.dropLast_eq_take]; exact h3)
  rw [Nat.zero_add] at hj
  rw [hv]
  simp only [roundR, if_true, hj, Int.toNat_natCast]
  rw [hj] at hlt
  have hjl : j < L.length - 1 := by omega
  obtain ⟨c, hc⟩ : ∃ c, (L.take (L.length - 1)).drop j = c := ⟨_, rfl⟩
  have e1 : L.drop j = c ++ [z] := by
    have hL : L = L.take (L.length - 1) ++ [z] := by
      have := List.take_append_drop (L.length - 1) L
      rw [List.drop_eq_getElem_cons (by omega), show L.length - 1 + 1 = L.length by omega, List.drop_length] at this
      have e := (List.getElem?_eq_some_iff.1 (getLast_at h1)).2
      rw [e] at this
      exact this.symm
    rw [← hc]
    conv => lhs; rw [hL]
    rw [List.drop_append_of_le_length (by rw [List.length_take]; omega)]
  rw [hc]
  have hcl : c.length = L.length - 1 - j := by rw [← hc]; simp
  have hnd : c.Nodup := by
    rw [← hc, ← List.dropLast_eq_take]
    exact w.nd.sublist (List.drop_sublist _ _)
  have hmem : ∀ y ∈ c, y ∈ L := fun y hy => by
    rw [← hc] at hy
    exact List.mem_of_mem_take (List.mem_of_mem_drop hy)
  have hch := w.ch.drop j
  rw [e1] at hch
  cases c with
  | nil => simp at hcl; omega
  | cons z' c' =>
    have : z' = z := by
      have e2 : (L.drop j)[0]? = some z := by rw [List.getElem?_drop]; exact hjL
      rw [e1] at e2
      simpa using e2
    subst this
    exact ⟨z', c', rfl, hnd, hmem, by rw [hcl]; omega, hch⟩
theorem round_way {does : Int → Hop} {z : Int} {c' : List Int} (hn : (z :: c').Nodup) (hc : Ch does (z :: c' ++ [z])) {i : Nat} {y : Int} (hy : (z :: c')[i]? = some y) :
    IsWay does y ((z :: c').drop i ++ (z :: c').take i ++ [y]) (does y) ∧ (does y).kind = 1 := by
  have hlt := (List.getElem?_eq_some_iff.1 hy).1
  have hyv := (List.getElem?_eq_some_iff.1 hy).2
  obtain ⟨d, hd⟩ : ∃ d, (z :: c').drop i = y :: d := ⟨(z :: c').drop (i + 1), by rw [List.drop_eq_getElem_cons hlt, hyv]⟩
  have hsp := List.take_append_drop i (z :: c')
  rw [hd] at hsp ⊢
  obtain ⟨t, ht⟩ : ∃ t, (z :: c').take i = t := ⟨_, rfl⟩
  rw [ht] at hsp ⊢
  have hch : Ch does (y :: d ++ t ++ [y]) := by
    rw [← hsp] at hc
    cases t with
    | nil =>
      have : y = z := by
        have := congrArg List.head? hsp
        simpa using this
      subst this
      simpa using hc
    | cons t0 t' =>
      have : t0 = z := by
        have := congrArg List.head? hsp
        simpa using this
      subst this
      have c1 : Ch does (y :: d ++ [t0]) := by
        have := hc.drop (t0 :: t').length
        rw [List.append_assoc, List.drop_left] at this
        exact this
      have c2 : Ch does (t0 :: (t' ++ [y])) := by
        have e : t0 :: t' ++ y :: d ++ [t0] = (t0 :: (t' ++ [y])) ++ (d ++ [t0]) := by simp
        rw [e] at hc
        exact hc.pre
      have := Ch.join c1 c2
      simpa using this
  have hnd : (y :: d ++ t).Nodup := by
    rw [← hsp] at hn
    exact (List.perm_append_comm.nodup_iff).1 hn
  have hk : (does y).kind = 1 := by
    obtain ⟨q, hq⟩ : ∃ q, (y :: d ++ t ++ [y])[1]? = some q := ⟨(y :: d ++ t ++ [y])[1]'(by simp; omega), List.getElem?_eq_getElem _⟩
    exact (hch.at_ (i := 0) (by simp) hq).1
  have hdl : (y :: d ++ t ++ [y]).dropLast = y :: d ++ t := List.dropLast_concat
  exact ⟨⟨⟨d ++ t ++ [y], by simp⟩, hch, by rw [hdl]; exact hnd, y, List.getLast?_concat, rfl, .inl (by rw [hdl]; simp)⟩, hk⟩
def RndR (tN tA tV tI : Nat) (n : Net) (a : Addr) (six : Bool) (x y : Int) (i : Nat) (L M : List Int) (tm : TM) (G : List Blk) : Prop := ∃ bl ver G0, tm = [(16, .c (.own bl ver 0 M.length)), (15, VI .i64 0), (13, .c (.row (M.map encI))), (14, .c (.ptr 2 0 0 0)), (12, VI .i64 y), (36, VI .i64 i), (35, VI .i64 L.length), (34, .c (.row (L.map encI))), (9, .c (.row (L.map encI))), (7, .c (.ptr 1 0 0 0)), (4, .c (.ptr 0 0 0 0)), (2, VB six), (1, VI .i64 x)] ∧
  G = [⟨tN, 2, 0, [n.enc]⟩, ⟨tA, 2, 0, [a.enc]⟩, ⟨tV, 2, 0, [[.v (.int .u8 4), .v (.int .i64 y)]]⟩] ++ G0 ∧ 2 < bl ∧ G[bl]? = some ⟨tI, 1, ver, M.map encI⟩
theorem IsWay.drop1 {does : Int → Hop} {x z : Int} {L : List Int} {h : Hop} (w : IsWay does x L h) (hh : h = does z) (hz : z ∈ L.dropLast) : h.kind = 1 := by
  obtain ⟨i, hi⟩ := List.mem_iff_getElem?.1 hz
  have hlt := (List.getElem?_eq_some_iff.1 hi).1
  rw [List.length_dropLast] at hlt
  rw [dropLast_at (by omega)] at hi
  obtain ⟨q, hq⟩ : ∃ q, L[i + 1]? = some q := ⟨L[i + 1], List.getElem?_eq_getElem (by omega)⟩
  rw [hh]
  exact (w.ch.at_ hi hq).1
theorem encs1 (L : List Int) : ∀ x ∈ L.map encI, x.length = 1 := fun x hx => by
  obtain ⟨y, _, rfl⟩ := List.mem_map.1 hx
  rfl
theorem loop_says {n : Net} {x : Int} {six : Bool} {a : Addr} (hw : n.wf) (ha : a.wf) :
    ((loopR n x six a).2 ≠ 0 → (loopR n x six a).1 = []) ∧ ((loopR n x six a).2 = 0 → (∃ z c', (loopR n x six a).1 = z :: c') ∧ (loopR n x six a).1.length ≤ 67 ∧
      ∀ (i : Nat) (y : Int), (loopR n x six a).1[i]? = some y → y ∈ (walkR n x six a).way ∧ (walkR n x six a).why = 0 ∧ (walkR n y six a).why = 0 ∧ (walkR n y six a).ver = ⟨4, y⟩ ∧ (walkR n y six a).way = (loopR n x six a).1.drop i ++ (loopR n x six a).1.take i ++ [y]) := by
  have hl := walkR_len64 n x six a
  unfold loopR
  by_cases c : (walkR n x six a).why = 0
  · simp only [if_pos c]
    obtain ⟨hok, hx, h, hi, hv, hk⟩ := walkR_is hw ha c
    by_cases d : roundR (walkR n x six a).way (walkR n x six a).ver = []
    · simp only [if_pos d]
      exact ⟨fun _ => trivial, fun e => by cases e⟩
    · simp only [if_neg d]
      refine ⟨fun e => absurd rfl e, fun _ => ?_⟩
      have hk1 : h.kind = 1 := by
        rw [← verOf_four (L := (walkR n x six a).way) hk, ← hv]
        unfold roundR at d
        split at d
        · assumption
        · exact absurd rfl d
      obtain ⟨z, c', e1, e2, e3, e4, e5⟩ := round_says hi hk1
      rw [hv, e1]
      refine ⟨⟨z, c', rfl⟩, by omega, fun i y hy => ?_⟩
      have hyL := e3 y (List.mem_of_getElem? hy)
      obtain ⟨w1, w2⟩ := round_way e2 e5 hy
      obtain ⟨r1, r2, r3⟩ := walkR_of hw ha hok (hi.range hok.1 hx y hyL) w1
      refine ⟨hyL, c, r1, ?_, r2⟩
      rw [r3]
      simp [verOf, w2, List.getLast?_concat]
  · simp only [if_neg c]
    exact ⟨fun _ => trivial, fun e => absurd e c⟩
end Go.Sp
namespace Go.Proofs.YtnopihhconklnaaDoor.S
open Go Go.En Go.Sp Go.Proofs Go.Proofs.YtnopihhconklnaaDoor.T
set_option maxRecDepth 10000
set_option linter.unusedSimpArgs false
set_option linter.unusedVariables false
set_option maxHeartbeats 1000000
theorem law23_WalkGoes (n : Net) (x : Int) (six : Bool) (a : Sp.Addr) (o : Int) (hn : n.sm) (hw : n.wf) (ha : a.wf) : PS Tryd.prog 3 [.agg n.enc, VI .i64 x, VB six, .agg a.enc, VI .i64 o] (VB true) := by
  refine ps_of 100 Tryd.func3 rfl (ev_ ?_)
  refine callN 100 (walk_W n x six a hn hw ha) (ev_ ?_)
  refine callN 100 (ref23_Walk n x six a hn) (ev_ ?_)
  refine callN 100 (walk_Meets n x six a o hn hw ha) (ev_ ?_)
  refine callN 100 (ref23_Meets n x six a o hn) (ev_ ?_)
  refine callN 100 (walk_Loop n x six a hn hw ha) (ev_ ?_)
  refine callN 100 (ref23_Loop n x six a hn) (ev_ ?_)
  refine callN 100 law23_lives (ev_ ?_)
  refine callN 100 (ref16_Alike _ _ (walkR_len n x six a hn)) (ev_ ?_)
  refine br_i (fun _ => ?_) (fun c => absurd c (by simp))
  refine br_i (fun _ => ?_) (fun c => absurd c (by simp))
  refine br_i (fun _ => ?_) (fun c => absurd c (by simp))
  refine br_i (fun _ => ?_) (fun c => absurd c (by simp))
  refine br_i (fun _ => ?_) (fun c => absurd c (by simp))
  refine callN 100 (ref16_Alike _ _ (loopR_len n x six a)) (ev_ ?_)
  refine br_i (fun _ => ?_) (fun c => absurd c (by simp))
  simp
theorem law23_WalkOn (n : Net) (x : Int) (six : Bool) (a : Sp.Addr) (hn : n.sm) (hw : n.wf) (ha : a.wf) : PS Tryd.prog 4 [.agg n.enc, VI .i64 x, VB six, .agg a.enc] (VB true) := by
  refine ps_of 100 Tryd.func4 rfl (ev_ ?_)
  refine callN 100 law23_lives (ev_ ?_)
  refine callN 100 (walk_W n x six a hn hw ha) (ev_ ?_)
  refine br_i (fun c => ?_) (fun c => ?_)
  · trivial
  have h0 : (walkR n x six a).why = 0 := by simpa using c
  obtain ⟨hok, hx, h, hi, hv, hk⟩ := walkR_is hw ha h0
  have hlen := walkR_len64 n x six a
  rw [hv]
  generalize (walkR n x six a).way = L at *
  refine loop_st (σ := Nat) 100 (fun i => [(32, VI .i64 i), (31, VI .i64 L.length), (30, .c (.row (L.map encI))), (9, .c (.row (L.map encI))), (10, .c (.ptr 2 0 0 0)), (7, .c (.ptr 1 0 0 0)), (4, .c (.ptr 0 0 0 0)), (2, VB six)])
    (fun _ => [⟨25, 2, 0, [n.enc]⟩, ⟨28, 2, 0, [a.enc]⟩, ⟨32, 2, 0, [(verOf L h).enc]⟩]) (fun i => i ≤ L.length) (fun i => L.length - i) 0 (Nat.zero_le _) wkS (fun _ _ => by simp) ?_
  intro i Q' hi' hn' hx' hr'
  refine ev_ ?_
  refine br_i (fun c1 => ?_) (fun c1 => ?_)
  · have hlt : i < L.length := by
      have : (i : Int) < L.length := by simpa using c1
      omega
    obtain ⟨y, hy⟩ : ∃ y, L[i]? = some y := ⟨L[i], List.getElem?_eq_getElem hlt⟩
    refine idx_map (x := y) 100 (by simp [hy]) (by omega) rfl (ev_ ?_)
    refine callN 100 (walk_W n y six a hn hw ha) (ev_ ?_)
    obtain ⟨e1, e2, e3⟩ := walk_on hw ha hok hx hk hi hy
    have hwl := walkR_len n y six a hn
    rw [e1, e2]
    refine br_i (fun c => absurd c (by simp)) (fun _ => ?_)
    refine br_i (fun c => absurd c (by simp)) (fun _ => ?_)
    have hi1 : i64In ((i : Int) + 1) := by simp only [i64In]; omega
    refine br_i (fun c => ?_) (fun c => ?_)
    · obtain ⟨e4, e5⟩ := e3 (by simpa using c)
      rw [e5] at hwl ⊢
      rw [← List.map_drop, show (walkR n y six a).ver.at_ = (verOf L h).at_ by rw [e4]]
      refine br_i (fun _ => ?_) (fun c => absurd c (by simp))
      refine ⟨⟨by omega, by omega, by omega, fun e he => ?_⟩, ?_⟩
      · obtain ⟨z, _, rfl⟩ := List.mem_map.1 he
        rfl
      refine callN 100 (ref16_Alike _ _ hwl) (ev_ ?_)
      refine br_i (fun _ => ?_) (fun c => absurd c (by simp))
      rw [show (i : Int) + 1 = ((i + 1 : Nat) : Int) from rfl] at *
      exact ⟨hi1, hn' (i + 1) _ _ wk (by omega) (by omega)⟩
    · rw [show (i : Int) + 1 = ((i + 1 : Nat) : Int) from rfl] at *
      exact ⟨hi1, hn' (i + 1) _ _ wk (by omega) (by omega)⟩
  · exact hx' 0 _ _ _ rfl (ev_ trivial)
theorem law23_WalkRound (n : Net) (x : Int) (six : Bool) (a : Sp.Addr) (hn : n.sm) (hw : n.wf) (ha : a.wf) : PS Tryd.prog 5 [.agg n.enc, VI .i64 x, VB six, .agg a.enc] (VB true) := by
  refine ps_of 100 Tryd.func5 rfl (ev_ ?_)
  refine callN 100 law23_lives (ev_ ?_)
  refine callN 100 (walk_Loop n x six a hn hw ha) (ev_ ?_)
  obtain ⟨l1, l2⟩ := loop_says (x := x) (six := six) hw ha
  refine br_i (fun c => ?_) (fun c => ?_)
  · rw [l1 (by simpa using c)]
    trivial
  have h0 : (loopR n x six a).2 = 0 := by simpa using c
  obtain ⟨⟨z, c', hc⟩, hlen, hl⟩ := l2 h0
  generalize (loopR n x six a).1 = L at *
  refine loop_st (σ := Nat) 100 (fun i => [(36, VI .i64 i), (35, VI .i64 L.length), (34, .c (.row (L.map encI))), (9, .c (.row (L.map encI))), (7, .c (.ptr 1 0 0 0)), (4, .c (.ptr 0 0 0 0)), (2, VB six), (1, VI .i64 x)])
    (fun _ => [⟨25, 2, 0, [n.enc]⟩, ⟨28, 2, 0, [a.enc]⟩]) (fun i => i ≤ L.length) (fun i => L.length - i) 0 (Nat.zero_le _) wkS (fun _ _ => by simp) ?_
  intro i Q' hi' hn' hx' hr'
  refine ev_ ?_
  refine br_i (fun c1 => ?_) (fun c1 => ?_)
  · have hlt : i < L.length := by
      have : (i : Int) < L.length := by simpa using c1
      omega
    obtain ⟨y, hy⟩ : ∃ y, L[i]? = some y := ⟨L[i], List.getElem?_eq_getElem hlt⟩
    refine idx_map (x := y) 100 (by simp [hy]) (by omega) rfl (ev_ ?_)
    refine callN 100 (walk_W n y six a hn hw ha) (ev_ ?_)
    obtain ⟨e1, e2, e3, e4, e5⟩ := hl i y hy
    have hwl := walkR_len n y six a hn
    rw [e3, e4]
    obtain ⟨M, hM⟩ : ∃ M, L.drop i ++ L.take i ++ [y] = M := ⟨_, rfl⟩
    have hMe : List.drop i (List.map encI L) ++ (List.take i (List.map encI L) ++ [[.v (.int .i64 y)]]) = M.map encI := by rw [← hM]; simp [encI]
    have hMl : (List.drop i (List.map encI L)).length + (List.take i (List.map encI L)).length + 1 = M.length := by rw [← hM]; simp; omega
    have k1 : ∀ x ∈ List.drop i (List.map encI L), x.length = 1 := fun e he => encs1 L e (List.mem_of_mem_drop he)
    have k2 : ∀ x ∈ List.take i (List.map encI L), x.length = 1 := fun e he => encs1 L e (List.mem_of_mem_take he)
    have k3 : (List.drop i (List.map encI L)).length ≤ 67 := by simp; omega
    have k4 : (List.take i (List.map encI L)).length ≤ 67 := by simp; omega
    rw [hM] at e5
    rw [e5]
    refine cutS (RndR 25 28 32 3 n a six x y i L M) ?_ ?_
    · refine drawP 100 (by kernel_rfl) (.one 1 (.one 2 (.one 3 (.one 5 (.one 6 (.one 7 (.one 9 (.two 0 (.two 4 (.two 8 (lin [10, 11, 12]) 10 (lin [8, 11, 12])) 10 (lin [4, 8, 11, 12])) 10 (lin [0, 4, 8, 11, 12]))))))))) (by kernel_rfl) (ev_ ?_)
      clear hr' hn' hx' hl l2 l1 e1 e2 e3 e4 e5 hwl hn hw ha
      and_intros
      all_goals try first | omega | exact encs1 _ | exact k1 | exact k2 | (intro e he; simp at he; subst he; rfl)
      all_goals rw [hMl, hMe]
      all_goals first
        | exact ⟨[(16, .c (.own 3 3 0 M.length)), (15, VI .i64 0), (13, .c (.row (M.map encI))), (14, .c (.ptr 2 0 0 0)), (12, VI .i64 y), (36, VI .i64 i), (35, VI .i64 L.length), (34, .c (.row (L.map encI))), (9, .c (.row (L.map encI))), (7, .c (.ptr 1 0 0 0)), (4, .c (.ptr 0 0 0 0)), (2, VB six), (1, VI .i64 x)], by simp [subT, lk], 3, 3, _, rfl, rfl, by omega, rfl⟩
        | exact ⟨[(16, .c (.own 4 3 0 M.length)), (15, VI .i64 0), (13, .c (.row (M.map encI))), (14, .c (.ptr 2 0 0 0)), (12, VI .i64 y), (36, VI .i64 i), (35, VI .i64 L.length), (34, .c (.row (L.map encI))), (9, .c (.row (L.map encI))), (7, .c (.ptr 1 0 0 0)), (4, .c (.ptr 0 0 0 0)), (2, VB six), (1, VI .i64 x)], by simp [subT, lk], 4, 3, _, rfl, rfl, by omega, rfl⟩
    · rintro tm G ⟨bl, ver, G0, rfl, rfl, hbl, hG⟩
      refine shows_run (n := 100) (ev_ ?_)
      refine br_i (fun c => absurd c (by decide)) (fun _ => ?_)
      refine br_i (fun c => absurd c (by decide)) (fun _ => ?_)
      refine br_i (fun c => absurd c (by simp)) (fun _ => ?_)
      refine callS 100 (frzs_r2 hG) ⟨trivial, encI_isD M, trivial⟩ rfl (ref16_Alike M M (by rw [e5] at hwl; exact hwl)) (ev_ ?_)
      refine br_i (fun _ => ?_) (fun c => absurd c (by simp))
      refine callN 100 (walk_Meets n x six a y hn hw ha) (ev_ ?_)
      rw [e2]
      clear hr'
      refine br_i (fun c => absurd c (by decide)) (fun _ => ?_)
      refine br_i (fun _ => ?_) (fun c => absurd c (by have := idxI_mem (i := 0).2 e1; simp; omega))
      rw [show (i : Int) + 1 = ((i + 1 : Nat) : Int) from rfl]
      refine ⟨by simp only [i64In]; omega, hn' (i + 1) _ _ wk (by omega) (by omega)⟩
  · refine hx' 0 _ _ _ rfl (ev_ ?_)
    rw [hc]
    simp
theorem law23_WalkWay (n : Net) (x : Int) (six : Bool) (a : Sp.Addr) (hn : n.sm) (hw : n.wf) (ha : a.wf) : PS Tryd.prog 6 [.agg n.enc, VI .i64 x, VB six, .agg a.enc] (VB true) := by
  refine ps_of 100 Tryd.func6 rfl (ev_ ?_)
  refine callN 100 law23_lives (ev_ ?_)
  refine callN 100 (walk_W n x six a hn hw ha) (ev_ ?_)
  refine br_i (fun c => ?_) (fun c => ?_)
  · obtain ⟨e1, e2⟩ := walkR_none (by simpa using c)
    rw [e1, e2]
    exact br_i (fun _ => rfl) (fun c => absurd c (by decide))
  have h0 : (walkR n x six a).why = 0 := by simpa using c
  obtain ⟨hok, hx, h, hi, hv, hk⟩ := walkR_is hw ha h0
  have hlen := walkR_len64 n x six a
  rw [hv]
  generalize (walkR n x six a).way = L at *
  obtain ⟨r, hL⟩ := hi.hd
  obtain ⟨z, hz, hhz, hst⟩ := hi.last
  have hz' := getLast_at hz
  have hl0 : L[0]? = some x := by rw [hL]; rfl
  have hlp : 0 < L.length := by rw [hL]; simp
  refine draw 100 (by kernel_rfl) [0, 1, 2, 3, 4, 5, 6, 7, 8, 9, 10, 11, 12, 13, 14, 15, 16, 17, 18, 19, 20] (by kernel_rfl) (ev_ ?_)
  refine br_i (fun c => absurd c (by simp [hL]; omega)) (fun _ => ?_)
  refine idx_map (x := x) 100 hl0 (by omega) rfl (ev_ ?_)
  refine br_i (fun c => absurd c (by simp)) (fun _ => ?_)
  refine ⟨by simp only [i64In]; omega, idx_map (x := z) 100 (by rw [← hz']; congr 1; omega) (by omega) rfl (ev_ ?_)⟩
  rw [show (verOf L h).at_ = z by simp [verOf, hz]]
  refine br_i (fun c => absurd c (by simp)) (fun _ => ?_)
  have htd : h.kind = 1 ↔ z ∈ L.dropLast := ⟨fun c => hst.resolve_right (fun d => d c), fun c => hi.drop1 hhz c⟩
  obtain ⟨tw, htw⟩ : ∃ tw : Nat → Bool, ∀ i, tw i = decide (i = L.length ∧ h.kind = 1) := ⟨_, fun _ => rfl⟩
  have t0 : tw 0 = false := by rw [htw]; simp; omega
  refine loop_st (σ := Nat) 100 (fun i => [(65, VI .i64 i), (64, VI .i64 L.length), (63, .c (.row (L.map encI))), (9, .c (.row (L.map encI))), (12, VB (tw i)), (10, .c (.ptr 2 0 0 0)), (7, .c (.ptr 1 0 0 0)), (4, .c (.ptr 0 0 0 0)), (2, VB six)])
    (fun _ => [⟨25, 2, 0, [n.enc]⟩, ⟨28, 2, 0, [a.enc]⟩, ⟨32, 2, 0, [Verdict.enc ⟨(verOf L h).kind, z⟩]⟩]) (fun i => i ≤ L.length) (fun i => L.length - i) 0 (Nat.zero_le _) (by simp only [t0]; exact wkS) (fun _ _ => by simp) ?_
  · intro i Q' hi' hn' hx' hr'
    refine ev_ ?_
    refine br_i (fun c1 => ?_) (fun c1 => ?_)
    · have hlt : i < L.length := by
        have : (i : Int) < L.length := by simpa using c1
        omega
      obtain ⟨y, hy⟩ : ∃ y, L[i]? = some y := ⟨L[i], List.getElem?_eq_getElem hlt⟩
      refine idx_map (x := y) 100 (by simp [hy]) (by omega) rfl (ev_ ?_)
      refine callN 100 (net_Hop n y six a hn hw ha) (ev_ ?_)
      rw [show hopP n y six a = (netDoesR n y six a, 0) by simp [hopP, hok]]
      refine br_i (fun c => absurd c (by simp)) (fun _ => ?_)
      refine draw 100 (by kernel_rfl) [0, 1, 2, 3, 4, 5, 6, 7, 8, 9, 10, 11, 12, 13, 14, 15, 16, 17, 18, 19] (by kernel_rfl) (ev_ ?_)
      clear hr'
      have hi1 : i64In ((i : Int) + 1) := by simp only [i64In]; omega
      have twi : tw i = false := by rw [htw]; simp; omega
      rw [twi]
      have hti : 0 ≤ (i : Int) ∧ (i : Int) ≤ L.length ∧ ∀ x ∈ L.map encI, x.length = 1 := ⟨by omega, by omega, encs1 L⟩
      refine ⟨hi1, ?_⟩
      refine br_i (fun c2 => ?_) (fun c2 => ⟨hti, ?_⟩)
      have hlt2 : i + 1 < L.length := by
        have : (i : Int) + 1 < L.length := by simpa using c2
        omega
      obtain ⟨q, hq⟩ : ∃ q, L[i + 1]? = some q := ⟨L[i + 1], List.getElem?_eq_getElem hlt2⟩
      obtain ⟨k1, k2⟩ := hi.ch.at_ hy hq
      refine br_i (fun c => absurd c (by simp [k1])) (fun _ => ?_)
      refine ⟨hi1, idx_map (x := q) 100 (by rw [show ((i : Int) + 1).toNat = i + 1 by omega]; exact hq) (by omega) rfl (ev_ ?_)⟩
      refine br_i (fun c => absurd c (by simp [k2])) (fun _ => ?_)
      refine ⟨hti, ?_⟩
      all_goals
        have hti' : (List.take i (List.map encI L)).length = i := by simp; omega
        rw [hti']
        refine loop_st (σ := Nat) 100 (fun j => [(104, VI .i64 j), (103, VI .i64 i), (102, .c (.row (List.take i (L.map encI)))), (14, VI .i64 y), (13, VI .i64 i), (65, VI .i64 i), (64, VI .i64 L.length), (63, .c (.row (L.map encI))), (9, .c (.row (L.map encI))), (12, VB ((L.take j).any (· == y))), (10, .c (.ptr 2 0 0 0)), (7, .c (.ptr 1 0 0 0)), (4, .c (.ptr 0 0 0 0)), (2, VB six)])
          (fun _ => [⟨25, 2, 0, [n.enc]⟩, ⟨28, 2, 0, [a.enc]⟩, ⟨32, 2, 0, [Verdict.enc ⟨(verOf L h).kind, z⟩]⟩, ⟨46, 2, 0, [(netDoesR n y six a).enc]⟩]) (fun j => j ≤ i) (fun j => i - j) 0 (Nat.zero_le _) (by simp only [List.take_zero, List.any_nil]; exact wk) (fun _ _ => by simp) ?_
        intro j Q2 hj hn2 hx2 hr2
        refine ev_ ?_
        refine br_i (fun d => ?_) (fun d => ?_)
        · have hji : j < i := by
            have : (j : Int) < i := by simpa using d
            omega
          obtain ⟨w, hwj⟩ : ∃ w, L[j]? = some w := ⟨L[j]'(by omega), List.getElem?_eq_getElem (by omega)⟩
          refine idx (e := [.v (.int .i64 w)]) 100 (by rw [← List.map_take, List.getElem?_map, List.getElem?_take, if_pos (by simpa using hji)]; simp [hwj]; rfl) (by omega) rfl (ev_ ?_)
          have e1 : (L.take (j + 1)).any (· == y) = ((L.take j).any (· == y) || w == y) := by rw [List.take_add_one, hwj]; simp
          have hj1 : i64In ((j : Int) + 1) := by simp only [i64In]; omega
          rw [show (j : Int) + 1 = ((j + 1 : Nat) : Int) from rfl] at hj1 ⊢
          have fT : (L.take j).any (· == y) = true → (L.take (j + 1)).any (· == y) = true := fun c => by rw [e1, c]; rfl
          have fF : (L.take j).any (· == y) = false → (L.take (j + 1)).any (· == y) = (w == y) := fun c => by rw [e1, c]; rfl
          refine br_i (fun c3 => ?_) (fun c3 => ?_)
          · refine ⟨hi1, ?_⟩
            have hwy : w = y := by simpa using c3
            have hil := hi.nd_at (hwy ▸ hwj) hy hji
            refine br_i (fun c => absurd c (by simp; omega)) (fun _ => ?_)
            refine br_i (fun c4 => ⟨hj1, hn2 (j + 1) _ _ (by simp only [fT c4]; exact wkS) (by omega) (by omega)⟩) (fun c4 => ⟨hj1, hn2 (j + 1) _ _ (by simp only [fF c4]; exact wkS) (by omega) (by omega)⟩)
          · refine br_i (fun c4 => ⟨hj1, hn2 (j + 1) _ _ (by simp only [fT c4]; exact wkS) (by omega) (by omega)⟩) (fun c4 => ⟨hj1, hn2 (j + 1) _ _ (by simp only [fF c4]; exact wkS) (by omega) (by omega)⟩)
        · refine hx2 2 _ _ _ rfl (ev_ ?_)
          have hji : j = i := by
            have : ¬ ((j : Int) < i) := by simpa using d
            omega
          subst hji
          have e1 : (L.take j).any (· == y) = tw (j + 1) := by
            rw [htw, Bool.eq_iff_iff, List.any_eq_true, decide_eq_true_eq]
            constructor
            · rintro ⟨w, hwm, hwe⟩
              have hwe : w = y := by simpa using hwe
              subst hwe
              obtain ⟨k, hk'⟩ := List.mem_iff_getElem?.1 hwm
              rw [List.getElem?_take] at hk'
              split at hk'
              · rename_i hkj
                have hjl := hi.nd_at hk' hy hkj
                refine ⟨hjl, htd.2 ?_⟩
                have e : L.length - 1 = j := by omega
                rw [e] at hz'
                have : w = z := by rw [hy] at hz'; simpa using hz'
                rw [← this, List.dropLast_eq_take, e]
                exact hwm
              · cases hk'
            · rintro ⟨hjl, hk1⟩
              have e : L.length - 1 = j := by omega
              rw [e] at hz'
              have : y = z := by rw [hy] at hz'; simpa using hz'
              have hm := htd.1 hk1
              rw [List.dropLast_eq_take, e] at hm
              exact ⟨z, hm, by simp [this]⟩
          rw [e1]
          rw [show (j : Int) + 1 = ((j + 1 : Nat) : Int) from rfl] at hi1 ⊢
          exact ⟨hi1, hn' (j + 1) _ _ wk (by omega) (by omega)⟩
    · have hge : i = L.length := by
        have : ¬ ((i : Int) < L.length) := by simpa using c1
        omega
      subst hge
      refine hx' 0 _ _ _ rfl (ev_ ?_)
      refine callN 100 (net_Hop n z six a hn hw ha) (ev_ ?_)
      rw [show hopP n z six a = (netDoesR n z six a, 0) by simp [hopP, hok], ← hhz]
      clear hx' hr' hn'
      have ht := htw L.length
      have hkk : h.kind = 0 ∨ h.kind = 1 ∨ h.kind = 2 ∨ h.kind = 3 := by omega
      rcases hkk with e | e | e | e
      all_goals
        have ev : (verOf L h).kind = (if h.kind = 0 then 3 else if h.kind = 1 then 4 else if h.kind = 2 then 1 else 2) := rfl
        rw [e] at ev ht
        rw [ev, ht]
        simp [En.br, e]
end Go.Proofs.YtnopihhconklnaaDoor.S
