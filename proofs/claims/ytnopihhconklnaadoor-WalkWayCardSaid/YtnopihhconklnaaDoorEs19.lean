import Derived.Test.YtnopihhconklnaaDoorEs18
/- lives: what the law asks for itself. -/
namespace Go.Sp
open Go Go.En
set_option linter.unusedVariables false
def toR (id peer : Int) : Router := ⟨id, true, [⟨⟨false, ⟨0, 0⟩, 0⟩, ⟨1, 0⟩⟩], [⟨0, peer⟩]⟩
def rs23 : List Router := [toR 4 7, toR 5 7, toR 7 4, toR 8 9]
def ss23 : List Seat := rs23.map fun r => ⟨r.id, 1, 0, true⟩
def net23 : Net := ⟨ss23, rs23⟩
structure LvI (tN tS tR : Nat) (i : Nat) (G : List Blk) : Prop where
  rs : G[1]? = some ⟨tR, 4, 0, rs23.map Router.enc⟩
  len : 2 ≤ G.length
  own : (i = 0 ∧ G[0]? = some ⟨tN, 2, 0, [[.e0, .e0]]⟩) ∨ ∃ bs vs br vr, 2 ≤ bs ∧ 2 ≤ br ∧ bs ≠ br ∧ 0 < i ∧ G[0]? = some ⟨tN, 2, 0, [[.own bs vs 0 i, .own br vr 0 i]]⟩ ∧ G[bs]? = some ⟨tS, 4, vs, (ss23.take i).map Seat.enc⟩ ∧ G[br]? = some ⟨tR, 4, vr, (rs23.take i).map Router.enc⟩
theorem frzs_r2 {a : List (List C)} {l : List Int} {H : List Blk} {b ver t sz : Nat} (hH : H[b]? = some ⟨t, sz, ver, l.map encI⟩) : frzs H [.c (.row a), .c (.own b ver 0 l.length)] = some (True ∧ (∀ e ∈ l.map encI, ∀ c ∈ e, isD c = true) ∧ True, [.c (.row a), .c (.row (l.map encI))]) := by
  have := frzs_own (rest := []) encI_nrm hH rfl
  rw [frzs, this]
  rfl
theorem app_at6 {α : Type} (H : List α) (x x1 x2 x3 x4 x5 y : α) (r : List α) : (H ++ x :: x1 :: x2 :: x3 :: x4 :: x5 :: y :: r)[H.length + 6]? = some y := by
  rw [List.getElem?_append_right (by omega), Nat.add_sub_cancel_left]; rfl
theorem app_at7 {α : Type} (H : List α) (x x1 x2 x3 x4 x5 x6 y : α) (r : List α) : (H ++ x :: x1 :: x2 :: x3 :: x4 :: x5 :: x6 :: y :: r)[H.length + 7]? = some y := by
  rw [List.getElem?_append_right (by omega), Nat.add_sub_cancel_left]; rfl
theorem sm23 : net23.sm := ⟨by decide, by decide, fun r hr => by
  simp [net23, rs23] at hr
  rcases hr with rfl | rfl | rfl | rfl <;> exact ⟨by decide, by decide⟩⟩
theorem wf23 : net23.wf := fun r hr x hx => by
  simp [net23, rs23] at hr
  rcases hr with rfl | rfl | rfl | rfl <;> simp [toR] at hx <;> subst hx <;> exact ⟨by decide, by decide, by decide, by decide⟩
end Go.Sp
namespace Go.Proofs.YtnopihhconklnaaDoor.S
open Go Go.En Go.Sp Go.Proofs Go.Proofs.YtnopihhconklnaaDoor.T
set_option maxRecDepth 10000
set_option linter.unusedSimpArgs false
set_option linter.unusedVariables false
set_option maxHeartbeats 1000000
theorem law23_to (id peer : Int) : PS Tryd.prog 26 [VI .i64 id, VI .i64 peer] (.agg (toR id peer).enc) := by
  refine ps_of 100 Tryd.func26 rfl (ev_ ?_)
  refine ⟨⟨fun e he c hc => ?_, fun e he c hc => ?_⟩, rfl⟩
  · simp at he
    subst he
    simp at hc
    rcases hc with rfl | rfl | rfl | rfl | rfl | rfl <;> rfl
  · simp at he
    subst he
    simp at hc
    rcases hc with rfl | rfl <;> rfl
theorem law23_lives : PS Tryd.prog 13 [] (VB true) := by
  refine ps_of 100 Tryd.func13 rfl (ev_ ?_)
  refine callN 100 (law23_to 4 7) (ev_ ?_)
  refine callN 100 (law23_to 5 7) (ev_ ?_)
  refine callN 100 (law23_to 7 4) (ev_ ?_)
  refine callN 100 (law23_to 8 9) (ev_ ?_)
  refine loop_sf (σ := Nat × List Blk) 100 (fun s => [(30, VI .i64 s.1), (29, VI .i64 4), (28, .c (.own 1 0 0 4)), (1, .c (.ptr 0 0 0 0))]) (fun s => s.2)
    (fun s => s.1 ≤ 4 ∧ LvI 25 67 64 s.1 s.2) (fun s => 4 - s.1) (0, [⟨25, 2, 0, [[.e0, .e0]]⟩, ⟨64, 4, 0, rs23.map Router.enc⟩])
    ⟨by omega, rfl, by simp, .inl ⟨rfl, rfl⟩⟩ wkS ?_ ?_
  · rintro ⟨i, G⟩ ⟨_, hI⟩
    exact hI.len
  rintro ⟨i, G⟩ Q' ⟨hi, hI⟩ hn hx hr
  simp only at hi hI
  refine ev_ ?_
  refine br_i (fun c => ?_) (fun c => ?_)
  · have hlt : i < 4 := by
      have : (i : Int) < 4 := by simpa using c
      omega
    clear c
    have hx1 : rs23[i]? = some (rs23[i]'hlt) := List.getElem?_eq_getElem hlt
    generalize rs23[i]'hlt = x at hx1
    have hxm : (rs23.map Router.enc)[i]? = some x.enc := by simp [hx1]
    have hrs := hI.rs
    have hlen := hI.len
    rcases hI.own with ⟨rfl, h0⟩ | ⟨bs, vs, br, vr, h1, h2, h3, h4, h0, h5, h6⟩
    · have f0 : ∀ Z : List Blk, (G ++ Z)[0]? = some ⟨25, 2, 0, [[.e0, .e0]]⟩ := fun Z => by rw [List.getElem?_append_left (by omega)]; exact h0
      have f1 : ∀ (Z : List Blk) (W : Blk), ((G ++ Z).set 0 W)[0]? = some W := fun Z W => List.getElem?_set_self (by simp <;> omega)
      have f2 : ∀ (A : Blk) (Z : List Blk) (W : Blk), ((G ++ A :: Z).set 0 W)[G.length]? = some A := fun A Z W => by rw [List.getElem?_set_ne (by omega)]; exact app_at0 _ _ _
      have f3 : ∀ (Z : List Blk) (W : Blk) (Z' : List Blk), ((G ++ Z).set 0 W ++ Z')[0]? = some W := fun Z W Z' => by rw [List.getElem?_append_left (by simp <;> omega)]; exact f1 Z W
      have hh := And.intro hrs (And.intro hxm (And.intro f0 (And.intro f1 (And.intro f2 f3))))
      refine evh ?_
      clear hx hr hh
      rw [show ((0 : Nat) : Int) + 1 = ((1 : Nat) : Int) from rfl]
      refine ⟨by omega, fun y hy => ?_, fun y hy => ?_, ?_, hn (1, _) _ _ wkS ⟨by omega, ?_, by simp <;> omega, .inr ⟨G.length + 2, 0, G.length + 3 + 1, 0, by omega, by omega, by omega, by omega, ?_, ?_, ?_⟩⟩ (by simp)⟩
      · simp at hy; subst hy; rfl
      · simp at hy; subst hy; rfl
      · simp only [i64In]; omega
      · show (List.set _ _ _)[_]? = _
        rw [List.getElem?_set_ne (by omega), List.getElem?_append_left (by simp <;> omega), List.getElem?_set_ne (by omega), List.getElem?_append_left (by omega)]
        exact hrs
      · show (List.set _ _ _)[_]? = _
        rw [List.getElem?_set_self (by simp <;> omega)]
        simp
      · show (List.set _ _ _)[_]? = _
        rw [List.getElem?_set_ne (by omega), List.getElem?_append_left (by simp <;> omega), List.getElem?_set_ne (by omega), List.getElem?_append_right (by omega), show G.length + 2 - G.length = 2 by omega]
        have : x = toR 4 7 := by simpa [rs23] using hx1.symm
        subst this
        rfl
      · show (List.set _ _ _)[_]? = _
        rw [List.getElem?_set_ne (by omega), List.getElem?_append_right (by simp)]
        have : x = toR 4 7 := by simpa [rs23] using hx1.symm
        subst this
        simp [rs23]
        rfl
    · have f0 : ∀ Z : List Blk, (G ++ Z)[0]? = some ⟨25, 2, 0, [[.own bs vs 0 i, .own br vr 0 i]]⟩ := fun Z => by rw [List.getElem?_append_left (by omega)]; exact h0
      have l5 := (List.getElem?_eq_some_iff.1 h5).1
      have l6 := (List.getElem?_eq_some_iff.1 h6).1
      have f5 : ∀ Z : List Blk, (G ++ Z)[bs]? = some ⟨67, 4, vs, (ss23.take i).map Seat.enc⟩ := fun Z => by rw [List.getElem?_append_left (by omega)]; exact h5
      have f1 : ∀ (Z : List Blk) (Y : Blk), ((G ++ Z).set bs Y)[0]? = some ⟨25, 2, 0, [[.own bs vs 0 i, .own br vr 0 i]]⟩ := fun Z Y => by rw [List.getElem?_set_ne (by omega)]; exact f0 Z
      have f2 : ∀ (Z : List Blk) (Y W : Blk), (((G ++ Z).set bs Y).set 0 W)[0]? = some W := fun Z Y W => List.getElem?_set_self (by simp <;> omega)
      have f3 : ∀ (A : Blk) (Z : List Blk) (Y W : Blk), (((G ++ A :: Z).set bs Y).set 0 W)[G.length]? = some A := fun A Z Y W => by rw [List.getElem?_set_ne (by omega), List.getElem?_set_ne (by omega)]; exact app_at0 _ _ _
      have f4 : ∀ (Z : List Blk) (Y W : Blk) (Z' : List Blk), (((G ++ Z).set bs Y).set 0 W ++ Z')[br]? = some ⟨64, 4, vr, (rs23.take i).map Router.enc⟩ := fun Z Y W Z' => by
        rw [List.getElem?_append_left (by simp <;> omega), List.getElem?_set_ne (by omega), List.getElem?_set_ne (by omega), List.getElem?_append_left (by omega)]; exact h6
      have f6 : ∀ (Z : List Blk) (Y W : Blk) (Z' : List Blk) (V : Blk), ((((G ++ Z).set bs Y).set 0 W ++ Z').set br V)[0]? = some W := fun Z Y W Z' V => by
        rw [List.getElem?_set_ne (by omega), List.getElem?_append_left (by simp <;> omega)]; exact f2 Z Y W
      have f7 : ∀ (A : Blk) (Z : List Blk) (Y : Blk), ((G ++ A :: Z).set bs Y)[G.length]? = some A := fun A Z Y => by rw [List.getElem?_set_ne (by omega)]; exact app_at0 _ _ _
      have hm1 : (List.take i ss23).length = i := by simp [ss23, rs23]; omega
      have hm2 : (List.take i rs23).length = i := by simp [rs23]; omega
      have hh := And.intro hrs (And.intro hxm (And.intro f0 (And.intro f1 (And.intro f2 (And.intro f3 (And.intro f4 (And.intro f5 (And.intro f6 (And.intro f7 (And.intro hm1 hm2))))))))))
      refine evh ?_
      clear hx hr hh
      rw [show (i : Int) + 1 = ((i + 1 : Nat) : Int) from rfl]
      have hsx : ss23[i]? = some ⟨x.id, 1, 0, true⟩ := by simp [ss23, hx1]
      refine ⟨by omega, ⟨fun y hy => ?_, by omega⟩, ⟨fun y hy => ?_, by omega⟩, ?_, hn (i + 1, _) _ _ wkS ⟨by omega, ?_, by simp <;> omega, .inr ⟨bs, vs + 1, br, vr + 1, by omega, by omega, by omega, by omega, ?_, ?_, ?_⟩⟩ (by omega)⟩
      · simp at hy; subst hy; rfl
      · simp at hy; subst hy; rfl
      · simp only [i64In]; omega
      · show (List.set _ _ _)[_]? = _
        rw [List.getElem?_set_ne (by omega), List.getElem?_set_ne (by omega), List.getElem?_append_left (by simp <;> omega), List.getElem?_set_ne (by omega), List.getElem?_set_ne (by omega), List.getElem?_append_left (by omega)]
        exact hrs
      · show (List.set _ _ _)[_]? = _
        rw [List.getElem?_set_self (by simp <;> omega)]
      · show (List.set _ _ _)[_]? = _
        rw [List.getElem?_set_ne (by omega), List.getElem?_set_ne (by omega), List.getElem?_append_left (by simp <;> omega), List.getElem?_set_ne (by omega), List.getElem?_set_self (by simp <;> omega), List.take_add_one, hsx, List.map_append]
        rfl
      · show (List.set _ _ _)[_]? = _
        rw [List.getElem?_set_ne (by omega), List.getElem?_set_self (by simp <;> omega), List.take_add_one, hx1, List.map_append]
        rfl
  · have hge : i = 4 := by
      have : ¬ ((i : Int) < 4) := by simpa using c
      omega
    subst hge
    have h0 : ∃ bs vs br vr, G[0]? = some ⟨25, 2, 0, [[.own bs vs 0 4, .own br vr 0 4]]⟩ ∧ G[bs]? = some ⟨67, 4, vs, ss23.map Seat.enc⟩ ∧ G[br]? = some ⟨64, 4, vr, rs23.map Router.enc⟩ := by
      rcases hI.own with ⟨e, _⟩ | ⟨bs, vs, br, vr, h1, h2, h3, h4, h0, h5, h6⟩
      · cases e
      · exact ⟨bs, vs, br, vr, h0, h5, h6⟩
    obtain ⟨bs, vs, br, vr, h0, h5, h6⟩ := h0
    have hlen := hI.len
    refine hx 0 _ _ _ rfl (frzA 100 [(1, .c (.rptr [.row (ss23.map Seat.enc), .row (rs23.map Router.enc)] 0))] ?_ ?_)
    · clear hn hx hr
      have hh := And.intro h0 (And.intro h5 h6)
      refine evh ?_
      refine ⟨⟨by decide +kernel, by decide +kernel⟩, rfl⟩
    · clear hn hx hr
      generalize List.map deadB G = D
      clear h0 h5 h6 hlen hI
      refine ev_ ?_
      have w1 := walk_W net23 5 false ⟨0, 77⟩ sm23 wf23 ⟨by decide, by decide, by decide, by decide⟩
      rw [show walkR net23 5 false ⟨0, 77⟩ = ⟨[5, 7, 4, 7], ⟨4, 7⟩, 0⟩ by kernel_rfl] at w1
      have w2 := walk_W net23 8 false ⟨0, 77⟩ sm23 wf23 ⟨by decide, by decide, by decide, by decide⟩
      rw [show walkR net23 8 false ⟨0, 77⟩ = ⟨[8, 9], ⟨3, 9⟩, 0⟩ by kernel_rfl] at w2
      have w3 := walk_Meets net23 5 false ⟨0, 77⟩ 4 sm23 wf23 ⟨by decide, by decide, by decide, by decide⟩
      rw [show walkR net23 5 false ⟨0, 77⟩ = ⟨[5, 7, 4, 7], ⟨4, 7⟩, 0⟩ by kernel_rfl] at w3
      have w4 := walk_Loop net23 5 false ⟨0, 77⟩ sm23 wf23 ⟨by decide, by decide, by decide, by decide⟩
      rw [show loopR net23 5 false ⟨0, 77⟩ = ([7, 4], 0) by kernel_rfl] at w4
      have w5 := walk_Loop net23 8 false ⟨0, 77⟩ sm23 wf23 ⟨by decide, by decide, by decide, by decide⟩
      rw [show loopR net23 8 false ⟨0, 77⟩ = ([], 3) by kernel_rfl] at w5
      have w6 := walk_W net23 (-1) false ⟨0, 77⟩ sm23 wf23 ⟨by decide, by decide, by decide, by decide⟩
      rw [show walkR net23 (-1) false ⟨0, 77⟩ = ⟨[], ⟨0, 0⟩, 1⟩ by kernel_rfl] at w6
      have w7 := walk_W net23 4 false ⟨1, 0⟩ sm23 wf23 ⟨by decide, by decide, by decide, by decide⟩
      rw [show walkR net23 4 false ⟨1, 0⟩ = ⟨[], ⟨0, 0⟩, 2⟩ by kernel_rfl] at w7
      refine callN 100 w1 (ev_ ?_)
      refine callN 100 w2 (ev_ ?_)
      refine callN 100 w3 (ev_ ?_)
      refine callN 100 w4 (ev_ ?_)
      refine callN 100 w5 (ev_ ?_)
      refine callN 100 w6 (ev_ ?_)
      refine callN 100 w7 (ev_ ?_)
      refine callS 100 (frzs_r2 (l := [5, 7, 4, 7]) (app_at5 _ _ _ _ _ _ _ _)) ⟨trivial, encI_isD [5, 7, 4, 7], trivial⟩ rfl (ref16_Alike [5, 7, 4, 7] [5, 7, 4, 7] (by decide)) (ev_ ?_)
      refine br_i (fun _ => ?_) (fun c => absurd c (by decide))
      refine br_i (fun _ => ?_) (fun c => absurd c (by decide))
      refine br_i (fun _ => ?_) (fun c => absurd c (by decide))
      refine callS 100 (frzs_r2 (l := [8, 9]) (app_at6 _ _ _ _ _ _ _ _ _)) ⟨trivial, encI_isD [8, 9], trivial⟩ rfl (ref16_Alike [8, 9] [8, 9] (by decide)) (ev_ ?_)
      refine br_i (fun _ => ?_) (fun c => absurd c (by decide))
      refine br_i (fun _ => ?_) (fun c => absurd c (by decide))
      refine br_i (fun _ => ?_) (fun c => absurd c (by decide))
      refine br_i (fun _ => ?_) (fun c => absurd c (by decide))
      refine br_i (fun _ => ?_) (fun c => absurd c (by decide))
      refine callS 100 (frzs_r2 (l := [7, 4]) (app_at7 _ _ _ _ _ _ _ _ _ _)) ⟨trivial, encI_isD [7, 4], trivial⟩ rfl (ref16_Alike [7, 4] [7, 4] (by decide)) (ev_ ?_)
      refine br_i (fun _ => ?_) (fun c => absurd c (by decide))
      refine br_i (fun _ => ?_) (fun c => absurd c (by decide))
      refine br_i (fun _ => ?_) (fun c => absurd c (by decide))
      refine br_i (fun _ => ?_) (fun c => absurd c (by decide))
      rfl
end Go.Proofs.YtnopihhconklnaaDoor.S
