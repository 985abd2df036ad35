import Derived.Test.YtnopihhconklnaaDoorEn13
/- Contracts of functions that get blocks to write, or hand back new ones. -/
namespace Go.En
open Go Go.RowKit
set_option linter.unusedSimpArgs false
set_option linter.unusedVariables false

/-- the blocks that came are kept where they came. -/
def keepP : Nat → List Blk → List Blk → Fo → Prop
  | _, [], _, _ => True
  | i, b0 :: r, H, (b, d) :: fs => b = i ∧ (d = 0 ∨ match H[i]? with
    | some blk => b0.ver + d < blk.ver
    | none => False) ∧ keepP (i + 1) r H fs
  | _, _ :: _, _, [] => False
theorem keepP_at : ∀ (i : Nat) (H0 H : List Blk) (fs : Fo), keepP i H0 H fs → ∀ (j : Nat) (b0 : Blk), H0[j]? = some b0 → ∃ d, fs[j]? = some (i + j, d) ∧ (d = 0 ∨ ∃ blk, H[i + j]? = some blk ∧ b0.ver + d < blk.ver)
  | i, [], H, fs, h, j, b0, hj => by simp at hj
  | i, x :: r, H, [], h, j, b0, hj => by simp [keepP] at h
  | i, x :: r, H, (b, d) :: fs, h, j, b0, hj => by
    simp only [keepP] at h
    obtain ⟨rfl, h2, h3⟩ := h
    cases j with
    | zero =>
      simp at hj
      subst hj
      refine ⟨d, rfl, ?_⟩
      rcases h2 with h | h
      · exact .inl h
      · refine .inr ?_
        cases hb : H[b]? with
        | none => rw [hb] at h; exact h.elim
        | some blk => rw [hb] at h; exact ⟨blk, by simp [hb], h⟩
    | succ j =>
      obtain ⟨d', g1, g2⟩ := keepP_at (b + 1) r H fs h3 j b0 (by simpa using hj)
      exact ⟨d', by simpa [Nat.add_assoc, Nat.add_comm 1 j] using g1, by simpa [Nat.add_assoc, Nat.add_comm 1 j] using g2⟩
theorem ends_foc {H0 H H1 : List Blk} {R : V → List Blk → Prop} {r r1 : V} (fs : Fo) (hk : keepP 0 H0 H fs) (hn : nd fs = true) (hf : Go.En.foc H fs fs = some H1) (hv : ivV fs r = some r1) (h : R r1 H1) : Ends H0 R r H := by
  intro s0 s u h0 hH0 he hH hr
  subst hH
  obtain ⟨hd, hsi, hρ⟩ := foc_down he.si hf hn
  refine ⟨s.foc fs H1, r1, ⟨⟨he.os, he.tape, he.output, he.size, he.frame, he.F, he.F', fun g hg => ?_, fun b blk rv h1 h2 => ?_⟩, hsi⟩, rfl, downV hd hv hr, h⟩
  · obtain ⟨i, rv, h1, h2⟩ := hg
    obtain ⟨x, _, h3⟩ := hρ i rv h1
    exact he.own g ⟨_, rv, h3, h2⟩
  · subst hH0
    obtain ⟨d, g1, g2⟩ := keepP_at 0 _ _ fs hk b blk h1
    rw [Nat.zero_add] at g1 g2
    obtain ⟨blk', rv', e1, e2, e3, e4⟩ := he.H b blk rv h1 h2
    obtain ⟨b1, k1, k2, k3, k4, k5⟩ := hd.at_ b b d blk' rv' g1 e1 e2
    refine ⟨b1, rv', k1, k2, ?_, fun hv => ?_⟩
    · rcases g2 with rfl | ⟨blk2, q1, q2⟩
      · omega
      · rw [e1] at q1; cases q1; omega
    · rcases g2 with rfl | ⟨blk2, q1, q2⟩
      · obtain ⟨w1, w2, w3⟩ := e4 (by omega)
        exact ⟨w1, by omega, by omega⟩
      · rw [e1] at q1; cases q1; omega
/-- a contract of a function that gets blocks to write, or hands back new ones. -/
def PH (P : Program) (g : FuncId) (vs : List V) (H0 : List Blk) (r : V) (H1 : List Blk) : Prop := Call P false g vs H0 fun r' H' => r' = r ∧ H' = H1
class PHi (P : Program) (g : FuncId) (vs : List V) (H0 : List Blk) (r : outParam V) (H1 : outParam (List Blk)) : Prop where
  out : PH P g vs H0 r H1
/-- the end of such a body. -/
def EndH (H0 H H1 : List Blk) (r r1 : V) : Prop := ∃ fs : Fo, keepP 0 H0 H fs ∧ nd fs = true ∧ match Go.En.foc H fs fs, ivV fs r with
  | some H', some r' => r' = r1 ∧ H' = H1
  | _, _ => False
def finH (P : Program) (rs : List ResultVar) (H0 : List Blk) (X : V) (H1 : List Blk) (ex : Exit) (tm : TM) (H : List Blk) : Prop := match ex with
  | .normal => match resL P tm H rs with
    | some vs => noTups vs = true ∧ EndH H0 H H1 (resultV vs) X
    | none => False
  | .ret => match resL P tm H rs with
    | some vs => noTups vs = true ∧ EndH H0 H H1 (resultV vs) X
    | none => False
  | _ => False
theorem endH_ends {H0 H H1 : List Blk} {r X : V} (h : EndH H0 H H1 r X) : Ends H0 (fun r H' => r = X ∧ H' = H1) r H := by
  obtain ⟨fs, h1, h2, h3⟩ := h
  split at h3
  · rename_i H' r' hf hv
    exact ends_foc fs h1 h2 hf hv h3
  · exact h3.elim
theorem finH_fin {P : Program} {rs : List ResultVar} {H0 H1 : List Blk} {X : V} {ex : Exit} {tm : TM} {H : List Blk} (h : finH P rs H0 X H1 ex tm H) : fin P rs H0 (fun r H' => r = X ∧ H' = H1) ex tm H := by
  have key : (match resL P tm H rs with | some vs => noTups vs = true ∧ EndH H0 H H1 (resultV vs) X | none => False) → (match resL P tm H rs with
    | some vs => noTups vs = true ∧ Ends H0 (fun r H' => r = X ∧ H' = H1) (resultV vs) H
    | none => False) := by
    intro h
    split at h
    · exact ⟨h.1, endH_ends h.2⟩
    · exact h.elim
  cases ex with
  | normal => exact key h
  | ret => exact key h
  | _ => exact h.elim
theorem ph_of {P : Program} {g : FuncId} {fn : Func} {vs : List V} {X : V} {H0 H1 : List Blk} {nm og : String} {tg pr rt : Array TypeId} {nf N : Nat} {rs : Array ResultVar} {c : Code} {nr ou : Bool} {fl : String} {el : Nat} {ln : Option Nat} {mt : List Departure} {tn : Array String} (n : Nat) (hf : P.funcs[g]? = some fn)
    (hfn : fn = ⟨nm, og, tg, pr, rt, nf, N, rs, some c, nr, ou, fl, el, ln, mt, tn⟩) (h : run P (cx N) n [.code c] (argTM 0 vs) H0 (finH P rs.toList H0 X H1)) (hname : (nm == "runtime.NumGoroutine") = false := by kernel_rfl) (hle : vs.length ≤ N := by simp) : PH P g vs H0 X H1 := by
  subst hfn
  exact call_of n hf hname rfl hle (fun _ _ _ => finH_fin) h
theorem endH {H0 H H1 : List Blk} {r X : V} (fs : Fo) (h : keepP 0 H0 H fs ∧ nd fs = true ∧ match Go.En.foc H fs fs, ivV fs r with
  | some H', some r' => r' = X ∧ H' = H1
  | _, _ => False) : EndH H0 H H1 r X := ⟨fs, h⟩
/-- the run stands still at a call whose blocks are cut out. -/
def CallH (P : Program) (N : Cx) (qt : Bool) (g : FuncId) (vs1 : List V) (H1 : List Blk) (fs : Fo) (H : List Blk) (dst : Option Tmp) (k : List K) (tm : TM) (Q : Exit → TM → List Blk → Prop) : Prop :=
  ∃ R, Call P false g vs1 H1 R ∧ ∀ r H1', R r H1' → Shows P N k .normal (put dst (rnV fs H.length r) tm) (back H fs H1') Q
section
variable {P : Program} {N : Cx} {qt : Bool} {g : FuncId} {vs ws vs' vs1 : List V} {dst : Option Tmp} {k : List K} {tm : TM} {H H1 H1' : List Blk} {fs : Fo} {Q : Exit → TM → List Blk → Prop} {r : V} {p : Prop}
theorem callF (fs : Fo) (h : match Go.En.foc H fs fs, ivVs fs vs with
    | some H1, some vs1 => nd fs = true ∧ verOk H fs = true ∧ CallH P N false g vs1 H1 fs H dst k tm Q
    | _, _ => False) : CallK P N false g vs ws dst k tm H Q := by
  intro _
  split at h
  · rename_i H1 vs1 h1 h2
    obtain ⟨h3, h4, R, hc, hk⟩ := h
    refine (call_foc h1 h3 h4 h2 hc).mono ?_
    rintro r H' ⟨r1, H1', hR, rfl, rfl⟩
    exact hk r1 H1' hR
  · exact h.elim
theorem callF0 (h : match ivVs [] vs with
    | some vs1 => CallH P N qt g vs1 [] [] H dst k tm Q
    | _ => False) : CallK P N qt g vs ws dst k tm H Q := by
  intro _
  split at h
  · rename_i vs1 h2
    obtain ⟨R, hc, hk⟩ := h
    refine (call_new h2 hc).mono ?_
    rintro r H' ⟨r1, H1', hR, rfl, rfl⟩
    exact hk r1 H1' hR
  · exact h.elim
theorem hN (n : Nat) (hc : PH P g vs1 H1 r H1') (h : run P N n k (put dst (rnV fs H.length r) tm) (back H fs H1') Q) : CallH P N qt g vs1 H1 fs H dst k tm Q := ⟨_, hc, by rintro r' H' ⟨rfl, rfl⟩; exact run_ok n _ _ _ _ h⟩
theorem hI [i : PHi P g vs1 H1 r H1'] (n : Nat) (h : run P N n k (put dst (rnV fs H.length r) tm) (back H fs H1') Q) : CallH P N qt g vs1 H1 fs H dst k tm Q := hN n i.out h
theorem nilb {e : Prop} (n : Nat) (h : ∀ b : Bool, (b = true → e) → run P N n k (put dst (VB (b != false)) tm) H Q) : NilK P N false e dst k tm H Q := fun b hb => run_ok n _ _ _ _ (h b hb)
theorem byt {es : List (List C)} (n : Nat) (l : List UInt8) (he : es = BY l) (h : run P N n k (put dst (VS ⟨l.toArray⟩) tm) H Q) : BytK P N es dst k tm H Q := ⟨l, he, run_ok n _ _ _ _ h⟩
end
theorem ivE_map {α : Type} {fs : Fo} {f : α → List C} (h : ∀ x, ivL fs (f x) = some (f x)) : ∀ l : List α, ivE fs (l.map f) = some (l.map f)
  | [] => rfl
  | x :: r => by simp only [List.map_cons, ivE, h x, ivE_map h r]
theorem rnE_map {α : Type} {fs : Fo} {n0 : Nat} {f : α → List C} (h : ∀ x, (f x).map (rnC fs n0) = f x) (l : List α) : rnE fs n0 (l.map f) = l.map f := by
  unfold rnE
  rw [List.map_map]
  congr 1
  funext x
  exact h x
theorem ivE_BY (fs : Fo) (l : List UInt8) : ivE fs (BY l) = some (BY l) := ivE_map (fun x => rfl) l
theorem rnE_BY (fs : Fo) (n0 : Nat) (l : List UInt8) : rnE fs n0 (BY l) = BY l := rnE_map (fun x => rfl) l
theorem BY_app (l : List UInt8) (n : Int) (h0 : 0 ≤ n) (h1 : n < 256) : BY l ++ [[.v (.int .u8 n)]] = BY (l ++ [UInt8.ofNat n.toNat]) := by
  have : (UInt8.ofNat n.toNat).toNat = n.toNat := by simp; omega
  simp [BY, this, Int.toNat_of_nonneg h0]
theorem BY_one (n : Int) (h0 : 0 ≤ n) (h1 : n < 256) : [[C.v (.int .u8 n)]] = BY [UInt8.ofNat n.toNat] := by simpa [BY] using BY_app [] n h0 h1
theorem BY_nil : BY [] = [] := rfl
theorem BY_len (l : List UInt8) : (BY l).length = l.length := by simp [BY]
theorem rnE_nil (fs : Fo) (n0 : Nat) : rnE fs n0 [] = [] := rfl
theorem rnE_cons (fs : Fo) (n0 : Nat) (e : List C) (r : List (List C)) : rnE fs n0 (e :: r) = e.map (rnC fs n0) :: rnE fs n0 r := rfl
theorem take_BY (l : List UInt8) : (BY l).take l.length = BY l := List.take_of_length_le (by rw [BY_len]; exact Nat.le_refl _)
theorem take_map {α : Type} (f : α → List C) (l : List α) : (l.map f).take l.length = l.map f := List.take_of_length_le (by simp)
attribute [go_sem] take_BY take_map
theorem setA_nil {α : Type} (H l : List α) : setA H [] l = H := by simp [setA]
theorem setA_cons {α : Type} (H : List α) (b d : Nat) (r : Fo) (x : α) (l : List α) : setA H ((b, d) :: r) (x :: l) = setA (H.set b x) r l := rfl
attribute [go_sem] setA_nil setA_cons List.getElem?_nil List.all_cons List.all_nil finH keepP nd foc ivL ivE ivV1 ivVs ivV iv0 fiX foN foD rn0 rnC rnV1 rnV rnB rnBs back verOk ivE_BY rnE_BY BY_len rnE_nil rnE_cons List.nil_append Nat.add_sub_cancel_left Nat.le_add_right Nat.sub_zero Nat.zero_le Nat.le_add_left
/-- the end of a body, told by a relation. -/
def finR (P : Program) (rs : List ResultVar) (R : V → List Blk → Prop) (ex : Exit) (tm : TM) (H : List Blk) : Prop := match ex with
  | .normal => match resL P tm H rs with
    | some vs => noTups vs = true ∧ R (resultV vs) H
    | none => False
  | .ret => match resL P tm H rs with
    | some vs => noTups vs = true ∧ R (resultV vs) H
    | none => False
  | _ => False
theorem finR_fin {P : Program} {rs : List ResultVar} {H0 : List Blk} {R : V → List Blk → Prop} {ex : Exit} {tm : TM} {H : List Blk} (h : finR P rs R ex tm H) : fin P rs H0 R ex tm H := by
  have key : (match resL P tm H rs with | some vs => noTups vs = true ∧ R (resultV vs) H | none => False) → (match resL P tm H rs with
    | some vs => noTups vs = true ∧ Ends H0 R (resultV vs) H
    | none => False) := by
    intro h
    split at h
    · exact ⟨h.1, ends_now h.2⟩
    · exact h.elim
  cases ex with
  | normal => exact key h
  | ret => exact key h
  | _ => exact h.elim
theorem cr_of {P : Program} {g : FuncId} {fn : Func} {vs : List V} {R : V → List Blk → Prop} {H0 : List Blk} {nm og : String} {tg pr rt : Array TypeId} {nf N : Nat} {rs : Array ResultVar} {c : Code} {nr ou : Bool} {fl : String} {el : Nat} {ln : Option Nat} {mt : List Departure} {tn : Array String} (n : Nat) (hf : P.funcs[g]? = some fn)
    (hfn : fn = ⟨nm, og, tg, pr, rt, nf, N, rs, some c, nr, ou, fl, el, ln, mt, tn⟩) (h : run P (cx N) n [.code c] (argTM 0 vs) H0 (finR P rs.toList R)) (hname : (nm == "runtime.NumGoroutine") = false := by kernel_rfl) (hle : vs.length ≤ N := by simp) : En.Call P false g vs H0 R := by
  subst hfn
  exact call_of n hf hname rfl hle (fun _ _ _ => finR_fin) h
attribute [go_sem] finR Bool.bne_false
/-- the same, with facts that stand under the name hh. -/
theorem evh {p q : Prop} (hq : q) (h : p = q := by ((simp (maxSteps := 10000000) only [go_sem, hh, ↓br_t, ↓br_f, reduceIte, Nat.reduceAdd, Nat.reduceSub, Nat.reduceMul, Nat.reduceEqDiff, Nat.reduceLT, Nat.reduceLeDiff, Nat.succ_ne_zero, Nat.reduceBEq, Bool.false_eq_true, Int.reduceToNat, Int.toNat_natCast, reduceCtorEq, IntKind.bits, Nat.min_def, Int.reducePow, Nat.reducePow, Int.reduceLT, Int.reduceLE, Int.reduceNeg, Int.reduceAdd, Int.reduceSub, Int.reduceMul, decide_true, decide_false, Bool.not_true, Bool.not_false, List.length_map, ne_eq, not_false_eq_true, Int.reduceEq, Bool.and_true, Bool.and_false, Bool.true_and, Bool.false_and]); all_goals exact rfl)) : p := by rw [h]; exact hq
end Go.En
