import Derived.Test.YtnopihhconklnaaDoorEn11
/- How the machine is run in a proof: one set of rules; contracts of pure functions. -/
namespace Go.En
open Go Go.RowKit
set_option linter.unusedSimpArgs false
set_option linter.unusedVariables false

theorem br_t (x y : Prop) : br true x y = x := rfl
theorem br_f (x y : Prop) : br false x y = y := rfl
theorem br_i {b : Bool} {x y : Prop} (h1 : b = true → x) (h2 : b = false → y) : br b x y := br_iff.2 ⟨h1, h2⟩
theorem br_d {p : Prop} [Decidable p] {x y : Prop} (h1 : p → x) (h2 : ¬ p → y) : br (decide p) x y := br_iff.2 ⟨fun h => h1 (of_decide_eq_true h), fun h => h2 (of_decide_eq_false h)⟩
theorem br_n {b : Bool} {x y : Prop} : br (!b) x y = br b y x := by cases b <;> rfl
/-- the end of a body of pure data. -/
def finP (P : Program) (rs : List ResultVar) (X : V) (ex : Exit) (tm : TM) (H : List Blk) : Prop := match ex with
  | .normal => match resL P tm H rs with
    | some vs => noTups vs = true ∧ match frz H (resultV vs) with
      | some (p, r) => p ∧ r = X
      | none => False
    | none => False
  | .ret => match resL P tm H rs with
    | some vs => noTups vs = true ∧ match frz H (resultV vs) with
      | some (p, r) => p ∧ r = X
      | none => False
    | none => False
  | _ => False
theorem finP_fin {P : Program} {rs : List ResultVar} {X : V} {ex : Exit} {tm : TM} {H : List Blk} (h : finP P rs X ex tm H) : fin P rs [] (fun r H' => r = X ∧ H' = []) ex tm H := by
  have key : (match resL P tm H rs with
      | some vs => noTups vs = true ∧ match frz H (resultV vs) with
        | some (p, r) => p ∧ r = X
        | none => False
      | none => False) → (match resL P tm H rs with
    | some vs => noTups vs = true ∧ Ends [] (fun r H' => r = X ∧ H' = []) (resultV vs) H
    | none => False) := by
    intro h
    split at h
    · rename_i vs hvs
      obtain ⟨h1, h2⟩ := h
      split at h2
      · rename_i p r hf
        exact ⟨h1, ends_all hf h2.1 ⟨h2.2, rfl⟩⟩
      · exact h2.elim
    · exact h.elim
  cases ex with
  | normal => exact key h
  | ret => exact key h
  | _ => exact h.elim
theorem ps_of {P : Program} {g : FuncId} {fn : Func} {vs : List V} {X : V} {nm og : String} {tg pr rt : Array TypeId} {nf N : Nat} {rs : Array ResultVar} {c : Code} {nr ou : Bool} {fl : String} {el : Nat} {ln : Option Nat} {mt : List Departure} {tn : Array String} (n : Nat) (hf : P.funcs[g]? = some fn)
    (hfn : fn = ⟨nm, og, tg, pr, rt, nf, N, rs, some c, nr, ou, fl, el, ln, mt, tn⟩) (h : run P (cx N) n [.code c] (argTM 0 vs) [] (finP P rs.toList X)) (hname : (nm == "runtime.NumGoroutine") = false := by kernel_rfl) (hle : vs.length ≤ N := by simp) : PS P g vs X := by
  subst hfn
  exact call_of n hf hname rfl hle (fun _ _ _ => finP_fin) h
/-- one state holds what another one has. -/
def subT (tm : TM) : TM → Prop
  | [] => True
  | (t, v) :: r => lk t tm = some v ∧ subT tm r
def ltT (n : Nat) : TM → Bool
  | [] => true
  | (_, v) :: r => v.lt n && ltT n r
/-- the elements name no block from the n-th on. -/
def esLt (n : Nat) (es : List (List C)) : Prop := ∀ e ∈ es, ∀ c ∈ e, c.lt n = true
theorem esLt_nil (n : Nat) : esLt n [] = True := by simp [esLt]
theorem ltL_iff {n : Nat} : ∀ (l : List C), ltL n l = true ↔ ∀ c ∈ l, c.lt n = true
  | [] => by simp [ltL]
  | c :: r => by simp [ltL, ltL_iff r]
theorem esLt_cons (n : Nat) (e : List C) (r : List (List C)) : esLt n (e :: r) = (ltL n e = true ∧ esLt n r) := by simp [esLt, ltL_iff]
theorem esLt_app (n : Nat) (l m : List (List C)) : esLt n (l ++ m) = (esLt n l ∧ esLt n m) := by
  apply propext
  simp only [esLt, List.mem_append]
  exact ⟨fun h => ⟨fun e he => h e (.inl he), fun e he => h e (.inr he)⟩, fun h e he => he.elim (h.1 e) (h.2 e)⟩
theorem esLt_map {α : Type} {n : Nat} {f : α → List C} (h : ∀ x, ltL n (f x) = true) (l : List α) : esLt n (l.map f) = True := by
  apply eq_true
  intro e he
  obtain ⟨x, _, rfl⟩ := List.mem_map.1 he
  exact (ltL_iff _).1 (h x)
theorem esLt_BY (n : Nat) (l : List UInt8) : esLt n (BY l) = True := esLt_map (fun _ => rfl) l
def ltH (n : Nat) : List Blk → Prop
  | [] => True
  | b :: r => esLt n b.es ∧ ltH n r
theorem lk_mem {t : Nat} {v : V} : ∀ {tm : TM}, lk t tm = some v → (t, v) ∈ tm
  | [], h => by simp [lk] at h
  | (m, w) :: r, h => by
    simp only [lk] at h
    split at h
    · rename_i e; subst e; cases h; exact List.mem_cons_self
    · exact List.mem_cons_of_mem _ (lk_mem h)
theorem subT_mem {tm : TM} : ∀ {tm' : TM}, subT tm tm' → ∀ t v, (t, v) ∈ tm' → lk t tm = some v
  | [], _, t, v, h => by cases h
  | (m, w) :: r, hs, t, v, h => by
    rcases List.mem_cons.1 h with e | h
    · cases e; exact hs.1
    · exact subT_mem hs.2 t v h
theorem ltT_mem {n : Nat} : ∀ {tm : TM}, ltT n tm = true → ∀ t v, (t, v) ∈ tm → v.lt n = true
  | [], _, t, v, h => by cases h
  | (m, w) :: r, hs, t, v, h => by
    simp only [ltT, Bool.and_eq_true] at hs
    rcases List.mem_cons.1 h with e | h
    · cases e; exact hs.1
    · exact ltT_mem hs.2 t v h
theorem ltH_mem {n : Nat} : ∀ {H : List Blk}, ltH n H → ∀ b ∈ H, ∀ e ∈ b.es, ∀ c ∈ e, c.lt n = true
  | [], _, b, h => by cases h
  | x :: r, hs, b, h => by
    rcases List.mem_cons.1 h with rfl | h
    · exact hs.1
    · exact ltH_mem hs.2 b h
theorem weak_of {tm tm' : TM} {H H' : List Blk} (h1 : subT tm tm') (h2 : ∃ G, H = H' ++ G) (h3 : ltT H'.length tm' = true) (h4 : ltH H'.length H') : Weak tm H tm' H' :=
  .drop ⟨fun t v h => subT_mem h1 t v (lk_mem h), h2, fun t v h => ltT_mem h3 t v (lk_mem h), ltH_mem h4⟩
theorem wkS {tm tm' : TM} {H : List Blk} (h1 : subT tm tm' := by simp [subT, lk]) : Weak tm H tm' H := .same (fun t v h => subT_mem h1 t v (lk_mem h)) rfl
theorem wk {tm tm' : TM} {H H' : List Blk} (h2 : ∃ G, H = H' ++ G := by exact ⟨_, rfl⟩) (h1 : subT tm tm' := by simp [subT, lk]) (h3 : ltT H'.length tm' = true := by first | rfl | simp [ltT, V.lt, V.lt1, C.lt, C.lt0, C.lts, ltL, ltVs]) (h4 : ltH H'.length H' := by first | exact trivial | simp only [ltH, go_sem, Nat.reduceLT, decide_true, Nat.reduceAdd]) : Weak tm H tm' H' := weak_of h1 h2 h3 h4
/-- a loop: the states ahead of its rounds, by what turns. -/
theorem loop_st {P : Program} {N : Cx} {body : Code} {k : List K} {tm : TM} {H : List Blk} {Q : Exit → TM → List Blk → Prop} {σ : Type} (n : Nat) (st : σ → TM) (hp : σ → List Blk) (I : σ → Prop) (μ : σ → Nat) (x0 : σ) (h0 : I x0) (hw : Weak tm H (st x0) (hp x0)) (hle : ∀ x, I x → H.length ≤ (hp x).length)
    (hs : ∀ x Q', I x → (∀ y tm3 H3, Weak tm3 H3 (st y) (hp y) → I y → μ y < μ x → Q' .normal tm3 H3) → (∀ id k' tm3 H3, exitK id k = some k' → run P N n k' tm3 H3 Q → Q' (.exit id) tm3 H3) → (∀ tm3 H3, Q .ret tm3 H3 → Q' .ret tm3 H3) → run P N n [.code body] (st x) (hp x) Q') :
    Here P N (.code (.loop body) :: k) tm H Q := by
  refine loop_ok n (fun m tm1 H1 => ∃ x, I x ∧ μ x = m ∧ tm1 = st x ∧ H1 = hp x) hw (hle _ h0) ⟨x0, h0, rfl, rfl, rfl⟩ (fun m tm1 H1 ⟨x, hx, _, _, e⟩ => e ▸ hle x hx) ?_
  rintro m tm1 H1 Q' ⟨x, hx, rfl, rfl, rfl⟩ hn he
  exact hs x Q' hx (fun y tm3 H3 hw hy hm => hn _ _ _ _ _ hm ⟨y, hy, rfl, rfl, rfl⟩ hw) (fun id k' tm3 H3 hk hr => he _ _ _ (by simp) (shows_exit hk hr)) (fun tm3 H3 hq => he _ _ _ (by simp) (shows_ret hq))
attribute [go_sem] tabs mkM lkM upM hasK addK cx lin qtOf esLt_nil esLt_cons esLt_app esLt_BY V.cells run run.step run.guarded q ld ev lk argTM opt1 opt2 put dstOf bin2 eqV eqCs eqC bin ibin sbin arith un conv fieldV extractV indexS fieldA indexA sliceV slice00 lenV minmax nilChk fo ldC cut mk finP fin resL resultV noTups ofConst ofCells sub evs evp evo bnd szOf
  bldV fillC noTup cellsOf noFn stC putE srcEs apV bsV fillE mkV cpV exitK frz frz1 frzs frzL frzC nrm isD isNil br_n
  subT ltT ltH V.lt V.lt1 C.lt C.lt0 C.lts ltL ltVs nrmV nrmVs noOwn noOwns noOwnC noOwnL flatV flat1 flats flatC Bool.and_true Bool.true_and
attribute [go_sem] Array.toList List.size_toArray List.length_cons List.length_nil List.range_succ List.range_zero List.nil_append List.cons_append List.append_assoc List.getElem?_toArray List.getElem?_cons_zero List.getElem?_cons_succ List.drop_succ_cons List.drop_zero List.take_succ_cons List.take_zero List.drop_nil List.take_nil Option.bind_some true_and and_true
  List.set_cons_zero List.set_cons_succ List.length_append List.replicate_succ List.replicate_zero List.map_cons List.map_nil Nat.le_refl Nat.zero_add Nat.add_zero if_true if_false
/-- the rules, all at once. -/
theorem ev_ {p q : Prop} (hq : q) (h : p = q := by ((simp (maxSteps := 10000000) only [go_sem, ↓br_t, ↓br_f, reduceIte, Nat.reduceAdd, Nat.reduceSub, Nat.reduceMul, Nat.reduceEqDiff, Nat.reduceLT, Nat.reduceLeDiff, Nat.succ_ne_zero, Nat.reduceBEq, Bool.false_eq_true, Int.reduceToNat, Int.toNat_natCast, reduceCtorEq, IntKind.bits, Nat.min_def, Int.reducePow, Nat.reducePow, Int.reduceLT, Int.reduceLE, Int.reduceNeg, Int.reduceAdd, Int.reduceSub, Int.reduceMul, decide_true, decide_false, Bool.not_true, Bool.not_false, List.length_map, ne_eq, not_false_eq_true, Int.reduceEq, Bool.and_true, Bool.and_false, Bool.true_and, Bool.false_and]); all_goals exact rfl)) : p := by rw [h]; exact hq
end Go.En
