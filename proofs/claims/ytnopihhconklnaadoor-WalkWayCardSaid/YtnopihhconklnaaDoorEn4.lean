import Derived.Test.YtnopihhconklnaaDoorEn3
/- More quiet operations of the abstract machine; all of them in one function. -/
namespace Go.En
open Go Go.RowKit
set_option linter.unusedSimpArgs false
set_option linter.unusedVariables false

def szOf (P : Program) (t : TypeId) : Option Nat := match lay P t with
  | some (_, n) => some n
  | none => none
theorem szOf_spec {P : Program} {t n : Nat} (h : szOf P t = some n) : ∃ i, P.info? t = some i ∧ i.size = n := by
  unfold szOf at h
  split at h
  · rename_i ag m hl
    cases h
    obtain ⟨d, i, h1, h2, h3, h4⟩ := lay_agg hl
    exact ⟨i, h2, h3⟩
  · cases h
def indexA (P : Program) (H : List Blk) (t : TypeId) (x i : V) : Option (Prop × V) := match P.underlying t, x, i with
  | some (.slice e), .c (.own b ver off m), (.c (.v (.int _ n))) => match H[b]?, szOf P e with
    | some blk, some sz => if ver = blk.ver then if blk.sz = sz then some (0 ≤ n ∧ n < m, .c (.ptr b ver (off + n.toNat) 0)) else none else none
    | _, _ => none
  | some (.array len e), .c (.ptr b ver i' j), (.c (.v (.int _ n))) => match szOf P e with
    | some sz => some (0 ≤ n ∧ n < len, .c (.ptr b ver i' (j + n.toNat * sz)))
    | none => none
  | some (.array len e), .c (.rptr el j), (.c (.v (.int _ n))) => match szOf P e with
    | some sz => some (0 ≤ n ∧ n < len, .c (.rptr el (j + n.toNat * sz)))
    | none => none
  | _, _, _ => none
theorem run_indexAt_slice {P : Program} {t e : TypeId} {sz : Nat} (ht : P.underlying t = some (.slice e)) (hs : szOf P e = some sz) (A : Addr) (len c : Nat) (k : IntKind) (n : Int) (h0 : 0 ≤ n) (h1 : n < len) (W : World) :
    (Instr.indexAt t (.slice (some A) len c) (.int k n)).run P W = .ok (.pointer (some (A.add (n.toNat * sz)))) W := by
  obtain ⟨i, hi, rfl⟩ := szOf_spec hs
  simp [Instr.indexAt, asIntOf, run_underlying ht, h0, h1, run_sizeOf hi]
theorem run_indexAt_array {P : Program} {t e : TypeId} {sz len : Nat} (ht : P.underlying t = some (.array len e)) (hs : szOf P e = some sz) (A : Addr) (k : IntKind) (n : Int) (h0 : 0 ≤ n) (h1 : n < len) (W : World) :
    (Instr.indexAt t (.pointer (some A)) (.int k n)).run P W = .ok (.pointer (some (A.add (n.toNat * sz)))) W := by
  obtain ⟨i, hi, rfl⟩ := szOf_spec hs
  simp [Instr.indexAt, asIntOf, Instr.sureAddr, run_underlying ht, h0, h1, run_sizeOf hi]
theorem indexA_ok {P : Program} {s : Sit} {t : TypeId} {x i : V} {a b : Value} {p : Prop} {v : V} (h : indexA P s.H t x i = some (p, v)) (hp : p) (hx : VR s x a) (hi : VR s i b) : Quiet P s v (Instr.indexAt t a b) := by
  unfold indexA at h
  split at h
  · rename_i e bb ver off m k n ht
    rw [vr_v hi]
    split at h
    · rename_i blk sz hb hsz
      split at h
      · rename_i hv
        split at h
        · rename_i hz
          cases h
          obtain ⟨h0, h1⟩ := hp
          obtain ⟨_, blk', rv, g1, g2, g3, g4⟩ := hx
          rw [hb] at g1
          cases g1
          obtain ⟨q1, q2⟩ := g4 hv
          rcases q2 with ⟨_, _, hm0, _⟩ | ⟨g, L, cap, A, c, hcap, rfl, rfl, hoc, hcc, hmc, hblk, hA⟩
          · omega
          · have hA' : A = ⟨g, off * blk.sz, none⟩ := by
              rcases hA with h | ⟨_, h⟩
              · exact h
              · omega
            subst hA'
            refine .pure (u := .pointer (some ((⟨g, off * blk.sz, none⟩ : Addr).add (n.toNat * sz)))) ?_ (fun W => run_indexAt_slice ht hsz _ m c k n h0 h1 W)
            refine ⟨⟨_, rfl⟩, blk, _, hb, g2, g3, fun _ => ⟨g, L, cap, rfl, ?_⟩⟩
            rw [add_lit, ← hz, ← Nat.add_mul, Nat.add_zero]
        · cases h
      · cases h
    · cases h
  · rename_i len e bb ver i' j k n ht
    rw [vr_v hi]
    split at h
    · rename_i sz hsz
      cases h
      obtain ⟨h0, h1⟩ := hp
      obtain ⟨⟨A, rfl⟩, blk, rv, g1, g2, g3, g4⟩ := hx
      refine .pure (u := .pointer (some (A.add (n.toNat * sz)))) ?_ (fun W => run_indexAt_array ht hsz A k n h0 h1 W)
      refine ⟨⟨_, rfl⟩, blk, rv, g1, g2, g3, fun hv => ?_⟩
      obtain ⟨g, L, cap, e1, e2⟩ := g4 hv
      injection e2 with e2
      injection e2 with e2
      subst e2
      exact ⟨g, L, cap, e1, by rw [add_lit, Nat.add_assoc]⟩
    · cases h
  · rename_i len e el j k n ht
    rw [vr_v hi]
    split at h
    · rename_i sz hsz
      cases h
      obtain ⟨h0, h1⟩ := hp
      obtain ⟨A, w, hw, rfl⟩ := hx
      refine .pure (u := .pointer (some ((A.add j).add (n.toNat * sz)))) ?_ (fun W => run_indexAt_array ht hsz _ k n h0 h1 W)
      exact ⟨A, w, hw, by rw [add_add]⟩
    · cases h
  · cases h
/-- an element of a row that stays. -/
theorem indexR_ok {P : Program} {s : Sit} {t e sz : Nat} {es : List (List C)} {el : List C} {k : IntKind} {n : Int} {a b : Value} (ht : P.underlying t = some (.slice e)) (hsz : szOf P e = some sz) (hx : VR s (.c (.row es)) a) (hi : VR s (VI k n) b) (hel : es[n.toNat]? = some el) (h0 : 0 ≤ n) (hl : el.length = sz) : Quiet P s (.c (.rptr el 0)) (Instr.indexAt t a b) := by
  rw [vr_v hi]
  have hlen := (List.getElem?_eq_some_iff.1 hel).1
  cases (show DR s.W s.F (.row es) a from hx) with
  | nil => simp at hel
  | @row A sz' _ c _ u hu ha hc hd hn hcap =>
    subst hn
    have e1 : sz' = sz := by rw [← hl]; exact (hu el (List.mem_of_getElem? hel)).symm
    subst e1
    refine .pure (u := .pointer (some (A.add (n.toNat * sz')))) ?_ (fun W => run_indexAt_slice ht hsz A es.length c k n h0 (by omega) W)
    refine ⟨A.add (n.toNat * sz'), fun j => u (n.toNat * sz' + j), fun j c hj => ?_, by rw [add_add, Nat.add_zero]⟩
    have hj' : j < sz' := by have := (List.getElem?_eq_some_iff.1 hj).1; omega
    have hf := hu.flat_get hel hj'
    rw [hj] at hf
    have hfl := (List.getElem?_eq_some_iff.1 hf).1
    refine ⟨by rw [add_add]; exact hc _ hfl, by rw [add_block]; exact ha (fun e => by rw [e] at hfl; simp at hfl), hd _ _ hf⟩
def indexS (P : Program) (t : TypeId) (x i : V) : Option (Prop × V) := match P.underlying t, x, i with
  | some .string, (.c (.v (.string s))), (.c (.v (.int _ n))) => some (0 ≤ n ∧ n < s.size, VI .u8 (bt s n))
  | _, _, _ => none
theorem indexS_ok {P : Program} {s : Sit} {t : TypeId} {x i : V} {a b : Value} {p : Prop} {v : V} (h : indexS P t x i = some (p, v)) (hp : p) (hx : VR s x a) (hi : VR s i b) : Quiet P s v (Instr.index t a b) := by
  unfold indexS at h
  split at h
  · rename_i bs k n ht
    cases h
    obtain ⟨h0, h1⟩ := hp
    rw [vr_v hi, vr_v hx]
    have hl : n.toNat < bs.size := by omega
    refine .val rfl (fun W => ?_)
    have hg : bs[n.toNat]? = some bs[n.toNat] := getElem?_pos bs n.toNat hl
    simp [Instr.index, asIntOf, run_underlying ht, h0, hg, bt, hl]
  · cases h
/-- a bound of a slice that is cut, or what stands for it. -/
def bnd (d : Int) : Option V → Option Int
  | none => some d
  | some ((.c (.v (.int _ n)))) => some n
  | _ => none
def sliceV (P : Program) (H : List Blk) (t : TypeId) (x : V) (lo hi : Option V) : Option (Prop × V) := match P.underlying t, x with
  | some .string, (.c (.v (.string s))) => match bnd 0 lo, bnd s.size hi with
    | some l, some h => some (0 ≤ l ∧ l ≤ h ∧ h ≤ s.size, VS (s.extract l.toNat h.toNat))
    | _, _ => none
  | some (.slice e), .c (.row es) => match bnd 0 lo, bnd es.length hi, szOf P e with
    | some l, some h, some sz => some (0 ≤ l ∧ l ≤ h ∧ h ≤ es.length ∧ (∀ x ∈ es, x.length = sz), .c (.row ((es.take h.toNat).drop l.toNat)))
    | _, _, _ => none
  | some (.slice e), .c (.own b ver off n) => match bnd 0 lo, bnd n hi, szOf P e, H[b]? with
    | some l, some h, some sz, some blk => if ver = blk.ver then if blk.sz = sz then some (0 ≤ l ∧ l ≤ h ∧ h ≤ n, .c (.own b ver (off + l.toNat) (h.toNat - l.toNat))) else none else none
    | _, _, _, _ => none
  | _, _ => none
theorem run_sliceBounds {P : Program} {s : Sit} {isS : Bool} {len cap : Nat} {lo hi : Option V} {lo' hi' : Option Value} {l h : Int} (hl : bnd 0 lo = some l) (hh : bnd len hi = some h)
    (rl : ∀ x, lo = some x → ∃ u, lo' = some u ∧ VR s x u) (rl' : lo = none → lo' = none) (rh : ∀ x, hi = some x → ∃ u, hi' = some u ∧ VR s x u) (rh' : hi = none → hi' = none)
    (h0 : 0 ≤ l) (h1 : l ≤ h) (h2 : h ≤ len) (hc : len ≤ cap) (W : World) : (Instr.sliceBounds isS len cap lo' hi' none).run P W = .ok (l.toNat, h.toNat, cap) W := by
  have e2 : (match hi' with | some v => Instr.sliceBound v cap (if isS then .sliceAcap else .sliceAlen) | none => (pure len : Sem Nat)).run P W = .ok h.toNat W := by
    cases hi with
    | none =>
      rw [rh' rfl]
      simp only [bnd] at hh
      cases hh
      simp
    | some x =>
      obtain ⟨u, rfl, hu⟩ := rh x rfl
      unfold bnd at hh
      split at hh
      · rename_i he; cases he
      · rename_i k n he
        cases he
        cases hh
        rw [vr_v hu]
        have g1 : (0 : Int) ≤ h := by omega
        have g2 : h ≤ cap := by omega
        simp [Instr.sliceBound, asIntOf, g1, g2]
      · cases hh
  have e1 : (match lo' with | some v => Instr.sliceBound v h.toNat .sliceB | none => (pure 0 : Sem Nat)).run P W = .ok l.toNat W := by
    cases lo with
    | none =>
      rw [rl' rfl]
      simp only [bnd] at hl
      cases hl
      simp
    | some x =>
      obtain ⟨u, rfl, hu⟩ := rl x rfl
      unfold bnd at hl
      split at hl
      · rename_i he; cases he
      · rename_i k n he
        cases he
        cases hl
        rw [vr_v hu]
        have g2 : l ≤ (h.toNat : Int) := by omega
        simp only [Instr.sliceBound, asIntOf, Sem.run_bind, Sem.run_pure, Result.andThen_ok]
        rw [if_pos ⟨h0, g2⟩]
        rfl
      · cases hl
  cases hi' with
  | none =>
    cases lo' with
    | none => simp at e1 e2; simp [Instr.sliceBounds, ← e1, ← e2]
    | some a => simp at e1 e2; subst e2; simp [Instr.sliceBounds, e1]
  | some b =>
    cases lo' with
    | none => simp at e1 e2; simp [Instr.sliceBounds, ← e1, e2]
    | some a => simp at e1 e2; simp [Instr.sliceBounds, e1, e2]
theorem sliceV_ok {P : Program} {s : Sit} {t : TypeId} {x : V} {lo hi : Option V} {lo' hi' : Option Value} {a : Value} {p : Prop} {v : V} (h : sliceV P s.H t x lo hi = some (p, v)) (hp : p) (hx : VR s x a)
    (rl : ∀ x, lo = some x → ∃ u, lo' = some u ∧ VR s x u) (rl' : lo = none → lo' = none) (rh : ∀ x, hi = some x → ∃ u, hi' = some u ∧ VR s x u) (rh' : hi = none → hi' = none) : Quiet P s v (Instr.sliceAt t a lo' hi' none) := by
  unfold sliceV at h
  split at h
  · rename_i bs ht
    rw [vr_v hx]
    split at h
    · rename_i l hh hl hhi
      cases h
      obtain ⟨h0, h1, h2⟩ := hp
      refine .val rfl (fun W => ?_)
      simp only [Instr.sliceAt, Sem.run_bind, run_underlying ht, Result.andThen_ok, Instr.slice]
      simp [run_sliceBounds (P := P) (isS := false) hl hhi rl rl' rh rh' h0 h1 h2 (Nat.le_refl _) W]
    · cases h
  · rename_i e es ht
    split at h
    · rename_i l hh sz hl hhi hsz
      cases h
      obtain ⟨h0, h1, h2, huni⟩ := hp
      obtain ⟨i, hi1, hi2⟩ := szOf_spec hsz
      cases (show DR s.W s.F (.row es) a from hx) with
      | nil =>
        have hz : hh = 0 := by have : (([] : List (List C)).length : Int) = 0 := rfl; omega
        have hz' : l = 0 := by omega
        subst hz; subst hz'
        refine .pure (u := .slice none 0 0) ?_ (fun W => ?_)
        · exact DR.nil
        have hb := run_sliceBounds (P := P) (isS := true) (len := 0) (cap := 0) hl hhi rl rl' rh rh' (Int.le_refl _) (Int.le_refl _) (Int.le_refl _) (Nat.le_refl _) W
        simp only [Int.toNat_zero] at hb
        simp only [Instr.sliceAt, Sem.run_bind, run_underlying ht, Result.andThen_ok, Instr.slice, hb, run_sizeOf hi1]
        rfl
      | @row A sz' n c _ u hu ha hc hd hn hcap =>
        subst hn
        have hlh : l.toNat ≤ hh.toNat := by omega
        have hhl : hh.toNat ≤ es.length := by omega
        have hu' : Uni sz es := huni
        refine .pure (u := .slice (if c = l.toNat then some A else some (A.add (l.toNat * sz))) (hh.toNat - l.toNat) (c - l.toNat)) ?_ (fun W => ?_)
        · show DR s.W s.F (.row ((es.take hh.toNat).drop l.toNat)) _
          have hlen : ((es.take hh.toNat).drop l.toNat).length = hh.toNat - l.toNat := by rw [List.length_drop, List.length_take]; omega
          have huu : Uni sz ((es.take hh.toNat).drop l.toNat) := (hu'.take _).drop _
          have hfl : ((es.take hh.toNat).drop l.toNat).flatten = (es.flatten.take (hh.toNat * sz)).drop (l.toNat * sz) := by rw [(hu'.take _).flat_drop, hu'.flat_take]
          by_cases hce : c = l.toNat
          · rw [if_pos hce]
            have hemp : (es.take hh.toNat).drop l.toNat = [] := List.eq_nil_of_length_eq_zero (by omega)
            rw [hemp] at huu hlen ⊢
            exact .row (sz := sz) u huu (fun h => by simp at h) (fun k hk => by simp at hk) (fun k d hk => by simp at hk) (by simp at hlen ⊢; omega) (by omega)
          · rw [if_neg hce]
            refine .row (sz := sz) (fun k => u (l.toNat * sz + k)) huu (fun h => ?_) (fun k hk => ?_) (fun k d hk => ?_) hlen.symm (by omega)
            · rw [add_block]; exact ha (fun e => h (by rw [hfl, e]; simp))
            · rw [add_add]
              refine hc _ ?_
              rw [hfl, List.length_drop, List.length_take] at hk
              omega
            · rw [hfl, List.getElem?_drop, List.getElem?_take] at hk
              split at hk
              · exact hd _ _ hk
              · cases hk
        · have hb := run_sliceBounds (P := P) (isS := true) (len := es.length) (cap := c) hl hhi rl rl' rh rh' h0 h1 h2 hcap W
          simp only [Instr.sliceAt, Sem.run_bind, run_underlying ht, Result.andThen_ok, Instr.slice, hb, run_sizeOf hi1, hi2]
          split <;> rfl
    · cases h
  · rename_i e b ver off n ht
    split at h
    · rename_i l hh sz blk hl hhi hsz hblk
      split at h
      · rename_i hv
        split at h
        · rename_i hz
          cases h
          obtain ⟨h0, h1, h2⟩ := hp
          obtain ⟨i, hi1, hi2⟩ := szOf_spec hsz
          obtain ⟨_, blk', rv, g1, g2, g3, g4⟩ := hx
          rw [hblk] at g1
          cases g1
          obtain ⟨q1, q2⟩ := g4 hv
          rcases q2 with ⟨⟨A0, rfl⟩, ⟨A, rfl⟩, rfl, rfl⟩ | ⟨g, L, cap, A, c, hcap, rfl, rfl, hoc, hcc, hmc, hb, hA⟩
          · have z1 : hh = 0 := by omega
            have z2 : l = 0 := by omega
            subst z1; subst z2
            refine .pure (u := .slice A 0 0) ?_ (fun W => ?_)
            · exact ⟨⟨_, _, rfl⟩, blk, _, hblk, g2, g3, fun _ => ⟨by simp, .inl ⟨⟨_, rfl⟩, ⟨_, rfl⟩, rfl, rfl⟩⟩⟩
            have hb := run_sliceBounds (P := P) (isS := true) (len := 0) (cap := 0) hl hhi rl rl' rh rh' (Int.le_refl _) (Int.le_refl _) (Int.le_refl _) (Nat.le_refl _) W
            simp only [Int.toNat_zero] at hb
            simp only [Instr.sliceAt, Sem.run_bind, run_underlying ht, Result.andThen_ok, Instr.slice, hb, run_sizeOf hi1]
            rfl
          · have hlh : l.toNat ≤ hh.toNat := by omega
            have hhn : hh.toNat ≤ n := by omega
            refine .pure (u := .slice (if c = l.toNat then some A else some (A.add (l.toNat * sz))) (hh.toNat - l.toNat) (c - l.toNat)) ?_ (fun W => ?_)
            · refine ⟨⟨_, _, rfl⟩, blk, _, hblk, g2, g3, fun _ => ⟨by omega, .inr ?_⟩⟩
              by_cases hce : c = l.toNat
              · exact ⟨g, L, cap, A, c - l.toNat, hcap, rfl, by rw [if_pos hce], by omega, by omega, by omega, hb, .inr (by omega)⟩
              · have hA' : A = ⟨g, off * blk.sz, none⟩ := by
                  rcases hA with h | ⟨_, h⟩
                  · exact h
                  · omega
                subst hA'
                exact ⟨g, L, cap, _, c - l.toNat, hcap, rfl, by rw [if_neg hce], by omega, by omega, by omega, by rw [add_block], .inl (by rw [add_lit, hz, Nat.add_mul])⟩
            · have hbd := run_sliceBounds (P := P) (isS := true) (len := n) (cap := c) hl hhi rl rl' rh rh' h0 h1 h2 hmc W
              simp only [Instr.sliceAt, Sem.run_bind, run_underlying ht, Result.andThen_ok, Instr.slice, hbd, run_sizeOf hi1, hi2]
              split <;> rfl
        · cases h
      · cases h
    · cases h
  · cases h
/-- 'x[:0:0]'. -/
def slice00 (P : Program) (t : TypeId) (x : V) (lo hi mx : Option V) : Option (Prop × V) := match P.underlying t, x, lo, hi, mx with
  | some (.slice e), .c (.row es), none, some ((.c (.v (.int _ 0)))), some ((.c (.v (.int _ 0)))) => match szOf P e with
    | some _ => some (True, .c .e0)
    | none => none
  | _, _, _, _, _ => none
theorem slice00_ok {P : Program} {s : Sit} {t : TypeId} {x : V} {lo hi mx : Option V} {lo' hi' mx' : Option Value} {a : Value} {p : Prop} {v : V} (h : slice00 P t x lo hi mx = some (p, v)) (hx : VR s x a)
    (rl' : lo = none → lo' = none) (rh : ∀ x, hi = some x → ∃ u, hi' = some u ∧ VR s x u) (rm : ∀ x, mx = some x → ∃ u, mx' = some u ∧ VR s x u) : Quiet P s v (Instr.sliceAt t a lo' hi' mx') := by
  unfold slice00 at h
  split at h
  · rename_i e es k k' ht
    split at h
    · rename_i sz hsz
      cases h
      obtain ⟨i, hi1, hi2⟩ := szOf_spec hsz
      obtain ⟨u1, rfl, hu1⟩ := rh _ rfl
      obtain ⟨u2, rfl, hu2⟩ := rm _ rfl
      rw [rl' rfl, vr_v hu1, vr_v hu2]
      cases (show DR s.W s.F (.row es) a from hx) with
      | nil =>
        refine .pure (u := .slice none 0 0) ?_ (fun W => ?_)
        · exact ⟨none, rfl⟩
        simp [Instr.sliceAt, run_underlying ht, Instr.slice, Instr.sliceBounds, Instr.sliceBound, asIntOf, run_sizeOf hi1]
      | @row A sz' n c _ u hu ha hc hd hn hcap =>
        refine .pure (u := .slice (some A) 0 0) ?_ (fun W => ?_)
        · exact ⟨some A, rfl⟩
        simp [Instr.sliceAt, run_underlying ht, Instr.slice, Instr.sliceBounds, Instr.sliceBound, asIntOf, run_sizeOf hi1]
    · cases h
  · cases h
def lenV (P : Program) (t : TypeId) (x : V) : Option (Prop × V) := match P.underlying t, x with
  | some .string, (.c (.v (.string s))) => some (True, VI .i64 s.size)
  | some (.slice _), .c (.row es) => some (True, VI .i64 es.length)
  | some (.slice _), .c (.own _ _ _ n) => some (True, VI .i64 n)
  | some (.slice _), .c .e0 => some (True, VI .i64 0)
  | some (.slice _), .c (.v (.slice none 0 0)) => some (True, VI .i64 0)
  | some (.array n _), _ => some (True, VI .i64 n)
  | _, _ => none
theorem lenV_ok {P : Program} {s : Sit} {t : TypeId} {x : V} {a : Value} {p : Prop} {v : V} (h : lenV P t x = some (p, v)) (hx : VR s x a) (ty : TypeId) (ts : Array TypeId) (hts : ts[0]? = some t) : Quiet P s v (Builtin.len_ ts ty #[a]) := by
  unfold lenV at h
  split at h
  · rename_i bs ht; cases h; rw [vr_v hx]; exact .val rfl (fun W => by simp [Builtin.len_, hts, run_underlying ht, goInt])
  · rename_i e es ht
    cases h
    cases (show DR s.W s.F (.row es) a from hx) with
    | nil => exact .val rfl (fun W => by simp [Builtin.len_, hts, run_underlying ht, goInt])
    | row u hu ha hc hd hn hcap => subst hn; exact .val rfl (fun W => by simp [Builtin.len_, hts, run_underlying ht, goInt])
  · rename_i e b ver off n ht
    cases h
    obtain ⟨⟨A, c, rfl⟩, _⟩ := hx
    exact .val rfl (fun W => by simp [Builtin.len_, hts, run_underlying ht, goInt])
  · rename_i e ht; cases h; obtain ⟨A, rfl⟩ := hx; exact .val rfl (fun W => by simp [Builtin.len_, hts, run_underlying ht, goInt])
  · rename_i e ht; cases h; rw [vr_v hx]; exact .val rfl (fun W => by simp [Builtin.len_, hts, run_underlying ht, goInt])
  · rename_i n e x ht; cases h; exact .val rfl (fun W => by simp [Builtin.len_, hts, run_underlying ht, goInt])
  · cases h
def minmax (mn : Bool) : List V → Option (Prop × V)
  | [(.c (.v (.int k a))), (.c (.v (.int k' b)))] => some (True, VI k (if mn then (if b < a then b else a) else (if a < b then b else a)))
  | _ => none
def nilChk : V → Option (Prop × V)
  | .c (.ptr b ver i j) => some (True, .c (.ptr b ver i j))
  | .c (.rptr e j) => some (True, .c (.rptr e j))
  | .c (.fn f cs) => some (True, .c (.fn f cs))
  | _ => none
end Go.En
