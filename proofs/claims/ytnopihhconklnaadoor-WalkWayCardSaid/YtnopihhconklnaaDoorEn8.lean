import Derived.Test.YtnopihhconklnaaDoorEnM
/- literals of rows, make, copy; all loud operations in one function. -/
namespace Go.En
open Go Go.RowKit
set_option linter.unusedSimpArgs false
set_option linter.unusedVariables false

theorem uni_rep {α : Type} (n : Nat) (z : List α) : Uni z.length (List.replicate n z) := fun e he => by rw [(List.mem_replicate.1 he).2]
theorem rep_flat {α : Type} (z : List α) (n k : Nat) (hk : k < n * z.length) : (List.replicate n z).flatten[k]? = z[k % z.length]? := by
  have hz : 0 < z.length := by
    rcases Nat.eq_zero_or_pos z.length with h | h
    · rw [h] at hk; omega
    · exact h
  have h1 : k / z.length < n := by rw [Nat.div_lt_iff_lt_mul hz]; exact hk
  have h2 := (uni_rep n z).flat_get (i := k / z.length) (j := k % z.length) (e := z) (by rw [List.getElem?_replicate, if_pos h1]) (Nat.mod_lt _ hz)
  rw [← h2]
  congr 1
  have := Nat.div_add_mod k z.length
  rw [Nat.mul_comm] at this
  exact this.symm
theorem made_flat (z : Array Value) (n : Nat) : (madeCells z (n * z.size)).toList = (List.replicate n z.toList).flatten := by
  apply List.ext_getElem?
  intro k
  by_cases hk : k < n * z.size
  · have hz : 0 < z.size := by
      rcases Nat.eq_zero_or_pos z.size with h | h
      · rw [h] at hk; omega
      · exact h
    have hm := Nat.mod_lt k hz
    rw [rep_flat _ _ _ (by simpa using hk)]
    simp only [madeCells, Array.toList_map, List.getElem?_map, Array.getElem?_toList, Array.length_toList]
    have : (Array.range (n * z.size))[k]? = some k := by simp [hk]
    rw [this]
    simp [hm]
  · rw [List.getElem?_eq_none (by simp [madeCells]; omega), List.getElem?_eq_none]
    rw [(uni_rep n z.toList).flat_len]
    simp
    omega
theorem rep_R2 {s : Sit} {z : List C} {us : List Value} (h : R2 (CR s) z us) (n : Nat) : R2 (CR s) (List.replicate n z).flatten (List.replicate n us).flatten := by
  induction n with
  | zero => exact R2.nil
  | succ n ih => rw [List.replicate_succ, List.replicate_succ, List.flatten_cons, List.flatten_cons]; exact h.append ih
def fillE (sz : Nat) (es : List (List C)) : List (Nat × V) → Option (List (List C))
  | [] => some es
  | (i, v) :: r => if v.cells.length = sz then if i < es.length then fillE sz (es.set i v.cells) r else none else none
theorem fillE_ok (sz : Nat) : ∀ (parts : List (Nat × V)) (es es' : List (List C)), fillE sz es parts = some es' → Uni sz es → Uni sz es' ∧ es'.length = es.length ∧ fillC (fun i => some (i * sz, sz)) es.flatten parts = some es'.flatten
  | [], es, es', h, hu => by simp only [fillE] at h; cases h; exact ⟨hu, rfl, rfl⟩
  | (i, v) :: r, es, es', h, hu => by
    simp only [fillE] at h
    split at h
    · rename_i hv
      split at h
      · rename_i hi
        have hu' : Uni sz (es.set i v.cells) := fun y hy => by
          rcases List.mem_or_eq_of_mem_set hy with h | h
          · exact hu y h
          · rw [h]; exact hv
        obtain ⟨h1, h2, h3⟩ := fillE_ok sz r _ es' h hu'
        refine ⟨h1, by rw [h2, List.length_set], ?_⟩
        simp only [fillC, hv, if_true]
        have hle : i * sz + sz ≤ es.flatten.length := by
          rw [hu.flat_len]
          have : (i + 1) * sz ≤ es.length * sz := Nat.mul_le_mul_right _ hi
          rw [Nat.add_mul] at this
          omega
        rw [if_pos hle, ← h3, flat_set hu (List.getElem?_eq_getElem hi) hv]
      · cases h
    · cases h
def bsV (P : Program) (H : List Blk) (t len : Nat) (parts : List (Nat × V)) : Option (Prop × V × List Blk) := match P.underlying t with
  | some (.slice e) => match szOf P e, zc P e with
    | some sz, some z => if z.length = sz then if 0 < sz then if len * sz ≤ 16777216 then match fillE sz (List.replicate len z) parts with
      | some es => some (True, .c (.own H.length 0 0 len), H ++ [⟨e, sz, 0, es⟩])
      | none => none else none else none else none
    | _, _ => none
  | _ => none
theorem bsV_ok {P : Program} {s : Sit} (hs : SI s) {t len : Nat} {parts : List (Nat × V)} {parts' : Array (Nat × Value)} {p : Prop} {v : V} {H' : List Blk} (h : bsV P s.H t len parts = some (p, v, H')) (hp : R2 (fun x y => x.1 = y.1 ∧ VR1 s x.2 y.2) parts parts'.toList) :
    Loud P s v H' true (Instr.buildSlice t len parts') := by
  unfold bsV at h
  split at h
  · rename_i e ht
    split at h
    · rename_i sz z hsz hzc
      obtain ⟨i, hi, hi2⟩ := szOf_spec hsz
      obtain ⟨i', zv, hi', hz, hzr⟩ := zc_spec hzc
      rw [hi] at hi'
      cases hi'
      split at h
      · rename_i hzl
        have hzs : zv.cells.size = sz := by rw [← hzl]; have := (hzr s).1; simpa using this.symm
        split at h
        · rename_i hsz0
          split at h
          · rename_i hsm
            split at h
            · rename_i es hes
              cases h
              obtain ⟨h1, h2, h3⟩ := fillE_ok sz parts _ es hes (hzl ▸ uni_rep len z)
              rw [List.length_replicate] at h2
              obtain ⟨us, f1, f2⟩ := fill_ok (fun i => some (i * sz, sz)) parts parts'.toList _ _ (madeCells zv.cells (len * zv.cells.size)) h3 (by rw [made_flat]; exact rep_R2 (hzr s) len) hp
              have husz : us.size = len * sz := by have := f2.1; rw [h1.flat_len, h2] at this; simpa using this.symm
              obtain ⟨gw, g1, g2⟩ := new_row (t := e) (cells := us) (us := us.toList) (cap := len) hs (.inl rfl) h1 f2 husz (by omega) (by simp only [maxLen]; have : len * 1 ≤ len * sz := Nat.mul_le_mul_left _ hsz0; omega) (List.take_of_length_le (by rw [h2]; simp; omega))
              refine ⟨_, .slice (some ⟨s.W.heap.size, 0, none⟩) es.length len, g1, rfl, (by rw [← h2]; rw [h2] at g2 ⊢; exact g2), fun _ => gw, ?_⟩
              rw [hzs] at f1
              by_cases hl0 : len = 0
              · subst hl0
                have hpe : parts'.toList = [] := by
                  cases parts with
                  | nil => exact hp.nil_left
                  | cons x r =>
                    obtain ⟨i', v'⟩ := x
                    simp only [fillE, List.replicate_zero, List.length_nil, Nat.not_lt_zero, if_false] at hes
                    split at hes <;> cases hes
                have hue : us = #[] := by
                  rw [hpe] at f1
                  simp only [Instr.fill] at f1
                  cases f1
                  simp [madeCells, Array.range_zero']
                subst hue
                simp [Instr.buildSlice, run_underlying ht, sizeOf, typeInfo, hi, hi2, hpe, Instr.fill, newRow, h2, Array.range_zero']
              · have hpos : ¬ len * i.size = 0 := by rw [hi2]; exact Nat.mul_ne_zero hl0 (by omega)
                have hfil : Instr.fill (fun j => some (j * i.size, i.size)) ((Array.range (len * i.size)).map (zv.cells[· % zv.cells.size]!)) parts'.toList = some us := by rw [hi2]; exact f1
                have hnb : ¬ len * i.size > 2 ^ 24 := by rw [hi2]; omega
                simp only [Instr.buildSlice, Sem.run_bind, run_underlying ht, Result.andThen_ok, run_sizeOf hi, if_neg hpos, if_neg hnb]
                simp [zeroValue, typeInfo, hi, hz, hfil, newRow, h2]
            · cases h
          · cases h
        · cases h
      · cases h
    · cases h
  · cases h
def mkV (P : Program) (H : List Blk) (t : Nat) (l c : V) : Option (Prop × V × List Blk) := match P.underlying t, l, c with
  | some (.slice e), (.c (.v (.int _ n))), (.c (.v (.int _ m))) => match szOf P e, zc P e, byOf P e with
    | some sz, some z, some bytes => if z.length = sz then some ((0 ≤ n ∧ n ≤ m) ∧ (bytes : Int) * m ≤ 140737488355328 ∧ m ≤ 9223372036854775807, .c (.own H.length 0 0 n.toNat), H ++ [⟨e, sz, 0, List.replicate n.toNat z⟩]) else none
    | _, _, _ => none
  | _, _, _ => none
theorem mkV_ok {P : Program} {s : Sit} (hs : SI s) {t : Nat} {l c : V} {a b : Value} {p : Prop} {v : V} {H' : List Blk} (h : mkV P s.H t l c = some (p, v, H')) (hp : p) (ha : VR s l a) (hb : VR s c b) : Loud P s v H' true (Instr.makeSlice t a b) := by
  unfold mkV at h
  split at h
  · rename_i e k n k' m ht
    rw [vr_v ha, vr_v hb]
    split at h
    · rename_i sz z bytes hsz hzc hby
      obtain ⟨i, hi, hi2⟩ := szOf_spec hsz
      obtain ⟨i', zv, hi', hz, hzr⟩ := zc_spec hzc
      rw [hi] at hi'
      cases hi'
      obtain ⟨i', hi', hby2⟩ := byOf_spec hby
      rw [hi] at hi'
      cases hi'
      split at h
      · rename_i hzl
        cases h
        obtain ⟨⟨h0, hnm⟩, hbb, h63⟩ := hp
        have hzs : zv.cells.size = sz := by rw [← hzl]; have := (hzr s).1; simpa using this.symm
        have hr := run_make (P := P) s.W t e i zv ht hi hz k k' n m h0 hnm (by rw [hby2]; omega) h63
        have huni := hzl ▸ uni_rep n.toNat z
        obtain ⟨gw, g1, g2⟩ := new_row (t := e) (cells := madeCells zv.cells (m.toNat * i.size)) (us := (List.replicate n.toNat zv.cells.toList).flatten) (cap := m.toNat) hs (.inl rfl) huni (rep_R2 (hzr s) n.toNat) (by rw [size_madeCells, hi2]) (by rw [List.length_replicate]; omega) (by simp only [maxLen]; omega) (by
          rw [hi2, ← hzs, made_flat, List.length_replicate]
          have hu := uni_rep m.toNat zv.cells.toList
          rw [Array.length_toList] at hu
          rw [← hu.flat_take, List.take_replicate]
          congr 2
          omega)
        rw [List.length_replicate] at g1 g2
        exact ⟨_, _, g1, rfl, g2, fun _ => gw, hr⟩
      · cases h
    · cases h
  · cases h
def cpV (P : Program) (H : List Blk) (t : TypeId) (dst src : V) : Option (Prop × V × List Blk) := match P.underlying t, dst with
  | some (.slice e), .c (.own b ver off n) => match szOf P e, srcEs H src, H[b]? with
    | some sz, some news, some blk => if ver = blk.ver then if blk.sz = sz then
        some (∀ x ∈ news, x.length = sz, VI .i64 (min news.length n : Nat), H.set b ⟨blk.t, sz, ver, blk.es.take off ++ news.take (min news.length n) ++ blk.es.drop (off + min news.length n)⟩) else none else none
    | _, _, _ => none
  | _, _ => none
theorem cpV_ok {P : Program} {s : Sit} (hs : SI s) {t t' : TypeId} {dst src : V} {a b : Value} {p : Prop} {v : V} {H' : List Blk} (h : cpV P s.H t dst src = some (p, v, H')) (hp : p) (ha : VR s dst a) (hb : VR s src b) (ty : TypeId) : Loud P s v H' false (Builtin.copy_ #[t, t'] ty #[a, b]) := by
  unfold cpV at h
  split at h
  · rename_i e bb ver off n ht
    split at h
    · rename_i sz news blk hsz hnews hblk
      split at h
      · rename_i hv
        split at h
        · rename_i hbsz
          cases h
          obtain ⟨i, hi, hi2⟩ := szOf_spec hsz
          have hun : Uni sz news := hp
          obtain ⟨us, hr, hu⟩ := src_ok hs hnews hb
          have hlen : us.length = news.length * sz := by rw [← hr.1, hun.flat_len]
          obtain ⟨_, blk', rv, g1, g2, g3, g4⟩ := ha
          rw [hblk] at g1
          cases g1
          obtain ⟨q1, q2⟩ := g4 hv
          have hbk := hs.blk bb blk rv hblk g2
          have hH := (List.getElem?_eq_some_iff.1 hblk).1
          have hlo : (Builtin.lenOf b).run P s.W = .ok news.length s.W := by
            rcases hu with ⟨a, c, rfl, _⟩ | ⟨rfl, rfl⟩ <;> simp [Builtin.lenOf]
          rcases q2 with ⟨⟨A0, rfl⟩, ⟨A, rfl⟩, rfl, rfl⟩ | ⟨g, L, cap, A, c, hcap, rfl, rfl, hoc, hcc, hmc, hbl, hA⟩
          · refine ⟨s, goInt 0, Ext.refl hs, ?_, ⟨by simp [goInt], rfl⟩, (fun h => by cases h), ?_⟩
            · simp only [Nat.min_zero, List.take_zero, List.append_nil, Nat.add_zero, List.nil_append, List.drop_zero]
              apply List.ext_getElem?
              intro k
              by_cases hk : bb = k
              · subst hk
                rw [List.getElem?_set_self hH, hblk]
                cases blk
                simp only at hv hbsz
                rw [hv, hbsz]
              · rw [List.getElem?_set_ne hk]
            · have hf : (Builtin.firstCells sz 0 b).run P s.W = .ok #[] s.W := by
                rcases hu with ⟨a, c, rfl, _⟩ | ⟨rfl, rfl⟩ <;> simp [Builtin.firstCells, loadCells, loadCellsFrom]
              cases A <;> simp [Builtin.copy_, run_underlying ht, hlo, run_sizeOf hi, hi2, hf, storeCells]
          · rcases hbk.at_ (by intro k e; cases e) with ⟨hz0, A1, e1⟩ | ⟨xs, ho, hxr⟩
            · injection e1 with e1 e2 e3
              omega
            rcases ho.2 with ⟨hn0, _⟩ | ⟨g', cap', cur, hrv, _, hg, hnc, hcm, hcs, htake⟩
            · cases hn0
            injection hrv with x1 x2 x3
            injection x1 with x1
            injection x1 with x1
            subst x1; subst x2; subst x3
            subst hbsz
            have hxsl := ho.1
            generalize hk : min news.length n = k
            have hkn : k ≤ n := by omega
            have hkl : k ≤ news.length := by omega
            let cs := us.take (k * blk.sz)
            have hcl : cs.length = k * blk.sz := by
              simp only [cs, List.length_take, hlen]
              have : k * blk.sz ≤ news.length * blk.sz := Nat.mul_le_mul_right _ hkl
              omega
            have hcr : R2 (CR s) (news.take k).flatten cs := by rw [hun.flat_take]; exact hr.take _
            have hA' : k = 0 ∨ A = ⟨g, off * blk.sz, none⟩ := by
              rcases hA with h | ⟨_, h⟩
              · exact .inr h
              · exact .inl (by omega)
            have hfit : off * blk.sz + k * blk.sz ≤ blk.es.length * blk.sz := by rw [← Nat.add_mul]; exact Nat.mul_le_mul_right _ (by omega)
            have hcap2 : blk.es.length * blk.sz ≤ cap * blk.sz := Nat.mul_le_mul_right _ hnc
            have hf : (Builtin.firstCells blk.sz k b).run P s.W = .ok cs.toArray s.W := by
              rcases hu with ⟨a, c, rfl, hc⟩ | ⟨rfl, rfl⟩
              · exact run_firstCells_some s.W blk.sz k a _ _ cs hcl (fun j y hj => hc j y (by
                  simp only [cs, List.getElem?_take] at hj
                  split at hj
                  · exact hj
                  · cases hj))
              · have : k = 0 := by simp at hkl; omega
                subst this
                simp [Builtin.firstCells, cs]
            let W' := s.W.setRow g (cur.toList.take (off * blk.sz) ++ cs ++ cur.toList.drop (off * blk.sz + cs.length)).toArray
            have hst : (storeCells A cs).run P s.W = .ok () W' := by
              rcases hA' with hk0 | rfl
              · have : cs = [] := List.eq_nil_of_length_eq_zero (by rw [hcl, hk0]; omega)
                simp only [W', this, storeCells, List.append_nil, List.length_nil, Nat.add_zero, List.take_append_drop, Array.toArray_toList]
                rw [setRow_self s.W g cur blk.t (0, 0) hg]
                rfl
              · have := run_storeCells_at P g (off * blk.sz) blk.t cs 0 cur s.W hg (by rw [hcl]; omega) (hcr.all (fun _ _ => CR.one))
                simpa [W'] using this
            have hes' : (blk.es.take off ++ news.take k ++ blk.es.drop (off + k)).length = blk.es.length := by
              simp only [List.length_append, List.length_take, List.length_drop]
              omega
            have huni' : Uni blk.sz (blk.es.take off ++ news.take k ++ blk.es.drop (off + k)) := ((hbk.uni.take _).append (hun.take _)).append (hbk.uni.drop _)
            have hgr : s.W.grownBy W' (ob (.slice (some ⟨g, 0, none⟩) blk.es.length cap)) := by
              have : ob (.slice (some ⟨g, 0, none⟩) blk.es.length cap) = some g := by
                cases cap with
                | zero => omega
                | succ c => rfl
              rw [this]
              exact ⟨rfl, rfl, rfl, by simp [W', World.setRow], fun k _ hk => setRow_other _ g k _ (fun e => hk (by rw [e]))⟩
            have hρ : s.ρ.set bb (.slice (some ⟨g, 0, none⟩) blk.es.length cap) = s.ρ := by
              apply List.ext_getElem?
              intro k
              by_cases hk : bb = k
              · subst hk; rw [List.getElem?_set_self (List.getElem?_eq_some_iff.1 g2).1, g2]
              · rw [List.getElem?_set_ne hk]
            have hext := Ext.set (blk' := ⟨blk.t, blk.sz, ver, blk.es.take off ++ news.take k ++ blk.es.drop (off + k)⟩) (rv' := .slice (some ⟨g, 0, none⟩) blk.es.length cap) hs hblk g2 hgr (fun _ h => .inl h) (by simp only; omega) (fun _ => ⟨rfl, hes', rfl⟩)
              (fun e0 => blk_row huni' (.inr ⟨xs.take (off * blk.sz) ++ cs ++ xs.drop (off * blk.sz + cs.length), ⟨by
                simp only [List.length_append, List.length_take, List.length_drop, hes']
                omega, .inr ⟨g, cap, _, by rw [hes'], Nat.zero_le _, setRow_heap _ _ _ _ _ _ hg, by rw [hes']; exact hnc, hcm, by
                simp only [List.size_toArray, List.length_append, List.length_take, List.length_drop, Array.length_toList]
                omega, by
                simp only [hes']
                rw [← htake]
                apply List.ext_getElem?
                intro k
                simp only [List.getElem?_append, List.getElem?_take, List.length_append, List.length_take, List.getElem?_drop, Array.length_toList]
                grind⟩⟩, by
                show R2 (CR _) (blk.es.take off ++ news.take k ++ blk.es.drop (off + k)).flatten _
                rw [List.flatten_append, List.flatten_append, hbk.uni.flat_take, hbk.uni.flat_drop]
                have := (hxr.take (off * blk.sz)).append hcr |>.append (hxr.drop (off * blk.sz + cs.length))
                rw [hcl] at this ⊢
                rw [Nat.add_mul]
                exact this.mono (fun _ _ => CR.ext hs e0)⟩))
            rw [hρ] at hext
            refine ⟨_, goInt k, hext, rfl, ⟨rfl, rfl⟩, (fun h => by cases h), ?_⟩
            have hmin : Nat.min news.length n = k := hk
            simp [Builtin.copy_, run_underlying ht, hlo, run_sizeOf hi, hi2, hmin, hf, hst, W']
        · cases h
      · cases h
    · cases h
  · cases h
/-- what an operation yields that makes or writes memory. -/
def ld (P : Program) (H : List Blk) (tm : TM) : Op → Option (Prop × V × List Blk)
  | .box t x => match ev tm x with
    | some (.c y) => some (True, .c (.ptr H.length 0 0 0), H ++ [⟨t, 1, 0, [[y]]⟩])
    | some (.agg cs) => some (True, .c (.ptr H.length 0 0 0), H ++ [⟨t, cs.length, 0, [cs]⟩])
    | _ => none
  | .alloc t => match zc P t with
    | some z => some (True, .c (.ptr H.length 0 0 0), H ++ [⟨t, z.length, 0, [z]⟩])
    | none => none
  | .store t a x => match ev tm a, ev tm x, lay P t with
    | some (.c p), some (.c y), some (_, n) => if n = 1 then match stC H p [y] with
      | some H' => some (True, .tup [], H')
      | none => none else none
    | some (.c p), some (.agg cs), some (_, n) => if n = cs.length then match stC H p cs with
      | some H' => some (True, .tup [], H')
      | none => none else none
    | _, _, _ => none
  | .buildSlice t len ps => match evp tm ps.toList with
    | some l => if noTup l then bsV P H t len l else none
    | none => none
  | .makeSlice t l c => match ev tm l, ev tm c with
    | some x, some y => mkV P H t x y
    | _, _ => none
  | .call ⟨.builtin .append, args, ts⟩ => match args.toList, ts.toList with
    | [x, y], [t, t'] => if t = t' then match ev tm x, ev tm y with
      | some u, some v => apV P H t u v
      | _, _ => none else none
    | _, _ => none
  | .call ⟨.builtin .copy, args, ts⟩ => match args.toList, ts.toList with
    | [x, y], [t, _] => match ev tm x, ev tm y with
      | some u, some v => cpV P H t u v
      | _, _ => none
    | _, _ => none
  | .makeMap t none => mkM P H t
  | .lookup t x y false => match ev tm x, ev tm y with
    | some u, some v => lkM P H t u v
    | _, _ => none
  | .mapUpdate t x y z => match ev tm x, ev tm y, ev tm z with
    | some u, some v, some w => upM P H t u v w
    | _, _, _ => none
  | _ => none
/-- makes memory, and writes none that was there. -/
def isNew : Op → Bool
  | .box _ _ => true
  | .alloc _ => true
  | .buildSlice _ _ _ => true
  | .makeSlice _ _ _ => true
  | _ => false
def LoudN (P : Program) (s : Sit) (v : V) (H' : List Blk) (nw : Bool) (x : Sem Next) : Prop := ∃ (s' : Sit) (u : Value), Ext s s' ∧ s'.H = H' ∧ VR s' v u ∧ (nw = true → s.W.grownBy s'.W none) ∧ (x.run P s.W = .ok (Next.value u) s'.W ∨ (x.run P s.W = .ok Next.skip s'.W ∧ u = undef))
theorem Loud.next {P : Program} {s : Sit} {v : V} {H' : List Blk} {x : Sem Value} {nw : Bool} (h : Loud P s v H' nw x) : LoudN P s v H' nw (x >>= fun u => Pure.pure (Next.value u)) := by
  obtain ⟨s', u, h1, h2, h3, h5, h4⟩ := h
  exact ⟨s', u, h1, h2, h3, h5, .inl (by rw [Sem.run_bind, h4]; rfl)⟩
theorem ld_ok {P : Program} {s : Sit} {N : Nat} {a : Act} {tm : TM} (hg : Good s N a tm) {o : Oper} {p : Prop} {v : V} {H' : List Blk} (h : ld P s.H tm o.op = some (p, v, H')) (hp : p) : LoudN P s v H' (isNew o.op) (execOp a.eval o) := by
  obtain ⟨dst, op, type, pos, after, guard⟩ := o
  simp only at h
  unfold ld at h
  split at h
  · rename_i t x
    split at h
    · rename_i y hy
      cases h
      exact (box_ok hg.si (x := .c y) ((ev_ok hg hy).to1 (fun _ e => by cases e))).next
    · rename_i cs hy
      cases h
      exact (box_ok hg.si (x := .agg cs) ((ev_ok hg hy).to1 (fun _ e => by cases e))).next
    · cases h
  · rename_i t
    split at h
    · rename_i z hz; cases h; exact (alloc_ok hg.si hz).next
    · cases h
  · rename_i t x y
    have key : ∀ (c : C) (w : V) (ag : Bool) (n : Nat), ev tm x = some (.c c) → ev tm y = some w → (∀ vs, w ≠ .tup vs) → lay P t = some (ag, n) → n = w.cells.length → ∀ H', stC s.H c w.cells = some H' → LoudN P s (.tup []) H' false (execOp a.eval ⟨dst, .store t x y, type, pos, after, guard⟩) := by
      intro c w ag n e1 e2 e3 e4 e5 H' e6
      subst e5
      obtain ⟨s', q1, q2, q3⟩ := store_ok hg.si e4 e6 (ev_ok hg e1) ((ev_ok hg e2).to1 e3)
      exact ⟨s', undef, q1, q2, ⟨[], rfl, R2.nil⟩, (fun h => by cases h), .inr ⟨by simp [execOp, q3], rfl⟩⟩
    split at h
    · rename_i c y' ag n e1 e2 e3
      split at h
      · rename_i hn
        split at h
        · rename_i H'' hst; cases h; exact key c (.c y') ag n e1 e2 (fun _ e => by cases e) e3 hn _ hst
        · cases h
      · cases h
    · rename_i c cs ag n e1 e2 e3
      split at h
      · rename_i hn
        split at h
        · rename_i H'' hst; cases h; exact key c (.agg cs) ag n e1 e2 (fun _ e => by cases e) e3 hn _ hst
        · cases h
      · cases h
    · cases h
  · rename_i t len ps
    split at h
    · rename_i l hl
      split at h
      · rename_i hn
        refine (bsV_ok hg.si h ?_).next
        have := evp_ok hg _ _ hl hn
        simpa using this
      · cases h
    · cases h
  · rename_i t l c
    split at h
    · rename_i x y e1 e2; exact (mkV_ok hg.si h hp (ev_ok hg e1) (ev_ok hg e2)).next
    · cases h
  · rename_i args ts
    split at h
    · rename_i x y t t' ha ht
      split at h
      · rename_i htt
        subst htt
        split at h
        · rename_i u v' e1 e2
          have h1 := (apV_ok (a := a.eval x) (b := a.eval y) hg.si h hp (ev_ok hg e1) (ev_ok hg e2) type).next
          have hargs : args = #[x, y] := by apply Array.ext'; rw [ha]
          have hts : ts = #[t, t] := by apply Array.ext'; rw [ht]
          subst hargs; subst hts
          obtain ⟨s', u', g1, g2, g3, g5, g4⟩ := h1
          exact ⟨s', u', g1, g2, g3, g5, by simpa [execOp, resolve, invoke, builtin] using g4⟩
        · cases h
      · cases h
    · cases h
  · rename_i args ts
    split at h
    · rename_i x y t t' ha ht
      split at h
      · rename_i u v' e1 e2
        have h1 := (cpV_ok (t' := t') (a := a.eval x) (b := a.eval y) hg.si h hp (ev_ok hg e1) (ev_ok hg e2) type).next
        have hargs : args = #[x, y] := by apply Array.ext'; rw [ha]
        have hts : ts = #[t, t'] := by apply Array.ext'; rw [ht]
        subst hargs; subst hts
        obtain ⟨s', u', g1, g2, g3, g5, g4⟩ := h1
        exact ⟨s', u', g1, g2, g3, g5, by simpa [execOp, resolve, invoke, builtin] using g4⟩
      · cases h
    · cases h
  · rename_i t
    exact (mkM_ok hg.si h).next
  · rename_i t x y
    split at h
    · rename_i u v' e1 e2; exact (lkM_ok hg.si h (ev_ok hg e1) (ev_ok hg e2)).next
    · cases h
  · rename_i t x y z
    split at h
    · rename_i u v' w e1 e2 e3
      obtain ⟨s', q1, q2, q3, q4⟩ := upM_ok hg.si h (ev_ok hg e1) (ev_ok hg e2) (ev_ok hg e3)
      subst q3
      exact ⟨s', undef, q1, q2, ⟨[], rfl, R2.nil⟩, (fun h => by cases h), .inr ⟨by simp [execOp, q4], rfl⟩⟩
    · cases h
  · cases h
end Go.En
