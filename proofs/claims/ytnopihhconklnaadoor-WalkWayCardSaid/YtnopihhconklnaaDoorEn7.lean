import Derived.Test.YtnopihhconklnaaDoorEn6
/- append, copy, literals of rows, make. -/
namespace Go.En
open Go Go.RowKit
set_option linter.unusedSimpArgs false
set_option linter.unusedVariables false

def srcEs (H : List Blk) : V → Option (List (List C))
  | .c (.row es) => some es
  | .c (.own b ver off m) => match H[b]? with
    | some blk => if ver = blk.ver then some ((blk.es.drop off).take m) else none
    | none => none
  | .c .e0 => some []
  | .c (.v (.slice none 0 0)) => some []
  | _ => none
theorem src_ok {s : Sit} (hs : SI s) {x : V} {u : Value} {news : List (List C)} (h : srcEs s.H x = some news) (hx : VR s x u) :
    ∃ us, R2 (CR s) news.flatten us ∧ ((∃ a c, u = .slice (some a) news.length c ∧ ∀ j y, us[j]? = some y → s.W.cell? (a.add j) = some y) ∨ (u = .slice none 0 0 ∧ news = [])) := by
  unfold srcEs at h
  split at h
  · rename_i es
    cases h
    cases (show DR s.W s.F (.row news) u from hx) with
    | nil => exact ⟨[], R2.nil, .inr ⟨rfl, rfl⟩⟩
    | @row a sz n c _ w hu ha hc hd hn hcap =>
      subst hn
      refine ⟨(List.range news.flatten.length).map w, ⟨by simp, fun k d y h1 h2 => ?_⟩, .inl ⟨a, c, rfl, fun j y hj => ?_⟩⟩
      · have hk := (List.getElem?_eq_some_iff.1 h1).1
        rw [List.getElem?_map, List.getElem?_range hk] at h2
        cases h2
        exact DR.cr (hd k d h1)
      · rw [List.getElem?_map] at hj
        by_cases hk : j < news.flatten.length
        · rw [List.getElem?_range hk] at hj
          cases hj
          exact hc j hk
        · rw [List.getElem?_eq_none (by rw [List.length_range]; omega)] at hj
          cases hj
  · rename_i b ver off m
    split at h
    · rename_i blk hb
      split at h
      · rename_i hv
        cases h
        obtain ⟨_, blk', rv, h1, h2, h3, h4⟩ := hx
        rw [hb] at h1
        cases h1
        obtain ⟨q1, q2⟩ := h4 hv
        have hl : ((blk.es.drop off).take m).length = m := by rw [List.length_take, List.length_drop]; omega
        have hbk := hs.blk b blk rv hb h2
        have hfl : ((blk.es.drop off).take m).flatten = (blk.es.flatten.drop (off * blk.sz)).take (m * blk.sz) := by rw [(hbk.uni.drop _).flat_take, hbk.uni.flat_drop]
        rcases q2 with ⟨⟨A0, rfl⟩, ⟨A, rfl⟩, rfl, rfl⟩ | ⟨g, L, cap, a, c, hcap, rfl, rfl, hoc, hcc, hmc, hbl, hA⟩
        · refine ⟨[], by simp; exact R2.nil, ?_⟩
          cases A with
          | none => exact .inr ⟨rfl, by simp⟩
          | some a => exact .inl ⟨a, 0, by simp, fun j y hj => by simp at hj⟩
        · rw [hl, hfl]
          rcases hbk.at_ (by intro k e; cases e) with ⟨hz, A1, e1⟩ | ⟨xs, ho, hr⟩
          · injection e1 with e1 e2 e3
            omega
          · refine ⟨(xs.drop (off * blk.sz)).take (m * blk.sz), (hr.drop _).take _, .inl ⟨a, c, rfl, fun j y hj => ?_⟩⟩
            rw [List.getElem?_take] at hj
            split at hj
            · rename_i hjm
              have hA' : a = ⟨g, off * blk.sz, none⟩ := by
                rcases hA with h | ⟨_, h⟩
                · exact h
                · have : m = 0 := by omega
                  subst this
                  omega
              subst hA'
              rw [List.getElem?_drop] at hj
              have := ho.cells (g := g) rfl _ _ hj
              rw [add_lit] at this ⊢
              simpa using this
            · cases hj
      · cases h
    · cases h
  · cases h
    obtain ⟨A, rfl⟩ := hx
    refine ⟨[], R2.nil, ?_⟩
    cases A with
    | none => exact .inr ⟨rfl, rfl⟩
    | some a => exact .inl ⟨a, 0, rfl, fun j y hj => by simp at hj⟩
  · cases h
    rw [vr_v hx]
    exact ⟨[], R2.nil, .inr ⟨rfl, rfl⟩⟩
  · cases h
/-- a row's value, and what it has. -/
def RowIs (s : Sit) (t sz : Nat) (rv : Value) (es : List (List C)) : Prop := (es = [] ∧ ∃ A, rv = .slice A 0 0) ∨ ∃ xs, s.W.ownsRow 0 t sz rv es.length xs ∧ R2 (CR s) es.flatten xs
theorem RowIs.own {s : Sit} {t sz ver : Nat} {rv : Value} {es : List (List C)} (h : RowIs s t sz rv es) : OwnAt ⟨t, sz, ver, es⟩ rv 0 es.length rv := by
  rcases h with ⟨rfl, A, rfl⟩ | ⟨xs, ho, hr⟩
  · exact ⟨by simp, .inl ⟨⟨A, rfl⟩, ⟨A, rfl⟩, rfl, rfl⟩⟩
  · refine ⟨by simp, ?_⟩
    rcases ho.2 with ⟨rfl, hn⟩ | ⟨g, cap, cur, rfl, _, hg, hnc, hcm, hcs, ht⟩
    · exact .inl ⟨⟨none, rfl⟩, ⟨none, rfl⟩, hn, rfl⟩
    · cases cap with
      | zero =>
        have : es.length = 0 := by omega
        exact .inl ⟨⟨_, by rw [this]⟩, ⟨_, by rw [this]⟩, this, rfl⟩
      | succ cap => exact .inr ⟨g, es.length, cap + 1, ⟨g, 0, none⟩, cap + 1, by omega, rfl, rfl, by omega, by omega, hnc, rfl, .inl (by simp)⟩
theorem RowIs.slice {s : Sit} {t sz : Nat} {rv : Value} {es : List (List C)} (h : RowIs s t sz rv es) : ∃ A c, rv = .slice A es.length c := by
  rcases h with ⟨rfl, A, rfl⟩ | ⟨xs, ho, hr⟩
  · exact ⟨A, 0, rfl⟩
  · rcases ho.2 with ⟨rfl, hn⟩ | ⟨g, cap, cur, rfl, _⟩
    · exact ⟨none, 0, by rw [hn]⟩
    · exact ⟨_, _, rfl⟩
/-- append, on a row of one's own or none. -/
theorem run_app {P : Program} {s : Sit} (hs : SI s) {t e ty sz bytes : Nat} {i : TypeInfo} {z : Value} (ht : P.underlying t = some (.slice e)) (hi : P.info? e = some i) (hz : i.zero = some z) (hsize : i.size = sz) (hby : i.bytes = bytes) (hzs : z.cells.size = sz) (hsz : 0 < sz)
    {es news : List (List C)} {rv u : Value} (hrow : RowIs s e sz rv es) (hus : Uni sz es) (hun : Uni sz news) {us : List Value} (hr : R2 (CR s) news.flatten us)
    (hu : (∃ a c, u = .slice (some a) news.length c ∧ ∀ j y, us[j]? = some y → s.W.cell? (a.add j) = some y) ∨ (u = .slice none 0 0 ∧ news = [])) (hb : (es.length + news.length) * bytes ≤ 140737488355328) (hb0 : 0 < bytes) :
    ∃ W' rv', (Builtin.append_ #[t, t] ty #[rv, u]).run P s.W = .ok rv' W' ∧ s.W.grownBy W' (ob rv) ∧ (∀ g, ob rv' = some g → ob rv = some g ∨ s.W.heap.size ≤ g) ∧
      ((es ++ news = [] ∧ ∃ A, rv' = .slice A 0 0) ∨ ∃ xs, W'.ownsRow 0 e sz rv' (es ++ news).length xs ∧ R2 (CR s) (es ++ news).flatten xs) := by
  have hlen : us.length = news.length * sz := by rw [← hr.1, hun.flat_len]
  have h63 : es.length + news.length ≤ maxLen := by
    have : (es.length + news.length) * 1 ≤ (es.length + news.length) * bytes := Nat.mul_le_mul_left _ hb0
    simp only [maxLen]
    omega
  have one : ∀ y ∈ us, y.oneCell' = true := hr.all (fun _ _ => CR.one)
  have grefl : ∀ r, s.W.grownBy s.W r := fun r => ⟨rfl, rfl, rfl, Nat.le_refl _, fun _ _ _ => rfl⟩
  rcases hrow with ⟨rfl, A, rfl⟩ | ⟨xs, ho, hxr⟩
  · -- nothing is there
    simp only [List.nil_append]
    by_cases hm : news = []
    · subst hm
      refine ⟨s.W, .slice A 0 0, ?_, grefl _, fun g h => .inl h, .inl ⟨rfl, A, rfl⟩⟩
      have hus0 : us = [] := hr.nil_left
      subst hus0
      have hf : ∀ W, (Builtin.firstCells sz 0 u).run P W = .ok #[] W := by
        intro W
        rcases hu with ⟨a, c, rfl, _⟩ | ⟨rfl, _⟩ <;> simp [Builtin.firstCells, loadCells, loadCellsFrom]
      have hl : (Builtin.lenOf u).run P s.W = .ok 0 s.W := by
        rcases hu with ⟨a, c, rfl, _⟩ | ⟨rfl, _⟩ <;> simp [Builtin.lenOf]
      cases A with
      | none => simp [Builtin.append_, run_underlying ht, sizeOf, typeInfo, hi, hl, hsize, hf]
      | some a => simp [Builtin.append_, run_underlying ht, sizeOf, typeInfo, hi, hl, hsize, hf, storeCells]
    · have hu' : ∃ a c, u = .slice (some a) news.length c ∧ ∀ j y, us[j]? = some y → s.W.cell? (a.add j) = some y := by
        rcases hu with h | ⟨_, h0⟩
        · exact h
        · exact absurd h0 hm
      obtain ⟨a, c, rfl, hc⟩ := hu'
      have hpos : 0 < news.length := List.length_pos_iff.2 hm
      subst hsize
      subst hby
      simp only [List.length_nil, Nat.zero_add] at hb h63
      have hcm := grownCap_le_maxLen s.W news.length 0 e h63
      have hge := grownCap_ge s.W news.length 0 e
      refine ⟨s.W.drew.alloc (.cells (us.toArray ++ Builtin.zeroCells z.cells (grownCap s.W news.length 0 e - news.length)) e), .slice (some ⟨s.W.heap.size, 0, none⟩) news.length (grownCap s.W news.length 0 e), ?_,
        ⟨rfl, rfl, rfl, by simp, fun k hk _ => heap_alloc_old s.W.drew _ hk⟩, fun g h => .inr (by rw [← ob_new h]; exact Nat.le_refl _), .inr ⟨us, ⟨hlen, .inr ⟨s.W.heap.size, _, _, rfl, Nat.zero_le _, heap_alloc_new s.W.drew _, hge, hcm, ?_, ?_⟩⟩, hr⟩⟩
      · have hfit : Builtin.nextslicecap news.length 0 * i.bytes ≤ 281474976710656 := growslice_fits hpos hb
        cases A with
        | none =>
          rw [nextslicecap_zero hpos] at hfit
          exact run_append_nil (P := P) s.W t ty e i z ht hi hz a news.length c us hlen hc hpos (by simp only [maxLen] at h63; omega) hfit
        | some b =>
          have := run_append_grow (P := P) s.W t ty e i z ht hi hz b 0 0 [] (by simp) (by simp) a news.length c us hlen hc (by omega) (by simp only [maxLen] at h63; omega) (by simpa using hfit)
          simpa using this
      · simp only [Array.size_append, List.size_toArray, size_zeroCells, hzs, hlen, ← Nat.add_mul]
        congr 1
        omega
      · simp only [Array.toList_append]
        rw [← hlen]
        exact List.take_left
  · rcases ho.2 with ⟨rfl, hn0⟩ | ⟨g, cap, cur, rfl, _, hg, hnc, hcm, hcs, htake⟩
    · -- nil
      have he : es = [] := List.eq_nil_of_length_eq_zero hn0
      subst he
      have hx0 : xs = [] := hxr.nil_left
      subst hx0
      rcases hu with ⟨a, c, rfl, hc⟩ | ⟨rfl, rfl⟩
      · obtain ⟨v', w', r1, r2, r3, r4, r5⟩ := run_append_own_at (P := P) s.W 0 t ty e i z sz bytes ht hi hz hsize hby hzs hsz _ 0 [] (World.ownsRow_nil _ _ _ _) a news.length c us hlen hc one (by simpa using h63) (by simpa using hb) (Nat.zero_le _)
        refine ⟨w', v', r1, r3, fun g hgg => ?_, .inr ⟨us, by simpa using r2, by simpa using hr⟩⟩
        rcases r5 with h5 | h5
        · have := ob_own (ownsRow_nomap r2) hgg
          rw [h5] at this
          simp [Value.ownBlock] at this
        · have := ob_own (ownsRow_nomap r2) hgg
          rw [h5] at this
          cases this
          exact .inr (Nat.le_refl _)
      · exact ⟨s.W, .slice none 0 0, run_append_owned_none (P := P) s.W 0 t ty e i sz ht hi _ 0 [] (World.ownsRow_nil _ _ _ _), grefl _, fun g h => .inl h, .inl ⟨rfl, none, rfl⟩⟩
    · rcases hu with ⟨a, c, rfl, hc⟩ | ⟨rfl, rfl⟩
      · obtain ⟨v', w', r1, r2, r3, r4, r5⟩ := run_append_own_at (P := P) s.W 0 t ty e i z sz bytes ht hi hz hsize hby hzs hsz _ es.length xs ho a news.length c us hlen hc one h63 hb (Nat.zero_le _)
        have hcat : R2 (CR s) (es ++ news).flatten (xs ++ us) := by rw [List.flatten_append]; exact hxr.append hr
        cases cap with
        | zero =>
          have he0 : es = [] := List.eq_nil_of_length_eq_zero (by omega)
          subst he0
          by_cases hm : news = []
          · subst hm
            have hus0 : us = [] := hr.nil_left
            subst hus0
            refine ⟨s.W, .slice (some ⟨g, 0, none⟩) 0 0, ?_, grefl _, fun g h => .inl h, .inl ⟨rfl, _, rfl⟩⟩
            simp [Builtin.append_, run_underlying ht, sizeOf, typeInfo, hi, Builtin.lenOf, Builtin.firstCells, loadCells, loadCellsFrom, storeCells]
          · have hpos : 0 < news.length := List.length_pos_iff.2 hm
            subst hsize
            subst hby
            simp only [List.length_nil, Nat.zero_add] at hb h63
            have hcm := grownCap_le_maxLen s.W news.length 0 e h63
            have hge := grownCap_ge s.W news.length 0 e
            refine ⟨s.W.drew.alloc (.cells (us.toArray ++ Builtin.zeroCells z.cells (grownCap s.W news.length 0 e - news.length)) e), .slice (some ⟨s.W.heap.size, 0, none⟩) news.length (grownCap s.W news.length 0 e), ?_,
              ⟨rfl, rfl, rfl, by simp, fun k hk _ => heap_alloc_old s.W.drew _ hk⟩, fun g h => .inr (by rw [← ob_new h]; exact Nat.le_refl _), .inr ⟨us, ⟨hlen, .inr ⟨s.W.heap.size, _, _, rfl, Nat.zero_le _, heap_alloc_new s.W.drew _, hge, hcm, ?_, ?_⟩⟩, by simpa using hr⟩⟩
            · have hfit : Builtin.nextslicecap news.length 0 * i.bytes ≤ 281474976710656 := growslice_fits hpos hb
              have := run_append_grow (P := P) s.W t ty e i z ht hi hz ⟨g, 0, none⟩ 0 0 [] (by simp) (by simp) a news.length c us hlen hc (by omega) (by simp only [maxLen] at h63; omega) (by simpa using hfit)
              simpa using this
            · simp only [Array.size_append, List.size_toArray, size_zeroCells, hzs, hlen, ← Nat.add_mul]
              congr 1
              omega
            · simp only [Array.toList_append, List.nil_append]
              rw [← hlen]
              exact List.take_left
        | succ cap =>
          refine ⟨w', v', r1, r3, fun g' hgg => ?_, .inr ⟨xs ++ us, by simpa using r2, hcat⟩⟩
          rcases r5 with h5 | h5
          · have := ob_own (ownsRow_nomap r2) hgg
            rw [h5] at this
            exact .inl (by simpa [ob, Value.ownBlock] using this)
          · have := ob_own (ownsRow_nomap r2) hgg
            rw [h5] at this
            cases this
            exact .inr (Nat.le_refl _)
      · refine ⟨s.W, _, run_append_owned_none (P := P) s.W 0 t ty e i sz ht hi _ es.length xs ho, grefl _, fun g h => .inl h, .inr ⟨xs, by simpa using ho, by simpa using hxr⟩⟩
def byOf (P : Program) (t : TypeId) : Option Nat := match P.info? t with
  | some i => some i.bytes
  | none => none
def apV (P : Program) (H : List Blk) (t : TypeId) (dst src : V) : Option (Prop × V × List Blk) := match P.underlying t with
  | some (.slice e) => match szOf P e, byOf P e, zc P e, srcEs H src with
    | some sz, some bytes, some z, some news => if z.length = sz then if 0 < sz then if 0 < bytes then match dst with
      | .c (.own b ver 0 n) => match H[b]? with
        | some blk => if ver = blk.ver then if n = blk.es.length then if blk.sz = sz then if blk.t = e then
            some ((∀ x ∈ news, x.length = sz) ∧ (n + news.length) * bytes ≤ 140737488355328, .c (.own b (ver + 1) 0 (n + news.length)), H.set b ⟨e, sz, ver + 1, blk.es ++ news⟩) else none else none else none else none
        | none => none
      | .c (.v (.slice none 0 0)) => some ((∀ x ∈ news, x.length = sz) ∧ news.length * bytes ≤ 140737488355328, .c (.own H.length 0 0 news.length), H ++ [⟨e, sz, 0, news⟩])
      | .c .e0 => some ((∀ x ∈ news, x.length = sz) ∧ news.length * bytes ≤ 140737488355328, .c (.own H.length 0 0 news.length), H ++ [⟨e, sz, 0, news⟩])
      | _ => none else none else none else none
    | _, _, _, _ => none
  | _ => none
theorem byOf_spec {P : Program} {t n : Nat} (h : byOf P t = some n) : ∃ i, P.info? t = some i ∧ i.bytes = n := by
  unfold byOf at h
  split at h
  · rename_i i hi; cases h; exact ⟨i, hi, rfl⟩
  · cases h
theorem RowIs.mono {s s' : Sit} (hs : SI s) (e0 : Ext0 s s') {t sz : Nat} {rv : Value} {es : List (List C)} (h : (es = [] ∧ ∃ A, rv = .slice A 0 0) ∨ ∃ xs, s'.W.ownsRow 0 t sz rv es.length xs ∧ R2 (CR s) es.flatten xs) : RowIs s' t sz rv es := by
  rcases h with h | ⟨xs, h1, h2⟩
  · exact .inl h
  · exact .inr ⟨xs, h1, h2.mono (fun _ _ => CR.ext hs e0)⟩
theorem apV_ok {P : Program} {s : Sit} (hs : SI s) {t : TypeId} {dst src : V} {a b : Value} {p : Prop} {v : V} {H' : List Blk} (h : apV P s.H t dst src = some (p, v, H')) (hp : p) (ha : VR s dst a) (hb : VR s src b) (ty : TypeId) : Loud P s v H' false (Builtin.append_ #[t, t] ty #[a, b]) := by
  unfold apV at h
  split at h
  · rename_i e ht
    split at h
    · rename_i sz bytes zl news hsz hby hzc hnews
      obtain ⟨i, hi, hi2⟩ := szOf_spec hsz
      obtain ⟨i', hi', hby2⟩ := byOf_spec hby
      rw [hi] at hi'
      cases hi'
      obtain ⟨i', z, hi', hz, hzr⟩ := zc_spec hzc
      rw [hi] at hi'
      cases hi'
      split at h
      · rename_i hzl
        have hzs : z.cells.size = sz := by rw [← hzl]; have := (hzr s).1; simpa using this.symm
        split at h
        · rename_i hsz0
          split at h
          · rename_i hb0
            obtain ⟨us, hr, hu⟩ := src_ok hs hnews hb
            have newcase : ∀ (A : Option Addr), a = .slice A 0 0 → (∀ x ∈ news, x.length = sz) → news.length * bytes ≤ 140737488355328 → Loud P s (.c (.own s.H.length 0 0 news.length)) (s.H ++ [⟨e, sz, 0, news⟩]) false (Builtin.append_ #[t, t] ty #[a, b]) := by
              rintro A rfl hun hbb
              obtain ⟨W', rv', r1, r2, r3, r4⟩ := run_app (P := P) (ty := ty) hs ht hi hz hi2 hby2 hzs hsz0 (es := []) (rv := .slice A 0 0) (.inl ⟨rfl, A, rfl⟩) (fun x hx => by cases hx) hun hr hu (by simpa using hbb) hb0
              have hob : ob (.slice A 0 0) = none := by cases A <;> rfl
              rw [hob] at r2 r3
              have hext := Ext.new (blk := ⟨e, sz, 0, news⟩) hs r2 (fun g hg => (r3 g hg).resolve_left (by simp)) (fun e0 => blk_row hun (RowIs.mono hs e0 (by simpa using r4)))
              refine ⟨_, rv', hext, rfl, ?_, (fun h => by cases h), r1⟩
              have hrow : RowIs ⟨W', s.F, s.ρ ++ [rv'], s.H ++ [⟨e, sz, 0, news⟩]⟩ e sz rv' news := RowIs.mono hs hext.toExt0 (by simpa using r4)
              exact ⟨hrow.slice, ⟨e, sz, 0, news⟩, rv', by simp, by simp [← hs.len], Nat.le_refl _, fun _ => hrow.own⟩
            split at h
            · rename_i bb ver n
              split at h
              · rename_i blk hblk
                split at h
                · rename_i hv
                  split at h
                  · rename_i hn
                    split at h
                    · rename_i hbsz
                      split at h
                      · rename_i hbt
                        cases h
                        obtain ⟨hun, hbb⟩ := hp
                        obtain ⟨_, blk', rv, g1, g2, g3, g4⟩ := ha
                        rw [hblk] at g1
                        cases g1
                        have hbk := hs.blk bb blk rv hblk g2
                        subst hn
                        have harow : RowIs s e sz a blk.es ∧ ob a = ob rv := by
                          rcases (g4 hv).2 with ⟨⟨A0, rfl⟩, ⟨A, rfl⟩, hm, _⟩ | ⟨g, L, cap, A, c, hcap, rfl, rfl, hoc, hcc, hmc, hbl, hA⟩
                          · exact ⟨.inl ⟨List.eq_nil_of_length_eq_zero hm, A, rfl⟩, by cases A <;> cases A0 <;> rfl⟩
                          · have hA' : A = ⟨g, 0, none⟩ := by
                              rcases hA with h | ⟨h, _⟩
                              · simpa using h
                              · exact absurd rfl h
                            subst hA'
                            rcases hbk.at_ (by intro k e; cases e) with ⟨hz0, A1, e1⟩ | ⟨xs, ho, hxr⟩
                            · injection e1 with e1 e2 e3
                              omega
                            · rcases ho.2 with ⟨h0, _⟩ | ⟨g', cap', cur, hrv, q1, q2, q3, q4, q5, q6⟩
                              · cases h0
                              · injection hrv with x1 x2 x3
                                injection x1 with x1
                                injection x1 with x1
                                subst x1; subst x2; subst x3
                                have hc' : c = cap := by omega
                                subst hc'
                                rw [hbt, hbsz] at ho
                                exact ⟨.inr ⟨xs, ho, hxr⟩, rfl⟩
                        have hus : Uni sz blk.es := hbsz ▸ hbk.uni
                        obtain ⟨W', rv', r1, r2, r3, r4⟩ := run_app (P := P) (ty := ty) hs ht hi hz hi2 hby2 hzs hsz0 harow.1 hus hun hr hu hbb hb0
                        rw [harow.2] at r2 r3
                        have hext := Ext.set (blk' := ⟨e, sz, ver + 1, blk.es ++ news⟩) hs hblk g2 r2 r3 (by simp only; omega) (fun h => by simp only at h; omega) (fun e0 => blk_row (hus.append hun) (RowIs.mono hs e0 r4))
                        refine ⟨_, rv', hext, rfl, ?_, (fun h => by cases h), r1⟩
                        have hrow : RowIs ⟨W', s.F, s.ρ.set bb rv', s.H.set bb ⟨e, sz, ver + 1, blk.es ++ news⟩⟩ e sz rv' (blk.es ++ news) := RowIs.mono hs hext.toExt0 r4
                        have hH := (List.getElem?_eq_some_iff.1 hblk).1
                        have hρ := (List.getElem?_eq_some_iff.1 g2).1
                        have hl : (blk.es ++ news).length = blk.es.length + news.length := List.length_append
                        exact ⟨hl ▸ hrow.slice, ⟨e, sz, ver + 1, blk.es ++ news⟩, rv', List.getElem?_set_self hH, List.getElem?_set_self hρ, Nat.le_refl _, fun _ => hl ▸ hrow.own⟩
                      · cases h
                    · cases h
                  · cases h
                · cases h
              · cases h
            · cases h
              exact newcase none (vr_v ha) hp.1 hp.2
            · cases h
              obtain ⟨A, rfl⟩ := ha
              exact newcase A rfl hp.1 hp.2
            · cases h
          · cases h
        · cases h
      · cases h
    · cases h
  · cases h
end Go.En
