/- How the data that come in read, in the machine's words. -/
import Derived.Test.YtnopihhconklnaaDoorEn11
import Derived.ChangeArms
import Derived.SizedLaws
import Derived.DataReads
import Derived.DataElems
import Derived.Handed
import Derived.Lay
import Derived.ProofKit
import Derived.OpenShut
import Derived.Below
set_option linter.unusedVariables false
set_option linter.unusedSimpArgs false
namespace Go.En
open Go Go.RowKit
def OpM {α : Type} (P : Program) (t : TypeId) (enc : α → List C) (G : α → Prop) : Prop :=
  ∀ (H : Type) (en : TypeId × Value → H) (w : World) (base : Nat) (spare : Nat → Bool) (held : Bool) (fuel : Nat) (cs : List Value) (x : DataW H × List MemPlace),
    DataW.trod en P w base spare held fuel t cs = some x → (∀ n ∈ x.1.weights P t, n ≤ reachBytes) → ∃ a : α, R2 (DR w (· < w.heap.size)) (enc a) cs ∧ G a
theorem r2_v {W : World} {F : Nat → Prop} {v : Value} (h : v.oneCell' = true) : R2 (DR W F) [.v v] [v] := R2.cons (.v h) R2.nil
theorem opm_int {P : Program} {t : TypeId} {k : IntKind} (ht : P.underlying t = some (.int k)) : OpM P t (fun n : Int => [.v (.int k n)]) (fun n => (Lit.int k n).wf = true) := by
  intro H en w base spare held fuel cs x h hw
  obtain ⟨n, rfl, _, hn⟩ := DataW.trod_int ht h
  exact ⟨n, r2_v rfl, hn⟩
theorem opm_bool {P : Program} {t : TypeId} (ht : P.underlying t = some .bool) : OpM P t (fun b : Bool => [.v (.bool b)]) (fun _ => True) := by
  intro H en w base spare held fuel cs x h hw
  obtain ⟨n, rfl, _⟩ := DataW.trod_bool ht h
  exact ⟨n, r2_v rfl, trivial⟩
theorem choose_list {α : Type} {Q : Nat → α → Prop} : ∀ n : Nat, (∀ i, i < n → ∃ a, Q i a) → ∃ xs : List α, xs.length = n ∧ ∀ i a, xs[i]? = some a → Q i a
  | 0, _ => ⟨[], rfl, fun i a h => by simp at h⟩
  | n + 1, h => by
    obtain ⟨xs, hl, hx⟩ := choose_list n (fun i hi => h i (by omega))
    obtain ⟨a, ha⟩ := h n (by omega)
    refine ⟨xs ++ [a], by rw [List.length_append, hl]; rfl, fun i b hb => ?_⟩
    rcases Nat.lt_or_ge i n with hi | hi
    · rw [List.getElem?_append_left (by omega)] at hb
      exact hx i b hb
    · rw [List.getElem?_append_right (by omega)] at hb
      have : i - xs.length = 0 := by
        rcases Nat.eq_zero_or_pos (i - xs.length) with z | z
        · exact z
        · rw [List.getElem?_eq_none (by simp; omega)] at hb
          cases hb
      rw [this] at hb
      have e : a = b := by simpa using hb
      subst e
      have : i = n := by omega
      subst this
      exact ha
theorem mem_weightsAll {H : Type} {P : Program} {e : TypeId} : ∀ {ds : List (DataW H)} {d : DataW H}, d ∈ ds → ∀ n ∈ d.weights P e, n ∈ DataW.weightsAll P e ds
  | d0 :: ds, d, hd, n, hn => by
    simp only [DataW.weightsAll, List.mem_append]
    rcases List.mem_cons.1 hd with rfl | hd
    · exact .inl hn
    · exact .inr (mem_weightsAll hd n hn)
theorem opm_slice {α : Type} {P : Program} {t e : TypeId} {enc : α → List C} {G : α → Prop} {B : Nat} (ht : P.underlying t = some (.slice e)) (hB : P.bytesOf e = B) (ho : OpM P e enc G) :
    OpM P t (fun l : List α => [.row (l.map enc)]) (fun l => l.length * B ≤ 140737488351232 ∧ ∀ x ∈ l, G x) := by
  intro H en w base spare held fuel cs x h hw
  rcases DataW.trod_slice ht h with ⟨rfl, rfl⟩ | ⟨a, len, cap, elems, rest, n, _, rfl, rfl, hb, hl, hm, hlen, hel, _, _⟩
  · exact ⟨[], R2.cons .nil R2.nil, by simp, fun x hx => by simp at hx⟩
  · have each : ∀ i, i < len → ∃ p : α, (∃ c : List Value, c.length = P.cellsOf e ∧ R2 (DR w (· < w.heap.size)) (enc p) c ∧ ∀ j u, c[j]? = some u → w.cell? (a.add (i * P.cellsOf e + j)) = some u) ∧ G p := by
      intro i hi
      have h1 := hel i hi
      obtain ⟨y, hy⟩ : ∃ y, elems[i]? = some y := ⟨elems[i]'(by omega), List.getElem?_eq_getElem (by omega)⟩
      rw [hy, Option.bind_eq_some_iff] at h1
      obtain ⟨c, hcs, hyt⟩ := h1
      have hwy : ∀ m ∈ y.1.weights P e, m ≤ reachBytes := fun m hm' => hw m (by
        simp only [DataW.weights, ht, List.mem_cons, List.mem_append]
        exact .inr (.inl (mem_weightsAll (List.mem_map.2 ⟨y, List.mem_of_getElem? hy, rfl⟩) m hm')))
      obtain ⟨p, hK, hG⟩ := ho H en w base spare held n c y hyt hwy
      obtain ⟨_, hlc, hcell⟩ := World.cells?_some hcs
      refine ⟨p, ⟨c, hlc, hK, fun j u hu => ?_⟩, hG⟩
      rw [← add_add, ← hu]
      exact hcell j (by rw [← hlc]; exact (List.getElem?_eq_some_iff.1 hu).1)
    obtain ⟨xs, hxl, hxs⟩ := choose_list len each
    have hw0 := hw ((elems.length + rest.length) * P.bytesOf e) (by simp [DataW.weights, ht])
    have hU : Uni (P.cellsOf e) (xs.map enc) := fun y hy => by
      obtain ⟨p, hp, rfl⟩ := List.mem_map.1 hy
      obtain ⟨i, hi⟩ := List.mem_iff_getElem?.1 hp
      obtain ⟨⟨c, h1, h2, _⟩, _⟩ := hxs i p hi
      exact h2.1.trans h1
    have hcell : ∀ (k : Nat) (d : C), (xs.map enc).flatten[k]? = some d → ∃ u, w.cell? (a.add k) = some u ∧ DR w (· < w.heap.size) d u := by
      intro k d hk
      have hkl := (List.getElem?_eq_some_iff.1 hk).1
      rw [hU.flat_len, List.length_map] at hkl
      have hs : 0 < P.cellsOf e := Nat.pos_of_ne_zero fun h0 => by rw [h0, Nat.mul_zero] at hkl; omega
      have hi : k / P.cellsOf e < xs.length := Nat.div_lt_of_lt_mul (by rw [Nat.mul_comm]; exact hkl)
      obtain ⟨p, hp⟩ : ∃ p, xs[k / P.cellsOf e]? = some p := ⟨_, List.getElem?_eq_getElem hi⟩
      obtain ⟨⟨c, h1, h2, h3⟩, _⟩ := hxs _ p hp
      have hj := Nat.mod_lt k hs
      have hdm : k / P.cellsOf e * P.cellsOf e + k % P.cellsOf e = k := by rw [Nat.mul_comm]; exact Nat.div_add_mod k _
      have hf := hU.flat_get (i := k / P.cellsOf e) (j := k % P.cellsOf e) (e := enc p) (by rw [List.getElem?_map, hp]; rfl) hj
      rw [hdm, hk] at hf
      obtain ⟨u, hu, hr⟩ := h2.get hf.symm
      have := h3 _ u hu
      rw [hdm] at this
      exact ⟨u, this, hr⟩
    refine ⟨xs, R2.cons (.row (sz := P.cellsOf e) (fun k => (w.cell? (a.add k)).getD (.bool false)) hU (fun hne => ?_) (fun k hk => ?_) (fun k d hk => ?_) (by rw [List.length_map, hxl]) (by omega)) R2.nil, ?_, fun x hx => ?_⟩
    · obtain ⟨d, hd⟩ : ∃ d, (xs.map enc).flatten[0]? = some d := ⟨_, List.getElem?_eq_getElem (List.length_pos_iff.2 hne)⟩
      obtain ⟨u, hu, _⟩ := hcell 0 d hd
      have := World.block_lt_of_cell? w _ hu
      rwa [add_block] at this
    · obtain ⟨u, hu, _⟩ := hcell k _ (List.getElem?_eq_getElem hk)
      rw [hu]; rfl
    · obtain ⟨u, hu, hr⟩ := hcell k d hk
      rw [hu]; exact hr
    · rw [hxl, ← hlen, ← hB]
      exact Nat.le_trans (Nat.mul_le_mul_right _ (Nat.le_add_right _ _)) (Nat.le_trans hw0 (by decide))
    · obtain ⟨i, hi⟩ := List.getElem?_of_mem hx
      exact (hxs i x hi).2
/-- fields that lie one behind the other. -/
def OpMAt {α : Type} (P : Program) (off sz : Nat) (fs : List Field) (enc : α → List C) (G : α → Prop) : Prop :=
  ∀ (H : Type) (en : TypeId × Value → H) (w : World) (base : Nat) (spare : Nat → Bool) (held : Bool) (n : Nat) (cs : List Value) (xs : List (DataW H × List MemPlace)), xs.length = fs.length →
    (∀ (i : Nat) (f : Field), fs[i]? = some f → DataW.trod en P w base spare held n f.type ((cs.drop f.offset).take (P.cellsOf f.type)) = xs[i]?) →
    (∀ m ∈ DataW.weightsEach P (fs.map (·.type)) (xs.map (·.1)), m ≤ reachBytes) → ∃ a : α, R2 (DR w (· < w.heap.size)) (enc a) ((cs.drop off).take sz) ∧ G a
theorem OpMAt.one {α : Type} {P : Program} {off sz : Nat} {f : Field} {enc : α → List C} {G : α → Prop} (ho : OpM P f.type enc G) (hoff : f.offset = off) (hc : P.cellsOf f.type = sz) : OpMAt P off sz [f] enc G := by
  intro H en w base spare held n cs xs hl ht hw
  match xs, hl with
  | [x], _ =>
    have h := ht 0 f rfl
    rw [hoff, hc] at h
    exact ho H en w base spare held n _ x h (fun m hm => hw m (by simpa [DataW.weightsEach] using hm))
theorem OpMAt.cons {α β : Type} {P : Program} {off s0 s1 : Nat} {f : Field} {fs : List Field} {e0 : α → List C} {G0 : α → Prop} {e1 : β → List C} {G1 : β → Prop} (ho : OpM P f.type e0 G0) (hoff : f.offset = off) (hc : P.cellsOf f.type = s0)
    (hr : OpMAt P (off + s0) s1 fs e1 G1) : OpMAt P off (s0 + s1) (f :: fs) (fun x : α × β => e0 x.1 ++ e1 x.2) (fun x => G0 x.1 ∧ G1 x.2) := by
  intro H en w base spare held n cs xs hl ht hw
  match xs, hl with
  | x :: xs, hl =>
    have h := ht 0 f rfl
    rw [hoff, hc] at h
    obtain ⟨a, ha, ga⟩ := ho H en w base spare held n _ x h (fun m hm => hw m (by simp only [List.map_cons, DataW.weightsEach, List.mem_append]; exact .inl hm))
    obtain ⟨b, hb, gb⟩ := hr H en w base spare held n cs xs (by simpa using hl) (fun i g hg => ht (i + 1) g (by simpa using hg)) (fun m hm => hw m (by simp only [List.map_cons, DataW.weightsEach, List.mem_append]; exact .inr hm))
    refine ⟨(a, b), ?_, ga, gb⟩
    rw [List.take_add, List.drop_drop]
    exact ha.append hb
theorem opm_struct {α γ : Type} {P : Program} {t : TypeId} {fs : Array Field} {sz : Nat} {e0 : α → List C} {G0 : α → Prop} {enc : γ → List C} {G : γ → Prop} (ht : P.underlying t = some (.struct fs)) (hr : OpMAt P 0 sz fs.toList e0 G0) (hc : P.cellsOf t = sz) (mkS : α → γ)
    (hm : ∀ a, enc (mkS a) = e0 a) (hG : ∀ a, G0 a → G (mkS a)) : OpM P t enc G := by
  intro H en w base spare held fuel cs x h hw
  obtain ⟨xs, n, rfl, rfl, hl, hlen, hf⟩ := DataW.trod_struct ht h
  obtain ⟨a, ha, ga⟩ := hr H en w base spare held n cs xs (by simpa using hlen) (fun i f hi => hf i f (by simpa using hi)) (fun m hm => hw m (by simp only [DataW.weights, ht]; exact hm))
  rw [List.drop_zero, List.take_of_length_le (by rw [hl, hc]; exact Nat.le_refl _)] at ha
  exact ⟨mkS a, by rw [hm]; exact ha, hG a ga⟩
/-- an argument, opened. -/
theorem opm_arg {α : Type} {P : Program} {t : TypeId} {enc : α → List C} {G : α → Prop} (ho : OpM P t enc G) {H : Type} {en : TypeId × Value → H} {w : World} {base : Nat} {spare : Nat → Bool} {held : Bool} {v : Value} {x : DataW H} {ps : List MemPlace}
    (h : DataW.Trod en P w base spare held t v x ps) {ts : List TypeId} {ds : List (DataW H)} {j : Nat} (hsz : (DataW.weightsEach P ts ds).all (· ≤ reachBytes) = true) (ht : ts[j]? = some t) (hd : ds[j]? = some x) : ∃ a : α, R2 (DR w (· < w.heap.size)) (enc a) v.cells.toList ∧ G a := by
  obtain ⟨fuel, hf⟩ := h
  exact ho H en w base spare held fuel _ _ hf (fun n hn => by
    have := List.all_eq_true.1 hsz _ (DataW.weights_mem_each ht hd n hn)
    simpa using this)
/-- a listed table of numbers holds them. -/
theorem laid_table {P : Program} {W : World} {nm : String} {ns : List Int} {k : IntKind} {r : List (String × DataW Unit)} {g n : Nat} {t e : TypeId} (h : laidMet P ((nm, .agg (ns.map fun m => .lit (.int k m))) :: r) W)
    (hg : P.globalNamed nm = some g) (hgt : (P.globals[g]?).map (·.type) = some t) (ht : P.underlying t = some (.array n e)) (he : P.underlying e = some (.int k)) (hc : P.cellsOf e = 1) (hn : ns.length = n) :
    ∀ (i : Nat) (x : Value), (ns.map (Value.int k))[i]? = some x → W.cell? ⟨g, i, none⟩ = some x ∧ g < W.heap.size := by
  obtain ⟨ps, ⟨g', t', cs, fuel, p, q, h1, h2, h3, h4, _⟩, _⟩ := h
  rw [hg] at h1
  cases h1
  rw [hgt] at h2
  cases h2
  obtain ⟨xs, m, _, hx, hl, hxl, hf⟩ := DataW.trod_array ht h4
  intro i x hi
  rw [List.getElem?_map] at hi
  obtain ⟨v, hv, rfl⟩ := Option.map_eq_some_iff.1 hi
  have hin := (List.getElem?_eq_some_iff.1 hv).1
  have hxi : ∃ y, xs[i]? = some y ∧ y.1 = .lit (.int k v) := by
    have hx1 : (DataW.agg (ns.map fun m => DataW.lit (H := Unit) (.int k m))) = .agg (xs.map (·.1)) := congrArg Prod.fst hx
    have hx2 : (ns.map fun m => DataW.lit (H := Unit) (.int k m)) = xs.map (·.1) := by injection hx1
    have h5 := congrArg (fun l => l[i]?) hx2
    simp only [List.getElem?_map, hv, Option.map_some] at h5
    obtain ⟨y, hy, hy2⟩ := Option.map_eq_some_iff.1 h5.symm
    exact ⟨y, hy, hy2⟩
  obtain ⟨y, hy, hy1⟩ := hxi
  have hfi := hf i (by omega)
  rw [hy, hc, Nat.mul_one] at hfi
  obtain ⟨w, hw, hyd, _⟩ := DataW.trod_int he hfi
  have hwv : w = v := by
    rw [hyd] at hy1
    injection hy1 with e1
    injection e1
  subst hwv
  have hcs : cs[i]? = some (.int k w) := by
    have := congrArg (fun l => l[0]?) hw
    simp only [List.getElem?_take, List.getElem?_drop, Nat.lt_irrefl, if_pos (Nat.zero_lt_one)] at this
    simpa using this
  have hcell := World.var?_cell hg h3 i
  rw [hcs] at hcell
  exact ⟨hcell, World.block_lt_of_cell? W _ hcell⟩
/-- the situation ahead of a call. -/
def sit0 (W : World) : Sit := ⟨W, (· < W.heap.size), [], []⟩
theorem sit0_ok {W : World} (h : GL W (· < W.heap.size)) : SI (sit0 W) :=
  ⟨rfl, fun b blk rv h1 _ => by simp [sit0] at h1, fun b b' rv rv' g _ h1 => by simp [sit0] at h1, fun g ⟨b, rv, h1, _⟩ => by simp [sit0] at h1, fun k hk => hk, h⟩
theorem cr_dr {W : World} {c : C} {u : Value} (h : DR W (· < W.heap.size) c u) : CR (sit0 W) c u := by
  cases h with
  | v h => exact ⟨rfl, h⟩
  | nil => exact DR.nil
  | row u h1 h2 h3 h4 h5 h6 => exact DR.row u h1 h2 h3 h4 h5 h6
theorem vr_agg {W : World} {cs : List C} {us : Array Value} (h : R2 (DR W (· < W.heap.size)) cs (Value.agg us).cells.toList) : VR (sit0 W) (.agg cs) (.agg us) :=
  ⟨us.toList, by simp, R2.mono (by simpa [Value.cells] using h) (fun _ _ => cr_dr)⟩
theorem vr_one {W : World} {c : C} {u : Value} (h : R2 (DR W (· < W.heap.size)) [c] u.cells.toList) (hu : u.cells = #[u]) : VR (sit0 W) (.c c) u := by
  rw [hu] at h
  exact cr_dr (h.2 0 c u rfl rfl)
/-- a run from there has left all that was there as it was. -/
theorem sit0_below {W : World} {s' : Sit} (h : Ext (sit0 W) s') : Below W.heap.size W s'.W :=
  ⟨h.os, h.tape, h.output, h.size, fun k hk => h.frame k hk (fun ⟨b, rv, h1, _⟩ => by simp [sit0] at h1)⟩
end Go.En
