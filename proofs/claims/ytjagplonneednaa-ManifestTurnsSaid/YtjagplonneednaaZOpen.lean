/- How the data that come in read: numbers, texts, rows and structs, each no greater than its weight allows. -/
import Derived.Test.YtjagplonneednaaZWWords
import Derived.ChangeArms
import Derived.SizedLaws
import Derived.DataReads
import Derived.DataElems
set_option linter.unusedVariables false
set_option linter.unusedSimpArgs false
namespace Go.Proofs.Ytjagplonneednaa.Open
open Go.RowKit Go.Proofs.YtjagplonneednaaW.PrintWords
def Opens {α : Type} (P : Program) (t : TypeId) (d : Kd α) (G : α → Prop) : Prop :=
  ∀ (H : Type) (enc : TypeId × Value → H) (w : World) (base : Nat) (spare : Nat → Bool) (held : Bool) (fuel : Nat) (cs : List Value) (x : DataW H × List MemPlace),
    DataW.trod enc P w base spare held fuel t cs = some x → (∀ n ∈ x.1.weights P t, n ≤ reachBytes) → ∃ a : α, d.K w a cs ∧ G a
theorem opens_int {P : Program} {t : TypeId} {k : IntKind} (ht : P.underlying t = some (.int k)) : Opens P t (Kd.int k) (fun n => (Lit.int k n).wf = true) := by
  intro H enc w base spare held fuel cs x h hw
  obtain ⟨n, rfl, _, hn⟩ := DataW.trod_int ht h
  exact ⟨n, rfl, hn⟩
theorem opens_bool {P : Program} {t : TypeId} (ht : P.underlying t = some .bool) : Opens P t Kd.bool (fun _ => True) := by
  intro H enc w base spare held fuel cs x h hw
  obtain ⟨n, rfl, _⟩ := DataW.trod_bool ht h
  exact ⟨n, rfl, trivial⟩
theorem choose_list {α : Type} {Q : Nat → α → Prop} : ∀ n : Nat, (∀ i, i < n → ∃ a, Q i a) → ∃ xs : List α, xs.length = n ∧ ∀ i a, xs[i]? = some a → Q i a
  | 0, _ => ⟨[], rfl, fun i a h => by simp at h⟩
  | n + 1, h => by
    obtain ⟨xs, hl, hx⟩ := choose_list n (fun i hi => h i (by omega))
    obtain ⟨a, ha⟩ := h n (by omega)
    refine ⟨xs ++ [a], by rw [List.length_append, hl]; rfl, fun i b hb => ?_⟩
    rcases Nat.lt_or_ge i n with hi | hi
    · rw [List.getElem?_append_left (by omega)] at hb
      exact hx i b hb
    · rw [List.getElem?_append_right (by omega)] at hb
      have : i - xs.length = 0 := by
        rcases Nat.eq_zero_or_pos (i - xs.length) with z | z
        · exact z
        · rw [List.getElem?_eq_none (by simp; omega)] at hb
          cases hb
      rw [this] at hb
      have e : a = b := by simpa using hb
      subst e
      have : i = n := by omega
      subst this
      exact ha
theorem mem_weightsAll {H : Type} {P : Program} {e : TypeId} : ∀ {ds : List (DataW H)} {d : DataW H}, d ∈ ds → ∀ n ∈ d.weights P e, n ∈ DataW.weightsAll P e ds
  | d0 :: ds, d, hd, n, hn => by
    simp only [DataW.weightsAll, List.mem_append]
    rcases List.mem_cons.1 hd with rfl | hd
    · exact .inl hn
    · exact .inr (mem_weightsAll hd n hn)
theorem opens_slice {α : Type} {P : Program} {t e : TypeId} {d : Kd α} {G : α → Prop} {B : Nat} (ht : P.underlying t = some (.slice e)) (hc : P.cellsOf e = d.sz) (hB : P.bytesOf e = B) (ho : Opens P e d G) :
    Opens P t (Kd.slice e d) (fun l => l.length * B ≤ 140737488351232 ∧ ∀ x ∈ l, G x) := by
  intro H enc w base spare held fuel cs x h hw
  rcases DataW.trod_slice ht h with ⟨rfl, rfl⟩ | ⟨a, len, cap, elems, rest, n, _, rfl, rfl, hb, hl, hm, hlen, hel, _, _⟩
  · exact ⟨[], ⟨none, 0, rfl, Nat.le_refl _, rfl, by simp, fun h => absurd h (by simp)⟩, by simp, fun x hx => by simp at hx⟩
  · have each : ∀ i, i < len → ∃ p : α, (∃ c, c.length = d.sz ∧ d.K w p c ∧ ∀ j u, c[j]? = some u → w.cell? (a.add (i * d.sz + j)) = some u) ∧ G p := by
      intro i hi
      have h1 := hel i hi
      obtain ⟨y, hy⟩ : ∃ y, elems[i]? = some y := ⟨elems[i]'(by omega), List.getElem?_eq_getElem (by omega)⟩
      rw [hy, Option.bind_eq_some_iff] at h1
      obtain ⟨c, hcs, hyt⟩ := h1
      have hwy : ∀ m ∈ y.1.weights P e, m ≤ reachBytes := fun m hm' => hw m (by
        simp only [DataW.weights, ht, List.mem_cons, List.mem_append]
        exact .inr (.inl (mem_weightsAll (List.mem_map.2 ⟨y, List.mem_of_getElem? hy, rfl⟩) m hm')))
      obtain ⟨p, hK, hG⟩ := ho H enc w base spare held n c y hyt hwy
      obtain ⟨_, hlc, hcell⟩ := World.cells?_some hcs
      refine ⟨p, ⟨c, by rw [hlc, hc], hK, fun j u hu => ?_⟩, hG⟩
      rw [← Addr.add_add, ← hc, ← hu]
      exact hcell j (by rw [← hlc]; exact (List.getElem?_eq_some_iff.1 hu).1)
    obtain ⟨xs, hxl, hxs⟩ := choose_list len each
    have hw0 := hw ((elems.length + rest.length) * P.bytesOf e) (by simp [DataW.weights, ht])
    refine ⟨xs, ⟨some a, cap, by rw [hxl], by omega, rfl, ?_, fun _ => ⟨a, rfl, fun j p hj => ?_⟩⟩, ?_, fun x hx => ?_⟩
    · have : maxLen ≤ 9223372036854775807 := by decide
      omega
    · obtain ⟨c, h1, h2, h3⟩ := (hxs j p hj).1
      exact ⟨c, h1, h2, h3⟩
    · rw [hxl, ← hlen, ← hB]
      exact Nat.le_trans (Nat.mul_le_mul_right _ (Nat.le_add_right _ _)) (Nat.le_trans hw0 (by decide))
    · obtain ⟨i, hi⟩ := List.getElem?_of_mem hx
      exact (hxs i x hi).2
def OpensAt {α : Type} (P : Program) (off : Nat) (fs : List Field) (d : Kd α) (G : α → Prop) : Prop :=
  ∀ (H : Type) (enc : TypeId × Value → H) (w : World) (base : Nat) (spare : Nat → Bool) (held : Bool) (n : Nat) (cs : List Value) (xs : List (DataW H × List MemPlace)), xs.length = fs.length →
    (∀ (i : Nat) (f : Field), fs[i]? = some f → DataW.trod enc P w base spare held n f.type ((cs.drop f.offset).take (P.cellsOf f.type)) = xs[i]?) →
    (∀ m ∈ DataW.weightsEach P (fs.map (·.type)) (xs.map (·.1)), m ≤ reachBytes) → ∃ a : α, d.K w a ((cs.drop off).take d.sz) ∧ G a
theorem OpensAt.one {α : Type} {P : Program} {off : Nat} {f : Field} {d : Kd α} {G : α → Prop} (ho : Opens P f.type d G) (hoff : f.offset = off) (hc : P.cellsOf f.type = d.sz) : OpensAt P off [f] d G := by
  intro H enc w base spare held n cs xs hl ht hw
  match xs, hl with
  | [x], _ =>
    have h := ht 0 f rfl
    rw [hoff, hc] at h
    exact ho H enc w base spare held n _ x h (fun m hm => hw m (by simpa [DataW.weightsEach] using hm))
theorem OpensAt.cons {α β : Type} {P : Program} {off : Nat} {f : Field} {fs : List Field} {d0 : Kd α} {G0 : α → Prop} {d1 : Kd β} {G1 : β → Prop} (ho : Opens P f.type d0 G0) (hoff : f.offset = off) (hc : P.cellsOf f.type = d0.sz)
    (hr : OpensAt P (off + d0.sz) fs d1 G1) : OpensAt P off (f :: fs) (Kd.pair d0 d1) (fun x => G0 x.1 ∧ G1 x.2) := by
  intro H enc w base spare held n cs xs hl ht hw
  match xs, hl with
  | x :: xs, hl =>
    have h := ht 0 f rfl
    rw [hoff, hc] at h
    obtain ⟨a, ha, ga⟩ := ho H enc w base spare held n _ x h (fun m hm => hw m (by simp only [List.map_cons, DataW.weightsEach, List.mem_append]; exact .inl hm))
    obtain ⟨b, hb, gb⟩ := hr H enc w base spare held n cs xs (by simpa using hl) (fun i g hg => ht (i + 1) g (by simpa using hg)) (fun m hm => hw m (by simp only [List.map_cons, DataW.weightsEach, List.mem_append]; exact .inr hm))
    refine ⟨(a, b), ⟨_, _, ?_, ha, hb⟩, ga, gb⟩
    show (cs.drop off).take (d0.sz + d1.sz) = _
    rw [List.take_add, List.drop_drop]
theorem opens_struct {α γ : Type} {P : Program} {t : TypeId} {fs : Array Field} {d : Kd α} {G' : α → Prop} {g : γ → α} {G : γ → Prop} (ht : P.underlying t = some (.struct fs)) (hr : OpensAt P 0 fs.toList d G') (hc : P.cellsOf t = d.sz) (mkS : α → γ)
    (hm : ∀ a, g (mkS a) = a) (hG : ∀ a, G' a → G (mkS a)) : Opens P t (Kd.iso d g) G := by
  intro H enc w base spare held fuel cs x h hw
  obtain ⟨xs, n, rfl, rfl, hl, hlen, hf⟩ := DataW.trod_struct ht h
  obtain ⟨a, ha, ga⟩ := hr H enc w base spare held n cs xs (by simpa using hlen) (fun i f hi => hf i f (by simpa using hi)) (fun m hm => hw m (by simp only [DataW.weights, ht]; exact hm))
  rw [List.drop_zero, List.take_of_length_le (by rw [hl, hc]; exact Nat.le_refl _)] at ha
  refine ⟨mkS a, ?_, hG a ga⟩
  show d.K w (g (mkS a)) cs
  rw [hm]
  exact ha
theorem open_arg {α : Type} {P : Program} {t : TypeId} {d : Kd α} {G : α → Prop} (ho : Opens P t d G) {H : Type} {enc : TypeId × Value → H} {w : World} {base : Nat} {spare : Nat → Bool} {held : Bool} {v : Value} {x : DataW H} {ps : List MemPlace}
    (h : DataW.Trod enc P w base spare held t v x ps) {ts : List TypeId} {ds : List (DataW H)} {j : Nat} (hsz : (DataW.weightsEach P ts ds).all (· ≤ reachBytes) = true) (ht : ts[j]? = some t) (hd : ds[j]? = some x) : ∃ a : α, d.K w a v.cells.toList ∧ G a := by
  obtain ⟨fuel, hf⟩ := h
  exact ho H enc w base spare held fuel _ _ hf (fun n hn => by
    have := List.all_eq_true.1 hsz _ (DataW.weights_mem_each ht hd n hn)
    simpa using this)
theorem int_of {k : IntKind} {w : World} {v : Value} {b : Int} (h : (Kd.int k).K w b v.cells.toList) (hv : ∃ n, v = .int k n) : v = .int k b := by
  obtain ⟨n, rfl⟩ := hv
  have h' : [Value.int k n] = [Value.int k b] := h
  exact (List.cons.inj h').1
theorem slice_of {α : Type} {e : Nat} {d : Kd α} {w : World} {v : Value} {l : List α} (h : (Kd.slice e d).K w l v.cells.toList) (hv : ∃ a len cap, v = .slice a len cap) : ∃ A c, v = .slice A l.length c ∧ l.length ≤ c ∧ d.C w A l.length l := by
  obtain ⟨a, len, cap, rfl⟩ := hv
  obtain ⟨A, c, h1, h2, h3⟩ := h
  have h' : [Value.slice a len cap] = [Value.slice A l.length c] := h1
  exact ⟨A, c, (List.cons.inj h').1, h2, h3⟩
end Go.Proofs.Ytjagplonneednaa.Open
