/- Small lemmas on memory for functions that are walked by hand. -/
import Derived.Test.YtbeinlllhpcokaaWWords
import Derived.Lib.ConvBytes
import Derived.ArgAppend
import Derived.RangeFuncBox
import Derived.RangeFuncNested
set_option linter.unusedVariables false
set_option linter.unusedSimpArgs false
namespace Go.Proofs.Ytbeinlllhpcokaa.Tools
open Go.RowKit Go.Proofs.YtbeinlllhpcokaaW.PrintWords
/-- '[]byte(s)': a row of the string's bytes, that may be written. -/
theorem str_bytes {P : Program} (w : World) (src dst e : TypeId) (s : ByteArray) (hs : P.underlying src = some .string) (hd : P.underlying dst = some (.slice e)) (he : P.underlying e = some (.int .u8)) :
    ∃ cap W2, (convert src dst (.string s)).run P w = .ok (.slice (some ⟨w.heap.size, 0, none⟩) s.size cap) W2 ∧
      (∀ j, j < s.size → W2.cell? ⟨w.heap.size, j, none⟩ = some (.int .u8 (bt s (j : Int)))) ∧ (∀ j, j < s.size → W2.frozen? ⟨w.heap.size, j, none⟩ = false) ∧
      Below w.heap.size w W2 ∧ W2.heap.size = w.heap.size + 1 := by
  refine ⟨_, _, Lib.run_convert_string_bytes w src dst e s hs hd he, ?_, ?_, ?_, Lib.bytesWorld_size w e s⟩
  · intro j hj
    rw [Lib.bytesWorld_cell w e s j hj]
    unfold bt
    have h : (j : Int).toNat < s.size := by omega
    rw [dif_pos h]
    simp only [Int.toNat_natCast]
    have hl : j < s.data.toList.length := by rw [Array.length_toList]; exact hj
    rw [List.getD_eq_getElem?_getD, List.getElem?_eq_getElem hl]
    rfl
  · intro j hj
    unfold World.frozen?
    simp only [Lib.bytesWorld_at_new]
    have : (Lib.bytesCells w e s).size ≥ s.size := by
      unfold Lib.bytesCells
      rw [Array.size_append, Array.size_map]
      exact Nat.le_add_right _ _
    have h : ¬ (Lib.bytesCells w e s).size ≤ j := by omega
    simp [h]
  · refine ⟨?_, ?_, ?_, ?_, fun i hi => Lib.bytesWorld_at_old w e s i hi⟩
    · simp [Lib.bytesWorld, World.freeze, World.alloc, World.drew, -World.alloc_eq, -World.drew_eq]
    · simp [Lib.bytesWorld, World.freeze, World.alloc, World.drew, -World.alloc_eq, -World.drew_eq]
    · simp [Lib.bytesWorld, World.freeze, World.alloc, World.drew, -World.alloc_eq, -World.drew_eq]
    · rw [Lib.bytesWorld_size]; omega
/-- a string's bytes, as numbers. -/
def nums8 (s : ByteArray) : List Int := s.data.toList.map fun b => (b.toNat : Int)
theorem nums8_len (s : ByteArray) : (nums8 s).length = s.size := by unfold nums8; rw [List.length_map, Array.length_toList]; rfl
theorem nums8_at (s : ByteArray) (j : Nat) (hj : j < s.size) : (nums8 s).getD j 0 = bt s (j : Int) := by
  unfold nums8 bt
  have h : (j : Int).toNat < s.size := by omega
  rw [dif_pos h]
  simp only [Int.toNat_natCast]
  have hl : j < s.data.toList.length := by rw [Array.length_toList]; exact hj
  rw [List.getD_eq_getElem?_getD, List.getElem?_map, List.getElem?_eq_getElem hl]
  rfl
/-- '[]byte(s)' with one byte stored, and back. -/
theorem bytes_back {P : Program} {w W2 : World} (src dst e : TypeId) (s : ByteArray) (cap i : Nat) (v : Int) (hs : P.underlying src = some (.slice e)) (he : P.underlying e = some (.int .u8)) (hd : P.underlying dst = some .string)
    (hi : i < s.size) (hc : ∀ j, j < s.size → W2.cell? ⟨w.heap.size, j, none⟩ = some (.int .u8 (bt s (j : Int)))) :
    (convert src dst (.slice (some ⟨w.heap.size, 0, none⟩) s.size cap)).run P (W2.setCell ⟨w.heap.size, i, none⟩ (.int .u8 v)) = .ok (.string (strOfNums ((nums8 s).set i v))) (W2.setCell ⟨w.heap.size, i, none⟩ (.int .u8 v)) := by
  refine run_convert_bytes_arg _ src e hs he w.heap.size 0 s.size cap _ (by rw [List.length_set, nums8_len]) (fun j hj => ?_) dst hd
  rw [Nat.zero_add]
  by_cases h : i = j
  · subst h
    rw [World.cell?_setCell_same _ _ _ (hc i hi)]
    rw [List.getD_eq_getElem?_getD, List.getElem?_set_self (by rw [nums8_len]; exact hi)]
    rfl
  · have hne : (⟨w.heap.size, i, none⟩ : Addr) ≠ ⟨w.heap.size, j, none⟩ := by intro z; injection z with z1 z2; exact h z2
    rw [World.cell?_setCell_other _ _ _ _ hne, hc j hj]
    rw [List.getD_eq_getElem?_getD, List.getElem?_set_ne h, ← List.getD_eq_getElem?_getD, nums8_at s j hj]
theorem own_and' {β : Type} {I I' : β → World → Prop} (h : Own I) (h' : Own I') : Own (fun s W => I s W ∧ I' s W) := fun s W W' row hs hg hr => ⟨h s W W' row hs.1 hg hr, h' s W W' row hs.2 hg hr⟩
theorem own_size {β : Type} (n : Nat) : Own (fun (_ : β) W => n ≤ W.heap.size) := fun _ W W' row hs hg _ => Nat.le_trans hs hg.size
theorem not_own {W : World} {b e size n B : Nat} {v : Value} {xs : List Value} (h : W.ownsRow b e size v n xs) (hB : B < b) : some B ≠ v.ownBlock := fun e => by have := own_base h B e.symm; omega
/-- 'out = append(out, ..)' in the body of a loop over a function: Boxed.appended, the row's base beyond what is kept. -/
theorem boxed_appended {W w1 : World} {n₀ b1 B : Nat} {t e : TypeId} {size : Nat} {v v' : Value} {k m : Nat} {xs ys : List Value} {tmp : Obj}
    (hv : Boxed W B t v) (hte : t ≠ e) (hrow : W.ownsRow b1 e size v k xs) (h01 : n₀ ≤ b1) (hb1 : n₀ ≤ W.heap.size) (hB : n₀ ≤ B)
    (hown' : w1.ownsRow b1 e size v' m ys) (hgrow : (W.alloc tmp).grownBy w1 v.ownBlock) :
    Boxed w1 B t v ∧ Boxed (w1.setCell ⟨B, 0, none⟩ v') B t v' ∧ (w1.setCell ⟨B, 0, none⟩ v').ownsRow b1 e size v' m ys ∧ KeepsOthers W (w1.setCell ⟨B, 0, none⟩ v') ∧ Below n₀ W (w1.setCell ⟨B, 0, none⟩ v') ∧ (∀ C u t', Boxed W C t' u → C < b1 → C ≠ B → Boxed (w1.setCell ⟨B, 0, none⟩ v') C t' u) := by
  have hv1 : Boxed w1 B t v := (hv.alloc tmp).kept hgrow (hv.not_row hte hrow)
  refine ⟨hv1, hv1.set v', hown'.kept (grownBy_setCell' w1 B v') (.inr (hv1.not_row hte hown').symm), ?_, ?_, fun C u t' hC hlt hne => ?_⟩
  · refine ((KeepsOthers.alloc W tmp).trans (KeepsOthers.of_grownBy hgrow fun j o ej hj => ?_)).trans (KeepsOthers.setCell _ _ _)
    rcases (hrow.alloc tmp).2 with ⟨rfl, _⟩ | ⟨g, cap, cur, rfl, _, hgb, _⟩
    · simp [Value.ownBlock] at ej
    · obtain rfl : g = j := by simpa [Value.ownBlock] using ej
      rw [hgb] at hj; cases hj; rfl
  · refine (((Below.refl n₀ W).alloc hb1 tmp).grown hgrow (by simp; omega) fun j ej => ?_).setCell (p := ⟨B, 0, none⟩) hB v'
    exact Nat.le_trans h01 (own_base hrow j ej)
  · refine Boxed.kept ((hC.alloc tmp).kept hgrow (not_own hrow hlt)) (grownBy_setCell' w1 B v') (by simpa using hne)
theorem R_strings {w : World} {base e : Nat} {v : Value} {xs : List ByteArray} (h : w.ownsRow base e 1 v xs.length (xs.map Value.string)) : Kd.R Kd.string e w base (fun _ => True) v xs := by
  refine ⟨fun k _ => trivial, _, h, by rw [List.length_map]; show _ = xs.length * 1; omega, fun j p hj => ?_⟩
  have : ((xs.map Value.string).drop (j * Kd.string.sz)).take Kd.string.sz = [Value.string p] := by
    show ((xs.map Value.string).drop (j * 1)).take 1 = _
    have hl := (List.getElem?_eq_some_iff.mp hj).1
    rw [Nat.mul_one, List.drop_eq_getElem_cons (by rw [List.length_map]; exact hl)]
    simp [(List.getElem?_eq_some_iff.mp hj).2]
  rw [this]
  rfl
/-- the text with one byte turned. -/
def turned (s : ByteArray) (at_ : Nat) (by_ : Int) : ByteArray := strOfNums ((nums8 s).set at_ (Go.bits .xor .u8 (bt s (at_ : Int)) by_))
/-- a call of append whose run is known. -/
theorem append_run {P : Program} {W W1 : World} {ops : Array Oper} {rest : List Oper} {o : Oper} {a : Act} {Q : Exit → Act → World → Prop} (hgd : o.guard = none) (s x : Operand) (t : TypeId) (ho : o.op = .call { callee := .builtin .append, args := #[s, x], argTypes := #[t, t] })
    (v : Value) (vs vx : Value) (hs : a.eval s = vs) (hx : a.eval x = vx) (hr : (Builtin.append_ #[t, t] o.type #[vs, vx]).run P W = .ok v W1) (h : wpList P ops Q rest (a.put o.dst v) W1) : wpList P ops Q (o :: rest) a W := by
  refine wpList_plain hgd fun K hK => ?_
  unfold Oper.wp execOp
  simp only [ho, resolve, invoke, builtin, Sem.run_bind, Sem.run_pure, Result.andThen_ok, List.map_toArray, List.map_cons, List.map_nil, hs, hx, hr]
  exact hK _ _ h
/-- what is known of a row of c bytes in the block g, whose first ones are l. -/
structure Room (w : World) (g c : Nat) (l : List Int) : Prop where
  le : l.length ≤ c
  is : ∀ i, i < c → (w.cell? ⟨g, i, none⟩).isSome = true
  free : ∀ i, i < c → w.frozen? ⟨g, i, none⟩ = false
  at_ : ∀ i, i < l.length → w.cell? ⟨g, i, none⟩ = some (.int .u8 (l.getD i 0))
theorem Room.alloc {w : World} {g c : Nat} {l : List Int} (h : Room w g c l) (hg : g < w.heap.size) (o : Obj) : Room (w.alloc o) g c l :=
  ⟨h.le, fun i hi => by rw [World.cell?_alloc_lt _ _ _ hg]; exact h.is i hi, fun i hi => by rw [World.frozen?_alloc_old _ _ _ (Nat.ne_of_lt hg)]; exact h.free i hi, fun i hi => by rw [World.cell?_alloc_lt _ _ _ hg]; exact h.at_ i hi⟩
theorem Room.push {w : World} {g c : Nat} {l : List Int} (h : Room w g c l) (hl : l.length < c) (x : Int) : Room (w.setCell ⟨g, l.length, none⟩ (.int .u8 x)) g c (l ++ [x]) := by
  obtain ⟨u, hu⟩ := Option.isSome_iff_exists.mp (h.is l.length hl)
  refine ⟨by rw [List.length_append]; simp; omega, fun i hi => ?_, fun i hi => by rw [World.frozen?_setCell]; exact h.free i hi, fun i hi => ?_⟩
  · by_cases e : l.length = i
    · subst e
      rw [World.cell?_setCell_same _ _ _ hu]
      rfl
    · have hne : (⟨g, l.length, none⟩ : Addr) ≠ ⟨g, i, none⟩ := by intro z; injection z with z1 z2; exact e z2
      rw [World.cell?_setCell_other _ _ _ _ hne]
      exact h.is i hi
  · by_cases e : l.length = i
    · subst e
      rw [World.cell?_setCell_same _ _ _ hu]
      simp [List.getD_eq_getElem?_getD]
    · have hne : (⟨g, l.length, none⟩ : Addr) ≠ ⟨g, i, none⟩ := by intro z; injection z with z1 z2; exact e z2
      have hi' : i < l.length := by rw [List.length_append] at hi; simp at hi; omega
      rw [World.cell?_setCell_other _ _ _ _ hne, h.at_ i hi']
      simp [List.getD_eq_getElem?_getD, List.getElem?_append_left hi']
/-- one byte appended where there is room. -/
theorem Room.append {P : Program} {w : World} {g c : Nat} {l : List Int} (h : Room w g c l) (hl : l.length < c) (hg : g < w.heap.size) (x : Int) (t ty e : TypeId) (ht : P.underlying t = some (.slice e)) {i0 : TypeInfo} (hi : P.info? e = some i0) (h1 : i0.size = 1) :
    (Builtin.append_ #[t, t] ty #[.slice (some ⟨g, 0, none⟩) l.length c, .slice (some ⟨w.heap.size, 0, none⟩) 1 1]).run P (w.alloc (.cells #[.int .u8 x] e)) = .ok (.slice (some ⟨g, 0, none⟩) (l.length + 1) c) ((w.alloc (.cells #[.int .u8 x] e)).setCell ⟨g, l.length, none⟩ (.int .u8 x)) := by
  have h2 := h.alloc hg (.cells #[.int .u8 x] e)
  have := run_append_room_cells (P := P) (w.alloc (.cells #[.int .u8 x] e)) t ty e i0 ht hi g 0 l.length c ⟨w.heap.size, 0, none⟩ 1 1 [.int .u8 x] (by simp [h1]) (fun j u hj => by
      cases j with
      | zero => simp at hj; subst hj; exact World.cell?_alloc_new w _ _ 0
      | succ j => simp at hj) (by simp [Value.oneCell']) (by omega) (fun j hj => by simp at hj; subst hj; simp only [h1, Nat.mul_one, Nat.zero_add, Nat.add_zero]; exact h2.is _ hl) (fun j hj => by simp at hj; subst hj; simp only [h1, Nat.mul_one, Nat.zero_add, Nat.add_zero]; exact h2.free _ hl)
  simp only [h1, Nat.mul_one, Nat.zero_add] at this
  exact this
section
open Go.Proofs.YtbeinlllhpcokaaW.PrintWords.Kd
/-- make([]T, 0, c): an empty row of one's own. -/
theorem R_make0 {P : Program} {ops : Array Oper} {rest : List Oper} {o : Oper} {a : Act} {Q : Exit → Act → World → Prop} {α : Type} (d : Kd α) {w0 W : World} (base e : Nat) (hgd : o.guard = none) {N : Tmp} (hd : o.dst = some N) (t : TypeId) (x y : Operand) (ho : o.op = .makeSlice t x y) (c : Int) (hx : a.eval x = .int .i64 0) (hy : a.eval y = .int .i64 c)
    (ht : P.underlying t = some (.slice e)) (z : Value) (bytes : Nat) (hinfo : (P.info? e).map (fun i => (i.zero, i.size, i.bytes)) = some (some z, d.sz, bytes)) (hb0 : 0 < bytes)
    {ok : Nat → Prop} (hfresh : ok W.heap.size) (h0 : 0 ≤ c) (hl : c.toNat * bytes ≤ 281474976710656) (HB : Below base w0 W) (hbase : base ≤ W.heap.size)
    (h : ∀ v1 w1, d.R e w1 base ok v1 [] → Below base w0 w1 → W.grownBy w1 none → (∃ b, v1.ownBlock = some b ∧ W.heap.size ≤ b) → wpList P ops Q rest (a.put o.dst v1) w1) : wpList P ops Q (o :: rest) a W := by
  obtain ⟨m, rfl⟩ := Int.eq_ofNat_of_zero_le h0
  simp only [Int.toNat_natCast] at hl
  obtain ⟨i0, hi, hzz⟩ := Option.map_eq_some_iff.1 hinfo
  simp only [Prod.mk.injEq] at hzz
  obtain ⟨hz0, hz1, hz2⟩ := hzz
  have hm : m ≤ 281474976710656 := Nat.le_trans (Nat.le_mul_of_pos_right _ hb0) hl
  obtain ⟨w', hr, hown, hgr⟩ := run_make_own (P := P) W base t e i0 z d.sz ht hi hz0 hz1 .i64 .i64 m (by rw [hz2, Nat.mul_comm]; exact hl) (by unfold maxLen; omega) hbase
  refine event_run hgd ?_ (h _ w' ⟨fun k hk => ?_, [], hown, Reps.none _ _⟩ (pw_below_grown HB none hbase hgr (fun k hk => by cases hk)) hgr ⟨W.heap.size, by simp [Value.ownBlock], Nat.le_refl _⟩)
  · simp [execOp, ho, hx, hy, hr]
  · have : W.heap.size = k := by simpa [Value.ownBlock] using hk
    subst this
    exact hfresh
end
end Go.Proofs.Ytbeinlllhpcokaa.Tools
