-- kept, by a program of this session, of texts that the printer or this session wrote
import Derived.Test.YtgpkbehodmcbgaaZWWords
import Derived.Lib.ConvBytes
import Derived.ArgAppend
import Derived.RangeFuncBox
import Derived.RangeFuncNested
import Derived.OrdersHeld
import Derived.Deep.RegionHeld3
import Derived.Laws.BitsLemmas
import Derived.RowKit
section
set_option linter.unusedVariables false
set_option linter.unusedSimpArgs false
namespace Go.Proofs.Ytgpkbehodmcbgaa.Tools
open Go.RowKit Go.Proofs.YtgpkbehodmcbgaaW.PrintWords
theorem str_bytes {P : Program} (w : World) (src dst e : TypeId) (s : ByteArray) (hs : P.underlying src = some .string) (hd : P.underlying dst = some (.slice e)) (he : P.underlying e = some (.int .u8)) :
    ∃ cap W2, (convert src dst (.string s)).run P w = .ok (.slice (some ⟨w.heap.size, 0, none⟩) s.size cap) W2 ∧
      (∀ j, j < s.size → W2.cell? ⟨w.heap.size, j, none⟩ = some (.int .u8 (bt s (j : Int)))) ∧ (∀ j, j < s.size → W2.frozen? ⟨w.heap.size, j, none⟩ = false) ∧
      Below w.heap.size w W2 ∧ W2.heap.size = w.heap.size + 1 := by
  refine ⟨_, _, Lib.run_convert_string_bytes w src dst e s hs hd he, ?_, ?_, ?_, Lib.bytesWorld_size w e s⟩
  · intro j hj
    rw [Lib.bytesWorld_cell w e s j hj]
    unfold bt
    have h : (j : Int).toNat < s.size := by omega
    rw [dif_pos h]
    simp only [Int.toNat_natCast]
    have hl : j < s.data.toList.length := by rw [Array.length_toList]; exact hj
    rw [List.getD_eq_getElem?_getD, List.getElem?_eq_getElem hl]
    rfl
  · intro j hj
    unfold World.frozen?
    simp only [Lib.bytesWorld_at_new]
    have : (Lib.bytesCells w e s).size ≥ s.size := by
      unfold Lib.bytesCells
      rw [Array.size_append, Array.size_map]
      exact Nat.le_add_right _ _
    have h : ¬ (Lib.bytesCells w e s).size ≤ j := by omega
    simp [h]
  · refine ⟨?_, ?_, ?_, ?_, fun i hi => Lib.bytesWorld_at_old w e s i hi⟩
    · simp [Lib.bytesWorld, World.freeze, World.alloc, World.drew, -World.alloc_eq, -World.drew_eq]
    · simp [Lib.bytesWorld, World.freeze, World.alloc, World.drew, -World.alloc_eq, -World.drew_eq]
    · simp [Lib.bytesWorld, World.freeze, World.alloc, World.drew, -World.alloc_eq, -World.drew_eq]
    · rw [Lib.bytesWorld_size]; omega
def nums8 (s : ByteArray) : List Int := s.data.toList.map fun b => (b.toNat : Int)
theorem nums8_len (s : ByteArray) : (nums8 s).length = s.size := by unfold nums8; rw [List.length_map, Array.length_toList]; rfl
theorem nums8_at (s : ByteArray) (j : Nat) (hj : j < s.size) : (nums8 s).getD j 0 = bt s (j : Int) := by
  unfold nums8 bt
  have h : (j : Int).toNat < s.size := by omega
  rw [dif_pos h]
  simp only [Int.toNat_natCast]
  have hl : j < s.data.toList.length := by rw [Array.length_toList]; exact hj
  rw [List.getD_eq_getElem?_getD, List.getElem?_map, List.getElem?_eq_getElem hl]
  rfl
theorem bytes_back {P : Program} {w W2 : World} (src dst e : TypeId) (s : ByteArray) (cap i : Nat) (v : Int) (hs : P.underlying src = some (.slice e)) (he : P.underlying e = some (.int .u8)) (hd : P.underlying dst = some .string)
    (hi : i < s.size) (hc : ∀ j, j < s.size → W2.cell? ⟨w.heap.size, j, none⟩ = some (.int .u8 (bt s (j : Int)))) :
    (convert src dst (.slice (some ⟨w.heap.size, 0, none⟩) s.size cap)).run P (W2.setCell ⟨w.heap.size, i, none⟩ (.int .u8 v)) = .ok (.string (strOfNums ((nums8 s).set i v))) (W2.setCell ⟨w.heap.size, i, none⟩ (.int .u8 v)) := by
  refine run_convert_bytes_arg _ src e hs he w.heap.size 0 s.size cap _ (by rw [List.length_set, nums8_len]) (fun j hj => ?_) dst hd
  rw [Nat.zero_add]
  by_cases h : i = j
  · subst h
    rw [World.cell?_setCell_same _ _ _ (hc i hi)]
    rw [List.getD_eq_getElem?_getD, List.getElem?_set_self (by rw [nums8_len]; exact hi)]
    rfl
  · have hne : (⟨w.heap.size, i, none⟩ : Addr) ≠ ⟨w.heap.size, j, none⟩ := by intro z; injection z with z1 z2; exact h z2
    rw [World.cell?_setCell_other _ _ _ _ hne, hc j hj]
    rw [List.getD_eq_getElem?_getD, List.getElem?_set_ne h, ← List.getD_eq_getElem?_getD, nums8_at s j hj]
def turned (s : ByteArray) (at_ : Nat) (by_ : Int) : ByteArray := strOfNums ((nums8 s).set at_ (Go.bits .xor .u8 (bt s (at_ : Int)) by_))
theorem append_run {P : Program} {W W1 : World} {ops : Array Oper} {rest : List Oper} {o : Oper} {a : Act} {Q : Exit → Act → World → Prop} (hgd : o.guard = none) (s x : Operand) (t : TypeId) (ho : o.op = .call { callee := .builtin .append, args := #[s, x], argTypes := #[t, t] })
    (v : Value) (vs vx : Value) (hs : a.eval s = vs) (hx : a.eval x = vx) (hr : (Builtin.append_ #[t, t] o.type #[vs, vx]).run P W = .ok v W1) (h : wpList P ops Q rest (a.put o.dst v) W1) : wpList P ops Q (o :: rest) a W := by
  refine wpList_plain hgd fun K hK => ?_
  unfold Oper.wp execOp
  simp only [ho, resolve, invoke, builtin, Sem.run_bind, Sem.run_pure, Result.andThen_ok, List.map_toArray, List.map_cons, List.map_nil, hs, hx, hr]
  exact hK _ _ h
structure Room (w : World) (g c : Nat) (l : List Int) : Prop where
  le : l.length ≤ c
  is : ∀ i, i < c → (w.cell? ⟨g, i, none⟩).isSome = true
  free : ∀ i, i < c → w.frozen? ⟨g, i, none⟩ = false
  at_ : ∀ i, i < l.length → w.cell? ⟨g, i, none⟩ = some (.int .u8 (l.getD i 0))
theorem Room.alloc {w : World} {g c : Nat} {l : List Int} (h : Room w g c l) (hg : g < w.heap.size) (o : Obj) : Room (w.alloc o) g c l :=
  ⟨h.le, fun i hi => by rw [World.cell?_alloc_lt _ _ _ hg]; exact h.is i hi, fun i hi => by rw [World.frozen?_alloc_old _ _ _ (Nat.ne_of_lt hg)]; exact h.free i hi, fun i hi => by rw [World.cell?_alloc_lt _ _ _ hg]; exact h.at_ i hi⟩
theorem Room.push {w : World} {g c : Nat} {l : List Int} (h : Room w g c l) (hl : l.length < c) (x : Int) : Room (w.setCell ⟨g, l.length, none⟩ (.int .u8 x)) g c (l ++ [x]) := by
  obtain ⟨u, hu⟩ := Option.isSome_iff_exists.mp (h.is l.length hl)
  refine ⟨by rw [List.length_append]; simp; omega, fun i hi => ?_, fun i hi => by rw [World.frozen?_setCell]; exact h.free i hi, fun i hi => ?_⟩
  · by_cases e : l.length = i
    · subst e
      rw [World.cell?_setCell_same _ _ _ hu]
      rfl
    · have hne : (⟨g, l.length, none⟩ : Addr) ≠ ⟨g, i, none⟩ := by intro z; injection z with z1 z2; exact e z2
      rw [World.cell?_setCell_other _ _ _ _ hne]
      exact h.is i hi
  · by_cases e : l.length = i
    · subst e
      rw [World.cell?_setCell_same _ _ _ hu]
      simp [List.getD_eq_getElem?_getD]
    · have hne : (⟨g, l.length, none⟩ : Addr) ≠ ⟨g, i, none⟩ := by intro z; injection z with z1 z2; exact e z2
      have hi' : i < l.length := by rw [List.length_append] at hi; simp at hi; omega
      rw [World.cell?_setCell_other _ _ _ _ hne, h.at_ i hi']
      simp [List.getD_eq_getElem?_getD, List.getElem?_append_left hi']
theorem Room.append {P : Program} {w : World} {g c : Nat} {l : List Int} (h : Room w g c l) (hl : l.length < c) (hg : g < w.heap.size) (x : Int) (t ty e : TypeId) (ht : P.underlying t = some (.slice e)) {i0 : TypeInfo} (hi : P.info? e = some i0) (h1 : i0.size = 1) :
    (Builtin.append_ #[t, t] ty #[.slice (some ⟨g, 0, none⟩) l.length c, .slice (some ⟨w.heap.size, 0, none⟩) 1 1]).run P (w.alloc (.cells #[.int .u8 x] e)) = .ok (.slice (some ⟨g, 0, none⟩) (l.length + 1) c) ((w.alloc (.cells #[.int .u8 x] e)).setCell ⟨g, l.length, none⟩ (.int .u8 x)) := by
  have h2 := h.alloc hg (.cells #[.int .u8 x] e)
  have := run_append_room_cells (P := P) (w.alloc (.cells #[.int .u8 x] e)) t ty e i0 ht hi g 0 l.length c ⟨w.heap.size, 0, none⟩ 1 1 [.int .u8 x] (by simp [h1]) (fun j u hj => by
      cases j with
      | zero => simp at hj; subst hj; exact World.cell?_alloc_new w _ _ 0
      | succ j => simp at hj) (by simp [Value.oneCell']) (by omega) (fun j hj => by simp at hj; subst hj; simp only [h1, Nat.mul_one, Nat.zero_add, Nat.add_zero]; exact h2.is _ hl) (fun j hj => by simp at hj; subst hj; simp only [h1, Nat.mul_one, Nat.zero_add, Nat.add_zero]; exact h2.free _ hl)
  simp only [h1, Nat.mul_one, Nat.zero_add] at this
  exact this
end Go.Proofs.Ytgpkbehodmcbgaa.Tools
end
section
namespace Go.Proofs.YtgpkbehodmcbgaaW.PrintLast
section
variable {P : Program} {ops : Array Oper} {Q : Exit → Act → World → Prop} {md : Region.Mode} {S : World → Prop} {ds : List Nat}
def ListedClosed (md : Region.Mode) (ops : Array Oper) (listed : Array Bool) : Prop :=
  ∀ j oj, ops[j]? = some oj → listed.getD j false = true → ∀ e ∈ oj.after, Region.binds md e = true → listed.getD e.on false = true
theorem ListedClosed.set {listed : Array Bool} {i : Nat} (h : ListedClosed md ops listed) (hi : i ∈ Region.ready md ops listed) : ListedClosed md ops (listed.setIfInBounds i true) := by
  obtain ⟨_, oi, hoi, hall⟩ := mem_ready.1 hi
  intro j oj hj hl e he hb
  by_cases hij : i = j
  · subst hij
    have : oj = oi := Option.some.inj (hj.symm.trans hoi)
    subst this
    exact getD_set_true (hall e he hb)
  · rw [getD_set_ne false hij] at hl
    exact getD_set_true (h j oj hj hl e he hb)
def wpAnyLast (P : Program) (md : Region.Mode) (ops : Array Oper) (Q : Exit → Act → World → Prop) (S : World → Prop) (ds : List Nat) : Nat → Array Bool → Act → World → Prop
  | 0, listed, a, w => Region.ready md ops listed = [] ∧ Q .normal a w
  | fuel + 1, listed, a, w =>
    (Region.ready md ops listed = [] → Q .normal a w) ∧
    ∀ i ∈ Region.ready md ops listed, wpOp P ops Q i (fun a' w' => (i ∉ ds → S w → S w') ∧ wpAnyLast P md ops Q S ds fuel (listed.setIfInBounds i true) a' w') a w
end
section
variable {P : Program} {ops : Array Oper} {Q : Exit → Act → World → Prop} {md : Region.Mode} {S : World → Prop} {ds : List Nat}
def AllReadyL (P : Program) (md : Region.Mode) (ops : Array Oper) (Q : Exit → Act → World → Prop) (S : World → Prop) (ds : List Nat) (fuel : Nat) (listed : Array Bool) (a : Act) (w : World) (rs : List Nat) : Prop :=
  ∀ i ∈ rs, wpOp P ops Q i (fun a' w' => (i ∉ ds → S w → S w') ∧ wpAnyLast P md ops Q S ds fuel (listed.setIfInBounds i true) a' w') a w
theorem AllReadyL.nil {fuel : Nat} {listed : Array Bool} {a : Act} {w : World} : AllReadyL P md ops Q S ds fuel listed a w [] := fun _ h => by cases h
theorem AllReadyL.cons {fuel : Nat} {listed : Array Bool} {a : Act} {w : World} {i : Nat} {o : Oper} {rs : List Nat} (ho : ops[i]? = some o) (hd : i ∉ ds)
    (h : ∀ K' : Act → World → Prop, Shut (∀ a w, S w → (S w → wpAnyLast P md ops Q S ds fuel (listed.setIfInBounds i true) a w) → K' a w) → if Region.wanted o (yielded ops a.tmps) = true then Oper.wp P o a w K' Q else K' (a.put o.dst undef) w)
    (hs : AllReadyL P md ops Q S ds fuel listed a w rs) : AllReadyL P md ops Q S ds fuel listed a w (i :: rs) := fun j hj => by
  rcases List.mem_cons.1 hj with rfl | hj
  · exact wpOp_step ho (fun K' hK => h K' (fun a w hS hW => hK a w ⟨fun _ _ => hS, hW hS⟩))
  · exact hs j hj
theorem enters_ {f : FuncId} {fn : Func} (hf : P.funcs[f]? = some fn) (hname : (fn.name == "runtime.NumGoroutine") = false) (hb : fn.body.isSome = true) (args : Array Value) (w : World) : (callFunc f args).run P w = .ok (.enter f args) w := by
  have h1 : fn.name ≠ "runtime.NumGoroutine" := by simpa using hname
  obtain ⟨c, hc⟩ := Option.isSome_iff_exists.1 hb
  simp [callFunc, hf, h1, hc]
theorem goesL_ {rest : List Oper} {oi : Oper} {a : Act} {w : World} (N : Option Tmp) (hd : oi.dst = N) (hg : oi.guard = none) {f : FuncId} {fn : Func} {as : Array Operand} {ts : Array TypeId} (hf : P.funcs[f]? = some fn) (hname : (fn.name == "runtime.NumGoroutine") = false) (hb : fn.body.isSome = true) (args : Array Value)
    (hop : oi.op = .call { callee := .value (.func f), args := as, argTypes := ts }) (hargs : as.map a.eval = args)
    (h : Calls P f args w fun e w' => ∃ v, e = .returned v ∧ wpList P ops Q rest (a.put N v) w') : wpList P ops Q (oi :: rest) a w := by
  refine wpList_plain hg fun K hK => ?_
  have he := enters_ hf hname hb args w
  have hrun : (execOp a.eval oi).run P w = .ok (.enter f args) w := by
    unfold execOp
    simp [hop, resolve, Deferred.ofValue, invoke, Act.eval, hargs, he]
  unfold Oper.wp
  rw [hrun, Oper.upon_enter]
  refine h.mono fun e w'' hh => ?_
  obtain ⟨v, rfl, hk⟩ := hh
  subst hd
  exact hK _ _ hk
theorem i64_w (n : Int) : IntKind.i64.wrap n = Go.RowKit.wrap64 n := by unfold Go.RowKit.wrap64; exact IntKind.wrap_i64 n
theorem i32_w (n : Int) : IntKind.i32.wrap n = Go.RowKit.wrap32 n := by unfold Go.RowKit.wrap32; exact IntKind.wrap_i32 n
end
end Go.Proofs.YtgpkbehodmcbgaaW.PrintLast
end
