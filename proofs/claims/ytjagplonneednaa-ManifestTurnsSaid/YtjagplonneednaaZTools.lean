/- Small lemmas on memory for functions that are walked by hand. -/
import Derived.Test.YtjagplonneednaaZWWords
import Derived.Lib.ConvBytes
import Derived.ArgAppend
import Derived.RangeFuncBox
import Derived.RangeFuncNested
set_option linter.unusedVariables false
set_option linter.unusedSimpArgs false
namespace Go.Proofs.Ytjagplonneednaa.Tools
open Go.RowKit Go.Proofs.YtjagplonneednaaW.PrintWords
def nums8 (s : ByteArray) : List Int := s.data.toList.map fun b => (b.toNat : Int)
theorem nums8_len (s : ByteArray) : (nums8 s).length = s.size := by unfold nums8; rw [List.length_map, Array.length_toList]; rfl
structure Room (w : World) (g c : Nat) (l : List Int) : Prop where
  le : l.length ≤ c
  is : ∀ i, i < c → (w.cell? ⟨g, i, none⟩).isSome = true
  free : ∀ i, i < c → w.frozen? ⟨g, i, none⟩ = false
  at_ : ∀ i, i < l.length → w.cell? ⟨g, i, none⟩ = some (.int .u8 (l.getD i 0))
theorem Room.alloc {w : World} {g c : Nat} {l : List Int} (h : Room w g c l) (hg : g < w.heap.size) (o : Obj) : Room (w.alloc o) g c l :=
  ⟨h.le, fun i hi => by rw [World.cell?_alloc_lt _ _ _ hg]; exact h.is i hi, fun i hi => by rw [World.frozen?_alloc_old _ _ _ (Nat.ne_of_lt hg)]; exact h.free i hi, fun i hi => by rw [World.cell?_alloc_lt _ _ _ hg]; exact h.at_ i hi⟩
theorem Room.append {P : Program} {w : World} {g c : Nat} {l : List Int} (h : Room w g c l) (hl : l.length < c) (hg : g < w.heap.size) (x : Int) (t ty e : TypeId) (ht : P.underlying t = some (.slice e)) {i0 : TypeInfo} (hi : P.info? e = some i0) (h1 : i0.size = 1) :
    (Builtin.append_ #[t, t] ty #[.slice (some ⟨g, 0, none⟩) l.length c, .slice (some ⟨w.heap.size, 0, none⟩) 1 1]).run P (w.alloc (.cells #[.int .u8 x] e)) = .ok (.slice (some ⟨g, 0, none⟩) (l.length + 1) c) ((w.alloc (.cells #[.int .u8 x] e)).setCell ⟨g, l.length, none⟩ (.int .u8 x)) := by
  have h2 := h.alloc hg (.cells #[.int .u8 x] e)
  have := run_append_room_cells (P := P) (w.alloc (.cells #[.int .u8 x] e)) t ty e i0 ht hi g 0 l.length c ⟨w.heap.size, 0, none⟩ 1 1 [.int .u8 x] (by simp [h1]) (fun j u hj => by
      cases j with
      | zero => simp at hj; subst hj; exact World.cell?_alloc_new w _ _ 0
      | succ j => simp at hj) (by simp [Value.oneCell']) (by omega) (fun j hj => by simp at hj; subst hj; simp only [h1, Nat.mul_one, Nat.zero_add, Nat.add_zero]; exact h2.is _ hl) (fun j hj => by simp at hj; subst hj; simp only [h1, Nat.mul_one, Nat.zero_add, Nat.add_zero]; exact h2.free _ hl)
  simp only [h1, Nat.mul_one, Nat.zero_add] at this
  exact this
end Go.Proofs.Ytjagplonneednaa.Tools
