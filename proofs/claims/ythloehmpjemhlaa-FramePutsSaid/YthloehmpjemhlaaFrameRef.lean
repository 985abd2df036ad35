/- The document's frames come to the same. -/
import Derived.Test.YthloehmpjemhlaaPx2
import Derived.Test.YthloehmpjemhlaaPx7
import Derived.Test.YthloehmpjemhlaaPx6
import Derived.Test.YthloehmpjemhlaaPx1
import Derived.Test.YthloehmpjemhlaaFrame
import Derived.Test.YthloehmpjemhlaaNumRef
import Derived.Test.YthloehmpjemhlaaCrcRef
set_option linter.unusedVariables false
set_option linter.unusedSimpArgs false
namespace Go.Proofs.Ythloehmpjemhlaa.Pure
open Go.RowKit Go.Proofs.Ythloehmpjemhlaa.P Go.Proofs.YthloehmpjemhlaaW.PrintWords Go.Proofs.YthloehmpjemhlaaW.PrintLast Go.Proofs.YthloehmpjemhlaaW.PrintMore
theorem RText_f' (x : Int) (h0 : 0 ≤ x) : spoorref02_Text.f x = some (text4 x) := by
  unfold spoorref02_Text.f text4
  rw [Int.tdiv_eq_ediv_of_nonneg h0, Int.tdiv_eq_ediv_of_nonneg h0, Int.tdiv_eq_ediv_of_nonneg h0]
  have e1 : x / 16777216 % 4294967296 % 256 = x / 16777216 % 256 := by omega
  have e2 : x / 65536 % 4294967296 % 256 = x / 65536 % 256 := by omega
  have e3 : x / 256 % 4294967296 % 256 = x / 256 % 256 := by omega
  rw [e1, e2, e3]
theorem RFPut_ev (p : ByteArray) (hp : p.size ≤ 140737488351232) : Ev (fun k => spoorref04_Put.f k p) (if p.size > 4096 then (E0, 11) else (putS p, 0)) := by
  unfold spoorref04_Put.f
  by_cases h : p.size > 4096
  · have h' : (p.size : Int) > 4096 := by omega
    simp only [if_pos h, if_pos h']
    exact Ev.now _
  · have h' : ¬ (p.size : Int) > 4096 := by omega
    simp only [if_neg h, if_neg h']
    refine Ev.bind (RPut_ev p.size (by omega)) (Ev.bind (ROf_ev p (by omega)) ?_)
    have hl := nb_len64 p.size (by omega)
    simp only [RText_f' _ (I_lo _), Option.bind_some]
    have c1 : (strOfNums (nb p.size)).size + (text4 (I (CrcMath.of (B p)))).size ≤ 9223372036854775807 := by rw [strOfNums_size, text4_size]; omega
    have c2 : (strOfNums (nb p.size) ++ text4 (I (CrcMath.of (B p)))).size + p.size ≤ 9223372036854775807 := by rw [ByteArray.size_append, strOfNums_size, text4_size]; omega
    simp only [if_pos c1, if_pos c2]
    exact Ev.now _
theorem RFSize_ev (n : Int) : Ev (fun k => spoorref04_Size.f k n) (if 0 ≤ n ∧ n ≤ 4096 then ((sizeS n.toNat : Int), 0) else (0, 1)) := by
  unfold spoorref04_Size.f
  by_cases h : 0 ≤ n ∧ n ≤ 4096
  · have c1 : ¬ n < 0 := by omega
    have c2 : ¬ n > 4096 := by omega
    simp only [if_pos h, if_neg c1, if_neg c2]
    obtain ⟨m, rfl⟩ : ∃ m : Nat, n = m := ⟨n.toNat, by omega⟩
    have hu : IntKind.u64.wrap (m : Int) = (m : Int) := by rw [IntKind.wrap_u64]; omega
    have hl := nb_len64 m (by omega)
    rw [hu]
    refine Ev.bind (RPut_ev m (by omega)) ?_
    rw [strOfNums_size, Int.toNat_natCast]
    have : wrap64 (wrap64 (((nb m).length : Int) + 4) + (m : Int)) = (sizeS m : Int) := by unfold wrap64 sizeS; omega
    rw [this]
    exact Ev.now _
  · by_cases c1 : n < 0
    · simp only [if_neg h, if_pos c1]
      exact Ev.now _
    · have c2 : n > 4096 := by omega
      simp only [if_neg h, if_neg c1, if_pos c2]
      exact Ev.now _
theorem RFNext_ev (s : ByteArray) (hs : s.size ≤ 9223372036854775000) : Ev (fun k => spoorref04_Next.f k s) (nextS s) := by
  unfold spoorref04_Next.f nextS
  refine Ev.bind (RGet_ev s (by omega)) ?_
  by_cases h : (getS s).2.2 = 0
  · simp only [if_pos h]
    have hr := getS_rest s h
    have hv := getS_val s
    generalize (getS s).2.1 = r at hr
    generalize hn : (getS s).1 = n at hv
    obtain ⟨m, rfl⟩ : ∃ m : Nat, n = m := ⟨n.toNat, by omega⟩
    unfold tailF
    rw [Int.toNat_natCast]
    by_cases c1 : m > 4096
    · have c1' : (m : Int) > 4096 := by omega
      simp only [if_pos c1, if_pos c1']
      exact Ev.now _
    · have c1' : ¬ (m : Int) > 4096 := by omega
      have hw1 : IntKind.u64.wrap (r.size : Int) = (r.size : Int) := by rw [IntKind.wrap_u64]; omega
      have hw2 : IntKind.u64.wrap ((m : Int) + 4) = ((m + 4 : Nat) : Int) := by rw [IntKind.wrap_u64]; omega
      simp only [if_neg c1, if_neg c1', hw1, hw2]
      by_cases c2 : r.size < m + 4
      · have c2' : (r.size : Int) < ((m + 4 : Nat) : Int) := by omega
        simp only [if_pos c2, if_pos c2']
        exact Ev.now _
      · have c2' : ¬ (r.size : Int) < ((m + 4 : Nat) : Int) := by omega
        have c3 : 4 ≤ ((m + 4 : Nat) : Int) := by omega
        have c4 : ((m + 4 : Nat) : Int) ≤ (r.size : Int) := by omega
        have c5 : (0 : Int) ≤ 4 := by decide
        have c6 : 4 ≤ (r.size : Int) := by omega
        have c7 : 0 ≤ ((m + 4 : Nat) : Int) := by omega
        have c5' : (0 : Nat) ≤ 4 := by decide
        simp only [if_neg c2, if_neg c2', if_pos c3, if_pos c4, if_pos c5, if_pos c6, if_pos c7, if_pos c5', Int.toNat_natCast]
        have e0 : m + 4 = 4 + m := by omega
        have e3 : B (r.extract 4 (4 + m)) = ((B r).drop 4).take m := by
          rw [B_extract, List.drop_take]
          congr 1
          omega
        rw [e0]
        refine Ev.bind (ROf_ev _ (by rw [ByteArray.size_extract]; omega)) ?_
        rw [e3]
        simp only [RText_f' _ (I_lo _), Option.bind_some]
        have e4 : ((r.extract 0 4).toList = (text4 (I (CrcMath.of (((B r).drop 4).take m)))).toList) ↔ I (CrcMath.of (((B r).drop 4).take m)) = be ((B r).take 4) := by
          have hl4 : ((B r).take 4).length = 4 := by rw [List.length_take, B_len]; omega
          rw [toList_B, toList_B, B_extract, List.drop_zero]
          constructor
          · intro z
            rw [z, be_text4 _ (I_lo _) (I_hi _)]
          · intro z
            rw [z]
            have hr4 := be_range hl4
            exact (be_inj (by rw [B_len]; exact text4_size _) hl4 (be_text4 _ hr4.1 hr4.2)).symm
        by_cases c8 : I (CrcMath.of (((B r).drop 4).take m)) = be ((B r).take 4)
        · simp only [if_pos c8, if_pos (e4.mpr c8)]
          exact Ev.now _
        · simp only [if_neg c8, if_neg (fun z => c8 (e4.mp z))]
          exact Ev.now _
  · simp only [if_neg h]
    exact Ev.now _
/-- what is behind the frames. -/
def behind (s : ByteArray) (xs : List (ByteArray × ByteArray)) : ByteArray := match xs.getLast? with | none => s | some x => x.2
theorem behind_cons (s : ByteArray) (x : ByteArray × ByteArray) (xs : List (ByteArray × ByteArray)) : behind s (x :: xs) = behind x.2 xs := by
  unfold behind
  cases xs with
  | nil => rfl
  | cons y ys => rw [List.getLast?_cons_cons]; cases h : (y :: ys).getLast? with
    | none => exact absurd h (by simp)
    | some z => rfl
theorem usedOf_behind (s : ByteArray) (xs : List (ByteArray × ByteArray)) (hs : s.size ≤ 9223372036854775000) (hx : (behind s xs).size ≤ s.size) : usedOf s xs = wrap64 ((s.size : Int) - ((behind s xs).size : Int)) := by
  unfold usedOf behind
  cases xs.getLast? with
  | none => simp [wrap64]
  | some x => rfl
theorem behind_le (n : Nat) : ∀ s : ByteArray, s.size ≤ n → (behind s (parse s)).size ≤ s.size := by
  induction n with
  | zero => intro s hs; rw [parse_no (fun h => by have := nextS_smaller s h; omega)]; exact Nat.le_refl _
  | succ n ih =>
    intro s hs
    by_cases hz : (nextS s).2.2 = 0
    · rw [parse_yes hz, behind_cons]
      have h1 := nextS_smaller s hz
      have := ih (nextS s).2.1 (by omega)
      show (behind (nextS s).2.1 _).size ≤ _
      omega
    · rw [parse_no hz]; exact Nat.le_refl _
theorem RAll_l0 (s0 : ByteArray) (n : Nat) : ∀ (s : ByteArray) (out : List ByteArray), s.size ≤ n → n ≤ 9223372036854775000 → out.length + n < 8796093022208 → Ev (fun k => spoorref04_All.l0 k s0 out s) (out ++ (parse s).map (·.1), wrap64 ((s0.size : Int) - ((behind s (parse s)).size : Int))) := by
  induction n with
  | zero =>
    intro s out hs hn hl
    have hz : ¬ (nextS s).2.2 = 0 := fun h => by have := nextS_smaller s h; omega
    rw [parse_no hz, List.map_nil, List.append_nil]
    refine Ev.step (f := fun k => (spoorref04_Next.f k s).bind fun b => if b.2.2 = 0 then (if out.length < 8796093022208 then spoorref04_All.l0 k s0 (out ++ [b.1]) b.2.1 else none) else some (out, wrap64 ((s0.size : Int) - (s.size : Int)))) (fun k => rfl) (Ev.bind (RFNext_ev s (by omega)) ?_)
    simp only [if_neg hz]
    exact Ev.now _
  | succ n ih =>
    intro s out hs hn hl
    refine Ev.step (f := fun k => (spoorref04_Next.f k s).bind fun b => if b.2.2 = 0 then (if out.length < 8796093022208 then spoorref04_All.l0 k s0 (out ++ [b.1]) b.2.1 else none) else some (out, wrap64 ((s0.size : Int) - (s.size : Int)))) (fun k => rfl) (Ev.bind (RFNext_ev s (by omega)) ?_)
    by_cases hz : (nextS s).2.2 = 0
    · have c : out.length < 8796093022208 := by omega
      rw [parse_yes hz, behind_cons]
      simp only [if_pos hz, if_pos c]
      have := ih (nextS s).2.1 (out ++ [(nextS s).1]) (by have := nextS_smaller s hz; omega) (by omega) (by rw [List.length_append]; simp; omega)
      rw [List.append_assoc] at this
      exact this
    · rw [parse_no hz, List.map_nil, List.append_nil]
      simp only [if_neg hz]
      exact Ev.now _
/-- so many are taken by the program and by the document alike. -/
theorem Take_both (many : Int) (n : Nat) : ∀ (s : ByteArray) (out : List ByteArray), s.size ≤ n → n ≤ 9223372036854775000 → out.length + n < 8796093022208 →
    ∃ r, Ev (fun k => frame_Take.l0 k s many out) r ∧ Ev (fun k => spoorref04_Take.l0 k s many out (out.length : Int)) r ∧ r.1.length ≤ out.length + n := by
  induction n with
  | zero =>
    intro s out hs hn hl
    by_cases c : (out.length : Int) < many
    · have hz : ¬ (nextS s).2.2 = 0 := fun h => by have := nextS_smaller s h; omega
      refine ⟨([], E0, (nextS s).2.2), Ev.step (f := fun k => (frame_Next.f k s).bind fun b => if b.2.2 = 0 then (if out.length < 8796093022208 then frame_Take.l0 k b.2.1 many (out ++ [b.1]) else none) else some ([], E0, b.2.2)) (fun k => ?_) (Ev.bind (FNext_ev s (by omega)) ?_), Ev.step (f := fun k => (spoorref04_Next.f k s).bind fun b => if b.2.2 = 0 then (if out.length < 8796093022208 then spoorref04_Take.l0 k b.2.1 many (out ++ [b.1]) (wrap64 ((out.length : Int) + 1)) else none) else some ([], E0, b.2.2)) (fun k => ?_) (Ev.bind (RFNext_ev s (by omega)) ?_), by simp⟩
      · simp only [frame_Take.l0]; rw [if_pos c]; rfl
      · simp only [if_neg hz]; exact Ev.now _
      · simp only [spoorref04_Take.l0]; rw [if_pos c]; rfl
      · simp only [if_neg hz]; exact Ev.now _
    · refine ⟨(out, s, 0), Ev.step (fun k => ?_) (Ev.now _), Ev.step (fun k => ?_) (Ev.now _), Nat.le_refl _⟩
      · simp only [frame_Take.l0]; rw [if_neg c]
      · simp only [spoorref04_Take.l0]; rw [if_neg c]
  | succ n ih =>
    intro s out hs hn hl
    by_cases c : (out.length : Int) < many
    · by_cases hz : (nextS s).2.2 = 0
      · have c2 : out.length < 8796093022208 := by omega
        obtain ⟨r, h1, h2, h3⟩ := ih (nextS s).2.1 (out ++ [(nextS s).1]) (by have := nextS_smaller s hz; omega) (by omega) (by rw [List.length_append]; simp; omega)
        have hw : wrap64 ((out.length : Int) + 1) = (((out ++ [(nextS s).1]).length : Nat) : Int) := by rw [List.length_append]; unfold wrap64; simp; omega
        refine ⟨r, Ev.step (f := fun k => (frame_Next.f k s).bind fun b => if b.2.2 = 0 then (if out.length < 8796093022208 then frame_Take.l0 k b.2.1 many (out ++ [b.1]) else none) else some ([], E0, b.2.2)) (fun k => ?_) (Ev.bind (FNext_ev s (by omega)) ?_), Ev.step (f := fun k => (spoorref04_Next.f k s).bind fun b => if b.2.2 = 0 then (if out.length < 8796093022208 then spoorref04_Take.l0 k b.2.1 many (out ++ [b.1]) (wrap64 ((out.length : Int) + 1)) else none) else some ([], E0, b.2.2)) (fun k => ?_) (Ev.bind (RFNext_ev s (by omega)) ?_), ?_⟩
        · simp only [frame_Take.l0]; rw [if_pos c]; rfl
        · simp only [if_pos hz, if_pos c2]; exact h1
        · simp only [spoorref04_Take.l0]; rw [if_pos c]; rfl
        · simp only [if_pos hz, if_pos c2, hw]; exact h2
        · rw [List.length_append] at h3; simp at h3; omega
      · refine ⟨([], E0, (nextS s).2.2), Ev.step (f := fun k => (frame_Next.f k s).bind fun b => if b.2.2 = 0 then (if out.length < 8796093022208 then frame_Take.l0 k b.2.1 many (out ++ [b.1]) else none) else some ([], E0, b.2.2)) (fun k => ?_) (Ev.bind (FNext_ev s (by omega)) ?_), Ev.step (f := fun k => (spoorref04_Next.f k s).bind fun b => if b.2.2 = 0 then (if out.length < 8796093022208 then spoorref04_Take.l0 k b.2.1 many (out ++ [b.1]) (wrap64 ((out.length : Int) + 1)) else none) else some ([], E0, b.2.2)) (fun k => ?_) (Ev.bind (RFNext_ev s (by omega)) ?_), by simp⟩
        · simp only [frame_Take.l0]; rw [if_pos c]; rfl
        · simp only [if_neg hz]; exact Ev.now _
        · simp only [spoorref04_Take.l0]; rw [if_pos c]; rfl
        · simp only [if_neg hz]; exact Ev.now _
    · refine ⟨(out, s, 0), Ev.step (fun k => ?_) (Ev.now _), Ev.step (fun k => ?_) (Ev.now _), by simp⟩
      · simp only [frame_Take.l0]; rw [if_neg c]
      · simp only [spoorref04_Take.l0]; rw [if_neg c]
end Go.Proofs.Ythloehmpjemhlaa.Pure
