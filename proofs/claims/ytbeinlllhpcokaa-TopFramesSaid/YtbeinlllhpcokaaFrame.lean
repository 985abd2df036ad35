/- Frames: what is put, how long it is, what is read, one and all. -/
import Derived.Test.YtbeinlllhpcokaaPx7
import Derived.Test.YtbeinlllhpcokaaPx20
import Derived.Test.YtbeinlllhpcokaaPx23
import Derived.Test.YtbeinlllhpcokaaNum
import Derived.Test.YtbeinlllhpcokaaCrcEv2
set_option linter.unusedVariables false
set_option linter.unusedSimpArgs false
namespace Go.Proofs.Ytbeinlllhpcokaa.Pure
open Go.RowKit Go.Proofs.Ytbeinlllhpcokaa.P Go.Proofs.YtbeinlllhpcokaaW.PrintWords Go.Proofs.YtbeinlllhpcokaaW.PrintLast Go.Proofs.YtbeinlllhpcokaaW.PrintMore

def E0 : ByteArray := ⟨#[]⟩
theorem u8s_app (l m : List Int) : u8s (l ++ m) = u8s l ++ u8s m := by unfold u8s; rw [List.map_append]
theorem u8s_bytes (s : ByteArray) : u8s (bytesOf s) = B s := by
  unfold u8s bytesOf B
  rw [List.map_map]
  conv => rhs; rw [← List.map_id s.data.toList]
  apply List.map_congr_left
  intro b _
  simp
theorem u8s_len (l : List Int) : (u8s l).length = l.length := by unfold u8s; rw [List.length_map]
/-- a payload's frame. -/
def putS (p : ByteArray) : ByteArray := strOfNums (nb p.size) ++ text4 (I (CrcMath.of (B p))) ++ p
theorem B_putS (p : ByteArray) : B (putS p) = u8s (nb p.size) ++ (B (text4 (I (CrcMath.of (B p)))) ++ B p) := by
  unfold putS
  rw [B_app, B_app, B_str, List.append_assoc]
theorem putS_size (p : ByteArray) : (putS p).size = (nb p.size).length + 4 + p.size := by
  rw [← B_len, B_putS, List.length_append, List.length_append, u8s_len, B_len, B_len, text4_size, Nat.add_assoc]
theorem fright_f (n : Int) : frame_right.f n = some (decide (0 ≤ n ∧ n ≤ 4096)) := by
  unfold frame_right.f
  by_cases h : n ≥ 0
  · have h' : 0 ≤ n := h
    rw [if_pos h]
    simp [h']
  · have h' : ¬ 0 ≤ n := h
    rw [if_neg h]
    simp [h']
theorem FPut_ev (p : ByteArray) (hp : p.size ≤ 140737488351232) : Ev (fun k => frame_Put.f k p) (if p.size > 4096 then (E0, 11) else (putS p, 0)) := by
  unfold frame_Put.f
  simp only [fright_f, Option.bind_some]
  by_cases h : p.size > 4096
  · have h' : ¬ (0 ≤ (p.size : Int) ∧ (p.size : Int) ≤ 4096) := by omega
    simp only [if_pos h, decide_eq_false h']
    exact Ev.now _
  · have h' : 0 ≤ (p.size : Int) ∧ (p.size : Int) ≤ 4096 := by omega
    have hw : wrap64 ((p.size : Int) + 8) = ((p.size + 8 : Nat) : Int) := by unfold wrap64; omega
    have hu : IntKind.u64.wrap (p.size : Int) = (p.size : Int) := by rw [IntKind.wrap_u64]; omega
    have c1 : 0 ≤ ((p.size + 8 : Nat) : Int) := by omega
    have c2 : ((p.size + 8 : Nat) : Int).toNat ≤ 281474976710656 := by omega
    simp only [if_neg h, decide_eq_true h', if_true, hw, hu, if_pos c1, if_pos c2]
    refine Ev.bind (Add_ev p.size (by omega) [] (by decide)) ?_
    refine Ev.bind (Of_ev p (by omega)) ?_
    have hl := nb_len64 p.size (by omega)
    simp only [Text_f, Option.bind_some, List.nil_append]
    have c3 : (nb p.size).length + (text4 (I (CrcMath.of (B p)))).size < 140737488355328 := by rw [text4_size]; omega
    have c4 : (nb p.size ++ bytesOf (text4 (I (CrcMath.of (B p))))).length + p.size < 140737488355328 := by rw [List.length_append, bytesOf_length, text4_size]; omega
    simp only [if_pos c3, if_pos c4]
    have e : strOfNums ((nb p.size ++ bytesOf (text4 (I (CrcMath.of (B p))))) ++ bytesOf p) = putS p := by
      apply B_inj
      rw [B_str, B_putS, u8s_app, u8s_app, u8s_bytes, u8s_bytes, List.append_assoc]
    rw [e]
    exact Ev.now _
/-- how long a frame is. -/
def sizeS (n : Nat) : Nat := (nb n).length + 4 + n
def tailF (r : ByteArray) (n : Nat) : ByteArray × ByteArray × Int :=
  if n > 4096 then (E0, E0, 7) else if r.size < n + 4 then (E0, E0, 5)
  else if I (CrcMath.of (((B r).drop 4).take n)) = be ((B r).take 4) then (r.extract 4 (4 + n), r.extract (4 + n) r.size, 0) else (E0, E0, 6)
def nextS (s : ByteArray) : ByteArray × ByteArray × Int := if (getS s).2.2 = 0 then tailF (getS s).2.1 (getS s).1.toNat else (E0, E0, (getS s).2.2)
theorem getS_val (s : ByteArray) : 0 ≤ (getS s).1 := by unfold getS; split <;> simp
theorem getS_rest (s : ByteArray) (h : (getS s).2.2 = 0) : (getS s).2.1.size + 1 ≤ s.size := by
  unfold getS at h ⊢
  split at h
  · rename_i c
    rw [if_pos c]
    have := getN_used (B s) 0 0 c
    rw [B_len] at this
    show (s.extract _ _).size + 1 ≤ _
    rw [ByteArray.size_extract]
    omega
  · rename_i c
    exact absurd h c
theorem FNext_ev (s : ByteArray) (hs : s.size ≤ 9223372036854775806) : Ev (fun k => frame_Next.f k s) (nextS s) := by
  unfold frame_Next.f nextS
  refine Ev.bind (Get_ev s hs) ?_
  by_cases h : (getS s).2.2 = 0
  · simp only [if_pos h]
    have hr := getS_rest s h
    have hv := getS_val s
    generalize (getS s).2.1 = r at hr
    generalize hn : (getS s).1 = n at hv
    obtain ⟨m, rfl⟩ : ∃ m : Nat, n = m := ⟨n.toNat, by omega⟩
    unfold tailF
    rw [Int.toNat_natCast]
    by_cases c1 : m > 4096
    · have c1' : (m : Int) > 4096 := by omega
      simp only [if_pos c1, if_pos c1']
      exact Ev.now _
    · have c1' : ¬ (m : Int) > 4096 := by omega
      have hw1 : wrap64 ((r.size : Int) - 4) = (r.size : Int) - 4 := by unfold wrap64; omega
      have hw2 : wrap64 (m : Int) = (m : Int) := by unfold wrap64; omega
      simp only [if_neg c1, if_neg c1', hw1, hw2]
      by_cases c2 : r.size < m + 4
      · have c2' : (r.size : Int) - 4 < (m : Int) := by omega
        simp only [if_pos c2, if_pos c2']
        exact Ev.now _
      · have c2' : ¬ (r.size : Int) - 4 < (m : Int) := by omega
        simp only [if_neg c2, if_neg c2']
        have hrd := Read_ev r
        rw [if_neg (by omega)] at hrd
        refine Ev.bind hrd ?_
        have hz : (r.extract 4 r.size).size = r.size - 4 := by rw [ByteArray.size_extract]; omega
        have c3 : 0 ≤ (m : Int) := by omega
        have c4 : (m : Int) ≤ ((r.extract 4 r.size).size : Int) := by omega
        simp only [if_pos c3, if_pos c4, Int.toNat_natCast]
        have hBr : B (r.extract 4 r.size) = (B r).drop 4 := by rw [B_extract, List.take_of_length_le (by rw [B_len]; omega)]
        have e1 : (r.extract 4 r.size).extract 0 m = r.extract 4 (4 + m) := by
          apply B_inj
          rw [B_extract, hBr, B_extract, List.drop_zero, List.drop_take]
          congr 1
          omega
        have e2 : (r.extract 4 r.size).extract m (r.extract 4 r.size).size = r.extract (4 + m) r.size := by
          apply B_inj
          rw [B_extract, hBr, B_extract, List.take_of_length_le (by rw [List.length_drop, B_len, hz]; omega), List.take_of_length_le (by rw [B_len]; omega), List.drop_drop]
        have e3 : B (r.extract 4 (4 + m)) = ((B r).drop 4).take m := by
          rw [B_extract, List.drop_take]
          congr 1
          omega
        rw [e1, e2]
        refine Ev.bind (Of_ev _ (by rw [ByteArray.size_extract]; omega)) ?_
        rw [e3]
        by_cases c5 : I (CrcMath.of (((B r).drop 4).take m)) = be ((B r).take 4)
        · simp only [if_pos c5]
          exact Ev.now _
        · simp only [if_neg c5]
          exact Ev.now _
  · simp only [if_neg h]
    exact Ev.now _
theorem tailF_smaller (r : ByteArray) (n : Nat) (h : (tailF r n).2.2 = 0) : (tailF r n).2.1.size + 4 ≤ r.size := by
  unfold tailF at h ⊢
  split at h
  · exact absurd h (by simp)
  · rename_i c1
    rw [if_neg c1]
    split at h
    · exact absurd h (by simp)
    · rename_i c2
      rw [if_neg c2]
      split at h
      · rename_i c3
        rw [if_pos c3]
        show (r.extract (4 + n) r.size).size + 4 ≤ _
        rw [ByteArray.size_extract]
        omega
      · exact absurd h (by simp)
theorem nextS_smaller (s : ByteArray) (h : (nextS s).2.2 = 0) : (nextS s).2.1.size < s.size := by
  unfold nextS at h ⊢
  split at h
  · rename_i c
    rw [if_pos c]
    have h1 := tailF_smaller _ _ h
    have h2 := getS_rest s c
    omega
  · rename_i c
    exact absurd h c

/-! ### all -/
/-- the frames that bytes begin with, and what is behind each. -/
def parse (s : ByteArray) : List (ByteArray × ByteArray) := if h : (nextS s).2.2 = 0 then ((nextS s).1, (nextS s).2.1) :: parse (nextS s).2.1 else []
termination_by s.size
decreasing_by exact nextS_smaller s h
theorem parse_yes {s : ByteArray} (h : (nextS s).2.2 = 0) : parse s = ((nextS s).1, (nextS s).2.1) :: parse (nextS s).2.1 := by rw [parse]; exact dif_pos h
theorem parse_no {s : ByteArray} (h : ¬ (nextS s).2.2 = 0) : parse s = [] := by rw [parse]; exact dif_neg h
theorem each_ev (n : Nat) : ∀ s : ByteArray, s.size ≤ n → n ≤ 9223372036854775806 → Ev (fun k => frame_each k s) (parse s) := by
  induction n with
  | zero =>
    intro s hs hn
    have hz : ¬ (nextS s).2.2 = 0 := fun h => by have := nextS_smaller s h; omega
    rw [parse_no hz]
    refine Ev.step (f := fun k => (frame_Next.f k s).bind fun b => if b.2.2 = 0 then (frame_each k b.2.1).bind fun l => some ((b.1, b.2.1) :: l) else some []) (fun k => rfl) (Ev.bind (FNext_ev s (by omega)) ?_)
    simp only [if_neg hz]
    exact Ev.now _
  | succ n ih =>
    intro s hs hn
    refine Ev.step (f := fun k => (frame_Next.f k s).bind fun b => if b.2.2 = 0 then (frame_each k b.2.1).bind fun l => some ((b.1, b.2.1) :: l) else some []) (fun k => rfl) (Ev.bind (FNext_ev s (by omega)) ?_)
    by_cases hz : (nextS s).2.2 = 0
    · rw [parse_yes hz]
      simp only [if_pos hz]
      exact Ev.bind (ih _ (by have := nextS_smaller s hz; omega) (by omega)) (Ev.now _)
    · rw [parse_no hz]
      simp only [if_neg hz]
      exact Ev.now _
theorem parse_len (n : Nat) : ∀ s : ByteArray, s.size ≤ n → (parse s).length ≤ n := by
  induction n with
  | zero => intro s hs; rw [parse_no (fun h => by have := nextS_smaller s h; omega)]; simp
  | succ n ih =>
    intro s hs
    by_cases hz : (nextS s).2.2 = 0
    · rw [parse_yes hz]
      have := ih (nextS s).2.1 (by have := nextS_smaller s hz; omega)
      simp
      omega
    · rw [parse_no hz]; simp
theorem FAll_ev (s : ByteArray) (hs : s.size ≤ 9223372036854775806) (hl : (parse s).length ≤ 8796093022207) : Ev (fun k => frame_All.f k s) ((parse s).map (·.1), usedOf s (parse s)) := by
  unfold frame_All.f
  refine Ev.bind (each_ev s.size s (Nat.le_refl _) hs) ?_
  have c : (parse s).length ≤ 8796093022207 ∧ s.size ≤ 9223372036854775807 := ⟨hl, by omega⟩
  simp only [if_pos c]
  exact Ev.now _

/-! ### what was put is read -/
theorem getS_put (n : Nat) (h : n < 18446744073709551616) (s m : ByteArray) (hB : B s = u8s (nb n) ++ B m) : getS s = ((n : Int), m, 0) := by
  unfold getS
  rw [hB, getN_put n h]
  simp only [if_true]
  have : s.extract (nb n).length s.size = m := by
    apply B_inj
    rw [B_extract, List.take_of_length_le (by rw [B_len]; omega), hB, ← u8s_len (nb n), List.drop_left]
  rw [this]
theorem nextS_put (p m : ByteArray) (hp : p.size ≤ 4096) : nextS (putS p ++ m) = (p, m, 0) := by
  obtain ⟨r, hr⟩ : ∃ r : ByteArray, B r = B (text4 (I (CrcMath.of (B p)))) ++ B p ++ B m := ⟨text4 (I (CrcMath.of (B p))) ++ p ++ m, by rw [B_app, B_app]⟩
  have hg := getS_put p.size (by omega) (putS p ++ m) r (by rw [B_app, B_putS, hr]; simp)
  unfold nextS
  rw [hg]
  simp only [if_true, Int.toNat_natCast]
  have ht : (B (text4 (I (CrcMath.of (B p))))).length = 4 := by rw [B_len, text4_size]
  have hsz : r.size = 4 + p.size + m.size := by rw [← B_len, hr, List.length_append, List.length_append, ht, B_len, B_len]
  unfold tailF
  rw [if_neg (by omega), if_neg (by omega)]
  have e1 : (B r).take 4 = B (text4 (I (CrcMath.of (B p)))) := by rw [hr, List.append_assoc, ← ht, List.take_left]
  have e2 : (B r).drop 4 = B p ++ B m := by rw [hr, List.append_assoc, ← ht, List.drop_left]
  have e3 : ((B r).drop 4).take p.size = B p := by rw [e2, ← B_len, List.take_left]
  rw [e3, e1, be_text4 _ (I_lo _) (I_hi _), if_pos rfl]
  have e4 : r.extract 4 (4 + p.size) = p := by
    apply B_inj
    rw [B_extract, List.drop_take, Nat.add_sub_cancel_left, e3]
  have e5 : r.extract (4 + p.size) r.size = m := by
    apply B_inj
    rw [B_extract, List.take_of_length_le (by rw [B_len]; omega), ← List.drop_drop, e2, ← B_len, List.drop_left]
  rw [e4, e5]
end Go.Proofs.Ytbeinlllhpcokaa.Pure
