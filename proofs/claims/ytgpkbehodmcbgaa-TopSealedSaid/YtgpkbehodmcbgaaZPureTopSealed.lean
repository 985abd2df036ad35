/- Rows of numbers that are sealed, and put one behind the other as texts, are opened and read as what they were; with one byte turned in all of it, sealed, nothing is opened. No condition beyond the statement's own. -/
import Derived.Test.YtgpkbehodmcbgaaZPx1003
import Derived.Test.YtgpkbehodmcbgaaZPx30005
import Derived.Test.YtgpkbehodmcbgaaZNum
import Derived.Test.YtgpkbehodmcbgaaZWf
set_option linter.unusedVariables false
set_option linter.unusedSimpArgs false
namespace Go.Proofs.Ytgpkbehodmcbgaa.Pure
open Go.RowKit Go.Proofs.Ytgpkbehodmcbgaa.P Go.Proofs.YtgpkbehodmcbgaaW.PrintWords Go.Proofs.YtgpkbehodmcbgaaW.PrintLast Go.Proofs.YtgpkbehodmcbgaaW.PrintMore
def E0 : ByteArray := ⟨#[]⟩
theorem B_E0 : B E0 = [] := rfl
theorem E0_toList : E0.toList = ([] : List UInt8) := by rw [toList_B]; rfl
theorem E0_app (a : ByteArray) : E0 ++ a = a := by apply B_inj; rw [B_app, B_E0, List.nil_append]
theorem app_E0 (a : ByteArray) : a ++ E0 = a := by apply B_inj; rw [B_app, B_E0, List.append_nil]
theorem app_assoc (a b c : ByteArray) : (a ++ b) ++ c = a ++ (b ++ c) := by apply B_inj; rw [B_app, B_app, B_app, B_app, List.append_assoc]
theorem u8s_app (l m : List Int) : u8s (l ++ m) = u8s l ++ u8s m := by unfold u8s; rw [List.map_append]
theorem u8s_bytes (s : ByteArray) : u8s (bytesOf s) = B s := by
  unfold u8s bytesOf B
  rw [List.map_map]
  conv => rhs; rw [← List.map_id s.data.toList]
  apply List.map_congr_left
  intro b _
  simp
theorem u8s_len (l : List Int) : (u8s l).length = l.length := by unfold u8s; rw [List.length_map]
theorem getS_put (n : Nat) (h : n < 18446744073709551616) (s m : ByteArray) (hB : B s = u8s (nb n) ++ B m) : getS s = ((n : Int), m, 0) := by
  unfold getS
  rw [hB, getN_put n h]
  simp only [if_true]
  have : s.extract (nb n).length s.size = m := by
    apply B_inj
    rw [B_extract, List.take_of_length_le (by rw [B_len]; omega), hB, ← u8s_len (nb n), List.drop_left]
  rw [this]
theorem rd_nat (l : List Int) (i : Nat) (h : i < l.length) : rd l (i : Int) = l[i] := by
  first
    | (unfold rd; rw [List.getD_eq_getElem?_getD, Int.toNat_natCast, List.getElem?_eq_getElem h]; rfl)
    | (unfold rd; simp [h])
theorem rdL_nat (l : List (List Int)) (i : Nat) (h : i < l.length) : rd_L2 l (i : Int) = l[i] := by
  unfold rd_L2
  rw [List.getD_eq_getElem?_getD, Int.toNat_natCast, List.getElem?_eq_getElem h]
  rfl
def nbs (l : List Int) : List Int := l.flatMap fun x => nb x.toNat
def u64s (l : List Int) : Prop := ∀ x ∈ l, 0 ≤ x ∧ x < 18446744073709551616
theorem nbs_len (l : List Int) (h : u64s l) : (nbs l).length ≤ 10 * l.length := by
  induction l with
  | nil => exact Nat.le_refl _
  | cons x l ih =>
    have hx := h x (by simp)
    have := nb_len64 x.toNat (by omega)
    have := ih (fun y hy => h y (List.mem_cons_of_mem _ hy))
    unfold nbs at this ⊢
    rw [List.flatMap_cons, List.length_append, List.length_cons]
    omega
def rowL (l : List Int) : List Int := nb l.length ++ nbs l
theorem Row_l0 (l : List Int) (h : u64s l) (hl : l.length ≤ 4096) (d : Nat) : ∀ (i : Nat) (acc : List Int), i + d = l.length → acc.length ≤ 10 + 10 * i → Ev (fun k => num_Row.l0 k acc l (l.length : Int) i) (strOfNums (acc ++ nbs (l.drop i)), 0) := by
  induction d with
  | zero =>
    intro i acc hi ha
    refine Ev.step (fun k => ?_) (Ev.now _)
    simp only [num_Row.l0]
    rw [if_neg (by omega), List.drop_eq_nil_of_le (by omega)]
    unfold nbs
    rw [List.flatMap_nil, List.append_nil]
  | succ d ih =>
    intro i acc hi ha
    have hlt : i < l.length := by omega
    have hx := h l[i] (List.getElem_mem hlt)
    have hn := nb_len64 l[i].toNat (by omega)
    have e : ((l[i].toNat : Nat) : Int) = l[i] := by omega
    have ed : l.drop i = l[i] :: l.drop (i + 1) := List.drop_eq_getElem_cons hlt
    refine Ev.step (f := fun k => (num_Add.f k acc l[i]).bind fun t => num_Row.l0 k t l (l.length : Int) ((i + 1 : Nat) : Int)) (fun k => ?_) ?_
    · simp only [num_Row.l0]
      rw [if_pos (by omega), if_pos (by omega), if_pos (by omega), rd_nat _ i hlt, wrap_up i (by omega)]
    · have ha' := Add_ev l[i].toNat (by omega) acc (by omega)
      rw [e] at ha'
      refine Ev.bind ha' ?_
      have := ih (i + 1) (acc ++ nb l[i].toNat) (by omega) (by rw [List.length_append]; omega)
      rw [List.append_assoc] at this
      rw [ed]
      unfold nbs at this ⊢
      rw [List.flatMap_cons]
      exact this
theorem Row_ev (l : List Int) (h : u64s l) : Ev (fun k => num_Row.f k l) (if l.length > 4096 then (E0, 11) else (strOfNums (rowL l), 0)) := by
  unfold num_Row.f
  by_cases c : l.length > 4096
  · have c' : (l.length : Int) > 4096 := by omega
    simp only [if_pos c, if_pos c']
    exact Ev.now _
  · have c' : ¬ (l.length : Int) > 4096 := by omega
    simp only [if_neg c, if_neg c']
    have hn := nb_len64 l.length (by omega)
    refine Ev.bind (Add_ev l.length (by omega) [] (by simp)) ?_
    have := Row_l0 l h (by omega) l.length 0 ([] ++ nb l.length) (by omega) (by rw [List.nil_append]; omega)
    rw [List.drop_zero, List.nil_append] at this
    exact this
def textS (s : ByteArray) : ByteArray := strOfNums (nb s.size ++ bytesOf s)
theorem B_textS (s : ByteArray) : B (textS s) = u8s (nb s.size) ++ B s := by
  unfold textS
  rw [B_str, u8s_app, u8s_bytes]
theorem textS_size (s : ByteArray) : (textS s).size = (nb s.size).length + s.size := by
  rw [← B_len, B_textS, List.length_append, u8s_len, B_len]
theorem Text_ev (s : ByteArray) : Ev (fun k => num_Text.f k s) (if s.size > 32768 then (E0, 11) else (textS s, 0)) := by
  unfold num_Text.f
  by_cases c : s.size > 32768
  · have c' : (s.size : Int) > 32768 := by omega
    simp only [if_pos c, if_pos c']
    exact Ev.now _
  · have c' : ¬ (s.size : Int) > 32768 := by omega
    simp only [if_neg c, if_neg c']
    have hn := nb_len64 s.size (by omega)
    refine Ev.bind (Add_ev s.size (by omega) [] (by simp)) ?_
    rw [List.nil_append]
    have c2 : (nb s.size).length + s.size < 140737488355328 := by omega
    simp only [if_pos c2]
    exact Ev.now _
theorem Num_ev (n : Nat) (h : n < 18446744073709551616) (s m : ByteArray) (hs : s.size ≤ 9223372036854775806) (hB : B s = u8s (nb n) ++ B m) : Ev (fun k => num_Reader_Num.f k s 0) ((n : Int), m, 0) := by
  unfold num_Reader_Num.f
  simp only [if_true]
  have hg := Get_ev s hs
  rw [getS_put n h s m hB] at hg
  exact Ev.bind hg (Ev.now _)
theorem Many_ev (n : Nat) (q : Int) (h0 : (n : Int) ≤ q) (h1 : q ≤ 32768) (e : IntKind.u64.wrap q = q) (s m : ByteArray) (hs : s.size ≤ 9223372036854775806) (hB : B s = u8s (nb n) ++ B m) : Ev (fun k => num_Reader_Many.f k s 0 q) ((n : Int), m, 0) := by
  unfold num_Reader_Many.f
  refine Ev.bind (Num_ev n (by omega) s m hs hB) ?_
  have c : ¬ ((n : Int) > IntKind.u64.wrap q) := by rw [e]; omega
  simp only [if_neg c]
  have : wrap64 (n : Int) = n := by unfold wrap64; omega
  rw [this]
  exact Ev.now _
theorem GetText_ev (s m : ByteArray) (h : s.size ≤ 32768) (hm : m.size ≤ 1000000) : Ev (fun k => num_GetText.f k (textS s ++ m)) (s, m, 0) := by
  have hn := nb_len64 s.size (by omega)
  have hsz : (textS s ++ m).size = (nb s.size).length + s.size + m.size := by rw [ByteArray.size_append, textS_size]
  have hsm : (s ++ m).size = s.size + m.size := ByteArray.size_append
  have e1 : (s ++ m).extract 0 s.size = s := by apply B_inj; rw [B_extract, List.drop_zero, B_app, ← B_len, List.take_left]
  have e2 : (s ++ m).extract s.size (s ++ m).size = m := by
    apply B_inj; rw [B_extract, List.take_of_length_le (by rw [B_len]; omega), B_app, ← B_len s, List.drop_left]
  unfold num_GetText.f num_Reader_Text.f
  refine Ev.bind (a := (s, m, 0)) (Ev.bind (Many_ev s.size 32768 (by omega) (by omega) (by decide) _ (s ++ m) (by omega) (by rw [B_app, B_textS, B_app, List.append_assoc])) ?_) ?_
  · simp only [if_true]
    have c : decide (((s ++ m).size : Int) < (s.size : Int)) = false := decide_eq_false (by omega)
    rw [c]
    refine Ev.step (fun k => ?_) (Ev.now _)
    simp only [num_Reader_Text.j0, if_true]
    rw [if_neg (by decide), if_pos (by omega), if_pos (by omega), Int.toNat_natCast, e1, e2]
  · unfold num_done_string.f
    simp only [if_true, Option.bind_some]
    exact Ev.now _
theorem Parts_l0 (l : List Int) (h : u64s l) (hl : l.length ≤ 4096) (d : Nat) : ∀ i : Nat, i + d = l.length → Ev (fun k => num_Parts.l0 k (strOfNums (nbs (l.drop i))) 0 (l.take i) (l.length : Int) i) (l, E0, 0) := by
  induction d with
  | zero =>
    intro i hi
    refine Ev.step (fun k => ?_) (Ev.now _)
    simp only [num_Parts.l0]
    rw [if_neg (by omega), List.drop_eq_nil_of_le (by omega), List.take_of_length_le (by omega)]
    rfl
  | succ d ih =>
    intro i hi
    have hlt : i < l.length := by omega
    have hx := h l[i] (List.getElem_mem hlt)
    have e : ((l[i].toNat : Nat) : Int) = l[i] := by omega
    have ed : l.drop i = l[i] :: l.drop (i + 1) := List.drop_eq_getElem_cons hlt
    have ht : l.take (i + 1) = l.take i ++ [l[i]] := List.take_succ_eq_append_getElem hlt
    have hB : B (strOfNums (nbs (l.drop i))) = u8s (nb l[i].toNat) ++ B (strOfNums (nbs (l.drop (i + 1)))) := by
      rw [B_str, B_str, ed]
      unfold nbs
      rw [List.flatMap_cons, u8s_app]
    have hz := nbs_len (l.drop i) (fun y hy => h y (List.mem_of_mem_drop hy))
    rw [List.length_drop] at hz
    have hr := Num_ev l[i].toNat (by omega) (strOfNums (nbs (l.drop i))) _ (by rw [strOfNums_size]; omega) hB
    rw [e] at hr
    refine Ev.step (f := fun k => (num_Reader_Num.f k (strOfNums (nbs (l.drop i))) 0).bind fun t => if t.2.2 = 0 then (if (l.take i).length < 17592186044416 then num_Parts.l0 k t.2.1 t.2.2 (l.take i ++ [t.1]) (l.length : Int) ((i + 1 : Nat) : Int) else none) else some ([], t.2.1, t.2.2)) (fun k => ?_) (Ev.bind hr ?_)
    · simp only [num_Parts.l0]
      rw [if_pos (by omega), wrap_up i (by omega)]
    · have c : (l.take i).length < 17592186044416 := by rw [List.length_take]; omega
      simp only [if_true, if_pos c]
      have := ih (i + 1) (by omega)
      rw [ht] at this
      exact this
theorem GetRow_ev (l : List Int) (h : u64s l) (hl : l.length ≤ 4096) : Ev (fun k => num_GetRow.f k (strOfNums (rowL l))) (l, E0, 0) := by
  have hn := nb_len64 l.length (by omega)
  have hz := nbs_len l h
  unfold num_GetRow.f num_Parts.f
  have hs : (strOfNums (rowL l)).size ≤ 9223372036854775806 := by
    rw [strOfNums_size]; unfold rowL; rw [List.length_append]; omega
  have hB : B (strOfNums (rowL l)) = u8s (nb l.length) ++ B (strOfNums (nbs l)) := by
    rw [B_str, B_str]; unfold rowL; rw [u8s_app]
  refine Ev.bind (a := (l, E0, 0)) (Ev.bind (Many_ev l.length 4096 (by omega) (by omega) (by decide) _ _ hs hB) ?_) ?_
  · have := Parts_l0 l h hl l.length 0 (by omega)
    rw [List.drop_zero, List.take_zero] at this
    exact this
  · unfold num_done_uint64.f
    simp only [if_true, Option.bind_some]
    exact Ev.now _
theorem Open_turned (s : ByteArray) (hs : s.size ≤ 32768) (i : Nat) (b : Int) (hi : i < (sealed s).size) (g0 : 0 < b) (g1 : b < 256) : Ev (fun k => crc_Open.f k (Tools.turned (sealed s) i b)) (E0, 6) := by
  obtain ⟨l, x, y, m, e1, e2, hne, hl⟩ := turned_ne (sealed s) i b hi g0 g1
  have hz := sealed_size s
  have hzt := turned_size (sealed s) i b
  generalize Tools.turned (sealed s) i b = T at e2 hzt
  have ho := Open_ev T (by omega)
  have eb : B (sealed s) = B s ++ B (text4 (I (CrcMath.of (B s)))) := by unfold sealed; rw [B_app]
  have ef : B (front T) = (l ++ y :: m).take s.size := by rw [B_front, hzt, hz, Nat.add_sub_cancel, e2]
  have ek : back T = (l ++ y :: m).drop s.size := by unfold back; rw [hzt, hz, Nat.add_sub_cancel, e2]
  have es : B s = (l ++ x :: m).take s.size := by rw [← e1, eb, ← B_len, List.take_left]
  have et : B (text4 (I (CrcMath.of (B s)))) = (l ++ x :: m).drop s.size := by rw [← e1, eb, ← B_len, List.drop_left]
  have hbe : be (B (text4 (I (CrcMath.of (B s))))) = I (CrcMath.of (B s)) := be_text4 _ (I_lo _) (I_hi _)
  have key : ¬ be (back T) = I (CrcMath.of (B (front T))) := by
    intro e
    by_cases c : i < s.size
    · obtain ⟨p, hp⟩ : ∃ p, s.size = l.length + (p + 1) := ⟨s.size - i - 1, by omega⟩
      have h1 : back T = B (text4 (I (CrcMath.of (B s)))) := by
        rw [ek, et, hp, List.drop_append, List.drop_append]
        have : l.length + (p + 1) - l.length = p + 1 := by omega
        rw [this]
        rfl
      rw [h1, hbe] at e
      have e' := I_inj e
      rw [ef, es, hp, List.take_append, List.take_append] at e'
      have t1 : l.length + (p + 1) - l.length = p + 1 := by omega
      rw [t1, List.take_succ_cons, List.take_succ_cons, List.take_of_length_le (by omega)] at e'
      exact CrcMath.of_turned l (m.take p) y x (fun z => hne z.symm) e'.symm
    · have h1 : B (front T) = B s := by
        rw [ef, es, List.take_append_of_le_length (by omega), List.take_append_of_le_length (by omega)]
      rw [h1, ← hbe] at e
      have hlk : (back T).length = 4 := back_len T (by omega)
      have e' := be_inj hlk (by rw [B_len, text4_size]) e
      have : l ++ y :: m = l ++ x :: m := by
        rw [← List.take_append_drop s.size (l ++ y :: m), ← ek, ← ef, e', h1, et, es, List.take_append_drop]
      rw [List.append_cancel_left_eq] at this
      exact hne (by injection this with h _; exact h.symm)
  rw [if_neg (by omega), if_neg key] at ho
  exact ho
def item (r : List Int) : ByteArray := textS (sealed (strOfNums (rowL r)))
def okRow (r : List Int) : Prop := u64s r ∧ r.length ≤ 4096 ∧ (strOfNums (rowL r)).size ≤ 32768 ∧ (sealed (strOfNums (rowL r))).size ≤ 32768
def catS : List (List Int) → ByteArray
  | [] => E0
  | r :: l => item r ++ catS l
theorem item_size {r : List Int} (h : okRow r) : (item r).size ≤ 32778 := by
  obtain ⟨_, _, _, h4⟩ := h
  unfold item
  rw [textS_size]
  have := nb_len64 (sealed (strOfNums (rowL r))).size (by omega)
  omega
theorem catS_snoc (l : List (List Int)) (r : List Int) : catS (l ++ [r]) = catS l ++ item r := by
  induction l with
  | nil => show item r ++ E0 = E0 ++ item r; rw [E0_app, app_E0]
  | cons q l ih => show item q ++ catS (l ++ [r]) = (item q ++ catS l) ++ item r; rw [ih, app_assoc]
theorem catS_size (l : List (List Int)) (h : ∀ r ∈ l, okRow r) : (catS l).size ≤ 32778 * l.length := by
  induction l with
  | nil => exact Nat.zero_le _
  | cons r l ih =>
    show (item r ++ catS l).size ≤ _
    rw [ByteArray.size_append, List.length_cons]
    have := ih (fun q hq => h q (List.mem_cons_of_mem _ hq))
    have := item_size (h r (by simp))
    omega
theorem end_l1 (a1 a2 : Int) (h2 : 0 ≤ a2 ∧ a2 < 256) (l : List (List Int)) (h8 : l.length ≤ 8) (hok : ∀ r ∈ l, okRow r) : Ev (fun k => (crc_Sealed.f k (catS l)).bind fun bt163 => (if E0.toList = ([] : List UInt8) then (if bt163.2 = 0 then (if a1 < 0 then (some (E0.toList == ([] : List UInt8))) else (if a1 ≥ (bt163.1.size : Int) then (some (E0.toList == ([] : List UInt8))) else (if a2 = 0 then (some (E0.toList == ([] : List UInt8))) else ((crc_Open.f k (Tools.turned bt163.1 a1.toNat a2)).bind fun bt165 => (some (bt165.2 == 6)))))) else (some (E0.toList == ([] : List UInt8)))) else (some (E0.toList == ([] : List UInt8))))) true := by
  have hs := catS_size l hok
  have e0 : (E0.toList == ([] : List UInt8)) = true := by rw [E0_toList]; rfl
  refine Ev.bind (Sealed_ev (catS l) (by omega)) ?_
  simp only [if_pos E0_toList, e0]
  by_cases c : (catS l).size > 32768
  · simp only [if_pos c, if_neg (show ¬ (11 : Int) = 0 by decide)]
    exact Ev.now _
  · simp only [if_neg c, if_true]
    by_cases c1 : a1 < 0
    · simp only [if_pos c1]; exact Ev.now _
    · simp only [if_neg c1]
      by_cases c2 : a1 ≥ ((sealed (catS l)).size : Int)
      · simp only [if_pos c2]; exact Ev.now _
      · simp only [if_neg c2]
        by_cases c3 : a2 = 0
        · simp only [if_pos c3]; exact Ev.now _
        · simp only [if_neg c3]
          refine Ev.bind (Open_turned (catS l) (by omega) a1.toNat a2 (by omega) (by omega) h2.2) ?_
          exact Ev.now _
theorem l2_ev (a1 a2 : Int) (s : ByteArray) (r : List Int) (rest : ByteArray) (L : List (List Int)) (n j : Int) (hr : r.length ≤ 4096) (h : Ev (fun k => spoortop_TopSealed.l1 k a1 a2 s rest L n (wrap64 (j + 1))) true) (d : Nat) : ∀ i : Nat, i + d = r.length → Ev (fun k => spoortop_TopSealed.l2 k a1 a2 s r rest r L n j (r.length : Int) i) true := by
  induction d with
  | zero =>
    intro i hi
    refine Ev.step (fun k => ?_) h
    simp only [spoortop_TopSealed.l2]
    rw [if_neg (by omega)]
  | succ d ih =>
    intro i hi
    refine Ev.step (fun k => ?_) (ih (i + 1) (by omega))
    simp only [spoortop_TopSealed.l2]
    rw [if_pos (by omega), if_pos (by omega), if_pos (by omega), if_pos (by omega), if_true, wrap_up i (by omega)]
theorem l1_ev (a1 a2 : Int) (h2 : 0 ≤ a2 ∧ a2 < 256) (l : List (List Int)) (h8 : l.length ≤ 8) (hok : ∀ r ∈ l, okRow r) (d : Nat) : ∀ i : Nat, i + d = l.length → Ev (fun k => spoortop_TopSealed.l1 k a1 a2 (catS l) (catS (l.drop i)) l (l.length : Int) i) true := by
  induction d with
  | zero =>
    intro i hi
    have e : l.drop i = [] := List.drop_eq_nil_of_le (by omega)
    refine Ev.step (fun k => ?_) (end_l1 a1 a2 h2 l h8 hok)
    simp only [spoortop_TopSealed.l1]
    rw [if_neg (by omega), e]
    rfl
  | succ d ih =>
    intro i hi
    have hlt : i < l.length := by omega
    have ed : l.drop i = l[i] :: l.drop (i + 1) := List.drop_eq_getElem_cons hlt
    obtain ⟨o1, o2, o3, o4⟩ := hok l[i] (List.getElem_mem hlt)
    have hrest := catS_size (l.drop (i + 1)) (fun q hq => hok q (List.mem_of_mem_drop hq))
    rw [List.length_drop] at hrest
    have hgt := GetText_ev (sealed (strOfNums (rowL l[i]))) (catS (l.drop (i + 1))) o4 (by omega)
    have hop := Open_sealed (strOfNums (rowL l[i])) (by omega)
    have hgr := GetRow_ev l[i] o1 o2
    have ec : catS (l.drop i) = textS (sealed (strOfNums (rowL l[i]))) ++ catS (l.drop (i + 1)) := by rw [ed]; rfl
    rw [ec]
    have hend := l2_ev a1 a2 (catS l) l[i] (catS (l.drop (i + 1))) l (l.length : Int) (i : Int) o2 (by rw [wrap_up i (by omega)]; exact ih (i + 1) (by omega)) l[i].length 0 (by omega)
    refine Ev.step (fun k => by
      simp only [spoortop_TopSealed.l1]
      rw [if_pos (show (i : Int) < (l.length : Int) by omega), if_pos (show (0 : Int) ≤ (i : Int) by omega), if_pos (show (i : Int) < (l.length : Int) by omega), rdL_nat _ i hlt]) (Ev.bind hgt (Ev.bind hop (Ev.bind hgr ?_)))
    simp only [if_true, if_pos E0_toList]
    have hb : ((l[i].length : Int) != (l[i].length : Int)) = false := by simp
    rw [hb]
    refine Ev.step (fun k => ?_) hend
    simp only [spoortop_TopSealed.j2]
    rw [if_neg (by decide)]
    rfl
theorem l0_ev (a1 a2 : Int) (h2 : 0 ≤ a2 ∧ a2 < 256) (l : List (List Int)) (hl : l.length ≤ 140737488351232) (h64 : ∀ r ∈ l, u64s r) (d : Nat) : ∀ i : Nat, i + d = l.length → i ≤ 8 → (∀ r ∈ l.take i, okRow r) → Ev (fun k => spoortop_TopSealed.l0 k l a1 a2 (catS (l.take i)) l (l.length : Int) i) true := by
  induction d with
  | zero =>
    intro i hi h8 hok
    rw [List.take_of_length_le (by omega)] at hok ⊢
    have := l1_ev a1 a2 h2 l (by omega) hok l.length 0 (by omega)
    rw [List.drop_zero] at this
    refine Ev.step (fun k => ?_) this
    simp only [spoortop_TopSealed.l0]
    rw [if_neg (by omega)]
    rfl
  | succ d ih =>
    intro i hi h8 hok
    have hlt : i < l.length := by omega
    have ht : l.take (i + 1) = l.take i ++ [l[i]] := List.take_succ_eq_append_getElem hlt
    have o1 := h64 l[i] (List.getElem_mem hlt)
    have hrow := Row_ev l[i] o1
    have hrz : (if l[i].length > 4096 then (E0, (11 : Int)) else (strOfNums (rowL l[i]), 0)).1.size ≤ 1000000 := by
      by_cases c : l[i].length > 4096
      · rw [if_pos c]; exact Nat.zero_le _
      · rw [if_neg c]
        show (strOfNums (rowL l[i])).size ≤ _
        have := nbs_len l[i] o1
        have := nb_len64 l[i].length (by omega)
        rw [strOfNums_size]; unfold rowL; rw [List.length_append]; omega
    obtain ⟨p1, hp1⟩ : ∃ p, (if l[i].length > 4096 then (E0, (11 : Int)) else (strOfNums (rowL l[i]), 0)) = p := ⟨_, rfl⟩
    rw [hp1] at hrow hrz
    have hseal := Sealed_ev p1.1 (by omega)
    obtain ⟨p2, hp2⟩ : ∃ p, (if p1.1.size > 32768 then ((⟨#[]⟩ : ByteArray), (11 : Int)) else (sealed p1.1, 0)) = p := ⟨_, rfl⟩
    rw [hp2] at hseal
    have htext := Text_ev p2.1
    obtain ⟨p3, hp3⟩ : ∃ p, (if p2.1.size > 32768 then (E0, (11 : Int)) else (textS p2.1, 0)) = p := ⟨_, rfl⟩
    rw [hp3] at htext
    refine Ev.step (fun k => by
      simp only [spoortop_TopSealed.l0]
      rw [if_pos (show (i : Int) < (l.length : Int) by omega), if_pos (show (0 : Int) ≤ (i : Int) by omega), if_pos (show (i : Int) < (l.length : Int) by omega), rdL_nat _ i hlt]) (Ev.bind hrow (Ev.bind hseal (Ev.bind htext ?_)))
    by_cases c0 : (i : Int) ≥ 8
    · simp only [if_pos c0]; exact Ev.now _
    · simp only [if_neg c0]
      by_cases c1 : p1.2 = 0
      · simp only [if_pos c1]
        by_cases c2 : p2.2 = 0
        · simp only [if_pos c2]
          by_cases c3 : p3.2 = 0
          · simp only [if_pos c3]
            have r1 : ¬ l[i].length > 4096 := by intro z; rw [if_pos z] at hp1; rw [← hp1] at c1; exact absurd c1 (by decide)
            rw [if_neg r1] at hp1
            subst hp1
            have r2 : ¬ (strOfNums (rowL l[i])).size > 32768 := by intro z; rw [if_pos z] at hp2; rw [← hp2] at c2; exact absurd c2 (by decide)
            rw [if_neg r2] at hp2
            subst hp2
            have r3 : ¬ (sealed (strOfNums (rowL l[i]))).size > 32768 := by intro z; rw [if_pos z] at hp3; rw [← hp3] at c3; exact absurd c3 (by decide)
            rw [if_neg r3] at hp3
            subst hp3
            have hok' : okRow l[i] := ⟨o1, by omega, by omega, by omega⟩
            have hall : ∀ r ∈ l.take (i + 1), okRow r := by
              intro r hr
              rw [ht] at hr
              rcases List.mem_append.mp hr with h | h
              · exact hok r h
              · rw [List.mem_singleton] at h; rw [h]; exact hok'
            have hc := catS_size (l.take i) hok
            rw [List.length_take] at hc
            have hit : (textS (sealed (strOfNums (rowL l[i])))).size ≤ 32778 := item_size hok'
            have c4 : (catS (l.take i)).size + (textS (sealed (strOfNums (rowL l[i])))).size ≤ 9223372036854775807 := by omega
            simp only [if_pos c4]
            have := ih (i + 1) (by omega) (by omega) hall
            rw [ht, catS_snoc] at this
            rw [wrap_up i (by omega)]
            exact this
          · simp only [if_neg c3]; exact Ev.now _
        · simp only [if_neg c2]; exact Ev.now _
      · simp only [if_neg c1]; exact Ev.now _
theorem sealed_begins_ev : Ev (fun k => spoortop_begins.f k) true := Ev.of spoortop_begins.mono (k := 120) (by kernel_rfl)
theorem TopSealed : spoortop_TopSealed.Pure := by
  intro l a1 a2 hl h1 h2
  have g2 := wf_u8 h2
  have h64 : ∀ r ∈ l, u64s r := fun r hr x hx => wf_u64 ((hl.2 r hr).2 x hx)
  apply Ev.rounds
  unfold spoortop_TopSealed.f
  refine Ev.bind sealed_begins_ev ?_
  simp only [if_true]
  exact l0_ev a1 a2 g2 l (by omega) h64 l.length 0 (by omega) (by omega) (by rw [List.take_zero]; intro r hr; cases hr)
end Go.Proofs.Ytgpkbehodmcbgaa.Pure
