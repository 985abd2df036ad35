/- Without the document: behind a crash each sector is what was flushed, or one of the writes since, but for the torn one, of which each byte is so. No condition beyond the statement's own. -/
import Derived.Test.YtbglcbjbjgjebaaPx27
import Derived.Test.YtbglcbjbjgjebaaDiskRight
set_option linter.unusedVariables false
set_option linter.unusedSimpArgs false
namespace Go.Proofs.Ytbglcbjbjgjebaa.Pure
open Go.RowKit Go.Proofs.Ytbglcbjbjgjebaa.P Go.Proofs.YtbglcbjbjgjebaaW.PrintWords Go.Proofs.YtbglcbjbjgjebaaW.PrintLast Go.Proofs.YtbglcbjbjgjebaaW.PrintMore
theorem bt_nat (s : ByteArray) (k : Nat) (h : k < s.size) : bt s (k : Int) = (s[k].toNat : Int) := by
  have h' : (k : Int).toNat < s.size := by omega
  unfold bt
  rw [dif_pos h']
  rfl
theorem bt_torn (a b : ByteArray) (n k : Nat) (ha : a.size = 128) (hb : b.size = 128) (hn : n ≤ 128) (hk : k < 128) : bt (a.extract 0 n ++ b.extract n b.size) (k : Int) = if k < n then bt a (k : Int) else bt b (k : Int) := by
  have hsa : (a.extract 0 n).size = n := by rw [ByteArray.size_extract]; omega
  have hsb : (b.extract n b.size).size = 128 - n := by rw [ByteArray.size_extract]; omega
  have hs : (a.extract 0 n ++ b.extract n b.size).size = 128 := by rw [ByteArray.size_append]; omega
  rw [bt_nat _ k (by omega)]
  by_cases h : k < n
  · rw [if_pos h, bt_nat a k (by omega), ByteArray.getElem_append_left (by omega), ByteArray.getElem_extract]
    congr 2
    congr 1
    omega
  · rw [if_neg h, bt_nat b k (by omega), ByteArray.getElem_append_right (by omega), ByteArray.getElem_extract]
    congr 2
    congr 1
    omega
/-- what a sector is behind the first m writes' fates. -/
def Fate (S : List ByteArray) (C : List S40) (torn : Int) (m i : Nat) (s : ByteArray) : Prop :=
  (s = rdOf ByteArray.empty S (i : Int) ∨ (∃ p ∈ C, p.f0 = (i : Int) ∧ p.f1 = s) ∨ (0 ≤ torn ∧ torn < (m : Int) ∧ (rd_T40 C torn).f0 = (i : Int))) ∧
  ∀ k : Nat, k < 128 → bt s (k : Int) = bt (rdOf ByteArray.empty S (i : Int)) (k : Int) ∨ ∃ p ∈ C, p.f0 = (i : Int) ∧ bt p.f1 (k : Int) = bt s (k : Int)
theorem fate_of (K : List Bool) (torn : Int) (n : Nat) (hn : n ≤ 128) (S : List ByteArray) (C : List S40) (f : Int) (h : RightDisk S C f) (i : Nat) (hi : i < S.length) : ∀ m : Nat, m ≤ C.length → Right (crashN K torn n S C m) ∧ Fate S C torn m i (rdOf ByteArray.empty (crashN K torn n S C m) (i : Int)) := by
  intro m
  induction m with
  | zero => intro _; exact ⟨h.2.2.2.2.1, .inl rfl, fun k _ => .inl rfl⟩
  | succ m ih =>
    intro hm
    have hlt : m < C.length := hm
    obtain ⟨hR, hA, hB⟩ := ih (by omega)
    have hcd : C.getD m z40 = C[m] := by rw [List.getD_eq_getElem?_getD, List.getElem?_eq_getElem hlt]; rfl
    obtain ⟨p0, p1, p2⟩ := h.2.2.2.2.2 C[m] (List.getElem_mem hlt)
    have hl := crashN_len K torn n S C m
    have ht : crashN K torn n S C (m + 1) = crashStep K torn n m C[m] (crashN K torn n S C m) := by rw [← hcd]; rfl
    have hR2 := crashStep_right (K := K) (torn := torn) (i := m) hR hn p2 p0 (by rw [hl]; exact p1)
    rw [← ht] at hR2
    refine ⟨hR2, ?_⟩
    have hold := hR _ (rdOf_mem (crashN K torn n S C m) C[m].f0 p0 (by rw [hl]; exact p1))
    have same : ∀ v : ByteArray, ¬ C[m].f0 = (i : Int) → rdOf ByteArray.empty ((crashN K torn n S C m).set C[m].f0.toNat v) (i : Int) = rdOf ByteArray.empty (crashN K torn n S C m) (i : Int) := by
      intro v e
      rw [rdE _ i (by rw [List.length_set]; omega), rdE _ i (by omega), List.getElem_set_ne (by omega)]
    have put : ∀ v : ByteArray, C[m].f0 = (i : Int) → rdOf ByteArray.empty ((crashN K torn n S C m).set C[m].f0.toNat v) (i : Int) = v := by
      intro v e
      rw [rdE _ i (by rw [List.length_set]; omega), List.getElem_set, if_pos (by omega)]
    have keep : Fate S C torn (m + 1) i (rdOf ByteArray.empty (crashN K torn n S C m) (i : Int)) := ⟨by
      rcases hA with z | z | z
      · exact .inl z
      · exact .inr (.inl z)
      · exact .inr (.inr ⟨z.1, by omega, z.2.2⟩), hB⟩
    rw [ht]
    unfold crashStep
    by_cases e : C[m].f0 = (i : Int)
    · by_cases c : (m : Int) = torn
      · rw [if_pos c, put _ e]
        refine ⟨.inr (.inr ⟨by omega, by omega, ?_⟩), fun k hk => ?_⟩
        · rw [← c, rdP C m hlt]; exact e
        · have hsz : (rdOf (⟨#[]⟩ : ByteArray) (crashN K torn n S C m) C[m].f0).size = 128 := hold
          have hb := bt_torn C[m].f1 (rdOf (⟨#[]⟩ : ByteArray) (crashN K torn n S C m) C[m].f0) n k p2 hsz hn hk
          rw [hb]
          by_cases q : k < n
          · rw [if_pos q]
            exact .inr ⟨C[m], List.getElem_mem hlt, e, rfl⟩
          · rw [if_neg q]
            have he : rdOf (⟨#[]⟩ : ByteArray) (crashN K torn n S C m) C[m].f0 = rdOf ByteArray.empty (crashN K torn n S C m) (i : Int) := by rw [e]; rfl
            rw [he]
            exact hB k hk
      · rw [if_neg c]
        split
        · rw [put _ e]
          exact ⟨.inr (.inl ⟨C[m], List.getElem_mem hlt, e, rfl⟩), fun k _ => .inr ⟨C[m], List.getElem_mem hlt, e, rfl⟩⟩
        · exact keep
    · split
      · rw [same _ e]; exact keep
      · split
        · rw [same _ e]; exact keep
        · exact keep
theorem drop_split {α : Type} {Q : α → Prop} (l : List α) (j : Nat) (h : j < l.length) (hq : ∃ p ∈ l.drop j, Q p) : Q l[j] ∨ ∃ p ∈ l.drop (j + 1), Q p := by
  obtain ⟨p, hp, q⟩ := hq
  rw [List.drop_eq_getElem_cons h] at hp
  rcases List.mem_cons.1 hp with z | z
  · rw [z] at q; exact .inl q
  · exact .inr ⟨p, z, q⟩
theorem drop_none {α : Type} {Q : α → Prop} (l : List α) (hq : ∃ p ∈ l.drop l.length, Q p) : False := by
  obtain ⟨p, hp, _⟩ := hq
  rw [List.drop_length] at hp
  exact absurd hp (by simp)
variable {S : List ByteArray} {C : List S40} {f : Int} {o : Bool} {torn : Int} {T : List ByteArray} {L : Int} {x : Int} {i : Nat} {s : ByteArray}
theorem Torn_l3 (h : RightDisk S C f) (hs : s.size = 128) {b : Nat} (hb : b < 128) (hx : (b : Int) + 1 < 9223372036854775807) (cont : Ev (fun k => spoorlaw03_DiskTorn.l2 k torn (i : Int) s T L x (s.size : Int) ((b + 1 : Nat) : Int) S C f o) true) (d : Nat) :
    ∀ (j : Nat) (w : Bool), j + d = C.length → (w = true ∨ ∃ p ∈ C.drop j, p.f0 = (i : Int) ∧ bt p.f1 (b : Int) = bt s (b : Int)) → Ev (fun k => spoorlaw03_DiskTorn.l3 k torn (i : Int) s (b : Int) w T L x (s.size : Int) (b : Int) C (C.length : Int) j S C f o) true := by
  have hC := h.2.2.1
  induction d with
  | zero =>
    intro j w hj hw
    obtain rfl : j = C.length := by omega
    rcases hw with rfl | hw
    · refine Ev.step (fun k => ?_) cont
      simp only [spoorlaw03_DiskTorn.l3]
      rw [if_neg (by omega), if_pos trivial, up_ b (by omega)]
    · exact (drop_none _ hw).elim
  | succ d ih =>
    intro j w hj hw
    have hlt : j < C.length := by omega
    cases w with
    | true =>
      refine Ev.step (fun k => ?_) (ih (j + 1) true (by omega) (.inl rfl))
      simp only [spoorlaw03_DiskTorn.l3]
      rw [if_pos (by omega), if_pos (by omega), if_pos (by omega), if_pos trivial, up_ j (by omega)]
    | false =>
      have hw := drop_split C j hlt (hw.resolve_left nofun)
      have hp := h.2.2.2.2.2 C[j] (List.getElem_mem hlt)
      by_cases e : C[j].f0 = (i : Int)
      · refine Ev.step (fun k => ?_) (ih (j + 1) (bt C[j].f1 (b : Int) == bt s (b : Int)) (by omega) ?_)
        · simp only [spoorlaw03_DiskTorn.l3]
          rw [if_pos (by omega), if_pos (by omega), if_pos (by omega), if_neg nofun, rdP C j hlt, if_pos e, if_pos (by omega), if_pos (by omega), if_pos (by omega), up_ j (by omega)]
        · rcases hw with z | z
          · exact .inl (beq_iff_eq.mpr z.2)
          · exact .inr z
      · refine Ev.step (fun k => ?_) (ih (j + 1) false (by omega) ?_)
        · simp only [spoorlaw03_DiskTorn.l3]
          rw [if_pos (by omega), if_pos (by omega), if_pos (by omega), if_neg nofun, rdP C j hlt, if_neg e, up_ j (by omega)]
        · rcases hw with z | z
          · exact absurd z.1 e
          · exact .inr z
theorem Torn_l2 (h : RightDisk S C f) (hi : i < S.length) (hs : s.size = 128) (hx : x = (i : Int)) (hB : ∀ k : Nat, k < 128 → bt s (k : Int) = bt (rdOf ByteArray.empty S (i : Int)) (k : Int) ∨ ∃ p ∈ C, p.f0 = (i : Int) ∧ bt p.f1 (k : Int) = bt s (k : Int)) (cont : Ev (fun k => spoorlaw03_DiskTorn.l0 k torn T L ((i + 1 : Nat) : Int) S C f o) true) (d : Nat) :
    ∀ b : Nat, b + d = 128 → Ev (fun k => spoorlaw03_DiskTorn.l2 k torn (i : Int) s T L x (s.size : Int) (b : Int) S C f o) true := by
  have hS := h.2.1
  have hsz := h.2.2.2.2.1 _ (List.getElem_mem hi)
  induction d with
  | zero =>
    intro b hb
    refine Ev.step (fun k => ?_) cont
    simp only [spoorlaw03_DiskTorn.l2]
    rw [if_neg (by omega), hx, up_ i (by omega)]
  | succ d ih =>
    intro b hb
    refine Ev.step (fun k => ?_) (Torn_l3 (x := x) (T := T) (L := L) (torn := torn) (i := i) h hs (b := b) (by omega) (by omega) (ih (b + 1) (by omega)) C.length 0 (bt s (b : Int) == bt (rdOf ByteArray.empty S (i : Int)) (b : Int)) (by omega) ?_)
    · simp only [spoorlaw03_DiskTorn.l2]
      rw [if_pos (by omega), if_pos (by omega), if_pos (by omega), if_pos (by omega), if_pos (by omega), if_pos (by rw [rdE S i hi]; omega)]
      rfl
    · rcases hB b (by omega) with z | z
      · exact .inl (beq_iff_eq.mpr z)
      · exact .inr (by rw [List.drop_zero]; exact z)
theorem Torn_l1 (h : RightDisk S C f) (hi : i < S.length) (hs : s.size = 128) (hx : x = (i : Int)) (hB : ∀ k : Nat, k < 128 → bt s (k : Int) = bt (rdOf ByteArray.empty S (i : Int)) (k : Int) ∨ ∃ p ∈ C, p.f0 = (i : Int) ∧ bt p.f1 (k : Int) = bt s (k : Int)) (cont : Ev (fun k => spoorlaw03_DiskTorn.l0 k torn T L ((i + 1 : Nat) : Int) S C f o) true) (d : Nat) :
    ∀ (j : Nat) (w : Bool), j + d = C.length → (w = true ∨ (∃ p ∈ C.drop j, p.f0 = (i : Int) ∧ p.f1 = s) ∨ (0 ≤ torn ∧ torn < (C.length : Int) ∧ (rd_T40 C torn).f0 = (i : Int))) → Ev (fun k => spoorlaw03_DiskTorn.l1 k torn (i : Int) s w T L x C (C.length : Int) j S C f o) true := by
  have hC := h.2.2.1
  have hj4 : Ev (fun k => spoorlaw03_DiskTorn.j4 k torn (i : Int) s T L x false S C f o) true := by
    refine Ev.step (fun k => ?_) (Torn_l2 (x := x) (T := T) (L := L) (torn := torn) h hi hs hx hB cont 128 0 (by omega))
    simp only [spoorlaw03_DiskTorn.j4]
    rw [if_neg nofun]
    rfl
  induction d with
  | zero =>
    intro j w hj hw
    obtain rfl : j = C.length := by omega
    refine Ev.step (fun k => ?_) hj4
    simp only [spoorlaw03_DiskTorn.l1]
    rw [if_neg (by omega)]
    cases w with
    | true => rw [if_pos rfl]
    | false =>
      rcases hw.resolve_left nofun with z | ⟨z0, z1, z2⟩
      · exact (drop_none _ z).elim
      · have e : ((rd_T40 C torn).f0 != (i : Int)) = false := bne_eq_false_iff_eq.mpr z2
        rw [if_neg nofun, if_neg (by omega), if_neg (by omega), if_pos z0, if_pos z1, e]
  | succ d ih =>
    intro j w hj hw
    have hlt : j < C.length := by omega
    cases w with
    | true =>
      refine Ev.step (fun k => ?_) (ih (j + 1) true (by omega) (.inl rfl))
      simp only [spoorlaw03_DiskTorn.l1]
      rw [if_pos (by omega), if_pos (by omega), if_pos (by omega), if_pos trivial, up_ j (by omega)]
    | false =>
      have hw : (C[j].f0 = (i : Int) ∧ C[j].f1 = s) ∨ (∃ p ∈ C.drop (j + 1), p.f0 = (i : Int) ∧ p.f1 = s) ∨ (0 ≤ torn ∧ torn < (C.length : Int) ∧ (rd_T40 C torn).f0 = (i : Int)) := by
        rcases hw.resolve_left nofun with z | z
        · rcases drop_split C j hlt z with y | y
          · exact .inl y
          · exact .inr (.inl y)
        · exact .inr (.inr z)
      by_cases e : C[j].f0 = (i : Int)
      · refine Ev.step (fun k => ?_) (ih (j + 1) (C[j].f1.toList == s.toList) (by omega) ?_)
        · simp only [spoorlaw03_DiskTorn.l1]
          rw [if_pos (by omega), if_pos (by omega), if_pos (by omega), if_neg nofun, rdP C j hlt, if_pos e, up_ j (by omega)]
        · rcases hw with z | z
          · exact .inl (beq_iff_eq.mpr (congrArg ByteArray.toList z.2))
          · exact .inr z
      · refine Ev.step (fun k => ?_) (ih (j + 1) false (by omega) ?_)
        · simp only [spoorlaw03_DiskTorn.l1]
          rw [if_pos (by omega), if_pos (by omega), if_pos (by omega), if_neg nofun, rdP C j hlt, if_neg e, up_ j (by omega)]
        · rcases hw with z | z
          · exact absurd z.1 e
          · exact .inr z
theorem Torn_l0 (h : RightDisk S C f) (hT : T.length = S.length) (hR : Right T) (hF : ∀ i : Nat, i < S.length → Fate S C torn C.length i (rdOf ByteArray.empty T (i : Int))) (d : Nat) :
    ∀ i : Nat, i + d = T.length → Ev (fun k => spoorlaw03_DiskTorn.l0 k torn T (T.length : Int) (i : Int) S C f o) true := by
  have hS := h.2.1
  induction d with
  | zero =>
    intro i hi
    refine Ev.step (f := fun _ => some true) (fun k => ?_) (Ev.now _)
    simp only [spoorlaw03_DiskTorn.l0]
    rw [if_neg (by omega)]
  | succ d ih =>
    intro i hi
    have hlt : i < S.length := by omega
    obtain ⟨hA, hB⟩ := hF i hlt
    have hs : (rdOf ByteArray.empty T (i : Int)).size = 128 := hR _ (rdOf_mem T (i : Int) (by omega) (by omega))
    refine Ev.step (fun k => ?_) (Torn_l1 (x := (i : Int)) (T := T) (L := (T.length : Int)) (torn := torn) (i := i) (s := rdOf ByteArray.empty T (i : Int)) h hlt hs rfl hB (ih (i + 1) (by omega)) C.length 0 ((rdOf ByteArray.empty T (i : Int)).toList == (rdOf ByteArray.empty S (i : Int)).toList) (by omega) ?_)
    · simp only [spoorlaw03_DiskTorn.l0]
      rw [if_pos (by omega), if_pos (by omega), if_pos (by omega), if_pos (by omega)]
      rfl
    · rw [List.drop_zero]
      rcases hA with z | z | z
      · exact .inl (beq_iff_eq.mpr (congrArg ByteArray.toList z))
      · exact .inr (.inl z)
      · exact .inr (.inr z)
theorem DiskTorn : spoorlaw03_DiskTorn.Pure := by
  intro S C f o K torn b hd hK ht hb
  apply Ev.rounds
  unfold spoorlaw03_DiskTorn.f
  refine Ev.bind lives_ev ?_
  simp only [if_true, disk_Check.f, Option.bind_some]
  have hj : Ev (fun k => spoorlaw03_DiskTorn.j0 k K torn b true S C f o) true := by
    refine Ev.step (f := fun _ => some true) (fun k => ?_) (Ev.now _)
    simp only [spoorlaw03_DiskTorn.j0, if_true]
  by_cases c : checkF S C f = 0
  · simp only [if_pos c]
    have h := right_of c
    by_cases hc : (C.length : Int) > 50
    · simp only [decide_eq_true hc]; exact hj
    · simp only [decide_eq_false hc]
      have hn : (max 0 (min b 128)).toNat ≤ 128 := by omega
      have hT : (crashF K torn (max 0 (min b 128)).toNat S C).length = S.length := crashN_len _ _ _ _ _ _
      have hR : Right (crashF K torn (max 0 (min b 128)).toNat S C) := (fate_of K torn _ hn S C f h 0 h.1 C.length (Nat.le_refl _)).1
      have hF := fun (i : Nat) (hi : i < S.length) => (fate_of K torn _ hn S C f h i hi C.length (Nat.le_refl _)).2
      have main := Torn_l0 (o := o) (torn := torn) h hT hR hF (crashF K torn (max 0 (min b 128)).toNat S C).length 0 (by omega)
      have hj1 : Ev (fun k => spoorlaw03_DiskTorn.j1 k torn false S C f o (crashF K torn (max 0 (min b 128)).toNat S C) [] (-1) false) true := by
        refine Ev.step (fun k => ?_) main
        simp only [spoorlaw03_DiskTorn.j1]
        rw [if_neg nofun]
        rfl
      refine Ev.step (fun k => ?_) hj1
      simp only [spoorlaw03_DiskTorn.j0]
      rw [if_neg nofun]
      simp only [disk_Crash.f, Option.bind_some, if_pos c, hT, if_true, if_neg (show ¬ (false = true) from nofun), List.length_nil]
      rfl
  · simp only [if_neg c]
    exact hj
end Go.Proofs.Ytbglcbjbjgjebaa.Pure
