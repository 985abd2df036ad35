-- kept, by a program of this session, of texts that the printer or this session wrote
import Derived.Test.YtjagplonneednaaZPx1017
import Derived.Test.YtjagplonneednaaZPx1019
import Derived.Test.YtjagplonneednaaZPx0
import Derived.Test.YtjagplonneednaaZCrcMath
import Derived.Test.YtjagplonneednaaZPx1033
import Derived.Test.YtjagplonneednaaZDiskBase
import Derived.Test.YtjagplonneednaaZPx30056
import Derived.Test.YtjagplonneednaaZPx30022
import Derived.Test.YtjagplonneednaaZPx1012
section
set_option linter.unusedVariables false
set_option linter.unusedSimpArgs false
namespace Go.Proofs.Ytjagplonneednaa.Pure
open Go.RowKit Go.Proofs.Ytjagplonneednaa.P Go.Proofs.YtjagplonneednaaW.PrintWords Go.Proofs.YtjagplonneednaaW.PrintLast Go.Proofs.YtjagplonneednaaW.PrintMore
noncomputable def best (x y : Int × List S56 × Int) : Int × List S56 × Int :=
  if x.2.2 = 0 then (if y.2.2 = 0 then (if y.1 > x.1 then (y.1, y.2.1, 0) else (x.1, x.2.1, 0)) else (x.1, x.2.1, 0)) else if y.2.2 = 0 then (y.1, y.2.1, 0) else (0, [], 3)
noncomputable def loadF (S : List ByteArray) (C : List S74) (f : Int) (o : Bool) : Int × List S56 × Int :=
  if checkF S C f = 0 then (if o = true then (0, [], 9) else if (S.length : Int) < 2 then (0, [], 1) else best (getM (holdsF S C 0)) (getM (holdsF S C 1))) else (0, [], 2)
noncomputable def saveF (S : List ByteArray) (C : List S74) (f : Int) (o : Bool) (e : Int) (l : List S56) : List ByteArray × List S74 × Int × Bool × Int :=
  if checkF S C f = 0 then (if rightI (RightM e l) = 0 then (if o = true then (S, C, f, o, 9) else if (loadF S C f o).2.2 = 1 ∨ e - 1 ≠ (loadF S C f o).1 then (S, C, f, o, 1)
    else (if (writeF S C f o (e % 2) (sectorS e l)).2.2.2.2 = 0 then flushF (writeF S C f o (e % 2) (sectorS e l)).1 (writeF S C f o (e % 2) (sectorS e l)).2.1 (writeF S C f o (e % 2) (sectorS e l)).2.2.1 (writeF S C f o (e % 2) (sectorS e l)).2.2.2.1 else writeF S C f o (e % 2) (sectorS e l)))
    else (S, C, f, o, 2)) else ([], [], 0, false, 2)
theorem checkF_or (S : List ByteArray) (C : List S74) (f : Int) : checkF S C f = 0 ∨ checkF S C f = 2 := by
  unfold checkF
  repeat' split
  all_goals simp
theorem getM_pos {s : ByteArray} (h : (getM s).2.2 = 0) : 1 ≤ (getM s).1 ∧ (getM s).1 ≤ 4611686018427387904 := by
  obtain ⟨_, _, hb, he⟩ := getM_ok h
  rw [he]
  exact ⟨hb.2.1.1, hb.2.1.2.1⟩
theorem readF_in (S : List ByteArray) (C : List S74) (f : Int) (i : Int) (h : checkF S C f = 0) (h0 : 0 ≤ i) (h1 : i < (S.length : Int)) : readF S C f false i = (holdsF S C i, 0) := by
  unfold readF
  rw [if_pos h, if_neg nofun, if_neg (by unfold hasF; simp [h0, h1])]
theorem load_end (S : List ByteArray) (C : List S74) (f : Int) (o : Bool) (e : Int) (l : List S56) : Ev (fun k => manifest_Load.l0 k 2 S C f o e l) (if e = 0 then (e, l, 3) else (e, l, 0)) := by
  refine Ev.step (f := fun _ => some (if e = 0 then (e, l, 3) else (e, l, 0))) (fun k => ?_) (Ev.now _)
  simp only [manifest_Load.l0]
  rw [if_neg (by decide)]
  split <;> rfl
theorem load_round (S : List ByteArray) (C : List S74) (f : Int) (i : Int) (e : Int) (l : List S56) (h : checkF S C f = 0) (h0 : 0 ≤ i) (h1 : i < (S.length : Int)) (h2 : i < 2) {r : Int × List S56 × Int}
    (n : Ev (fun k => manifest_Load.l0 k (i + 1) S C f false (if (getM (holdsF S C i)).2.2 = 0 ∧ (getM (holdsF S C i)).1 > e then (getM (holdsF S C i)).1 else e) (if (getM (holdsF S C i)).2.2 = 0 ∧ (getM (holdsF S C i)).1 > e then (getM (holdsF S C i)).2.1 else l)) r) :
    Ev (fun k => manifest_Load.l0 k i S C f false e l) r := by
  have hw : wrap64 (i + 1) = i + 1 := by unfold wrap64; omega
  refine Ev.step (f := fun k => (manifest_Get.f k (holdsF S C i)).bind fun bt154 => (if bt154.2.2 = 0 then (if bt154.1 > e then (manifest_Load.l0 k (i + 1) S C f false bt154.1 bt154.2.1) else (manifest_Load.l0 k (i + 1) S C f false e l)) else (manifest_Load.l0 k (i + 1) S C f false e l))) (fun k => ?_) ?_
  · simp only [manifest_Load.l0]
    rw [if_pos h2, hw]
    simp only [disk_Read.f, readF_in S C f i h h0 h1, Option.bind_some]
  · refine Ev.bind (Get_ev _) ?_
    by_cases c1 : (getM (holdsF S C i)).2.2 = 0
    · by_cases c2 : (getM (holdsF S C i)).1 > e
      · simp only [if_pos c1, if_pos c2]
        rw [if_pos ⟨c1, c2⟩, if_pos ⟨c1, c2⟩] at n
        exact n
      · simp only [if_pos c1, if_neg c2]
        rw [if_neg (fun z => c2 z.2), if_neg (fun z => c2 z.2)] at n
        exact n
    · simp only [if_neg c1]
      rw [if_neg (fun z => c1 z.1), if_neg (fun z => c1 z.1)] at n
      exact n
theorem Load_ev (S : List ByteArray) (C : List S74) (f : Int) (o : Bool) : Ev (fun k => manifest_Load.f k S C f o) (loadF S C f o) := by
  unfold manifest_Load.f loadF
  simp only [disk_Check.f, Option.bind_some]
  by_cases c : checkF S C f = 0
  · simp only [if_pos c]
    cases o
    · simp only [Bool.false_eq_true, if_false]
      by_cases c2 : (S.length : Int) < 2
      · simp only [if_pos c2]
        exact Ev.now _
      · simp only [if_neg c2]
        apply load_round S C f 0 0 [] c (by omega) (by omega) (by omega)
        apply load_round S C f 1 _ _ c (by omega) (by omega) (by omega)
        have p0 := fun z => getM_pos (s := holdsF S C 0) z
        have p1 := fun z => getM_pos (s := holdsF S C 1) z
        generalize getM (holdsF S C 0) = x at p0 ⊢
        generalize getM (holdsF S C 1) = y at p1 ⊢
        show Ev (fun k => manifest_Load.l0 k 2 S C f false _ _) _
        have key : ∀ (e : Int) (l : List S56) (r : Int × List S56 × Int), (if e = 0 then (e, l, (3 : Int)) else (e, l, 0)) = r → Ev (fun k => manifest_Load.l0 k 2 S C f false e l) r := fun e l r hr => hr ▸ load_end S C f false e l
        apply key
        unfold best
        by_cases a : x.2.2 = 0
        · have q := p0 a
          have a0 : x.2.2 = 0 ∧ x.1 > 0 := ⟨a, by omega⟩
          by_cases b : y.2.2 = 0
          · have q1 := p1 b
            by_cases d : y.1 > x.1
            · simp only [if_pos a, if_pos b, if_pos d, if_pos a0, if_pos (show y.2.2 = 0 ∧ y.1 > x.1 from ⟨b, d⟩)]
              rw [if_neg (by omega)]
            · simp only [if_pos a, if_pos b, if_neg d, if_pos a0, if_neg (show ¬ (y.2.2 = 0 ∧ y.1 > x.1) from fun z => d z.2)]
              rw [if_neg (by omega)]
          · simp only [if_pos a, if_neg b, if_pos a0, if_neg (show ¬ (y.2.2 = 0 ∧ y.1 > x.1) from fun z => b z.1)]
            rw [if_neg (by omega)]
        · have a0 : ¬ (x.2.2 = 0 ∧ x.1 > 0) := fun z => a z.1
          by_cases b : y.2.2 = 0
          · have q1 := p1 b
            simp only [if_neg a, if_pos b, if_neg a0, if_pos (show y.2.2 = 0 ∧ y.1 > 0 from ⟨b, by omega⟩)]
            rw [if_neg (by omega)]
          · simp only [if_neg a, if_neg b, if_neg a0, if_neg (show ¬ (y.2.2 = 0 ∧ y.1 > 0) from fun z => b z.1)]
            rfl
    · simp only [if_true]
      exact Ev.now _
  · simp only [if_neg c, (checkF_or S C f).resolve_left c]
    exact Ev.now _
theorem loadF_lo (S : List ByteArray) (C : List S74) (f : Int) (o : Bool) : 0 ≤ (loadF S C f o).1 ∧ (loadF S C f o).1 ≤ 4611686018427387904 ∧ (loadF S C f o).2.1.length ≤ 8 := by
  have g : ∀ s, 0 ≤ (getM s).1 ∨ (getM s).2.2 ≠ 0 := fun s => by
    by_cases c : (getM s).2.2 = 0
    · have := (getM_pos c).1
      exact .inl (by omega)
    · exact .inr c
  unfold loadF
  split
  · split
    · simp
    · split
      · simp
      · unfold best
        have h0 := fun z => getM_pos (s := holdsF S C 0) z
        have h1 := fun z => getM_pos (s := holdsF S C 1) z
        have l0 := getM_len (holdsF S C 0)
        have l1 := getM_len (holdsF S C 1)
        split
        · rename_i a
          have := h0 a
          split
          · rename_i b
            have := h1 b
            split
            · exact ⟨by omega, by omega, l1⟩
            · exact ⟨by omega, by omega, l0⟩
          · exact ⟨by omega, by omega, l0⟩
        · split
          · rename_i b
            have := h1 b
            exact ⟨by omega, by omega, l1⟩
          · simp
  · simp
theorem tmod2 {e : Int} (h0 : 0 ≤ e) : wrap64 (Int.tmod e 2) = e % 2 := by
  rw [Int.tmod_eq_emod_of_nonneg h0]
  unfold wrap64
  omega
theorem Save_ev (S : List ByteArray) (C : List S74) (f : Int) (o : Bool) (e : Int) (l : List S56) (he : 0 ≤ e) : Ev (fun k => manifest_Save.f k S C f o e l) (saveF S C f o e l) := by
  unfold manifest_Save.f saveF
  simp only [disk_Own.f, Option.bind_some, manifest_Check.f, checkM_ev e l he]
  unfold ownF
  by_cases c : checkF S C f = 0
  · simp only [if_pos c, if_true]
    by_cases hr : RightM e l
    · simp only [rightI_yes hr, if_true]
      cases o
      · simp only [Bool.false_eq_true, if_false]
        refine Ev.bind (Load_ev S C f false) ?_
        have hb := loadF_lo S C f false
        obtain ⟨r0, r1, r2, r3⟩ := hr
        generalize loadF S C f false = b at hb ⊢
        have hw : IntKind.u64.wrap (e - 1) = e - 1 := by rw [IntKind.wrap_u64]; omega
        rw [hw]
        have yes : Ev (fun k => manifest_Save.j0 k true S C f false e l) (S, C, f, false, 1) := by
          refine Ev.step (f := fun _ => some _) (fun k => ?_) (Ev.now _)
          simp only [manifest_Save.j0]
          exact if_pos trivial
        by_cases c1 : b.2.2 = 1
        · simp only [if_pos c1, if_pos (Or.inl c1 : b.2.2 = 1 ∨ e - 1 ≠ b.1)]
          exact yes
        · simp only [if_neg c1]
          by_cases c2 : e - 1 = b.1
          · rw [show (e - 1 != b.1) = false by simp [c2], if_neg (fun z => z.elim c1 (fun y => y c2))]
            refine Ev.step (fun k => by simp only [manifest_Save.j0]; exact if_neg nofun) ?_
            refine Ev.bind (written_ev e l r2 (fit_of r3)) ?_
            simp only [disk_Write.f, disk_Flush.f, Option.bind_some, tmod2 he]
            by_cases c3 : (writeF S C f false (e % 2) (sectorS e l)).2.2.2.2 = 0
            · simp only [if_pos c3]
              exact Ev.now _
            · simp only [if_neg c3]
              exact Ev.now _
          · rw [show (e - 1 != b.1) = true by simp [c2], if_pos (Or.inr c2)]
            exact yes
      · simp only [if_true]
        exact Ev.now _
    · simp only [rightI_no hr, show ¬ (2 : Int) = 0 by decide, if_false]
      exact Ev.now _
  · simp only [if_neg c, show ¬ (2 : Int) = 0 by decide, if_false]
    exact Ev.now _
end Go.Proofs.Ytjagplonneednaa.Pure
end
section
set_option linter.unusedVariables false
set_option linter.unusedSimpArgs false
namespace Go.Proofs.Ytjagplonneednaa.Pure
open Go.RowKit Go.Proofs.Ytjagplonneednaa.P Go.Proofs.YtjagplonneednaaW.PrintWords Go.Proofs.YtjagplonneednaaW.PrintLast
theorem lives_ev : Ev (fun k => spoorlaw06_lives.f k) true := Ev.of spoorlaw06_lives.mono (k := 3000) (by kernel_rfl)
end Go.Proofs.Ytjagplonneednaa.Pure
end
section
set_option linter.unusedVariables false
set_option linter.unusedSimpArgs false
namespace Go.Proofs.Ytjagplonneednaa.Pure
open Go.RowKit Go.Proofs.Ytjagplonneednaa.P Go.Proofs.YtjagplonneednaaW.PrintWords Go.Proofs.YtjagplonneednaaW.PrintLast Go.Proofs.YtjagplonneednaaW.PrintMore
def RightDisk (S : List ByteArray) (C : List S74) (f : Int) : Prop := 1 ≤ S.length ∧ S.length ≤ 1024 ∧ C.length ≤ 4096 ∧ -1 ≤ f ∧ (∀ s ∈ S, s.size = 128) ∧ ∀ p ∈ C, 0 ≤ p.f0 ∧ p.f0 < (S.length : Int) ∧ p.f1.size = 128
theorem of_right {S : List ByteArray} {C : List S74} {f : Int} (h : RightDisk S C f) : checkF S C f = 0 := by
  obtain ⟨h0, h1, h2, h3, h4, h5⟩ := h
  have hw : wideF S C f = false := by
    unfold wideF
    simp only [Bool.or_eq_false_iff, decide_eq_false_iff_not]
    omega
  have hs : S.any (fun s => (s.size : Int) != 128) = false := by
    rw [List.any_eq_false]
    intro s hs
    have := h4 s hs
    simp only [bne_iff_ne, ne_eq, Classical.not_not]
    omega
  have hc : C.any (badF S.length) = false := by
    rw [List.any_eq_false]
    intro p hp z
    obtain ⟨a, b, c⟩ := h5 p hp
    rcases (badF_iff S.length p).1 z with z | z | z <;> omega
  unfold checkF
  rw [if_neg (by rw [hw]; decide), if_neg (by rw [hs]; decide), if_neg (by rw [hc]; decide)]
theorem right_put {S : List ByteArray} {C : List S74} {f f' : Int} {a : Int} {d : ByteArray} (h : RightDisk S C f) (h0 : 0 ≤ a) (h1 : a < (S.length : Int)) (h2 : d.size = 128) (h3 : C.length < 4096) (h4 : -1 ≤ f') : RightDisk S (C ++ [⟨a, d⟩]) f' := by
  obtain ⟨b0, b1, b2, b3, b4, b5⟩ := h
  refine ⟨b0, b1, by rw [List.length_append]; simp only [List.length_cons, List.length_nil]; omega, h4, b4, fun p hp => ?_⟩
  rcases List.mem_append.1 hp with z | z
  · exact b5 p z
  · obtain rfl := List.mem_singleton.1 z
    exact ⟨h0, h1, h2⟩
theorem wf_range {f : Int} (h : (Lit.int .i64 f).wf = true) : -9223372036854775808 ≤ f ∧ f ≤ 9223372036854775807 := by
  simp only [Lit.wf, Bool.and_eq_true, decide_eq_true_eq] at h
  have h1 : IntKind.min .i64 = -9223372036854775808 := by rfl
  have h2 : IntKind.max .i64 = 9223372036854775807 := by rfl
  omega
end Go.Proofs.Ytjagplonneednaa.Pure
end
