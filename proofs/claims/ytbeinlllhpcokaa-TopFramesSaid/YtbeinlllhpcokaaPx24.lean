-- Written by a program of this session (an adapted printer) out of the translation; Lean checks it.
import Derived.Test.YtbeinlllhpcokaaPx0
import Derived.Test.YtbeinlllhpcokaaPx4
import Derived.Test.YtbeinlllhpcokaaPx7
import Derived.Test.YtbeinlllhpcokaaPx10
import Derived.Test.YtbeinlllhpcokaaPx18
import Derived.Test.YtbeinlllhpcokaaPx23
namespace Go.Proofs.Ytbeinlllhpcokaa.P
open Go.RowKit Go.Proofs.YtbeinlllhpcokaaW.PrintWords Go.Proofs.YtbeinlllhpcokaaW.PrintLast Go.Proofs.YtbeinlllhpcokaaW.PrintMore
attribute [local go_sem] max2_int max_two max_three min_three max_four min_four   -- for this text's walks alone
set_option linter.unusedVariables false
set_option linter.unusedSimpArgs false

/-! ### spoortop_TopFrames: function 3 -/
mutual
def spoortop_TopFrames.l0 : Nat → List ByteArray → Int → List Bool → Int → Int → ByteArray → List ByteArray → Int → Int → Option (Bool)
  | 0, _, _, _, _, _, _, _, _, _ => none
  | k + 1, x0, x1, x2, x3, x4, x11, x33, x34, x35 => if x35 < x34 then (if 0 ≤ x35 then (if x35 < (x33.length : Int) then ((frame_Put.f k (rdOf ByteArray.empty x33 x35)).bind fun bt143 => (if bt143.2 = 0 then (if x35 ≥ 10 then (some true) else (if x11.size + bt143.1.size ≤ 9223372036854775807 then (spoortop_TopFrames.l0 k x0 x1 x2 x3 x4 (x11 ++ bt143.1) x33 x34 (wrap64 (x35 + 1))) else (none))) else (some true))) else (none)) else (none)) else (spoortop_TopFrames.l1 k x0 x1 x2 x3 x4 x11 x11)
def spoortop_TopFrames.l1 : Nat → List ByteArray → Int → List Bool → Int → Int → ByteArray → ByteArray → Option (Bool)
  | 0, _, _, _, _, _, _, _ => none
  | k + 1, x0, x1, x2, x3, x4, x11, x16 => if ((x16.size : Int) % 128) = 0 then ((disk_Make.f (wrap64 ((wrap64 ((x16.size : Int) / 128)) + 1))).bind fun bt145 => (if (wrap64 ((x16.size : Int) / 128)) > 100 then (some true) else (spoortop_TopFrames.l2 k x0 x1 x2 x3 x4 x11 x16 (wrap64 ((x16.size : Int) / 128)) bt145.2.2.2.2 (wrap64 ((x16.size : Int) / 128)) 0 bt145.1 bt145.2.1 bt145.2.2.1 bt145.2.2.2.1))) else (if x16.size + 1 ≤ 9223372036854775807 then (spoortop_TopFrames.l1 k x0 x1 x2 x3 x4 x11 (x16 ++ (⟨#[0]⟩ : ByteArray))) else (none))
def spoortop_TopFrames.l2 : Nat → List ByteArray → Int → List Bool → Int → Int → ByteArray → ByteArray → Int → Int → Int → Int → List ByteArray → List (S61) → Int → Bool → Option (Bool)
  | 0, _, _, _, _, _, _, _, _, _, _, _, _, _, _, _ => none
  | k + 1, x0, x1, x2, x3, x4, x11, x16, x17, x19, x73, x74, x155000, x155001, x155002, x155003 => if x74 < x73 then (if x74 = x1 then ((disk_Flush.f x155000 x155001 x155002 x155003).bind fun bt155 => (if 0 ≤ (wrap64 (128 * x74)) then (if (wrap64 (128 * x74)) ≤ (wrap64 ((wrap64 (128 * x74)) + 128)) then (if (wrap64 ((wrap64 (128 * x74)) + 128)) ≤ (x16.size : Int) then ((disk_Write.f bt155.1 bt155.2.1 bt155.2.2.1 bt155.2.2.2.1 x74 (x16.extract ((wrap64 (128 * x74)) : Int).toNat ((wrap64 ((wrap64 (128 * x74)) + 128)) : Int).toNat)).bind fun bt164 => (spoortop_TopFrames.l2 k x0 x1 x2 x3 x4 x11 x16 x17 x19 x73 (wrap64 (x74 + 1)) bt164.1 bt164.2.1 bt164.2.2.1 bt164.2.2.2.1)) else (none)) else (none)) else (none))) else (if 0 ≤ (wrap64 (128 * x74)) then (if (wrap64 (128 * x74)) ≤ (wrap64 ((wrap64 (128 * x74)) + 128)) then (if (wrap64 ((wrap64 (128 * x74)) + 128)) ≤ (x16.size : Int) then ((disk_Write.f x155000 x155001 x155002 x155003 x74 (x16.extract ((wrap64 (128 * x74)) : Int).toNat ((wrap64 ((wrap64 (128 * x74)) + 128)) : Int).toNat)).bind fun bt173 => (spoortop_TopFrames.l2 k x0 x1 x2 x3 x4 x11 x16 x17 x19 x73 (wrap64 (x74 + 1)) bt173.1 bt173.2.1 bt173.2.2.1 bt173.2.2.2.1)) else (none)) else (none)) else (none))) else ((disk_Crash.f x155000 x155001 x155002 x155003 x2 x3 x4).bind fun bt182 => ((disk_Held.f bt182.1 bt182.2.1 bt182.2.2.1 bt182.2.2.2.1).bind fun bt191 => (if x19 = 0 then (if bt182.2.2.2.2 = 0 then (if bt191.2 = 0 then (spoortop_TopFrames.j3 k x0 x1 x11 x17 bt191.1 ((bt191.1.length : Int) != (wrap64 (x17 + 1)))) else (spoortop_TopFrames.j3 k x0 x1 x11 x17 bt191.1 true)) else (spoortop_TopFrames.j3 k x0 x1 x11 x17 bt191.1 true)) else (spoortop_TopFrames.j3 k x0 x1 x11 x17 bt191.1 true))))
def spoortop_TopFrames.j3 : Nat → List ByteArray → Int → ByteArray → Int → List ByteArray → Bool → Option (Bool)
  | 0, _, _, _, _, _, _ => none
  | k + 1, x0, x1, x11, x17, x22, x128 => if x128 = true then (none) else (spoortop_TopFrames.l3 k x0 x1 x11 x17 x22 (⟨#[]⟩ : ByteArray) 0)
def spoortop_TopFrames.j5 : Nat → List ByteArray → ByteArray → ByteArray → Option (Bool)
  | 0, _, _, _ => none
  | k + 1, x0, x11, x24 => (frame_All.f k x24).bind fun bt196 => (if 0 ≤ (mn (x11.size : Int) (x24.size : Int)) then (if (mn (x11.size : Int) (x24.size : Int)) ≤ (x11.size : Int) then ((frame_All.f k (x11.extract 0 ((mn (x11.size : Int) (x24.size : Int)) : Int).toNat)).bind fun bt200 => (if (bt196.1.length : Int) = (bt200.1.length : Int) then (if bt196.2 = bt200.2 then (spoortop_TopFrames.j6 k x0 bt196.1 (decide ((bt196.1.length : Int) > (x0.length : Int)))) else (spoortop_TopFrames.j6 k x0 bt196.1 true)) else (spoortop_TopFrames.j6 k x0 bt196.1 true))) else (none)) else (none))
def spoortop_TopFrames.j6 : Nat → List ByteArray → List ByteArray → Bool → Option (Bool)
  | 0, _, _, _ => none
  | k + 1, x0, x26, x182 => if x182 = true then (none) else (spoortop_TopFrames.l4 k x0 x26 (x26.length : Int) 0)
def spoortop_TopFrames.l4 : Nat → List ByteArray → List ByteArray → Int → Int → Option (Bool)
  | 0, _, _, _, _ => none
  | k + 1, x0, x26, x184, x185 => if x185 < x184 then (if 0 ≤ x185 then (if x185 < (x26.length : Int) then (if x185 < (x0.length : Int) then (if (rdOf ByteArray.empty x26 x185).toList = (rdOf ByteArray.empty x0 x185).toList then (spoortop_TopFrames.l4 k x0 x26 x184 (wrap64 (x185 + 1))) else (none)) else (none)) else (none)) else (none)) else (some true)
def spoortop_TopFrames.l3 : Nat → List ByteArray → Int → ByteArray → Int → List ByteArray → ByteArray → Int → Option (Bool)
  | 0, _, _, _, _, _, _, _ => none
  | k + 1, x0, x1, x11, x17, x22, x24, x25 => if x25 < x17 then (if x1 < x17 then (if x25 < x1 then (if 0 ≤ x25 then (if x25 < (x22.length : Int) then (if x24.size + (rdOf ByteArray.empty x22 x25).size ≤ 9223372036854775807 then (spoortop_TopFrames.l3 k x0 x1 x11 x17 x22 (x24 ++ (rdOf ByteArray.empty x22 x25)) (wrap64 (x25 + 1))) else (none)) else (none)) else (none)) else (spoortop_TopFrames.j5 k x0 x11 x24)) else (spoortop_TopFrames.j5 k x0 x11 x24)) else (spoortop_TopFrames.j5 k x0 x11 x24)
end
def spoortop_TopFrames.f (k : Nat) (l0 : List ByteArray) (a1 : Int) (l2 : List Bool) (a3 : Int) (a4 : Int) : Option (Bool) := (spoortop_begins.f k).bind fun t141 => (if t141 = true then (spoortop_TopFrames.l0 k l0 a1 l2 a3 a4 (⟨#[]⟩ : ByteArray) l0 (l0.length : Int) 0) else (none))
theorem spoortop_TopFrames.mono_l : ∀ k, (∀ y0 y1 y2 y3 y4 y5 y6 y7 y8, LeO (spoortop_TopFrames.l0 k y0 y1 y2 y3 y4 y5 y6 y7 y8) (spoortop_TopFrames.l0 (k + 1) y0 y1 y2 y3 y4 y5 y6 y7 y8)) ∧ (∀ y0 y1 y2 y3 y4 y5 y6, LeO (spoortop_TopFrames.l1 k y0 y1 y2 y3 y4 y5 y6) (spoortop_TopFrames.l1 (k + 1) y0 y1 y2 y3 y4 y5 y6)) ∧ (∀ y0 y1 y2 y3 y4 y5 y6 y7 y8 y9 y10 y11 y12 y13 y14, LeO (spoortop_TopFrames.l2 k y0 y1 y2 y3 y4 y5 y6 y7 y8 y9 y10 y11 y12 y13 y14) (spoortop_TopFrames.l2 (k + 1) y0 y1 y2 y3 y4 y5 y6 y7 y8 y9 y10 y11 y12 y13 y14)) ∧ (∀ y0 y1 y2 y3 y4 y5, LeO (spoortop_TopFrames.j3 k y0 y1 y2 y3 y4 y5) (spoortop_TopFrames.j3 (k + 1) y0 y1 y2 y3 y4 y5)) ∧ (∀ y0 y1 y2, LeO (spoortop_TopFrames.j5 k y0 y1 y2) (spoortop_TopFrames.j5 (k + 1) y0 y1 y2)) ∧ (∀ y0 y1 y2, LeO (spoortop_TopFrames.j6 k y0 y1 y2) (spoortop_TopFrames.j6 (k + 1) y0 y1 y2)) ∧ (∀ y0 y1 y2 y3, LeO (spoortop_TopFrames.l4 k y0 y1 y2 y3) (spoortop_TopFrames.l4 (k + 1) y0 y1 y2 y3)) ∧ (∀ y0 y1 y2 y3 y4 y5 y6, LeO (spoortop_TopFrames.l3 k y0 y1 y2 y3 y4 y5 y6) (spoortop_TopFrames.l3 (k + 1) y0 y1 y2 y3 y4 y5 y6))
  | 0 => ⟨fun _ _ _ _ _ _ _ _ _ r h => by simp [spoortop_TopFrames.l0] at h, fun _ _ _ _ _ _ _ r h => by simp [spoortop_TopFrames.l1] at h, fun _ _ _ _ _ _ _ _ _ _ _ _ _ _ _ r h => by simp [spoortop_TopFrames.l2] at h, fun _ _ _ _ _ _ r h => by simp [spoortop_TopFrames.j3] at h, fun _ _ _ r h => by simp [spoortop_TopFrames.j5] at h, fun _ _ _ r h => by simp [spoortop_TopFrames.j6] at h, fun _ _ _ _ r h => by simp [spoortop_TopFrames.l4] at h, fun _ _ _ _ _ _ _ r h => by simp [spoortop_TopFrames.l3] at h⟩
  | k + 1 => by
    obtain ⟨ih0, ih1, ih2, ih3, ih4, ih5, ih6, ih7⟩ := spoortop_TopFrames.mono_l k
    refine ⟨?_, ?_, ?_, ?_, ?_, ?_, ?_, ?_⟩
    · intro y0 y1 y2 y3 y4 y5 y6 y7 y8
      unfold spoortop_TopFrames.l0
      repeat' first
      | (with_reducible exact ih0 _ _ _ _ _ _ _ _ _)
      | (with_reducible exact ih1 _ _ _ _ _ _ _)
      | (with_reducible exact ih2 _ _ _ _ _ _ _ _ _ _ _ _ _ _ _)
      | (with_reducible exact ih3 _ _ _ _ _ _)
      | (with_reducible exact ih4 _ _ _)
      | (with_reducible exact ih5 _ _ _)
      | (with_reducible exact ih6 _ _ _ _)
      | (with_reducible exact ih7 _ _ _ _ _ _ _)
      | (with_reducible exact frame_All.mono _ _)
      | (with_reducible exact frame_Put.mono _ _)
      | (with_reducible exact spoortop_begins.mono _)
      | (with_reducible exact LeO.refl _)
      | (with_reducible exact LeO.none _)
      | (with_reducible refine LeO.ite ?_ ?_)
      | (with_reducible refine LeO.bind ?_ (fun _ => ?_))
      | exact ih0 _ _ _ _ _ _ _ _ _
      | exact ih1 _ _ _ _ _ _ _
      | exact ih2 _ _ _ _ _ _ _ _ _ _ _ _ _ _ _
      | exact ih3 _ _ _ _ _ _
      | exact ih4 _ _ _
      | exact ih5 _ _ _
      | exact ih6 _ _ _ _
      | exact ih7 _ _ _ _ _ _ _
      | exact frame_All.mono _ _
      | exact frame_Put.mono _ _
      | exact spoortop_begins.mono _
      | exact LeO.none _
      | refine LeO.ite ?_ ?_
      | refine LeO.bind ?_ (fun _ => ?_)
    · intro y0 y1 y2 y3 y4 y5 y6
      unfold spoortop_TopFrames.l1
      repeat' first
      | (with_reducible exact ih0 _ _ _ _ _ _ _ _ _)
      | (with_reducible exact ih1 _ _ _ _ _ _ _)
      | (with_reducible exact ih2 _ _ _ _ _ _ _ _ _ _ _ _ _ _ _)
      | (with_reducible exact ih3 _ _ _ _ _ _)
      | (with_reducible exact ih4 _ _ _)
      | (with_reducible exact ih5 _ _ _)
      | (with_reducible exact ih6 _ _ _ _)
      | (with_reducible exact ih7 _ _ _ _ _ _ _)
      | (with_reducible exact frame_All.mono _ _)
      | (with_reducible exact frame_Put.mono _ _)
      | (with_reducible exact spoortop_begins.mono _)
      | (with_reducible exact LeO.refl _)
      | (with_reducible exact LeO.none _)
      | (with_reducible refine LeO.ite ?_ ?_)
      | (with_reducible refine LeO.bind ?_ (fun _ => ?_))
      | exact ih0 _ _ _ _ _ _ _ _ _
      | exact ih1 _ _ _ _ _ _ _
      | exact ih2 _ _ _ _ _ _ _ _ _ _ _ _ _ _ _
      | exact ih3 _ _ _ _ _ _
      | exact ih4 _ _ _
      | exact ih5 _ _ _
      | exact ih6 _ _ _ _
      | exact ih7 _ _ _ _ _ _ _
      | exact frame_All.mono _ _
      | exact frame_Put.mono _ _
      | exact spoortop_begins.mono _
      | exact LeO.none _
      | refine LeO.ite ?_ ?_
      | refine LeO.bind ?_ (fun _ => ?_)
    · intro y0 y1 y2 y3 y4 y5 y6 y7 y8 y9 y10 y11 y12 y13 y14
      unfold spoortop_TopFrames.l2
      repeat' first
      | (with_reducible exact ih0 _ _ _ _ _ _ _ _ _)
      | (with_reducible exact ih1 _ _ _ _ _ _ _)
      | (with_reducible exact ih2 _ _ _ _ _ _ _ _ _ _ _ _ _ _ _)
      | (with_reducible exact ih3 _ _ _ _ _ _)
      | (with_reducible exact ih4 _ _ _)
      | (with_reducible exact ih5 _ _ _)
      | (with_reducible exact ih6 _ _ _ _)
      | (with_reducible exact ih7 _ _ _ _ _ _ _)
      | (with_reducible exact frame_All.mono _ _)
      | (with_reducible exact frame_Put.mono _ _)
      | (with_reducible exact spoortop_begins.mono _)
      | (with_reducible exact LeO.refl _)
      | (with_reducible exact LeO.none _)
      | (with_reducible refine LeO.ite ?_ ?_)
      | (with_reducible refine LeO.bind ?_ (fun _ => ?_))
      | exact ih0 _ _ _ _ _ _ _ _ _
      | exact ih1 _ _ _ _ _ _ _
      | exact ih2 _ _ _ _ _ _ _ _ _ _ _ _ _ _ _
      | exact ih3 _ _ _ _ _ _
      | exact ih4 _ _ _
      | exact ih5 _ _ _
      | exact ih6 _ _ _ _
      | exact ih7 _ _ _ _ _ _ _
      | exact frame_All.mono _ _
      | exact frame_Put.mono _ _
      | exact spoortop_begins.mono _
      | exact LeO.none _
      | refine LeO.ite ?_ ?_
      | refine LeO.bind ?_ (fun _ => ?_)
    · intro y0 y1 y2 y3 y4 y5
      unfold spoortop_TopFrames.j3
      repeat' first
      | (with_reducible exact ih0 _ _ _ _ _ _ _ _ _)
      | (with_reducible exact ih1 _ _ _ _ _ _ _)
      | (with_reducible exact ih2 _ _ _ _ _ _ _ _ _ _ _ _ _ _ _)
      | (with_reducible exact ih3 _ _ _ _ _ _)
      | (with_reducible exact ih4 _ _ _)
      | (with_reducible exact ih5 _ _ _)
      | (with_reducible exact ih6 _ _ _ _)
      | (with_reducible exact ih7 _ _ _ _ _ _ _)
      | (with_reducible exact frame_All.mono _ _)
      | (with_reducible exact frame_Put.mono _ _)
      | (with_reducible exact spoortop_begins.mono _)
      | (with_reducible exact LeO.refl _)
      | (with_reducible exact LeO.none _)
      | (with_reducible refine LeO.ite ?_ ?_)
      | (with_reducible refine LeO.bind ?_ (fun _ => ?_))
      | exact ih0 _ _ _ _ _ _ _ _ _
      | exact ih1 _ _ _ _ _ _ _
      | exact ih2 _ _ _ _ _ _ _ _ _ _ _ _ _ _ _
      | exact ih3 _ _ _ _ _ _
      | exact ih4 _ _ _
      | exact ih5 _ _ _
      | exact ih6 _ _ _ _
      | exact ih7 _ _ _ _ _ _ _
      | exact frame_All.mono _ _
      | exact frame_Put.mono _ _
      | exact spoortop_begins.mono _
      | exact LeO.none _
      | refine LeO.ite ?_ ?_
      | refine LeO.bind ?_ (fun _ => ?_)
    · intro y0 y1 y2
      unfold spoortop_TopFrames.j5
      repeat' first
      | (with_reducible exact ih0 _ _ _ _ _ _ _ _ _)
      | (with_reducible exact ih1 _ _ _ _ _ _ _)
      | (with_reducible exact ih2 _ _ _ _ _ _ _ _ _ _ _ _ _ _ _)
      | (with_reducible exact ih3 _ _ _ _ _ _)
      | (with_reducible exact ih4 _ _ _)
      | (with_reducible exact ih5 _ _ _)
      | (with_reducible exact ih6 _ _ _ _)
      | (with_reducible exact ih7 _ _ _ _ _ _ _)
      | (with_reducible exact frame_All.mono _ _)
      | (with_reducible exact frame_Put.mono _ _)
      | (with_reducible exact spoortop_begins.mono _)
      | (with_reducible exact LeO.refl _)
      | (with_reducible exact LeO.none _)
      | (with_reducible refine LeO.ite ?_ ?_)
      | (with_reducible refine LeO.bind ?_ (fun _ => ?_))
      | exact ih0 _ _ _ _ _ _ _ _ _
      | exact ih1 _ _ _ _ _ _ _
      | exact ih2 _ _ _ _ _ _ _ _ _ _ _ _ _ _ _
      | exact ih3 _ _ _ _ _ _
      | exact ih4 _ _ _
      | exact ih5 _ _ _
      | exact ih6 _ _ _ _
      | exact ih7 _ _ _ _ _ _ _
      | exact frame_All.mono _ _
      | exact frame_Put.mono _ _
      | exact spoortop_begins.mono _
      | exact LeO.none _
      | refine LeO.ite ?_ ?_
      | refine LeO.bind ?_ (fun _ => ?_)
    · intro y0 y1 y2
      unfold spoortop_TopFrames.j6
      repeat' first
      | (with_reducible exact ih0 _ _ _ _ _ _ _ _ _)
      | (with_reducible exact ih1 _ _ _ _ _ _ _)
      | (with_reducible exact ih2 _ _ _ _ _ _ _ _ _ _ _ _ _ _ _)
      | (with_reducible exact ih3 _ _ _ _ _ _)
      | (with_reducible exact ih4 _ _ _)
      | (with_reducible exact ih5 _ _ _)
      | (with_reducible exact ih6 _ _ _ _)
      | (with_reducible exact ih7 _ _ _ _ _ _ _)
      | (with_reducible exact frame_All.mono _ _)
      | (with_reducible exact frame_Put.mono _ _)
      | (with_reducible exact spoortop_begins.mono _)
      | (with_reducible exact LeO.refl _)
      | (with_reducible exact LeO.none _)
      | (with_reducible refine LeO.ite ?_ ?_)
      | (with_reducible refine LeO.bind ?_ (fun _ => ?_))
      | exact ih0 _ _ _ _ _ _ _ _ _
      | exact ih1 _ _ _ _ _ _ _
      | exact ih2 _ _ _ _ _ _ _ _ _ _ _ _ _ _ _
      | exact ih3 _ _ _ _ _ _
      | exact ih4 _ _ _
      | exact ih5 _ _ _
      | exact ih6 _ _ _ _
      | exact ih7 _ _ _ _ _ _ _
      | exact frame_All.mono _ _
      | exact frame_Put.mono _ _
      | exact spoortop_begins.mono _
      | exact LeO.none _
      | refine LeO.ite ?_ ?_
      | refine LeO.bind ?_ (fun _ => ?_)
    · intro y0 y1 y2 y3
      unfold spoortop_TopFrames.l4
      repeat' first
      | (with_reducible exact ih0 _ _ _ _ _ _ _ _ _)
      | (with_reducible exact ih1 _ _ _ _ _ _ _)
      | (with_reducible exact ih2 _ _ _ _ _ _ _ _ _ _ _ _ _ _ _)
      | (with_reducible exact ih3 _ _ _ _ _ _)
      | (with_reducible exact ih4 _ _ _)
      | (with_reducible exact ih5 _ _ _)
      | (with_reducible exact ih6 _ _ _ _)
      | (with_reducible exact ih7 _ _ _ _ _ _ _)
      | (with_reducible exact frame_All.mono _ _)
      | (with_reducible exact frame_Put.mono _ _)
      | (with_reducible exact spoortop_begins.mono _)
      | (with_reducible exact LeO.refl _)
      | (with_reducible exact LeO.none _)
      | (with_reducible refine LeO.ite ?_ ?_)
      | (with_reducible refine LeO.bind ?_ (fun _ => ?_))
      | exact ih0 _ _ _ _ _ _ _ _ _
      | exact ih1 _ _ _ _ _ _ _
      | exact ih2 _ _ _ _ _ _ _ _ _ _ _ _ _ _ _
      | exact ih3 _ _ _ _ _ _
      | exact ih4 _ _ _
      | exact ih5 _ _ _
      | exact ih6 _ _ _ _
      | exact ih7 _ _ _ _ _ _ _
      | exact frame_All.mono _ _
      | exact frame_Put.mono _ _
      | exact spoortop_begins.mono _
      | exact LeO.none _
      | refine LeO.ite ?_ ?_
      | refine LeO.bind ?_ (fun _ => ?_)
    · intro y0 y1 y2 y3 y4 y5 y6
      unfold spoortop_TopFrames.l3
      repeat' first
      | (with_reducible exact ih0 _ _ _ _ _ _ _ _ _)
      | (with_reducible exact ih1 _ _ _ _ _ _ _)
      | (with_reducible exact ih2 _ _ _ _ _ _ _ _ _ _ _ _ _ _ _)
      | (with_reducible exact ih3 _ _ _ _ _ _)
      | (with_reducible exact ih4 _ _ _)
      | (with_reducible exact ih5 _ _ _)
      | (with_reducible exact ih6 _ _ _ _)
      | (with_reducible exact ih7 _ _ _ _ _ _ _)
      | (with_reducible exact frame_All.mono _ _)
      | (with_reducible exact frame_Put.mono _ _)
      | (with_reducible exact spoortop_begins.mono _)
      | (with_reducible exact LeO.refl _)
      | (with_reducible exact LeO.none _)
      | (with_reducible refine LeO.ite ?_ ?_)
      | (with_reducible refine LeO.bind ?_ (fun _ => ?_))
      | exact ih0 _ _ _ _ _ _ _ _ _
      | exact ih1 _ _ _ _ _ _ _
      | exact ih2 _ _ _ _ _ _ _ _ _ _ _ _ _ _ _
      | exact ih3 _ _ _ _ _ _
      | exact ih4 _ _ _
      | exact ih5 _ _ _
      | exact ih6 _ _ _ _
      | exact ih7 _ _ _ _ _ _ _
      | exact frame_All.mono _ _
      | exact frame_Put.mono _ _
      | exact spoortop_begins.mono _
      | exact LeO.none _
      | refine LeO.ite ?_ ?_
      | refine LeO.bind ?_ (fun _ => ?_)
theorem spoortop_TopFrames.mono : ∀ a0 a1 a2 a3 a4 k, LeO (spoortop_TopFrames.f k a0 a1 a2 a3 a4) (spoortop_TopFrames.f (k + 1) a0 a1 a2 a3 a4) := by
  intro a0 a1 a2 a3 a4 k
  obtain ⟨ih0, ih1, ih2, ih3, ih4, ih5, ih6, ih7⟩ := spoortop_TopFrames.mono_l k
  unfold spoortop_TopFrames.f
  repeat' first
      | (with_reducible exact ih0 _ _ _ _ _ _ _ _ _)
      | (with_reducible exact ih1 _ _ _ _ _ _ _)
      | (with_reducible exact ih2 _ _ _ _ _ _ _ _ _ _ _ _ _ _ _)
      | (with_reducible exact ih3 _ _ _ _ _ _)
      | (with_reducible exact ih4 _ _ _)
      | (with_reducible exact ih5 _ _ _)
      | (with_reducible exact ih6 _ _ _ _)
      | (with_reducible exact ih7 _ _ _ _ _ _ _)
      | (with_reducible exact frame_All.mono _ _)
      | (with_reducible exact frame_Put.mono _ _)
      | (with_reducible exact spoortop_begins.mono _)
      | (with_reducible exact LeO.refl _)
      | (with_reducible exact LeO.none _)
      | (with_reducible refine LeO.ite ?_ ?_)
      | (with_reducible refine LeO.bind ?_ (fun _ => ?_))
      | exact ih0 _ _ _ _ _ _ _ _ _
      | exact ih1 _ _ _ _ _ _ _
      | exact ih2 _ _ _ _ _ _ _ _ _ _ _ _ _ _ _
      | exact ih3 _ _ _ _ _ _
      | exact ih4 _ _ _
      | exact ih5 _ _ _
      | exact ih6 _ _ _ _
      | exact ih7 _ _ _ _ _ _ _
      | exact frame_All.mono _ _
      | exact frame_Put.mono _ _
      | exact spoortop_begins.mono _
      | exact LeO.none _
      | refine LeO.ite ?_ ?_
      | refine LeO.bind ?_ (fun _ => ?_)
def spoortop_TopFrames.T24 : Bool × List (List Nat × List Nat) := (true, [([], []), ([], []), ([], []), ([], []), ([3], [3]), ([], []), ([5], [5]), ([6], [6]), ([2, 4, 7], [2, 4, 7]), ([0, 1, 8], [0, 1, 8]), ([9], [9]), ([10], [10]), ([10], [10]), ([11, 9, 0, 1, 2, 3, 4, 5, 6, 7, 8, 9, 10, 11], [11])])
def spoortop_TopFrames.B24 : List Nat := [0, 0, 0, 0, 8, 0, 32, 96, 252, 511, 1023, 2047, 2047, 4095]
theorem spoortop_TopFrames.tab24 : rtab .any (opsOf Try.f3 24) = spoortop_TopFrames.T24 := by kernel_rfl
theorem spoortop_TopFrames.bits24 : waitsOk spoortop_TopFrames.T24.2 spoortop_TopFrames.B24 = true := by kernel_rfl
def spoortop_TopFrames.T42 : Bool × List (List Nat × List Nat) := (true, [([], []), ([], []), ([0, 1], [0, 1]), ([2], [2]), ([], []), ([], []), ([4, 5], [4, 5]), ([6], [6]), ([3, 7], [3, 7])])
def spoortop_TopFrames.B42 : List Nat := [0, 0, 3, 7, 0, 0, 48, 112, 255]
theorem spoortop_TopFrames.tab42 : rtab .any (opsOf Try.f3 42) = spoortop_TopFrames.T42 := by kernel_rfl
theorem spoortop_TopFrames.bits42 : waitsOk spoortop_TopFrames.T42.2 spoortop_TopFrames.B42 = true := by kernel_rfl
set_option maxHeartbeats 8000000 in
set_option maxRecDepth 100000 in
theorem spoortop_TopFrames.calls (k : Nat) (A0 : Option Addr) (c0 : Nat) (l0 : List ByteArray) (a1 : Int) (A2 : Option Addr) (c2 : Nat) (l2 : List Bool) (a3 : Int) (a4 : Int) (r : Bool) (w : World) (hr0 : Kd.C Kd.string w A0 l0.length l0) (hc0 : l0.length ≤ c0) (hr2 : Kd.C Kd.bool w A2 l2.length l2) (hc2 : l2.length ≤ c2) (h : spoortop_TopFrames.f k l0 a1 l2 a3 a4 = some r) :
    Calls Try.prog 3 #[.slice A0 l0.length c0, .int .i64 a1, .slice A2 l2.length c2, .int .i64 a3, .int .i64 a4] w fun e w' => e = .returned (.bool r) ∧ Below w.heap.size w w' := by
  have hu30 := Try.underlying30
  have HR0 := Aside0.mk hr0
  have HC0 := Aside0.mk hc0
  clear hr0 hc0
  have HR2 := Aside0.mk hr2
  have HC2 := Aside0.mk hc2
  clear hr2 hc2
  have HB := Aside0.mk (Below.refl w.heap.size w)
  have H : ((spoortop_begins.f k).bind fun t141 => (if t141 = true then (spoortop_TopFrames.l0 k l0 a1 l2 a3 a4 (⟨#[]⟩ : ByteArray) l0 (l0.length : Int) 0) else (none))) = some r := h
  clear h
  replace H := Option.bind_eq_some_iff.mp H
  obtain ⟨t141, A60, H⟩ := H
  replace H : (if t141 = true then (spoortop_TopFrames.l0 k l0 a1 l2 a3 a4 (⟨#[]⟩ : ByteArray) l0 (l0.length : Int) 0) else (none)) = some r := H
  have A6 := Aside0.mk A60
  clear A60
  by_cases c7 : t141 = true
  · subst c7
    have H1 : (spoortop_TopFrames.l0 k l0 a1 l2 a3 a4 (⟨#[]⟩ : ByteArray) l0 (l0.length : Int) 0) = some r := by rw [if_pos rfl] at H; exact H
    clear H
    have H := H1
    clear H1
    have H' := Aside0.mk H
    clear H
    go_enter Try.func3, Try.ntmps3
    go_wp2_with (first | ((with_reducible refine gate_callee (f := 4) rfl ?_); refine goesL_ (some 31) rfl rfl Try.func4 (by kernel_rfl) rfl #[] rfl (by (try simp only [List.map_toArray, List.map_cons, List.map_nil]); first | done | rfl | (simp only [List.length_drop, List.length_take]; rfl)) ?_; (with_reducible refine (spoortop_begins.calls k  true _ A6.out).mono ?_); rintro e w8 ⟨rfl, hb⟩; refine ⟨_, rfl, ?_⟩; have n0_ := Aside0.mk (below_step (by repeat (first | (with_reducible first | exact HB.out | apply below_alloc | apply pw_below_drewN | apply below_drew1) | exact HB.out)) hb); clear HB; have HB := n0_; clear n0_; (try clear hb); (try clear hb2); (try clear hk); (try clear hi)))
    go_loopg [11, 35] k (fun kq v11 v35 w' => ∃ (x11_1 : ByteArray) (x35_1 : Int), v11 = .string x11_1 ∧ v35 = .int .i64 x35_1 ∧ Aside0 (spoortop_TopFrames.l0 kq l0 a1 l2 a3 a4 x11_1 l0 (l0.length : Int) x35_1 = some r) ∧ Aside0 (kq ≤ k) ∧ Aside0 (Below w.heap.size w w'))
    case atStart => exact ⟨((⟨#[]⟩ : ByteArray)), (0), (by first | rfl | (simp; done) | (simp [*]; done)), (by first | rfl | (simp; done) | (simp [*]; done)), H', ⟨Nat.le_refl _⟩, ⟨by repeat (first | (with_reducible first | exact HB.out | apply below_alloc | apply pw_below_drewN | apply below_drew1) | exact HB.out)⟩⟩
    case round =>
      clear H'
      try clear c2
      try clear p2
      try clear c3
      try clear c4
      try clear c7
      obtain ⟨x11_1, x35_1, rfl, rfl, HA, HK1, HB⟩ := hrel
      cases gk with
      | zero => exact absurd HA.out (by simp [spoortop_TopFrames.l0])
      | succ k1 =>
        have H := HA.out
        clear HA
        simp only [spoortop_TopFrames.l0] at H
        by_cases c9 : x35_1 < (l0.length : Int)
        · rw [if_pos c9] at H
          have c9b0 : decide (x35_1 < (l0.length : Int)) = true := decide_eq_true c9
          clear c9
          by_cases c10 : 0 ≤ x35_1
          · rw [if_pos c10] at H
            have c10b0 : decide (0 ≤ x35_1) = true := decide_eq_true c10
            clear c10
            by_cases c11 : x35_1 < (l0.length : Int)
            · rw [if_pos c11] at H
              have c11b0 : decide (x35_1 < (l0.length : Int)) = true := decide_eq_true c11
              clear c11
              replace H := Option.bind_eq_some_iff.mp H
              obtain ⟨⟨t143, t144⟩, A120, H⟩ := H
              replace H : (if t144 = 0 then (if x35_1 ≥ 10 then (some true) else (if x11_1.size + t143.size ≤ 9223372036854775807 then (spoortop_TopFrames.l0 k1 l0 a1 l2 a3 a4 (x11_1 ++ t143) l0 (l0.length : Int) (wrap64 (x35_1 + 1))) else (none))) else (some true)) = some r := H
              have A12 := Aside0.mk A120
              clear A120
              by_cases c13 : t144 = 0
              · rw [if_pos c13] at H
                have c13b0 : (t144 == 0) = true := beq_iff_eq.mpr c13
                have c13b1 : (t144 != 0) = false := bne_eq_false_iff_eq.mpr c13
                clear c13
                by_cases c14 : x35_1 ≥ 10
                · rw [if_pos c14] at H
                  have c14b0 : decide (10 ≤ x35_1) = true := decide_eq_true c14
                  clear c14
                  obtain rfl := Option.some.inj H
                  have p142 : 0 ≤ (x35_1 : Int) := of_decide_eq_true (by first | (with_reducible assumption) | assumption)
                  have q142 : x35_1 < (l0.length : Int) := of_decide_eq_true (by first | (with_reducible assumption) | assumption)
                  obtain ⟨ad142, e142, hx142_0⟩ := Kd.at_string HR0.out x35_1 p142 q142
                  cases e142
                  replace hx142_0 := (HB.out.cell (World.block_lt_of_cell? w _ hx142_0)).trans hx142_0
                  replace p142 := eq_true p142
                  replace q142 := eq_true q142
                  go_wp2_with (first | ((with_reducible refine gate_callee (f := 5) rfl ?_); refine goesL_ (some 42) rfl rfl Try.func5 (by kernel_rfl) rfl #[.string (rdOf ByteArray.empty l0 x35_1)] rfl (by (try simp only [List.map_toArray, List.map_cons, List.map_nil]); first | done | rfl | (simp only [List.length_drop, List.length_take]; rfl)) ?_; (with_reducible refine (frame_Put.calls k1 (rdOf ByteArray.empty l0 x35_1) t143 t144 _ A12.out).mono ?_); rintro e w15 ⟨rfl, hb⟩; refine ⟨_, rfl, ?_⟩; have n0_ := Aside0.mk (below_step (by repeat (first | (with_reducible first | exact HB.out | apply below_alloc | apply pw_below_drewN | apply below_drew1) | exact HB.out)) hb); clear HB; have HB := n0_; clear n0_; (try clear hb); (try clear hb2); (try clear hk); (try clear hi)))
                  go_ret
                  exact ⟨by first | rfl | (simp [errW_none, errW_some] <;> rfl) | (simp [*, errW_none, errW_some] <;> rfl), by repeat (first | (with_reducible first | exact HB.out | apply below_alloc | apply pw_below_drewN | apply below_drew1) | exact HB.out)⟩
                · rw [if_neg c14] at H
                  have c14b0 : decide (10 ≤ x35_1) = false := decide_eq_false c14
                  clear c14
                  by_cases c16 : x11_1.size + t143.size ≤ 9223372036854775807
                  · rw [if_pos c16] at H
                    have c16b0 := eq_true c16
                    have c16b1 : decide (x11_1.size + t143.size ≤ 9223372036854775807) = true := decide_eq_true c16
                    try have c16b2 : (9223372036854775807 < x11_1.size + t143.size) = False := eq_false (Nat.not_lt.2 c16)
                    have H' := Aside0.mk H
                    clear H
                    have p142 : 0 ≤ (x35_1 : Int) := of_decide_eq_true (by first | (with_reducible assumption) | assumption)
                    have q142 : x35_1 < (l0.length : Int) := of_decide_eq_true (by first | (with_reducible assumption) | assumption)
                    obtain ⟨ad142, e142, hx142_0⟩ := Kd.at_string HR0.out x35_1 p142 q142
                    cases e142
                    replace hx142_0 := (HB.out.cell (World.block_lt_of_cell? w _ hx142_0)).trans hx142_0
                    replace p142 := eq_true p142
                    replace q142 := eq_true q142
                    go_wp2_with (first | ((with_reducible refine gate_callee (f := 5) rfl ?_); refine goesL_ (some 42) rfl rfl Try.func5 (by kernel_rfl) rfl #[.string (rdOf ByteArray.empty l0 x35_1)] rfl (by (try simp only [List.map_toArray, List.map_cons, List.map_nil]); first | done | rfl | (simp only [List.length_drop, List.length_take]; rfl)) ?_; (with_reducible refine (frame_Put.calls k1 (rdOf ByteArray.empty l0 x35_1) t143 t144 _ A12.out).mono ?_); rintro e w17 ⟨rfl, hb⟩; refine ⟨_, rfl, ?_⟩; have n0_ := Aside0.mk (below_step (by repeat (first | (with_reducible first | exact HB.out | apply below_alloc | apply pw_below_drewN | apply below_drew1) | exact HB.out)) hb); clear HB; have HB := n0_; clear n0_; (try clear hb); (try clear hb2); (try clear hk); (try clear hi)))
                    go_roundg k1
                    case measure => have := HK1.out; omega
                    case rel => exact ⟨(x11_1 ++ t143), (wrap64 (x35_1 + 1)), (by first | rfl | (simp; done) | (simp [*]; done)), (by first | rfl | (simp; done) | (simp [*]; done)), H', ⟨by have := HK1.out; omega⟩, ⟨by repeat (first | (with_reducible first | exact HB.out | apply below_alloc | apply pw_below_drewN | apply below_drew1) | exact HB.out)⟩⟩
                  · rw [if_neg c16] at H
                    exact absurd H (by simp)
              · rw [if_neg c13] at H
                have c13b0 : (t144 == 0) = false := beq_eq_false_iff_ne.mpr c13
                have c13b1 : (t144 != 0) = true := bne_iff_ne.mpr c13
                obtain rfl := Option.some.inj H
                have p142 : 0 ≤ (x35_1 : Int) := of_decide_eq_true (by first | (with_reducible assumption) | assumption)
                have q142 : x35_1 < (l0.length : Int) := of_decide_eq_true (by first | (with_reducible assumption) | assumption)
                obtain ⟨ad142, e142, hx142_0⟩ := Kd.at_string HR0.out x35_1 p142 q142
                cases e142
                replace hx142_0 := (HB.out.cell (World.block_lt_of_cell? w _ hx142_0)).trans hx142_0
                replace p142 := eq_true p142
                replace q142 := eq_true q142
                go_wp2_with (first | ((with_reducible refine gate_callee (f := 5) rfl ?_); refine goesL_ (some 42) rfl rfl Try.func5 (by kernel_rfl) rfl #[.string (rdOf ByteArray.empty l0 x35_1)] rfl (by (try simp only [List.map_toArray, List.map_cons, List.map_nil]); first | done | rfl | (simp only [List.length_drop, List.length_take]; rfl)) ?_; (with_reducible refine (frame_Put.calls k1 (rdOf ByteArray.empty l0 x35_1) t143 t144 _ A12.out).mono ?_); rintro e w18 ⟨rfl, hb⟩; refine ⟨_, rfl, ?_⟩; have n0_ := Aside0.mk (below_step (by repeat (first | (with_reducible first | exact HB.out | apply below_alloc | apply pw_below_drewN | apply below_drew1) | exact HB.out)) hb); clear HB; have HB := n0_; clear n0_; (try clear hb); (try clear hb2); (try clear hk); (try clear hi)))
                go_ret
                exact ⟨by first | rfl | (simp [errW_none, errW_some] <;> rfl) | (simp [*, errW_none, errW_some] <;> rfl), by repeat (first | (with_reducible first | exact HB.out | apply below_alloc | apply pw_below_drewN | apply below_drew1) | exact HB.out)⟩
            · rw [if_neg c11] at H
              exact absurd H (by simp)
          · rw [if_neg c10] at H
            exact absurd H (by simp)
        · rw [if_neg c9] at H
          have c9b0 : decide (x35_1 < (l0.length : Int)) = false := decide_eq_false c9
          clear c9
          have H' := Aside0.mk H
          clear H
          go_wp2
          go_loopg [16] k1 (fun kq v16 w' => ∃ (x16_2 : ByteArray), v16 = .string x16_2 ∧ Aside0 (spoortop_TopFrames.l1 kq l0 a1 l2 a3 a4 x11_1 x16_2 = some r) ∧ Aside0 (kq ≤ k1) ∧ Aside0 (Below w.heap.size w w'))
          case atStart => exact ⟨(x11_1), (by first | rfl | (simp; done) | (simp [*]; done)), H', ⟨Nat.le_refl _⟩, ⟨by repeat (first | (with_reducible first | exact HB.out | apply below_alloc | apply pw_below_drewN | apply below_drew1) | exact HB.out)⟩⟩
          case round =>
            clear H'
            try clear c1
            try clear p1
            try clear q1
            try clear hx1
            try clear c2
            try clear p2
            try clear c3
            try clear c4
            try clear c5
            try clear p6
            try clear c7
            try clear c9
            try clear c9b0
            try clear c10
            try clear c10b0
            try clear c11
            try clear c11b0
            try clear c13
            try clear c13b0
            try clear c13b1
            try clear c14
            try clear c14b0
            try clear p14
            try clear q14
            try clear hx14
            try clear c16
            try clear c16b0
            try clear c16b1
            try clear c16b2
            try clear hx142_0
            try clear p142
            try clear p2
            try clear q142
            obtain ⟨x16_2, rfl, HA, HK2, HB⟩ := hrel
            cases gk with
            | zero => exact absurd HA.out (by simp [spoortop_TopFrames.l1])
            | succ k2 =>
              have H := HA.out
              clear HA
              simp only [spoortop_TopFrames.l1] at H
              by_cases c19 : ((x16_2.size : Int) % 128) = 0
              · rw [if_pos c19] at H
                have c19b0 : (((x16_2.size : Int) % 128) == 0) = true := beq_iff_eq.mpr c19
                have c19b1 : (((x16_2.size : Int) % 128) != 0) = false := bne_eq_false_iff_eq.mpr c19
                clear c19
                replace H := Option.bind_eq_some_iff.mp H
                obtain ⟨⟨t145, t148, t151, t152, t153⟩, A200, H⟩ := H
                replace H : (if (wrap64 ((x16_2.size : Int) / 128)) > 100 then (some true) else (spoortop_TopFrames.l2 k2 l0 a1 l2 a3 a4 x11_1 x16_2 (wrap64 ((x16_2.size : Int) / 128)) t153 (wrap64 ((x16_2.size : Int) / 128)) 0 t145 t148 t151 t152)) = some r := H
                have A20 := Aside0.mk A200
                clear A200
                by_cases c21 : (wrap64 ((x16_2.size : Int) / 128)) > 100
                · rw [if_pos c21] at H
                  have c21b0 : decide (100 < (wrap64 ((x16_2.size : Int) / 128))) = true := decide_eq_true c21
                  clear c21
                  obtain rfl := Option.some.inj H
                  go_wp2_with (first | ((with_reducible refine gate_callee (f := 6) rfl ?_); refine goesL_ (some 68) rfl rfl Try.func6 (by kernel_rfl) rfl #[.int .i64 (wrap64 ((wrap64 ((x16_2.size : Int) / 128)) + 1))] rfl (by (try simp only [List.map_toArray, List.map_cons, List.map_nil]); first | done | rfl | (simp only [List.length_drop, List.length_take]; rfl)) ?_; (with_reducible refine (disk_Make.calls (wrap64 ((wrap64 ((x16_2.size : Int) / 128)) + 1)) t145 t148 t151 t152 t153 _ A20.out).mono ?_); rintro e w22 ⟨v146, v149, rfl, ho0, ho1, hb⟩; refine ⟨_, rfl, ?_⟩; have n0_ := Aside0.mk (Kd.R_lower ho0 (below_size (by repeat (first | (with_reducible first | exact HB.out | apply below_alloc | apply pw_below_drewN | apply below_drew1) | exact HB.out)))); have n1_ := Aside0.mk (Kd.R_lower ho1 (below_size (by repeat (first | (with_reducible first | exact HB.out | apply below_alloc | apply pw_below_drewN | apply below_drew1) | exact HB.out)))); have n2_ := Aside0.mk (below_step (by repeat (first | (with_reducible first | exact HB.out | apply below_alloc | apply pw_below_drewN | apply below_drew1) | exact HB.out)) hb); clear HB; have HO147 := n0_; have HO150 := n1_; have HB := n2_; clear n0_ n1_ n2_; (try clear hb); (try clear hb2); (try clear hk); (try clear hi); (try clear ho0); (try clear ho1)) | ((with_reducible refine gate_dst (N := 18) rfl ?_); (try (refine gate_guard (by rfl) ?_; dsimp only)); refine box_event ?hg (N := 18) ?hd (cs := #[.slice none 0 0, .slice none 0 0, .int .i64 0, .bool false]) (t := 30) ?hr ?_; (case hd => rfl); (case hg => rfl); (case hr => first | (go_simp; done) | (go_simp; rfl)); intro gb154 hg w23 hbox hb; have n0_ := Aside0.mk (Kd.R_below (by (with_reducible repeat (first | apply Kd.R_alloc | apply Kd.R_drewN | apply Kd.R_drew)); exact HO147.out) hb); have n1_ := Aside0.mk (Kd.R_below (by (with_reducible repeat (first | apply Kd.R_alloc | apply Kd.R_drewN | apply Kd.R_drew)); exact HO150.out) hb); have n2_ := Aside0.mk (below_step (by repeat (first | (with_reducible first | exact HB.out | apply below_alloc | apply pw_below_drewN | apply below_drew1) | exact HB.out)) hb); have n3_ := Aside0.mk (hbox); have n4_ := Aside0.mk ((by rw [hg]; exact (below_size (by repeat (first | (with_reducible first | exact HB.out | apply below_alloc | apply pw_below_drewN | apply below_drew1) | exact HB.out))) : w.heap.size ≤ gb154)); have n5_ := Aside0.mk ((by rw [hg]; exact (below_size (by repeat (first | (with_reducible first | exact HB.out | apply below_alloc | apply pw_below_drewN | apply below_drew1) | exact HB.out))) : w.heap.size ≤ gb154)); clear HO147; clear HO150; clear HB; have HO147 := n0_; have HO150 := n1_; have HB := n2_; have BK154 := n3_; have GW154 := n4_; have GE154 := n5_; clear n0_ n1_ n2_ n3_ n4_ n5_; clear hb hbox hg; obtain ⟨Ao24, co24, eo24⟩ := Kd.R_slice HO147.out; subst eo24; have hcz25_0 : w23.cell? ⟨gb154, 0, none⟩ = some (.slice none 0 0) := (blk_cell BK154.out 0).trans rfl; have hcz25_1 : w23.cell? ⟨gb154, 1, none⟩ = some (.slice none 0 0) := (blk_cell BK154.out 1).trans rfl; have hcz25_2 : w23.cell? ⟨gb154, 2, none⟩ = some (.int .i64 0) := (blk_cell BK154.out 2).trans rfl; have hcz25_3 : w23.cell? ⟨gb154, 3, none⟩ = some (.bool false) := (blk_cell BK154.out 3).trans rfl; have hfz25_0 := blk_frozen BK154.out 0; have hfz25_1 := blk_frozen BK154.out 1; have hfz25_2 := blk_frozen BK154.out 2; have hfz25_3 := blk_frozen BK154.out 3; obtain ⟨Ao26, co26, eo26⟩ := Kd.R_slice HO150.out; subst eo26))
                  go_ret
                  exact ⟨by first | rfl | (simp [errW_none, errW_some] <;> rfl) | (simp [*, errW_none, errW_some] <;> rfl), by repeat (first | (with_reducible first | exact HB.out | apply below_alloc | apply pw_below_drewN | apply below_drew1 | refine below_set ?_ GE154.out) | exact HB.out)⟩
                · rw [if_neg c21] at H
                  have c21b0 : decide (100 < (wrap64 ((x16_2.size : Int) / 128))) = false := decide_eq_false c21
                  clear c21
                  have H' := Aside0.mk H
                  clear H
                  go_wp2_with (first | ((with_reducible refine gate_callee (f := 6) rfl ?_); refine goesL_ (some 68) rfl rfl Try.func6 (by kernel_rfl) rfl #[.int .i64 (wrap64 ((wrap64 ((x16_2.size : Int) / 128)) + 1))] rfl (by (try simp only [List.map_toArray, List.map_cons, List.map_nil]); first | done | rfl | (simp only [List.length_drop, List.length_take]; rfl)) ?_; (with_reducible refine (disk_Make.calls (wrap64 ((wrap64 ((x16_2.size : Int) / 128)) + 1)) t145 t148 t151 t152 t153 _ A20.out).mono ?_); rintro e w27 ⟨v146, v149, rfl, ho0, ho1, hb⟩; refine ⟨_, rfl, ?_⟩; have n0_ := Aside0.mk (Kd.R_lower ho0 (below_size (by repeat (first | (with_reducible first | exact HB.out | apply below_alloc | apply pw_below_drewN | apply below_drew1) | exact HB.out)))); have n1_ := Aside0.mk (Kd.R_lower ho1 (below_size (by repeat (first | (with_reducible first | exact HB.out | apply below_alloc | apply pw_below_drewN | apply below_drew1) | exact HB.out)))); have n2_ := Aside0.mk (below_step (by repeat (first | (with_reducible first | exact HB.out | apply below_alloc | apply pw_below_drewN | apply below_drew1) | exact HB.out)) hb); clear HB; have HO147 := n0_; have HO150 := n1_; have HB := n2_; clear n0_ n1_ n2_; (try clear hb); (try clear hb2); (try clear hk); (try clear hi); (try clear ho0); (try clear ho1)) | ((with_reducible refine gate_dst (N := 18) rfl ?_); (try (refine gate_guard (by rfl) ?_; dsimp only)); refine box_event ?hg (N := 18) ?hd (cs := #[.slice none 0 0, .slice none 0 0, .int .i64 0, .bool false]) (t := 30) ?hr ?_; (case hd => rfl); (case hg => rfl); (case hr => first | (go_simp; done) | (go_simp; rfl)); intro gb154 hg w28 hbox hb; have n0_ := Aside0.mk (Kd.R_below (by (with_reducible repeat (first | apply Kd.R_alloc | apply Kd.R_drewN | apply Kd.R_drew)); exact HO147.out) hb); have n1_ := Aside0.mk (Kd.R_below (by (with_reducible repeat (first | apply Kd.R_alloc | apply Kd.R_drewN | apply Kd.R_drew)); exact HO150.out) hb); have n2_ := Aside0.mk (below_step (by repeat (first | (with_reducible first | exact HB.out | apply below_alloc | apply pw_below_drewN | apply below_drew1) | exact HB.out)) hb); have n3_ := Aside0.mk (hbox); have n4_ := Aside0.mk ((by rw [hg]; exact (below_size (by repeat (first | (with_reducible first | exact HB.out | apply below_alloc | apply pw_below_drewN | apply below_drew1) | exact HB.out))) : w.heap.size ≤ gb154)); have n5_ := Aside0.mk ((by rw [hg]; exact (below_size (by repeat (first | (with_reducible first | exact HB.out | apply below_alloc | apply pw_below_drewN | apply below_drew1) | exact HB.out))) : w.heap.size ≤ gb154)); clear HO147; clear HO150; clear HB; have HO147 := n0_; have HO150 := n1_; have HB := n2_; have BK154 := n3_; have GW154 := n4_; have GE154 := n5_; clear n0_ n1_ n2_ n3_ n4_ n5_; clear hb hbox hg; obtain ⟨Ao29, co29, eo29⟩ := Kd.R_slice HO147.out; subst eo29; have hcz30_0 : w28.cell? ⟨gb154, 0, none⟩ = some (.slice none 0 0) := (blk_cell BK154.out 0).trans rfl; have hcz30_1 : w28.cell? ⟨gb154, 1, none⟩ = some (.slice none 0 0) := (blk_cell BK154.out 1).trans rfl; have hcz30_2 : w28.cell? ⟨gb154, 2, none⟩ = some (.int .i64 0) := (blk_cell BK154.out 2).trans rfl; have hcz30_3 : w28.cell? ⟨gb154, 3, none⟩ = some (.bool false) := (blk_cell BK154.out 3).trans rfl; have hfz30_0 := blk_frozen BK154.out 0; have hfz30_1 := blk_frozen BK154.out 1; have hfz30_2 := blk_frozen BK154.out 2; have hfz30_3 := blk_frozen BK154.out 3; obtain ⟨Ao31, co31, eo31⟩ := Kd.R_slice HO150.out; subst eo31))
                  go_loopg [74] k2 (fun kq v74 w' => ∃ (x74_3 : Int) (x155000_3 : List ByteArray) (x155001_3 : List (S61)) (x155002_3 : Int) (x155003_3 : Bool) (u155000 : Value) (u155001 : Value), v74 = .int .i64 x74_3 ∧ Aside0 (spoortop_TopFrames.l2 kq l0 a1 l2 a3 a4 x11_1 x16_2 (wrap64 ((x16_2.size : Int) / 128)) t153 (wrap64 ((x16_2.size : Int) / 128)) x74_3 x155000_3 x155001_3 x155002_3 x155003_3 = some r) ∧ Aside0 (kq ≤ k2) ∧ Aside0 (Kd.R Kd.string 9 w' w.heap.size (fun _ => True) u155000 x155000_3) ∧ Aside0 (Kd.R k61 61 w' w.heap.size (fun _ => True) u155001 x155001_3) ∧ Aside0 (w'.heap[gb154]? = some (.cells #[u155000, u155001, .int .i64 x155002_3, .bool x155003_3] 30 (0, 0))) ∧ Aside0 (Below w.heap.size w w'))
                  case atStart => exact ⟨(0), (t145), (t148), (t151), (t152), (.slice Ao29 t145.length co29), (.slice Ao31 t148.length co31), (by first | rfl | (simp; done) | (simp [*]; done)), H', ⟨Nat.le_refl _⟩, ⟨by (with_reducible repeat (first | apply Kd.R_alloc | apply Kd.R_drewN | apply Kd.R_drew)); exact Kd.R_mono (Kd.R_far (p := ⟨gb154, 3, none⟩) (Kd.R_far (p := ⟨gb154, 2, none⟩) (Kd.R_far (p := ⟨gb154, 1, none⟩) (Kd.R_far (p := ⟨gb154, 0, none⟩) (Kd.R_types HO147.out BK154.out (by decide)) (fun _ hk => hk.2) (.slice Ao29 t145.length co29)) (fun _ hk => hk.2) (.slice Ao31 t148.length co31)) (fun _ hk => hk.2) (.int .i64 t151)) (fun _ hk => hk.2) (.bool t152)) (fun _ hk => trivial)⟩, ⟨by (with_reducible repeat (first | apply Kd.R_alloc | apply Kd.R_drewN | apply Kd.R_drew)); exact Kd.R_mono (Kd.R_far (p := ⟨gb154, 3, none⟩) (Kd.R_far (p := ⟨gb154, 2, none⟩) (Kd.R_far (p := ⟨gb154, 1, none⟩) (Kd.R_far (p := ⟨gb154, 0, none⟩) (Kd.R_types HO150.out BK154.out (by decide)) (fun _ hk => hk.2) (.slice Ao29 t145.length co29)) (fun _ hk => hk.2) (.slice Ao31 t148.length co31)) (fun _ hk => hk.2) (.int .i64 t151)) (fun _ hk => hk.2) (.bool t152)) (fun _ hk => trivial)⟩, ⟨by (with_reducible repeat (first | refine blk_drewN ?_ _ | refine blk_drew ?_ | refine blk_alloc ?_ _)); refine blk_put (cs := #[.slice Ao29 t145.length co29, .slice Ao31 t148.length co31, .int .i64 t151, .bool false]) ?_ 3 _ rfl; (with_reducible repeat (first | refine blk_drewN ?_ _ | refine blk_drew ?_ | refine blk_alloc ?_ _)); refine blk_put (cs := #[.slice Ao29 t145.length co29, .slice Ao31 t148.length co31, .int .i64 0, .bool false]) ?_ 2 _ rfl; (with_reducible repeat (first | refine blk_drewN ?_ _ | refine blk_drew ?_ | refine blk_alloc ?_ _)); refine blk_put (cs := #[.slice Ao29 t145.length co29, .slice none 0 0, .int .i64 0, .bool false]) ?_ 1 _ rfl; (with_reducible repeat (first | refine blk_drewN ?_ _ | refine blk_drew ?_ | refine blk_alloc ?_ _)); refine blk_put (cs := #[.slice none 0 0, .slice none 0 0, .int .i64 0, .bool false]) ?_ 0 _ rfl; (with_reducible repeat (first | refine blk_drewN ?_ _ | refine blk_drew ?_ | refine blk_alloc ?_ _)); exact BK154.out⟩, ⟨by repeat (first | (with_reducible first | exact HB.out | apply below_alloc | apply pw_below_drewN | apply below_drew1 | refine below_set ?_ GE154.out) | exact HB.out)⟩⟩
                  case round =>
                    clear H'
                    try clear c1
                    try clear p1
                    try clear q1
                    try clear hx1
                    try clear c2
                    try clear p2
                    try clear c3
                    try clear c4
                    try clear c5
                    try clear c6
                    try clear p6
                    try clear c7
                    try clear c9
                    try clear c9b0
                    try clear c10
                    try clear c10b0
                    try clear c11
                    try clear c11b0
                    try clear c13
                    try clear c13b0
                    try clear c13b1
                    try clear c14
                    try clear c14b0
                    try clear p14
                    try clear q14
                    try clear hx14
                    try clear c16
                    try clear c16b0
                    try clear c16b1
                    try clear c16b2
                    try clear c19
                    try clear c19b0
                    try clear c19b1
                    try clear c21
                    try clear c21b0
                    try clear hcz25_0
                    try clear hcz25_1
                    try clear hcz25_2
                    try clear hcz25_3
                    try clear hcz30_0
                    try clear hcz30_1
                    try clear hcz30_2
                    try clear hcz30_3
                    try clear hfz25_0
                    try clear hfz25_1
                    try clear hfz25_2
                    try clear hfz25_3
                    try clear hfz30_0
                    try clear hfz30_1
                    try clear hfz30_2
                    try clear hfz30_3
                    try clear hx142_0
                    try clear p1
                    try clear p14
                    try clear p142
                    try clear p2
                    try clear p6
                    try clear q1
                    try clear q14
                    try clear q142
                    obtain ⟨x74_3, x155000_3, x155001_3, x155002_3, x155003_3, u155000, u155001, rfl, HA, HK3, HO_155000, HO_155001, BK154, HB⟩ := hrel
                    cases gk with
                    | zero => exact absurd HA.out (by simp [spoortop_TopFrames.l2])
                    | succ k3 =>
                      have H := HA.out
                      clear HA
                      simp only [spoortop_TopFrames.l2] at H
                      by_cases c32 : x74_3 < (wrap64 ((x16_2.size : Int) / 128))
                      · rw [if_pos c32] at H
                        have c32b0 : decide (x74_3 < (wrap64 ((x16_2.size : Int) / 128))) = true := decide_eq_true c32
                        clear c32
                        by_cases c33 : x74_3 = a1
                        · rw [if_pos c33] at H
                          have c33b0 : (x74_3 == a1) = true := beq_iff_eq.mpr c33
                          have c33b1 : (x74_3 != a1) = false := bne_eq_false_iff_eq.mpr c33
                          clear c33
                          replace H := Option.bind_eq_some_iff.mp H
                          obtain ⟨⟨t155, t158, t161, t162, t163⟩, A340, H⟩ := H
                          replace H : (if 0 ≤ (wrap64 (128 * x74_3)) then (if (wrap64 (128 * x74_3)) ≤ (wrap64 ((wrap64 (128 * x74_3)) + 128)) then (if (wrap64 ((wrap64 (128 * x74_3)) + 128)) ≤ (x16_2.size : Int) then ((disk_Write.f t155 t158 t161 t162 x74_3 (x16_2.extract ((wrap64 (128 * x74_3)) : Int).toNat ((wrap64 ((wrap64 (128 * x74_3)) + 128)) : Int).toNat)).bind fun bt164 => (spoortop_TopFrames.l2 k3 l0 a1 l2 a3 a4 x11_1 x16_2 (wrap64 ((x16_2.size : Int) / 128)) t153 (wrap64 ((x16_2.size : Int) / 128)) (wrap64 (x74_3 + 1)) bt164.1 bt164.2.1 bt164.2.2.1 bt164.2.2.2.1)) else (none)) else (none)) else (none)) = some r := H
                          have A34 := Aside0.mk A340
                          clear A340
                          obtain ⟨ji35, hji35⟩ : ∃ j_ : Int, (wrap64 (128 * x74_3)) = j_ := ⟨_, rfl⟩
                          replace H : (if 0 ≤ (ji35) then (if (ji35) ≤ (wrap64 ((ji35) + 128)) then (if (wrap64 ((ji35) + 128)) ≤ (x16_2.size : Int) then ((disk_Write.f t155 t158 t161 t162 x74_3 (x16_2.extract ((ji35) : Int).toNat ((wrap64 ((ji35) + 128)) : Int).toNat)).bind fun bt164 => (spoortop_TopFrames.l2 k3 l0 a1 l2 a3 a4 x11_1 x16_2 (wrap64 ((x16_2.size : Int) / 128)) t153 (wrap64 ((x16_2.size : Int) / 128)) (wrap64 (x74_3 + 1)) bt164.1 bt164.2.1 bt164.2.2.1 bt164.2.2.2.1)) else (none)) else (none)) else (none)) = some r := by first | (rw [hji35] at H; exact H) | (simp only [hji35] at H ⊢; exact H)
                          (try rw [hji35] at A34)
                          have hji35w : (IntKind.i64.wrap (128 * x74_3)) = ji35 := (i64_w _).trans hji35
                          by_cases c36 : 0 ≤ (ji35)
                          · rw [if_pos c36] at H
                            have c36b0 := eq_true c36
                            have c36b1 : decide (0 ≤ (ji35)) = true := decide_eq_true c36
                            clear c36
                            by_cases c37 : (ji35) ≤ (wrap64 ((ji35) + 128))
                            · rw [if_pos c37] at H
                              have c37b0 := eq_true c37
                              have c37b1 : decide ((ji35) ≤ (wrap64 ((ji35) + 128))) = true := decide_eq_true c37
                              by_cases c38 : (wrap64 ((ji35) + 128)) ≤ (x16_2.size : Int)
                              · rw [if_pos c38] at H
                                have c38b0 := eq_true c38
                                have c38b1 : decide ((wrap64 ((ji35) + 128)) ≤ (x16_2.size : Int)) = true := decide_eq_true c38
                                replace H := Option.bind_eq_some_iff.mp H
                                obtain ⟨⟨t164, t167, t170, t171, t172⟩, A390, H⟩ := H
                                replace H : (spoortop_TopFrames.l2 k3 l0 a1 l2 a3 a4 x11_1 x16_2 (wrap64 ((x16_2.size : Int) / 128)) t153 (wrap64 ((x16_2.size : Int) / 128)) (wrap64 (x74_3 + 1)) t164 t167 t170 t171) = some r := H
                                have A39 := Aside0.mk A390
                                clear A390
                                have H' := Aside0.mk H
                                clear H
                                have hcz40_0 : wr.cell? ⟨gb154, 0, none⟩ = some (u155000) := (blk_cell BK154.out 0).trans rfl
                                have hcz40_1 : wr.cell? ⟨gb154, 1, none⟩ = some (u155001) := (blk_cell BK154.out 1).trans rfl
                                have hcz40_2 : wr.cell? ⟨gb154, 2, none⟩ = some (.int .i64 x155002_3) := (blk_cell BK154.out 2).trans rfl
                                have hcz40_3 : wr.cell? ⟨gb154, 3, none⟩ = some (.bool x155003_3) := (blk_cell BK154.out 3).trans rfl
                                have hfz40_0 := blk_frozen BK154.out 0
                                have hfz40_1 := blk_frozen BK154.out 1
                                have hfz40_2 := blk_frozen BK154.out 2
                                have hfz40_3 := blk_frozen BK154.out 3
                                obtain ⟨Ao41, co41, eo41⟩ := Kd.R_slice HO_155000.out
                                subst eo41
                                obtain ⟨Ao42, co42, eo42⟩ := Kd.R_slice HO_155001.out
                                subst eo42
                                try go_wp2_with (first | ((with_reducible refine gate_callee (f := 7) rfl ?_); refine goesL_ (some 82) rfl rfl Try.func7 (by kernel_rfl) rfl #[.agg #[.slice Ao41 x155000_3.length co41, .slice Ao42 x155001_3.length co42, .int .i64 x155002_3, .bool x155003_3]] rfl (by (try simp only [List.map_toArray, List.map_cons, List.map_nil]); first | done | rfl | (simp only [List.length_drop, List.length_take]; rfl)) ?_; (with_reducible refine (disk_Flush.calls _ _ x155000_3 _ _ x155001_3 x155002_3 x155003_3 t155 t158 t161 t162 t163 _ ?side1 ?side2 ?side3 ?side4 A34.out).mono ?_); (case side1 => repeat (first | exact (Kd.R_reads' HO_155000.out).2.2 | (with_reducible refine Kd.C_alloc ?_ _) | (with_reducible refine Kd.C_drewN ?_ _) | (with_reducible refine Kd.C_drew ?_))); (case side2 => exact (Kd.R_reads' HO_155000.out).2.1); (case side3 => repeat (first | exact (Kd.R_reads' HO_155001.out).2.2 | (with_reducible refine Kd.C_alloc ?_ _) | (with_reducible refine Kd.C_drewN ?_ _) | (with_reducible refine Kd.C_drew ?_))); (case side4 => exact (Kd.R_reads' HO_155001.out).2.1); rintro e w43 ⟨v156, v159, rfl, ho0, ho1, hb⟩; refine ⟨_, rfl, ?_⟩; have n0_ := Aside0.mk (Kd.R_elder' (by (with_reducible repeat (first | apply Kd.R_alloc | apply Kd.R_drewN | apply Kd.R_drew)); exact HO_155000.out) (Kd.R_base ho0) hb); have n1_ := Aside0.mk (Kd.R_elder' (by (with_reducible repeat (first | apply Kd.R_alloc | apply Kd.R_drewN | apply Kd.R_drew)); exact HO_155001.out) (Kd.R_base ho1) hb); have n2_ := Aside0.mk (Kd.R_lower (Kd.R_new' ho0 (Kd.R_lt (by (with_reducible repeat (first | apply Kd.R_alloc | apply Kd.R_drewN | apply Kd.R_drew)); exact HO_155000.out))) (below_size (by repeat (first | (with_reducible first | exact HB.out | apply below_alloc | apply pw_below_drewN | apply below_drew1 | refine below_set ?_ GE154.out) | exact HB.out)))); have n3_ := Aside0.mk (Kd.R_lower (Kd.R_new' ho1 (Kd.R_lt (by (with_reducible repeat (first | apply Kd.R_alloc | apply Kd.R_drewN | apply Kd.R_drew)); exact HO_155001.out))) (below_size (by repeat (first | (with_reducible first | exact HB.out | apply below_alloc | apply pw_below_drewN | apply below_drew1 | refine below_set ?_ GE154.out) | exact HB.out)))); have n4_ := Aside0.mk (blk_below (g := gb154) (o := .cells #[.slice Ao41 x155000_3.length co41, .slice Ao42 x155001_3.length co42, .int .i64 x155002_3, .bool x155003_3] 30 (0, 0)) (by (with_reducible repeat (first | refine blk_drewN ?_ _ | refine blk_drew ?_ | refine blk_alloc ?_ _)); exact BK154.out) hb); have n5_ := Aside0.mk (below_step (by repeat (first | (with_reducible first | exact HB.out | apply below_alloc | apply pw_below_drewN | apply below_drew1 | refine below_set ?_ GE154.out) | exact HB.out)) hb); clear HO_155000; clear HO_155001; clear BK154; clear HB; have HO_155000 := n0_; have HO_155001 := n1_; have HO157 := n2_; have HO160 := n3_; have BK154 := n4_; have HB := n5_; clear n0_ n1_ n2_ n3_ n4_ n5_; (try clear hb); (try clear hb2); (try clear hk); (try clear hi); (try clear ho0); (try clear ho1); obtain ⟨Ao44, co44, eo44⟩ := Kd.R_slice HO157.out; subst eo44; have hcz45_0 : w43.cell? ⟨gb154, 0, none⟩ = some (.slice Ao41 x155000_3.length co41) := (blk_cell BK154.out 0).trans rfl; have hcz45_1 : w43.cell? ⟨gb154, 1, none⟩ = some (.slice Ao42 x155001_3.length co42) := (blk_cell BK154.out 1).trans rfl; have hcz45_2 : w43.cell? ⟨gb154, 2, none⟩ = some (.int .i64 x155002_3) := (blk_cell BK154.out 2).trans rfl; have hcz45_3 : w43.cell? ⟨gb154, 3, none⟩ = some (.bool x155003_3) := (blk_cell BK154.out 3).trans rfl; have hfz45_0 := blk_frozen BK154.out 0; have hfz45_1 := blk_frozen BK154.out 1; have hfz45_2 := blk_frozen BK154.out 2; have hfz45_3 := blk_frozen BK154.out 3; obtain ⟨Ao46, co46, eo46⟩ := Kd.R_slice HO160.out; subst eo46))
                                have n0_ : Aside0 (Kd.R Kd.string 9 ((((w43.setCell ⟨gb154, 0, none⟩ (.slice Ao44 t155.length co44)).setCell ⟨gb154, 1, none⟩ (.slice Ao46 t158.length co46)).setCell ⟨gb154, 2, none⟩ (.int .i64 t161)).setCell ⟨gb154, 3, none⟩ (.bool t162)) w.heap.size (fun k_ => some k_ ≠ (.slice Ao44 t155.length co44 : Value).ownBlock) (.slice Ao41 x155000_3.length co41) x155000_3) := ⟨by (with_reducible repeat (first | apply Kd.R_alloc | apply Kd.R_drewN | apply Kd.R_drew)); exact Kd.R_mono (Kd.R_far (p := ⟨gb154, 3, none⟩) (Kd.R_far (p := ⟨gb154, 2, none⟩) (Kd.R_far (p := ⟨gb154, 1, none⟩) (Kd.R_far (p := ⟨gb154, 0, none⟩) (Kd.R_types HO_155000.out BK154.out (by decide)) (fun _ hk => hk.2) (.slice Ao44 t155.length co44)) (fun _ hk => hk.2) (.slice Ao46 t158.length co46)) (fun _ hk => hk.2) (.int .i64 t161)) (fun _ hk => hk.2) (.bool t162)) (fun _ hk => hk.1.2)⟩
                                have n1_ : Aside0 (Kd.R k61 61 ((((w43.setCell ⟨gb154, 0, none⟩ (.slice Ao44 t155.length co44)).setCell ⟨gb154, 1, none⟩ (.slice Ao46 t158.length co46)).setCell ⟨gb154, 2, none⟩ (.int .i64 t161)).setCell ⟨gb154, 3, none⟩ (.bool t162)) w.heap.size (fun k_ => some k_ ≠ (.slice Ao46 t158.length co46 : Value).ownBlock) (.slice Ao42 x155001_3.length co42) x155001_3) := ⟨by (with_reducible repeat (first | apply Kd.R_alloc | apply Kd.R_drewN | apply Kd.R_drew)); exact Kd.R_mono (Kd.R_far (p := ⟨gb154, 3, none⟩) (Kd.R_far (p := ⟨gb154, 2, none⟩) (Kd.R_far (p := ⟨gb154, 1, none⟩) (Kd.R_far (p := ⟨gb154, 0, none⟩) (Kd.R_types HO_155001.out BK154.out (by decide)) (fun _ hk => hk.2) (.slice Ao44 t155.length co44)) (fun _ hk => hk.2) (.slice Ao46 t158.length co46)) (fun _ hk => hk.2) (.int .i64 t161)) (fun _ hk => hk.2) (.bool t162)) (fun _ hk => hk.1.2)⟩
                                have n2_ : Aside0 (Kd.R Kd.string 9 ((((w43.setCell ⟨gb154, 0, none⟩ (.slice Ao44 t155.length co44)).setCell ⟨gb154, 1, none⟩ (.slice Ao46 t158.length co46)).setCell ⟨gb154, 2, none⟩ (.int .i64 t161)).setCell ⟨gb154, 3, none⟩ (.bool t162)) w.heap.size (fun k_ => some k_ ≠ (.slice Ao41 x155000_3.length co41 : Value).ownBlock) (.slice Ao44 t155.length co44) t155) := ⟨by (with_reducible repeat (first | apply Kd.R_alloc | apply Kd.R_drewN | apply Kd.R_drew)); exact Kd.R_mono (Kd.R_far (p := ⟨gb154, 3, none⟩) (Kd.R_far (p := ⟨gb154, 2, none⟩) (Kd.R_far (p := ⟨gb154, 1, none⟩) (Kd.R_far (p := ⟨gb154, 0, none⟩) (Kd.R_types HO157.out BK154.out (by decide)) (fun _ hk => hk.2) (.slice Ao44 t155.length co44)) (fun _ hk => hk.2) (.slice Ao46 t158.length co46)) (fun _ hk => hk.2) (.int .i64 t161)) (fun _ hk => hk.2) (.bool t162)) (fun _ hk => hk.1.2)⟩
                                have n3_ : Aside0 (Kd.R k61 61 ((((w43.setCell ⟨gb154, 0, none⟩ (.slice Ao44 t155.length co44)).setCell ⟨gb154, 1, none⟩ (.slice Ao46 t158.length co46)).setCell ⟨gb154, 2, none⟩ (.int .i64 t161)).setCell ⟨gb154, 3, none⟩ (.bool t162)) w.heap.size (fun k_ => some k_ ≠ (.slice Ao42 x155001_3.length co42 : Value).ownBlock) (.slice Ao46 t158.length co46) t158) := ⟨by (with_reducible repeat (first | apply Kd.R_alloc | apply Kd.R_drewN | apply Kd.R_drew)); exact Kd.R_mono (Kd.R_far (p := ⟨gb154, 3, none⟩) (Kd.R_far (p := ⟨gb154, 2, none⟩) (Kd.R_far (p := ⟨gb154, 1, none⟩) (Kd.R_far (p := ⟨gb154, 0, none⟩) (Kd.R_types HO160.out BK154.out (by decide)) (fun _ hk => hk.2) (.slice Ao44 t155.length co44)) (fun _ hk => hk.2) (.slice Ao46 t158.length co46)) (fun _ hk => hk.2) (.int .i64 t161)) (fun _ hk => hk.2) (.bool t162)) (fun _ hk => hk.1.2)⟩
                                have n4_ : Aside0 (((((w43.setCell ⟨gb154, 0, none⟩ (.slice Ao44 t155.length co44)).setCell ⟨gb154, 1, none⟩ (.slice Ao46 t158.length co46)).setCell ⟨gb154, 2, none⟩ (.int .i64 t161)).setCell ⟨gb154, 3, none⟩ (.bool t162)).heap[gb154]? = some (.cells #[.slice Ao44 t155.length co44, .slice Ao46 t158.length co46, .int .i64 t161, .bool t162] 30 (0, 0))) := ⟨by (with_reducible repeat (first | refine blk_drewN ?_ _ | refine blk_drew ?_ | refine blk_alloc ?_ _)); refine blk_put (cs := #[.slice Ao44 t155.length co44, .slice Ao46 t158.length co46, .int .i64 t161, .bool x155003_3]) ?_ 3 _ rfl; (with_reducible repeat (first | refine blk_drewN ?_ _ | refine blk_drew ?_ | refine blk_alloc ?_ _)); refine blk_put (cs := #[.slice Ao44 t155.length co44, .slice Ao46 t158.length co46, .int .i64 x155002_3, .bool x155003_3]) ?_ 2 _ rfl; (with_reducible repeat (first | refine blk_drewN ?_ _ | refine blk_drew ?_ | refine blk_alloc ?_ _)); refine blk_put (cs := #[.slice Ao44 t155.length co44, .slice Ao42 x155001_3.length co42, .int .i64 x155002_3, .bool x155003_3]) ?_ 1 _ rfl; (with_reducible repeat (first | refine blk_drewN ?_ _ | refine blk_drew ?_ | refine blk_alloc ?_ _)); refine blk_put (cs := #[.slice Ao41 x155000_3.length co41, .slice Ao42 x155001_3.length co42, .int .i64 x155002_3, .bool x155003_3]) ?_ 0 _ rfl; (with_reducible repeat (first | refine blk_drewN ?_ _ | refine blk_drew ?_ | refine blk_alloc ?_ _)); exact BK154.out⟩
                                have n5_ : Aside0 (Below w.heap.size w ((((w43.setCell ⟨gb154, 0, none⟩ (.slice Ao44 t155.length co44)).setCell ⟨gb154, 1, none⟩ (.slice Ao46 t158.length co46)).setCell ⟨gb154, 2, none⟩ (.int .i64 t161)).setCell ⟨gb154, 3, none⟩ (.bool t162))) := ⟨by repeat (first | (with_reducible first | exact HB.out | apply below_alloc | apply pw_below_drewN | apply below_drew1 | refine below_set ?_ GE154.out) | exact HB.out)⟩
                                (try clear HO_155000)
                                (try clear HO_155001)
                                (try clear HO157)
                                (try clear HO160)
                                (try clear BK154)
                                (try clear HB)
                                generalize ((((w43.setCell ⟨gb154, 0, none⟩ (.slice Ao44 t155.length co44)).setCell ⟨gb154, 1, none⟩ (.slice Ao46 t158.length co46)).setCell ⟨gb154, 2, none⟩ (.int .i64 t161)).setCell ⟨gb154, 3, none⟩ (.bool t162)) = w47 at n0_ n1_ n2_ n3_ n4_ n5_ ⊢
                                have HO_155000 := n0_
                                have HO_155001 := n1_
                                have HO157 := n2_
                                have HO160 := n3_
                                have BK154 := n4_
                                have HB := n5_
                                clear n0_ n1_ n2_ n3_ n4_ n5_
                                have n0_ := Aside0.mk (Kd.R_drew HO_155000.out)
                                have n1_ := Aside0.mk (Kd.R_drew HO_155001.out)
                                have n2_ := Aside0.mk (Kd.R_drew HO157.out)
                                have n3_ := Aside0.mk (Kd.R_drew HO160.out)
                                have n4_ := Aside0.mk (blk_drew BK154.out)
                                have n5_ := Aside0.mk (below_drew1 HB.out)
                                clear HO_155000
                                clear HO_155001
                                clear HO157
                                clear HO160
                                clear BK154
                                clear HB
                                have HO_155000 := n0_
                                have HO_155001 := n1_
                                have HO157 := n2_
                                have HO160 := n3_
                                have BK154 := n4_
                                have HB := n5_
                                clear n0_ n1_ n2_ n3_ n4_ n5_
                                refine start_ (n := 14) (S := fun w' => w'.cell? ⟨gb154, 0, none⟩ = some (.slice Ao44 t155.length co44) ∧ w'.cell? ⟨gb154, 1, none⟩ = some (.slice Ao46 t158.length co46) ∧ w'.cell? ⟨gb154, 2, none⟩ = some (.int .i64 t161) ∧ w'.cell? ⟨gb154, 3, none⟩ = some (.bool t162)) (ds := [13]) #[false, false, false, false, false, false, false, false, false, false, false, false, false, false] (by kernel_rfl) rfl rfl ⟨(blk_cell BK154.out 0).trans rfl, (blk_cell BK154.out 1).trans rfl, (blk_cell BK154.out 2).trans rfl, (blk_cell BK154.out 3).trans rfl⟩ (fun hHeld => ?_); refine with_tabW spoortop_TopFrames.tab24 spoortop_TopFrames.bits24 (fun HT_ HW_ => ?_)
                                generalize w47.drew = w48 at HO_155000 HO_155001 HO157 HO160 BK154 HB hHeld ⊢
                                refine pure_ (i := 1) (N := some 87) (v := ?_) (a' := ?_) #[false, true, false, false, false, false, false, false, false, false, false, false, false, false] rfl rfl (any_of HT_.out (by kernel_rfl)) (fun _ _ _ h => h) (Or.inl ⟨by rfl, ?_⟩) ?_ ?_
                                rotate_left
                                · intro w'
                                  go_simp
                                  with_reducible rfl
                                rotate_left
                                · simp only [Act.put, List.setIfInBounds_toArray, List.set_cons_zero, List.set_cons_succ, i64_w, i32_w]
                                  rfl
                                refine pure_ (i := 2) (N := some 88) (v := ?_) (a' := ?_) #[false, true, true, false, false, false, false, false, false, false, false, false, false, false] rfl rfl (any_of HT_.out (by kernel_rfl)) (fun _ _ _ h => h) (Or.inl ⟨by rfl, ?_⟩) ?_ ?_
                                rotate_left
                                · intro w'
                                  go_simp
                                  with_reducible rfl
                                rotate_left
                                · simp only [Act.put, List.setIfInBounds_toArray, List.set_cons_zero, List.set_cons_succ, i64_w, i32_w]
                                  rfl
                                refine pure_ (i := 3) (N := some 89) (v := ?_) (a' := ?_) #[false, true, true, true, false, false, false, false, false, false, false, false, false, false] rfl rfl (any_of HT_.out (by kernel_rfl)) (fun _ _ _ h => h) (Or.inl ⟨by rfl, ?_⟩) ?_ ?_
                                rotate_left
                                · intro w'
                                  go_simp
                                  with_reducible rfl
                                rotate_left
                                · simp only [Act.put, List.setIfInBounds_toArray, List.set_cons_zero, List.set_cons_succ, i64_w, i32_w]
                                  rfl
                                refine pure_ (i := 4) (N := some 90) (v := ?_) (a' := ?_) #[false, true, true, true, true, false, false, false, false, false, false, false, false, false] rfl rfl (any_of HT_.out (by kernel_rfl)) (fun _ _ _ h => h) (Or.inl ⟨by rfl, ?_⟩) ?_ ?_
                                rotate_left
                                · intro w'
                                  go_simp
                                  with_reducible rfl
                                rotate_left
                                · simp only [Act.put, List.setIfInBounds_toArray, List.set_cons_zero, List.set_cons_succ, i64_w, i32_w]
                                  rfl
                                refine pure_ (i := 5) (N := some 91) (v := ?_) (a' := ?_) #[false, true, true, true, true, true, false, false, false, false, false, false, false, false] rfl rfl (any_of HT_.out (by kernel_rfl)) (fun _ _ _ h => h) (Or.inl ⟨by rfl, ?_⟩) ?_ ?_
                                rotate_left
                                · intro w'
                                  go_simp
                                  with_reducible rfl
                                rotate_left
                                · simp only [Act.put, List.setIfInBounds_toArray, List.set_cons_zero, List.set_cons_succ, i64_w, i32_w]
                                  rfl
                                refine pure_ (i := 6) (N := some 92) (v := ?_) (a' := ?_) #[false, true, true, true, true, true, true, false, false, false, false, false, false, false] rfl rfl (any_of HT_.out (by kernel_rfl)) (fun _ _ _ h => h) (Or.inl ⟨by rfl, ?_⟩) ?_ ?_
                                rotate_left
                                · intro w'
                                  go_simp
                                  with_reducible rfl
                                rotate_left
                                · simp only [Act.put, List.setIfInBounds_toArray, List.set_cons_zero, List.set_cons_succ, i64_w, i32_w]
                                  rfl
                                refine pure_ (i := 7) (N := some 93) (v := ?_) (a' := ?_) #[false, true, true, true, true, true, true, true, false, false, false, false, false, false] rfl rfl (any_of HT_.out (by kernel_rfl)) (fun _ _ _ h => h) (Or.inl ⟨by rfl, ?_⟩) ?_ ?_
                                rotate_left
                                · intro w'
                                  go_simp
                                  with_reducible rfl
                                rotate_left
                                · simp only [Act.put, List.setIfInBounds_toArray, List.set_cons_zero, List.set_cons_succ, i64_w, i32_w]
                                  rfl
                                refine pure_ (i := 8) (N := some 94) (v := ?_) (a' := ?_) #[false, true, true, true, true, true, true, true, true, false, false, false, false, false] rfl rfl (any_of HT_.out (by kernel_rfl)) (fun _ _ _ h => h) (Or.inl ⟨by rfl, ?_⟩) ?_ ?_
                                rotate_left
                                · intro w'
                                  go_simp
                                  with_reducible rfl
                                rotate_left
                                · simp only [Act.put, List.setIfInBounds_toArray, List.set_cons_zero, List.set_cons_succ, i64_w, i32_w]
                                  rfl
                                refine take_ (i := 0) (N := some 86) (v := ?_) (a' := ?_) #[true, true, true, true, true, true, true, true, true, false, false, false, false, false] rfl rfl (take_ofW HT_.out HW_.out (by kernel_rfl)) (fun _ _ _ h => h) (Or.inl ⟨by rfl, ?_⟩) hHeld ?_ ?_
                                rotate_left
                                · rintro w' ⟨s0, s1, s2, s3⟩
                                  go_simp
                                  with_reducible rfl
                                rotate_left
                                · simp only [Act.put, List.setIfInBounds_toArray, List.set_cons_zero, List.set_cons_succ, i64_w, i32_w]
                                  rfl
                                refine one_ (i := 9) (N := some 95) #[true, true, true, true, true, true, true, true, true, true, false, false, false, false] rfl rfl (one_of HT_.out (by kernel_rfl)) (by decide) (fun K hK => ?_)
                                refine goes_ Try.func8 (by kernel_rfl) rfl #[.agg #[.slice Ao44 t155.length co44, .slice Ao46 t158.length co46, .int .i64 t161, .bool t162], .int .i64 x74_3, .string (x16_2.extract ((ji35) : Int).toNat ((wrap64 ((ji35) + 128)) : Int).toNat)] (by rfl) rfl rfl (by (try simp only [List.map_toArray, List.map_cons, List.map_nil]); first | done | (simp only [hji35]; rfl) | rfl | (simp only [List.length_drop, List.length_take]; rfl)) ?_
                                with_reducible refine (disk_Write.calls _ _ t155 _ _ t158 t161 t162 x74_3 (x16_2.extract ((ji35) : Int).toNat ((wrap64 ((ji35) + 128)) : Int).toNat) t164 t167 t170 t171 t172 _ ?side1 ?side2 ?side3 ?side4 A39.out).mono ?_
                                (case side1 => repeat (first | exact (Kd.R_reads' HO157.out).2.2 | (with_reducible refine Kd.C_alloc ?_ _) | (with_reducible refine Kd.C_drewN ?_ _) | (with_reducible refine Kd.C_drew ?_)))
                                (case side2 => exact (Kd.R_reads' HO157.out).2.1)
                                (case side3 => repeat (first | exact (Kd.R_reads' HO160.out).2.2 | (with_reducible refine Kd.C_alloc ?_ _) | (with_reducible refine Kd.C_drewN ?_ _) | (with_reducible refine Kd.C_drew ?_)))
                                (case side4 => exact (Kd.R_reads' HO160.out).2.1)
                                rintro e w49 ⟨v165, v168, rfl, ho0, ho1, hb⟩
                                refine ⟨_, rfl, ?_⟩
                                have n0_ := Aside0.mk (Kd.R_elder' (by (with_reducible repeat (first | apply Kd.R_alloc | apply Kd.R_drewN | apply Kd.R_drew)); exact HO_155000.out) (Kd.R_base ho0) hb)
                                have n1_ := Aside0.mk (Kd.R_elder' (by (with_reducible repeat (first | apply Kd.R_alloc | apply Kd.R_drewN | apply Kd.R_drew)); exact HO_155001.out) (Kd.R_base ho1) hb)
                                have n2_ := Aside0.mk (Kd.R_elder' (by (with_reducible repeat (first | apply Kd.R_alloc | apply Kd.R_drewN | apply Kd.R_drew)); exact HO157.out) (Kd.R_base ho0) hb)
                                have n3_ := Aside0.mk (Kd.R_elder' (by (with_reducible repeat (first | apply Kd.R_alloc | apply Kd.R_drewN | apply Kd.R_drew)); exact HO160.out) (Kd.R_base ho1) hb)
                                have n4_ := Aside0.mk (Kd.R_lower (Kd.R_new' (Kd.R_new' ho0 (Kd.R_lt (by (with_reducible repeat (first | apply Kd.R_alloc | apply Kd.R_drewN | apply Kd.R_drew)); exact HO_155000.out))) (Kd.R_lt (by (with_reducible repeat (first | apply Kd.R_alloc | apply Kd.R_drewN | apply Kd.R_drew)); exact HO157.out))) (below_size (by repeat (first | (with_reducible first | exact HB.out | apply below_alloc | apply pw_below_drewN | apply below_drew1 | refine below_set ?_ GE154.out) | exact HB.out))))
                                have n5_ := Aside0.mk (Kd.R_lower (Kd.R_new' (Kd.R_new' ho1 (Kd.R_lt (by (with_reducible repeat (first | apply Kd.R_alloc | apply Kd.R_drewN | apply Kd.R_drew)); exact HO_155001.out))) (Kd.R_lt (by (with_reducible repeat (first | apply Kd.R_alloc | apply Kd.R_drewN | apply Kd.R_drew)); exact HO160.out))) (below_size (by repeat (first | (with_reducible first | exact HB.out | apply below_alloc | apply pw_below_drewN | apply below_drew1 | refine below_set ?_ GE154.out) | exact HB.out))))
                                have n6_ := Aside0.mk (blk_below (g := gb154) (o := .cells #[.slice Ao44 t155.length co44, .slice Ao46 t158.length co46, .int .i64 t161, .bool t162] 30 (0, 0)) (by (with_reducible repeat (first | refine blk_drewN ?_ _ | refine blk_drew ?_ | refine blk_alloc ?_ _)); exact BK154.out) hb)
                                have n7_ := Aside0.mk (below_step (by repeat (first | (with_reducible first | exact HB.out | apply below_alloc | apply pw_below_drewN | apply below_drew1 | refine below_set ?_ GE154.out) | exact HB.out)) hb)
                                clear HO_155000
                                clear HO_155001
                                clear HO157
                                clear HO160
                                clear BK154
                                clear HB
                                have HO_155000 := n0_
                                have HO_155001 := n1_
                                have HO157 := n2_
                                have HO160 := n3_
                                have HO166 := n4_
                                have HO169 := n5_
                                have BK154 := n6_
                                have HB := n7_
                                clear n0_ n1_ n2_ n3_ n4_ n5_ n6_ n7_
                                (try clear hb)
                                (try clear hb2)
                                (try clear hk)
                                (try clear hi)
                                (try clear ho0)
                                (try clear ho1)
                                obtain ⟨Ao50, co50, eo50⟩ := Kd.R_slice HO166.out
                                (first | subst eo50 | (injection eo50 with f1_ f2_ f3_; have f4_ := f1_.symm; have f5_ := f3_.symm; clear f1_ f2_ f3_; subst f4_; subst f5_))
                                obtain ⟨Ao52, co52, eo52⟩ := Kd.R_slice HO169.out
                                (first | subst eo52 | (injection eo52 with f1_ f2_ f3_; have f4_ := f1_.symm; have f5_ := f3_.symm; clear f1_ f2_ f3_; subst f4_; subst f5_))
                                refine hK.out _ _ ⟨(blk_cell BK154.out 0).trans rfl, (blk_cell BK154.out 1).trans rfl, (blk_cell BK154.out 2).trans rfl, (blk_cell BK154.out 3).trans rfl⟩ (fun hHeld => ?_)
                                clear hK K
                                refine norm_ (a' := ?_) ?_ ?_
                                rotate_left
                                · show Act.put _ (some 95) _ = _
                                  simp only [Act.put, List.setIfInBounds_toArray, List.set_cons_zero, List.set_cons_succ, i64_w, i32_w]
                                  rfl
                                refine pure_ (i := 10) (N := some 85) (v := ?_) (a' := ?_) #[true, true, true, true, true, true, true, true, true, true, true, false, false, false] rfl rfl (any_of HT_.out (by kernel_rfl)) (fun _ _ _ h => h) (Or.inl ⟨by rfl, ?_⟩) ?_ ?_
                                rotate_left
                                · intro w'
                                  go_simp
                                  with_reducible rfl
                                rotate_left
                                · simp only [Act.put, List.setIfInBounds_toArray, List.set_cons_zero, List.set_cons_succ, i64_w, i32_w]
                                  rfl
                                refine pure_ (i := 11) (N := some 96) (v := ?_) (a' := ?_) #[true, true, true, true, true, true, true, true, true, true, true, true, false, false] rfl rfl (any_of HT_.out (by kernel_rfl)) (fun _ _ _ h => h) (Or.inl ⟨by rfl, ?_⟩) ?_ ?_
                                rotate_left
                                · intro w'
                                  go_simp
                                  with_reducible rfl
                                rotate_left
                                · simp only [Act.put, List.setIfInBounds_toArray, List.set_cons_zero, List.set_cons_succ, i64_w, i32_w]
                                  rfl
                                refine pure_ (i := 12) (N := some 97) (v := ?_) (a' := ?_) #[true, true, true, true, true, true, true, true, true, true, true, true, true, false] rfl rfl (any_of HT_.out (by kernel_rfl)) (fun _ _ _ h => h) (Or.inl ⟨by rfl, ?_⟩) ?_ ?_
                                rotate_left
                                · intro w'
                                  go_simp
                                  with_reducible rfl
                                rotate_left
                                · simp only [Act.put, List.setIfInBounds_toArray, List.set_cons_zero, List.set_cons_succ, i64_w, i32_w]
                                  rfl
                                refine last_ (i := 13) (N := none) #[true, true, true, true, true, true, true, true, true, true, true, true, true, true] rfl rfl (one_of HT_.out (by kernel_rfl)) (by decide) (fun K hK => ?_)
                                have hs51 : w49.cell? ⟨gb154, 0, none⟩ = some (.slice Ao44 t155.length co44) := (blk_cell BK154.out 0).trans rfl
                                have hfs51 := blk_frozen BK154.out 0
                                have hs53 : w49.cell? ⟨gb154, 1, none⟩ = some (.slice Ao46 t158.length co46) := (blk_cell BK154.out 1).trans rfl
                                have hfs53 := blk_frozen BK154.out 1
                                have hs54 : w49.cell? ⟨gb154, 2, none⟩ = some (.int .i64 t161) := (blk_cell BK154.out 2).trans rfl
                                have hfs54 := blk_frozen BK154.out 2
                                have hs55 : w49.cell? ⟨gb154, 3, none⟩ = some (.bool t162) := (blk_cell BK154.out 3).trans rfl
                                have hfs55 := blk_frozen BK154.out 3
                                refine skip_ (w1 := ?_) (by rfl) rfl ?_ ?_
                                rotate_left
                                · go_simp
                                  rfl
                                refine hK.out _ _ ?_
                                clear hK K
                                refine done_ (done_of HT_.out (by kernel_rfl)) ?_
                                try go_wp2
                                go_roundg k3
                                case measure => have := HK1.out; have := HK2.out; have := HK3.out; omega
                                case rel => exact ⟨(wrap64 (x74_3 + 1)), (t164), (t167), (t170), (t171), (.slice Ao50 t164.length co50), (.slice Ao52 t167.length co52), (by first | rfl | (simp; done) | (simp [*]; done)), H', ⟨by have := HK1.out; have := HK2.out; have := HK3.out; omega⟩, ⟨by (with_reducible repeat (first | apply Kd.R_alloc | apply Kd.R_drewN | apply Kd.R_drew)); exact Kd.R_mono (Kd.R_far (p := ⟨gb154, 3, none⟩) (Kd.R_far (p := ⟨gb154, 2, none⟩) (Kd.R_far (p := ⟨gb154, 1, none⟩) (Kd.R_far (p := ⟨gb154, 0, none⟩) (Kd.R_types HO166.out BK154.out (by decide)) (fun _ hk => hk.2) (.slice Ao50 t164.length co50)) (fun _ hk => hk.2) (.slice Ao52 t167.length co52)) (fun _ hk => hk.2) (.int .i64 t170)) (fun _ hk => hk.2) (.bool t171)) (fun _ hk => trivial)⟩, ⟨by (with_reducible repeat (first | apply Kd.R_alloc | apply Kd.R_drewN | apply Kd.R_drew)); exact Kd.R_mono (Kd.R_far (p := ⟨gb154, 3, none⟩) (Kd.R_far (p := ⟨gb154, 2, none⟩) (Kd.R_far (p := ⟨gb154, 1, none⟩) (Kd.R_far (p := ⟨gb154, 0, none⟩) (Kd.R_types HO169.out BK154.out (by decide)) (fun _ hk => hk.2) (.slice Ao50 t164.length co50)) (fun _ hk => hk.2) (.slice Ao52 t167.length co52)) (fun _ hk => hk.2) (.int .i64 t170)) (fun _ hk => hk.2) (.bool t171)) (fun _ hk => trivial)⟩, ⟨by (with_reducible repeat (first | refine blk_drewN ?_ _ | refine blk_drew ?_ | refine blk_alloc ?_ _)); refine blk_put (cs := #[.slice Ao50 t164.length co50, .slice Ao52 t167.length co52, .int .i64 t170, .bool t162]) ?_ 3 _ rfl; (with_reducible repeat (first | refine blk_drewN ?_ _ | refine blk_drew ?_ | refine blk_alloc ?_ _)); refine blk_put (cs := #[.slice Ao50 t164.length co50, .slice Ao52 t167.length co52, .int .i64 t161, .bool t162]) ?_ 2 _ rfl; (with_reducible repeat (first | refine blk_drewN ?_ _ | refine blk_drew ?_ | refine blk_alloc ?_ _)); refine blk_put (cs := #[.slice Ao50 t164.length co50, .slice Ao46 t158.length co46, .int .i64 t161, .bool t162]) ?_ 1 _ rfl; (with_reducible repeat (first | refine blk_drewN ?_ _ | refine blk_drew ?_ | refine blk_alloc ?_ _)); refine blk_put (cs := #[.slice Ao44 t155.length co44, .slice Ao46 t158.length co46, .int .i64 t161, .bool t162]) ?_ 0 _ rfl; (with_reducible repeat (first | refine blk_drewN ?_ _ | refine blk_drew ?_ | refine blk_alloc ?_ _)); exact BK154.out⟩, ⟨by repeat (first | (with_reducible first | exact HB.out | apply below_alloc | apply pw_below_drewN | apply below_drew1 | refine below_set ?_ GE154.out) | exact HB.out)⟩⟩
                              · rw [if_neg c38] at H
                                exact absurd H (by simp)
                            · rw [if_neg c37] at H
                              exact absurd H (by simp)
                          · rw [if_neg c36] at H
                            exact absurd H (by simp)
                        · rw [if_neg c33] at H
                          have c33b0 : (x74_3 == a1) = false := beq_eq_false_iff_ne.mpr c33
                          have c33b1 : (x74_3 != a1) = true := bne_iff_ne.mpr c33
                          obtain ⟨ji56, hji56⟩ : ∃ j_ : Int, (wrap64 (128 * x74_3)) = j_ := ⟨_, rfl⟩
                          replace H : (if 0 ≤ (ji56) then (if (ji56) ≤ (wrap64 ((ji56) + 128)) then (if (wrap64 ((ji56) + 128)) ≤ (x16_2.size : Int) then ((disk_Write.f x155000_3 x155001_3 x155002_3 x155003_3 x74_3 (x16_2.extract ((ji56) : Int).toNat ((wrap64 ((ji56) + 128)) : Int).toNat)).bind fun bt173 => (spoortop_TopFrames.l2 k3 l0 a1 l2 a3 a4 x11_1 x16_2 (wrap64 ((x16_2.size : Int) / 128)) t153 (wrap64 ((x16_2.size : Int) / 128)) (wrap64 (x74_3 + 1)) bt173.1 bt173.2.1 bt173.2.2.1 bt173.2.2.2.1)) else (none)) else (none)) else (none)) = some r := by first | (rw [hji56] at H; exact H) | (simp only [hji56] at H ⊢; exact H)
                          have hji56w : (IntKind.i64.wrap (128 * x74_3)) = ji56 := (i64_w _).trans hji56
                          by_cases c57 : 0 ≤ (ji56)
                          · rw [if_pos c57] at H
                            have c57b0 := eq_true c57
                            have c57b1 : decide (0 ≤ (ji56)) = true := decide_eq_true c57
                            clear c57
                            by_cases c58 : (ji56) ≤ (wrap64 ((ji56) + 128))
                            · rw [if_pos c58] at H
                              have c58b0 := eq_true c58
                              have c58b1 : decide ((ji56) ≤ (wrap64 ((ji56) + 128))) = true := decide_eq_true c58
                              by_cases c59 : (wrap64 ((ji56) + 128)) ≤ (x16_2.size : Int)
                              · rw [if_pos c59] at H
                                have c59b0 := eq_true c59
                                have c59b1 : decide ((wrap64 ((ji56) + 128)) ≤ (x16_2.size : Int)) = true := decide_eq_true c59
                                replace H := Option.bind_eq_some_iff.mp H
                                obtain ⟨⟨t173, t176, t179, t180, t181⟩, A600, H⟩ := H
                                replace H : (spoortop_TopFrames.l2 k3 l0 a1 l2 a3 a4 x11_1 x16_2 (wrap64 ((x16_2.size : Int) / 128)) t153 (wrap64 ((x16_2.size : Int) / 128)) (wrap64 (x74_3 + 1)) t173 t176 t179 t180) = some r := H
                                have A60 := Aside0.mk A600
                                clear A600
                                have H' := Aside0.mk H
                                clear H
                                try go_wp2
                                have n0_ := Aside0.mk (Kd.R_drew HO_155000.out)
                                have n1_ := Aside0.mk (Kd.R_drew HO_155001.out)
                                have n2_ := Aside0.mk (blk_drew BK154.out)
                                have n3_ := Aside0.mk (below_drew1 HB.out)
                                clear HO_155000
                                clear HO_155001
                                clear BK154
                                clear HB
                                have HO_155000 := n0_
                                have HO_155001 := n1_
                                have BK154 := n2_
                                have HB := n3_
                                clear n0_ n1_ n2_ n3_
                                obtain ⟨Ao62, co62, eo62⟩ := Kd.R_slice HO_155000.out
                                (first | subst eo62 | (injection eo62 with f1_ f2_ f3_; have f4_ := f1_.symm; have f5_ := f3_.symm; clear f1_ f2_ f3_; subst f4_; subst f5_))
                                obtain ⟨Ao63, co63, eo63⟩ := Kd.R_slice HO_155001.out
                                (first | subst eo63 | (injection eo63 with f1_ f2_ f3_; have f4_ := f1_.symm; have f5_ := f3_.symm; clear f1_ f2_ f3_; subst f4_; subst f5_))
                                refine start_ (n := 14) (S := fun w' => w'.cell? ⟨gb154, 0, none⟩ = some (.slice Ao62 x155000_3.length co62) ∧ w'.cell? ⟨gb154, 1, none⟩ = some (.slice Ao63 x155001_3.length co63) ∧ w'.cell? ⟨gb154, 2, none⟩ = some (.int .i64 x155002_3) ∧ w'.cell? ⟨gb154, 3, none⟩ = some (.bool x155003_3)) (ds := [13]) #[false, false, false, false, false, false, false, false, false, false, false, false, false, false] (by kernel_rfl) rfl rfl ⟨(blk_cell BK154.out 0).trans rfl, (blk_cell BK154.out 1).trans rfl, (blk_cell BK154.out 2).trans rfl, (blk_cell BK154.out 3).trans rfl⟩ (fun hHeld => ?_); refine with_tabW spoortop_TopFrames.tab24 spoortop_TopFrames.bits24 (fun HT_ HW_ => ?_)
                                generalize wr.drew = w61 at HO_155000 HO_155001 BK154 HB hHeld ⊢
                                refine pure_ (i := 1) (N := some 87) (v := ?_) (a' := ?_) #[false, true, false, false, false, false, false, false, false, false, false, false, false, false] rfl rfl (any_of HT_.out (by kernel_rfl)) (fun _ _ _ h => h) (Or.inl ⟨by rfl, ?_⟩) ?_ ?_
                                rotate_left
                                · intro w'
                                  go_simp
                                  with_reducible rfl
                                rotate_left
                                · simp only [Act.put, List.setIfInBounds_toArray, List.set_cons_zero, List.set_cons_succ, i64_w, i32_w]
                                  rfl
                                refine pure_ (i := 2) (N := some 88) (v := ?_) (a' := ?_) #[false, true, true, false, false, false, false, false, false, false, false, false, false, false] rfl rfl (any_of HT_.out (by kernel_rfl)) (fun _ _ _ h => h) (Or.inl ⟨by rfl, ?_⟩) ?_ ?_
                                rotate_left
                                · intro w'
                                  go_simp
                                  with_reducible rfl
                                rotate_left
                                · simp only [Act.put, List.setIfInBounds_toArray, List.set_cons_zero, List.set_cons_succ, i64_w, i32_w]
                                  rfl
                                refine pure_ (i := 3) (N := some 89) (v := ?_) (a' := ?_) #[false, true, true, true, false, false, false, false, false, false, false, false, false, false] rfl rfl (any_of HT_.out (by kernel_rfl)) (fun _ _ _ h => h) (Or.inl ⟨by rfl, ?_⟩) ?_ ?_
                                rotate_left
                                · intro w'
                                  go_simp
                                  with_reducible rfl
                                rotate_left
                                · simp only [Act.put, List.setIfInBounds_toArray, List.set_cons_zero, List.set_cons_succ, i64_w, i32_w]
                                  rfl
                                refine pure_ (i := 4) (N := some 90) (v := ?_) (a' := ?_) #[false, true, true, true, true, false, false, false, false, false, false, false, false, false] rfl rfl (any_of HT_.out (by kernel_rfl)) (fun _ _ _ h => h) (Or.inl ⟨by rfl, ?_⟩) ?_ ?_
                                rotate_left
                                · intro w'
                                  go_simp
                                  with_reducible rfl
                                rotate_left
                                · simp only [Act.put, List.setIfInBounds_toArray, List.set_cons_zero, List.set_cons_succ, i64_w, i32_w]
                                  rfl
                                refine pure_ (i := 5) (N := some 91) (v := ?_) (a' := ?_) #[false, true, true, true, true, true, false, false, false, false, false, false, false, false] rfl rfl (any_of HT_.out (by kernel_rfl)) (fun _ _ _ h => h) (Or.inl ⟨by rfl, ?_⟩) ?_ ?_
                                rotate_left
                                · intro w'
                                  go_simp
                                  with_reducible rfl
                                rotate_left
                                · simp only [Act.put, List.setIfInBounds_toArray, List.set_cons_zero, List.set_cons_succ, i64_w, i32_w]
                                  rfl
                                refine pure_ (i := 6) (N := some 92) (v := ?_) (a' := ?_) #[false, true, true, true, true, true, true, false, false, false, false, false, false, false] rfl rfl (any_of HT_.out (by kernel_rfl)) (fun _ _ _ h => h) (Or.inl ⟨by rfl, ?_⟩) ?_ ?_
                                rotate_left
                                · intro w'
                                  go_simp
                                  with_reducible rfl
                                rotate_left
                                · simp only [Act.put, List.setIfInBounds_toArray, List.set_cons_zero, List.set_cons_succ, i64_w, i32_w]
                                  rfl
                                refine pure_ (i := 7) (N := some 93) (v := ?_) (a' := ?_) #[false, true, true, true, true, true, true, true, false, false, false, false, false, false] rfl rfl (any_of HT_.out (by kernel_rfl)) (fun _ _ _ h => h) (Or.inl ⟨by rfl, ?_⟩) ?_ ?_
                                rotate_left
                                · intro w'
                                  go_simp
                                  with_reducible rfl
                                rotate_left
                                · simp only [Act.put, List.setIfInBounds_toArray, List.set_cons_zero, List.set_cons_succ, i64_w, i32_w]
                                  rfl
                                refine pure_ (i := 8) (N := some 94) (v := ?_) (a' := ?_) #[false, true, true, true, true, true, true, true, true, false, false, false, false, false] rfl rfl (any_of HT_.out (by kernel_rfl)) (fun _ _ _ h => h) (Or.inl ⟨by rfl, ?_⟩) ?_ ?_
                                rotate_left
                                · intro w'
                                  go_simp
                                  with_reducible rfl
                                rotate_left
                                · simp only [Act.put, List.setIfInBounds_toArray, List.set_cons_zero, List.set_cons_succ, i64_w, i32_w]
                                  rfl
                                refine take_ (i := 0) (N := some 86) (v := ?_) (a' := ?_) #[true, true, true, true, true, true, true, true, true, false, false, false, false, false] rfl rfl (take_ofW HT_.out HW_.out (by kernel_rfl)) (fun _ _ _ h => h) (Or.inl ⟨by rfl, ?_⟩) hHeld ?_ ?_
                                rotate_left
                                · rintro w' ⟨s0, s1, s2, s3⟩
                                  go_simp
                                  with_reducible rfl
                                rotate_left
                                · simp only [Act.put, List.setIfInBounds_toArray, List.set_cons_zero, List.set_cons_succ, i64_w, i32_w]
                                  rfl
                                refine one_ (i := 9) (N := some 95) #[true, true, true, true, true, true, true, true, true, true, false, false, false, false] rfl rfl (one_of HT_.out (by kernel_rfl)) (by decide) (fun K hK => ?_)
                                refine goes_ Try.func8 (by kernel_rfl) rfl #[.agg #[.slice Ao62 x155000_3.length co62, .slice Ao63 x155001_3.length co63, .int .i64 x155002_3, .bool x155003_3], .int .i64 x74_3, .string (x16_2.extract ((ji56) : Int).toNat ((wrap64 ((ji56) + 128)) : Int).toNat)] (by rfl) rfl rfl (by (try simp only [List.map_toArray, List.map_cons, List.map_nil]); first | done | (simp only [hji56]; rfl) | rfl | (simp only [List.length_drop, List.length_take]; rfl)) ?_
                                with_reducible refine (disk_Write.calls _ _ x155000_3 _ _ x155001_3 x155002_3 x155003_3 x74_3 (x16_2.extract ((ji56) : Int).toNat ((wrap64 ((ji56) + 128)) : Int).toNat) t173 t176 t179 t180 t181 _ ?side1 ?side2 ?side3 ?side4 A60.out).mono ?_
                                (case side1 => repeat (first | exact (Kd.R_reads' HO_155000.out).2.2 | (with_reducible refine Kd.C_alloc ?_ _) | (with_reducible refine Kd.C_drewN ?_ _) | (with_reducible refine Kd.C_drew ?_)))
                                (case side2 => exact (Kd.R_reads' HO_155000.out).2.1)
                                (case side3 => repeat (first | exact (Kd.R_reads' HO_155001.out).2.2 | (with_reducible refine Kd.C_alloc ?_ _) | (with_reducible refine Kd.C_drewN ?_ _) | (with_reducible refine Kd.C_drew ?_)))
                                (case side4 => exact (Kd.R_reads' HO_155001.out).2.1)
                                rintro e w64 ⟨v174, v177, rfl, ho0, ho1, hb⟩
                                refine ⟨_, rfl, ?_⟩
                                have n0_ := Aside0.mk (Kd.R_elder' (by (with_reducible repeat (first | apply Kd.R_alloc | apply Kd.R_drewN | apply Kd.R_drew)); exact HO_155000.out) (Kd.R_base ho0) hb)
                                have n1_ := Aside0.mk (Kd.R_elder' (by (with_reducible repeat (first | apply Kd.R_alloc | apply Kd.R_drewN | apply Kd.R_drew)); exact HO_155001.out) (Kd.R_base ho1) hb)
                                have n2_ := Aside0.mk (Kd.R_lower (Kd.R_new' ho0 (Kd.R_lt (by (with_reducible repeat (first | apply Kd.R_alloc | apply Kd.R_drewN | apply Kd.R_drew)); exact HO_155000.out))) (below_size (by repeat (first | (with_reducible first | exact HB.out | apply below_alloc | apply pw_below_drewN | apply below_drew1 | refine below_set ?_ GE154.out) | exact HB.out))))
                                have n3_ := Aside0.mk (Kd.R_lower (Kd.R_new' ho1 (Kd.R_lt (by (with_reducible repeat (first | apply Kd.R_alloc | apply Kd.R_drewN | apply Kd.R_drew)); exact HO_155001.out))) (below_size (by repeat (first | (with_reducible first | exact HB.out | apply below_alloc | apply pw_below_drewN | apply below_drew1 | refine below_set ?_ GE154.out) | exact HB.out))))
                                have n4_ := Aside0.mk (blk_below (g := gb154) (o := .cells #[.slice Ao62 x155000_3.length co62, .slice Ao63 x155001_3.length co63, .int .i64 x155002_3, .bool x155003_3] 30 (0, 0)) (by (with_reducible repeat (first | refine blk_drewN ?_ _ | refine blk_drew ?_ | refine blk_alloc ?_ _)); exact BK154.out) hb)
                                have n5_ := Aside0.mk (below_step (by repeat (first | (with_reducible first | exact HB.out | apply below_alloc | apply pw_below_drewN | apply below_drew1 | refine below_set ?_ GE154.out) | exact HB.out)) hb)
                                clear HO_155000
                                clear HO_155001
                                clear BK154
                                clear HB
                                have HO_155000 := n0_
                                have HO_155001 := n1_
                                have HO175 := n2_
                                have HO178 := n3_
                                have BK154 := n4_
                                have HB := n5_
                                clear n0_ n1_ n2_ n3_ n4_ n5_
                                (try clear hb)
                                (try clear hb2)
                                (try clear hk)
                                (try clear hi)
                                (try clear ho0)
                                (try clear ho1)
                                obtain ⟨Ao65, co65, eo65⟩ := Kd.R_slice HO175.out
                                (first | subst eo65 | (injection eo65 with f1_ f2_ f3_; have f4_ := f1_.symm; have f5_ := f3_.symm; clear f1_ f2_ f3_; subst f4_; subst f5_))
                                obtain ⟨Ao67, co67, eo67⟩ := Kd.R_slice HO178.out
                                (first | subst eo67 | (injection eo67 with f1_ f2_ f3_; have f4_ := f1_.symm; have f5_ := f3_.symm; clear f1_ f2_ f3_; subst f4_; subst f5_))
                                refine hK.out _ _ ⟨(blk_cell BK154.out 0).trans rfl, (blk_cell BK154.out 1).trans rfl, (blk_cell BK154.out 2).trans rfl, (blk_cell BK154.out 3).trans rfl⟩ (fun hHeld => ?_)
                                clear hK K
                                refine norm_ (a' := ?_) ?_ ?_
                                rotate_left
                                · show Act.put _ (some 95) _ = _
                                  simp only [Act.put, List.setIfInBounds_toArray, List.set_cons_zero, List.set_cons_succ, i64_w, i32_w]
                                  rfl
                                refine pure_ (i := 10) (N := some 85) (v := ?_) (a' := ?_) #[true, true, true, true, true, true, true, true, true, true, true, false, false, false] rfl rfl (any_of HT_.out (by kernel_rfl)) (fun _ _ _ h => h) (Or.inl ⟨by rfl, ?_⟩) ?_ ?_
                                rotate_left
                                · intro w'
                                  go_simp
                                  with_reducible rfl
                                rotate_left
                                · simp only [Act.put, List.setIfInBounds_toArray, List.set_cons_zero, List.set_cons_succ, i64_w, i32_w]
                                  rfl
                                refine pure_ (i := 11) (N := some 96) (v := ?_) (a' := ?_) #[true, true, true, true, true, true, true, true, true, true, true, true, false, false] rfl rfl (any_of HT_.out (by kernel_rfl)) (fun _ _ _ h => h) (Or.inl ⟨by rfl, ?_⟩) ?_ ?_
                                rotate_left
                                · intro w'
                                  go_simp
                                  with_reducible rfl
                                rotate_left
                                · simp only [Act.put, List.setIfInBounds_toArray, List.set_cons_zero, List.set_cons_succ, i64_w, i32_w]
                                  rfl
                                refine pure_ (i := 12) (N := some 97) (v := ?_) (a' := ?_) #[true, true, true, true, true, true, true, true, true, true, true, true, true, false] rfl rfl (any_of HT_.out (by kernel_rfl)) (fun _ _ _ h => h) (Or.inl ⟨by rfl, ?_⟩) ?_ ?_
                                rotate_left
                                · intro w'
                                  go_simp
                                  with_reducible rfl
                                rotate_left
                                · simp only [Act.put, List.setIfInBounds_toArray, List.set_cons_zero, List.set_cons_succ, i64_w, i32_w]
                                  rfl
                                refine last_ (i := 13) (N := none) #[true, true, true, true, true, true, true, true, true, true, true, true, true, true] rfl rfl (one_of HT_.out (by kernel_rfl)) (by decide) (fun K hK => ?_)
                                have hs66 : w64.cell? ⟨gb154, 0, none⟩ = some (.slice Ao62 x155000_3.length co62) := (blk_cell BK154.out 0).trans rfl
                                have hfs66 := blk_frozen BK154.out 0
                                have hs68 : w64.cell? ⟨gb154, 1, none⟩ = some (.slice Ao63 x155001_3.length co63) := (blk_cell BK154.out 1).trans rfl
                                have hfs68 := blk_frozen BK154.out 1
                                have hs69 : w64.cell? ⟨gb154, 2, none⟩ = some (.int .i64 x155002_3) := (blk_cell BK154.out 2).trans rfl
                                have hfs69 := blk_frozen BK154.out 2
                                have hs70 : w64.cell? ⟨gb154, 3, none⟩ = some (.bool x155003_3) := (blk_cell BK154.out 3).trans rfl
                                have hfs70 := blk_frozen BK154.out 3
                                refine skip_ (w1 := ?_) (by rfl) rfl ?_ ?_
                                rotate_left
                                · go_simp
                                  rfl
                                refine hK.out _ _ ?_
                                clear hK K
                                refine done_ (done_of HT_.out (by kernel_rfl)) ?_
                                try go_wp2
                                go_roundg k3
                                case measure => have := HK1.out; have := HK2.out; have := HK3.out; omega
                                case rel => exact ⟨(wrap64 (x74_3 + 1)), (t173), (t176), (t179), (t180), (.slice Ao65 t173.length co65), (.slice Ao67 t176.length co67), (by first | rfl | (simp; done) | (simp [*]; done)), H', ⟨by have := HK1.out; have := HK2.out; have := HK3.out; omega⟩, ⟨by (with_reducible repeat (first | apply Kd.R_alloc | apply Kd.R_drewN | apply Kd.R_drew)); exact Kd.R_mono (Kd.R_far (p := ⟨gb154, 3, none⟩) (Kd.R_far (p := ⟨gb154, 2, none⟩) (Kd.R_far (p := ⟨gb154, 1, none⟩) (Kd.R_far (p := ⟨gb154, 0, none⟩) (Kd.R_types HO175.out BK154.out (by decide)) (fun _ hk => hk.2) (.slice Ao65 t173.length co65)) (fun _ hk => hk.2) (.slice Ao67 t176.length co67)) (fun _ hk => hk.2) (.int .i64 t179)) (fun _ hk => hk.2) (.bool t180)) (fun _ hk => trivial)⟩, ⟨by (with_reducible repeat (first | apply Kd.R_alloc | apply Kd.R_drewN | apply Kd.R_drew)); exact Kd.R_mono (Kd.R_far (p := ⟨gb154, 3, none⟩) (Kd.R_far (p := ⟨gb154, 2, none⟩) (Kd.R_far (p := ⟨gb154, 1, none⟩) (Kd.R_far (p := ⟨gb154, 0, none⟩) (Kd.R_types HO178.out BK154.out (by decide)) (fun _ hk => hk.2) (.slice Ao65 t173.length co65)) (fun _ hk => hk.2) (.slice Ao67 t176.length co67)) (fun _ hk => hk.2) (.int .i64 t179)) (fun _ hk => hk.2) (.bool t180)) (fun _ hk => trivial)⟩, ⟨by (with_reducible repeat (first | refine blk_drewN ?_ _ | refine blk_drew ?_ | refine blk_alloc ?_ _)); refine blk_put (cs := #[.slice Ao65 t173.length co65, .slice Ao67 t176.length co67, .int .i64 t179, .bool x155003_3]) ?_ 3 _ rfl; (with_reducible repeat (first | refine blk_drewN ?_ _ | refine blk_drew ?_ | refine blk_alloc ?_ _)); refine blk_put (cs := #[.slice Ao65 t173.length co65, .slice Ao67 t176.length co67, .int .i64 x155002_3, .bool x155003_3]) ?_ 2 _ rfl; (with_reducible repeat (first | refine blk_drewN ?_ _ | refine blk_drew ?_ | refine blk_alloc ?_ _)); refine blk_put (cs := #[.slice Ao65 t173.length co65, .slice Ao63 x155001_3.length co63, .int .i64 x155002_3, .bool x155003_3]) ?_ 1 _ rfl; (with_reducible repeat (first | refine blk_drewN ?_ _ | refine blk_drew ?_ | refine blk_alloc ?_ _)); refine blk_put (cs := #[.slice Ao62 x155000_3.length co62, .slice Ao63 x155001_3.length co63, .int .i64 x155002_3, .bool x155003_3]) ?_ 0 _ rfl; (with_reducible repeat (first | refine blk_drewN ?_ _ | refine blk_drew ?_ | refine blk_alloc ?_ _)); exact BK154.out⟩, ⟨by repeat (first | (with_reducible first | exact HB.out | apply below_alloc | apply pw_below_drewN | apply below_drew1 | refine below_set ?_ GE154.out) | exact HB.out)⟩⟩
                              · rw [if_neg c59] at H
                                exact absurd H (by simp)
                            · rw [if_neg c58] at H
                              exact absurd H (by simp)
                          · rw [if_neg c57] at H
                            exact absurd H (by simp)
                      · rw [if_neg c32] at H
                        have c32b0 : decide (x74_3 < (wrap64 ((x16_2.size : Int) / 128))) = false := decide_eq_false c32
                        clear c32
                        replace H := Option.bind_eq_some_iff.mp H
                        obtain ⟨⟨t182, t185, t188, t189, t190⟩, A710, H⟩ := H
                        replace H : ((disk_Held.f t182 t185 t188 t189).bind fun bt191 => (if t153 = 0 then (if t190 = 0 then (if bt191.2 = 0 then (spoortop_TopFrames.j3 k3 l0 a1 x11_1 (wrap64 ((x16_2.size : Int) / 128)) bt191.1 ((bt191.1.length : Int) != (wrap64 ((wrap64 ((x16_2.size : Int) / 128)) + 1)))) else (spoortop_TopFrames.j3 k3 l0 a1 x11_1 (wrap64 ((x16_2.size : Int) / 128)) bt191.1 true)) else (spoortop_TopFrames.j3 k3 l0 a1 x11_1 (wrap64 ((x16_2.size : Int) / 128)) bt191.1 true)) else (spoortop_TopFrames.j3 k3 l0 a1 x11_1 (wrap64 ((x16_2.size : Int) / 128)) bt191.1 true))) = some r := H
                        have A71 := Aside0.mk A710
                        clear A710
                        replace H := Option.bind_eq_some_iff.mp H
                        obtain ⟨⟨t191, t194⟩, A720, H⟩ := H
                        replace H : (if t153 = 0 then (if t190 = 0 then (if t194 = 0 then (spoortop_TopFrames.j3 k3 l0 a1 x11_1 (wrap64 ((x16_2.size : Int) / 128)) t191 ((t191.length : Int) != (wrap64 ((wrap64 ((x16_2.size : Int) / 128)) + 1)))) else (spoortop_TopFrames.j3 k3 l0 a1 x11_1 (wrap64 ((x16_2.size : Int) / 128)) t191 true)) else (spoortop_TopFrames.j3 k3 l0 a1 x11_1 (wrap64 ((x16_2.size : Int) / 128)) t191 true)) else (spoortop_TopFrames.j3 k3 l0 a1 x11_1 (wrap64 ((x16_2.size : Int) / 128)) t191 true)) = some r := H
                        have A72 := Aside0.mk A720
                        clear A720
                        have HC73 := Aside0.mk H
                        clear H
                        have hcz74_0 : wr.cell? ⟨gb154, 0, none⟩ = some (u155000) := (blk_cell BK154.out 0).trans rfl
                        have hcz74_1 : wr.cell? ⟨gb154, 1, none⟩ = some (u155001) := (blk_cell BK154.out 1).trans rfl
                        have hcz74_2 : wr.cell? ⟨gb154, 2, none⟩ = some (.int .i64 x155002_3) := (blk_cell BK154.out 2).trans rfl
                        have hcz74_3 : wr.cell? ⟨gb154, 3, none⟩ = some (.bool x155003_3) := (blk_cell BK154.out 3).trans rfl
                        have hfz74_0 := blk_frozen BK154.out 0
                        have hfz74_1 := blk_frozen BK154.out 1
                        have hfz74_2 := blk_frozen BK154.out 2
                        have hfz74_3 := blk_frozen BK154.out 3
                        obtain ⟨Ao75, co75, eo75⟩ := Kd.R_slice HO_155000.out
                        subst eo75
                        obtain ⟨Ao76, co76, eo76⟩ := Kd.R_slice HO_155001.out
                        subst eo76
                        go_upto_region 28 with (first | ((with_reducible refine gate_callee (f := 9) rfl ?_); refine goesL_ (some 104) rfl rfl Try.func9 (by kernel_rfl) rfl #[.agg #[.slice Ao75 x155000_3.length co75, .slice Ao76 x155001_3.length co76, .int .i64 x155002_3, .bool x155003_3], .slice A2 l2.length c2, .int .i64 a3, .int .i64 a4] rfl (by (try simp only [List.map_toArray, List.map_cons, List.map_nil]); first | done | rfl | (simp only [List.length_drop, List.length_take]; rfl)) ?_; (with_reducible refine (disk_Crash.calls _ _ x155000_3 _ _ x155001_3 x155002_3 x155003_3 _ _ l2 a3 a4 t182 t185 t188 t189 t190 _ ?side1 ?side2 ?side3 ?side4 ?side5 ?side6 A71.out).mono ?_); (case side1 => repeat (first | exact (Kd.R_reads' HO_155000.out).2.2 | (with_reducible refine Kd.C_alloc ?_ _) | (with_reducible refine Kd.C_drewN ?_ _) | (with_reducible refine Kd.C_drew ?_))); (case side2 => exact (Kd.R_reads' HO_155000.out).2.1); (case side3 => repeat (first | exact (Kd.R_reads' HO_155001.out).2.2 | (with_reducible refine Kd.C_alloc ?_ _) | (with_reducible refine Kd.C_drewN ?_ _) | (with_reducible refine Kd.C_drew ?_))); (case side4 => exact (Kd.R_reads' HO_155001.out).2.1); (case side5 => repeat (first | exact (Kd.C_below HR2.out HB.out) | (with_reducible refine Kd.C_alloc ?_ _) | (with_reducible refine Kd.C_drewN ?_ _) | (with_reducible refine Kd.C_drew ?_))); (case side6 => exact HC2.out); rintro e w77 ⟨v183, v186, rfl, ho0, ho1, hb⟩; refine ⟨_, rfl, ?_⟩; have n0_ := Aside0.mk (Kd.R_elder' (by (with_reducible repeat (first | apply Kd.R_alloc | apply Kd.R_drewN | apply Kd.R_drew)); exact HO_155000.out) (Kd.R_base ho0) hb); have n1_ := Aside0.mk (Kd.R_elder' (by (with_reducible repeat (first | apply Kd.R_alloc | apply Kd.R_drewN | apply Kd.R_drew)); exact HO_155001.out) (Kd.R_base ho1) hb); have n2_ := Aside0.mk (Kd.R_lower (Kd.R_new' ho0 (Kd.R_lt (by (with_reducible repeat (first | apply Kd.R_alloc | apply Kd.R_drewN | apply Kd.R_drew)); exact HO_155000.out))) (below_size (by repeat (first | (with_reducible first | exact HB.out | apply below_alloc | apply pw_below_drewN | apply below_drew1 | refine below_set ?_ GE154.out) | exact HB.out)))); have n3_ := Aside0.mk (Kd.R_lower (Kd.R_new' ho1 (Kd.R_lt (by (with_reducible repeat (first | apply Kd.R_alloc | apply Kd.R_drewN | apply Kd.R_drew)); exact HO_155001.out))) (below_size (by repeat (first | (with_reducible first | exact HB.out | apply below_alloc | apply pw_below_drewN | apply below_drew1 | refine below_set ?_ GE154.out) | exact HB.out)))); have n4_ := Aside0.mk (blk_below (g := gb154) (o := .cells #[.slice Ao75 x155000_3.length co75, .slice Ao76 x155001_3.length co76, .int .i64 x155002_3, .bool x155003_3] 30 (0, 0)) (by (with_reducible repeat (first | refine blk_drewN ?_ _ | refine blk_drew ?_ | refine blk_alloc ?_ _)); exact BK154.out) hb); have n5_ := Aside0.mk (below_step (by repeat (first | (with_reducible first | exact HB.out | apply below_alloc | apply pw_below_drewN | apply below_drew1 | refine below_set ?_ GE154.out) | exact HB.out)) hb); clear HO_155000; clear HO_155001; clear BK154; clear HB; have HO_155000 := n0_; have HO_155001 := n1_; have HO184 := n2_; have HO187 := n3_; have BK154 := n4_; have HB := n5_; clear n0_ n1_ n2_ n3_ n4_ n5_; (try clear hb); (try clear hb2); (try clear hk); (try clear hi); (try clear ho0); (try clear ho1); obtain ⟨Ao78, co78, eo78⟩ := Kd.R_slice HO184.out; subst eo78; have hcz79_0 : w77.cell? ⟨gb154, 0, none⟩ = some (.slice Ao75 x155000_3.length co75) := (blk_cell BK154.out 0).trans rfl; have hcz79_1 : w77.cell? ⟨gb154, 1, none⟩ = some (.slice Ao76 x155001_3.length co76) := (blk_cell BK154.out 1).trans rfl; have hcz79_2 : w77.cell? ⟨gb154, 2, none⟩ = some (.int .i64 x155002_3) := (blk_cell BK154.out 2).trans rfl; have hcz79_3 : w77.cell? ⟨gb154, 3, none⟩ = some (.bool x155003_3) := (blk_cell BK154.out 3).trans rfl; have hfz79_0 := blk_frozen BK154.out 0; have hfz79_1 := blk_frozen BK154.out 1; have hfz79_2 := blk_frozen BK154.out 2; have hfz79_3 := blk_frozen BK154.out 3; obtain ⟨Ao80, co80, eo80⟩ := Kd.R_slice HO187.out; subst eo80) | ((with_reducible refine gate_callee (f := 10) rfl ?_); refine goesL_ (some 109) rfl rfl Try.func10 (by kernel_rfl) rfl #[.agg #[.slice Ao78 t182.length co78, .slice Ao80 t185.length co80, .int .i64 t188, .bool t189]] rfl (by (try simp only [List.map_toArray, List.map_cons, List.map_nil]); first | done | rfl | (simp only [List.length_drop, List.length_take]; rfl)) ?_; (with_reducible refine (disk_Held.calls _ _ t182 _ _ t185 t188 t189 t191 t194 _ ?side1 ?side2 ?side3 ?side4 A72.out).mono ?_); (case side1 => refine (Kd.R_reads' (e := 9) (base := w.heap.size) (ok := fun k_ => (True ∧ some k_ ≠ (.slice Ao75 x155000_3.length co75 : Value).ownBlock)) (n := t182.length) (c := co78) ?_).2.2; exact (by (with_reducible repeat (first | apply Kd.R_alloc | apply Kd.R_drewN | apply Kd.R_drew)); exact (Kd.R_mono (Kd.R_far (p := ⟨gb154, 3, none⟩) (Kd.R_far (p := ⟨gb154, 2, none⟩) (Kd.R_far (p := ⟨gb154, 1, none⟩) (Kd.R_far (p := ⟨gb154, 0, none⟩) (Kd.R_types HO184.out BK154.out (by decide)) (fun _ hk => hk.2) (.slice Ao78 t182.length co78)) (fun _ hk => hk.2) (.slice Ao80 t185.length co80)) (fun _ hk => hk.2) (.int .i64 t188)) (fun _ hk => hk.2) (.bool t189)) (fun _ h_ => h_.1)))); (case side2 => exact (Kd.R_reads' HO184.out).2.1); (case side3 => refine (Kd.R_reads' (e := 61) (base := w.heap.size) (ok := fun k_ => (True ∧ some k_ ≠ (.slice Ao76 x155001_3.length co76 : Value).ownBlock)) (n := t185.length) (c := co80) ?_).2.2; exact (by (with_reducible repeat (first | apply Kd.R_alloc | apply Kd.R_drewN | apply Kd.R_drew)); exact (Kd.R_mono (Kd.R_far (p := ⟨gb154, 3, none⟩) (Kd.R_far (p := ⟨gb154, 2, none⟩) (Kd.R_far (p := ⟨gb154, 1, none⟩) (Kd.R_far (p := ⟨gb154, 0, none⟩) (Kd.R_types HO187.out BK154.out (by decide)) (fun _ hk => hk.2) (.slice Ao78 t182.length co78)) (fun _ hk => hk.2) (.slice Ao80 t185.length co80)) (fun _ hk => hk.2) (.int .i64 t188)) (fun _ hk => hk.2) (.bool t189)) (fun _ h_ => h_.1)))); (case side4 => exact (Kd.R_reads' HO187.out).2.1); rintro e w81 ⟨v192, rfl, ho0, hb⟩; refine ⟨_, rfl, ?_⟩; have n0_ := Aside0.mk (Kd.R_elder' (by (with_reducible repeat (first | apply Kd.R_alloc | apply Kd.R_drewN | apply Kd.R_drew)); exact (Kd.R_mono (Kd.R_far (p := ⟨gb154, 3, none⟩) (Kd.R_far (p := ⟨gb154, 2, none⟩) (Kd.R_far (p := ⟨gb154, 1, none⟩) (Kd.R_far (p := ⟨gb154, 0, none⟩) (Kd.R_types HO_155000.out BK154.out (by decide)) (fun _ hk => hk.2) (.slice Ao78 t182.length co78)) (fun _ hk => hk.2) (.slice Ao80 t185.length co80)) (fun _ hk => hk.2) (.int .i64 t188)) (fun _ hk => hk.2) (.bool t189)) (fun _ h_ => h_.1))) (Kd.R_base ho0) hb); have n1_ := Aside0.mk (Kd.R_below (by (with_reducible repeat (first | apply Kd.R_alloc | apply Kd.R_drewN | apply Kd.R_drew)); exact (Kd.R_mono (Kd.R_far (p := ⟨gb154, 3, none⟩) (Kd.R_far (p := ⟨gb154, 2, none⟩) (Kd.R_far (p := ⟨gb154, 1, none⟩) (Kd.R_far (p := ⟨gb154, 0, none⟩) (Kd.R_types HO_155001.out BK154.out (by decide)) (fun _ hk => hk.2) (.slice Ao78 t182.length co78)) (fun _ hk => hk.2) (.slice Ao80 t185.length co80)) (fun _ hk => hk.2) (.int .i64 t188)) (fun _ hk => hk.2) (.bool t189)) (fun _ h_ => h_.1))) hb); have n2_ := Aside0.mk (Kd.R_elder' (by (with_reducible repeat (first | apply Kd.R_alloc | apply Kd.R_drewN | apply Kd.R_drew)); exact (Kd.R_mono (Kd.R_far (p := ⟨gb154, 3, none⟩) (Kd.R_far (p := ⟨gb154, 2, none⟩) (Kd.R_far (p := ⟨gb154, 1, none⟩) (Kd.R_far (p := ⟨gb154, 0, none⟩) (Kd.R_types HO184.out BK154.out (by decide)) (fun _ hk => hk.2) (.slice Ao78 t182.length co78)) (fun _ hk => hk.2) (.slice Ao80 t185.length co80)) (fun _ hk => hk.2) (.int .i64 t188)) (fun _ hk => hk.2) (.bool t189)) (fun _ h_ => h_.1))) (Kd.R_base ho0) hb); have n3_ := Aside0.mk (Kd.R_below (by (with_reducible repeat (first | apply Kd.R_alloc | apply Kd.R_drewN | apply Kd.R_drew)); exact (Kd.R_mono (Kd.R_far (p := ⟨gb154, 3, none⟩) (Kd.R_far (p := ⟨gb154, 2, none⟩) (Kd.R_far (p := ⟨gb154, 1, none⟩) (Kd.R_far (p := ⟨gb154, 0, none⟩) (Kd.R_types HO187.out BK154.out (by decide)) (fun _ hk => hk.2) (.slice Ao78 t182.length co78)) (fun _ hk => hk.2) (.slice Ao80 t185.length co80)) (fun _ hk => hk.2) (.int .i64 t188)) (fun _ hk => hk.2) (.bool t189)) (fun _ h_ => h_.1))) hb); have n4_ := Aside0.mk (Kd.R_lower (Kd.R_new' (Kd.R_new' ho0 (Kd.R_lt (by (with_reducible repeat (first | apply Kd.R_alloc | apply Kd.R_drewN | apply Kd.R_drew)); exact (Kd.R_mono (Kd.R_far (p := ⟨gb154, 3, none⟩) (Kd.R_far (p := ⟨gb154, 2, none⟩) (Kd.R_far (p := ⟨gb154, 1, none⟩) (Kd.R_far (p := ⟨gb154, 0, none⟩) (Kd.R_types HO_155000.out BK154.out (by decide)) (fun _ hk => hk.2) (.slice Ao78 t182.length co78)) (fun _ hk => hk.2) (.slice Ao80 t185.length co80)) (fun _ hk => hk.2) (.int .i64 t188)) (fun _ hk => hk.2) (.bool t189)) (fun _ h_ => h_.1))))) (Kd.R_lt (by (with_reducible repeat (first | apply Kd.R_alloc | apply Kd.R_drewN | apply Kd.R_drew)); exact (Kd.R_mono (Kd.R_far (p := ⟨gb154, 3, none⟩) (Kd.R_far (p := ⟨gb154, 2, none⟩) (Kd.R_far (p := ⟨gb154, 1, none⟩) (Kd.R_far (p := ⟨gb154, 0, none⟩) (Kd.R_types HO184.out BK154.out (by decide)) (fun _ hk => hk.2) (.slice Ao78 t182.length co78)) (fun _ hk => hk.2) (.slice Ao80 t185.length co80)) (fun _ hk => hk.2) (.int .i64 t188)) (fun _ hk => hk.2) (.bool t189)) (fun _ h_ => h_.1))))) (below_size (by repeat (first | (with_reducible first | exact HB.out | apply below_alloc | apply pw_below_drewN | apply below_drew1 | refine below_set ?_ GE154.out) | exact HB.out)))); have n5_ := Aside0.mk (blk_below (g := gb154) (o := .cells #[.slice Ao78 t182.length co78, .slice Ao80 t185.length co80, .int .i64 t188, .bool t189] 30 (0, 0)) (by (with_reducible repeat (first | refine blk_drewN ?_ _ | refine blk_drew ?_ | refine blk_alloc ?_ _)); refine blk_put (cs := #[.slice Ao78 t182.length co78, .slice Ao80 t185.length co80, .int .i64 t188, .bool x155003_3]) ?_ 3 _ rfl; (with_reducible repeat (first | refine blk_drewN ?_ _ | refine blk_drew ?_ | refine blk_alloc ?_ _)); refine blk_put (cs := #[.slice Ao78 t182.length co78, .slice Ao80 t185.length co80, .int .i64 x155002_3, .bool x155003_3]) ?_ 2 _ rfl; (with_reducible repeat (first | refine blk_drewN ?_ _ | refine blk_drew ?_ | refine blk_alloc ?_ _)); refine blk_put (cs := #[.slice Ao78 t182.length co78, .slice Ao76 x155001_3.length co76, .int .i64 x155002_3, .bool x155003_3]) ?_ 1 _ rfl; (with_reducible repeat (first | refine blk_drewN ?_ _ | refine blk_drew ?_ | refine blk_alloc ?_ _)); refine blk_put (cs := #[.slice Ao75 x155000_3.length co75, .slice Ao76 x155001_3.length co76, .int .i64 x155002_3, .bool x155003_3]) ?_ 0 _ rfl; (with_reducible repeat (first | refine blk_drewN ?_ _ | refine blk_drew ?_ | refine blk_alloc ?_ _)); exact BK154.out) hb); have n6_ := Aside0.mk (below_step (by repeat (first | (with_reducible first | exact HB.out | apply below_alloc | apply pw_below_drewN | apply below_drew1 | refine below_set ?_ GE154.out) | exact HB.out)) hb); clear HO_155000; clear HO_155001; clear HO184; clear HO187; clear BK154; clear HB; have HO_155000 := n0_; have HO_155001 := n1_; have HO184 := n2_; have HO187 := n3_; have HO193 := n4_; have BK154 := n5_; have HB := n6_; clear n0_ n1_ n2_ n3_ n4_ n5_ n6_; (try clear hb); (try clear hb2); (try clear hk); (try clear hi); (try clear ho0)))
                        (try simp only [Act.put, List.setIfInBounds_toArray, List.set_cons_zero, List.set_cons_succ])
                        go_cut [128] (fun v128 wc => ∃ (kq : Nat) (x128_72 : Bool), v128 = .bool x128_72 ∧ Aside0 (spoortop_TopFrames.j3 kq l0 a1 x11_1 (wrap64 ((x16_2.size : Int) / 128)) t191 x128_72 = some r) ∧ Aside0 (kq ≤ k3) ∧ Aside0 (Kd.R Kd.string 9 wc w.heap.size (fun k_ => some k_ ≠ ((.slice Ao78 t182.length co78) : Value).ownBlock) v192 t191) ∧ Aside0 (Kd.R Kd.string 9 wc w.heap.size (fun k_ => some k_ ≠ (v192 : Value).ownBlock) (.slice Ao78 t182.length co78) t182) ∧ Aside0 (Kd.R k61 61 wc w.heap.size (fun _ => True) (.slice Ao80 t185.length co80) t185) ∧ Aside0 (wc.heap[gb154]? = some (.cells #[(.slice Ao78 t182.length co78), (.slice Ao80 t185.length co80), .int .i64 t188, .bool t189] 30 (0, 0))) ∧ Aside0 (Below w.heap.size w wc))
                        case first =>
                          have H := HC73.out
                          clear HC73
                          by_cases c82 : t153 = 0
                          · rw [if_pos c82] at H
                            have c82b0 : (t153 == 0) = true := beq_iff_eq.mpr c82
                            have c82b1 : (t153 != 0) = false := bne_eq_false_iff_eq.mpr c82
                            clear c82
                            (first | rw [c82b0] | (simp only [i64_w, i32_w]; rw [c82b0]) | skip)
                            by_cases c83 : t190 = 0
                            · rw [if_pos c83] at H
                              have c83b0 : (t190 == 0) = true := beq_iff_eq.mpr c83
                              have c83b1 : (t190 != 0) = false := bne_eq_false_iff_eq.mpr c83
                              clear c83
                              by_cases c84 : t194 = 0
                              · rw [if_pos c84] at H
                                have c84b0 : (t194 == 0) = true := beq_iff_eq.mpr c84
                                have c84b1 : (t194 != 0) = false := bne_eq_false_iff_eq.mpr c84
                                clear c84
                                have H' := Aside0.mk H
                                clear H
                                obtain ⟨Ao85, co85, eo85⟩ := Kd.R_slice HO193.out
                                subst eo85
                                go_wp2
                                go_meet
                                case rel => exact ⟨_, (((t191.length : Int) != (wrap64 ((wrap64 ((x16_2.size : Int) / 128)) + 1)))), (by first | rfl | (simp; done) | (simp [*]; done)), H', ⟨by have := HK1.out; have := HK2.out; have := HK3.out; first | omega | exact Nat.le_refl _⟩, ⟨by (with_reducible repeat (first | apply Kd.R_alloc | apply Kd.R_drewN | apply Kd.R_drew)); exact Kd.R_mono HO193.out (fun _ hk => hk.2)⟩, ⟨by (with_reducible repeat (first | apply Kd.R_alloc | apply Kd.R_drewN | apply Kd.R_drew)); exact Kd.R_mono HO184.out (fun _ hk => hk.2)⟩, ⟨by (with_reducible repeat (first | apply Kd.R_alloc | apply Kd.R_drewN | apply Kd.R_drew)); exact Kd.R_mono HO187.out (fun _ hk => trivial)⟩, ⟨by (with_reducible repeat (first | refine blk_drewN ?_ _ | refine blk_drew ?_ | refine blk_alloc ?_ _)); exact BK154.out⟩, ⟨by repeat (first | (with_reducible first | exact HB.out | apply below_alloc | apply pw_below_drewN | apply below_drew1 | refine below_set ?_ GE154.out) | exact HB.out)⟩⟩
                              · rw [if_neg c84] at H
                                have c84b0 : (t194 == 0) = false := beq_eq_false_iff_ne.mpr c84
                                have c84b1 : (t194 != 0) = true := bne_iff_ne.mpr c84
                                have H' := Aside0.mk H
                                clear H
                                go_wp2
                                go_meet
                                case rel => exact ⟨_, (true), (by first | rfl | (simp; done) | (simp [*]; done)), H', ⟨by have := HK1.out; have := HK2.out; have := HK3.out; first | omega | exact Nat.le_refl _⟩, ⟨by (with_reducible repeat (first | apply Kd.R_alloc | apply Kd.R_drewN | apply Kd.R_drew)); exact Kd.R_mono HO193.out (fun _ hk => hk.2)⟩, ⟨by (with_reducible repeat (first | apply Kd.R_alloc | apply Kd.R_drewN | apply Kd.R_drew)); exact Kd.R_mono HO184.out (fun _ hk => hk.2)⟩, ⟨by (with_reducible repeat (first | apply Kd.R_alloc | apply Kd.R_drewN | apply Kd.R_drew)); exact Kd.R_mono HO187.out (fun _ hk => trivial)⟩, ⟨by (with_reducible repeat (first | refine blk_drewN ?_ _ | refine blk_drew ?_ | refine blk_alloc ?_ _)); exact BK154.out⟩, ⟨by repeat (first | (with_reducible first | exact HB.out | apply below_alloc | apply pw_below_drewN | apply below_drew1 | refine below_set ?_ GE154.out) | exact HB.out)⟩⟩
                            · rw [if_neg c83] at H
                              have c83b0 : (t190 == 0) = false := beq_eq_false_iff_ne.mpr c83
                              have c83b1 : (t190 != 0) = true := bne_iff_ne.mpr c83
                              have H' := Aside0.mk H
                              clear H
                              go_wp2
                              go_meet
                              case rel => exact ⟨_, (true), (by first | rfl | (simp; done) | (simp [*]; done)), H', ⟨by have := HK1.out; have := HK2.out; have := HK3.out; first | omega | exact Nat.le_refl _⟩, ⟨by (with_reducible repeat (first | apply Kd.R_alloc | apply Kd.R_drewN | apply Kd.R_drew)); exact Kd.R_mono HO193.out (fun _ hk => hk.2)⟩, ⟨by (with_reducible repeat (first | apply Kd.R_alloc | apply Kd.R_drewN | apply Kd.R_drew)); exact Kd.R_mono HO184.out (fun _ hk => hk.2)⟩, ⟨by (with_reducible repeat (first | apply Kd.R_alloc | apply Kd.R_drewN | apply Kd.R_drew)); exact Kd.R_mono HO187.out (fun _ hk => trivial)⟩, ⟨by (with_reducible repeat (first | refine blk_drewN ?_ _ | refine blk_drew ?_ | refine blk_alloc ?_ _)); exact BK154.out⟩, ⟨by repeat (first | (with_reducible first | exact HB.out | apply below_alloc | apply pw_below_drewN | apply below_drew1 | refine below_set ?_ GE154.out) | exact HB.out)⟩⟩
                          · rw [if_neg c82] at H
                            have c82b0 : (t153 == 0) = false := beq_eq_false_iff_ne.mpr c82
                            have c82b1 : (t153 != 0) = true := bne_iff_ne.mpr c82
                            (first | rw [c82b0] | (simp only [i64_w, i32_w]; rw [c82b0]) | skip)
                            have H' := Aside0.mk H
                            clear H
                            go_wp2
                            go_meet
                            case rel => exact ⟨_, (true), (by first | rfl | (simp; done) | (simp [*]; done)), H', ⟨by have := HK1.out; have := HK2.out; have := HK3.out; first | omega | exact Nat.le_refl _⟩, ⟨by (with_reducible repeat (first | apply Kd.R_alloc | apply Kd.R_drewN | apply Kd.R_drew)); exact Kd.R_mono HO193.out (fun _ hk => hk.2)⟩, ⟨by (with_reducible repeat (first | apply Kd.R_alloc | apply Kd.R_drewN | apply Kd.R_drew)); exact Kd.R_mono HO184.out (fun _ hk => hk.2)⟩, ⟨by (with_reducible repeat (first | apply Kd.R_alloc | apply Kd.R_drewN | apply Kd.R_drew)); exact Kd.R_mono HO187.out (fun _ hk => trivial)⟩, ⟨by (with_reducible repeat (first | refine blk_drewN ?_ _ | refine blk_drew ?_ | refine blk_alloc ?_ _)); exact BK154.out⟩, ⟨by repeat (first | (with_reducible first | exact HB.out | apply below_alloc | apply pw_below_drewN | apply below_drew1 | refine below_set ?_ GE154.out) | exact HB.out)⟩⟩
                        case rest =>
                          clear HC73
                          try clear c1
                          try clear p1
                          try clear q1
                          try clear hx1
                          try clear c2
                          try clear p2
                          try clear c3
                          try clear c5
                          try clear p6
                          try clear c7
                          try clear c8
                          try clear c9
                          try clear c10
                          try clear p14
                          try clear q14
                          try clear hx14
                          try clear c16
                          try clear c16b0
                          try clear c16b1
                          try clear c16b2
                          try clear c19
                          try clear c19b0
                          try clear c19b1
                          try clear c21
                          try clear c21b0
                          try clear c32
                          try clear c32b0
                          try clear c33
                          try clear c33b0
                          try clear c33b1
                          try clear c36
                          try clear c36b0
                          try clear c36b1
                          try clear c37
                          try clear c37b0
                          try clear c37b1
                          try clear c38
                          try clear c38b0
                          try clear c38b1
                          try clear c57
                          try clear c57b0
                          try clear c57b1
                          try clear c58
                          try clear c58b0
                          try clear c58b1
                          try clear c59
                          try clear c59b0
                          try clear c59b1
                          try clear p64
                          try clear c82
                          try clear c82b0
                          try clear c82b1
                          try clear c83
                          try clear c83b0
                          try clear c83b1
                          try clear c84
                          try clear c84b0
                          try clear c84b1
                          try clear hcz25_0
                          try clear hcz25_1
                          try clear hcz25_2
                          try clear hcz25_3
                          try clear hcz30_0
                          try clear hcz30_1
                          try clear hcz30_2
                          try clear hcz30_3
                          try clear hcz40_0
                          try clear hcz40_1
                          try clear hcz40_2
                          try clear hcz40_3
                          try clear hcz45_0
                          try clear hcz45_1
                          try clear hcz45_2
                          try clear hcz45_3
                          try clear hcz74_0
                          try clear hcz74_1
                          try clear hcz74_2
                          try clear hcz74_3
                          try clear hcz79_0
                          try clear hcz79_1
                          try clear hcz79_2
                          try clear hcz79_3
                          try clear hfz25_0
                          try clear hfz25_1
                          try clear hfz25_2
                          try clear hfz25_3
                          try clear hfz30_0
                          try clear hfz30_1
                          try clear hfz30_2
                          try clear hfz30_3
                          try clear hfz40_0
                          try clear hfz40_1
                          try clear hfz40_2
                          try clear hfz40_3
                          try clear hfz45_0
                          try clear hfz45_1
                          try clear hfz45_2
                          try clear hfz45_3
                          try clear hfz74_0
                          try clear hfz74_1
                          try clear hfz74_2
                          try clear hfz74_3
                          try clear hfz79_0
                          try clear hfz79_1
                          try clear hfz79_2
                          try clear hfz79_3
                          try clear hx142_0
                          try clear p1
                          try clear p14
                          try clear p142
                          try clear p2
                          try clear p6
                          try clear q1
                          try clear q14
                          try clear q142
                          obtain ⟨kq, x128_72, rfl, HA, HJ72, HO_22, HO_155000, HO_155001, BK154, HB⟩ := hcut
                          cases kq with
                          | zero => exact absurd HA.out (by simp [spoortop_TopFrames.j3])
                          | succ kj72 =>
                            have H := HA.out
                            clear HA
                            simp only [spoortop_TopFrames.j3] at H
                            by_cases c86 : x128_72 = true
                            · subst c86
                              have H1 : (none) = some r := by rw [if_pos rfl] at H; exact H
                              clear H
                              have H := H1
                              clear H1
                              exact absurd H (by simp)
                            · replace c86 := Bool.eq_false_iff.mpr c86
                              subst c86
                              have H1 : (spoortop_TopFrames.l3 kj72 l0 a1 x11_1 (wrap64 ((x16_2.size : Int) / 128)) t191 (⟨#[]⟩ : ByteArray) 0) = some r := by rw [if_neg (show ¬ (false = true) by decide)] at H; exact H
                              clear H
                              have H := H1
                              clear H1
                              have HC87 := Aside0.mk H
                              clear H
                              go_upto_block 6 with (fail)
                              go_cut [24] (fun v24 wc => ∃ (kq : Nat) (x24_86 : ByteArray), v24 = .string x24_86 ∧ Aside0 (spoortop_TopFrames.j5 kq l0 x11_1 x24_86 = some r) ∧ Aside0 (kq ≤ kj72) ∧ Aside0 (Kd.R Kd.string 9 wc w.heap.size (fun _ => True) (.slice Ao78 t182.length co78) t182) ∧ Aside0 (Kd.R k61 61 wc w.heap.size (fun _ => True) (.slice Ao80 t185.length co80) t185) ∧ Aside0 (wc.heap[gb154]? = some (.cells #[(.slice Ao78 t182.length co78), (.slice Ao80 t185.length co80), .int .i64 t188, .bool t189] 30 (0, 0))) ∧ Aside0 (Below w.heap.size w wc))
                              case first =>
                                have H := HC87.out
                                clear HC87
                                have H' := Aside0.mk H
                                clear H
                                go_wp2
                                go_loopg [24, 25] kj72 (fun kq v24 v25 w' => ∃ (x24_5 : ByteArray) (x25_5 : Int), v24 = .string x24_5 ∧ v25 = .int .i64 x25_5 ∧ Aside0 (spoortop_TopFrames.l3 kq l0 a1 x11_1 (wrap64 ((x16_2.size : Int) / 128)) t191 x24_5 x25_5 = some r) ∧ Aside0 (kq ≤ kj72) ∧ Aside0 (Kd.R Kd.string 9 w' w.heap.size (fun k_ => some k_ ≠ ((.slice Ao78 t182.length co78) : Value).ownBlock) v192 t191) ∧ Aside0 (Kd.R Kd.string 9 w' w.heap.size (fun k_ => some k_ ≠ (v192 : Value).ownBlock) (.slice Ao78 t182.length co78) t182) ∧ Aside0 (Kd.R k61 61 w' w.heap.size (fun _ => True) (.slice Ao80 t185.length co80) t185) ∧ Aside0 (w'.heap[gb154]? = some (.cells #[(.slice Ao78 t182.length co78), (.slice Ao80 t185.length co80), .int .i64 t188, .bool t189] 30 (0, 0))) ∧ Aside0 (Below w.heap.size w w'))
                                case atStart => exact ⟨((⟨#[]⟩ : ByteArray)), (0), (by first | rfl | (simp; done) | (simp [*]; done)), (by first | rfl | (simp; done) | (simp [*]; done)), H', ⟨Nat.le_refl _⟩, ⟨by (with_reducible repeat (first | apply Kd.R_alloc | apply Kd.R_drewN | apply Kd.R_drew)); exact HO_22.out⟩, ⟨by (with_reducible repeat (first | apply Kd.R_alloc | apply Kd.R_drewN | apply Kd.R_drew)); exact HO_155000.out⟩, ⟨by (with_reducible repeat (first | apply Kd.R_alloc | apply Kd.R_drewN | apply Kd.R_drew)); exact HO_155001.out⟩, ⟨by (with_reducible repeat (first | refine blk_drewN ?_ _ | refine blk_drew ?_ | refine blk_alloc ?_ _)); exact BK154.out⟩, ⟨by repeat (first | (with_reducible first | exact HB.out | apply below_alloc | apply pw_below_drewN | apply below_drew1 | refine below_set ?_ GE154.out) | exact HB.out)⟩⟩
                                case round =>
                                  clear H'
                                  try clear c1
                                  try clear p1
                                  try clear q1
                                  try clear hx1
                                  try clear c2
                                  try clear p2
                                  try clear c3
                                  try clear c5
                                  try clear p6
                                  try clear c7
                                  try clear c8
                                  try clear c9
                                  try clear c10
                                  try clear p14
                                  try clear q14
                                  try clear hx14
                                  try clear c16
                                  try clear c16b0
                                  try clear c16b1
                                  try clear c16b2
                                  try clear c19
                                  try clear c19b0
                                  try clear c19b1
                                  try clear c21
                                  try clear c21b0
                                  try clear c32
                                  try clear c32b0
                                  try clear c33
                                  try clear c33b0
                                  try clear c33b1
                                  try clear c36
                                  try clear c36b0
                                  try clear c36b1
                                  try clear c37
                                  try clear c37b0
                                  try clear c37b1
                                  try clear c38
                                  try clear c38b0
                                  try clear c38b1
                                  try clear c57
                                  try clear c57b0
                                  try clear c57b1
                                  try clear c58
                                  try clear c58b0
                                  try clear c58b1
                                  try clear c59
                                  try clear c59b0
                                  try clear c59b1
                                  try clear p64
                                  try clear c82
                                  try clear c82b0
                                  try clear c82b1
                                  try clear c83
                                  try clear c83b0
                                  try clear c83b1
                                  try clear c84
                                  try clear c84b0
                                  try clear c84b1
                                  try clear c86
                                  try clear hcz25_0
                                  try clear hcz25_1
                                  try clear hcz25_2
                                  try clear hcz25_3
                                  try clear hcz30_0
                                  try clear hcz30_1
                                  try clear hcz30_2
                                  try clear hcz30_3
                                  try clear hcz40_0
                                  try clear hcz40_1
                                  try clear hcz40_2
                                  try clear hcz40_3
                                  try clear hcz45_0
                                  try clear hcz45_1
                                  try clear hcz45_2
                                  try clear hcz45_3
                                  try clear hcz74_0
                                  try clear hcz74_1
                                  try clear hcz74_2
                                  try clear hcz74_3
                                  try clear hcz79_0
                                  try clear hcz79_1
                                  try clear hcz79_2
                                  try clear hcz79_3
                                  try clear hfz25_0
                                  try clear hfz25_1
                                  try clear hfz25_2
                                  try clear hfz25_3
                                  try clear hfz30_0
                                  try clear hfz30_1
                                  try clear hfz30_2
                                  try clear hfz30_3
                                  try clear hfz40_0
                                  try clear hfz40_1
                                  try clear hfz40_2
                                  try clear hfz40_3
                                  try clear hfz45_0
                                  try clear hfz45_1
                                  try clear hfz45_2
                                  try clear hfz45_3
                                  try clear hfz74_0
                                  try clear hfz74_1
                                  try clear hfz74_2
                                  try clear hfz74_3
                                  try clear hfz79_0
                                  try clear hfz79_1
                                  try clear hfz79_2
                                  try clear hfz79_3
                                  try clear hx142_0
                                  try clear p1
                                  try clear p14
                                  try clear p142
                                  try clear p2
                                  try clear p6
                                  try clear p64
                                  try clear q1
                                  try clear q14
                                  try clear q142
                                  obtain ⟨x24_5, x25_5, rfl, rfl, HA, HK5, HO_22, HO_155000, HO_155001, BK154, HB⟩ := hrel
                                  cases gk with
                                  | zero => exact absurd HA.out (by simp [spoortop_TopFrames.l3])
                                  | succ k5 =>
                                    have H := HA.out
                                    clear HA
                                    simp only [spoortop_TopFrames.l3] at H
                                    by_cases c88 : x25_5 < (wrap64 ((x16_2.size : Int) / 128))
                                    · rw [if_pos c88] at H
                                      have c88b0 : decide (x25_5 < (wrap64 ((x16_2.size : Int) / 128))) = true := decide_eq_true c88
                                      clear c88
                                      (first | rw [c88b0] | (simp only [i64_w, i32_w]; rw [c88b0]) | skip)
                                      by_cases c89 : a1 < (wrap64 ((x16_2.size : Int) / 128))
                                      · rw [if_pos c89] at H
                                        have c89b0 : decide (a1 < (wrap64 ((x16_2.size : Int) / 128))) = true := decide_eq_true c89
                                        clear c89
                                        by_cases c90 : x25_5 < a1
                                        · rw [if_pos c90] at H
                                          have c90b0 : decide (x25_5 < a1) = true := decide_eq_true c90
                                          clear c90
                                          by_cases c91 : 0 ≤ x25_5
                                          · rw [if_pos c91] at H
                                            have c91b0 : decide (0 ≤ x25_5) = true := decide_eq_true c91
                                            clear c91
                                            by_cases c92 : x25_5 < (t191.length : Int)
                                            · rw [if_pos c92] at H
                                              have c92b0 : decide (x25_5 < (t191.length : Int)) = true := decide_eq_true c92
                                              clear c92
                                              by_cases c93 : x24_5.size + (rdOf ByteArray.empty t191 x25_5).size ≤ 9223372036854775807
                                              · rw [if_pos c93] at H
                                                have c93b0 := eq_true c93
                                                have c93b1 : decide (x24_5.size + (rdOf ByteArray.empty t191 x25_5).size ≤ 9223372036854775807) = true := decide_eq_true c93
                                                try have c93b2 : (9223372036854775807 < x24_5.size + (rdOf ByteArray.empty t191 x25_5).size) = False := eq_false (Nat.not_lt.2 c93)
                                                have H' := Aside0.mk H
                                                clear H
                                                obtain ⟨Ao94, co94, eo94⟩ := Kd.R_slice HO_22.out
                                                subst eo94
                                                have p195 : 0 ≤ (x25_5 : Int) := of_decide_eq_true (by first | (with_reducible assumption) | assumption)
                                                have q195 : x25_5 < (t191.length : Int) := of_decide_eq_true (by first | (with_reducible assumption) | assumption)
                                                obtain ⟨ad195, e195, hx195_0⟩ := Kd.at_string (Kd.R_reads' HO_22.out).2.2 x25_5 p195 q195
                                                cases e195
                                                replace p195 := eq_true p195
                                                replace q195 := eq_true q195
                                                go_wp2
                                                go_roundg k5
                                                case measure => have := HK1.out; have := HK2.out; have := HK3.out; have := HJ72.out; have := HK5.out; omega
                                                case rel => exact ⟨(x24_5 ++ (rdOf ByteArray.empty t191 x25_5)), (wrap64 (x25_5 + 1)), (by first | rfl | (simp; done) | (simp [*]; done)), (by first | rfl | (simp; done) | (simp [*]; done)), H', ⟨by have := HK1.out; have := HK2.out; have := HK3.out; have := HJ72.out; have := HK5.out; omega⟩, ⟨by (with_reducible repeat (first | apply Kd.R_alloc | apply Kd.R_drewN | apply Kd.R_drew)); exact HO_22.out⟩, ⟨by (with_reducible repeat (first | apply Kd.R_alloc | apply Kd.R_drewN | apply Kd.R_drew)); exact HO_155000.out⟩, ⟨by (with_reducible repeat (first | apply Kd.R_alloc | apply Kd.R_drewN | apply Kd.R_drew)); exact HO_155001.out⟩, ⟨by (with_reducible repeat (first | refine blk_drewN ?_ _ | refine blk_drew ?_ | refine blk_alloc ?_ _)); exact BK154.out⟩, ⟨by repeat (first | (with_reducible first | exact HB.out | apply below_alloc | apply pw_below_drewN | apply below_drew1 | refine below_set ?_ GE154.out) | exact HB.out)⟩⟩
                                              · rw [if_neg c93] at H
                                                exact absurd H (by simp)
                                            · rw [if_neg c92] at H
                                              exact absurd H (by simp)
                                          · rw [if_neg c91] at H
                                            exact absurd H (by simp)
                                        · rw [if_neg c90] at H
                                          have c90b0 : decide (x25_5 < a1) = false := decide_eq_false c90
                                          clear c90
                                          have H' := Aside0.mk H
                                          clear H
                                          go_wp2
                                          go_meet
                                          case rel => exact ⟨_, (x24_5), (by first | rfl | (simp; done) | (simp [*]; done)), H', ⟨by have := HK1.out; have := HK2.out; have := HK3.out; have := HJ72.out; have := HK5.out; first | omega | exact Nat.le_refl _⟩, ⟨by (with_reducible repeat (first | apply Kd.R_alloc | apply Kd.R_drewN | apply Kd.R_drew)); exact Kd.R_mono HO_155000.out (fun _ hk => trivial)⟩, ⟨by (with_reducible repeat (first | apply Kd.R_alloc | apply Kd.R_drewN | apply Kd.R_drew)); exact HO_155001.out⟩, ⟨by (with_reducible repeat (first | refine blk_drewN ?_ _ | refine blk_drew ?_ | refine blk_alloc ?_ _)); exact BK154.out⟩, ⟨by repeat (first | (with_reducible first | exact HB.out | apply below_alloc | apply pw_below_drewN | apply below_drew1 | refine below_set ?_ GE154.out) | exact HB.out)⟩⟩
                                      · rw [if_neg c89] at H
                                        have c89b0 : decide (a1 < (wrap64 ((x16_2.size : Int) / 128))) = false := decide_eq_false c89
                                        clear c89
                                        have H' := Aside0.mk H
                                        clear H
                                        go_wp2
                                        go_meet
                                        case rel => exact ⟨_, (x24_5), (by first | rfl | (simp; done) | (simp [*]; done)), H', ⟨by have := HK1.out; have := HK2.out; have := HK3.out; have := HJ72.out; have := HK5.out; first | omega | exact Nat.le_refl _⟩, ⟨by (with_reducible repeat (first | apply Kd.R_alloc | apply Kd.R_drewN | apply Kd.R_drew)); exact Kd.R_mono HO_155000.out (fun _ hk => trivial)⟩, ⟨by (with_reducible repeat (first | apply Kd.R_alloc | apply Kd.R_drewN | apply Kd.R_drew)); exact HO_155001.out⟩, ⟨by (with_reducible repeat (first | refine blk_drewN ?_ _ | refine blk_drew ?_ | refine blk_alloc ?_ _)); exact BK154.out⟩, ⟨by repeat (first | (with_reducible first | exact HB.out | apply below_alloc | apply pw_below_drewN | apply below_drew1 | refine below_set ?_ GE154.out) | exact HB.out)⟩⟩
                                    · rw [if_neg c88] at H
                                      have c88b0 : decide (x25_5 < (wrap64 ((x16_2.size : Int) / 128))) = false := decide_eq_false c88
                                      clear c88
                                      (first | rw [c88b0] | (simp only [i64_w, i32_w]; rw [c88b0]) | skip)
                                      have H' := Aside0.mk H
                                      clear H
                                      go_wp2
                                      go_meet
                                      case rel => exact ⟨_, (x24_5), (by first | rfl | (simp; done) | (simp [*]; done)), H', ⟨by have := HK1.out; have := HK2.out; have := HK3.out; have := HJ72.out; have := HK5.out; first | omega | exact Nat.le_refl _⟩, ⟨by (with_reducible repeat (first | apply Kd.R_alloc | apply Kd.R_drewN | apply Kd.R_drew)); exact Kd.R_mono HO_155000.out (fun _ hk => trivial)⟩, ⟨by (with_reducible repeat (first | apply Kd.R_alloc | apply Kd.R_drewN | apply Kd.R_drew)); exact HO_155001.out⟩, ⟨by (with_reducible repeat (first | refine blk_drewN ?_ _ | refine blk_drew ?_ | refine blk_alloc ?_ _)); exact BK154.out⟩, ⟨by repeat (first | (with_reducible first | exact HB.out | apply below_alloc | apply pw_below_drewN | apply below_drew1 | refine below_set ?_ GE154.out) | exact HB.out)⟩⟩
                              case rest =>
                                clear HC87
                                try clear c1
                                try clear p1
                                try clear q1
                                try clear hx1
                                try clear c2
                                try clear p2
                                try clear c3
                                try clear c5
                                try clear p6
                                try clear c7
                                try clear c8
                                try clear c9
                                try clear c10
                                try clear p14
                                try clear q14
                                try clear hx14
                                try clear c16
                                try clear c16b0
                                try clear c16b1
                                try clear c16b2
                                try clear c19
                                try clear c19b0
                                try clear c19b1
                                try clear p19
                                try clear q19
                                try clear hx19
                                try clear c21
                                try clear c21b0
                                try clear c32
                                try clear c32b0
                                try clear c33
                                try clear c33b0
                                try clear c33b1
                                try clear c36
                                try clear c36b0
                                try clear c36b1
                                try clear c37
                                try clear c37b0
                                try clear c37b1
                                try clear c38
                                try clear c38b0
                                try clear c38b1
                                try clear c57
                                try clear c57b0
                                try clear c57b1
                                try clear c58
                                try clear c58b0
                                try clear c58b1
                                try clear c59
                                try clear c59b0
                                try clear c59b1
                                try clear p64
                                try clear c82
                                try clear c82b0
                                try clear c82b1
                                try clear c83
                                try clear c83b0
                                try clear c83b1
                                try clear c84
                                try clear c84b0
                                try clear c84b1
                                try clear c86
                                try clear c88
                                try clear c88b0
                                try clear c89
                                try clear c89b0
                                try clear c90
                                try clear c90b0
                                try clear c91
                                try clear c91b0
                                try clear c92
                                try clear c92b0
                                try clear c93
                                try clear c93b0
                                try clear c93b1
                                try clear c93b2
                                try clear hcz25_0
                                try clear hcz25_1
                                try clear hcz25_2
                                try clear hcz25_3
                                try clear hcz30_0
                                try clear hcz30_1
                                try clear hcz30_2
                                try clear hcz30_3
                                try clear hcz40_0
                                try clear hcz40_1
                                try clear hcz40_2
                                try clear hcz40_3
                                try clear hcz45_0
                                try clear hcz45_1
                                try clear hcz45_2
                                try clear hcz45_3
                                try clear hcz74_0
                                try clear hcz74_1
                                try clear hcz74_2
                                try clear hcz74_3
                                try clear hcz79_0
                                try clear hcz79_1
                                try clear hcz79_2
                                try clear hcz79_3
                                try clear hfz25_0
                                try clear hfz25_1
                                try clear hfz25_2
                                try clear hfz25_3
                                try clear hfz30_0
                                try clear hfz30_1
                                try clear hfz30_2
                                try clear hfz30_3
                                try clear hfz40_0
                                try clear hfz40_1
                                try clear hfz40_2
                                try clear hfz40_3
                                try clear hfz45_0
                                try clear hfz45_1
                                try clear hfz45_2
                                try clear hfz45_3
                                try clear hfz74_0
                                try clear hfz74_1
                                try clear hfz74_2
                                try clear hfz74_3
                                try clear hfz79_0
                                try clear hfz79_1
                                try clear hfz79_2
                                try clear hfz79_3
                                try clear hx142_0
                                try clear hx195_0
                                try clear p1
                                try clear p14
                                try clear p142
                                try clear p195
                                try clear p2
                                try clear p6
                                try clear p64
                                try clear q1
                                try clear q14
                                try clear q142
                                try clear q195
                                obtain ⟨kq, x24_86, rfl, HA, HJ86, HO_155000, HO_155001, BK154, HB⟩ := hcut
                                cases kq with
                                | zero => exact absurd HA.out (by simp [spoortop_TopFrames.j5])
                                | succ kj86 =>
                                  have H := HA.out
                                  clear HA
                                  simp only [spoortop_TopFrames.j5] at H
                                  replace H := Option.bind_eq_some_iff.mp H
                                  obtain ⟨⟨t196, t197⟩, A950, H⟩ := H
                                  replace H : (if 0 ≤ (mn (x11_1.size : Int) (x24_86.size : Int)) then (if (mn (x11_1.size : Int) (x24_86.size : Int)) ≤ (x11_1.size : Int) then ((frame_All.f kj86 (x11_1.extract 0 ((mn (x11_1.size : Int) (x24_86.size : Int)) : Int).toNat)).bind fun bt200 => (if (t196.length : Int) = (bt200.1.length : Int) then (if t197 = bt200.2 then (spoortop_TopFrames.j6 kj86 l0 t196 (decide ((t196.length : Int) > (l0.length : Int)))) else (spoortop_TopFrames.j6 kj86 l0 t196 true)) else (spoortop_TopFrames.j6 kj86 l0 t196 true))) else (none)) else (none)) = some r := H
                                  have A95 := Aside0.mk A950
                                  clear A950
                                  obtain ⟨ji96, hji96⟩ : ∃ j_ : Int, (mn (x11_1.size : Int) (x24_86.size : Int)) = j_ := ⟨_, rfl⟩
                                  have kmji96 : ∀ w, (Builtin.min_ #[3, 3] 3 #[.int .i64 (x11_1.size : Int), .int .i64 (x24_86.size : Int)]).run Try.prog w = .ok (.int .i64 ji96) w := by intro w; rw [min_two, min2_int, ← hji96]; rfl
                                  replace H : (if 0 ≤ (ji96) then (if (ji96) ≤ (x11_1.size : Int) then ((frame_All.f kj86 (x11_1.extract 0 ((ji96) : Int).toNat)).bind fun bt200 => (if (t196.length : Int) = (bt200.1.length : Int) then (if t197 = bt200.2 then (spoortop_TopFrames.j6 kj86 l0 t196 (decide ((t196.length : Int) > (l0.length : Int)))) else (spoortop_TopFrames.j6 kj86 l0 t196 true)) else (spoortop_TopFrames.j6 kj86 l0 t196 true))) else (none)) else (none)) = some r := by first | (rw [hji96] at H; exact H) | (simp only [hji96] at H ⊢; exact H)
                                  (try rw [hji96] at A95)
                                  have hji96_ : (if (x24_86.size : Int) < (x11_1.size : Int) then (x24_86.size : Int) else (x11_1.size : Int)) = ji96 := hji96
                                  by_cases c97 : 0 ≤ (ji96)
                                  · rw [if_pos c97] at H
                                    have c97b0 := eq_true c97
                                    have c97b1 : decide (0 ≤ (ji96)) = true := decide_eq_true c97
                                    clear c97
                                    by_cases c98 : (ji96) ≤ (x11_1.size : Int)
                                    · rw [if_pos c98] at H
                                      have c98b0 := eq_true c98
                                      have c98b1 : decide ((ji96) ≤ (x11_1.size : Int)) = true := decide_eq_true c98
                                      clear c98
                                      replace H := Option.bind_eq_some_iff.mp H
                                      obtain ⟨⟨t200, t201⟩, A990, H⟩ := H
                                      replace H : (if (t196.length : Int) = (t200.length : Int) then (if t197 = t201 then (spoortop_TopFrames.j6 kj86 l0 t196 (decide ((t196.length : Int) > (l0.length : Int)))) else (spoortop_TopFrames.j6 kj86 l0 t196 true)) else (spoortop_TopFrames.j6 kj86 l0 t196 true)) = some r := H
                                      have A99 := Aside0.mk A990
                                      clear A990
                                      have HC100 := Aside0.mk H
                                      clear H
                                      go_upto_region 37 with (first | ((with_reducible refine gate_callee (f := 11) rfl ?_); refine goesL_ (some 152) rfl rfl Try.func11 (by kernel_rfl) rfl #[.string x24_86] rfl (by (try simp only [List.map_toArray, List.map_cons, List.map_nil]); first | done | rfl | (simp only [List.length_drop, List.length_take]; rfl)) ?_; (with_reducible refine (frame_All.calls kj86 x24_86 t196 t197 _ A95.out).mono ?_); rintro e w101 ⟨v198, rfl, ho0, hb⟩; refine ⟨_, rfl, ?_⟩; have n0_ := Aside0.mk (Kd.R_elder' (by (with_reducible repeat (first | apply Kd.R_alloc | apply Kd.R_drewN | apply Kd.R_drew)); exact HO_155000.out) (Kd.R_base ho0) hb); have n1_ := Aside0.mk (Kd.R_below (by (with_reducible repeat (first | apply Kd.R_alloc | apply Kd.R_drewN | apply Kd.R_drew)); exact HO_155001.out) hb); have n2_ := Aside0.mk (Kd.R_lower (Kd.R_new' ho0 (Kd.R_lt (by (with_reducible repeat (first | apply Kd.R_alloc | apply Kd.R_drewN | apply Kd.R_drew)); exact HO_155000.out))) (below_size (by repeat (first | (with_reducible first | exact HB.out | apply below_alloc | apply pw_below_drewN | apply below_drew1 | refine below_set ?_ GE154.out) | exact HB.out)))); have n3_ := Aside0.mk (blk_below (g := gb154) (o := .cells #[.slice Ao78 t182.length co78, .slice Ao80 t185.length co80, .int .i64 t188, .bool t189] 30 (0, 0)) (by (with_reducible repeat (first | refine blk_drewN ?_ _ | refine blk_drew ?_ | refine blk_alloc ?_ _)); exact BK154.out) hb); have n4_ := Aside0.mk (below_step (by repeat (first | (with_reducible first | exact HB.out | apply below_alloc | apply pw_below_drewN | apply below_drew1 | refine below_set ?_ GE154.out) | exact HB.out)) hb); clear HO_155000; clear HO_155001; clear BK154; clear HB; have HO_155000 := n0_; have HO_155001 := n1_; have HO199 := n2_; have BK154 := n3_; have HB := n4_; clear n0_ n1_ n2_ n3_ n4_; (try clear hb); (try clear hb2); (try clear hk); (try clear hi); (try clear ho0)) | ((with_reducible refine gate_callee (f := 11) rfl ?_); refine goesL_ (some 163) rfl rfl Try.func11 (by kernel_rfl) rfl #[.string (x11_1.extract 0 ((ji96) : Int).toNat)] rfl (by (try simp only [List.map_toArray, List.map_cons, List.map_nil]); first | done | (simp only [hji96]; rfl) | rfl | (simp only [List.length_drop, List.length_take]; rfl)) ?_; (with_reducible refine (frame_All.calls kj86 (x11_1.extract 0 ((ji96) : Int).toNat) t200 t201 _ A99.out).mono ?_); rintro e w102 ⟨v202, rfl, ho0, hb⟩; refine ⟨_, rfl, ?_⟩; have n0_ := Aside0.mk (Kd.R_elder' (by (with_reducible repeat (first | apply Kd.R_alloc | apply Kd.R_drewN | apply Kd.R_drew)); exact HO_155000.out) (Kd.R_base ho0) hb); have n1_ := Aside0.mk (Kd.R_below (by (with_reducible repeat (first | apply Kd.R_alloc | apply Kd.R_drewN | apply Kd.R_drew)); exact HO_155001.out) hb); have n2_ := Aside0.mk (Kd.R_elder' (by (with_reducible repeat (first | apply Kd.R_alloc | apply Kd.R_drewN | apply Kd.R_drew)); exact HO199.out) (Kd.R_base ho0) hb); have n3_ := Aside0.mk (Kd.R_lower (Kd.R_new' (Kd.R_new' ho0 (Kd.R_lt (by (with_reducible repeat (first | apply Kd.R_alloc | apply Kd.R_drewN | apply Kd.R_drew)); exact HO_155000.out))) (Kd.R_lt (by (with_reducible repeat (first | apply Kd.R_alloc | apply Kd.R_drewN | apply Kd.R_drew)); exact HO199.out))) (below_size (by repeat (first | (with_reducible first | exact HB.out | apply below_alloc | apply pw_below_drewN | apply below_drew1 | refine below_set ?_ GE154.out) | exact HB.out)))); have n4_ := Aside0.mk (blk_below (g := gb154) (o := .cells #[.slice Ao78 t182.length co78, .slice Ao80 t185.length co80, .int .i64 t188, .bool t189] 30 (0, 0)) (by (with_reducible repeat (first | refine blk_drewN ?_ _ | refine blk_drew ?_ | refine blk_alloc ?_ _)); exact BK154.out) hb); have n5_ := Aside0.mk (below_step (by repeat (first | (with_reducible first | exact HB.out | apply below_alloc | apply pw_below_drewN | apply below_drew1 | refine below_set ?_ GE154.out) | exact HB.out)) hb); clear HO_155000; clear HO_155001; clear HO199; clear BK154; clear HB; have HO_155000 := n0_; have HO_155001 := n1_; have HO199 := n2_; have HO203 := n3_; have BK154 := n4_; have HB := n5_; clear n0_ n1_ n2_ n3_ n4_ n5_; (try clear hb); (try clear hb2); (try clear hk); (try clear hi); (try clear ho0)))
                                      (try simp only [Act.put, List.setIfInBounds_toArray, List.set_cons_zero, List.set_cons_succ])
                                      go_cut [182] (fun v182 wc => ∃ (kq : Nat) (x182_99 : Bool), v182 = .bool x182_99 ∧ Aside0 (spoortop_TopFrames.j6 kq l0 t196 x182_99 = some r) ∧ Aside0 (kq ≤ kj86) ∧ Aside0 (Kd.R Kd.string 9 wc w.heap.size (fun k_ => some k_ ≠ ((.slice Ao78 t182.length co78) : Value).ownBlock) v198 t196) ∧ Aside0 (Kd.R Kd.string 9 wc w.heap.size (fun k_ => some k_ ≠ (v198 : Value).ownBlock) (.slice Ao78 t182.length co78) t182) ∧ Aside0 (Kd.R k61 61 wc w.heap.size (fun _ => True) (.slice Ao80 t185.length co80) t185) ∧ Aside0 (wc.heap[gb154]? = some (.cells #[(.slice Ao78 t182.length co78), (.slice Ao80 t185.length co80), .int .i64 t188, .bool t189] 30 (0, 0))) ∧ Aside0 (Below w.heap.size w wc))
                                      case first =>
                                        have H := HC100.out
                                        clear HC100
                                        by_cases c103 : (t196.length : Int) = (t200.length : Int)
                                        · rw [if_pos c103] at H
                                          have c103b0 : ((t196.length : Int) == (t200.length : Int)) = true := beq_iff_eq.mpr c103
                                          have c103b1 : ((t196.length : Int) != (t200.length : Int)) = false := bne_eq_false_iff_eq.mpr c103
                                          have c103b2 : (t196.length == t200.length) = true := by first | simpa using c103 | (simp at c103 ⊢; omega)
                                          clear c103
                                          (first | rw [c103b0] | (simp only [i64_w, i32_w]; rw [c103b0]) | skip)
                                          by_cases c104 : t197 = t201
                                          · rw [if_pos c104] at H
                                            have c104b0 : (t197 == t201) = true := beq_iff_eq.mpr c104
                                            have c104b1 : (t197 != t201) = false := bne_eq_false_iff_eq.mpr c104
                                            clear c104
                                            have H' := Aside0.mk H
                                            clear H
                                            obtain ⟨Ao105, co105, eo105⟩ := Kd.R_slice HO199.out
                                            subst eo105
                                            obtain ⟨Ao106, co106, eo106⟩ := Kd.R_slice HO203.out
                                            subst eo106
                                            go_wp2
                                            go_meet
                                            case rel => exact ⟨_, (decide ((t196.length : Int) > (l0.length : Int))), (by first | rfl | (simp; done) | (simp [*]; done)), H', ⟨by have := HK1.out; have := HK2.out; have := HK3.out; have := HJ72.out; have := HJ86.out; first | omega | exact Nat.le_refl _⟩, ⟨by (with_reducible repeat (first | apply Kd.R_alloc | apply Kd.R_drewN | apply Kd.R_drew)); exact Kd.R_mono HO199.out (fun _ hk => hk.1.2)⟩, ⟨by (with_reducible repeat (first | apply Kd.R_alloc | apply Kd.R_drewN | apply Kd.R_drew)); exact Kd.R_mono HO_155000.out (fun _ hk => hk.1.2)⟩, ⟨by (with_reducible repeat (first | apply Kd.R_alloc | apply Kd.R_drewN | apply Kd.R_drew)); exact HO_155001.out⟩, ⟨by (with_reducible repeat (first | refine blk_drewN ?_ _ | refine blk_drew ?_ | refine blk_alloc ?_ _)); exact BK154.out⟩, ⟨by repeat (first | (with_reducible first | exact HB.out | apply below_alloc | apply pw_below_drewN | apply below_drew1 | refine below_set ?_ GE154.out) | exact HB.out)⟩⟩
                                          · rw [if_neg c104] at H
                                            have c104b0 : (t197 == t201) = false := beq_eq_false_iff_ne.mpr c104
                                            have c104b1 : (t197 != t201) = true := bne_iff_ne.mpr c104
                                            have H' := Aside0.mk H
                                            clear H
                                            obtain ⟨Ao107, co107, eo107⟩ := Kd.R_slice HO199.out
                                            subst eo107
                                            obtain ⟨Ao108, co108, eo108⟩ := Kd.R_slice HO203.out
                                            subst eo108
                                            go_wp2
                                            go_meet
                                            case rel => exact ⟨_, (true), (by first | rfl | (simp; done) | (simp [*]; done)), H', ⟨by have := HK1.out; have := HK2.out; have := HK3.out; have := HJ72.out; have := HJ86.out; first | omega | exact Nat.le_refl _⟩, ⟨by (with_reducible repeat (first | apply Kd.R_alloc | apply Kd.R_drewN | apply Kd.R_drew)); exact Kd.R_mono HO199.out (fun _ hk => hk.1.2)⟩, ⟨by (with_reducible repeat (first | apply Kd.R_alloc | apply Kd.R_drewN | apply Kd.R_drew)); exact Kd.R_mono HO_155000.out (fun _ hk => hk.1.2)⟩, ⟨by (with_reducible repeat (first | apply Kd.R_alloc | apply Kd.R_drewN | apply Kd.R_drew)); exact HO_155001.out⟩, ⟨by (with_reducible repeat (first | refine blk_drewN ?_ _ | refine blk_drew ?_ | refine blk_alloc ?_ _)); exact BK154.out⟩, ⟨by repeat (first | (with_reducible first | exact HB.out | apply below_alloc | apply pw_below_drewN | apply below_drew1 | refine below_set ?_ GE154.out) | exact HB.out)⟩⟩
                                        · rw [if_neg c103] at H
                                          have c103b0 : ((t196.length : Int) == (t200.length : Int)) = false := beq_eq_false_iff_ne.mpr c103
                                          have c103b1 : ((t196.length : Int) != (t200.length : Int)) = true := bne_iff_ne.mpr c103
                                          have c103b2 : (t196.length == t200.length) = false := by first | simpa using c103 | (simp at c103 ⊢; omega)
                                          (first | rw [c103b0] | (simp only [i64_w, i32_w]; rw [c103b0]) | skip)
                                          have H' := Aside0.mk H
                                          clear H
                                          obtain ⟨Ao109, co109, eo109⟩ := Kd.R_slice HO199.out
                                          subst eo109
                                          obtain ⟨Ao110, co110, eo110⟩ := Kd.R_slice HO203.out
                                          subst eo110
                                          go_wp2
                                          go_meet
                                          case rel => exact ⟨_, (true), (by first | rfl | (simp; done) | (simp [*]; done)), H', ⟨by have := HK1.out; have := HK2.out; have := HK3.out; have := HJ72.out; have := HJ86.out; first | omega | exact Nat.le_refl _⟩, ⟨by (with_reducible repeat (first | apply Kd.R_alloc | apply Kd.R_drewN | apply Kd.R_drew)); exact Kd.R_mono HO199.out (fun _ hk => hk.1.2)⟩, ⟨by (with_reducible repeat (first | apply Kd.R_alloc | apply Kd.R_drewN | apply Kd.R_drew)); exact Kd.R_mono HO_155000.out (fun _ hk => hk.1.2)⟩, ⟨by (with_reducible repeat (first | apply Kd.R_alloc | apply Kd.R_drewN | apply Kd.R_drew)); exact HO_155001.out⟩, ⟨by (with_reducible repeat (first | refine blk_drewN ?_ _ | refine blk_drew ?_ | refine blk_alloc ?_ _)); exact BK154.out⟩, ⟨by repeat (first | (with_reducible first | exact HB.out | apply below_alloc | apply pw_below_drewN | apply below_drew1 | refine below_set ?_ GE154.out) | exact HB.out)⟩⟩
                                      case rest =>
                                        clear HC100
                                        try clear c1
                                        try clear p1
                                        try clear q1
                                        try clear hx1
                                        try clear c2
                                        try clear p2
                                        try clear c3
                                        try clear c5
                                        try clear p6
                                        try clear c7
                                        try clear c8
                                        try clear c9
                                        try clear c10
                                        try clear c11
                                        try clear p14
                                        try clear q14
                                        try clear hx14
                                        try clear c16
                                        try clear c16b0
                                        try clear c16b1
                                        try clear c16b2
                                        try clear c19
                                        try clear c19b0
                                        try clear c19b1
                                        try clear p19
                                        try clear q19
                                        try clear hx19
                                        try clear c21
                                        try clear c21b0
                                        try clear c32
                                        try clear c32b0
                                        try clear c33
                                        try clear c33b0
                                        try clear c33b1
                                        try clear c36
                                        try clear c36b0
                                        try clear c36b1
                                        try clear c37
                                        try clear c37b0
                                        try clear c37b1
                                        try clear c38
                                        try clear c38b0
                                        try clear c38b1
                                        try clear c57
                                        try clear c57b0
                                        try clear c57b1
                                        try clear c58
                                        try clear c58b0
                                        try clear c58b1
                                        try clear c59
                                        try clear c59b0
                                        try clear c59b1
                                        try clear p64
                                        try clear c82
                                        try clear c82b0
                                        try clear c82b1
                                        try clear c83
                                        try clear c83b0
                                        try clear c83b1
                                        try clear c84
                                        try clear c84b0
                                        try clear c84b1
                                        try clear c86
                                        try clear c88
                                        try clear c88b0
                                        try clear c89
                                        try clear c89b0
                                        try clear c90
                                        try clear c90b0
                                        try clear c91
                                        try clear c91b0
                                        try clear c92
                                        try clear c92b0
                                        try clear c93
                                        try clear c93b0
                                        try clear c93b1
                                        try clear c93b2
                                        try clear c97
                                        try clear c97b0
                                        try clear c97b1
                                        try clear c98
                                        try clear c98b0
                                        try clear c98b1
                                        try clear c103
                                        try clear c103b0
                                        try clear c103b1
                                        try clear c103b2
                                        try clear c104
                                        try clear c104b0
                                        try clear c104b1
                                        try clear hcz25_0
                                        try clear hcz25_1
                                        try clear hcz25_2
                                        try clear hcz25_3
                                        try clear hcz30_0
                                        try clear hcz30_1
                                        try clear hcz30_2
                                        try clear hcz30_3
                                        try clear hcz40_0
                                        try clear hcz40_1
                                        try clear hcz40_2
                                        try clear hcz40_3
                                        try clear hcz45_0
                                        try clear hcz45_1
                                        try clear hcz45_2
                                        try clear hcz45_3
                                        try clear hcz74_0
                                        try clear hcz74_1
                                        try clear hcz74_2
                                        try clear hcz74_3
                                        try clear hcz79_0
                                        try clear hcz79_1
                                        try clear hcz79_2
                                        try clear hcz79_3
                                        try clear hfz25_0
                                        try clear hfz25_1
                                        try clear hfz25_2
                                        try clear hfz25_3
                                        try clear hfz30_0
                                        try clear hfz30_1
                                        try clear hfz30_2
                                        try clear hfz30_3
                                        try clear hfz40_0
                                        try clear hfz40_1
                                        try clear hfz40_2
                                        try clear hfz40_3
                                        try clear hfz45_0
                                        try clear hfz45_1
                                        try clear hfz45_2
                                        try clear hfz45_3
                                        try clear hfz74_0
                                        try clear hfz74_1
                                        try clear hfz74_2
                                        try clear hfz74_3
                                        try clear hfz79_0
                                        try clear hfz79_1
                                        try clear hfz79_2
                                        try clear hfz79_3
                                        try clear hx142_0
                                        try clear hx195_0
                                        try clear p1
                                        try clear p14
                                        try clear p142
                                        try clear p19
                                        try clear p195
                                        try clear p2
                                        try clear p6
                                        try clear p64
                                        try clear q1
                                        try clear q14
                                        try clear q142
                                        try clear q19
                                        try clear q195
                                        obtain ⟨kq, x182_99, rfl, HA, HJ99, HO_26, HO_155000, HO_155001, BK154, HB⟩ := hcut
                                        cases kq with
                                        | zero => exact absurd HA.out (by simp [spoortop_TopFrames.j6])
                                        | succ kj99 =>
                                          have H := HA.out
                                          clear HA
                                          simp only [spoortop_TopFrames.j6] at H
                                          by_cases c111 : x182_99 = true
                                          · subst c111
                                            have H1 : (none) = some r := by rw [if_pos rfl] at H; exact H
                                            clear H
                                            have H := H1
                                            clear H1
                                            exact absurd H (by simp)
                                          · replace c111 := Bool.eq_false_iff.mpr c111
                                            subst c111
                                            have H1 : (spoortop_TopFrames.l4 kj99 l0 t196 (t196.length : Int) 0) = some r := by rw [if_neg (show ¬ (false = true) by decide)] at H; exact H
                                            clear H
                                            have H := H1
                                            clear H1
                                            have H' := Aside0.mk H
                                            clear H
                                            obtain ⟨Ao112, co112, eo112⟩ := Kd.R_slice HO_26.out
                                            subst eo112
                                            go_wp2
                                            go_loopg [185] kj99 (fun kq v185 w' => ∃ (x185_7 : Int), v185 = .int .i64 x185_7 ∧ Aside0 (spoortop_TopFrames.l4 kq l0 t196 (t196.length : Int) x185_7 = some r) ∧ Aside0 (kq ≤ kj99) ∧ Aside0 (Kd.R Kd.string 9 w' w.heap.size (fun k_ => some k_ ≠ ((.slice Ao78 t182.length co78) : Value).ownBlock) (.slice Ao112 t196.length co112) t196) ∧ Aside0 (Kd.R Kd.string 9 w' w.heap.size (fun k_ => some k_ ≠ ((.slice Ao112 t196.length co112) : Value).ownBlock) (.slice Ao78 t182.length co78) t182) ∧ Aside0 (Kd.R k61 61 w' w.heap.size (fun _ => True) (.slice Ao80 t185.length co80) t185) ∧ Aside0 (w'.heap[gb154]? = some (.cells #[(.slice Ao78 t182.length co78), (.slice Ao80 t185.length co80), .int .i64 t188, .bool t189] 30 (0, 0))) ∧ Aside0 (Below w.heap.size w w'))
                                            case atStart => exact ⟨(0), (by first | rfl | (simp; done) | (simp [*]; done)), H', ⟨Nat.le_refl _⟩, ⟨by (with_reducible repeat (first | apply Kd.R_alloc | apply Kd.R_drewN | apply Kd.R_drew)); exact HO_26.out⟩, ⟨by (with_reducible repeat (first | apply Kd.R_alloc | apply Kd.R_drewN | apply Kd.R_drew)); exact HO_155000.out⟩, ⟨by (with_reducible repeat (first | apply Kd.R_alloc | apply Kd.R_drewN | apply Kd.R_drew)); exact HO_155001.out⟩, ⟨by (with_reducible repeat (first | refine blk_drewN ?_ _ | refine blk_drew ?_ | refine blk_alloc ?_ _)); exact BK154.out⟩, ⟨by repeat (first | (with_reducible first | exact HB.out | apply below_alloc | apply pw_below_drewN | apply below_drew1 | refine below_set ?_ GE154.out) | exact HB.out)⟩⟩
                                            case round =>
                                              clear H'
                                              try clear c1
                                              try clear p1
                                              try clear q1
                                              try clear hx1
                                              try clear c2
                                              try clear p2
                                              try clear c3
                                              try clear c5
                                              try clear p6
                                              try clear c7
                                              try clear c8
                                              try clear c9
                                              try clear c10
                                              try clear c11
                                              try clear p14
                                              try clear q14
                                              try clear hx14
                                              try clear c16
                                              try clear c16b0
                                              try clear c16b1
                                              try clear c16b2
                                              try clear c19
                                              try clear c19b0
                                              try clear c19b1
                                              try clear p19
                                              try clear q19
                                              try clear hx19
                                              try clear c21
                                              try clear c21b0
                                              try clear c32
                                              try clear c32b0
                                              try clear c33
                                              try clear c33b0
                                              try clear c33b1
                                              try clear c36
                                              try clear c36b0
                                              try clear c36b1
                                              try clear c37
                                              try clear c37b0
                                              try clear c37b1
                                              try clear c38
                                              try clear c38b0
                                              try clear c38b1
                                              try clear c57
                                              try clear c57b0
                                              try clear c57b1
                                              try clear c58
                                              try clear c58b0
                                              try clear c58b1
                                              try clear c59
                                              try clear c59b0
                                              try clear c59b1
                                              try clear p64
                                              try clear c82
                                              try clear c82b0
                                              try clear c82b1
                                              try clear c83
                                              try clear c83b0
                                              try clear c83b1
                                              try clear c84
                                              try clear c84b0
                                              try clear c84b1
                                              try clear c86
                                              try clear c88
                                              try clear c88b0
                                              try clear c89
                                              try clear c89b0
                                              try clear c90
                                              try clear c90b0
                                              try clear c91
                                              try clear c91b0
                                              try clear c92
                                              try clear c92b0
                                              try clear c93
                                              try clear c93b0
                                              try clear c93b1
                                              try clear c93b2
                                              try clear c97
                                              try clear c97b0
                                              try clear c97b1
                                              try clear c98
                                              try clear c98b0
                                              try clear c98b1
                                              try clear c103
                                              try clear c103b0
                                              try clear c103b1
                                              try clear c103b2
                                              try clear c104
                                              try clear c104b0
                                              try clear c104b1
                                              try clear c111
                                              try clear hcz25_0
                                              try clear hcz25_1
                                              try clear hcz25_2
                                              try clear hcz25_3
                                              try clear hcz30_0
                                              try clear hcz30_1
                                              try clear hcz30_2
                                              try clear hcz30_3
                                              try clear hcz40_0
                                              try clear hcz40_1
                                              try clear hcz40_2
                                              try clear hcz40_3
                                              try clear hcz45_0
                                              try clear hcz45_1
                                              try clear hcz45_2
                                              try clear hcz45_3
                                              try clear hcz74_0
                                              try clear hcz74_1
                                              try clear hcz74_2
                                              try clear hcz74_3
                                              try clear hcz79_0
                                              try clear hcz79_1
                                              try clear hcz79_2
                                              try clear hcz79_3
                                              try clear hfz25_0
                                              try clear hfz25_1
                                              try clear hfz25_2
                                              try clear hfz25_3
                                              try clear hfz30_0
                                              try clear hfz30_1
                                              try clear hfz30_2
                                              try clear hfz30_3
                                              try clear hfz40_0
                                              try clear hfz40_1
                                              try clear hfz40_2
                                              try clear hfz40_3
                                              try clear hfz45_0
                                              try clear hfz45_1
                                              try clear hfz45_2
                                              try clear hfz45_3
                                              try clear hfz74_0
                                              try clear hfz74_1
                                              try clear hfz74_2
                                              try clear hfz74_3
                                              try clear hfz79_0
                                              try clear hfz79_1
                                              try clear hfz79_2
                                              try clear hfz79_3
                                              try clear hx142_0
                                              try clear hx195_0
                                              try clear p1
                                              try clear p14
                                              try clear p142
                                              try clear p19
                                              try clear p195
                                              try clear p2
                                              try clear p6
                                              try clear p64
                                              try clear q1
                                              try clear q14
                                              try clear q142
                                              try clear q19
                                              try clear q195
                                              obtain ⟨x185_7, rfl, HA, HK7, HO_26, HO_155000, HO_155001, BK154, HB⟩ := hrel
                                              cases gk with
                                              | zero => exact absurd HA.out (by simp [spoortop_TopFrames.l4])
                                              | succ k7 =>
                                                have H := HA.out
                                                clear HA
                                                simp only [spoortop_TopFrames.l4] at H
                                                by_cases c113 : x185_7 < (t196.length : Int)
                                                · rw [if_pos c113] at H
                                                  have c113b0 : decide (x185_7 < (t196.length : Int)) = true := decide_eq_true c113
                                                  clear c113
                                                  by_cases c114 : 0 ≤ x185_7
                                                  · rw [if_pos c114] at H
                                                    have c114b0 : decide (0 ≤ x185_7) = true := decide_eq_true c114
                                                    clear c114
                                                    by_cases c115 : x185_7 < (t196.length : Int)
                                                    · rw [if_pos c115] at H
                                                      have c115b0 : decide (x185_7 < (t196.length : Int)) = true := decide_eq_true c115
                                                      clear c115
                                                      by_cases c116 : x185_7 < (l0.length : Int)
                                                      · rw [if_pos c116] at H
                                                        have c116b0 : decide (x185_7 < (l0.length : Int)) = true := decide_eq_true c116
                                                        clear c116
                                                        by_cases c117 : (rdOf ByteArray.empty t196 x185_7).toList = (rdOf ByteArray.empty l0 x185_7).toList
                                                        · rw [if_pos c117] at H
                                                          have c117b0 : ((rdOf ByteArray.empty t196 x185_7).toList == (rdOf ByteArray.empty l0 x185_7).toList) = true := beq_iff_eq.mpr c117
                                                          have c117b1 : ((rdOf ByteArray.empty t196 x185_7).toList != (rdOf ByteArray.empty l0 x185_7).toList) = false := bne_eq_false_iff_eq.mpr c117
                                                          clear c117
                                                          have H' := Aside0.mk H
                                                          clear H
                                                          try go_wp2
                                                          have n0_ := Aside0.mk (Kd.R_drew HO_26.out)
                                                          have n1_ := Aside0.mk (Kd.R_drew HO_155000.out)
                                                          have n2_ := Aside0.mk (Kd.R_drew HO_155001.out)
                                                          have n3_ := Aside0.mk (blk_drew BK154.out)
                                                          have n4_ := Aside0.mk (below_drew1 HB.out)
                                                          clear HO_26
                                                          clear HO_155000
                                                          clear HO_155001
                                                          clear BK154
                                                          clear HB
                                                          have HO_26 := n0_
                                                          have HO_155000 := n1_
                                                          have HO_155001 := n2_
                                                          have BK154 := n3_
                                                          have HB := n4_
                                                          clear n0_ n1_ n2_ n3_ n4_
                                                          have p204 : 0 ≤ (x185_7 : Int) := of_decide_eq_true (by first | (with_reducible assumption) | assumption)
                                                          have q204 : x185_7 < (t196.length : Int) := of_decide_eq_true (by first | (with_reducible assumption) | assumption)
                                                          obtain ⟨ad204, e204, hx204_0⟩ := Kd.at_string (Kd.R_reads' HO_26.out).2.2 x185_7 p204 q204
                                                          cases e204
                                                          replace p204 := eq_true p204
                                                          replace q204 := eq_true q204
                                                          have p205 : 0 ≤ (x185_7 : Int) := of_decide_eq_true (by first | (with_reducible assumption) | assumption)
                                                          have q205 : x185_7 < (l0.length : Int) := of_decide_eq_true (by first | (with_reducible assumption) | assumption)
                                                          obtain ⟨ad205, e205, hx205_0⟩ := Kd.at_string HR0.out x185_7 p205 q205
                                                          have hw205_0 := hx205_0
                                                          cases e205
                                                          replace hx205_0 := (HB.out.cell (World.block_lt_of_cell? w _ hx205_0)).trans hx205_0
                                                          replace p205 := eq_true p205
                                                          replace q205 := eq_true q205
                                                          refine start_ (n := 9) (S := fun w' => w'.cell? (ad204.add (x185_7).toNat) = some (.string (rdOf ByteArray.empty t196 x185_7)) ∧ w'.cell? (ad205.add (x185_7).toNat) = some (.string (rdOf ByteArray.empty l0 x185_7))) (ds := []) #[false, false, false, false, false, false, false, false, false] (by kernel_rfl) rfl rfl ⟨hx204_0, ((HB.out.cell (World.block_lt_of_cell? w _ hw205_0)).trans hw205_0)⟩ (fun hHeld => ?_); refine with_tabW spoortop_TopFrames.tab42 spoortop_TopFrames.bits42 (fun HT_ HW_ => ?_)
                                                          generalize wr.drew = w118 at HO_26 HO_155000 HO_155001 BK154 HB hx204_0 hx205_0 hHeld ⊢
                                                          refine pure_ (i := 0) (N := some 188) (v := ?_) (a' := ?_) #[true, false, false, false, false, false, false, false, false] rfl rfl (any_of HT_.out (by kernel_rfl)) (fun _ _ _ h => h) (Or.inl ⟨by rfl, ?_⟩) ?_ ?_
                                                          rotate_left
                                                          · intro w'
                                                            go_simp
                                                            with_reducible rfl
                                                          rotate_left
                                                          · simp only [Act.put, List.setIfInBounds_toArray, List.set_cons_zero, List.set_cons_succ, i64_w, i32_w]
                                                            rfl
                                                          refine pure_ (i := 1) (N := some 189) (v := ?_) (a' := ?_) #[true, true, false, false, false, false, false, false, false] rfl rfl (any_of HT_.out (by kernel_rfl)) (fun _ _ _ h => h) (Or.inl ⟨by rfl, ?_⟩) ?_ ?_
                                                          rotate_left
                                                          · intro w'
                                                            go_simp
                                                            with_reducible rfl
                                                          rotate_left
                                                          · simp only [Act.put, List.setIfInBounds_toArray, List.set_cons_zero, List.set_cons_succ, i64_w, i32_w]
                                                            rfl
                                                          refine pure_ (i := 2) (N := some 190) (v := ?_) (a' := ?_) #[true, true, true, false, false, false, false, false, false] rfl rfl (any_of HT_.out (by kernel_rfl)) (fun _ _ _ h => h) (Or.inl ⟨by rfl, ?_⟩) ?_ ?_
                                                          rotate_left
                                                          · intro w'
                                                            go_simp
                                                            with_reducible rfl
                                                          rotate_left
                                                          · simp only [Act.put, List.setIfInBounds_toArray, List.set_cons_zero, List.set_cons_succ, i64_w, i32_w]
                                                            rfl
                                                          refine pure_ (i := 4) (N := some 192) (v := ?_) (a' := ?_) #[true, true, true, false, true, false, false, false, false] rfl rfl (any_of HT_.out (by kernel_rfl)) (fun _ _ _ h => h) (Or.inl ⟨by rfl, ?_⟩) ?_ ?_
                                                          rotate_left
                                                          · intro w'
                                                            go_simp
                                                            with_reducible rfl
                                                          rotate_left
                                                          · simp only [Act.put, List.setIfInBounds_toArray, List.set_cons_zero, List.set_cons_succ, i64_w, i32_w]
                                                            rfl
                                                          refine pure_ (i := 5) (N := some 193) (v := ?_) (a' := ?_) #[true, true, true, false, true, true, false, false, false] rfl rfl (any_of HT_.out (by kernel_rfl)) (fun _ _ _ h => h) (Or.inl ⟨by rfl, ?_⟩) ?_ ?_
                                                          rotate_left
                                                          · intro w'
                                                            go_simp
                                                            with_reducible rfl
                                                          rotate_left
                                                          · simp only [Act.put, List.setIfInBounds_toArray, List.set_cons_zero, List.set_cons_succ, i64_w, i32_w]
                                                            rfl
                                                          refine pure_ (i := 6) (N := some 194) (v := ?_) (a' := ?_) #[true, true, true, false, true, true, true, false, false] rfl rfl (any_of HT_.out (by kernel_rfl)) (fun _ _ _ h => h) (Or.inl ⟨by rfl, ?_⟩) ?_ ?_
                                                          rotate_left
                                                          · intro w'
                                                            go_simp
                                                            with_reducible rfl
                                                          rotate_left
                                                          · simp only [Act.put, List.setIfInBounds_toArray, List.set_cons_zero, List.set_cons_succ, i64_w, i32_w]
                                                            rfl
                                                          refine take_ (i := 3) (N := some 191) (v := ?_) (a' := ?_) #[true, true, true, true, true, true, true, false, false] rfl rfl (take_ofW HT_.out HW_.out (by kernel_rfl)) (fun _ _ _ h => h) (Or.inl ⟨by rfl, ?_⟩) hHeld ?_ ?_
                                                          rotate_left
                                                          · rintro w' ⟨s0, s1⟩
                                                            go_simp
                                                            with_reducible rfl
                                                          rotate_left
                                                          · simp only [Act.put, List.setIfInBounds_toArray, List.set_cons_zero, List.set_cons_succ, i64_w, i32_w]
                                                            rfl
                                                          refine take_ (i := 7) (N := some 195) (v := ?_) (a' := ?_) #[true, true, true, true, true, true, true, true, false] rfl rfl (take_ofW HT_.out HW_.out (by kernel_rfl)) (fun _ _ _ h => h) (Or.inl ⟨by rfl, ?_⟩) hHeld ?_ ?_
                                                          rotate_left
                                                          · rintro w' ⟨s0, s1⟩
                                                            go_simp
                                                            with_reducible rfl
                                                          rotate_left
                                                          · simp only [Act.put, List.setIfInBounds_toArray, List.set_cons_zero, List.set_cons_succ, i64_w, i32_w]
                                                            rfl
                                                          refine pure_ (i := 8) (N := some 196) (v := ?_) (a' := ?_) #[true, true, true, true, true, true, true, true, true] rfl rfl (any_of HT_.out (by kernel_rfl)) (fun _ _ _ h => h) (Or.inl ⟨by rfl, ?_⟩) ?_ ?_
                                                          rotate_left
                                                          · intro w'
                                                            go_simp
                                                            with_reducible rfl
                                                          rotate_left
                                                          · simp only [Act.put, List.setIfInBounds_toArray, List.set_cons_zero, List.set_cons_succ, i64_w, i32_w]
                                                            rfl
                                                          refine done_ (done_of HT_.out (by kernel_rfl)) ?_
                                                          try go_wp2
                                                          go_roundg k7
                                                          case measure => have := HK1.out; have := HK2.out; have := HK3.out; have := HJ72.out; have := HJ86.out; have := HJ99.out; have := HK7.out; omega
                                                          case rel => exact ⟨(wrap64 (x185_7 + 1)), (by first | rfl | (simp; done) | (simp [*]; done)), H', ⟨by have := HK1.out; have := HK2.out; have := HK3.out; have := HJ72.out; have := HJ86.out; have := HJ99.out; have := HK7.out; omega⟩, ⟨by (with_reducible repeat (first | apply Kd.R_alloc | apply Kd.R_drewN | apply Kd.R_drew)); exact HO_26.out⟩, ⟨by (with_reducible repeat (first | apply Kd.R_alloc | apply Kd.R_drewN | apply Kd.R_drew)); exact HO_155000.out⟩, ⟨by (with_reducible repeat (first | apply Kd.R_alloc | apply Kd.R_drewN | apply Kd.R_drew)); exact HO_155001.out⟩, ⟨by (with_reducible repeat (first | refine blk_drewN ?_ _ | refine blk_drew ?_ | refine blk_alloc ?_ _)); exact BK154.out⟩, ⟨by repeat (first | (with_reducible first | exact HB.out | apply below_alloc | apply pw_below_drewN | apply below_drew1 | refine below_set ?_ GE154.out) | exact HB.out)⟩⟩
                                                        · rw [if_neg c117] at H
                                                          exact absurd H (by simp)
                                                      · rw [if_neg c116] at H
                                                        exact absurd H (by simp)
                                                    · rw [if_neg c115] at H
                                                      exact absurd H (by simp)
                                                  · rw [if_neg c114] at H
                                                    exact absurd H (by simp)
                                                · rw [if_neg c113] at H
                                                  have c113b0 : decide (x185_7 < (t196.length : Int)) = false := decide_eq_false c113
                                                  clear c113
                                                  obtain rfl := Option.some.inj H
                                                  go_wp2
                                                  go_ret
                                                  exact ⟨by first | rfl | (simp [errW_none, errW_some] <;> rfl) | (simp only [← hji96]; first | rfl | (simp [errW_none, errW_some] <;> rfl)) | (simp [*, errW_none, errW_some] <;> rfl), by repeat (first | (with_reducible first | exact HB.out | apply below_alloc | apply pw_below_drewN | apply below_drew1 | refine below_set ?_ GE154.out) | exact HB.out)⟩
                                    · rw [if_neg c98] at H
                                      exact absurd H (by simp)
                                  · rw [if_neg c97] at H
                                    exact absurd H (by simp)
              · rw [if_neg c19] at H
                have c19b0 : (((x16_2.size : Int) % 128) == 0) = false := beq_eq_false_iff_ne.mpr c19
                have c19b1 : (((x16_2.size : Int) % 128) != 0) = true := bne_iff_ne.mpr c19
                by_cases c119 : x16_2.size + 1 ≤ 9223372036854775807
                · rw [if_pos c119] at H
                  have c119b0 := eq_true c119
                  have c119b1 : decide (x16_2.size + 1 ≤ 9223372036854775807) = true := decide_eq_true c119
                  try have c119b2 : (9223372036854775807 < x16_2.size + 1) = False := eq_false (Nat.not_lt.2 c119)
                  have H' := Aside0.mk H
                  clear H
                  go_wp2
                  go_roundg k2
                  case measure => have := HK1.out; have := HK2.out; omega
                  case rel => exact ⟨(x16_2 ++ (⟨#[0]⟩ : ByteArray)), (by first | rfl | (simp; done) | (simp [*]; done)), H', ⟨by have := HK1.out; have := HK2.out; omega⟩, ⟨by repeat (first | (with_reducible first | exact HB.out | apply below_alloc | apply pw_below_drewN | apply below_drew1) | exact HB.out)⟩⟩
                · rw [if_neg c119] at H
                  exact absurd H (by simp)
  · replace c7 := Bool.eq_false_iff.mpr c7
    subst c7
    have H1 : (none) = some r := by rw [if_neg (show ¬ (false = true) by decide)] at H; exact H
    clear H
    have H := H1
    clear H1
    exact absurd H (by simp)

/-- THE ONE PURE STATEMENT of spoortop_TopFrames. -/
def spoortop_TopFrames.Pure : Prop := ∀ (l0 : List ByteArray) (a1 : Int) (l2 : List Bool) (a3 : Int) (a4 : Int), (l0.length * 16 ≤ 140737488351232 ∧ ∀ y_ ∈ l0, y_.size ≤ 140737488351232) → ((Lit.int .i64 a1).wf = true) → (l2.length * 1 ≤ 140737488351232 ∧ ∀ y_ ∈ l2, True) → ((Lit.int .i64 a3).wf = true) → ((Lit.int .i64 a4).wf = true) → ∃ k, spoortop_TopFrames.f k l0 a1 l2 a3 a4 = some true
theorem spoortop_TopFrames.walk (P : spoortop_TopFrames.Pure) (A0 : Option Addr) (c0 : Nat) (l0 : List ByteArray) (a1 : Int) (A2 : Option Addr) (c2 : Nat) (l2 : List Bool) (a3 : Int) (a4 : Int) (w : World) (g0 : l0.length * 16 ≤ 140737488351232 ∧ ∀ y_ ∈ l0, y_.size ≤ 140737488351232) (g1 : (Lit.int .i64 a1).wf = true) (g2 : l2.length * 1 ≤ 140737488351232 ∧ ∀ y_ ∈ l2, True) (g3 : (Lit.int .i64 a3).wf = true) (g4 : (Lit.int .i64 a4).wf = true) (hr0 : Kd.C Kd.string w A0 l0.length l0) (hc0 : l0.length ≤ c0) (hr2 : Kd.C Kd.bool w A2 l2.length l2) (hc2 : l2.length ≤ c2) :
    Calls Try.prog 3 #[.slice A0 l0.length c0, .int .i64 a1, .slice A2 l2.length c2, .int .i64 a3, .int .i64 a4] w fun e w' => e = .returned (.bool true) ∧ Below w.heap.size w w' := by
  obtain ⟨k, h⟩ := P l0 a1 l2 a3 a4 g0 g1 g2 g3 g4
  refine (spoortop_TopFrames.calls k A0 c0 l0 a1 A2 c2 l2 a3 a4 true w hr0 hc0 hr2 hc2 h).mono ?_
  rintro e w' ⟨rfl, hd⟩
  exact ⟨rfl, hd⟩

end Go.Proofs.Ytbeinlllhpcokaa.P
