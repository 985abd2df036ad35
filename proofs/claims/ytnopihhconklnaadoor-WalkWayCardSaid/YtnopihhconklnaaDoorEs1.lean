import Derived.Test.YtnopihhconklnaaDoorTy
import Derived.Test.YtnopihhconklnaaDoorEd
/- Seats: the program's test, the document's. -/
namespace Go.Proofs.YtnopihhconklnaaDoor.S
open Go Go.En Go.Sp Go.Proofs Go.Proofs.YtnopihhconklnaaDoor.T
set_option maxRecDepth 10000
set_option linter.unusedSimpArgs false
set_option linter.unusedVariables false
set_option maxHeartbeats 1000000
instance order_right (a b c : Int) (d : Bool) : PSi Tryd.prog 45 [.agg [.v (.int .i64 a), .v (.int .u64 b), .v (.int .i64 c), .v (.bool d)]] (VB (rightSeat ⟨a, b, c, d⟩)) := ⟨by
  refine ps_of 100 Tryd.func45 rfl (ev_ ?_)
  simp only [br_iff, V.c.injEq, C.v.injEq, Value.bool.injEq, rightSeat]
  grind⟩
theorem seats_loop {l : List Seat} {i : Nat} (hi : i < l.length) {a : Int} (ha : ∀ y, ahd l i = some y → a = y.router) (h0 : ahd l i = none → a = -1) : rowOk rightSeat (fun a b => decide (a.router < b.router)) (ahd l i) (l.drop i) = (rightSeat l[i] && decide (a < l[i].router) && rowOk rightSeat (fun a b => decide (a.router < b.router)) (some l[i]) (l.drop (i + 1))) := by
  rw [rowOk_take hi]
  cases h : ahd l i with
  | none =>
    rw [h0 h]
    cases hr : rightSeat l[i] with
    | false => rfl
    | true =>
      have : -1 < l[i].router := by unfold rightSeat at hr; grind
      simp [this]
  | some y => rw [ha y h]
instance order_Check (l : List Seat) : PSi Tryd.prog 35 [.c (.row (l.map Seat.enc))] (VI .i64 (why (seatsOk l))) := ⟨by
  refine ps_of 100 Tryd.func35 rfl (ev_ ?_)
  refine br_d (fun h => ?_) (fun h => ?_)
  · simp [seatsOk, why]; omega
  refine loop_st (σ := Nat × Int) 100 (fun x => [(11, VI .i64 x.1), (10, VI .i64 l.length), (9, .c (.row (l.map Seat.enc))), (3, VI .i64 x.2)]) (fun _ => []) (fun x => x.1 ≤ l.length ∧ (∀ y, ahd l x.1 = some y → x.2 = y.router) ∧ (ahd l x.1 = none → x.2 = -1) ∧ rowOk rightSeat (fun a b => decide (a.router < b.router)) none l = rowOk rightSeat (fun a b => decide (a.router < b.router)) (ahd l x.1) (l.drop x.1)) (fun x => l.length - x.1) (0, -1) ⟨by omega, by simp [ahd], by simp, by simp [ahd]⟩ wk (fun _ _ => Nat.le_refl _) ?_
  rintro ⟨i, a⟩ Q' ⟨hi, ha, h0, hs⟩ hn hx hr
  simp only at hi ha h0 hs
  refine ev_ (br_d (fun hil => ?_) (fun hil => ?_))
  · have hil' : i < l.length := by omega
    rw [seats_loop hil' ha h0] at hs
    refine idx_map (x := l[i]) 100 (by simp [hil']) (by omega) rfl (ev_ ?_)
    have hah := ahd_succ hil'
    generalize l[i] = x at *
    refine callI 100 (ev_ ?_)
    refine br_i (fun hok => ?_) (fun hok => ?_)
    · refine br_d (fun c => ?_) (fun c => ?_)
      · refine hr _ _ (ev_ ?_)
        have : ¬ a < x.router := by omega
        simp [why, seatsOk, hs, this]
      · simp only [i64In]
        refine ⟨by omega, hn (i + 1, x.router) _ _ wk ⟨by omega, by simp [hah], by simp [hah], ?_⟩ (by simp only; omega)⟩
        have hok' : rightSeat x = true := hok
        have : a < x.router := by omega
        simp [hs, hah, hok', this]
    · refine hr _ _ (ev_ ?_)
      have hok' : rightSeat x = false := hok
      simp [why, seatsOk, hs, hok']
  · refine hx 0 _ _ _ rfl (ev_ ?_)
    rw [rowOk_end (by omega)] at hs
    have : l.length ≤ 64 := by omega
    simp [why, seatsOk, hs, this]⟩
end Go.Proofs.YtnopihhconklnaaDoor.S
