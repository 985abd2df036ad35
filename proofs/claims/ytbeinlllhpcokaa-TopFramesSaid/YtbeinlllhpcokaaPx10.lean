-- Written by a program of this session (an adapted printer) out of the translation; Lean checks it.
import Derived.Test.YtbeinlllhpcokaaPx0
import Derived.Test.YtbeinlllhpcokaaPx8
import Derived.Test.YtbeinlllhpcokaaPx14
import Derived.Deep.RegionWith
import Derived.Shelf.Abstract
import Derived.WalkSpells
namespace Go.Proofs.Ytbeinlllhpcokaa.P
open Go.RowKit Go.Proofs.YtbeinlllhpcokaaW.PrintWords Go.Proofs.YtbeinlllhpcokaaW.PrintLast Go.Proofs.YtbeinlllhpcokaaW.PrintMore
attribute [local go_sem] max2_int min2_int max_two min_two max_three min_three max_four min_four   -- for this text's walks alone
set_option linter.unusedVariables false
set_option linter.unusedSimpArgs false

/-! ### disk_Make: function 6 -/
-- import: Derived.Shelf.Abstract
-- import: Derived.WalkSpells
-- import: Derived.Deep.RegionWith
/- it leans on disk_Check.f -/
section
theorem wraps_u64_ (n : Int) (h₀ : 0 ≤ n) (h₁ : n < 2 ^ 64) : IntKind.u64.wrap n = n := by rw [IntKind.wrap_u64]; omega
theorem mul_one_f (n : Nat) (hn : n ≤ 1024) : bits_Mul.f 1 (n : Int) = some (0, (n : Int)) := by
  have e1 : Go.bits .and .u64 1 4294967295 = 1 := by rfl
  have e2 : Go.bits .and .u64 (n : Int) 4294967295 = (n : Int) := by
    have := bits_mask .u64 64 (by decide) wraps_u64_ 32 (by decide) (n : Int) (by omega) (by omega)
    exact this.trans (by omega)
  unfold bits_Mul.f bits_Mul64.f
  rw [e1, e2]
  simp only [IntKind.wrap_u64]
  have a1 : (1 : Int) / 4294967296 = 0 := by decide
  have a2 : (n : Int) / 4294967296 = 0 := by omega
  have a3 : (n : Int) % 18446744073709551616 = (n : Int) := by omega
  have e3 : Go.bits .and .u64 0 4294967295 = 0 := by rfl
  rw [a1, a2]
  simp [a3, a2, e2, e3]
/-- a row's cells from o on are others. -/
def putL (xs : List ByteArray) (o : Nat) : List ByteArray → List ByteArray
  | [] => xs
  | v :: vs => putL (xs.set o v) (o + 1) vs
theorem putL_len (vs : List ByteArray) : ∀ xs o, (putL xs o vs).length = xs.length := by
  induction vs with
  | nil => intro xs o; rfl
  | cons v vs ih => intro xs o; exact (ih _ _).trans List.length_set
theorem R_setCells {g n cap base : Nat} (vs : List ByteArray) : ∀ (W : World) (o : Nat) (xs : List ByteArray), Kd.R Kd.string 9 W base (fun _ => True) (.slice (some ⟨g, 0, none⟩) n cap) xs → Kd.R Kd.string 9 (W.setCells g o (vs.map Value.string)) base (fun _ => True) (.slice (some ⟨g, 0, none⟩) n cap) (putL xs o vs) := by
  induction vs with
  | nil => intro W o xs h; exact h
  | cons v vs ih =>
    intro W o xs h
    have := Kd.R_putn h (o : Int) v
    rw [Int.toNat_natCast] at this
    exact ih _ (o + 1) _ this
theorem below_setCells {w0 : World} {g : Nat} (hg : w0.heap.size ≤ g) (vs : List Value) : ∀ (W : World) (o : Nat), Below w0.heap.size w0 W → Below w0.heap.size w0 (W.setCells g o vs) := by
  induction vs with
  | nil => intro W o h; exact h
  | cons v vs ih => intro W o h; exact ih _ _ (below_set h hg)
theorem putL_all (z : ByteArray) (vs : List ByteArray) (hv : ∀ v ∈ vs, v = z) : ∀ (xs : List ByteArray) (o : Nat), o + vs.length ≤ xs.length → (∀ j, j < o → xs[j]? = some z) → ∀ j, j < o + vs.length → (putL xs o vs)[j]? = some z := by
  induction vs with
  | nil => intro xs o _ h j hj; exact h j (by simpa using hj)
  | cons v vs ih =>
    intro xs o hl h j hj
    rw [List.length_cons] at hl hj
    refine ih (fun v hv' => hv v (List.mem_cons_of_mem _ hv')) (xs.set o v) (o + 1) (by rw [List.length_set]; omega) (fun j hj => ?_) j (by omega)
    by_cases e : o = j
    · subst e
      rw [List.getElem?_set_self (by omega), hv v List.mem_cons_self]
    · rw [List.getElem?_set_ne e]
      exact h j (by omega)
/-- copy onto a piece of a row of one's own. -/
theorem copy_own {base n cap : Nat} (W : World) (g o dl dc : Nat) (a : Addr) (sl sc : Nat) (vs xs : List ByteArray) (h : Kd.R Kd.string 9 W base (fun _ => True) (.slice (some ⟨g, 0, none⟩) n cap) xs) (hn : vs.length = Nat.min sl dl)
    (hsrc : ∀ j, (hj : j < vs.length) → W.cell? (a.add j) = some (.string vs[j])) (ho : o + vs.length ≤ n) :
    (Builtin.copy_ #[22, 22] 3 #[.slice (some ⟨g, o, none⟩) dl dc, .slice (some a) sl sc]).run Try.prog W = .ok (.int .i64 ((vs.length : Nat) : Int)) (W.setCells g o (vs.map Value.string)) := by
  have := run_copy_cells (P := Try.prog) W 22 22 3 9 g o dl dc a sl sc (vs.map Value.string) Try.underlying22 (by kernel_rfl) (by rw [List.length_map]; exact hn) (fun j v hv => ?_) (fun j hj => ?_) (fun j hj => ?_) (fun v hv => ?_)
  · rw [List.length_map] at this
    exact this
  · rw [List.getElem?_map] at hv
    obtain ⟨x, hx, rfl⟩ := Option.map_eq_some_iff.1 hv
    obtain ⟨hj, rfl⟩ := List.getElem?_eq_some_iff.1 hx
    exact hsrc j hj
  · rw [List.length_map] at hj
    have := (Kd.R_celln (⟨#[]⟩ : ByteArray) h ((o + j : Nat) : Int) (by omega) (by omega)).1
    rw [Int.toNat_natCast] at this
    rw [this]
    rfl
  · rw [List.length_map] at hj
    have := (Kd.R_celln (⟨#[]⟩ : ByteArray) h ((o + j : Nat) : Int) (by omega) (by omega)).2
    rw [Int.toNat_natCast] at this
    exact this
  · obtain ⟨x, _, rfl⟩ := List.mem_map.1 hv
    rfl
set_option maxHeartbeats 8000000 in
theorem Repeat_calls (z : ByteArray) (N : Nat) (hN : 1 ≤ N) (hN2 : N ≤ 1024) (A : Option Addr) (c : Nat) (w : World) (hr : Kd.C Kd.string w A 1 [z]) :
    Calls Try.prog 18 #[.slice A 1 c, .int .i64 (N : Int)] w fun e w' => ∃ v0 : Value, e = .returned v0 ∧ Kd.R Kd.string 9 w' w.heap.size (fun _ => True) v0 (List.replicate N z) ∧ Below w.heap.size w w' := by
  obtain ⟨ad, rfl, hs0⟩ := Kd.at_string hr 0 (by omega) (by omega)
  have HS0 := Aside0.mk (show w.cell? (ad.add 0) = some (.string z) from hs0)
  have HR := Aside0.mk hr
  clear hs0
  have k0 : decide ((N : Int) < 0) = false := decide_eq_false (by omega)
  have k1 : IntKind.u64.wrap (N : Int) = (N : Int) := by rw [IntKind.wrap_u64]; omega
  have k2 : IntKind.i64.wrap (N : Int) = (N : Int) := by rw [IntKind.wrap_i64]; omega
  have k3 : decide (9223372036854775807 < (N : Int)) = false := decide_eq_false (by omega)
  clear hr
  go_enter Try.func18, Try.ntmps18
  go_wp2_with (first
    | (go_at_call 26; refine (bits_Mul.calls 1 (N : Int) 0 (N : Int) _ (mul_one_f N hN2)).mono ?_; rintro e w1 ⟨rfl, hd⟩; have HB := Aside0.mk hd.below; clear hd)
    | ((with_reducible refine gate_dst (N := 30) rfl ?_); refine Kd.R_make Kd.string (w0 := w) w.heap.size 9 ?hg (N := 30) ?hd 22 (.tmp 29) (.tmp 29) rfl (N : Int) rfl rfl Try.underlying22 (.string ⟨#[]⟩) 16 info9 rfl (by decide) (by decide) (⟨#[]⟩ : ByteArray) (ok := fun _ => True) (okp := fun _ => True) rfl (fun _ h => h) trivial (by omega) (by simp; omega) HB.out HB.out.size ?_; (case hd => rfl); (case hg => rfl); intro v30 w30 ho hb hg hat;  rw [Int.toNat_natCast] at ho; have HB2 := Aside0.mk hb; obtain ⟨gs, cap, rfl, hgs, hls, cells, hcs⟩ := Kd.R_form ho (by rw [List.length_replicate]; omega); rw [List.length_replicate] at ho ⊢; have HO := Aside0.mk ho; have HG := Aside0.mk hgs; have kcp := copy_own (n := N) (cap := cap) (base := w.heap.size) w30 gs 0 N cap ad 1 c [z] (List.replicate N (⟨#[]⟩ : ByteArray)) ho (by show 1 = min 1 N; omega) (by intro j hj; obtain rfl : j = 0 := (by simpa using hj); exact (hb.cell (p := ad.add 0) (block_lt_of_cell HS0.out)).trans HS0.out) (by simp; omega); clear HB hb hg hat ho hgs hls hcs))
  go_loopg [8] N (fun gg s8 wr => ∃ (kk : Nat) (cur : List ByteArray), 1 ≤ kk ∧ kk ≤ N ∧ N - kk ≤ gg ∧ s8 = .int .i64 kk ∧ cur.length = N ∧ Aside0 (Kd.R Kd.string 9 wr w.heap.size (fun _ => True) (.slice (some ⟨gs, 0, none⟩) N cap) cur) ∧ Aside0 (∀ j, j < kk → cur[j]? = some z) ∧ Aside0 (Below w.heap.size w wr))
  case atStart => exact ⟨1, putL (List.replicate N (⟨#[]⟩ : ByteArray)) 0 [z], Nat.le_refl _, hN, by omega, rfl, by rw [putL_len, List.length_replicate], ⟨R_setCells (g := gs) [z] w30 0 _ HO.out⟩, ⟨fun j hj => putL_all z [z] (by simp) _ 0 (by simp; omega) (fun j hj => absurd hj (Nat.not_lt_zero _)) j (by simpa using hj)⟩, ⟨below_setCells HG.out _ _ _ HB2.out⟩⟩
  case round =>
    clear HO HB2 kcp
    obtain ⟨kk, cur, h1, h2, hg, rfl, hcl, HO, HZ, HB⟩ := hrel
    by_cases hlt : kk < N
    · have hltz : (kk : Int) < (N : Int) := by omega
      have hm : min kk (N - kk) ≤ 1024 := by omega
      have hcap : N ≤ cap := (Kd.R_reads' HO.out).2.1
      have kcp := copy_own (n := N) (cap := cap) (base := w.heap.size) wr.drew gs kk (N - kk) (cap - kk) ⟨gs, 0, none⟩ kk cap (List.replicate (min kk (N - kk)) z) cur (Kd.R_drew HO.out) (by rw [List.length_replicate]) (by
        intro j hj
        rw [List.length_replicate] at hj
        have e := (Kd.R_celln (⟨#[]⟩ : ByteArray) HO.out (j : Int) (by omega) (by omega)).1
        rw [Int.toNat_natCast] at e
        rw [List.getElem_replicate]
        have hz := HZ.out j (by omega)
        have : rdOf (⟨#[]⟩ : ByteArray) cur (j : Int) = z := by unfold rdOf; rw [Int.toNat_natCast, List.getD_eq_getElem?_getD, hz]; rfl
        rw [this] at e
        rw [Addr.add_lit, Nat.zero_add]
        exact e) (by rw [List.length_replicate]; omega)
      rw [List.length_replicate] at kcp
      have s0 : decide ((kk : Int) ≤ (N : Int)) = true := decide_eq_true (by omega)
      have s1 : (0 : Int) ≤ (kk : Int) := by omega
      have s2 : (kk : Int) ≤ (N : Int) := by omega
      have s3 : (kk : Int) ≤ (cap : Int) := by omega
      go_wp2
      go_region
      go_wp2
      have hmap : (List.replicate (min kk (N - kk)) z).map Value.string = List.replicate (min kk (N - kk)) (Value.string z) := List.map_replicate
      have HO2 := R_setCells (g := gs) (List.replicate (min kk (N - kk)) z) wr.drew kk cur (Kd.R_drew HO.out)
      rw [hmap] at HO2
      have HZ2 := putL_all z (List.replicate (min kk (N - kk)) z) (fun v hv => List.eq_of_mem_replicate hv) cur kk (by rw [List.length_replicate]; omega) HZ.out
      rw [List.length_replicate] at HZ2
      go_roundg (N - (kk + min kk (N - kk)))
      case measure => omega
      case rel => exact ⟨kk + min kk (N - kk), putL cur kk (List.replicate (min kk (N - kk)) z), by omega, by omega, by omega, by simp, by rw [putL_len]; exact hcl, ⟨HO2⟩, ⟨HZ2⟩, ⟨below_setCells HG.out _ _ _ (Below.drew HB.out)⟩⟩
    · have hltz : ¬ (kk : Int) < (N : Int) := by omega
      obtain rfl : kk = N := by omega
      have hrep : cur = List.replicate kk z := by
        apply List.ext_getElem?
        intro j
        by_cases hj : j < kk
        · rw [HZ.out j hj, List.getElem?_replicate, if_pos hj]
        · rw [List.getElem?_eq_none (by omega), List.getElem?_replicate, if_neg hj]
      have HRP := Aside0.mk hrep
      clear hrep
      go_wp2
      go_ret
      exact ⟨_, rfl, by rw [← HRP.out]; exact HO.out, HB.out⟩
@[irreducible] def zero128 : ByteArray := strOfNums (List.replicate 128 0)
@[irreducible] def Z128 : Array Value := Array.replicate 128 (.int .u8 0)
theorem z128_get (j : Nat) (h : j < 128) : Z128[j]? = some (.int .u8 0) := by
  unfold Z128
  rw [Array.getElem?_replicate, if_pos h]
theorem info60 : (Try.prog.info? 51).map (·.zero) = some (some (.agg Z128)) := by
  unfold Z128
  kernel_rfl
theorem zero60 (w : World) : (zeroValue 51).run Try.prog w = .ok (.agg Z128) w := by
  obtain ⟨i, hi, hz⟩ := Option.map_eq_some_iff.1 info60
  simp [zeroValue, typeInfo, hi, hz]
theorem conv128 (w4 : World) (gz : Nat) (hbox : w4.heap[gz]? = some (.cells Z128 51 (0, 0))) : (convert 48 9 (.slice (some ⟨gz, 0, none⟩) 128 128)).run Try.prog w4 = .ok (.string zero128) w4 := by
  unfold zero128
  exact run_convert_bytes_arg (P := Try.prog) w4 48 5 Try.underlying48 Try.underlying5 gz 0 128 128 (List.replicate 128 0) (by rw [List.length_replicate]) (fun i hi => by rw [Nat.zero_add, blk_cell hbox i, z128_get i hi, List.getD_eq_getElem?_getD, List.getElem?_replicate, if_pos hi]; rfl) 9 Try.underlying9
theorem C_one (w : World) (z : ByteArray) : Kd.C Kd.string (w.alloc (.cells #[.string z] 9)) (some ⟨w.heap.size, 0, none⟩) 1 [z] := by
  refine ⟨rfl, by decide, fun _ => ⟨_, rfl, fun j p hp => ?_⟩⟩
  cases j with
  | succ j => simp at hp
  | zero =>
    obtain rfl : z = p := by simpa using hp
    refine ⟨[.string z], rfl, rfl, fun i u hu => ?_⟩
    cases i with
    | succ i => simp at hu
    | zero =>
      obtain rfl : Value.string z = u := by simpa using hu
      exact (blk_cell (blk_new w (.cells #[.string z] 9)) 0).trans rfl
set_option maxHeartbeats 8000000 in
theorem Make_good (N : Nat) (h1 : 1 ≤ N) (h2 : N ≤ 1024) (w : World) :
    Calls Try.prog 6 #[.int .i64 (N : Int)] w fun e w' => ∃ v0_ v1_ : Value, e = .returned (.tuple #[.agg #[v0_, v1_, .int .i64 (-1), .bool false], .int .i64 0]) ∧ Kd.R Kd.string 9 w' w.heap.size (fun _ => True) v0_ (List.replicate N zero128) ∧ Kd.R k61 61 w' w.heap.size (fun _ => True) v1_ ([] : List S61) ∧ Below w.heap.size w w' := by
  have k0 : decide ((N : Int) < 1) = false := decide_eq_false (by omega)
  have k0' : decide (N < 1) = false := decide_eq_false (by omega)
  have k1 : decide (1024 < (N : Int)) = false := decide_eq_false (by omega)
  have k1' : decide (1024 < N) = false := decide_eq_false (by omega)
  have kz := zero60
  go_enter Try.func6, Try.ntmps6
  go_upto_region 4 with (first
    | ((with_reducible refine gate_dst (N := 2) rfl ?_); refine box_event ?hg (N := 2) ?hd (cs := #[.slice none 0 0, .slice none 0 0, .int .i64 0, .bool false]) (t := 30) ?hr ?_; (case hd => rfl); (case hg => rfl); (case hr => first | (go_simp; done) | (go_simp; rfl)); intro gr hg w3 hbox hb3; have HG := Aside0.mk (by rw [hg]; exact Nat.le_refl _ : w.heap.size ≤ gr); have HZ := Aside0.mk hbox; have HB := Aside0.mk hb3; clear hg hbox hb3)
    | ((with_reducible refine gate_dst (N := 4) rfl ?_); refine box_event ?hg (N := 4) ?hd (cs := Z128) (t := 51) ?hr ?_; (case hd => rfl); (case hg => rfl); (case hr => first | (go_simp; done) | (go_simp; rfl)); intro gz hg w4 hbox hb4; have HZ4 := Aside0.mk (blk_below HZ.out hb4); have HB4 := Aside0.mk (below_step HB.out hb4); have kc := conv128 w4 gz hbox; clear hg hbox hb4 HB HZ))
  go_wp2_with (first
    | (go_at_call 18; refine (Repeat_calls zero128 N h1 h2 _ 1 _ (C_one _ _)).mono ?_; rintro e w5 ⟨v5, rfl, hR5, hb5⟩; obtain ⟨B0, e0, rfl⟩ := Kd.R_slice hR5; rw [List.length_replicate] at hR5 ⊢; have HB5 := Aside0.mk (below_step (below_alloc HB4.out _) hb5); have HR5 := Aside0.mk (Kd.R_lower hR5 (below_alloc HB4.out _).size); have HZ5 := Aside0.mk (blk_below (blk_alloc HZ4.out _) hb5); obtain ⟨y0, y1, y2, y3⟩ := cells25_ HZ5.out; obtain ⟨q0, q1, q2, q3⟩ := f25a HZ5.out; clear hb5 hR5))
  have hlr : (List.replicate N zero128).length = N := List.length_replicate
  have F := fin25 (S := List.replicate N zero128) (C := []) (A0 := B0) (c0 := e0) (A1 := none) (c1 := 0) (f := -1) (o := false) HZ5.out (by rw [hlr]; exact HR5.out) (Kd.R_nil _ _ _ _ _) HB5.out HG.out
  rw [hlr] at F
  refine bodyPost_ret (results_ct rfl _ _ gr 30 #[.slice B0 N e0, .slice none 0 0, .int .i64 (-1), .bool false] (0, 0) _ rfl F.1 Try.underlying30 rfl (by kernel_rfl)) rfl ?_
  exact ⟨_, _, rfl, F.2.1, F.2.2.1, F.2.2.2⟩
set_option maxHeartbeats 8000000 in
theorem Make_bad (n : Int) (h : n < 1 ∨ n > 1024) (w : World) :
    Calls Try.prog 6 #[.int .i64 n] w fun e w' => ∃ v0_ v1_ : Value, e = .returned (.tuple #[.agg #[v0_, v1_, .int .i64 0, .bool false], .int .i64 1]) ∧ Kd.R Kd.string 9 w' w.heap.size (fun _ => True) v0_ ([] : List ByteArray) ∧ Kd.R k61 61 w' w.heap.size (fun _ => True) v1_ ([] : List S61) ∧ Below w.heap.size w w' := by
  by_cases c : n < 1
  all_goals
    first | have k0 : decide (n < 1) = true := decide_eq_true c | have k0 : decide (n < 1) = false := decide_eq_false c
    first | have k1 : decide (1024 < n) = true := decide_eq_true (h.resolve_left c) | skip
    clear h c
    go_enter Try.func6, Try.ntmps6
    go_wp2_with (first
      | ((with_reducible refine gate_dst (N := 2) rfl ?_); refine box_event ?hg (N := 2) ?hd (cs := #[.slice none 0 0, .slice none 0 0, .int .i64 0, .bool false]) (t := 30) ?hr ?_; (case hd => rfl); (case hg => rfl); (case hr => first | (go_simp; done) | (go_simp; rfl)); intro gr hg w3 hbox hb3; have HG := Aside0.mk (by rw [hg]; exact Nat.le_refl _ : w.heap.size ≤ gr); have HZ := Aside0.mk hbox; have HB := Aside0.mk hb3; obtain ⟨y0, y1, y2, y3⟩ := cells25_ hbox; obtain ⟨q0, q1, q2, q3⟩ := f25a hbox; clear hg hbox hb3))
    have F := fin25 (S := []) (C := []) (A0 := none) (A1 := none) (c0 := 0) (c1 := 0) (f := 0) (o := false) HZ.out (Kd.R_nil _ _ _ _ _) (Kd.R_nil _ _ _ _ _) HB.out HG.out
    refine bodyPost_ret (results_ct rfl _ _ gr 30 #[.slice none 0 0, .slice none 0 0, .int .i64 0, .bool false] (0, 0) _ rfl F.1 Try.underlying30 rfl (by kernel_rfl)) rfl ?_
    exact ⟨_, _, rfl, F.2.1, F.2.2.1, F.2.2.2⟩
end
def disk_Make.f (a0 : Int) : Option (List ByteArray × (List (S61)) × Int × Bool × Int) := some (if a0 < 1 ∨ a0 > 1024 then ([], [], 0, false, 1) else (List.replicate a0.toNat zero128, [], -1, false, 0))
theorem disk_Make.calls (a0 : Int) (r1 : List ByteArray) (r2 : List (S61)) (r3 : Int) (r4 : Bool) (r5 : Int) (w : World) (h : disk_Make.f a0 = some (r1, r2, r3, r4, r5)) :
    Calls Try.prog 6 #[.int .i64 a0] w fun e w' => ∃ v0_ v1_ : Value, e = .returned (.tuple #[.agg #[v0_, v1_, .int .i64 r3, .bool r4], .int .i64 r5]) ∧ Kd.R Kd.string 9 w' w.heap.size (fun _ => True) v0_ r1 ∧ Kd.R k61 61 w' w.heap.size (fun _ => True) v1_ r2 ∧ Below w.heap.size w w' := by
  have h := Option.some.inj h
  by_cases c : a0 < 1 ∨ a0 > 1024
  · rw [if_pos c] at h
    cases h
    exact Make_bad a0 c w
  · rw [if_neg c] at h
    obtain ⟨n, rfl⟩ : ∃ n : Nat, a0 = n := ⟨a0.toNat, by omega⟩
    rw [Int.toNat_natCast] at h
    cases h
    exact Make_good n (by omega) (by omega) w


end Go.Proofs.Ytbeinlllhpcokaa.P
