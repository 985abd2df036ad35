import Derived.Test.YtnopihhconklnaaDoorEs2
import Derived.Test.YtnopihhconklnaaDoorEn14
/- Bytes: numbers, actions. -/
namespace Go.Sp
open Go Go.En
set_option maxRecDepth 100000 in
theorem or128 : ∀ x : Fin 256, (BitVec.ofNat 8 x.val ||| 128#8).toNat = x.val % 128 + 128 := by decide
theorem more_u8 {n : Int} : bitsOp .or .u8 (IntKind.u8.wrap n) 128 = n % 128 + 128 := by
  have e : IntKind.u8.wrap n = ((n % 256).toNat : Int) := by simp [IntKind.wrap, IntKind.bits, IntKind.signed]; omega
  rw [e]
  have hx := or128 ⟨(n % 256).toNat, by omega⟩
  show IntKind.u8.wrap ((BitVec.ofInt 8 ((n % 256).toNat : Int) ||| 128#8).toNat : Int) = _
  rw [BitVec.ofInt_natCast, hx]
  simp [IntKind.wrap, IntKind.bits, IntKind.signed]
  omega
def numB (n : Nat) : List UInt8 := if h : n < 128 then [UInt8.ofNat n] else UInt8.ofNat (n % 128 + 128) :: numB (n / 128)
  decreasing_by omega
theorem numB_lt {n : Int} (h : 0 ≤ n) (k : n < 128) : numB n.toNat = [UInt8.ofNat n.toNat] := by rw [numB, dif_pos (by omega)]
theorem numB_ge {n : Int} (k : 128 ≤ n) : numB n.toNat = UInt8.ofNat (n % 128 + 128).toNat :: numB (n / 128).toNat := by
  rw [numB, dif_neg (by omega), show (n % 128 + 128).toNat = n.toNat % 128 + 128 by omega, show (n / 128).toNat = n.toNat / 128 by omega]
def actB (a : Action) : List UInt8 := UInt8.ofNat a.kind.toNat :: if a.kind = 1 then numB a.iface.toNat else []
theorem numB_len {n : Nat} (h : n < 268435456) : (numB n).length ≤ 4 := by
  rw [numB]; split
  · simp
  · rw [numB]; split
    · simp
    · rw [numB]; split
      · simp
      · rw [numB, dif_pos (by omega)]; simp
theorem u64_id {n : Int} (h : 0 ≤ n) (k : n < 18446744073709551616) : IntKind.u64.wrap n = n := by simp [IntKind.wrap, IntKind.bits, IntKind.signed]; omega
theorem rightAct_spec {a : Action} (h : rightAct a = true) : 1 ≤ a.kind ∧ a.kind ≤ 3 ∧ 0 ≤ a.iface ∧ a.iface ≤ 65536 := by
  simp [rightAct, rightIface] at h
  omega
end Go.Sp
namespace Go.Proofs.YtnopihhconklnaaDoor.S
open Go Go.En Go.Sp Go.Proofs Go.Proofs.YtnopihhconklnaaDoor.T
set_option maxRecDepth 10000
set_option linter.unusedSimpArgs false
set_option linter.unusedVariables false
set_option maxHeartbeats 1000000
theorem num_Add (l : List UInt8) (m : Int) (h : 0 ≤ m) (hl : (l ++ numB m.toNat).length ≤ 140737488355328) : PH Tryd.prog 87 [.c (.own 0 0 0 l.length), VI .u64 m] [⟨5, 1, 0, BY l⟩] (.c (.own 0 1 0 (l ++ numB m.toNat).length)) [⟨5, 1, 1, BY (l ++ numB m.toNat)⟩] := by
  refine ph_of 100 Tryd.func87 rfl (ev_ ?_)
  refine loop_st (σ := Int × List UInt8 × Nat) 100 (fun x => [(0, .c (.own 0 x.2.2 0 x.2.1.length)), (1, VI .u64 x.1)]) (fun x => [⟨5, 1, x.2.2, BY x.2.1⟩]) (fun x => 0 ≤ x.1 ∧ l ++ numB m.toNat = x.2.1 ++ numB x.1.toNat) (fun x => x.1.toNat) (m, l, 0) ⟨h, rfl⟩ wk (fun _ _ => Nat.le_refl _) ?_
  rintro ⟨n, a, v⟩ Q' ⟨h0, hs⟩ hn hx hr
  simp only at h0 hs
  have hlen := congrArg List.length hs
  refine ev_ (br_d (fun hil => ?_) (fun hil => ?_))
  · have e1 : n.fdiv 128 = n / 128 := Int.fdiv_eq_ediv_of_nonneg _ (by omega)
    rw [numB_ge hil] at hs hlen
    simp only [List.length_append, List.length_cons] at hlen hl
    rw [more_u8, BY_app _ _ (by omega) (by omega), e1]
    have e2 : a.length + 1 = (a ++ [UInt8.ofNat (n % 128 + 128).toNat]).length := by simp
    rw [e2]
    refine ⟨⟨by simp, by simp only [List.length_append, List.length_cons, List.length_nil]; omega⟩, hn (n / 128, a ++ [UInt8.ofNat (n % 128 + 128).toNat], v + 1) _ _ wk ⟨by simp only; omega, by rw [hs]; simp⟩ (by simp only; omega)⟩
  · refine hx 0 _ _ _ rfl (ev_ ?_)
    have e : IntKind.u8.wrap n = n := by simp [IntKind.wrap, IntKind.bits, IntKind.signed]; omega
    rw [numB_lt h0 (by omega)] at hs hlen
    simp only [List.length_append, List.length_cons, List.length_nil] at hlen hl
    rw [e, BY_app _ _ (by omega) (by omega), hs]
    refine ⟨⟨by simp, by omega⟩, endH [(0, v)] (ev_ ?_)⟩
    simp
    omega
theorem msg_action (k i : Int) (h : rightAct ⟨k, i⟩ = true) : PH Tryd.prog 83 [.c .e0, .agg [.v (.int .u8 k), .v (.int .i64 i)]] [] (.c (.own 0 0 0 (actB ⟨k, i⟩).length)) [⟨5, 1, 0, BY (actB ⟨k, i⟩)⟩] := by
  obtain ⟨h1, h2, h3, h4⟩ := rightAct_spec h
  refine ph_of 100 Tryd.func83 rfl (ev_ ?_)
  refine ⟨by simp, br_i (fun hk => ?_) (fun hk => ?_)⟩
  · have hk : k = 1 := by simpa using hk
    simp only at h1 h2 h3 h4
    have e : actB ⟨k, i⟩ = [UInt8.ofNat k.toNat] ++ numB i.toNat := by simp [actB, hk]
    have hl := numB_len (n := i.toNat) (by omega)
    rw [BY_one k (by omega) (by omega), u64_id h3 (by omega), e]
    refine callF [(2, 0)] (ev_ ?_)
    refine hN 100 (num_Add [UInt8.ofNat k.toNat] i h3 (by simp; omega)) (ev_ ?_)
    refine endH [(2, 1)] (ev_ ?_)
    trivial
  · have hk : ¬ k = 1 := by simpa using hk
    simp only at h1 h2 h3 h4
    have e : actB ⟨k, i⟩ = [UInt8.ofNat k.toNat] := by simp [actB, hk]
    rw [BY_one k (by omega) (by omega), e]
    refine endH [(2, 0)] (ev_ ?_)
    trivial
instance msg_PutAction (k i : Int) : PSi Tryd.prog 70 [.agg [.v (.int .u8 k), .v (.int .i64 i)]] (.tup [VS (if rightAct ⟨k, i⟩ then ⟨(actB ⟨k, i⟩).toArray⟩ else .empty), VI .i64 (why (rightAct ⟨k, i⟩))]) := ⟨by
  refine ps_of 100 Tryd.func70 rfl (ev_ ?_)
  refine callI 100 (ev_ ?_)
  refine br_i (fun h => ?_) (fun h => ?_)
  · refine callF0 (ev_ ?_)
    refine hN 100 (msg_action k i h) (ev_ ?_)
    refine byt 100 _ rfl (ev_ ?_)
    simp [h, why]
  · simp [h, why]
    rfl⟩
end Go.Proofs.YtnopihhconklnaaDoor.S
