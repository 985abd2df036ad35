import Derived.Test.YtnopihhconklnaaDoorEs5
/- Addresses, prefixes, routes, links, routers, nets: the document's tests. -/
namespace Go.Sp
open Go Go.En
/-- a row of which the first k elements are not yet set. -/
def padE (z : List C) (k : Nat) (acc : List (List C)) : List (List C) := List.replicate k z ++ acc
theorem padE_get (z : List C) (k : Nat) (acc : List (List C)) : (padE z (k + 1) acc)[k]? = some z := by
  unfold padE
  rw [List.getElem?_append_left (by simp)]
  simp
theorem padE_set (z : List C) (k : Nat) (acc : List (List C)) (x : List C) : (padE z (k + 1) acc).set k x = padE z k (x :: acc) := by
  unfold padE
  rw [List.replicate_succ', List.append_assoc, List.set_append_right _ _ (by simp)]
  simp
theorem padE_zero (z : List C) (acc : List (List C)) : padE z 0 acc = acc := rfl
theorem padE_len (z : List C) (k : Nat) (acc : List (List C)) : (padE z k acc).length = k + acc.length := by simp [padE]
theorem padE_lt (n : Nat) (x : Value) (k : Nat) (acc : List (List C)) : esLt n (padE [.v x] k acc) = esLt n acc := by
  unfold padE
  rw [esLt_app]
  refine propext ⟨fun h => h.2, fun h => ⟨fun e he c hc => ?_, h⟩⟩
  rw [(List.mem_replicate.1 he).2] at hc
  simp at hc
  subst hc
  rfl
theorem encI_lt (n : Nat) (l : List Int) : esLt n (l.map encI) = True := esLt_map (fun _ => rfl) l
attribute [go_sem] padE_lt encI_lt
attribute [go_sem] padE_get padE_set
/-- the bits of an address, from its last one on. -/
def bitsGo : Nat → Int → Int → List Int → List Int
  | 0, _, _, acc => acc
  | k + 1, lo, hi, acc => bitsGo k (IntKind.u64.wrap (IntKind.u64.wrap (lo.tdiv 2) + IntKind.u64.wrap (hi.tmod 2 * 9223372036854775808))) (IntKind.u64.wrap (hi.tdiv 2)) (IntKind.i64.wrap (lo.tmod 2) :: acc)
def bitsA (b : Bool) (a : Addr) : List Int := bitsGo (wide b).toNat a.lo a.hi []
theorem wide_le (b : Bool) : 0 ≤ wide b ∧ wide b ≤ 128 := by unfold wide; split <;> omega
theorem bitsGo_len : ∀ (k : Nat) (lo hi : Int) (acc : List Int), (bitsGo k lo hi acc).length = k + acc.length
  | 0, _, _, _ => by simp [bitsGo]
  | k + 1, _, _, _ => by rw [bitsGo, bitsGo_len k]; simp; omega
theorem bitsA_len (b : Bool) (a : Addr) : (bitsA b a).length = (wide b).toNat := by simp [bitsA, bitsGo_len]
end Go.Sp
namespace Go.Proofs.YtnopihhconklnaaDoor.S
open Go Go.En Go.Sp Go.Proofs Go.Proofs.YtnopihhconklnaaDoor.T
set_option maxRecDepth 10000
set_option linter.unusedSimpArgs false
set_option linter.unusedVariables false
set_option maxHeartbeats 1000000
instance ref09_bits (b : Bool) (x y : Int) : PSi Tryd.prog 81 [VB b, .agg [.v (.int .u64 x), .v (.int .u64 y)]] (.c (.row ((bitsA b ⟨x, y⟩).map encI))) := ⟨by
  obtain ⟨w1, w2⟩ := wide_le b
  refine ps_of 100 Tryd.func81 rfl (ev_ ?_)
  refine callI 100 (ev_ ?_)
  refine ⟨by omega, ?_⟩
  have e0 : List.replicate (wide b).toNat [C.v (.int .i64 0)] = padE (encI 0) (wide b).toNat (([] : List Int).map encI) := by simp [padE, encI]
  rw [e0]
  have el : ((wide b).toNat : Int) = wide b := by omega
  refine draw 100 (by kernel_rfl) (List.range 6) (by kernel_rfl) (ev_ ?_)
  simp only [i64In]
  refine ⟨by omega, ?_⟩
  refine loop_st (σ := Nat × Int × Int × List Int) 100 (fun s => [(8, VI .i64 ((s.1 : Int) - 1)), (7, VI .u64 s.2.2.1), (6, VI .u64 s.2.1), (5, .c (.own 1 0 0 (wide b).toNat))]) (fun s => [⟨28, 2, 0, [[.v (.int .u64 x), .v (.int .u64 y)]]⟩, ⟨3, 1, 0, padE (encI 0) s.1 (s.2.2.2.map encI)⟩]) (fun s => s.1 ≤ (wide b).toNat ∧ s.1 + s.2.2.2.length = (wide b).toNat ∧ bitsA b ⟨x, y⟩ = bitsGo s.1 s.2.1 s.2.2.1 s.2.2.2) (fun s => s.1) ((wide b).toNat, y, x, []) ⟨Nat.le_refl _, by simp, rfl⟩ wk (fun _ _ => Nat.le_refl _) ?_
  rintro ⟨k, lo, hi, acc⟩ Q' ⟨hk, hkl, hs⟩ hn hx hr
  simp only at hk hkl hs
  cases k with
  | zero =>
    have e1 : (((0 : Nat) : Int) - 1) = -1 := by omega
    simp only [e1]
    refine ev_ ?_
    refine hx 0 _ _ _ rfl (ev_ ?_)
    have hl : (wide b).toNat = (acc.map encI).length := by rw [List.length_map]; omega
    rw [hs, bitsGo, padE_zero, hl, List.take_of_length_le (Nat.le_refl _)]
    simp [encI, isD, nrm, Function.comp_def]
  | succ k =>
    have e1 : (((k + 1 : Nat) : Int) - 1) = (k : Int) := by omega
    simp only [e1]
    refine ev_ ?_
    refine br_d (fun _ => ?_) (fun h => absurd h (by omega))
    simp only [i64In]
    refine ⟨by omega, by omega, hn (k, IntKind.u64.wrap (IntKind.u64.wrap (lo.tdiv 2) + IntKind.u64.wrap (hi.tmod 2 * 9223372036854775808)), IntKind.u64.wrap (hi.tdiv 2), IntKind.i64.wrap (lo.tmod 2) :: acc) _ _ wk ⟨by simp only; omega, ?_, by rw [hs]; rfl⟩ (by simp only; omega)⟩
    simp only [List.length_cons]
    omega⟩
end Go.Proofs.YtnopihhconklnaaDoor.S
