import Derived.Test.YtnopihhconklnaaDoorEs3
/- Addresses, prefixes: the program's tests. -/
namespace Go.Sp
open Go Go.En
def encI (n : Int) : List C := [.v (.int .i64 n)]
attribute [go_sem] encI
/-- the first of these that is not 0. -/
def firstI : List Int → Int
  | [] => 0
  | n :: r => if n = 0 then firstI r else n
theorem firstI_drop {l : List Int} {i : Nat} (h : i < l.length) : firstI (l.drop i) = if l[i] = 0 then firstI (l.drop (i + 1)) else l[i] := by rw [List.drop_eq_getElem_cons h]; rfl
def u64m : Int := 18446744073709551615
def belowP (n : Int) : Addr := if 128 ≤ n then ⟨18446744073709551615, 18446744073709551615⟩ else if 64 ≤ n then ⟨IntKind.u64.wrap (IntKind.u64.wrap (1 * 2 ^ min (n - 64).toNat 64) - 1), 18446744073709551615⟩ else ⟨0, IntKind.u64.wrap (IntKind.u64.wrap (1 * 2 ^ min n.toNat 64) - 1)⟩
def hostP (p : Prefix) : Addr := belowP (wide p.six - p.len)
def prefOk (p : Prefix) : Bool := !(decide (p.len < 0) || decide (wide p.six < p.len) || !rightAddr p.six p.addr) && bitsOp .or .u64 (bitsOp .and .u64 p.addr.hi (hostP p).hi) (bitsOp .and .u64 p.addr.lo (hostP p).lo) == 0
end Go.Sp
namespace Go.Proofs.YtnopihhconklnaaDoor.S
open Go Go.En Go.Sp Go.Proofs Go.Proofs.YtnopihhconklnaaDoor.T
set_option maxRecDepth 10000
set_option linter.unusedSimpArgs false
set_option linter.unusedVariables false
set_option maxHeartbeats 1000000
theorem cmp_Or_int (l : List Int) (hl : l.length < 1000) : PS Tryd.prog 72 [.c (.row (l.map encI))] (VI .i64 (firstI l)) := by
  refine ps_of 100 Tryd.func72 rfl (ev_ ?_)
  refine loop_st (σ := Nat) 100 (fun x => [(8, VI .i64 x), (7, VI .i64 l.length), (6, .c (.row (l.map encI))), (3, VI .i64 0)]) (fun _ => []) (fun x => x ≤ l.length ∧ firstI l = firstI (l.drop x)) (fun x => l.length - x) 0 ⟨by omega, rfl⟩ wk (fun _ _ => Nat.le_refl _) ?_
  rintro i Q' ⟨hi, hs⟩ hn hx hr
  refine ev_ (br_d (fun hil => ?_) (fun hil => ?_))
  · have hil' : i < l.length := by omega
    rw [firstI_drop hil'] at hs
    refine idx_map (x := l[i]) 100 (by simp [hil']) (by omega) rfl (ev_ ?_)
    generalize l[i] = x at *
    refine br_i (fun hok => ?_) (fun hok => ?_)
    · refine hr _ _ (ev_ ?_)
      simp_all
    · simp only [i64In]
      refine ⟨by omega, hn (i + 1) _ _ wk ⟨by omega, by simp_all⟩ (by omega)⟩
  · refine hx 0 _ _ _ rfl (ev_ ?_)
    rw [List.drop_eq_nil_of_le (by omega)] at hs
    simp [hs, firstI]
theorem cmp_Or_int2 (a b : Int) : PS Tryd.prog 72 [.c (.row [[.v (.int .i64 a)], [.v (.int .i64 b)]])] (VI .i64 (if a = 0 then b else a)) := by
  have := cmp_Or_int [a, b] (by simp)
  have e : firstI [a, b] = if a = 0 then b else a := by simp only [firstI]; split <;> simp_all
  rw [e] at this
  exact this
theorem cmp_Or_int3 (a b c : Int) : PS Tryd.prog 72 [.c (.row [[.v (.int .i64 a)], [.v (.int .i64 b)], [.v (.int .i64 c)]])] (VI .i64 (if a = 0 then (if b = 0 then c else b) else a)) := by
  have := cmp_Or_int [a, b, c] (by simp)
  have e : firstI [a, b, c] = if a = 0 then (if b = 0 then c else b) else a := by simp only [firstI]; repeat' split <;> simp_all
  rw [e] at this
  exact this
instance addr_Cmp (x y z u : Int) : PSi Tryd.prog 74 [.agg [.v (.int .u64 x), .v (.int .u64 y)], .agg [.v (.int .u64 z), .v (.int .u64 u)]] (VI .i64 (cmpA ⟨x, y⟩ ⟨z, u⟩)) := ⟨by
  refine ps_of 100 Tryd.func74 rfl (ev_ ?_)
  refine draw 100 (by kernel_rfl) [0,1,2,3,5,6,7,8,4,9,10,11,12] (by kernel_rfl) (ev_ ?_)
  refine callI 100 (ev_ ?_)
  refine callI 100 (ev_ ?_)
  refine callS 100 rfl ?_ rfl (cmp_Or_int2 _ _) (ev_ ?_)
  · simp [isD]
  simp [cmpA]⟩
theorem addr_below (n : Int) (h : 0 ≤ n) : PS Tryd.prog 88 [VI .i64 n] (.agg (belowP n).enc) := by
  refine ps_of 100 Tryd.func88 rfl (ev_ ?_)
  refine br_d (fun h1 => ?_) (fun h1 => ?_)
  · simp [belowP, h1]
  refine br_d (fun h2 => ?_) (fun h2 => ?_)
  · simp [belowP, h1, h2, i64In]
    refine ⟨by omega, ?_⟩
    congr 4
    split <;> omega
  · simp [belowP, h1, h2, i64In]
    refine ⟨by omega, ?_⟩
    congr 4
    split <;> omega
theorem addr_host (p : Prefix) (h : 0 ≤ wide p.six - p.len) (h' : 0 ≤ p.len) : PS Tryd.prog 84 [.agg p.enc] (.agg (hostP p).enc) := by
  refine ps_of 100 Tryd.func84 rfl (ev_ ?_)
  refine draw 100 (by kernel_rfl) [0,1,3,4,2,5,6,7] (by kernel_rfl) (ev_ ?_)
  refine callI 100 (ev_ ?_)
  have hw : wide p.six ≤ 128 := by unfold wide; split <;> omega
  simp only [i64In]
  refine ⟨by omega, callN 100 (addr_below _ h) (ev_ ?_)⟩
  simp [hostP]
instance addr_Check (b : Bool) (x y n : Int) : PSi Tryd.prog 71 [.agg [.v (.bool b), .v (.int .u64 x), .v (.int .u64 y), .v (.int .i64 n)]] (VI .i64 (why (prefOk ⟨b, ⟨x, y⟩, n⟩))) := ⟨by
  refine ps_of 100 Tryd.func71 rfl (ev_ ?_)
  refine draw 100 (by kernel_rfl) [0,1,2,3,4,5,6,7,8,9,10,11,12,13,14,15,16,17,18] (by kernel_rfl) (ev_ ?_)
  refine br_d (fun h1 => ?_) (fun h1 => ?_)
  · simp [why, prefOk, h1]
  refine callI 100 (ev_ ?_)
  refine br_d (fun h2 => ?_) (fun h2 => ?_)
  · simp [why, prefOk, h2]
  refine callI 100 (ev_ ?_)
  refine br_i (fun h3 => ?_) (fun h3 => ?_)
  · refine callN 100 (addr_host ⟨b, ⟨x, y⟩, n⟩ (by simp only; omega) (by simp only; omega)) (ev_ ?_)
    refine br_i (fun h4 => ?_) (fun h4 => ?_)
    · simp_all [why, prefOk]
    · simp_all [why, prefOk]
  · simp [why, prefOk, h3]⟩
end Go.Proofs.YtnopihhconklnaaDoor.S
