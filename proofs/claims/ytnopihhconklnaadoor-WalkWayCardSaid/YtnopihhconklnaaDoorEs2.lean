import Derived.Test.YtnopihhconklnaaDoorEs1
/- Small functions: comparisons, addresses, links, actions. -/
namespace Go.Proofs.YtnopihhconklnaaDoor.S
open Go Go.En Go.Sp Go.Proofs Go.Proofs.YtnopihhconklnaaDoor.T
set_option maxRecDepth 10000
set_option linter.unusedSimpArgs false
set_option linter.unusedVariables false
set_option maxHeartbeats 1000000
instance cmp_isNaN_int (a : Int) : PSi Tryd.prog 62 [VI .i64 a] (VB false) := ⟨by
  refine ps_of 100 Tryd.func62 rfl (ev_ ?_)
  repeat' (first | trivial | refine callI 100 (ev_ ?_) | refine br_d (fun _ => ?_) (fun _ => ?_) | refine br_i (fun _ => ?_) (fun _ => ?_))
  all_goals (simp only [V.c.injEq, C.v.injEq, Value.bool.injEq, Value.int.injEq, true_and]; grind)⟩
instance cmp_isNaN_u64 (a : Int) : PSi Tryd.prog 89 [VI .u64 a] (VB false) := ⟨by
  refine ps_of 100 Tryd.func89 rfl (ev_ ?_)
  repeat' (first | trivial | refine callI 100 (ev_ ?_) | refine br_d (fun _ => ?_) (fun _ => ?_) | refine br_i (fun _ => ?_) (fun _ => ?_))
  all_goals (simp only [V.c.injEq, C.v.injEq, Value.bool.injEq, Value.int.injEq, true_and]; grind)⟩
instance cmp_Compare_int (a b : Int) : PSi Tryd.prog 51 [VI .i64 a, VI .i64 b] (VI .i64 (cmpI a b)) := ⟨by
  refine ps_of 100 Tryd.func51 rfl (ev_ ?_)
  repeat' (first | trivial | refine callI 100 (ev_ ?_) | refine br_d (fun _ => ?_) (fun _ => ?_) | refine br_i (fun _ => ?_) (fun _ => ?_))
  all_goals (simp only [V.c.injEq, C.v.injEq, Value.bool.injEq, Value.int.injEq, true_and, cmpI]; grind)⟩
instance cmp_Compare_u64 (a b : Int) : PSi Tryd.prog 85 [VI .u64 a, VI .u64 b] (VI .i64 (cmpI a b)) := ⟨by
  refine ps_of 100 Tryd.func85 rfl (ev_ ?_)
  repeat' (first | trivial | refine callI 100 (ev_ ?_) | refine br_d (fun _ => ?_) (fun _ => ?_) | refine br_i (fun _ => ?_) (fun _ => ?_))
  all_goals (simp only [V.c.injEq, C.v.injEq, Value.bool.injEq, Value.int.injEq, true_and, cmpI]; grind)⟩
instance addr_Wide (b : Bool) : PSi Tryd.prog 77 [VB b] (VI .i64 (wide b)) := ⟨by
  refine ps_of 100 Tryd.func77 rfl (ev_ ?_)
  repeat' (first | trivial | refine callI 100 (ev_ ?_) | refine br_d (fun _ => ?_) (fun _ => ?_) | refine br_i (fun _ => ?_) (fun _ => ?_))
  all_goals (simp only [V.c.injEq, C.v.injEq, Value.bool.injEq, Value.int.injEq, true_and, wide]; grind)⟩
instance ref09_Wide (b : Bool) : PSi Tryd.prog 80 [VB b] (VI .i64 (wide b)) := ⟨by
  refine ps_of 100 Tryd.func80 rfl (ev_ ?_)
  repeat' (first | trivial | refine callI 100 (ev_ ?_) | refine br_d (fun _ => ?_) (fun _ => ?_) | refine br_i (fun _ => ?_) (fun _ => ?_))
  all_goals (simp only [V.c.injEq, C.v.injEq, Value.bool.injEq, Value.int.injEq, true_and, wide]; grind)⟩
instance addr_Right (b : Bool) (x y : Int) : PSi Tryd.prog 28 [VB b, .agg [.v (.int .u64 x), .v (.int .u64 y)]] (VB (rightAddr b ⟨x, y⟩)) := ⟨by
  refine ps_of 100 Tryd.func28 rfl (ev_ ?_)
  repeat' (first | trivial | refine callI 100 (ev_ ?_) | refine br_d (fun _ => ?_) (fun _ => ?_) | refine br_i (fun _ => ?_) (fun _ => ?_))
  all_goals (simp only [V.c.injEq, C.v.injEq, Value.bool.injEq, Value.int.injEq, true_and, rightAddr]; grind)⟩
instance ref09_Right (b : Bool) (x y : Int) : PSi Tryd.prog 19 [VB b, .agg [.v (.int .u64 x), .v (.int .u64 y)]] (VB (rightAddrR b ⟨x, y⟩)) := ⟨by
  refine ps_of 100 Tryd.func19 rfl (ev_ ?_)
  repeat' (first | trivial | refine callI 100 (ev_ ?_) | refine br_d (fun _ => ?_) (fun _ => ?_) | refine br_i (fun _ => ?_) (fun _ => ?_))
  all_goals (simp only [V.c.injEq, C.v.injEq, Value.bool.injEq, Value.int.injEq, true_and, rightAddrR]; grind)⟩
instance trie_kind (b : Bool) (x y n : Int) : PSi Tryd.prog 73 [.agg [.v (.bool b), .v (.int .u64 x), .v (.int .u64 y), .v (.int .i64 n)]] (VI .i64 (kindP ⟨b, ⟨x, y⟩, n⟩)) := ⟨by
  refine ps_of 100 Tryd.func73 rfl (ev_ ?_)
  repeat' (first | trivial | refine callI 100 (ev_ ?_) | refine br_d (fun _ => ?_) (fun _ => ?_) | refine br_i (fun _ => ?_) (fun _ => ?_))
  all_goals (simp only [V.c.injEq, C.v.injEq, Value.bool.injEq, Value.int.injEq, true_and, kindP]; grind)⟩
instance ref09_Cmp (x y z u : Int) : PSi Tryd.prog 68 [.agg [.v (.int .u64 x), .v (.int .u64 y)], .agg [.v (.int .u64 z), .v (.int .u64 u)]] (VI .i64 (cmpA ⟨x, y⟩ ⟨z, u⟩)) := ⟨by
  refine ps_of 100 Tryd.func68 rfl (ev_ ?_)
  repeat' (first | trivial | refine callI 100 (ev_ ?_) | refine br_d (fun _ => ?_) (fun _ => ?_) | refine br_i (fun _ => ?_) (fun _ => ?_))
  all_goals (simp only [V.c.injEq, C.v.injEq, Value.bool.injEq, Value.int.injEq, true_and, cmpA, cmpI]; grind)⟩
instance links_right (a b : Int) : PSi Tryd.prog 61 [.agg [.v (.int .i64 a), .v (.int .i64 b)]] (VB (rightLink ⟨a, b⟩)) := ⟨by
  refine ps_of 100 Tryd.func61 rfl (ev_ ?_)
  repeat' (first | trivial | refine callI 100 (ev_ ?_) | refine br_d (fun _ => ?_) (fun _ => ?_) | refine br_i (fun _ => ?_) (fun _ => ?_))
  all_goals (simp only [V.c.injEq, C.v.injEq, Value.bool.injEq, Value.int.injEq, true_and, rightLink, rightIface, rightId]; grind)⟩
instance ref16_one (a b : Int) : PSi Tryd.prog 57 [.agg [.v (.int .i64 a), .v (.int .i64 b)]] (VB (rightLink ⟨a, b⟩)) := ⟨by
  refine ps_of 100 Tryd.func57 rfl (ev_ ?_)
  repeat' (first | trivial | refine callI 100 (ev_ ?_) | refine br_d (fun _ => ?_) (fun _ => ?_) | refine br_i (fun _ => ?_) (fun _ => ?_))
  all_goals (simp only [V.c.injEq, C.v.injEq, Value.bool.injEq, Value.int.injEq, true_and, rightLink, rightIface, rightId]; grind)⟩
instance fib_id (a : Int) : PSi Tryd.prog 46 [VI .i64 a] (VB (rightId a)) := ⟨by
  refine ps_of 100 Tryd.func46 rfl (ev_ ?_)
  repeat' (first | trivial | refine callI 100 (ev_ ?_) | refine br_d (fun _ => ?_) (fun _ => ?_) | refine br_i (fun _ => ?_) (fun _ => ?_))
  all_goals (simp only [V.c.injEq, C.v.injEq, Value.bool.injEq, Value.int.injEq, true_and, rightId]; grind)⟩
instance msg_iface (a : Int) : PSi Tryd.prog 86 [VI .i64 a] (VB (rightIface a)) := ⟨by
  refine ps_of 100 Tryd.func86 rfl (ev_ ?_)
  repeat' (first | trivial | refine callI 100 (ev_ ?_) | refine br_d (fun _ => ?_) (fun _ => ?_) | refine br_i (fun _ => ?_) (fun _ => ?_))
  all_goals (simp only [V.c.injEq, C.v.injEq, Value.bool.injEq, Value.int.injEq, true_and, rightIface]; grind)⟩
instance msg_acts (a b : Int) : PSi Tryd.prog 82 [.agg [.v (.int .u8 a), .v (.int .i64 b)]] (VB (rightAct ⟨a, b⟩)) := ⟨by
  refine ps_of 100 Tryd.func82 rfl (ev_ ?_)
  repeat' (first | trivial | refine callI 100 (ev_ ?_) | refine br_d (fun _ => ?_) (fun _ => ?_) | refine br_i (fun _ => ?_) (fun _ => ?_))
  all_goals (simp only [V.c.injEq, C.v.injEq, Value.bool.injEq, Value.int.injEq, true_and, rightAct]; grind)⟩
instance ref11_Acts (a b : Int) : PSi Tryd.prog 67 [.agg [.v (.int .u8 a), .v (.int .i64 b)]] (VB (rightAct ⟨a, b⟩)) := ⟨by
  refine ps_of 100 Tryd.func67 rfl (ev_ ?_)
  repeat' (first | trivial | refine callI 100 (ev_ ?_) | refine br_d (fun _ => ?_) (fun _ => ?_) | refine br_i (fun _ => ?_) (fun _ => ?_))
  all_goals (simp only [V.c.injEq, C.v.injEq, Value.bool.injEq, Value.int.injEq, true_and, rightAct, rightIface]; grind)⟩
instance ref15_Less (b : Bool) (x y n : Int) (b' : Bool) (x' y' n' : Int) : PSi Tryd.prog 56 [.agg [.v (.bool b), .v (.int .u64 x), .v (.int .u64 y), .v (.int .i64 n)], .agg [.v (.bool b'), .v (.int .u64 x'), .v (.int .u64 y'), .v (.int .i64 n')]] (VB (lessP ⟨b, ⟨x, y⟩, n⟩ ⟨b', ⟨x', y'⟩, n'⟩)) := ⟨by
  refine ps_of 100 Tryd.func56 rfl (ev_ ?_)
  repeat' (first | trivial | refine callI 100 (ev_ ?_) | refine br_d (fun _ => ?_) (fun _ => ?_) | refine br_i (fun _ => ?_) (fun _ => ?_))
  all_goals (simp only [V.c.injEq, C.v.injEq, Value.bool.injEq, Value.int.injEq, true_and, lessP, cmpP, kindP, cmpI]; grind)⟩
end Go.Proofs.YtnopihhconklnaaDoor.S
