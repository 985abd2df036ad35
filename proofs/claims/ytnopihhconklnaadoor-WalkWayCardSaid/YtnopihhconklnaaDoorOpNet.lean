/- A net, an address: how they come in. -/
import Derived.Test.YtnopihhconklnaaDoorOpenM
import Derived.Test.YtnopihhconklnaaDoorEp3
set_option linter.unusedSimpArgs false
namespace Go.Proofs.YtnopihhconklnaaDoor.O
open Go Go.En Go.Sp Go.Proofs
set_option linter.unusedVariables false
theorem u64_wf {n : Int} (h : (Lit.int .u64 n).wf = true) : 0 ≤ n ∧ n < 18446744073709551616 := by
  have e1 : IntKind.u64.min = 0 := rfl
  have e2 : IntKind.u64.max = 18446744073709551615 := rfl
  simp [Lit.wf, e1, e2] at h
  omega
theorem opm_Addr : OpM Tryd.prog 28 Sp.Addr.enc Sp.Addr.wf :=
  opm_struct Tryd.underlying28 (fs := _) (OpMAt.cons (s0 := 1) (opm_int (k := .u64) (by kernel_rfl)) rfl (by kernel_rfl) (OpMAt.one (sz := 1) (opm_int (k := .u64) (by kernel_rfl)) rfl (by kernel_rfl))) (by kernel_rfl)
    (fun x => (⟨x.1, x.2⟩ : Sp.Addr)) (fun _ => rfl) (fun x h => ⟨(u64_wf h.1).1, (u64_wf h.1).2, (u64_wf h.2).1, (u64_wf h.2).2⟩)
theorem opm_Prefix : OpM Tryd.prog 83 Prefix.enc (fun p => p.addr.wf) :=
  opm_struct Tryd.underlying83 (fs := _) (OpMAt.cons (s0 := 1) (opm_bool (by kernel_rfl)) rfl (by kernel_rfl) (OpMAt.cons (s0 := 2) opm_Addr rfl (by kernel_rfl) (OpMAt.one (sz := 1) (opm_int (k := .i64) (by kernel_rfl)) rfl (by kernel_rfl)))) (by kernel_rfl)
    (fun x => (⟨x.1, x.2.1, x.2.2⟩ : Prefix)) (fun _ => rfl) (fun x h => h.2.1)
theorem opm_Action : OpM Tryd.prog 81 Action.enc (fun _ => True) :=
  opm_struct Tryd.underlying81 (fs := _) (OpMAt.cons (s0 := 1) (opm_int (k := .u8) (by kernel_rfl)) rfl (by kernel_rfl) (OpMAt.one (sz := 1) (opm_int (k := .i64) (by kernel_rfl)) rfl (by kernel_rfl))) (by kernel_rfl)
    (fun x => (⟨x.1, x.2⟩ : Action)) (fun _ => rfl) (fun _ _ => trivial)
theorem opm_Route : OpM Tryd.prog 85 Route.enc (fun r => r.pre.addr.wf) :=
  opm_struct Tryd.underlying85 (fs := _) (OpMAt.cons (s0 := 4) opm_Prefix rfl (by kernel_rfl) (OpMAt.one (sz := 2) opm_Action rfl (by kernel_rfl))) (by kernel_rfl)
    (fun x => (⟨x.1, x.2⟩ : Route)) (fun _ => rfl) (fun x h => h.1)
theorem opm_Link : OpM Tryd.prog 87 Link.enc (fun _ => True) :=
  opm_struct Tryd.underlying87 (fs := _) (OpMAt.cons (s0 := 1) (opm_int (k := .i64) (by kernel_rfl)) rfl (by kernel_rfl) (OpMAt.one (sz := 1) (opm_int (k := .i64) (by kernel_rfl)) rfl (by kernel_rfl))) (by kernel_rfl)
    (fun x => (⟨x.1, x.2⟩ : Link)) (fun _ => rfl) (fun _ _ => trivial)
theorem opm_Router : OpM Tryd.prog 64 Router.enc (fun r => r.sm ∧ ∀ x ∈ r.routes, x.pre.addr.wf) :=
  opm_struct Tryd.underlying64 (fs := _) (OpMAt.cons (s0 := 1) (opm_int (k := .i64) (by kernel_rfl)) rfl (by kernel_rfl) (OpMAt.cons (s0 := 1) (opm_bool (by kernel_rfl)) rfl (by kernel_rfl)
    (OpMAt.cons (s0 := 1) (opm_slice (e := 85) (B := 48) (by kernel_rfl) (by kernel_rfl) opm_Route) rfl (by kernel_rfl) (OpMAt.one (sz := 1) (opm_slice (e := 87) (B := 16) (by kernel_rfl) (by kernel_rfl) opm_Link) rfl (by kernel_rfl))))) (by kernel_rfl)
    (fun x => (⟨x.1, x.2.1, x.2.2.1, x.2.2.2⟩ : Router)) (fun _ => rfl) (fun x h => ⟨⟨by have := h.2.2.1.1; simp only [big]; omega, by have := h.2.2.2.1; simp only [big]; omega⟩, h.2.2.1.2⟩)
theorem opm_Seat : OpM Tryd.prog 67 Seat.enc (fun _ => True) :=
  opm_struct Tryd.underlying67 (fs := _) (OpMAt.cons (s0 := 1) (opm_int (k := .i64) (by kernel_rfl)) rfl (by kernel_rfl) (OpMAt.cons (s0 := 1) (opm_int (k := .u64) (by kernel_rfl)) rfl (by kernel_rfl)
    (OpMAt.cons (s0 := 1) (opm_int (k := .i64) (by kernel_rfl)) rfl (by kernel_rfl) (OpMAt.one (sz := 1) (opm_bool (by kernel_rfl)) rfl (by kernel_rfl))))) (by kernel_rfl)
    (fun x => (⟨x.1, x.2.1, x.2.2.1, x.2.2.2⟩ : Seat)) (fun _ => rfl) (fun _ _ => trivial)
theorem opm_Net : OpM Tryd.prog 25 Net.enc (fun n => n.sm ∧ n.wf) :=
  opm_struct Tryd.underlying25 (fs := _) (OpMAt.cons (s0 := 1) (opm_slice (e := 67) (B := 32) (by kernel_rfl) (by kernel_rfl) opm_Seat) rfl (by kernel_rfl)
    (OpMAt.one (sz := 1) (opm_slice (e := 64) (B := 64) (by kernel_rfl) (by kernel_rfl) opm_Router) rfl (by kernel_rfl))) (by kernel_rfl)
    (fun x => (⟨x.1, x.2⟩ : Net)) (fun _ => rfl) (fun x h => ⟨⟨by have := h.1.1; simp only [big]; omega, by have := h.2.1; simp only [big]; omega, fun r hr => (h.2.2 r hr).1⟩, fun r hr => (h.2.2 r hr).2⟩)
end Go.Proofs.YtnopihhconklnaaDoor.O
