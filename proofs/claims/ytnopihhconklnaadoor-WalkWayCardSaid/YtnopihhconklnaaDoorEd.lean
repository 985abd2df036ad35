import Derived.Test.YtnopihhconklnaaDoorEn12
set_option linter.unusedVariables false
set_option linter.unusedSimpArgs false
/- The program's data, and how they stand in cells. -/
namespace Go.Sp
open Go Go.En

structure Seat where
  router : Int
  seq : Int
  time : Int
  up : Bool
structure Addr where
  hi : Int
  lo : Int
  deriving DecidableEq
structure Prefix where
  six : Bool
  addr : Addr
  len : Int
  deriving DecidableEq
structure Action where
  kind : Int
  iface : Int
  deriving DecidableEq
structure Route where
  pre : Prefix
  act : Action
  deriving DecidableEq
structure Link where
  iface : Int
  peer : Int
  deriving DecidableEq
structure Router where
  id : Int
  up : Bool
  routes : List Route
  links : List Link
structure Net where
  seats : List Seat
  routers : List Router
structure Hop where
  kind : Int
  peer : Int
  deriving DecidableEq
structure Verdict where
  kind : Int
  at_ : Int
  deriving DecidableEq
structure Event where
  kind : Int
  router : Int
  seq : Int
  time : Int
  pre : Prefix
  act : Action
  iface : Int
  peer : Int
def Seat.enc (x : Seat) : List C := [.v (.int .i64 x.router), .v (.int .u64 x.seq), .v (.int .i64 x.time), .v (.bool x.up)]
def Addr.enc (x : Addr) : List C := [.v (.int .u64 x.hi), .v (.int .u64 x.lo)]
def Prefix.enc (x : Prefix) : List C := [.v (.bool x.six), .v (.int .u64 x.addr.hi), .v (.int .u64 x.addr.lo), .v (.int .i64 x.len)]
def Action.enc (x : Action) : List C := [.v (.int .u8 x.kind), .v (.int .i64 x.iface)]
def Route.enc (x : Route) : List C := [.v (.bool x.pre.six), .v (.int .u64 x.pre.addr.hi), .v (.int .u64 x.pre.addr.lo), .v (.int .i64 x.pre.len), .v (.int .u8 x.act.kind), .v (.int .i64 x.act.iface)]
def Link.enc (x : Link) : List C := [.v (.int .i64 x.iface), .v (.int .i64 x.peer)]
def Router.enc (x : Router) : List C := [.v (.int .i64 x.id), .v (.bool x.up), .row (x.routes.map Route.enc), .row (x.links.map Link.enc)]
def Net.enc (x : Net) : List C := [.row (x.seats.map Seat.enc), .row (x.routers.map Router.enc)]
def Hop.enc (x : Hop) : List C := [.v (.int .u8 x.kind), .v (.int .i64 x.peer)]
def Verdict.enc (x : Verdict) : List C := [.v (.int .u8 x.kind), .v (.int .i64 x.at_)]
def Event.enc (x : Event) : List C := [.v (.int .u8 x.kind), .v (.int .i64 x.router), .v (.int .u64 x.seq), .v (.int .i64 x.time), .v (.bool x.pre.six), .v (.int .u64 x.pre.addr.hi), .v (.int .u64 x.pre.addr.lo), .v (.int .i64 x.pre.len), .v (.int .u8 x.act.kind), .v (.int .i64 x.act.iface), .v (.int .i64 x.iface), .v (.int .i64 x.peer)]
attribute [go_sem] Seat.enc Addr.enc Prefix.enc Action.enc Route.enc Link.enc Router.enc Net.enc Hop.enc Verdict.enc Event.enc
/-- a row is right, each element by itself and by the one ahead. -/
def rowOk {α : Type} (p : α → Bool) (r : α → α → Bool) : Option α → List α → Bool
  | _, [] => true
  | a, x :: l => p x && (match a with | some y => r y x | none => true) && rowOk p r (some x) l
def rightSeat (x : Seat) : Bool := decide (0 ≤ x.router ∧ x.router ≤ 1048576 ∧ 1 ≤ x.seq ∧ x.seq ≤ 1099511627776 ∧ 0 ≤ x.time ∧ x.time ≤ 1099511627776)
def seatsOk (l : List Seat) : Bool := decide (l.length ≤ 64) && rowOk rightSeat (fun a b => decide (a.router < b.router)) none l
def why (b : Bool) : Int := if b then 0 else 2
theorem why_ne (b : Bool) : (why b != 0) = !b := by cases b <;> rfl
theorem why_eq (b : Bool) : (why b == 0) = b := by cases b <;> rfl
attribute [go_sem] why_ne why_eq
theorem rowOk_take {α : Type} {p : α → Bool} {r : α → α → Bool} {l : List α} {i : Nat} (hi : i < l.length) (a : Option α) : rowOk p r a (l.drop i) = (p l[i] && (match a with | some y => r y l[i] | none => true) && rowOk p r (some l[i]) (l.drop (i + 1))) := by
  rw [List.drop_eq_getElem_cons hi]
  rfl
/-- the element ahead of a place. -/
def ahd {α : Type} (l : List α) (i : Nat) : Option α := if i = 0 then none else l[i - 1]?
theorem ahd_zero {α : Type} (l : List α) : ahd l 0 = none := rfl
theorem ahd_succ {α : Type} {l : List α} {i : Nat} (h : i < l.length) : ahd l (i + 1) = some l[i] := by simp [ahd, h]
theorem rowOk_end {α : Type} {p : α → Bool} {r : α → α → Bool} {l : List α} {i : Nat} (hi : l.length ≤ i) (a : Option α) : rowOk p r a (l.drop i) = true := by rw [List.drop_eq_nil_of_le hi]; rfl
def cmpI (a b : Int) : Int := if a < b then -1 else if b < a then 1 else 0
def wide (six : Bool) : Int := if six then 128 else 32
def rightAddr (six : Bool) (a : Addr) : Bool := six || (a.hi == 0 && a.lo.fdiv 4294967296 == 0)
def rightAddrR (six : Bool) (a : Addr) : Bool := six || (a.hi == 0 && decide (a.lo < 4294967296))
theorem rightAddr_eq {six : Bool} {a : Addr} (h : 0 ≤ a.lo) : rightAddr six a = rightAddrR six a := by
  unfold rightAddr rightAddrR
  congr 2
  rw [Int.fdiv_eq_ediv_of_nonneg _ (by omega), Bool.eq_iff_iff, beq_iff_eq, decide_eq_true_iff]
  omega
def kindP (p : Prefix) : Int := if p.six then 1 else 0
def cmpA (a b : Addr) : Int := if cmpI a.hi b.hi = 0 then cmpI a.lo b.lo else cmpI a.hi b.hi
def cmpP (p q : Prefix) : Int := if cmpI (kindP p) (kindP q) = 0 then (if cmpA p.addr q.addr = 0 then cmpI p.len q.len else cmpA p.addr q.addr) else cmpI (kindP p) (kindP q)
def rightIface (n : Int) : Bool := decide (0 ≤ n ∧ n ≤ 65536)
def rightId (n : Int) : Bool := decide (0 ≤ n ∧ n ≤ 1048576)
def rightLink (x : Link) : Bool := rightIface x.iface && rightId x.peer
def rightAct (a : Action) : Bool := (a.kind == 1 && rightIface a.iface) || ((a.kind == 2 || a.kind == 3) && a.iface == 0)
def lessP (p q : Prefix) : Bool := decide (cmpP p q < 0)
end Go.Sp
