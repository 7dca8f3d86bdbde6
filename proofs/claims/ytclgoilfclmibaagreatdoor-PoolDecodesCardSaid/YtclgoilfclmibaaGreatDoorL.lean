/-
  Pool, plain: effects, triggers, cards; which are valid.
-/
set_option linter.unusedVariables false
set_option linter.unusedSimpArgs false
namespace Go.Proofs.YtclgoilfclmibaaGreatDoor

structure Eff where
  code : Int
  target : Int
  n : Int
  m : Int
  col : Int
deriving DecidableEq
structure Trg where
  when : Int
  effs : List Eff
deriving DecidableEq
structure Crd where
  name : List UInt8
  kind : Int
  o0 : Int
  o1 : Int
  o2 : Int
  o3 : Int
  any : Int
  makes : Int
  power : Int
  tough : Int
  keys : Int
  effs : List Eff
  trgs : List Trg
  rarity : Int
deriving DecidableEq

/-- a number is in a range -/
def inB (n a b : Int) : Bool := decide (a ≤ n) && decide (n ≤ b)
/-- a bare rule: the target is one of some, the numbers are 0 -/
def bareF (K : List Int) (e : Eff) : Bool := K.contains e.target && (e.n == 0) && (e.m == 0) && (e.col == 0)
def countF (K : List Int) (most : Int) (e : Eff) : Bool := inB e.n 1 most && bareF K { e with n := 0 }
def pairF (K : List Int) (least : Int) (e : Eff) : Bool := inB e.n 0 9 && inB e.m least 9 && decide (0 < e.n + e.m) && bareF K { e with n := 0, m := 0 }
def colF (K : List Int) (most : Int) (e : Eff) : Bool := inB e.col 0 3 && countF K most { e with col := 0 }
/-- an effect is valid -/
def evalid (e : Eff) : Bool :=
  if e.code = 1 then countF [1, 2, 3, 4, 5] 99 e
  else if e.code = 2 then countF [0, 4] 7 e
  else if e.code = 3 ∨ e.code = 4 then countF [0, 4] 99 e
  else if e.code = 5 ∨ e.code = 6 ∨ e.code = 11 then bareF [1, 2, 3] e
  else if e.code = 7 then bareF [6] e
  else if e.code = 8 then pairF [1, 2, 3, 0] 0 e
  else if e.code = 9 then countF [1, 2, 3, 0] 9 e
  else if e.code = 10 then pairF [0] 1 e
  else if e.code = 12 then colF [0] 9 e
  else false
def allE (l : List Eff) : Bool := decide (l.length ≤ 4) && l.all evalid
def targets (l : List Eff) : Nat := (l.filter fun e => e.target != 0).length
end Go.Proofs.YtclgoilfclmibaaGreatDoor
