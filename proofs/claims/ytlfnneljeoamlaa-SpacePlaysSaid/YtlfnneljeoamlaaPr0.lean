/-
  The law SpacePlays: its loop's body, and what holds ahead of a round.
-/
import Derived.Test.YtlfnneljeoamlaaRb
import Derived.Test.YtlfnneljeoamlaaHeld
import Derived.Test.YtlfnneljeoamlaaApart1
import Derived.WalkKit
import Derived.Deep.RegionHeld3
import Derived.Deep.RegionLaw
import Derived.BigRegion
import Derived.StillTailTactics
import Derived.Lib.Hide
namespace Go.Proofs.Ytlfnneljeoamlaa
open Go.RowKit
set_option linter.unusedVariables false

noncomputable def body4 : Code := ((Try.f4.body.bind firstLoop).getD .skip)
/-- What holds ahead of round i: the slots that stay, and the world. -/
structure PlI (n m p : Nat) (A : Option Addr) (c : Nat) (acts : List ActV) (bq : Nat → Nat) (gw B : Nat) (q : Nat → Nat) (w : World) (i : Nat) (a : Act) (w' : World) : Prop where
  size : a.tmps.size = 216
  defs : a.defers = []
  s0 : a.tmps.getD 0 undef = .int .i64 n
  s1 : a.tmps.getD 1 undef = .int .i64 m
  s2 : a.tmps.getD 2 undef = .slice A acts.length c
  s7 : a.tmps.getD 7 undef = .pointer (some ⟨p, 0, none⟩)
  s9 : a.tmps.getD 9 undef = .slice (some ⟨gw, 0, none⟩) 2 2
  s10 : a.tmps.getD 10 undef = .int .i64 i
  le : i ≤ acts.length
  pi : PI w p bq gw B q w'
end Go.Proofs.Ytlfnneljeoamlaa
