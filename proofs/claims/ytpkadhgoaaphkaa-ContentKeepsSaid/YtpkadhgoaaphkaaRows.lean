/-
  No cell of these rows narrows 'for every input' (looked for: loops, veiled, ifaces, maps, wideKeys, modest, calm, conditions, laid).
  DERIVED. THE GIVEN ROWS OF THIS SEAT. 3 by the template 'for every input the law returns true; each argument reads behind the call as it read before'; 0 by the template 'total and deterministic' (their statements: YtpkadhgoaaphkaaTotals.lean).
  GIVEN WITH THE SEED: the statements are not yours to turn. If you find one false, say at which input.
  Laid BY PROGRAM, IN A SANDBOX (cutbox-rows.mjs): the forced cells as the released guide's own fill.sh prints them over the translation 867f282ecdb04312… (all of the seat's roots in one cut). By AI agents, Wed Nov 11 2026. No macro, syntax, notation, axiom, sorry.
-/
import Derived.Test.YtpkadhgoaaphkaaChecked
import GoSem.Claim
import GoSem.ClaimJoined
import GoSem.ClaimMapViews
import Derived.JoinedTies
import Derived.KernelRfl
namespace Go.Proofs.Ytpkadhgoaaphkaa
/- THE CELL 'sum', in the pinned program and in every row, IS THE sha256 OF THE DUMP (.gsa) THAT YtpkadhgoaaphkaaProg.lean LOADS. Nothing in Lean hashes anything: it is a label: what it is worth is what the hold of that sum in a sandbox is worth. -/
noncomputable def Try.pinned : Pinned := { name := "ytpkadhgoaaphkaa", sum := "867f282ecdb04312fa8058e1b9b0dd305cd998f4a43150e31435a4bd03cb9559", checked := Try.checked }
namespace Rows
def none {H : Type} : Left H := { results := [], args := [] }

/-- 'kintsugilaw13.ContentAsks': WHATEVER THE INPUT: true; the input reads as it did. -/
def contentAsksSpec : ChangeSpec := { name := "contentAsks", fn := fun _ => fun
  | [d1, d2, d3] => { results := [.lit (.bool true)], args := [d1, d2, d3] }
  | _ => none }
def contentAsksRow : OpenClaim := { program := "ytpkadhgoaaphkaa", sum := "867f282ecdb04312fa8058e1b9b0dd305cd998f4a43150e31435a4bd03cb9559", func := "kintsugi/kintsugilaw13.ContentAsks", spec := "contentAsks", unfollowed := true, recurses := true, apart := false }
def ContentAsksSaid : Prop := contentAsksRow.holds Try.pinned (OpenSpec.ofChange contentAsksSpec)

/-- ITS FALSE NEIGHBOUR: 'it returns false'. Refute it at one input. -/
def contentAsksWrong : ChangeSpec := { name := "contentAsks", fn := fun _ => fun
  | [d1, d2, d3] => { results := [.lit (.bool false)], args := [d1, d2, d3] }
  | _ => none }
def ContentAsksWrongFalsely : Prop := contentAsksRow.holds Try.pinned (OpenSpec.ofChange contentAsksWrong)

/-- 'kintsugilaw13.ContentNil': WHATEVER THE INPUT: true; the input reads as it did. -/
def contentNilSpec : ChangeSpec := { name := "contentNil", fn := fun _ => fun
  | [d1, d2, d3, d4] => { results := [.lit (.bool true)], args := [d1, d2, d3, d4] }
  | _ => none }
def contentNilRow : OpenClaim := { program := "ytpkadhgoaaphkaa", sum := "867f282ecdb04312fa8058e1b9b0dd305cd998f4a43150e31435a4bd03cb9559", func := "kintsugi/kintsugilaw13.ContentNil", spec := "contentNil", unfollowed := true, recurses := true, apart := false }
def ContentNilSaid : Prop := contentNilRow.holds Try.pinned (OpenSpec.ofChange contentNilSpec)

/-- ITS FALSE NEIGHBOUR: 'it returns false'. Refute it at one input. -/
def contentNilWrong : ChangeSpec := { name := "contentNil", fn := fun _ => fun
  | [d1, d2, d3, d4] => { results := [.lit (.bool false)], args := [d1, d2, d3, d4] }
  | _ => none }
def ContentNilWrongFalsely : Prop := contentNilRow.holds Try.pinned (OpenSpec.ofChange contentNilWrong)

/-- 'kintsugilaw13.ContentKeeps': WHATEVER THE INPUT: true; the input reads as it did. -/
def contentKeepsSpec : ChangeSpec := { name := "contentKeeps", fn := fun _ => fun
  | [d] => { results := [.lit (.bool true)], args := [d] }
  | _ => none }
def contentKeepsRow : OpenClaim := { program := "ytpkadhgoaaphkaa", sum := "867f282ecdb04312fa8058e1b9b0dd305cd998f4a43150e31435a4bd03cb9559", func := "kintsugi/kintsugilaw13.ContentKeeps", spec := "contentKeeps", unfollowed := true, recurses := true, apart := false }
def ContentKeepsSaid : Prop := contentKeepsRow.holds Try.pinned (OpenSpec.ofChange contentKeepsSpec)

/-- ITS FALSE NEIGHBOUR: 'it returns false'. Refute it at one input. -/
def contentKeepsWrong : ChangeSpec := { name := "contentKeeps", fn := fun _ => fun
  | [d] => { results := [.lit (.bool false)], args := [d] }
  | _ => none }
def ContentKeepsWrongFalsely : Prop := contentKeepsRow.holds Try.pinned (OpenSpec.ofChange contentKeepsWrong)

/- THE SECOND FORM. 'bulk': how many values and letters a reading holds, each counted each time it is reached (what is shared counts as often as it is met; a slice's spare places count too). A statement '..UptoSaid' is the law's where the arguments, and the package variables that the reading takes, are together of bulk at most 1048576: NARROWER than '..Said'. Prove '..Said' where nothing that the law and all that it calls make is longer than what came in: it says more and counts as full. Else prove '..UptoSaid'. A law counts once. -/
mutual
def uptoBulk {H : Type} : DataW H → Nat
  | .lit (.string bytes) => bytes.length + 1
  | .lit _ => 1
  | .nil => 1
  | .ptr d => uptoBulk d + 1
  | .slice elems spare => uptoBulkAll elems + uptoBulkAll spare + 1
  | .agg parts => uptoBulkAll parts + 1
  | .iface _ d => uptoBulk d + 1
  | .map entries => uptoBulkEntries entries + 1
  | .held _ => 1
def uptoBulkAll {H : Type} : List (DataW H) → Nat
  | [] => 0
  | d :: r => uptoBulk d + uptoBulkAll r
def uptoBulkEntries {H : Type} : List (Lit × DataW H) → Nat
  | [] => 0
  | x :: r => uptoBulkEntry x + uptoBulkEntries r
def uptoBulkEntry {H : Type} : Lit × DataW H → Nat
  | (.string bytes, d) => bytes.length + uptoBulk d + 1
  | (_, d) => uptoBulk d + 1
 end
def uptoSmall : (H : Type) → List (DataW H) → Bool := fun _ ds => decide (uptoBulkAll ds ≤ 1048576)
def OpenSpec.upto (s : _root_.Go.ChangeSpec) : _root_.Go.OpenSpec := { _root_.Go.OpenSpec.ofChange s with cond := some uptoSmall }

/-- 'kintsugilaw13.ContentAsks', WHERE WHAT IT READS IS OF BULK AT MOST 1048576: true; the input reads as it did. -/
def contentAsksUptoRow : OpenClaim := { program := "ytpkadhgoaaphkaa", sum := "867f282ecdb04312fa8058e1b9b0dd305cd998f4a43150e31435a4bd03cb9559", func := "kintsugi/kintsugilaw13.ContentAsks", spec := "contentAsks", unfollowed := true, recurses := true, apart := false, narrowed := true }
def ContentAsksUptoSaid : Prop := contentAsksUptoRow.holds Try.pinned (OpenSpec.upto contentAsksSpec)

/-- 'kintsugilaw13.ContentNil', WHERE WHAT IT READS IS OF BULK AT MOST 1048576: true; the input reads as it did. -/
def contentNilUptoRow : OpenClaim := { program := "ytpkadhgoaaphkaa", sum := "867f282ecdb04312fa8058e1b9b0dd305cd998f4a43150e31435a4bd03cb9559", func := "kintsugi/kintsugilaw13.ContentNil", spec := "contentNil", unfollowed := true, recurses := true, apart := false, narrowed := true }
def ContentNilUptoSaid : Prop := contentNilUptoRow.holds Try.pinned (OpenSpec.upto contentNilSpec)

/-- 'kintsugilaw13.ContentKeeps', WHERE WHAT IT READS IS OF BULK AT MOST 1048576: true; the input reads as it did. -/
def contentKeepsUptoRow : OpenClaim := { program := "ytpkadhgoaaphkaa", sum := "867f282ecdb04312fa8058e1b9b0dd305cd998f4a43150e31435a4bd03cb9559", func := "kintsugi/kintsugilaw13.ContentKeeps", spec := "contentKeeps", unfollowed := true, recurses := true, apart := false, narrowed := true }
def ContentKeepsUptoSaid : Prop := contentKeepsUptoRow.holds Try.pinned (OpenSpec.upto contentKeepsSpec)

end Rows
end Go.Proofs.Ytpkadhgoaaphkaa
