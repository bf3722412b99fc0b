/-
  No cell of these rows narrows 'for every input' (looked for: loops, veiled, ifaces, maps, wideKeys, modest, calm, conditions, laid).
  DERIVED. THE GIVEN ROWS OF THIS SEAT. 4 by the template 'for every input the law returns true; each argument reads behind the call as it read before'; 0 by the template 'total and deterministic' (their statements: YtgonakpoflacoaaTotals.lean).
  GIVEN WITH THE SEED: the statements are not yours to turn. If you find one false, say at which input.
  Laid BY PROGRAM, IN A SANDBOX (cutbox-rows.mjs): the forced cells as the released guide's own fill.sh prints them over the translation 37b9e855aeb24492… (all of the seat's roots in one cut). By AI agents, Wed Nov 11 2026. No macro, syntax, notation, axiom, sorry.
-/
import Derived.Test.YtgonakpoflacoaaChecked
import GoSem.Claim
import GoSem.ClaimJoined
import GoSem.ClaimMapViews
import Derived.JoinedTies
import Derived.KernelRfl
namespace Go.Proofs.Ytgonakpoflacoaa
/- THE CELL 'sum', in the pinned program and in every row, IS THE sha256 OF THE DUMP (.gsa) THAT YtgonakpoflacoaaProg.lean LOADS. Nothing in Lean hashes anything: it is a label: what it is worth is what the hold of that sum in a sandbox is worth. -/
noncomputable def Try.pinned : Pinned := { name := "ytgonakpoflacoaa", sum := "37b9e855aeb244925aafcb5c25a40446781f366cf0d11651a1e717d363cc098a", checked := Try.checked }
namespace Rows
def none {H : Type} : Left H := { results := [], args := [] }

/-- 'isthmuslaw14.PortMakes': WHATEVER THE INPUT: true; the input reads as it did. -/
def portMakesSpec : ChangeSpec := { name := "portMakes", fn := fun _ => fun
  | [d1, d2, d3, d4, d5] => { results := [.lit (.bool true)], args := [d1, d2, d3, d4, d5] }
  | _ => none }
def portMakesRow : OpenClaim := { program := "ytgonakpoflacoaa", sum := "37b9e855aeb244925aafcb5c25a40446781f366cf0d11651a1e717d363cc098a", func := "isthmus/isthmuslaw14.PortMakes", spec := "portMakes", apart := false }
def PortMakesSaid : Prop := portMakesRow.holds Try.pinned (OpenSpec.ofChange portMakesSpec)

/-- ITS FALSE NEIGHBOUR: 'it returns false'. Refute it at one input. -/
def portMakesWrong : ChangeSpec := { name := "portMakes", fn := fun _ => fun
  | [d1, d2, d3, d4, d5] => { results := [.lit (.bool false)], args := [d1, d2, d3, d4, d5] }
  | _ => none }
def PortMakesWrongFalsely : Prop := portMakesRow.holds Try.pinned (OpenSpec.ofChange portMakesWrong)

/-- 'isthmuslaw14.PortTurned': WHATEVER THE INPUT: true; the input reads as it did. -/
def portTurnedSpec : ChangeSpec := { name := "portTurned", fn := fun _ => fun
  | [d1, d2, d3, d4, d5] => { results := [.lit (.bool true)], args := [d1, d2, d3, d4, d5] }
  | _ => none }
def portTurnedRow : OpenClaim := { program := "ytgonakpoflacoaa", sum := "37b9e855aeb244925aafcb5c25a40446781f366cf0d11651a1e717d363cc098a", func := "isthmus/isthmuslaw14.PortTurned", spec := "portTurned", apart := false }
def PortTurnedSaid : Prop := portTurnedRow.holds Try.pinned (OpenSpec.ofChange portTurnedSpec)

/-- ITS FALSE NEIGHBOUR: 'it returns false'. Refute it at one input. -/
def portTurnedWrong : ChangeSpec := { name := "portTurned", fn := fun _ => fun
  | [d1, d2, d3, d4, d5] => { results := [.lit (.bool false)], args := [d1, d2, d3, d4, d5] }
  | _ => none }
def PortTurnedWrongFalsely : Prop := portTurnedRow.holds Try.pinned (OpenSpec.ofChange portTurnedWrong)

/-- 'isthmuslaw14.PortReads': WHATEVER THE INPUT: true; the input reads as it did. -/
def portReadsSpec : ChangeSpec := { name := "portReads", fn := fun _ => fun
  | [d1, d2] => { results := [.lit (.bool true)], args := [d1, d2] }
  | _ => none }
def portReadsRow : OpenClaim := { program := "ytgonakpoflacoaa", sum := "37b9e855aeb244925aafcb5c25a40446781f366cf0d11651a1e717d363cc098a", func := "isthmus/isthmuslaw14.PortReads", spec := "portReads", apart := false }
def PortReadsSaid : Prop := portReadsRow.holds Try.pinned (OpenSpec.ofChange portReadsSpec)

/-- ITS FALSE NEIGHBOUR: 'it returns false'. Refute it at one input. -/
def portReadsWrong : ChangeSpec := { name := "portReads", fn := fun _ => fun
  | [d1, d2] => { results := [.lit (.bool false)], args := [d1, d2] }
  | _ => none }
def PortReadsWrongFalsely : Prop := portReadsRow.holds Try.pinned (OpenSpec.ofChange portReadsWrong)

/-- 'isthmuslaw14.PortBack': WHATEVER THE INPUT: true; the input reads as it did. -/
def portBackSpec : ChangeSpec := { name := "portBack", fn := fun _ => fun
  | [d1, d2, d3, d4, d5] => { results := [.lit (.bool true)], args := [d1, d2, d3, d4, d5] }
  | _ => none }
def portBackRow : OpenClaim := { program := "ytgonakpoflacoaa", sum := "37b9e855aeb244925aafcb5c25a40446781f366cf0d11651a1e717d363cc098a", func := "isthmus/isthmuslaw14.PortBack", spec := "portBack", apart := false }
def PortBackSaid : Prop := portBackRow.holds Try.pinned (OpenSpec.ofChange portBackSpec)

/-- ITS FALSE NEIGHBOUR: 'it returns false'. Refute it at one input. -/
def portBackWrong : ChangeSpec := { name := "portBack", fn := fun _ => fun
  | [d1, d2, d3, d4, d5] => { results := [.lit (.bool false)], args := [d1, d2, d3, d4, d5] }
  | _ => none }
def PortBackWrongFalsely : Prop := portBackRow.holds Try.pinned (OpenSpec.ofChange portBackWrong)

/- THE SECOND FORM. 'bulk': how many values and letters a reading holds, each counted each time it is reached (what is shared counts as often as it is met; a slice's spare places count too). A statement '..UptoSaid' is the law's where the arguments, and the package variables that the reading takes, are together of bulk at most 1048576: NARROWER than '..Said'. Prove '..Said' where nothing that the law and all that it calls make is longer than what came in: it says more and counts as full. Else prove '..UptoSaid'. A law counts once. -/
mutual
def uptoBulk {H : Type} : DataW H → Nat
  | .lit (.string bytes) => bytes.length + 1
  | .lit _ => 1
  | .nil => 1
  | .ptr d => uptoBulk d + 1
  | .slice elems spare => uptoBulkAll elems + uptoBulkAll spare + 1
  | .agg parts => uptoBulkAll parts + 1
  | .iface _ d => uptoBulk d + 1
  | .map entries => uptoBulkEntries entries + 1
  | .held _ => 1
def uptoBulkAll {H : Type} : List (DataW H) → Nat
  | [] => 0
  | d :: r => uptoBulk d + uptoBulkAll r
def uptoBulkEntries {H : Type} : List (Lit × DataW H) → Nat
  | [] => 0
  | x :: r => uptoBulkEntry x + uptoBulkEntries r
def uptoBulkEntry {H : Type} : Lit × DataW H → Nat
  | (.string bytes, d) => bytes.length + uptoBulk d + 1
  | (_, d) => uptoBulk d + 1
 end
def uptoSmall : (H : Type) → List (DataW H) → Bool := fun _ ds => decide (uptoBulkAll ds ≤ 1048576)
def OpenSpec.upto (s : _root_.Go.ChangeSpec) : _root_.Go.OpenSpec := { _root_.Go.OpenSpec.ofChange s with cond := some uptoSmall }

/-- 'isthmuslaw14.PortMakes', WHERE WHAT IT READS IS OF BULK AT MOST 1048576: true; the input reads as it did. -/
def portMakesUptoRow : OpenClaim := { program := "ytgonakpoflacoaa", sum := "37b9e855aeb244925aafcb5c25a40446781f366cf0d11651a1e717d363cc098a", func := "isthmus/isthmuslaw14.PortMakes", spec := "portMakes", apart := false, narrowed := true }
def PortMakesUptoSaid : Prop := portMakesUptoRow.holds Try.pinned (OpenSpec.upto portMakesSpec)

/-- 'isthmuslaw14.PortTurned', WHERE WHAT IT READS IS OF BULK AT MOST 1048576: true; the input reads as it did. -/
def portTurnedUptoRow : OpenClaim := { program := "ytgonakpoflacoaa", sum := "37b9e855aeb244925aafcb5c25a40446781f366cf0d11651a1e717d363cc098a", func := "isthmus/isthmuslaw14.PortTurned", spec := "portTurned", apart := false, narrowed := true }
def PortTurnedUptoSaid : Prop := portTurnedUptoRow.holds Try.pinned (OpenSpec.upto portTurnedSpec)

/-- 'isthmuslaw14.PortReads', WHERE WHAT IT READS IS OF BULK AT MOST 1048576: true; the input reads as it did. -/
def portReadsUptoRow : OpenClaim := { program := "ytgonakpoflacoaa", sum := "37b9e855aeb244925aafcb5c25a40446781f366cf0d11651a1e717d363cc098a", func := "isthmus/isthmuslaw14.PortReads", spec := "portReads", apart := false, narrowed := true }
def PortReadsUptoSaid : Prop := portReadsUptoRow.holds Try.pinned (OpenSpec.upto portReadsSpec)

/-- 'isthmuslaw14.PortBack', WHERE WHAT IT READS IS OF BULK AT MOST 1048576: true; the input reads as it did. -/
def portBackUptoRow : OpenClaim := { program := "ytgonakpoflacoaa", sum := "37b9e855aeb244925aafcb5c25a40446781f366cf0d11651a1e717d363cc098a", func := "isthmus/isthmuslaw14.PortBack", spec := "portBack", apart := false, narrowed := true }
def PortBackUptoSaid : Prop := portBackUptoRow.holds Try.pinned (OpenSpec.upto portBackSpec)

end Rows
end Go.Proofs.Ytgonakpoflacoaa
