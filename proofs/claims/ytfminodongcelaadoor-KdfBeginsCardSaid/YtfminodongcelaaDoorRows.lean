/-
  NARROWER THAN 'FOR EVERY INPUT', by the rows' own cells (each row's printed sentence says how): BlakeSums: laid · BlakePieces: laid · BlakeRoots: laid · BlakeNil: laid · KdfTags: laid · KdfKeys: laid · KdfBegins: laid.
  DERIVED. THE GIVEN ROWS OF THIS SEAT. 7 by the template 'for every input the law returns true; each argument reads behind the call as it read before'; 0 by the template 'total and deterministic' (their statements: YtfminodongcelaaDoorTotals.lean).
  GIVEN WITH THE SEED: the statements are not yours to turn. If you find one false, say at which input.
  Laid BY PROGRAM, IN A SANDBOX (cutbox-rows.mjs): the forced cells as the released guide's own fill.sh prints them over the translation 81b72c3a8b608907… (all of the seat's roots in one cut). By AI agents, Wed Nov 11 2026. No macro, syntax, notation, axiom, sorry.
-/
import Derived.Test.YtfminodongcelaaDoorChecked
import GoSem.Claim
import GoSem.ClaimJoined
import GoSem.ClaimMapViews
import Derived.JoinedTies
import Derived.KernelRfl
namespace Go.Proofs.YtfminodongcelaaDoor
/- THE CELL 'sum', in the pinned program and in every row, IS THE sha256 OF THE DUMP (.gsa) THAT YtfminodongcelaaDoorProg.lean LOADS. Nothing in Lean hashes anything: it is a label: what it is worth is what the hold of that sum in a sandbox is worth. -/
noncomputable def Tryd.pinned : Pinned := { name := "ytfminodongcelaadoor", sum := "81b72c3a8b608907a7ce708496d6ff7d68a6117e6e11abcce27789dd0606e340", checked := Tryd.checked }
namespace Rows
def none {H : Type} : Left H := { results := [], args := [] }

/- WHAT THE LISTED PACKAGE-LEVEL VARIABLES READ AS WHEN THE CALL BEGINS. Each datum BY PROGRAM (the guide's laid-datum.mjs) off the statement by which the dump's own 'gosem.cut.vars' lays the variable. In a bare row this is a premise. The card (YtfminodongcelaaDoorCards.lean) ties it to the program's text. -/
def laid_isthmus_blake_orders {H : Type} : DataW H := .agg [.agg [.lit (.int .u8 0), .lit (.int .u8 1), .lit (.int .u8 2), .lit (.int .u8 3), .lit (.int .u8 4), .lit (.int .u8 5), .lit (.int .u8 6), .lit (.int .u8 7), .lit (.int .u8 8), .lit (.int .u8 9), .lit (.int .u8 10), .lit (.int .u8 11), .lit (.int .u8 12), .lit (.int .u8 13), .lit (.int .u8 14), .lit (.int .u8 15)], .agg [.lit (.int .u8 14), .lit (.int .u8 10), .lit (.int .u8 4), .lit (.int .u8 8), .lit (.int .u8 9), .lit (.int .u8 15), .lit (.int .u8 13), .lit (.int .u8 6), .lit (.int .u8 1), .lit (.int .u8 12), .lit (.int .u8 0), .lit (.int .u8 2), .lit (.int .u8 11), .lit (.int .u8 7), .lit (.int .u8 5), .lit (.int .u8 3)], .agg [.lit (.int .u8 11), .lit (.int .u8 8), .lit (.int .u8 12), .lit (.int .u8 0), .lit (.int .u8 5), .lit (.int .u8 2), .lit (.int .u8 15), .lit (.int .u8 13), .lit (.int .u8 10), .lit (.int .u8 14), .lit (.int .u8 3), .lit (.int .u8 6), .lit (.int .u8 7), .lit (.int .u8 1), .lit (.int .u8 9), .lit (.int .u8 4)], .agg [.lit (.int .u8 7), .lit (.int .u8 9), .lit (.int .u8 3), .lit (.int .u8 1), .lit (.int .u8 13), .lit (.int .u8 12), .lit (.int .u8 11), .lit (.int .u8 14), .lit (.int .u8 2), .lit (.int .u8 6), .lit (.int .u8 5), .lit (.int .u8 10), .lit (.int .u8 4), .lit (.int .u8 0), .lit (.int .u8 15), .lit (.int .u8 8)], .agg [.lit (.int .u8 9), .lit (.int .u8 0), .lit (.int .u8 5), .lit (.int .u8 7), .lit (.int .u8 2), .lit (.int .u8 4), .lit (.int .u8 10), .lit (.int .u8 15), .lit (.int .u8 14), .lit (.int .u8 1), .lit (.int .u8 11), .lit (.int .u8 12), .lit (.int .u8 6), .lit (.int .u8 8), .lit (.int .u8 3), .lit (.int .u8 13)], .agg [.lit (.int .u8 2), .lit (.int .u8 12), .lit (.int .u8 6), .lit (.int .u8 10), .lit (.int .u8 0), .lit (.int .u8 11), .lit (.int .u8 8), .lit (.int .u8 3), .lit (.int .u8 4), .lit (.int .u8 13), .lit (.int .u8 7), .lit (.int .u8 5), .lit (.int .u8 15), .lit (.int .u8 14), .lit (.int .u8 1), .lit (.int .u8 9)], .agg [.lit (.int .u8 12), .lit (.int .u8 5), .lit (.int .u8 1), .lit (.int .u8 15), .lit (.int .u8 14), .lit (.int .u8 13), .lit (.int .u8 4), .lit (.int .u8 10), .lit (.int .u8 0), .lit (.int .u8 7), .lit (.int .u8 6), .lit (.int .u8 3), .lit (.int .u8 9), .lit (.int .u8 2), .lit (.int .u8 8), .lit (.int .u8 11)], .agg [.lit (.int .u8 13), .lit (.int .u8 11), .lit (.int .u8 7), .lit (.int .u8 14), .lit (.int .u8 12), .lit (.int .u8 1), .lit (.int .u8 3), .lit (.int .u8 9), .lit (.int .u8 5), .lit (.int .u8 0), .lit (.int .u8 15), .lit (.int .u8 4), .lit (.int .u8 8), .lit (.int .u8 6), .lit (.int .u8 2), .lit (.int .u8 10)], .agg [.lit (.int .u8 6), .lit (.int .u8 15), .lit (.int .u8 14), .lit (.int .u8 9), .lit (.int .u8 11), .lit (.int .u8 3), .lit (.int .u8 0), .lit (.int .u8 8), .lit (.int .u8 12), .lit (.int .u8 2), .lit (.int .u8 13), .lit (.int .u8 7), .lit (.int .u8 1), .lit (.int .u8 4), .lit (.int .u8 10), .lit (.int .u8 5)], .agg [.lit (.int .u8 10), .lit (.int .u8 2), .lit (.int .u8 8), .lit (.int .u8 4), .lit (.int .u8 7), .lit (.int .u8 6), .lit (.int .u8 1), .lit (.int .u8 5), .lit (.int .u8 15), .lit (.int .u8 11), .lit (.int .u8 9), .lit (.int .u8 14), .lit (.int .u8 3), .lit (.int .u8 12), .lit (.int .u8 13), .lit (.int .u8 0)]]

/-- 'isthmuslaw06.BlakeSums': WHATEVER THE INPUT: true; the input reads as it did. -/
def blakeSumsSpec : ChangeSpec := { name := "blakeSums", fn := fun _ => fun
  | [d1, d2, d3] => { results := [.lit (.bool true)], args := [d1, d2, d3] }
  | _ => none }
def blakeSumsRow : OpenClaim := { program := "ytfminodongcelaadoor", sum := "81b72c3a8b608907a7ce708496d6ff7d68a6117e6e11abcce27789dd0606e340", func := "isthmus/isthmuslaw06.BlakeSums", spec := "blakeSums", unfollowed := true, recurses := true, named := ["isthmus/blake.orders"], apart := false, laid := [("isthmus/blake.orders", laid_isthmus_blake_orders)] }
def BlakeSumsSaid : Prop := blakeSumsRow.holds Tryd.pinned (OpenSpec.ofChange blakeSumsSpec)

/-- ITS FALSE NEIGHBOUR: 'it returns false'. Refute it at one input. -/
def blakeSumsWrong : ChangeSpec := { name := "blakeSums", fn := fun _ => fun
  | [d1, d2, d3] => { results := [.lit (.bool false)], args := [d1, d2, d3] }
  | _ => none }
def BlakeSumsWrongFalsely : Prop := blakeSumsRow.holds Tryd.pinned (OpenSpec.ofChange blakeSumsWrong)

/-- 'isthmuslaw06.BlakePieces': WHATEVER THE INPUT: true; the input reads as it did. -/
def blakePiecesSpec : ChangeSpec := { name := "blakePieces", fn := fun _ => fun
  | [d1, d2, d3] => { results := [.lit (.bool true)], args := [d1, d2, d3] }
  | _ => none }
def blakePiecesRow : OpenClaim := { program := "ytfminodongcelaadoor", sum := "81b72c3a8b608907a7ce708496d6ff7d68a6117e6e11abcce27789dd0606e340", func := "isthmus/isthmuslaw06.BlakePieces", spec := "blakePieces", unfollowed := true, recurses := true, named := ["isthmus/blake.orders"], apart := false, laid := [("isthmus/blake.orders", laid_isthmus_blake_orders)] }
def BlakePiecesSaid : Prop := blakePiecesRow.holds Tryd.pinned (OpenSpec.ofChange blakePiecesSpec)

/-- ITS FALSE NEIGHBOUR: 'it returns false'. Refute it at one input. -/
def blakePiecesWrong : ChangeSpec := { name := "blakePieces", fn := fun _ => fun
  | [d1, d2, d3] => { results := [.lit (.bool false)], args := [d1, d2, d3] }
  | _ => none }
def BlakePiecesWrongFalsely : Prop := blakePiecesRow.holds Tryd.pinned (OpenSpec.ofChange blakePiecesWrong)

/-- 'isthmuslaw06.BlakeRoots': WHATEVER THE INPUT: true; the input reads as it did. -/
def blakeRootsSpec : ChangeSpec := { name := "blakeRoots", fn := fun _ => fun
  | [d] => { results := [.lit (.bool true)], args := [d] }
  | _ => none }
def blakeRootsRow : OpenClaim := { program := "ytfminodongcelaadoor", sum := "81b72c3a8b608907a7ce708496d6ff7d68a6117e6e11abcce27789dd0606e340", func := "isthmus/isthmuslaw06.BlakeRoots", spec := "blakeRoots", unfollowed := true, recurses := true, named := ["isthmus/blake.orders"], apart := false, laid := [("isthmus/blake.orders", laid_isthmus_blake_orders)] }
def BlakeRootsSaid : Prop := blakeRootsRow.holds Tryd.pinned (OpenSpec.ofChange blakeRootsSpec)

/-- ITS FALSE NEIGHBOUR: 'it returns false'. Refute it at one input. -/
def blakeRootsWrong : ChangeSpec := { name := "blakeRoots", fn := fun _ => fun
  | [d] => { results := [.lit (.bool false)], args := [d] }
  | _ => none }
def BlakeRootsWrongFalsely : Prop := blakeRootsRow.holds Tryd.pinned (OpenSpec.ofChange blakeRootsWrong)

/-- 'isthmuslaw06.BlakeNil': WHATEVER THE INPUT: true; the input reads as it did. -/
def blakeNilSpec : ChangeSpec := { name := "blakeNil", fn := fun _ => fun
  | [d] => { results := [.lit (.bool true)], args := [d] }
  | _ => none }
def blakeNilRow : OpenClaim := { program := "ytfminodongcelaadoor", sum := "81b72c3a8b608907a7ce708496d6ff7d68a6117e6e11abcce27789dd0606e340", func := "isthmus/isthmuslaw06.BlakeNil", spec := "blakeNil", unfollowed := true, recurses := true, named := ["isthmus/blake.orders"], apart := false, laid := [("isthmus/blake.orders", laid_isthmus_blake_orders)] }
def BlakeNilSaid : Prop := blakeNilRow.holds Tryd.pinned (OpenSpec.ofChange blakeNilSpec)

/-- ITS FALSE NEIGHBOUR: 'it returns false'. Refute it at one input. -/
def blakeNilWrong : ChangeSpec := { name := "blakeNil", fn := fun _ => fun
  | [d] => { results := [.lit (.bool false)], args := [d] }
  | _ => none }
def BlakeNilWrongFalsely : Prop := blakeNilRow.holds Tryd.pinned (OpenSpec.ofChange blakeNilWrong)

/-- 'isthmuslaw07.KdfTags': WHATEVER THE INPUT: true; the input reads as it did. -/
def kdfTagsSpec : ChangeSpec := { name := "kdfTags", fn := fun _ => fun
  | [d1, d2] => { results := [.lit (.bool true)], args := [d1, d2] }
  | _ => none }
def kdfTagsRow : OpenClaim := { program := "ytfminodongcelaadoor", sum := "81b72c3a8b608907a7ce708496d6ff7d68a6117e6e11abcce27789dd0606e340", func := "isthmus/isthmuslaw07.KdfTags", spec := "kdfTags", unfollowed := true, recurses := true, named := ["isthmus/blake.orders"], apart := false, laid := [("isthmus/blake.orders", laid_isthmus_blake_orders)] }
def KdfTagsSaid : Prop := kdfTagsRow.holds Tryd.pinned (OpenSpec.ofChange kdfTagsSpec)

/-- ITS FALSE NEIGHBOUR: 'it returns false'. Refute it at one input. -/
def kdfTagsWrong : ChangeSpec := { name := "kdfTags", fn := fun _ => fun
  | [d1, d2] => { results := [.lit (.bool false)], args := [d1, d2] }
  | _ => none }
def KdfTagsWrongFalsely : Prop := kdfTagsRow.holds Tryd.pinned (OpenSpec.ofChange kdfTagsWrong)

/-- 'isthmuslaw07.KdfKeys': WHATEVER THE INPUT: true; the input reads as it did. -/
def kdfKeysSpec : ChangeSpec := { name := "kdfKeys", fn := fun _ => fun
  | [d1, d2, d3] => { results := [.lit (.bool true)], args := [d1, d2, d3] }
  | _ => none }
def kdfKeysRow : OpenClaim := { program := "ytfminodongcelaadoor", sum := "81b72c3a8b608907a7ce708496d6ff7d68a6117e6e11abcce27789dd0606e340", func := "isthmus/isthmuslaw07.KdfKeys", spec := "kdfKeys", unfollowed := true, recurses := true, named := ["isthmus/blake.orders"], apart := false, laid := [("isthmus/blake.orders", laid_isthmus_blake_orders)] }
def KdfKeysSaid : Prop := kdfKeysRow.holds Tryd.pinned (OpenSpec.ofChange kdfKeysSpec)

/-- ITS FALSE NEIGHBOUR: 'it returns false'. Refute it at one input. -/
def kdfKeysWrong : ChangeSpec := { name := "kdfKeys", fn := fun _ => fun
  | [d1, d2, d3] => { results := [.lit (.bool false)], args := [d1, d2, d3] }
  | _ => none }
def KdfKeysWrongFalsely : Prop := kdfKeysRow.holds Tryd.pinned (OpenSpec.ofChange kdfKeysWrong)

/-- 'isthmuslaw07.KdfBegins': WHATEVER THE INPUT: true; the input reads as it did. -/
def kdfBeginsSpec : ChangeSpec := { name := "kdfBegins", fn := fun _ => fun
  | [d1, d2, d3, d4] => { results := [.lit (.bool true)], args := [d1, d2, d3, d4] }
  | _ => none }
def kdfBeginsRow : OpenClaim := { program := "ytfminodongcelaadoor", sum := "81b72c3a8b608907a7ce708496d6ff7d68a6117e6e11abcce27789dd0606e340", func := "isthmus/isthmuslaw07.KdfBegins", spec := "kdfBegins", unfollowed := true, recurses := true, named := ["isthmus/blake.orders"], apart := false, laid := [("isthmus/blake.orders", laid_isthmus_blake_orders)] }
def KdfBeginsSaid : Prop := kdfBeginsRow.holds Tryd.pinned (OpenSpec.ofChange kdfBeginsSpec)

/-- ITS FALSE NEIGHBOUR: 'it returns false'. Refute it at one input. -/
def kdfBeginsWrong : ChangeSpec := { name := "kdfBegins", fn := fun _ => fun
  | [d1, d2, d3, d4] => { results := [.lit (.bool false)], args := [d1, d2, d3, d4] }
  | _ => none }
def KdfBeginsWrongFalsely : Prop := kdfBeginsRow.holds Tryd.pinned (OpenSpec.ofChange kdfBeginsWrong)

/- THE SECOND FORM. 'bulk': how many values and letters a reading holds, each counted each time it is reached (what is shared counts as often as it is met; a slice's spare places count too). A statement '..UptoSaid' is the law's where the arguments, and the package variables that the reading takes, are together of bulk at most 1048576: NARROWER than '..Said'. Prove '..Said' where nothing that the law and all that it calls make is longer than what came in: it says more and counts as full. Else prove '..UptoSaid'. A law counts once. -/
mutual
def uptoBulk {H : Type} : DataW H → Nat
  | .lit (.string bytes) => bytes.length + 1
  | .lit _ => 1
  | .nil => 1
  | .ptr d => uptoBulk d + 1
  | .slice elems spare => uptoBulkAll elems + uptoBulkAll spare + 1
  | .agg parts => uptoBulkAll parts + 1
  | .iface _ d => uptoBulk d + 1
  | .map entries => uptoBulkEntries entries + 1
  | .held _ => 1
def uptoBulkAll {H : Type} : List (DataW H) → Nat
  | [] => 0
  | d :: r => uptoBulk d + uptoBulkAll r
def uptoBulkEntries {H : Type} : List (Lit × DataW H) → Nat
  | [] => 0
  | x :: r => uptoBulkEntry x + uptoBulkEntries r
def uptoBulkEntry {H : Type} : Lit × DataW H → Nat
  | (.string bytes, d) => bytes.length + uptoBulk d + 1
  | (_, d) => uptoBulk d + 1
 end
def uptoSmall : (H : Type) → List (DataW H) → Bool := fun _ ds => decide (uptoBulkAll ds ≤ 1048576)
def OpenSpec.upto (s : _root_.Go.ChangeSpec) : _root_.Go.OpenSpec := { _root_.Go.OpenSpec.ofChange s with cond := some uptoSmall }

/-- 'isthmuslaw06.BlakeSums', WHERE WHAT IT READS IS OF BULK AT MOST 1048576: true; the input reads as it did. -/
def blakeSumsUptoRow : OpenClaim := { program := "ytfminodongcelaadoor", sum := "81b72c3a8b608907a7ce708496d6ff7d68a6117e6e11abcce27789dd0606e340", func := "isthmus/isthmuslaw06.BlakeSums", spec := "blakeSums", unfollowed := true, recurses := true, named := ["isthmus/blake.orders"], apart := false, laid := [("isthmus/blake.orders", laid_isthmus_blake_orders)], narrowed := true }
def BlakeSumsUptoSaid : Prop := blakeSumsUptoRow.holds Tryd.pinned (OpenSpec.upto blakeSumsSpec)

/-- 'isthmuslaw06.BlakePieces', WHERE WHAT IT READS IS OF BULK AT MOST 1048576: true; the input reads as it did. -/
def blakePiecesUptoRow : OpenClaim := { program := "ytfminodongcelaadoor", sum := "81b72c3a8b608907a7ce708496d6ff7d68a6117e6e11abcce27789dd0606e340", func := "isthmus/isthmuslaw06.BlakePieces", spec := "blakePieces", unfollowed := true, recurses := true, named := ["isthmus/blake.orders"], apart := false, laid := [("isthmus/blake.orders", laid_isthmus_blake_orders)], narrowed := true }
def BlakePiecesUptoSaid : Prop := blakePiecesUptoRow.holds Tryd.pinned (OpenSpec.upto blakePiecesSpec)

/-- 'isthmuslaw06.BlakeRoots', WHERE WHAT IT READS IS OF BULK AT MOST 1048576: true; the input reads as it did. -/
def blakeRootsUptoRow : OpenClaim := { program := "ytfminodongcelaadoor", sum := "81b72c3a8b608907a7ce708496d6ff7d68a6117e6e11abcce27789dd0606e340", func := "isthmus/isthmuslaw06.BlakeRoots", spec := "blakeRoots", unfollowed := true, recurses := true, named := ["isthmus/blake.orders"], apart := false, laid := [("isthmus/blake.orders", laid_isthmus_blake_orders)], narrowed := true }
def BlakeRootsUptoSaid : Prop := blakeRootsUptoRow.holds Tryd.pinned (OpenSpec.upto blakeRootsSpec)

/-- 'isthmuslaw06.BlakeNil', WHERE WHAT IT READS IS OF BULK AT MOST 1048576: true; the input reads as it did. -/
def blakeNilUptoRow : OpenClaim := { program := "ytfminodongcelaadoor", sum := "81b72c3a8b608907a7ce708496d6ff7d68a6117e6e11abcce27789dd0606e340", func := "isthmus/isthmuslaw06.BlakeNil", spec := "blakeNil", unfollowed := true, recurses := true, named := ["isthmus/blake.orders"], apart := false, laid := [("isthmus/blake.orders", laid_isthmus_blake_orders)], narrowed := true }
def BlakeNilUptoSaid : Prop := blakeNilUptoRow.holds Tryd.pinned (OpenSpec.upto blakeNilSpec)

/-- 'isthmuslaw07.KdfTags', WHERE WHAT IT READS IS OF BULK AT MOST 1048576: true; the input reads as it did. -/
def kdfTagsUptoRow : OpenClaim := { program := "ytfminodongcelaadoor", sum := "81b72c3a8b608907a7ce708496d6ff7d68a6117e6e11abcce27789dd0606e340", func := "isthmus/isthmuslaw07.KdfTags", spec := "kdfTags", unfollowed := true, recurses := true, named := ["isthmus/blake.orders"], apart := false, laid := [("isthmus/blake.orders", laid_isthmus_blake_orders)], narrowed := true }
def KdfTagsUptoSaid : Prop := kdfTagsUptoRow.holds Tryd.pinned (OpenSpec.upto kdfTagsSpec)

/-- 'isthmuslaw07.KdfKeys', WHERE WHAT IT READS IS OF BULK AT MOST 1048576: true; the input reads as it did. -/
def kdfKeysUptoRow : OpenClaim := { program := "ytfminodongcelaadoor", sum := "81b72c3a8b608907a7ce708496d6ff7d68a6117e6e11abcce27789dd0606e340", func := "isthmus/isthmuslaw07.KdfKeys", spec := "kdfKeys", unfollowed := true, recurses := true, named := ["isthmus/blake.orders"], apart := false, laid := [("isthmus/blake.orders", laid_isthmus_blake_orders)], narrowed := true }
def KdfKeysUptoSaid : Prop := kdfKeysUptoRow.holds Tryd.pinned (OpenSpec.upto kdfKeysSpec)

/-- 'isthmuslaw07.KdfBegins', WHERE WHAT IT READS IS OF BULK AT MOST 1048576: true; the input reads as it did. -/
def kdfBeginsUptoRow : OpenClaim := { program := "ytfminodongcelaadoor", sum := "81b72c3a8b608907a7ce708496d6ff7d68a6117e6e11abcce27789dd0606e340", func := "isthmus/isthmuslaw07.KdfBegins", spec := "kdfBegins", unfollowed := true, recurses := true, named := ["isthmus/blake.orders"], apart := false, laid := [("isthmus/blake.orders", laid_isthmus_blake_orders)], narrowed := true }
def KdfBeginsUptoSaid : Prop := kdfBeginsUptoRow.holds Tryd.pinned (OpenSpec.upto kdfBeginsSpec)

end Rows
end Go.Proofs.YtfminodongcelaaDoor
