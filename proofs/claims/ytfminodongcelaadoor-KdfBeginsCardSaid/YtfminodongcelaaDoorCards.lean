/-
  DERIVED. GIVEN WITH THE SEED: THE CARDS: each row of YtfminodongcelaaDoorRows.lean that lists a variable, with what it lists TIED to the program's text (the seventh form; the later family's looks); each row that meets fmt, with fmt's text TOLD by the authors' own Lean function (tested against real Go, not proved from fmt's source: count such statements apart). THE CARD IS WHAT COUNTS. Prove the row's statement (the work); the ties are given (YtfminodongcelaaDoorTie.lean); close each card by the builder's one call (the guide's Derived/Test/ToyasCard.lean, 'card_holds'). Laid BY PROGRAM, IN A SANDBOX (cutbox-door.mjs). By AI agents, Wed Nov 11 2026. No macro, syntax, notation, axiom, sorry.
-/
import Derived.Test.YtfminodongcelaaDoorRows
import GoSem.ClaimSeven
namespace Go.Proofs.YtfminodongcelaaDoor
namespace Rows

/-- THE TIED CARD OF 'isthmuslaw06.BlakeSums'. -/
def blakeSumsCard : Claim7 := { stood := { row := blakeSumsRow, standIns := [], harness := (true, "fb9db02c5493408400a4f1c9800a3719dfea66a9ee598d599d330f671175d9f8"), looks := false }, kinds := [], alts := [], laidByText := true, laidKinds := [.data], laidTests := true, laidLooks := .later }
def BlakeSumsCardSaid : Prop := Claim7.holds Tryd.pinned (.plain (OpenSpec.ofChange blakeSumsSpec)) blakeSumsCard

/-- THE TIED CARD OF 'isthmuslaw06.BlakePieces'. -/
def blakePiecesCard : Claim7 := { stood := { row := blakePiecesRow, standIns := [], harness := (true, "fb9db02c5493408400a4f1c9800a3719dfea66a9ee598d599d330f671175d9f8"), looks := false }, kinds := [], alts := [], laidByText := true, laidKinds := [.data], laidTests := true, laidLooks := .later }
def BlakePiecesCardSaid : Prop := Claim7.holds Tryd.pinned (.plain (OpenSpec.ofChange blakePiecesSpec)) blakePiecesCard

/-- THE TIED CARD OF 'isthmuslaw06.BlakeRoots'. -/
def blakeRootsCard : Claim7 := { stood := { row := blakeRootsRow, standIns := [], harness := (true, "fb9db02c5493408400a4f1c9800a3719dfea66a9ee598d599d330f671175d9f8"), looks := false }, kinds := [], alts := [], laidByText := true, laidKinds := [.data], laidTests := true, laidLooks := .later }
def BlakeRootsCardSaid : Prop := Claim7.holds Tryd.pinned (.plain (OpenSpec.ofChange blakeRootsSpec)) blakeRootsCard

/-- THE TIED CARD OF 'isthmuslaw06.BlakeNil'. -/
def blakeNilCard : Claim7 := { stood := { row := blakeNilRow, standIns := [], harness := (true, "fb9db02c5493408400a4f1c9800a3719dfea66a9ee598d599d330f671175d9f8"), looks := false }, kinds := [], alts := [], laidByText := true, laidKinds := [.data], laidTests := true, laidLooks := .later }
def BlakeNilCardSaid : Prop := Claim7.holds Tryd.pinned (.plain (OpenSpec.ofChange blakeNilSpec)) blakeNilCard

/-- THE TIED CARD OF 'isthmuslaw07.KdfTags'. -/
def kdfTagsCard : Claim7 := { stood := { row := kdfTagsRow, standIns := [], harness := (true, "fb9db02c5493408400a4f1c9800a3719dfea66a9ee598d599d330f671175d9f8"), looks := false }, kinds := [], alts := [], laidByText := true, laidKinds := [.data], laidTests := true, laidLooks := .later }
def KdfTagsCardSaid : Prop := Claim7.holds Tryd.pinned (.plain (OpenSpec.ofChange kdfTagsSpec)) kdfTagsCard

/-- THE TIED CARD OF 'isthmuslaw07.KdfKeys'. -/
def kdfKeysCard : Claim7 := { stood := { row := kdfKeysRow, standIns := [], harness := (true, "fb9db02c5493408400a4f1c9800a3719dfea66a9ee598d599d330f671175d9f8"), looks := false }, kinds := [], alts := [], laidByText := true, laidKinds := [.data], laidTests := true, laidLooks := .later }
def KdfKeysCardSaid : Prop := Claim7.holds Tryd.pinned (.plain (OpenSpec.ofChange kdfKeysSpec)) kdfKeysCard

/-- THE TIED CARD OF 'isthmuslaw07.KdfBegins'. -/
def kdfBeginsCard : Claim7 := { stood := { row := kdfBeginsRow, standIns := [], harness := (true, "fb9db02c5493408400a4f1c9800a3719dfea66a9ee598d599d330f671175d9f8"), looks := false }, kinds := [], alts := [], laidByText := true, laidKinds := [.data], laidTests := true, laidLooks := .later }
def KdfBeginsCardSaid : Prop := Claim7.holds Tryd.pinned (.plain (OpenSpec.ofChange kdfBeginsSpec)) kdfBeginsCard

/-- THE SECOND FORM's CARD OF 'isthmuslaw06.BlakeSums'. -/
def blakeSumsUptoCard : Claim7 := { stood := { row := blakeSumsUptoRow, standIns := [], harness := (true, "fb9db02c5493408400a4f1c9800a3719dfea66a9ee598d599d330f671175d9f8"), looks := false }, kinds := [], alts := [], laidByText := true, laidKinds := [.data], laidTests := true, laidLooks := .later }
def BlakeSumsUptoCardSaid : Prop := Claim7.holds Tryd.pinned (.plain (OpenSpec.upto blakeSumsSpec)) blakeSumsUptoCard

/-- THE SECOND FORM's CARD OF 'isthmuslaw06.BlakePieces'. -/
def blakePiecesUptoCard : Claim7 := { stood := { row := blakePiecesUptoRow, standIns := [], harness := (true, "fb9db02c5493408400a4f1c9800a3719dfea66a9ee598d599d330f671175d9f8"), looks := false }, kinds := [], alts := [], laidByText := true, laidKinds := [.data], laidTests := true, laidLooks := .later }
def BlakePiecesUptoCardSaid : Prop := Claim7.holds Tryd.pinned (.plain (OpenSpec.upto blakePiecesSpec)) blakePiecesUptoCard

/-- THE SECOND FORM's CARD OF 'isthmuslaw06.BlakeRoots'. -/
def blakeRootsUptoCard : Claim7 := { stood := { row := blakeRootsUptoRow, standIns := [], harness := (true, "fb9db02c5493408400a4f1c9800a3719dfea66a9ee598d599d330f671175d9f8"), looks := false }, kinds := [], alts := [], laidByText := true, laidKinds := [.data], laidTests := true, laidLooks := .later }
def BlakeRootsUptoCardSaid : Prop := Claim7.holds Tryd.pinned (.plain (OpenSpec.upto blakeRootsSpec)) blakeRootsUptoCard

/-- THE SECOND FORM's CARD OF 'isthmuslaw06.BlakeNil'. -/
def blakeNilUptoCard : Claim7 := { stood := { row := blakeNilUptoRow, standIns := [], harness := (true, "fb9db02c5493408400a4f1c9800a3719dfea66a9ee598d599d330f671175d9f8"), looks := false }, kinds := [], alts := [], laidByText := true, laidKinds := [.data], laidTests := true, laidLooks := .later }
def BlakeNilUptoCardSaid : Prop := Claim7.holds Tryd.pinned (.plain (OpenSpec.upto blakeNilSpec)) blakeNilUptoCard

/-- THE SECOND FORM's CARD OF 'isthmuslaw07.KdfTags'. -/
def kdfTagsUptoCard : Claim7 := { stood := { row := kdfTagsUptoRow, standIns := [], harness := (true, "fb9db02c5493408400a4f1c9800a3719dfea66a9ee598d599d330f671175d9f8"), looks := false }, kinds := [], alts := [], laidByText := true, laidKinds := [.data], laidTests := true, laidLooks := .later }
def KdfTagsUptoCardSaid : Prop := Claim7.holds Tryd.pinned (.plain (OpenSpec.upto kdfTagsSpec)) kdfTagsUptoCard

/-- THE SECOND FORM's CARD OF 'isthmuslaw07.KdfKeys'. -/
def kdfKeysUptoCard : Claim7 := { stood := { row := kdfKeysUptoRow, standIns := [], harness := (true, "fb9db02c5493408400a4f1c9800a3719dfea66a9ee598d599d330f671175d9f8"), looks := false }, kinds := [], alts := [], laidByText := true, laidKinds := [.data], laidTests := true, laidLooks := .later }
def KdfKeysUptoCardSaid : Prop := Claim7.holds Tryd.pinned (.plain (OpenSpec.upto kdfKeysSpec)) kdfKeysUptoCard

/-- THE SECOND FORM's CARD OF 'isthmuslaw07.KdfBegins'. -/
def kdfBeginsUptoCard : Claim7 := { stood := { row := kdfBeginsUptoRow, standIns := [], harness := (true, "fb9db02c5493408400a4f1c9800a3719dfea66a9ee598d599d330f671175d9f8"), looks := false }, kinds := [], alts := [], laidByText := true, laidKinds := [.data], laidTests := true, laidLooks := .later }
def KdfBeginsUptoCardSaid : Prop := Claim7.holds Tryd.pinned (.plain (OpenSpec.upto kdfBeginsSpec)) kdfBeginsUptoCard
end Rows
end Go.Proofs.YtfminodongcelaaDoor
