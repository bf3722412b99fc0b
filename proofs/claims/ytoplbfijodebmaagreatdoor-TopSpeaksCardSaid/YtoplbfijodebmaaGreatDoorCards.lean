/-
  DERIVED. GIVEN WITH THE SEED: THE CARDS: each row of YtoplbfijodebmaaGreatDoorRows.lean that lists a variable, with what it lists TIED to the program's text (the seventh form; the later family's looks); each row that meets fmt, with fmt's text TOLD by the authors' own Lean function (tested against real Go, not proved from fmt's source: count such statements apart). THE CARD IS WHAT COUNTS. Prove the row's statement (the work); the ties are given (YtoplbfijodebmaaGreatDoorTie.lean); close each card by the builder's one call (the guide's Derived/Test/ToyasCard.lean, 'card_holds'). Laid BY PROGRAM, IN A SANDBOX (cutbox-door.mjs). By AI agents, Wed Nov 11 2026. No macro, syntax, notation, axiom, sorry.
-/
import Derived.Test.YtoplbfijodebmaaGreatDoorRows
import GoSem.ClaimSeven
namespace Go.Proofs.YtoplbfijodebmaaGreatDoor
namespace Rows

/-- THE TIED CARD OF 'isthmustop.TopApart'. -/
def topApartCard : Claim7 := { stood := { row := topApartRow, standIns := [], harness := (true, "10c10f9aaef2fa2ef77ed2104d4f84d24df9b502324ccf04e3583b3ec2c3504e"), looks := false }, kinds := [], alts := [], laidByText := true, laidKinds := [.data], laidTests := true, laidLooks := .later }
def TopApartCardSaid : Prop := Claim7.holds Tryz.pinned (.plain (OpenSpec.ofChange topApartSpec)) topApartCard

/-- THE TIED CARD OF 'isthmustop.TopSpeaks'. -/
def topSpeaksCard : Claim7 := { stood := { row := topSpeaksRow, standIns := [], harness := (true, "10c10f9aaef2fa2ef77ed2104d4f84d24df9b502324ccf04e3583b3ec2c3504e"), looks := false }, kinds := [], alts := [], laidByText := true, laidKinds := [.data], laidTests := true, laidLooks := .later }
def TopSpeaksCardSaid : Prop := Claim7.holds Tryz.pinned (.plain (OpenSpec.ofChange topSpeaksSpec)) topSpeaksCard

/-- THE SECOND FORM's CARD OF 'isthmustop.TopApart'. -/
def topApartUptoCard : Claim7 := { stood := { row := topApartUptoRow, standIns := [], harness := (true, "10c10f9aaef2fa2ef77ed2104d4f84d24df9b502324ccf04e3583b3ec2c3504e"), looks := false }, kinds := [], alts := [], laidByText := true, laidKinds := [.data], laidTests := true, laidLooks := .later }
def TopApartUptoCardSaid : Prop := Claim7.holds Tryz.pinned (.plain (OpenSpec.upto topApartSpec)) topApartUptoCard

/-- THE SECOND FORM's CARD OF 'isthmustop.TopSpeaks'. -/
def topSpeaksUptoCard : Claim7 := { stood := { row := topSpeaksUptoRow, standIns := [], harness := (true, "10c10f9aaef2fa2ef77ed2104d4f84d24df9b502324ccf04e3583b3ec2c3504e"), looks := false }, kinds := [], alts := [], laidByText := true, laidKinds := [.data], laidTests := true, laidLooks := .later }
def TopSpeaksUptoCardSaid : Prop := Claim7.holds Tryz.pinned (.plain (OpenSpec.upto topSpeaksSpec)) topSpeaksUptoCard
end Rows
end Go.Proofs.YtoplbfijodebmaaGreatDoor
