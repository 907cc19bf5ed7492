/-
  DERIVED. GIVEN WITH THE SEED: THE CARDS: each row of YthbofddadgmghaaGreatDoorRows.lean that lists a variable, with what it lists TIED to the program's text (the seventh form; the later family's looks); each row that meets fmt, with fmt's text TOLD by the authors' own Lean function (tested against real Go, not proved from fmt's source: count such statements apart). THE CARD IS WHAT COUNTS. Prove the row's statement (the work); the ties are given (YthbofddadgmghaaGreatDoorTie.lean); close each card by the builder's one call (the guide's Derived/Test/ToyasCard.lean, 'card_holds'). Laid BY PROGRAM, IN A SANDBOX (cutbox-door.mjs). By AI agents, Wed Nov 11 2026. No macro, syntax, notation, axiom, sorry.
-/
import Derived.Test.YthbofddadgmghaaGreatDoorRows
import GoSem.ClaimSeven
namespace Go.Proofs.YthbofddadgmghaaGreatDoor
namespace Rows

/-- THE TIED CARD OF 'pouchlaw27.PeerExact'. -/
def peerExactCard : Claim7 := { stood := { row := peerExactRow, standIns := [], harness := (true, "97be2db6dd80fe23b3ba1ef0e3c4d6ccdb50f71b7e5ff9279210252b2cbe4141"), looks := true }, kinds := [], alts := [], laidByText := true, laidKinds := [.data, .data, .data, .data, .sentinel, .sentinel, .pinned], laidTests := true, laidLooks := .later }
def PeerExactCardSaid : Prop := Claim7.holds Tryz.pinned (.plain (OpenSpec.ofChange peerExactSpec)) peerExactCard

/-- THE TIED CARD OF 'pouchlaw27.PeerTakes'. -/
def peerTakesCard : Claim7 := { stood := { row := peerTakesRow, standIns := [], harness := (true, "97be2db6dd80fe23b3ba1ef0e3c4d6ccdb50f71b7e5ff9279210252b2cbe4141"), looks := true }, kinds := [], alts := [], laidByText := true, laidKinds := [.data, .data, .data, .data, .sentinel, .sentinel, .pinned], laidTests := true, laidLooks := .later }
def PeerTakesCardSaid : Prop := Claim7.holds Tryz.pinned (.plain (OpenSpec.ofChange peerTakesSpec)) peerTakesCard

/-- THE TIED CARD OF 'pouchlaw27.PeerParts'. -/
def peerPartsCard : Claim7 := { stood := { row := peerPartsRow, standIns := [], harness := (true, "97be2db6dd80fe23b3ba1ef0e3c4d6ccdb50f71b7e5ff9279210252b2cbe4141"), looks := true }, kinds := [], alts := [], laidByText := true, laidKinds := [.data, .data, .data, .data, .sentinel, .sentinel, .pinned], laidTests := true, laidLooks := .later }
def PeerPartsCardSaid : Prop := Claim7.holds Tryz.pinned (.plain (OpenSpec.ofChange peerPartsSpec)) peerPartsCard

/-- THE TIED CARD OF 'pouchlaw20.PickJobs'. -/
def pickJobsCard : Claim7 := { stood := { row := pickJobsRow, standIns := [], harness := (true, "97be2db6dd80fe23b3ba1ef0e3c4d6ccdb50f71b7e5ff9279210252b2cbe4141"), looks := true }, kinds := [], alts := [], laidByText := true, laidKinds := [.data, .data, .data, .data, .sentinel, .sentinel, .pinned], laidTests := true, laidLooks := .later }
def PickJobsCardSaid : Prop := Claim7.holds Tryz.pinned (.plain (OpenSpec.ofChange pickJobsSpec)) pickJobsCard

/-- THE TIED CARD OF 'pouchlaw20.PickWaits'. -/
def pickWaitsCard : Claim7 := { stood := { row := pickWaitsRow, standIns := [], harness := (true, "97be2db6dd80fe23b3ba1ef0e3c4d6ccdb50f71b7e5ff9279210252b2cbe4141"), looks := true }, kinds := [], alts := [], laidByText := true, laidKinds := [.data, .data, .data, .data, .sentinel, .sentinel, .pinned], laidTests := true, laidLooks := .later }
def PickWaitsCardSaid : Prop := Claim7.holds Tryz.pinned (.plain (OpenSpec.ofChange pickWaitsSpec)) pickWaitsCard

/-- THE TIED CARD OF 'pouchlaw20.PickParts'. -/
def pickPartsCard : Claim7 := { stood := { row := pickPartsRow, standIns := [], harness := (true, "97be2db6dd80fe23b3ba1ef0e3c4d6ccdb50f71b7e5ff9279210252b2cbe4141"), looks := true }, kinds := [], alts := [], laidByText := true, laidKinds := [.data, .data, .data, .data, .sentinel, .sentinel, .pinned], laidTests := true, laidLooks := .later }
def PickPartsCardSaid : Prop := Claim7.holds Tryz.pinned (.plain (OpenSpec.ofChange pickPartsSpec)) pickPartsCard

/-- THE TIED CARD OF 'pouchlaw17.SpoolQuotas'. -/
def spoolQuotasCard : Claim7 := { stood := { row := spoolQuotasRow, standIns := [], harness := (true, "97be2db6dd80fe23b3ba1ef0e3c4d6ccdb50f71b7e5ff9279210252b2cbe4141"), looks := true }, kinds := [], alts := [], laidByText := true, laidKinds := [.data, .data, .data, .data, .sentinel, .sentinel, .pinned], laidTests := true, laidLooks := .later }
def SpoolQuotasCardSaid : Prop := Claim7.holds Tryz.pinned (.plain (OpenSpec.ofChange spoolQuotasSpec)) spoolQuotasCard

/-- THE TIED CARD OF 'pouchlaw20.PickBegins'. -/
def pickBeginsCard : Claim7 := { stood := { row := pickBeginsRow, standIns := [], harness := (true, "97be2db6dd80fe23b3ba1ef0e3c4d6ccdb50f71b7e5ff9279210252b2cbe4141"), looks := true }, kinds := [], alts := [], laidByText := true, laidKinds := [.data, .data, .data, .data, .sentinel, .sentinel, .pinned], laidTests := true, laidLooks := .later }
def PickBeginsCardSaid : Prop := Claim7.holds Tryz.pinned (.plain (OpenSpec.ofChange pickBeginsSpec)) pickBeginsCard

/-- THE TIED CARD OF 'pouchlaw17.SpoolNumbers'. -/
def spoolNumbersCard : Claim7 := { stood := { row := spoolNumbersRow, standIns := [], harness := (true, "97be2db6dd80fe23b3ba1ef0e3c4d6ccdb50f71b7e5ff9279210252b2cbe4141"), looks := true }, kinds := [], alts := [], laidByText := true, laidKinds := [.data, .data, .data, .data, .sentinel, .sentinel, .pinned], laidTests := true, laidLooks := .later }
def SpoolNumbersCardSaid : Prop := Claim7.holds Tryz.pinned (.plain (OpenSpec.ofChange spoolNumbersSpec)) spoolNumbersCard

/-- THE TIED CARD OF 'pouchlaw20.PickExpires'. -/
def pickExpiresCard : Claim7 := { stood := { row := pickExpiresRow, standIns := [], harness := (true, "97be2db6dd80fe23b3ba1ef0e3c4d6ccdb50f71b7e5ff9279210252b2cbe4141"), looks := true }, kinds := [], alts := [], laidByText := true, laidKinds := [.data, .data, .data, .data, .sentinel, .sentinel, .pinned], laidTests := true, laidLooks := .later }
def PickExpiresCardSaid : Prop := Claim7.holds Tryz.pinned (.plain (OpenSpec.ofChange pickExpiresSpec)) pickExpiresCard

/-- THE TIED CARD OF 'pouchlaw17.SpoolUses'. -/
def spoolUsesCard : Claim7 := { stood := { row := spoolUsesRow, standIns := [], harness := (true, "97be2db6dd80fe23b3ba1ef0e3c4d6ccdb50f71b7e5ff9279210252b2cbe4141"), looks := true }, kinds := [], alts := [], laidByText := true, laidKinds := [.data, .data, .data, .data, .sentinel, .sentinel, .pinned], laidTests := true, laidLooks := .later }
def SpoolUsesCardSaid : Prop := Claim7.holds Tryz.pinned (.plain (OpenSpec.ofChange spoolUsesSpec)) spoolUsesCard

/-- THE TIED CARD OF 'pouchlaw17.SpoolRooms'. -/
def spoolRoomsCard : Claim7 := { stood := { row := spoolRoomsRow, standIns := [], harness := (true, "97be2db6dd80fe23b3ba1ef0e3c4d6ccdb50f71b7e5ff9279210252b2cbe4141"), looks := true }, kinds := [], alts := [], laidByText := true, laidKinds := [.data, .data, .data, .data, .sentinel, .sentinel, .pinned], laidTests := true, laidLooks := .later }
def SpoolRoomsCardSaid : Prop := Claim7.holds Tryz.pinned (.plain (OpenSpec.ofChange spoolRoomsSpec)) spoolRoomsCard

/-- THE TIED CARD OF 'pouchlaw17.SpoolAdds'. -/
def spoolAddsCard : Claim7 := { stood := { row := spoolAddsRow, standIns := [], harness := (true, "97be2db6dd80fe23b3ba1ef0e3c4d6ccdb50f71b7e5ff9279210252b2cbe4141"), looks := true }, kinds := [], alts := [], laidByText := true, laidKinds := [.data, .data, .data, .data, .sentinel, .sentinel, .pinned], laidTests := true, laidLooks := .later }
def SpoolAddsCardSaid : Prop := Claim7.holds Tryz.pinned (.plain (OpenSpec.ofChange spoolAddsSpec)) spoolAddsCard

/-- THE TIED CARD OF 'pouchlaw17.SpoolSets'. -/
def spoolSetsCard : Claim7 := { stood := { row := spoolSetsRow, standIns := [], harness := (true, "97be2db6dd80fe23b3ba1ef0e3c4d6ccdb50f71b7e5ff9279210252b2cbe4141"), looks := true }, kinds := [], alts := [], laidByText := true, laidKinds := [.data, .data, .data, .data, .sentinel, .sentinel, .pinned], laidTests := true, laidLooks := .later }
def SpoolSetsCardSaid : Prop := Claim7.holds Tryz.pinned (.plain (OpenSpec.ofChange spoolSetsSpec)) spoolSetsCard

/-- THE TIED CARD OF 'pouchlaw17.SpoolGets'. -/
def spoolGetsCard : Claim7 := { stood := { row := spoolGetsRow, standIns := [], harness := (true, "97be2db6dd80fe23b3ba1ef0e3c4d6ccdb50f71b7e5ff9279210252b2cbe4141"), looks := true }, kinds := [], alts := [], laidByText := true, laidKinds := [.data, .data, .data, .data, .sentinel, .sentinel, .pinned], laidTests := true, laidLooks := .later }
def SpoolGetsCardSaid : Prop := Claim7.holds Tryz.pinned (.plain (OpenSpec.ofChange spoolGetsSpec)) spoolGetsCard

/-- THE TIED CARD OF 'pouchlaw17.SpoolDrops'. -/
def spoolDropsCard : Claim7 := { stood := { row := spoolDropsRow, standIns := [], harness := (true, "97be2db6dd80fe23b3ba1ef0e3c4d6ccdb50f71b7e5ff9279210252b2cbe4141"), looks := true }, kinds := [], alts := [], laidByText := true, laidKinds := [.data, .data, .data, .data, .sentinel, .sentinel, .pinned], laidTests := true, laidLooks := .later }
def SpoolDropsCardSaid : Prop := Claim7.holds Tryz.pinned (.plain (OpenSpec.ofChange spoolDropsSpec)) spoolDropsCard

/-- THE SECOND FORM's CARD OF 'pouchlaw27.PeerExact'. -/
def peerExactUptoCard : Claim7 := { stood := { row := peerExactUptoRow, standIns := [], harness := (true, "97be2db6dd80fe23b3ba1ef0e3c4d6ccdb50f71b7e5ff9279210252b2cbe4141"), looks := true }, kinds := [], alts := [], laidByText := true, laidKinds := [.data, .data, .data, .data, .sentinel, .sentinel, .pinned], laidTests := true, laidLooks := .later }
def PeerExactUptoCardSaid : Prop := Claim7.holds Tryz.pinned (.plain (OpenSpec.upto peerExactSpec)) peerExactUptoCard

/-- THE SECOND FORM's CARD OF 'pouchlaw27.PeerTakes'. -/
def peerTakesUptoCard : Claim7 := { stood := { row := peerTakesUptoRow, standIns := [], harness := (true, "97be2db6dd80fe23b3ba1ef0e3c4d6ccdb50f71b7e5ff9279210252b2cbe4141"), looks := true }, kinds := [], alts := [], laidByText := true, laidKinds := [.data, .data, .data, .data, .sentinel, .sentinel, .pinned], laidTests := true, laidLooks := .later }
def PeerTakesUptoCardSaid : Prop := Claim7.holds Tryz.pinned (.plain (OpenSpec.upto peerTakesSpec)) peerTakesUptoCard

/-- THE SECOND FORM's CARD OF 'pouchlaw27.PeerParts'. -/
def peerPartsUptoCard : Claim7 := { stood := { row := peerPartsUptoRow, standIns := [], harness := (true, "97be2db6dd80fe23b3ba1ef0e3c4d6ccdb50f71b7e5ff9279210252b2cbe4141"), looks := true }, kinds := [], alts := [], laidByText := true, laidKinds := [.data, .data, .data, .data, .sentinel, .sentinel, .pinned], laidTests := true, laidLooks := .later }
def PeerPartsUptoCardSaid : Prop := Claim7.holds Tryz.pinned (.plain (OpenSpec.upto peerPartsSpec)) peerPartsUptoCard

/-- THE SECOND FORM's CARD OF 'pouchlaw20.PickJobs'. -/
def pickJobsUptoCard : Claim7 := { stood := { row := pickJobsUptoRow, standIns := [], harness := (true, "97be2db6dd80fe23b3ba1ef0e3c4d6ccdb50f71b7e5ff9279210252b2cbe4141"), looks := true }, kinds := [], alts := [], laidByText := true, laidKinds := [.data, .data, .data, .data, .sentinel, .sentinel, .pinned], laidTests := true, laidLooks := .later }
def PickJobsUptoCardSaid : Prop := Claim7.holds Tryz.pinned (.plain (OpenSpec.upto pickJobsSpec)) pickJobsUptoCard

/-- THE SECOND FORM's CARD OF 'pouchlaw20.PickWaits'. -/
def pickWaitsUptoCard : Claim7 := { stood := { row := pickWaitsUptoRow, standIns := [], harness := (true, "97be2db6dd80fe23b3ba1ef0e3c4d6ccdb50f71b7e5ff9279210252b2cbe4141"), looks := true }, kinds := [], alts := [], laidByText := true, laidKinds := [.data, .data, .data, .data, .sentinel, .sentinel, .pinned], laidTests := true, laidLooks := .later }
def PickWaitsUptoCardSaid : Prop := Claim7.holds Tryz.pinned (.plain (OpenSpec.upto pickWaitsSpec)) pickWaitsUptoCard

/-- THE SECOND FORM's CARD OF 'pouchlaw20.PickParts'. -/
def pickPartsUptoCard : Claim7 := { stood := { row := pickPartsUptoRow, standIns := [], harness := (true, "97be2db6dd80fe23b3ba1ef0e3c4d6ccdb50f71b7e5ff9279210252b2cbe4141"), looks := true }, kinds := [], alts := [], laidByText := true, laidKinds := [.data, .data, .data, .data, .sentinel, .sentinel, .pinned], laidTests := true, laidLooks := .later }
def PickPartsUptoCardSaid : Prop := Claim7.holds Tryz.pinned (.plain (OpenSpec.upto pickPartsSpec)) pickPartsUptoCard

/-- THE SECOND FORM's CARD OF 'pouchlaw17.SpoolQuotas'. -/
def spoolQuotasUptoCard : Claim7 := { stood := { row := spoolQuotasUptoRow, standIns := [], harness := (true, "97be2db6dd80fe23b3ba1ef0e3c4d6ccdb50f71b7e5ff9279210252b2cbe4141"), looks := true }, kinds := [], alts := [], laidByText := true, laidKinds := [.data, .data, .data, .data, .sentinel, .sentinel, .pinned], laidTests := true, laidLooks := .later }
def SpoolQuotasUptoCardSaid : Prop := Claim7.holds Tryz.pinned (.plain (OpenSpec.upto spoolQuotasSpec)) spoolQuotasUptoCard

/-- THE SECOND FORM's CARD OF 'pouchlaw20.PickBegins'. -/
def pickBeginsUptoCard : Claim7 := { stood := { row := pickBeginsUptoRow, standIns := [], harness := (true, "97be2db6dd80fe23b3ba1ef0e3c4d6ccdb50f71b7e5ff9279210252b2cbe4141"), looks := true }, kinds := [], alts := [], laidByText := true, laidKinds := [.data, .data, .data, .data, .sentinel, .sentinel, .pinned], laidTests := true, laidLooks := .later }
def PickBeginsUptoCardSaid : Prop := Claim7.holds Tryz.pinned (.plain (OpenSpec.upto pickBeginsSpec)) pickBeginsUptoCard

/-- THE SECOND FORM's CARD OF 'pouchlaw17.SpoolNumbers'. -/
def spoolNumbersUptoCard : Claim7 := { stood := { row := spoolNumbersUptoRow, standIns := [], harness := (true, "97be2db6dd80fe23b3ba1ef0e3c4d6ccdb50f71b7e5ff9279210252b2cbe4141"), looks := true }, kinds := [], alts := [], laidByText := true, laidKinds := [.data, .data, .data, .data, .sentinel, .sentinel, .pinned], laidTests := true, laidLooks := .later }
def SpoolNumbersUptoCardSaid : Prop := Claim7.holds Tryz.pinned (.plain (OpenSpec.upto spoolNumbersSpec)) spoolNumbersUptoCard

/-- THE SECOND FORM's CARD OF 'pouchlaw20.PickExpires'. -/
def pickExpiresUptoCard : Claim7 := { stood := { row := pickExpiresUptoRow, standIns := [], harness := (true, "97be2db6dd80fe23b3ba1ef0e3c4d6ccdb50f71b7e5ff9279210252b2cbe4141"), looks := true }, kinds := [], alts := [], laidByText := true, laidKinds := [.data, .data, .data, .data, .sentinel, .sentinel, .pinned], laidTests := true, laidLooks := .later }
def PickExpiresUptoCardSaid : Prop := Claim7.holds Tryz.pinned (.plain (OpenSpec.upto pickExpiresSpec)) pickExpiresUptoCard

/-- THE SECOND FORM's CARD OF 'pouchlaw17.SpoolUses'. -/
def spoolUsesUptoCard : Claim7 := { stood := { row := spoolUsesUptoRow, standIns := [], harness := (true, "97be2db6dd80fe23b3ba1ef0e3c4d6ccdb50f71b7e5ff9279210252b2cbe4141"), looks := true }, kinds := [], alts := [], laidByText := true, laidKinds := [.data, .data, .data, .data, .sentinel, .sentinel, .pinned], laidTests := true, laidLooks := .later }
def SpoolUsesUptoCardSaid : Prop := Claim7.holds Tryz.pinned (.plain (OpenSpec.upto spoolUsesSpec)) spoolUsesUptoCard

/-- THE SECOND FORM's CARD OF 'pouchlaw17.SpoolRooms'. -/
def spoolRoomsUptoCard : Claim7 := { stood := { row := spoolRoomsUptoRow, standIns := [], harness := (true, "97be2db6dd80fe23b3ba1ef0e3c4d6ccdb50f71b7e5ff9279210252b2cbe4141"), looks := true }, kinds := [], alts := [], laidByText := true, laidKinds := [.data, .data, .data, .data, .sentinel, .sentinel, .pinned], laidTests := true, laidLooks := .later }
def SpoolRoomsUptoCardSaid : Prop := Claim7.holds Tryz.pinned (.plain (OpenSpec.upto spoolRoomsSpec)) spoolRoomsUptoCard

/-- THE SECOND FORM's CARD OF 'pouchlaw17.SpoolAdds'. -/
def spoolAddsUptoCard : Claim7 := { stood := { row := spoolAddsUptoRow, standIns := [], harness := (true, "97be2db6dd80fe23b3ba1ef0e3c4d6ccdb50f71b7e5ff9279210252b2cbe4141"), looks := true }, kinds := [], alts := [], laidByText := true, laidKinds := [.data, .data, .data, .data, .sentinel, .sentinel, .pinned], laidTests := true, laidLooks := .later }
def SpoolAddsUptoCardSaid : Prop := Claim7.holds Tryz.pinned (.plain (OpenSpec.upto spoolAddsSpec)) spoolAddsUptoCard

/-- THE SECOND FORM's CARD OF 'pouchlaw17.SpoolSets'. -/
def spoolSetsUptoCard : Claim7 := { stood := { row := spoolSetsUptoRow, standIns := [], harness := (true, "97be2db6dd80fe23b3ba1ef0e3c4d6ccdb50f71b7e5ff9279210252b2cbe4141"), looks := true }, kinds := [], alts := [], laidByText := true, laidKinds := [.data, .data, .data, .data, .sentinel, .sentinel, .pinned], laidTests := true, laidLooks := .later }
def SpoolSetsUptoCardSaid : Prop := Claim7.holds Tryz.pinned (.plain (OpenSpec.upto spoolSetsSpec)) spoolSetsUptoCard

/-- THE SECOND FORM's CARD OF 'pouchlaw17.SpoolGets'. -/
def spoolGetsUptoCard : Claim7 := { stood := { row := spoolGetsUptoRow, standIns := [], harness := (true, "97be2db6dd80fe23b3ba1ef0e3c4d6ccdb50f71b7e5ff9279210252b2cbe4141"), looks := true }, kinds := [], alts := [], laidByText := true, laidKinds := [.data, .data, .data, .data, .sentinel, .sentinel, .pinned], laidTests := true, laidLooks := .later }
def SpoolGetsUptoCardSaid : Prop := Claim7.holds Tryz.pinned (.plain (OpenSpec.upto spoolGetsSpec)) spoolGetsUptoCard

/-- THE SECOND FORM's CARD OF 'pouchlaw17.SpoolDrops'. -/
def spoolDropsUptoCard : Claim7 := { stood := { row := spoolDropsUptoRow, standIns := [], harness := (true, "97be2db6dd80fe23b3ba1ef0e3c4d6ccdb50f71b7e5ff9279210252b2cbe4141"), looks := true }, kinds := [], alts := [], laidByText := true, laidKinds := [.data, .data, .data, .data, .sentinel, .sentinel, .pinned], laidTests := true, laidLooks := .later }
def SpoolDropsUptoCardSaid : Prop := Claim7.holds Tryz.pinned (.plain (OpenSpec.upto spoolDropsSpec)) spoolDropsUptoCard
end Rows
end Go.Proofs.YthbofddadgmghaaGreatDoor
