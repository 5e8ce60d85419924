/-
  DERIVED. GIVEN WITH THE SEED: THE CARDS: each row of YtgdfmhdgmjogiabDoorRows.lean that lists a variable, with what it lists TIED to the program's text (the seventh form; the later family's looks); each row that meets fmt, with fmt's text TOLD by the authors' own Lean function (tested against real Go, not proved from fmt's source: count such statements apart). THE CARD IS WHAT COUNTS. Prove the row's statement (the work); the ties are given (YtgdfmhdgmjogiabDoorTie.lean); close each card by the builder's one call (the guide's Derived/Test/ToyasCard.lean, 'card_holds'). Laid BY PROGRAM, IN A SANDBOX (cutbox-door.mjs). By AI agents, Wed Nov 11 2026. No macro, syntax, notation, axiom, sorry.
-/
import Derived.Test.YtgdfmhdgmjogiabDoorRows
import GoSem.ClaimSeven
namespace Go.Proofs.YtgdfmhdgmjogiabDoor
namespace Rows

/-- THE TIED CARD OF 'nomenclatorlaw05.AddrBits'. -/
def addrBitsCard : Claim7 := { stood := { row := addrBitsRow, standIns := [], harness := (true, "243924f61e336a9c2bb4b89d6a24203770263ad9a3449c2c785a29c56ecc61dd"), looks := true }, kinds := [], alts := [], laidByText := true, laidKinds := [.data, .data, .data, .data, .sentinel, .sentinel, .pinned], laidTests := true, laidLooks := .later }
def AddrBitsCardSaid : Prop := Claim7.holds Tryd.pinned (.plain (OpenSpec.ofChange addrBitsSpec)) addrBitsCard

/-- THE TIED CARD OF 'nomenclatorlaw11.LinkGens'. -/
def linkGensCard : Claim7 := { stood := { row := linkGensRow, standIns := [], harness := (true, "243924f61e336a9c2bb4b89d6a24203770263ad9a3449c2c785a29c56ecc61dd"), looks := true }, kinds := [], alts := [], laidByText := true, laidKinds := [.data, .data, .data, .pinned, .pinned], laidTests := true, laidLooks := .later }
def LinkGensCardSaid : Prop := Claim7.holds Tryd.pinned (.plain (OpenSpec.ofChange linkGensSpec)) linkGensCard

/-- THE TIED CARD OF 'nomenclatorlaw05.AddrReverses'. -/
def addrReversesCard : Claim7 := { stood := { row := addrReversesRow, standIns := [], harness := (true, "243924f61e336a9c2bb4b89d6a24203770263ad9a3449c2c785a29c56ecc61dd"), looks := true }, kinds := [], alts := [], laidByText := true, laidKinds := [.data, .data, .data, .data, .sentinel, .sentinel, .pinned], laidTests := true, laidLooks := .later }
def AddrReversesCardSaid : Prop := Claim7.holds Tryd.pinned (.plain (OpenSpec.ofChange addrReversesSpec)) addrReversesCard

/-- THE SECOND FORM's CARD OF 'nomenclatorlaw05.AddrBits'. -/
def addrBitsUptoCard : Claim7 := { stood := { row := addrBitsUptoRow, standIns := [], harness := (true, "243924f61e336a9c2bb4b89d6a24203770263ad9a3449c2c785a29c56ecc61dd"), looks := true }, kinds := [], alts := [], laidByText := true, laidKinds := [.data, .data, .data, .data, .sentinel, .sentinel, .pinned], laidTests := true, laidLooks := .later }
def AddrBitsUptoCardSaid : Prop := Claim7.holds Tryd.pinned (.plain (OpenSpec.upto addrBitsSpec)) addrBitsUptoCard

/-- THE SECOND FORM's CARD OF 'nomenclatorlaw11.LinkGens'. -/
def linkGensUptoCard : Claim7 := { stood := { row := linkGensUptoRow, standIns := [], harness := (true, "243924f61e336a9c2bb4b89d6a24203770263ad9a3449c2c785a29c56ecc61dd"), looks := true }, kinds := [], alts := [], laidByText := true, laidKinds := [.data, .data, .data, .pinned, .pinned], laidTests := true, laidLooks := .later }
def LinkGensUptoCardSaid : Prop := Claim7.holds Tryd.pinned (.plain (OpenSpec.upto linkGensSpec)) linkGensUptoCard

/-- THE SECOND FORM's CARD OF 'nomenclatorlaw05.AddrReverses'. -/
def addrReversesUptoCard : Claim7 := { stood := { row := addrReversesUptoRow, standIns := [], harness := (true, "243924f61e336a9c2bb4b89d6a24203770263ad9a3449c2c785a29c56ecc61dd"), looks := true }, kinds := [], alts := [], laidByText := true, laidKinds := [.data, .data, .data, .data, .sentinel, .sentinel, .pinned], laidTests := true, laidLooks := .later }
def AddrReversesUptoCardSaid : Prop := Claim7.holds Tryd.pinned (.plain (OpenSpec.upto addrReversesSpec)) addrReversesUptoCard
end Rows
end Go.Proofs.YtgdfmhdgmjogiabDoor
