/-
  DERIVED. GIVEN WITH THE SEED: THE CARDS: each row of YtgdfmhdgmjogiaaDoorRows.lean that lists a variable, with what it lists TIED to the program's text (the seventh form; the later family's looks); each row that meets fmt, with fmt's text TOLD by the authors' own Lean function (tested against real Go, not proved from fmt's source: count such statements apart). THE CARD IS WHAT COUNTS. Prove the row's statement (the work); the ties are given (YtgdfmhdgmjogiaaDoorTie.lean); close each card by the builder's one call (the guide's Derived/Test/ToyasCard.lean, 'card_holds'). Laid BY PROGRAM, IN A SANDBOX (cutbox-door.mjs). By AI agents, Wed Nov 11 2026. No macro, syntax, notation, axiom, sorry.
-/
import Derived.Test.YtgdfmhdgmjogiaaDoorRows
import GoSem.ClaimSeven
namespace Go.Proofs.YtgdfmhdgmjogiaaDoor
namespace Rows

/-- THE TIED CARD OF 'nomenclatorlaw12.CandNone'. -/
def candNoneCard : Claim7 := { stood := { row := candNoneRow, standIns := [], harness := (true, "5ca51086fec67f148c3274cce2517883fd44c0826b91c3631fdf850f35c5024e"), looks := true }, kinds := [], alts := [], laidByText := true, laidKinds := [.data, .data, .data, .pinned, .pinned], laidTests := true, laidLooks := .later }
def CandNoneCardSaid : Prop := Claim7.holds Tryd.pinned (.plain (OpenSpec.ofChange candNoneSpec)) candNoneCard

/-- THE TIED CARD OF 'nomenclatorlaw11.LinkServers'. -/
def linkServersCard : Claim7 := { stood := { row := linkServersRow, standIns := [], harness := (true, "5ca51086fec67f148c3274cce2517883fd44c0826b91c3631fdf850f35c5024e"), looks := true }, kinds := [], alts := [], laidByText := true, laidKinds := [.data, .data, .data, .pinned, .pinned], laidTests := true, laidLooks := .later }
def LinkServersCardSaid : Prop := Claim7.holds Tryd.pinned (.plain (OpenSpec.ofChange linkServersSpec)) linkServersCard

/-- THE TIED CARD OF 'nomenclatorlaw11.LinkLongest'. -/
def linkLongestCard : Claim7 := { stood := { row := linkLongestRow, standIns := [], harness := (true, "5ca51086fec67f148c3274cce2517883fd44c0826b91c3631fdf850f35c5024e"), looks := true }, kinds := [], alts := [], laidByText := true, laidKinds := [.data, .data, .data, .pinned, .pinned], laidTests := true, laidLooks := .later }
def LinkLongestCardSaid : Prop := Claim7.holds Tryd.pinned (.plain (OpenSpec.ofChange linkLongestSpec)) linkLongestCard

/-- THE TIED CARD OF 'nomenclatorlaw11.LinkLocals'. -/
def linkLocalsCard : Claim7 := { stood := { row := linkLocalsRow, standIns := [], harness := (true, "5ca51086fec67f148c3274cce2517883fd44c0826b91c3631fdf850f35c5024e"), looks := true }, kinds := [], alts := [], laidByText := true, laidKinds := [.data, .data, .data, .pinned, .pinned], laidTests := true, laidLooks := .later }
def LinkLocalsCardSaid : Prop := Claim7.holds Tryd.pinned (.plain (OpenSpec.ofChange linkLocalsSpec)) linkLocalsCard

/-- THE TIED CARD OF 'nomenclatorlaw11.LinkNeighbours'. -/
def linkNeighboursCard : Claim7 := { stood := { row := linkNeighboursRow, standIns := [], harness := (true, "5ca51086fec67f148c3274cce2517883fd44c0826b91c3631fdf850f35c5024e"), looks := true }, kinds := [], alts := [], laidByText := true, laidKinds := [.data, .data, .data, .pinned, .pinned], laidTests := true, laidLooks := .later }
def LinkNeighboursCardSaid : Prop := Claim7.holds Tryd.pinned (.plain (OpenSpec.ofChange linkNeighboursSpec)) linkNeighboursCard

/-- THE TIED CARD OF 'nomenclatorlaw11.LinkRuns'. -/
def linkRunsCard : Claim7 := { stood := { row := linkRunsRow, standIns := [], harness := (true, "5ca51086fec67f148c3274cce2517883fd44c0826b91c3631fdf850f35c5024e"), looks := true }, kinds := [], alts := [], laidByText := true, laidKinds := [.data, .data, .data, .pinned, .pinned], laidTests := true, laidLooks := .later }
def LinkRunsCardSaid : Prop := Claim7.holds Tryd.pinned (.plain (OpenSpec.ofChange linkRunsSpec)) linkRunsCard

/-- THE TIED CARD OF 'nomenclatorlaw05.AddrBack'. -/
def addrBackCard : Claim7 := { stood := { row := addrBackRow, standIns := [], harness := (true, "5ca51086fec67f148c3274cce2517883fd44c0826b91c3631fdf850f35c5024e"), looks := true }, kinds := [], alts := [], laidByText := true, laidKinds := [.data, .data, .data, .data, .sentinel, .sentinel, .pinned], laidTests := true, laidLooks := .later }
def AddrBackCardSaid : Prop := Claim7.holds Tryd.pinned (.plain (OpenSpec.ofChange addrBackSpec)) addrBackCard

/-- THE TIED CARD OF 'nomenclatorlaw05.AddrTexts'. -/
def addrTextsCard : Claim7 := { stood := { row := addrTextsRow, standIns := [], harness := (true, "5ca51086fec67f148c3274cce2517883fd44c0826b91c3631fdf850f35c5024e"), looks := true }, kinds := [], alts := [], laidByText := true, laidKinds := [.data, .data, .data, .data, .sentinel, .sentinel, .pinned], laidTests := true, laidLooks := .later }
def AddrTextsCardSaid : Prop := Claim7.holds Tryd.pinned (.plain (OpenSpec.ofChange addrTextsSpec)) addrTextsCard

/-- THE TIED CARD OF 'nomenclatorlaw05.AddrFours'. -/
def addrFoursCard : Claim7 := { stood := { row := addrFoursRow, standIns := [], harness := (true, "5ca51086fec67f148c3274cce2517883fd44c0826b91c3631fdf850f35c5024e"), looks := true }, kinds := [], alts := [], laidByText := true, laidKinds := [.data, .data, .data, .data, .sentinel, .sentinel, .pinned], laidTests := true, laidLooks := .later }
def AddrFoursCardSaid : Prop := Claim7.holds Tryd.pinned (.plain (OpenSpec.ofChange addrFoursSpec)) addrFoursCard

/-- THE TIED CARD OF 'nomenclatorlaw05.AddrApart'. -/
def addrApartCard : Claim7 := { stood := { row := addrApartRow, standIns := [], harness := (true, "5ca51086fec67f148c3274cce2517883fd44c0826b91c3631fdf850f35c5024e"), looks := true }, kinds := [], alts := [], laidByText := true, laidKinds := [.data, .data, .data, .data, .sentinel, .sentinel, .pinned], laidTests := true, laidLooks := .later }
def AddrApartCardSaid : Prop := Claim7.holds Tryd.pinned (.plain (OpenSpec.ofChange addrApartSpec)) addrApartCard

/-- THE TIED CARD OF 'nomenclatorlaw05.AddrNoughts'. -/
def addrNoughtsCard : Claim7 := { stood := { row := addrNoughtsRow, standIns := [], harness := (true, "5ca51086fec67f148c3274cce2517883fd44c0826b91c3631fdf850f35c5024e"), looks := true }, kinds := [], alts := [], laidByText := true, laidKinds := [.data, .data, .data, .data, .sentinel, .sentinel, .pinned], laidTests := true, laidLooks := .later }
def AddrNoughtsCardSaid : Prop := Claim7.holds Tryd.pinned (.plain (OpenSpec.ofChange addrNoughtsSpec)) addrNoughtsCard

/-- THE TIED CARD OF 'nomenclatorlaw05.AddrShared'. -/
def addrSharedCard : Claim7 := { stood := { row := addrSharedRow, standIns := [], harness := (true, "5ca51086fec67f148c3274cce2517883fd44c0826b91c3631fdf850f35c5024e"), looks := true }, kinds := [], alts := [], laidByText := true, laidKinds := [.data, .data, .data, .data, .sentinel, .sentinel, .pinned], laidTests := true, laidLooks := .later }
def AddrSharedCardSaid : Prop := Claim7.holds Tryd.pinned (.plain (OpenSpec.ofChange addrSharedSpec)) addrSharedCard

/-- THE SECOND FORM's CARD OF 'nomenclatorlaw12.CandNone'. -/
def candNoneUptoCard : Claim7 := { stood := { row := candNoneUptoRow, standIns := [], harness := (true, "5ca51086fec67f148c3274cce2517883fd44c0826b91c3631fdf850f35c5024e"), looks := true }, kinds := [], alts := [], laidByText := true, laidKinds := [.data, .data, .data, .pinned, .pinned], laidTests := true, laidLooks := .later }
def CandNoneUptoCardSaid : Prop := Claim7.holds Tryd.pinned (.plain (OpenSpec.upto candNoneSpec)) candNoneUptoCard

/-- THE SECOND FORM's CARD OF 'nomenclatorlaw11.LinkServers'. -/
def linkServersUptoCard : Claim7 := { stood := { row := linkServersUptoRow, standIns := [], harness := (true, "5ca51086fec67f148c3274cce2517883fd44c0826b91c3631fdf850f35c5024e"), looks := true }, kinds := [], alts := [], laidByText := true, laidKinds := [.data, .data, .data, .pinned, .pinned], laidTests := true, laidLooks := .later }
def LinkServersUptoCardSaid : Prop := Claim7.holds Tryd.pinned (.plain (OpenSpec.upto linkServersSpec)) linkServersUptoCard

/-- THE SECOND FORM's CARD OF 'nomenclatorlaw11.LinkLongest'. -/
def linkLongestUptoCard : Claim7 := { stood := { row := linkLongestUptoRow, standIns := [], harness := (true, "5ca51086fec67f148c3274cce2517883fd44c0826b91c3631fdf850f35c5024e"), looks := true }, kinds := [], alts := [], laidByText := true, laidKinds := [.data, .data, .data, .pinned, .pinned], laidTests := true, laidLooks := .later }
def LinkLongestUptoCardSaid : Prop := Claim7.holds Tryd.pinned (.plain (OpenSpec.upto linkLongestSpec)) linkLongestUptoCard

/-- THE SECOND FORM's CARD OF 'nomenclatorlaw11.LinkLocals'. -/
def linkLocalsUptoCard : Claim7 := { stood := { row := linkLocalsUptoRow, standIns := [], harness := (true, "5ca51086fec67f148c3274cce2517883fd44c0826b91c3631fdf850f35c5024e"), looks := true }, kinds := [], alts := [], laidByText := true, laidKinds := [.data, .data, .data, .pinned, .pinned], laidTests := true, laidLooks := .later }
def LinkLocalsUptoCardSaid : Prop := Claim7.holds Tryd.pinned (.plain (OpenSpec.upto linkLocalsSpec)) linkLocalsUptoCard

/-- THE SECOND FORM's CARD OF 'nomenclatorlaw11.LinkNeighbours'. -/
def linkNeighboursUptoCard : Claim7 := { stood := { row := linkNeighboursUptoRow, standIns := [], harness := (true, "5ca51086fec67f148c3274cce2517883fd44c0826b91c3631fdf850f35c5024e"), looks := true }, kinds := [], alts := [], laidByText := true, laidKinds := [.data, .data, .data, .pinned, .pinned], laidTests := true, laidLooks := .later }
def LinkNeighboursUptoCardSaid : Prop := Claim7.holds Tryd.pinned (.plain (OpenSpec.upto linkNeighboursSpec)) linkNeighboursUptoCard

/-- THE SECOND FORM's CARD OF 'nomenclatorlaw11.LinkRuns'. -/
def linkRunsUptoCard : Claim7 := { stood := { row := linkRunsUptoRow, standIns := [], harness := (true, "5ca51086fec67f148c3274cce2517883fd44c0826b91c3631fdf850f35c5024e"), looks := true }, kinds := [], alts := [], laidByText := true, laidKinds := [.data, .data, .data, .pinned, .pinned], laidTests := true, laidLooks := .later }
def LinkRunsUptoCardSaid : Prop := Claim7.holds Tryd.pinned (.plain (OpenSpec.upto linkRunsSpec)) linkRunsUptoCard

/-- THE SECOND FORM's CARD OF 'nomenclatorlaw05.AddrBack'. -/
def addrBackUptoCard : Claim7 := { stood := { row := addrBackUptoRow, standIns := [], harness := (true, "5ca51086fec67f148c3274cce2517883fd44c0826b91c3631fdf850f35c5024e"), looks := true }, kinds := [], alts := [], laidByText := true, laidKinds := [.data, .data, .data, .data, .sentinel, .sentinel, .pinned], laidTests := true, laidLooks := .later }
def AddrBackUptoCardSaid : Prop := Claim7.holds Tryd.pinned (.plain (OpenSpec.upto addrBackSpec)) addrBackUptoCard

/-- THE SECOND FORM's CARD OF 'nomenclatorlaw05.AddrTexts'. -/
def addrTextsUptoCard : Claim7 := { stood := { row := addrTextsUptoRow, standIns := [], harness := (true, "5ca51086fec67f148c3274cce2517883fd44c0826b91c3631fdf850f35c5024e"), looks := true }, kinds := [], alts := [], laidByText := true, laidKinds := [.data, .data, .data, .data, .sentinel, .sentinel, .pinned], laidTests := true, laidLooks := .later }
def AddrTextsUptoCardSaid : Prop := Claim7.holds Tryd.pinned (.plain (OpenSpec.upto addrTextsSpec)) addrTextsUptoCard

/-- THE SECOND FORM's CARD OF 'nomenclatorlaw05.AddrFours'. -/
def addrFoursUptoCard : Claim7 := { stood := { row := addrFoursUptoRow, standIns := [], harness := (true, "5ca51086fec67f148c3274cce2517883fd44c0826b91c3631fdf850f35c5024e"), looks := true }, kinds := [], alts := [], laidByText := true, laidKinds := [.data, .data, .data, .data, .sentinel, .sentinel, .pinned], laidTests := true, laidLooks := .later }
def AddrFoursUptoCardSaid : Prop := Claim7.holds Tryd.pinned (.plain (OpenSpec.upto addrFoursSpec)) addrFoursUptoCard

/-- THE SECOND FORM's CARD OF 'nomenclatorlaw05.AddrApart'. -/
def addrApartUptoCard : Claim7 := { stood := { row := addrApartUptoRow, standIns := [], harness := (true, "5ca51086fec67f148c3274cce2517883fd44c0826b91c3631fdf850f35c5024e"), looks := true }, kinds := [], alts := [], laidByText := true, laidKinds := [.data, .data, .data, .data, .sentinel, .sentinel, .pinned], laidTests := true, laidLooks := .later }
def AddrApartUptoCardSaid : Prop := Claim7.holds Tryd.pinned (.plain (OpenSpec.upto addrApartSpec)) addrApartUptoCard

/-- THE SECOND FORM's CARD OF 'nomenclatorlaw05.AddrNoughts'. -/
def addrNoughtsUptoCard : Claim7 := { stood := { row := addrNoughtsUptoRow, standIns := [], harness := (true, "5ca51086fec67f148c3274cce2517883fd44c0826b91c3631fdf850f35c5024e"), looks := true }, kinds := [], alts := [], laidByText := true, laidKinds := [.data, .data, .data, .data, .sentinel, .sentinel, .pinned], laidTests := true, laidLooks := .later }
def AddrNoughtsUptoCardSaid : Prop := Claim7.holds Tryd.pinned (.plain (OpenSpec.upto addrNoughtsSpec)) addrNoughtsUptoCard

/-- THE SECOND FORM's CARD OF 'nomenclatorlaw05.AddrShared'. -/
def addrSharedUptoCard : Claim7 := { stood := { row := addrSharedUptoRow, standIns := [], harness := (true, "5ca51086fec67f148c3274cce2517883fd44c0826b91c3631fdf850f35c5024e"), looks := true }, kinds := [], alts := [], laidByText := true, laidKinds := [.data, .data, .data, .data, .sentinel, .sentinel, .pinned], laidTests := true, laidLooks := .later }
def AddrSharedUptoCardSaid : Prop := Claim7.holds Tryd.pinned (.plain (OpenSpec.upto addrSharedSpec)) addrSharedUptoCard
end Rows
end Go.Proofs.YtgdfmhdgmjogiaaDoor
