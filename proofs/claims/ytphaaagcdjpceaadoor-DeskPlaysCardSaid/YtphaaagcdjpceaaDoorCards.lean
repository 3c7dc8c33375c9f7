/-
  DERIVED. GIVEN WITH THE SEED: THE CARDS: each row of YtphaaagcdjpceaaDoorRows.lean that lists a variable, with what it lists TIED to the program's text (the seventh form; the later family's looks); each row that meets fmt, with fmt's text TOLD by the authors' own Lean function (tested against real Go, not proved from fmt's source: count such statements apart). THE CARD IS WHAT COUNTS. Prove the row's statement (the work); the ties are given (YtphaaagcdjpceaaDoorTie.lean); close each card by the builder's one call (the guide's Derived/Test/ToyasCard.lean, 'card_holds'). Laid BY PROGRAM, IN A SANDBOX (cutbox-door.mjs). By AI agents, Wed Nov 11 2026. No macro, syntax, notation, axiom, sorry.
-/
import Derived.Test.YtphaaagcdjpceaaDoorRows
import GoSem.ClaimSeven
namespace Go.Proofs.YtphaaagcdjpceaaDoor
namespace Rows

/-- THE TIED CARD OF 'quoinlaw0.NamesNumbers'. -/
def namesNumbersCard : Claim7 := { stood := { row := namesNumbersRow, standIns := [], harness := (true, "ee3db91116da1c9ba6dbcc58df31f6da5dc8a7cd48ab2326bf19da2bbd63c912"), looks := true }, kinds := [], alts := [], laidByText := true, laidKinds := [.data, .data, .data, .handle], laidTests := true, laidLooks := .later }
def NamesNumbersCardSaid : Prop := Claim7.holds Tryd.pinned (.plain (OpenSpec.ofChange namesNumbersSpec)) namesNumbersCard

/-- THE TIED CARD OF 'quoinlaw3.PoolLeast'. -/
def poolLeastCard : Claim7 := { stood := { row := poolLeastRow, standIns := [], harness := (true, "ee3db91116da1c9ba6dbcc58df31f6da5dc8a7cd48ab2326bf19da2bbd63c912"), looks := true }, kinds := [], alts := [], laidByText := true, laidKinds := [.data, .data, .data, .handle], laidTests := true, laidLooks := .later }
def PoolLeastCardSaid : Prop := Claim7.holds Tryd.pinned (.plain (OpenSpec.ofChange poolLeastSpec)) poolLeastCard

/-- THE TIED CARD OF 'quoinlaw3.PoolPlays'. -/
def poolPlaysCard : Claim7 := { stood := { row := poolPlaysRow, standIns := [], harness := (true, "ee3db91116da1c9ba6dbcc58df31f6da5dc8a7cd48ab2326bf19da2bbd63c912"), looks := true }, kinds := [], alts := [], laidByText := true, laidKinds := [.data, .data, .data, .handle], laidTests := true, laidLooks := .later }
def PoolPlaysCardSaid : Prop := Claim7.holds Tryd.pinned (.plain (OpenSpec.ofChange poolPlaysSpec)) poolPlaysCard

/-- THE TIED CARD OF 'quoinlaw3.PoolUnlike'. -/
def poolUnlikeCard : Claim7 := { stood := { row := poolUnlikeRow, standIns := [], harness := (true, "ee3db91116da1c9ba6dbcc58df31f6da5dc8a7cd48ab2326bf19da2bbd63c912"), looks := true }, kinds := [], alts := [], laidByText := true, laidKinds := [.data, .data, .data, .handle], laidTests := true, laidLooks := .later }
def PoolUnlikeCardSaid : Prop := Claim7.holds Tryd.pinned (.plain (OpenSpec.ofChange poolUnlikeSpec)) poolUnlikeCard

/-- THE TIED CARD OF 'quoinlaw22.FragShares'. -/
def fragSharesCard : Claim7 := { stood := { row := fragSharesRow, standIns := [], harness := (true, "ee3db91116da1c9ba6dbcc58df31f6da5dc8a7cd48ab2326bf19da2bbd63c912"), looks := true }, kinds := [], alts := [], laidByText := true, laidKinds := [.data, .data, .data, .handle], laidTests := true, laidLooks := .later }
def FragSharesCardSaid : Prop := Claim7.holds Tryd.pinned (.plain (OpenSpec.ofChange fragSharesSpec)) fragSharesCard

/-- THE TIED CARD OF 'quoinlaw22.FragPins'. -/
def fragPinsCard : Claim7 := { stood := { row := fragPinsRow, standIns := [], harness := (true, "ee3db91116da1c9ba6dbcc58df31f6da5dc8a7cd48ab2326bf19da2bbd63c912"), looks := true }, kinds := [], alts := [], laidByText := true, laidKinds := [.data, .data, .data, .handle], laidTests := true, laidLooks := .later }
def FragPinsCardSaid : Prop := Claim7.holds Tryd.pinned (.plain (OpenSpec.ofChange fragPinsSpec)) fragPinsCard

/-- THE TIED CARD OF 'quoinlaw22.FragPlays'. -/
def fragPlaysCard : Claim7 := { stood := { row := fragPlaysRow, standIns := [], harness := (true, "ee3db91116da1c9ba6dbcc58df31f6da5dc8a7cd48ab2326bf19da2bbd63c912"), looks := true }, kinds := [], alts := [], laidByText := true, laidKinds := [.data, .data, .data, .handle], laidTests := true, laidLooks := .later }
def FragPlaysCardSaid : Prop := Claim7.holds Tryd.pinned (.plain (OpenSpec.ofChange fragPlaysSpec)) fragPlaysCard

/-- THE TIED CARD OF 'quoinlaw26.DeskOwns'. -/
def deskOwnsCard : Claim7 := { stood := { row := deskOwnsRow, standIns := [], harness := (true, "ee3db91116da1c9ba6dbcc58df31f6da5dc8a7cd48ab2326bf19da2bbd63c912"), looks := true }, kinds := [], alts := [], laidByText := true, laidKinds := [.data, .data, .data, .handle], laidTests := true, laidLooks := .later }
def DeskOwnsCardSaid : Prop := Claim7.holds Tryd.pinned (.plain (OpenSpec.ofChange deskOwnsSpec)) deskOwnsCard

/-- THE TIED CARD OF 'quoinlaw26.DeskPlays'. -/
def deskPlaysCard : Claim7 := { stood := { row := deskPlaysRow, standIns := [], harness := (true, "ee3db91116da1c9ba6dbcc58df31f6da5dc8a7cd48ab2326bf19da2bbd63c912"), looks := true }, kinds := [], alts := [], laidByText := true, laidKinds := [.data, .data, .data, .handle], laidTests := true, laidLooks := .later }
def DeskPlaysCardSaid : Prop := Claim7.holds Tryd.pinned (.plain (OpenSpec.ofChange deskPlaysSpec)) deskPlaysCard

/-- THE SECOND FORM's CARD OF 'quoinlaw0.NamesNumbers'. -/
def namesNumbersUptoCard : Claim7 := { stood := { row := namesNumbersUptoRow, standIns := [], harness := (true, "ee3db91116da1c9ba6dbcc58df31f6da5dc8a7cd48ab2326bf19da2bbd63c912"), looks := true }, kinds := [], alts := [], laidByText := true, laidKinds := [.data, .data, .data, .handle], laidTests := true, laidLooks := .later }
def NamesNumbersUptoCardSaid : Prop := Claim7.holds Tryd.pinned (.plain (OpenSpec.upto namesNumbersSpec)) namesNumbersUptoCard

/-- THE SECOND FORM's CARD OF 'quoinlaw3.PoolLeast'. -/
def poolLeastUptoCard : Claim7 := { stood := { row := poolLeastUptoRow, standIns := [], harness := (true, "ee3db91116da1c9ba6dbcc58df31f6da5dc8a7cd48ab2326bf19da2bbd63c912"), looks := true }, kinds := [], alts := [], laidByText := true, laidKinds := [.data, .data, .data, .handle], laidTests := true, laidLooks := .later }
def PoolLeastUptoCardSaid : Prop := Claim7.holds Tryd.pinned (.plain (OpenSpec.upto poolLeastSpec)) poolLeastUptoCard

/-- THE SECOND FORM's CARD OF 'quoinlaw3.PoolPlays'. -/
def poolPlaysUptoCard : Claim7 := { stood := { row := poolPlaysUptoRow, standIns := [], harness := (true, "ee3db91116da1c9ba6dbcc58df31f6da5dc8a7cd48ab2326bf19da2bbd63c912"), looks := true }, kinds := [], alts := [], laidByText := true, laidKinds := [.data, .data, .data, .handle], laidTests := true, laidLooks := .later }
def PoolPlaysUptoCardSaid : Prop := Claim7.holds Tryd.pinned (.plain (OpenSpec.upto poolPlaysSpec)) poolPlaysUptoCard

/-- THE SECOND FORM's CARD OF 'quoinlaw3.PoolUnlike'. -/
def poolUnlikeUptoCard : Claim7 := { stood := { row := poolUnlikeUptoRow, standIns := [], harness := (true, "ee3db91116da1c9ba6dbcc58df31f6da5dc8a7cd48ab2326bf19da2bbd63c912"), looks := true }, kinds := [], alts := [], laidByText := true, laidKinds := [.data, .data, .data, .handle], laidTests := true, laidLooks := .later }
def PoolUnlikeUptoCardSaid : Prop := Claim7.holds Tryd.pinned (.plain (OpenSpec.upto poolUnlikeSpec)) poolUnlikeUptoCard

/-- THE SECOND FORM's CARD OF 'quoinlaw22.FragShares'. -/
def fragSharesUptoCard : Claim7 := { stood := { row := fragSharesUptoRow, standIns := [], harness := (true, "ee3db91116da1c9ba6dbcc58df31f6da5dc8a7cd48ab2326bf19da2bbd63c912"), looks := true }, kinds := [], alts := [], laidByText := true, laidKinds := [.data, .data, .data, .handle], laidTests := true, laidLooks := .later }
def FragSharesUptoCardSaid : Prop := Claim7.holds Tryd.pinned (.plain (OpenSpec.upto fragSharesSpec)) fragSharesUptoCard

/-- THE SECOND FORM's CARD OF 'quoinlaw22.FragPins'. -/
def fragPinsUptoCard : Claim7 := { stood := { row := fragPinsUptoRow, standIns := [], harness := (true, "ee3db91116da1c9ba6dbcc58df31f6da5dc8a7cd48ab2326bf19da2bbd63c912"), looks := true }, kinds := [], alts := [], laidByText := true, laidKinds := [.data, .data, .data, .handle], laidTests := true, laidLooks := .later }
def FragPinsUptoCardSaid : Prop := Claim7.holds Tryd.pinned (.plain (OpenSpec.upto fragPinsSpec)) fragPinsUptoCard

/-- THE SECOND FORM's CARD OF 'quoinlaw22.FragPlays'. -/
def fragPlaysUptoCard : Claim7 := { stood := { row := fragPlaysUptoRow, standIns := [], harness := (true, "ee3db91116da1c9ba6dbcc58df31f6da5dc8a7cd48ab2326bf19da2bbd63c912"), looks := true }, kinds := [], alts := [], laidByText := true, laidKinds := [.data, .data, .data, .handle], laidTests := true, laidLooks := .later }
def FragPlaysUptoCardSaid : Prop := Claim7.holds Tryd.pinned (.plain (OpenSpec.upto fragPlaysSpec)) fragPlaysUptoCard

/-- THE SECOND FORM's CARD OF 'quoinlaw26.DeskOwns'. -/
def deskOwnsUptoCard : Claim7 := { stood := { row := deskOwnsUptoRow, standIns := [], harness := (true, "ee3db91116da1c9ba6dbcc58df31f6da5dc8a7cd48ab2326bf19da2bbd63c912"), looks := true }, kinds := [], alts := [], laidByText := true, laidKinds := [.data, .data, .data, .handle], laidTests := true, laidLooks := .later }
def DeskOwnsUptoCardSaid : Prop := Claim7.holds Tryd.pinned (.plain (OpenSpec.upto deskOwnsSpec)) deskOwnsUptoCard

/-- THE SECOND FORM's CARD OF 'quoinlaw26.DeskPlays'. -/
def deskPlaysUptoCard : Claim7 := { stood := { row := deskPlaysUptoRow, standIns := [], harness := (true, "ee3db91116da1c9ba6dbcc58df31f6da5dc8a7cd48ab2326bf19da2bbd63c912"), looks := true }, kinds := [], alts := [], laidByText := true, laidKinds := [.data, .data, .data, .handle], laidTests := true, laidLooks := .later }
def DeskPlaysUptoCardSaid : Prop := Claim7.holds Tryd.pinned (.plain (OpenSpec.upto deskPlaysSpec)) deskPlaysUptoCard
end Rows
end Go.Proofs.YtphaaagcdjpceaaDoor
