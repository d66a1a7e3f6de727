/-
  DERIVED. GIVEN WITH THE SEED: THE CARDS: each row of YtmfnnhmlekdbjaaDoorRows.lean that lists a variable, with what it lists TIED to the program's text (the seventh form; the later family's looks); each row that meets fmt, with fmt's text TOLD by the authors' own Lean function (tested against real Go, not proved from fmt's source: count such statements apart). THE CARD IS WHAT COUNTS. Prove the row's statement (the work); the ties are given (YtmfnnhmlekdbjaaDoorTie.lean); close each card by the builder's one call (the guide's Derived/Test/ToyasCard.lean, 'card_holds'). Laid BY PROGRAM, IN A SANDBOX (cutbox-door.mjs). By AI agents, Wed Nov 11 2026. No macro, syntax, notation, axiom, sorry.
-/
import Derived.Test.YtmfnnhmlekdbjaaDoorRows
import GoSem.ClaimSeven
namespace Go.Proofs.YtmfnnhmlekdbjaaDoor
namespace Rows

/-- THE TIED CARD OF 'gouachelaw04.NthFits'. -/
def nthFitsCard : Claim7 := { stood := { row := nthFitsRow, standIns := [], harness := (true, "8e29e1bdafbeccea0b8e0ef1f39bcb7fb9163d4463c9e072dec5fa7dd72eb890"), looks := false }, kinds := [], alts := [], laidByText := true, laidKinds := [.data, .data, .data], laidTests := true, laidLooks := .later }
def NthFitsCardSaid : Prop := Claim7.holds Tryd.pinned (.plain (OpenSpec.ofChange nthFitsSpec)) nthFitsCard

/-- THE TIED CARD OF 'gouachelaw04.NthFirsts'. -/
def nthFirstsCard : Claim7 := { stood := { row := nthFirstsRow, standIns := [], harness := (true, "8e29e1bdafbeccea0b8e0ef1f39bcb7fb9163d4463c9e072dec5fa7dd72eb890"), looks := false }, kinds := [], alts := [], laidByText := true, laidKinds := [.data, .data, .data], laidTests := true, laidLooks := .later }
def NthFirstsCardSaid : Prop := Claim7.holds Tryd.pinned (.plain (OpenSpec.ofChange nthFirstsSpec)) nthFirstsCard

/-- THE TIED CARD OF 'gouachelaw04.NthSteps'. -/
def nthStepsCard : Claim7 := { stood := { row := nthStepsRow, standIns := [], harness := (true, "8e29e1bdafbeccea0b8e0ef1f39bcb7fb9163d4463c9e072dec5fa7dd72eb890"), looks := false }, kinds := [], alts := [], laidByText := true, laidKinds := [.data, .data, .data], laidTests := true, laidLooks := .later }
def NthStepsCardSaid : Prop := Claim7.holds Tryd.pinned (.plain (OpenSpec.ofChange nthStepsSpec)) nthStepsCard

/-- THE TIED CARD OF 'gouachelaw04.NthParses'. -/
def nthParsesCard : Claim7 := { stood := { row := nthParsesRow, standIns := [], harness := (true, "8e29e1bdafbeccea0b8e0ef1f39bcb7fb9163d4463c9e072dec5fa7dd72eb890"), looks := false }, kinds := [], alts := [], laidByText := true, laidKinds := [.data, .data, .data, .data, .pinned], laidTests := true, laidLooks := .later }
def NthParsesCardSaid : Prop := Claim7.holds Tryd.pinned (.plain (OpenSpec.ofChange nthParsesSpec)) nthParsesCard

/-- THE SECOND FORM's CARD OF 'gouachelaw04.NthFits'. -/
def nthFitsUptoCard : Claim7 := { stood := { row := nthFitsUptoRow, standIns := [], harness := (true, "8e29e1bdafbeccea0b8e0ef1f39bcb7fb9163d4463c9e072dec5fa7dd72eb890"), looks := false }, kinds := [], alts := [], laidByText := true, laidKinds := [.data, .data, .data], laidTests := true, laidLooks := .later }
def NthFitsUptoCardSaid : Prop := Claim7.holds Tryd.pinned (.plain (OpenSpec.upto nthFitsSpec)) nthFitsUptoCard

/-- THE SECOND FORM's CARD OF 'gouachelaw04.NthFirsts'. -/
def nthFirstsUptoCard : Claim7 := { stood := { row := nthFirstsUptoRow, standIns := [], harness := (true, "8e29e1bdafbeccea0b8e0ef1f39bcb7fb9163d4463c9e072dec5fa7dd72eb890"), looks := false }, kinds := [], alts := [], laidByText := true, laidKinds := [.data, .data, .data], laidTests := true, laidLooks := .later }
def NthFirstsUptoCardSaid : Prop := Claim7.holds Tryd.pinned (.plain (OpenSpec.upto nthFirstsSpec)) nthFirstsUptoCard

/-- THE SECOND FORM's CARD OF 'gouachelaw04.NthSteps'. -/
def nthStepsUptoCard : Claim7 := { stood := { row := nthStepsUptoRow, standIns := [], harness := (true, "8e29e1bdafbeccea0b8e0ef1f39bcb7fb9163d4463c9e072dec5fa7dd72eb890"), looks := false }, kinds := [], alts := [], laidByText := true, laidKinds := [.data, .data, .data], laidTests := true, laidLooks := .later }
def NthStepsUptoCardSaid : Prop := Claim7.holds Tryd.pinned (.plain (OpenSpec.upto nthStepsSpec)) nthStepsUptoCard

/-- THE SECOND FORM's CARD OF 'gouachelaw04.NthParses'. -/
def nthParsesUptoCard : Claim7 := { stood := { row := nthParsesUptoRow, standIns := [], harness := (true, "8e29e1bdafbeccea0b8e0ef1f39bcb7fb9163d4463c9e072dec5fa7dd72eb890"), looks := false }, kinds := [], alts := [], laidByText := true, laidKinds := [.data, .data, .data, .data, .pinned], laidTests := true, laidLooks := .later }
def NthParsesUptoCardSaid : Prop := Claim7.holds Tryd.pinned (.plain (OpenSpec.upto nthParsesSpec)) nthParsesUptoCard
end Rows
end Go.Proofs.YtmfnnhmlekdbjaaDoor
