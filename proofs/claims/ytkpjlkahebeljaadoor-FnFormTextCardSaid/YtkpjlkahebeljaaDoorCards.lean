/-
  DERIVED. GIVEN WITH THE SEED: THE CARDS: each row of YtkpjlkahebeljaaDoorRows.lean that lists a variable, with what it lists TIED to the program's text (the seventh form; the later family's looks); each row that meets fmt, with fmt's text TOLD by the authors' own Lean function (tested against real Go, not proved from fmt's source: count such statements apart). THE CARD IS WHAT COUNTS. Prove the row's statement (the work); the ties are given (YtkpjlkahebeljaaDoorTie.lean); close each card by the builder's one call (the guide's Derived/Test/ToyasCard.lean, 'card_holds'). Laid BY PROGRAM, IN A SANDBOX (cutbox-door.mjs). By AI agents, Wed Nov 11 2026. No macro, syntax, notation, axiom, sorry.
-/
import Derived.Test.YtkpjlkahebeljaaDoorRows
import GoSem.ClaimSeven
namespace Go.Proofs.YtkpjlkahebeljaaDoor
namespace Rows

/-- THE TIED CARD OF 'laws.FnFormText'. -/
def fnFormTextCard : Claim7 := { stood := { row := fnFormTextRow, standIns := [], harness := (true, "00ac1080b288fe271ac4d4247b3cc146528d0da8983af6210f23a794216f905e"), looks := true }, kinds := [], alts := [], laidByText := true, laidKinds := [.data, .data, .data, .data, .sentinel, .sentinel, .pinned], laidTests := true, laidLooks := .later }
def FnFormTextCardSaid : Prop := Claim7.holds Tryd.pinned (.plain (OpenSpec.ofChange fnFormTextSpec)) fnFormTextCard

/-- THE TIED CARD OF 'laws.FnExactReadForm'. -/
def fnExactReadFormCard : Claim7 := { stood := { row := fnExactReadFormRow, standIns := [], harness := (true, "00ac1080b288fe271ac4d4247b3cc146528d0da8983af6210f23a794216f905e"), looks := true }, kinds := [], alts := [], laidByText := true, laidKinds := [.data, .data, .data, .data, .sentinel, .sentinel, .pinned], laidTests := true, laidLooks := .later }
def FnExactReadFormCardSaid : Prop := Claim7.holds Tryd.pinned (.plain (OpenSpec.ofChange fnExactReadFormSpec)) fnExactReadFormCard

/-- THE TIED CARD OF 'laws.FnReadForm'. -/
def fnReadFormCard : Claim7 := { stood := { row := fnReadFormRow, standIns := [], harness := (true, "00ac1080b288fe271ac4d4247b3cc146528d0da8983af6210f23a794216f905e"), looks := true }, kinds := [], alts := [], laidByText := true, laidKinds := [.data, .data, .data, .data, .sentinel, .sentinel, .pinned], laidTests := true, laidLooks := .later }
def FnReadFormCardSaid : Prop := Claim7.holds Tryd.pinned (.plain (OpenSpec.ofChange fnReadFormSpec)) fnReadFormCard

/-- THE TIED CARD OF 'laws.FnExactFormText'. -/
def fnExactFormTextCard : Claim7 := { stood := { row := fnExactFormTextRow, standIns := [], harness := (true, "00ac1080b288fe271ac4d4247b3cc146528d0da8983af6210f23a794216f905e"), looks := true }, kinds := [], alts := [], laidByText := true, laidKinds := [.data, .data, .data], laidTests := true, laidLooks := .later }
def FnExactFormTextCardSaid : Prop := Claim7.holds Tryd.pinned (.plain (OpenSpec.ofChange fnExactFormTextSpec)) fnExactFormTextCard

/-- THE SECOND FORM's CARD OF 'laws.FnFormText'. -/
def fnFormTextUptoCard : Claim7 := { stood := { row := fnFormTextUptoRow, standIns := [], harness := (true, "00ac1080b288fe271ac4d4247b3cc146528d0da8983af6210f23a794216f905e"), looks := true }, kinds := [], alts := [], laidByText := true, laidKinds := [.data, .data, .data, .data, .sentinel, .sentinel, .pinned], laidTests := true, laidLooks := .later }
def FnFormTextUptoCardSaid : Prop := Claim7.holds Tryd.pinned (.plain (OpenSpec.upto fnFormTextSpec)) fnFormTextUptoCard

/-- THE SECOND FORM's CARD OF 'laws.FnExactReadForm'. -/
def fnExactReadFormUptoCard : Claim7 := { stood := { row := fnExactReadFormUptoRow, standIns := [], harness := (true, "00ac1080b288fe271ac4d4247b3cc146528d0da8983af6210f23a794216f905e"), looks := true }, kinds := [], alts := [], laidByText := true, laidKinds := [.data, .data, .data, .data, .sentinel, .sentinel, .pinned], laidTests := true, laidLooks := .later }
def FnExactReadFormUptoCardSaid : Prop := Claim7.holds Tryd.pinned (.plain (OpenSpec.upto fnExactReadFormSpec)) fnExactReadFormUptoCard

/-- THE SECOND FORM's CARD OF 'laws.FnReadForm'. -/
def fnReadFormUptoCard : Claim7 := { stood := { row := fnReadFormUptoRow, standIns := [], harness := (true, "00ac1080b288fe271ac4d4247b3cc146528d0da8983af6210f23a794216f905e"), looks := true }, kinds := [], alts := [], laidByText := true, laidKinds := [.data, .data, .data, .data, .sentinel, .sentinel, .pinned], laidTests := true, laidLooks := .later }
def FnReadFormUptoCardSaid : Prop := Claim7.holds Tryd.pinned (.plain (OpenSpec.upto fnReadFormSpec)) fnReadFormUptoCard

/-- THE SECOND FORM's CARD OF 'laws.FnExactFormText'. -/
def fnExactFormTextUptoCard : Claim7 := { stood := { row := fnExactFormTextUptoRow, standIns := [], harness := (true, "00ac1080b288fe271ac4d4247b3cc146528d0da8983af6210f23a794216f905e"), looks := true }, kinds := [], alts := [], laidByText := true, laidKinds := [.data, .data, .data], laidTests := true, laidLooks := .later }
def FnExactFormTextUptoCardSaid : Prop := Claim7.holds Tryd.pinned (.plain (OpenSpec.upto fnExactFormTextSpec)) fnExactFormTextUptoCard
end Rows
end Go.Proofs.YtkpjlkahebeljaaDoor
