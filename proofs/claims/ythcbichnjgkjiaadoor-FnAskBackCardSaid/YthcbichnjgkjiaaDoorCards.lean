/-
  DERIVED. GIVEN WITH THE SEED: THE CARDS: each row of YthcbichnjgkjiaaDoorRows.lean that lists a variable, with what it lists TIED to the program's text (the seventh form; the later family's looks); each row that meets fmt, with fmt's text TOLD by the authors' own Lean function (tested against real Go, not proved from fmt's source: count such statements apart). THE CARD IS WHAT COUNTS. Prove the row's statement (the work); the ties are given (YthcbichnjgkjiaaDoorTie.lean); close each card by the builder's one call (the guide's Derived/Test/ToyasCard.lean, 'card_holds'). Laid BY PROGRAM, IN A SANDBOX (cutbox-door.mjs). By AI agents, Wed Nov 11 2026. No macro, syntax, notation, axiom, sorry.
-/
import Derived.Test.YthcbichnjgkjiaaDoorRows
import GoSem.ClaimSeven
namespace Go.Proofs.YthcbichnjgkjiaaDoor
namespace Rows

/-- THE TIED CARD OF 'laws.FnExactFracText'. -/
def fnExactFracTextCard : Claim7 := { stood := { row := fnExactFracTextRow, standIns := [], harness := (true, "0a32cac5be36410a6847f7342756670bd89c5a6de9d756294e4c95e694dca706"), looks := true }, kinds := [], alts := [], laidByText := true, laidKinds := [.data, .data, .data], laidTests := true, laidLooks := .later }
def FnExactFracTextCardSaid : Prop := Claim7.holds Tryd.pinned (.plain (OpenSpec.ofChange fnExactFracTextSpec)) fnExactFracTextCard

/-- THE TIED CARD OF 'laws.FnExactAskText'. -/
def fnExactAskTextCard : Claim7 := { stood := { row := fnExactAskTextRow, standIns := [], harness := (true, "0a32cac5be36410a6847f7342756670bd89c5a6de9d756294e4c95e694dca706"), looks := true }, kinds := [], alts := [], laidByText := true, laidKinds := [.data, .data, .data], laidTests := true, laidLooks := .later }
def FnExactAskTextCardSaid : Prop := Claim7.holds Tryd.pinned (.plain (OpenSpec.ofChange fnExactAskTextSpec)) fnExactAskTextCard

/-- THE TIED CARD OF 'laws.FnAskWords'. -/
def fnAskWordsCard : Claim7 := { stood := { row := fnAskWordsRow, standIns := [], harness := (true, "0a32cac5be36410a6847f7342756670bd89c5a6de9d756294e4c95e694dca706"), looks := true }, kinds := [], alts := [], laidByText := true, laidKinds := [.data, .data, .data], laidTests := true, laidLooks := .later }
def FnAskWordsCardSaid : Prop := Claim7.holds Tryd.pinned (.plain (OpenSpec.ofChange fnAskWordsSpec)) fnAskWordsCard

/-- THE TIED CARD OF 'laws.FnAskOne'. -/
def fnAskOneCard : Claim7 := { stood := { row := fnAskOneRow, standIns := [], harness := (true, "0a32cac5be36410a6847f7342756670bd89c5a6de9d756294e4c95e694dca706"), looks := true }, kinds := [], alts := [], laidByText := true, laidKinds := [.data, .data, .data], laidTests := true, laidLooks := .later }
def FnAskOneCardSaid : Prop := Claim7.holds Tryd.pinned (.plain (OpenSpec.ofChange fnAskOneSpec)) fnAskOneCard

/-- THE TIED CARD OF 'laws.FnExactFracRead'. -/
def fnExactFracReadCard : Claim7 := { stood := { row := fnExactFracReadRow, standIns := [], harness := (true, "0a32cac5be36410a6847f7342756670bd89c5a6de9d756294e4c95e694dca706"), looks := true }, kinds := [], alts := [], laidByText := true, laidKinds := [.data, .data, .data, .sentinel, .sentinel], laidTests := true, laidLooks := .later }
def FnExactFracReadCardSaid : Prop := Claim7.holds Tryd.pinned (.plain (OpenSpec.ofChange fnExactFracReadSpec)) fnExactFracReadCard

/-- THE TIED CARD OF 'laws.FnFracBack'. -/
def fnFracBackCard : Claim7 := { stood := { row := fnFracBackRow, standIns := [], harness := (true, "0a32cac5be36410a6847f7342756670bd89c5a6de9d756294e4c95e694dca706"), looks := true }, kinds := [], alts := [], laidByText := true, laidKinds := [.data, .data, .data, .sentinel, .sentinel], laidTests := true, laidLooks := .later }
def FnFracBackCardSaid : Prop := Claim7.holds Tryd.pinned (.plain (OpenSpec.ofChange fnFracBackSpec)) fnFracBackCard

/-- THE TIED CARD OF 'laws.FnFracStrict'. -/
def fnFracStrictCard : Claim7 := { stood := { row := fnFracStrictRow, standIns := [], harness := (true, "0a32cac5be36410a6847f7342756670bd89c5a6de9d756294e4c95e694dca706"), looks := true }, kinds := [], alts := [], laidByText := true, laidKinds := [.data, .data, .data, .sentinel, .sentinel], laidTests := true, laidLooks := .later }
def FnFracStrictCardSaid : Prop := Claim7.holds Tryd.pinned (.plain (OpenSpec.ofChange fnFracStrictSpec)) fnFracStrictCard

/-- THE TIED CARD OF 'laws.FnAskBack'. -/
def fnAskBackCard : Claim7 := { stood := { row := fnAskBackRow, standIns := [], harness := (true, "0a32cac5be36410a6847f7342756670bd89c5a6de9d756294e4c95e694dca706"), looks := true }, kinds := [], alts := [], laidByText := true, laidKinds := [.data, .data, .data, .data, .sentinel, .sentinel, .pinned], laidTests := true, laidLooks := .later }
def FnAskBackCardSaid : Prop := Claim7.holds Tryd.pinned (.plain (OpenSpec.ofChange fnAskBackSpec)) fnAskBackCard

/-- THE TIED CARD OF 'laws.FnExactAskRead'. -/
def fnExactAskReadCard : Claim7 := { stood := { row := fnExactAskReadRow, standIns := [], harness := (true, "0a32cac5be36410a6847f7342756670bd89c5a6de9d756294e4c95e694dca706"), looks := true }, kinds := [], alts := [], laidByText := true, laidKinds := [.data, .data, .data, .data, .sentinel, .sentinel, .pinned], laidTests := true, laidLooks := .later }
def FnExactAskReadCardSaid : Prop := Claim7.holds Tryd.pinned (.plain (OpenSpec.ofChange fnExactAskReadSpec)) fnExactAskReadCard

/-- THE TIED CARD OF 'laws.FnAskStrict'. -/
def fnAskStrictCard : Claim7 := { stood := { row := fnAskStrictRow, standIns := [], harness := (true, "0a32cac5be36410a6847f7342756670bd89c5a6de9d756294e4c95e694dca706"), looks := true }, kinds := [], alts := [], laidByText := true, laidKinds := [.data, .data, .data, .data, .sentinel, .sentinel, .pinned], laidTests := true, laidLooks := .later }
def FnAskStrictCardSaid : Prop := Claim7.holds Tryd.pinned (.plain (OpenSpec.ofChange fnAskStrictSpec)) fnAskStrictCard

/-- THE SECOND FORM's CARD OF 'laws.FnExactFracText'. -/
def fnExactFracTextUptoCard : Claim7 := { stood := { row := fnExactFracTextUptoRow, standIns := [], harness := (true, "0a32cac5be36410a6847f7342756670bd89c5a6de9d756294e4c95e694dca706"), looks := true }, kinds := [], alts := [], laidByText := true, laidKinds := [.data, .data, .data], laidTests := true, laidLooks := .later }
def FnExactFracTextUptoCardSaid : Prop := Claim7.holds Tryd.pinned (.plain (OpenSpec.upto fnExactFracTextSpec)) fnExactFracTextUptoCard

/-- THE SECOND FORM's CARD OF 'laws.FnExactAskText'. -/
def fnExactAskTextUptoCard : Claim7 := { stood := { row := fnExactAskTextUptoRow, standIns := [], harness := (true, "0a32cac5be36410a6847f7342756670bd89c5a6de9d756294e4c95e694dca706"), looks := true }, kinds := [], alts := [], laidByText := true, laidKinds := [.data, .data, .data], laidTests := true, laidLooks := .later }
def FnExactAskTextUptoCardSaid : Prop := Claim7.holds Tryd.pinned (.plain (OpenSpec.upto fnExactAskTextSpec)) fnExactAskTextUptoCard

/-- THE SECOND FORM's CARD OF 'laws.FnAskWords'. -/
def fnAskWordsUptoCard : Claim7 := { stood := { row := fnAskWordsUptoRow, standIns := [], harness := (true, "0a32cac5be36410a6847f7342756670bd89c5a6de9d756294e4c95e694dca706"), looks := true }, kinds := [], alts := [], laidByText := true, laidKinds := [.data, .data, .data], laidTests := true, laidLooks := .later }
def FnAskWordsUptoCardSaid : Prop := Claim7.holds Tryd.pinned (.plain (OpenSpec.upto fnAskWordsSpec)) fnAskWordsUptoCard

/-- THE SECOND FORM's CARD OF 'laws.FnAskOne'. -/
def fnAskOneUptoCard : Claim7 := { stood := { row := fnAskOneUptoRow, standIns := [], harness := (true, "0a32cac5be36410a6847f7342756670bd89c5a6de9d756294e4c95e694dca706"), looks := true }, kinds := [], alts := [], laidByText := true, laidKinds := [.data, .data, .data], laidTests := true, laidLooks := .later }
def FnAskOneUptoCardSaid : Prop := Claim7.holds Tryd.pinned (.plain (OpenSpec.upto fnAskOneSpec)) fnAskOneUptoCard

/-- THE SECOND FORM's CARD OF 'laws.FnExactFracRead'. -/
def fnExactFracReadUptoCard : Claim7 := { stood := { row := fnExactFracReadUptoRow, standIns := [], harness := (true, "0a32cac5be36410a6847f7342756670bd89c5a6de9d756294e4c95e694dca706"), looks := true }, kinds := [], alts := [], laidByText := true, laidKinds := [.data, .data, .data, .sentinel, .sentinel], laidTests := true, laidLooks := .later }
def FnExactFracReadUptoCardSaid : Prop := Claim7.holds Tryd.pinned (.plain (OpenSpec.upto fnExactFracReadSpec)) fnExactFracReadUptoCard

/-- THE SECOND FORM's CARD OF 'laws.FnFracBack'. -/
def fnFracBackUptoCard : Claim7 := { stood := { row := fnFracBackUptoRow, standIns := [], harness := (true, "0a32cac5be36410a6847f7342756670bd89c5a6de9d756294e4c95e694dca706"), looks := true }, kinds := [], alts := [], laidByText := true, laidKinds := [.data, .data, .data, .sentinel, .sentinel], laidTests := true, laidLooks := .later }
def FnFracBackUptoCardSaid : Prop := Claim7.holds Tryd.pinned (.plain (OpenSpec.upto fnFracBackSpec)) fnFracBackUptoCard

/-- THE SECOND FORM's CARD OF 'laws.FnFracStrict'. -/
def fnFracStrictUptoCard : Claim7 := { stood := { row := fnFracStrictUptoRow, standIns := [], harness := (true, "0a32cac5be36410a6847f7342756670bd89c5a6de9d756294e4c95e694dca706"), looks := true }, kinds := [], alts := [], laidByText := true, laidKinds := [.data, .data, .data, .sentinel, .sentinel], laidTests := true, laidLooks := .later }
def FnFracStrictUptoCardSaid : Prop := Claim7.holds Tryd.pinned (.plain (OpenSpec.upto fnFracStrictSpec)) fnFracStrictUptoCard

/-- THE SECOND FORM's CARD OF 'laws.FnAskBack'. -/
def fnAskBackUptoCard : Claim7 := { stood := { row := fnAskBackUptoRow, standIns := [], harness := (true, "0a32cac5be36410a6847f7342756670bd89c5a6de9d756294e4c95e694dca706"), looks := true }, kinds := [], alts := [], laidByText := true, laidKinds := [.data, .data, .data, .data, .sentinel, .sentinel, .pinned], laidTests := true, laidLooks := .later }
def FnAskBackUptoCardSaid : Prop := Claim7.holds Tryd.pinned (.plain (OpenSpec.upto fnAskBackSpec)) fnAskBackUptoCard

/-- THE SECOND FORM's CARD OF 'laws.FnExactAskRead'. -/
def fnExactAskReadUptoCard : Claim7 := { stood := { row := fnExactAskReadUptoRow, standIns := [], harness := (true, "0a32cac5be36410a6847f7342756670bd89c5a6de9d756294e4c95e694dca706"), looks := true }, kinds := [], alts := [], laidByText := true, laidKinds := [.data, .data, .data, .data, .sentinel, .sentinel, .pinned], laidTests := true, laidLooks := .later }
def FnExactAskReadUptoCardSaid : Prop := Claim7.holds Tryd.pinned (.plain (OpenSpec.upto fnExactAskReadSpec)) fnExactAskReadUptoCard

/-- THE SECOND FORM's CARD OF 'laws.FnAskStrict'. -/
def fnAskStrictUptoCard : Claim7 := { stood := { row := fnAskStrictUptoRow, standIns := [], harness := (true, "0a32cac5be36410a6847f7342756670bd89c5a6de9d756294e4c95e694dca706"), looks := true }, kinds := [], alts := [], laidByText := true, laidKinds := [.data, .data, .data, .data, .sentinel, .sentinel, .pinned], laidTests := true, laidLooks := .later }
def FnAskStrictUptoCardSaid : Prop := Claim7.holds Tryd.pinned (.plain (OpenSpec.upto fnAskStrictSpec)) fnAskStrictUptoCard
end Rows
end Go.Proofs.YthcbichnjgkjiaaDoor
