/-
  DERIVED. GIVEN WITH THE SEED: THE CARDS: each row of YtajjoihfccnfhaaDoorRows.lean that lists a variable, with what it lists TIED to the program's text (the seventh form; the later family's looks); each row that meets fmt, with fmt's text TOLD by the authors' own Lean function (tested against real Go, not proved from fmt's source: count such statements apart). THE CARD IS WHAT COUNTS. Prove the row's statement (the work); the ties are given (YtajjoihfccnfhaaDoorTie.lean); close each card by the builder's one call (the guide's Derived/Test/ToyasCard.lean, 'card_holds'). Laid BY PROGRAM, IN A SANDBOX (cutbox-door.mjs). By AI agents, Wed Nov 11 2026. No macro, syntax, notation, axiom, sorry.
-/
import Derived.Test.YtajjoihfccnfhaaDoorRows
import GoSem.ClaimSeven
namespace Go.Proofs.YtajjoihfccnfhaaDoor
namespace Rows

/-- THE TIED CARD OF 'laws.FnExactPointText'. -/
def fnExactPointTextCard : Claim7 := { stood := { row := fnExactPointTextRow, standIns := [], harness := (true, "b1cf7410855ed105cbed20c036d4412034dc55e0ca23373385c0a42f33fc51b5"), looks := true }, kinds := [], alts := [], laidByText := true, laidKinds := [.data, .data, .data], laidTests := true, laidLooks := .later }
def FnExactPointTextCardSaid : Prop := Claim7.holds Tryd.pinned (.plain (OpenSpec.ofChange fnExactPointTextSpec)) fnExactPointTextCard

/-- THE TIED CARD OF 'laws.FnExactMatrixOfWord'. -/
def fnExactMatrixOfWordCard : Claim7 := { stood := { row := fnExactMatrixOfWordRow, standIns := [], harness := (true, "b1cf7410855ed105cbed20c036d4412034dc55e0ca23373385c0a42f33fc51b5"), looks := true }, kinds := [], alts := [], laidByText := true, laidKinds := [.data, .pinned], laidTests := true, laidLooks := .later }
def FnExactMatrixOfWordCardSaid : Prop := Claim7.holds Tryd.pinned (.plain (OpenSpec.ofChange fnExactMatrixOfWordSpec)) fnExactMatrixOfWordCard

/-- THE TIED CARD OF 'laws.FnExactAreTurns'. -/
def fnExactAreTurnsCard : Claim7 := { stood := { row := fnExactAreTurnsRow, standIns := [], harness := (true, "b1cf7410855ed105cbed20c036d4412034dc55e0ca23373385c0a42f33fc51b5"), looks := true }, kinds := [], alts := [], laidByText := true, laidKinds := [.data, .pinned], laidTests := true, laidLooks := .later }
def FnExactAreTurnsCardSaid : Prop := Claim7.holds Tryd.pinned (.plain (OpenSpec.ofChange fnExactAreTurnsSpec)) fnExactAreTurnsCard

/-- THE TIED CARD OF 'laws.FnExactPointsText'. -/
def fnExactPointsTextCard : Claim7 := { stood := { row := fnExactPointsTextRow, standIns := [], harness := (true, "b1cf7410855ed105cbed20c036d4412034dc55e0ca23373385c0a42f33fc51b5"), looks := true }, kinds := [], alts := [], laidByText := true, laidKinds := [.data, .data, .data], laidTests := true, laidLooks := .later }
def FnExactPointsTextCardSaid : Prop := Claim7.holds Tryd.pinned (.plain (OpenSpec.ofChange fnExactPointsTextSpec)) fnExactPointsTextCard

/-- THE TIED CARD OF 'laws.FnExactPeriodOf'. -/
def fnExactPeriodOfCard : Claim7 := { stood := { row := fnExactPeriodOfRow, standIns := [], harness := (true, "b1cf7410855ed105cbed20c036d4412034dc55e0ca23373385c0a42f33fc51b5"), looks := true }, kinds := [], alts := [], laidByText := true, laidKinds := [.data, .pinned], laidTests := true, laidLooks := .later }
def FnExactPeriodOfCardSaid : Prop := Claim7.holds Tryd.pinned (.plain (OpenSpec.ofChange fnExactPeriodOfSpec)) fnExactPeriodOfCard

/-- THE TIED CARD OF 'laws.FnExactParsePoint'. -/
def fnExactParsePointCard : Claim7 := { stood := { row := fnExactParsePointRow, standIns := [], harness := (true, "b1cf7410855ed105cbed20c036d4412034dc55e0ca23373385c0a42f33fc51b5"), looks := true }, kinds := [], alts := [], laidByText := true, laidKinds := [.data, .data, .data, .sentinel, .sentinel], laidTests := true, laidLooks := .later }
def FnExactParsePointCardSaid : Prop := Claim7.holds Tryd.pinned (.plain (OpenSpec.ofChange fnExactParsePointSpec)) fnExactParsePointCard

/-- THE TIED CARD OF 'laws.FnExactParsePoints'. -/
def fnExactParsePointsCard : Claim7 := { stood := { row := fnExactParsePointsRow, standIns := [], harness := (true, "b1cf7410855ed105cbed20c036d4412034dc55e0ca23373385c0a42f33fc51b5"), looks := true }, kinds := [], alts := [], laidByText := true, laidKinds := [.data, .data, .data, .data, .sentinel, .sentinel, .pinned], laidTests := true, laidLooks := .later }
def FnExactParsePointsCardSaid : Prop := Claim7.holds Tryd.pinned (.plain (OpenSpec.ofChange fnExactParsePointsSpec)) fnExactParsePointsCard

/-- THE SECOND FORM's CARD OF 'laws.FnExactPointText'. -/
def fnExactPointTextUptoCard : Claim7 := { stood := { row := fnExactPointTextUptoRow, standIns := [], harness := (true, "b1cf7410855ed105cbed20c036d4412034dc55e0ca23373385c0a42f33fc51b5"), looks := true }, kinds := [], alts := [], laidByText := true, laidKinds := [.data, .data, .data], laidTests := true, laidLooks := .later }
def FnExactPointTextUptoCardSaid : Prop := Claim7.holds Tryd.pinned (.plain (OpenSpec.upto fnExactPointTextSpec)) fnExactPointTextUptoCard

/-- THE SECOND FORM's CARD OF 'laws.FnExactMatrixOfWord'. -/
def fnExactMatrixOfWordUptoCard : Claim7 := { stood := { row := fnExactMatrixOfWordUptoRow, standIns := [], harness := (true, "b1cf7410855ed105cbed20c036d4412034dc55e0ca23373385c0a42f33fc51b5"), looks := true }, kinds := [], alts := [], laidByText := true, laidKinds := [.data, .pinned], laidTests := true, laidLooks := .later }
def FnExactMatrixOfWordUptoCardSaid : Prop := Claim7.holds Tryd.pinned (.plain (OpenSpec.upto fnExactMatrixOfWordSpec)) fnExactMatrixOfWordUptoCard

/-- THE SECOND FORM's CARD OF 'laws.FnExactAreTurns'. -/
def fnExactAreTurnsUptoCard : Claim7 := { stood := { row := fnExactAreTurnsUptoRow, standIns := [], harness := (true, "b1cf7410855ed105cbed20c036d4412034dc55e0ca23373385c0a42f33fc51b5"), looks := true }, kinds := [], alts := [], laidByText := true, laidKinds := [.data, .pinned], laidTests := true, laidLooks := .later }
def FnExactAreTurnsUptoCardSaid : Prop := Claim7.holds Tryd.pinned (.plain (OpenSpec.upto fnExactAreTurnsSpec)) fnExactAreTurnsUptoCard

/-- THE SECOND FORM's CARD OF 'laws.FnExactPointsText'. -/
def fnExactPointsTextUptoCard : Claim7 := { stood := { row := fnExactPointsTextUptoRow, standIns := [], harness := (true, "b1cf7410855ed105cbed20c036d4412034dc55e0ca23373385c0a42f33fc51b5"), looks := true }, kinds := [], alts := [], laidByText := true, laidKinds := [.data, .data, .data], laidTests := true, laidLooks := .later }
def FnExactPointsTextUptoCardSaid : Prop := Claim7.holds Tryd.pinned (.plain (OpenSpec.upto fnExactPointsTextSpec)) fnExactPointsTextUptoCard

/-- THE SECOND FORM's CARD OF 'laws.FnExactPeriodOf'. -/
def fnExactPeriodOfUptoCard : Claim7 := { stood := { row := fnExactPeriodOfUptoRow, standIns := [], harness := (true, "b1cf7410855ed105cbed20c036d4412034dc55e0ca23373385c0a42f33fc51b5"), looks := true }, kinds := [], alts := [], laidByText := true, laidKinds := [.data, .pinned], laidTests := true, laidLooks := .later }
def FnExactPeriodOfUptoCardSaid : Prop := Claim7.holds Tryd.pinned (.plain (OpenSpec.upto fnExactPeriodOfSpec)) fnExactPeriodOfUptoCard

/-- THE SECOND FORM's CARD OF 'laws.FnExactParsePoint'. -/
def fnExactParsePointUptoCard : Claim7 := { stood := { row := fnExactParsePointUptoRow, standIns := [], harness := (true, "b1cf7410855ed105cbed20c036d4412034dc55e0ca23373385c0a42f33fc51b5"), looks := true }, kinds := [], alts := [], laidByText := true, laidKinds := [.data, .data, .data, .sentinel, .sentinel], laidTests := true, laidLooks := .later }
def FnExactParsePointUptoCardSaid : Prop := Claim7.holds Tryd.pinned (.plain (OpenSpec.upto fnExactParsePointSpec)) fnExactParsePointUptoCard

/-- THE SECOND FORM's CARD OF 'laws.FnExactParsePoints'. -/
def fnExactParsePointsUptoCard : Claim7 := { stood := { row := fnExactParsePointsUptoRow, standIns := [], harness := (true, "b1cf7410855ed105cbed20c036d4412034dc55e0ca23373385c0a42f33fc51b5"), looks := true }, kinds := [], alts := [], laidByText := true, laidKinds := [.data, .data, .data, .data, .sentinel, .sentinel, .pinned], laidTests := true, laidLooks := .later }
def FnExactParsePointsUptoCardSaid : Prop := Claim7.holds Tryd.pinned (.plain (OpenSpec.upto fnExactParsePointsSpec)) fnExactParsePointsUptoCard
end Rows
end Go.Proofs.YtajjoihfccnfhaaDoor
