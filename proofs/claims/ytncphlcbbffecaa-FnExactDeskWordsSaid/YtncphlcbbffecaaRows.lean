/-
  No cell of these rows narrows 'for every input' (looked for: loops, veiled, ifaces, maps, wideKeys, modest, calm, conditions, laid).
  DERIVED. THE GIVEN ROWS OF THIS SEAT. 16 by the template 'for every input the law returns true; each argument reads behind the call as it read before'; 0 by the template 'total and deterministic' (their statements: YtncphlcbbffecaaTotals.lean).
  GIVEN WITH THE SEED: the statements are not yours to turn. If you find one false, say at which input.
  Laid BY PROGRAM, IN A SANDBOX (cutbox-rows.mjs): the forced cells as the released guide's own fill.sh prints them over the translation a6570ab27cf51e80… (all of the seat's roots in one cut). By AI agents, Wed Nov 11 2026. No macro, syntax, notation, axiom, sorry.
-/
import Derived.Test.YtncphlcbbffecaaChecked
import GoSem.Claim
import GoSem.ClaimJoined
import GoSem.ClaimMapViews
import Derived.JoinedTies
import Derived.KernelRfl
namespace Go.Proofs.Ytncphlcbbffecaa
/- THE CELL 'sum', in the pinned program and in every row, IS THE sha256 OF THE DUMP (.gsa) THAT YtncphlcbbffecaaProg.lean LOADS. Nothing in Lean hashes anything: it is a label: what it is worth is what the hold of that sum in a sandbox is worth. -/
noncomputable def Try.pinned : Pinned := { name := "ytncphlcbbffecaa", sum := "a6570ab27cf51e80783c95f10d2ab7042aa23c878c0c52da8a76917bb73f4998", checked := Try.checked }
namespace Rows
def none {H : Type} : Left H := { results := [], args := [] }

/-- 'laws.FnExactWorldNew': WHATEVER THE INPUT: true; the input reads as it did. -/
def fnExactWorldNewSpec : ChangeSpec := { name := "fnExactWorldNew", fn := fun _ => fun
  | [d] => { results := [.lit (.bool true)], args := [d] }
  | _ => none }
def fnExactWorldNewRow : OpenClaim := { program := "ytncphlcbbffecaa", sum := "a6570ab27cf51e80783c95f10d2ab7042aa23c878c0c52da8a76917bb73f4998", func := "loop.example/concierge/laws.FnExactWorldNew", spec := "fnExactWorldNew", apart := false }
def FnExactWorldNewSaid : Prop := fnExactWorldNewRow.holds Try.pinned (OpenSpec.ofChange fnExactWorldNewSpec)

/-- ITS FALSE NEIGHBOUR: 'it returns false'. Refute it at one input. -/
def fnExactWorldNewWrong : ChangeSpec := { name := "fnExactWorldNew", fn := fun _ => fun
  | [d] => { results := [.lit (.bool false)], args := [d] }
  | _ => none }
def FnExactWorldNewWrongFalsely : Prop := fnExactWorldNewRow.holds Try.pinned (OpenSpec.ofChange fnExactWorldNewWrong)

/-- 'laws.FnWorldNew': WHATEVER THE INPUT: true; the input reads as it did. -/
def fnWorldNewSpec : ChangeSpec := { name := "fnWorldNew", fn := fun _ => fun
  | [d] => { results := [.lit (.bool true)], args := [d] }
  | _ => none }
def fnWorldNewRow : OpenClaim := { program := "ytncphlcbbffecaa", sum := "a6570ab27cf51e80783c95f10d2ab7042aa23c878c0c52da8a76917bb73f4998", func := "loop.example/concierge/laws.FnWorldNew", spec := "fnWorldNew", unfollowed := true, recurses := true, apart := false }
def FnWorldNewSaid : Prop := fnWorldNewRow.holds Try.pinned (OpenSpec.ofChange fnWorldNewSpec)

/-- ITS FALSE NEIGHBOUR: 'it returns false'. Refute it at one input. -/
def fnWorldNewWrong : ChangeSpec := { name := "fnWorldNew", fn := fun _ => fun
  | [d] => { results := [.lit (.bool false)], args := [d] }
  | _ => none }
def FnWorldNewWrongFalsely : Prop := fnWorldNewRow.holds Try.pinned (OpenSpec.ofChange fnWorldNewWrong)

/-- 'laws.FnHouseStock': WHATEVER THE INPUT: true; the input reads as it did. -/
def fnHouseStockSpec : ChangeSpec := { name := "fnHouseStock", fn := fun _ => fun
  | [d] => { results := [.lit (.bool true)], args := [d] }
  | _ => none }
def fnHouseStockRow : OpenClaim := { program := "ytncphlcbbffecaa", sum := "a6570ab27cf51e80783c95f10d2ab7042aa23c878c0c52da8a76917bb73f4998", func := "loop.example/concierge/laws.FnHouseStock", spec := "fnHouseStock", unfollowed := true, recurses := true, apart := false }
def FnHouseStockSaid : Prop := fnHouseStockRow.holds Try.pinned (OpenSpec.ofChange fnHouseStockSpec)

/-- ITS FALSE NEIGHBOUR: 'it returns false'. Refute it at one input. -/
def fnHouseStockWrong : ChangeSpec := { name := "fnHouseStock", fn := fun _ => fun
  | [d] => { results := [.lit (.bool false)], args := [d] }
  | _ => none }
def FnHouseStockWrongFalsely : Prop := fnHouseStockRow.holds Try.pinned (OpenSpec.ofChange fnHouseStockWrong)

/-- 'laws.FnExactDeskOk': WHATEVER THE INPUT: true; the input reads as it did. -/
def fnExactDeskOkSpec : ChangeSpec := { name := "fnExactDeskOk", fn := fun _ => fun
  | [d] => { results := [.lit (.bool true)], args := [d] }
  | _ => none }
def fnExactDeskOkRow : OpenClaim := { program := "ytncphlcbbffecaa", sum := "a6570ab27cf51e80783c95f10d2ab7042aa23c878c0c52da8a76917bb73f4998", func := "loop.example/concierge/laws.FnExactDeskOk", spec := "fnExactDeskOk", unfollowed := true, recurses := true, apart := false }
def FnExactDeskOkSaid : Prop := fnExactDeskOkRow.holds Try.pinned (OpenSpec.ofChange fnExactDeskOkSpec)

/-- ITS FALSE NEIGHBOUR: 'it returns false'. Refute it at one input. -/
def fnExactDeskOkWrong : ChangeSpec := { name := "fnExactDeskOk", fn := fun _ => fun
  | [d] => { results := [.lit (.bool false)], args := [d] }
  | _ => none }
def FnExactDeskOkWrongFalsely : Prop := fnExactDeskOkRow.holds Try.pinned (OpenSpec.ofChange fnExactDeskOkWrong)

/-- 'laws.FnExactDeskTrips': WHATEVER THE INPUT: true; the input reads as it did. -/
def fnExactDeskTripsSpec : ChangeSpec := { name := "fnExactDeskTrips", fn := fun _ => fun
  | [d1, d2] => { results := [.lit (.bool true)], args := [d1, d2] }
  | _ => none }
def fnExactDeskTripsRow : OpenClaim := { program := "ytncphlcbbffecaa", sum := "a6570ab27cf51e80783c95f10d2ab7042aa23c878c0c52da8a76917bb73f4998", func := "loop.example/concierge/laws.FnExactDeskTrips", spec := "fnExactDeskTrips", unfollowed := true, recurses := true, apart := false }
def FnExactDeskTripsSaid : Prop := fnExactDeskTripsRow.holds Try.pinned (OpenSpec.ofChange fnExactDeskTripsSpec)

/-- ITS FALSE NEIGHBOUR: 'it returns false'. Refute it at one input. -/
def fnExactDeskTripsWrong : ChangeSpec := { name := "fnExactDeskTrips", fn := fun _ => fun
  | [d1, d2] => { results := [.lit (.bool false)], args := [d1, d2] }
  | _ => none }
def FnExactDeskTripsWrongFalsely : Prop := fnExactDeskTripsRow.holds Try.pinned (OpenSpec.ofChange fnExactDeskTripsWrong)

/-- 'laws.FnExactDeskWords': WHATEVER THE INPUT: true; the input reads as it did. -/
def fnExactDeskWordsSpec : ChangeSpec := { name := "fnExactDeskWords", fn := fun _ => fun
  | [d] => { results := [.lit (.bool true)], args := [d] }
  | _ => none }
def fnExactDeskWordsRow : OpenClaim := { program := "ytncphlcbbffecaa", sum := "a6570ab27cf51e80783c95f10d2ab7042aa23c878c0c52da8a76917bb73f4998", func := "loop.example/concierge/laws.FnExactDeskWords", spec := "fnExactDeskWords", unfollowed := true, recurses := true, apart := false }
def FnExactDeskWordsSaid : Prop := fnExactDeskWordsRow.holds Try.pinned (OpenSpec.ofChange fnExactDeskWordsSpec)

/-- ITS FALSE NEIGHBOUR: 'it returns false'. Refute it at one input. -/
def fnExactDeskWordsWrong : ChangeSpec := { name := "fnExactDeskWords", fn := fun _ => fun
  | [d] => { results := [.lit (.bool false)], args := [d] }
  | _ => none }
def FnExactDeskWordsWrongFalsely : Prop := fnExactDeskWordsRow.holds Try.pinned (OpenSpec.ofChange fnExactDeskWordsWrong)

/-- 'laws.FnExactDeskRise': WHATEVER THE INPUT: true; the input reads as it did. -/
def fnExactDeskRiseSpec : ChangeSpec := { name := "fnExactDeskRise", fn := fun _ => fun
  | [d] => { results := [.lit (.bool true)], args := [d] }
  | _ => none }
def fnExactDeskRiseRow : OpenClaim := { program := "ytncphlcbbffecaa", sum := "a6570ab27cf51e80783c95f10d2ab7042aa23c878c0c52da8a76917bb73f4998", func := "loop.example/concierge/laws.FnExactDeskRise", spec := "fnExactDeskRise", unfollowed := true, recurses := true, apart := false }
def FnExactDeskRiseSaid : Prop := fnExactDeskRiseRow.holds Try.pinned (OpenSpec.ofChange fnExactDeskRiseSpec)

/-- ITS FALSE NEIGHBOUR: 'it returns false'. Refute it at one input. -/
def fnExactDeskRiseWrong : ChangeSpec := { name := "fnExactDeskRise", fn := fun _ => fun
  | [d] => { results := [.lit (.bool false)], args := [d] }
  | _ => none }
def FnExactDeskRiseWrongFalsely : Prop := fnExactDeskRiseRow.holds Try.pinned (OpenSpec.ofChange fnExactDeskRiseWrong)

/-- 'laws.FnHearApart': WHATEVER THE INPUT: true; the input reads as it did. -/
def fnHearApartSpec : ChangeSpec := { name := "fnHearApart", fn := fun _ => fun
  | [d] => { results := [.lit (.bool true)], args := [d] }
  | _ => none }
def fnHearApartRow : OpenClaim := { program := "ytncphlcbbffecaa", sum := "a6570ab27cf51e80783c95f10d2ab7042aa23c878c0c52da8a76917bb73f4998", func := "loop.example/concierge/laws.FnHearApart", spec := "fnHearApart", unfollowed := true, recurses := true, apart := false }
def FnHearApartSaid : Prop := fnHearApartRow.holds Try.pinned (OpenSpec.ofChange fnHearApartSpec)

/-- ITS FALSE NEIGHBOUR: 'it returns false'. Refute it at one input. -/
def fnHearApartWrong : ChangeSpec := { name := "fnHearApart", fn := fun _ => fun
  | [d] => { results := [.lit (.bool false)], args := [d] }
  | _ => none }
def FnHearApartWrongFalsely : Prop := fnHearApartRow.holds Try.pinned (OpenSpec.ofChange fnHearApartWrong)

/-- 'laws.FnExactDeskForce': WHATEVER THE INPUT: true; the input reads as it did. -/
def fnExactDeskForceSpec : ChangeSpec := { name := "fnExactDeskForce", fn := fun _ => fun
  | [d] => { results := [.lit (.bool true)], args := [d] }
  | _ => none }
def fnExactDeskForceRow : OpenClaim := { program := "ytncphlcbbffecaa", sum := "a6570ab27cf51e80783c95f10d2ab7042aa23c878c0c52da8a76917bb73f4998", func := "loop.example/concierge/laws.FnExactDeskForce", spec := "fnExactDeskForce", unfollowed := true, recurses := true, apart := false }
def FnExactDeskForceSaid : Prop := fnExactDeskForceRow.holds Try.pinned (OpenSpec.ofChange fnExactDeskForceSpec)

/-- ITS FALSE NEIGHBOUR: 'it returns false'. Refute it at one input. -/
def fnExactDeskForceWrong : ChangeSpec := { name := "fnExactDeskForce", fn := fun _ => fun
  | [d] => { results := [.lit (.bool false)], args := [d] }
  | _ => none }
def FnExactDeskForceWrongFalsely : Prop := fnExactDeskForceRow.holds Try.pinned (OpenSpec.ofChange fnExactDeskForceWrong)

/-- 'laws.FnHearSure': WHATEVER THE INPUT: true; the input reads as it did. -/
def fnHearSureSpec : ChangeSpec := { name := "fnHearSure", fn := fun _ => fun
  | [d] => { results := [.lit (.bool true)], args := [d] }
  | _ => none }
def fnHearSureRow : OpenClaim := { program := "ytncphlcbbffecaa", sum := "a6570ab27cf51e80783c95f10d2ab7042aa23c878c0c52da8a76917bb73f4998", func := "loop.example/concierge/laws.FnHearSure", spec := "fnHearSure", unfollowed := true, recurses := true, apart := false }
def FnHearSureSaid : Prop := fnHearSureRow.holds Try.pinned (OpenSpec.ofChange fnHearSureSpec)

/-- ITS FALSE NEIGHBOUR: 'it returns false'. Refute it at one input. -/
def fnHearSureWrong : ChangeSpec := { name := "fnHearSure", fn := fun _ => fun
  | [d] => { results := [.lit (.bool false)], args := [d] }
  | _ => none }
def FnHearSureWrongFalsely : Prop := fnHearSureRow.holds Try.pinned (OpenSpec.ofChange fnHearSureWrong)

/-- 'laws.FnHearUndo': WHATEVER THE INPUT: true; the input reads as it did. -/
def fnHearUndoSpec : ChangeSpec := { name := "fnHearUndo", fn := fun _ => fun
  | [d1, d2] => { results := [.lit (.bool true)], args := [d1, d2] }
  | _ => none }
def fnHearUndoRow : OpenClaim := { program := "ytncphlcbbffecaa", sum := "a6570ab27cf51e80783c95f10d2ab7042aa23c878c0c52da8a76917bb73f4998", func := "loop.example/concierge/laws.FnHearUndo", spec := "fnHearUndo", unfollowed := true, recurses := true, apart := false }
def FnHearUndoSaid : Prop := fnHearUndoRow.holds Try.pinned (OpenSpec.ofChange fnHearUndoSpec)

/-- ITS FALSE NEIGHBOUR: 'it returns false'. Refute it at one input. -/
def fnHearUndoWrong : ChangeSpec := { name := "fnHearUndo", fn := fun _ => fun
  | [d1, d2] => { results := [.lit (.bool false)], args := [d1, d2] }
  | _ => none }
def FnHearUndoWrongFalsely : Prop := fnHearUndoRow.holds Try.pinned (OpenSpec.ofChange fnHearUndoWrong)

/-- 'laws.FnExactDeskFall': WHATEVER THE INPUT: true; the input reads as it did. -/
def fnExactDeskFallSpec : ChangeSpec := { name := "fnExactDeskFall", fn := fun _ => fun
  | [d1, d2] => { results := [.lit (.bool true)], args := [d1, d2] }
  | _ => none }
def fnExactDeskFallRow : OpenClaim := { program := "ytncphlcbbffecaa", sum := "a6570ab27cf51e80783c95f10d2ab7042aa23c878c0c52da8a76917bb73f4998", func := "loop.example/concierge/laws.FnExactDeskFall", spec := "fnExactDeskFall", unfollowed := true, recurses := true, apart := false }
def FnExactDeskFallSaid : Prop := fnExactDeskFallRow.holds Try.pinned (OpenSpec.ofChange fnExactDeskFallSpec)

/-- ITS FALSE NEIGHBOUR: 'it returns false'. Refute it at one input. -/
def fnExactDeskFallWrong : ChangeSpec := { name := "fnExactDeskFall", fn := fun _ => fun
  | [d1, d2] => { results := [.lit (.bool false)], args := [d1, d2] }
  | _ => none }
def FnExactDeskFallWrongFalsely : Prop := fnExactDeskFallRow.holds Try.pinned (OpenSpec.ofChange fnExactDeskFallWrong)

/-- 'laws.FnExactDeskGive': WHATEVER THE INPUT: true; the input reads as it did. -/
def fnExactDeskGiveSpec : ChangeSpec := { name := "fnExactDeskGive", fn := fun _ => fun
  | [d1, d2] => { results := [.lit (.bool true)], args := [d1, d2] }
  | _ => none }
def fnExactDeskGiveRow : OpenClaim := { program := "ytncphlcbbffecaa", sum := "a6570ab27cf51e80783c95f10d2ab7042aa23c878c0c52da8a76917bb73f4998", func := "loop.example/concierge/laws.FnExactDeskGive", spec := "fnExactDeskGive", unfollowed := true, recurses := true, apart := false }
def FnExactDeskGiveSaid : Prop := fnExactDeskGiveRow.holds Try.pinned (OpenSpec.ofChange fnExactDeskGiveSpec)

/-- ITS FALSE NEIGHBOUR: 'it returns false'. Refute it at one input. -/
def fnExactDeskGiveWrong : ChangeSpec := { name := "fnExactDeskGive", fn := fun _ => fun
  | [d1, d2] => { results := [.lit (.bool false)], args := [d1, d2] }
  | _ => none }
def FnExactDeskGiveWrongFalsely : Prop := fnExactDeskGiveRow.holds Try.pinned (OpenSpec.ofChange fnExactDeskGiveWrong)

/-- 'laws.FnExactDeskBegin': WHATEVER THE INPUT: true; the input reads as it did. -/
def fnExactDeskBeginSpec : ChangeSpec := { name := "fnExactDeskBegin", fn := fun _ => fun
  | [d1, d2] => { results := [.lit (.bool true)], args := [d1, d2] }
  | _ => none }
def fnExactDeskBeginRow : OpenClaim := { program := "ytncphlcbbffecaa", sum := "a6570ab27cf51e80783c95f10d2ab7042aa23c878c0c52da8a76917bb73f4998", func := "loop.example/concierge/laws.FnExactDeskBegin", spec := "fnExactDeskBegin", unfollowed := true, recurses := true, apart := false }
def FnExactDeskBeginSaid : Prop := fnExactDeskBeginRow.holds Try.pinned (OpenSpec.ofChange fnExactDeskBeginSpec)

/-- ITS FALSE NEIGHBOUR: 'it returns false'. Refute it at one input. -/
def fnExactDeskBeginWrong : ChangeSpec := { name := "fnExactDeskBegin", fn := fun _ => fun
  | [d1, d2] => { results := [.lit (.bool false)], args := [d1, d2] }
  | _ => none }
def FnExactDeskBeginWrongFalsely : Prop := fnExactDeskBeginRow.holds Try.pinned (OpenSpec.ofChange fnExactDeskBeginWrong)

/-- 'laws.FnExactWorldOk': WHATEVER THE INPUT: true; the input reads as it did. -/
def fnExactWorldOkSpec : ChangeSpec := { name := "fnExactWorldOk", fn := fun _ => fun
  | [d] => { results := [.lit (.bool true)], args := [d] }
  | _ => none }
def fnExactWorldOkRow : OpenClaim := { program := "ytncphlcbbffecaa", sum := "a6570ab27cf51e80783c95f10d2ab7042aa23c878c0c52da8a76917bb73f4998", func := "loop.example/concierge/laws.FnExactWorldOk", spec := "fnExactWorldOk", unfollowed := true, recurses := true, apart := false }
def FnExactWorldOkSaid : Prop := fnExactWorldOkRow.holds Try.pinned (OpenSpec.ofChange fnExactWorldOkSpec)

/-- ITS FALSE NEIGHBOUR: 'it returns false'. Refute it at one input. -/
def fnExactWorldOkWrong : ChangeSpec := { name := "fnExactWorldOk", fn := fun _ => fun
  | [d] => { results := [.lit (.bool false)], args := [d] }
  | _ => none }
def FnExactWorldOkWrongFalsely : Prop := fnExactWorldOkRow.holds Try.pinned (OpenSpec.ofChange fnExactWorldOkWrong)

/-- 'laws.FnExactDeskHear': WHATEVER THE INPUT: true; the input reads as it did. -/
def fnExactDeskHearSpec : ChangeSpec := { name := "fnExactDeskHear", fn := fun _ => fun
  | [d1, d2] => { results := [.lit (.bool true)], args := [d1, d2] }
  | _ => none }
def fnExactDeskHearRow : OpenClaim := { program := "ytncphlcbbffecaa", sum := "a6570ab27cf51e80783c95f10d2ab7042aa23c878c0c52da8a76917bb73f4998", func := "loop.example/concierge/laws.FnExactDeskHear", spec := "fnExactDeskHear", unfollowed := true, recurses := true, apart := false }
def FnExactDeskHearSaid : Prop := fnExactDeskHearRow.holds Try.pinned (OpenSpec.ofChange fnExactDeskHearSpec)

/-- ITS FALSE NEIGHBOUR: 'it returns false'. Refute it at one input. -/
def fnExactDeskHearWrong : ChangeSpec := { name := "fnExactDeskHear", fn := fun _ => fun
  | [d1, d2] => { results := [.lit (.bool false)], args := [d1, d2] }
  | _ => none }
def FnExactDeskHearWrongFalsely : Prop := fnExactDeskHearRow.holds Try.pinned (OpenSpec.ofChange fnExactDeskHearWrong)

/- THE SECOND FORM. 'bulk': how many values and letters a reading holds, each counted each time it is reached (what is shared counts as often as it is met; a slice's spare places count too). A statement '..UptoSaid' is the law's where the arguments, and the package variables that the reading takes, are together of bulk at most 1048576: NARROWER than '..Said'. Prove '..Said' where nothing that the law and all that it calls make is longer than what came in: it says more and counts as full. Else prove '..UptoSaid'. A law counts once. -/
mutual
def uptoBulk {H : Type} : DataW H → Nat
  | .lit (.string bytes) => bytes.length + 1
  | .lit _ => 1
  | .nil => 1
  | .ptr d => uptoBulk d + 1
  | .slice elems spare => uptoBulkAll elems + uptoBulkAll spare + 1
  | .agg parts => uptoBulkAll parts + 1
  | .iface _ d => uptoBulk d + 1
  | .map entries => uptoBulkEntries entries + 1
  | .held _ => 1
def uptoBulkAll {H : Type} : List (DataW H) → Nat
  | [] => 0
  | d :: r => uptoBulk d + uptoBulkAll r
def uptoBulkEntries {H : Type} : List (Lit × DataW H) → Nat
  | [] => 0
  | x :: r => uptoBulkEntry x + uptoBulkEntries r
def uptoBulkEntry {H : Type} : Lit × DataW H → Nat
  | (.string bytes, d) => bytes.length + uptoBulk d + 1
  | (_, d) => uptoBulk d + 1
 end
def uptoSmall : (H : Type) → List (DataW H) → Bool := fun _ ds => decide (uptoBulkAll ds ≤ 1048576)
def OpenSpec.upto (s : _root_.Go.ChangeSpec) : _root_.Go.OpenSpec := { _root_.Go.OpenSpec.ofChange s with cond := some uptoSmall }

/-- 'laws.FnExactWorldNew', WHERE WHAT IT READS IS OF BULK AT MOST 1048576: true; the input reads as it did. -/
def fnExactWorldNewUptoRow : OpenClaim := { program := "ytncphlcbbffecaa", sum := "a6570ab27cf51e80783c95f10d2ab7042aa23c878c0c52da8a76917bb73f4998", func := "loop.example/concierge/laws.FnExactWorldNew", spec := "fnExactWorldNew", apart := false, narrowed := true }
def FnExactWorldNewUptoSaid : Prop := fnExactWorldNewUptoRow.holds Try.pinned (OpenSpec.upto fnExactWorldNewSpec)

/-- 'laws.FnWorldNew', WHERE WHAT IT READS IS OF BULK AT MOST 1048576: true; the input reads as it did. -/
def fnWorldNewUptoRow : OpenClaim := { program := "ytncphlcbbffecaa", sum := "a6570ab27cf51e80783c95f10d2ab7042aa23c878c0c52da8a76917bb73f4998", func := "loop.example/concierge/laws.FnWorldNew", spec := "fnWorldNew", unfollowed := true, recurses := true, apart := false, narrowed := true }
def FnWorldNewUptoSaid : Prop := fnWorldNewUptoRow.holds Try.pinned (OpenSpec.upto fnWorldNewSpec)

/-- 'laws.FnHouseStock', WHERE WHAT IT READS IS OF BULK AT MOST 1048576: true; the input reads as it did. -/
def fnHouseStockUptoRow : OpenClaim := { program := "ytncphlcbbffecaa", sum := "a6570ab27cf51e80783c95f10d2ab7042aa23c878c0c52da8a76917bb73f4998", func := "loop.example/concierge/laws.FnHouseStock", spec := "fnHouseStock", unfollowed := true, recurses := true, apart := false, narrowed := true }
def FnHouseStockUptoSaid : Prop := fnHouseStockUptoRow.holds Try.pinned (OpenSpec.upto fnHouseStockSpec)

/-- 'laws.FnExactDeskOk', WHERE WHAT IT READS IS OF BULK AT MOST 1048576: true; the input reads as it did. -/
def fnExactDeskOkUptoRow : OpenClaim := { program := "ytncphlcbbffecaa", sum := "a6570ab27cf51e80783c95f10d2ab7042aa23c878c0c52da8a76917bb73f4998", func := "loop.example/concierge/laws.FnExactDeskOk", spec := "fnExactDeskOk", unfollowed := true, recurses := true, apart := false, narrowed := true }
def FnExactDeskOkUptoSaid : Prop := fnExactDeskOkUptoRow.holds Try.pinned (OpenSpec.upto fnExactDeskOkSpec)

/-- 'laws.FnExactDeskTrips', WHERE WHAT IT READS IS OF BULK AT MOST 1048576: true; the input reads as it did. -/
def fnExactDeskTripsUptoRow : OpenClaim := { program := "ytncphlcbbffecaa", sum := "a6570ab27cf51e80783c95f10d2ab7042aa23c878c0c52da8a76917bb73f4998", func := "loop.example/concierge/laws.FnExactDeskTrips", spec := "fnExactDeskTrips", unfollowed := true, recurses := true, apart := false, narrowed := true }
def FnExactDeskTripsUptoSaid : Prop := fnExactDeskTripsUptoRow.holds Try.pinned (OpenSpec.upto fnExactDeskTripsSpec)

/-- 'laws.FnExactDeskWords', WHERE WHAT IT READS IS OF BULK AT MOST 1048576: true; the input reads as it did. -/
def fnExactDeskWordsUptoRow : OpenClaim := { program := "ytncphlcbbffecaa", sum := "a6570ab27cf51e80783c95f10d2ab7042aa23c878c0c52da8a76917bb73f4998", func := "loop.example/concierge/laws.FnExactDeskWords", spec := "fnExactDeskWords", unfollowed := true, recurses := true, apart := false, narrowed := true }
def FnExactDeskWordsUptoSaid : Prop := fnExactDeskWordsUptoRow.holds Try.pinned (OpenSpec.upto fnExactDeskWordsSpec)

/-- 'laws.FnExactDeskRise', WHERE WHAT IT READS IS OF BULK AT MOST 1048576: true; the input reads as it did. -/
def fnExactDeskRiseUptoRow : OpenClaim := { program := "ytncphlcbbffecaa", sum := "a6570ab27cf51e80783c95f10d2ab7042aa23c878c0c52da8a76917bb73f4998", func := "loop.example/concierge/laws.FnExactDeskRise", spec := "fnExactDeskRise", unfollowed := true, recurses := true, apart := false, narrowed := true }
def FnExactDeskRiseUptoSaid : Prop := fnExactDeskRiseUptoRow.holds Try.pinned (OpenSpec.upto fnExactDeskRiseSpec)

/-- 'laws.FnHearApart', WHERE WHAT IT READS IS OF BULK AT MOST 1048576: true; the input reads as it did. -/
def fnHearApartUptoRow : OpenClaim := { program := "ytncphlcbbffecaa", sum := "a6570ab27cf51e80783c95f10d2ab7042aa23c878c0c52da8a76917bb73f4998", func := "loop.example/concierge/laws.FnHearApart", spec := "fnHearApart", unfollowed := true, recurses := true, apart := false, narrowed := true }
def FnHearApartUptoSaid : Prop := fnHearApartUptoRow.holds Try.pinned (OpenSpec.upto fnHearApartSpec)

/-- 'laws.FnExactDeskForce', WHERE WHAT IT READS IS OF BULK AT MOST 1048576: true; the input reads as it did. -/
def fnExactDeskForceUptoRow : OpenClaim := { program := "ytncphlcbbffecaa", sum := "a6570ab27cf51e80783c95f10d2ab7042aa23c878c0c52da8a76917bb73f4998", func := "loop.example/concierge/laws.FnExactDeskForce", spec := "fnExactDeskForce", unfollowed := true, recurses := true, apart := false, narrowed := true }
def FnExactDeskForceUptoSaid : Prop := fnExactDeskForceUptoRow.holds Try.pinned (OpenSpec.upto fnExactDeskForceSpec)

/-- 'laws.FnHearSure', WHERE WHAT IT READS IS OF BULK AT MOST 1048576: true; the input reads as it did. -/
def fnHearSureUptoRow : OpenClaim := { program := "ytncphlcbbffecaa", sum := "a6570ab27cf51e80783c95f10d2ab7042aa23c878c0c52da8a76917bb73f4998", func := "loop.example/concierge/laws.FnHearSure", spec := "fnHearSure", unfollowed := true, recurses := true, apart := false, narrowed := true }
def FnHearSureUptoSaid : Prop := fnHearSureUptoRow.holds Try.pinned (OpenSpec.upto fnHearSureSpec)

/-- 'laws.FnHearUndo', WHERE WHAT IT READS IS OF BULK AT MOST 1048576: true; the input reads as it did. -/
def fnHearUndoUptoRow : OpenClaim := { program := "ytncphlcbbffecaa", sum := "a6570ab27cf51e80783c95f10d2ab7042aa23c878c0c52da8a76917bb73f4998", func := "loop.example/concierge/laws.FnHearUndo", spec := "fnHearUndo", unfollowed := true, recurses := true, apart := false, narrowed := true }
def FnHearUndoUptoSaid : Prop := fnHearUndoUptoRow.holds Try.pinned (OpenSpec.upto fnHearUndoSpec)

/-- 'laws.FnExactDeskFall', WHERE WHAT IT READS IS OF BULK AT MOST 1048576: true; the input reads as it did. -/
def fnExactDeskFallUptoRow : OpenClaim := { program := "ytncphlcbbffecaa", sum := "a6570ab27cf51e80783c95f10d2ab7042aa23c878c0c52da8a76917bb73f4998", func := "loop.example/concierge/laws.FnExactDeskFall", spec := "fnExactDeskFall", unfollowed := true, recurses := true, apart := false, narrowed := true }
def FnExactDeskFallUptoSaid : Prop := fnExactDeskFallUptoRow.holds Try.pinned (OpenSpec.upto fnExactDeskFallSpec)

/-- 'laws.FnExactDeskGive', WHERE WHAT IT READS IS OF BULK AT MOST 1048576: true; the input reads as it did. -/
def fnExactDeskGiveUptoRow : OpenClaim := { program := "ytncphlcbbffecaa", sum := "a6570ab27cf51e80783c95f10d2ab7042aa23c878c0c52da8a76917bb73f4998", func := "loop.example/concierge/laws.FnExactDeskGive", spec := "fnExactDeskGive", unfollowed := true, recurses := true, apart := false, narrowed := true }
def FnExactDeskGiveUptoSaid : Prop := fnExactDeskGiveUptoRow.holds Try.pinned (OpenSpec.upto fnExactDeskGiveSpec)

/-- 'laws.FnExactDeskBegin', WHERE WHAT IT READS IS OF BULK AT MOST 1048576: true; the input reads as it did. -/
def fnExactDeskBeginUptoRow : OpenClaim := { program := "ytncphlcbbffecaa", sum := "a6570ab27cf51e80783c95f10d2ab7042aa23c878c0c52da8a76917bb73f4998", func := "loop.example/concierge/laws.FnExactDeskBegin", spec := "fnExactDeskBegin", unfollowed := true, recurses := true, apart := false, narrowed := true }
def FnExactDeskBeginUptoSaid : Prop := fnExactDeskBeginUptoRow.holds Try.pinned (OpenSpec.upto fnExactDeskBeginSpec)

/-- 'laws.FnExactWorldOk', WHERE WHAT IT READS IS OF BULK AT MOST 1048576: true; the input reads as it did. -/
def fnExactWorldOkUptoRow : OpenClaim := { program := "ytncphlcbbffecaa", sum := "a6570ab27cf51e80783c95f10d2ab7042aa23c878c0c52da8a76917bb73f4998", func := "loop.example/concierge/laws.FnExactWorldOk", spec := "fnExactWorldOk", unfollowed := true, recurses := true, apart := false, narrowed := true }
def FnExactWorldOkUptoSaid : Prop := fnExactWorldOkUptoRow.holds Try.pinned (OpenSpec.upto fnExactWorldOkSpec)

/-- 'laws.FnExactDeskHear', WHERE WHAT IT READS IS OF BULK AT MOST 1048576: true; the input reads as it did. -/
def fnExactDeskHearUptoRow : OpenClaim := { program := "ytncphlcbbffecaa", sum := "a6570ab27cf51e80783c95f10d2ab7042aa23c878c0c52da8a76917bb73f4998", func := "loop.example/concierge/laws.FnExactDeskHear", spec := "fnExactDeskHear", unfollowed := true, recurses := true, apart := false, narrowed := true }
def FnExactDeskHearUptoSaid : Prop := fnExactDeskHearUptoRow.holds Try.pinned (OpenSpec.upto fnExactDeskHearSpec)

end Rows
end Go.Proofs.Ytncphlcbbffecaa
