/-
  No cell of these rows narrows 'for every input' (looked for: loops, veiled, ifaces, maps, wideKeys, modest, calm, conditions, laid).
  DERIVED. THE GIVEN ROWS OF THIS SEAT. 22 by the template 'for every input the law returns true; each argument reads behind the call as it read before'; 0 by the template 'total and deterministic' (their statements: YtjpgpepbnglhlabTotals.lean).
  GIVEN WITH THE SEED: the statements are not yours to turn. If you find one false, say at which input.
  Laid BY PROGRAM, IN A SANDBOX (cutbox-rows.mjs): the forced cells as the released guide's own fill.sh prints them over the translation 26f74f15d7b21716… (all of the seat's roots in one cut). By AI agents, Wed Nov 11 2026. No macro, syntax, notation, axiom, sorry.
-/
import Derived.Test.YtjpgpepbnglhlabChecked
import GoSem.Claim
import GoSem.ClaimJoined
import GoSem.ClaimMapViews
import Derived.JoinedTies
import Derived.KernelRfl
namespace Go.Proofs.Ytjpgpepbnglhlab
/- THE CELL 'sum', in the pinned program and in every row, IS THE sha256 OF THE DUMP (.gsa) THAT YtjpgpepbnglhlabProg.lean LOADS. Nothing in Lean hashes anything: it is a label: what it is worth is what the hold of that sum in a sandbox is worth. -/
noncomputable def Try.pinned : Pinned := { name := "ytjpgpepbnglhlab", sum := "26f74f15d7b21716b7120a0de776e9a96071be06f4844a20225ac5e7e1a482b2", checked := Try.checked }
namespace Rows
def none {H : Type} : Left H := { results := [], args := [] }

/-- 'laws.FnExactHouseFall': WHATEVER THE INPUT: true; the input reads as it did. -/
def fnExactHouseFallSpec : ChangeSpec := { name := "fnExactHouseFall", fn := fun _ => fun
  | [d1, d2] => { results := [.lit (.bool true)], args := [d1, d2] }
  | _ => none }
def fnExactHouseFallRow : OpenClaim := { program := "ytjpgpepbnglhlab", sum := "26f74f15d7b21716b7120a0de776e9a96071be06f4844a20225ac5e7e1a482b2", func := "loop.example/concierge/laws.FnExactHouseFall", spec := "fnExactHouseFall", unfollowed := true, recurses := true, apart := false }
def FnExactHouseFallSaid : Prop := fnExactHouseFallRow.holds Try.pinned (OpenSpec.ofChange fnExactHouseFallSpec)

/-- ITS FALSE NEIGHBOUR: 'it returns false'. Refute it at one input. -/
def fnExactHouseFallWrong : ChangeSpec := { name := "fnExactHouseFall", fn := fun _ => fun
  | [d1, d2] => { results := [.lit (.bool false)], args := [d1, d2] }
  | _ => none }
def FnExactHouseFallWrongFalsely : Prop := fnExactHouseFallRow.holds Try.pinned (OpenSpec.ofChange fnExactHouseFallWrong)

/-- 'laws.FnExactDeskTrips': WHATEVER THE INPUT: true; the input reads as it did. -/
def fnExactDeskTripsSpec : ChangeSpec := { name := "fnExactDeskTrips", fn := fun _ => fun
  | [d1, d2] => { results := [.lit (.bool true)], args := [d1, d2] }
  | _ => none }
def fnExactDeskTripsRow : OpenClaim := { program := "ytjpgpepbnglhlab", sum := "26f74f15d7b21716b7120a0de776e9a96071be06f4844a20225ac5e7e1a482b2", func := "loop.example/concierge/laws.FnExactDeskTrips", spec := "fnExactDeskTrips", unfollowed := true, recurses := true, apart := false }
def FnExactDeskTripsSaid : Prop := fnExactDeskTripsRow.holds Try.pinned (OpenSpec.ofChange fnExactDeskTripsSpec)

/-- ITS FALSE NEIGHBOUR: 'it returns false'. Refute it at one input. -/
def fnExactDeskTripsWrong : ChangeSpec := { name := "fnExactDeskTrips", fn := fun _ => fun
  | [d1, d2] => { results := [.lit (.bool false)], args := [d1, d2] }
  | _ => none }
def FnExactDeskTripsWrongFalsely : Prop := fnExactDeskTripsRow.holds Try.pinned (OpenSpec.ofChange fnExactDeskTripsWrong)

/-- 'laws.FnHearOther': WHATEVER THE INPUT: true; the input reads as it did. -/
def fnHearOtherSpec : ChangeSpec := { name := "fnHearOther", fn := fun _ => fun
  | [d] => { results := [.lit (.bool true)], args := [d] }
  | _ => none }
def fnHearOtherRow : OpenClaim := { program := "ytjpgpepbnglhlab", sum := "26f74f15d7b21716b7120a0de776e9a96071be06f4844a20225ac5e7e1a482b2", func := "loop.example/concierge/laws.FnHearOther", spec := "fnHearOther", unfollowed := true, recurses := true, apart := false }
def FnHearOtherSaid : Prop := fnHearOtherRow.holds Try.pinned (OpenSpec.ofChange fnHearOtherSpec)

/-- ITS FALSE NEIGHBOUR: 'it returns false'. Refute it at one input. -/
def fnHearOtherWrong : ChangeSpec := { name := "fnHearOther", fn := fun _ => fun
  | [d] => { results := [.lit (.bool false)], args := [d] }
  | _ => none }
def FnHearOtherWrongFalsely : Prop := fnHearOtherRow.holds Try.pinned (OpenSpec.ofChange fnHearOtherWrong)

/-- 'laws.FnHearTwice': WHATEVER THE INPUT: true; the input reads as it did. -/
def fnHearTwiceSpec : ChangeSpec := { name := "fnHearTwice", fn := fun _ => fun
  | [d] => { results := [.lit (.bool true)], args := [d] }
  | _ => none }
def fnHearTwiceRow : OpenClaim := { program := "ytjpgpepbnglhlab", sum := "26f74f15d7b21716b7120a0de776e9a96071be06f4844a20225ac5e7e1a482b2", func := "loop.example/concierge/laws.FnHearTwice", spec := "fnHearTwice", unfollowed := true, recurses := true, apart := false }
def FnHearTwiceSaid : Prop := fnHearTwiceRow.holds Try.pinned (OpenSpec.ofChange fnHearTwiceSpec)

/-- ITS FALSE NEIGHBOUR: 'it returns false'. Refute it at one input. -/
def fnHearTwiceWrong : ChangeSpec := { name := "fnHearTwice", fn := fun _ => fun
  | [d] => { results := [.lit (.bool false)], args := [d] }
  | _ => none }
def FnHearTwiceWrongFalsely : Prop := fnHearTwiceRow.holds Try.pinned (OpenSpec.ofChange fnHearTwiceWrong)

/-- 'laws.FnExactDeskWords': WHATEVER THE INPUT: true; the input reads as it did. -/
def fnExactDeskWordsSpec : ChangeSpec := { name := "fnExactDeskWords", fn := fun _ => fun
  | [d] => { results := [.lit (.bool true)], args := [d] }
  | _ => none }
def fnExactDeskWordsRow : OpenClaim := { program := "ytjpgpepbnglhlab", sum := "26f74f15d7b21716b7120a0de776e9a96071be06f4844a20225ac5e7e1a482b2", func := "loop.example/concierge/laws.FnExactDeskWords", spec := "fnExactDeskWords", unfollowed := true, recurses := true, apart := false }
def FnExactDeskWordsSaid : Prop := fnExactDeskWordsRow.holds Try.pinned (OpenSpec.ofChange fnExactDeskWordsSpec)

/-- ITS FALSE NEIGHBOUR: 'it returns false'. Refute it at one input. -/
def fnExactDeskWordsWrong : ChangeSpec := { name := "fnExactDeskWords", fn := fun _ => fun
  | [d] => { results := [.lit (.bool false)], args := [d] }
  | _ => none }
def FnExactDeskWordsWrongFalsely : Prop := fnExactDeskWordsRow.holds Try.pinned (OpenSpec.ofChange fnExactDeskWordsWrong)

/-- 'laws.FnExactDeskRise': WHATEVER THE INPUT: true; the input reads as it did. -/
def fnExactDeskRiseSpec : ChangeSpec := { name := "fnExactDeskRise", fn := fun _ => fun
  | [d] => { results := [.lit (.bool true)], args := [d] }
  | _ => none }
def fnExactDeskRiseRow : OpenClaim := { program := "ytjpgpepbnglhlab", sum := "26f74f15d7b21716b7120a0de776e9a96071be06f4844a20225ac5e7e1a482b2", func := "loop.example/concierge/laws.FnExactDeskRise", spec := "fnExactDeskRise", unfollowed := true, recurses := true, apart := false }
def FnExactDeskRiseSaid : Prop := fnExactDeskRiseRow.holds Try.pinned (OpenSpec.ofChange fnExactDeskRiseSpec)

/-- ITS FALSE NEIGHBOUR: 'it returns false'. Refute it at one input. -/
def fnExactDeskRiseWrong : ChangeSpec := { name := "fnExactDeskRise", fn := fun _ => fun
  | [d] => { results := [.lit (.bool false)], args := [d] }
  | _ => none }
def FnExactDeskRiseWrongFalsely : Prop := fnExactDeskRiseRow.holds Try.pinned (OpenSpec.ofChange fnExactDeskRiseWrong)

/-- 'laws.FnHearFull': WHATEVER THE INPUT: true; the input reads as it did. -/
def fnHearFullSpec : ChangeSpec := { name := "fnHearFull", fn := fun _ => fun
  | [d] => { results := [.lit (.bool true)], args := [d] }
  | _ => none }
def fnHearFullRow : OpenClaim := { program := "ytjpgpepbnglhlab", sum := "26f74f15d7b21716b7120a0de776e9a96071be06f4844a20225ac5e7e1a482b2", func := "loop.example/concierge/laws.FnHearFull", spec := "fnHearFull", unfollowed := true, recurses := true, apart := false }
def FnHearFullSaid : Prop := fnHearFullRow.holds Try.pinned (OpenSpec.ofChange fnHearFullSpec)

/-- ITS FALSE NEIGHBOUR: 'it returns false'. Refute it at one input. -/
def fnHearFullWrong : ChangeSpec := { name := "fnHearFull", fn := fun _ => fun
  | [d] => { results := [.lit (.bool false)], args := [d] }
  | _ => none }
def FnHearFullWrongFalsely : Prop := fnHearFullRow.holds Try.pinned (OpenSpec.ofChange fnHearFullWrong)

/-- 'laws.FnHearNever': WHATEVER THE INPUT: true; the input reads as it did. -/
def fnHearNeverSpec : ChangeSpec := { name := "fnHearNever", fn := fun _ => fun
  | [d] => { results := [.lit (.bool true)], args := [d] }
  | _ => none }
def fnHearNeverRow : OpenClaim := { program := "ytjpgpepbnglhlab", sum := "26f74f15d7b21716b7120a0de776e9a96071be06f4844a20225ac5e7e1a482b2", func := "loop.example/concierge/laws.FnHearNever", spec := "fnHearNever", unfollowed := true, recurses := true, apart := false }
def FnHearNeverSaid : Prop := fnHearNeverRow.holds Try.pinned (OpenSpec.ofChange fnHearNeverSpec)

/-- ITS FALSE NEIGHBOUR: 'it returns false'. Refute it at one input. -/
def fnHearNeverWrong : ChangeSpec := { name := "fnHearNever", fn := fun _ => fun
  | [d] => { results := [.lit (.bool false)], args := [d] }
  | _ => none }
def FnHearNeverWrongFalsely : Prop := fnHearNeverRow.holds Try.pinned (OpenSpec.ofChange fnHearNeverWrong)

/-- 'laws.FnHearAgain': WHATEVER THE INPUT: true; the input reads as it did. -/
def fnHearAgainSpec : ChangeSpec := { name := "fnHearAgain", fn := fun _ => fun
  | [d] => { results := [.lit (.bool true)], args := [d] }
  | _ => none }
def fnHearAgainRow : OpenClaim := { program := "ytjpgpepbnglhlab", sum := "26f74f15d7b21716b7120a0de776e9a96071be06f4844a20225ac5e7e1a482b2", func := "loop.example/concierge/laws.FnHearAgain", spec := "fnHearAgain", unfollowed := true, recurses := true, apart := false }
def FnHearAgainSaid : Prop := fnHearAgainRow.holds Try.pinned (OpenSpec.ofChange fnHearAgainSpec)

/-- ITS FALSE NEIGHBOUR: 'it returns false'. Refute it at one input. -/
def fnHearAgainWrong : ChangeSpec := { name := "fnHearAgain", fn := fun _ => fun
  | [d] => { results := [.lit (.bool false)], args := [d] }
  | _ => none }
def FnHearAgainWrongFalsely : Prop := fnHearAgainRow.holds Try.pinned (OpenSpec.ofChange fnHearAgainWrong)

/-- 'laws.FnHearApart': WHATEVER THE INPUT: true; the input reads as it did. -/
def fnHearApartSpec : ChangeSpec := { name := "fnHearApart", fn := fun _ => fun
  | [d] => { results := [.lit (.bool true)], args := [d] }
  | _ => none }
def fnHearApartRow : OpenClaim := { program := "ytjpgpepbnglhlab", sum := "26f74f15d7b21716b7120a0de776e9a96071be06f4844a20225ac5e7e1a482b2", func := "loop.example/concierge/laws.FnHearApart", spec := "fnHearApart", unfollowed := true, recurses := true, apart := false }
def FnHearApartSaid : Prop := fnHearApartRow.holds Try.pinned (OpenSpec.ofChange fnHearApartSpec)

/-- ITS FALSE NEIGHBOUR: 'it returns false'. Refute it at one input. -/
def fnHearApartWrong : ChangeSpec := { name := "fnHearApart", fn := fun _ => fun
  | [d] => { results := [.lit (.bool false)], args := [d] }
  | _ => none }
def FnHearApartWrongFalsely : Prop := fnHearApartRow.holds Try.pinned (OpenSpec.ofChange fnHearApartWrong)

/-- 'laws.FnExactDeskForce': WHATEVER THE INPUT: true; the input reads as it did. -/
def fnExactDeskForceSpec : ChangeSpec := { name := "fnExactDeskForce", fn := fun _ => fun
  | [d] => { results := [.lit (.bool true)], args := [d] }
  | _ => none }
def fnExactDeskForceRow : OpenClaim := { program := "ytjpgpepbnglhlab", sum := "26f74f15d7b21716b7120a0de776e9a96071be06f4844a20225ac5e7e1a482b2", func := "loop.example/concierge/laws.FnExactDeskForce", spec := "fnExactDeskForce", unfollowed := true, recurses := true, apart := false }
def FnExactDeskForceSaid : Prop := fnExactDeskForceRow.holds Try.pinned (OpenSpec.ofChange fnExactDeskForceSpec)

/-- ITS FALSE NEIGHBOUR: 'it returns false'. Refute it at one input. -/
def fnExactDeskForceWrong : ChangeSpec := { name := "fnExactDeskForce", fn := fun _ => fun
  | [d] => { results := [.lit (.bool false)], args := [d] }
  | _ => none }
def FnExactDeskForceWrongFalsely : Prop := fnExactDeskForceRow.holds Try.pinned (OpenSpec.ofChange fnExactDeskForceWrong)

/-- 'laws.FnHearSure': WHATEVER THE INPUT: true; the input reads as it did. -/
def fnHearSureSpec : ChangeSpec := { name := "fnHearSure", fn := fun _ => fun
  | [d] => { results := [.lit (.bool true)], args := [d] }
  | _ => none }
def fnHearSureRow : OpenClaim := { program := "ytjpgpepbnglhlab", sum := "26f74f15d7b21716b7120a0de776e9a96071be06f4844a20225ac5e7e1a482b2", func := "loop.example/concierge/laws.FnHearSure", spec := "fnHearSure", unfollowed := true, recurses := true, apart := false }
def FnHearSureSaid : Prop := fnHearSureRow.holds Try.pinned (OpenSpec.ofChange fnHearSureSpec)

/-- ITS FALSE NEIGHBOUR: 'it returns false'. Refute it at one input. -/
def fnHearSureWrong : ChangeSpec := { name := "fnHearSure", fn := fun _ => fun
  | [d] => { results := [.lit (.bool false)], args := [d] }
  | _ => none }
def FnHearSureWrongFalsely : Prop := fnHearSureRow.holds Try.pinned (OpenSpec.ofChange fnHearSureWrong)

/-- 'laws.FnHearUndo': WHATEVER THE INPUT: true; the input reads as it did. -/
def fnHearUndoSpec : ChangeSpec := { name := "fnHearUndo", fn := fun _ => fun
  | [d1, d2] => { results := [.lit (.bool true)], args := [d1, d2] }
  | _ => none }
def fnHearUndoRow : OpenClaim := { program := "ytjpgpepbnglhlab", sum := "26f74f15d7b21716b7120a0de776e9a96071be06f4844a20225ac5e7e1a482b2", func := "loop.example/concierge/laws.FnHearUndo", spec := "fnHearUndo", unfollowed := true, recurses := true, apart := false }
def FnHearUndoSaid : Prop := fnHearUndoRow.holds Try.pinned (OpenSpec.ofChange fnHearUndoSpec)

/-- ITS FALSE NEIGHBOUR: 'it returns false'. Refute it at one input. -/
def fnHearUndoWrong : ChangeSpec := { name := "fnHearUndo", fn := fun _ => fun
  | [d1, d2] => { results := [.lit (.bool false)], args := [d1, d2] }
  | _ => none }
def FnHearUndoWrongFalsely : Prop := fnHearUndoRow.holds Try.pinned (OpenSpec.ofChange fnHearUndoWrong)

/-- 'laws.FnExactDeskFall': WHATEVER THE INPUT: true; the input reads as it did. -/
def fnExactDeskFallSpec : ChangeSpec := { name := "fnExactDeskFall", fn := fun _ => fun
  | [d1, d2] => { results := [.lit (.bool true)], args := [d1, d2] }
  | _ => none }
def fnExactDeskFallRow : OpenClaim := { program := "ytjpgpepbnglhlab", sum := "26f74f15d7b21716b7120a0de776e9a96071be06f4844a20225ac5e7e1a482b2", func := "loop.example/concierge/laws.FnExactDeskFall", spec := "fnExactDeskFall", unfollowed := true, recurses := true, apart := false }
def FnExactDeskFallSaid : Prop := fnExactDeskFallRow.holds Try.pinned (OpenSpec.ofChange fnExactDeskFallSpec)

/-- ITS FALSE NEIGHBOUR: 'it returns false'. Refute it at one input. -/
def fnExactDeskFallWrong : ChangeSpec := { name := "fnExactDeskFall", fn := fun _ => fun
  | [d1, d2] => { results := [.lit (.bool false)], args := [d1, d2] }
  | _ => none }
def FnExactDeskFallWrongFalsely : Prop := fnExactDeskFallRow.holds Try.pinned (OpenSpec.ofChange fnExactDeskFallWrong)

/-- 'laws.FnExactHouseHear': WHATEVER THE INPUT: true; the input reads as it did. -/
def fnExactHouseHearSpec : ChangeSpec := { name := "fnExactHouseHear", fn := fun _ => fun
  | [d1, d2] => { results := [.lit (.bool true)], args := [d1, d2] }
  | _ => none }
def fnExactHouseHearRow : OpenClaim := { program := "ytjpgpepbnglhlab", sum := "26f74f15d7b21716b7120a0de776e9a96071be06f4844a20225ac5e7e1a482b2", func := "loop.example/concierge/laws.FnExactHouseHear", spec := "fnExactHouseHear", unfollowed := true, recurses := true, apart := false }
def FnExactHouseHearSaid : Prop := fnExactHouseHearRow.holds Try.pinned (OpenSpec.ofChange fnExactHouseHearSpec)

/-- ITS FALSE NEIGHBOUR: 'it returns false'. Refute it at one input. -/
def fnExactHouseHearWrong : ChangeSpec := { name := "fnExactHouseHear", fn := fun _ => fun
  | [d1, d2] => { results := [.lit (.bool false)], args := [d1, d2] }
  | _ => none }
def FnExactHouseHearWrongFalsely : Prop := fnExactHouseHearRow.holds Try.pinned (OpenSpec.ofChange fnExactHouseHearWrong)

/-- 'laws.FnExactDeskGive': WHATEVER THE INPUT: true; the input reads as it did. -/
def fnExactDeskGiveSpec : ChangeSpec := { name := "fnExactDeskGive", fn := fun _ => fun
  | [d1, d2] => { results := [.lit (.bool true)], args := [d1, d2] }
  | _ => none }
def fnExactDeskGiveRow : OpenClaim := { program := "ytjpgpepbnglhlab", sum := "26f74f15d7b21716b7120a0de776e9a96071be06f4844a20225ac5e7e1a482b2", func := "loop.example/concierge/laws.FnExactDeskGive", spec := "fnExactDeskGive", unfollowed := true, recurses := true, apart := false }
def FnExactDeskGiveSaid : Prop := fnExactDeskGiveRow.holds Try.pinned (OpenSpec.ofChange fnExactDeskGiveSpec)

/-- ITS FALSE NEIGHBOUR: 'it returns false'. Refute it at one input. -/
def fnExactDeskGiveWrong : ChangeSpec := { name := "fnExactDeskGive", fn := fun _ => fun
  | [d1, d2] => { results := [.lit (.bool false)], args := [d1, d2] }
  | _ => none }
def FnExactDeskGiveWrongFalsely : Prop := fnExactDeskGiveRow.holds Try.pinned (OpenSpec.ofChange fnExactDeskGiveWrong)

/-- 'laws.FnExactDeskBegin': WHATEVER THE INPUT: true; the input reads as it did. -/
def fnExactDeskBeginSpec : ChangeSpec := { name := "fnExactDeskBegin", fn := fun _ => fun
  | [d1, d2] => { results := [.lit (.bool true)], args := [d1, d2] }
  | _ => none }
def fnExactDeskBeginRow : OpenClaim := { program := "ytjpgpepbnglhlab", sum := "26f74f15d7b21716b7120a0de776e9a96071be06f4844a20225ac5e7e1a482b2", func := "loop.example/concierge/laws.FnExactDeskBegin", spec := "fnExactDeskBegin", unfollowed := true, recurses := true, apart := false }
def FnExactDeskBeginSaid : Prop := fnExactDeskBeginRow.holds Try.pinned (OpenSpec.ofChange fnExactDeskBeginSpec)

/-- ITS FALSE NEIGHBOUR: 'it returns false'. Refute it at one input. -/
def fnExactDeskBeginWrong : ChangeSpec := { name := "fnExactDeskBegin", fn := fun _ => fun
  | [d1, d2] => { results := [.lit (.bool false)], args := [d1, d2] }
  | _ => none }
def FnExactDeskBeginWrongFalsely : Prop := fnExactDeskBeginRow.holds Try.pinned (OpenSpec.ofChange fnExactDeskBeginWrong)

/-- 'laws.FnExactWorldOk': WHATEVER THE INPUT: true; the input reads as it did. -/
def fnExactWorldOkSpec : ChangeSpec := { name := "fnExactWorldOk", fn := fun _ => fun
  | [d] => { results := [.lit (.bool true)], args := [d] }
  | _ => none }
def fnExactWorldOkRow : OpenClaim := { program := "ytjpgpepbnglhlab", sum := "26f74f15d7b21716b7120a0de776e9a96071be06f4844a20225ac5e7e1a482b2", func := "loop.example/concierge/laws.FnExactWorldOk", spec := "fnExactWorldOk", unfollowed := true, recurses := true, apart := false }
def FnExactWorldOkSaid : Prop := fnExactWorldOkRow.holds Try.pinned (OpenSpec.ofChange fnExactWorldOkSpec)

/-- ITS FALSE NEIGHBOUR: 'it returns false'. Refute it at one input. -/
def fnExactWorldOkWrong : ChangeSpec := { name := "fnExactWorldOk", fn := fun _ => fun
  | [d] => { results := [.lit (.bool false)], args := [d] }
  | _ => none }
def FnExactWorldOkWrongFalsely : Prop := fnExactWorldOkRow.holds Try.pinned (OpenSpec.ofChange fnExactWorldOkWrong)

/-- 'laws.FnExactDeskHear': WHATEVER THE INPUT: true; the input reads as it did. -/
def fnExactDeskHearSpec : ChangeSpec := { name := "fnExactDeskHear", fn := fun _ => fun
  | [d1, d2] => { results := [.lit (.bool true)], args := [d1, d2] }
  | _ => none }
def fnExactDeskHearRow : OpenClaim := { program := "ytjpgpepbnglhlab", sum := "26f74f15d7b21716b7120a0de776e9a96071be06f4844a20225ac5e7e1a482b2", func := "loop.example/concierge/laws.FnExactDeskHear", spec := "fnExactDeskHear", unfollowed := true, recurses := true, apart := false }
def FnExactDeskHearSaid : Prop := fnExactDeskHearRow.holds Try.pinned (OpenSpec.ofChange fnExactDeskHearSpec)

/-- ITS FALSE NEIGHBOUR: 'it returns false'. Refute it at one input. -/
def fnExactDeskHearWrong : ChangeSpec := { name := "fnExactDeskHear", fn := fun _ => fun
  | [d1, d2] => { results := [.lit (.bool false)], args := [d1, d2] }
  | _ => none }
def FnExactDeskHearWrongFalsely : Prop := fnExactDeskHearRow.holds Try.pinned (OpenSpec.ofChange fnExactDeskHearWrong)

/-- 'laws.FnDeskLog': WHATEVER THE INPUT: true; the input reads as it did. -/
def fnDeskLogSpec : ChangeSpec := { name := "fnDeskLog", fn := fun _ => fun
  | [d1, d2] => { results := [.lit (.bool true)], args := [d1, d2] }
  | _ => none }
def fnDeskLogRow : OpenClaim := { program := "ytjpgpepbnglhlab", sum := "26f74f15d7b21716b7120a0de776e9a96071be06f4844a20225ac5e7e1a482b2", func := "loop.example/concierge/laws.FnDeskLog", spec := "fnDeskLog", unfollowed := true, recurses := true, apart := false }
def FnDeskLogSaid : Prop := fnDeskLogRow.holds Try.pinned (OpenSpec.ofChange fnDeskLogSpec)

/-- ITS FALSE NEIGHBOUR: 'it returns false'. Refute it at one input. -/
def fnDeskLogWrong : ChangeSpec := { name := "fnDeskLog", fn := fun _ => fun
  | [d1, d2] => { results := [.lit (.bool false)], args := [d1, d2] }
  | _ => none }
def FnDeskLogWrongFalsely : Prop := fnDeskLogRow.holds Try.pinned (OpenSpec.ofChange fnDeskLogWrong)

/-- 'laws.FnDeskTrips': WHATEVER THE INPUT: true; the input reads as it did. -/
def fnDeskTripsSpec : ChangeSpec := { name := "fnDeskTrips", fn := fun _ => fun
  | [d] => { results := [.lit (.bool true)], args := [d] }
  | _ => none }
def fnDeskTripsRow : OpenClaim := { program := "ytjpgpepbnglhlab", sum := "26f74f15d7b21716b7120a0de776e9a96071be06f4844a20225ac5e7e1a482b2", func := "loop.example/concierge/laws.FnDeskTrips", spec := "fnDeskTrips", unfollowed := true, recurses := true, apart := false }
def FnDeskTripsSaid : Prop := fnDeskTripsRow.holds Try.pinned (OpenSpec.ofChange fnDeskTripsSpec)

/-- ITS FALSE NEIGHBOUR: 'it returns false'. Refute it at one input. -/
def fnDeskTripsWrong : ChangeSpec := { name := "fnDeskTrips", fn := fun _ => fun
  | [d] => { results := [.lit (.bool false)], args := [d] }
  | _ => none }
def FnDeskTripsWrongFalsely : Prop := fnDeskTripsRow.holds Try.pinned (OpenSpec.ofChange fnDeskTripsWrong)

/-- 'laws.FnDeskWords': WHATEVER THE INPUT: true; the input reads as it did. -/
def fnDeskWordsSpec : ChangeSpec := { name := "fnDeskWords", fn := fun _ => fun
  | [d] => { results := [.lit (.bool true)], args := [d] }
  | _ => none }
def fnDeskWordsRow : OpenClaim := { program := "ytjpgpepbnglhlab", sum := "26f74f15d7b21716b7120a0de776e9a96071be06f4844a20225ac5e7e1a482b2", func := "loop.example/concierge/laws.FnDeskWords", spec := "fnDeskWords", unfollowed := true, recurses := true, apart := false }
def FnDeskWordsSaid : Prop := fnDeskWordsRow.holds Try.pinned (OpenSpec.ofChange fnDeskWordsSpec)

/-- ITS FALSE NEIGHBOUR: 'it returns false'. Refute it at one input. -/
def fnDeskWordsWrong : ChangeSpec := { name := "fnDeskWords", fn := fun _ => fun
  | [d] => { results := [.lit (.bool false)], args := [d] }
  | _ => none }
def FnDeskWordsWrongFalsely : Prop := fnDeskWordsRow.holds Try.pinned (OpenSpec.ofChange fnDeskWordsWrong)

/- THE SECOND FORM. 'bulk': how many values and letters a reading holds, each counted each time it is reached (what is shared counts as often as it is met; a slice's spare places count too). A statement '..UptoSaid' is the law's where the arguments, and the package variables that the reading takes, are together of bulk at most 1048576: NARROWER than '..Said'. Prove '..Said' where nothing that the law and all that it calls make is longer than what came in: it says more and counts as full. Else prove '..UptoSaid'. A law counts once. -/
mutual
def uptoBulk {H : Type} : DataW H → Nat
  | .lit (.string bytes) => bytes.length + 1
  | .lit _ => 1
  | .nil => 1
  | .ptr d => uptoBulk d + 1
  | .slice elems spare => uptoBulkAll elems + uptoBulkAll spare + 1
  | .agg parts => uptoBulkAll parts + 1
  | .iface _ d => uptoBulk d + 1
  | .map entries => uptoBulkEntries entries + 1
  | .held _ => 1
def uptoBulkAll {H : Type} : List (DataW H) → Nat
  | [] => 0
  | d :: r => uptoBulk d + uptoBulkAll r
def uptoBulkEntries {H : Type} : List (Lit × DataW H) → Nat
  | [] => 0
  | x :: r => uptoBulkEntry x + uptoBulkEntries r
def uptoBulkEntry {H : Type} : Lit × DataW H → Nat
  | (.string bytes, d) => bytes.length + uptoBulk d + 1
  | (_, d) => uptoBulk d + 1
 end
def uptoSmall : (H : Type) → List (DataW H) → Bool := fun _ ds => decide (uptoBulkAll ds ≤ 1048576)
def OpenSpec.upto (s : _root_.Go.ChangeSpec) : _root_.Go.OpenSpec := { _root_.Go.OpenSpec.ofChange s with cond := some uptoSmall }

/-- 'laws.FnExactHouseFall', WHERE WHAT IT READS IS OF BULK AT MOST 1048576: true; the input reads as it did. -/
def fnExactHouseFallUptoRow : OpenClaim := { program := "ytjpgpepbnglhlab", sum := "26f74f15d7b21716b7120a0de776e9a96071be06f4844a20225ac5e7e1a482b2", func := "loop.example/concierge/laws.FnExactHouseFall", spec := "fnExactHouseFall", unfollowed := true, recurses := true, apart := false, narrowed := true }
def FnExactHouseFallUptoSaid : Prop := fnExactHouseFallUptoRow.holds Try.pinned (OpenSpec.upto fnExactHouseFallSpec)

/-- 'laws.FnExactDeskTrips', WHERE WHAT IT READS IS OF BULK AT MOST 1048576: true; the input reads as it did. -/
def fnExactDeskTripsUptoRow : OpenClaim := { program := "ytjpgpepbnglhlab", sum := "26f74f15d7b21716b7120a0de776e9a96071be06f4844a20225ac5e7e1a482b2", func := "loop.example/concierge/laws.FnExactDeskTrips", spec := "fnExactDeskTrips", unfollowed := true, recurses := true, apart := false, narrowed := true }
def FnExactDeskTripsUptoSaid : Prop := fnExactDeskTripsUptoRow.holds Try.pinned (OpenSpec.upto fnExactDeskTripsSpec)

/-- 'laws.FnHearOther', WHERE WHAT IT READS IS OF BULK AT MOST 1048576: true; the input reads as it did. -/
def fnHearOtherUptoRow : OpenClaim := { program := "ytjpgpepbnglhlab", sum := "26f74f15d7b21716b7120a0de776e9a96071be06f4844a20225ac5e7e1a482b2", func := "loop.example/concierge/laws.FnHearOther", spec := "fnHearOther", unfollowed := true, recurses := true, apart := false, narrowed := true }
def FnHearOtherUptoSaid : Prop := fnHearOtherUptoRow.holds Try.pinned (OpenSpec.upto fnHearOtherSpec)

/-- 'laws.FnHearTwice', WHERE WHAT IT READS IS OF BULK AT MOST 1048576: true; the input reads as it did. -/
def fnHearTwiceUptoRow : OpenClaim := { program := "ytjpgpepbnglhlab", sum := "26f74f15d7b21716b7120a0de776e9a96071be06f4844a20225ac5e7e1a482b2", func := "loop.example/concierge/laws.FnHearTwice", spec := "fnHearTwice", unfollowed := true, recurses := true, apart := false, narrowed := true }
def FnHearTwiceUptoSaid : Prop := fnHearTwiceUptoRow.holds Try.pinned (OpenSpec.upto fnHearTwiceSpec)

/-- 'laws.FnExactDeskWords', WHERE WHAT IT READS IS OF BULK AT MOST 1048576: true; the input reads as it did. -/
def fnExactDeskWordsUptoRow : OpenClaim := { program := "ytjpgpepbnglhlab", sum := "26f74f15d7b21716b7120a0de776e9a96071be06f4844a20225ac5e7e1a482b2", func := "loop.example/concierge/laws.FnExactDeskWords", spec := "fnExactDeskWords", unfollowed := true, recurses := true, apart := false, narrowed := true }
def FnExactDeskWordsUptoSaid : Prop := fnExactDeskWordsUptoRow.holds Try.pinned (OpenSpec.upto fnExactDeskWordsSpec)

/-- 'laws.FnExactDeskRise', WHERE WHAT IT READS IS OF BULK AT MOST 1048576: true; the input reads as it did. -/
def fnExactDeskRiseUptoRow : OpenClaim := { program := "ytjpgpepbnglhlab", sum := "26f74f15d7b21716b7120a0de776e9a96071be06f4844a20225ac5e7e1a482b2", func := "loop.example/concierge/laws.FnExactDeskRise", spec := "fnExactDeskRise", unfollowed := true, recurses := true, apart := false, narrowed := true }
def FnExactDeskRiseUptoSaid : Prop := fnExactDeskRiseUptoRow.holds Try.pinned (OpenSpec.upto fnExactDeskRiseSpec)

/-- 'laws.FnHearFull', WHERE WHAT IT READS IS OF BULK AT MOST 1048576: true; the input reads as it did. -/
def fnHearFullUptoRow : OpenClaim := { program := "ytjpgpepbnglhlab", sum := "26f74f15d7b21716b7120a0de776e9a96071be06f4844a20225ac5e7e1a482b2", func := "loop.example/concierge/laws.FnHearFull", spec := "fnHearFull", unfollowed := true, recurses := true, apart := false, narrowed := true }
def FnHearFullUptoSaid : Prop := fnHearFullUptoRow.holds Try.pinned (OpenSpec.upto fnHearFullSpec)

/-- 'laws.FnHearNever', WHERE WHAT IT READS IS OF BULK AT MOST 1048576: true; the input reads as it did. -/
def fnHearNeverUptoRow : OpenClaim := { program := "ytjpgpepbnglhlab", sum := "26f74f15d7b21716b7120a0de776e9a96071be06f4844a20225ac5e7e1a482b2", func := "loop.example/concierge/laws.FnHearNever", spec := "fnHearNever", unfollowed := true, recurses := true, apart := false, narrowed := true }
def FnHearNeverUptoSaid : Prop := fnHearNeverUptoRow.holds Try.pinned (OpenSpec.upto fnHearNeverSpec)

/-- 'laws.FnHearAgain', WHERE WHAT IT READS IS OF BULK AT MOST 1048576: true; the input reads as it did. -/
def fnHearAgainUptoRow : OpenClaim := { program := "ytjpgpepbnglhlab", sum := "26f74f15d7b21716b7120a0de776e9a96071be06f4844a20225ac5e7e1a482b2", func := "loop.example/concierge/laws.FnHearAgain", spec := "fnHearAgain", unfollowed := true, recurses := true, apart := false, narrowed := true }
def FnHearAgainUptoSaid : Prop := fnHearAgainUptoRow.holds Try.pinned (OpenSpec.upto fnHearAgainSpec)

/-- 'laws.FnHearApart', WHERE WHAT IT READS IS OF BULK AT MOST 1048576: true; the input reads as it did. -/
def fnHearApartUptoRow : OpenClaim := { program := "ytjpgpepbnglhlab", sum := "26f74f15d7b21716b7120a0de776e9a96071be06f4844a20225ac5e7e1a482b2", func := "loop.example/concierge/laws.FnHearApart", spec := "fnHearApart", unfollowed := true, recurses := true, apart := false, narrowed := true }
def FnHearApartUptoSaid : Prop := fnHearApartUptoRow.holds Try.pinned (OpenSpec.upto fnHearApartSpec)

/-- 'laws.FnExactDeskForce', WHERE WHAT IT READS IS OF BULK AT MOST 1048576: true; the input reads as it did. -/
def fnExactDeskForceUptoRow : OpenClaim := { program := "ytjpgpepbnglhlab", sum := "26f74f15d7b21716b7120a0de776e9a96071be06f4844a20225ac5e7e1a482b2", func := "loop.example/concierge/laws.FnExactDeskForce", spec := "fnExactDeskForce", unfollowed := true, recurses := true, apart := false, narrowed := true }
def FnExactDeskForceUptoSaid : Prop := fnExactDeskForceUptoRow.holds Try.pinned (OpenSpec.upto fnExactDeskForceSpec)

/-- 'laws.FnHearSure', WHERE WHAT IT READS IS OF BULK AT MOST 1048576: true; the input reads as it did. -/
def fnHearSureUptoRow : OpenClaim := { program := "ytjpgpepbnglhlab", sum := "26f74f15d7b21716b7120a0de776e9a96071be06f4844a20225ac5e7e1a482b2", func := "loop.example/concierge/laws.FnHearSure", spec := "fnHearSure", unfollowed := true, recurses := true, apart := false, narrowed := true }
def FnHearSureUptoSaid : Prop := fnHearSureUptoRow.holds Try.pinned (OpenSpec.upto fnHearSureSpec)

/-- 'laws.FnHearUndo', WHERE WHAT IT READS IS OF BULK AT MOST 1048576: true; the input reads as it did. -/
def fnHearUndoUptoRow : OpenClaim := { program := "ytjpgpepbnglhlab", sum := "26f74f15d7b21716b7120a0de776e9a96071be06f4844a20225ac5e7e1a482b2", func := "loop.example/concierge/laws.FnHearUndo", spec := "fnHearUndo", unfollowed := true, recurses := true, apart := false, narrowed := true }
def FnHearUndoUptoSaid : Prop := fnHearUndoUptoRow.holds Try.pinned (OpenSpec.upto fnHearUndoSpec)

/-- 'laws.FnExactDeskFall', WHERE WHAT IT READS IS OF BULK AT MOST 1048576: true; the input reads as it did. -/
def fnExactDeskFallUptoRow : OpenClaim := { program := "ytjpgpepbnglhlab", sum := "26f74f15d7b21716b7120a0de776e9a96071be06f4844a20225ac5e7e1a482b2", func := "loop.example/concierge/laws.FnExactDeskFall", spec := "fnExactDeskFall", unfollowed := true, recurses := true, apart := false, narrowed := true }
def FnExactDeskFallUptoSaid : Prop := fnExactDeskFallUptoRow.holds Try.pinned (OpenSpec.upto fnExactDeskFallSpec)

/-- 'laws.FnExactHouseHear', WHERE WHAT IT READS IS OF BULK AT MOST 1048576: true; the input reads as it did. -/
def fnExactHouseHearUptoRow : OpenClaim := { program := "ytjpgpepbnglhlab", sum := "26f74f15d7b21716b7120a0de776e9a96071be06f4844a20225ac5e7e1a482b2", func := "loop.example/concierge/laws.FnExactHouseHear", spec := "fnExactHouseHear", unfollowed := true, recurses := true, apart := false, narrowed := true }
def FnExactHouseHearUptoSaid : Prop := fnExactHouseHearUptoRow.holds Try.pinned (OpenSpec.upto fnExactHouseHearSpec)

/-- 'laws.FnExactDeskGive', WHERE WHAT IT READS IS OF BULK AT MOST 1048576: true; the input reads as it did. -/
def fnExactDeskGiveUptoRow : OpenClaim := { program := "ytjpgpepbnglhlab", sum := "26f74f15d7b21716b7120a0de776e9a96071be06f4844a20225ac5e7e1a482b2", func := "loop.example/concierge/laws.FnExactDeskGive", spec := "fnExactDeskGive", unfollowed := true, recurses := true, apart := false, narrowed := true }
def FnExactDeskGiveUptoSaid : Prop := fnExactDeskGiveUptoRow.holds Try.pinned (OpenSpec.upto fnExactDeskGiveSpec)

/-- 'laws.FnExactDeskBegin', WHERE WHAT IT READS IS OF BULK AT MOST 1048576: true; the input reads as it did. -/
def fnExactDeskBeginUptoRow : OpenClaim := { program := "ytjpgpepbnglhlab", sum := "26f74f15d7b21716b7120a0de776e9a96071be06f4844a20225ac5e7e1a482b2", func := "loop.example/concierge/laws.FnExactDeskBegin", spec := "fnExactDeskBegin", unfollowed := true, recurses := true, apart := false, narrowed := true }
def FnExactDeskBeginUptoSaid : Prop := fnExactDeskBeginUptoRow.holds Try.pinned (OpenSpec.upto fnExactDeskBeginSpec)

/-- 'laws.FnExactWorldOk', WHERE WHAT IT READS IS OF BULK AT MOST 1048576: true; the input reads as it did. -/
def fnExactWorldOkUptoRow : OpenClaim := { program := "ytjpgpepbnglhlab", sum := "26f74f15d7b21716b7120a0de776e9a96071be06f4844a20225ac5e7e1a482b2", func := "loop.example/concierge/laws.FnExactWorldOk", spec := "fnExactWorldOk", unfollowed := true, recurses := true, apart := false, narrowed := true }
def FnExactWorldOkUptoSaid : Prop := fnExactWorldOkUptoRow.holds Try.pinned (OpenSpec.upto fnExactWorldOkSpec)

/-- 'laws.FnExactDeskHear', WHERE WHAT IT READS IS OF BULK AT MOST 1048576: true; the input reads as it did. -/
def fnExactDeskHearUptoRow : OpenClaim := { program := "ytjpgpepbnglhlab", sum := "26f74f15d7b21716b7120a0de776e9a96071be06f4844a20225ac5e7e1a482b2", func := "loop.example/concierge/laws.FnExactDeskHear", spec := "fnExactDeskHear", unfollowed := true, recurses := true, apart := false, narrowed := true }
def FnExactDeskHearUptoSaid : Prop := fnExactDeskHearUptoRow.holds Try.pinned (OpenSpec.upto fnExactDeskHearSpec)

/-- 'laws.FnDeskLog', WHERE WHAT IT READS IS OF BULK AT MOST 1048576: true; the input reads as it did. -/
def fnDeskLogUptoRow : OpenClaim := { program := "ytjpgpepbnglhlab", sum := "26f74f15d7b21716b7120a0de776e9a96071be06f4844a20225ac5e7e1a482b2", func := "loop.example/concierge/laws.FnDeskLog", spec := "fnDeskLog", unfollowed := true, recurses := true, apart := false, narrowed := true }
def FnDeskLogUptoSaid : Prop := fnDeskLogUptoRow.holds Try.pinned (OpenSpec.upto fnDeskLogSpec)

/-- 'laws.FnDeskTrips', WHERE WHAT IT READS IS OF BULK AT MOST 1048576: true; the input reads as it did. -/
def fnDeskTripsUptoRow : OpenClaim := { program := "ytjpgpepbnglhlab", sum := "26f74f15d7b21716b7120a0de776e9a96071be06f4844a20225ac5e7e1a482b2", func := "loop.example/concierge/laws.FnDeskTrips", spec := "fnDeskTrips", unfollowed := true, recurses := true, apart := false, narrowed := true }
def FnDeskTripsUptoSaid : Prop := fnDeskTripsUptoRow.holds Try.pinned (OpenSpec.upto fnDeskTripsSpec)

/-- 'laws.FnDeskWords', WHERE WHAT IT READS IS OF BULK AT MOST 1048576: true; the input reads as it did. -/
def fnDeskWordsUptoRow : OpenClaim := { program := "ytjpgpepbnglhlab", sum := "26f74f15d7b21716b7120a0de776e9a96071be06f4844a20225ac5e7e1a482b2", func := "loop.example/concierge/laws.FnDeskWords", spec := "fnDeskWords", unfollowed := true, recurses := true, apart := false, narrowed := true }
def FnDeskWordsUptoSaid : Prop := fnDeskWordsUptoRow.holds Try.pinned (OpenSpec.upto fnDeskWordsSpec)

end Rows
end Go.Proofs.Ytjpgpepbnglhlab
