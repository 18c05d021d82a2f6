/-
  No cell of these rows narrows 'for every input' (looked for: loops, veiled, ifaces, maps, wideKeys, modest, calm, conditions, laid).
  DERIVED. THE GIVEN ROWS OF THIS SEAT. 22 by the template 'for every input the law returns true; each argument reads behind the call as it read before'; 0 by the template 'total and deterministic' (their statements: YtjpgpepbnglhlaaTotals.lean).
  GIVEN WITH THE SEED: the statements are not yours to turn. If you find one false, say at which input.
  Laid BY PROGRAM, IN A SANDBOX (cutbox-rows.mjs): the forced cells as the released guide's own fill.sh prints them over the translation 506dfad5f97c27a6… (all of the seat's roots in one cut). By AI agents, Wed Nov 11 2026. No macro, syntax, notation, axiom, sorry.
-/
import Derived.Test.YtjpgpepbnglhlaaChecked
import GoSem.Claim
import GoSem.ClaimJoined
import GoSem.ClaimMapViews
import Derived.JoinedTies
import Derived.KernelRfl
namespace Go.Proofs.Ytjpgpepbnglhlaa
/- THE CELL 'sum', in the pinned program and in every row, IS THE sha256 OF THE DUMP (.gsa) THAT YtjpgpepbnglhlaaProg.lean LOADS. Nothing in Lean hashes anything: it is a label: what it is worth is what the hold of that sum in a sandbox is worth. -/
noncomputable def Try.pinned : Pinned := { name := "ytjpgpepbnglhlaa", sum := "506dfad5f97c27a648f5be45a477b41de55984f258540dde2f5028f1e89e9e09", checked := Try.checked }
namespace Rows
def none {H : Type} : Left H := { results := [], args := [] }

/-- 'laws.FnExactDeskNew': WHATEVER THE INPUT: true; the input reads as it did. -/
def fnExactDeskNewSpec : ChangeSpec := { name := "fnExactDeskNew", fn := fun _ => fun
  | [] => { results := [.lit (.bool true)], args := [] }
  | _ => none }
def fnExactDeskNewRow : OpenClaim := { program := "ytjpgpepbnglhlaa", sum := "506dfad5f97c27a648f5be45a477b41de55984f258540dde2f5028f1e89e9e09", func := "loop.example/concierge/laws.FnExactDeskNew", spec := "fnExactDeskNew", apart := false }
def FnExactDeskNewSaid : Prop := fnExactDeskNewRow.holds Try.pinned (OpenSpec.ofChange fnExactDeskNewSpec)

/-- ITS FALSE NEIGHBOUR: 'it returns false'. Refute it at one input. -/
def fnExactDeskNewWrong : ChangeSpec := { name := "fnExactDeskNew", fn := fun _ => fun
  | [] => { results := [.lit (.bool false)], args := [] }
  | _ => none }
def FnExactDeskNewWrongFalsely : Prop := fnExactDeskNewRow.holds Try.pinned (OpenSpec.ofChange fnExactDeskNewWrong)

/-- 'laws.FnLogForce': WHATEVER THE INPUT: true; the input reads as it did. -/
def fnLogForceSpec : ChangeSpec := { name := "fnLogForce", fn := fun _ => fun
  | [d1, d2] => { results := [.lit (.bool true)], args := [d1, d2] }
  | _ => none }
def fnLogForceRow : OpenClaim := { program := "ytjpgpepbnglhlaa", sum := "506dfad5f97c27a648f5be45a477b41de55984f258540dde2f5028f1e89e9e09", func := "loop.example/concierge/laws.FnLogForce", spec := "fnLogForce", unfollowed := true, recurses := true, apart := false }
def FnLogForceSaid : Prop := fnLogForceRow.holds Try.pinned (OpenSpec.ofChange fnLogForceSpec)

/-- ITS FALSE NEIGHBOUR: 'it returns false'. Refute it at one input. -/
def fnLogForceWrong : ChangeSpec := { name := "fnLogForce", fn := fun _ => fun
  | [d1, d2] => { results := [.lit (.bool false)], args := [d1, d2] }
  | _ => none }
def FnLogForceWrongFalsely : Prop := fnLogForceRow.holds Try.pinned (OpenSpec.ofChange fnLogForceWrong)

/-- 'laws.FnLogFall': WHATEVER THE INPUT: true; the input reads as it did. -/
def fnLogFallSpec : ChangeSpec := { name := "fnLogFall", fn := fun _ => fun
  | [d] => { results := [.lit (.bool true)], args := [d] }
  | _ => none }
def fnLogFallRow : OpenClaim := { program := "ytjpgpepbnglhlaa", sum := "506dfad5f97c27a648f5be45a477b41de55984f258540dde2f5028f1e89e9e09", func := "loop.example/concierge/laws.FnLogFall", spec := "fnLogFall", unfollowed := true, recurses := true, apart := false }
def FnLogFallSaid : Prop := fnLogFallRow.holds Try.pinned (OpenSpec.ofChange fnLogFallSpec)

/-- ITS FALSE NEIGHBOUR: 'it returns false'. Refute it at one input. -/
def fnLogFallWrong : ChangeSpec := { name := "fnLogFall", fn := fun _ => fun
  | [d] => { results := [.lit (.bool false)], args := [d] }
  | _ => none }
def FnLogFallWrongFalsely : Prop := fnLogFallRow.holds Try.pinned (OpenSpec.ofChange fnLogFallWrong)

/-- 'laws.FnLogAdd': WHATEVER THE INPUT: true; the input reads as it did. -/
def fnLogAddSpec : ChangeSpec := { name := "fnLogAdd", fn := fun _ => fun
  | [d] => { results := [.lit (.bool true)], args := [d] }
  | _ => none }
def fnLogAddRow : OpenClaim := { program := "ytjpgpepbnglhlaa", sum := "506dfad5f97c27a648f5be45a477b41de55984f258540dde2f5028f1e89e9e09", func := "loop.example/concierge/laws.FnLogAdd", spec := "fnLogAdd", unfollowed := true, recurses := true, apart := false }
def FnLogAddSaid : Prop := fnLogAddRow.holds Try.pinned (OpenSpec.ofChange fnLogAddSpec)

/-- ITS FALSE NEIGHBOUR: 'it returns false'. Refute it at one input. -/
def fnLogAddWrong : ChangeSpec := { name := "fnLogAdd", fn := fun _ => fun
  | [d] => { results := [.lit (.bool false)], args := [d] }
  | _ => none }
def FnLogAddWrongFalsely : Prop := fnLogAddRow.holds Try.pinned (OpenSpec.ofChange fnLogAddWrong)

/-- 'laws.FnLogMore': WHATEVER THE INPUT: true; the input reads as it did. -/
def fnLogMoreSpec : ChangeSpec := { name := "fnLogMore", fn := fun _ => fun
  | [d1, d2] => { results := [.lit (.bool true)], args := [d1, d2] }
  | _ => none }
def fnLogMoreRow : OpenClaim := { program := "ytjpgpepbnglhlaa", sum := "506dfad5f97c27a648f5be45a477b41de55984f258540dde2f5028f1e89e9e09", func := "loop.example/concierge/laws.FnLogMore", spec := "fnLogMore", unfollowed := true, recurses := true, apart := false }
def FnLogMoreSaid : Prop := fnLogMoreRow.holds Try.pinned (OpenSpec.ofChange fnLogMoreSpec)

/-- ITS FALSE NEIGHBOUR: 'it returns false'. Refute it at one input. -/
def fnLogMoreWrong : ChangeSpec := { name := "fnLogMore", fn := fun _ => fun
  | [d1, d2] => { results := [.lit (.bool false)], args := [d1, d2] }
  | _ => none }
def FnLogMoreWrongFalsely : Prop := fnLogMoreRow.holds Try.pinned (OpenSpec.ofChange fnLogMoreWrong)

/-- 'laws.FnLogAddFall': WHATEVER THE INPUT: true; the input reads as it did. -/
def fnLogAddFallSpec : ChangeSpec := { name := "fnLogAddFall", fn := fun _ => fun
  | [d] => { results := [.lit (.bool true)], args := [d] }
  | _ => none }
def fnLogAddFallRow : OpenClaim := { program := "ytjpgpepbnglhlaa", sum := "506dfad5f97c27a648f5be45a477b41de55984f258540dde2f5028f1e89e9e09", func := "loop.example/concierge/laws.FnLogAddFall", spec := "fnLogAddFall", unfollowed := true, recurses := true, apart := false }
def FnLogAddFallSaid : Prop := fnLogAddFallRow.holds Try.pinned (OpenSpec.ofChange fnLogAddFallSpec)

/-- ITS FALSE NEIGHBOUR: 'it returns false'. Refute it at one input. -/
def fnLogAddFallWrong : ChangeSpec := { name := "fnLogAddFall", fn := fun _ => fun
  | [d] => { results := [.lit (.bool false)], args := [d] }
  | _ => none }
def FnLogAddFallWrongFalsely : Prop := fnLogAddFallRow.holds Try.pinned (OpenSpec.ofChange fnLogAddFallWrong)

/-- 'laws.FnExactLogForce': WHATEVER THE INPUT: true; the input reads as it did. -/
def fnExactLogForceSpec : ChangeSpec := { name := "fnExactLogForce", fn := fun _ => fun
  | [d] => { results := [.lit (.bool true)], args := [d] }
  | _ => none }
def fnExactLogForceRow : OpenClaim := { program := "ytjpgpepbnglhlaa", sum := "506dfad5f97c27a648f5be45a477b41de55984f258540dde2f5028f1e89e9e09", func := "loop.example/concierge/laws.FnExactLogForce", spec := "fnExactLogForce", unfollowed := true, recurses := true, apart := false }
def FnExactLogForceSaid : Prop := fnExactLogForceRow.holds Try.pinned (OpenSpec.ofChange fnExactLogForceSpec)

/-- ITS FALSE NEIGHBOUR: 'it returns false'. Refute it at one input. -/
def fnExactLogForceWrong : ChangeSpec := { name := "fnExactLogForce", fn := fun _ => fun
  | [d] => { results := [.lit (.bool false)], args := [d] }
  | _ => none }
def FnExactLogForceWrongFalsely : Prop := fnExactLogForceRow.holds Try.pinned (OpenSpec.ofChange fnExactLogForceWrong)

/-- 'laws.FnExactLogFall': WHATEVER THE INPUT: true; the input reads as it did. -/
def fnExactLogFallSpec : ChangeSpec := { name := "fnExactLogFall", fn := fun _ => fun
  | [d1, d2] => { results := [.lit (.bool true)], args := [d1, d2] }
  | _ => none }
def fnExactLogFallRow : OpenClaim := { program := "ytjpgpepbnglhlaa", sum := "506dfad5f97c27a648f5be45a477b41de55984f258540dde2f5028f1e89e9e09", func := "loop.example/concierge/laws.FnExactLogFall", spec := "fnExactLogFall", unfollowed := true, recurses := true, apart := false }
def FnExactLogFallSaid : Prop := fnExactLogFallRow.holds Try.pinned (OpenSpec.ofChange fnExactLogFallSpec)

/-- ITS FALSE NEIGHBOUR: 'it returns false'. Refute it at one input. -/
def fnExactLogFallWrong : ChangeSpec := { name := "fnExactLogFall", fn := fun _ => fun
  | [d1, d2] => { results := [.lit (.bool false)], args := [d1, d2] }
  | _ => none }
def FnExactLogFallWrongFalsely : Prop := fnExactLogFallRow.holds Try.pinned (OpenSpec.ofChange fnExactLogFallWrong)

/-- 'laws.FnExactLogAdd': WHATEVER THE INPUT: true; the input reads as it did. -/
def fnExactLogAddSpec : ChangeSpec := { name := "fnExactLogAdd", fn := fun _ => fun
  | [d1, d2] => { results := [.lit (.bool true)], args := [d1, d2] }
  | _ => none }
def fnExactLogAddRow : OpenClaim := { program := "ytjpgpepbnglhlaa", sum := "506dfad5f97c27a648f5be45a477b41de55984f258540dde2f5028f1e89e9e09", func := "loop.example/concierge/laws.FnExactLogAdd", spec := "fnExactLogAdd", unfollowed := true, recurses := true, apart := false }
def FnExactLogAddSaid : Prop := fnExactLogAddRow.holds Try.pinned (OpenSpec.ofChange fnExactLogAddSpec)

/-- ITS FALSE NEIGHBOUR: 'it returns false'. Refute it at one input. -/
def fnExactLogAddWrong : ChangeSpec := { name := "fnExactLogAdd", fn := fun _ => fun
  | [d1, d2] => { results := [.lit (.bool false)], args := [d1, d2] }
  | _ => none }
def FnExactLogAddWrongFalsely : Prop := fnExactLogAddRow.holds Try.pinned (OpenSpec.ofChange fnExactLogAddWrong)

/-- 'laws.FnTripsOnce': WHATEVER THE INPUT: true; the input reads as it did. -/
def fnTripsOnceSpec : ChangeSpec := { name := "fnTripsOnce", fn := fun _ => fun
  | [d] => { results := [.lit (.bool true)], args := [d] }
  | _ => none }
def fnTripsOnceRow : OpenClaim := { program := "ytjpgpepbnglhlaa", sum := "506dfad5f97c27a648f5be45a477b41de55984f258540dde2f5028f1e89e9e09", func := "loop.example/concierge/laws.FnTripsOnce", spec := "fnTripsOnce", unfollowed := true, recurses := true, apart := false }
def FnTripsOnceSaid : Prop := fnTripsOnceRow.holds Try.pinned (OpenSpec.ofChange fnTripsOnceSpec)

/-- ITS FALSE NEIGHBOUR: 'it returns false'. Refute it at one input. -/
def fnTripsOnceWrong : ChangeSpec := { name := "fnTripsOnce", fn := fun _ => fun
  | [d] => { results := [.lit (.bool false)], args := [d] }
  | _ => none }
def FnTripsOnceWrongFalsely : Prop := fnTripsOnceRow.holds Try.pinned (OpenSpec.ofChange fnTripsOnceWrong)

/-- 'laws.FnTripsStep': WHATEVER THE INPUT: true; the input reads as it did. -/
def fnTripsStepSpec : ChangeSpec := { name := "fnTripsStep", fn := fun _ => fun
  | [d] => { results := [.lit (.bool true)], args := [d] }
  | _ => none }
def fnTripsStepRow : OpenClaim := { program := "ytjpgpepbnglhlaa", sum := "506dfad5f97c27a648f5be45a477b41de55984f258540dde2f5028f1e89e9e09", func := "loop.example/concierge/laws.FnTripsStep", spec := "fnTripsStep", unfollowed := true, recurses := true, apart := false }
def FnTripsStepSaid : Prop := fnTripsStepRow.holds Try.pinned (OpenSpec.ofChange fnTripsStepSpec)

/-- ITS FALSE NEIGHBOUR: 'it returns false'. Refute it at one input. -/
def fnTripsStepWrong : ChangeSpec := { name := "fnTripsStep", fn := fun _ => fun
  | [d] => { results := [.lit (.bool false)], args := [d] }
  | _ => none }
def FnTripsStepWrongFalsely : Prop := fnTripsStepRow.holds Try.pinned (OpenSpec.ofChange fnTripsStepWrong)

/-- 'laws.FnExactTripsDo': WHATEVER THE INPUT: true; the input reads as it did. -/
def fnExactTripsDoSpec : ChangeSpec := { name := "fnExactTripsDo", fn := fun _ => fun
  | [d1, d2] => { results := [.lit (.bool true)], args := [d1, d2] }
  | _ => none }
def fnExactTripsDoRow : OpenClaim := { program := "ytjpgpepbnglhlaa", sum := "506dfad5f97c27a648f5be45a477b41de55984f258540dde2f5028f1e89e9e09", func := "loop.example/concierge/laws.FnExactTripsDo", spec := "fnExactTripsDo", unfollowed := true, recurses := true, apart := false }
def FnExactTripsDoSaid : Prop := fnExactTripsDoRow.holds Try.pinned (OpenSpec.ofChange fnExactTripsDoSpec)

/-- ITS FALSE NEIGHBOUR: 'it returns false'. Refute it at one input. -/
def fnExactTripsDoWrong : ChangeSpec := { name := "fnExactTripsDo", fn := fun _ => fun
  | [d1, d2] => { results := [.lit (.bool false)], args := [d1, d2] }
  | _ => none }
def FnExactTripsDoWrongFalsely : Prop := fnExactTripsDoRow.holds Try.pinned (OpenSpec.ofChange fnExactTripsDoWrong)

/-- 'laws.FnExactTripsOf': WHATEVER THE INPUT: true; the input reads as it did. -/
def fnExactTripsOfSpec : ChangeSpec := { name := "fnExactTripsOf", fn := fun _ => fun
  | [d] => { results := [.lit (.bool true)], args := [d] }
  | _ => none }
def fnExactTripsOfRow : OpenClaim := { program := "ytjpgpepbnglhlaa", sum := "506dfad5f97c27a648f5be45a477b41de55984f258540dde2f5028f1e89e9e09", func := "loop.example/concierge/laws.FnExactTripsOf", spec := "fnExactTripsOf", unfollowed := true, recurses := true, apart := false }
def FnExactTripsOfSaid : Prop := fnExactTripsOfRow.holds Try.pinned (OpenSpec.ofChange fnExactTripsOfSpec)

/-- ITS FALSE NEIGHBOUR: 'it returns false'. Refute it at one input. -/
def fnExactTripsOfWrong : ChangeSpec := { name := "fnExactTripsOf", fn := fun _ => fun
  | [d] => { results := [.lit (.bool false)], args := [d] }
  | _ => none }
def FnExactTripsOfWrongFalsely : Prop := fnExactTripsOfRow.holds Try.pinned (OpenSpec.ofChange fnExactTripsOfWrong)

/-- 'laws.FnExactWorldNew': WHATEVER THE INPUT: true; the input reads as it did. -/
def fnExactWorldNewSpec : ChangeSpec := { name := "fnExactWorldNew", fn := fun _ => fun
  | [d] => { results := [.lit (.bool true)], args := [d] }
  | _ => none }
def fnExactWorldNewRow : OpenClaim := { program := "ytjpgpepbnglhlaa", sum := "506dfad5f97c27a648f5be45a477b41de55984f258540dde2f5028f1e89e9e09", func := "loop.example/concierge/laws.FnExactWorldNew", spec := "fnExactWorldNew", apart := false }
def FnExactWorldNewSaid : Prop := fnExactWorldNewRow.holds Try.pinned (OpenSpec.ofChange fnExactWorldNewSpec)

/-- ITS FALSE NEIGHBOUR: 'it returns false'. Refute it at one input. -/
def fnExactWorldNewWrong : ChangeSpec := { name := "fnExactWorldNew", fn := fun _ => fun
  | [d] => { results := [.lit (.bool false)], args := [d] }
  | _ => none }
def FnExactWorldNewWrongFalsely : Prop := fnExactWorldNewRow.holds Try.pinned (OpenSpec.ofChange fnExactWorldNewWrong)

/-- 'laws.FnWorldNew': WHATEVER THE INPUT: true; the input reads as it did. -/
def fnWorldNewSpec : ChangeSpec := { name := "fnWorldNew", fn := fun _ => fun
  | [d] => { results := [.lit (.bool true)], args := [d] }
  | _ => none }
def fnWorldNewRow : OpenClaim := { program := "ytjpgpepbnglhlaa", sum := "506dfad5f97c27a648f5be45a477b41de55984f258540dde2f5028f1e89e9e09", func := "loop.example/concierge/laws.FnWorldNew", spec := "fnWorldNew", unfollowed := true, recurses := true, apart := false }
def FnWorldNewSaid : Prop := fnWorldNewRow.holds Try.pinned (OpenSpec.ofChange fnWorldNewSpec)

/-- ITS FALSE NEIGHBOUR: 'it returns false'. Refute it at one input. -/
def fnWorldNewWrong : ChangeSpec := { name := "fnWorldNew", fn := fun _ => fun
  | [d] => { results := [.lit (.bool false)], args := [d] }
  | _ => none }
def FnWorldNewWrongFalsely : Prop := fnWorldNewRow.holds Try.pinned (OpenSpec.ofChange fnWorldNewWrong)

/-- 'laws.FnHouseStock': WHATEVER THE INPUT: true; the input reads as it did. -/
def fnHouseStockSpec : ChangeSpec := { name := "fnHouseStock", fn := fun _ => fun
  | [d] => { results := [.lit (.bool true)], args := [d] }
  | _ => none }
def fnHouseStockRow : OpenClaim := { program := "ytjpgpepbnglhlaa", sum := "506dfad5f97c27a648f5be45a477b41de55984f258540dde2f5028f1e89e9e09", func := "loop.example/concierge/laws.FnHouseStock", spec := "fnHouseStock", unfollowed := true, recurses := true, apart := false }
def FnHouseStockSaid : Prop := fnHouseStockRow.holds Try.pinned (OpenSpec.ofChange fnHouseStockSpec)

/-- ITS FALSE NEIGHBOUR: 'it returns false'. Refute it at one input. -/
def fnHouseStockWrong : ChangeSpec := { name := "fnHouseStock", fn := fun _ => fun
  | [d] => { results := [.lit (.bool false)], args := [d] }
  | _ => none }
def FnHouseStockWrongFalsely : Prop := fnHouseStockRow.holds Try.pinned (OpenSpec.ofChange fnHouseStockWrong)

/-- 'laws.FnHouseForce': WHATEVER THE INPUT: true; the input reads as it did. -/
def fnHouseForceSpec : ChangeSpec := { name := "fnHouseForce", fn := fun _ => fun
  | [d] => { results := [.lit (.bool true)], args := [d] }
  | _ => none }
def fnHouseForceRow : OpenClaim := { program := "ytjpgpepbnglhlaa", sum := "506dfad5f97c27a648f5be45a477b41de55984f258540dde2f5028f1e89e9e09", func := "loop.example/concierge/laws.FnHouseForce", spec := "fnHouseForce", unfollowed := true, recurses := true, apart := false }
def FnHouseForceSaid : Prop := fnHouseForceRow.holds Try.pinned (OpenSpec.ofChange fnHouseForceSpec)

/-- ITS FALSE NEIGHBOUR: 'it returns false'. Refute it at one input. -/
def fnHouseForceWrong : ChangeSpec := { name := "fnHouseForce", fn := fun _ => fun
  | [d] => { results := [.lit (.bool false)], args := [d] }
  | _ => none }
def FnHouseForceWrongFalsely : Prop := fnHouseForceRow.holds Try.pinned (OpenSpec.ofChange fnHouseForceWrong)

/-- 'laws.FnExactDeskOk': WHATEVER THE INPUT: true; the input reads as it did. -/
def fnExactDeskOkSpec : ChangeSpec := { name := "fnExactDeskOk", fn := fun _ => fun
  | [d] => { results := [.lit (.bool true)], args := [d] }
  | _ => none }
def fnExactDeskOkRow : OpenClaim := { program := "ytjpgpepbnglhlaa", sum := "506dfad5f97c27a648f5be45a477b41de55984f258540dde2f5028f1e89e9e09", func := "loop.example/concierge/laws.FnExactDeskOk", spec := "fnExactDeskOk", unfollowed := true, recurses := true, apart := false }
def FnExactDeskOkSaid : Prop := fnExactDeskOkRow.holds Try.pinned (OpenSpec.ofChange fnExactDeskOkSpec)

/-- ITS FALSE NEIGHBOUR: 'it returns false'. Refute it at one input. -/
def fnExactDeskOkWrong : ChangeSpec := { name := "fnExactDeskOk", fn := fun _ => fun
  | [d] => { results := [.lit (.bool false)], args := [d] }
  | _ => none }
def FnExactDeskOkWrongFalsely : Prop := fnExactDeskOkRow.holds Try.pinned (OpenSpec.ofChange fnExactDeskOkWrong)

/-- 'laws.FnHouseRise': WHATEVER THE INPUT: true; the input reads as it did. -/
def fnHouseRiseSpec : ChangeSpec := { name := "fnHouseRise", fn := fun _ => fun
  | [d1, d2] => { results := [.lit (.bool true)], args := [d1, d2] }
  | _ => none }
def fnHouseRiseRow : OpenClaim := { program := "ytjpgpepbnglhlaa", sum := "506dfad5f97c27a648f5be45a477b41de55984f258540dde2f5028f1e89e9e09", func := "loop.example/concierge/laws.FnHouseRise", spec := "fnHouseRise", unfollowed := true, recurses := true, apart := false }
def FnHouseRiseSaid : Prop := fnHouseRiseRow.holds Try.pinned (OpenSpec.ofChange fnHouseRiseSpec)

/-- ITS FALSE NEIGHBOUR: 'it returns false'. Refute it at one input. -/
def fnHouseRiseWrong : ChangeSpec := { name := "fnHouseRise", fn := fun _ => fun
  | [d1, d2] => { results := [.lit (.bool false)], args := [d1, d2] }
  | _ => none }
def FnHouseRiseWrongFalsely : Prop := fnHouseRiseRow.holds Try.pinned (OpenSpec.ofChange fnHouseRiseWrong)

/-- 'laws.FnExactHouseRise': WHATEVER THE INPUT: true; the input reads as it did. -/
def fnExactHouseRiseSpec : ChangeSpec := { name := "fnExactHouseRise", fn := fun _ => fun
  | [d] => { results := [.lit (.bool true)], args := [d] }
  | _ => none }
def fnExactHouseRiseRow : OpenClaim := { program := "ytjpgpepbnglhlaa", sum := "506dfad5f97c27a648f5be45a477b41de55984f258540dde2f5028f1e89e9e09", func := "loop.example/concierge/laws.FnExactHouseRise", spec := "fnExactHouseRise", unfollowed := true, recurses := true, apart := false }
def FnExactHouseRiseSaid : Prop := fnExactHouseRiseRow.holds Try.pinned (OpenSpec.ofChange fnExactHouseRiseSpec)

/-- ITS FALSE NEIGHBOUR: 'it returns false'. Refute it at one input. -/
def fnExactHouseRiseWrong : ChangeSpec := { name := "fnExactHouseRise", fn := fun _ => fun
  | [d] => { results := [.lit (.bool false)], args := [d] }
  | _ => none }
def FnExactHouseRiseWrongFalsely : Prop := fnExactHouseRiseRow.holds Try.pinned (OpenSpec.ofChange fnExactHouseRiseWrong)

/-- 'laws.FnHouseFall': WHATEVER THE INPUT: true; the input reads as it did. -/
def fnHouseFallSpec : ChangeSpec := { name := "fnHouseFall", fn := fun _ => fun
  | [d] => { results := [.lit (.bool true)], args := [d] }
  | _ => none }
def fnHouseFallRow : OpenClaim := { program := "ytjpgpepbnglhlaa", sum := "506dfad5f97c27a648f5be45a477b41de55984f258540dde2f5028f1e89e9e09", func := "loop.example/concierge/laws.FnHouseFall", spec := "fnHouseFall", unfollowed := true, recurses := true, apart := false }
def FnHouseFallSaid : Prop := fnHouseFallRow.holds Try.pinned (OpenSpec.ofChange fnHouseFallSpec)

/-- ITS FALSE NEIGHBOUR: 'it returns false'. Refute it at one input. -/
def fnHouseFallWrong : ChangeSpec := { name := "fnHouseFall", fn := fun _ => fun
  | [d] => { results := [.lit (.bool false)], args := [d] }
  | _ => none }
def FnHouseFallWrongFalsely : Prop := fnHouseFallRow.holds Try.pinned (OpenSpec.ofChange fnHouseFallWrong)

/-- 'laws.FnExactHouseForce': WHATEVER THE INPUT: true; the input reads as it did. -/
def fnExactHouseForceSpec : ChangeSpec := { name := "fnExactHouseForce", fn := fun _ => fun
  | [d] => { results := [.lit (.bool true)], args := [d] }
  | _ => none }
def fnExactHouseForceRow : OpenClaim := { program := "ytjpgpepbnglhlaa", sum := "506dfad5f97c27a648f5be45a477b41de55984f258540dde2f5028f1e89e9e09", func := "loop.example/concierge/laws.FnExactHouseForce", spec := "fnExactHouseForce", unfollowed := true, recurses := true, apart := false }
def FnExactHouseForceSaid : Prop := fnExactHouseForceRow.holds Try.pinned (OpenSpec.ofChange fnExactHouseForceSpec)

/-- ITS FALSE NEIGHBOUR: 'it returns false'. Refute it at one input. -/
def fnExactHouseForceWrong : ChangeSpec := { name := "fnExactHouseForce", fn := fun _ => fun
  | [d] => { results := [.lit (.bool false)], args := [d] }
  | _ => none }
def FnExactHouseForceWrongFalsely : Prop := fnExactHouseForceRow.holds Try.pinned (OpenSpec.ofChange fnExactHouseForceWrong)

/- THE SECOND FORM. 'bulk': how many values and letters a reading holds, each counted each time it is reached (what is shared counts as often as it is met; a slice's spare places count too). A statement '..UptoSaid' is the law's where the arguments, and the package variables that the reading takes, are together of bulk at most 1048576: NARROWER than '..Said'. Prove '..Said' where nothing that the law and all that it calls make is longer than what came in: it says more and counts as full. Else prove '..UptoSaid'. A law counts once. -/
mutual
def uptoBulk {H : Type} : DataW H → Nat
  | .lit (.string bytes) => bytes.length + 1
  | .lit _ => 1
  | .nil => 1
  | .ptr d => uptoBulk d + 1
  | .slice elems spare => uptoBulkAll elems + uptoBulkAll spare + 1
  | .agg parts => uptoBulkAll parts + 1
  | .iface _ d => uptoBulk d + 1
  | .map entries => uptoBulkEntries entries + 1
  | .held _ => 1
def uptoBulkAll {H : Type} : List (DataW H) → Nat
  | [] => 0
  | d :: r => uptoBulk d + uptoBulkAll r
def uptoBulkEntries {H : Type} : List (Lit × DataW H) → Nat
  | [] => 0
  | x :: r => uptoBulkEntry x + uptoBulkEntries r
def uptoBulkEntry {H : Type} : Lit × DataW H → Nat
  | (.string bytes, d) => bytes.length + uptoBulk d + 1
  | (_, d) => uptoBulk d + 1
 end
def uptoSmall : (H : Type) → List (DataW H) → Bool := fun _ ds => decide (uptoBulkAll ds ≤ 1048576)
def OpenSpec.upto (s : _root_.Go.ChangeSpec) : _root_.Go.OpenSpec := { _root_.Go.OpenSpec.ofChange s with cond := some uptoSmall }

/-- 'laws.FnExactDeskNew', WHERE WHAT IT READS IS OF BULK AT MOST 1048576: true; the input reads as it did. -/
def fnExactDeskNewUptoRow : OpenClaim := { program := "ytjpgpepbnglhlaa", sum := "506dfad5f97c27a648f5be45a477b41de55984f258540dde2f5028f1e89e9e09", func := "loop.example/concierge/laws.FnExactDeskNew", spec := "fnExactDeskNew", apart := false, narrowed := true }
def FnExactDeskNewUptoSaid : Prop := fnExactDeskNewUptoRow.holds Try.pinned (OpenSpec.upto fnExactDeskNewSpec)

/-- 'laws.FnLogForce', WHERE WHAT IT READS IS OF BULK AT MOST 1048576: true; the input reads as it did. -/
def fnLogForceUptoRow : OpenClaim := { program := "ytjpgpepbnglhlaa", sum := "506dfad5f97c27a648f5be45a477b41de55984f258540dde2f5028f1e89e9e09", func := "loop.example/concierge/laws.FnLogForce", spec := "fnLogForce", unfollowed := true, recurses := true, apart := false, narrowed := true }
def FnLogForceUptoSaid : Prop := fnLogForceUptoRow.holds Try.pinned (OpenSpec.upto fnLogForceSpec)

/-- 'laws.FnLogFall', WHERE WHAT IT READS IS OF BULK AT MOST 1048576: true; the input reads as it did. -/
def fnLogFallUptoRow : OpenClaim := { program := "ytjpgpepbnglhlaa", sum := "506dfad5f97c27a648f5be45a477b41de55984f258540dde2f5028f1e89e9e09", func := "loop.example/concierge/laws.FnLogFall", spec := "fnLogFall", unfollowed := true, recurses := true, apart := false, narrowed := true }
def FnLogFallUptoSaid : Prop := fnLogFallUptoRow.holds Try.pinned (OpenSpec.upto fnLogFallSpec)

/-- 'laws.FnLogAdd', WHERE WHAT IT READS IS OF BULK AT MOST 1048576: true; the input reads as it did. -/
def fnLogAddUptoRow : OpenClaim := { program := "ytjpgpepbnglhlaa", sum := "506dfad5f97c27a648f5be45a477b41de55984f258540dde2f5028f1e89e9e09", func := "loop.example/concierge/laws.FnLogAdd", spec := "fnLogAdd", unfollowed := true, recurses := true, apart := false, narrowed := true }
def FnLogAddUptoSaid : Prop := fnLogAddUptoRow.holds Try.pinned (OpenSpec.upto fnLogAddSpec)

/-- 'laws.FnLogMore', WHERE WHAT IT READS IS OF BULK AT MOST 1048576: true; the input reads as it did. -/
def fnLogMoreUptoRow : OpenClaim := { program := "ytjpgpepbnglhlaa", sum := "506dfad5f97c27a648f5be45a477b41de55984f258540dde2f5028f1e89e9e09", func := "loop.example/concierge/laws.FnLogMore", spec := "fnLogMore", unfollowed := true, recurses := true, apart := false, narrowed := true }
def FnLogMoreUptoSaid : Prop := fnLogMoreUptoRow.holds Try.pinned (OpenSpec.upto fnLogMoreSpec)

/-- 'laws.FnLogAddFall', WHERE WHAT IT READS IS OF BULK AT MOST 1048576: true; the input reads as it did. -/
def fnLogAddFallUptoRow : OpenClaim := { program := "ytjpgpepbnglhlaa", sum := "506dfad5f97c27a648f5be45a477b41de55984f258540dde2f5028f1e89e9e09", func := "loop.example/concierge/laws.FnLogAddFall", spec := "fnLogAddFall", unfollowed := true, recurses := true, apart := false, narrowed := true }
def FnLogAddFallUptoSaid : Prop := fnLogAddFallUptoRow.holds Try.pinned (OpenSpec.upto fnLogAddFallSpec)

/-- 'laws.FnExactLogForce', WHERE WHAT IT READS IS OF BULK AT MOST 1048576: true; the input reads as it did. -/
def fnExactLogForceUptoRow : OpenClaim := { program := "ytjpgpepbnglhlaa", sum := "506dfad5f97c27a648f5be45a477b41de55984f258540dde2f5028f1e89e9e09", func := "loop.example/concierge/laws.FnExactLogForce", spec := "fnExactLogForce", unfollowed := true, recurses := true, apart := false, narrowed := true }
def FnExactLogForceUptoSaid : Prop := fnExactLogForceUptoRow.holds Try.pinned (OpenSpec.upto fnExactLogForceSpec)

/-- 'laws.FnExactLogFall', WHERE WHAT IT READS IS OF BULK AT MOST 1048576: true; the input reads as it did. -/
def fnExactLogFallUptoRow : OpenClaim := { program := "ytjpgpepbnglhlaa", sum := "506dfad5f97c27a648f5be45a477b41de55984f258540dde2f5028f1e89e9e09", func := "loop.example/concierge/laws.FnExactLogFall", spec := "fnExactLogFall", unfollowed := true, recurses := true, apart := false, narrowed := true }
def FnExactLogFallUptoSaid : Prop := fnExactLogFallUptoRow.holds Try.pinned (OpenSpec.upto fnExactLogFallSpec)

/-- 'laws.FnExactLogAdd', WHERE WHAT IT READS IS OF BULK AT MOST 1048576: true; the input reads as it did. -/
def fnExactLogAddUptoRow : OpenClaim := { program := "ytjpgpepbnglhlaa", sum := "506dfad5f97c27a648f5be45a477b41de55984f258540dde2f5028f1e89e9e09", func := "loop.example/concierge/laws.FnExactLogAdd", spec := "fnExactLogAdd", unfollowed := true, recurses := true, apart := false, narrowed := true }
def FnExactLogAddUptoSaid : Prop := fnExactLogAddUptoRow.holds Try.pinned (OpenSpec.upto fnExactLogAddSpec)

/-- 'laws.FnTripsOnce', WHERE WHAT IT READS IS OF BULK AT MOST 1048576: true; the input reads as it did. -/
def fnTripsOnceUptoRow : OpenClaim := { program := "ytjpgpepbnglhlaa", sum := "506dfad5f97c27a648f5be45a477b41de55984f258540dde2f5028f1e89e9e09", func := "loop.example/concierge/laws.FnTripsOnce", spec := "fnTripsOnce", unfollowed := true, recurses := true, apart := false, narrowed := true }
def FnTripsOnceUptoSaid : Prop := fnTripsOnceUptoRow.holds Try.pinned (OpenSpec.upto fnTripsOnceSpec)

/-- 'laws.FnTripsStep', WHERE WHAT IT READS IS OF BULK AT MOST 1048576: true; the input reads as it did. -/
def fnTripsStepUptoRow : OpenClaim := { program := "ytjpgpepbnglhlaa", sum := "506dfad5f97c27a648f5be45a477b41de55984f258540dde2f5028f1e89e9e09", func := "loop.example/concierge/laws.FnTripsStep", spec := "fnTripsStep", unfollowed := true, recurses := true, apart := false, narrowed := true }
def FnTripsStepUptoSaid : Prop := fnTripsStepUptoRow.holds Try.pinned (OpenSpec.upto fnTripsStepSpec)

/-- 'laws.FnExactTripsDo', WHERE WHAT IT READS IS OF BULK AT MOST 1048576: true; the input reads as it did. -/
def fnExactTripsDoUptoRow : OpenClaim := { program := "ytjpgpepbnglhlaa", sum := "506dfad5f97c27a648f5be45a477b41de55984f258540dde2f5028f1e89e9e09", func := "loop.example/concierge/laws.FnExactTripsDo", spec := "fnExactTripsDo", unfollowed := true, recurses := true, apart := false, narrowed := true }
def FnExactTripsDoUptoSaid : Prop := fnExactTripsDoUptoRow.holds Try.pinned (OpenSpec.upto fnExactTripsDoSpec)

/-- 'laws.FnExactTripsOf', WHERE WHAT IT READS IS OF BULK AT MOST 1048576: true; the input reads as it did. -/
def fnExactTripsOfUptoRow : OpenClaim := { program := "ytjpgpepbnglhlaa", sum := "506dfad5f97c27a648f5be45a477b41de55984f258540dde2f5028f1e89e9e09", func := "loop.example/concierge/laws.FnExactTripsOf", spec := "fnExactTripsOf", unfollowed := true, recurses := true, apart := false, narrowed := true }
def FnExactTripsOfUptoSaid : Prop := fnExactTripsOfUptoRow.holds Try.pinned (OpenSpec.upto fnExactTripsOfSpec)

/-- 'laws.FnExactWorldNew', WHERE WHAT IT READS IS OF BULK AT MOST 1048576: true; the input reads as it did. -/
def fnExactWorldNewUptoRow : OpenClaim := { program := "ytjpgpepbnglhlaa", sum := "506dfad5f97c27a648f5be45a477b41de55984f258540dde2f5028f1e89e9e09", func := "loop.example/concierge/laws.FnExactWorldNew", spec := "fnExactWorldNew", apart := false, narrowed := true }
def FnExactWorldNewUptoSaid : Prop := fnExactWorldNewUptoRow.holds Try.pinned (OpenSpec.upto fnExactWorldNewSpec)

/-- 'laws.FnWorldNew', WHERE WHAT IT READS IS OF BULK AT MOST 1048576: true; the input reads as it did. -/
def fnWorldNewUptoRow : OpenClaim := { program := "ytjpgpepbnglhlaa", sum := "506dfad5f97c27a648f5be45a477b41de55984f258540dde2f5028f1e89e9e09", func := "loop.example/concierge/laws.FnWorldNew", spec := "fnWorldNew", unfollowed := true, recurses := true, apart := false, narrowed := true }
def FnWorldNewUptoSaid : Prop := fnWorldNewUptoRow.holds Try.pinned (OpenSpec.upto fnWorldNewSpec)

/-- 'laws.FnHouseStock', WHERE WHAT IT READS IS OF BULK AT MOST 1048576: true; the input reads as it did. -/
def fnHouseStockUptoRow : OpenClaim := { program := "ytjpgpepbnglhlaa", sum := "506dfad5f97c27a648f5be45a477b41de55984f258540dde2f5028f1e89e9e09", func := "loop.example/concierge/laws.FnHouseStock", spec := "fnHouseStock", unfollowed := true, recurses := true, apart := false, narrowed := true }
def FnHouseStockUptoSaid : Prop := fnHouseStockUptoRow.holds Try.pinned (OpenSpec.upto fnHouseStockSpec)

/-- 'laws.FnHouseForce', WHERE WHAT IT READS IS OF BULK AT MOST 1048576: true; the input reads as it did. -/
def fnHouseForceUptoRow : OpenClaim := { program := "ytjpgpepbnglhlaa", sum := "506dfad5f97c27a648f5be45a477b41de55984f258540dde2f5028f1e89e9e09", func := "loop.example/concierge/laws.FnHouseForce", spec := "fnHouseForce", unfollowed := true, recurses := true, apart := false, narrowed := true }
def FnHouseForceUptoSaid : Prop := fnHouseForceUptoRow.holds Try.pinned (OpenSpec.upto fnHouseForceSpec)

/-- 'laws.FnExactDeskOk', WHERE WHAT IT READS IS OF BULK AT MOST 1048576: true; the input reads as it did. -/
def fnExactDeskOkUptoRow : OpenClaim := { program := "ytjpgpepbnglhlaa", sum := "506dfad5f97c27a648f5be45a477b41de55984f258540dde2f5028f1e89e9e09", func := "loop.example/concierge/laws.FnExactDeskOk", spec := "fnExactDeskOk", unfollowed := true, recurses := true, apart := false, narrowed := true }
def FnExactDeskOkUptoSaid : Prop := fnExactDeskOkUptoRow.holds Try.pinned (OpenSpec.upto fnExactDeskOkSpec)

/-- 'laws.FnHouseRise', WHERE WHAT IT READS IS OF BULK AT MOST 1048576: true; the input reads as it did. -/
def fnHouseRiseUptoRow : OpenClaim := { program := "ytjpgpepbnglhlaa", sum := "506dfad5f97c27a648f5be45a477b41de55984f258540dde2f5028f1e89e9e09", func := "loop.example/concierge/laws.FnHouseRise", spec := "fnHouseRise", unfollowed := true, recurses := true, apart := false, narrowed := true }
def FnHouseRiseUptoSaid : Prop := fnHouseRiseUptoRow.holds Try.pinned (OpenSpec.upto fnHouseRiseSpec)

/-- 'laws.FnExactHouseRise', WHERE WHAT IT READS IS OF BULK AT MOST 1048576: true; the input reads as it did. -/
def fnExactHouseRiseUptoRow : OpenClaim := { program := "ytjpgpepbnglhlaa", sum := "506dfad5f97c27a648f5be45a477b41de55984f258540dde2f5028f1e89e9e09", func := "loop.example/concierge/laws.FnExactHouseRise", spec := "fnExactHouseRise", unfollowed := true, recurses := true, apart := false, narrowed := true }
def FnExactHouseRiseUptoSaid : Prop := fnExactHouseRiseUptoRow.holds Try.pinned (OpenSpec.upto fnExactHouseRiseSpec)

/-- 'laws.FnHouseFall', WHERE WHAT IT READS IS OF BULK AT MOST 1048576: true; the input reads as it did. -/
def fnHouseFallUptoRow : OpenClaim := { program := "ytjpgpepbnglhlaa", sum := "506dfad5f97c27a648f5be45a477b41de55984f258540dde2f5028f1e89e9e09", func := "loop.example/concierge/laws.FnHouseFall", spec := "fnHouseFall", unfollowed := true, recurses := true, apart := false, narrowed := true }
def FnHouseFallUptoSaid : Prop := fnHouseFallUptoRow.holds Try.pinned (OpenSpec.upto fnHouseFallSpec)

/-- 'laws.FnExactHouseForce', WHERE WHAT IT READS IS OF BULK AT MOST 1048576: true; the input reads as it did. -/
def fnExactHouseForceUptoRow : OpenClaim := { program := "ytjpgpepbnglhlaa", sum := "506dfad5f97c27a648f5be45a477b41de55984f258540dde2f5028f1e89e9e09", func := "loop.example/concierge/laws.FnExactHouseForce", spec := "fnExactHouseForce", unfollowed := true, recurses := true, apart := false, narrowed := true }
def FnExactHouseForceUptoSaid : Prop := fnExactHouseForceUptoRow.holds Try.pinned (OpenSpec.upto fnExactHouseForceSpec)

end Rows
end Go.Proofs.Ytjpgpepbnglhlaa
