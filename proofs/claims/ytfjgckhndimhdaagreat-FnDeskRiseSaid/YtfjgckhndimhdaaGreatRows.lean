/-
  No cell of these rows narrows 'for every input' (looked for: loops, veiled, ifaces, maps, wideKeys, modest, calm, conditions, laid).
  DERIVED. THE GIVEN ROWS OF THIS SEAT. 5 by the template 'for every input the law returns true; each argument reads behind the call as it read before'; 0 by the template 'total and deterministic' (their statements: YtfjgckhndimhdaaGreatTotals.lean).
  GIVEN WITH THE SEED: the statements are not yours to turn. If you find one false, say at which input.
  Laid BY PROGRAM, IN A SANDBOX (cutbox-rows.mjs): the forced cells as the released guide's own fill.sh prints them over the translation dc3b783c430d5c73… (all of the seat's roots in one cut). By AI agents, Wed Nov 11 2026. No macro, syntax, notation, axiom, sorry.
-/
import Derived.Test.YtfjgckhndimhdaaGreatChecked
import GoSem.Claim
import GoSem.ClaimJoined
import GoSem.ClaimMapViews
import Derived.JoinedTies
import Derived.KernelRfl
namespace Go.Proofs.YtfjgckhndimhdaaGreat
/- THE CELL 'sum', in the pinned program and in every row, IS THE sha256 OF THE DUMP (.gsa) THAT YtfjgckhndimhdaaGreatProg.lean LOADS. Nothing in Lean hashes anything: it is a label: what it is worth is what the hold of that sum in a sandbox is worth. -/
noncomputable def Tryz.pinned : Pinned := { name := "ytfjgckhndimhdaagreat", sum := "dc3b783c430d5c733fe06f1865ace4fd2b2917b3ec1bd532f3cf7a569f18c00b", checked := Tryz.checked }
namespace Rows
def none {H : Type} : Left H := { results := [], args := [] }

/-- 'laws.FnDeskGive': WHATEVER THE INPUT: true; the input reads as it did. -/
def fnDeskGiveSpec : ChangeSpec := { name := "fnDeskGive", fn := fun _ => fun
  | [d] => { results := [.lit (.bool true)], args := [d] }
  | _ => none }
def fnDeskGiveRow : OpenClaim := { program := "ytfjgckhndimhdaagreat", sum := "dc3b783c430d5c733fe06f1865ace4fd2b2917b3ec1bd532f3cf7a569f18c00b", func := "loop.example/concierge/laws.FnDeskGive", spec := "fnDeskGive", unfollowed := true, recurses := true, apart := false }
def FnDeskGiveSaid : Prop := fnDeskGiveRow.holds Tryz.pinned (OpenSpec.ofChange fnDeskGiveSpec)

/-- ITS FALSE NEIGHBOUR: 'it returns false'. Refute it at one input. -/
def fnDeskGiveWrong : ChangeSpec := { name := "fnDeskGive", fn := fun _ => fun
  | [d] => { results := [.lit (.bool false)], args := [d] }
  | _ => none }
def FnDeskGiveWrongFalsely : Prop := fnDeskGiveRow.holds Tryz.pinned (OpenSpec.ofChange fnDeskGiveWrong)

/-- 'laws.FnDeskFall': WHATEVER THE INPUT: true; the input reads as it did. -/
def fnDeskFallSpec : ChangeSpec := { name := "fnDeskFall", fn := fun _ => fun
  | [d] => { results := [.lit (.bool true)], args := [d] }
  | _ => none }
def fnDeskFallRow : OpenClaim := { program := "ytfjgckhndimhdaagreat", sum := "dc3b783c430d5c733fe06f1865ace4fd2b2917b3ec1bd532f3cf7a569f18c00b", func := "loop.example/concierge/laws.FnDeskFall", spec := "fnDeskFall", unfollowed := true, recurses := true, apart := false }
def FnDeskFallSaid : Prop := fnDeskFallRow.holds Tryz.pinned (OpenSpec.ofChange fnDeskFallSpec)

/-- ITS FALSE NEIGHBOUR: 'it returns false'. Refute it at one input. -/
def fnDeskFallWrong : ChangeSpec := { name := "fnDeskFall", fn := fun _ => fun
  | [d] => { results := [.lit (.bool false)], args := [d] }
  | _ => none }
def FnDeskFallWrongFalsely : Prop := fnDeskFallRow.holds Tryz.pinned (OpenSpec.ofChange fnDeskFallWrong)

/-- 'laws.FnDeskRise': WHATEVER THE INPUT: true; the input reads as it did. -/
def fnDeskRiseSpec : ChangeSpec := { name := "fnDeskRise", fn := fun _ => fun
  | [d1, d2] => { results := [.lit (.bool true)], args := [d1, d2] }
  | _ => none }
def fnDeskRiseRow : OpenClaim := { program := "ytfjgckhndimhdaagreat", sum := "dc3b783c430d5c733fe06f1865ace4fd2b2917b3ec1bd532f3cf7a569f18c00b", func := "loop.example/concierge/laws.FnDeskRise", spec := "fnDeskRise", unfollowed := true, recurses := true, apart := false }
def FnDeskRiseSaid : Prop := fnDeskRiseRow.holds Tryz.pinned (OpenSpec.ofChange fnDeskRiseSpec)

/-- ITS FALSE NEIGHBOUR: 'it returns false'. Refute it at one input. -/
def fnDeskRiseWrong : ChangeSpec := { name := "fnDeskRise", fn := fun _ => fun
  | [d1, d2] => { results := [.lit (.bool false)], args := [d1, d2] }
  | _ => none }
def FnDeskRiseWrongFalsely : Prop := fnDeskRiseRow.holds Tryz.pinned (OpenSpec.ofChange fnDeskRiseWrong)

/-- 'laws.FnWorldHolds': WHATEVER THE INPUT: true; the input reads as it did. -/
def fnWorldHoldsSpec : ChangeSpec := { name := "fnWorldHolds", fn := fun _ => fun
  | [d] => { results := [.lit (.bool true)], args := [d] }
  | _ => none }
def fnWorldHoldsRow : OpenClaim := { program := "ytfjgckhndimhdaagreat", sum := "dc3b783c430d5c733fe06f1865ace4fd2b2917b3ec1bd532f3cf7a569f18c00b", func := "loop.example/concierge/laws.FnWorldHolds", spec := "fnWorldHolds", unfollowed := true, recurses := true, apart := false }
def FnWorldHoldsSaid : Prop := fnWorldHoldsRow.holds Tryz.pinned (OpenSpec.ofChange fnWorldHoldsSpec)

/-- ITS FALSE NEIGHBOUR: 'it returns false'. Refute it at one input. -/
def fnWorldHoldsWrong : ChangeSpec := { name := "fnWorldHolds", fn := fun _ => fun
  | [d] => { results := [.lit (.bool false)], args := [d] }
  | _ => none }
def FnWorldHoldsWrongFalsely : Prop := fnWorldHoldsRow.holds Tryz.pinned (OpenSpec.ofChange fnWorldHoldsWrong)

/-- 'laws.FnDeskForce': WHATEVER THE INPUT: true; the input reads as it did. -/
def fnDeskForceSpec : ChangeSpec := { name := "fnDeskForce", fn := fun _ => fun
  | [d] => { results := [.lit (.bool true)], args := [d] }
  | _ => none }
def fnDeskForceRow : OpenClaim := { program := "ytfjgckhndimhdaagreat", sum := "dc3b783c430d5c733fe06f1865ace4fd2b2917b3ec1bd532f3cf7a569f18c00b", func := "loop.example/concierge/laws.FnDeskForce", spec := "fnDeskForce", unfollowed := true, recurses := true, apart := false }
def FnDeskForceSaid : Prop := fnDeskForceRow.holds Tryz.pinned (OpenSpec.ofChange fnDeskForceSpec)

/-- ITS FALSE NEIGHBOUR: 'it returns false'. Refute it at one input. -/
def fnDeskForceWrong : ChangeSpec := { name := "fnDeskForce", fn := fun _ => fun
  | [d] => { results := [.lit (.bool false)], args := [d] }
  | _ => none }
def FnDeskForceWrongFalsely : Prop := fnDeskForceRow.holds Tryz.pinned (OpenSpec.ofChange fnDeskForceWrong)

/- THE SECOND FORM. 'bulk': how many values and letters a reading holds, each counted each time it is reached (what is shared counts as often as it is met; a slice's spare places count too). A statement '..UptoSaid' is the law's where the arguments, and the package variables that the reading takes, are together of bulk at most 1048576: NARROWER than '..Said'. Prove '..Said' where nothing that the law and all that it calls make is longer than what came in: it says more and counts as full. Else prove '..UptoSaid'. A law counts once. -/
mutual
def uptoBulk {H : Type} : DataW H → Nat
  | .lit (.string bytes) => bytes.length + 1
  | .lit _ => 1
  | .nil => 1
  | .ptr d => uptoBulk d + 1
  | .slice elems spare => uptoBulkAll elems + uptoBulkAll spare + 1
  | .agg parts => uptoBulkAll parts + 1
  | .iface _ d => uptoBulk d + 1
  | .map entries => uptoBulkEntries entries + 1
  | .held _ => 1
def uptoBulkAll {H : Type} : List (DataW H) → Nat
  | [] => 0
  | d :: r => uptoBulk d + uptoBulkAll r
def uptoBulkEntries {H : Type} : List (Lit × DataW H) → Nat
  | [] => 0
  | x :: r => uptoBulkEntry x + uptoBulkEntries r
def uptoBulkEntry {H : Type} : Lit × DataW H → Nat
  | (.string bytes, d) => bytes.length + uptoBulk d + 1
  | (_, d) => uptoBulk d + 1
 end
def uptoSmall : (H : Type) → List (DataW H) → Bool := fun _ ds => decide (uptoBulkAll ds ≤ 1048576)
def OpenSpec.upto (s : _root_.Go.ChangeSpec) : _root_.Go.OpenSpec := { _root_.Go.OpenSpec.ofChange s with cond := some uptoSmall }

/-- 'laws.FnDeskGive', WHERE WHAT IT READS IS OF BULK AT MOST 1048576: true; the input reads as it did. -/
def fnDeskGiveUptoRow : OpenClaim := { program := "ytfjgckhndimhdaagreat", sum := "dc3b783c430d5c733fe06f1865ace4fd2b2917b3ec1bd532f3cf7a569f18c00b", func := "loop.example/concierge/laws.FnDeskGive", spec := "fnDeskGive", unfollowed := true, recurses := true, apart := false, narrowed := true }
def FnDeskGiveUptoSaid : Prop := fnDeskGiveUptoRow.holds Tryz.pinned (OpenSpec.upto fnDeskGiveSpec)

/-- 'laws.FnDeskFall', WHERE WHAT IT READS IS OF BULK AT MOST 1048576: true; the input reads as it did. -/
def fnDeskFallUptoRow : OpenClaim := { program := "ytfjgckhndimhdaagreat", sum := "dc3b783c430d5c733fe06f1865ace4fd2b2917b3ec1bd532f3cf7a569f18c00b", func := "loop.example/concierge/laws.FnDeskFall", spec := "fnDeskFall", unfollowed := true, recurses := true, apart := false, narrowed := true }
def FnDeskFallUptoSaid : Prop := fnDeskFallUptoRow.holds Tryz.pinned (OpenSpec.upto fnDeskFallSpec)

/-- 'laws.FnDeskRise', WHERE WHAT IT READS IS OF BULK AT MOST 1048576: true; the input reads as it did. -/
def fnDeskRiseUptoRow : OpenClaim := { program := "ytfjgckhndimhdaagreat", sum := "dc3b783c430d5c733fe06f1865ace4fd2b2917b3ec1bd532f3cf7a569f18c00b", func := "loop.example/concierge/laws.FnDeskRise", spec := "fnDeskRise", unfollowed := true, recurses := true, apart := false, narrowed := true }
def FnDeskRiseUptoSaid : Prop := fnDeskRiseUptoRow.holds Tryz.pinned (OpenSpec.upto fnDeskRiseSpec)

/-- 'laws.FnWorldHolds', WHERE WHAT IT READS IS OF BULK AT MOST 1048576: true; the input reads as it did. -/
def fnWorldHoldsUptoRow : OpenClaim := { program := "ytfjgckhndimhdaagreat", sum := "dc3b783c430d5c733fe06f1865ace4fd2b2917b3ec1bd532f3cf7a569f18c00b", func := "loop.example/concierge/laws.FnWorldHolds", spec := "fnWorldHolds", unfollowed := true, recurses := true, apart := false, narrowed := true }
def FnWorldHoldsUptoSaid : Prop := fnWorldHoldsUptoRow.holds Tryz.pinned (OpenSpec.upto fnWorldHoldsSpec)

/-- 'laws.FnDeskForce', WHERE WHAT IT READS IS OF BULK AT MOST 1048576: true; the input reads as it did. -/
def fnDeskForceUptoRow : OpenClaim := { program := "ytfjgckhndimhdaagreat", sum := "dc3b783c430d5c733fe06f1865ace4fd2b2917b3ec1bd532f3cf7a569f18c00b", func := "loop.example/concierge/laws.FnDeskForce", spec := "fnDeskForce", unfollowed := true, recurses := true, apart := false, narrowed := true }
def FnDeskForceUptoSaid : Prop := fnDeskForceUptoRow.holds Tryz.pinned (OpenSpec.upto fnDeskForceSpec)

end Rows
end Go.Proofs.YtfjgckhndimhdaaGreat
