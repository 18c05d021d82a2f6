/- The law FnDeskFall holds: at every input the function returns true, and the input reads as it did. No condition. -/
import Derived.Test.YtfjgckhndimhdaaGreatRows
import Derived.Test.YtfjgckhndimhdaaGreatLDeskFallK
import Derived.Test.YtfjgckhndimhdaaGreatLDeskFallM2
import Derived.Test.YtfjgckhndimhdaaGreatLDeskFallM3
import Derived.WalkKit
import Derived.ProofKit
import Derived.OpenShut
import Derived.ShutString
import Derived.ChangeOld
import Derived.Below
import Derived.SizedLaws
set_option linter.unusedVariables false
set_option linter.unusedSimpArgs false
namespace Go.Proofs.YtfjgckhndimhdaaGreat.fnDeskFall
open Go.ChangeShapes Go.WideShapes Go.ChangeAt Go.RowKit
theorem own : ownKnob Tryz.prog.godebug = none := by kernel_rfl
theorem laidOut : laidOutB Tryz.prog = true := by kernel_rfl
section
open Go.AX
theorem o5 {H : Type} {enc : TypeId × Value → H} {W : World} : Opens enc Tryz.prog W 5 1 RByte := opens_byte Tryz.underlying5
theorem o22 {H : Type} {enc : TypeId × Value → H} {W : World} : Opens enc Tryz.prog W 22 1 (SlS 1 RByte) := opens_slice RByte.good Tryz.underlying22 (by kernel_rfl) (by decide) (of_decide_eq_true (by kernel_rfl)) o5
end
set_option maxRecDepth 100000 in
theorem lifted (os : Os) (started : os.Started) (H : Type) (enc : TypeId × Value → H) :
    ReturnsInHanded {} Tryz.checked os 4 .any (Rows.fnDeskFallSpec.pre6 enc Tryz.prog Tryz.f4 Rows.fnDeskFallRow.domain false) (Rows.fnDeskFallSpec.post enc Tryz.prog Tryz.f4 false true false false) := by
  refine returnsInHanded_of_change_sized (C := Tryz.checked) own started (by kernel_rfl) Tryz.func4
    (ChangeSpec.witness6 (enc := enc) (C := Tryz.checked) false ⟨#[], #[.slice none 0 0], []⟩ 8 (by kernel_rfl) (by kernel_rfl) (by kernel_rfl) (by kernel_rfl)) ?_
  intro W base args ds gs before hval0 hW hcnd hsz0 _
  have hsz : (DataW.weightsEach Tryz.prog (Tryz.f4.params.toList ++ Rows.fnDeskFallSpec.plain.varTypes Tryz.prog) (ds ++ gs)).all (· ≤ reachBytes) = true := hsz0
  have hval : ∀ (j : Nat) t v, Tryz.f4.params[j]? = some t → args[j]? = some v → Value.okWide Tryz.prog W .any base t v := hval0
  have hW' := hW
  obtain ⟨p, q, hA0, hV, rfl, hfz, hnd⟩ := hW
  have hA : DataW.TrodAll enc Tryz.prog W 0 (fun _ => true) true Tryz.f4.params.toList args.toList ds p := hA0
  rw [Tryz.params4] at hA hval hsz
  obtain ⟨v0, vs0, d0, ds0, p0, q0, hargs, rfl, rfl, h0, r0⟩ := trodAll_cons hA
  obtain ⟨rfl, rfl, rfl⟩ := trodAll_nil r0
  obtain rfl : args = #[v0] := by cases args; simp_all
  obtain ⟨rfl, rfl⟩ := trodVars_none hV
  have hsz1 : ∀ k ∈ DataW.weightsEach Tryz.prog ([22] ++ Rows.fnDeskFallSpec.plain.varTypes Tryz.prog) ([d0] ++ []), k ≤ reachBytes := fun k hk => of_decide_eq_true (List.all_eq_true.1 hsz k hk)
  have k0 := h0
  have lt0 : ∀ x ∈ p0, x.block < W.heap.size := by obtain ⟨m, hm⟩ := k0; exact DataW.trod_lt m _ _ _ hm
  obtain ⟨a0, len0, cap0, rfl⟩ := okWide_slice Tryz.underlying22 (hval 0 22 v0 rfl rfl)
  obtain ⟨ρ0, K0, c0, y0, G0, e0, s0, ro0, w0, x0⟩ := Go.AX.open_cell o22 rfl h0 (Go.AX.weightsEach_mem (j := 0) (t := 22) rfl rfl hsz1) (fun _ => ⟨0, 0, 0, 0⟩) [] (Go.AX.hsim_nil _ W) (fun b B h => by simp at h)
  clear hA0 hval0 hsz0 hsz
  refine (Go.AX.law_calls (Go.AX.does_FnDeskFall codes (Go.AX.SlS.cell x0)) (fun b B h => by rw [ro0 b B h]; decide) s0 (xs := #[_]) (.cons w0 .nil)).mono fun e W' ⟨he, bel⟩ => ?_
  subst he
  exact ⟨_, rfl, _, _, _, [], _, [], hW', trodAll_mk1 (shut_bool Tryz.underlying4 _), (trodAll_cons_mk (Below.trod laidOut (by kernel_rfl) (of_decide_eq_true (by kernel_rfl)) k0 bel lt0) trodAll_mk0), rfl, bel.frame _, fun h => by cases h⟩
set_option maxRecDepth 100000 in
def wd : List (List Nat) := [[104, 97, 114, 110, 101, 115, 115], [102, 48, 53, 51, 100, 52, 54, 51, 98, 56, 52, 48, 54, 48, 56, 56, 97, 57, 52, 101, 102, 56, 100, 51, 48, 56, 49, 51, 52, 100, 101, 51, 50, 98, 97, 53, 53, 102, 97, 56, 99, 102, 51, 101, 57, 99, 100, 51, 100, 98, 54, 51, 100, 49, 49, 100, 54, 99, 100, 52, 51, 98, 99, 53], [99, 117, 116], [97, 116], [108, 111, 111, 112, 46, 101, 120, 97, 109, 112, 108, 101, 47, 99, 111, 110, 99, 105, 101, 114, 103, 101, 47, 108, 97, 119, 115, 46, 70, 110, 68, 101, 115, 107, 71, 105, 118, 101], [108, 111, 111, 112, 46, 101, 120, 97, 109, 112, 108, 101, 47, 99, 111, 110, 99, 105, 101, 114, 103, 101, 47, 108, 97, 119, 115, 46, 70, 110, 68, 101, 115, 107, 70, 97, 108, 108], [108, 111, 111, 112, 46, 101, 120, 97, 109, 112, 108, 101, 47, 99, 111, 110, 99, 105, 101, 114, 103, 101, 47, 108, 97, 119, 115, 46, 70, 110, 68, 101, 115, 107, 82, 105, 115, 101], [108, 111, 111, 112, 46, 101, 120, 97, 109, 112, 108, 101, 47, 99, 111, 110, 99, 105, 101, 114, 103, 101, 47, 108, 97, 119, 115, 46, 70, 110, 87, 111, 114, 108, 100, 72, 111, 108, 100, 115], [108, 111, 111, 112, 46, 101, 120, 97, 109, 112, 108, 101, 47, 99, 111, 110, 99, 105, 101, 114, 103, 101, 47, 108, 97, 119, 115, 46, 70, 110, 68, 101, 115, 107, 70, 111, 114, 99, 101]]
set_option maxRecDepth 100000 in
theorem signs0 : Tryz.prog.initOrder = String.ofList ((Go.AX.joined wd).map Char.ofNat) := by kernel_rfl
theorem words : wordsSigns Tryz.prog.initOrder.toList = wd.map (·.map Char.ofNat) := Go.AX.head_words signs0 (by simp [wd]) (by kernel_rfl)
def hw : List Char := "cut".toList
def hr : List (List Char) := (wd.drop 3).map (·.map Char.ofNat)
theorem behind0 : behindMainWord (wd.map (·.map Char.ofNat)) = hw :: hr := by kernel_rfl
theorem behind : behindMainWord (wordsSigns Tryz.prog.initOrder.toList) = hw :: hr := by rw [words]; exact behind0
theorem lifts0 : (stripLifts liftWords (hw :: hr)).1 = [] := by kernel_rfl
theorem lifts1 : ((stripLifts liftWords (hw :: hr)).2.head? == some "cut".toList) = true := by kernel_rfl
theorem enters1 : Tryz.prog.laysLater = false := by kernel_rfl
theorem enters2 : Tryz.prog.bearsReflect = false := by kernel_rfl
theorem enters3 : Tryz.prog.doorFits [] = true := by kernel_rfl
theorem enters : Tryz.prog.mayEnter = true := Go.AX.enters_cut behind lifts1 lifts0 enters1 enters2 enters3
theorem lifts : (Rows.fnDeskFallRow.lifted == Tryz.prog.liftsFinal) = true := by rw [Go.AX.lifts_cut behind (by kernel_rfl) lifts0]; rfl
theorem made : (Tryz.prog.make == some Rows.fnDeskFallRow.make) = true := by rw [Go.AX.make_cut behind (by kernel_rfl) (by kernel_rfl)]; rfl
theorem q0 : Rows.fnDeskFallRow.wf (OpenSpec.ofChange Rows.fnDeskFallSpec) = true := by kernel_rfl
theorem q1 : laidOutB Tryz.prog = true := by kernel_rfl
theorem q2 : mapsRowed Tryz.prog = true := by kernel_rfl
theorem q3 : Tryz.f4.params.all (Tryz.prog.readableRec ·) = true := by kernel_rfl
theorem q4 : namedTie Tryz.prog Rows.fnDeskFallRow.named Rows.fnDeskFallSpec.vars = true := by kernel_rfl
theorem q5 : (Rows.fnDeskFallRow.stops == []) = true := by kernel_rfl
theorem q6 : (Tryz.prog.stops == []) = true := by kernel_rfl
theorem q7 : (Rows.fnDeskFallRow.knobs == []) = true := by kernel_rfl
theorem q8 : (Tryz.prog.stopKnobs == []) = true := by kernel_rfl
theorem q9 : (Rows.fnDeskFallRow.inPlace == Tryz.prog.inPlace 4) = true := by kernel_rfl
theorem q10 : (Rows.fnDeskFallRow.unfollowed == Tryz.prog.unfollowed 4) = true := by kernel_rfl
theorem q11 : (Rows.fnDeskFallRow.recurses == Tryz.prog.recurses 4) = true := by kernel_rfl
theorem q12 : (Rows.fnDeskFallRow.named == Tryz.prog.varsNamed 4) = true := by kernel_rfl
theorem q13 : (Rows.fnDeskFallRow.maps == (Tryz.f4.params.toList ++ Rows.fnDeskFallSpec.plain.varTypes Tryz.prog).any (Tryz.prog.mapsRec ·)) = true := by kernel_rfl
theorem q14 : (Rows.fnDeskFallRow.ifaces == (Tryz.f4.params.toList ++ Rows.fnDeskFallSpec.plain.varTypes Tryz.prog).any (Tryz.prog.ifacesRec ·)) = true := by kernel_rfl
theorem q15 : (Rows.fnDeskFallRow.mapsOut == Tryz.prog.mapsAmong Tryz.f4.resultTypes.toList) = true := by kernel_rfl
theorem q16 : (Rows.fnDeskFallRow.loops == (Tryz.f4.params.toList ++ Rows.fnDeskFallSpec.plain.varTypes Tryz.prog).any (Tryz.prog.loopsFrom ·)) = true := by kernel_rfl
theorem q17 : (Rows.fnDeskFallRow.wideKeys == (Tryz.f4.params.toList ++ Rows.fnDeskFallSpec.plain.varTypes Tryz.prog ++ Tryz.f4.resultTypes.toList).any (Tryz.prog.wideKeysFrom ·)) = true := by kernel_rfl
theorem q18 : Rows.fnDeskFallSpec.vars.all (Tryz.prog.varReadable ·) = true := by kernel_rfl
theorem q19 : Tryz.f4.resultTypes.all (fun t => Tryz.prog.readableRec t && decide (t < Tryz.prog.types.size)) = true := by kernel_rfl
theorem q20 : (Rows.fnDeskFallRow.ifacesOut == Tryz.f4.resultTypes.toList.any (Tryz.prog.ifacesRec ·)) = true := by kernel_rfl
theorem q21 : (Rows.fnDeskFallRow.loopsOut == Tryz.f4.resultTypes.toList.any (Tryz.prog.loopsFrom ·)) = true := by kernel_rfl
theorem q22 : (Rows.fnDeskFallRow.plainKeys == Tryz.prog.plainKeys) = true := by kernel_rfl
theorem q23 : Rows.fnDeskFallRow.shortTexts.isNone = true := by kernel_rfl
theorem q24 : Tryz.prog.stopsHeard = true := by kernel_rfl
theorem q28a : Rows.fnDeskFallRow.kinds = [] := by kernel_rfl
theorem q28b : Rows.fnDeskFallRow.domain.isEmpty = true := by kernel_rfl
theorem q29 : (Rows.fnDeskFallRow.pinned == Rows.fnDeskFallRow.pinnedBy) = true := by kernel_rfl
theorem q30 : (Rows.fnDeskFallRow.veiled == (Tryz.f4.params.toList ++ Rows.fnDeskFallSpec.plain.varTypes Tryz.prog ++ Tryz.f4.resultTypes.toList).any (Tryz.prog.veiledRec ·)) = true := by kernel_rfl
theorem q31 : Rows.fnDeskFallRow.veiledFits Tryz.prog Tryz.f4.params.toList (Tryz.f4.params.toList ++ Rows.fnDeskFallSpec.plain.varTypes Tryz.prog ++ Tryz.f4.resultTypes.toList) = true := by kernel_rfl
theorem closed : joinedFacts Tryz.prog 4 Tryz.f4 Rows.fnDeskFallSpec Rows.fnDeskFallRow = true := Go.AX.facts_of q0 q1 q2 q3 q4 q5 q6 q7 q8 q9 q10 q11 q12 q13 q14 q15 q16 q17 q18 q19 q20 q21 q22 q23 q24 enters lifts made q28a q28b q29 q30 q31
theorem named : Tryz.prog.funcNamed Rows.fnDeskFallRow.func = some 4 := by kernel_rfl
theorem inst : Tryz.f4.isInstance Tryz.prog Rows.fnDeskFallRow.origin Rows.fnDeskFallRow.targs := of_decide_eq_true (by kernel_rfl)
theorem wrapper : Tryz.f4.isWrapper Tryz.prog Rows.fnDeskFallRow.wrapper Rows.fnDeskFallRow.mainSum := by
  unfold Func.isWrapper; first | (rw [if_pos (by decide +kernel)]; kernel_rfl) | (rw [if_neg (by decide +kernel)]; exact ⟨rfl, rfl⟩)
theorem proved : Rows.FnDeskFallSaid :=
  OpenClaim.holds_of_wide 4 Tryz.f4 rfl rfl rfl rfl rfl rfl rfl ⟨rfl, rfl, rfl, rfl, rfl⟩ rfl rfl rfl rfl rfl named Tryz.func4 closed inst wrapper
    (fun os started H enc _ => lifted os started H enc)
#print axioms proved
end Go.Proofs.YtfjgckhndimhdaaGreat.fnDeskFall
