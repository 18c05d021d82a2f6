/- The law FnDeskRise holds: at every input the function returns true, and the input reads as it did. No condition. -/
import Derived.Test.YtfjgckhndimhdaaGreatRows
import Derived.Test.YtfjgckhndimhdaaGreatLDeskRiseK
import Derived.Test.YtfjgckhndimhdaaGreatLDeskRiseM2
import Derived.Test.YtfjgckhndimhdaaGreatLDeskRiseM3
import Derived.WalkKit
import Derived.ProofKit
import Derived.OpenShut
import Derived.ShutString
import Derived.ChangeOld
import Derived.Below
import Derived.SizedLaws
set_option linter.unusedVariables false
set_option linter.unusedSimpArgs false
namespace Go.Proofs.YtfjgckhndimhdaaGreat.fnDeskRise
open Go.ChangeShapes Go.WideShapes Go.ChangeAt Go.RowKit
theorem own : ownKnob Tryz.prog.godebug = none := by kernel_rfl
theorem laidOut : laidOutB Tryz.prog = true := by kernel_rfl
section
open Go.AX
theorem o5 {H : Type} {enc : TypeId × Value → H} {W : World} : Opens enc Tryz.prog W 5 1 RByte := opens_byte Tryz.underlying5
theorem o22 {H : Type} {enc : TypeId × Value → H} {W : World} : Opens enc Tryz.prog W 22 1 (SlS 1 RByte) := opens_slice RByte.good Tryz.underlying22 (by kernel_rfl) (by decide) (of_decide_eq_true (by kernel_rfl)) o5
end
set_option maxRecDepth 100000 in
theorem lifted (os : Os) (started : os.Started) (H : Type) (enc : TypeId × Value → H) :
    ReturnsInHanded {} Tryz.checked os 5 .any (Rows.fnDeskRiseSpec.pre6 enc Tryz.prog Tryz.f5 Rows.fnDeskRiseRow.domain false) (Rows.fnDeskRiseSpec.post enc Tryz.prog Tryz.f5 false true false false) := by
  refine returnsInHanded_of_change_sized (C := Tryz.checked) own started (by kernel_rfl) Tryz.func5
    (ChangeSpec.witness6 (enc := enc) (C := Tryz.checked) false ⟨#[], #[.slice none 0 0, .slice none 0 0], []⟩ 8 (by kernel_rfl) (by kernel_rfl) (by kernel_rfl) (by kernel_rfl)) ?_
  intro W base args ds gs before hval0 hW hcnd hsz0 _
  have hsz : (DataW.weightsEach Tryz.prog (Tryz.f5.params.toList ++ Rows.fnDeskRiseSpec.plain.varTypes Tryz.prog) (ds ++ gs)).all (· ≤ reachBytes) = true := hsz0
  have hval : ∀ (j : Nat) t v, Tryz.f5.params[j]? = some t → args[j]? = some v → Value.okWide Tryz.prog W .any base t v := hval0
  have hW' := hW
  obtain ⟨p, q, hA0, hV, rfl, hfz, hnd⟩ := hW
  have hA : DataW.TrodAll enc Tryz.prog W 0 (fun _ => true) true Tryz.f5.params.toList args.toList ds p := hA0
  rw [Tryz.params5] at hA hval hsz
  obtain ⟨v0, vs0, d0, ds0, p0, q0, hargs, rfl, rfl, h0, r0⟩ := trodAll_cons hA
  obtain ⟨v1, vs1, d1, ds1, p1, q1, rfl, rfl, rfl, h1, r1⟩ := trodAll_cons r0
  obtain ⟨rfl, rfl, rfl⟩ := trodAll_nil r1
  obtain rfl : args = #[v0, v1] := by cases args; simp_all
  obtain ⟨rfl, rfl⟩ := trodVars_none hV
  have hsz1 : ∀ k ∈ DataW.weightsEach Tryz.prog ([22, 22] ++ Rows.fnDeskRiseSpec.plain.varTypes Tryz.prog) ([d0, d1] ++ []), k ≤ reachBytes := fun k hk => of_decide_eq_true (List.all_eq_true.1 hsz k hk)
  have k0 := h0
  have lt0 : ∀ x ∈ p0, x.block < W.heap.size := by obtain ⟨m, hm⟩ := k0; exact DataW.trod_lt m _ _ _ hm
  obtain ⟨a0, len0, cap0, rfl⟩ := okWide_slice Tryz.underlying22 (hval 0 22 v0 rfl rfl)
  obtain ⟨ρ0, K0, c0, y0, G0, e0, s0, ro0, w0, x0⟩ := Go.AX.open_cell o22 rfl h0 (Go.AX.weightsEach_mem (j := 0) (t := 22) rfl rfl hsz1) (fun _ => ⟨0, 0, 0, 0⟩) [] (Go.AX.hsim_nil _ W) (fun b B h => by simp at h)
  have k1 := h1
  have lt1 : ∀ x ∈ p1, x.block < W.heap.size := by obtain ⟨m, hm⟩ := k1; exact DataW.trod_lt m _ _ _ hm
  obtain ⟨a1, len1, cap1, rfl⟩ := okWide_slice Tryz.underlying22 (hval 1 22 v1 rfl rfl)
  obtain ⟨ρ1, K1, c1, y1, G1, e1, s1, ro1, w1, x1⟩ := Go.AX.open_cell o22 rfl h1 (Go.AX.weightsEach_mem (j := 1) (t := 22) rfl rfl hsz1) ρ0 K0 s0 ro0
  replace w0 := e1.vrel w0
  replace x0 := e1.rep (Go.AX.SlR.good Go.AX.RByte.good) x0
  clear hA0 hval0 hsz0 hsz
  refine (Go.AX.law_calls (Go.AX.does_FnDeskRise codes (Go.AX.SlS.cell x0) (Go.AX.SlS.cell x1)) (fun b B h => by rw [ro1 b B h]; decide) s1 (xs := #[_, _]) (.cons w0 (.cons w1 .nil))).mono fun e W' ⟨he, bel⟩ => ?_
  subst he
  exact ⟨_, rfl, _, _, _, [], _, [], hW', trodAll_mk1 (shut_bool Tryz.underlying4 _), (trodAll_cons_mk (Below.trod laidOut (by kernel_rfl) (of_decide_eq_true (by kernel_rfl)) k0 bel lt0) (trodAll_cons_mk (Below.trod laidOut (by kernel_rfl) (of_decide_eq_true (by kernel_rfl)) k1 bel lt1) trodAll_mk0)), rfl, bel.frame _, fun h => by cases h⟩
set_option maxRecDepth 100000 in
def wd : List (List Nat) := [[104, 97, 114, 110, 101, 115, 115], [102, 48, 53, 51, 100, 52, 54, 51, 98, 56, 52, 48, 54, 48, 56, 56, 97, 57, 52, 101, 102, 56, 100, 51, 48, 56, 49, 51, 52, 100, 101, 51, 50, 98, 97, 53, 53, 102, 97, 56, 99, 102, 51, 101, 57, 99, 100, 51, 100, 98, 54, 51, 100, 49, 49, 100, 54, 99, 100, 52, 51, 98, 99, 53], [99, 117, 116], [97, 116], [108, 111, 111, 112, 46, 101, 120, 97, 109, 112, 108, 101, 47, 99, 111, 110, 99, 105, 101, 114, 103, 101, 47, 108, 97, 119, 115, 46, 70, 110, 68, 101, 115, 107, 71, 105, 118, 101], [108, 111, 111, 112, 46, 101, 120, 97, 109, 112, 108, 101, 47, 99, 111, 110, 99, 105, 101, 114, 103, 101, 47, 108, 97, 119, 115, 46, 70, 110, 68, 101, 115, 107, 70, 97, 108, 108], [108, 111, 111, 112, 46, 101, 120, 97, 109, 112, 108, 101, 47, 99, 111, 110, 99, 105, 101, 114, 103, 101, 47, 108, 97, 119, 115, 46, 70, 110, 68, 101, 115, 107, 82, 105, 115, 101], [108, 111, 111, 112, 46, 101, 120, 97, 109, 112, 108, 101, 47, 99, 111, 110, 99, 105, 101, 114, 103, 101, 47, 108, 97, 119, 115, 46, 70, 110, 87, 111, 114, 108, 100, 72, 111, 108, 100, 115], [108, 111, 111, 112, 46, 101, 120, 97, 109, 112, 108, 101, 47, 99, 111, 110, 99, 105, 101, 114, 103, 101, 47, 108, 97, 119, 115, 46, 70, 110, 68, 101, 115, 107, 70, 111, 114, 99, 101]]
set_option maxRecDepth 100000 in
theorem signs0 : Tryz.prog.initOrder = String.ofList ((Go.AX.joined wd).map Char.ofNat) := by kernel_rfl
theorem words : wordsSigns Tryz.prog.initOrder.toList = wd.map (·.map Char.ofNat) := Go.AX.head_words signs0 (by simp [wd]) (by kernel_rfl)
def hw : List Char := "cut".toList
def hr : List (List Char) := (wd.drop 3).map (·.map Char.ofNat)
theorem behind0 : behindMainWord (wd.map (·.map Char.ofNat)) = hw :: hr := by kernel_rfl
theorem behind : behindMainWord (wordsSigns Tryz.prog.initOrder.toList) = hw :: hr := by rw [words]; exact behind0
theorem lifts0 : (stripLifts liftWords (hw :: hr)).1 = [] := by kernel_rfl
theorem lifts1 : ((stripLifts liftWords (hw :: hr)).2.head? == some "cut".toList) = true := by kernel_rfl
theorem enters1 : Tryz.prog.laysLater = false := by kernel_rfl
theorem enters2 : Tryz.prog.bearsReflect = false := by kernel_rfl
theorem enters3 : Tryz.prog.doorFits [] = true := by kernel_rfl
theorem enters : Tryz.prog.mayEnter = true := Go.AX.enters_cut behind lifts1 lifts0 enters1 enters2 enters3
theorem lifts : (Rows.fnDeskRiseRow.lifted == Tryz.prog.liftsFinal) = true := by rw [Go.AX.lifts_cut behind (by kernel_rfl) lifts0]; rfl
theorem made : (Tryz.prog.make == some Rows.fnDeskRiseRow.make) = true := by rw [Go.AX.make_cut behind (by kernel_rfl) (by kernel_rfl)]; rfl
theorem q0 : Rows.fnDeskRiseRow.wf (OpenSpec.ofChange Rows.fnDeskRiseSpec) = true := by kernel_rfl
theorem q1 : laidOutB Tryz.prog = true := by kernel_rfl
theorem q2 : mapsRowed Tryz.prog = true := by kernel_rfl
theorem q3 : Tryz.f5.params.all (Tryz.prog.readableRec ·) = true := by kernel_rfl
theorem q4 : namedTie Tryz.prog Rows.fnDeskRiseRow.named Rows.fnDeskRiseSpec.vars = true := by kernel_rfl
theorem q5 : (Rows.fnDeskRiseRow.stops == []) = true := by kernel_rfl
theorem q6 : (Tryz.prog.stops == []) = true := by kernel_rfl
theorem q7 : (Rows.fnDeskRiseRow.knobs == []) = true := by kernel_rfl
theorem q8 : (Tryz.prog.stopKnobs == []) = true := by kernel_rfl
theorem q9 : (Rows.fnDeskRiseRow.inPlace == Tryz.prog.inPlace 5) = true := by kernel_rfl
theorem q10 : (Rows.fnDeskRiseRow.unfollowed == Tryz.prog.unfollowed 5) = true := by kernel_rfl
theorem q11 : (Rows.fnDeskRiseRow.recurses == Tryz.prog.recurses 5) = true := by kernel_rfl
theorem q12 : (Rows.fnDeskRiseRow.named == Tryz.prog.varsNamed 5) = true := by kernel_rfl
theorem q13 : (Rows.fnDeskRiseRow.maps == (Tryz.f5.params.toList ++ Rows.fnDeskRiseSpec.plain.varTypes Tryz.prog).any (Tryz.prog.mapsRec ·)) = true := by kernel_rfl
theorem q14 : (Rows.fnDeskRiseRow.ifaces == (Tryz.f5.params.toList ++ Rows.fnDeskRiseSpec.plain.varTypes Tryz.prog).any (Tryz.prog.ifacesRec ·)) = true := by kernel_rfl
theorem q15 : (Rows.fnDeskRiseRow.mapsOut == Tryz.prog.mapsAmong Tryz.f5.resultTypes.toList) = true := by kernel_rfl
theorem q16 : (Rows.fnDeskRiseRow.loops == (Tryz.f5.params.toList ++ Rows.fnDeskRiseSpec.plain.varTypes Tryz.prog).any (Tryz.prog.loopsFrom ·)) = true := by kernel_rfl
theorem q17 : (Rows.fnDeskRiseRow.wideKeys == (Tryz.f5.params.toList ++ Rows.fnDeskRiseSpec.plain.varTypes Tryz.prog ++ Tryz.f5.resultTypes.toList).any (Tryz.prog.wideKeysFrom ·)) = true := by kernel_rfl
theorem q18 : Rows.fnDeskRiseSpec.vars.all (Tryz.prog.varReadable ·) = true := by kernel_rfl
theorem q19 : Tryz.f5.resultTypes.all (fun t => Tryz.prog.readableRec t && decide (t < Tryz.prog.types.size)) = true := by kernel_rfl
theorem q20 : (Rows.fnDeskRiseRow.ifacesOut == Tryz.f5.resultTypes.toList.any (Tryz.prog.ifacesRec ·)) = true := by kernel_rfl
theorem q21 : (Rows.fnDeskRiseRow.loopsOut == Tryz.f5.resultTypes.toList.any (Tryz.prog.loopsFrom ·)) = true := by kernel_rfl
theorem q22 : (Rows.fnDeskRiseRow.plainKeys == Tryz.prog.plainKeys) = true := by kernel_rfl
theorem q23 : Rows.fnDeskRiseRow.shortTexts.isNone = true := by kernel_rfl
theorem q24 : Tryz.prog.stopsHeard = true := by kernel_rfl
theorem q28a : Rows.fnDeskRiseRow.kinds = [] := by kernel_rfl
theorem q28b : Rows.fnDeskRiseRow.domain.isEmpty = true := by kernel_rfl
theorem q29 : (Rows.fnDeskRiseRow.pinned == Rows.fnDeskRiseRow.pinnedBy) = true := by kernel_rfl
theorem q30 : (Rows.fnDeskRiseRow.veiled == (Tryz.f5.params.toList ++ Rows.fnDeskRiseSpec.plain.varTypes Tryz.prog ++ Tryz.f5.resultTypes.toList).any (Tryz.prog.veiledRec ·)) = true := by kernel_rfl
theorem q31 : Rows.fnDeskRiseRow.veiledFits Tryz.prog Tryz.f5.params.toList (Tryz.f5.params.toList ++ Rows.fnDeskRiseSpec.plain.varTypes Tryz.prog ++ Tryz.f5.resultTypes.toList) = true := by kernel_rfl
theorem closed : joinedFacts Tryz.prog 5 Tryz.f5 Rows.fnDeskRiseSpec Rows.fnDeskRiseRow = true := Go.AX.facts_of q0 q1 q2 q3 q4 q5 q6 q7 q8 q9 q10 q11 q12 q13 q14 q15 q16 q17 q18 q19 q20 q21 q22 q23 q24 enters lifts made q28a q28b q29 q30 q31
theorem named : Tryz.prog.funcNamed Rows.fnDeskRiseRow.func = some 5 := by kernel_rfl
theorem inst : Tryz.f5.isInstance Tryz.prog Rows.fnDeskRiseRow.origin Rows.fnDeskRiseRow.targs := of_decide_eq_true (by kernel_rfl)
theorem wrapper : Tryz.f5.isWrapper Tryz.prog Rows.fnDeskRiseRow.wrapper Rows.fnDeskRiseRow.mainSum := by
  unfold Func.isWrapper; first | (rw [if_pos (by decide +kernel)]; kernel_rfl) | (rw [if_neg (by decide +kernel)]; exact ⟨rfl, rfl⟩)
theorem proved : Rows.FnDeskRiseSaid :=
  OpenClaim.holds_of_wide 5 Tryz.f5 rfl rfl rfl rfl rfl rfl rfl ⟨rfl, rfl, rfl, rfl, rfl⟩ rfl rfl rfl rfl rfl named Tryz.func5 closed inst wrapper
    (fun os started H enc _ => lifted os started H enc)
#print axioms proved
end Go.Proofs.YtfjgckhndimhdaaGreat.fnDeskRise
