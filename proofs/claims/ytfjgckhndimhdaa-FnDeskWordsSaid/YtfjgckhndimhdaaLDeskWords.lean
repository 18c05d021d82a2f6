/- The law FnDeskWords holds: at every input the function returns true, and the input reads as it did. No condition. -/
import Derived.Test.YtfjgckhndimhdaaRows
import Derived.Test.YtfjgckhndimhdaaLDeskWordsK
import Derived.Test.YtfjgckhndimhdaaLDeskWordsM2
import Derived.Test.YtfjgckhndimhdaaLDeskWordsM3
import Derived.WalkKit
import Derived.ProofKit
import Derived.OpenShut
import Derived.ShutString
import Derived.ChangeOld
import Derived.Below
import Derived.SizedLaws
set_option linter.unusedVariables false
set_option linter.unusedSimpArgs false
namespace Go.Proofs.Ytfjgckhndimhdaa.fnDeskWords
open Go.ChangeShapes Go.WideShapes Go.ChangeAt Go.RowKit
theorem own : ownKnob Try.prog.godebug = none := by kernel_rfl
theorem laidOut : laidOutB Try.prog = true := by kernel_rfl
section
open Go.AX
theorem o5 {H : Type} {enc : TypeId × Value → H} {W : World} : Opens enc Try.prog W 5 1 RByte := opens_byte Try.underlying5
theorem o22 {H : Type} {enc : TypeId × Value → H} {W : World} : Opens enc Try.prog W 22 1 (SlS 1 RByte) := opens_slice RByte.good Try.underlying22 (by kernel_rfl) (by decide) (of_decide_eq_true (by kernel_rfl)) o5
end
set_option maxRecDepth 100000 in
theorem lifted (os : Os) (started : os.Started) (H : Type) (enc : TypeId × Value → H) :
    ReturnsInHanded {} Try.checked os 5 .any (Rows.fnDeskWordsSpec.pre6 enc Try.prog Try.f5 Rows.fnDeskWordsRow.domain false) (Rows.fnDeskWordsSpec.post enc Try.prog Try.f5 false true false false) := by
  refine returnsInHanded_of_change_sized (C := Try.checked) own started (by kernel_rfl) Try.func5
    (ChangeSpec.witness6 (enc := enc) (C := Try.checked) false ⟨#[], #[.slice none 0 0], []⟩ 8 (by kernel_rfl) (by kernel_rfl) (by kernel_rfl) (by kernel_rfl)) ?_
  intro W base args ds gs before hval0 hW hcnd hsz0 _
  have hsz : (DataW.weightsEach Try.prog (Try.f5.params.toList ++ Rows.fnDeskWordsSpec.plain.varTypes Try.prog) (ds ++ gs)).all (· ≤ reachBytes) = true := hsz0
  have hval : ∀ (j : Nat) t v, Try.f5.params[j]? = some t → args[j]? = some v → Value.okWide Try.prog W .any base t v := hval0
  have hW' := hW
  obtain ⟨p, q, hA0, hV, rfl, hfz, hnd⟩ := hW
  have hA : DataW.TrodAll enc Try.prog W 0 (fun _ => true) true Try.f5.params.toList args.toList ds p := hA0
  rw [Try.params5] at hA hval hsz
  obtain ⟨v0, vs0, d0, ds0, p0, q0, hargs, rfl, rfl, h0, r0⟩ := trodAll_cons hA
  obtain ⟨rfl, rfl, rfl⟩ := trodAll_nil r0
  obtain rfl : args = #[v0] := by cases args; simp_all
  obtain ⟨rfl, rfl⟩ := trodVars_none hV
  have hsz1 : ∀ k ∈ DataW.weightsEach Try.prog ([22] ++ Rows.fnDeskWordsSpec.plain.varTypes Try.prog) ([d0] ++ []), k ≤ reachBytes := fun k hk => of_decide_eq_true (List.all_eq_true.1 hsz k hk)
  have k0 := h0
  have lt0 : ∀ x ∈ p0, x.block < W.heap.size := by obtain ⟨m, hm⟩ := k0; exact DataW.trod_lt m _ _ _ hm
  obtain ⟨a0, len0, cap0, rfl⟩ := okWide_slice Try.underlying22 (hval 0 22 v0 rfl rfl)
  obtain ⟨ρ0, K0, c0, y0, G0, e0, s0, ro0, w0, x0⟩ := Go.AX.open_cell o22 rfl h0 (Go.AX.weightsEach_mem (j := 0) (t := 22) rfl rfl hsz1) (fun _ => ⟨0, 0, 0, 0⟩) [] (Go.AX.hsim_nil _ W) (fun b B h => by simp at h)
  clear hA0 hval0 hsz0 hsz
  refine (Go.AX.law_calls (Go.AX.does_FnDeskWords codes (Go.AX.SlS.cell x0)) (fun b B h => by rw [ro0 b B h]; decide) s0 (xs := #[_]) (.cons w0 .nil)).mono fun e W' ⟨he, bel⟩ => ?_
  subst he
  exact ⟨_, rfl, _, _, _, [], _, [], hW', trodAll_mk1 (shut_bool Try.underlying4 _), (trodAll_cons_mk (Below.trod laidOut (by kernel_rfl) (of_decide_eq_true (by kernel_rfl)) k0 bel lt0) trodAll_mk0), rfl, bel.frame _, fun h => by cases h⟩
set_option maxRecDepth 100000 in
def wd : List (List Nat) := [[104, 97, 114, 110, 101, 115, 115], [101, 50, 98, 99, 56, 51, 57, 49, 54, 101, 53, 50, 52, 57, 56, 100, 54, 55, 98, 51, 56, 100, 101, 56, 101, 56, 102, 99, 54, 99, 51, 101, 51, 48, 101, 101, 97, 55, 97, 97, 100, 51, 54, 48, 48, 100, 54, 53, 101, 99, 55, 48, 56, 53, 55, 98, 48, 48, 54, 100, 100, 54, 55, 98], [99, 117, 116], [97, 116], [108, 111, 111, 112, 46, 101, 120, 97, 109, 112, 108, 101, 47, 99, 111, 110, 99, 105, 101, 114, 103, 101, 47, 108, 97, 119, 115, 46, 70, 110, 68, 101, 115, 107, 76, 111, 103], [108, 111, 111, 112, 46, 101, 120, 97, 109, 112, 108, 101, 47, 99, 111, 110, 99, 105, 101, 114, 103, 101, 47, 108, 97, 119, 115, 46, 70, 110, 68, 101, 115, 107, 84, 114, 105, 112, 115], [108, 111, 111, 112, 46, 101, 120, 97, 109, 112, 108, 101, 47, 99, 111, 110, 99, 105, 101, 114, 103, 101, 47, 108, 97, 119, 115, 46, 70, 110, 68, 101, 115, 107, 87, 111, 114, 100, 115]]
set_option maxRecDepth 100000 in
theorem signs0 : Try.prog.initOrder = String.ofList ((Go.AX.joined wd).map Char.ofNat) := by kernel_rfl
theorem words : wordsSigns Try.prog.initOrder.toList = wd.map (·.map Char.ofNat) := Go.AX.head_words signs0 (by simp [wd]) (by kernel_rfl)
def hw : List Char := "cut".toList
def hr : List (List Char) := (wd.drop 3).map (·.map Char.ofNat)
theorem behind0 : behindMainWord (wd.map (·.map Char.ofNat)) = hw :: hr := by kernel_rfl
theorem behind : behindMainWord (wordsSigns Try.prog.initOrder.toList) = hw :: hr := by rw [words]; exact behind0
theorem lifts0 : (stripLifts liftWords (hw :: hr)).1 = [] := by kernel_rfl
theorem lifts1 : ((stripLifts liftWords (hw :: hr)).2.head? == some "cut".toList) = true := by kernel_rfl
theorem enters1 : Try.prog.laysLater = false := by kernel_rfl
theorem enters2 : Try.prog.bearsReflect = false := by kernel_rfl
theorem enters3 : Try.prog.doorFits [] = true := by kernel_rfl
theorem enters : Try.prog.mayEnter = true := Go.AX.enters_cut behind lifts1 lifts0 enters1 enters2 enters3
theorem lifts : (Rows.fnDeskWordsRow.lifted == Try.prog.liftsFinal) = true := by rw [Go.AX.lifts_cut behind (by kernel_rfl) lifts0]; rfl
theorem made : (Try.prog.make == some Rows.fnDeskWordsRow.make) = true := by rw [Go.AX.make_cut behind (by kernel_rfl) (by kernel_rfl)]; rfl
theorem q0 : Rows.fnDeskWordsRow.wf (OpenSpec.ofChange Rows.fnDeskWordsSpec) = true := by kernel_rfl
theorem q1 : laidOutB Try.prog = true := by kernel_rfl
theorem q2 : mapsRowed Try.prog = true := by kernel_rfl
theorem q3 : Try.f5.params.all (Try.prog.readableRec ·) = true := by kernel_rfl
theorem q4 : namedTie Try.prog Rows.fnDeskWordsRow.named Rows.fnDeskWordsSpec.vars = true := by kernel_rfl
theorem q5 : (Rows.fnDeskWordsRow.stops == []) = true := by kernel_rfl
theorem q6 : (Try.prog.stops == []) = true := by kernel_rfl
theorem q7 : (Rows.fnDeskWordsRow.knobs == []) = true := by kernel_rfl
theorem q8 : (Try.prog.stopKnobs == []) = true := by kernel_rfl
theorem q9 : (Rows.fnDeskWordsRow.inPlace == Try.prog.inPlace 5) = true := by kernel_rfl
theorem q10 : (Rows.fnDeskWordsRow.unfollowed == Try.prog.unfollowed 5) = true := by kernel_rfl
theorem q11 : (Rows.fnDeskWordsRow.recurses == Try.prog.recurses 5) = true := by kernel_rfl
theorem q12 : (Rows.fnDeskWordsRow.named == Try.prog.varsNamed 5) = true := by kernel_rfl
theorem q13 : (Rows.fnDeskWordsRow.maps == (Try.f5.params.toList ++ Rows.fnDeskWordsSpec.plain.varTypes Try.prog).any (Try.prog.mapsRec ·)) = true := by kernel_rfl
theorem q14 : (Rows.fnDeskWordsRow.ifaces == (Try.f5.params.toList ++ Rows.fnDeskWordsSpec.plain.varTypes Try.prog).any (Try.prog.ifacesRec ·)) = true := by kernel_rfl
theorem q15 : (Rows.fnDeskWordsRow.mapsOut == Try.prog.mapsAmong Try.f5.resultTypes.toList) = true := by kernel_rfl
theorem q16 : (Rows.fnDeskWordsRow.loops == (Try.f5.params.toList ++ Rows.fnDeskWordsSpec.plain.varTypes Try.prog).any (Try.prog.loopsFrom ·)) = true := by kernel_rfl
theorem q17 : (Rows.fnDeskWordsRow.wideKeys == (Try.f5.params.toList ++ Rows.fnDeskWordsSpec.plain.varTypes Try.prog ++ Try.f5.resultTypes.toList).any (Try.prog.wideKeysFrom ·)) = true := by kernel_rfl
theorem q18 : Rows.fnDeskWordsSpec.vars.all (Try.prog.varReadable ·) = true := by kernel_rfl
theorem q19 : Try.f5.resultTypes.all (fun t => Try.prog.readableRec t && decide (t < Try.prog.types.size)) = true := by kernel_rfl
theorem q20 : (Rows.fnDeskWordsRow.ifacesOut == Try.f5.resultTypes.toList.any (Try.prog.ifacesRec ·)) = true := by kernel_rfl
theorem q21 : (Rows.fnDeskWordsRow.loopsOut == Try.f5.resultTypes.toList.any (Try.prog.loopsFrom ·)) = true := by kernel_rfl
theorem q22 : (Rows.fnDeskWordsRow.plainKeys == Try.prog.plainKeys) = true := by kernel_rfl
theorem q23 : Rows.fnDeskWordsRow.shortTexts.isNone = true := by kernel_rfl
theorem q24 : Try.prog.stopsHeard = true := by kernel_rfl
theorem q28a : Rows.fnDeskWordsRow.kinds = [] := by kernel_rfl
theorem q28b : Rows.fnDeskWordsRow.domain.isEmpty = true := by kernel_rfl
theorem q29 : (Rows.fnDeskWordsRow.pinned == Rows.fnDeskWordsRow.pinnedBy) = true := by kernel_rfl
theorem q30 : (Rows.fnDeskWordsRow.veiled == (Try.f5.params.toList ++ Rows.fnDeskWordsSpec.plain.varTypes Try.prog ++ Try.f5.resultTypes.toList).any (Try.prog.veiledRec ·)) = true := by kernel_rfl
theorem q31 : Rows.fnDeskWordsRow.veiledFits Try.prog Try.f5.params.toList (Try.f5.params.toList ++ Rows.fnDeskWordsSpec.plain.varTypes Try.prog ++ Try.f5.resultTypes.toList) = true := by kernel_rfl
theorem closed : joinedFacts Try.prog 5 Try.f5 Rows.fnDeskWordsSpec Rows.fnDeskWordsRow = true := Go.AX.facts_of q0 q1 q2 q3 q4 q5 q6 q7 q8 q9 q10 q11 q12 q13 q14 q15 q16 q17 q18 q19 q20 q21 q22 q23 q24 enters lifts made q28a q28b q29 q30 q31
theorem named : Try.prog.funcNamed Rows.fnDeskWordsRow.func = some 5 := by kernel_rfl
theorem inst : Try.f5.isInstance Try.prog Rows.fnDeskWordsRow.origin Rows.fnDeskWordsRow.targs := of_decide_eq_true (by kernel_rfl)
theorem wrapper : Try.f5.isWrapper Try.prog Rows.fnDeskWordsRow.wrapper Rows.fnDeskWordsRow.mainSum := by
  unfold Func.isWrapper; first | (rw [if_pos (by decide +kernel)]; kernel_rfl) | (rw [if_neg (by decide +kernel)]; exact ⟨rfl, rfl⟩)
theorem proved : Rows.FnDeskWordsSaid :=
  OpenClaim.holds_of_wide 5 Try.f5 rfl rfl rfl rfl rfl rfl rfl ⟨rfl, rfl, rfl, rfl, rfl⟩ rfl rfl rfl rfl rfl named Try.func5 closed inst wrapper
    (fun os started H enc _ => lifted os started H enc)
#print axioms proved
end Go.Proofs.Ytfjgckhndimhdaa.fnDeskWords
