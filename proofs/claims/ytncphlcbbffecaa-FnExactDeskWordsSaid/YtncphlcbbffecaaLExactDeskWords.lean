/- The law FnExactDeskWords holds: at every input the function returns true, and the input reads as it did. No condition. -/
import Derived.Test.YtncphlcbbffecaaRows
import Derived.Test.YtncphlcbbffecaaLExactDeskWordsK
import Derived.Test.YtncphlcbbffecaaLExactDeskWordsM1
import Derived.Test.YtncphlcbbffecaaLExactDeskWordsM2
import Derived.WalkKit
import Derived.ProofKit
import Derived.OpenShut
import Derived.ShutString
import Derived.ChangeOld
import Derived.Below
import Derived.SizedLaws
set_option linter.unusedVariables false
set_option linter.unusedSimpArgs false
namespace Go.Proofs.Ytncphlcbbffecaa.fnExactDeskWords
open Go.ChangeShapes Go.WideShapes Go.ChangeAt Go.RowKit
theorem own : ownKnob Try.prog.godebug = none := by kernel_rfl
theorem laidOut : laidOutB Try.prog = true := by kernel_rfl
section
open Go.AX
theorem o4 {H : Type} {enc : TypeId × Value → H} {W : World} : Opens enc Try.prog W 4 1 RBool := opens_bool Try.underlying4
theorem o3 {H : Type} {enc : TypeId × Value → H} {W : World} : Opens enc Try.prog W 3 1 RInt := opens_int Try.underlying3
theorem o22 {H : Type} {enc : TypeId × Value → H} {W : World} : Opens enc Try.prog W 22 1 (SlS 1 RInt) := opens_slice RInt.good Try.underlying22 (by kernel_rfl) (by decide) (of_decide_eq_true (by kernel_rfl)) o3
theorem o195 {H : Type} {enc : TypeId × Value → H} {W : World} : Opens enc Try.prog W 195 3 RRec := Opens.map (n := 3) (opens_struct Try.underlying195 (by kernel_rfl) (opensF_cons (n1 := 1) (n2 := 2) RInt.good rfl (by kernel_rfl) o3 (opensF_cons (n1 := 1) (n2 := 1) RInt.good rfl (by kernel_rfl) o3 (opensF_cons (n1 := 1) (n2 := 0) (SlR.good RInt.good) rfl (by kernel_rfl) o22 opensF_nil)))) fun _ _ _ _ => rrec_of
theorem o61 {H : Type} {enc : TypeId × Value → H} {W : World} : Opens enc Try.prog W 61 1 (SlS 3 RRec) := opens_slice RRec.good Try.underlying61 (by kernel_rfl) (by decide) (of_decide_eq_true (by kernel_rfl)) o195
theorem o63 {H : Type} {enc : TypeId × Value → H} {W : World} : Opens enc Try.prog W 63 2 RLog := Opens.map (n := 2) (opens_struct Try.underlying63 (by kernel_rfl) (opensF_cons (n1 := 1) (n2 := 1) (SlR.good RRec.good) rfl (by kernel_rfl) o61 (opensF_cons (n1 := 1) (n2 := 0) RInt.good rfl (by kernel_rfl) o3 opensF_nil))) fun _ _ _ _ => rlog_of
theorem o103 {H : Type} {enc : TypeId × Value → H} {W : World} : Opens enc Try.prog W 103 4 RWord := Opens.map (n := 4) (opens_struct Try.underlying103 (by kernel_rfl) (opensF_cons (n1 := 1) (n2 := 3) RInt.good rfl (by kernel_rfl) o3 (opensF_cons (n1 := 1) (n2 := 2) RInt.good rfl (by kernel_rfl) o3 (opensF_cons (n1 := 1) (n2 := 1) RInt.good rfl (by kernel_rfl) o3 (opensF_cons (n1 := 1) (n2 := 0) RInt.good rfl (by kernel_rfl) o3 opensF_nil))))) fun _ _ _ _ => rword_of
theorem o64 {H : Type} {enc : TypeId × Value → H} {W : World} : Opens enc Try.prog W 64 1 (SlS 4 RWord) := opens_slice RWord.good Try.underlying64 (by kernel_rfl) (by decide) (of_decide_eq_true (by kernel_rfl)) o103
theorem o66 {H : Type} {enc : TypeId × Value → H} {W : World} : Opens enc Try.prog W 66 4 RDesk := Opens.map (n := 4) (opens_struct Try.underlying66 (by kernel_rfl) (opensF_cons (n1 := 1) (n2 := 3) RBool.good rfl (by kernel_rfl) o4 (opensF_cons (n1 := 2) (n2 := 1) RLog.good rfl (by kernel_rfl) o63 (opensF_cons (n1 := 1) (n2 := 0) (SlR.good RWord.good) rfl (by kernel_rfl) o64 opensF_nil)))) fun _ _ _ _ => rdesk_of
end
set_option maxRecDepth 100000 in
theorem lifted (os : Os) (started : os.Started) (H : Type) (enc : TypeId × Value → H) :
    ReturnsInHanded {} Try.checked os 8 .any (Rows.fnExactDeskWordsSpec.pre6 enc Try.prog Try.f8 Rows.fnExactDeskWordsRow.domain false) (Rows.fnExactDeskWordsSpec.post enc Try.prog Try.f8 false true false false) := by
  refine returnsInHanded_of_change_sized (C := Try.checked) own started (by kernel_rfl) Try.func8
    (ChangeSpec.witness6 (enc := enc) (C := Try.checked) false ⟨#[], #[.agg #[.bool false, .slice none 0 0, .int .i64 0, .slice none 0 0]], []⟩ 8 (by kernel_rfl) (by kernel_rfl) (by kernel_rfl) (by kernel_rfl)) ?_
  intro W base args ds gs before hval0 hW hcnd hsz0 _
  have hsz : (DataW.weightsEach Try.prog (Try.f8.params.toList ++ Rows.fnExactDeskWordsSpec.plain.varTypes Try.prog) (ds ++ gs)).all (· ≤ reachBytes) = true := hsz0
  have hval : ∀ (j : Nat) t v, Try.f8.params[j]? = some t → args[j]? = some v → Value.okWide Try.prog W .any base t v := hval0
  have hW' := hW
  obtain ⟨p, q, hA0, hV, rfl, hfz, hnd⟩ := hW
  have hA : DataW.TrodAll enc Try.prog W 0 (fun _ => true) true Try.f8.params.toList args.toList ds p := hA0
  rw [Try.params8] at hA hval hsz
  obtain ⟨v0, vs0, d0, ds0, p0, q0, hargs, rfl, rfl, h0, r0⟩ := trodAll_cons hA
  obtain ⟨rfl, rfl, rfl⟩ := trodAll_nil r0
  obtain rfl : args = #[v0] := by cases args; simp_all
  obtain ⟨rfl, rfl⟩ := trodVars_none hV
  have hsz1 : ∀ k ∈ DataW.weightsEach Try.prog ([66] ++ Rows.fnExactDeskWordsSpec.plain.varTypes Try.prog) ([d0] ++ []), k ≤ reachBytes := fun k hk => of_decide_eq_true (List.all_eq_true.1 hsz k hk)
  have k0 := h0
  have lt0 : ∀ x ∈ p0, x.block < W.heap.size := by obtain ⟨m, hm⟩ := k0; exact DataW.trod_lt m _ _ _ hm
  obtain ⟨a0, rfl, _⟩ := okWide_struct Try.underlying66 (hval 0 66 v0 rfl rfl)
  obtain ⟨ρ0, K0, c0, y0, G0, e0, s0, ro0, w0, x0⟩ := Go.AX.open_agg o66 rfl h0 (Go.AX.weightsEach_mem (j := 0) (t := 66) rfl rfl hsz1) (fun _ => ⟨0, 0, 0, 0⟩) [] (Go.AX.hsim_nil _ W) (fun b B h => by simp at h)
  clear hA0 hval0 hsz0 hsz
  refine (Go.AX.law_calls (Go.AX.does_FnExactDeskWords codes x0) (fun b B h => by rw [ro0 b B h]; decide) s0 (xs := #[_]) (.cons w0 .nil)).mono fun e W' ⟨he, bel⟩ => ?_
  subst he
  exact ⟨_, rfl, _, _, _, [], _, [], hW', trodAll_mk1 (shut_bool Try.underlying4 _), (trodAll_cons_mk (Below.trod laidOut (by kernel_rfl) (of_decide_eq_true (by kernel_rfl)) k0 bel lt0) trodAll_mk0), rfl, bel.frame _, fun h => by cases h⟩
set_option maxRecDepth 100000 in
def wd : List (List Nat) := [[104, 97, 114, 110, 101, 115, 115], [102, 49, 51, 51, 98, 97, 53, 97, 52, 98, 57, 49, 99, 56, 52, 57, 97, 52, 53, 98, 56, 55, 51, 50, 51, 101, 51, 53, 50, 102, 55, 53, 100, 55, 57, 97, 102, 100, 57, 97, 48, 102, 101, 48, 52, 98, 54, 56, 56, 102, 53, 52, 55, 54, 97, 101, 49, 52, 102, 102, 52, 98, 53, 98], [99, 117, 116], [97, 116], [108, 111, 111, 112, 46, 101, 120, 97, 109, 112, 108, 101, 47, 99, 111, 110, 99, 105, 101, 114, 103, 101, 47, 108, 97, 119, 115, 46, 70, 110, 69, 120, 97, 99, 116, 87, 111, 114, 108, 100, 78, 101, 119], [108, 111, 111, 112, 46, 101, 120, 97, 109, 112, 108, 101, 47, 99, 111, 110, 99, 105, 101, 114, 103, 101, 47, 108, 97, 119, 115, 46, 70, 110, 87, 111, 114, 108, 100, 78, 101, 119], [108, 111, 111, 112, 46, 101, 120, 97, 109, 112, 108, 101, 47, 99, 111, 110, 99, 105, 101, 114, 103, 101, 47, 108, 97, 119, 115, 46, 70, 110, 72, 111, 117, 115, 101, 83, 116, 111, 99, 107], [108, 111, 111, 112, 46, 101, 120, 97, 109, 112, 108, 101, 47, 99, 111, 110, 99, 105, 101, 114, 103, 101, 47, 108, 97, 119, 115, 46, 70, 110, 69, 120, 97, 99, 116, 68, 101, 115, 107, 79, 107], [108, 111, 111, 112, 46, 101, 120, 97, 109, 112, 108, 101, 47, 99, 111, 110, 99, 105, 101, 114, 103, 101, 47, 108, 97, 119, 115, 46, 70, 110, 69, 120, 97, 99, 116, 68, 101, 115, 107, 84, 114, 105, 112, 115], [108, 111, 111, 112, 46, 101, 120, 97, 109, 112, 108, 101, 47, 99, 111, 110, 99, 105, 101, 114, 103, 101, 47, 108, 97, 119, 115, 46, 70, 110, 69, 120, 97, 99, 116, 68, 101, 115, 107, 87, 111, 114, 100, 115], [108, 111, 111, 112, 46, 101, 120, 97, 109, 112, 108, 101, 47, 99, 111, 110, 99, 105, 101, 114, 103, 101, 47, 108, 97, 119, 115, 46, 70, 110, 69, 120, 97, 99, 116, 68, 101, 115, 107, 82, 105, 115, 101], [108, 111, 111, 112, 46, 101, 120, 97, 109, 112, 108, 101, 47, 99, 111, 110, 99, 105, 101, 114, 103, 101, 47, 108, 97, 119, 115, 46, 70, 110, 72, 101, 97, 114, 65, 112, 97, 114, 116], [108, 111, 111, 112, 46, 101, 120, 97, 109, 112, 108, 101, 47, 99, 111, 110, 99, 105, 101, 114, 103, 101, 47, 108, 97, 119, 115, 46, 70, 110, 69, 120, 97, 99, 116, 68, 101, 115, 107, 70, 111, 114, 99, 101], [108, 111, 111, 112, 46, 101, 120, 97, 109, 112, 108, 101, 47, 99, 111, 110, 99, 105, 101, 114, 103, 101, 47, 108, 97, 119, 115, 46, 70, 110, 72, 101, 97, 114, 83, 117, 114, 101], [108, 111, 111, 112, 46, 101, 120, 97, 109, 112, 108, 101, 47, 99, 111, 110, 99, 105, 101, 114, 103, 101, 47, 108, 97, 119, 115, 46, 70, 110, 72, 101, 97, 114, 85, 110, 100, 111], [108, 111, 111, 112, 46, 101, 120, 97, 109, 112, 108, 101, 47, 99, 111, 110, 99, 105, 101, 114, 103, 101, 47, 108, 97, 119, 115, 46, 70, 110, 69, 120, 97, 99, 116, 68, 101, 115, 107, 70, 97, 108, 108], [108, 111, 111, 112, 46, 101, 120, 97, 109, 112, 108, 101, 47, 99, 111, 110, 99, 105, 101, 114, 103, 101, 47, 108, 97, 119, 115, 46, 70, 110, 69, 120, 97, 99, 116, 68, 101, 115, 107, 71, 105, 118, 101], [108, 111, 111, 112, 46, 101, 120, 97, 109, 112, 108, 101, 47, 99, 111, 110, 99, 105, 101, 114, 103, 101, 47, 108, 97, 119, 115, 46, 70, 110, 69, 120, 97, 99, 116, 68, 101, 115, 107, 66, 101, 103, 105, 110], [108, 111, 111, 112, 46, 101, 120, 97, 109, 112, 108, 101, 47, 99, 111, 110, 99, 105, 101, 114, 103, 101, 47, 108, 97, 119, 115, 46, 70, 110, 69, 120, 97, 99, 116, 87, 111, 114, 108, 100, 79, 107], [108, 111, 111, 112, 46, 101, 120, 97, 109, 112, 108, 101, 47, 99, 111, 110, 99, 105, 101, 114, 103, 101, 47, 108, 97, 119, 115, 46, 70, 110, 69, 120, 97, 99, 116, 68, 101, 115, 107, 72, 101, 97, 114]]
set_option maxRecDepth 100000 in
theorem signs0 : Try.prog.initOrder = String.ofList ((Go.AX.joined wd).map Char.ofNat) := by kernel_rfl
theorem words : wordsSigns Try.prog.initOrder.toList = wd.map (·.map Char.ofNat) := Go.AX.head_words signs0 (by simp [wd]) (by kernel_rfl)
def hw : List Char := "cut".toList
def hr : List (List Char) := (wd.drop 3).map (·.map Char.ofNat)
theorem behind0 : behindMainWord (wd.map (·.map Char.ofNat)) = hw :: hr := by kernel_rfl
theorem behind : behindMainWord (wordsSigns Try.prog.initOrder.toList) = hw :: hr := by rw [words]; exact behind0
theorem lifts0 : (stripLifts liftWords (hw :: hr)).1 = [] := by kernel_rfl
theorem lifts1 : ((stripLifts liftWords (hw :: hr)).2.head? == some "cut".toList) = true := by kernel_rfl
theorem enters1 : Try.prog.laysLater = false := by kernel_rfl
theorem enters2 : Try.prog.bearsReflect = false := by kernel_rfl
theorem enters3 : Try.prog.doorFits [] = true := by kernel_rfl
theorem enters : Try.prog.mayEnter = true := Go.AX.enters_cut behind lifts1 lifts0 enters1 enters2 enters3
theorem lifts : (Rows.fnExactDeskWordsRow.lifted == Try.prog.liftsFinal) = true := by rw [Go.AX.lifts_cut behind (by kernel_rfl) lifts0]; rfl
theorem made : (Try.prog.make == some Rows.fnExactDeskWordsRow.make) = true := by rw [Go.AX.make_cut behind (by kernel_rfl) (by kernel_rfl)]; rfl
theorem q0 : Rows.fnExactDeskWordsRow.wf (OpenSpec.ofChange Rows.fnExactDeskWordsSpec) = true := by kernel_rfl
theorem q1 : laidOutB Try.prog = true := by kernel_rfl
theorem q2 : mapsRowed Try.prog = true := by kernel_rfl
theorem q3 : Try.f8.params.all (Try.prog.readableRec ·) = true := by kernel_rfl
theorem q4 : namedTie Try.prog Rows.fnExactDeskWordsRow.named Rows.fnExactDeskWordsSpec.vars = true := by kernel_rfl
theorem q5 : (Rows.fnExactDeskWordsRow.stops == []) = true := by kernel_rfl
theorem q6 : (Try.prog.stops == []) = true := by kernel_rfl
theorem q7 : (Rows.fnExactDeskWordsRow.knobs == []) = true := by kernel_rfl
theorem q8 : (Try.prog.stopKnobs == []) = true := by kernel_rfl
theorem q9 : (Rows.fnExactDeskWordsRow.inPlace == Try.prog.inPlace 8) = true := by kernel_rfl
theorem q10 : (Rows.fnExactDeskWordsRow.unfollowed == Try.prog.unfollowed 8) = true := by kernel_rfl
theorem q11 : (Rows.fnExactDeskWordsRow.recurses == Try.prog.recurses 8) = true := by kernel_rfl
theorem q12 : (Rows.fnExactDeskWordsRow.named == Try.prog.varsNamed 8) = true := by kernel_rfl
theorem q13 : (Rows.fnExactDeskWordsRow.maps == (Try.f8.params.toList ++ Rows.fnExactDeskWordsSpec.plain.varTypes Try.prog).any (Try.prog.mapsRec ·)) = true := by kernel_rfl
theorem q14 : (Rows.fnExactDeskWordsRow.ifaces == (Try.f8.params.toList ++ Rows.fnExactDeskWordsSpec.plain.varTypes Try.prog).any (Try.prog.ifacesRec ·)) = true := by kernel_rfl
theorem q15 : (Rows.fnExactDeskWordsRow.mapsOut == Try.prog.mapsAmong Try.f8.resultTypes.toList) = true := by kernel_rfl
theorem q16 : (Rows.fnExactDeskWordsRow.loops == (Try.f8.params.toList ++ Rows.fnExactDeskWordsSpec.plain.varTypes Try.prog).any (Try.prog.loopsFrom ·)) = true := by kernel_rfl
theorem q17 : (Rows.fnExactDeskWordsRow.wideKeys == (Try.f8.params.toList ++ Rows.fnExactDeskWordsSpec.plain.varTypes Try.prog ++ Try.f8.resultTypes.toList).any (Try.prog.wideKeysFrom ·)) = true := by kernel_rfl
theorem q18 : Rows.fnExactDeskWordsSpec.vars.all (Try.prog.varReadable ·) = true := by kernel_rfl
theorem q19 : Try.f8.resultTypes.all (fun t => Try.prog.readableRec t && decide (t < Try.prog.types.size)) = true := by kernel_rfl
theorem q20 : (Rows.fnExactDeskWordsRow.ifacesOut == Try.f8.resultTypes.toList.any (Try.prog.ifacesRec ·)) = true := by kernel_rfl
theorem q21 : (Rows.fnExactDeskWordsRow.loopsOut == Try.f8.resultTypes.toList.any (Try.prog.loopsFrom ·)) = true := by kernel_rfl
theorem q22 : (Rows.fnExactDeskWordsRow.plainKeys == Try.prog.plainKeys) = true := by kernel_rfl
theorem q23 : Rows.fnExactDeskWordsRow.shortTexts.isNone = true := by kernel_rfl
theorem q24 : Try.prog.stopsHeard = true := by kernel_rfl
theorem q28a : Rows.fnExactDeskWordsRow.kinds = [] := by kernel_rfl
theorem q28b : Rows.fnExactDeskWordsRow.domain.isEmpty = true := by kernel_rfl
theorem q29 : (Rows.fnExactDeskWordsRow.pinned == Rows.fnExactDeskWordsRow.pinnedBy) = true := by kernel_rfl
theorem q30 : (Rows.fnExactDeskWordsRow.veiled == (Try.f8.params.toList ++ Rows.fnExactDeskWordsSpec.plain.varTypes Try.prog ++ Try.f8.resultTypes.toList).any (Try.prog.veiledRec ·)) = true := by kernel_rfl
theorem q31 : Rows.fnExactDeskWordsRow.veiledFits Try.prog Try.f8.params.toList (Try.f8.params.toList ++ Rows.fnExactDeskWordsSpec.plain.varTypes Try.prog ++ Try.f8.resultTypes.toList) = true := by kernel_rfl
theorem closed : joinedFacts Try.prog 8 Try.f8 Rows.fnExactDeskWordsSpec Rows.fnExactDeskWordsRow = true := Go.AX.facts_of q0 q1 q2 q3 q4 q5 q6 q7 q8 q9 q10 q11 q12 q13 q14 q15 q16 q17 q18 q19 q20 q21 q22 q23 q24 enters lifts made q28a q28b q29 q30 q31
theorem named : Try.prog.funcNamed Rows.fnExactDeskWordsRow.func = some 8 := by kernel_rfl
theorem inst : Try.f8.isInstance Try.prog Rows.fnExactDeskWordsRow.origin Rows.fnExactDeskWordsRow.targs := of_decide_eq_true (by kernel_rfl)
theorem wrapper : Try.f8.isWrapper Try.prog Rows.fnExactDeskWordsRow.wrapper Rows.fnExactDeskWordsRow.mainSum := by
  unfold Func.isWrapper; first | (rw [if_pos (by decide +kernel)]; kernel_rfl) | (rw [if_neg (by decide +kernel)]; exact ⟨rfl, rfl⟩)
theorem proved : Rows.FnExactDeskWordsSaid :=
  OpenClaim.holds_of_wide 8 Try.f8 rfl rfl rfl rfl rfl rfl rfl ⟨rfl, rfl, rfl, rfl, rfl⟩ rfl rfl rfl rfl rfl named Try.func8 closed inst wrapper
    (fun os started H enc _ => lifted os started H enc)
#print axioms proved
end Go.Proofs.Ytncphlcbbffecaa.fnExactDeskWords
