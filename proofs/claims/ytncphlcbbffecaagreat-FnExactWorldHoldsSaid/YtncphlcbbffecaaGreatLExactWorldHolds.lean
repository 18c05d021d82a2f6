/- The law FnExactWorldHolds holds: at every input the function returns true, and the input reads as it did. No condition. -/
import Derived.Test.YtncphlcbbffecaaGreatRows
import Derived.Test.YtncphlcbbffecaaGreatLExactWorldHoldsK
import Derived.Test.YtncphlcbbffecaaGreatLExactWorldHoldsM2
import Derived.WalkKit
import Derived.ProofKit
import Derived.OpenShut
import Derived.ShutString
import Derived.ChangeOld
import Derived.Below
import Derived.SizedLaws
set_option linter.unusedVariables false
set_option linter.unusedSimpArgs false
namespace Go.Proofs.YtncphlcbbffecaaGreat.fnExactWorldHolds
open Go.ChangeShapes Go.WideShapes Go.ChangeAt Go.RowKit
theorem own : ownKnob Tryz.prog.godebug = none := by kernel_rfl
theorem laidOut : laidOutB Tryz.prog = true := by kernel_rfl
section
open Go.AX
theorem o4 {H : Type} {enc : TypeId × Value → H} {W : World} : Opens enc Tryz.prog W 4 1 RBool := opens_bool Tryz.underlying4
theorem o3 {H : Type} {enc : TypeId × Value → H} {W : World} : Opens enc Tryz.prog W 3 1 RInt := opens_int Tryz.underlying3
theorem o103 {H : Type} {enc : TypeId × Value → H} {W : World} : Opens enc Tryz.prog W 103 1 (SlS 1 RInt) := opens_slice RInt.good Tryz.underlying103 (by kernel_rfl) (by decide) (of_decide_eq_true (by kernel_rfl)) o3
theorem o115 {H : Type} {enc : TypeId × Value → H} {W : World} : Opens enc Tryz.prog W 115 3 RRec := Opens.map (n := 3) (opens_struct Tryz.underlying115 (by kernel_rfl) (opensF_cons (n1 := 1) (n2 := 2) RInt.good rfl (by kernel_rfl) o3 (opensF_cons (n1 := 1) (n2 := 1) RInt.good rfl (by kernel_rfl) o3 (opensF_cons (n1 := 1) (n2 := 0) (SlR.good RInt.good) rfl (by kernel_rfl) o103 opensF_nil)))) fun _ _ _ _ => rrec_of
theorem o22 {H : Type} {enc : TypeId × Value → H} {W : World} : Opens enc Tryz.prog W 22 1 (SlS 3 RRec) := opens_slice RRec.good Tryz.underlying22 (by kernel_rfl) (by decide) (of_decide_eq_true (by kernel_rfl)) o115
theorem o24 {H : Type} {enc : TypeId × Value → H} {W : World} : Opens enc Tryz.prog W 24 2 RLog := Opens.map (n := 2) (opens_struct Tryz.underlying24 (by kernel_rfl) (opensF_cons (n1 := 1) (n2 := 1) (SlR.good RRec.good) rfl (by kernel_rfl) o22 (opensF_cons (n1 := 1) (n2 := 0) RInt.good rfl (by kernel_rfl) o3 opensF_nil))) fun _ _ _ _ => rlog_of
theorem o87 {H : Type} {enc : TypeId × Value → H} {W : World} : Opens enc Tryz.prog W 87 4 RWord := Opens.map (n := 4) (opens_struct Tryz.underlying87 (by kernel_rfl) (opensF_cons (n1 := 1) (n2 := 3) RInt.good rfl (by kernel_rfl) o3 (opensF_cons (n1 := 1) (n2 := 2) RInt.good rfl (by kernel_rfl) o3 (opensF_cons (n1 := 1) (n2 := 1) RInt.good rfl (by kernel_rfl) o3 (opensF_cons (n1 := 1) (n2 := 0) RInt.good rfl (by kernel_rfl) o3 opensF_nil))))) fun _ _ _ _ => rword_of
theorem o25 {H : Type} {enc : TypeId × Value → H} {W : World} : Opens enc Tryz.prog W 25 1 (SlS 4 RWord) := opens_slice RWord.good Tryz.underlying25 (by kernel_rfl) (by decide) (of_decide_eq_true (by kernel_rfl)) o87
theorem o27 {H : Type} {enc : TypeId × Value → H} {W : World} : Opens enc Tryz.prog W 27 4 RDesk := Opens.map (n := 4) (opens_struct Tryz.underlying27 (by kernel_rfl) (opensF_cons (n1 := 1) (n2 := 3) RBool.good rfl (by kernel_rfl) o4 (opensF_cons (n1 := 2) (n2 := 1) RLog.good rfl (by kernel_rfl) o24 (opensF_cons (n1 := 1) (n2 := 0) (SlR.good RWord.good) rfl (by kernel_rfl) o25 opensF_nil)))) fun _ _ _ _ => rdesk_of
theorem o76 {H : Type} {enc : TypeId × Value → H} {W : World} : Opens enc Tryz.prog W 76 5 RHouse := Opens.map (n := 5) (opens_struct Tryz.underlying76 (by kernel_rfl) (opensF_cons (n1 := 1) (n2 := 4) RInt.good rfl (by kernel_rfl) o3 (opensF_cons (n1 := 1) (n2 := 3) RBool.good rfl (by kernel_rfl) o4 (opensF_cons (n1 := 1) (n2 := 2) RInt.good rfl (by kernel_rfl) o3 (opensF_cons (n1 := 2) (n2 := 0) RLog.good rfl (by kernel_rfl) o24 opensF_nil))))) fun _ _ _ _ => rhouse_of
theorem o28 {H : Type} {enc : TypeId × Value → H} {W : World} : Opens enc Tryz.prog W 28 1 (SlS 5 RHouse) := opens_slice RHouse.good Tryz.underlying28 (by kernel_rfl) (by decide) (of_decide_eq_true (by kernel_rfl)) o76
theorem o30 {H : Type} {enc : TypeId × Value → H} {W : World} : Opens enc Tryz.prog W 30 6 RWld := Opens.map (n := 6) (opens_struct Tryz.underlying30 (by kernel_rfl) (opensF_cons (n1 := 4) (n2 := 2) RDesk.good rfl (by kernel_rfl) o27 (opensF_cons (n1 := 1) (n2 := 1) (SlR.good RHouse.good) rfl (by kernel_rfl) o28 (opensF_cons (n1 := 1) (n2 := 0) (SlR.good RWord.good) rfl (by kernel_rfl) o25 opensF_nil)))) fun _ _ _ _ => rwld_of
end
set_option maxRecDepth 100000 in
theorem lifted (os : Os) (started : os.Started) (H : Type) (enc : TypeId × Value → H) :
    ReturnsInHanded {} Tryz.checked os 3 .any (Rows.fnExactWorldHoldsSpec.pre6 enc Tryz.prog Tryz.f3 Rows.fnExactWorldHoldsRow.domain false) (Rows.fnExactWorldHoldsSpec.post enc Tryz.prog Tryz.f3 false true false false) := by
  refine returnsInHanded_of_change_sized (C := Tryz.checked) own started (by kernel_rfl) Tryz.func3
    (ChangeSpec.witness6 (enc := enc) (C := Tryz.checked) false ⟨#[], #[.agg #[.bool false, .slice none 0 0, .int .i64 0, .slice none 0 0, .slice none 0 0, .slice none 0 0], .int .i64 0], []⟩ 8 (by kernel_rfl) (by kernel_rfl) (by kernel_rfl) (by kernel_rfl)) ?_
  intro W base args ds gs before hval0 hW hcnd hsz0 _
  have hsz : (DataW.weightsEach Tryz.prog (Tryz.f3.params.toList ++ Rows.fnExactWorldHoldsSpec.plain.varTypes Tryz.prog) (ds ++ gs)).all (· ≤ reachBytes) = true := hsz0
  have hval : ∀ (j : Nat) t v, Tryz.f3.params[j]? = some t → args[j]? = some v → Value.okWide Tryz.prog W .any base t v := hval0
  have hW' := hW
  obtain ⟨p, q, hA0, hV, rfl, hfz, hnd⟩ := hW
  have hA : DataW.TrodAll enc Tryz.prog W 0 (fun _ => true) true Tryz.f3.params.toList args.toList ds p := hA0
  rw [Tryz.params3] at hA hval hsz
  obtain ⟨v0, vs0, d0, ds0, p0, q0, hargs, rfl, rfl, h0, r0⟩ := trodAll_cons hA
  obtain ⟨v1, vs1, d1, ds1, p1, q1, rfl, rfl, rfl, h1, r1⟩ := trodAll_cons r0
  obtain ⟨rfl, rfl, rfl⟩ := trodAll_nil r1
  obtain rfl : args = #[v0, v1] := by cases args; simp_all
  obtain ⟨rfl, rfl⟩ := trodVars_none hV
  have hsz1 : ∀ k ∈ DataW.weightsEach Tryz.prog ([30, 3] ++ Rows.fnExactWorldHoldsSpec.plain.varTypes Tryz.prog) ([d0, d1] ++ []), k ≤ reachBytes := fun k hk => of_decide_eq_true (List.all_eq_true.1 hsz k hk)
  have k0 := h0
  have lt0 : ∀ x ∈ p0, x.block < W.heap.size := by obtain ⟨m, hm⟩ := k0; exact DataW.trod_lt m _ _ _ hm
  obtain ⟨a0, rfl, _⟩ := okWide_struct Tryz.underlying30 (hval 0 30 v0 rfl rfl)
  obtain ⟨ρ0, K0, c0, y0, G0, e0, s0, ro0, w0, x0⟩ := Go.AX.open_agg o30 rfl h0 (Go.AX.weightsEach_mem (j := 0) (t := 30) rfl rfl hsz1) (fun _ => ⟨0, 0, 0, 0⟩) [] (Go.AX.hsim_nil _ W) (fun b B h => by simp at h)
  have k1 := h1
  have lt1 : ∀ x ∈ p1, x.block < W.heap.size := by obtain ⟨m, hm⟩ := k1; exact DataW.trod_lt m _ _ _ hm
  obtain ⟨a1, rfl⟩ := okWide_int Tryz.underlying3 (hval 1 3 v1 rfl rfl)
  obtain ⟨ρ1, K1, c1, y1, G1, e1, s1, ro1, w1, x1⟩ := Go.AX.open_cell o3 rfl h1 (Go.AX.weightsEach_mem (j := 1) (t := 3) rfl rfl hsz1) ρ0 K0 s0 ro0
  replace w0 := e1.vrel w0
  replace x0 := e1.rep Go.AX.RWld.good x0
  obtain rfl := Go.AX.RInt.cell x1
  clear hA0 hval0 hsz0 hsz
  refine (Go.AX.law_calls (Go.AX.does_FnExactWorldHolds codes x0) (fun b B h => by rw [ro1 b B h]; decide) s1 (xs := #[_, _]) (.cons w0 (.cons w1 .nil))).mono fun e W' ⟨he, bel⟩ => ?_
  subst he
  exact ⟨_, rfl, _, _, _, [], _, [], hW', trodAll_mk1 (shut_bool Tryz.underlying4 _), (trodAll_cons_mk (Below.trod laidOut (by kernel_rfl) (of_decide_eq_true (by kernel_rfl)) k0 bel lt0) (trodAll_cons_mk (Below.trod laidOut (by kernel_rfl) (of_decide_eq_true (by kernel_rfl)) k1 bel lt1) trodAll_mk0)), rfl, bel.frame _, fun h => by cases h⟩
set_option maxRecDepth 100000 in
def wd : List (List Nat) := [[104, 97, 114, 110, 101, 115, 115], [99, 49, 98, 98, 55, 51, 102, 55, 49, 51, 100, 49, 57, 48, 99, 56, 57, 55, 50, 51, 54, 100, 101, 98, 99, 97, 54, 49, 54, 102, 98, 101, 97, 97, 54, 98, 56, 56, 55, 50, 54, 97, 102, 102, 56, 49, 102, 56, 50, 57, 48, 102, 52, 100, 53, 101, 51, 51, 51, 53, 57, 98, 98, 53], [99, 117, 116], [97, 116], [108, 111, 111, 112, 46, 101, 120, 97, 109, 112, 108, 101, 47, 99, 111, 110, 99, 105, 101, 114, 103, 101, 47, 108, 97, 119, 115, 46, 70, 110, 69, 120, 97, 99, 116, 87, 111, 114, 108, 100, 72, 111, 108, 100, 115]]
set_option maxRecDepth 100000 in
theorem signs0 : Tryz.prog.initOrder = String.ofList ((Go.AX.joined wd).map Char.ofNat) := by kernel_rfl
theorem words : wordsSigns Tryz.prog.initOrder.toList = wd.map (·.map Char.ofNat) := Go.AX.head_words signs0 (by simp [wd]) (by kernel_rfl)
def hw : List Char := "cut".toList
def hr : List (List Char) := (wd.drop 3).map (·.map Char.ofNat)
theorem behind0 : behindMainWord (wd.map (·.map Char.ofNat)) = hw :: hr := by kernel_rfl
theorem behind : behindMainWord (wordsSigns Tryz.prog.initOrder.toList) = hw :: hr := by rw [words]; exact behind0
theorem lifts0 : (stripLifts liftWords (hw :: hr)).1 = [] := by kernel_rfl
theorem lifts1 : ((stripLifts liftWords (hw :: hr)).2.head? == some "cut".toList) = true := by kernel_rfl
theorem enters1 : Tryz.prog.laysLater = false := by kernel_rfl
theorem enters2 : Tryz.prog.bearsReflect = false := by kernel_rfl
theorem enters3 : Tryz.prog.doorFits [] = true := by kernel_rfl
theorem enters : Tryz.prog.mayEnter = true := Go.AX.enters_cut behind lifts1 lifts0 enters1 enters2 enters3
theorem lifts : (Rows.fnExactWorldHoldsRow.lifted == Tryz.prog.liftsFinal) = true := by rw [Go.AX.lifts_cut behind (by kernel_rfl) lifts0]; rfl
theorem made : (Tryz.prog.make == some Rows.fnExactWorldHoldsRow.make) = true := by rw [Go.AX.make_cut behind (by kernel_rfl) (by kernel_rfl)]; rfl
theorem q0 : Rows.fnExactWorldHoldsRow.wf (OpenSpec.ofChange Rows.fnExactWorldHoldsSpec) = true := by kernel_rfl
theorem q1 : laidOutB Tryz.prog = true := by kernel_rfl
theorem q2 : mapsRowed Tryz.prog = true := by kernel_rfl
theorem q3 : Tryz.f3.params.all (Tryz.prog.readableRec ·) = true := by kernel_rfl
theorem q4 : namedTie Tryz.prog Rows.fnExactWorldHoldsRow.named Rows.fnExactWorldHoldsSpec.vars = true := by kernel_rfl
theorem q5 : (Rows.fnExactWorldHoldsRow.stops == []) = true := by kernel_rfl
theorem q6 : (Tryz.prog.stops == []) = true := by kernel_rfl
theorem q7 : (Rows.fnExactWorldHoldsRow.knobs == []) = true := by kernel_rfl
theorem q8 : (Tryz.prog.stopKnobs == []) = true := by kernel_rfl
theorem q9 : (Rows.fnExactWorldHoldsRow.inPlace == Tryz.prog.inPlace 3) = true := by kernel_rfl
theorem q10 : (Rows.fnExactWorldHoldsRow.unfollowed == Tryz.prog.unfollowed 3) = true := by kernel_rfl
theorem q11 : (Rows.fnExactWorldHoldsRow.recurses == Tryz.prog.recurses 3) = true := by kernel_rfl
theorem q12 : (Rows.fnExactWorldHoldsRow.named == Tryz.prog.varsNamed 3) = true := by kernel_rfl
theorem q13 : (Rows.fnExactWorldHoldsRow.maps == (Tryz.f3.params.toList ++ Rows.fnExactWorldHoldsSpec.plain.varTypes Tryz.prog).any (Tryz.prog.mapsRec ·)) = true := by kernel_rfl
theorem q14 : (Rows.fnExactWorldHoldsRow.ifaces == (Tryz.f3.params.toList ++ Rows.fnExactWorldHoldsSpec.plain.varTypes Tryz.prog).any (Tryz.prog.ifacesRec ·)) = true := by kernel_rfl
theorem q15 : (Rows.fnExactWorldHoldsRow.mapsOut == Tryz.prog.mapsAmong Tryz.f3.resultTypes.toList) = true := by kernel_rfl
theorem q16 : (Rows.fnExactWorldHoldsRow.loops == (Tryz.f3.params.toList ++ Rows.fnExactWorldHoldsSpec.plain.varTypes Tryz.prog).any (Tryz.prog.loopsFrom ·)) = true := by kernel_rfl
theorem q17 : (Rows.fnExactWorldHoldsRow.wideKeys == (Tryz.f3.params.toList ++ Rows.fnExactWorldHoldsSpec.plain.varTypes Tryz.prog ++ Tryz.f3.resultTypes.toList).any (Tryz.prog.wideKeysFrom ·)) = true := by kernel_rfl
theorem q18 : Rows.fnExactWorldHoldsSpec.vars.all (Tryz.prog.varReadable ·) = true := by kernel_rfl
theorem q19 : Tryz.f3.resultTypes.all (fun t => Tryz.prog.readableRec t && decide (t < Tryz.prog.types.size)) = true := by kernel_rfl
theorem q20 : (Rows.fnExactWorldHoldsRow.ifacesOut == Tryz.f3.resultTypes.toList.any (Tryz.prog.ifacesRec ·)) = true := by kernel_rfl
theorem q21 : (Rows.fnExactWorldHoldsRow.loopsOut == Tryz.f3.resultTypes.toList.any (Tryz.prog.loopsFrom ·)) = true := by kernel_rfl
theorem q22 : (Rows.fnExactWorldHoldsRow.plainKeys == Tryz.prog.plainKeys) = true := by kernel_rfl
theorem q23 : Rows.fnExactWorldHoldsRow.shortTexts.isNone = true := by kernel_rfl
theorem q24 : Tryz.prog.stopsHeard = true := by kernel_rfl
theorem q28a : Rows.fnExactWorldHoldsRow.kinds = [] := by kernel_rfl
theorem q28b : Rows.fnExactWorldHoldsRow.domain.isEmpty = true := by kernel_rfl
theorem q29 : (Rows.fnExactWorldHoldsRow.pinned == Rows.fnExactWorldHoldsRow.pinnedBy) = true := by kernel_rfl
theorem q30 : (Rows.fnExactWorldHoldsRow.veiled == (Tryz.f3.params.toList ++ Rows.fnExactWorldHoldsSpec.plain.varTypes Tryz.prog ++ Tryz.f3.resultTypes.toList).any (Tryz.prog.veiledRec ·)) = true := by kernel_rfl
theorem q31 : Rows.fnExactWorldHoldsRow.veiledFits Tryz.prog Tryz.f3.params.toList (Tryz.f3.params.toList ++ Rows.fnExactWorldHoldsSpec.plain.varTypes Tryz.prog ++ Tryz.f3.resultTypes.toList) = true := by kernel_rfl
theorem closed : joinedFacts Tryz.prog 3 Tryz.f3 Rows.fnExactWorldHoldsSpec Rows.fnExactWorldHoldsRow = true := Go.AX.facts_of q0 q1 q2 q3 q4 q5 q6 q7 q8 q9 q10 q11 q12 q13 q14 q15 q16 q17 q18 q19 q20 q21 q22 q23 q24 enters lifts made q28a q28b q29 q30 q31
theorem named : Tryz.prog.funcNamed Rows.fnExactWorldHoldsRow.func = some 3 := by kernel_rfl
theorem inst : Tryz.f3.isInstance Tryz.prog Rows.fnExactWorldHoldsRow.origin Rows.fnExactWorldHoldsRow.targs := of_decide_eq_true (by kernel_rfl)
theorem wrapper : Tryz.f3.isWrapper Tryz.prog Rows.fnExactWorldHoldsRow.wrapper Rows.fnExactWorldHoldsRow.mainSum := by
  unfold Func.isWrapper; first | (rw [if_pos (by decide +kernel)]; kernel_rfl) | (rw [if_neg (by decide +kernel)]; exact ⟨rfl, rfl⟩)
theorem proved : Rows.FnExactWorldHoldsSaid :=
  OpenClaim.holds_of_wide 3 Tryz.f3 rfl rfl rfl rfl rfl rfl rfl ⟨rfl, rfl, rfl, rfl, rfl⟩ rfl rfl rfl rfl rfl named Tryz.func3 closed inst wrapper
    (fun os started H enc _ => lifted os started H enc)
#print axioms proved
end Go.Proofs.YtncphlcbbffecaaGreat.fnExactWorldHolds
