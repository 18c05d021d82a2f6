/- From a call's contract to what a row asks. Condition: no block that was there may be written. -/
import Derived.Test.YtjpgpepbnglhlaaLExactDeskNewAX18
import Derived.Below
import GoSem.ClaimWrapper
import GoSem.ClaimJoined
import Derived.JoinedOf
set_option linter.unusedVariables false
namespace Go.AX
open Go.RowKit
theorem law_calls {P : Program} {f : FuncId} {args : List V} {H : Heap} (hd : Does P f args H fun r _ => r = .val (.c (.bool true))) (hro : ∀ (b : Nat) (B : Blk), H[b]? = some B → B.st ≠ .rw) {ρ : Rho} {w : World} {xs : Array Value} (hH : HSim ρ H w)
    (hx : All2 (VRel H.length ρ) args xs.toList) : Calls P f xs w fun e w' => e = .returned (.bool true) ∧ Below w.heap.size w w' := by
  obtain ⟨r, H', hc, rfl⟩ := hd
  refine (hc.2 ρ w xs hH hx).mono ?_
  rintro e w' ⟨ρ', x, rfl, hr, _, _, hk⟩
  have hr : x = .bool true := hr
  subst hr
  exact ⟨rfl, hk.os, hk.tape, hk.output, hk.size, fun k hk' => hk.block k hk' fun ⟨b, B, hb, hw, _⟩ => hro b B hb hw⟩
theorem hsim_nil (ρ : Rho) (w : World) : HSim ρ [] w := ⟨fun b B h => by simp at h, fun b B h => by simp at h, fun b b' B B' h => by simp at h⟩
end Go.AX
namespace Go.AX
/-! The head's words. -/
def joined : List (List Nat) → List Nat
  | [] => []
  | [w] => w
  | w :: r => w ++ 32 :: joined r
theorem wordsSigns_cons {c : Char} (h : c ≠ Char.ofNat 32) (r : List Char) : wordsSigns (c :: r) = match wordsSigns r with | w :: ws => (c :: w) :: ws | [] => [[c]] := by
  exact wordsSigns.eq_3 c r h
theorem wordsSigns_word : ∀ (w : List Char) (r : List Char), (∀ c ∈ w, c ≠ Char.ofNat 32) → wordsSigns (w ++ Char.ofNat 32 :: r) = w :: wordsSigns r
  | [], r, _ => by rw [List.nil_append]; exact wordsSigns.eq_2 r
  | c :: w, r, h => by
    rw [List.cons_append, wordsSigns_cons (h c (by simp)), wordsSigns_word w r fun d hd => h d (by simp [hd])]
theorem wordsSigns_last : ∀ (w : List Char), (∀ c ∈ w, c ≠ Char.ofNat 32) → wordsSigns w = [w]
  | [], _ => by rw [wordsSigns]
  | c :: w, h => by rw [wordsSigns_cons (h c (by simp)), wordsSigns_last w fun d hd => h d (by simp [hd])]
theorem wordsSigns_joined : ∀ (ws : List (List Nat)), ws ≠ [] → (∀ w ∈ ws, ∀ n ∈ w, Char.ofNat n ≠ Char.ofNat 32) → wordsSigns ((joined ws).map Char.ofNat) = ws.map (·.map Char.ofNat)
  | [], h, _ => absurd rfl h
  | [w], _, h => by
    simp only [joined, List.map_cons, List.map_nil]
    exact wordsSigns_last _ fun c hc => by obtain ⟨n, hn, rfl⟩ := List.mem_map.1 hc; exact h w (by simp) n hn
  | w :: v :: r, _, h => by
    have ih := wordsSigns_joined (v :: r) (by simp) fun x hx => h x (by simp only [List.mem_cons] at hx ⊢; exact .inr hx)
    rw [joined, List.map_append, List.map_cons, wordsSigns_word _ _ fun c hc => by obtain ⟨n, hn, rfl⟩ := List.mem_map.1 hc; exact h w (by simp) n hn, ih]
    · rfl
    · simp
def noBlank (ws : List (List Nat)) : Bool := ws.all fun w => w.all fun n => Char.ofNat n != Char.ofNat 32
theorem noBlank_spec {ws : List (List Nat)} (h : noBlank ws = true) : ∀ w ∈ ws, ∀ n ∈ w, Char.ofNat n ≠ Char.ofNat 32 := fun w hw n hn => by
  simp only [noBlank, List.all_eq_true, bne_iff_ne] at h
  exact h w hw n hn
theorem head_words {P : Program} {ws : List (List Nat)} (h : P.initOrder = String.ofList ((joined ws).map Char.ofNat)) (hn : ws ≠ []) (hb : noBlank ws = true) : wordsSigns P.initOrder.toList = ws.map (·.map Char.ofNat) := by
  rw [h, String.toList_ofList]; exact wordsSigns_joined ws hn (noBlank_spec hb)
end Go.AX
namespace Go.AX
/-- A head that is a cut. -/
theorem make_cut {P : Program} {w : List Char} {r : List (List Char)} (h : behindMainWord (wordsSigns P.initOrder.toList) = w :: r) (h1 : (w == "gc".toList || w == "spec".toList) = false) (h2 : (w == "cut".toList) = true) : P.make = some .cut := by
  unfold Program.make
  rw [h]
  simp only [h1, h2, Bool.true_or, if_true, Bool.false_eq_true, if_false]
theorem enters_cut {P : Program} {w : List Char} {r : List (List Char)} (h : behindMainWord (wordsSigns P.initOrder.toList) = w :: r) (hs : ((stripLifts liftWords (w :: r)).2.head? == some "cut".toList) = true) (hn : (stripLifts liftWords (w :: r)).1 = [])
    (h1 : P.laysLater = false) (h2 : P.bearsReflect = false) (h3 : P.doorFits [] = true) : P.mayEnter = true := by
  unfold Program.mayEnter
  rw [h]
  simp only [hs, hn, h1, h2, h3]
  simp
theorem lifts_cut {P : Program} {w : List Char} {r : List (List Char)} (h : behindMainWord (wordsSigns P.initOrder.toList) = w :: r) (hc : (w == "carried".toList) = false) (hn : (stripLifts liftWords (w :: r)).1 = []) : P.liftsFinal = false := by
  unfold Program.liftsFinal Program.headLifts
  simp only [h, hn]
  have : ((w :: r).head? == some "carried".toList) = false := by simpa using hc
  rw [this]
  simp
end Go.AX
namespace Go.AX
theorem both {a b : Bool} (h : a = true) (k : b = true) : (a && b) = true := by rw [h, k]; rfl
theorem facts_of {P : Program} {f : FuncId} {fn : Func} {s : ChangeSpec} {c : OpenClaim}
    (k0 : c.wf (OpenSpec.ofChange s) = true)
    (k1 : laidOutB P = true)
    (k2 : mapsRowed P = true)
    (k3 : fn.params.all (P.readableRec ·) = true)
    (k4 : namedTie P c.named s.vars = true)
    (k5 : (c.stops == []) = true)
    (k6 : (P.stops == []) = true)
    (k7 : (c.knobs == []) = true)
    (k8 : (P.stopKnobs == []) = true)
    (k9 : (c.inPlace == P.inPlace f) = true)
    (k10 : (c.unfollowed == P.unfollowed f) = true)
    (k11 : (c.recurses == P.recurses f) = true)
    (k12 : (c.named == P.varsNamed f) = true)
    (k13 : (c.maps == (fn.params.toList ++ s.plain.varTypes P).any (P.mapsRec ·)) = true)
    (k14 : (c.ifaces == (fn.params.toList ++ s.plain.varTypes P).any (P.ifacesRec ·)) = true)
    (k15 : (c.mapsOut == P.mapsAmong fn.resultTypes.toList) = true)
    (k16 : (c.loops == (fn.params.toList ++ s.plain.varTypes P).any (P.loopsFrom ·)) = true)
    (k17 : (c.wideKeys == (fn.params.toList ++ s.plain.varTypes P ++ fn.resultTypes.toList).any (P.wideKeysFrom ·)) = true)
    (k18 : s.vars.all (P.varReadable ·) = true)
    (k19 : fn.resultTypes.all (fun t => P.readableRec t && decide (t < P.types.size)) = true)
    (k20 : (c.ifacesOut == fn.resultTypes.toList.any (P.ifacesRec ·)) = true)
    (k21 : (c.loopsOut == fn.resultTypes.toList.any (P.loopsFrom ·)) = true)
    (k22 : (c.plainKeys == P.plainKeys) = true)
    (k23 : c.shortTexts.isNone = true)
    (k24 : P.stopsHeard = true)
    (k25 : P.mayEnter = true)
    (k26 : (c.lifted == P.liftsFinal) = true)
    (k27 : (P.make == some c.make) = true)
    (k28a : c.kinds = []) (k28b : c.domain.isEmpty = true)
    (k29 : (c.pinned == c.pinnedBy) = true)
    (k30 : (c.veiled == (fn.params.toList ++ s.plain.varTypes P ++ fn.resultTypes.toList).any (P.veiledRec ·)) = true)
    (k31 : c.veiledFits P fn.params.toList (fn.params.toList ++ s.plain.varTypes P ++ fn.resultTypes.toList) = true)
    : joinedFacts P f fn s c = true := by
  have k28 : (c.kinds == (if c.domain.isEmpty then [] else fn.params.toList.map fun t => match P.underlying t with | some (.int k) => some k | _ => none)) = true := by rw [k28a, if_pos k28b]; rfl
  unfold joinedFacts
  exact (both (both (both (both (both (both (both (both (both (both (both (both (both (both (both (both (both (both (both (both (both (both (both (both (both (both (both (both (both (both (both k0 k1) k2) k3) k4) k5) k6) k7) k8) k9) k10) k11) k12) k13) k14) k15) k16) k17) k18) k19) k20) k21) k22) k23) k24) k25) k26) k27) k28) k29) k30) k31)
end Go.AX
