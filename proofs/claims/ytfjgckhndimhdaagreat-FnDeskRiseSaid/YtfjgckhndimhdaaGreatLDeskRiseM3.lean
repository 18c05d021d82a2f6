/- What the law needs of the program: the contracts of its functions, each with its condition at its theorem. -/
import Derived.Test.YtfjgckhndimhdaaGreatLDeskRiseM0
import Derived.Below
import GoSem.ClaimWrapper
import GoSem.ClaimJoined
import Derived.JoinedOf
import Derived.ChangeArms
import Derived.WideShapes
import Derived.SizedLaws
set_option linter.unusedVariables false
set_option linter.unusedSimpArgs false
/- From a call's contract to what a row asks. Condition: no block that was there may be written. -/
namespace Go.AX
open Go.RowKit
theorem law_calls {P : Program} {f : FuncId} {args : List V} {H : Heap} (hd : Does P f args H fun r _ => r = .val (.c (.bool true))) (hro : ∀ (b : Nat) (B : Blk), H[b]? = some B → B.st ≠ .rw) {ρ : Rho} {w : World} {xs : Array Value} (hH : HSim ρ H w)
    (hx : All2 (VRel H.length ρ) args xs.toList) : Calls P f xs w fun e w' => e = .returned (.bool true) ∧ Below w.heap.size w w' := by
  obtain ⟨r, H', hc, rfl⟩ := hd
  refine (hc.2 ρ w xs hH hx).mono ?_
  rintro e w' ⟨ρ', x, rfl, hr, _, _, hk⟩
  have hr : x = .bool true := hr
  subst hr
  exact ⟨rfl, hk.os, hk.tape, hk.output, hk.size, fun k hk' => hk.block k hk' fun ⟨b, B, hb, hw, _⟩ => hro b B hb hw⟩
theorem hsim_nil (ρ : Rho) (w : World) : HSim ρ [] w := ⟨fun b B h => by simp at h, fun b B h => by simp at h, fun b b' B B' h => by simp at h⟩
end Go.AX
namespace Go.AX
/-! The head's words. -/
def joined : List (List Nat) → List Nat
  | [] => []
  | [w] => w
  | w :: r => w ++ 32 :: joined r
theorem wordsSigns_cons {c : Char} (h : c ≠ Char.ofNat 32) (r : List Char) : wordsSigns (c :: r) = match wordsSigns r with | w :: ws => (c :: w) :: ws | [] => [[c]] := by
  exact wordsSigns.eq_3 c r h
theorem wordsSigns_word : ∀ (w : List Char) (r : List Char), (∀ c ∈ w, c ≠ Char.ofNat 32) → wordsSigns (w ++ Char.ofNat 32 :: r) = w :: wordsSigns r
  | [], r, _ => by rw [List.nil_append]; exact wordsSigns.eq_2 r
  | c :: w, r, h => by
    rw [List.cons_append, wordsSigns_cons (h c (by simp)), wordsSigns_word w r fun d hd => h d (by simp [hd])]
theorem wordsSigns_last : ∀ (w : List Char), (∀ c ∈ w, c ≠ Char.ofNat 32) → wordsSigns w = [w]
  | [], _ => by rw [wordsSigns]
  | c :: w, h => by rw [wordsSigns_cons (h c (by simp)), wordsSigns_last w fun d hd => h d (by simp [hd])]
theorem wordsSigns_joined : ∀ (ws : List (List Nat)), ws ≠ [] → (∀ w ∈ ws, ∀ n ∈ w, Char.ofNat n ≠ Char.ofNat 32) → wordsSigns ((joined ws).map Char.ofNat) = ws.map (·.map Char.ofNat)
  | [], h, _ => absurd rfl h
  | [w], _, h => by
    simp only [joined, List.map_cons, List.map_nil]
    exact wordsSigns_last _ fun c hc => by obtain ⟨n, hn, rfl⟩ := List.mem_map.1 hc; exact h w (by simp) n hn
  | w :: v :: r, _, h => by
    have ih := wordsSigns_joined (v :: r) (by simp) fun x hx => h x (by simp only [List.mem_cons] at hx ⊢; exact .inr hx)
    rw [joined, List.map_append, List.map_cons, wordsSigns_word _ _ fun c hc => by obtain ⟨n, hn, rfl⟩ := List.mem_map.1 hc; exact h w (by simp) n hn, ih]
    · rfl
    · simp
def noBlank (ws : List (List Nat)) : Bool := ws.all fun w => w.all fun n => Char.ofNat n != Char.ofNat 32
theorem noBlank_spec {ws : List (List Nat)} (h : noBlank ws = true) : ∀ w ∈ ws, ∀ n ∈ w, Char.ofNat n ≠ Char.ofNat 32 := fun w hw n hn => by
  simp only [noBlank, List.all_eq_true, bne_iff_ne] at h
  exact h w hw n hn
theorem head_words {P : Program} {ws : List (List Nat)} (h : P.initOrder = String.ofList ((joined ws).map Char.ofNat)) (hn : ws ≠ []) (hb : noBlank ws = true) : wordsSigns P.initOrder.toList = ws.map (·.map Char.ofNat) := by
  rw [h, String.toList_ofList]; exact wordsSigns_joined ws hn (noBlank_spec hb)
end Go.AX
namespace Go.AX
/-- A head that is a cut. -/
theorem make_cut {P : Program} {w : List Char} {r : List (List Char)} (h : behindMainWord (wordsSigns P.initOrder.toList) = w :: r) (h1 : (w == "gc".toList || w == "spec".toList) = false) (h2 : (w == "cut".toList) = true) : P.make = some .cut := by
  unfold Program.make
  rw [h]
  simp only [h1, h2, Bool.true_or, if_true, Bool.false_eq_true, if_false]
theorem enters_cut {P : Program} {w : List Char} {r : List (List Char)} (h : behindMainWord (wordsSigns P.initOrder.toList) = w :: r) (hs : ((stripLifts liftWords (w :: r)).2.head? == some "cut".toList) = true) (hn : (stripLifts liftWords (w :: r)).1 = [])
    (h1 : P.laysLater = false) (h2 : P.bearsReflect = false) (h3 : P.doorFits [] = true) : P.mayEnter = true := by
  unfold Program.mayEnter
  rw [h]
  simp only [hs, hn, h1, h2, h3]
  simp
theorem lifts_cut {P : Program} {w : List Char} {r : List (List Char)} (h : behindMainWord (wordsSigns P.initOrder.toList) = w :: r) (hc : (w == "carried".toList) = false) (hn : (stripLifts liftWords (w :: r)).1 = []) : P.liftsFinal = false := by
  unfold Program.liftsFinal Program.headLifts
  simp only [h, hn]
  have : ((w :: r).head? == some "carried".toList) = false := by simpa using hc
  rw [this]
  simp
end Go.AX
namespace Go.AX
theorem both {a b : Bool} (h : a = true) (k : b = true) : (a && b) = true := by rw [h, k]; rfl
theorem facts_of {P : Program} {f : FuncId} {fn : Func} {s : ChangeSpec} {c : OpenClaim}
    (k0 : c.wf (OpenSpec.ofChange s) = true)
    (k1 : laidOutB P = true)
    (k2 : mapsRowed P = true)
    (k3 : fn.params.all (P.readableRec ·) = true)
    (k4 : namedTie P c.named s.vars = true)
    (k5 : (c.stops == []) = true)
    (k6 : (P.stops == []) = true)
    (k7 : (c.knobs == []) = true)
    (k8 : (P.stopKnobs == []) = true)
    (k9 : (c.inPlace == P.inPlace f) = true)
    (k10 : (c.unfollowed == P.unfollowed f) = true)
    (k11 : (c.recurses == P.recurses f) = true)
    (k12 : (c.named == P.varsNamed f) = true)
    (k13 : (c.maps == (fn.params.toList ++ s.plain.varTypes P).any (P.mapsRec ·)) = true)
    (k14 : (c.ifaces == (fn.params.toList ++ s.plain.varTypes P).any (P.ifacesRec ·)) = true)
    (k15 : (c.mapsOut == P.mapsAmong fn.resultTypes.toList) = true)
    (k16 : (c.loops == (fn.params.toList ++ s.plain.varTypes P).any (P.loopsFrom ·)) = true)
    (k17 : (c.wideKeys == (fn.params.toList ++ s.plain.varTypes P ++ fn.resultTypes.toList).any (P.wideKeysFrom ·)) = true)
    (k18 : s.vars.all (P.varReadable ·) = true)
    (k19 : fn.resultTypes.all (fun t => P.readableRec t && decide (t < P.types.size)) = true)
    (k20 : (c.ifacesOut == fn.resultTypes.toList.any (P.ifacesRec ·)) = true)
    (k21 : (c.loopsOut == fn.resultTypes.toList.any (P.loopsFrom ·)) = true)
    (k22 : (c.plainKeys == P.plainKeys) = true)
    (k23 : c.shortTexts.isNone = true)
    (k24 : P.stopsHeard = true)
    (k25 : P.mayEnter = true)
    (k26 : (c.lifted == P.liftsFinal) = true)
    (k27 : (P.make == some c.make) = true)
    (k28a : c.kinds = []) (k28b : c.domain.isEmpty = true)
    (k29 : (c.pinned == c.pinnedBy) = true)
    (k30 : (c.veiled == (fn.params.toList ++ s.plain.varTypes P ++ fn.resultTypes.toList).any (P.veiledRec ·)) = true)
    (k31 : c.veiledFits P fn.params.toList (fn.params.toList ++ s.plain.varTypes P ++ fn.resultTypes.toList) = true)
    : joinedFacts P f fn s c = true := by
  have k28 : (c.kinds == (if c.domain.isEmpty then [] else fn.params.toList.map fun t => match P.underlying t with | some (.int k) => some k | _ => none)) = true := by rw [k28a, if_pos k28b]; rfl
  unfold joinedFacts
  exact (both (both (both (both (both (both (both (both (both (both (both (both (both (both (both (both (both (both (both (both (both (both (both (both (both (both (both (both (both (both (both k0 k1) k2) k3) k4) k5) k6) k7) k8) k9) k10) k11) k12) k13) k14) k15) k16) k17) k18) k19) k20) k21) k22) k23) k24) k25) k26) k27) k28) k29) k30) k31)
end Go.AX

/- How a law's arguments lie in memory: what a row's arguments are, told as the abstract machine's data, all of it only read. No condition. -/
namespace Go.AX
section
variable {H : Type} {enc : TypeId × Value → H} {P : Program} {W : World}

/-- All blocks are only read. -/
def RoH (K : Heap) : Prop := ∀ (b : Nat) (B : Blk), K[b]? = some B → B.st = .ro
/-- More blocks behind. -/
def ExtH (ρ : Rho) (K : Heap) (ρ' : Rho) (K' : Heap) : Prop := (∃ E, K' = K ++ E) ∧ ∀ b, b < K.length → ρ' b = ρ b
theorem ExtH.refl (ρ : Rho) (K : Heap) : ExtH ρ K ρ K := ⟨⟨[], by simp⟩, fun _ _ => rfl⟩
theorem ExtH.len {ρ ρ' : Rho} {K K' : Heap} (h : ExtH ρ K ρ' K') : K.length ≤ K'.length := by obtain ⟨⟨E, rfl⟩, _⟩ := h; simp
theorem ExtH.trans {ρ ρ1 ρ2 : Rho} {K K1 K2 : Heap} (h : ExtH ρ K ρ1 K1) (g : ExtH ρ1 K1 ρ2 K2) : ExtH ρ K ρ2 K2 := by
  have hl := h.len
  obtain ⟨⟨E, rfl⟩, h2⟩ := h
  obtain ⟨⟨E', rfl⟩, g2⟩ := g
  exact ⟨⟨E ++ E', by simp⟩, fun b hb => (g2 b (by simp; omega)).trans (h2 b hb)⟩
theorem ExtH.get {ρ ρ' : Rho} {K K' : Heap} (h : ExtH ρ K ρ' K') {b : Nat} (hb : b < K.length) : K'[b]? = K[b]? := by
  obtain ⟨⟨E, rfl⟩, _⟩ := h
  exact List.getElem?_append_left hb
theorem ExtH.crel {ρ ρ' : Rho} {K K' : Heap} (h : ExtH ρ K ρ' K') {c : C} {v : Value} (hc : CRel K.length ρ c v) : CRel K'.length ρ' c v := CRel.mono h.len h.2 hc
theorem ExtH.vrel {ρ ρ' : Rho} {K K' : Heap} (h : ExtH ρ K ρ' K') {c : V} {v : Value} (hc : VRel K.length ρ c v) : VRel K'.length ρ' c v := VRel.mono h.len h.2 hc
theorem ExtH.all {ρ ρ' : Rho} {K K' : Heap} (h : ExtH ρ K ρ' K') {cs : List C} {vs : List Value} (hc : All2 (CRel K.length ρ) cs vs) : All2 (CRel K'.length ρ') cs vs := hc.mono fun _ _ => h.crel
theorem ExtH.rep {ρ ρ' : Rho} {K K' : Heap} (h : ExtH ρ K ρ' K') {α : Type} {R : RepS α} (hR : Good R) {cs : List C} {x : α} {F : List Nat} (hr : R K cs x F) : R K' cs x F :=
  hR.frame _ _ _ _ _ hr fun b hb => h.get (hR.lt _ _ _ _ hr b hb)
theorem ExtH.repSl {ρ ρ' : Rho} {K K' : Heap} (h : ExtH ρ K ρ' K') {α : Type} {R : RepS α} (hR : Good R) {n : Nat} {c : C} {xs : List α} {F : List Nat} (hr : SlR n R K c xs F) : SlR n R K' c xs F :=
  hr.frame hR fun b hb => h.get (hr.lt hR b hb)
/-- One block more, whose cells stand in memory. -/
theorem ext_push {ρ : Rho} {K : Heap} (hs : HSim ρ K W) (hro : RoH K) (p : Pl) {n : Nat} {cs : List C} {vs : List Value} (hp : p.sz = n) {arr : Array Value} {t : TypeId} {fr : Nat × Nat} (hb : W.heap[p.blk]? = some (.cells arr t fr))
    (hc : ∀ i v, vs[i]? = some v → arr[p.off + i]? = some v) (ha : All2 (CRel K.length ρ) cs vs) :
    ∃ ρ', ExtH ρ K ρ' (K ++ [⟨.ro, n, cs⟩]) ∧ HSim ρ' (K ++ [⟨.ro, n, cs⟩]) W ∧ RoH (K ++ [⟨.ro, n, cs⟩]) ∧ ρ' K.length = p := by
  have he : ExtH ρ K (fun b => if b = K.length then p else ρ b) (K ++ [⟨.ro, n, cs⟩]) := ⟨⟨_, rfl⟩, fun b hb => if_neg (by omega)⟩
  have hro' : RoH (K ++ [⟨.ro, n, cs⟩]) := fun b B hB => by
    rw [List.getElem?_append] at hB
    split at hB
    · exact hro b B hB
    · have : B = ⟨.ro, n, cs⟩ := by
        have := List.mem_of_getElem? hB
        simpa using this
      rw [this]
  refine ⟨fun b => if b = K.length then p else ρ b, he, ⟨fun b B hB hd => ?_, fun b B hB hd => ?_, fun b b' B B' hB _ hw => absurd (hro' b B hB) (by rw [hw]; decide)⟩, hro', if_pos rfl⟩
  · by_cases e : b = K.length
    · subst e
      simp at hB; subst hB
      refine ⟨arr, t, fr, by simpa using hb, fun i c hi => ?_, fun h => by cases h⟩
      obtain ⟨v, hv, hr⟩ := ha.get hi
      exact ⟨v, by simpa using hc i v hv, he.crel hr⟩
    · have hlt : b < K.length := by
        have := (List.getElem?_eq_some_iff.1 hB).1
        simp at this; omega
      rw [List.getElem?_append_left hlt] at hB
      obtain ⟨arr', t', fr', h1, h2, h3⟩ := hs.blk b B hB hd
      simp only [if_neg e]
      exact ⟨arr', t', fr', h1, fun i c hi => by obtain ⟨v, hv, hr⟩ := h2 i c hi; exact ⟨v, hv, he.crel hr⟩, fun h => absurd (hro b B hB) (by rw [h]; decide)⟩
  · by_cases e : b = K.length
    · subst e
      simp at hB; subst hB
      simpa using hp
    · have hlt : b < K.length := by
        have := (List.getElem?_eq_some_iff.1 hB).1
        simp at this; omega
      rw [List.getElem?_append_left hlt] at hB
      simp only [if_neg e]
      exact hs.sz b B hB hd

/-- What is read of a type, told as data. -/
def Opens (enc : TypeId × Value → H) (P : Program) (W : World) (t : TypeId) (n : Nat) {α : Type} (R : RepS α) : Prop :=
  ∀ (fuel : Nat) (cs : List Value) (x : DataW H × List MemPlace), DataW.trod enc P W 0 (fun _ => true) true fuel t cs = some x → (∀ k ∈ x.1.weights P t, k ≤ reachBytes) →
    ∀ (ρ : Rho) (K : Heap), HSim ρ K W → RoH K → ∃ ρ' K' acs y F, ExtH ρ K ρ' K' ∧ HSim ρ' K' W ∧ RoH K' ∧ acs.length = n ∧ All2 (CRel K'.length ρ') acs cs ∧ R K' acs y F

theorem opens_int {t : TypeId} (ht : P.underlying t = some (.int .i64)) : Opens enc P W t 1 RInt := fun fuel cs x h _ ρ K hs hro => by
  obtain ⟨n, rfl, _, _⟩ := DataW.trod_int ht h
  exact ⟨ρ, K, [.int .i64 n], n, [], ExtH.refl _ _, hs, hro, rfl, .cons rfl .nil, rfl, rfl⟩
theorem opens_byte {t : TypeId} (ht : P.underlying t = some (.int .u8)) : Opens enc P W t 1 RByte := fun fuel cs x h _ ρ K hs hro => by
  obtain ⟨n, rfl, _, hw⟩ := DataW.trod_int ht h
  refine ⟨ρ, K, [.int .u8 n], n, [], ExtH.refl _ _, hs, hro, rfl, .cons rfl .nil, rfl, ?_, rfl⟩
  simp [Lit.wf, IntKind.min, IntKind.max, IntKind.signed, IntKind.bits] at hw
  omega
def RBool : RepS Bool := fun _ cs x F => cs = [.bool x] ∧ F = []
theorem opens_bool {t : TypeId} (ht : P.underlying t = some .bool) : Opens enc P W t 1 RBool := fun fuel cs x h _ ρ K hs hro => by
  obtain ⟨n, rfl, _⟩ := DataW.trod_bool ht h
  exact ⟨ρ, K, [.bool n], n, [], ExtH.refl _ _, hs, hro, rfl, .cons rfl .nil, rfl, rfl⟩

theorem weightsAll_mem {e : TypeId} : ∀ {l : List (DataW H)} {d : DataW H}, d ∈ l → ∀ k ∈ d.weights P e, k ∈ DataW.weightsAll P e l
  | a :: l, d, h, k, hk => by
    simp only [DataW.weightsAll, List.mem_append]
    rcases List.mem_cons.1 h with rfl | h
    · exact .inl hk
    · exact .inr (weightsAll_mem h k hk)

/-- Elements, one behind the other. -/
theorem opens_many {e : TypeId} {n : Nat} {α : Type} {R : RepS α} (hR : Good R) (ho : Opens enc P W e n R) (fuel : Nat) (V : Nat → List Value) :
    ∀ (m : Nat), (∀ i, i < m → ∃ x, DataW.trod enc P W 0 (fun _ => true) true fuel e (V i) = some x ∧ ∀ k ∈ x.1.weights P e, k ≤ reachBytes) →
    ∀ (ρ : Rho) (K : Heap), HSim ρ K W → RoH K → ∃ ρ' K' css ys fs, ExtH ρ K ρ' K' ∧ HSim ρ' K' W ∧ RoH K' ∧ All3 n (R K') css ys fs ∧ css.length = m ∧ All2 (CRel K'.length ρ') css.flatten ((List.range m).flatMap V)
  | 0, _, ρ, K, hs, hro => ⟨ρ, K, [], [], [], ExtH.refl _ _, hs, hro, .nil, rfl, .nil⟩
  | m + 1, h, ρ, K, hs, hro => by
    obtain ⟨ρ1, K1, css, ys, fs, h1, h2, h3, h4, h5, h6⟩ := opens_many hR ho fuel V m (fun i hi => h i (by omega)) ρ K hs hro
    obtain ⟨x, hx, hw⟩ := h m (by omega)
    obtain ⟨ρ2, K2, acs, y, F, g1, g2, g3, g4, g5, g6⟩ := ho fuel (V m) x hx hw ρ1 K1 h2 h3
    refine ⟨ρ2, K2, css ++ [acs], ys ++ [y], fs ++ [F], h1.trans g1, g2, g3, (h4.mono fun c z f _ hr => g1.rep hR hr).app (.cons g4 g6 .nil), by simp [h5], ?_⟩
    rw [List.range_succ, List.flatMap_append, List.flatten_append]
    refine (g1.all h6).append ?_
    simpa using g5

theorem mapM_range_get {β : Type} {f : Nat → Option β} {n : Nat} {l : List β} (h : (List.range n).mapM f = some l) : l.length = n ∧ ∀ i, i < n → f i = l[i]? := by
  refine ⟨by simpa using mapM_some_length h, fun i hi => by simpa using mapM_some_get h i i (by simp [hi])⟩

theorem cells_at {a : Addr} {n : Nat} {vs : List Value} (hn : 0 < n) (h : W.cells? 0 a n = some vs) : a.spot = none ∧ ∃ arr t fr, W.heap[a.block]? = some (.cells arr t fr) := by
  obtain ⟨_, h2, h3⟩ := World.cells?_some h
  have h4 := h3 0 hn
  obtain ⟨v, hv⟩ : ∃ v, vs[0]? = some v := ⟨vs[0]'(by omega), by simp⟩
  rw [hv] at h4
  simp only [Addr.add, if_true, World.cell?] at h4
  split at h4
  · rename_i c t fr hb
    refine ⟨?_, c, t, fr, hb⟩
    cases hs : a.spot with
    | none => rfl
    | some z => rw [hs] at h4; simp at h4
  · cases h4
theorem flat_get {V : Nat → List Value} {n : Nat} {g : Nat → Option Value} (hn : 0 < n) : ∀ (len : Nat), (∀ i, i < len → (V i).length = n ∧ ∀ r, r < n → (V i)[r]? = g (i * n + r)) → ((List.range len).flatMap V).length = len * n ∧ ∀ j, j < len * n → ((List.range len).flatMap V)[j]? = g j
  | 0, _ => ⟨by simp, fun j hj => by omega⟩
  | len + 1, h => by
    obtain ⟨h1, h2⟩ := flat_get hn len fun i hi => h i (by omega)
    obtain ⟨h3, h4⟩ := h len (by omega)
    rw [List.range_succ, List.flatMap_append]
    refine ⟨by simp [h1, h3, Nat.succ_mul], fun j hj => ?_⟩
    rw [List.getElem?_append, h1]
    split
    · rename_i hlt; exact h2 j hlt
    · rename_i hge
      rw [Nat.succ_mul] at hj
      have := h4 (j - len * n) (by omega)
      rw [show len * n + (j - len * n) = j by omega] at this
      simpa using this

/-- A slice. -/
theorem opens_slice {t e : TypeId} {n : Nat} {α : Type} {R : RepS α} (hR : Good R) (ht : P.underlying t = some (.slice e)) (hn : P.cellsOf e = n) (h0 : 0 < n) (hb : 0 < P.bytesOf e) (ho : Opens enc P W e n R) : Opens enc P W t 1 (SlS n R) := by
  intro fuel cs x h hw ρ K hs hro
  rcases DataW.trod_slice ht h with ⟨rfl, _⟩ | ⟨a, len, cap, elems, rest, m, _, rfl, rfl, _, hl, hm, hlen, hel, hsp, _⟩
  · exact ⟨ρ, K, [.nil], [], [], ExtH.refl _ _, hs, hro, rfl, .cons rfl .nil, .nil, rfl, .nil⟩
  obtain ⟨hrl, hre⟩ := hsp rfl
  rw [hn] at hel hre
  have hwt : (elems.length + rest.length) * P.bytesOf e ≤ reachBytes := hw _ (by simp [DataW.weights, ht])
  have htop : len ≤ lenTop := by
    have h1 : elems.length + rest.length ≤ (elems.length + rest.length) * P.bytesOf e := Nat.le_mul_of_pos_right _ hb
    have h2 : reachBytes ≤ lenTop := by decide
    omega
  have hget : ∀ i, i < cap → ∃ vs y, W.cells? 0 (a.add (i * n)) n = some vs ∧ DataW.trod enc P W 0 (fun _ => true) true m e vs = some y ∧ (i < len → ∀ k ∈ y.1.weights P e, k ≤ reachBytes) := by
    intro i hi
    by_cases hlt : i < len
    · have h1 := hel i hlt
      rw [List.getElem?_eq_getElem (by omega), Option.bind_eq_some_iff] at h1
      obtain ⟨vs, h2, h3⟩ := h1
      refine ⟨vs, _, h2, h3, fun _ k hk => hw k ?_⟩
      simp only [DataW.weights, ht, List.mem_cons, List.mem_append]
      exact .inr (.inl (weightsAll_mem (List.mem_map_of_mem (List.getElem_mem _)) k hk))
    · have h1 := hre (i - len) (by omega)
      rw [show len + (i - len) = i by omega, List.getElem?_eq_getElem (by omega), Option.bind_eq_some_iff] at h1
      obtain ⟨vs, h2, h3⟩ := h1
      exact ⟨vs, _, h2, h3, fun hc => absurd hc hlt⟩
  by_cases hc : cap = 0
  · subst hc
    obtain rfl : len = 0 := by omega
    exact ⟨ρ, K, [.emp true], [], [], ExtH.refl _ _, hs, hro, rfl, .cons ⟨a, 0, rfl, fun _ => rfl⟩ .nil, .emp true, rfl, .emp⟩
  obtain ⟨vs0, y0, hv0, _, _⟩ := hget 0 (by omega)
  rw [Nat.zero_mul, show a.add 0 = a from rfl] at hv0
  obtain ⟨hspot, arr, tt, fr, hblk⟩ := cells_at h0 hv0
  obtain ⟨ab, ao, as⟩ := a
  simp only at hspot hblk
  subst hspot
  have hcell : ∀ j, W.cell? ((⟨ab, ao, none⟩ : Addr).add j) = arr[ao + j]? := fun j => by
    unfold Addr.add
    split
    · rename_i hj; subst hj; simp [World.cell?, hblk]
    · simp [World.cell?, hblk]
  have hV : ∀ i, i < len → ((W.cells? 0 ((⟨ab, ao, none⟩ : Addr).add (i * n)) n).getD []).length = n ∧ ∀ r, r < n → ((W.cells? 0 ((⟨ab, ao, none⟩ : Addr).add (i * n)) n).getD [])[r]? = arr[ao + (i * n + r)]? := by
    intro i hi
    obtain ⟨vs, y, h1, _, _⟩ := hget i (by omega)
    obtain ⟨_, h2, h3⟩ := World.cells?_some h1
    rw [h1]
    refine ⟨h2, fun r hr => ?_⟩
    have h4 := h3 r hr
    rw [show ((⟨ab, ao, none⟩ : Addr).add (i * n)).add r = (⟨ab, ao, none⟩ : Addr).add (i * n + r) by
      unfold Addr.add; split <;> split <;> split <;> simp_all <;> omega, hcell] at h4
    simpa using h4.symm
  obtain ⟨ρ1, K1, css, ys, fs, h1, h2, h3, h4, h5, h6⟩ := opens_many hR ho m (fun i => (W.cells? 0 ((⟨ab, ao, none⟩ : Addr).add (i * n)) n).getD []) len (fun i hi => by
    obtain ⟨vs, y, g1, g2, g3⟩ := hget i (by omega)
    exact ⟨y, by rw [g1]; exact g2, g3 hi⟩) ρ K hs hro
  obtain ⟨f1, f2⟩ := flat_get (g := fun j => arr[ao + j]?) h0 len hV
  obtain ⟨ρ2, k1, k2, k3, k4⟩ := ext_push h2 h3 ⟨ab, ao, cap * n, n⟩ (n := n) rfl hblk (fun i v hv => by
    have hi := (List.getElem?_eq_some_iff.1 hv).1
    rw [f1] at hi
    rw [← f2 i hi]; exact hv) h6
  have hyl : ys.length = len := by rw [← h5, h4.len.1]
  refine ⟨ρ2, _, [.sl K1.length 0 len], ys, K1.length :: fs.flatten, h1.trans k1, k2, k3, rfl, .cons ⟨by simp, cap, ?_, hl, ?_⟩ .nil, _, rfl, .inr ⟨K1.length, [], [], css, fs, .ro, ?_, rfl, by simp, by decide, h4.mono fun c z f _ hr => k1.rep hR hr, by omega⟩⟩
  · rw [k4]; simp
  · rw [k4]; simp
  · rw [hyl]; rfl
end
/-! The structs. -/
section
variable {H : Type} {enc : TypeId × Value → H} {P : Program} {W : World}
theorem weightsEach_mem {ts : List TypeId} {ds : List (DataW H)} {j : Nat} {t : TypeId} {d : DataW H} (ht : ts[j]? = some t) (hd : ds[j]? = some d) {N : Nat} (h : ∀ k ∈ DataW.weightsEach P ts ds, k ≤ N) : ∀ k ∈ d.weights P t, k ≤ N := fun k hk => h k (DataW.weights_mem_each ht hd k hk)
/-- Fields, one behind the other. -/
def OpensF (enc : TypeId × Value → H) (P : Program) (W : World) (fs : List Field) (off n : Nat) {α : Type} (R : RepS α) : Prop :=
  ∀ (m : Nat) (xs : List (DataW H × List MemPlace)) (cs : List Value), xs.length = fs.length →
    (∀ (i : Nat) (f : Field), fs[i]? = some f → DataW.trod enc P W 0 (fun _ => true) true m f.type ((cs.drop f.offset).take (P.cellsOf f.type)) = xs[i]?) →
    (∀ k ∈ DataW.weightsEach P (fs.map (·.type)) (xs.map (·.1)), k ≤ reachBytes) →
    ∀ (ρ : Rho) (K : Heap), HSim ρ K W → RoH K → ∃ ρ' K' acs y F, ExtH ρ K ρ' K' ∧ HSim ρ' K' W ∧ RoH K' ∧ acs.length = n ∧ All2 (CRel K'.length ρ') acs ((cs.drop off).take n) ∧ R K' acs y F
def RUnit : RepS Unit := fun _ cs _ F => cs = [] ∧ F = []
def RPair {α β : Type} (R : RepS α) (R' : RepS β) : RepS (α × β) := fun K cs x F => ∃ c1 c2 F1 F2, cs = c1 ++ c2 ∧ F = F1 ++ F2 ∧ R K c1 x.1 F1 ∧ R' K c2 x.2 F2
theorem opensF_nil {off : Nat} : OpensF enc P W [] off 0 RUnit := fun m xs cs _ _ _ ρ K hs hro => ⟨ρ, K, [], (), [], ExtH.refl _ _, hs, hro, rfl, by simpa using All2.nil, rfl, rfl⟩
theorem opensF_cons {f : Field} {fs : List Field} {off n1 n2 : Nat} {α β : Type} {R : RepS α} {R' : RepS β} (hR : Good R) (h1 : f.offset = off) (h2 : P.cellsOf f.type = n1) (ho : Opens enc P W f.type n1 R) (hr : OpensF enc P W fs (off + n1) n2 R') :
    OpensF enc P W (f :: fs) off (n1 + n2) (RPair R R') := by
  intro m xs cs hl hx hw ρ K hs hro
  match xs, hl with
  | x :: xs, hl =>
    have g0 := hx 0 f rfl
    simp only [List.getElem?_cons_zero] at g0
    rw [h1, h2] at g0
    simp only [List.map_cons, DataW.weightsEach, List.mem_append] at hw
    obtain ⟨ρ1, K1, a1, y1, F1, e1, s1, r1, l1, c1, q1⟩ := ho m _ x g0 (fun k hk => hw k (.inl hk)) ρ K hs hro
    obtain ⟨ρ2, K2, a2, y2, F2, e2, s2, r2, l2, c2, q2⟩ := hr m xs cs (by simpa using hl) (fun i f' hf => hx (i + 1) f' (by simpa using hf)) (fun k hk => hw k (.inr hk)) ρ1 K1 s1 r1
    refine ⟨ρ2, K2, a1 ++ a2, (y1, y2), F1 ++ F2, e1.trans e2, s2, r2, by simp [l1, l2], ?_, a1, a2, F1, F2, rfl, rfl, e2.rep hR q1, q2⟩
    rw [List.take_add, List.drop_drop]
    exact (e2.all c1).append c2
theorem opens_struct {t : TypeId} {fs : Array Field} {n : Nat} {α : Type} {R : RepS α} (ht : P.underlying t = some (.struct fs)) (hn : P.cellsOf t = n) (ho : OpensF enc P W fs.toList 0 n R) : Opens enc P W t n R := by
  intro fuel cs x h hw ρ K hs hro
  obtain ⟨xs, m, _, rfl, hl, hxl, hx⟩ := DataW.trod_struct ht h
  have hw' : ∀ k ∈ DataW.weightsEach P (fs.toList.map (·.type)) (xs.map (·.1)), k ≤ reachBytes := fun k hk => hw k (by simpa only [DataW.weights, ht] using hk)
  obtain ⟨ρ1, K1, a1, y1, F1, e1, s1, r1, l1, c1, q1⟩ := ho m xs cs (by simpa using hxl) (fun i f hf => hx i f (by simpa using hf)) hw' ρ K hs hro
  refine ⟨ρ1, K1, a1, y1, F1, e1, s1, r1, l1, ?_, q1⟩
  rw [List.drop_zero, List.take_of_length_le (by omega)] at c1
  exact c1
theorem Opens.map {t : TypeId} {n : Nat} {α β : Type} {R : RepS α} {R' : RepS β} (h : Opens enc P W t n R) (hm : ∀ K cs x F, R K cs x F → ∃ y F', R' K cs y F') : Opens enc P W t n R' := by
  intro fuel cs x hx hw ρ K hs hro
  obtain ⟨ρ1, K1, a1, y1, F1, e1, s1, r1, l1, c1, q1⟩ := h fuel cs x hx hw ρ K hs hro
  obtain ⟨y, F', hq⟩ := hm _ _ _ _ q1
  exact ⟨ρ1, K1, a1, y, F', e1, s1, r1, l1, c1, hq⟩
theorem RBool.good : Good RBool := ⟨fun _ _ _ _ _ h _ => h, fun _ _ _ _ h => by simp [h.2]⟩
theorem good_ints : Good (SlS 1 RInt) := SlR.good RInt.good
theorem good_recs : Good (SlS 3 RRec) := SlR.good RRec.good
theorem good_words : Good (SlS 4 RWord) := SlR.good RWord.good
theorem good_houses : Good (SlS 5 RHouse) := SlR.good RHouse.good

/-! An argument. -/
theorem open_cell {t : TypeId} {v : Value} {d : DataW H} {ps : List MemPlace} {α : Type} {R : RepS α} (ho : Opens enc P W t 1 R) (hv : v.cells.toList = [v]) (hd : DataW.Trod enc P W 0 (fun _ => true) true t v d ps) (hw : ∀ k ∈ d.weights P t, k ≤ reachBytes)
    (ρ : Rho) (K : Heap) (hs : HSim ρ K W) (hro : RoH K) : ∃ ρ' K' c y F, ExtH ρ K ρ' K' ∧ HSim ρ' K' W ∧ RoH K' ∧ VRel K'.length ρ' (.c c) v ∧ R K' [c] y F := by
  obtain ⟨fuel, hf⟩ := hd
  obtain ⟨ρ1, K1, a1, y1, F1, e1, s1, r1, l1, c1, q1⟩ := ho fuel _ _ hf hw ρ K hs hro
  rw [hv] at c1
  match a1, l1, c1 with
  | [c], _, .cons h _ => exact ⟨ρ1, K1, c, y1, F1, e1, s1, r1, h, q1⟩
theorem open_agg {t : TypeId} {v : Value} {d : DataW H} {ps : List MemPlace} {n : Nat} {α : Type} {R : RepS α} (ho : Opens enc P W t n R) {arr : Array Value} (hv : v = .agg arr) (hd : DataW.Trod enc P W 0 (fun _ => true) true t v d ps) (hw : ∀ k ∈ d.weights P t, k ≤ reachBytes)
    (ρ : Rho) (K : Heap) (hs : HSim ρ K W) (hro : RoH K) : ∃ ρ' K' cs y F, ExtH ρ K ρ' K' ∧ HSim ρ' K' W ∧ RoH K' ∧ VRel K'.length ρ' (.agg cs) v ∧ R K' cs y F := by
  subst hv
  obtain ⟨fuel, hf⟩ := hd
  obtain ⟨ρ1, K1, a1, y1, F1, e1, s1, r1, l1, c1, q1⟩ := ho fuel _ _ hf hw ρ K hs hro
  exact ⟨ρ1, K1, a1, y1, F1, e1, s1, r1, ⟨arr, rfl, c1⟩, q1⟩

theorem rrec_of {K : Heap} {cs : List C} {x : Int × Int × List Int × Unit} {F : List Nat} (h : RPair RInt (RPair RInt (RPair (SlS 1 RInt) RUnit)) K cs x F) : ∃ y F', RRec K cs y F' := by
  obtain ⟨c1, c2, F1, F2, rfl, rfl, ⟨rfl, rfl⟩, c3, c4, F3, F4, rfl, rfl, ⟨rfl, rfl⟩, c5, c6, F5, F6, rfl, rfl, ⟨c, rfl, h⟩, rfl, rfl⟩ := h
  exact ⟨⟨x.1, x.2.1, x.2.2.1⟩, F5, c, rfl, h⟩
theorem rlog_of {K : Heap} {cs : List C} {x : List Rec × Int × Unit} {F : List Nat} (h : RPair (SlS 3 RRec) (RPair RInt RUnit) K cs x F) : ∃ y F', RLog K cs y F' := by
  obtain ⟨c1, c2, F1, F2, rfl, rfl, ⟨c, rfl, h⟩, c3, c4, F3, F4, rfl, rfl, ⟨rfl, rfl⟩, rfl, rfl⟩ := h
  exact ⟨⟨x.1, x.2.1⟩, F1, c, rfl, h⟩
theorem rword_of {K : Heap} {cs : List C} {x : Int × Int × Int × Int × Unit} {F : List Nat} (h : RPair RInt (RPair RInt (RPair RInt (RPair RInt RUnit))) K cs x F) : ∃ y F', RWord K cs y F' := by
  obtain ⟨c1, c2, F1, F2, rfl, rfl, ⟨rfl, rfl⟩, c3, c4, F3, F4, rfl, rfl, ⟨rfl, rfl⟩, c5, c6, F5, F6, rfl, rfl, ⟨rfl, rfl⟩, c7, c8, F7, F8, rfl, rfl, ⟨rfl, rfl⟩, rfl, rfl⟩ := h
  exact ⟨⟨x.1, x.2.1, x.2.2.1, x.2.2.2.1⟩, [], rfl, rfl⟩
theorem rtrip_of {K : Heap} {cs : List C} {x : List Int × Int × Unit} {F : List Nat} (h : RPair (SlS 1 RInt) (RPair RInt RUnit) K cs x F) : ∃ y F', RTrip K cs y F' := by
  obtain ⟨c1, c2, F1, F2, rfl, rfl, ⟨c, rfl, h⟩, c3, c4, F3, F4, rfl, rfl, ⟨rfl, rfl⟩, rfl, rfl⟩ := h
  exact ⟨⟨x.1, x.2.1⟩, F1, c, rfl, h⟩
theorem rhouse_of {K : Heap} {cs : List C} {x : Int × Bool × Int × Log × Unit} {F : List Nat} (h : RPair RInt (RPair RBool (RPair RInt (RPair RLog RUnit))) K cs x F) : ∃ y F', RHouse K cs y F' := by
  obtain ⟨c1, c2, F1, F2, rfl, rfl, ⟨rfl, rfl⟩, c3, c4, F3, F4, rfl, rfl, ⟨rfl, rfl⟩, c5, c6, F5, F6, rfl, rfl, ⟨rfl, rfl⟩, c7, c8, F7, F8, rfl, rfl, ⟨c, rfl, h⟩, rfl, rfl⟩ := h
  exact ⟨⟨x.1, x.2.1, x.2.2.1, x.2.2.2.1⟩, F7, c, rfl, h⟩
theorem rdesk_of {K : Heap} {cs : List C} {x : Bool × Log × List Word × Unit} {F : List Nat} (h : RPair RBool (RPair RLog (RPair (SlS 4 RWord) RUnit)) K cs x F) : ∃ y F', RDesk K cs y F' := by
  obtain ⟨c1, c2, F1, F2, rfl, rfl, ⟨rfl, rfl⟩, c3, c4, F3, F4, rfl, rfl, ⟨c, rfl, h⟩, c5, c6, F5, F6, rfl, rfl, ⟨d, rfl, g⟩, rfl, rfl⟩ := h
  exact ⟨⟨x.1, x.2.1, x.2.2.1⟩, _, c, d, F3, F5, rfl, rfl, h, g⟩
theorem rwld_of {K : Heap} {cs : List C} {x : Desk × List House × List Word × Unit} {F : List Nat} (h : RPair RDesk (RPair (SlS 5 RHouse) (RPair (SlS 4 RWord) RUnit)) K cs x F) : ∃ y F', RWld K cs y F' := by
  obtain ⟨c1, c2, F1, F2, rfl, rfl, h0, c3, c4, F3, F4, rfl, rfl, ⟨c, rfl, h⟩, c5, c6, F5, F6, rfl, rfl, ⟨d, rfl, g⟩, rfl, rfl⟩ := h
  exact ⟨⟨x.1, x.2.1, x.2.2.1⟩, _, c1, c, d, F1, F3, F5, rfl, rfl, h0, h, g⟩
end
end Go.AX
namespace Go.AX
theorem SlS.cell {α : Type} {n : Nat} {R : RepS α} {K : Heap} {c : C} {xs : List α} {F : List Nat} (h : SlS n R K [c] xs F) : SlR n R K c xs F := by
  obtain ⟨d, e, h⟩ := h
  simp only [List.cons.injEq, and_true] at e
  subst e; exact h
theorem RInt.cell {K : Heap} {c : C} {x : Int} {F : List Nat} (h : RInt K [c] x F) : c = .int .i64 x := by
  have := h.1
  simpa using this
theorem RBool.cell {K : Heap} {c : C} {x : Bool} {F : List Nat} (h : RBool K [c] x F) : c = .bool x := by
  have := h.1
  simpa using this
end Go.AX
