/- The program's data, and how they lie in memory. No condition. -/
import Derived.Test.YtjpgpepbnglhlaaLExactDeskNewAX18
namespace Go.AX

@[ext] structure Rec where
  kind : Int
  trip : Int
  many : List Int
  deriving DecidableEq
@[ext] structure Log where
  recs : List Rec
  forced : Int
  deriving DecidableEq
@[ext] structure Word where
  kind : Int
  house : Int
  trip : Int
  many : Int
  deriving DecidableEq
@[ext] structure Trip where
  many : List Int
  state : Int
  deriving DecidableEq
@[ext] structure Hold where
  many : Int
  state : Int
  deriving DecidableEq
@[ext] structure Stock where
  room : Int
  holds : List Hold
  deriving DecidableEq
@[ext] structure House where
  id : Int
  up : Bool
  room : Int
  log : Log
  deriving DecidableEq
@[ext] structure Desk where
  up : Bool
  log : Log
  told : List Word
  deriving DecidableEq
@[ext] structure Wld where
  desk : Desk
  houses : List House
  nets : List Word
  deriving DecidableEq

def RInt : RepS Int := fun _ cs x F => cs = [.int .i64 x] ∧ F = []
def RWord : RepS Word := fun _ cs x F => cs = [.int .i64 x.kind, .int .i64 x.house, .int .i64 x.trip, .int .i64 x.many] ∧ F = []
def RHold : RepS Hold := fun _ cs x F => cs = [.int .i64 x.many, .int .i64 x.state] ∧ F = []
abbrev Ints := SlR 1 RInt
abbrev Words := SlR 4 RWord
abbrev Holds' := SlR 2 RHold
def RRec : RepS Rec := fun H cs x F => ∃ c, cs = [.int .i64 x.kind, .int .i64 x.trip, c] ∧ Ints H c x.many F
abbrev Recs := SlR 3 RRec
def RLog : RepS Log := fun H cs x F => ∃ c, cs = [c, .int .i64 x.forced] ∧ Recs H c x.recs F
def RTrip : RepS Trip := fun H cs x F => ∃ c, cs = [c, .int .i64 x.state] ∧ Ints H c x.many F
abbrev Trips := SlR 2 RTrip
def RStock : RepS Stock := fun H cs x F => ∃ c, cs = [.int .i64 x.room, c] ∧ Holds' H c x.holds F
def RHouse : RepS House := fun H cs x F => ∃ c, cs = [.int .i64 x.id, .bool x.up, .int .i64 x.room, c, .int .i64 x.log.forced] ∧ Recs H c x.log.recs F
abbrev Houses := SlR 5 RHouse
def RDesk : RepS Desk := fun H cs x F => ∃ c d F1 F2, cs = [.bool x.up, c, .int .i64 x.log.forced, d] ∧ F = F1 ++ F2 ∧ Recs H c x.log.recs F1 ∧ Words H d x.told F2
def RWld : RepS Wld := fun H cs x F => ∃ ds c d F1 F2 F3, cs = ds ++ [c, d] ∧ F = F1 ++ (F2 ++ F3) ∧ RDesk H ds x.desk F1 ∧ Houses H c x.houses F2 ∧ Words H d x.nets F3

theorem RInt.good : Good RInt := ⟨fun _ _ _ _ _ h _ => h, fun _ _ _ _ h => by simp [h.2]⟩
theorem RWord.good : Good RWord := ⟨fun _ _ _ _ _ h _ => h, fun _ _ _ _ h => by simp [h.2]⟩
theorem RHold.good : Good RHold := ⟨fun _ _ _ _ _ h _ => h, fun _ _ _ _ h => by simp [h.2]⟩
theorem RRec.good : Good RRec := ⟨fun _ _ _ _ _ ⟨c, e, h⟩ hf => ⟨c, e, h.frame RInt.good hf⟩, fun _ _ _ _ ⟨_, _, h⟩ => h.lt RInt.good⟩
theorem RLog.good : Good RLog := ⟨fun _ _ _ _ _ ⟨c, e, h⟩ hf => ⟨c, e, h.frame RRec.good hf⟩, fun _ _ _ _ ⟨_, _, h⟩ => h.lt RRec.good⟩
theorem RTrip.good : Good RTrip := ⟨fun _ _ _ _ _ ⟨c, e, h⟩ hf => ⟨c, e, h.frame RInt.good hf⟩, fun _ _ _ _ ⟨_, _, h⟩ => h.lt RInt.good⟩
theorem RStock.good : Good RStock := ⟨fun _ _ _ _ _ ⟨c, e, h⟩ hf => ⟨c, e, h.frame RHold.good hf⟩, fun _ _ _ _ ⟨_, _, h⟩ => h.lt RHold.good⟩
theorem RHouse.good : Good RHouse := ⟨fun _ _ _ _ _ ⟨c, e, h⟩ hf => ⟨c, e, h.frame RRec.good hf⟩, fun _ _ _ _ ⟨_, _, h⟩ => h.lt RRec.good⟩
theorem RDesk.good : Good RDesk := ⟨fun _ _ _ _ _ ⟨c, d, F1, F2, e, ef, h1, h2⟩ hf => ⟨c, d, F1, F2, e, ef, h1.frame RRec.good fun b hb => hf b (by simp [ef, hb]), h2.frame RWord.good fun b hb => hf b (by simp [ef, hb])⟩,
  fun _ _ _ _ ⟨_, _, F1, F2, _, ef, h1, h2⟩ b hb => by
    rw [ef, List.mem_append] at hb
    exact hb.elim (h1.lt RRec.good b) (h2.lt RWord.good b)⟩
theorem RWld.good : Good RWld := ⟨fun _ _ _ _ _ ⟨ds, c, d, F1, F2, F3, e, ef, h1, h2, h3⟩ hf => ⟨ds, c, d, F1, F2, F3, e, ef, RDesk.good.frame _ _ _ _ _ h1 fun b hb => hf b (by simp [ef, hb]), h2.frame RHouse.good fun b hb => hf b (by simp [ef, hb]), h3.frame RWord.good fun b hb => hf b (by simp [ef, hb])⟩,
  fun _ _ _ _ ⟨_, _, _, F1, F2, F3, _, ef, h1, h2, h3⟩ b hb => by
    rw [ef, List.mem_append, List.mem_append] at hb
    exact hb.elim (RDesk.good.lt _ _ _ _ h1 b) fun hb => hb.elim (h2.lt RHouse.good b) (h3.lt RWord.good b)⟩

/-- The blocks of F may be written. -/
def Owned (H : Heap) (F : List Nat) : Prop := F.Nodup ∧ ∀ b ∈ F, ∃ B, H[b]? = some B ∧ B.st = .rw
theorem Step.owned {F F' : List Nat} {H H' : Heap} (h : Step F H H' F') : Owned H' F' := ⟨h.nodup, h.own⟩
theorem Owned.step {F : List Nat} {H : Heap} (h : Owned H F) : Step F H H F := ⟨fun _ _ _ => rfl, Nat.le_refl _, h.1, h.2, fun _ hb => .inl hb⟩
theorem Owned.left {F G : List Nat} {H : Heap} (h : Owned H (F ++ G)) : Owned H F := ⟨(List.nodup_append.1 h.1).1, fun b hb => h.2 b (by simp [hb])⟩
theorem Owned.right {F G : List Nat} {H : Heap} (h : Owned H (F ++ G)) : Owned H G := ⟨(List.nodup_append.1 h.1).2.1, fun b hb => h.2 b (by simp [hb])⟩
theorem Owned.app {F G : List Nat} {H : Heap} (h1 : Owned H F) (h2 : Owned H G) (hd : ∀ b ∈ F, b ∉ G) : Owned H (F ++ G) :=
  ⟨List.nodup_append.2 ⟨h1.1, h2.1, fun a ha b hb e => hd a ha (e ▸ hb)⟩, fun b hb => by
    simp only [List.mem_append] at hb; exact hb.elim (h1.2 b) (h2.2 b)⟩
theorem Owned.disj {F G : List Nat} {H : Heap} (h : Owned H (F ++ G)) : ∀ b ∈ F, b ∉ G := fun b hb hc => (List.nodup_append.1 h.1).2.2 b hb b hc rfl

section focus
variable {α : Type} {n : Nat} {R : RepS α} {H : Heap} {c : C} {xs : List α} {F : List Nat}
theorem splice_mid {p c q c' : List C} (h : c'.length = c.length) : splice (p ++ c ++ q) p.length c' = p ++ c' ++ q := by
  simp only [splice, List.append_assoc]
  rw [List.take_left, h, List.drop_append, List.drop_of_length_le (by omega)]
  simp
theorem fs_split {fs : List (List Nat)} {i : Nat} {f : List Nat} (h : fs[i]? = some f) : ∃ A B, fs.flatten = A ++ f ++ B ∧ ∀ f', (fs.set i f').flatten = A ++ f' ++ B := by
  induction fs generalizing i with
  | nil => simp at h
  | cons g fs ih =>
    cases i with
    | zero => simp at h; subst h; exact ⟨[], fs.flatten, by simp, fun f' => by simp⟩
    | succ i =>
      obtain ⟨A, B, h1, h2⟩ := ih (i := i) (by simpa using h)
      exact ⟨g ++ A, B, by simp [h1], fun f' => by simp [h2]⟩
theorem All3.frameBut (hR : Good R) {H' : Heap} {css : List (List C)} {fs : List (List Nat)} (h : All3 n (R H) css xs fs) {i : Nat} {f f' : List Nat} {cs' : List C} {x' : α} (hi : fs[i]? = some f) (hl : cs'.length = n) (hr : R H' cs' x' f')
    (hn : fs.flatten.Nodup) (hf : ∀ b ∈ fs.flatten, b ∉ f → H'[b]? = H[b]?) : All3 n (R H') (css.set i cs') (xs.set i x') (fs.set i f') := by
  induction h generalizing i with
  | nil => simp at hi
  | @cons c0 x0 f0 cs xs fs h1 h2 h3 ih =>
    rw [List.flatten_cons, List.nodup_append] at hn
    cases i with
    | zero =>
      simp at hi; subst hi
      refine .cons hl hr (h3.mono fun c x g hg hrg => hR.frame _ _ _ _ _ hrg fun b hb => hf b ?_ ?_)
      · simp only [List.flatten_cons, List.mem_append, List.mem_flatten]; exact .inr ⟨g, hg, hb⟩
      · intro hc; exact hn.2.2 b hc b (List.mem_flatten.2 ⟨g, hg, hb⟩) rfl
    | succ i =>
      have hi' : fs[i]? = some f := by simpa using hi
      refine .cons h1 (hR.frame _ _ _ _ _ h2 fun b hb => hf b (by simp [hb]) fun hc => hn.2.2 b hb b (List.mem_flatten.2 ⟨f, List.mem_of_getElem? hi', hc⟩) rfl) (ih hi' hn.2.1 fun b hb hc => hf b (by simp only [List.flatten_cons, List.mem_append]; exact .inr hb) hc)

/-- An element, where it lies, and what the slice becomes where the element changes. -/
theorem SlR.focus (hR : Good R) (h : SlR n R H c xs F) (hn : F.Nodup) {i : Nat} {x : α} (hi : xs[i]? = some x) : ∃ b off bs cs f st A B, c = .sl b off xs.length ∧ H[b]? = some ⟨st, n, bs⟩ ∧ st ≠ .dead ∧ slab bs (off + i * n) n = some cs ∧ cs.length = n ∧
    off + i * n + n ≤ bs.length ∧ R H cs x f ∧ F = A ++ f ++ B ∧ b ∈ A ∧
    ∀ (H' : Heap) (cs' : List C) (x' : α) (f' : List Nat), cs'.length = n → H'[b]? = some ⟨st, n, splice bs (off + i * n) cs'⟩ → (∀ k ∈ A ++ B, k ≠ b → H'[k]? = H[k]?) → R H' cs' x' f' → SlR n R H' c (xs.set i x') (A ++ f' ++ B) := by
  rcases h with ⟨_, rfl, _⟩ | ⟨b, pre, post, css, fs, st, rfl, rfl, h3, h4, h5, h6⟩
  · simp at hi
  · obtain ⟨cs, f, g1, g2, g3, g4⟩ := h5.get hi
    obtain ⟨p, q, e1, e2, e3⟩ := flat_at h5.all_len g1
    obtain ⟨A, B, a1, a2⟩ := fs_split g2
    have hbs : pre ++ css.flatten ++ post = (pre ++ p) ++ cs ++ (q ++ post) := by simp [e1]
    refine ⟨b, pre.length, _, cs, f, st, b :: A, B, rfl, h3, h4, ?_, g3, ?_, g4, by simp [a1], by simp, ?_⟩
    · rw [hbs]; exact slab_mid' (by simp [e2]) g3
    · rw [hbs]; simp [e2, g3]; omega
    · intro H' cs' x' f' hl hb hk hr
      refine .inr ⟨b, pre, post, css.set i cs', fs.set i f', st, by simp, by simp [a2], ?_, h4, ?_, by simpa using h6⟩
      · rw [hb, hbs, show pre.length + i * n = (pre ++ p).length by simp [e2], splice_mid (by rw [hl, g3]), e3]
        simp
      · have hn' := (List.nodup_cons.1 hn)
        refine h5.frameBut hR g2 hl hr hn'.2 fun k hk' hkf => hk k ?_ ?_
        · rw [a1] at hk'
          simp only [List.mem_append, List.mem_cons] at hk' ⊢
          rcases hk' with (hk' | hk') | hk'
          · exact .inl (.inr hk')
          · exact absurd hk' hkf
          · exact .inr hk'
        · rintro rfl; exact hn'.1 hk'
end focus

/-! A write. -/
theorem Heap.own_of {H : Heap} {b n : Nat} {cs : List C} (h : H[b]? = some ⟨.rw, n, cs⟩) : H.own b = some (n, cs) := by unfold Heap.own; rw [h]
theorem Heap.wr_at {H : Heap} {b n : Nat} {st : St} {cs cs' : List C} (h : H[b]? = some ⟨st, n, cs⟩) : (H.wr b cs')[b]? = some ⟨st, n, cs'⟩ := by
  have hlt := (List.getElem?_eq_some_iff.1 h).1
  unfold Heap.wr; rw [h]; simp [hlt]
theorem Heap.wr_ne {H : Heap} {b k : Nat} {cs' : List C} (h : k ≠ b) : (H.wr b cs')[k]? = H[k]? := by
  unfold Heap.wr
  split
  · rw [List.getElem?_set_ne (Ne.symm h)]
  · rfl
theorem Heap.wr_len {H : Heap} {b : Nat} {cs' : List C} : (H.wr b cs').length = H.length := by
  unfold Heap.wr; split <;> simp
theorem Owned.wr {H : Heap} {F : List Nat} (h : Owned H F) {b n : Nat} {cs cs' : List C} (hb : H[b]? = some ⟨.rw, n, cs⟩) : Owned (H.wr b cs') F := ⟨h.1, fun k hk => by
  obtain ⟨B, hB, hs⟩ := h.2 k hk
  by_cases e : k = b
  · subst e; exact ⟨_, Heap.wr_at hb, rfl⟩
  · exact ⟨B, by rw [Heap.wr_ne e]; exact hB, hs⟩⟩
theorem Step.wr {H : Heap} {F : List Nat} (h : Owned H F) {b n : Nat} {cs cs' : List C} (hb : H[b]? = some ⟨.rw, n, cs⟩) (hf : b ∈ F) : Step F H (H.wr b cs') F where
  old := fun k _ hn => Heap.wr_ne fun e => hn (e ▸ hf)
  len := by rw [Heap.wr_len]; exact Nat.le_refl _
  nodup := h.1
  own := (h.wr hb).2
  src := fun _ hb => .inl hb

end Go.AX
