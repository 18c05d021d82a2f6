/- The abstract machine AX: how data lie in its memory; what a step may change of it. No condition. -/
import Derived.Test.YtfjgckhndimhdaaGreatAX16
namespace Go.AX

/-- How a struct's cells stand for a datum; the blocks that it takes. -/
abbrev RepS (α : Type) := Heap → List C → α → List Nat → Prop

inductive All3 {α : Type} (n : Nat) (R : List C → α → List Nat → Prop) : List (List C) → List α → List (List Nat) → Prop
  | nil : All3 n R [] [] []
  | cons {c : List C} {x : α} {f : List Nat} {cs : List (List C)} {xs : List α} {fs : List (List Nat)} : c.length = n → R c x f → All3 n R cs xs fs → All3 n R (c :: cs) (x :: xs) (f :: fs)

section all3
variable {α : Type} {n : Nat} {R R' : List C → α → List Nat → Prop}
theorem All3.len {cs : List (List C)} {xs : List α} {fs : List (List Nat)} (h : All3 n R cs xs fs) : cs.length = xs.length ∧ fs.length = xs.length := by
  induction h with
  | nil => exact ⟨rfl, rfl⟩
  | cons _ _ _ ih => exact ⟨by simp [ih.1], by simp [ih.2]⟩
theorem All3.flat {cs : List (List C)} {xs : List α} {fs : List (List Nat)} (h : All3 n R cs xs fs) : cs.flatten.length = xs.length * n := by
  induction h with
  | nil => simp
  | cons h1 _ _ ih => simp [ih, h1, Nat.add_mul]; omega
theorem All3.mono {cs : List (List C)} {xs : List α} {fs : List (List Nat)} (h : All3 n R cs xs fs) (hr : ∀ c x f, f ∈ fs → R c x f → R' c x f) : All3 n R' cs xs fs := by
  induction h with
  | nil => exact .nil
  | cons h1 h2 _ ih => exact .cons h1 (hr _ _ _ (by simp) h2) (ih fun c x f hf => hr c x f (by simp [hf]))
theorem All3.app {cs cs' : List (List C)} {xs xs' : List α} {fs fs' : List (List Nat)} (h : All3 n R cs xs fs) (h' : All3 n R cs' xs' fs') : All3 n R (cs ++ cs') (xs ++ xs') (fs ++ fs') := by
  induction h with
  | nil => exact h'
  | cons h1 h2 _ ih => exact .cons h1 h2 ih
theorem All3.get {cs : List (List C)} {xs : List α} {fs : List (List Nat)} (h : All3 n R cs xs fs) {i : Nat} {x : α} (hi : xs[i]? = some x) : ∃ c f, cs[i]? = some c ∧ fs[i]? = some f ∧ c.length = n ∧ R c x f := by
  induction h generalizing i with
  | nil => simp at hi
  | cons h1 h2 _ ih =>
    cases i with
    | zero => simp at hi; subst hi; exact ⟨_, _, rfl, rfl, h1, h2⟩
    | succ i => exact ih (by simpa using hi)
theorem All3.set {cs : List (List C)} {xs : List α} {fs : List (List Nat)} (h : All3 n R cs xs fs) {c : List C} {x : α} {f : List Nat} (i : Nat) (hl : c.length = n) (hr : R c x f) : All3 n R (cs.set i c) (xs.set i x) (fs.set i f) := by
  induction h generalizing i with
  | nil => exact .nil
  | cons h1 h2 h3 ih =>
    cases i with
    | zero => exact .cons hl hr h3
    | succ i => exact .cons h1 h2 (ih i)
theorem All3.take {cs : List (List C)} {xs : List α} {fs : List (List Nat)} (h : All3 n R cs xs fs) (k : Nat) : All3 n R (cs.take k) (xs.take k) (fs.take k) := by
  induction h generalizing k with
  | nil => simp; exact .nil
  | cons h1 h2 h3 ih =>
    cases k with
    | zero => exact .nil
    | succ k => exact .cons h1 h2 (ih k)
theorem All3.drop {cs : List (List C)} {xs : List α} {fs : List (List Nat)} (h : All3 n R cs xs fs) (k : Nat) : All3 n R (cs.drop k) (xs.drop k) (fs.drop k) := by
  induction h generalizing k with
  | nil => simp; exact .nil
  | cons h1 h2 h3 ih =>
    cases k with
    | zero => exact .cons h1 h2 h3
    | succ k => exact ih k
theorem flat_at {cs : List (List C)} (h : ∀ c ∈ cs, c.length = n) {i : Nat} {c : List C} (hi : cs[i]? = some c) : ∃ p q, cs.flatten = p ++ c ++ q ∧ p.length = i * n ∧ ∀ c', (cs.set i c').flatten = p ++ c' ++ q := by
  induction cs generalizing i with
  | nil => simp at hi
  | cons d cs ih =>
    cases i with
    | zero => simp at hi; subst hi; exact ⟨[], cs.flatten, by simp, by simp, fun c' => by simp⟩
    | succ i =>
      obtain ⟨p, q, h1, h2, h3⟩ := ih (fun c hc => h c (by simp [hc])) (i := i) (by simpa using hi)
      exact ⟨d ++ p, q, by simp [h1], by simp [h2, h d (by simp), Nat.add_mul]; omega, fun c' => by simp [h3]⟩
theorem All3.all_len {cs : List (List C)} {xs : List α} {fs : List (List Nat)} (h : All3 n R cs xs fs) : ∀ c ∈ cs, c.length = n := by
  induction h with
  | nil => simp
  | cons h1 _ _ ih => intro c hc; simp at hc; exact hc.elim (fun e => e ▸ h1) (ih c)
end all3

/-- The greatest number of elements that a slice has here. -/
def lenTop : Nat := 281474976710656
/-- How a slice of structs of n cells stands for a list. -/
def SlR {α : Type} (n : Nat) (R : RepS α) (H : Heap) (c : C) (xs : List α) (F : List Nat) : Prop :=
  ((c = .nil ∨ c = .emp true) ∧ xs = [] ∧ F = []) ∨
  ∃ b pre post css fs st, c = .sl b pre.length xs.length ∧ F = b :: fs.flatten ∧ H[b]? = some ⟨st, n, pre ++ css.flatten ++ post⟩ ∧ st ≠ .dead ∧ All3 n (R H) css xs fs ∧ xs.length ≤ lenTop

/-- What a representation leans on. -/
structure Good {α : Type} (R : RepS α) : Prop where
  frame : ∀ H H' cs x F, R H cs x F → (∀ b ∈ F, H'[b]? = H[b]?) → R H' cs x F
  lt : ∀ H cs x F, R H cs x F → ∀ b ∈ F, b < H.length

theorem All3.fp_lt {α : Type} {n : Nat} {R : RepS α} {H : Heap} (hR : Good R) {cs : List (List C)} {xs : List α} {fs : List (List Nat)} (h : All3 n (R H) cs xs fs) : ∀ b ∈ fs.flatten, b < H.length := by
  induction h with
  | nil => simp
  | cons _ hr _ ih =>
    intro b hb
    simp only [List.flatten_cons, List.mem_append] at hb
    rcases hb with hb | hb
    · exact hR.lt _ _ _ _ hr b hb
    · exact ih b hb

def SlS {α : Type} (n : Nat) (R : RepS α) : RepS (List α) := fun H cs xs F => ∃ c, cs = [c] ∧ SlR n R H c xs F

section slr
variable {α : Type} {n : Nat} {R : RepS α} {H H' : Heap} {c : C} {xs : List α} {F : List Nat}
theorem SlR.good (hR : Good R) : Good (SlS n R) where
  frame := fun H H' cs xs F ⟨c, e, h⟩ hf => by
    refine ⟨c, e, ?_⟩
    rcases h with h | ⟨b, pre, post, css, fs, st, h1, h2, h3, h4, h5, h6⟩
    · exact .inl h
    · subst h2
      exact .inr ⟨b, pre, post, css, fs, st, h1, rfl, by rw [hf b (by simp)]; exact h3, h4, h5.mono fun c x f hf' hr => hR.frame H H' c x f hr fun b hb => hf b (by simp only [List.mem_cons, List.mem_flatten]; exact .inr ⟨f, hf', hb⟩), h6⟩
  lt := fun H cs xs F ⟨c, e, h⟩ => by
    rcases h with ⟨_, _, rfl⟩ | ⟨b, pre, post, css, fs, st, h1, rfl, h3, h4, h5, h6⟩
    · simp
    · intro x hx
      simp only [List.mem_cons] at hx
      rcases hx with rfl | hx
      · exact (List.getElem?_eq_some_iff.1 h3).1
      · exact h5.fp_lt hR x hx
theorem SlR.frame (hR : Good R) (h : SlR n R H c xs F) (hf : ∀ b ∈ F, H'[b]? = H[b]?) : SlR n R H' c xs F := by
  obtain ⟨c', e, h'⟩ := (SlR.good (n := n) hR).frame H H' [c] xs F ⟨c, rfl, h⟩ hf
  simp at e; subst e; exact h'
theorem SlR.lt (hR : Good R) (h : SlR n R H c xs F) : ∀ b ∈ F, b < H.length := (SlR.good (n := n) hR).lt H [c] xs F ⟨c, rfl, h⟩
theorem SlR.len (h : SlR n R H c xs F) : lenC c = some xs.length := by
  rcases h with ⟨h | h, rfl, _⟩ | ⟨b, pre, post, css, fs, st, rfl, _⟩
  · subst h; rfl
  · subst h; rfl
  · rfl
theorem SlR.top (h : SlR n R H c xs F) : xs.length ≤ lenTop := by
  rcases h with ⟨_, rfl, _⟩ | ⟨b, pre, post, css, fs, st, _, _, _, _, _, h⟩
  · simp
  · exact h
theorem SlR.nil : SlR n R H .nil ([] : List α) [] := .inl ⟨.inl rfl, rfl, rfl⟩
theorem SlR.emp : SlR n R H (.emp true) ([] : List α) [] := .inl ⟨.inr rfl, rfl, rfl⟩

theorem Heap.live_of {H : Heap} {b : Nat} {st : St} {n : Nat} {cs : List C} (h : H[b]? = some ⟨st, n, cs⟩) (hs : st ≠ .dead) : H.live b = some cs := by
  unfold Heap.live; rw [h]; cases st <;> first | rfl | exact absurd rfl hs
theorem Heap.szv_of {H : Heap} {b : Nat} {st : St} {n : Nat} {cs : List C} (h : H[b]? = some ⟨st, n, cs⟩) (hs : st ≠ .dead) : H.szv b = some n := by
  unfold Heap.szv; rw [h]; cases st <;> first | rfl | exact absurd rfl hs
theorem slab_mid {p c q : List C} : slab (p ++ c ++ q) p.length c.length = some c := by
  simp [slab]
theorem slab_mid' {p c q : List C} {o n : Nat} (h1 : p.length = o) (h2 : c.length = n) : slab (p ++ c ++ q) o n = some c := by subst h1 h2; exact slab_mid

/-- An element, where it lies. -/
theorem SlR.get (h : SlR n R H c xs F) {i : Nat} {x : α} (hi : xs[i]? = some x) : ∃ b off bs cs f, c = .sl b off xs.length ∧ H.live b = some bs ∧ slab bs (off + i * n) n = some cs ∧ R H cs x f ∧ cs.length = n ∧ ∀ k ∈ f, k ∈ F := by
  rcases h with ⟨_, rfl, _⟩ | ⟨b, pre, post, css, fs, st, rfl, rfl, h3, h4, h5, h6⟩
  · simp at hi
  · obtain ⟨cs, f, g1, g2, g3, g4⟩ := h5.get hi
    obtain ⟨p, q, e1, e2, _⟩ := flat_at h5.all_len g1
    refine ⟨b, pre.length, _, cs, f, rfl, Heap.live_of h3 h4, ?_, g4, g3, fun k hk => by simp only [List.mem_cons, List.mem_flatten]; exact .inr ⟨f, List.mem_of_getElem? g2, hk⟩⟩
    rw [e1, show pre ++ (p ++ cs ++ q) ++ post = (pre ++ p) ++ cs ++ (q ++ post) by simp]
    exact slab_mid' (by simp [e2]) g3
end slr

/-- What becomes of memory where the blocks F may be changed, and F' are had then. -/
structure Step (F : List Nat) (H H' : Heap) (F' : List Nat) : Prop where
  old : ∀ b, b < H.length → b ∉ F → H'[b]? = H[b]?
  len : H.length ≤ H'.length
  nodup : F'.Nodup
  own : ∀ b ∈ F', ∃ B, H'[b]? = some B ∧ B.st = .rw
  src : ∀ b ∈ F', b ∈ F ∨ H.length ≤ b

theorem Step.lt {F F' : List Nat} {H H' : Heap} (h : Step F H H' F') : ∀ b ∈ F', b < H'.length := fun b hb => by
  obtain ⟨B, hB, _⟩ := h.own b hb; exact (List.getElem?_eq_some_iff.1 hB).1
theorem Step.refl (H : Heap) : Step [] H H [] := ⟨fun _ _ _ => rfl, Nat.le_refl _, .nil, by simp, by simp⟩
theorem Step.keep {F F' G : List Nat} {H H' : Heap} {α : Type} {R : RepS α} {cs : List C} {x : α} (h : Step F H H' F') (hR : Good R) (hr : R H cs x G) (hd : ∀ b ∈ G, b ∉ F) : R H' cs x G :=
  hR.frame _ _ _ _ _ hr fun b hb => h.old b (hR.lt _ _ _ _ hr b hb) (hd b hb)
theorem Step.keepSl {F F' G : List Nat} {H H' : Heap} {α : Type} {R : RepS α} {n : Nat} {c : C} {xs : List α} (h : Step F H H' F') (hR : Good R) (hr : SlR n R H c xs G) (hd : ∀ b ∈ G, b ∉ F) : SlR n R H' c xs G :=
  hr.frame hR fun b hb => h.old b (hr.lt hR b hb) (hd b hb)
/-- One step behind another. -/
theorem Step.trans {F F1 F2 : List Nat} {H H1 H2 : Heap} (h1 : Step F H H1 F1) (h2 : Step F1 H1 H2 F2) : Step F H H2 F2 where
  old := fun b hb hn => by
    rw [h2.old b (Nat.lt_of_lt_of_le hb h1.len) fun hc => by
      rcases h1.src b hc with h | h
      · exact hn h
      · omega]
    exact h1.old b hb hn
  len := Nat.le_trans h1.len h2.len
  nodup := h2.nodup
  own := h2.own
  src := fun b hb => by
    rcases h2.src b hb with h | h
    · exact h1.src b h
    · exact .inr (Nat.le_trans h1.len h)
/-- Beside another thing that one has. -/
theorem Step.beside {F F1 G G1 : List Nat} {H0 H H1 : Heap} (h0 : Step F H0 H (F1 ++ G)) {H' : Heap} (h : Step G H H' G1) (_ : H1 = H') : Step F H0 H' (F1 ++ G1) where
  old := fun b hb hn => by
    have hg : b ∉ G := fun hc => by
      rcases h0.src b (by simp [hc]) with h | h
      · exact hn h
      · omega
    rw [h.old b (Nat.lt_of_lt_of_le hb h0.len) hg]
    exact h0.old b hb hn
  len := Nat.le_trans h0.len h.len
  nodup := by
    have hn := h0.nodup
    rw [List.nodup_append] at hn ⊢
    refine ⟨hn.1, h.nodup, fun a ha b hb e => ?_⟩
    subst e
    rcases h.src a hb with hc | hc
    · exact hn.2.2 a ha a hc rfl
    · obtain ⟨B, hB, _⟩ := h0.own a (by simp [ha])
      have := (List.getElem?_eq_some_iff.1 hB).1
      omega
  own := fun b hb => by
    simp only [List.mem_append] at hb
    rcases hb with hb | hb
    · obtain ⟨B, hB, hs⟩ := h0.own b (by simp [hb])
      have hlt := (List.getElem?_eq_some_iff.1 hB).1
      have hg : b ∉ G := fun hc => by
        have hn := h0.nodup
        rw [List.nodup_append] at hn
        exact hn.2.2 b hb b hc rfl
      exact ⟨B, by rw [h.old b hlt hg]; exact hB, hs⟩
    · exact h.own b hb
  src := fun b hb => by
    simp only [List.mem_append] at hb
    rcases hb with hb | hb
    · exact h0.src b (by simp [hb])
    · rcases h.src b hb with hc | hc
      · exact h0.src b (by simp [hc])
      · exact .inr (Nat.le_trans h0.len hc)
theorem Step.perm {F F1 F2 : List Nat} {H H' : Heap} (h : Step F H H' F1) (hp : F1.Perm F2) : Step F H H' F2 :=
  ⟨h.old, h.len, hp.nodup h.nodup, fun b hb => h.own b (hp.mem_iff.2 hb), fun b hb => h.src b (hp.mem_iff.2 hb)⟩
theorem Step.less {F F1 F2 : List Nat} {H H' : Heap} (h : Step F H H' F1) (hp : F2.Sublist F1) : Step F H H' F2 :=
  ⟨h.old, h.len, h.nodup.sublist hp, fun b hb => h.own b (hp.subset hb), fun b hb => h.src b (hp.subset hb)⟩
theorem Step.more {F G F1 : List Nat} {H H' : Heap} (h : Step F H H' F1) (hp : ∀ b ∈ F, b ∈ G) : Step G H H' F1 :=
  ⟨fun b hb hn => h.old b hb fun hc => hn (hp b hc), h.len, h.nodup, h.own, fun b hb => (h.src b hb).imp (hp b) id⟩

end Go.AX
