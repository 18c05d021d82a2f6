/- The abstract machine AX: steps that may be taken in either order. No condition. -/
import Derived.Test.YtfjgckhndimhdaaGreatAX11
namespace Go.AX

variable {P : Program} {Z : Zs}

structure FX (W : List Nat) (hw : Bool) (m : Nat → Bool) (s s' : S) : Prop where
  slot : ∀ j, j ∉ W → s'.env j = s.env j ∧ s'.adr j = s.adr j
  used : ∀ j, s'.used j = (s.used j || m j)
  H : hw = false → s'.H = s.H
structure Agree (R W : List Nat) (hr : Bool) (t s : S) : Prop where
  slot : ∀ j, j ∈ R ∨ j ∈ W → t.env j = s.env j ∧ t.adr j = s.adr j
  used : ∀ j, j ∈ W → t.used j = s.used j
  H : hr = true → t.H = s.H
structure Same (W : List Nat) (hw : Bool) (t s : S) : Prop where
  slot : ∀ j, j ∈ W → t.env j = s.env j ∧ t.adr j = s.adr j
  H : hw = true → t.H = s.H
def FP (R W M : List Nat) (hr hw : Bool) (rel : S → S → Prop) : Prop := ∀ s s', rel s s' → ∃ m : Nat → Bool, (∀ j, m j = true → j ∈ M) ∧ FX W hw m s s' ∧
  ∀ t, Agree R W hr t s → ∃ t', rel t t' ∧ FX W hw m t t' ∧ Same W hw t' s'

theorem FP.nop (R W M : List Nat) (hr : Bool) : FP R W M hr false (fun s s' => s' = s) := by
  rintro s s' rfl
  exact ⟨fun _ => false, by simp, ⟨fun _ _ => ⟨rfl, rfl⟩, by simp, fun _ => rfl⟩, fun t h => ⟨t, rfl, ⟨fun _ _ => ⟨rfl, rfl⟩, by simp, fun _ => rfl⟩, ⟨fun j hj => h.slot j (.inr hj), by simp⟩⟩⟩

theorem FP.put {d : Nat} {rel : S → S → Prop} {R : List Nat} {hr : Bool} {f : S → Option AV} (hrel : ∀ s s', rel s s' ↔ ∃ v, f s = some v ∧ s' = s.put d v)
    (hf : ∀ t s, (∀ j ∈ R, t.env j = s.env j ∧ t.adr j = s.adr j) → t.used d = s.used d → (hr = true → t.H = s.H) → f t = f s) : FP R [d] [] hr false rel := by
  intro s s' h
  obtain ⟨v, h1, rfl⟩ := (hrel s s').1 h
  refine ⟨fun _ => false, by simp, ⟨fun j hj => ?_, by simp [S.put], fun _ => rfl⟩, fun t ha => ?_⟩
  · simp at hj; exact ⟨upd_ne _ _ hj, upd_ne _ _ hj⟩
  · refine ⟨t.put d v, (hrel _ _).2 ⟨v, ?_, rfl⟩, ⟨fun j hj => ?_, by simp [S.put], fun _ => rfl⟩, ⟨fun j hj => ?_, by simp⟩⟩
    · rw [hf t s (fun j hj => ha.slot j (.inl hj)) (ha.used d (by simp)) ha.H]; exact h1
    · simp at hj; exact ⟨upd_ne _ _ hj, upd_ne _ _ hj⟩
    · simp at hj; subst hj; simp [S.put, upd_same]
theorem FP.putH {d : Nat} {rel : S → S → Prop} {R : List Nat} {f : S → Option (AV × Heap)} (hrel : ∀ s s', rel s s' ↔ ∃ v H', f s = some (v, H') ∧ s' = { s.put d v with H := H' })
    (hf : ∀ t s, (∀ j ∈ R, t.env j = s.env j ∧ t.adr j = s.adr j) → t.used d = s.used d → t.H = s.H → f t = f s) : FP R [d] [] true true rel := by
  intro s s' h
  obtain ⟨v, H', h1, rfl⟩ := (hrel s s').1 h
  refine ⟨fun _ => false, by simp, ⟨fun j hj => ?_, by simp [S.put], by simp⟩, fun t ha => ?_⟩
  · simp at hj; exact ⟨upd_ne _ _ hj, upd_ne _ _ hj⟩
  · refine ⟨{ t.put d v with H := H' }, (hrel _ _).2 ⟨v, H', ?_, rfl⟩, ⟨fun j hj => ?_, by simp [S.put], by simp⟩, ⟨fun j hj => ?_, by simp⟩⟩
    · rw [hf t s (fun j hj => ha.slot j (.inl hj)) (ha.used d (by simp)) (ha.H rfl)]; exact h1
    · simp at hj; exact ⟨upd_ne _ _ hj, upd_ne _ _ hj⟩
    · simp at hj; subst hj; simp [S.put, upd_same]
theorem FP.mono {R W M R' M' : List Nat} {hr hr' hw : Bool} {rel : S → S → Prop} (h : FP R W M hr hw rel) (h1 : ∀ j ∈ R, j ∈ R') (h2 : ∀ j ∈ M, j ∈ M') (h3 : hr = true → hr' = true) : FP R' W M' hr' hw rel := by
  intro s s' hr0
  obtain ⟨m, g1, g2, g3⟩ := h s s' hr0
  exact ⟨m, fun j hj => h2 j (g1 j hj), g2, fun t ha => g3 t ⟨fun j hj => ha.slot j (hj.imp (h1 j) id), ha.used, fun hh => ha.H (h3 hh)⟩⟩
theorem FP.comp {R1 W1 R2 W2 M : List Nat} {hr1 hw1 hr2 hw2 : Bool} {r1 r2 : S → S → Prop} (h1 : FP R1 W1 [] hr1 hw1 r1) (h2 : FP R2 W2 M hr2 hw2 r2) :
    FP (R1 ++ R2) (W1 ++ W2) M (hr1 || hr2) (hw1 || hw2) (fun s s' => ∃ s1, r1 s s1 ∧ r2 s1 s') := by
  rintro s s' ⟨s1, ha, hb⟩
  obtain ⟨m1, e1, f1, g1⟩ := h1 s s1 ha
  obtain ⟨m2, e2, f2, g2⟩ := h2 s1 s' hb
  have hm1 : ∀ j, m1 j = false := fun j => by
    cases hc : m1 j with
    | false => rfl
    | true => exact absurd (e1 j hc) (by simp)
  refine ⟨m2, e2, ⟨fun j hj => ?_, fun j => by rw [f2.used, f1.used, hm1]; simp, fun hh => ?_⟩, fun t ht => ?_⟩
  · simp at hj
    obtain ⟨a1, a2⟩ := f1.slot j hj.1
    obtain ⟨b1, b2⟩ := f2.slot j hj.2
    exact ⟨b1.trans a1, b2.trans a2⟩
  · simp at hh; rw [f2.H hh.2, f1.H hh.1]
  · obtain ⟨t1, p1, q1, u1⟩ := g1 t ⟨fun j hj => ht.slot j (by simp; rcases hj with hj | hj <;> simp [hj]), fun j hj => ht.used j (by simp [hj]), fun hh => ht.H (by simp [hh])⟩
    obtain ⟨t2, p2, q2, u2⟩ := g2 t1 ⟨fun j hj => by
        by_cases hw : j ∈ W1
        · exact u1.slot j hw
        · obtain ⟨a1, a2⟩ := q1.slot j hw
          obtain ⟨b1, b2⟩ := f1.slot j hw
          obtain ⟨c1, c2⟩ := ht.slot j (by simp; rcases hj with hj | hj <;> simp [hj])
          exact ⟨a1.trans (c1.trans b1.symm), a2.trans (c2.trans b2.symm)⟩, fun j hj => by rw [q1.used, f1.used, ht.used j (by simp [hj])], fun hh => by
        cases hc : hw1 with
        | true => exact u1.H hc
        | false => rw [q1.H hc, f1.H hc]; exact ht.H (by simp [hh])⟩
    refine ⟨t2, ⟨t1, p1, p2⟩, ⟨fun j hj => ?_, fun j => by rw [q2.used, q1.used, hm1]; simp, fun hh => ?_⟩, ⟨fun j hj => ?_, fun hh => ?_⟩⟩
    · simp at hj
      obtain ⟨a1, a2⟩ := q1.slot j hj.1
      obtain ⟨b1, b2⟩ := q2.slot j hj.2
      exact ⟨b1.trans a1, b2.trans a2⟩
    · simp at hh; rw [q2.H hh.2, q1.H hh.1]
    · by_cases hc : j ∈ W2
      · exact u2.slot j hc
      · have hj1 : j ∈ W1 := by simp at hj; rcases hj with hj | hj
                                · exact hj
                                · exact absurd hj hc
        obtain ⟨a1, a2⟩ := q2.slot j hc
        obtain ⟨b1, b2⟩ := f2.slot j hc
        obtain ⟨c1, c2⟩ := u1.slot j hj1
        exact ⟨a1.trans (c1.trans b1.symm), a2.trans (c2.trans b2.symm)⟩
    · cases hc : hw2 with
      | true => exact u2.H hc
      | false =>
        rw [hc] at hh; simp at hh
        rw [q2.H hc, f2.H hc]; exact u1.H hh

theorem val_agree {t s : S} {x : AOp} (h : ∀ j ∈ x.tmps, t.env j = s.env j ∧ t.adr j = s.adr j) : t.val x = s.val x := by
  cases x with
  | k c => rfl
  | t i => simp only [S.val]; rw [(h i (by simp [AOp.tmps])).1]
theorem vals_agree {t s : S} : ∀ {xs : List AOp}, (∀ j ∈ xs.flatMap AOp.tmps, t.env j = s.env j ∧ t.adr j = s.adr j) → t.vals xs = s.vals xs := by
  intro xs
  induction xs with
  | nil => intro _; rfl
  | cons x xs ih =>
    intro h
    simp only [S.vals]
    rw [val_agree fun j hj => h j (by simp [hj]), ih fun j hj => h j (by simp only [List.flatMap_cons, List.mem_append]; exact .inr hj)]
theorem parts_agree {t s : S} {ps : List (Nat × Nat × AOp)} (h : ∀ j ∈ ps.flatMap (fun p => p.2.2.tmps), t.env j = s.env j ∧ t.adr j = s.adr j) :
    (ps.map fun p => (p.1, p.2.1, t.val p.2.2)) = ps.map fun p => (p.1, p.2.1, s.val p.2.2) := by
  refine List.map_congr_left fun p hp => ?_
  rw [val_agree fun j hj => h j (List.mem_flatMap.2 ⟨p, hp, hj⟩)]

/-- A step that only fills its slot. -/
theorem FP.step {ai : AI} {d : Nat} {hr : Bool} (h1 : ∀ s s', stepf ai s = some s' → s' = s.put d (s'.env d))
    (h2 : ∀ t s, (∀ j ∈ ai.reads, t.env j = s.env j ∧ t.adr j = s.adr j) → t.used d = s.used d → (hr = true → t.H = s.H) → (stepf ai t).map (·.env d) = (stepf ai s).map (·.env d)) :
    FP ai.reads [d] [] hr false (fun s s' => stepf ai s = some s') := by
  refine FP.put (f := fun s => (stepf ai s).map (·.env d)) (fun s s' => ⟨fun h => ⟨s'.env d, by simp [h], h1 s s' h⟩, ?_⟩) h2
  rintro ⟨v, h, rfl⟩
  cases hs : stepf ai s with
  | none => simp [hs] at h
  | some s1 =>
    simp [hs] at h
    rw [h1 s s1 hs, h]
theorem FP.stepH {ai : AI} {d : Nat} (h1 : ∀ s s', stepf ai s = some s' → s' = { s.put d (s'.env d) with H := s'.H })
    (h2 : ∀ t s, (∀ j ∈ ai.reads, t.env j = s.env j ∧ t.adr j = s.adr j) → t.used d = s.used d → t.H = s.H → (stepf ai t).map (fun q => (q.env d, q.H)) = (stepf ai s).map (fun q => (q.env d, q.H))) :
    FP ai.reads [d] [] true true (fun s s' => stepf ai s = some s') := by
  refine FP.putH (f := fun s => (stepf ai s).map (fun q => (q.env d, q.H))) (fun s s' => ⟨fun h => ⟨s'.env d, s'.H, by simp [h], h1 s s' h⟩, ?_⟩) h2
  rintro ⟨v, H', h, rfl⟩
  cases hs : stepf ai s with
  | none => simp [hs] at h
  | some s1 =>
    simp [hs] at h
    rw [h1 s s1 hs, h.1, h.2]

theorem FP.prom1 (t : Nat) : FP [t] [t] [] true true (fun s s' => prom1 s t = some s') := by
  intro s s' h
  have e : ∀ q : S, q.env t = s.env t → q.adr t = s.adr t → q.H = s.H → ∃ q', AX.prom1 q t = some q' ∧ FX [t] true (fun _ => false) q q' ∧ q'.env t = s'.env t ∧ q'.H = s'.H ∧ q'.adr t = s'.adr t := by
    intro q h1 h3 h2
    unfold AX.prom1 at h ⊢
    rw [h1]
    split at h
    · simp only [Option.some.injEq] at h; subst h
      rename_i n cs he
      exact ⟨_, rfl, ⟨fun j hj => by simp at hj; exact ⟨upd_ne _ _ hj, rfl⟩, by simp, by simp⟩, by simp [upd_same, h2], by simp [h2], h3⟩
    · simp only [Option.some.injEq] at h; subst h
      exact ⟨q, rfl, ⟨fun _ _ => ⟨rfl, rfl⟩, by simp, by simp⟩, h1, h2, h3⟩
    · simp only [Option.some.injEq] at h; subst h
      exact ⟨_, rfl, ⟨fun j hj => by simp at hj; exact ⟨upd_ne _ _ hj, rfl⟩, by simp, by simp⟩, by simp [upd_same], h2, h3⟩
    · simp at h
  obtain ⟨q', h1, h2, h3, h4, h5⟩ := e s rfl rfl rfl
  have : q' = s' := by rw [h1] at h; injection h
  subst this
  refine ⟨fun _ => false, by simp, h2, fun t0 ha => ?_⟩
  obtain ⟨g1, g2⟩ := ha.slot t (by simp)
  obtain ⟨t', p1, p2, p3, p4, p5⟩ := e t0 g1 g2 (ha.H rfl)
  exact ⟨t', p1, p2, ⟨fun j hj => by simp at hj; subst hj; exact ⟨p3, p5⟩, fun _ => p4⟩⟩

/-- Every operation but a call looks and writes where it says. -/
theorem main_fp (ai : AI) (hnc : ∀ d f xs, ai ≠ .call d f xs) (hnd : ∀ d t xs, ai ≠ .cald d t xs) : FP ai.reads ai.wt ai.marks ai.hr ai.hw (fun s s' => stepf ai s = some s') := by
  cases ai with
  | call d f xs => exact absurd rfl (hnc d f xs)
  | cald d t xs => exact absurd rfl (hnd d t xs)
  | ldz d t n g => intro s s' h; simp [stepf] at h
  | slz d x lo hi n => intro s s' h; simp [stepf] at h
  | prom t => exact FP.prom1 t
  | mov d x =>
    refine FP.step (fun s s' h => ?_) (fun t s h _ _ => ?_)
    · simp only [stepf, S.mov] at h; (repeat' split at h) <;> simp at h <;> subst h <;> simp [S.put, upd_same]
    · cases x with
      | k c => simp [stepf, S.mov, S.put, upd_same]
      | t j =>
        have := (h j (by simp [AI.reads, AOp.tmps])).1
        simp only [stepf, S.mov, this]; split <;> simp [S.put, upd_same]
  | not d x =>
    refine FP.step (fun s s' h => ?_) (fun t s h _ _ => ?_)
    · simp only [stepf] at h; split at h <;> simp at h; subst h; simp [S.put, upd_same]
    · simp only [AI.reads] at h
      simp only [stepf, val_agree h]; split <;> simp [S.put, upd_same]
  | neg d x =>
    refine FP.step (fun s s' h => ?_) (fun t s h _ _ => ?_)
    · simp only [stepf] at h; split at h <;> simp at h; subst h; simp [S.put, upd_same]
    · simp only [AI.reads] at h
      simp only [stepf, val_agree h]; split <;> simp [S.put, upd_same]
  | pick d c x y =>
    refine FP.step (fun s s' h => ?_) (fun t s h _ _ => ?_)
    · simp only [stepf, S.putV] at h; (repeat' split at h) <;> simp at h <;> subst h <;> simp [S.put, upd_same]
    · simp only [AI.reads, List.mem_append] at h
      simp only [stepf, val_agree (x := c) fun j hj => h j (.inl (.inl hj)), val_agree (x := x) fun j hj => h j (.inl (.inr hj)), val_agree (x := y) fun j hj => h j (.inr hj), S.putV]
      (repeat' split) <;> simp_all [S.put, upd_same]
  | bin op d x y =>
    refine FP.step (fun s s' h => ?_) (fun t s h _ _ => ?_)
    · simp only [stepf, S.putV] at h; (repeat' split at h) <;> simp at h <;> subst h <;> simp [S.put, upd_same]
    · simp only [AI.reads, List.mem_append] at h
      simp only [stepf, val_agree (x := x) fun j hj => h j (.inl hj), val_agree (x := y) fun j hj => h j (.inr hj), S.putV]
      (repeat' split) <;> simp_all [S.put, upd_same]
  | eqv ng k d x y =>
    refine FP.step (fun s s' h => ?_) (fun t s h _ _ => ?_)
    · simp only [stepf] at h; (repeat' split at h) <;> simp at h <;> subst h <;> simp [S.put, upd_same]
    · simp only [AI.reads, List.mem_append] at h
      simp only [stepf, val_agree (x := x) fun j hj => h j (.inl hj), val_agree (x := y) fun j hj => h j (.inr hj)]
      (repeat' split) <;> simp_all [S.put, upd_same]
  | conv k d x =>
    refine FP.step (fun s s' h => ?_) (fun t s h _ _ => ?_)
    · simp only [stepf] at h; split at h <;> simp at h; subst h; simp [S.put, upd_same]
    · simp only [AI.reads] at h
      simp only [stepf, val_agree h]; split <;> simp [S.put, upd_same]
  | ext d x i =>
    refine FP.step (fun s s' h => ?_) (fun t s h _ _ => ?_)
    · simp only [stepf, S.putV] at h; (repeat' split at h) <;> simp at h <;> subst h <;> simp [S.put, upd_same]
    · simp only [AI.reads] at h
      cases x with
      | k c => simp [stepf]
      | t q =>
        simp only [stepf, S.putV]
        rw [(h q (by simp [AOp.tmps])).1]
        (repeat' split) <;> simp_all [S.put, upd_same]
  | len d x =>
    refine FP.step (fun s s' h => ?_) (fun t s h _ _ => ?_)
    · simp only [stepf] at h; (repeat' split at h) <;> simp at h <;> subst h <;> simp [S.put, upd_same]
    · simp only [AI.reads] at h
      simp only [stepf, val_agree h]; (repeat' split) <;> simp_all [S.put, upd_same]
  | mm mx d x y =>
    refine FP.step (fun s s' h => ?_) (fun t s h _ _ => ?_)
    · simp only [stepf] at h; split at h
      · split at h
        · simp only [Option.some.injEq] at h; subst h; simp [S.put, upd_same]
        · simp at h
      · simp at h
    · simp only [AI.reads, List.mem_append] at h
      simp only [stepf, val_agree (x := x) fun j hj => h j (.inl hj), val_agree (x := y) fun j hj => h j (.inr hj)]
      split
      · split
        · simp [S.put, upd_same]
        · simp
      · simp
  | nilck d x =>
    refine FP.step (fun s s' h => ?_) (fun t s h _ _ => ?_)
    · simp only [stepf] at h; split at h <;> simp at h; subst h; simp [S.put, upd_same]
    · simp only [AI.reads] at h
      simp only [stepf, val_agree h]; split <;> simp [S.put, upd_same]
  | mkm d =>
    refine FP.step (fun s s' h => ?_) (fun t s h hu _ => ?_)
    · simp only [stepf] at h; split at h <;> simp at h; subst h; simp [S.put, upd_same]
    · simp only [stepf, hu]; split <;> simp [S.put, upd_same]
  | mpi m k x =>
    intro s s' h
    simp only [stepf] at h
    split at h
    · rename_i es cs he hv
      split at h
      · rename_i hall
        simp only [Option.some.injEq] at h; subst h
        have e : ∀ q : S, q.env m = s.env m → q.val x = s.val x → stepf (.mpi m k x) q = some { q with env := upd q.env m (.mw (es ++ [(k, cs)])) } := fun q h1 h2 => by
          simp only [stepf, h1, h2, he, hv]
          rw [if_pos hall]
        refine ⟨fun _ => false, by simp, ⟨fun j hj => by simp [AI.wt] at hj; exact ⟨upd_ne _ _ hj, rfl⟩, by simp, fun _ => rfl⟩, fun t ha => ?_⟩
        have g1 := ha.slot m (.inl (by simp [AI.reads]))
        have g2 := val_agree (x := x) (t := t) (s := s) fun j hj => ha.slot j (.inl (by simp [AI.reads, hj]))
        exact ⟨_, e t g1.1 g2, ⟨fun j hj => by simp [AI.wt] at hj; exact ⟨upd_ne _ _ hj, rfl⟩, by simp, fun _ => rfl⟩, ⟨fun j hj => by simp [AI.wt] at hj; subst hj; exact ⟨by simp [upd_same], g1.2⟩, by simp [AI.hw]⟩⟩
      · simp at h
    · simp at h
  | mpg d m k z =>
    refine FP.step (fun s s' h => ?_) (fun t s h _ _ => ?_)
    · simp only [stepf] at h; split at h
      · simp only [Option.some.injEq] at h; subst h; simp [S.put, upd_same]
      · simp at h
    · simp only [AI.reads, List.mem_cons] at h
      have e1 := (h m (.inl rfl)).1
      have e2 := val_agree (x := k) (t := t) (s := s) fun j hj => h j (.inr hj)
      simp only [stepf, e1, e2]
      split <;> simp [S.put, upd_same]
  | alloc d cs =>
    refine FP.step (fun s s' h => ?_) (fun t s h hu _ => ?_)
    · simp only [stepf] at h; split at h <;> simp at h; subst h; simp [S.put, upd_same]
    · simp only [stepf, hu]; split <;> simp [S.put, upd_same]
  | box d x n =>
    refine FP.step (fun s s' h => ?_) (fun t s h hu _ => ?_)
    · simp only [stepf] at h; (repeat' split at h) <;> simp at h <;> subst h <;> simp [S.put, upd_same]
    · simp only [AI.reads] at h
      simp only [stepf, val_agree h, hu]; (repeat' split) <;> simp_all [S.put, upd_same]
  | halloc d cs =>
    refine FP.stepH (fun s s' h => ?_) (fun t s h _ hH => ?_)
    · simp only [stepf, Option.some.injEq] at h; subst h; simp [S.put, upd_same]
    · simp [stepf, S.put, upd_same, hH]
  | hbox d x n =>
    refine FP.stepH (fun s s' h => ?_) (fun t s h _ hH => ?_)
    · simp only [stepf] at h; (repeat' split at h) <;> simp at h <;> subst h <;> simp [S.put, upd_same]
    · simp only [AI.reads] at h
      simp only [stepf, val_agree h, hH]; (repeat' split) <;> simp_all [S.put, upd_same]
  | fld d x off n g =>
    refine FP.step (fun s s' h => ?_) (fun t s h _ _ => ?_)
    · simp only [stepf, S.putV] at h; (repeat' split at h) <;> simp at h <;> subst h <;> simp [S.put, upd_same]
    · simp only [AI.reads] at h
      simp only [stepf, val_agree h, S.putV]; (repeat' split) <;> simp_all [S.put, upd_same]
  | aidx d x i len n g =>
    refine FP.step (fun s s' h => ?_) (fun t s h _ _ => ?_)
    · simp only [stepf, S.putV] at h; (repeat' split at h) <;> simp at h <;> subst h <;> simp [S.put, upd_same]
    · simp only [AI.reads, List.mem_append] at h
      simp only [stepf, val_agree (x := x) fun j hj => h j (.inl hj), val_agree (x := i) fun j hj => h j (.inr hj), S.putV]
      (repeat' split) <;> simp_all [S.put, upd_same]
  | iadr d x i n =>
    refine FP.step (fun s s' h => ?_) (fun t s h _ _ => ?_)
    · simp only [stepf] at h; (repeat' split at h) <;> simp at h <;> subst h <;> simp [S.put, upd_same]
    · simp only [AI.reads, List.mem_append] at h
      simp only [stepf, val_agree (x := x) fun j hj => h j (.inl hj), val_agree (x := i) fun j hj => h j (.inr hj)]
      (repeat' split) <;> simp_all [S.put, upd_same]
  | slc d x lo hi n =>
    refine FP.step (hr := true) (fun s s' h => ?_) (fun t s h _ hH => ?_)
    · simp only [stepf, S.putV] at h; (repeat' split at h) <;> simp at h <;> subst h <;> simp [S.put, upd_same]
    · simp only [AI.reads, List.mem_append] at h
      have e1 := val_agree (x := x) fun j hj => h j (.inl (.inl hj))
      have e2 : ∀ y, lo = some y → t.val y = s.val y := fun y hy => val_agree fun j hj => h j (.inl (.inr (by rw [hy]; exact hj)))
      have e3 : ∀ y, hi = some y → t.val y = s.val y := fun y hy => val_agree fun j hj => h j (.inr (by rw [hy]; exact hj))
      have e4 : stepf (.slc d x lo hi n) t = (stepf (.slc d x lo hi n) s).map fun q => t.put d (q.env d) := by
        cases lo with
        | none =>
          cases hi with
          | none =>
            simp only [stepf, e1, hH rfl, S.putV]
            (repeat' split) <;> simp_all [S.put, upd_same]
          | some z =>
            simp only [stepf, e1, e3 z rfl, hH rfl, S.putV]
            (repeat' split) <;> simp_all [S.put, upd_same]
        | some y =>
          cases hi with
          | none =>
            simp only [stepf, e1, e2 y rfl, hH rfl, S.putV]
            (repeat' split) <;> simp_all [S.put, upd_same]
          | some z =>
            simp only [stepf, e1, e2 y rfl, e3 z rfl, hH rfl, S.putV]
            (repeat' split) <;> simp_all [S.put, upd_same]
      rw [e4]
      cases stepf (.slc d x lo hi n) s <;> simp [S.put, upd_same]
  | bsl d len n zero ps =>
    refine FP.step (fun s s' h => ?_) (fun t s h hu _ => ?_)
    · simp only [stepf] at h; (repeat' split at h) <;> simp at h <;> subst h <;> simp [S.put, upd_same]
    · simp only [AI.reads] at h
      simp only [stepf, parts_agree h, hu]
      (repeat' split) <;> simp_all [S.put, upd_same]
  | bld d zero ps =>
    refine FP.step (fun s s' h => ?_) (fun t s h hu _ => ?_)
    · simp only [stepf] at h; (repeat' split at h) <;> simp at h <;> subst h <;> simp [S.put, upd_same]
    · simp only [AI.reads] at h
      simp only [stepf, parts_agree h]
      (repeat' split) <;> simp_all [S.put, upd_same]
  | mks d x n zero =>
    refine FP.stepH (fun s s' h => ?_) (fun t s h _ hH => ?_)
    · simp only [stepf] at h; (repeat' split at h) <;> simp at h <;> subst h <;> simp [S.put, upd_same]
    · simp only [AI.reads] at h
      simp only [stepf, val_agree h, hH]; (repeat' split) <;> simp_all [S.put, upd_same]
  | app d x y n =>
    refine FP.stepH (fun s s' h => ?_) (fun t s h _ hH => ?_)
    · simp only [stepf] at h; (repeat' split at h) <;> simp at h <;> subst h <;> simp [S.put, upd_same]
    · simp only [AI.reads, List.mem_append] at h
      have e1 := val_agree (x := x) fun j hj => h j (.inl hj)
      cases y with
      | k c =>
        simp only [stepf, e1, hH]
        (repeat' split) <;> simp_all [S.put, upd_same]
      | t q =>
        have e2 := (h q (.inr (by simp [AOp.tmps]))).1
        simp only [stepf, e1, e2, hH]
        (repeat' split) <;> simp_all [S.put, upd_same]
  | ld d t n g b hp =>
    cases hp with
    | true =>
      refine FP.step (hr := true) (fun s s' h => ?_) (fun q s h _ hH => ?_)
      · simp only [stepf, if_true, S.putV] at h; (repeat' split at h) <;> simp at h <;> subst h <;> simp [S.put, upd_same]
      · simp only [AI.reads] at h
        have e1 := h t (by simp)
        simp only [stepf, if_true, e1.1, e1.2, hH rfl, S.putV]
        (repeat' split) <;> simp_all [S.put, upd_same]
    | false =>
      refine FP.step (hr := false) (fun s s' h => ?_) (fun q s h _ _ => ?_)
      · simp only [stepf, Bool.false_eq_true, if_false, S.putV] at h; (repeat' split at h) <;> simp at h <;> subst h <;> simp [S.put, upd_same]
      · simp only [AI.reads] at h
        have e1 := h t (by simp)
        have e2 := h b (by simp)
        simp only [stepf, Bool.false_eq_true, if_false, e1.1, e1.2, e2.1, S.putV]
        (repeat' split) <;> simp_all [S.put, upd_same]
  | faddr d q off b =>
    intro s s' h
    have put : ∀ (t : S) (o : Nat), FX [d] false (fun j => j == b) t { env := upd t.env d .undef, adr := upd t.adr d (some (b, o)), used := upd t.used b true, H := t.H } := fun t o =>
      ⟨fun j hj => by simp at hj; exact ⟨upd_ne _ _ hj, upd_ne _ _ hj⟩, fun j => by
        by_cases hj : j = b
        · subst hj; simp [upd_same]
        · simp [upd_ne _ _ hj, hj], fun _ => rfl⟩
    have same : ∀ (t s : S) (o : Nat), Same [d] false { env := upd t.env d .undef, adr := upd t.adr d (some (b, o)), used := upd t.used b true, H := t.H } { env := upd s.env d .undef, adr := upd s.adr d (some (b, o)), used := upd s.used b true, H := s.H } := fun t s o =>
      ⟨fun j hj => by simp at hj; subst hj; simp [upd_same], by simp⟩
    simp only [stepf] at h
    cases ha : s.adr q with
    | some p =>
      obtain ⟨u, o⟩ := p
      simp only [ha] at h
      split at h
      · rename_i hub
        simp only [Option.some.injEq] at h; subst h
        refine ⟨fun j => j == b, fun j hj => by simp at hj; simp [AI.marks, hj], put s _, fun t hag => ⟨_, ?_, put t (o + off), same t s _⟩⟩
        have e := hag.slot q (.inl (by simp [AI.reads]))
        simp [stepf, e.2, ha, hub]
      · simp at h
    | none =>
      simp only [ha] at h
      cases hu : s.env q with
      | box cs =>
        simp only [hu] at h
        split at h
        · rename_i hub
          subst hub
          simp only [Option.some.injEq] at h; subst h
          refine ⟨fun j => j == q, fun j hj => by simp at hj; simp [AI.marks, hj], put s _, fun t hag => ⟨_, ?_, put t off, same t s _⟩⟩
          have e := hag.slot q (.inl (by simp [AI.reads]))
          simp [stepf, e.1, e.2, ha, hu]
        · simp at h
      | val v =>
        cases v with
        | agg _ => simp [hu] at h
        | c c =>
          cases c with
          | ptr c o =>
            simp only [hu, Option.some.injEq] at h; subst h
            refine ⟨fun _ => false, by simp, ⟨fun j hj => ?_, by simp [S.put], fun _ => rfl⟩, fun t hag => ⟨t.put d (.val (.c (.ptr c (o + off)))), ?_, ⟨fun j hj => ?_, by simp [S.put], fun _ => rfl⟩, ⟨fun j hj => ?_, by simp [AI.hw]⟩⟩⟩
            · simp [AI.wt, AI.dst] at hj; exact ⟨upd_ne _ _ hj, upd_ne _ _ hj⟩
            · have e := hag.slot q (.inl (by simp [AI.reads]))
              simp [stepf, e.1, e.2, ha, hu]
            · simp [AI.wt, AI.dst] at hj; exact ⟨upd_ne _ _ hj, upd_ne _ _ hj⟩
            · simp [AI.wt, AI.dst] at hj; subst hj; simp [S.put, upd_same]
          | _ => simp [hu] at h
      | _ => simp [hu] at h
  | st q x n b hp =>
    intro s s' h
    simp only [stepf] at h
    cases hv : s.val x with
    | none => simp [hv] at h
    | some v =>
      simp only [hv] at h
      by_cases hl : v.cells.length ≠ n
      · simp [hl] at h
      have hl : v.cells.length = n := Decidable.not_not.1 hl
      simp only [hl, ne_eq, not_true, if_false] at h
      have box : ∀ (t : S) (cs : List C), FX [b] false (fun _ => false) t { t with env := upd t.env b (.box cs) } := fun t cs => ⟨fun j hj => by simp at hj; exact ⟨upd_ne _ _ hj, rfl⟩, by simp, fun _ => rfl⟩
      have tval : ∀ t : S, Agree (AI.st q x n b hp).reads (AI.st q x n b hp).wt (AI.st q x n b hp).hr t s → t.val x = some v := fun t hag => by
        rw [val_agree fun j hj => hag.slot j (.inl (by simp [AI.reads, hj])), hv]
      have tq : ∀ t : S, Agree (AI.st q x n b hp).reads (AI.st q x n b hp).wt (AI.st q x n b hp).hr t s → t.env q = s.env q ∧ t.adr q = s.adr q := fun t hag => hag.slot q (.inl (by simp [AI.reads]))
      have tb : ∀ t : S, Agree (AI.st q x n b hp).reads (AI.st q x n b hp).wt (AI.st q x n b hp).hr t s → t.env b = s.env b ∧ t.adr b = s.adr b := fun t hag => hag.slot b (.inr (by simp [AI.wt]))
      cases hp with
      | true =>
        simp only [if_true] at h
        cases hu : s.env q with
        | val v0 =>
          cases v0 with
          | agg _ => simp [hu] at h
          | c c =>
            cases c with
            | ptr c o =>
              simp only [hu] at h
              split at h
              · rename_i ha
                split at h
                · rename_i m cs ho
                  split at h
                  · rename_i hle
                    simp only [Option.some.injEq] at h; subst h
                    refine ⟨fun _ => false, by simp, ⟨fun j hj => ⟨rfl, rfl⟩, by simp, by simp [AI.hw]⟩, fun t hag => ⟨{ t with H := t.H.wr c (splice cs o v.cells) }, ?_, ⟨fun j hj => ⟨rfl, rfl⟩, by simp, by simp [AI.hw]⟩, ⟨fun j hj => ?_, fun _ => ?_⟩⟩⟩
                    · have e := tq t hag
                      have eH := hag.H rfl
                      simp [stepf, tval t hag, hl, e.1, e.2, hu, ha, eH, ho, hle]
                    · simp [AI.wt] at hj; subst hj; exact tb t hag
                    · simp only; rw [hag.H rfl]
                  · simp at h
                · simp at h
              · simp at h
            | _ => simp [hu] at h
        | _ => simp [hu] at h
      | false =>
        simp only [Bool.false_eq_true, if_false] at h
        cases ha : s.adr q with
        | some p =>
          obtain ⟨u, o⟩ := p
          simp only [ha] at h
          split at h
          · rename_i hub
            cases hu : s.env b with
            | box cs =>
              simp only [hu] at h
              split at h
              · rename_i hle
                simp only [Option.some.injEq] at h; subst h
                refine ⟨fun _ => false, by simp, box s _, fun t hag => ⟨{ t with env := upd t.env b (.box (splice cs o v.cells)) }, ?_, box t _, ⟨fun j hj => ?_, by simp [AI.hw]⟩⟩⟩
                · have e := tq t hag
                  have e2 := tb t hag
                  simp [stepf, tval t hag, hl, e.2, ha, hub, e2.1, hu, hle]
                · simp [AI.wt] at hj; subst hj; simp [upd_same, (tb t hag).2]
              · simp at h
            | _ => simp [hu] at h
          · simp at h
        | none =>
          simp only [ha] at h
          cases hu : s.env q with
          | box cs =>
            simp only [hu] at h
            split at h
            · rename_i hle
              obtain ⟨hqb, hle⟩ := hle
              subst hqb
              simp only [Option.some.injEq] at h; subst h
              refine ⟨fun _ => false, by simp, box s _, fun t hag => ⟨{ t with env := upd t.env q (.box (splice cs 0 v.cells)) }, ?_, box t _, ⟨fun j hj => ?_, by simp [AI.hw]⟩⟩⟩
              · have e := tq t hag
                simp [stepf, tval t hag, hl, e.1, e.2, ha, hu, hle]
              · simp [AI.wt] at hj; subst hj; simp [upd_same, (tb t hag).2]
            · simp at h
          | _ => simp [hu] at h

theorem call_fp (ai : AI) : FP ai.reads ai.wt ai.marks ai.hr ai.hw (Main P Z ai) := by
  have gen : ∀ (d : Nat) (s : S) (r : AV) (H' : Heap), FX [d] true (fun _ => false) s { s.put d r with H := H' } := fun d s r H' =>
    ⟨fun j hj => by simp at hj; exact ⟨upd_ne _ _ hj, upd_ne _ _ hj⟩, by simp [S.put], by simp⟩
  have same : ∀ (d : Nat) (t s : S) (r : AV) (H' : Heap), Same [d] true { t.put d r with H := H' } { s.put d r with H := H' } := fun d t s r H' =>
    ⟨fun j hj => by simp at hj; subst hj; simp [S.put, upd_same], fun _ => rfl⟩
  cases ai with
  | call d f xs =>
    rintro s s' ⟨vs, r, H', hv, hc, rfl⟩
    refine ⟨fun _ => false, by simp, gen d s r H', fun t hag => ⟨{ t.put d r with H := H' }, ⟨vs, r, H', ?_, ?_, rfl⟩, gen d t r H', same d t s r H'⟩⟩
    · rw [vals_agree fun j hj => hag.slot j (.inl (by simpa [AI.reads] using hj))]; exact hv
    · rw [hag.H rfl]; exact hc
  | cald d q xs =>
    rintro s s' ⟨f, vs, r, H', hq, hv, hc, rfl⟩
    refine ⟨fun _ => false, by simp, gen d s r H', fun t hag => ⟨{ t.put d r with H := H' }, ⟨f, vs, r, H', ?_, ?_, ?_, rfl⟩, gen d t r H', same d t s r H'⟩⟩
    · rw [(hag.slot q (.inl (by simp [AI.reads]))).1]; exact hq
    · rw [vals_agree fun j hj => hag.slot j (.inl (by simp only [AI.reads, List.mem_cons]; exact .inr hj))]; exact hv
    · rw [hag.H rfl]; exact hc
  | ldz d q n g =>
    have hl : ∀ t s : S, Agree [q] [d] false t s → (∃ v, loadZ Z d q n g s = some (s.put d (.val v)) ∧ loadZ Z d q n g t = some (t.put d (.val v))) ∨ loadZ Z d q n g s = none := fun t s hag => by
      obtain ⟨e1, e2⟩ := hag.slot q (.inl (by simp))
      unfold loadZ
      rw [e1, e2]
      cases s.env q with
      | val v =>
        cases v with
        | agg _ => exact .inr rfl
        | c c =>
          cases c with
          | ptr c o =>
            simp only
            by_cases ha : s.adr q = none
            · simp only [ha, if_true]
              cases Z c with
              | none => exact .inr rfl
              | some p =>
                simp only
                cases slab p.2 o n with
                | none => exact .inr rfl
                | some l =>
                  simp only [S.putV]
                  cases asV g l with
                  | none => exact .inr rfl
                  | some v => exact .inl ⟨v, rfl, rfl⟩
            · simp only [ha, if_false]; exact .inr trivial
          | _ => exact .inr rfl
      | _ => exact .inr rfl
    intro s s' h
    simp only [Main] at h
    have put : ∀ (s : S) (v : V), FX [d] false (fun _ => false) s (s.put d (.val v)) := fun s v => ⟨fun j hj => by simp at hj; exact ⟨upd_ne _ _ hj, upd_ne _ _ hj⟩, by simp [S.put], fun _ => rfl⟩
    rcases hl s s ⟨fun _ _ => ⟨rfl, rfl⟩, fun _ _ => rfl, fun _ => rfl⟩ with ⟨v, h1, _⟩ | h1
    · rw [h1, Option.some.injEq] at h
      subst h
      refine ⟨fun _ => false, by simp, put s v, fun t hag => ?_⟩
      rcases hl t s hag with ⟨v', g1, g2⟩ | g1
      · refine ⟨t.put d (.val v'), g2, put t v', ⟨fun j hj => ?_, by simp [AI.hw]⟩⟩
        rw [h1, Option.some.injEq] at g1
        have : s.put d (.val v) = s.put d (.val v') := g1
        have e := congrArg (fun s => s.env d) this
        simp [S.put, upd_same] at e
        simp [AI.wt, AI.dst] at hj; subst hj; simp [S.put, upd_same, e]
      · rw [h1] at g1; simp at g1
    · rw [h1] at h; simp at h
  | slz d x lo hi n =>
    refine FP.put (f := fun s => (sliceV Z x lo hi n s).map .val) (fun s s' => ?_) (fun t s h _ _ => ?_)
    · show S.putV s d (sliceV Z x lo hi n s) = some s' ↔ _
      cases sliceV Z x lo hi n s <;> simp [S.putV, eq_comm]
    · show (sliceV Z x lo hi n t).map AV.val = (sliceV Z x lo hi n s).map AV.val
      congr 1
      cases x with
      | k c => rfl
      | t i =>
        have e1 := (h i (by simp [AI.reads, AOp.tmps])).1
        cases lo with
        | none =>
          cases hi with
          | none => simp only [sliceV, e1]
          | some z =>
            have e3 := val_agree (x := z) (t := t) (s := s) fun j hj => h j (by simp [AI.reads, optT, hj])
            simp only [sliceV, e1, e3]
        | some y =>
          have e2 := val_agree (x := y) (t := t) (s := s) fun j hj => h j (by simp [AI.reads, optT, hj])
          cases hi with
          | none => simp only [sliceV, e1, e2]
          | some z =>
            have e3 := val_agree (x := z) (t := t) (s := s) fun j hj => h j (by simp [AI.reads, optT, hj])
            simp only [sliceV, e1, e2, e3]
  | _ => exact main_fp _ (by simp) (by simp)

theorem FP.wide {R W M R' W' M' : List Nat} {hr hw hr' hw' : Bool} {rel : S → S → Prop} (h : FP R W M hr hw rel) (h1 : ∀ j ∈ R, j ∈ R') (h2 : ∀ j ∈ W, j ∈ W') (h3 : ∀ j ∈ M, j ∈ M') (h4 : hr = true → hr' = true)
    (h5 : hw = true → hw' = true) (h6 : hw' = true → hr' = true) : FP R' W' M' hr' hw' rel := by
  intro s s' h0
  obtain ⟨m, g1, g2, g3⟩ := h s s' h0
  have fx : ∀ s s' : S, FX W hw m s s' → FX W' hw' m s s' := fun s s' f => ⟨fun j hj => f.slot j fun c => hj (h2 j c), f.used, fun hh => f.H (by
    cases hc : hw with
    | false => rfl
    | true => rw [h5 hc] at hh; exact absurd hh (by decide))⟩
  refine ⟨m, fun j hj => h3 j (g1 j hj), fx _ _ g2, fun t ha => ?_⟩
  obtain ⟨t', p1, p2, p3⟩ := g3 t ⟨fun j hj => ha.slot j (hj.imp (h1 j) (h2 j)), fun j hj => ha.used j (h2 j hj), fun hh => ha.H (h4 hh)⟩
  refine ⟨t', p1, fx _ _ p2, ⟨fun j hj => ?_, fun hh => ?_⟩⟩
  · by_cases hc : j ∈ W
    · exact p3.slot j hc
    · obtain ⟨a1, a2⟩ := p2.slot j hc
      obtain ⟨b1, b2⟩ := g2.slot j hc
      obtain ⟨c1, c2⟩ := ha.slot j (.inr hj)
      exact ⟨a1.trans (c1.trans b1.symm), a2.trans (c2.trans b2.symm)⟩
  · cases hc : hw with
    | true => exact p3.H hc
    | false => rw [p2.H hc, g2.H hc]; exact ha.H (h6 hh)

theorem proms_fp : ∀ (l : List Nat), FP l l [] (!l.isEmpty) (!l.isEmpty) (fun s s' => proms s l = some s') := by
  intro l
  induction l with
  | nil =>
    have := FP.nop [] [] [] false
    intro s s' h
    simp only [proms, Option.some.injEq] at h
    obtain ⟨m, g1, g2, g3⟩ := this s s' h.symm
    exact ⟨m, g1, g2, fun t ha => by obtain ⟨t', p1, p2, p3⟩ := g3 t ha; exact ⟨t', by simp [proms, p1], p2, p3⟩⟩
  | cons q l ih =>
    have hc := FP.comp (FP.prom1 q) ih
    have heq : ∀ s s' : S, (∃ s1, prom1 s q = some s1 ∧ proms s1 l = some s') ↔ proms s (q :: l) = some s' := fun s s' => by
      simp only [proms]
      cases prom1 s q <;> simp
    intro s s' h
    obtain ⟨m, g1, g2, g3⟩ := hc s s' ((heq s s').2 h)
    simp only [Bool.true_or] at g2 g3
    exact ⟨m, g1, g2, fun t ha => by obtain ⟨t', p1, p2, p3⟩ := g3 t ha; exact ⟨t', (heq t t').1 p1, p2, p3⟩⟩

theorem AI.hw_hr (i : AI) (h : i.hw = true) : i.hr = true := by cases i <;> simp_all [AI.hw, AI.hr]
theorem AO.hw_hr (o : AO) (h : o.hw = true) : o.hr = true := by
  simp only [AO.hw, AO.hr, Bool.or_eq_true] at h ⊢
  exact h.imp id (AI.hw_hr _)

theorem stepNil_fp (o : AO) : FP o.rd o.wt o.mks o.hr o.hw (Step0 P Z o) := by
  have hdo : FP o.rd o.wt o.mks o.hr o.hw (Do P Z o) := by
    have := FP.comp (proms_fp o.proms) (call_fp (P := P) (Z := Z) o.ai)
    refine FP.wide this (fun j hj => ?_) (fun j hj => ?_) (fun j hj => hj) (fun hh => hh) (fun hh => hh) (AO.hw_hr o)
    · simp only [AO.rd, List.append_assoc, List.mem_append] at hj ⊢; exact .inr hj
    · simp only [AO.wt, List.append_assoc, List.mem_append] at hj ⊢; exact .inr hj
  intro s s' h
  unfold Step0 at h
  cases hg : o.guard with
  | none =>
    rw [hg] at h
    obtain ⟨m, g1, g2, g3⟩ := hdo s s' h
    exact ⟨m, g1, g2, fun t ha => by obtain ⟨t', p1, p2, p3⟩ := g3 t ha; exact ⟨t', by unfold Step0; rw [hg]; exact p1, p2, p3⟩⟩
  | some gw =>
    obtain ⟨g, want⟩ := gw
    rw [hg] at h
    have fx : ∀ q : S, FX o.wt o.hw (fun _ => false) q (q.skip o.dst) := fun q => by
      cases hd : o.dst with
      | none => exact ⟨fun _ _ => ⟨rfl, rfl⟩, by simp [S.skip], fun _ => rfl⟩
      | some d =>
        refine ⟨fun j hj => ?_, by simp [S.skip, S.put], fun _ => rfl⟩
        have hne : j ≠ d := fun c => hj (by simp [AO.wt, hd, c])
        exact ⟨upd_ne _ _ hne, upd_ne _ _ hne⟩
    have skipd : s' = s.skip o.dst → (∀ t, Agree o.rd o.wt o.hr t s → Step0 P Z o t (t.skip o.dst)) →
        ∃ m : Nat → Bool, (∀ b, m b = true → b ∈ o.mks) ∧ FX o.wt o.hw m s s' ∧ ∀ t, Agree o.rd o.wt o.hr t s → ∃ t', Step0 P Z o t t' ∧ FX o.wt o.hw m t t' ∧ Same o.wt o.hw t' s' := fun hs hst => by
      subst hs
      refine ⟨fun _ => false, by simp, fx s, fun t ha => ⟨t.skip o.dst, hst t ha, fx t, ⟨fun j hj => ?_, fun hh => ?_⟩⟩⟩
      · have e := ha.slot j (.inr hj)
        cases hd : o.dst with
        | none => exact e
        | some d =>
          by_cases hc : j = d
          · subst hc; simp [S.skip, S.put, upd_same]
          · simp [S.skip, S.put, upd_ne _ _ hc, e]
      · have e := ha.H (AO.hw_hr o hh)
        cases hd : o.dst <;> exact e
    have tg : ∀ t, Agree o.rd o.wt o.hr t s → t.env g = s.env g := fun t ha => (ha.slot g (.inl (by simp [AO.rd, hg]))).1
    rcases h with ⟨b, hb, h⟩ | ⟨hb, h⟩
    · split at h
      · rename_i hbw
        obtain ⟨m, g1, g2, g3⟩ := hdo s s' h
        exact ⟨m, g1, g2, fun t ha => by obtain ⟨t', p1, p2, p3⟩ := g3 t ha; exact ⟨t', by unfold Step0; rw [hg]; exact .inl ⟨b, (tg t ha).trans hb, by rw [if_pos hbw]; exact p1⟩, p2, p3⟩⟩
      · rename_i hbw
        exact skipd h fun t ha => by unfold Step0; rw [hg]; exact .inl ⟨b, (tg t ha).trans hb, by rw [if_neg hbw]⟩
    · exact skipd h fun t ha => by unfold Step0; rw [hg]; exact .inr ⟨(tg t ha).trans hb, rfl⟩

theorem step_fp (o : AO) : FP o.rd o.wt o.mks o.hr o.hw (Step1 P Z o) := by
  rintro s s' ⟨h, hz⟩
  obtain ⟨m, g1, g2, g3⟩ := stepNil_fp o s s' h
  refine ⟨m, g1, g2, fun t ha => ?_⟩
  obtain ⟨t', p1, p2, p3⟩ := g3 t ha
  exact ⟨t', ⟨p1, fun hh => by rw [p3.H hh]; exact hz hh⟩, p2, p3⟩
/-- What is to stay stays. -/
theorem step_holds {o : AO} {s s' : S} (h : Step1 P Z o s s') (hz : Holds Z s.H) : Holds Z s'.H := by
  cases hh : o.hw with
  | true => exact h.2 hh
  | false =>
    obtain ⟨_, _, g, _⟩ := step_fp o s s' h
    rw [g.H hh]; exact hz

theorem disj_spec {a b : List Nat} (h : disj a b = true) {j : Nat} (ha : j ∈ a) : j ∉ b := by
  simp only [disj, List.all_eq_true, Bool.not_eq_true', List.contains_eq_mem, decide_eq_false_iff_not] at h
  exact h j ha

theorem S.ext' {s t : S} (h1 : ∀ j, s.env j = t.env j) (h2 : ∀ j, s.adr j = t.adr j) (h3 : ∀ j, s.used j = t.used j) (h4 : s.H = t.H) : s = t := by
  cases s; cases t
  simp only [S.mk.injEq]
  exact ⟨funext h1, funext h2, funext h3, h4⟩

/-- Two steps that don't touch each other change places. -/
theorem swap {x y : AO} (hi : indep x y = true) {s s1 s2 : S} (hx : Step1 P Z x s s1) (hy : Step1 P Z y s1 s2) : ∃ t1, Step1 P Z y s t1 ∧ Step1 P Z x t1 s2 := by
  simp only [indep, Bool.and_eq_true, Bool.not_eq_true', Bool.and_eq_false_iff] at hi
  obtain ⟨⟨⟨⟨⟨⟨i1, i2⟩, i3⟩, i4⟩, i5⟩, i6⟩, i7⟩ := hi
  obtain ⟨mx, ex, fx, gx⟩ := step_fp x s s1 hx
  obtain ⟨my, ey, fy, gy⟩ := step_fp y s1 s2 hy
  obtain ⟨t1, p1, p2, p3⟩ := gy s ⟨fun j hj => by
      have hn : j ∉ x.wt := fun c => by
        rcases hj with hj | hj
        · exact disj_spec i1 c hj
        · exact disj_spec i2 c hj
      obtain ⟨a1, a2⟩ := fx.slot j hn; exact ⟨a1.symm, a2.symm⟩, fun j hj => by
      rw [fx.used]
      cases hc : mx j with
      | false => simp
      | true => exact absurd (ex j hc) (disj_spec i5 hj), fun hh => by
      rw [fx.H (by rcases i6 with h | h
                   · exact h
                   · rw [h] at hh; exact absurd hh (by decide))]⟩
  obtain ⟨t2, q1, q2, q3⟩ := gx t1 ⟨fun j hj => by
      have hn : j ∉ y.wt := fun c => by
        rcases hj with hj | hj
        · exact disj_spec i4 c hj
        · exact disj_spec i2 hj c
      exact p2.slot j hn, fun j hj => by
      rw [p2.used]
      cases hc : my j with
      | false => simp
      | true => exact absurd (ey j hc) (disj_spec i3 hj), fun hh => p2.H (by
      rcases i7 with h | h
      · exact h
      · rw [h] at hh; exact absurd hh (by decide))⟩
  have slots : ∀ j, t2.env j = s2.env j ∧ t2.adr j = s2.adr j := fun j => by
    by_cases c1 : j ∈ x.wt
    · obtain ⟨a1, a2⟩ := q3.slot j c1
      obtain ⟨b1, b2⟩ := fy.slot j (disj_spec i2 c1)
      exact ⟨a1.trans b1.symm, a2.trans b2.symm⟩
    · obtain ⟨a1, a2⟩ := q2.slot j c1
      by_cases c2 : j ∈ y.wt
      · obtain ⟨b1, b2⟩ := p3.slot j c2
        exact ⟨a1.trans b1, a2.trans b2⟩
      · obtain ⟨b1, b2⟩ := p2.slot j c2
        obtain ⟨d1, d2⟩ := fx.slot j c1
        obtain ⟨e1, e2⟩ := fy.slot j c2
        exact ⟨a1.trans (b1.trans (d1.symm.trans e1.symm)), a2.trans (b2.trans (d2.symm.trans e2.symm))⟩
  have heap : t2.H = s2.H := by
    cases hx' : x.hw with
    | true =>
      have hy' : y.hw = false := by
        rcases i6 with h | h
        · rw [hx'] at h; exact absurd h (by decide)
        · cases hc : y.hw with
          | false => rfl
          | true => rw [AO.hw_hr y hc] at h; exact absurd h (by decide)
      rw [q3.H hx', fy.H hy']
    | false =>
      rw [q2.H hx']
      cases hy' : y.hw with
      | true => exact p3.H hy'
      | false => rw [p2.H hy', fy.H hy', fx.H hx']
  have : t2 = s2 := S.ext' (fun j => (slots j).1) (fun j => (slots j).2) (fun j => by
    rw [q2.used, p2.used, fy.used, fx.used, Bool.or_assoc, Bool.or_assoc, Bool.or_comm (my j)]) heap
  subst this
  exact ⟨t1, p1, q1⟩

end Go.AX
