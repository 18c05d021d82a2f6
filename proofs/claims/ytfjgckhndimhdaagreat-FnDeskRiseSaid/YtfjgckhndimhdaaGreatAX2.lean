/- The abstract machine AX: its states through the changes of a world. No condition. -/
import Derived.Test.YtfjgckhndimhdaaGreatAX1
import Derived.Laws.World
import Derived.Laws.Sem
namespace Go.AX

/-! Lists side by side -/
section
variable {α β : Type} {R R' : α → β → Prop}
theorem All2.len {as : List α} {bs : List β} (h : All2 R as bs) : as.length = bs.length := by
  induction h with
  | nil => rfl
  | cons _ _ ih => simp [ih]
theorem All2.get {as : List α} {bs : List β} (h : All2 R as bs) {i : Nat} {a : α} (ha : as[i]? = some a) : ∃ b, bs[i]? = some b ∧ R a b := by
  induction h generalizing i with
  | nil => simp at ha
  | cons r _ ih =>
    cases i with
    | zero => simp at ha; subst ha; exact ⟨_, by simp, r⟩
    | succ i => simp at ha ⊢; exact ih ha
theorem All2.mono (hr : ∀ a b, R a b → R' a b) {as : List α} {bs : List β} (h : All2 R as bs) : All2 R' as bs := by
  induction h with
  | nil => exact .nil
  | cons r _ ih => exact .cons (hr _ _ r) ih
theorem All2.of {as : List α} {bs : List β} (hl : as.length = bs.length) (h : ∀ (i : Nat) (a : α), as[i]? = some a → ∃ b, bs[i]? = some b ∧ R a b) : All2 R as bs := by
  induction as generalizing bs with
  | nil => cases bs with
    | nil => exact .nil
    | cons _ _ => simp at hl
  | cons a as ih => cases bs with
    | nil => simp at hl
    | cons b bs =>
      obtain ⟨b', hb', r⟩ := h 0 a (by simp)
      simp at hb'; subst hb'
      exact .cons r (ih (by simpa using hl) fun i x hx => by simpa using h (i + 1) x (by simpa using hx))
theorem All2.append {as as' : List α} {bs bs' : List β} (h : All2 R as bs) (h' : All2 R as' bs') : All2 R (as ++ as') (bs ++ bs') := by
  induction h with
  | nil => exact h'
  | cons r _ ih => exact .cons r ih
theorem All2.take {as : List α} {bs : List β} (h : All2 R as bs) (n : Nat) : All2 R (as.take n) (bs.take n) := by
  induction h generalizing n with
  | nil => simp; exact .nil
  | cons r _ ih => cases n with
    | zero => exact .nil
    | succ n => simp; exact .cons r (ih n)
theorem All2.drop {as : List α} {bs : List β} (h : All2 R as bs) (n : Nat) : All2 R (as.drop n) (bs.drop n) := by
  induction h generalizing n with
  | nil => simp; exact .nil
  | cons r t ih => cases n with
    | zero => exact .cons r t
    | succ n => simp; exact ih n
theorem All2.rep {a : α} {b : β} (h : R a b) (n : Nat) : All2 R (List.replicate n a) (List.replicate n b) := by
  induction n with
  | zero => exact .nil
  | succ n ih => exact .cons h ih
end

/-! Cells and values in a heap that grows -/
theorem CRel.mono {n n' : Nat} {ρ ρ' : Rho} (hn : n ≤ n') (hρ : ∀ b, b < n → ρ' b = ρ b) {c : C} {v : Value} (h : CRel n ρ c v) : CRel n' ρ' c v := by
  cases c with
  | sl b off len => obtain ⟨hb, cap, h1, h2, h3⟩ := h; exact ⟨Nat.lt_of_lt_of_le hb hn, cap, by rw [hρ b hb]; exact h1, h2, by rw [hρ b hb]; exact h3⟩
  | ptr b off => obtain ⟨hb, h1⟩ := h; exact ⟨Nat.lt_of_lt_of_le hb hn, by rw [hρ b hb]; exact h1⟩
  | _ => exact h
theorem VRel.mono {n n' : Nat} {ρ ρ' : Rho} (hn : n ≤ n') (hρ : ∀ b, b < n → ρ' b = ρ b) {c : V} {v : Value} (h : VRel n ρ c v) : VRel n' ρ' c v := by
  cases c with
  | c x => exact CRel.mono hn hρ h
  | agg cs => obtain ⟨arr, e, ha⟩ := h; exact ⟨arr, e, ha.mono fun _ _ => CRel.mono hn hρ⟩
theorem VRel.cells {n : Nat} {ρ : Rho} {v : V} {x : Value} (h : VRel n ρ v x) : All2 (CRel n ρ) v.cells x.cells.toList := by
  cases v with
  | c y =>
    have : x.cells = #[x] := by
      cases y <;> simp only [VRel, CRel] at h
      · rw [h]; rfl
      · rw [h]; rfl
      · rw [h]; rfl
      · obtain ⟨a, cap, e, _⟩ := h; rw [e]; rfl
      · obtain ⟨_, cap, e, _⟩ := h; rw [e]; rfl
      · rw [h.2]; rfl
      · rw [h]; rfl
      · rw [h]; rfl
    rw [this]; exact .cons h .nil
  | agg cs => obtain ⟨arr, rfl, ha⟩ := h; exact ha
/-- A cell's value is no struct. -/
theorem CRel.one {n : Nat} {ρ : Rho} {c : C} {x : Value} (h : CRel n ρ c x) : x.oneCell' = true := by
  cases c <;> simp only [CRel] at h
  · subst h; rfl
  · subst h; rfl
  · subst h; rfl
  · obtain ⟨a, cap, e, _⟩ := h; subst e; rfl
  · obtain ⟨_, cap, e, _⟩ := h; subst e; rfl
  · obtain ⟨_, e⟩ := h; subst e; rfl
  · subst h; rfl
  · subst h; rfl

/-! Where a live block lies -/
theorem HSim.lt {ρ : Rho} {H : Heap} {w : World} (h : HSim ρ H w) {b : Nat} {B : Blk} (hb : H[b]? = some B) (hs : B.st ≠ .dead) : (ρ b).blk < w.heap.size := by
  obtain ⟨arr, t, fr, hh, _⟩ := h.blk b B hb hs
  rcases Nat.lt_or_ge (ρ b).blk w.heap.size with h' | h'
  · exact h'
  · simp [Array.getElem?_eq_none h'] at hh
theorem HSim.to {ρ : Rho} {H : Heap} {w w' : World} (h : HSim ρ H w) (hw : ∀ b B, H[b]? = some B → B.st ≠ .dead → w'.heap[(ρ b).blk]? = w.heap[(ρ b).blk]?) : HSim ρ H w' :=
  ⟨fun b B hb hs => by rw [hw b B hb hs]; exact h.blk b B hb hs, h.sz, h.apart⟩
theorem Cont.lt {n : Nat} {ρ : Rho} {w : World} {c : Cnt} {k : Nat} (h : Cont n ρ w.heap[k]? c) : k < w.heap.size := by
  rcases Nat.lt_or_ge k w.heap.size with h' | h'
  · exact h'
  · rw [Array.getElem?_eq_none h'] at h
    cases c with
    | cells cs => obtain ⟨_, _, e, _⟩ := h; cases e
    | map es => obtain ⟨_, _, e, _⟩ := h; cases e
theorem ERel.mono {n n' : Nat} {ρ ρ' : Rho} (hn : n ≤ n') (hρ : ∀ b, b < n → ρ' b = ρ b) {e : Int × List C} {m : MapEntry} (h : ERel n ρ e m) : ERel n' ρ' e m := by
  obtain ⟨h1, arr, h2, h3⟩ := h
  exact ⟨h1, arr, h2, h3.mono fun _ _ => CRel.mono hn hρ⟩
theorem Cont.mono {n n' : Nat} {ρ ρ' : Rho} (hn : n ≤ n') (hρ : ∀ b, b < n → ρ' b = ρ b) {o : Option Obj} {c : Cnt} (h : Cont n ρ o c) : Cont n' ρ' o c := by
  cases c with
  | cells cs => obtain ⟨arr, t, e, h⟩ := h; exact ⟨arr, t, e, h.mono fun _ _ => CRel.mono hn hρ⟩
  | map es => obtain ⟨arr, t, e, h⟩ := h; exact ⟨arr, t, e, h.mono fun _ _ => ERel.mono hn hρ⟩
theorem Priv.to {w0 : World} {ρ : Rho} {H : Heap} {w w' : World} {cs : Cnt} {k : Nat} (h : Priv w0 ρ H w cs k) (hw : w'.heap[k]? = w.heap[k]?) : Priv w0 ρ H w' cs k := by
  obtain ⟨h1, h2, h4⟩ := h; exact ⟨h1, by rw [hw]; exact h2, h4⟩
theorem Priv.lt {w0 : World} {ρ : Rho} {H : Heap} {w : World} {cs : Cnt} {k : Nat} (h : Priv w0 ρ H w cs k) : k < w.heap.size := h.2.1.lt
/-- A private block while the heap grows by blocks that lie elsewhere. -/
theorem Priv.grow {w0 : World} {ρ ρ' : Rho} {H H' : Heap} {w w' : World} {cs : Cnt} {k : Nat} (h : Priv w0 ρ H w cs k) (hw : w'.heap[k]? = w.heap[k]?)
    (hn : H.length ≤ H'.length) (hρ : ∀ b, b < H.length → ρ' b = ρ b) (hx : ∀ b B, H'[b]? = some B → B.st ≠ .dead → (ρ' b).blk ≠ k) : Priv w0 ρ' H' w' cs k := by
  obtain ⟨h1, h2, h4⟩ := h; exact ⟨h1, by rw [hw]; exact h2.mono hn hρ, hx⟩
theorem SlotRel.grow {w0 : World} {ρ ρ' : Rho} {H H' : Heap} {w w' : World} {v : AV} {x : Value} (h : SlotRel w0 ρ H w v x)
    (hn : H.length ≤ H'.length) (hρ : ∀ b, b < H.length → ρ' b = ρ b)
    (hp : ∀ cs k, isPriv v = true → blkOf x = some k → Priv w0 ρ H w cs k → Priv w0 ρ' H' w' cs k) : SlotRel w0 ρ' H' w' v x := by
  cases v with
  | undef => trivial
  | val v => exact VRel.mono hn hρ h
  | tup vs => obtain ⟨arr, e, ha⟩ := h; exact ⟨arr, e, ha.mono fun _ _ => VRel.mono hn hρ⟩
  | box cs => obtain ⟨k, e, hk⟩ := h; exact ⟨k, e, hp cs k rfl (by rw [e]; rfl) hk⟩
  | lit n cs => obtain ⟨k, len, e, h1, h2, hk⟩ := h; exact ⟨k, len, e, h1, h2, hp cs k rfl (by rw [e]; rfl) hk⟩
  | mw es => obtain ⟨k, e, hk⟩ := h; exact ⟨k, e, hp (.map es) k rfl (by rw [e]; rfl) hk⟩
  | mp es => obtain ⟨k, e, hk⟩ := h; exact ⟨k, e, hp (.map es) k rfl (by rw [e]; rfl) hk⟩

theorem Keep.refl (X : Nat → Prop) (w : World) : Keep X w w := ⟨rfl, rfl, rfl, Nat.le_refl _, fun _ _ _ => rfl⟩
theorem Keep.to {X : Nat → Prop} {w0 w w' : World} (h : Keep X w0 w) (h1 : w'.os = w.os) (h2 : w'.tape = w.tape) (h3 : w'.output = w.output) (h4 : w.heap.size ≤ w'.heap.size)
    (h5 : ∀ k, k < w0.heap.size → ¬ X k → w'.heap[k]? = w.heap[k]?) : Keep X w0 w' :=
  ⟨h1.trans h.os, h2.trans h.tape, h3.trans h.output, Nat.le_trans h.size h4, fun k hk hx => (h5 k hk hx).trans (h.block k hk hx)⟩

/-! The slots -/
theorem ty_put (a : Act) (d t : Nat) (x : Value) (hd : d < a.tmps.size) : ty (a.put (some d) x) t = if t = d then x else ty a t := by
  simp only [ty, Act.put]
  by_cases h : t = d
  · subst h; simp [Array.getD_eq_getD_getElem?, hd]
  · rw [if_neg h]; simp [Array.getD_eq_getD_getElem?, Array.getElem?_setIfInBounds_ne (Ne.symm h)]
theorem size_put (a : Act) (d : Option Nat) (x : Value) : (a.put d x).tmps.size = a.tmps.size := by cases d <;> simp [Act.put]
theorem defers_put (a : Act) (d : Option Nat) (x : Value) : (a.put d x).defers = a.defers := by cases d <;> rfl

variable {G : Ctx} {ρ : Rho} {s : S} {a : Act} {w : World}

/-- A world in which nothing that was there has changed. -/
structure Ext (w w' : World) : Prop where
  os : w'.os = w.os
  tape : w'.tape = w.tape
  output : w'.output = w.output
  size : w.heap.size ≤ w'.heap.size
  block : ∀ k, k < w.heap.size → w'.heap[k]? = w.heap[k]?
theorem Ext.drew (w : World) : Ext w w.drew := ⟨rfl, rfl, rfl, Nat.le_refl _, fun _ _ => rfl⟩
theorem Ext.drawn (w : World) (n : Nat) : Ext w { w with drawn := n } := ⟨rfl, rfl, rfl, Nat.le_refl _, fun _ _ => rfl⟩
theorem Ext.refl (w : World) : Ext w w := ⟨rfl, rfl, rfl, Nat.le_refl _, fun _ _ => rfl⟩
theorem Ext.alloc (w : World) (o : Obj) : Ext w (w.alloc o) := ⟨rfl, rfl, rfl, by simp, fun k hk => by show (w.heap.push o)[k]? = _; rw [Array.getElem?_push, if_neg (by omega)]⟩
theorem Ext.trans {w w' w'' : World} (h : Ext w w') (k : Ext w' w'') : Ext w w'' :=
  ⟨k.os.trans h.os, k.tape.trans h.tape, k.output.trans h.output, Nat.le_trans h.size k.size, fun i hi => (k.block i (Nat.lt_of_lt_of_le hi h.size)).trans (h.block i hi)⟩

theorem Sim.ext (h : Sim G ρ s a w) {w' : World} (e : Ext w w') : Sim G ρ s a w' where
  heap := h.heap.to fun _ _ hb hs => e.block _ (h.heap.lt hb hs)
  grew := h.grew
  keep := h.keep.to e.os e.tape e.output e.size fun k hk _ => e.block k (Nat.lt_of_lt_of_le hk h.keep.size)
  defers := h.defers
  size := h.size
  slot t := (h.slot t).grow (Nat.le_refl _) (fun _ _ => rfl) fun _ _ _ _ hp => hp.to (e.block _ hp.lt)
  apart := h.apart
  adr := h.adr

/-- A plain value goes into a slot. -/
theorem Sim.put (h : Sim G ρ s a w) {d : Nat} (hd : d < G.nt) {v : AV} {x : Value} (hv : SlotRel G.w0 ρ s.H w v x) (hp : isPriv v = false) :
    Sim G ρ (s.put d v) (a.put (some d) x) w where
  heap := h.heap
  grew := h.grew
  keep := h.keep
  defers := by rw [defers_put]; exact h.defers
  size := by rw [size_put]; exact h.size
  slot t := by
    rw [ty_put _ _ _ _ (by rw [h.size]; exact hd)]
    simp only [S.put, upd_apply]
    split
    · exact hv
    · exact h.slot t
  apart t t' hne h1 h2 h3 := by
    rw [ty_put _ _ _ _ (by rw [h.size]; exact hd), ty_put _ _ _ _ (by rw [h.size]; exact hd)]
    simp only [S.put, upd_apply] at h1 h2 h3
    split at h1
    · rw [hp] at h1; exact absurd h1 (by decide)
    split at h2
    · rw [hp] at h2; exact absurd h2 (by decide)
    rename_i n1 n2
    rw [if_neg n1, if_neg n2] at h3
    rw [if_neg n1, if_neg n2]; exact h.apart t t' hne h1 h2 h3
  adr t u o hh := by
    simp only [S.put, upd_apply] at hh
    split at hh
    · exact absurd hh (by simp)
    rename_i n1
    obtain ⟨h1, k, h2, h3⟩ := h.adr t u o hh
    refine ⟨h1, k, ?_, ?_⟩
    · rw [ty_put _ _ _ _ (by rw [h.size]; exact hd), if_neg n1]; exact h2
    · intro cs hcs
      simp only [S.put, upd_apply] at hcs
      split at hcs
      · rw [hcs] at hp; exact absurd hp (by simp [isPriv])
      · rename_i n2
        rw [ty_put _ _ _ _ (by rw [h.size]; exact hd), if_neg n2]; exact h3 cs hcs

/-- What a slot's number reads. -/
theorem Sim.val (h : Sim G ρ s a w) {x : AOp} {v : V} (hx : s.val x = some v) {o : Operand} (ho : opdOf o = some x) : VRel s.H.length ρ v (a.eval o) := by
  cases o with
  | tmp t =>
    simp only [opdOf, Option.some.injEq] at ho; subst ho
    simp only [S.val] at hx
    have hs := h.slot t
    cases he : s.env t with
    | val u => rw [he] at hx hs; simp at hx; subst hx; exact hs
    | undef => simp [he] at hx
    | tup _ => simp [he] at hx
    | box _ => simp [he] at hx
    | lit _ _ => simp [he] at hx
    | mw _ => simp [he] at hx
    | mp _ => simp [he] at hx
  | const v' =>
    simp only [opdOf] at ho
    cases v' <;> simp only [toC, Option.map_some, Option.map_none, Option.some.injEq, reduceCtorEq] at ho
    case bool b => subst ho; simp only [S.val, Option.some.injEq] at hx; subst hx; rfl
    case int k n => subst ho; simp only [S.val, Option.some.injEq] at hx; subst hx; rfl
    case slice a0 n m =>
      split at ho
      · rename_i hc
        obtain ⟨rfl, rfl, rfl⟩ := hc
        simp at ho; subst ho; simp only [S.val, Option.some.injEq] at hx; subst hx; rfl
      · simp at ho
    case pointer a0 =>
      split at ho
      · rename_i hc
        subst hc
        simp at ho; subst ho; simp only [S.val, Option.some.injEq] at hx; subst hx; rfl
      · simp at ho
  | func f => simp only [opdOf, Option.some.injEq] at ho; subst ho; simp only [S.val, Option.some.injEq] at hx; subst hx; rfl
  | global g => simp [opdOf] at ho

end Go.AX
