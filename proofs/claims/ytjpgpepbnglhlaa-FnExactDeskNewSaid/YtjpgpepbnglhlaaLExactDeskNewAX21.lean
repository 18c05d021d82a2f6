/- Writes into an element, and lists that are numbered through. No condition. -/
import Derived.Test.YtjpgpepbnglhlaaLExactDeskNewAX20
namespace Go.AX
attribute [go_sem] ne_eq List.set_cons_zero List.set_cons_succ

theorem slab_parts {bs cs : List C} {p n : Nat} (h : slab bs p n = some cs) : ∃ a q, bs = a ++ cs ++ q ∧ a.length = p ∧ cs.length = n := by
  unfold slab at h
  split at h
  · rename_i hle
    simp only [Option.some.injEq] at h
    refine ⟨bs.take p, bs.drop (p + n), ?_, by simp; omega, by rw [← h]; simp; omega⟩
    rw [← h, List.append_assoc, ← List.drop_drop, List.take_append_drop, List.take_append_drop]
  · simp at h
theorem slab_sub {bs cs : List C} {p n : Nat} (h : slab bs p n = some cs) (j l : Nat) (hj : j + l ≤ n) : slab bs (p + j) l = slab cs j l := by
  obtain ⟨a, q, rfl, rfl, rfl⟩ := slab_parts h
  unfold slab
  rw [if_pos (by simp; omega), if_pos hj, List.append_assoc, List.drop_length_add_append, List.drop_append_of_le_length (by omega), List.take_append_of_le_length (by simp; omega)]
theorem slab_sub0 {bs cs : List C} {p n : Nat} (h : slab bs p n = some cs) (l : Nat) (hj : l ≤ n) : slab bs p l = slab cs 0 l := slab_sub h 0 l (by omega)
theorem splice_in {bs cs : List C} {p n : Nat} (h : slab bs p n = some cs) (j : Nat) (v : List C) (hj : j + v.length ≤ n) : splice bs (p + j) v = splice bs p (splice cs j v) := by
  obtain ⟨a, q, rfl, rfl, rfl⟩ := slab_parts h
  have hl : (splice cs j v).length = cs.length := by simp [splice]; omega
  rw [splice_mid hl]
  simp only [splice, List.append_assoc]
  rw [List.take_length_add_append, List.take_append_of_le_length (by omega)]
  rw [Nat.add_assoc, List.drop_length_add_append, List.drop_append_of_le_length (by omega)]
  simp
theorem splice_twice {bs cs c1 c2 : List C} {p n : Nat} (h : slab bs p n = some cs) (h1 : c1.length = n) (h2 : c2.length = n) : splice (splice bs p c1) p c2 = splice bs p c2 := by
  obtain ⟨a, q, rfl, rfl, rfl⟩ := slab_parts h
  rw [splice_mid h1, splice_mid h2, splice_mid (by omega)]
theorem slab_splice {bs cs c1 : List C} {p n : Nat} (h : slab bs p n = some cs) (h1 : c1.length = n) : slab (splice bs p c1) p n = some c1 := by
  obtain ⟨a, q, rfl, rfl, rfl⟩ := slab_parts h
  rw [splice_mid h1]; exact slab_mid' rfl h1

/-- A write of cells into an element. -/
theorem store_in {H : Heap} {b n m p : Nat} {bs cs : List C} (hb : H[b]? = some ⟨.rw, n, bs⟩) (h : slab bs p m = some cs) (j : Nat) (v : List C) (hj : j + v.length ≤ m) :
    ∃ H' bs', H.wr b (splice bs (p + j) v) = H' ∧ H'[b]? = some ⟨.rw, n, bs'⟩ ∧ slab bs' p m = some (splice cs j v) ∧ H.own b = some (n, bs) ∧ p + j + v.length ≤ bs.length ∧ (∀ k, k ≠ b → H'[k]? = H[k]?) ∧ H'.length = H.length ∧ bs' = splice bs p (splice cs j v) ∧
      ∀ c1 : List C, c1.length = m → splice bs' p c1 = splice bs p c1 := by
  have hl : (splice cs j v).length = m := by
    obtain ⟨a, q, rfl, rfl, rfl⟩ := slab_parts h
    simp [splice]; omega
  refine ⟨_, splice bs p (splice cs j v), rfl, by rw [splice_in h j v hj]; exact Heap.wr_at hb, slab_splice h hl, Heap.own_of hb, ?_, fun k hk => Heap.wr_ne hk, Heap.wr_len, rfl, fun c1 h1 => splice_twice h hl h1⟩
  obtain ⟨a, q, rfl, rfl, rfl⟩ := slab_parts h
  simp; omega

/-! Lists numbered through. -/
def sumL {α : Type} (cnt : α → Nat) (xs : List α) : Nat := (xs.map cnt).sum
def mkL {α : Type} (m : α → Int → α) (cnt : α → Nat) : List α → Int → List α
  | [], _ => []
  | x :: r, k => m x k :: mkL m cnt r (k + cnt x)
section mk
variable {α : Type} {m : α → Int → α} {cnt : α → Nat} {xs : List α} {k : Int}
theorem mkL_len : (mkL m cnt xs k).length = xs.length := by
  induction xs generalizing k with
  | nil => rfl
  | cons x r ih => simp [mkL, ih]
theorem mkL_app {ys : List α} : mkL m cnt (xs ++ ys) k = mkL m cnt xs k ++ mkL m cnt ys (k + sumL cnt xs) := by
  induction xs generalizing k with
  | nil => simp [mkL, sumL]
  | cons x r ih => simp [mkL, ih, sumL, Int.add_assoc]
theorem sumL_app {ys : List α} : sumL cnt (xs ++ ys) = sumL cnt xs + sumL cnt ys := by simp [sumL]
theorem sumL_take {i : Nat} {x : α} (h : xs[i]? = some x) : sumL cnt (xs.take (i + 1)) = sumL cnt (xs.take i) + cnt x := by rw [take_snoc h, sumL_app]; simp [sumL]
theorem sumL_le (i : Nat) : sumL cnt (xs.take i) ≤ sumL cnt xs := by
  have := sumL_app (cnt := cnt) (xs := xs.take i) (ys := xs.drop i)
  rw [List.take_append_drop] at this; omega
/-- The first i of them are numbered. -/
def mkTo (m : α → Int → α) (cnt : α → Nat) (xs : List α) (k : Int) (i : Nat) : List α := mkL m cnt (xs.take i) k ++ xs.drop i
theorem mkTo_zero : mkTo m cnt xs k 0 = xs := by simp [mkTo, mkL]
theorem mkTo_all {i : Nat} (h : xs.length ≤ i) : mkTo m cnt xs k i = mkL m cnt xs k := by simp [mkTo, List.take_of_length_le h, List.drop_of_length_le h]
theorem mkTo_len {i : Nat} : (mkTo m cnt xs k i).length = xs.length := by simp [mkTo, mkL_len]; omega
theorem mkTo_get {i : Nat} {x : α} (h : xs[i]? = some x) : (mkTo m cnt xs k i)[i]? = some x := by
  have hi := (List.getElem?_eq_some_iff.1 h).1
  rw [mkTo, List.getElem?_append_right (by simp [mkL_len]; omega)]
  simp [mkL_len, Nat.min_eq_left (Nat.le_of_lt hi), h]
theorem mkTo_set {i : Nat} {x : α} (h : xs[i]? = some x) : (mkTo m cnt xs k i).set i (m x (k + sumL cnt (xs.take i))) = mkTo m cnt xs k (i + 1) := by
  have hi := (List.getElem?_eq_some_iff.1 h).1
  have hd : xs.drop i = x :: xs.drop (i + 1) := by
    rw [List.drop_eq_getElem_cons hi]; congr 1
    have := List.getElem?_eq_getElem hi; rw [h] at this; simpa using this.symm
  unfold mkTo
  rw [take_snoc h, mkL_app, hd, List.set_append_right _ _ (by simp [mkL_len]; omega)]
  simp [mkL_len, Nat.min_eq_left (Nat.le_of_lt hi), mkL]
/-- An element behind the numbering. -/
theorem mkL_get {i : Nat} {x : α} (h : xs[i]? = some x) : (mkL m cnt xs k)[i]? = some (m x (k + sumL cnt (xs.take i))) := by
  induction xs generalizing k i with
  | nil => simp at h
  | cons y r ih =>
    cases i with
    | zero => simp at h; subst h; simp [mkL, sumL]
    | succ i => simp only [mkL, List.getElem?_cons_succ] at h ⊢; rw [ih h]; simp [sumL, Int.add_assoc]
end mk

def one (_ : Int) : Nat := 1
def mkInts (xs : List Int) (k : Int) : List Int := mkL (fun _ k => k) one xs k
def cntRec (r : Rec) : Nat := 2 + sumL one r.many
def mkRec (r : Rec) (k : Int) : Rec := ⟨k, k + 1, mkInts r.many (k + 2)⟩
def cntRecs := sumL cntRec
def mkRecs := mkL mkRec cntRec
def mkLog (l : Log) (k : Int) : Log := ⟨mkRecs l.recs k, l.forced⟩
def cntTrip (t : Trip) : Nat := sumL one t.many + 1
def mkTrip (t : Trip) (k : Int) : Trip := ⟨mkInts t.many k, k + sumL one t.many⟩
def four (_ : Word) : Nat := 4
def mkWord (_ : Word) (k : Int) : Word := ⟨k, k + 1, k + 2, k + 3⟩
def two (_ : Hold) : Nat := 2
def mkHold (_ : Hold) (k : Int) : Hold := ⟨k, k + 1⟩
def cntHouse (h : House) : Nat := 3 + cntRecs h.log.recs + 1
def mkHouse (h : House) (k : Int) : House := ⟨k, decide ((k + 1).tmod 3 = 0), k + 2, ⟨mkRecs h.log.recs (k + 3), k + 3 + cntRecs h.log.recs⟩⟩
def cntDesk (d : Desk) : Nat := cntRecs d.log.recs + sumL four d.told
def mkDesk (d : Desk) (k : Int) : Desk := ⟨d.up, mkLog d.log k, mkL mkWord four d.told (k + cntRecs d.log.recs)⟩
theorem wrap_nat {k : Int} (j : Int) (h0 : 0 ≤ k + j) (h1 : k + j ≤ lenTop) : IntKind.wrap .i64 (k + j) = k + j := wrap_i64 (by omega) (by unfold lenTop at h1; omega)
end Go.AX
namespace Go.AX
/-- One element is changed. -/
theorem elem_step {H H' : Heap} {F A f B : List Nat} {b : Nat} (ho : Owned H F) (hF : F = A ++ f ++ B) (hbA : b ∈ A) (hb : ∃ B, H'[b]? = some B ∧ B.st = .rw) (hf : ∀ k ∈ f, ∃ B, H'[k]? = some B ∧ B.st = .rw)
    (oth : ∀ k, k < H.length → k ≠ b → k ∉ f → H'[k]? = H[k]?) (len : H.length ≤ H'.length) : Step F H H' F ∧ ∀ k ∈ A ++ B, k ≠ b → H'[k]? = H[k]? := by
  subst hF
  have hn := ho.1
  have h2 : ∀ k ∈ A ++ B, k ≠ b → H'[k]? = H[k]? := fun k hk hkb => by
    obtain ⟨B', hB, _⟩ := ho.2 k (by simp only [List.mem_append] at hk ⊢; exact hk.elim (fun h => .inl (.inl h)) .inr)
    refine oth k (List.getElem?_eq_some_iff.1 hB).1 hkb fun hc => ?_
    rw [List.nodup_append, List.nodup_append] at hn
    simp only [List.mem_append] at hk
    rcases hk with hk | hk
    · exact hn.1.2.2 k hk k hc rfl
    · exact hn.2.2 k (by simp [hc]) k hk rfl
  refine ⟨⟨fun k hk hkn => oth k hk (fun e => hkn (by simp [e, hbA])) fun hc => hkn (by simp [hc]), len, hn, fun k hk => ?_, fun k hk => .inl hk⟩, h2⟩
  by_cases hkb : k = b
  · subst hkb; exact hb
  · by_cases hkf : k ∈ f
    · exact hf k hkf
    · rw [h2 k (by simp only [List.mem_append] at hk ⊢; exact hk.elim (fun h => h.elim .inl fun h => absurd h hkf) .inr) hkb]
      exact ho.2 k hk
theorem focus_ne {F A f B : List Nat} {b : Nat} (hn : F.Nodup) (hF : F = A ++ f ++ B) (hbA : b ∈ A) : ∀ k ∈ f, k ≠ b := by
  subst hF
  rw [List.nodup_append, List.nodup_append] at hn
  rintro k hk rfl
  exact hn.1.2.2 k hbA k hk rfl
theorem Owned.mid {H : Heap} {F A f B : List Nat} (ho : Owned H F) (hF : F = A ++ f ++ B) : Owned H f := by
  subst hF; exact ho.left.right
theorem Owned.frame {H H' : Heap} {F : List Nat} (ho : Owned H F) (h : ∀ k ∈ F, H'[k]? = H[k]?) : Owned H' F := ⟨ho.1, fun k hk => by rw [h k hk]; exact ho.2 k hk⟩
theorem Owned.st {H : Heap} {F : List Nat} (ho : Owned H F) {b n : Nat} {st : St} {cs : List C} (hb : b ∈ F) (h : H[b]? = some ⟨st, n, cs⟩) : st = .rw := by
  obtain ⟨B, hB, hs⟩ := ho.2 b hb
  rw [h] at hB; cases hB; exact hs
theorem get_len {H : Heap} {b : Nat} {B : Blk} (h : H[b]? = some B) : b < H.length := (List.getElem?_eq_some_iff.1 h).1
end Go.AX
