/- The abstract machine AX: how its code is run by simp. No condition. -/
import Derived.Test.YtfjgckhndimhdaaGreatAX15
import Derived.Attr
namespace Go.AX

/-- What is still to be run. -/
inductive Fr where
  | ops (Z : Zs) (os : List AO)
  | code (c : ACode)
  | blk (id : Nat)

variable {P : Program}

def RU (P : Program) : List Fr → AExit → S → (AExit → S → Prop) → Prop
  | [], x, s, Q => Q x s
  | fr :: k, .normal, s, Q => match fr with
    | .ops Z os => ∃ s', Ops P Z os s s' ∧ RU P k .normal s' Q
    | .code c => ∃ x s', Big P c s x s' ∧ RU P k x s' Q
    | .blk _ => RU P k .normal s Q
  | fr :: k, .exit i, s, Q => match fr with
    | .blk id => RU P k (if i = id then .normal else .exit i) s Q
    | _ => RU P k (.exit i) s Q
  | _ :: k, .ret, s, Q => RU P k .ret s Q

/-- A run to a condition that is known or not. -/
def RUo (P : Program) (o : Option V) (a b : ACode) (k : List Fr) (s : S) (Q : AExit → S → Prop) : Prop :=
  ∃ t, o = some (.c (.bool t)) ∧ RU P (.code (if t then a else b) :: k) .normal s Q
/-- Behind a step that changed memory. -/
def RUh (P : Program) (hw : Bool) (s' : S) (Z : Zs) (os : List AO) (k : List Fr) (Q : AExit → S → Prop) : Prop := (hw = true → Holds Z s'.H) ∧ RU P (.ops Z os :: k) .normal s' Q
def RUs (P : Program) (hw : Bool) (o : Option S) (Z : Zs) (os : List AO) (k : List Fr) (Q : AExit → S → Prop) : Prop := ∃ s', o = some s' ∧ RUh P hw s' Z os k Q
def RUc (P : Program) (o : Option (List V)) (f : FuncId) (d : Nat) (s : S) (Z : Zs) (os : List AO) (k : List Fr) (Q : AExit → S → Prop) : Prop :=
  ∃ vs, o = some vs ∧ ∃ r H', ACalls P f vs s.H r H' ∧ RUh P true { s.put d r with H := H' } Z os k Q
def RUd (P : Program) (v : AV) (o : Option (List V)) (d : Nat) (s : S) (Z : Zs) (os : List AO) (k : List Fr) (Q : AExit → S → Prop) : Prop :=
  ∃ f, v = .val (.c (.fn f)) ∧ RUc P o f d s Z os k Q
def RUm (P : Program) (hw : Bool) (o : Option S) (ai : AI) (Z : Zs) (os : List AO) (k : List Fr) (Q : AExit → S → Prop) : Prop := ∃ s1, o = some s1 ∧ ∃ s', Main P Z ai s1 s' ∧ RUh P hw s' Z os k Q
def RUg (P : Program) (v : AV) (w : Bool) (d : Option Nat) (ps : List Nat) (ai : AI) (s : S) (Z : Zs) (os : List AO) (k : List Fr) (Q : AExit → S → Prop) : Prop :=
  (∃ b, v = .val (.c (.bool b)) ∧ if b = w then RUm P (!ps.isEmpty || ai.hw) (proms s ps) ai Z os k Q else RUh P (!ps.isEmpty || ai.hw) (s.skip d) Z os k Q) ∨ (v = .tup [] ∧ RUh P (!ps.isEmpty || ai.hw) (s.skip d) Z os k Q)

section
variable {k : List Fr} {s : S} {Q : AExit → S → Prop} {Z : Zs}
theorem RU_nil {x : AExit} : RU P [] x s Q = Q x s := by cases x <;> rfl
@[go_sem] theorem RU_ret : RU P k .ret s Q = Q .ret s := by
  induction k with
  | nil => rfl
  | cons _ _ ih => exact ih
@[go_sem] theorem RU_nil_n : RU P [] .normal s Q = Q .normal s := rfl
@[go_sem] theorem RU_nil_x {i : Nat} : RU P [] (.exit i) s Q = Q (.exit i) s := rfl
@[go_sem] theorem RU_blk {id : Nat} : RU P (.blk id :: k) .normal s Q = RU P k .normal s Q := rfl
@[go_sem] theorem RU_exit_blk {i id : Nat} : RU P (.blk id :: k) (.exit i) s Q = RU P k (if i = id then .normal else .exit i) s Q := rfl
@[go_sem] theorem RU_exit_ops {i : Nat} {os : List AO} : RU P (.ops Z os :: k) (.exit i) s Q = RU P k (.exit i) s Q := rfl
@[go_sem] theorem RU_exit_code {i : Nat} {c : ACode} : RU P (.code c :: k) (.exit i) s Q = RU P k (.exit i) s Q := rfl
@[go_sem] theorem RU_code_skip : RU P (.code .skip :: k) .normal s Q = RU P k .normal s Q := propext ⟨fun ⟨_, _, h, g⟩ => by cases h; exact g, fun g => ⟨_, _, .skip s, g⟩⟩
@[go_sem] theorem RU_code_ret : RU P (.code .ret :: k) .normal s Q = Q .ret s := propext ⟨fun ⟨_, _, h, g⟩ => by cases h; rwa [RU_ret] at g, fun g => ⟨_, _, .ret s, by rwa [RU_ret]⟩⟩
@[go_sem] theorem RU_code_exit {id : Nat} : RU P (.code (.exit id) :: k) .normal s Q = RU P k (.exit id) s Q := propext ⟨fun ⟨_, _, h, g⟩ => by cases h; exact g, fun g => ⟨_, _, .exit id s, g⟩⟩
@[go_sem] theorem RU_code_region {os : List AO} : RU P (.code (.region os) :: k) .normal s Q = RU P (.ops noZ os :: k) .normal s.reset Q :=
  propext ⟨fun ⟨_, _, h, g⟩ => by cases h with | region h => exact ⟨_, h, g⟩, fun ⟨_, h, g⟩ => ⟨_, _, .region h, g⟩⟩
/-- A region whose loads are out of what stays. -/
theorem RU_code_regionZ (Z : Zs) {os : List AO} (hz : Holds Z s.H) (h : RU P (.ops Z os :: k) .normal s.reset Q) : RU P (.code (.regionZ os) :: k) .normal s Q := by
  obtain ⟨s', h, g⟩ := h
  exact ⟨_, _, .regionZ Z hz h, g⟩
@[go_sem] theorem RUh_no {hw : Bool} {os : List AO} : RUh P hw s noZ os k Q = RU P (.ops noZ os :: k) .normal s Q := propext ⟨fun h => h.2, fun h => ⟨fun _ => Holds.no _, h⟩⟩
@[go_sem] theorem RUh_false {os : List AO} : RUh P false s Z os k Q = RU P (.ops Z os :: k) .normal s Q := propext ⟨fun h => h.2, fun h => ⟨fun h => absurd h (by decide), h⟩⟩
theorem RUh_true {os : List AO} (hz : Holds Z s.H) (h : RU P (.ops Z os :: k) .normal s Q) : RUh P true s Z os k Q := ⟨fun _ => hz, h⟩
@[go_sem] theorem RU_code_seq {a b : ACode} : RU P (.code (.seq a b) :: k) .normal s Q = RU P (.code a :: .code b :: k) .normal s Q := propext ⟨fun ⟨x, s2, h, g⟩ => by
    cases h with
    | seq h1 h2 => exact ⟨_, _, h1, _, _, h2, g⟩
    | seqx h1 hx =>
      refine ⟨_, _, h1, ?_⟩
      cases x with
      | normal => exact absurd rfl hx
      | exit i => exact g
      | ret => exact g, fun ⟨x, s1, h1, g⟩ => by
    cases x with
    | normal => obtain ⟨_, _, h2, g⟩ := g; exact ⟨_, _, .seq h1 h2, g⟩
    | exit i => exact ⟨_, _, .seqx h1 (by simp), g⟩
    | ret => exact ⟨_, _, .seqx h1 (by simp), g⟩⟩
@[go_sem] theorem RU_code_block {id : Nat} {a : ACode} : RU P (.code (.block id a) :: k) .normal s Q = RU P (.code a :: .blk id :: k) .normal s Q := propext ⟨fun ⟨x, s2, h, g⟩ => by
    cases h with
    | block h1 =>
      rename_i y
      refine ⟨_, _, h1, ?_⟩
      cases y with
      | normal => rw [RU_blk]; simpa using g
      | exit i =>
        rw [RU_exit_blk]
        by_cases c : i = id
        · subst c; simpa using g
        · rw [if_neg c]; rwa [if_neg (by simpa using c)] at g
      | ret => rw [RU_ret]; rw [if_neg (by simp), RU_ret] at g; exact g, fun ⟨x, s1, h1, g⟩ => by
    refine ⟨_, _, .block h1, ?_⟩
    cases x with
    | normal => rw [RU_blk] at g; simpa using g
    | exit i =>
      rw [RU_exit_blk] at g
      by_cases c : i = id
      · subst c; simpa using g
      · rw [if_neg c] at g; rwa [if_neg (by simpa using c)]
    | ret => rw [RU_ret] at g; rw [if_neg (by simp), RU_ret]; exact g⟩
@[go_sem] theorem RU_code_cond {c : AOp} {a b : ACode} : RU P (.code (.cond c a b) :: k) .normal s Q = RUo P (s.val c) a b k s Q := propext ⟨fun ⟨x, s2, h, g⟩ => by
    cases h with
    | cond hv h1 => exact ⟨_, hv, _, _, h1, g⟩, fun ⟨_, hv, _, _, h1, g⟩ => ⟨_, _, .cond hv h1, g⟩⟩
@[go_sem] theorem RUo_true {a b : ACode} : RUo P (some (.c (.bool true))) a b k s Q = RU P (.code a :: k) .normal s Q := propext ⟨fun ⟨t, h, g⟩ => by simp at h; subst h; exact g, fun g => ⟨true, rfl, g⟩⟩
@[go_sem] theorem RUo_false {a b : ACode} : RUo P (some (.c (.bool false))) a b k s Q = RU P (.code b :: k) .normal s Q := propext ⟨fun ⟨t, h, g⟩ => by simp at h; subst h; exact g, fun g => ⟨false, rfl, g⟩⟩
theorem RUo_split {t : Bool} {a b : ACode} (h1 : t = true → RU P (.code a :: k) .normal s Q) (h2 : t = false → RU P (.code b :: k) .normal s Q) : RUo P (some (.c (.bool t))) a b k s Q := by
  cases t
  · rw [RUo_false]; exact h2 rfl
  · rw [RUo_true]; exact h1 rfl
@[go_sem] theorem RU_ops_nil : RU P (.ops Z [] :: k) .normal s Q = RU P k .normal s Q := propext ⟨fun ⟨_, h, g⟩ => by cases h; exact g, fun g => ⟨_, .nil s, g⟩⟩
theorem RU_ops_cons {o : AO} {os : List AO} : RU P (.ops Z (o :: os) :: k) .normal s Q ↔ ∃ s1, Step0 P Z o s s1 ∧ RUh P o.hw s1 Z os k Q :=
  ⟨fun ⟨_, h, g⟩ => by cases h with | cons h1 h2 => exact ⟨_, h1.1, h1.2, _, h2, g⟩, fun ⟨_, h1, hz, _, h2, g⟩ => ⟨_, .cons ⟨h1, hz⟩ h2, g⟩⟩
@[go_sem] theorem RU_ops_g {g : Nat} {w : Bool} {d : Option Nat} {ps : List Nat} {ai : AI} {os : List AO} : RU P (.ops Z (⟨some (g, w), d, ps, ai⟩ :: os) :: k) .normal s Q = RUg P (s.env g) w d ps ai s Z os k Q := by
  refine propext (RU_ops_cons.trans ⟨fun ⟨s1, h, q⟩ => ?_, fun h => ?_⟩)
  · rcases h with ⟨b, hb, h⟩ | ⟨hb, h⟩
    · refine .inl ⟨b, hb, ?_⟩
      split at h
      · rename_i hc; rw [if_pos hc]; obtain ⟨s2, h1, h2⟩ := h; exact ⟨s2, h1, s1, h2, q⟩
      · rename_i hc; rw [if_neg hc]; subst h; exact q
    · subst h; exact .inr ⟨hb, q⟩
  · rcases h with ⟨b, hb, h⟩ | ⟨hb, h⟩
    · split at h
      · rename_i hc; obtain ⟨s2, h1, s1, h2, q⟩ := h; exact ⟨s1, .inl ⟨b, hb, by rw [if_pos hc]; exact ⟨s2, h1, h2⟩⟩, q⟩
      · rename_i hc; exact ⟨_, .inl ⟨b, hb, by rw [if_neg hc]⟩, h⟩
    · exact ⟨_, .inr ⟨hb, rfl⟩, h⟩
@[go_sem] theorem RUg_sk {w : Bool} {d : Option Nat} {ps : List Nat} {ai : AI} {os : List AO} : RUg P (.tup []) w d ps ai s Z os k Q = RUh P (!ps.isEmpty || ai.hw) (s.skip d) Z os k Q := by simp [RUg]
@[go_sem] theorem RUg_tt {d : Option Nat} {ps : List Nat} {ai : AI} {os : List AO} : RUg P (.val (.c (.bool true))) true d ps ai s Z os k Q = RUm P (!ps.isEmpty || ai.hw) (proms s ps) ai Z os k Q := by simp [RUg]
@[go_sem] theorem RUg_ff {d : Option Nat} {ps : List Nat} {ai : AI} {os : List AO} : RUg P (.val (.c (.bool false))) false d ps ai s Z os k Q = RUm P (!ps.isEmpty || ai.hw) (proms s ps) ai Z os k Q := by simp [RUg]
@[go_sem] theorem RUg_tf {d : Option Nat} {ps : List Nat} {ai : AI} {os : List AO} : RUg P (.val (.c (.bool true))) false d ps ai s Z os k Q = RUh P (!ps.isEmpty || ai.hw) (s.skip d) Z os k Q := by simp [RUg]
@[go_sem] theorem RUg_ft {d : Option Nat} {ps : List Nat} {ai : AI} {os : List AO} : RUg P (.val (.c (.bool false))) true d ps ai s Z os k Q = RUh P (!ps.isEmpty || ai.hw) (s.skip d) Z os k Q := by simp [RUg]
@[go_sem] theorem RU_ops_m {d : Option Nat} {ps : List Nat} {ai : AI} {os : List AO} : RU P (.ops Z (⟨none, d, ps, ai⟩ :: os) :: k) .normal s Q = RUm P (!ps.isEmpty || ai.hw) (proms s ps) ai Z os k Q :=
  propext (RU_ops_cons.trans ⟨fun ⟨s1, ⟨s2, h1, h2⟩, q⟩ => ⟨s2, h1, s1, h2, q⟩, fun ⟨s2, h1, s1, h2, q⟩ => ⟨s1, ⟨s2, h1, h2⟩, q⟩⟩)
@[go_sem] theorem RUm_call {d : Nat} {f : FuncId} {xs : List AOp} {os : List AO} : RUm P true (some s) (.call d f xs) Z os k Q = RUc P (s.vals xs) f d s Z os k Q := by
  refine propext ⟨fun ⟨s1, h, s', ⟨vs, r, H', hv, hc, e⟩, q⟩ => ?_, fun ⟨vs, hv, r, H', hc, q⟩ => ⟨s, rfl, _, ⟨vs, r, H', hv, hc, rfl⟩, q⟩⟩
  injection h with h; subst h; subst e; exact ⟨vs, hv, r, H', hc, q⟩
@[go_sem] theorem RUm_cald {d t : Nat} {xs : List AOp} {os : List AO} : RUm P true (some s) (.cald d t xs) Z os k Q = RUd P (s.env t) (s.vals xs) d s Z os k Q := by
  refine propext ⟨fun ⟨s1, h, s', ⟨f, vs, r, H', ht, hv, hc, e⟩, q⟩ => ?_, fun ⟨f, ht, vs, hv, r, H', hc, q⟩ => ⟨s, rfl, _, ⟨f, vs, r, H', ht, hv, hc, rfl⟩, q⟩⟩
  injection h with h; subst h; subst e; exact ⟨f, ht, vs, hv, r, H', hc, q⟩
@[go_sem] theorem RUd_fn {f : FuncId} {o : Option (List V)} {d : Nat} {os : List AO} : RUd P (.val (.c (.fn f))) o d s Z os k Q = RUc P o f d s Z os k Q := by simp [RUd]
def AI.isCall : AI → Bool
  | .call .. => true
  | .cald .. => true
  | .ldz .. => true
  | .slz .. => true
  | _ => false
theorem RUm_step {hw : Bool} {ai : AI} {os : List AO} (h : ai.isCall = false) : RUm P hw (some s) ai Z os k Q = RUs P hw (stepf ai s) Z os k Q := by
  have hm : ∀ s', Main P Z ai s s' ↔ stepf ai s = some s' := fun s' => by cases ai <;> first | rfl | simp [AI.isCall] at h
  refine propext ⟨fun ⟨s1, h1, s', h2, q⟩ => ?_, fun ⟨s', h2, q⟩ => ⟨s, rfl, s', (hm s').2 h2, q⟩⟩
  injection h1 with h1; subst h1; exact ⟨s', (hm s').1 h2, q⟩
@[go_sem] theorem RUm_ldz {hw : Bool} {d t n : Nat} {g : Bool} {os : List AO} : RUm P hw (some s) (.ldz d t n g) Z os k Q = RUs P hw (loadZ Z d t n g s) Z os k Q :=
  propext ⟨fun ⟨s1, h1, s', h2, q⟩ => by injection h1 with h1; subst h1; exact ⟨s', h2, q⟩, fun ⟨s', h2, q⟩ => ⟨s, rfl, s', h2, q⟩⟩
@[go_sem] theorem RUm_slz {hw : Bool} {d : Nat} {x : AOp} {lo hi : Option AOp} {n : Nat} {os : List AO} : RUm P hw (some s) (.slz d x lo hi n) Z os k Q = RUs P hw (sliceZ Z d x lo hi n s) Z os k Q :=
  propext ⟨fun ⟨s1, h1, s', h2, q⟩ => by injection h1 with h1; subst h1; exact ⟨s', h2, q⟩, fun ⟨s', h2, q⟩ => ⟨s, rfl, s', h2, q⟩⟩
@[go_sem] theorem RUs_some {hw : Bool} {s : S} {os : List AO} : RUs P hw (some s) Z os k Q = RUh P hw s Z os k Q := propext ⟨fun ⟨_, h, g⟩ => by injection h with h; subst h; exact g, fun g => ⟨s, rfl, g⟩⟩

/-- At a call: its contract. -/
theorem RUc_intro {vs : List V} {f : FuncId} {d : Nat} {os : List AO} {r : AV} {H' : Heap} (hc : ACalls P f vs s.H r H') (h : RUh P true { s.put d r with H := H' } Z os k Q) : RUc P (some vs) f d s Z os k Q :=
  ⟨vs, rfl, r, H', hc, h⟩

/-- A loop: what holds at each round's head, with a number that every round lowers. -/
theorem RU_loop {a : ACode} (I : Nat → S → Prop) (n : Nat) (h0 : I n s)
    (round : ∀ m s, I m s → ∀ Q' : AExit → S → Prop, (∀ m' s', m' < m → I m' s' → Q' .normal s') → (∀ i s', RU P k (.exit i) s' Q → Q' (.exit i) s') → (∀ s', Q .ret s' → Q' .ret s') → RU P [.code a] .normal s Q') :
    RU P (.code (.loop a) :: k) .normal s Q := by
  have key : ∀ n s, I n s → ∃ x s', Big P (.loop a) s x s' ∧ RU P k x s' Q := by
    intro n
    induction n using Nat.strongRecOn with
    | _ n ih =>
      intro s hI
      have hr := round n s hI (fun x s' => (x = .normal ∧ ∃ m', m' < n ∧ I m' s') ∨ (x ≠ .normal ∧ RU P k x s' Q)) (fun m' s' hm hI' => .inl ⟨rfl, m', hm, hI'⟩) (fun i s' h => .inr ⟨by simp, h⟩) (fun s' h => .inr ⟨by simp, by rw [RU_ret]; exact h⟩)
      obtain ⟨x, s1, hb, hq⟩ := hr
      rw [RU_nil] at hq
      rcases hq with ⟨rfl, m', hm, hI'⟩ | ⟨hx, hq⟩
      · obtain ⟨x2, s2, hb2, hq2⟩ := ih m' hm s1 hI'
        exact ⟨x2, s2, .loop hb hb2, hq2⟩
      · exact ⟨x, s1, .loopx hb hx, hq⟩
  exact key n s h0

/-! A function's end. -/
def Ends (res : List ARes) (Post : AV → Heap → Prop) (x : AExit) (s : S) : Prop := (x = .normal ∨ x = .ret) ∧ ∃ vs, resVals s res = some vs ∧ Post (tupOf vs) s.H
theorem Ends.ret {res : List ARes} {Post : AV → Heap → Prop} {s : S} {vs : List V} (h : resVals s res = some vs) (hp : Post (tupOf vs) s.H) : Ends res Post .ret s := ⟨.inr rfl, vs, h, hp⟩
theorem Ends.normal {res : List ARes} {Post : AV → Heap → Prop} {s : S} {vs : List V} (h : resVals s res = some vs) (hp : Post (tupOf vs) s.H) : Ends res Post .normal s := ⟨.inl rfl, vs, h, hp⟩

/-- There is a call, and what it comes to is so. -/
def Does (P : Program) (f : FuncId) (args : List V) (H : Heap) (Post : AV → Heap → Prop) : Prop := ∃ r H', ACalls P f args H r H' ∧ Post r H'
theorem does_of {f : FuncId} {af : AFunc} {args : List V} {H : Heap} {Post : AV → Heap → Prop} (hm : P.follows .mixedOrders = true) (hc : callable P f = true) (ha : readF P f = some af) (hn : args.length = af.np)
    (h : ∀ Q : AExit → S → Prop, (∀ x s', Ends af.res Post x s' → Q x s') → RU P [.code af.body] .normal (init args H) Q) : Does P f args H Post := by
  obtain ⟨x, s', hb, hq⟩ := h (Ends af.res Post) fun _ _ h => h
  rw [RU_nil] at hq
  obtain ⟨hx, vs, hv, hp⟩ := hq
  exact ⟨_, _, acalls_read hm hc ha hn hb hx hv, hp⟩
theorem Does.call {f : FuncId} {args : List V} {s : S} {d : Nat} {os : List AO} {Post : AV → Heap → Prop} (h : Does P f args s.H Post) (hk : ∀ r H', Post r H' → RUh P true { s.put d r with H := H' } Z os k Q) :
    RUc P (some args) f d s Z os k Q := by
  obtain ⟨r, H', hc, hp⟩ := h
  exact RUc_intro hc (hk r H' hp)
theorem Does.mono {f : FuncId} {args : List V} {H : Heap} {Post Post' : AV → Heap → Prop} (h : Does P f args H Post) (hp : ∀ r H', Post r H' → Post' r H') : Does P f args H Post' := by
  obtain ⟨r, H', hc, h⟩ := h; exact ⟨r, H', hc, hp r H' h⟩
end

/-! What simp knows of slots and values. -/
attribute [go_sem] AI.hw List.isEmpty_nil List.isEmpty_cons S.mov S.put S.skip S.reset S.val S.vals S.putV V.cells asV stepf proms prom1 binI sameV fill List.map AI.isCall
@[go_sem] theorem upd_at {α : Type} (f : Nat → α) (d : Nat) (v : α) (j : Nat) : upd f d v j = if j = d then v else f j := rfl
theorem slab0 {cs : List C} {n : Nat} : slab cs 0 n = if n ≤ cs.length then some (cs.take n) else none := by simp [slab]


end Go.AX
