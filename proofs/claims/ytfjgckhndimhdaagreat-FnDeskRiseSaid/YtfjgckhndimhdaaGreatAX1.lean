/- The abstract machine AX: how its states stand to the model's worlds; its calls; how a loaded function is read as its code. No condition: definitions alone. -/
import Derived.Test.YtfjgckhndimhdaaGreatAX0
namespace Go.AX

inductive All2 {α β : Type} (R : α → β → Prop) : List α → List β → Prop
  | nil : All2 R [] []
  | cons {a : α} {b : β} {as : List α} {bs : List β} : R a b → All2 R as bs → All2 R (a :: as) (b :: bs)

/-- Where an abstract block lies: the block, its first cell, how many cells are its own, an element's cells. -/
structure Pl where
  blk : Nat
  off : Nat
  cap : Nat
  sz : Nat
abbrev Rho := Nat → Pl

def CRel (n : Nat) (ρ : Rho) : C → Value → Prop
  | .int k x, v => v = .int k x
  | .bool b, v => v = .bool b
  | .nil, v => v = .slice none 0 0
  | .emp c, v => ∃ a cap, v = .slice (some a) 0 cap ∧ (c = true → cap = 0)
  | .sl b off len, v => b < n ∧ ∃ cap, v = .slice (some ⟨(ρ b).blk, (ρ b).off + off, none⟩) len cap ∧ len ≤ cap ∧ off + cap * (ρ b).sz ≤ (ρ b).cap
  | .ptr b off, v => b < n ∧ v = .pointer (some ⟨(ρ b).blk, (ρ b).off + off, none⟩)
  | .fn f, v => v = .func (.func f) #[] #[]
  | .nptr, v => v = .pointer none
def VRel (n : Nat) (ρ : Rho) : V → Value → Prop
  | .c x, v => CRel n ρ x v
  | .agg cs, v => ∃ arr, v = .agg arr ∧ All2 (CRel n ρ) cs arr.toList
/-- Results of calls. -/
def RRel (n : Nat) (ρ : Rho) : AV → Value → Prop
  | .val v, x => VRel n ρ v x
  | .tup vs, x => ∃ arr, x = .tuple arr ∧ All2 (VRel n ρ) vs arr.toList
  | _, _ => False

structure HSim (ρ : Rho) (H : Heap) (w : World) : Prop where
  blk : ∀ b B, H[b]? = some B → B.st ≠ .dead → ∃ arr t fr, w.heap[(ρ b).blk]? = some (.cells arr t fr) ∧
    (∀ i c, B.cells[i]? = some c → ∃ v, arr[(ρ b).off + i]? = some v ∧ CRel H.length ρ c v) ∧
    (B.st = .rw → fr = (0, 0) ∧ (ρ b).off + (ρ b).cap ≤ arr.size ∧ B.cells.length ≤ (ρ b).cap ∧ (ρ b).sz = B.sz)
  sz : ∀ b B, H[b]? = some B → B.st ≠ .dead → (ρ b).sz = B.sz
  apart : ∀ b b' B B', H[b]? = some B → H[b']? = some B' → B.st = .rw → B'.st ≠ .dead → b ≠ b' → (ρ b).blk ≠ (ρ b').blk

structure Keep (X : Nat → Prop) (w0 w : World) : Prop where
  os : w.os = w0.os
  tape : w.tape = w0.tape
  output : w.output = w0.output
  size : w0.heap.size ≤ w.heap.size
  block : ∀ k, k < w0.heap.size → ¬ X k → w.heap[k]? = w0.heap[k]?

/-- The blocks that a call may write: those of the writable abstract blocks that it was given. -/
def Own (ρ : Rho) (H : Heap) (k : Nat) : Prop := ∃ b B, H[b]? = some B ∧ B.st = .rw ∧ (ρ b).blk = k

/-- What a heap becomes: the old blocks keep their places; what is alive and new is new in memory, or lies where a block of ours lay. -/
structure Grew (ρ0 : Rho) (H0 : Heap) (w0 : World) (ρ : Rho) (H : Heap) : Prop where
  agree : ∀ b, b < H0.length → ρ b = ρ0 b
  len : H0.length ≤ H.length
  fresh : ∀ b B, H[b]? = some B → B.st ≠ .dead → (Own ρ0 H0 (ρ b).blk ∨ w0.heap.size ≤ (ρ b).blk) ∨ (b < H0.length ∧ B.st = .ro ∧ ∃ B0, H0[b]? = some B0 ∧ B0.st = .ro)

def callable (P : Program) (f : FuncId) : Bool := match P.funcs[f]? with
  | some fn => fn.body.isSome && !(fn.name == "runtime.NumGoroutine")
  | none => false

/-- A call of f with these arguments, over this heap, comes back with this result and this heap. -/
def ACalls (P : Program) (f : FuncId) (args : List V) (H : Heap) (r : AV) (H' : Heap) : Prop :=
  callable P f = true ∧ ∀ (ρ : Rho) (w : World) (xs : Array Value), HSim ρ H w → All2 (VRel H.length ρ) args xs.toList →
    Calls P f xs w fun e w' => ∃ ρ' x, e = .returned x ∧ RRel H'.length ρ' r x ∧ HSim ρ' H' w' ∧ Grew ρ H w ρ' H' ∧ Keep (Own ρ H) w w'

/-- What a block of the call's own holds: cells, or a map's entries. -/
inductive Cnt where
  | cells (cs : List C)
  | map (es : List (Int × List C))
instance : Coe (List C) Cnt := ⟨.cells⟩
def ERel (n : Nat) (ρ : Rho) (e : Int × List C) (m : MapEntry) : Prop := m.key = .int .i64 e.1 ∧ ∃ arr, m.val = .agg arr ∧ All2 (CRel n ρ) e.2 arr.toList
def Cont (n : Nat) (ρ : Rho) (o : Option Obj) : Cnt → Prop
  | .cells cs => ∃ arr t, o = some (.cells arr t (0, 0)) ∧ All2 (CRel n ρ) cs arr.toList
  | .map es => ∃ ents clock, o = some (.map ents clock) ∧ All2 (ERel n ρ) es ents.toList
/-- A block of the call's own that no abstract block is. -/
def Priv (w0 : World) (ρ : Rho) (H : Heap) (w : World) (cs : Cnt) (k : Nat) : Prop :=
  w0.heap.size ≤ k ∧ Cont H.length ρ w.heap[k]? cs ∧
  ∀ b B, H[b]? = some B → B.st ≠ .dead → (ρ b).blk ≠ k

def SlotRel (w0 : World) (ρ : Rho) (H : Heap) (w : World) : AV → Value → Prop
  | .undef, _ => True
  | .val v, x => VRel H.length ρ v x
  | .tup vs, x => ∃ arr, x = .tuple arr ∧ All2 (VRel H.length ρ) vs arr.toList
  | .box cs, x => ∃ k, x = .pointer (some ⟨k, 0, none⟩) ∧ Priv w0 ρ H w cs k
  | .lit n cs, x => ∃ k len, x = .slice (some ⟨k, 0, none⟩) len len ∧ len * n = cs.length ∧ n ≠ 0 ∧ Priv w0 ρ H w cs k
  | .mw es, x => ∃ k, x = .map (some k) ∧ Priv w0 ρ H w (.map es) k
  | .mp es, x => ∃ k, x = .map (some k) ∧ Priv w0 ρ H w (.map es) k

def isPriv : AV → Bool
  | .box _ => true
  | .lit _ _ => true
  | .mw _ => true
  | .mp _ => true
  | _ => false
def bothMp : AV → AV → Bool
  | .mp _, .mp _ => true
  | _, _ => false
def blkOf : Value → Option Nat
  | .pointer (some a) => some a.block
  | .slice (some a) _ _ => some a.block
  | .map (some k) => some k
  | _ => none

structure Ctx where
  nt : Nat
  ρ0 : Rho
  H0 : Heap
  w0 : World

def ty (a : Act) (t : Nat) : Value := a.tmps.getD t undef

structure Sim (G : Ctx) (ρ : Rho) (s : S) (a : Act) (w : World) : Prop where
  heap : HSim ρ s.H w
  grew : Grew G.ρ0 G.H0 G.w0 ρ s.H
  keep : Keep (Own G.ρ0 G.H0) G.w0 w
  defers : a.defers = []
  size : a.tmps.size = G.nt
  slot : ∀ t, SlotRel G.w0 ρ s.H w (s.env t) (ty a t)
  apart : ∀ t t', t ≠ t' → isPriv (s.env t) = true → isPriv (s.env t') = true → bothMp (s.env t) (s.env t') = false → blkOf (ty a t) ≠ blkOf (ty a t')
  adr : ∀ t u o, s.adr t = some (u, o) → s.used u = true ∧ ∃ k, ty a t = .pointer (some ⟨k, o, none⟩) ∧ ∀ cs, s.env u = .box cs → ty a u = .pointer (some ⟨k, 0, none⟩)
def ASim (G : Ctx) (s : S) (a : Act) (w : World) : Prop := ∃ ρ, Sim G ρ s a w

/-! The steps and the runs. -/
def AOp.tmps : AOp → List Nat
  | .t i => [i]
  | .k _ => []
def optT : Option AOp → List Nat
  | some x => x.tmps
  | none => []
/-- The slots that an operation's operands are. -/
def AI.reads : AI → List Nat
  | .prom t => [t]
  | .mov _ x | .not _ x | .neg _ x | .conv _ _ x | .ext _ x _ | .len _ x | .nilck _ x | .box _ x _ | .hbox _ x _ | .fld _ x _ _ _ | .mks _ x _ _ => x.tmps
  | .pick _ c x y => c.tmps ++ x.tmps ++ y.tmps
  | .bin _ _ x y | .eqv _ _ _ x y | .mm _ _ x y | .iadr _ x y _ | .aidx _ x y _ _ _ | .app _ x y _ => x.tmps ++ y.tmps
  | .alloc .. | .halloc .. | .mkm _ => []
  | .mpi m _ x => m :: x.tmps
  | .mpg _ m k _ => m :: k.tmps
  | .faddr _ t _ _ => [t]
  | .ld _ t _ _ b _ => [t, b]
  | .ldz _ t _ _ => [t]
  | .st t x _ _ _ => t :: x.tmps
  | .slc _ x lo hi _ | .slz _ x lo hi _ => x.tmps ++ optT lo ++ optT hi
  | .bsl _ _ _ _ ps | .bld _ _ ps => ps.flatMap fun p => p.2.2.tmps
  | .call _ _ xs => xs.flatMap AOp.tmps
  | .cald _ t xs => t :: xs.flatMap AOp.tmps
def AI.dst : AI → Option Nat
  | .prom _ => none
  | .mov d _ | .pick d _ _ _ | .not d _ | .neg d _ | .bin _ d _ _ | .eqv _ _ d _ _ | .conv _ d _ | .ext d _ _ | .len d _ | .mm _ d _ _ | .nilck d _ | .alloc d _ | .box d _ _
  | .halloc d _ | .hbox d _ _ | .faddr d _ _ _ | .fld d _ _ _ _ | .aidx d _ _ _ _ _ | .ld d _ _ _ _ _ | .ldz d _ _ _ | .slz d _ _ _ _ | .iadr d _ _ _ | .slc d _ _ _ _ | .bsl d _ _ _ _ | .mks d _ _ _ | .bld d _ _
  | .app d _ _ _ | .call d _ _ | .cald d _ _ | .mkm d | .mpg d _ _ _ => some d
  | .st .. => none
  | .mpi .. => none

def AI.hr : AI → Bool
  | .halloc .. | .hbox .. | .mks .. | .app .. | .call .. | .cald .. | .slc .. | .prom .. => true
  | .ld _ _ _ _ _ hp => hp
  | .st _ _ _ _ hp => hp
  | _ => false
def AI.hw : AI → Bool
  | .halloc .. | .hbox .. | .mks .. | .app .. | .call .. | .cald .. | .prom .. => true
  | .st _ _ _ _ hp => hp
  | _ => false
def AI.wt (i : AI) : List Nat := match i with
  | .prom t => [t]
  | .st _ _ _ b _ => [b]
  | .mpi m _ _ => [m]
  | i => (match i.dst with | some d => [d] | none => [])
def AI.marks : AI → List Nat
  | .faddr _ _ _ b => [b]
  | _ => []

/-- The slots that are read. -/
def AO.rd (o : AO) : List Nat := (match o.guard with | some (g, _) => [g] | none => []) ++ o.proms ++ o.ai.reads
/-- The slots that are written. -/
def AO.wt (o : AO) : List Nat := (match o.dst with | some d => [d] | none => []) ++ o.proms ++ o.ai.wt
/-- The boxes whose places are taken. -/
def AO.mks (o : AO) : List Nat := o.ai.marks
/-- Does it look at memory? -/
def AO.hr (o : AO) : Bool := !o.proms.isEmpty || o.ai.hr
/-- Does it change memory? -/
def AO.hw (o : AO) : Bool := !o.proms.isEmpty || o.ai.hw
def Main (P : Program) (Z : Zs) (i : AI) (s s' : S) : Prop := match i with
  | .ldz d t n g => loadZ Z d t n g s = some s'
  | .slz d x lo hi n => sliceZ Z d x lo hi n s = some s'
  | .call d f xs => ∃ vs r H', s.vals xs = some vs ∧ ACalls P f vs s.H r H' ∧ s' = { s.put d r with H := H' }
  | .cald d t xs => ∃ f vs r H', s.env t = .val (.c (.fn f)) ∧ s.vals xs = some vs ∧ ACalls P f vs s.H r H' ∧ s' = { s.put d r with H := H' }
  | i => stepf i s = some s'
def Do (P : Program) (Z : Zs) (o : AO) (s s' : S) : Prop := ∃ s1, proms s o.proms = some s1 ∧ Main P Z o.ai s1 s'
def S.skip (s : S) : Option Nat → S
  | some d => s.put d (.tup [])
  | none => s
def Step0 (P : Program) (Z : Zs) (o : AO) (s s' : S) : Prop := match o.guard with
  | none => Do P Z o s s'
  | some (g, want) => (∃ b, s.env g = .val (.c (.bool b)) ∧ if b = want then Do P Z o s s' else s' = s.skip o.dst) ∨ (s.env g = .tup [] ∧ s' = s.skip o.dst)
/-- A step; where it changes memory, what is to stay stays. -/
def Step1 (P : Program) (Z : Zs) (o : AO) (s s' : S) : Prop := Step0 P Z o s s' ∧ (o.hw = true → Holds Z s'.H)
inductive Ops (P : Program) (Z : Zs) : List AO → S → S → Prop
  | nil (s : S) : Ops P Z [] s s
  | cons {o : AO} {os : List AO} {s s1 s2 : S} : Step1 P Z o s s1 → Ops P Z os s1 s2 → Ops P Z (o :: os) s s2
def S.reset (s : S) : S := { s with adr := fun _ => none, used := fun _ => false }
inductive Big (P : Program) : ACode → S → AExit → S → Prop
  | skip (s : S) : Big P .skip s .normal s
  | region {os : List AO} {s s' : S} : Ops P noZ os s.reset s' → Big P (.region os) s .normal s'
  | regionZ {os : List AO} {s s' : S} (Z : Zs) : Holds Z s.H → Ops P Z os s.reset s' → Big P (.regionZ os) s .normal s'
  | seq {a b : ACode} {s s1 s2 : S} {x : AExit} : Big P a s .normal s1 → Big P b s1 x s2 → Big P (.seq a b) s x s2
  | seqx {a b : ACode} {s s1 : S} {x : AExit} : Big P a s x s1 → x ≠ .normal → Big P (.seq a b) s x s1
  | cond {c : AOp} {a b : ACode} {s s' : S} {x : AExit} {t : Bool} : s.val c = some (.c (.bool t)) → Big P (if t then a else b) s x s' → Big P (.cond c a b) s x s'
  | block {id : Nat} {a : ACode} {s s' : S} {x : AExit} : Big P a s x s' → Big P (.block id a) s (if x = .exit id then .normal else x) s'
  | loop {a : ACode} {s s1 s2 : S} {x : AExit} : Big P a s .normal s1 → Big P (.loop a) s1 x s2 → Big P (.loop a) s x s2
  | loopx {a : ACode} {s s1 : S} {x : AExit} : Big P a s x s1 → x ≠ .normal → Big P (.loop a) s x s1
  | exit (id : Nat) (s : S) : Big P (.exit id) s (.exit id) s
  | ret (s : S) : Big P .ret s .ret s

/-! How a loaded function is read. esc: the variables that lie in memory; lits: the slots of slices' literals (both are hints). -/
structure Hint where
  esc : List Nat
  lits : List Nat
  boxes : List Nat

def toC : Value → Option C
  | .int k n => some (.int k n)
  | .bool b => some (.bool b)
  | .slice a n m => if a = none ∧ n = 0 ∧ m = 0 then some .nil else none
  | .pointer a => if a = none then some .nptr else none
  | _ => none
def toCs (l : List Value) : Option (List C) := match l with
  | [] => some []
  | v :: r => match toC v, toCs r with
    | some c, some cs => some (c :: cs)
    | _, _ => none
def opdOf : Operand → Option AOp
  | .tmp t => some (.t t)
  | .const v => (toC v).map .k
  | .func f => some (.k (.fn f))
  | .global _ => none
def opdsOf : List Operand → Option (List AOp)
  | [] => some []
  | x :: r => match opdOf x, opdsOf r with
    | some y, some ys => some (y :: ys)
    | _, _ => none
def tmpOf : Operand → Option Nat
  | .tmp t => some t
  | _ => none
def szOf (P : Program) (t : TypeId) : Option Nat := (P.info? t).map (·.size)
def zeroOf (P : Program) (t : TypeId) : Option (List C) := ((P.info? t).bind (·.zero)).bind fun v => toCs v.cells.toList
def aggB (P : Program) (t : TypeId) : Option Bool := match P.underlying t with
  | some (.struct _) => some true
  | some (.array _ _) => some true
  | some _ => some false
  | none => none
def elemB (P : Program) (t : TypeId) : Option TypeId := match P.underlying t with
  | some (.slice e) => some e
  | _ => none
/-- A struct of whole numbers alone, each field a cell, in order. -/
def plainB (P : Program) (fs : List Field) (i : Nat) : Bool := match fs with
  | [] => true
  | f :: r => f.name != "_" && f.offset == i && szOf P f.type == some 1 && (match P.underlying f.type with | some (.int _) => true | _ => false) && plainB P r (i + 1)
def partsOf (P : Program) (places : Nat → Option (Nat × Nat)) : List (Nat × Operand) → Option (List (Nat × Nat × AOp))
  | [] => some []
  | (i, x) :: r => match places i, opdOf x, partsOf P places r with
    | some (o, n), some y, some ys => some ((o, n, y) :: ys)
    | _, _, _ => none
def zaggB (P : Program) (t : TypeId) : Bool := match (P.info? t).bind (·.zero) with
  | some (.agg _) => true
  | _ => false
def fieldOf (P : Program) (t : TypeId) (j : Nat) : Option (Nat × TypeId) := match P.underlying t with
  | some (.struct fs) => (fs[j]?).map fun f => (f.offset, f.type)
  | _ => none
def optOpd : Option Operand → Option (Option AOp)
  | none => some none
  | some x => (opdOf x).map some

def baseOf (bs : List (Nat × Nat)) (t : Nat) : Nat := (bs.lookup t).getD t
/-- bs: of the slots of this region that hold a box's place, the box. -/
def aiOf (P : Program) (h : Hint) (bs : List (Nat × Nat)) (o : Oper) : Option AI :=
  match o.op, o.dst with
  | .move x, some d | .assign x, some d => (opdOf x).map (.mov d)
  | .pick c x y, some d => match opdOf c, opdOf x, opdOf y with
    | some c, some x, some y => some (.pick d c x y)
    | _, _, _ => none
  | .alloc e, some d => (zeroOf P e).map fun cs => if h.esc.contains d then .halloc d cs else .alloc d cs
  | .box e x, some d => match opdOf x, szOf P e with
    | some x, some n => some (if h.esc.contains d then .hbox d x n else .box d x n)
    | _, _ => none
  | .build t ps, some d => match P.underlying t, zeroOf P t with
    | some (.struct fs), some z => if fs.toList.all fun f => (szOf P f.type).isSome then
        (partsOf P (fun i => (fs[i]?).bind fun f => (szOf P f.type).map fun n => (f.offset, n)) ps.toList).map (.bld d z) else none
    | some (.array _ e), some z => match szOf P e with
      | some n => (partsOf P (fun i => some (i * n, n)) ps.toList).map (.bld d z)
      | none => none
    | _, _ => none
  | .buildSlice t len ps, some d => match elemB P t with
    | some e => match szOf P e, zeroOf P e with
      | some n, some z => if len * n ≤ 2 ^ 24 ∧ z.length = n ∧ n ≠ 0 ∧ (len = 0 → ps.size = 0) then (partsOf P (fun i => some (i * n, n)) ps.toList).map (.bsl d len n z) else none
      | _, _ => none
    | none => none
  | .load t x, some d => match tmpOf x, szOf P t, aggB P t with
    | some x, some n, some g => if g = false → n = 1 then some (.ld d x n g (baseOf bs x) (!(h.boxes.contains (baseOf bs x)))) else none
    | _, _, _ => none
  | .store t x y, none => match tmpOf x, opdOf y, szOf P t with
    | some x, some y, some n => some (.st x y n (baseOf bs x) (!(h.boxes.contains (baseOf bs x))))
    | _, _, _ => none
  | .nilCheck x, some d => (opdOf x).map (.nilck d)
  | .binOp op t x y _, some d => match opdOf x, opdOf y, P.underlying t with
    | some x, some y, some (.int _) => match op with
      | .shl | .shr => none
      | _ => some (.bin op d x y)
    | some x, some y, some .bool => match op with
      | .eql => some (.eqv false .b d x y)
      | .neq => some (.eqv true .b d x y)
      | _ => none
    | some x, some y, some (.slice _) => match op with
      | .eql => some (.eqv false .s d x y)
      | .neq => some (.eqv true .s d x y)
      | _ => none
    | some x, some y, some (.struct fs) => if plainB P fs.toList 0 && !P.stoodInHeld t && !P.eqGuardType P.depth t then match op with
        | .eql => some (.eqv false (.a fs.size) d x y)
        | .neq => some (.eqv true (.a fs.size) d x y)
        | _ => none
      else none
    | _, _, _ => none
  | .unOp .not _ x, some d => (opdOf x).map (.not d)
  | .unOp .neg _ x, some d => (opdOf x).map (.neg d)
  | .convert src dst x, some d => match opdOf x, P.underlying src, P.underlying dst with
    | some x, some (.int _), some (.int k) => some (.conv k d x)
    | _, _, _ => none
  | .makeSlice t l c, some d => match elemB P t with
    | some e => match opdOf l, opdOf c, szOf P e, zeroOf P e, P.info? e with
      | some l, some c, some n, some z, some i => if l = c ∧ i.bytes ≤ 1024 ∧ z.length = n ∧ n ≠ 0 then some (.mks d l n z) else none
      | _, _, _, _, _ => none
    | none => none
  | .slice t x lo hi none, some d => match elemB P t with
    | some e => match opdOf x, optOpd lo, optOpd hi, szOf P e with
      | some x, some lo, some hi, some n => some (.slc d x lo hi n)
      | _, _, _, _ => none
    | none => none
  | .fieldAddr t x j, some d => match tmpOf x, fieldOf P t j with
    | some x, some (off, ft) => match szOf P ft with
      | some n => if n ≠ 0 then some (.faddr d x off (baseOf bs x)) else none
      | none => none
    | _, _ => none
  | .field t x j, some d => match opdOf x, fieldOf P t j with
    | some x, some (off, ft) => match szOf P ft, aggB P ft with
      | some n, some g => if g = false → n = 1 then some (.fld d x off n g) else none
      | _, _ => none
    | _, _ => none
  | .indexAddr t x i, some d => match elemB P t with
    | some e => match opdOf x, opdOf i, szOf P e with
      | some x, some i, some n => some (.iadr d x i n)
      | _, _, _ => none
    | none => match P.underlying t, i with
      | some (.array len e), .const (.int .i64 j) => match tmpOf x, szOf P e with
        | some x, some n => if 0 ≤ j ∧ j < len then some (.faddr d x (j.toNat * n) (baseOf bs x)) else none
        | _, _ => none
      | _, _ => none
  | .makeMap t none, some d => match P.underlying t with
    | some (.map _ _) => some (.mkm d)
    | _ => none
  | .insert t m (.const (.int .i64 k)) v, none => match P.underlying t with
    | some (.map kt _) => match P.underlying kt, tmpOf m, opdOf v with
      | some (.int _), some m, some v => some (.mpi m k v)
      | _, _, _ => none
    | _ => none
  | .lookup t m k true, some d => match P.underlying t with
    | some (.map kt et) => match P.underlying kt, tmpOf m, opdOf k, zeroOf P et with
      | some (.int _), some m, some k, some z => if zaggB P et then some (.mpg d m k z) else none
      | _, _, _, _ => none
    | _ => none
  | .index t x i, some d => match opdOf x, opdOf i, P.underlying t with
    | some x, some i, some (.array len e) => match szOf P e, aggB P e with
      | some n, some g => if g = false → n = 1 then some (.aidx d x i len n g) else none
      | _, _ => none
    | _, _, _ => none
  | .extract x i, some d => (opdOf x).map fun x => .ext d x i
  | .call c, some d => match c.callee with
    | .builtin .len => match c.args.toList, c.argTypes.toList with
      | [x], t :: _ => match opdOf x, elemB P t with
        | some x, some _ => some (.len d x)
        | _, _ => none
      | _, _ => none
    | .builtin .append => match c.args.toList, c.argTypes.toList with
      | [x, y], [t, u] => match opdOf x, opdOf y, elemB P t, elemB P u with
        | some x, some y, some e, some _ => match szOf P e, P.info? e, zeroOf P e with
          | some n, some i, some z => if i.bytes ≤ 1024 ∧ n ≠ 0 ∧ z.length = n then some (.app d x y n) else none
          | _, _, _ => none
        | _, _, _, _ => none
      | _, _ => none
    | .builtin .max => match c.args.toList with
      | [x, y] => match opdOf x, opdOf y with
        | some x, some y => some (.mm true d x y)
        | _, _ => none
      | _ => none
    | .builtin .min => match c.args.toList with
      | [x, y] => match opdOf x, opdOf y with
        | some x, some y => some (.mm false d x y)
        | _, _ => none
      | _ => none
    | .value (.func f) => (opdsOf c.args.toList).map (.call d f)
    | .value (.tmp t) => (opdsOf c.args.toList).map (.cald d t)
    | _ => none
  | _, _ => none

def promsOf (h : Hint) : AI → List Nat
  | .app _ x _ _ => x.tmps.filter h.lits.contains
  | .mpi _ _ x => x.tmps.filter h.lits.contains
  | i => i.reads.filter h.lits.contains
def dstOk (nt : Nat) : Option Nat → Bool
  | some d => decide (d < nt)
  | none => true
def aoOf (P : Program) (h : Hint) (nt : Nat) (bs : List (Nat × Nat)) (ops : Array Oper) (o : Oper) : Option AO :=
  match aiOf P h bs o with
  | none => none
  | some ai =>
    if dstOk nt o.dst && decide (ai.dst = o.dst) then
      match o.guard with
      | none => some ⟨none, o.dst, promsOf h ai, ai⟩
      | some (j, want) => match (ops[j]?).bind (·.dst) with
        | some g => some ⟨some (g, want), o.dst, promsOf h ai, ai⟩
        | none => none
    else none
def nextBs (h : Hint) (bs : List (Nat × Nat)) : AI → List (Nat × Nat)
  | .faddr d _ _ b => if h.boxes.contains b then (d, b) :: bs else bs
  | _ => bs
def aosOf (P : Program) (h : Hint) (nt : Nat) (ops : Array Oper) : List (Nat × Nat) → List Oper → Option (List AO)
  | _, [] => some []
  | bs, o :: r => match aoOf P h nt bs ops o with
    | some x => match aosOf P h nt ops (nextBs h bs x.ai) r with
      | some xs => some (x :: xs)
      | none => none
    | none => none

/-! Which operations may be carried out in either order. -/
def disj (a b : List Nat) : Bool := a.all fun x => !b.contains x
def indep (x y : AO) : Bool :=
  disj x.wt y.rd && disj x.wt y.wt && disj x.wt y.mks && disj y.wt x.rd && disj y.wt x.mks && !(x.hw && y.hr) && !(y.hw && x.hr)
/-- What stands ahead of each operation, as bits. -/
def masks : List Oper → Array Nat → Array Nat
  | [], acc => acc
  | o :: r, acc => masks r (acc.push (o.after.foldl (fun s e => if Region.binds .any e then s ||| 2 ^ e.on ||| acc.getD e.on 0 else s) 0))
/-- Each two operations without an order between them may be carried out in either. -/
def orderOk (ops : List Oper) (aos : List AO) : Bool :=
  let m := masks ops #[]
  (ops.zipIdx.all fun (o, i) => o.after.all fun e => !Region.binds .any e || decide (e.on < i)) &&
  aos.zipIdx.all fun (y, j) => (aos.take j).zipIdx.all fun (x, i) => (m.getD j 0).testBit i || indep x y

def relaxAI : AI → AI
  | .ld d t n g _ true => .ldz d t n g
  | i => i
def relaxSl : AI → AI
  | .slc d x lo hi n => .slz d x lo hi n
  | i => i
def relaxAO (o : AO) : AO := if o.proms.isEmpty then { o with ai := relaxSl (relaxAI o.ai) } else { o with ai := relaxAI o.ai }
/-- Loads without an order against a change of memory are taken as loads out of what stays. -/
def relaxed (ops : List Oper) (aos : List AO) : List AO :=
  let m := masks ops #[]
  aos.zipIdx.map fun (y, j) => if aos.zipIdx.any (fun (x, i) => x.hw && i != j && !((m.getD (max i j) 0).testBit (min i j))) then relaxAO y else y

def codeOf (P : Program) (h : Hint) (nt : Nat) : Code → Option ACode
  | .skip => some .skip
  | .region _ ops draw => match aosOf P h nt ops [] ops.toList with
    | some aos => if !draw || orderOk ops.toList aos then some (.region aos) else
        if orderOk ops.toList (relaxed ops.toList aos) then some (.regionZ (relaxed ops.toList aos)) else none
    | none => none
  | .seq a b => match codeOf P h nt a, codeOf P h nt b with
    | some x, some y => some (.seq x y)
    | _, _ => none
  | .cond c a b => match opdOf c, codeOf P h nt a, codeOf P h nt b with
    | some c, some x, some y => some (.cond c x y)
    | _, _, _ => none
  | .block id a => (codeOf P h nt a).map (.block id)
  | .loop a => (codeOf P h nt a).map .loop
  | .exit id => some (.exit id)
  | .ret => some .ret
  | _ => none

/-- Where a function's results stand. -/
inductive ARes where
  | t (i : Nat)
  | b (i n : Nat) (agg : Bool)
  deriving DecidableEq
structure AFunc where
  nt : Nat
  np : Nat
  res : List ARes
  body : ACode
  deriving DecidableEq
def resOf (P : Program) : List ResultVar → Option (List ARes)
  | [] => some []
  | .tmp t :: r => (resOf P r).map (.t t :: ·)
  | .cell a t :: r => match szOf P t, aggB P t, resOf P r with
    | some n, some g, some l => if g = false → n = 1 then some (.b a n g :: l) else none
    | _, _, _ => none
def funcOf (P : Program) (h : Hint) (fn : Func) : Option AFunc := match fn.body with
  | some c => match codeOf P h fn.ntmps c, resOf P fn.results.toList with
    | some b, some r => if fn.params.size ≤ fn.ntmps then some ⟨fn.ntmps, fn.params.size, r, b⟩ else none
    | _, _ => none
  | none => none

end Go.AX
