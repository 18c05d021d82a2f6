/- The abstract machine AX: its values, its code, its steps. No condition: definitions alone. -/
import Derived.Calls
import Derived.Orders
import Derived.KernelRfl
namespace Go.AX

/-- A cell: what one place of memory holds. -/
inductive C where
  | int (k : IntKind) (n : Int)
  | bool (b : Bool)
  | nil
  | emp (c : Bool)
  | sl (b off len : Nat)
  | ptr (b off : Nat)
  | fn (f : FuncId)
  | nptr
  deriving DecidableEq

/-- A value: a cell, or a struct's cells. -/
inductive V where
  | c (x : C)
  | agg (cs : List C)
  deriving DecidableEq

/-- What a slot holds. box: a variable of the call's own; lit: a slice's array of its own that nobody has seen; mw: a map of its own that is being filled; mp: one that is not changed any more. -/
inductive AV where
  | undef
  | val (v : V)
  | tup (vs : List V)
  | box (cs : List C)
  | lit (sz : Nat) (cs : List C)
  | mw (es : List (Int × List C))
  | mp (es : List (Int × List C))
  deriving DecidableEq

inductive St where | ro | rw | dead
  deriving DecidableEq

structure Blk where
  st : St
  sz : Nat
  cells : List C

abbrev Heap := List Blk

/-- An operand. -/
inductive AOp where
  | t (i : Nat)
  | k (c : C)
  deriving DecidableEq

/-- What is compared: bools, a slice and nil, structs of so many cells. -/
inductive EqK where
  | b | s | a (n : Nat)
  deriving DecidableEq

/-- One operation, its types resolved. -/
inductive AI where
  | prom (t : Nat)
  | mov (d : Nat) (x : AOp)
  | pick (d : Nat) (c x y : AOp)
  | not (d : Nat) (x : AOp)
  | neg (d : Nat) (x : AOp)
  | bin (op : BinOp) (d : Nat) (x y : AOp)
  | eqv (neg : Bool) (n : EqK) (d : Nat) (x y : AOp)
  | conv (k : IntKind) (d : Nat) (x : AOp)
  | ext (d : Nat) (x : AOp) (i : Nat)
  | len (d : Nat) (x : AOp)
  | mm (mx : Bool) (d : Nat) (x y : AOp)
  | nilck (d : Nat) (x : AOp)
  | alloc (d : Nat) (cs : List C)
  | box (d : Nat) (x : AOp) (n : Nat)
  | halloc (d : Nat) (cs : List C)
  | hbox (d : Nat) (x : AOp) (n : Nat)
  | faddr (d t off b : Nat)
  | fld (d : Nat) (x : AOp) (off n : Nat) (agg : Bool)
  | aidx (d : Nat) (x i : AOp) (len n : Nat) (agg : Bool)
  | ld (d t n : Nat) (agg : Bool) (b : Nat) (hp : Bool)
  | ldz (d t n : Nat) (agg : Bool)
  | slz (d : Nat) (x : AOp) (lo hi : Option AOp) (n : Nat)
  | mkm (d : Nat)
  | mpi (m : Nat) (k : Int) (x : AOp)
  | mpg (d m : Nat) (k : AOp) (z : List C)
  | st (t : Nat) (x : AOp) (n : Nat) (b : Nat) (hp : Bool)
  | iadr (d : Nat) (x i : AOp) (n : Nat)
  | slc (d : Nat) (x : AOp) (lo hi : Option AOp) (n : Nat)
  | bsl (d len n : Nat) (zero : List C) (parts : List (Nat × Nat × AOp))
  | mks (d : Nat) (x : AOp) (n : Nat) (zero : List C)
  | bld (d : Nat) (zero : List C) (parts : List (Nat × Nat × AOp))
  | app (d : Nat) (x y : AOp) (n : Nat)
  | call (d : Nat) (f : FuncId) (xs : List AOp)
  | cald (d t : Nat) (xs : List AOp)
  deriving DecidableEq

/-- An operation of a region: its guard, what is promoted ahead of it, itself; its edges' mask; the slot that it writes. -/
structure AO where
  guard : Option (Nat × Bool)
  dst : Option Nat
  proms : List Nat
  ai : AI
  deriving DecidableEq

inductive ACode where
  | skip
  | region (ops : List AO)
  | regionZ (ops : List AO)
  | seq (a b : ACode)
  | cond (c : AOp) (a b : ACode)
  | block (id : Nat) (a : ACode)
  | loop (a : ACode)
  | exit (id : Nat)
  | ret
  deriving DecidableEq

inductive AExit where
  | normal | exit (id : Nat) | ret
  deriving DecidableEq

/-- The machine's state: the slots; which slots hold the address of a place in a box; which boxes' places were taken in this region; memory. -/
structure S where
  env : Nat → AV
  adr : Nat → Option (Nat × Nat)
  used : Nat → Bool
  H : Heap

def upd {α : Type} (f : Nat → α) (d : Nat) (v : α) : Nat → α := fun j => if j = d then v else f j
theorem upd_apply {α : Type} (f : Nat → α) (d : Nat) (v : α) (j : Nat) : upd f d v j = if j = d then v else f j := rfl
theorem upd_same {α : Type} (f : Nat → α) (d : Nat) (v : α) : upd f d v d = v := by simp [upd]
theorem upd_ne {α : Type} (f : Nat → α) {d j : Nat} (v : α) (h : j ≠ d) : upd f d v j = f j := by simp [upd, h]

def S.put (s : S) (d : Nat) (v : AV) : S := { s with env := upd s.env d v, adr := upd s.adr d none }
def S.val (s : S) : AOp → Option V
  | .t i => match s.env i with
    | .val v => some v
    | _ => none
  | .k c => some (.c c)
def S.vals (s : S) : List AOp → Option (List V)
  | [] => some []
  | x :: xs => match s.val x, s.vals xs with
    | some v, some vs => some (v :: vs)
    | _, _ => none
def S.putV (s : S) (d : Nat) : Option V → Option S
  | some v => some (s.put d (.val v))
  | none => none

def V.cells : V → List C
  | .c x => [x]
  | .agg cs => cs

/-- n cells from off on, if they are there. -/
def slab (cs : List C) (off n : Nat) : Option (List C) := if off + n ≤ cs.length then some ((cs.drop off).take n) else none
def asV (agg : Bool) (cs : List C) : Option V :=
  if agg then some (.agg cs) else match cs with
    | [x] => some (.c x)
    | _ => none
def splice (cs : List C) (off : Nat) (xs : List C) : List C := cs.take off ++ xs ++ cs.drop (off + xs.length)
def fill (cs : List C) : List (Nat × Nat × Option V) → Option (List C)
  | [] => some cs
  | (off, n, some v) :: r => if v.cells.length = n ∧ off + n ≤ cs.length then fill (splice cs off v.cells) r else none
  | (_, _, none) :: _ => none
def rep (n : Nat) (zero : List C) : List C := (List.replicate n zero).flatten

def Heap.get (H : Heap) (b : Nat) : Option Blk := H[b]?
/-- The cells of a block that is alive. -/
def Heap.live (H : Heap) (b : Nat) : Option (List C) := match H[b]? with
  | some ⟨.dead, _, _⟩ => none
  | some ⟨_, _, cs⟩ => some cs
  | none => none
/-- An element's cells in a block that is alive. -/
def Heap.szv (H : Heap) (b : Nat) : Option Nat := match H[b]? with
  | some ⟨.dead, _, _⟩ => none
  | some ⟨_, n, _⟩ => some n
  | none => none
/-- The cells of a block that may be written. -/
def Heap.own (H : Heap) (b : Nat) : Option (Nat × List C) := match H[b]? with
  | some ⟨.rw, n, cs⟩ => some (n, cs)
  | _ => none
def Heap.wr (H : Heap) (b : Nat) (cs : List C) : Heap := match H[b]? with
  | some ⟨st, n, _⟩ => H.set b ⟨st, n, cs⟩
  | none => H
def Heap.kill (H : Heap) (b : Nat) : Heap := match H[b]? with
  | some ⟨_, n, cs⟩ => H.set b ⟨.dead, n, cs⟩
  | none => H

/-- The cells that a slice's elements take, of n cells each. -/
def Heap.elems (H : Heap) (n : Nat) : C → Option (List C)
  | .nil => some []
  | .emp _ => some []
  | .sl b off len => match H.live b with
    | some cs => slab cs off (len * n)
    | none => none
  | _ => none
def lenC : C → Option Nat
  | .nil => some 0
  | .emp _ => some 0
  | .sl _ _ n => some n
  | _ => none

def lenMax : Nat := 4294967296

/-- append: ys behind x, a slice of elements of n cells. -/
def appC (H : Heap) (n : Nat) (x : C) (ys : List C) : Option (C × Heap) :=
  match x with
  | .nil | .emp true => if ys = [] then some (x, H) else
      if n ≠ 0 ∧ ys.length % n = 0 ∧ ys.length / n ≤ lenMax then some (.sl H.length 0 (ys.length / n), H ++ [⟨.rw, n, ys⟩]) else none
  | .sl b off len => match H.own b with
    | some (m, cs) => match slab cs off (len * n) with
      | some xs => if ys = [] then some (x, H) else
          if m = n ∧ n ≠ 0 ∧ ys.length % n = 0 ∧ len + ys.length / n ≤ lenMax then some (.sl H.length 0 (len + ys.length / n), H.kill b ++ [⟨.rw, n, xs ++ ys⟩]) else none
      | none => none
    | none => none
  | _ => none

/-- x[lo:hi] of elements of n cells. -/
def slcC (H : Heap) (n : Nat) (x : C) (lo : Int) (hi : Option Int) : Option C :=
  match x with
  | .nil => if lo = 0 ∧ (hi = none ∨ hi = some 0) then some .nil else none
  | .emp c => if lo = 0 ∧ (hi = none ∨ hi = some 0) then some (.emp c) else none
  | .sl b off len =>
    let h : Int := hi.getD len
    if 0 ≤ lo ∧ lo ≤ h ∧ h ≤ len then
      if lo = 0 then some (.sl b off h.toNat)
      else if lo.toNat < len then (if H.szv b = some n then some (.sl b (off + lo.toNat * n) (h.toNat - lo.toNat)) else none) else some (.emp false)
    else none
  | _ => none

def binI (op : BinOp) (k : IntKind) (a b : Int) : Option C :=
  match op with
  | .add => some (.int k (k.wrap (a + b)))
  | .sub => some (.int k (k.wrap (a - b)))
  | .mul => some (.int k (k.wrap (a * b)))
  | .quo => if b = 0 then none else some (.int k (k.wrap (a.tdiv b)))
  | .rem => if b = 0 then none else some (.int k (a.tmod b))
  | .xor => some (.int k (k.wrap (BitVec.ofInt k.bits a ^^^ BitVec.ofInt k.bits b).toNat))
  | .lss => some (.bool (decide (a < b)))
  | .leq => some (.bool (decide (a ≤ b)))
  | .gtr => some (.bool (decide (a > b)))
  | .geq => some (.bool (decide (a ≥ b)))
  | .eql => some (.bool (a == b))
  | .neq => some (.bool (a != b))
  | _ => none

/-- Cells of whole numbers: are they the same? -/
def sameC : List C → List C → Option Bool
  | [], [] => some true
  | .int k a :: xs, .int k' b :: ys => if k = k' then (sameC xs ys).map fun r => (a == b) && r else none
  | _, _ => none
def sameV : EqK → V → V → Option Bool
  | .a n, .agg xs, .agg ys => if xs.length = n then sameC xs ys else none
  | .b, .c (.bool a), .c (.bool b) => some (a == b)
  | .s, .c .nil, .c .nil => some true
  | .s, .c .nil, .c (.emp _) => some false
  | .s, .c .nil, .c (.sl ..) => some false
  | .s, .c (.emp _), .c .nil => some false
  | .s, .c (.sl ..), .c .nil => some false
  | _, _, _ => none

def prom1 (s : S) (t : Nat) : Option S := match s.env t with
  | .lit n cs => some { s with env := upd s.env t (.val (.c (.sl s.H.length 0 (cs.length / n)))), H := s.H ++ [⟨.rw, n, cs⟩] }
  | .val _ => some s
  | .mw es => some { s with env := upd s.env t (.mp es) }
  | _ => none
def proms (s : S) : List Nat → Option S
  | [] => some s
  | t :: r => match prom1 s t with
    | some s' => proms s' r
    | none => none

/-- A value is moved, or a call's results. -/
def S.mov (s : S) (d : Nat) : AOp → Option S
  | .t t => match s.env t with
    | .val v => some (s.put d (.val v))
    | .tup vs => some (s.put d (.tup vs))
    | .mp es => some (s.put d (.mp es))
    | _ => none
  | .k c => some (s.put d (.val (.c c)))
/-- Every step but a call. -/
def stepf (i : AI) (s : S) : Option S :=
  match i with
  | .prom t => prom1 s t
  | .mov d x => s.mov d x
  | .pick d c x y => match s.val c with
    | some (.c (.bool true)) => s.putV d (s.val x)
    | some (.c (.bool false)) => s.putV d (s.val y)
    | _ => none
  | .not d x => match s.val x with
    | some (.c (.bool b)) => some (s.put d (.val (.c (.bool !b))))
    | _ => none
  | .neg d x => match s.val x with
    | some (.c (.int k n)) => some (s.put d (.val (.c (.int k (k.wrap (0 - n))))))
    | _ => none
  | .bin op d x y => match s.val x, s.val y with
    | some (.c (.int k a)), some (.c (.int k' b)) => if k = k' then s.putV d ((binI op k a b).map .c) else none
    | _, _ => none
  | .eqv ng n d x y => match s.val x, s.val y with
    | some v, some u => match sameV n v u with
      | some r => some (s.put d (.val (.c (.bool (if ng then !r else r)))))
      | none => none
    | _, _ => none
  | .conv k d x => match s.val x with
    | some (.c (.int _ n)) => some (s.put d (.val (.c (.int k (k.wrap n)))))
    | _ => none
  | .ext d x i => match x with
    | .t t => match s.env t with
      | .tup vs => s.putV d vs[i]?
      | _ => none
    | _ => none
  | .len d x => match s.val x with
    | some (.c c) => match lenC c with
      | some n => some (s.put d (.val (.c (.int .i64 n))))
      | none => none
    | _ => none
  | .mm mx d x y => match s.val x, s.val y with
    | some (.c (.int k a)), some (.c (.int k' b)) =>
      if k = k' then some (s.put d (.val (.c (.int k (if mx then (if a < b then b else a) else (if b < a then b else a)))))) else none
    | _, _ => none
  | .nilck d x => match s.val x with
    | some (.c (.ptr b o)) => some (s.put d (.val (.c (.ptr b o))))
    | _ => none
  | .mkm d => if s.used d = false then some (s.put d (.mw [])) else none
  | .mpi m k x => match s.env m, s.val x with
    | .mw es, some (.agg cs) => if es.all (fun e => decide (e.1 ≠ k)) then some { s with env := upd s.env m (.mw (es ++ [(k, cs)])) } else none
    | _, _ => none
  | .mpg d m k z => match s.env m, s.val k with
    | .mp es, some (.c (.int .i64 n)) => some (s.put d (match es.lookup n with | some cs => .tup [.agg cs, .c (.bool true)] | none => .tup [.agg z, .c (.bool false)]))
    | _, _ => none
  | .alloc d cs => if s.used d = false then some (s.put d (.box cs)) else none
  | .box d x n => match s.val x with
    | some v => if v.cells.length = n ∧ s.used d = false then some (s.put d (.box v.cells)) else none
    | none => none
  | .halloc d cs => some { s.put d (.val (.c (.ptr s.H.length 0))) with H := s.H ++ [⟨.rw, cs.length, cs⟩] }
  | .hbox d x n => match s.val x with
    | some v => if v.cells.length = n then some { s.put d (.val (.c (.ptr s.H.length 0))) with H := s.H ++ [⟨.rw, n, v.cells⟩] } else none
    | none => none
  | .faddr d t off b => match s.adr t with
    | some (u, o) => if u = b then some { env := upd s.env d .undef, adr := upd s.adr d (some (b, o + off)), used := upd s.used b true, H := s.H } else none
    | none => match s.env t with
      | .box _ => if t = b then some { env := upd s.env d .undef, adr := upd s.adr d (some (b, off)), used := upd s.used b true, H := s.H } else none
      | .val (.c (.ptr c o)) => some (s.put d (.val (.c (.ptr c (o + off)))))
      | _ => none
  | .fld d x off n agg => match s.val x with
    | some (.agg cs) => match slab cs off n with
      | some l => s.putV d (asV agg l)
      | none => none
    | _ => none
  | .aidx d x i len n agg => match s.val x, s.val i with
    | some (.agg cs), some (.c (.int _ j)) => if 0 ≤ j ∧ j < len then match slab cs (j.toNat * n) n with
        | some l => s.putV d (asV agg l)
        | none => none
      else none
    | _, _ => none
  | .ld d t n agg b hp => if hp then match s.env t with
      | .val (.c (.ptr c o)) => if s.adr t = none then match s.H.live c with
        | some cs => match slab cs o n with
          | some l => s.putV d (asV agg l)
          | none => none
        | none => none
        else none
      | _ => none
    else match s.adr t with
    | some (u, o) => if u = b then match s.env b with
      | .box cs => match slab cs o n with
        | some l => s.putV d (asV agg l)
        | none => none
      | _ => none
      else none
    | none => match s.env t with
      | .box cs => match slab cs 0 n with
        | some l => s.putV d (asV agg l)
        | none => none
      | _ => none
  | .st t x n b hp => match s.val x with
    | none => none
    | some v => if v.cells.length ≠ n then none else if hp then match s.env t with
        | .val (.c (.ptr c o)) => if s.adr t = none then match s.H.own c with
          | some (_, cs) => if o + n ≤ cs.length then some { s with H := s.H.wr c (splice cs o v.cells) } else none
          | none => none
          else none
        | _ => none
      else match s.adr t with
      | some (u, o) => if u = b then match s.env b with
        | .box cs => if o + n ≤ cs.length then some { s with env := upd s.env b (.box (splice cs o v.cells)) } else none
        | _ => none
        else none
      | none => match s.env t with
        | .box cs => if t = b ∧ n ≤ cs.length then some { s with env := upd s.env b (.box (splice cs 0 v.cells)) } else none
        | _ => none
  | .iadr d x i n => match s.val x, s.val i with
    | some (.c (.sl b off len)), some (.c (.int _ j)) => if 0 ≤ j ∧ j < len then some (s.put d (.val (.c (.ptr b (off + j.toNat * n))))) else none
    | _, _ => none
  | .slc d x lo hi n => match s.val x, (match lo with | none => some (V.c (.int .i64 0)) | some y => s.val y), (match hi with | none => some none | some y => (s.val y).map some) with
    | some (.c c), some (.c (.int _ l)), some none => s.putV d ((slcC s.H n c l none).map .c)
    | some (.c c), some (.c (.int _ l)), some (some (.c (.int _ h))) => s.putV d ((slcC s.H n c l (some h)).map .c)
    | _, _, _ => none
  | .bsl d len n zero parts =>
    if len * n = 0 then some (s.put d (.val (.c (.emp true)))) else
    match fill (rep len zero) (parts.map fun p => (p.1, p.2.1, s.val p.2.2)) with
    | some cs => if cs.length = len * n ∧ s.used d = false then some (s.put d (.lit n cs)) else none
    | none => none
  | .mks d x n zero => match s.val x with
    | some (.c (.int .i64 l)) => if 0 ≤ l ∧ l ≤ lenMax ∧ zero.length = n ∧ n ≠ 0 then
        if l = 0 then some (s.put d (.val (.c (.emp true)))) else
        some { s.put d (.val (.c (.sl s.H.length 0 l.toNat))) with H := s.H ++ [⟨.rw, n, rep l.toNat zero⟩] }
      else none
    | _ => none
  | .bld d zero parts => match fill zero (parts.map fun p => (p.1, p.2.1, s.val p.2.2)) with
    | some cs => some (s.put d (.val (.agg cs)))
    | none => none
  | .app d x y n => match s.val x, (match y with
      | .t t => match s.env t with
        | .lit m cs => if m = n then some cs else none
        | .val (.c c) => s.H.elems n c
        | _ => none
      | .k c => s.H.elems n c) with
    | some (.c c), some ys => match appC s.H n c ys with
      | some (r, H') => some { s.put d (.val (.c r)) with H := H' }
      | none => none
    | _, _ => none
  | .call .. => none
  | .cald .. => none
  | .ldz .. => none
  | .slz .. => none

/-- Blocks that a region's operations leave as they are: what they hold. -/
abbrev Zs := Nat → Option (Nat × List C)
def noZ : Zs := fun _ => none
/-- What stays, and its elements' cells, where they are told (not 0). -/
def HoldsTo (N : Nat) (Z : Zs) (H : Heap) : Prop := ∀ c p, Z c = some p → c < N → H.live c = some p.2 ∧ (p.1 ≠ 0 → H.szv c = some p.1)
def Holds (Z : Zs) (H : Heap) : Prop := HoldsTo H.length Z H
theorem Holds.no (H : Heap) : Holds noZ H := fun c cs h => by simp [noZ] at h
/-- A load out of such a block. -/
def loadZ (Z : Zs) (d t n : Nat) (agg : Bool) (s : S) : Option S := match s.env t with
  | .val (.c (.ptr c o)) => if s.adr t = none then match Z c with
    | some p => match slab p.2 o n with
      | some l => s.putV d (asV agg l)
      | none => none
    | none => none
    else none
  | _ => none
/-- A slice of a slice in such a block. -/
def slcZ (Z : Zs) (n : Nat) (x : C) (lo : Int) (hi : Option Int) : Option C :=
  match x with
  | .nil => if lo = 0 ∧ (hi = none ∨ hi = some 0) then some .nil else none
  | .emp c => if lo = 0 ∧ (hi = none ∨ hi = some 0) then some (.emp c) else none
  | .sl b off len =>
    let h : Int := hi.getD len
    if 0 ≤ lo ∧ lo ≤ h ∧ h ≤ len then
      if lo = 0 then some (.sl b off h.toNat)
      else if lo.toNat < len then (if n ≠ 0 ∧ (Z b).map (·.1) = some n then some (.sl b (off + lo.toNat * n) (h.toNat - lo.toNat)) else none) else some (.emp false)
    else none
  | _ => none
def sliceV (Z : Zs) (x : AOp) (lo hi : Option AOp) (n : Nat) (s : S) : Option V := match x with
  | .k _ => none
  | .t i => match s.env i, (match lo with | none => some (V.c (.int .i64 0)) | some y => s.val y), (match hi with | none => some none | some y => (s.val y).map some) with
    | .val (.c c), some (.c (.int _ l)), some none => (slcZ Z n c l none).map .c
    | .val (.c c), some (.c (.int _ l)), some (some (.c (.int _ h))) => (slcZ Z n c l (some h)).map .c
    | _, _, _ => none
def sliceZ (Z : Zs) (d : Nat) (x : AOp) (lo hi : Option AOp) (n : Nat) (s : S) : Option S := s.putV d (sliceV Z x lo hi n s)

end Go.AX
