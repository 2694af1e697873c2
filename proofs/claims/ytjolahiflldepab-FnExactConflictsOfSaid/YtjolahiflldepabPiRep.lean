/- What it means that a machine value, in a world, is of a pure content; what a call of a function over pure contents gives ('Sat'). No statement of the seat is proved here. -/
import Derived.Test.YtjolahiflldepabPiDef
namespace Go.Proofs.Ytjolahiflldepab.Pi
open Go Go.RowKit

/-- 'v' in the world 'w' is of the content 'c'; all memory that is read lies in blocks of 'I', which nobody writes. -/
inductive RepC (I : Nat → Prop) (w : World) : Value → CV → Prop
  | int (k : IntKind) (n : Int) : RepC I w (.int k n) (.int k n)
  | bool (b : Bool) : RepC I w (.bool b) (.bool b)
  | str (s : ByteArray) : RepC I w (.string s) (.str s)
  | nil (sz : Nat) : RepC I w (.slice none 0 0) (.slice sz [])
  | empty (a : Addr) (cap sz : Nat) : RepC I w (.slice (some a) 0 cap) (.slice sz [])
  | slice (b off cap sz n : Nat) (es : List (List CV)) (vs : Nat → Nat → Value) (hI : I b) (hn : es.length = n) (hcap : n ≤ cap) (hsz : ∀ (i : Nat) (r : List CV), es[i]? = some r → r.length = sz)
      (hc : ∀ (i : Nat) (r : List CV) (j : Nat) (c : CV), es[i]? = some r → r[j]? = some c → w.cell? ⟨b, off + (i * sz + j), none⟩ = some (vs i j))
      (hr : ∀ (i : Nat) (r : List CV) (j : Nat) (c : CV), es[i]? = some r → r[j]? = some c → RepC I w (vs i j) c) : RepC I w (.slice (some ⟨b, off, none⟩) n cap) (.slice sz es)
  | ptr (b off sz : Nat) (cs : List CV) (vs : Nat → Value) (hI : I b) (hsz : cs.length = sz)
      (hc : ∀ (j : Nat) (c : CV), cs[j]? = some c → w.cell? ⟨b, off + j, none⟩ = some (vs j))
      (hr : ∀ (j : Nat) (c : CV), cs[j]? = some c → RepC I w (vs j) c) : RepC I w (.pointer (some ⟨b, off, none⟩)) (.ptr sz cs)
  | fn (f : Nat) (vs : Array Value) (cs : List CV) (hsz : vs.size = cs.length) (hr : ∀ (i : Nat) (c : CV) (v : Value), cs[i]? = some c → vs[i]? = some v → RepC I w v c) : RepC I w (.func (.func f) #[] vs) (.fn f cs)
  | nilI : RepC I w .nilIface (.iface true)
  | someI (t : TypeId) (v : Value) : RepC I w (.iface t v) (.iface false)
  | own (v : Value) (sz : Nat) (es : List (List CV)) (h : RepC I w v (.slice sz es)) : RepC I w v (.own sz es)
  | hole (base : Option Addr) (n cap : Nat) : RepC I w (.slice base n cap) .hole

/-- A slice of its own, from its begin, or nil. -/
def OwnV (w : World) (J : Nat → Prop) (sz : Nat) (v : Value) : Prop :=
  v = .slice none 0 0 ∨ ∃ (b n cap : Nat) (vs : Array Value) (e : TypeId) (fr : Nat × Nat), v = .slice (some ⟨b, 0, none⟩) n cap ∧ J b ∧ w.heap[b]? = some (.cells vs e fr) ∧ cap * sz ≤ vs.size ∧ ∀ o, o < vs.size → w.frozen? ⟨b, o, none⟩ = false

/-- 'v' in the world 'w' is of the content 'c', all memory that is read lies in blocks of 'J', may be written, and no part of it is met twice. -/
inductive RepD (w : World) : (Nat → Prop) → Value → CV → Prop
  | int (J : Nat → Prop) (k : IntKind) (n : Int) : RepD w J (.int k n) (.int k n)
  | bool (J : Nat → Prop) (b : Bool) : RepD w J (.bool b) (.bool b)
  | str (J : Nat → Prop) (s : ByteArray) : RepD w J (.string s) (.str s)
  | nilI (J : Nat → Prop) : RepD w J .nilIface (.iface true)
  | someI (J : Nat → Prop) (t : TypeId) (v : Value) : RepD w J (.iface t v) (.iface false)
  | nil (J : Nat → Prop) (sz : Nat) : RepD w J (.slice none 0 0) (.slice sz [])
  | empty (J : Nat → Prop) (a : Addr) (cap sz : Nat) : RepD w J (.slice (some a) 0 cap) (.slice sz [])
  | slice (J : Nat → Prop) (b cap sz : Nat) (rows : List (List CV)) (vs : Array Value) (e : TypeId) (fr : Nat × Nat) (Js : Nat → Nat → Prop) (f : Nat → Value) (hJ : J b) (hcap : rows.length ≤ cap)
      (hsz : ∀ (i : Nat) (r : List CV), rows[i]? = some r → r.length = sz) (hb : w.heap[b]? = some (.cells vs e fr)) (hvs : cap * sz ≤ vs.size) (hfz : ∀ o, o < vs.size → w.frozen? ⟨b, o, none⟩ = false)
      (hc : ∀ (i : Nat) (r : List CV) (j : Nat) (c : CV), rows[i]? = some r → r[j]? = some c → vs[i * sz + j]? = some (f (i * sz + j)))
      (hr : ∀ (i : Nat) (r : List CV) (j : Nat) (c : CV), rows[i]? = some r → r[j]? = some c → RepD w (Js (i * sz + j)) (f (i * sz + j)) c)
      (hJs : ∀ x b', Js x b' → J b' ∧ b' ≠ b) (hdis : ∀ x y b', Js x b' → Js y b' → x = y) : RepD w J (.slice (some ⟨b, 0, none⟩) rows.length cap) (.slice sz rows)
  | own (J : Nat → Prop) (v : Value) (sz : Nat) (rows : List (List CV)) (h : RepD w J v (.slice sz rows)) (hs : OwnV w J sz v) : RepD w J v (.own sz rows)
  | hole (J : Nat → Prop) (base : Option Addr) (n cap : Nat) : RepD w J (.slice base n cap) .hole

def CV.isSlice : CV → Bool
  | .slice _ _ => true
  | .own _ _ => true
  | _ => false

/-- Rows of cells at the begin of a block, their nested slices in 'J'; 'hd': the cells that hold slices. -/
def DRows (w : World) (J : Nat → Prop) (hd : Nat → Value) (b cap sz : Nat) (rows : List (List CV)) : Prop :=
  rows.length ≤ cap ∧ (∀ (i : Nat) (r : List CV), rows[i]? = some r → r.length = sz) ∧ ∃ (vs : Array Value) (e : TypeId) (fr : Nat × Nat) (Js : Nat → Nat → Prop), w.heap[b]? = some (.cells vs e fr) ∧ cap * sz ≤ vs.size ∧ (∀ o, o < vs.size → w.frozen? ⟨b, o, none⟩ = false) ∧
    (∀ (i : Nat) (r : List CV) (j : Nat) (c : CV), rows[i]? = some r → r[j]? = some c → ∃ v, vs[i * sz + j]? = some v ∧ RepD w (Js (i * sz + j)) v c ∧ (c.isSlice = true → v = hd (i * sz + j))) ∧
    (∀ x b', Js x b' → J b') ∧ (∀ x y b', Js x b' → Js y b' → x = y)

/-- A component: one cell, or an aggregate of cells. -/
abbrev Comp := Bool × List CV
def RepComp (I : Nat → Prop) (w : World) (v : Value) : Comp → Prop
  | (false, [c]) => RepC I w v c
  | (false, _) => False
  | (true, cs) => ∃ vs : Array Value, v = .agg vs ∧ vs.size = cs.length ∧ ∀ (i : Nat) (c : CV) (v : Value), cs[i]? = some c → vs[i]? = some v → RepC I w v c

/-- Where the own objects lie: the block of a key ('none': a nil slice), and what is free behind an own slice's rows (its capacity in elements); for deep ones also the blocks of what is nested, and the cells that hold slices. -/
structure Lay where
  blk : Nat → Option Nat
  cap : Nat → Nat
  fp : Nat → Nat → Prop
  hd : Nat → Nat → Value

/-- The blocks of an object. -/
abbrev Foot (L : Lay) (k b : Nat) : Prop := L.blk k = some b ∨ L.fp k b

/-- An empty slice. -/
def emptyV (v : Value) : Prop := v = .slice none 0 0 ∨ ∃ a cap, v = .slice (some a) 0 cap

def RepX (L : Lay) (H : Heap) (I : Nat → Prop) (w : World) (v : Value) : XV → Prop
  | .c c => RepC I w v c
  | .nil _ => v = .slice none 0 0
  | .rs k => ∃ sz rows, find H k = some (.arr sz rows) ∧ (match L.blk k with
      | none => v = .slice none 0 0
      | some b => v = .slice (some ⟨b, 0, none⟩) rows.length (L.cap k))
  | .ru k off len => ∃ sz rows, find H k = some (.arr sz rows) ∧ off + len ≤ rows.length ∧ (match L.blk k with
      | none => v = .slice none 0 0
      | some b => ∃ q, off + len ≤ L.cap k ∧ (0 < len ∨ off = 0 → q = off * sz) ∧ v = .slice (some ⟨b, q, none⟩) len (L.cap k - off))
  | .pb k off len => ∃ cs b, find H k = some (.box cs) ∧ L.blk k = some b ∧ off + len ≤ cs.length ∧ v = .pointer (some ⟨b, off, none⟩)
  | .pe k row off len => ∃ sz rows b, find H k = some (.arr sz rows) ∧ L.blk k = some b ∧ row < rows.length ∧ off + len ≤ sz ∧ v = .pointer (some ⟨b, row * sz + off, none⟩)
  | .ds k => ∃ a sz rows, find H k = some (.deep a sz rows) ∧ (match L.blk k with
      | none => emptyV v ∧ (a = true → v = .slice none 0 0)
      | some b => v = .slice (some ⟨b, 0, none⟩) rows.length (L.cap k))
  | .dp k row off len => ∃ a sz rows b, find H k = some (.deep a sz rows) ∧ L.blk k = some b ∧ row < rows.length ∧ off + len ≤ sz ∧ v = .pointer (some ⟨b, row * sz + off, none⟩)
  | .dn k row j => ∃ a sz rows, find H k = some (.deep a sz rows) ∧ row < rows.length ∧ v = L.hd k (row * sz + j) ∧ ∃ base n cap, v = .slice base n cap
  | .fb f cs k n ds => ∃ vs cells b, v = .func (.func f) #[] vs ∧ find H k = some (.box cells) ∧ L.blk k = some b ∧ cells.length = n ∧ vs.size = cs.length + 1 + ds.length ∧
      (∀ (i : Nat) (c : CV) (u : Value), cs[i]? = some c → vs[i]? = some u → RepC I w u c) ∧ vs[cs.length]? = some (.pointer (some ⟨b, 0, none⟩)) ∧
      (∀ (i : Nat) (c : CV) (u : Value), ds[i]? = some c → vs[cs.length + 1 + i]? = some u → RepC I w u c)
  | .undef => v = undef
  | .dead => True

def RepXs (L : Lay) (H : Heap) (I : Nat → Prop) (w : World) (vs : Array Value) (xs : List XV) : Prop :=
  vs.size = xs.length ∧ ∀ (i : Nat) (x : XV) (v : Value), xs[i]? = some x → vs[i]? = some v → RepX L H I w v x
def RepB (L : Lay) (H : Heap) (I : Nat → Prop) (w : World) (v : Value) : Bool × List XV → Prop
  | (false, [x]) => RepX L H I w v x
  | (false, _) => False
  | (true, xs) => ∃ vs, v = .agg vs ∧ RepXs L H I w vs xs

def RepP (L : Lay) (H : Heap) (I : Nat → Prop) (w : World) (v : Value) : PV → Prop
  | .one x => RepX L H I w v x
  | .agg xs => ∃ vs, v = .agg vs ∧ RepXs L H I w vs xs
  | .tup ps => ∃ vs : Array Value, v = .tuple vs ∧ vs.size = ps.length ∧ ∀ (i : Nat) (p : Bool × List XV) (v : Value), ps[i]? = some p → vs[i]? = some v → RepB L H I w v p

/-- A value of one cell. -/
def oneCell (v : Value) : Prop := (∀ cs, v ≠ .agg cs) ∧ (∀ vs, v ≠ .tuple vs)

/-- An own object lies as told. -/
def RepO (L : Lay) (H : Heap) (I : Nat → Prop) (w : World) (k : Nat) : Ob → Prop
  | .box cs => ∃ b vs e fr, L.blk k = some b ∧ w.heap[b]? = some (.cells vs e fr) ∧ (∀ o, o < vs.size → w.frozen? ⟨b, o, none⟩ = false) ∧ (∀ (i : Nat) (v : Value), vs[i]? = some v → oneCell v) ∧ RepXs L H I w vs cs
  | .arr sz rows => match L.blk k with
    | none => rows = []
    | some b => rows.length ≤ L.cap k ∧ (∀ (i : Nat) (r : List CV), rows[i]? = some r → r.length = sz) ∧ ∃ vs e fr, w.heap[b]? = some (.cells vs e fr) ∧ L.cap k * sz ≤ vs.size ∧ (∀ o, o < vs.size → w.frozen? ⟨b, o, none⟩ = false) ∧
        ∀ (i : Nat) (r : List CV) (j : Nat) (c : CV), rows[i]? = some r → r[j]? = some c → ∃ v, vs[i * sz + j]? = some v ∧ RepC I w v c
  | .deep _ sz rows => match L.blk k with
    | none => rows = []
    | some b => DRows w (L.fp k) (L.hd k) b (L.cap k) sz rows ∧ ¬ L.fp k b

/-- All own objects lie as told, apart from each other, in blocks of 'O', outside 'I'. -/
structure HeapOK (O : Nat → Prop) (L : Lay) (H : Heap) (I : Nat → Prop) (w : World) : Prop where
  ob : ∀ k o, find H k = some o → RepO L H I w k o
  own : ∀ k o b, find H k = some o → Foot L k b → O b ∧ ¬ I b ∧ b < w.heap.size
  inj : ∀ k k' o o' b, find H k = some o → find H k' = some o' → Foot L k b → Foot L k' b → k = k'

/-- What a call hands back. -/
abbrev Res := PV × Heap

def Back (I : Nat → Prop) (w : World) (r : Res) (v : Value) (w' : World) : Prop :=
  Below w.heap.size w w' ∧ ∃ L I', (∀ b, b < w.heap.size → I' b → I b) ∧ (∀ b, I' b → b < w'.heap.size) ∧ RepP L r.2 I' w' v r.1 ∧ HeapOK (fun b => w.heap.size ≤ b) L r.2 I' w'

def Post (I : Nat → Prop) (w : World) (r : Res) : Ending → World → Prop
  | .returned v, w' => Back I w r v w'
  | .outgrown, _ => False
  | .panicked _, _ => False

/-- A function with a body: a call enters it. -/
def Ent (P : Program) (f : FuncId) : Prop := ∃ fn, P.funcs[f]? = some fn ∧ fn.body.isNone = false ∧ (fn.name == "runtime.NumGoroutine") = false

/-- CALLED WITH VALUES OF THE CONTENTS 'args', IN WHATEVER WORLD, THE FUNCTION RETURNS 'r' AND LEAVES ALL OLD MEMORY ALONE. -/
def Sat (P : Program) (f : FuncId) (args : List Comp) (r : Res) : Prop :=
  Ent P f ∧ ∀ (I : Nat → Prop) (w : World) (vals : Array Value), (∀ b, I b → b < w.heap.size) → vals.size = args.length →
    (∀ (i : Nat) (c : Comp) (v : Value), args[i]? = some c → vals[i]? = some v → RepComp I w v c) → Calls P f vals w (Post I w r)

/-- What a call leaves alone that may write the blocks of 'O'. -/
structure Kept (O : Nat → Prop) (w w' : World) : Prop where
  os : w'.os = w.os
  tape : w'.tape = w.tape
  output : w'.output = w.output
  size : w.heap.size ≤ w'.heap.size
  block : ∀ b, b < w.heap.size → ¬ O b → w'.heap[b]? = w.heap[b]?

/-- What a call hands back that was given own objects (keys of a million and more: they lie where they lay). -/
def BackM (O I : Nat → Prop) (w : World) (L0 : Lay) (r : Res) (v : Value) (w' : World) : Prop :=
  Kept O w w' ∧ ∃ L I', (∀ b, b < w.heap.size → I' b → I b ∨ O b) ∧ (∀ b, I' b → b < w'.heap.size) ∧ RepP L r.2 I' w' v r.1 ∧ HeapOK (fun b => w.heap.size ≤ b ∨ O b) L r.2 I' w' ∧
    ∀ k o, pinK k = true → find r.2 k = some o → L.blk k = L0.blk k ∧ L.cap k = L0.cap k

def PostM (O I : Nat → Prop) (w : World) (L0 : Lay) (r : Res) : Ending → World → Prop
  | .returned v, w' => BackM O I w L0 r v w'
  | .outgrown, _ => False
  | .panicked _, _ => False

/-- CALLED WITH OWN OBJECTS 'H' AND VALUES 'args' OVER THEM, THE FUNCTION RETURNS 'r' AND WRITES NOTHING ELSE. -/
def SatM (P : Program) (f : FuncId) (args : List PV) (H : Heap) (r : Res) : Prop :=
  Ent P f ∧ ∀ (O I : Nat → Prop) (w : World) (L0 : Lay) (vals : Array Value), (∀ b, I b → b < w.heap.size) → vals.size = args.length →
    (∀ (i : Nat) (p : PV) (v : Value), args[i]? = some p → vals[i]? = some v → RepP L0 H I w v p) → HeapOK O L0 H I w → Calls P f vals w (PostM O I w L0 r)

end Go.Proofs.Ytjolahiflldepab.Pi
