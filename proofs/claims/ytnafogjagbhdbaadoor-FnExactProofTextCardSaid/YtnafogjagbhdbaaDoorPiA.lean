/- A part of the layer Pi: pure values, abstract states, a predicate transformer over Go code and its soundness. No statement of the seat is proved here. -/
import Derived.Below
import Derived.Still
import Derived.ChangeKeysEq
import Derived.Laws.AppendOwn
import Derived.Lib.UnsafeStr
import Derived.Test.YtnafogjagbhdbaaDoorPiLaid
/- The words of the layer 'Pi': pure values, abstract states and the predicate transformer 'pwp' over Go code. No statement of the seat is proved here. -/
namespace Go.Proofs.YtnafogjagbhdbaaDoor.Pi
open Go
set_option linter.unusedVariables false

inductive CV where
  | int (k : IntKind) (n : Int)
  | bool (b : Bool)
  | str (s : ByteArray)
  | slice (sz : Nat) (es : List (List CV))
  | ptr (sz : Nat) (cs : List CV)
  | fn (f : Nat) (cap : List CV)
  | iface (isNil : Bool)
  /-- A slice whose memory is its own, nil or from its begin: it may be appended to. -/
  | own (sz : Nat) (es : List (List CV))
  /-- What nobody reads. -/
  | hole

inductive XV where
  | c (c : CV)
  | nil (sz : Nat)
  | rs (k : Nat)
  | ru (k off len : Nat)
  | pb (k off len : Nat)
  | pe (k row off len : Nat)
  | ds (k : Nat)
  | dp (k row off len : Nat)
  | dn (k row j : Nat)
  | fb (f : Nat) (cs : List CV) (k n : Nat) (ds : List CV)
  | undef
  | dead

inductive PV where
  | one (x : XV)
  | agg (xs : List XV)
  | tup (vs : List (Bool × List XV))

inductive Ob where
  | box (cs : List XV)
  | arr (sz : Nat) (rows : List (List CV))
  /-- Rows whose nested slices are memory of their own, each part of it once; 'a': it may be appended to. -/
  | deep (a : Bool) (sz : Nat) (rows : List (List CV))

abbrev Heap := List (Nat × Ob)

structure St where
  regs : List PV
  heap : Heap

inductive LK where
  | int (k : IntKind)
  | bool
  | str
  deriving DecidableEq

structure TI where
  size : Nat
  bytes : Nat
  agg : Bool
  slice : Option (Nat × Nat)         -- the element's cells and bytes
  elem : Nat                         -- the element's type
  ez : List CV                       -- the element's zero cells
  ftypes : List Nat
  ik : Option IntKind
  str : Bool
  u8 : Bool                          -- a slice of bytes
  iface : Bool
  bool : Bool
  fields : List (Nat × Nat × Bool)   -- offset, cells, is it an aggregate
  zero : List XV
  eq : Option (List LK)              -- the kinds of its cells, where '==' looks at all of them

abbrev TT := Nat → TI

structure Side (A B : Prop) : Prop where
  a : A
  b : B
structure Br (b : Bool) (A B : Prop) : Prop where
  t : b = true → A
  f : b = false → B
inductive Pick {α : Type} (R : α → Prop) (K : α → Prop) : Prop
  | mk (z : α) (h : R z) (k : K z) : Pick R K

inductive CallC (A B : Prop) : Prop
  | r (h : A)
  | x (h : B)

theorem Br.yes {A B : Prop} (h : A) : Br true A B := ⟨fun _ => h, fun h => absurd h (by decide)⟩
theorem Br.no {A B : Prop} (h : B) : Br false A B := ⟨fun h => absurd h (by decide), fun _ => h⟩

/-! ### reading and writing registers, in continuation style -/
def look : List PV → Nat → (PV → Prop) → Prop
  | [], _, _ => False
  | x :: _, 0, K => K x
  | _ :: xs, n + 1, K => look xs n K

def setK : List PV → Nat → PV → (List PV → Prop) → Prop
  | [], _, _, _ => False
  | _ :: xs, 0, v, K => K (v :: xs)
  | x :: xs, n + 1, v, K => setK xs n v fun ys => K (x :: ys)

def find : Heap → Nat → Option Ob
  | [], _ => none
  | (k', o) :: h, k => match Nat.beq k' k with | true => some o | false => find h k

def ins (k : Nat) (o : Ob) : Heap → Heap
  | [] => [(k, o)]
  | (k', o') :: h => match Nat.blt k k' with | true => (k, o) :: (k', o') :: h | false => (k', o') :: ins k o h

def del (k : Nat) : Heap → Heap
  | [] => []
  | (k', o') :: h => match Nat.beq k' k with | true => del k h | false => (k', o') :: del k h

def PV.map (f : XV → XV) : PV → PV
  | .one x => .one (f x)
  | .agg xs => .agg (xs.map f)
  | .tup vs => .tup (vs.map fun p => (p.1, p.2.map f))
def Ob.map (f : XV → XV) : Ob → Ob
  | .box cs => .box (cs.map f)
  | .arr sz rows => .arr sz rows
  | .deep a sz rows => .deep a sz rows
def Heap.mapX (f : XV → XV) (h : Heap) : Heap := h.map fun p => (p.1, p.2.map f)

def XV.key? : XV → Option Nat
  | .rs k | .ru k _ _ | .pb k _ _ | .pe k _ _ _ | .ds k | .dp k _ _ _ | .dn k _ _ | .fb _ _ k _ _ => some k
  | _ => none
def pinK (k : Nat) : Bool := match Nat.ble 1000000 k with | true => Nat.blt (Nat.mod k 64) 32 | false => false
def bK (k : Nat) : Bool := Nat.beq (Nat.mod k 64) 29
def TB : Nat := 66
def T5 : Nat := 5
def eqB (a b : Bool) : Bool := match a, b with | true, true => true | false, false => true | _, _ => false
theorem eqB_iff {a b : Bool} (h : eqB a b = true) : a = b := by cases a <;> cases b <;> first | rfl | cases h
def findB (h : Heap) (k : Nat) : Option Ob := match bK k with | true => none | false => find h k
theorem findB_some {h : Heap} {k : Nat} {o : Ob} (e : findB h k = some o) : find h k = some o ∧ bK k = false := by
  unfold findB at e
  cases hb : bK k with
  | true => rw [hb] at e; cases e
  | false => rw [hb] at e; exact ⟨e, rfl⟩
theorem findB_of {h : Heap} {k : Nat} {o : Ob} (e : find h k = some o) (hb : bK k = false) : findB h k = some o := by simp [findB, hb, e]
def XV.kill (k : Nat) (x : XV) : XV :=
  match x.key? with
  | some k' => match Nat.beq k' k with | true => .dead | false => x
  | none => x
def XV.rename (k k2 : Nat) (x : XV) : XV :=
  match x with
  | .rs a => match Nat.beq a k with | true => .rs k2 | false => .rs a
  | .ru a o l => match Nat.beq a k with | true => .ru k2 o l | false => .ru a o l
  | .pb a o l => match Nat.beq a k with | true => .pb k2 o l | false => .pb a o l
  | .pe a r o l => match Nat.beq a k with | true => .pe k2 r o l | false => .pe a r o l
  | .ds a => match Nat.beq a k with | true => .ds k2 | false => .ds a
  | .dp a r o l => match Nat.beq a k with | true => .dp k2 r o l | false => .dp a r o l
  | .dn a r j => match Nat.beq a k with | true => .dn k2 r j | false => .dn a r j
  | .fb f cs a n qs => match Nat.beq a k with | true => .fb f cs k2 n qs | false => .fb f cs a n qs
  | x => x

/-! ### forcing: the same terms, their constructors in sight -/
def forceNat (k : Nat) (K : Nat → Prop) : Prop := match k with | 0 => K 0 | n + 1 => K (n + 1)
def forceB (b : Bool) (K : Bool → Prop) : Prop := match b with | true => K true | false => K false
def forceX (x : XV) (K : XV → Prop) : Prop :=
  match x with
  | .c c => K (.c c)
  | .nil a => K (.nil a)
  | .rs a => forceNat a fun a => K (.rs a)
  | .ru a b c => forceNat a fun a => K (.ru a b c)
  | .pb a b c => forceNat a fun a => K (.pb a b c)
  | .pe a b c d => forceNat a fun a => K (.pe a b c d)
  | .ds a => forceNat a fun a => K (.ds a)
  | .dp a b c d => forceNat a fun a => K (.dp a b c d)
  | .dn a b c => forceNat a fun a => K (.dn a b c)
  | .fb f a b c d => K (.fb f a b c d)
  | .undef => K .undef
  | .dead => K .dead
def forceXs : List XV → (List XV → Prop) → Prop
  | [], K => K []
  | x :: xs, K => forceX x fun x => forceXs xs fun xs => K (x :: xs)
def forceT : List (Bool × List XV) → (List (Bool × List XV) → Prop) → Prop
  | [], K => K []
  | (b, x) :: xs, K => forceB b fun b => forceXs x fun x => forceT xs fun xs => K ((b, x) :: xs)
def forceP (x : PV) (K : PV → Prop) : Prop :=
  match x with
  | .one x => forceX x fun x => K (.one x)
  | .agg xs => forceXs xs fun xs => K (.agg xs)
  | .tup vs => forceT vs fun vs => K (.tup vs)
def forceR : List PV → (List PV → Prop) → Prop
  | [], K => K []
  | x :: xs, K => forceP x fun x => forceR xs fun xs => K (x :: xs)
def forceO (o : Ob) (K : Ob → Prop) : Prop :=
  match o with
  | .box cs => forceXs cs fun cs => K (.box cs)
  | .arr sz rows => K (.arr sz rows)
  | .deep a sz rows => K (.deep a sz rows)
def forceH : Heap → (Heap → Prop) → Prop
  | [], K => K []
  | (k, o) :: h, K => forceNat k fun k => forceO o fun o => forceH h fun h => K ((k, o) :: h)
def force (s : St) (K : St → Prop) : Prop := match s with | ⟨r, h⟩ => forceR r fun r => forceH h fun h => K ⟨r, h⟩


/-! ### the value of an operand -/
def constK (v : Value) (t : TI) (K : PV → Prop) : Prop :=
  match v with
  | .int k n => K (.one (.c (.int k n)))
  | .bool b => K (.one (.c (.bool b)))
  | .string s => K (.one (.c (.str s)))
  | .slice none 0 0 => match t.slice with | some (sz, _) => K (.one (.nil sz)) | none => False
  | .nilIface => K (.one (.c (.iface true)))
  | .pointer none => K (.one (.c (.ptr 0 [])))
  | _ => False

def opd (regs : List PV) (x : Operand) (t : TI) (K : PV → Prop) : Prop :=
  match x with
  | .tmp n => look regs n K
  | .const v => constK v t K
  | .func f => K (.one (.c (.fn f [])))
  | .global _ => False

def XV.pure? : XV → Option CV
  | .c y => some y
  | .nil sz => some (.slice sz [])
  | _ => none

def pures : List XV → Option (List CV)
  | [] => some []
  | x :: xs => match x.pure?, pures xs with | some c, some cs => some (c :: cs) | _, _ => none

def CV.flat : CV → Bool
  | .int _ _ | .bool _ | .str _ | .iface _ => true
  | .slice _ [] => true
  | _ => false
def flatRows (rows : List (List CV)) : Prop := ∀ r ∈ rows, ∀ c ∈ r, c.flat = true
def CV.scalar : CV → Bool
  | .int _ _ | .bool _ | .str _ | .iface _ => true
  | _ => false
def XV.scalar : XV → Bool
  | .c y => y.scalar
  | _ => false

def sub {α : Type} : List α → Nat → Nat → List α
  | _, _, 0 => []
  | [], _, _ + 1 => []
  | x :: xs, 0, n + 1 => x :: sub xs 0 n
  | _ :: xs, o + 1, n + 1 => sub xs o (n + 1)

def subK (xs : List XV) (o n : Nat) (K : List XV → Prop) : Prop := forceXs (sub xs o n) fun ys => K ys

def oneOr (agg : Bool) (xs : List XV) (K : PV → Prop) : Prop :=
  match agg, xs with
  | true, xs => K (.agg xs)
  | false, [x] => K (.one x)
  | false, _ => False

def lenIs {α : Type} : List α → Nat → Bool
  | [], 0 => true
  | _ :: xs, n + 1 => lenIs xs n
  | _, _ => false

def dcell (k r j : Nat) (c : CV) : XV :=
  match c with
  | .int i n => .c (.int i n)
  | .bool b => .c (.bool b)
  | .str s => .c (.str s)
  | .iface b => .c (.iface b)
  | .slice _ _ => .dn k r j
  | .own _ _ => .dn k r j
  | _ => .dead
def dcells (k r : Nat) : Nat → List CV → List XV
  | _, [] => []
  | j, c :: cs => dcell k r j c :: dcells k r (j + 1) cs

def loadK (h : Heap) (t : TI) (a : PV) (K : PV → Prop) : Prop :=
  match t.size with
  | 0 => False
  | m + 1 => match a with
    | .one (.c (.ptr sz cs)) => match Nat.beq sz (m + 1) with
      | true => forceXs (cs.map XV.c) fun xs => oneOr t.agg xs K
      | false => False
    | .one (.pb k o n) => match findB h k, Nat.beq n (m + 1) with
      | some (.box cs), true => subK cs o n fun xs => oneOr t.agg xs K
      | _, _ => False
    | .one (.pe k r o n) => match find h k, Nat.beq n (m + 1) with
      | some (.arr _ rows), true => Pick (fun row => rows[r]? = some row) fun row => subK (row.map XV.c) o n fun xs => oneOr t.agg xs K
      | _, _ => False
    | .one (.dp k r o n) => match find h k, Nat.beq n (m + 1) with
      | some (.deep _ _ rows), true => Pick (fun row => rows[r]? = some row) fun row => subK (dcells k r 0 row) o n fun xs => oneOr t.agg xs K
      | _, _ => False
    | _ => False

def fieldAddrK (t : TI) (a : PV) (f : Nat) (K : PV → Prop) : Prop :=
  match t.fields[f]? with
  | some (off, n, _) => match Nat.beq n 0, a with
    | false, .one (.c (.ptr sz cs)) => match Nat.ble (off + n) sz with
      | true => K (.one (.c (.ptr n (sub cs off n))))
      | false => False
    | false, .one (.pb k o m) => match Nat.ble (off + n) m with
      | true => K (.one (.pb k (o + off) n))
      | false => False
    | false, .one (.pe k r o m) => match Nat.ble (off + n) m with
      | true => K (.one (.pe k r (o + off) n))
      | false => False
    | false, .one (.dp k r o m) => match Nat.ble (off + n) m with
      | true => K (.one (.dp k r (o + off) n))
      | false => False
    | _, _ => False
  | none => False

def intIx (i : PV) (K : Int → Prop) : Prop :=
  match i with
  | .one (.c (.int _ n)) => K n
  | _ => False

def indexAddrK (h : Heap) (t : TI) (a i : PV) (K : PV → Prop) : Prop :=
  intIx i fun n =>
  match a, t.slice with
  | .one (.c (.slice sz es)), some (sz', _) => match Nat.beq sz sz' with
    | true => Pick (fun row => 0 ≤ n ∧ es[n.toNat]? = some row) fun row => K (.one (.c (.ptr sz row)))
    | false => False
  | .one (.rs k), some (sz', _) => match find h k with
    | some (.arr sz rows) => match Nat.beq sz sz' with
      | true => Side (0 ≤ n ∧ n < rows.length) (K (.one (.pe k n.toNat 0 sz)))
      | false => False
    | _ => False
  | .one (.ds k), some (sz', _) => match find h k with
    | some (.deep _ sz rows) => match Nat.beq sz sz' with
      | true => Side (0 ≤ n ∧ n < rows.length) (K (.one (.dp k n.toNat 0 sz)))
      | false => False
    | _ => False
  | .one (.ru k o l), some (sz', _) => match find h k with
    | some (.arr sz rows) => match Nat.beq sz sz' with
      | true => Side (0 ≤ n ∧ n < l ∧ o + l ≤ rows.length) (K (.one (.pe k (o + n.toNat) 0 sz)))
      | false => False
    | _ => False
  | _, _ => False

def maxK (a b : PV) (K : PV → Prop) : Prop :=
  match a, b with
  | .one (.c (.int .i64 x)), .one (.c (.int .i64 y)) => K (.one (.c (.int .i64 (if y > x then y else x))))
  | _, _ => False

def minK (a b : PV) (K : PV → Prop) : Prop :=
  match a, b with
  | .one (.c (.int .i64 x)), .one (.c (.int .i64 y)) => K (.one (.c (.int .i64 (if y < x then y else x))))
  | _, _ => False

def lenK (h : Heap) (t : TI) (a : PV) (K : PV → Prop) : Prop :=
  match t.slice, t.str, a with
  | some _, _, .one (.c (.slice _ es)) => K (.one (.c (.int .i64 es.length)))
  | some _, _, .one (.nil _) => K (.one (.c (.int .i64 0)))
  | some _, _, .one (.rs k) => match find h k with
    | some (.arr _ rows) => K (.one (.c (.int .i64 rows.length)))
    | _ => False
  | some _, _, .one (.ru _ _ l) => K (.one (.c (.int .i64 l)))
  | some _, _, .one (.ds k) => match find h k with
    | some (.deep _ _ rows) => K (.one (.c (.int .i64 rows.length)))
    | _ => False
  | _, true, .one (.c (.str s)) => K (.one (.c (.int .i64 s.size)))
  | _, _, _ => False

def cellsEq : List LK → List XV → List XV → Option Bool
  | [], [], [] => some true
  | .int k :: ls, .c (.int k1 a) :: xs, .c (.int k2 b) :: ys => match decide (k1 = k), decide (k2 = k), cellsEq ls xs ys with
    | true, true, some r => some ((a == b) && r)
    | _, _, _ => none
  | .bool :: ls, .c (.bool a) :: xs, .c (.bool b) :: ys => match cellsEq ls xs ys with | some r => some ((a == b) && r) | none => none
  | .str :: ls, .c (.str a) :: xs, .c (.str b) :: ys => match cellsEq ls xs ys with | some r => some ((a == b) && r) | none => none
  | _, _, _ => none

def binK (op : BinOp) (t : TI) (yc : Bool) (x y : PV) (K : PV → Prop) : Prop :=
  let B (b : Bool) : Prop := K (.one (.c (.bool b)))
  let W (k : IntKind) (n : Int) : Prop := Pick (fun z => k.wrap n = z) fun z => K (.one (.c (.int k z)))
  match x, y with
  | .one (.c (.int k a)), .one (.c (.int k' b)) =>
    match op with
    | .shl => Side (0 ≤ b) (W k (a * 2 ^ (min b.toNat k.bits)))
    | .shr => Side (0 ≤ b) (K (.one (.c (.int k (a.fdiv (2 ^ (min b.toNat k.bits)))))))
    | _ => match decide (k = k') with
      | false => False
      | true => match op with
        | .add => W k (a + b)
        | .sub => W k (a - b)
        | .mul => W k (a * b)
        | .quo => Side (b ≠ 0) (W k (a.tdiv b))
        | .rem => Side (b ≠ 0) (K (.one (.c (.int k (a.tmod b)))))
        | .and => K (.one (.c (.int k (k.wrap (BitVec.ofInt k.bits a &&& BitVec.ofInt k.bits b).toNat))))
        | .or => K (.one (.c (.int k (k.wrap (BitVec.ofInt k.bits a ||| BitVec.ofInt k.bits b).toNat))))
        | .xor => K (.one (.c (.int k (k.wrap (BitVec.ofInt k.bits a ^^^ BitVec.ofInt k.bits b).toNat))))
        | .eql => B (a == b)
        | .neq => B (a != b)
        | .lss => B (decide (a < b))
        | .leq => B (decide (a ≤ b))
        | .gtr => B (decide (a > b))
        | .geq => B (decide (a ≥ b))
        | _ => False
  | .one (.c (.str a)), .one (.c (.str b)) =>
    match op with
    | .add => Side (((a.size + b.size : Nat) : Int) ≤ IntKind.i64.max) (K (.one (.c (.str (a ++ b)))))
    | .eql => B (a.toList == b.toList)
    | .neq => B (!(a.toList == b.toList))
    | .lss => B (Op.bytesLess a.toList b.toList)
    | .leq => B (Op.bytesLess a.toList b.toList || a.toList == b.toList)
    | .gtr => B (!(Op.bytesLess a.toList b.toList || a.toList == b.toList))
    | .geq => B (!(Op.bytesLess a.toList b.toList))
    | _ => False
  | .one (.c (.bool a)), .one (.c (.bool b)) =>
    match op, t.bool with
    | .eql, true => B (a == b)
    | .neq, true => B (!(a == b))
    | _, _ => False
  | .one (.c (.iface a)), .one (.c (.iface b)) =>
    match t.iface, yc, b with
    | true, true, true => match op with
      | .eql => B a
      | .neq => B (!a)
      | _ => False
    | _, _, _ => False
  | .agg xs, .agg ys =>
    match t.agg, t.eq with
    | true, some ls => match op, cellsEq ls xs ys with
      | .eql, some b => B b
      | .neq, some b => B (!b)
      | _, _ => False
    | _, _ => False
  | _, _ => False

def unK (op : UnOp) (x : PV) (K : PV → Prop) : Prop :=
  match op, x with
  | .not, .one (.c (.bool b)) => K (.one (.c (.bool (!b))))
  | .neg, .one (.c (.int k n)) => Pick (fun z => k.wrap (0 - n) = z) fun z => K (.one (.c (.int k z)))
  | _, _ => False

def boundsOf (n : Nat) (lo hi : Option Int) (K : Nat → Nat → Prop) : Prop :=
  match lo, hi with
  | none, none => K 0 n
  | some l, none => Side (0 ≤ l ∧ l ≤ n) (K l.toNat n)
  | none, some h => Side (0 ≤ h ∧ h ≤ n) (K 0 h.toNat)
  | some l, some h => Side (0 ≤ l ∧ l ≤ h ∧ h ≤ n) (K l.toNat h.toNat)

def sliceK (h : Heap) (t : TI) (x : PV) (lo hi : Option Int) (K : PV → Prop) : Prop :=
  match t.slice, t.str, x with
  | _, true, .one (.c (.str s)) => boundsOf s.size lo hi fun l h => K (.one (.c (.str (s.extract l h))))
  | some (sz', _), _, .one (.c (.slice sz es)) => match Nat.beq sz sz' with
    | true => boundsOf es.length lo hi fun l h => K (.one (.c (.slice sz ((es.take h).drop l))))
    | false => False
  | some (sz', _), _, .one (.rs k) => match find h k with
    | some (.arr sz rows) => match Nat.beq sz sz' with
      | true => boundsOf rows.length lo hi fun l h => K (.one (.ru k l (h - l)))
      | false => False
    | _ => False
  | some (sz', _), _, .one (.nil sz) => boundsOf 0 lo hi fun _ _ => K (.one (.nil sz))
  | _, _, _ => False

def fillX (cells : List XV) (off : Nat) : List XV → List XV
  | [] => cells
  | x :: xs => fillX (cells.set off x) (off + 1) xs

def PV.cellsX : PV → Option (List XV)
  | .one x => some [x]
  | .agg xs => some xs
  | .tup _ => none

def XV.live : XV → Bool
  | .dead | .undef => false
  | _ => true

def pureB (vs : List PV) : Option (List (Bool × List CV)) :=
  match vs with
  | [] => some []
  | v :: vs => match (match v with
      | .one x => x.pure?.map fun c => (false, [c])
      | .agg xs => (pures xs).map fun cs => (true, cs)
      | .tup _ => none), pureB vs with
    | some c, some cs => some (c :: cs)
    | _, _ => none

end Go.Proofs.YtnafogjagbhdbaaDoor.Pi
/- What it means that a machine value, in a world, is of a pure content; what a call of a function over pure contents gives ('Sat'). No statement of the seat is proved here. -/
namespace Go.Proofs.YtnafogjagbhdbaaDoor.Pi
open Go Go.RowKit

inductive RepC (I : Nat → Prop) (w : World) : Value → CV → Prop
  | int (k : IntKind) (n : Int) : RepC I w (.int k n) (.int k n)
  | bool (b : Bool) : RepC I w (.bool b) (.bool b)
  | str (s : ByteArray) : RepC I w (.string s) (.str s)
  | nil (sz : Nat) : RepC I w (.slice none 0 0) (.slice sz [])
  | empty (a : Addr) (cap sz : Nat) : RepC I w (.slice (some a) 0 cap) (.slice sz [])
  | slice (b off cap sz n : Nat) (es : List (List CV)) (vs : Nat → Nat → Value) (hI : I b) (hn : es.length = n) (hcap : n ≤ cap) (hsz : ∀ (i : Nat) (r : List CV), es[i]? = some r → r.length = sz)
      (hc : ∀ (i : Nat) (r : List CV) (j : Nat) (c : CV), es[i]? = some r → r[j]? = some c → w.cell? ⟨b, off + (i * sz + j), none⟩ = some (vs i j))
      (hr : ∀ (i : Nat) (r : List CV) (j : Nat) (c : CV), es[i]? = some r → r[j]? = some c → RepC I w (vs i j) c) : RepC I w (.slice (some ⟨b, off, none⟩) n cap) (.slice sz es)
  | ptr (b off sz : Nat) (cs : List CV) (vs : Nat → Value) (hI : I b) (hsz : cs.length = sz)
      (hc : ∀ (j : Nat) (c : CV), cs[j]? = some c → w.cell? ⟨b, off + j, none⟩ = some (vs j))
      (hr : ∀ (j : Nat) (c : CV), cs[j]? = some c → RepC I w (vs j) c) : RepC I w (.pointer (some ⟨b, off, none⟩)) (.ptr sz cs)
  | fn (f : Nat) (vs : Array Value) (cs : List CV) (hsz : vs.size = cs.length) (hr : ∀ (i : Nat) (c : CV) (v : Value), cs[i]? = some c → vs[i]? = some v → RepC I w v c) : RepC I w (.func (.func f) #[] vs) (.fn f cs)
  | nilI : RepC I w .nilIface (.iface true)
  | someI (t : TypeId) (v : Value) : RepC I w (.iface t v) (.iface false)
  | own (v : Value) (sz : Nat) (es : List (List CV)) (h : RepC I w v (.slice sz es)) : RepC I w v (.own sz es)
  | hole (base : Option Addr) (n cap : Nat) : RepC I w (.slice base n cap) .hole
  | nilP : RepC I w (.pointer none) (.ptr 0 [])

def OwnV (w : World) (J : Nat → Prop) (sz : Nat) (v : Value) : Prop :=
  v = .slice none 0 0 ∨ ∃ (b n cap : Nat) (vs : Array Value) (e : TypeId) (fr : Nat × Nat), v = .slice (some ⟨b, 0, none⟩) n cap ∧ J b ∧ w.heap[b]? = some (.cells vs e fr) ∧ cap * sz ≤ vs.size ∧ ∀ o, o < vs.size → w.frozen? ⟨b, o, none⟩ = false

inductive RepD (w : World) : (Nat → Prop) → Value → CV → Prop
  | int (J : Nat → Prop) (k : IntKind) (n : Int) : RepD w J (.int k n) (.int k n)
  | bool (J : Nat → Prop) (b : Bool) : RepD w J (.bool b) (.bool b)
  | str (J : Nat → Prop) (s : ByteArray) : RepD w J (.string s) (.str s)
  | nilI (J : Nat → Prop) : RepD w J .nilIface (.iface true)
  | someI (J : Nat → Prop) (t : TypeId) (v : Value) : RepD w J (.iface t v) (.iface false)
  | nil (J : Nat → Prop) (sz : Nat) : RepD w J (.slice none 0 0) (.slice sz [])
  | empty (J : Nat → Prop) (a : Addr) (cap sz : Nat) : RepD w J (.slice (some a) 0 cap) (.slice sz [])
  | slice (J : Nat → Prop) (b cap sz : Nat) (rows : List (List CV)) (vs : Array Value) (e : TypeId) (fr : Nat × Nat) (Js : Nat → Nat → Prop) (f : Nat → Value) (hJ : J b) (hcap : rows.length ≤ cap)
      (hsz : ∀ (i : Nat) (r : List CV), rows[i]? = some r → r.length = sz) (hb : w.heap[b]? = some (.cells vs e fr)) (hvs : cap * sz ≤ vs.size) (hfz : ∀ o, o < vs.size → w.frozen? ⟨b, o, none⟩ = false)
      (hc : ∀ (i : Nat) (r : List CV) (j : Nat) (c : CV), rows[i]? = some r → r[j]? = some c → vs[i * sz + j]? = some (f (i * sz + j)))
      (hr : ∀ (i : Nat) (r : List CV) (j : Nat) (c : CV), rows[i]? = some r → r[j]? = some c → RepD w (Js (i * sz + j)) (f (i * sz + j)) c)
      (hJs : ∀ x b', Js x b' → J b' ∧ b' ≠ b) (hdis : ∀ x y b', Js x b' → Js y b' → x = y) : RepD w J (.slice (some ⟨b, 0, none⟩) rows.length cap) (.slice sz rows)
  | own (J : Nat → Prop) (v : Value) (sz : Nat) (rows : List (List CV)) (h : RepD w J v (.slice sz rows)) (hs : OwnV w J sz v) : RepD w J v (.own sz rows)
  | hole (J : Nat → Prop) (base : Option Addr) (n cap : Nat) : RepD w J (.slice base n cap) .hole

def CV.isSlice : CV → Bool
  | .slice _ _ => true
  | .own _ _ => true
  | _ => false

def DRows (w : World) (J : Nat → Prop) (hd : Nat → Value) (b cap sz : Nat) (rows : List (List CV)) : Prop :=
  rows.length ≤ cap ∧ (∀ (i : Nat) (r : List CV), rows[i]? = some r → r.length = sz) ∧ ∃ (vs : Array Value) (e : TypeId) (fr : Nat × Nat) (Js : Nat → Nat → Prop), w.heap[b]? = some (.cells vs e fr) ∧ cap * sz ≤ vs.size ∧ (∀ o, o < vs.size → w.frozen? ⟨b, o, none⟩ = false) ∧
    (∀ (i : Nat) (r : List CV) (j : Nat) (c : CV), rows[i]? = some r → r[j]? = some c → ∃ v, vs[i * sz + j]? = some v ∧ RepD w (Js (i * sz + j)) v c ∧ (c.isSlice = true → v = hd (i * sz + j))) ∧
    (∀ x b', Js x b' → J b') ∧ (∀ x y b', Js x b' → Js y b' → x = y)

abbrev Comp := Bool × List CV
def RepComp (I : Nat → Prop) (w : World) (v : Value) : Comp → Prop
  | (false, [c]) => RepC I w v c
  | (false, _) => False
  | (true, cs) => ∃ vs : Array Value, v = .agg vs ∧ vs.size = cs.length ∧ ∀ (i : Nat) (c : CV) (v : Value), cs[i]? = some c → vs[i]? = some v → RepC I w v c

structure Lay where
  blk : Nat → Option Nat
  cap : Nat → Nat
  fp : Nat → Nat → Prop
  hd : Nat → Nat → Value

abbrev Foot (L : Lay) (k b : Nat) : Prop := L.blk k = some b ∨ L.fp k b

def emptyV (v : Value) : Prop := v = .slice none 0 0 ∨ ∃ a cap, v = .slice (some a) 0 cap

def RepX (L : Lay) (H : Heap) (I : Nat → Prop) (w : World) (v : Value) : XV → Prop
  | .c c => RepC I w v c
  | .nil _ => v = .slice none 0 0
  | .rs k => ∃ sz rows, find H k = some (.arr sz rows) ∧ (match L.blk k with
      | none => v = .slice none 0 0
      | some b => v = .slice (some ⟨b, 0, none⟩) rows.length (L.cap k))
  | .ru k off len => ∃ sz rows, find H k = some (.arr sz rows) ∧ off + len ≤ rows.length ∧ (match L.blk k with
      | none => v = .slice none 0 0
      | some b => ∃ q, off + len ≤ L.cap k ∧ (0 < len ∨ off = 0 → q = off * sz) ∧ v = .slice (some ⟨b, q, none⟩) len (L.cap k - off))
  | .pb k off len => ∃ cs b, find H k = some (.box cs) ∧ L.blk k = some b ∧ off + len ≤ cs.length ∧ v = .pointer (some ⟨b, off, none⟩)
  | .pe k row off len => ∃ sz rows b, find H k = some (.arr sz rows) ∧ L.blk k = some b ∧ row < rows.length ∧ off + len ≤ sz ∧ v = .pointer (some ⟨b, row * sz + off, none⟩)
  | .ds k => ∃ a sz rows, find H k = some (.deep a sz rows) ∧ (match L.blk k with
      | none => emptyV v ∧ (a = true → v = .slice none 0 0)
      | some b => v = .slice (some ⟨b, 0, none⟩) rows.length (L.cap k))
  | .dp k row off len => ∃ a sz rows b, find H k = some (.deep a sz rows) ∧ L.blk k = some b ∧ row < rows.length ∧ off + len ≤ sz ∧ v = .pointer (some ⟨b, row * sz + off, none⟩)
  | .dn k row j => ∃ a sz rows, find H k = some (.deep a sz rows) ∧ row < rows.length ∧ v = L.hd k (row * sz + j) ∧ ∃ base n cap, v = .slice base n cap
  | .fb f cs k n ds => ∃ vs cells b, v = .func (.func f) #[] vs ∧ find H k = some (.box cells) ∧ L.blk k = some b ∧ cells.length = n ∧ vs.size = cs.length + 1 + ds.length ∧
      (∀ (i : Nat) (c : CV) (u : Value), cs[i]? = some c → vs[i]? = some u → RepC I w u c) ∧ vs[cs.length]? = some (.pointer (some ⟨b, 0, none⟩)) ∧
      (∀ (i : Nat) (c : CV) (u : Value), ds[i]? = some c → vs[cs.length + 1 + i]? = some u → RepC I w u c)
  | .undef => v = undef
  | .dead => True

def RepXs (L : Lay) (H : Heap) (I : Nat → Prop) (w : World) (vs : Array Value) (xs : List XV) : Prop :=
  vs.size = xs.length ∧ ∀ (i : Nat) (x : XV) (v : Value), xs[i]? = some x → vs[i]? = some v → RepX L H I w v x
def RepB (L : Lay) (H : Heap) (I : Nat → Prop) (w : World) (v : Value) : Bool × List XV → Prop
  | (false, [x]) => RepX L H I w v x
  | (false, _) => False
  | (true, xs) => ∃ vs, v = .agg vs ∧ RepXs L H I w vs xs

def RepP (L : Lay) (H : Heap) (I : Nat → Prop) (w : World) (v : Value) : PV → Prop
  | .one x => RepX L H I w v x
  | .agg xs => ∃ vs, v = .agg vs ∧ RepXs L H I w vs xs
  | .tup ps => ∃ vs : Array Value, v = .tuple vs ∧ vs.size = ps.length ∧ ∀ (i : Nat) (p : Bool × List XV) (v : Value), ps[i]? = some p → vs[i]? = some v → RepB L H I w v p

def oneCell (v : Value) : Prop := (∀ cs, v ≠ .agg cs) ∧ (∀ vs, v ≠ .tuple vs)

def BldAt (L : Lay) (w : World) (k b : Nat) (l : List UInt8) : Prop :=
  ∃ p v, w.heap[b]? = some (.cells #[p, v] TB (0, 0)) ∧ (p = .pointer none ∨ p = .pointer (some ⟨b, 0, none⟩)) ∧ w.ownsRow 0 T5 1 v l.length (Lib.byteCells l) ∧ ∀ g, v.ownBlock = some g → L.fp k g ∧ g ≠ b
theorem BldAt.ext {L L' : Lay} {w w' : World} {k k' b : Nat} {l : List UInt8} (hb : w'.heap[b]? = w.heap[b]?) (hg : ∀ g, L.fp k g → w'.heap[g]? = w.heap[g]?) (hf : ∀ g, L.fp k g → L'.fp k' g) (h : BldAt L w k b l) : BldAt L' w' k' b l := by
  obtain ⟨p, v, h1, h2, ⟨h3, h4⟩, h5⟩ := h
  refine ⟨p, v, by rw [hb]; exact h1, h2, ⟨h3, ?_⟩, fun g h => ⟨hf g (h5 g h).1, (h5 g h).2⟩⟩
  rcases h4 with h4 | ⟨g, cap, cur, e1, e2, e3, e4⟩
  · exact .inl h4
  · exact .inr ⟨g, cap, cur, e1, e2, by rw [hg g (h5 g (by rw [e1]; rfl)).1]; exact e3, e4⟩
def RepO (L : Lay) (H : Heap) (I : Nat → Prop) (w : World) (k : Nat) : Ob → Prop
  | .box cs => match bK k with
    | true => ∃ b l, cs = [.c (.str ⟨l.toArray⟩)] ∧ L.blk k = some b ∧ BldAt L w k b l
    | false => ∃ b vs e fr, L.blk k = some b ∧ w.heap[b]? = some (.cells vs e fr) ∧ (∀ o, o < vs.size → w.frozen? ⟨b, o, none⟩ = false) ∧ (∀ (i : Nat) (v : Value), vs[i]? = some v → oneCell v) ∧ RepXs L H I w vs cs
  | .arr sz rows => match L.blk k with
    | none => rows = []
    | some b => rows.length ≤ L.cap k ∧ (∀ (i : Nat) (r : List CV), rows[i]? = some r → r.length = sz) ∧ ∃ vs e fr, w.heap[b]? = some (.cells vs e fr) ∧ L.cap k * sz ≤ vs.size ∧ (∀ o, o < vs.size → w.frozen? ⟨b, o, none⟩ = false) ∧
        ∀ (i : Nat) (r : List CV) (j : Nat) (c : CV), rows[i]? = some r → r[j]? = some c → ∃ v, vs[i * sz + j]? = some v ∧ RepC I w v c
  | .deep _ sz rows => match L.blk k with
    | none => rows = []
    | some b => DRows w (L.fp k) (L.hd k) b (L.cap k) sz rows ∧ ¬ L.fp k b

structure HeapOK (O : Nat → Prop) (L : Lay) (H : Heap) (I : Nat → Prop) (w : World) : Prop where
  ob : ∀ k o, find H k = some o → RepO L H I w k o
  own : ∀ k o b, find H k = some o → Foot L k b → O b ∧ ¬ I b ∧ b < w.heap.size
  inj : ∀ k k' o o' b, find H k = some o → find H k' = some o' → Foot L k b → Foot L k' b → k = k'

abbrev Res := PV × Heap

def OutG (w' w : World) : Prop := w'.output = w.output ∧ (drawG = true → w.drawn ≤ w'.drawn)
theorem OutG.rfl {w : World} : OutG w w := ⟨Eq.refl _, fun _ => Nat.le_refl _⟩
theorem OutG.trans {w2 w1 w0 : World} (h : OutG w2 w1) (k : OutG w1 w0) : OutG w2 w0 := ⟨h.1.trans k.1, fun d => Nat.le_trans (k.2 d) (h.2 d)⟩
structure Blw (w w' : World) : Prop where
  os : w'.os = w.os
  tape : w'.tape = w.tape
  output : OutG w' w
  size : w.heap.size ≤ w'.heap.size
  block : ∀ b, b < w.heap.size → w'.heap[b]? = w.heap[b]?
theorem Blw.below {w w' : World} (h : Blw w w') : Below w.heap.size w w' := ⟨h.os, h.tape, h.output.1, h.size, h.block⟩

def Back (I : Nat → Prop) (w : World) (r : Res) (v : Value) (w' : World) : Prop :=
  Blw w w' ∧ ∃ L I', (∀ b, b < w.heap.size → I' b → I b) ∧ (∀ b, I' b → b < w'.heap.size) ∧ RepP L r.2 I' w' v r.1 ∧ HeapOK (fun b => w.heap.size ≤ b) L r.2 I' w'

def Post (I : Nat → Prop) (w : World) (r : Res) : Ending → World → Prop
  | .returned v, w' => Back I w r v w'
  | .outgrown, _ => False
  | .panicked _, _ => False

def Ent (P : Program) (f : FuncId) : Prop := ∃ fn, P.funcs[f]? = some fn ∧ fn.body.isNone = false ∧ (fn.name == "runtime.NumGoroutine") = false

def LaidIn (O : Nat → Prop) (w : World) : Prop := ∀ p ∈ laid, ¬ O p.1 ∧ p.1 < w.heap.size ∧ ∃ T fr, w.heap[p.1]? = some (.cells p.2 T fr)
theorem LaidIn.to {O O' : Nat → Prop} {w w' : World} (h : LaidIn O w) (hO : ∀ b, O' b → O b ∨ w.heap.size ≤ b) (hs : w.heap.size ≤ w'.heap.size) (hb : ∀ b, b < w.heap.size → ¬ O b → w'.heap[b]? = w.heap[b]?) : LaidIn O' w' := fun p hp => by
  obtain ⟨h1, h2, T, fr, h3⟩ := h p hp
  exact ⟨fun k => (hO _ k).elim h1 fun k => by omega, by omega, T, fr, by rw [hb _ h2 h1]; exact h3⟩
def Sat (P : Program) (f : FuncId) (args : List Comp) (r : Res) : Prop :=
  Ent P f ∧ ∀ (I : Nat → Prop) (w : World) (vals : Array Value), LaidIn (fun _ => False) w → (∀ b, I b → b < w.heap.size) → vals.size = args.length →
    (∀ (i : Nat) (c : Comp) (v : Value), args[i]? = some c → vals[i]? = some v → RepComp I w v c) → Calls P f vals w (Post I w r)

structure Kept (O : Nat → Prop) (w w' : World) : Prop where
  os : w'.os = w.os
  tape : w'.tape = w.tape
  output : OutG w' w
  size : w.heap.size ≤ w'.heap.size
  block : ∀ b, b < w.heap.size → ¬ O b → w'.heap[b]? = w.heap[b]?

def BackM (O I : Nat → Prop) (w : World) (L0 : Lay) (r : Res) (v : Value) (w' : World) : Prop :=
  Kept O w w' ∧ ∃ L I', (∀ b, b < w.heap.size → I' b → I b ∨ O b) ∧ (∀ b, I' b → b < w'.heap.size) ∧ RepP L r.2 I' w' v r.1 ∧ HeapOK (fun b => w.heap.size ≤ b ∨ O b) L r.2 I' w' ∧
    ∀ k o, pinK k = true → find r.2 k = some o → L.blk k = L0.blk k ∧ L.cap k = L0.cap k

def PostM (O I : Nat → Prop) (w : World) (L0 : Lay) (r : Res) : Ending → World → Prop
  | .returned v, w' => BackM O I w L0 r v w'
  | .outgrown, _ => False
  | .panicked _, _ => False

def SatM (P : Program) (f : FuncId) (args : List PV) (H : Heap) (r : Res) : Prop :=
  Ent P f ∧ ∀ (O I : Nat → Prop) (w : World) (L0 : Lay) (vals : Array Value), LaidIn O w → (∀ b, I b → b < w.heap.size) → vals.size = args.length →
    (∀ (i : Nat) (p : PV) (v : Value), args[i]? = some p → vals[i]? = some v → RepP L0 H I w v p) → HeapOK O L0 H I w → Calls P f vals w (PostM O I w L0 r)

end Go.Proofs.YtnafogjagbhdbaaDoor.Pi
/- The predicate transformer 'pwp': what has to hold of an abstract state so that the code comes to its end as wanted. No statement of the seat is proved here. -/
namespace Go.Proofs.YtnafogjagbhdbaaDoor.Pi
open Go
set_option linter.unusedVariables false

def argsK (regs : List PV) (tt : TT) : List Operand → List TypeId → (List PV → Prop) → Prop
  | [], _, K => K []
  | x :: xs, ts, K => opd regs x (tt (ts.headD 0)) fun v => argsK regs tt xs ts.tail fun vs => K (v :: vs)

def snapX (h : Heap) : Nat → XV → Option CV
  | _, .c y => some y
  | _, .nil sz => some (.slice sz [])
  | _, .rs k => match find h k with | some (.arr sz rows) => some (.slice sz rows) | _ => none
  | _, .ru k off len => match find h k with | some (.arr sz rows) => some (.slice sz ((rows.drop off).take len)) | _ => none
  | _, .ds k => match find h k with | some (.deep _ sz rows) => some (.slice sz rows) | _ => none
  | f + 1, .fb g pre k n post => match findB h k with
    | some (.box cs) => match snapXs (snapX h f) cs with | some ys => some (.fn g (pre ++ .ptr n ys :: post)) | none => none
    | _ => none
  | f + 1, .pb k off len => match findB h k with
    | some (.box cs) => match snapXs (snapX h f) cs with | some ys => some (.ptr len (sub ys off len)) | none => none
    | _ => none
  | _, _ => none
where snapXs (g : XV → Option CV) : List XV → Option (List CV)
  | [] => some []
  | x :: xs => match g x, snapXs g xs with | some y, some ys => some (y :: ys) | _, _ => none

def snapB (h : Heap) : List PV → Option (List Comp)
  | [] => some []
  | v :: vs => match (match v with
      | .one x => (snapX h 3 x).map fun y => (false, [y])
      | .agg xs => (snapX.snapXs (snapX h 3) xs).map fun ys => (true, ys)
      | .tup _ => none), snapB h vs with
    | some y, some ys => some (y :: ys)
    | _, _ => none

def noKeyX : List XV → Bool
  | [] => true
  | x :: xs => match x.key? with | some _ => false | none => noKeyX xs
def noKeyP : PV → Bool
  | .one x => noKeyX [x]
  | .agg xs => noKeyX xs
  | .tup vs => vs.all fun p => noKeyX p.2
def noKeys : List PV → Bool
  | [] => true
  | v :: vs => match noKeyP v with | true => noKeys vs | false => false
def PV.scalar : PV → Bool
  | .one x => x.scalar
  | .agg xs => xs.all XV.scalar
  | .tup vs => vs.all fun p => p.2.all XV.scalar

def frzXs (h : Heap) : List XV → Option (List XV)
  | [] => some []
  | x :: xs => match snapX h 3 x, frzXs h xs with | some y, some ys => some (.c y :: ys) | _, _ => none
def frzT (h : Heap) : List (Bool × List XV) → Option (List (Bool × List XV))
  | [] => some []
  | (b, x) :: xs => match frzXs h x, frzT h xs with | some y, some ys => some ((b, y) :: ys) | _, _ => none
def frzP (r : Res) : Option PV :=
  match r with
  | (.one x, h) => match snapX h 3 x with | some y => some (.one (.c y)) | none => none
  | (.agg xs, h) => match frzXs h xs with | some ys => some (.agg ys) | none => none
  | (.tup vs, h) => match frzT h vs with | some ys => some (.tup ys) | none => none

def convertQ (h : Heap) (src dst : TI) (ik : Option IntKind) (v : PV) (K : PV → Prop) : Prop :=
  match ik, v, src.size with
  | some k, .one (.c (.int _ n)), _ + 1 => Pick (fun z => k.wrap n = z) fun z => K (.one (.c (.int k z)))
  | _, _, _ => False

def extractK (v : PV) (i : Nat) (K : PV → Prop) : Prop :=
  match v with
  | .tup vs => match vs[i]? with | some (b, xs) => oneOr b xs K | none => False
  | _ => False

def fieldK (t : TI) (v : PV) (f : Nat) (K : PV → Prop) : Prop :=
  match t.fields[f]?, v with
  | some (off, n, agg), .agg xs => subK xs off n fun ys => oneOr agg ys K
  | _, _ => False

def indexQ (v i : PV) (K : PV → Prop) : Prop :=
  match v, i with
  | .one (.c (.str s)), .one (.c (.int _ n)) => Pick (fun b => 0 ≤ n ∧ s[n.toNat]? = some b) fun b => K (.one (.c (.int .u8 b.toNat)))
  | _, _ => False

def optInt (regs : List PV) (tt : TT) (x : Option Operand) (K : Option Int → Prop) : Prop :=
  match x with
  | none => K none
  | some x => opd regs x (tt 0) fun v => intIx v fun n => K (some n)

def allLive (xs : List XV) : Bool := match xs with | [] => true | x :: xs => match x.live with | true => allLive xs | false => false

def buildK (t : TI) : List (Nat × PV) → List XV → (PV → Prop) → Prop
  | [], cells, K => forceXs cells fun xs => K (.agg xs)
  | (f, v) :: ps, cells, K => match t.fields[f]?, v.cellsX with
    | some (off, n, _), some xs => match lenIs xs n, Nat.ble (off + n) cells.length, allLive xs with
      | true, true, true => buildK t ps (fillX cells off xs) K
      | _, _, _ => False
    | _, _ => False

def partsK (regs : List PV) (tt : TT) (ft : Nat → Nat) : List (Nat × Operand) → (List (Nat × PV) → Prop) → Prop
  | [], K => K []
  | (i, x) :: xs, K => opd regs x (tt (ft i)) fun v => partsK regs tt ft xs fun vs => K ((i, v) :: vs)

/-! ### own results, own arguments -/
def ownX : List XV → Bool
  | [] => true
  | .c c :: xs => match c.scalar with | true => ownX xs | false => false
  | .ds _ :: xs => ownX xs
  | _ => false
def ownP : PV → Bool
  | .one x => ownX [x]
  | .agg xs => ownX xs
  | .tup vs => vs.all fun p => ownX p.2
def ownH : Heap → Bool
  | [] => true
  | (_, .deep _ _ _) :: h => ownH h
  | _ => false
def ownRes (r : Res) : Bool := match ownH r.2 with | true => ownP r.1 | false => false

def sclRows (rows : List (List CV)) : Prop := ∀ r ∈ rows, ∀ c ∈ r, c.scalar = true
def ruRes (p : PV) (h : Heap) : Option (List (List CV)) := match p, h with
  | .tup ((false, [.ru _ _ _]) :: vs), [(_, .arr _ rows)] => match vs.all fun p => ownX p.2 with | true => some rows | false => none
  | _, _ => none

def callQ (P : Program) (h : Heap) (f : PV) (vs : List PV) (K : PV → Prop) : Prop :=
  match f, snapB h vs with
  | .one (.c (.fn g caps)), some comps => Pick (fun r => Sat P g (comps ++ caps.map fun y => (false, [y])) r) fun r =>
      match noKeys vs with
      | true => match frzP r with | some pv => forceP pv K | none => False
      | false => match r.1.scalar with
        | true => forceP r.1 K
        | false => match ownRes r with
          | true => match frzP r with | some pv => forceP pv K | none => False
          | false => False
  | _, _ => False

def listRows (sz : Nat) : Nat → List (Nat × PV) → Option (List (List CV))
  | _, [] => some []
  | i, (j, v) :: ps => match Nat.beq i j, v.cellsX.bind pures, listRows sz (i + 1) ps with
    | true, some ys, some rows => match lenIs ys sz with | true => some (ys :: rows) | false => none
    | _, _, _ => none

def opQ (P : Program) (tt : TT) (s : St) (o : Oper) (K : PV → Prop) : Prop :=
  match o.op with
  | .move x | .assign x => opd s.regs x (tt o.type) K
  | .pick c a b => opd s.regs c (tt 0) fun v => match v with
    | .one (.c (.bool true)) => opd s.regs a (tt o.type) K
    | .one (.c (.bool false)) => opd s.regs b (tt o.type) K
    | _ => False
  | .load t a => opd s.regs a (tt 0) fun v => loadK s.heap (tt t) v K
  | .nilCheck x => opd s.regs x (tt 0) fun v => match v with
    | .one (.c (.ptr a b)) => match Nat.beq a 0 with | true => False | false => K (.one (.c (.ptr a b)))
    | .one (.pb a b c) => K (.one (.pb a b c))
    | .one (.pe a b c d) => K (.one (.pe a b c d))
    | .one (.dp a b c d) => K (.one (.dp a b c d))
    | _ => False
  | .binOp op t x y _ => opd s.regs x (tt t) fun a => opd s.regs y (tt t) fun b => binK op (tt t) (match y with | .const _ => true | _ => false) a b K
  | .unOp op _ x => opd s.regs x (tt 0) fun v => unK op v K
  | .convert src dst x => opd s.regs x (tt src) fun v => convertQ s.heap (tt src) (tt dst) (tt dst).ik v K
  | .slice t x lo hi none => opd s.regs x (tt t) fun v => optInt s.regs tt lo fun l => optInt s.regs tt hi fun h => sliceK s.heap (tt t) v l h K
  | .fieldAddr t x f => opd s.regs x (tt 0) fun v => fieldAddrK (tt t) v f K
  | .field t x f => opd s.regs x (tt t) fun v => fieldK (tt t) v f K
  | .indexAddr t x i => opd s.regs x (tt t) fun v => opd s.regs i (tt 0) fun j => indexAddrK s.heap (tt t) v j K
  | .index t x i => opd s.regs x (tt t) fun v => opd s.regs i (tt 0) fun j => match (tt t).str with | true => indexQ v j K | false => False
  | .extract x i => opd s.regs x (tt 0) fun v => extractK v i K
  | .build t ps => match (tt t).fields, (tt t).zero with
    | [], _ => False
    | _, [] => False
    | _ :: _, _ :: _ => partsK s.regs tt (fun i => ((tt t).ftypes[i]?).getD 0) ps.toList fun vs => buildK (tt t) vs (tt t).zero K
  | .buildSlice t len ps => match (tt t).slice, Nat.beq len ps.toList.length, Nat.ble (len * ((tt t).slice.getD (0, 0)).1) 16777216 with
    | some (sz, _), true, true => partsK s.regs tt (fun _ => (tt t).elem) ps.toList fun vs => match listRows sz 0 vs with
      | some rows => K (.one (.c (.slice sz rows)))
      | none => False
    | _, _, _ => False
  | .makeSlice t l c => opd s.regs l (tt 0) fun l => opd s.regs c (tt 0) fun c => intIx l fun l => intIx c fun c => match (tt t).slice with
    | some (sz, bytes) => match (tt t).ez with | [] => False | _ :: _ => Side (0 ≤ l ∧ l ≤ c ∧ c * bytes ≤ 2 ^ 46) (K (.one (.c (.slice sz (List.replicate l.toNat (tt t).ez)))))
    | none => False
  | .makeFunc (.func f) first captured => match first.toList with
    | [] => argsK s.regs tt captured.toList [] fun vs => match pureB vs with
      | some comps => match comps.all (fun p => !p.1) with
        | true => K (.one (.c (.fn f (comps.flatMap (·.2)))))
        | false => False
      | none => False
    | _ => False
  | .call c => match c.callee, c.args.toList with
    | .builtin .len, [x] => match c.argTypes.toList with
      | t :: _ => opd s.regs x (tt t) fun v => lenK s.heap (tt t) v K
      | [] => False
    | .builtin .max, [x, y] => opd s.regs x (tt 0) fun v => opd s.regs y (tt 0) fun u => maxK v u K
    | .builtin .min, [x, y] => opd s.regs x (tt 0) fun v => opd s.regs y (tt 0) fun u => minK v u K
    | .value f, args => opd s.regs f (tt 0) fun g => argsK s.regs tt args c.argTypes.toList fun vs => callQ P s.heap g vs K
    | _, _ => False
  | _ => False

/-! ### what changes the abstract state -/
def killK (k : Nat) (s : St) (K : St → Prop) : Prop :=
  match find s.heap k with
  | none => K s
  | some _ => force ⟨s.regs.map (PV.map (XV.kill k)), (del k s.heap).mapX (XV.kill k)⟩ K

def newK (k : Nat) (o : Ob) (s : St) (K : St → Prop) : Prop := match pinK k with
  | true => False
  | false => killK k s fun s => match s with | ⟨r, h⟩ => forceH (ins k o h) fun h => K ⟨r, h⟩

def renK (k k2 : Nat) (s : St) (K : St → Prop) : Prop :=
  match Nat.beq k k2 with
  | true => K s
  | false => match pinK k2 with
   | true => False
   | false => killK k2 s fun s => match find s.heap k, eqB (bK k) (bK k2) with
    | some o, true => force ⟨s.regs.map (PV.map (XV.rename k k2)), (ins k2 o (del k s.heap)).mapX (XV.rename k k2)⟩ K
    | _, _ => False

def frzX (k : Nat) (o : Ob) (x : XV) : XV :=
  match x, o with
  | .rs a, .arr sz rows => match Nat.beq a k with | true => .c (.slice sz rows) | false => x
  | .ru a off len, .arr sz rows => match Nat.beq a k with | true => .c (.slice sz ((rows.drop off).take len)) | false => x
  | .pe a row off len, .arr _ rows => match Nat.beq a k with | true => .c (.ptr len (sub (rows.getD row []) off len)) | false => x
  | .pb a off len, .box cs => match Nat.beq a k with | true => (match pures cs with | some ys => .c (.ptr len (sub ys off len)) | none => .dead) | false => x
  | .ds a, .deep _ sz rows => match Nat.beq a k with | true => .c (.slice sz rows) | false => x
  | .dp a row off len, .deep _ _ rows => match Nat.beq a k with | true => .c (.ptr len (sub (rows.getD row []) off len)) | false => x
  | .dn a _ _, _ => match Nat.beq a k with | true => .dead | false => x
  | .fb g pre a n post, .box cs => match Nat.beq a k with | true => (match pures cs with | some ys => .c (.fn g (pre ++ .ptr n ys :: post)) | none => .dead) | false => x
  | x, _ => x

def frzK (k : Nat) (s : St) (K : St → Prop) : Prop :=
  match find s.heap k with
  | some (.arr sz rows) => force ⟨s.regs.map (PV.map (frzX k (.arr sz rows))), (del k s.heap).mapX (frzX k (.arr sz rows))⟩ K
  | some (.deep a sz rows) => force ⟨s.regs.map (PV.map (frzX k (.deep a sz rows))), (del k s.heap).mapX (frzX k (.deep a sz rows))⟩ K
  | some (.box cs) => match pures cs, bK k with
    | some _, false => force ⟨s.regs.map (PV.map (frzX k (.box cs))), (del k s.heap).mapX (frzX k (.box cs))⟩ K
    | _, _ => False
  | none => K s

def keysX : List XV → List Nat
  | [] => []
  | x :: xs => match x.key? with | some k => k :: keysX xs | none => keysX xs
def keysP : PV → List Nat
  | .one x => keysX [x]
  | .agg xs => keysX xs
  | .tup vs => vs.flatMap fun p => keysX p.2
def keysPs : List PV → List Nat
  | [] => []
  | v :: vs => keysP v ++ keysPs vs

def frzKeys : Nat → List Nat → St → (St → Prop) → Prop
  | _, [], s, K => K s
  | 0, _, _, _ => False
  | f + 1, k :: ks, s, K => match find s.heap k with
    | some (.box cs) => frzKeys f (keysX cs) s fun s => frzK k s fun s => frzKeys f ks s K
    | _ => frzK k s fun s => frzKeys f ks s K

def shiftX (d : Nat) (x : XV) : XV :=
  match x with
  | .rs a => .rs (d + a)
  | .ru a o l => .ru (d + a) o l
  | .pb a o l => .pb (d + a) o l
  | .pe a r o l => .pe (d + a) r o l
  | .ds a => .ds (d + a)
  | .dp _ _ _ _ => .dead
  | .dn _ _ _ => .dead
  | .fb _ _ _ _ _ => .dead
  | x => x

def newsK (d : Nat) : Heap → St → (St → Prop) → Prop
  | [], s, K => K s
  | (k, .arr sz rows) :: h, s, K => match find h k with
    | none => newK (d + k) (.arr sz rows) s fun s => newsK d h s K
    | some _ => False
  | (k, .deep a sz rows) :: h, s, K => match find h k with
    | none => newK (d + k) (.deep a sz rows) s fun s => newsK d h s K
    | some _ => False
  | _, _, _ => False

/-! ### own arguments -/
def hasDs : List XV → Bool
  | [] => false
  | .ds _ :: _ => true
  | .dn _ _ _ :: _ => true
  | _ :: xs => hasDs xs
def hasDsP : List PV → Bool
  | [] => false
  | .one x :: vs => match hasDs [x] with | true => true | false => hasDsP vs
  | .agg xs :: vs => match hasDs xs with | true => true | false => hasDsP vs
  | .tup _ :: vs => hasDsP vs

def dedup : List Nat → List Nat
  | [] => []
  | k :: ks => match ks.contains k with | true => dedup ks | false => k :: dedup ks
def idx (k : Nat) : List Nat → Nat → Option Nat
  | [], _ => none
  | j :: js, i => match Nat.beq j k with | true => some i | false => idx k js (i + 1)

def trX (g : XV → Option XV) : List XV → Option (List XV)
  | [] => some []
  | x :: xs => match g x, trX g xs with
    | some y, some ys => some (y :: ys)
    | _, _ => none
def trP (g : XV → Option XV) : List PV → Option (List PV)
  | [] => some []
  | v :: vs => match (match v with
      | .one x => match g x with | some y => some (.one y) | none => none
      | .agg xs => match trX g xs with | some ys => some (PV.agg ys) | none => none
      | .tup _ => none), trP g vs with
    | some y, some ys => some (y :: ys)
    | _, _ => none
def gIn (ks : List Nat) (x : XV) : Option XV :=
  match x with
  | .c c => some (.c c)
  | .nil sz => some (.c (.slice sz []))
  | .ds k => match idx k ks 0 with | some i => some (XV.ds (1000000 + i)) | none => none
  | _ => none
def inH (h : Heap) : List Nat → Nat → Option Heap
  | [], _ => some []
  | k :: ks, i => match find h k, inH h ks (i + 1) with
    | some (.deep a sz rows), some r => some ((1000000 + i, .deep a sz rows) :: r)
    | _, _ => none

def setOb (h : Heap) (k : Nat) (o : Ob) : Heap := match h with
  | [] => []
  | (k', o') :: h => match Nat.beq k' k with | true => (k', o) :: h | false => (k', o') :: setOb h k o

def unDn (k : Nat) (x : XV) : XV :=
  match x with
  | .dn a _ _ => match Nat.beq a k with | true => .dead | false => x
  | x => x

def setK' (k : Nat) (o : Ob) (s : St) (K : St → Prop) : Prop :=
  force ⟨s.regs.map (PV.map (unDn k)), (setOb s.heap k o).mapX (unDn k)⟩ K

def backK (out : Heap) : List Nat → Nat → St → (St → Prop) → Prop
  | [], _, s, K => K s
  | k :: ks, i, s, K => match find out (1000000 + i), find s.heap k with
    | some (.deep _ sz' rows'), some (.deep a sz rows) => match Nat.beq sz sz' with
      | true => Side (rows'.length = rows.length) (setK' k (.deep a sz rows') s fun s => backK out ks (i + 1) s K)
      | false => False
    | _, _ => False

def oneDn : List XV → Option (Nat × Nat × Nat)
  | [] => none
  | .dn k r j :: _ => some (k, r, j)
  | _ :: xs => oneDn xs
def oneDnP : List PV → Option (Nat × Nat × Nat)
  | [] => none
  | v :: vs => match (match v with | .one x => oneDn [x] | .agg xs => oneDn xs | .tup _ => none) with
    | some p => some p
    | none => oneDnP vs
def gNest (x : XV) : Option XV :=
  match x with
  | .c c => some (XV.c c)
  | .nil sz => some (.c (.slice sz []))
  | .dn _ _ _ => some (.ds 1000000)
  | _ => none
def fixDn (k r j : Nat) (x : XV) : XV := match x with | .dn _ _ _ => .dn k r j | x => x

def callD (P : Program) (g : Nat) (caps : List CV) (vs : List PV) (s : St) (K : PV → St → Prop) : Prop :=
  match oneDnP vs with
  | none => match dedup (keysPs vs) with
    | ks => match trP (gIn ks) vs, inH s.heap ks 0, Nat.ble ks.length 32 with
      | some as, some h, true => Pick (fun r => SatM P g (as ++ caps.map fun y => .one (.c y)) h r) fun r => match r.1.scalar with
        | true => backK r.2 ks 0 s fun s => forceP r.1 fun pv => K pv s
        | false => False
      | _, _, _ => False
  | some (k, r, j) => Side (vs.map (PV.map (fixDn k r j)) = vs) (match find s.heap k, trP gNest vs with
    | some (.deep a sz rows), some as => Pick (fun p : List CV × Nat × List (List CV) => rows[r]? = some p.1 ∧ p.1[j]? = some (.slice p.2.1 p.2.2)) fun p =>
      Pick (fun q : Res => SatM P g (as ++ caps.map fun y => .one (.c y)) [(1000000, .deep false p.2.1 p.2.2)] q) fun q => match q.1.scalar, find q.2 1000000 with
        | true, some (.deep _ sz' es') => match Nat.beq p.2.1 sz' with
          | true => Side (es'.length = p.2.2.length) (setK' k (.deep a sz (rows.set r (p.1.set j (.slice p.2.1 es')))) s fun s => forceP q.1 fun pv => K pv s)
          | false => False
        | _, _ => False
    | _, _ => False)

def dstK (o : Oper) (K : Nat → Prop) : Prop := match o.dst with | some d => K (64 * d) | none => False

def callR (P : Program) (tt : TT) (s : St) (g : Nat) (caps : List CV) (args : List Operand) (ts : List TypeId) (dst : Option Nat) (vs : List PV) (K : PV → St → Prop) : Prop :=
  frzKeys 20 (keysPs vs) s fun s' => argsK s'.regs tt args ts fun vs' => match pureB vs' with
      | some comps => Pick (fun r => Sat P g (comps ++ caps.map fun y => (false, [y])) r) fun r =>
        match r.1.scalar, r.2, dst with
        | true, [], _ => forceP r.1 fun pv => K pv s
        | _, [], _ => forceP r.1 fun pv => K pv s'
        | _, h, some d => match ownRes (r.1, h) with
          | true => newsK (64 * d) h s fun s'' => forceP (r.1.map (shiftX (64 * d))) fun pv => K pv s''
          | false => match ruRes r.1 h with
            | some rows => Side (sclRows rows) (newsK (64 * d) h s fun s'' => forceP (r.1.map (shiftX (64 * d))) fun pv => K pv s'')
            | none => newsK (64 * d) h s' fun s'' => forceP (r.1.map (shiftX (64 * d))) fun pv => K pv s''
        | _, _, none => K (.one .dead) s'
      | none => False

/-! ### calls that are given own objects, whatever they are -/
def wkX (D N : List Nat) (x : XV) : XV :=
  match x.key? with
  | none => x
  | some k => match D.contains k with
    | true => .dead
    | false => match x with
      | .dn a r j => match N.contains a with | true => .dead | false => .dn a r j
      | x => x
def wkH (D N : List Nat) : Heap → Heap
  | [] => []
  | (k, o) :: h => match D.contains k with
    | true => wkH D N h
    | false => (k, o.map (wkX D N)) :: wkH D N h

def rkey : List (Nat × Nat) → Nat → Option Nat
  | [], _ => none
  | (a, b) :: ρ, k => match Nat.beq a k with | true => some b | false => rkey ρ k
def renX (ρ : List (Nat × Nat)) (x : XV) : XV :=
  match x with
  | .rs k => match rkey ρ k with | some k' => .rs k' | none => .dead
  | .ru k o l => match rkey ρ k with | some k' => .ru k' o l | none => .dead
  | .pb k o l => match rkey ρ k with | some k' => .pb k' o l | none => .dead
  | .pe k r o l => match rkey ρ k with | some k' => .pe k' r o l | none => .dead
  | .ds k => match rkey ρ k with | some k' => .ds k' | none => .dead
  | .dp k r o l => match rkey ρ k with | some k' => .dp k' r o l | none => .dead
  | .dn _ _ _ => .dead
  | .fb f cs k n ds => match rkey ρ k with | some k' => .fb f cs k' n ds | none => .dead
  | x => x
def renH (ρ : List (Nat × Nat)) (h : Heap) : List (Nat × Nat) → Option Heap
  | [] => some []
  | (a, b) :: r => match find h a, renH ρ h r, eqB (bK a) (bK b) with
    | some o, some hs, true => some ((b, o.map (renX ρ)) :: hs)
    | _, _, _ => none
def memB (k : Nat) : List Nat → Bool
  | [] => false
  | j :: js => match Nat.beq j k with | true => true | false => memB k js
def nodupB : List Nat → Bool
  | [] => true
  | k :: ks => match memB k ks with | true => false | false => nodupB ks
def forceN : List (Nat × Nat) → (List (Nat × Nat) → Prop) → Prop
  | [], K => K []
  | (a, b) :: l, K => forceN l fun l => K ((a, b) :: l)
def forceNs : List Nat → (List Nat → Prop) → Prop
  | [], K => K []
  | a :: l, K => forceNat a fun a => forceNs l fun l => K (a :: l)

def fieldPairs (nb : Nat) : Nat → List XV → List (Nat × Nat)
  | _, [] => []
  | j, x :: xs => match x.key? with
    | some k => (k, nb + 32 + j) :: fieldPairs nb (j + 1) xs
    | none => fieldPairs nb (j + 1) xs
def rhoOf (h : Heap) : List Nat → Nat → List (Nat × Nat)
  | [], _ => []
  | k :: ks, i => match bK k with
    | true => (k, 1000000 + 64 * i + 29) :: rhoOf h ks (i + 1)
    | false => (k, 1000000 + 64 * i) :: (match find h k with
      | some (.box cs) => fieldPairs (1000000 + 64 * i) 0 cs ++ rhoOf h ks (i + 1)
      | _ => rhoOf h ks (i + 1))

def tauK (ks : List Nat) (d : Nat) (k : Nat) : Nat := match Nat.ble 1000000 k with
  | true => match bK (ks.getD (Nat.div (k - 1000000) 64) 0) with
    | true => ks.getD (Nat.div (k - 1000000) 64) 0 + (Nat.mod (k - 1000000) 64 - 29)
    | false => ks.getD (Nat.div (k - 1000000) 64) 0 + Nat.mod (k - 1000000) 64
  | false => d + k
def tauOf (ks : List Nat) (d : Nat) : Heap → List (Nat × Nat)
  | [] => []
  | (k, _) :: h => (k, tauK ks d k) :: tauOf ks d h
def tauOk (ρ : List (Nat × Nat)) : List (Nat × Nat) → Bool
  | [] => true
  | (k, k') :: τ => match eqB (bK k) (bK k') with
    | false => false
    | true => match pinK k with
      | true => match rkey ρ k' with
        | some b => match Nat.beq b k with | true => tauOk ρ τ | false => false
        | none => false
      | false => match pinK k' with | true => false | false => tauOk ρ τ
def keptOf : List (Nat × Nat) → List Nat
  | [] => []
  | (k, k') :: τ => match pinK k with | true => k' :: keptOf τ | false => keptOf τ
def newOf : List (Nat × Nat) → List Nat
  | [] => []
  | (k, k') :: τ => match pinK k with | true => newOf τ | false => k' :: newOf τ
def minus : List Nat → List Nat → List Nat
  | [], _ => []
  | k :: ks, js => match memB k js with | true => minus ks js | false => k :: minus ks js

def sameShapeK (o o' : Ob) (K : Prop) : Prop :=
  match o, o' with
  | .box cs, .box cs' => match Nat.beq cs.length cs'.length with | true => K | false => False
  | .arr sz rows, .arr sz' rows' => match Nat.beq sz sz' with | true => Side (rows'.length = rows.length) K | false => False
  | .deep true sz rows, .deep true sz' rows' => match Nat.beq sz sz' with | true => Side (rows'.length = rows.length) K | false => False
  | .deep false sz rows, .deep false sz' rows' => match Nat.beq sz sz' with | true => Side (rows'.length = rows.length) K | false => False
  | _, _ => False
def mergeK (τ : List (Nat × Nat)) : List (Nat × Nat) → Heap → Heap → (Heap → Prop) → Prop
  | [], _, h, K => K h
  | (k, k') :: r, H3, h, K => match find H3 k with
    | some o => match find h k' with
      | some o0 => sameShapeK o0 o (mergeK τ r H3 (setOb h k' (o.map (renX τ))) K)
      | none => mergeK τ r H3 (ins k' (o.map (renX τ)) h) K
    | none => False

def callX (P : Program) (s : St) (g : Nat) (extra : List PV) (vs : List PV) (dst : Option Nat) (K : PV → St → Prop) : Prop :=
  forceNs (dedup (keysPs (vs ++ extra))) fun ks => forceN (rhoOf s.heap ks 0) fun ρ =>
    match nodupB (ρ.map (·.1)), nodupB (ρ.map (·.2)), renH ρ s.heap ρ with
    | true, true, some H2 => forceH H2 fun H2 => forceR ((vs ++ extra).map (PV.map (renX ρ))) fun as =>
      Pick (fun r : Res => SatM P g as H2 r) fun r => forceH r.2 fun H3 => forceN (tauOf ks (match dst with | some d => 64 * d | none => 0) H3) fun τ =>
        match tauOk ρ τ, nodupB (τ.map (·.1)), nodupB (τ.map (·.2)) with
        | true, true, true => match minus (ρ.map (·.1)) (keptOf τ) ++ newOf τ, ρ.map (·.1) with
          | D, N => force ⟨s.regs.map (PV.map (wkX D N)), wkH D N s.heap⟩ fun s1 => mergeK τ τ H3 s1.heap fun h => forceP (r.1.map (renX τ)) fun pv => force ⟨s1.regs, h⟩ fun s => K pv s
        | _, _, _ => False
    | _, _, _ => False

def noNil : List PV → Bool
  | [] => true
  | .one (.nil _) :: _ => false
  | _ :: vs => noNil vs

def boxFn (ts : List TypeId) : Bool := match ts with | [t] => Nat.beq t 64 | _ => false
def swapK (k o q : Nat) (s : St) (K : St → Prop) : Prop :=
  match findB s.heap k with
  | some (.box cs) => match cs[o]? with
    | some (.nil sz) => match find s.heap q with
      | some (.arr sz' []) => match Nat.beq sz sz' with
        | true => forceXs (cs.set o (.rs q)) fun cs => forceH (setOb s.heap k (.box cs)) fun h => match s with | ⟨r, _⟩ => K ⟨r, h⟩
        | false => False
      | _ => False
    | _ => False
  | _ => False
def ownNilK (k o q : Nat) (s : St) (K : St → Prop) : Prop :=
  match find s.heap k with
  | some (.box cs) => match cs[o]? with
    | some (.nil sz) => newK q (.arr sz []) s fun s => swapK k o q s K
    | some (.rs k0) => match find s.heap k0 with | some _ => renK k0 q s K | none => False
    | some (.ds k0) => match find s.heap k0 with | some _ => renK k0 q s K | none => False
    | _ => False
  | _ => False
def ownKeys : List Nat → St → (St → Prop) → Prop
  | [], s, K => K s
  | q :: ks, s, K => ownNilK (64 * Nat.div q 64) (Nat.mod q 64 - 32) q s fun s => ownKeys ks s K

def callE (P : Program) (tt : TT) (s : St) (g : Nat) (caps : List CV) (args : List Operand) (ts : List TypeId) (dst : Option Nat) (vs : List PV) (K : PV → St → Prop) : Prop :=
  match noKeys vs, noNil vs, boxFn ts with
  | true, true, false => callR P tt s g caps args ts dst vs K
  | _, _, _ => CallC (CallC (callR P tt s g caps args ts dst vs K) (Pick (fun _ : List Nat => True) fun q => ownKeys q s fun s => argsK s.regs tt args ts fun vs => callX P s g (caps.map fun y => .one (.c y)) vs dst K)) (callX P s g (caps.map fun y => .one (.c y)) vs dst K)

def flatX (k : Nat) (x : XV) : XV :=
  match x with
  | .ds a => match Nat.beq a k with | true => .rs k | false => x
  | .dp a r o l => match Nat.beq a k with | true => .pe k r o l | false => x
  | .dn a _ _ => match Nat.beq a k with | true => .dead | false => x
  | x => x
def flatK (k : Nat) (s : St) (K : St → Prop) : Prop :=
  match find s.heap k with
  | some (.deep true sz rows) => force ⟨s.regs.map (PV.map (flatX k)), (setOb s.heap k (.arr sz rows)).mapX (flatX k)⟩ K
  | _ => K s
def flatKeys : List Nat → St → (St → Prop) → Prop
  | [], s, K => K s
  | k :: ks, s, K => flatK k s fun s => flatKeys ks s K
def dsKeys : List PV → List Nat
  | [] => []
  | .one (.ds k) :: vs => k :: dsKeys vs
  | _ :: vs => dsKeys vs

def callM (P : Program) (tt : TT) (s : St) (f : PV) (args : List Operand) (ts : List TypeId) (dst : Option Nat) (K : PV → St → Prop) : Prop :=
  match f with
  | .one (.c (.fn g caps)) =>
    argsK s.regs tt args ts fun vs => match hasDsP vs with
     | true => Pick (fun _ : Option Bool => True) fun m => match m with
      | some true => callD P g caps vs s K
      | some false => callE P tt s g caps args ts dst vs K
      | none => flatKeys (dsKeys vs) s fun s => argsK s.regs tt args ts fun vs => callE P tt s g caps args ts dst vs K
     | false => callE P tt s g caps args ts dst vs K
  | .one (.fb g pre k n post) =>
    argsK s.regs tt args ts fun vs => callX P s g (pre.map (fun y => .one (.c y)) ++ .one (.pb k 0 n) :: post.map fun y => .one (.c y)) vs dst K
  | _ => False

def bytesRows (s : ByteArray) : List (List CV) := s.toList.map fun b => [CV.int .u8 b.toNat]

def rowsOf (h : Heap) (sz : Nat) (v : PV) (K : List (List CV) → Prop) : Prop :=
  match v with
  | .one (.c (.slice sz' es)) => match Nat.beq sz sz' with | true => K es | false => False
  | .one (.nil _) => K []
  | .one (.c (.str s)) => match Nat.beq sz 1 with | true => K (bytesRows s) | false => False
  | .one (.rs k) => match find h k with
    | some (.arr sz' rows) => match Nat.beq sz sz' with | true => K rows | false => False
    | _ => False
  | .one (.ru k off len) => match find h k with
    | some (.arr sz' rows) => match Nat.beq sz sz' with | true => K ((rows.drop off).take len) | false => False
    | _ => False
  | _ => False

def shrinkK (k k2 l : Nat) (s : St) (K : St → Prop) : Prop :=
  match find s.heap k with
  | some (.arr sz rows) => killK k s fun s => newK k2 (.arr sz (rows.take l)) s K
  | _ => False

def appendZ (t : TI) (k : Nat) (s : St) (v u : PV) (K : PV → St → Prop) : Prop :=
  match t.slice, t.ez, v with
  | some (sz, bytes), _ :: _, .one (.nil sz') => intIx u fun n => match Nat.beq sz sz' with
    | true => Side (0 ≤ n ∧ n * bytes ≤ 2 ^ 46) (newK k (.arr sz (List.replicate n.toNat t.ez)) s fun s => K (.one (.rs k)) s)
    | false => False
  | _, _, _ => False

def capM (h : Heap) (t : TI) (v : PV) (K : PV → Prop) : Prop :=
  match t.slice, v with
  | some _, .one (.nil _) => K (.one (.c (.int .i64 0)))
  | some _, .one (.c (.slice _ es)) => ∀ c : Nat, es.length ≤ c → K (.one (.c (.int .i64 c)))
  | some _, .one (.rs k) => match find h k with
    | some (.arr _ rows) => ∀ c : Nat, rows.length ≤ c → K (.one (.c (.int .i64 c)))
    | _ => False
  | _, _ => False

def clearRows (rows : List (List CV)) (off l : Nat) (z : List CV) : List (List CV) := rows.take off ++ (List.replicate l z ++ rows.drop (off + l))
def clearM (t : TI) (s : St) (v : PV) (K : PV → St → Prop) : Prop :=
  match t.slice, t.ez with
  | some (sz, _), z :: zs => match v with
    | .one (.nil _) => K (.tup []) s
    | .one (.ru k off l) => match find s.heap k with
      | some (.arr sz' rows) => match Nat.beq sz sz' with
        | true => match s with | ⟨r, h⟩ => forceH (setOb h k (.arr sz (clearRows rows off l (z :: zs)))) fun h => K (.tup []) ⟨r, h⟩
        | false => False
      | _ => False
    | .one (.rs k) => match find s.heap k with
      | some (.arr sz' rows) => match Nat.beq sz sz' with
        | true => match s with | ⟨r, h⟩ => forceH (setOb h k (.arr sz (clearRows rows 0 rows.length (z :: zs)))) fun h => K (.tup []) ⟨r, h⟩
        | false => False
      | _ => False
    | _ => False
  | _, _ => False

def appendM (t t2 : TI) (k2 : Nat) (s : St) (x y : PV) (K : PV → St → Prop) : Prop :=
  match t.slice, (t2.slice.isSome || t2.str) with
  | some (sz, bytes), true => rowsOf s.heap sz y fun es =>
    match x with
    | .one (.nil sz') => match Nat.beq sz sz' with
      | true => Side (es.length * bytes ≤ 2 ^ 46) (newK k2 (.arr sz es) s fun s => K (.one (.rs k2)) s)
      | false => False
    | .one (.rs k) => match find s.heap k with
      | some (.arr sz' rows) => match Nat.beq sz sz' with
        | true => Side ((rows.length + es.length) * bytes ≤ 2 ^ 46) (killK k s fun s => newK k2 (.arr sz (rows ++ es)) s fun s => K (.one (.rs k2)) s)
        | false => False
      | _ => False
    | .one (.ru k off l) => match find s.heap k with
      | some (.arr sz' rows) => match Nat.beq sz sz' && Nat.beq off 0 with
        | true => Side (((rows.take l).length + es.length) * bytes ≤ 2 ^ 46) (killK k s fun s => newK k2 (.arr sz (rows.take l ++ es)) s fun s => K (.one (.rs k2)) s)
        | false => False
      | _ => False
    | .one (.ds k) => match find s.heap k with
      | some (.deep true sz' rows) => match Nat.beq sz sz' with
        | true => Side (flatRows es ∧ (rows.length + es.length) * bytes ≤ 2 ^ 46) (killK k s fun s => newK k2 (.deep true sz (rows ++ es)) s fun s => K (.one (.ds k2)) s)
        | false => False
      | _ => False
    | _ => False
  | _, _ => False

def appendD (t : TI) (k2 : Nat) (s : St) (k ky : Nat) (K : PV → St → Prop) : Prop :=
  match t.slice with
  | some (sz, bytes) => match find s.heap k, find s.heap ky, Nat.beq k ky with
    | some (.deep true sz1 rows), some (.deep _ sz2 es), false => match Nat.beq sz sz1, Nat.beq sz sz2 with
      | true, true => Side ((rows.length + es.length) * bytes ≤ 2 ^ 46) (killK ky s fun s => killK k s fun s => newK k2 (.deep true sz (rows ++ es)) s fun s => K (.one (.ds k2)) s)
      | _, _ => False
    | _, _, _ => False
  | none => False

def noKey (k : Nat) : List XV → Bool
  | [] => true
  | x :: xs => match x.key? with | some k' => (match Nat.beq k' k with | true => false | false => noKey k xs) | none => noKey k xs

def boxM (k : Nat) (xs : List XV) (s : St) (K : PV → St → Prop) : Prop :=
  match allLive xs, noKey k xs, bK k with
  | true, true, false => newK k (.box xs) s fun s => K (.one (.pb k 0 xs.length)) s
  | _, _, _ => False
def bldM (k : Nat) (zero : List XV) (s : St) (K : PV → St → Prop) : Prop :=
  match zero, bK (k + 29) with
  | [.c (.ptr 0 []), .nil 1], true => newK (k + 29) (.box [.c (.str ⟨([] : List UInt8).toArray⟩)]) s fun s => K (.one (.pb (k + 29) 0 1)) s
  | _, _ => False

def spliceC (row : List CV) (o : Nat) : List CV → List CV
  | [] => row
  | y :: ys => spliceC (row.set o y) (o + 1) ys

def absorbK (m : Bool) : List XV → St → (List CV → St → Prop) → Prop
  | [], s, K => K [] s
  | .c c :: xs, s, K => match c.flat with
    | true => absorbK m xs s fun cs s => K (c :: cs) s
    | false => False
  | .nil sz :: xs, s, K => absorbK m xs s fun cs s => K (.slice sz [] :: cs) s
  | .rs k :: xs, s, K => match find s.heap k with
    | some (.arr sz rows) => Side (flatRows rows) (match m with
      | true => killK k s fun s => absorbK m xs s fun cs s => K (.own sz rows :: cs) s
      | false => killK k s fun s => absorbK m xs s fun cs s => K (.slice sz rows :: cs) s)
    | _ => False
  | .ds k :: xs, s, K => match find s.heap k with
    | some (.deep _ sz rows) => killK k s fun s => absorbK m xs s fun cs s => K (.slice sz rows :: cs) s
    | _ => False
  | _, _, _ => False

def absK (m : Bool) (xs : List XV) (s : St) (K : List CV → St → Prop) : Prop := match allLive xs with | true => absorbK m xs s K | false => False

def storeD (k r o n : Nat) (xs : List XV) (s : St) (K : St → Prop) : Prop :=
  absK false xs s fun ys s => match find s.heap k, lenIs ys n with
    | some (.deep a sz rows), true => match Nat.beq n sz with
      | true => setK' k (.deep a sz (rows.set r ys)) s K
      | false => Pick (fun row => rows[r]? = some row) fun row => setK' k (.deep a sz (rows.set r (spliceC row o ys))) s K
    | _, _ => False

def ruHead (xs : List XV) : Option (Nat × Nat) :=
  match xs with
  | [.ru k off l] => match Nat.beq off 0 with | true => some (k, l) | false => none
  | _ => none
def boxSet (m k o n : Nat) (xs : List XV) (s : St) (K : St → Prop) : Prop :=
  match findB s.heap k, Nat.beq n (m + 1) with
  | some (.box cs), true => match lenIs xs n, allLive xs with
    | true, true => forceXs (fillX cs o xs) fun cs' => forceH (setOb s.heap k (.box cs')) fun h => match xs, s with
        | [.rs k2], ⟨r, _⟩ => renK k2 (k + 32 + o) ⟨r, h⟩ K
        | [.ds k2], ⟨r, _⟩ => renK k2 (k + 32 + o) ⟨r, h⟩ K
        | _, ⟨r, _⟩ => K ⟨r, h⟩
    | _, _ => False
  | _, _ => False

def storeM (tt : TT) (t : TypeId) (a : Operand) (x : Operand) (s : St) (K : St → Prop) : Prop :=
  match (tt t).size with
  | 0 => False
  | m + 1 => opd s.regs a (tt 0) fun p => opd s.regs x (tt t) fun v => match p with
    | .one (.pb k o n) => match v.cellsX with
      | some xs => match ruHead xs with
        | some (k2, l) => shrinkK k2 (k + 32 + o) l s fun s => opd s.regs a (tt 0) fun p => match p with
          | .one (.pb k' o' n') => boxSet m k' o' n' [.rs (k + 32 + o)] s K
          | _ => False
        | none => boxSet m k o n xs s K
      | none => False
    | .one (.pe _ _ _ _) => frzKeys 20 (keysP v) s fun s => opd s.regs a (tt 0) fun p => opd s.regs x (tt t) fun v => match p with
      | .one (.pe k r o n) => match v.cellsX.bind pures, find s.heap k, Nat.beq n (m + 1) with
        | some ys, some (.arr sz rows), true => match lenIs ys n with
          | true => match Nat.beq n sz with
            | true => match s with | ⟨g, h⟩ => forceH (setOb h k (.arr sz (rows.set r ys))) fun h => K ⟨g, h⟩
            | false => Pick (fun row => rows[r]? = some row) fun row => match s with | ⟨g, h⟩ => forceH (setOb h k (.arr sz (rows.set r (spliceC row o ys)))) fun h => K ⟨g, h⟩
          | false => False
        | _, _, _ => False
      | _ => False
    | .one (.dp k r o n) => match v.cellsX, Nat.beq n (m + 1) with
      | some xs, true => storeD k r o n xs s K
      | _, _ => False
    | _ => False

def splitCap (h : Heap) : List PV → Option (List CV × Nat × Nat × List CV)
  | [] => none
  | .one (.pb k 0 n) :: vs => match find h k, pureB vs with
    | some (.box cs), some post => match keysX cs, Nat.beq cs.length n, post.all (fun p => !p.1) with
      | _ :: _, true, true => some ([], k, n, post.flatMap (·.2))
      | _, _, _ => none
    | _, _ => none
  | .one (.c c) :: vs => match splitCap h vs with | some (pre, p) => some (c :: pre, p) | none => none
  | _ => none

def makeM (P : Program) (tt : TT) (s : St) (o : Oper) (f : Nat) (vs : List PV) (K : PV → St → Prop) : Prop :=
  match splitCap s.heap vs with
  | some (pre, k, n, post) => Pick (fun _ : Bool => True) fun m => match m with
    | true => K (.one (.fb f pre k n post)) s
    | false => frzKeys 40 (keysPs vs) s fun s => opQ P tt s o fun v => K v s
  | none => frzKeys 40 (keysPs vs) s fun s => opQ P tt s o fun v => K v s

def buildF (tt : TT) (t len : Nat) (sz : Nat) (ps : List (Nat × Operand)) (o : Oper) (vs : List (Nat × PV)) (s : St) (K : PV → St → Prop) : Prop :=
  frzKeys 40 (keysPs (vs.map (·.2))) s fun s => partsK s.regs tt (fun _ => (tt t).elem) ps fun vs =>
      match listRows sz 0 vs with
      | some rows => dstK o fun k => newK k (.arr sz rows) s fun s => K (.one (.rs k)) s
      | none => False

def nilM (h : Heap) (v : PV) (K : Bool → Prop) : Prop :=
  match v with
  | .one (.c (.slice _ es)) => ∀ b, (b = true → es = []) → K b
  | .one (.nil _) => K true
  | .one (.rs k) => match find h k with
    | some (.arr _ rows) => ∀ b, (b = true → rows = []) → K b
    | _ => False
  | .one (.ds k) => match find h k with
    | some (.deep _ _ rows) => ∀ b, (b = true → rows = []) → K b
    | _ => False
  | _ => False

def assignM (o : Oper) (s : St) (v : PV) (K : PV → St → Prop) : Prop :=
  match v with
  | .one x => match x with
    | .nil sz => dstK o fun k => newK k (.arr sz []) s fun s => K (.one (.rs k)) s
    | .rs k => match pinK k with
      | true => K (.one (.rs k)) s
      | false => dstK o fun k2 => renK k k2 s fun s => K (.one (.rs k2)) s
    | .ds k => match pinK k with
      | true => K (.one (.ds k)) s
      | false => dstK o fun k2 => renK k k2 s fun s => K (.one (.ds k2)) s
    | .ru k off l => match Nat.beq off 0 with
      | true => CallC (K (.one (.ru k off l)) s) (dstK o fun k2 => shrinkK k k2 l s fun s => K (.one (.rs k2)) s)
      | false => K (.one (.ru k off l)) s
    | x => K (.one x) s
  | v => K v s

def appendT (t t2 : TI) (k : Nat) (s : St) (a r j : Nat) (u : PV) (K : PV → St → Prop) : Prop :=
  match t.slice, t2.slice.isSome with
  | some (sz, bytes), true => rowsOf s.heap sz u fun es => match find s.heap a, find s.heap k, pinK k with
    | some (.deep ap sz1 rows), none, false => Pick (fun p : List CV × List (List CV) => rows[r]? = some p.1 ∧ p.1[j]? = some (.own sz p.2)) fun p =>
      Side (flatRows es ∧ (p.2.length + es.length) * bytes ≤ 2 ^ 46) (match s with | ⟨g, h⟩ => forceH (ins k (.deep true sz (p.2 ++ es)) (setOb h a (.deep ap sz1 (rows.set r (p.1.set j .hole))))) fun h => K (.one (.ds k)) ⟨g, h⟩)
    | _, _, _ => False
  | _, _ => False

def appendA (t t2 : TI) (k : Nat) (s : St) (v u : PV) (K : PV → St → Prop) : Prop :=
  match v, u with
  | .one (.ds a), .one (.ds b) => match t2.slice.isSome with | true => appendD t k s a b K | false => False
  | .one (.dn a r j), u => appendT t t2 k s a r j u K
  | _, _ => appendM t t2 k s v u K

def restM (P : Program) (tt : TT) (s : St) (o : Oper) (c : Call) (b : Builtin) (K : PV → St → Prop) : Prop :=
  match b with
  | .append => match c.args.toList, c.argTypes.toList with
    | [x, y], [t, t2] => dstK o fun k => opd s.regs x (tt t) fun v => opd s.regs y (tt t2) fun u => match (tt t2).ik with
      | some _ => appendZ (tt t) k s v u K
      | none => appendA (tt t) (tt t2) k s v u K
    | _, _ => False
  | .cap => match c.args.toList, c.argTypes.toList with
    | [x], t :: _ => opd s.regs x (tt t) fun v => capM s.heap (tt t) v fun v => K v s
    | _, _ => False
  | .clear => match c.args.toList, c.argTypes.toList with
    | [x], [t] => opd s.regs x (tt t) fun v => clearM (tt t) s v K
    | _, _ => False
  | _ => opQ P tt s o fun v => K v s

def opM (P : Program) (tt : TT) (s : St) (o : Oper) (K : PV → St → Prop) : Prop :=
  match o.op with
  | .assign x => opd s.regs x (tt o.type) fun v => assignM o s v K
  | .alloc t => dstK o fun k => match Nat.beq t TB with
   | true => bldM k (tt t).zero s K
   | false => match (tt t).zero with
    | [] => False
    | [.nil sz] => newK (k + 32) (.arr sz []) s fun s => boxM k [.rs (k + 32)] s K
    | z :: zs => boxM k (z :: zs) s K
  | .box t x => dstK o fun k => opd s.regs x (tt t) fun v => match v.cellsX with | some xs => boxM k xs s K | none => False
  | .buildSlice t len ps => match (tt t).slice, Nat.beq len ps.toList.length, Nat.ble (len * ((tt t).slice.getD (0, 0)).1) 16777216 with
    | some (sz, _), true, true => partsK s.regs tt (fun _ => (tt t).elem) ps.toList fun vs => match keysPs (vs.map (·.2)), vs with
      | _ :: _, [(0, v)] => Pick (fun _ : Option Bool => True) fun m => match m with
        | some true => match v.cellsX with
          | some xs => absK false xs s fun ys s => match lenIs ys sz with
            | true => dstK o fun k => newK k (.deep true sz [ys]) s fun s => K (.one (.ds k)) s
            | false => False
          | none => False
        | none => match v.cellsX with
          | some xs => absK true xs s fun ys s => match lenIs ys sz with
            | true => dstK o fun k => newK k (.deep true sz [ys]) s fun s => K (.one (.ds k)) s
            | false => False
          | none => False
        | some false => buildF tt t len sz ps.toList o vs s K
      | _, _ => buildF tt t len sz ps.toList o vs s K
    | _, _, _ => False
  | .makeSlice t l c => opd s.regs l (tt 0) fun l => opd s.regs c (tt 0) fun c => intIx l fun l => intIx c fun c => match (tt t).slice with
    | some (sz, bytes) => match (tt t).ez with | [] => False | _ :: _ => Side (0 ≤ l ∧ l ≤ c ∧ c * bytes ≤ 2 ^ 46) (dstK o fun k => newK k (.arr sz (List.replicate l.toNat (tt t).ez)) s fun s => K (.one (.rs k)) s)
    | none => False
  | .store t a x => storeM tt t a x s (K (.one .undef))
  | .binOp op t x y _ => match op, (tt t).slice, y with
    | .eql, some _, .const (.slice none 0 0) => opd s.regs x (tt t) fun v => nilM s.heap v fun b => K (.one (.c (.bool b))) s
    | _, _, _ => opQ P tt s o fun v => K v s
  | .convert src dst x => opd s.regs x (tt src) fun v => match (tt src).str, (tt dst).u8, (tt dst).str, (tt src).u8, v with
    | true, true, _, _, .one (.c (.str b)) => Side (b.size ≤ 2 ^ 46) (dstK o fun k => newK k (.arr 1 (bytesRows b)) s fun s => K (.one (.rs k)) s)
    | true, _, true, _, .one (.c (.str b)) => K (.one (.c (.str b))) s
    | _, _, true, true, .one (.c (.str _)) => False
    | _, _, true, true, v => rowsOf s.heap 1 v fun rows => Pick (fun b => bytesRows b = rows) fun b => K (.one (.c (.str b))) s
    | _, _, _, _, _ => opQ P tt s o fun v => K v s
  | .makeFunc (.func f) first captured => match first.toList with
    | [] => argsK s.regs tt captured.toList [] fun vs => makeM P tt s o f vs K
    | _ => False
  | .call c => match c.callee with
    | .value f => opd s.regs f (tt 0) fun g => callM P tt s g c.args.toList c.argTypes.toList o.dst K
    | .builtin b => restM P tt s o c b K
    | _ => opQ P tt s o fun v => K v s
  | _ => opQ P tt s o fun v => K v s

def putK (d : Option Nat) (v : PV) (s : St) (K : St → Prop) : Prop :=
  match d, s with
  | some d, ⟨r, h⟩ => setK r d v fun r => K ⟨r, h⟩
  | none, s => K s

def guardK (all : List Oper) (o : Oper) (s : St) (K : Bool → Prop) : Prop :=
  match o.guard with
  | none => K true
  | some (j, want) => match (all[j]?).bind (·.dst) with
    | some d => look s.regs d fun v => match v with
      | .one (.c (.bool b)) => K (b == want)
      | .one .undef => K false
      | _ => False
    | none => False

def isGuard (i : Nat) : List Oper → Bool
  | [] => false
  | o :: os => match o.guard with
    | some (j, _) => match Nat.beq i j with | true => true | false => isGuard i os
    | none => isGuard i os

def splitK (sp : Bool) (v : PV) (K : PV → Prop) : Prop :=
  match v with
  | .one (.c (.bool b)) => (match sp with
    | true => Br b (K (.one (.c (.bool true)))) (K (.one (.c (.bool false))))
    | false => K (.one (.c (.bool b))))
  | v => K v

def regN (P : Program) (tt : TT) (all : List Oper) : Nat → List Oper → St → (St → Prop) → Prop
  | _, [], s, K => K s
  | i, o :: r, s, K => guardK all o s fun run => match run with
    | true => opM P tt s o fun v s => splitK (isGuard i r) v fun v => putK o.dst v s fun s => regN P tt all (i + 1) r s K
    | false => putK o.dst (.one .undef) s fun s => regN P tt all (i + 1) r s K

def regQ (P : Program) (tt : TT) (all : List Oper) : Nat → List Oper → St → (St → Prop) → Prop
  | _, [], s, K => K s
  | i, o :: r, s, K => guardK all o s fun run => match run with
    | true => opQ P tt s o fun v => splitK (isGuard i r) v fun v => putK o.dst v s fun s => regQ P tt all (i + 1) r s K
    | false => putK o.dst (.one .undef) s fun s => regQ P tt all (i + 1) r s K

def stepA (P : Program) (tt : TT) (ops : Array Oper) (n i : Nat) (K : St → Prop) (s : St) : Prop :=
  match ops[i]? with
  | none => K s
  | some o => guardK ops.toList o s fun run => match run, decide (i < n) with
    | true, true => opQ P tt s o fun v => putK o.dst v s K
    | true, false => opM P tt s o fun v s => putK o.dst v s K
    | false, _ => putK o.dst (.one .undef) s K

def bothK : List Nat → (Nat → Prop) → Prop
  | [], _ => True
  | i :: is, F => F i ∧ bothK is F

def anyM (P : Program) (tt : TT) (ops : Array Oper) (K : St → Prop) : Nat → Array Bool → St → Prop
  | 0, listed, s => Region.ready .any ops listed = [] ∧ K s
  | f + 1, listed, s => Pick (fun l : List Nat => Region.ready .any ops listed = l) fun l => match l with
    | [] => K s
    | i :: is => bothK (i :: is) fun i => stepA P tt ops 0 i (anyM P tt ops K f (listed.setIfInBounds i true)) s

inductive Ex where
  | normal
  | exit (id : Nat)
  | ret

def cleanR (live : List Nat) : Nat → List PV → List PV
  | _, [] => []
  | i, v :: vs => (match live.contains i with | true => v | false => .one .dead) :: cleanR live (i + 1) vs
def heapKeys : Heap → List Nat → List Nat
  | [], ks => ks
  | (k, .box cs) :: h, ks => match ks.contains k with | true => heapKeys h (ks ++ keysX cs) | false => heapKeys h ks
  | _ :: h, ks => heapKeys h ks
def keepH (ks : List Nat) : Heap → Heap
  | [] => []
  | (k, o) :: h => match ks.contains k with | true => (k, o) :: keepH ks h | false => keepH ks h
def keepX (ks : List Nat) (x : XV) : XV :=
  match x.key? with
  | some k => match ks.contains k with | true => x | false => .dead
  | none => x
def cleanK (live : List Nat) (s : St) (K : St → Prop) : Prop :=
  match s with
  | ⟨r, h⟩ => forceR (cleanR live 0 r) fun r => forceNs (keysPs r) fun ks => forceNs (heapKeys h ks) fun ks => forceNs (heapKeys h ks) fun ks =>
    force ⟨r.map (PV.map (keepX ks)), (keepH ks h).mapX (keepX ks)⟩ K

def toFrz : List Nat → List Nat
  | [] => []
  | n :: ns => match Nat.ble 1000000 n, Nat.ble 2000000 n with | true, false => (n - 1000000) :: toFrz ns | _, _ => toFrz ns
def toDeep : List Nat → List Nat
  | [] => []
  | n :: ns => match Nat.ble 2000000 n, Nat.ble 3000000 n with | true, false => (n - 2000000) :: toDeep ns | _, _ => toDeep ns
def toOwn : List Nat → List Nat
  | [] => []
  | n :: ns => match Nat.ble 3000000 n, Nat.ble 4000000 n with | true, false => (n - 3000000) :: toOwn ns | _, _ => toOwn ns
def toExit : List Nat → List Nat
  | [] => []
  | n :: ns => match Nat.ble 4000000 n with | true => (n - 4000000) :: toExit ns | false => toExit ns

def deepX (k : Nat) (x : XV) : XV :=
  match x with
  | .rs a => match Nat.beq a k with | true => .ds k | false => x
  | .ru a _ _ => match Nat.beq a k with | true => .dead | false => x
  | .pe a r o l => match Nat.beq a k with | true => .dp k r o l | false => x
  | x => x
def deepK (k : Nat) (s : St) (K : St → Prop) : Prop :=
  match find s.heap k with
  | some (.arr sz rows) => Side (flatRows rows) (force ⟨s.regs.map (PV.map (deepX k)), (setOb s.heap k (.deep true sz rows)).mapX (deepX k)⟩ K)
  | some (.deep _ _ _) => K s
  | _ => False
def deepKeys : List Nat → St → (St → Prop) → Prop
  | [], s, K => K s
  | k :: ks, s, K => deepK k s fun s => deepKeys ks s K

inductive LoopL (B : St → (Ex → St → Prop) → Prop) (live : List Nat) (Q : Ex → St → Prop) : St → Prop
  | mk (s : St) (K : Ex → St → Prop) (hB : B s K) (hN : ∀ s' s'', K .normal s' → (∀ R : St → Prop, cleanK live s' R → R s'') → LoopL B live Q s'') (hE : ∀ e s', e ≠ .normal → K e s' → Q e s') : LoopL B live Q s

def waitsFor (o : Oper) (j : Nat) : Bool := o.after.any fun e => Region.binds .any e && e.on == j
def drawB (ops : Array Oper) (n : Nat) : Bool :=
  Region.noSelect ops && (List.range ops.size).all fun k => match ops[k]? with
    | none => true
    | some o => o.after.all (fun e => !Region.binds .any e || decide (e.on < k)) &&
      (if k < n then (List.range ops.size).all fun j => decide (j ≤ k) || match ops[j]? with
        | none => true
        | some oj => waitsFor oj k || o.apart ops oj
      else (List.range k).all fun j => waitsFor o j)

/-! ### drawn regions that make a slice -/
def freshBox (k : Nat) (xs : List XV) : Bool := match xs with
  | [.nil _] => false
  | xs => match allLive xs, bK k with | true, false => noKey k xs | _, _ => false
def insAll : Heap → Heap → Heap
  | [], h => h
  | (k, o) :: N, h => insAll N (ins k o h)
def freshN (d : Nat) : Heap → Heap → Option Heap
  | [], _ => some []
  | (k, .arr sz rows) :: h, H => match find H (d + k), pinK (d + k), find h k, freshN d h H with
    | none, false, none, some N => some ((d + k, .arr sz rows) :: N)
    | _, _, _, _ => none
  | (k, .deep a sz rows) :: h, H => match find H (d + k), pinK (d + k), find h k, freshN d h H with
    | none, false, none, some N => some ((d + k, .deep a sz rows) :: N)
    | _, _, _, _ => none
  | _, _ => none
def opF (P : Program) (tt : TT) (s : St) (o : Oper) (K : PV → St → Prop) : Prop :=
  match o.op with
  | .buildSlice t len ps => match (tt t).slice, Nat.beq len ps.toList.length, Nat.ble (len * ((tt t).slice.getD (0, 0)).1) 16777216 with
    | some (sz, _), true, true => partsK s.regs tt (fun _ => (tt t).elem) ps.toList fun vs => match keysPs (vs.map (·.2)) with
      | [] => match listRows sz 0 vs with
        | some rows => dstK o fun k => match find s.heap k, pinK k with
          | none, false => match s with | ⟨r, h⟩ => forceH (ins k (.arr sz rows) h) fun h => K (.one (.rs k)) ⟨r, h⟩
          | _, _ => False
        | none => False
      | _ :: _ => False
    | _, _, _ => False
  | .alloc t => match (tt t).zero with
    | z :: zs => dstK o fun k => match find s.heap k, pinK k, (match Nat.beq t TB with | true => false | false => freshBox k (z :: zs)) with
      | none, false, true => match s with | ⟨r, h⟩ => forceH (ins k (.box (z :: zs)) h) fun h => K (.one (.pb k 0 (z :: zs).length)) ⟨r, h⟩
      | _, _, _ => False
    | [] => False
  | .makeSlice t l c => opd s.regs l (tt 0) fun l => opd s.regs c (tt 0) fun c => intIx l fun l => intIx c fun c => match (tt t).slice with
    | some (sz, bytes) => match (tt t).ez with | [] => False | _ :: _ => Side (0 ≤ l ∧ l ≤ c ∧ c * bytes ≤ 2 ^ 46) (dstK o fun k => match find s.heap k, pinK k with
      | none, false => match s with | ⟨r, h⟩ => forceH (ins k (.arr sz (List.replicate l.toNat (tt t).ez)) h) fun h => K (.one (.rs k)) ⟨r, h⟩
      | _, _ => False)
    | none => False
  | .call c => match c.callee with
    | .value f => opd s.regs f (tt 0) fun g => match g with
      | .one (.c (.fn g caps)) => argsK s.regs tt c.args.toList c.argTypes.toList fun vs => match keysPs vs, hasDsP vs, pureB vs with
        | [], false, some comps => Pick (fun r => Sat P g (comps ++ caps.map fun y => (false, [y])) r) fun r => match r with
          | (.one (.rs 0), [(0, .arr sz rows)]) => dstK o fun k => match find s.heap k, pinK k with
            | none, false => match s with | ⟨r, h⟩ => forceH (ins k (.arr sz rows) h) fun h => K (.one (.rs k)) ⟨r, h⟩
            | _, _ => False
          | (pv, []) => forceP pv fun u => K u s
          | (pv, x :: h) => dstK o fun k => match freshN k (x :: h) s.heap, ruRes pv (x :: h) with
            | some N, none => forceP (pv.map (shiftX k)) fun u => match s with | ⟨r, H⟩ => forceH (insAll N H) fun H => K u ⟨r, H⟩
            | _, _ => False
        | _, _, _ => False
      | _ => False
    | _ => False
  | _ => False
def isF (o : Oper) : Bool := match o.op with | .buildSlice _ _ _ => true | .alloc _ => true | .makeSlice _ _ _ => true | _ => false
def opS (tt : TT) (s : St) (o : Oper) (K : PV → St → Prop) : Prop :=
  match o.op with
  | .store t a x => match (tt t).size with
    | 0 => False
    | m + 1 => opd s.regs a (tt 0) fun p => opd s.regs x (tt t) fun v => match p, keysP v with
      | .one (.pe k r _ n), [] => match v.cellsX.bind pures, find s.heap k, Nat.beq n (m + 1) with
        | some ys, some (.arr sz rows), true => match lenIs ys n, Nat.beq n sz with
          | true, true => match s with | ⟨g, h⟩ => forceH (setOb h k (.arr sz (rows.set r ys))) fun h => K (.one .undef) ⟨g, h⟩
          | _, _ => False
        | _, _, _ => False
      | _, _ => False
  | .call c => match c.callee, c.args.toList, c.argTypes.toList with
    | .builtin .append, [x, y], [t, t2] => dstK o fun k => opd s.regs x (tt t) fun v => opd s.regs y (tt t2) fun u => match (tt t2).ik, v with
      | none, .one (.dn a r j) => appendT (tt t) (tt t2) k s a r j u K
      | _, _ => False
    | _, _, _ => False
  | _ => False
def isS (n : Nat) (o : Oper) : Bool := match o.op with
  | .store _ _ _ => (match Nat.ble 1000 n, Nat.blt n 2000 with | true, true => true | _, _ => false)
  | .call c => match c.callee with | .builtin b => (match b with | .append => (match Nat.ble 3000 n, Nat.blt n 4000 with | true, true => true | _, _ => false) | _ => false) | _ => false
  | _ => false
def isR (o : Oper) : Bool := match o.op with | .move _ => true | .binOp .add _ _ _ _ => true | _ => false
def isMv (o : Oper) : Bool := match o.op with | .move (.tmp _) => o.guard.isNone | _ => false
def isA (o : Oper) : Bool := match o.op with | .call c => (match c.callee with | .builtin b => (match b with | .append => true | _ => false) | _ => false) | _ => false
def isC (n i : Nat) (o : Oper) : Bool := match o.op with
  | .call c => match c.callee, Nat.ble 2000 n, (match Nat.ble 7000 n with | true => false | false => Nat.blt i (Nat.mod n 1000)) with | .value _, true, false => true | _, _, _ => false
  | _ => false
def isV (n : Nat) (o : Oper) : Bool := match o.op with | .call c => (match c.callee with | .value _ => Nat.ble 7000 n | _ => false) | _ => false
def isN (n : Nat) (o : Oper) : Bool := match o.op with | .buildSlice _ _ _ => Nat.ble 9000 n | _ => false
def isG (n i : Nat) (o : Oper) : Bool := match isN n o with | true => false | false => (match isF o with | true => true | false => isC n i o)
def isP (n i : Nat) (o : Oper) : Bool := match o.op with
  | .build _ _ => (match Nat.ble 2000 n, Nat.blt i 1000 with | true, true => true | _, _ => false)
  | .extract _ _ => (match Nat.ble 2000 n, Nat.blt i 1000 with | true, true => true | _, _ => false)
  | _ => false
def isB (n i : Nat) (o : Oper) : Bool := match o.op with
  | .buildSlice _ _ _ => (match Nat.ble 5000 n, Nat.blt i (Nat.mod n 1000) with | true, true => true | _, _ => false)
  | _ => false
def isQ (n i : Nat) (o : Oper) : Bool := match isF o with
  | true => isB n i o
  | false => match isV n o, Nat.blt i (Nat.mod n 1000) with | true, _ => false | false, true => true | false, false => isP n i o
def qsOf (n : Nat) : Nat → List Oper → List (Nat × Bool × Oper)
  | _, [] => []
  | i, o :: os => match isQ n i o, Nat.blt i (Nat.mod n 1000) with | true, true => (i, true, o) :: qsOf n (i + 1) os | _, _ => qsOf n (i + 1) os
def nqOf (n : Nat) : Nat → List Oper → List (Nat × Bool × Oper)
  | _, [] => []
  | i, o :: os => match isQ n i o, Nat.blt i (Nat.mod n 1000) with | true, true => nqOf n (i + 1) os | q, _ => (i, q, o) :: nqOf n (i + 1) os
def ordG (ops : Array Oper) (n : Nat) : List (Nat × Bool × Oper) := qsOf n 0 ops.toList ++ nqOf n 0 ops.toList
def isM (o : Oper) : Bool := match o.op with
  | .buildSlice _ _ _ | .makeSlice _ _ _ | .alloc _ | .box _ _ | .store _ _ _ => true
  | .call c => match c.callee with | .builtin b => (match b with | .append | .cap | .clear | .copy => true | _ => false) | _ => false
  | _ => false
def noM : List Oper → Bool
  | [] => true
  | o :: os => match isM o with | true => false | false => noM os
def mIx : List Oper → Nat → Nat
  | [], i => i
  | o :: os, i => match isM o with | true => i | false => mIx os (i + 1)
def depsOf (o : Oper) : List Nat := o.after.toList.filterMap fun e => match Region.binds .any e with | true => some e.on | false => none
def clos : List Oper → List (List Nat) → List (List Nat)
  | [], acc => acc
  | o :: os, acc => clos os (acc ++ [dedup (depsOf o ++ (depsOf o).flatMap fun d => acc.getD d [])])
def okG (ops : Array Oper) (n : Nat) (cl : List (List Nat)) : List Nat → List (Nat × Bool × Oper) → Bool
  | _, [] => true
  | done, (k, q, o) :: r => o.after.all (fun e => !Region.binds .any e || memB e.on done) &&
      (match q with
        | true => r.all fun x => (waitsFor x.2.2 k || o.apart ops x.2.2) && (x.2.1 || isG n x.1 x.2.2 || isR o && isS n x.2.2 || isMv o && isA x.2.2 || memB k (cl.getD x.1 []))
        | false => r.all fun x => memB k (cl.getD x.1 []) || (isG n k o && o.guard.isNone && !x.2.1 && (isG n x.1 x.2.2 && x.2.2.guard.isNone) && o.apart ops x.2.2)) && okG ops n cl (k :: done) r
def drawF (ops : Array Oper) (n : Nat) : Bool :=
  match clos ops.toList [], ordG ops n with
  | cl, σ => Region.noSelect ops && okG ops n cl [] σ

def regG (P : Program) (tt : TT) (n : Nat) (all : List Oper) : List (Nat × Bool × Oper) → St → (St → Prop) → Prop
  | [], s, K => K s
  | (i, q, o) :: r, s, K => guardK all o s fun run => match run, q, isG n i o with
    | true, true, _ => opQ P tt s o fun v => splitK (isGuard i (r.map (·.2.2))) v fun v => putK o.dst v s fun s => regG P tt n all r s K
    | true, false, true => opF P tt s o fun v s => splitK (isGuard i (r.map (·.2.2))) v fun v => putK o.dst v s fun s => regG P tt n all r s K
    | true, false, false => match isS n o with
      | true => opS tt s o fun v s => putK o.dst v s fun s => regG P tt n all r s K
      | false => opM P tt s o fun v s => splitK (isGuard i (r.map (·.2.2))) v fun v => putK o.dst v s fun s => regG P tt n all r s K
    | false, _, _ => putK o.dst (.one .undef) s fun s => regG P tt n all r s K

def forceOps : List (Nat × Bool × Oper) → (List (Nat × Bool × Oper) → Prop) → Prop
  | [], K => K []
  | (i, q, o) :: r, K => forceOps r fun r => K ((i, q, o) :: r)

def drawR (ops : Array Oper) (n : Nat) : Prop := (drawB ops n = true ∧ Nat.ble 2000 n = false) ∨ n = 1000
def drawR2 (ops : Array Oper) (n : Nat) : Prop := drawR ops n ∨ (2000 ≤ n ∧ drawF ops (n - 2000) = true)

def pwp (P : Program) (tt : TT) : Code → St → (Ex → St → Prop) → Prop
  | .skip, s, Q => Q .normal s
  | .region _ ops false, s, Q => regN P tt ops.toList 0 ops.toList s (Q .normal)
  | .region _ ops true, s, Q => Pick (drawR2 ops) fun n => match Nat.beq n 1000, Nat.ble 2000 n with
    | true, _ => anyM P tt ops (Q .normal) ops.size (Array.replicate ops.size false) s
    | false, false => regQ P tt ops.toList 0 (ops.toList.take n) s fun s => regN P tt ops.toList n (ops.toList.drop n) s (Q .normal)
    | false, true => forceOps (ordG ops (n - 2000)) fun σ => regG P tt (n - 2000) ops.toList σ s (Q .normal)
  | .seq a b, s, Q => pwp P tt a s fun e s' => match e with
    | .normal => pwp P tt b s' Q
    | e => Q e s'
  | .cond c a b, s, Q => opd s.regs c (tt 0) fun v => match v with
    | .one (.c (.bool t)) => Br t (pwp P tt a s Q) (pwp P tt b s Q)
    | _ => False
  | .block id c, s, Q => pwp P tt c s fun e s' => match e with
    | .exit i => (match Nat.beq i id with | true => Q .normal s' | false => Q (.exit i) s')
    | e => Q e s'
  | .loop c, s, Q => Pick (fun _ : List Nat => True) fun live => frzKeys 20 (toFrz live) s fun s => ownKeys (toOwn live) s fun s => deepKeys (toDeep live) s fun s => cleanK live s fun s' => LoopL (pwp P tt c) live (fun e s => frzKeys 20 (toExit live) s (Q e)) s'
  | .exit id, s, Q => Q (.exit id) s
  | .label _, s, Q => Q .normal s
  | .ret, s, Q => Q .ret s
  | _, _, _ => False

/-! ### the begin and the end of a call -/
def argP : Comp → PV
  | (false, [y]) => .one (.c y)
  | (_, ys) => .agg (ys.map .c)
def initK (args : List Comp) (n : Nat) (K : St → Prop) : Prop := force ⟨args.map argP ++ List.replicate (n - args.length) (.one .undef), []⟩ K

def compK (v : PV) (K : Bool × List XV → Prop) : Prop :=
  match v with
  | .one x => K (false, [x])
  | .agg xs => K (true, xs)
  | .tup _ => False
def resVal (tt : TT) (s : St) (rv : ResultVar) (K : Bool × List XV → Prop) : Prop :=
  match rv with
  | .tmp t => look s.regs t fun v => compK v K
  | .cell a t => look s.regs a fun v => loadK s.heap (tt t) v fun v => compK v K
def resVals (tt : TT) (s : St) : List ResultVar → (List (Bool × List XV) → Prop) → Prop
  | [], K => K []
  | v :: vs, K => resVal tt s v fun p => resVals tt s vs fun ps => K (p :: ps)
def resPV : List (Bool × List XV) → PV
  | [(false, [x])] => .one x
  | [(true, xs)] => .agg xs
  | ps => .tup ps

def canonX (ks : List Nat) (x : XV) : XV :=
  match x with
  | .rs k => match idx k ks 0 with | some i => .rs i | none => .dead
  | .ru k o l => match idx k ks 0 with | some i => .ru i o l | none => .dead
  | .pb _ _ _ => .dead
  | .pe k r o l => match idx k ks 0 with | some i => .pe i r o l | none => .dead
  | .ds k => match idx k ks 0 with | some i => .ds i | none => .dead
  | .dp _ _ _ _ => .dead
  | .dn _ _ _ => .dead
  | .fb _ _ _ _ _ => .dead
  | x => x
def canonH (h : Heap) : List Nat → Nat → Option Heap
  | [], _ => some []
  | k :: ks, i => match find h k, canonH h ks (i + 1) with
    | some (.arr sz rows), some r => some ((i, .arr sz rows) :: r)
    | some (.deep a sz rows), some r => some ((i, .deep a sz rows) :: r)
    | _, _ => none

def asDs (x : XV) : XV := match x with | .rs k => .ds k | .ru _ _ _ => .dead | .pe _ _ _ _ => .dead | x => x
def asDeep : Heap → Heap
  | [] => []
  | (k, .arr sz rows) :: h => (k, .deep true sz rows) :: asDeep h
  | (k, o) :: h => (k, o) :: asDeep h
def flatH : Heap → Prop
  | [] => True
  | (_, .arr _ rows) :: h => flatRows rows ∧ flatH h
  | _ :: h => flatH h

def topK : Heap → Nat
  | [] => 0
  | (k, _) :: h => match Nat.ble (k + 1) (topK h) with | true => topK h | false => k + 1
def ownNX : List XV → Nat → List XV
  | [], _ => []
  | x :: xs, n => match x with | .nil _ => .ds n :: ownNX xs (n + 1) | x => x :: ownNX xs n
def ownNH : List XV → Nat → Heap
  | [], _ => []
  | x :: xs, n => match x with | .nil sz => (n, .deep true sz []) :: ownNH xs (n + 1) | _ => ownNH xs n
def nilsX : List XV → Nat
  | [] => 0
  | x :: xs => match x with | .nil _ => nilsX xs + 1 | _ => nilsX xs
def ownNT : List (Bool × List XV) → Nat → List (Bool × List XV)
  | [], _ => []
  | (b, xs) :: vs, n => (b, ownNX xs n) :: ownNT vs (n + nilsX xs)
def ownNTH : List (Bool × List XV) → Nat → Heap
  | [], _ => []
  | (_, xs) :: vs, n => ownNH xs n ++ ownNTH vs (n + nilsX xs)
def ownN (r : Res) : Res :=
  match r.1 with
  | .one x => match x with | .nil sz => (.one (.ds (topK r.2)), r.2 ++ [(topK r.2, .deep true sz [])]) | x => (.one x, r.2)
  | .agg xs => (.agg (ownNX xs (topK r.2)), r.2 ++ ownNH xs (topK r.2))
  | .tup vs => (.tup (ownNT vs (topK r.2)), r.2 ++ ownNTH vs (topK r.2))

inductive ResOK (r' r : Res) : Prop
  | same (h : r' = r)
  | frz (h : frzP r' = some r.1) (h2 : r.2 = [])
  | deep (h : (r'.1.map asDs, asDeep r'.2) = r) (h2 : flatH r'.2)
  | own (h : ownN (r'.1.map asDs, asDeep r'.2) = r) (h2 : flatH r'.2)

def retK (tt : TT) (fn : Func) (r : Res) (e : Ex) (s : St) : Prop :=
  match e with
  | .exit _ => False
  | _ => resVals tt s fn.results.toList fun ps => match resPV ps with
    | pv => match dedup (keysP pv) with
      | ks => match canonH s.heap ks 0 with
        | some h => forceP (pv.map (canonX ks)) fun pv => ResOK (pv, h) r
        | none => frzP (pv, s.heap) = some r.1 ∧ r.2 = []

/-! ### calls that are given own objects -/
def initM (args : List PV) (H : Heap) (n : Nat) (K : St → Prop) : Prop := force ⟨args ++ List.replicate (n - args.length) (.one .undef), H⟩ K

def keptKeys : Heap → List Nat
  | [] => []
  | (k, _) :: h => match Nat.ble 1000000 k with | true => k :: keptKeys h | false => keptKeys h
def under (ks : List Nat) : List Nat := match ks with | [] => [] | k :: ks => match Nat.ble 1000000 k with | true => under ks | false => k :: under ks
def numbered : List Nat → Nat → List (Nat × Nat)
  | [], _ => []
  | k :: ks, i => (k, i) :: numbered ks (i + 1)
def selves : List Nat → List (Nat × Nat)
  | [] => []
  | k :: ks => (k, k) :: selves ks

def pinSelf : List (Nat × Nat) → Bool
  | [] => true
  | (a, b) :: ρ => match pinK b with
    | true => match Nat.beq a b with | true => pinSelf ρ | false => false
    | false => pinSelf ρ

def retM (tt : TT) (fn : Func) (r : Res) (e : Ex) (s : St) : Prop :=
  match e with
  | .exit _ => False
  | _ => resVals tt s fn.results.toList fun ps => match resPV ps with
    | pv => forceN (numbered (under (dedup (keysP pv))) 0 ++ selves (keptKeys s.heap)) fun ρ =>
      match nodupB (ρ.map (·.1)), nodupB (ρ.map (·.2)), pinSelf ρ, renH ρ s.heap ρ with
      | true, true, true, some h => forceP (pv.map (renX ρ)) fun pv => forceH h fun h => (pv, h) = r
      | _, _, _, _ => False

end Go.Proofs.YtnafogjagbhdbaaDoor.Pi
/- Plain lemmas on the words of 'Pi'. No statement of the seat is proved here. -/
namespace Go.Proofs.YtnafogjagbhdbaaDoor.Pi
open Go Go.RowKit
set_option linter.unusedVariables false

theorem look_iff {K : PV → Prop} : ∀ {l : List PV} {n : Nat}, look l n K ↔ ∃ v, l[n]? = some v ∧ K v
  | [], n => by simp [look]
  | x :: xs, 0 => by simp [look]
  | x :: xs, n + 1 => by simp [look, look_iff (l := xs)]

theorem setK_iff {v : PV} : ∀ {l : List PV} {n : Nat} {K : List PV → Prop}, setK l n v K ↔ n < l.length ∧ K (l.set n v)
  | [], n, K => by simp [setK]
  | x :: xs, 0, K => by simp [setK]
  | x :: xs, n + 1, K => by simp [setK, setK_iff (l := xs)]

@[simp] theorem forceNat_eq (k : Nat) (K : Nat → Prop) : forceNat k K = K k := by cases k <;> rfl
@[simp] theorem forceB_eq (b : Bool) (K : Bool → Prop) : forceB b K = K b := by cases b <;> rfl
@[simp] theorem forceX_eq (x : XV) (K : XV → Prop) : forceX x K = K x := by cases x <;> simp [forceX]
@[simp] theorem forceXs_eq : ∀ (xs : List XV) (K : List XV → Prop), forceXs xs K = K xs
  | [], K => rfl
  | x :: xs, K => by simp [forceXs, forceXs_eq xs]
@[simp] theorem forceT_eq : ∀ (xs : List (Bool × List XV)) (K : List (Bool × List XV) → Prop), forceT xs K = K xs
  | [], K => rfl
  | (b, x) :: xs, K => by simp [forceT, forceT_eq xs]
@[simp] theorem forceP_eq (x : PV) (K : PV → Prop) : forceP x K = K x := by cases x <;> simp [forceP]
@[simp] theorem forceR_eq : ∀ (xs : List PV) (K : List PV → Prop), forceR xs K = K xs
  | [], K => rfl
  | x :: xs, K => by simp [forceR, forceR_eq xs]
@[simp] theorem forceO_eq (o : Ob) (K : Ob → Prop) : forceO o K = K o := by cases o <;> simp [forceO]
@[simp] theorem forceH_eq : ∀ (h : Heap) (K : Heap → Prop), forceH h K = K h
  | [], K => rfl
  | (k, o) :: h, K => by simp [forceH, forceH_eq h]
@[simp] theorem force_eq (s : St) (K : St → Prop) : force s K = K s := by cases s; simp [force]
@[simp] theorem subK_eq (xs : List XV) (o n : Nat) (K : List XV → Prop) : subK xs o n K = K (sub xs o n) := by simp [subK]

theorem beq_iff {a b : Nat} : Nat.beq a b = true ↔ a = b := by simp
theorem beq_false {a b : Nat} : Nat.beq a b = false ↔ a ≠ b := by rw [← Bool.not_eq_true, beq_iff]

theorem pinK_small {i : Nat} (h : i < 32) : pinK (1000000 + i) = true := by
  have h1 : Nat.ble 1000000 (1000000 + i) = true := by rw [Nat.ble_eq]; omega
  have h2 : Nat.mod (1000000 + i) 64 = i := by show (1000000 + i) % 64 = i; omega
  simp only [pinK, h1, h2]
  rw [Nat.blt_eq]; exact h
theorem pinK_le {k : Nat} (h : pinK k = true) : 1000000 ≤ k := by
  unfold pinK at h
  split at h
  · rename_i h1; exact Nat.le_of_ble_eq_true h1
  · cases h

theorem sub_eq {α : Type} : ∀ (xs : List α) (o n : Nat), sub xs o n = (xs.drop o).take n
  | _, _, 0 => by simp [sub]
  | [], _, _ + 1 => by simp [sub]
  | x :: xs, 0, n + 1 => by simp [sub, sub_eq xs 0 n]
  | x :: xs, o + 1, n + 1 => by simp [sub, sub_eq xs o (n + 1)]

theorem lenIs_iff {α : Type} : ∀ {xs : List α} {n : Nat}, lenIs xs n = true ↔ xs.length = n
  | [], 0 => by simp [lenIs]
  | [], n + 1 => by simp [lenIs]
  | x :: xs, 0 => by simp [lenIs]
  | x :: xs, n + 1 => by simp [lenIs, lenIs_iff (xs := xs)]

/-! ### the heap -/
theorem find_ins (k : Nat) (o : Ob) : ∀ (h : Heap) (k' : Nat), find h k = none → find (ins k o h) k' = if k' = k then some o else find h k'
  | [], k', _ => by
    simp only [ins, find]
    by_cases e : k' = k
    · subst e; simp
    · have : Nat.beq k k' = false := beq_false.2 (Ne.symm e); simp [this, e]
  | (a, o') :: h, k', hk => by
    simp only [find] at hk
    cases hb : Nat.beq a k with
    | true => simp [hb] at hk
    | false =>
      simp only [hb] at hk
      have hne : a ≠ k := beq_false.1 hb
      simp only [ins]
      cases Nat.blt k a with
      | true =>
        simp only [find]
        by_cases e : k' = k
        · subst e; simp
        · have : Nat.beq k k' = false := beq_false.2 (Ne.symm e); simp [this, e]
      | false =>
        simp only [find]
        cases hb2 : Nat.beq a k' with
        | true =>
          have : k' ≠ k := fun e => hne (by rw [beq_iff.1 hb2, e])
          simp [this]
        | false => simpa using find_ins k o h k' hk

theorem find_del (k : Nat) : ∀ (h : Heap) (k' : Nat), find (del k h) k' = if k' = k then none else find h k'
  | [], k' => by simp [del, find]
  | (a, o) :: h, k' => by
    simp only [del]
    cases hb : Nat.beq a k with
    | true =>
      have e := beq_iff.1 hb
      subst e
      simp only [find_del a h k', find]
      by_cases e : k' = a
      · simp [e]
      · have : Nat.beq a k' = false := beq_false.2 (Ne.symm e); simp [this, e]
    | false =>
      simp only [find]
      cases hb2 : Nat.beq a k' with
      | true =>
        have : k' ≠ k := fun e => (beq_false.1 hb) (by rw [beq_iff.1 hb2, e])
        simp [this]
      | false => simpa using find_del k h k'

theorem find_mapX (f : XV → XV) : ∀ (h : Heap) (k : Nat), find (h.mapX f) k = (find h k).map (Ob.map f)
  | [], k => rfl
  | (a, o) :: h, k => by
    have ih := find_mapX f h k
    simp only [Heap.mapX, List.map_cons, find] at ih ⊢
    cases Nat.beq a k <;> simp_all

theorem find_setOb (k : Nat) (o : Ob) : ∀ (h : Heap) (k' : Nat), find (setOb h k o) k' = if k' = k then (find h k).map (fun _ => o) else find h k'
  | [], k' => by simp [setOb, find]
  | (a, o') :: h, k' => by
    simp only [setOb]
    cases hb : Nat.beq a k with
    | true =>
      have e := beq_iff.1 hb
      subst e
      simp only [find]
      by_cases e : k' = a
      · subst e; simp
      · have : Nat.beq a k' = false := beq_false.2 (Ne.symm e); simp [this, e]
    | false =>
      simp only [find, hb, find_setOb k o h k']
      cases hb2 : Nat.beq a k' with
      | true =>
        have : k' ≠ k := fun e => (beq_false.1 hb) (by rw [beq_iff.1 hb2, e])
        simp [this]
      | false => simp

/-! ### contents in other worlds -/
theorem cell_of_block {w w' : World} {p : Addr} (h : w'.heap[p.block]? = w.heap[p.block]?) : w'.cell? p = w.cell? p := by
  simp only [World.cell?, h]
theorem frozen_of_block {w w' : World} {p : Addr} (h : w'.heap[p.block]? = w.heap[p.block]?) : w'.frozen? p = w.frozen? p := by
  simp only [World.frozen?, h]

theorem RepC.mono {I I' : Nat → Prop} {w w' : World} (hI : ∀ b, I b → I' b) (hw : ∀ b, I b → w'.heap[b]? = w.heap[b]?) {v : Value} {c : CV} (h : RepC I w v c) : RepC I' w' v c := by
  induction h with
  | int k n => exact .int k n
  | bool b => exact .bool b
  | str s => exact .str s
  | nil sz => exact .nil sz
  | empty a cap sz => exact .empty a cap sz
  | slice b off cap sz n es vs hb hn hcap hsz hc hr ih =>
    exact .slice b off cap sz n es vs (hI _ hb) hn hcap hsz (fun i r j c h1 h2 => by rw [cell_of_block (hw b hb)]; exact hc i r j c h1 h2) ih
  | ptr b off sz cs vs hb hsz hc hr ih =>
    exact .ptr b off sz cs vs (hI _ hb) hsz (fun j c h1 => by rw [cell_of_block (hw b hb)]; exact hc j c h1) ih
  | fn f vs cs hsz hr ih => exact .fn f vs cs hsz ih
  | nilI => exact .nilI
  | someI t v => exact .someI t v
  | own v sz es h ih => exact .own v sz es ih
  | hole base n cap => exact .hole base n cap
  | nilP => exact .nilP

theorem RepX.mono {L : Lay} {H : Heap} {I I' : Nat → Prop} {w w' : World} (hI : ∀ b, I b → I' b) (hw : ∀ b, I b → w'.heap[b]? = w.heap[b]?) {v : Value} {x : XV} (h : RepX L H I w v x) : RepX L H I' w' v x := by
  cases x <;> first
    | exact RepC.mono hI hw h
    | exact h
    | (obtain ⟨vs, cells, b, h1, h2, h3, h4, h5, h6, h7, h8⟩ := h
       exact ⟨vs, cells, b, h1, h2, h3, h4, h5, fun i c u g1 g2 => (h6 i c u g1 g2).mono hI hw, h7, fun i c u g1 g2 => (h8 i c u g1 g2).mono hI hw⟩)

theorem RepXs.mono {L : Lay} {H : Heap} {I I' : Nat → Prop} {w w' : World} (hI : ∀ b, I b → I' b) (hw : ∀ b, I b → w'.heap[b]? = w.heap[b]?) {vs : Array Value} {xs : List XV} (h : RepXs L H I w vs xs) : RepXs L H I' w' vs xs :=
  ⟨h.1, fun i x v h1 h2 => (h.2 i x v h1 h2).mono hI hw⟩

theorem RepB.map' {L L' : Lay} {H H' : Heap} {I I' : Nat → Prop} {w w' : World} {f : XV → XV} (hf : ∀ v x, RepX L H I w v x → RepX L' H' I' w' v (f x)) {v : Value} {p : Bool × List XV} (h : RepB L H I w v p) : RepB L' H' I' w' v (p.1, p.2.map f) := by
  obtain ⟨b, xs⟩ := p
  cases b with
  | true =>
    obtain ⟨vs, rfl, hsz, hr⟩ := h
    refine ⟨vs, rfl, by simpa using hsz, fun i x v h1 h2 => ?_⟩
    rw [List.getElem?_map] at h1
    cases h3 : xs[i]? with
    | none => simp [h3] at h1
    | some y => simp only [h3, Option.map_some, Option.some.injEq] at h1; subst h1; exact hf _ _ (hr i y v h3 h2)
  | false =>
    match xs, h with
    | [x], h => exact hf _ _ h

theorem RepXs.map' {L L' : Lay} {H H' : Heap} {I I' : Nat → Prop} {w w' : World} {f : XV → XV} (hf : ∀ v x, RepX L H I w v x → RepX L' H' I' w' v (f x)) {vs : Array Value} {xs : List XV} (h : RepXs L H I w vs xs) : RepXs L' H' I' w' vs (xs.map f) := by
  obtain ⟨hsz, hr⟩ := h
  refine ⟨by simpa using hsz, fun i x v h1 h2 => ?_⟩
  rw [List.getElem?_map] at h1
  cases h3 : xs[i]? with
  | none => simp [h3] at h1
  | some y => simp only [h3, Option.map_some, Option.some.injEq] at h1; subst h1; exact hf _ _ (hr i y v h3 h2)

theorem RepP.map' {L L' : Lay} {H H' : Heap} {I I' : Nat → Prop} {w w' : World} {f : XV → XV} (hf : ∀ v x, RepX L H I w v x → RepX L' H' I' w' v (f x)) {v : Value} {x : PV} (h : RepP L H I w v x) : RepP L' H' I' w' v (x.map f) := by
  cases x with
  | one x => exact hf _ _ h
  | agg xs => obtain ⟨vs, rfl, h⟩ := h; exact ⟨vs, rfl, h.map' hf⟩
  | tup ps =>
    obtain ⟨vs, rfl, hsz, hr⟩ := h
    refine ⟨vs, rfl, by simpa using hsz, fun i p v h1 h2 => ?_⟩
    rw [List.getElem?_map] at h1
    cases h3 : ps[i]? with
    | none => simp [h3] at h1
    | some q => simp only [h3, Option.map_some, Option.some.injEq] at h1; subst h1; exact (hr i q v h3 h2).map' hf

theorem PV.map_id' (x : PV) : x.map (fun y => y) = x := by
  cases x <;> simp [PV.map]

theorem RepP.mono {L L' : Lay} {H H' : Heap} {I I' : Nat → Prop} {w w' : World} (hf : ∀ v x, RepX L H I w v x → RepX L' H' I' w' v x) {v : Value} {x : PV} (h : RepP L H I w v x) : RepP L' H' I' w' v x := by
  have := RepP.map' (f := fun y => y) hf h
  rwa [PV.map_id'] at this

theorem RepXs.mono' {L L' : Lay} {H H' : Heap} {I I' : Nat → Prop} {w w' : World} (hf : ∀ v x, RepX L H I w v x → RepX L' H' I' w' v x) {vs : Array Value} {xs : List XV} (h : RepXs L H I w vs xs) : RepXs L' H' I' w' vs xs :=
  ⟨h.1, fun i x v h1 h2 => hf _ _ (h.2 i x v h1 h2)⟩

theorem RepC.oneCell {I : Nat → Prop} {w : World} {v : Value} {c : CV} (h : RepC I w v c) : oneCell v := by
  induction h with
  | own v sz es h ih => exact ih
  | _ => exact ⟨nofun, nofun⟩

theorem RepX.oneCell {L : Lay} {H : Heap} {I : Nat → Prop} {w : World} {v : Value} {x : XV} (hl : x.live = true) (h : RepX L H I w v x) : oneCell v := by
  cases x with
  | c y => exact RepC.oneCell h
  | nil sz => cases h; exact ⟨nofun, nofun⟩
  | rs k =>
    obtain ⟨sz, rows, _, h⟩ := h
    cases hb : L.blk k <;> simp only [hb] at h <;> subst h <;> exact ⟨nofun, nofun⟩
  | ru k o l =>
    obtain ⟨_, _, _, _, h⟩ := h
    cases hb : L.blk k with
    | none => simp only [hb] at h; subst h; exact ⟨nofun, nofun⟩
    | some b => simp only [hb] at h; obtain ⟨_, _, _, rfl⟩ := h; exact ⟨nofun, nofun⟩
  | pb k o l => obtain ⟨_, _, _, _, _, rfl⟩ := h; exact ⟨nofun, nofun⟩
  | pe k r o l => obtain ⟨_, _, _, _, _, _, _, rfl⟩ := h; exact ⟨nofun, nofun⟩
  | ds k =>
    obtain ⟨_, _, _, _, h⟩ := h
    cases hb : L.blk k with
    | none =>
      simp only [hb] at h
      rcases h.1 with rfl | ⟨_, _, rfl⟩ <;> exact ⟨nofun, nofun⟩
    | some b => simp only [hb] at h; subst h; exact ⟨nofun, nofun⟩
  | dp k r o l => obtain ⟨_, _, _, _, _, _, _, _, rfl⟩ := h; exact ⟨nofun, nofun⟩
  | dn k r j => obtain ⟨_, _, _, _, _, _, _, _, _, rfl⟩ := h; exact ⟨nofun, nofun⟩
  | fb f cs k n ds => obtain ⟨_, _, _, rfl, _⟩ := h; exact ⟨nofun, nofun⟩
  | undef => cases hl
  | dead => cases hl

theorem oneCell.cells {v : Value} (h : oneCell v) : v.cells = #[v] := by
  cases v <;> first | rfl | exact absurd rfl (h.1 _)

/-! ### deep contents -/
theorem RepD.mono {J J' : Nat → Prop} {w w' : World} {v : Value} {c : CV} (h : RepD w J v c) : (∀ b, J b → J' b) → (∀ b, J b → w'.heap[b]? = w.heap[b]?) → RepD w' J' v c := by
  induction h generalizing J' with
  | int J k n => exact fun _ _ => .int _ k n
  | bool J b => exact fun _ _ => .bool _ b
  | str J s => exact fun _ _ => .str _ s
  | nilI J => exact fun _ _ => .nilI _
  | someI J t v => exact fun _ _ => .someI _ t v
  | nil J sz => exact fun _ _ => .nil _ sz
  | empty J a cap sz => exact fun _ _ => .empty _ a cap sz
  | hole J base n cap => exact fun _ _ => .hole _ base n cap
  | own J v sz rows h hs ih =>
    intro h1 h2
    refine .own J' v sz rows (ih h1 h2) (hs.imp id fun ⟨b, n, cap, vs, e, fr, q1, q2, q3, q4, q5⟩ => ⟨b, n, cap, vs, e, fr, q1, h1 b q2, by rw [h2 b q2, q3], q4, fun o ho => by rw [frozen_of_block (p := ⟨b, o, none⟩) (h2 b q2)]; exact q5 o ho⟩)
  | slice J b cap sz rows vs e fr Js f hJ hcap hsz hb hvs hfz hc hr hJs hdis ih =>
    intro h1 h2
    refine .slice J' b cap sz rows vs e fr Js f (h1 b hJ) hcap hsz (by rw [h2 b hJ, hb]) hvs (fun o ho => by rw [frozen_of_block (p := ⟨b, o, none⟩) (h2 b hJ)]; exact hfz o ho) hc (fun i r j c g1 g2 => ih i r j c g1 g2 (fun b h => h) fun b' hb' => h2 b' (hJs _ b' hb').1) (fun x b' hx => ⟨h1 _ (hJs x b' hx).1, (hJs x b' hx).2⟩) hdis

theorem RepD.toC {J : Nat → Prop} {w : World} {v : Value} {c : CV} (h : RepD w J v c) : RepC J w v c := by
  induction h with
  | int J k n => exact .int k n
  | bool J b => exact .bool b
  | str J s => exact .str s
  | nilI J => exact .nilI
  | someI J t v => exact .someI t v
  | nil J sz => exact .nil sz
  | empty J a cap sz => exact .empty a cap sz
  | own J v sz rows h hs ih => exact .own v sz rows ih
  | hole J base n cap => exact .hole base n cap
  | slice J b cap sz rows vs e fr Js f hJ hcap hsz hb hvs hfz hc hr hJs hdis ih =>
    refine .slice b 0 cap sz rows.length rows (fun i j => f (i * sz + j)) hJ rfl hcap hsz (fun i r j c g1 g2 => ?_) (fun i r j c g1 g2 => (ih i r j c g1 g2).mono (fun b' hb' => (hJs _ b' hb').1) fun _ _ => rfl)
    simp only [World.cell?, hb, Nat.zero_add]
    exact hc i r j c g1 g2

theorem RepD.oneCell {J : Nat → Prop} {w : World} {v : Value} {c : CV} (h : RepD w J v c) : oneCell v := by
  induction h with
  | own J v sz rows h hs ih => exact ih
  | _ => exact ⟨nofun, nofun⟩

theorem RepD.of_flat {I J : Nat → Prop} {w : World} {v : Value} {c : CV} (hc : c.flat = true) (h : RepC I w v c) : RepD w J v c := by
  cases h with
  | int k n => exact .int _ k n
  | bool b => exact .bool _ b
  | str s => exact .str _ s
  | nil sz => exact .nil _ sz
  | empty a cap sz => exact .empty _ a cap sz
  | slice b off cap sz n es vs hI hn hcap hsz hc' hr =>
    cases es with
    | nil => subst hn; exact .empty _ _ _ _
    | cons _ _ => simp [CV.flat] at hc
  | ptr => simp [CV.flat] at hc
  | fn => simp [CV.flat] at hc
  | own => simp [CV.flat] at hc
  | hole => simp [CV.flat] at hc
  | nilP => simp [CV.flat] at hc
  | nilI => exact .nilI _
  | someI t v => exact .someI _ t v

theorem RepD.flat_any {J J' : Nat → Prop} {w w' : World} {v : Value} {c : CV} (hc : c.flat = true) (h : RepD w J v c) : RepD w' J' v c := by
  cases h with
  | int k n => exact .int _ _ _
  | bool b => exact .bool _ _
  | str s => exact .str _ _
  | nil sz => exact .nil _ _
  | empty a cap sz => exact .empty _ _ _ _
  | slice J b cap sz rows vs e fr Js f hJ hcap hsz hb hvs hfz hc' hr hJs hdis =>
    cases rows with
    | nil => exact .empty _ _ _ _
    | cons _ _ => simp [CV.flat] at hc
  | nilI => exact .nilI _
  | someI t v => exact .someI _ _ _
  | own => simp [CV.flat] at hc
  | hole => simp [CV.flat] at hc

theorem RepD.nil_empty {J : Nat → Prop} {w : World} {v : Value} {sz : Nat} (h : RepD w J v (.slice sz [])) : emptyV v := by
  generalize hc : CV.slice sz [] = c at h
  cases h <;> simp only [CV.slice.injEq, reduceCtorEq] at hc
  · exact Or.inl rfl
  · exact Or.inr ⟨_, _, rfl⟩
  · obtain ⟨rfl, rfl⟩ := hc; exact Or.inr ⟨_, _, rfl⟩

theorem RepD.isSlice {J : Nat → Prop} {w : World} {v : Value} {sz : Nat} {es : List (List CV)} (h : RepD w J v (.slice sz es)) : ∃ base n cap, v = .slice base n cap := by
  cases h <;> exact ⟨_, _, _, rfl⟩

theorem DRows.mono {J J' : Nat → Prop} {hd : Nat → Value} {w w' : World} {b cap sz : Nat} {rows : List (List CV)} (h : DRows w J hd b cap sz rows) (h1 : ∀ b, J b → J' b) (hb : w'.heap[b]? = w.heap[b]?) (h2 : ∀ b, J b → w'.heap[b]? = w.heap[b]?) : DRows w' J' hd b cap sz rows := by
  obtain ⟨g1, g2, vs, e, fr, Js, g3, g4, g5, g6, g7, g8⟩ := h
  refine ⟨g1, g2, vs, e, fr, Js, by rw [hb, g3], g4, fun o ho => by rw [frozen_of_block (p := ⟨b, o, none⟩) hb]; exact g5 o ho, fun i r j c h3 h4 => ?_, fun x b' hx => h1 b' (g7 x b' hx), g8⟩
  obtain ⟨v, q1, q2, q3⟩ := g6 i r j c h3 h4
  exact ⟨v, q1, q2.mono (fun _ h => h) fun b' hb' => h2 b' (g7 _ b' hb'), q3⟩

theorem DRows.toD {J J' : Nat → Prop} {hd : Nat → Value} {w : World} {b cap sz : Nat} {rows : List (List CV)} (h : DRows w J hd b cap sz rows) (hJ : ∀ x, J x → J' x ∧ x ≠ b) (hb : J' b) : RepD w J' (.slice (some ⟨b, 0, none⟩) rows.length cap) (.slice sz rows) := by
  obtain ⟨g1, g2, vs, e, fr, Js, g3, g4, g5, g6, g7, g8⟩ := h
  refine .slice J' b cap sz rows vs e fr Js (fun q => vs.getD q undef) hb g1 g2 g3 g4 g5 (fun i r j c h1 h2 => ?_) (fun i r j c h1 h2 => ?_) (fun x b' hx => hJ b' (g7 x b' hx)) g8
  · obtain ⟨v, q1, q2, q3⟩ := g6 i r j c h1 h2
    simp [q1]
  · obtain ⟨v, q1, q2, q3⟩ := g6 i r j c h1 h2
    have e : vs.getD (i * sz + j) undef = v := by simp [q1]
    rw [e]; exact q2

theorem RepD.rows {J : Nat → Prop} {w : World} {v : Value} {sz : Nat} {rows : List (List CV)} (h : RepD w J v (.slice sz rows)) :
    (emptyV v ∧ rows = []) ∨ ∃ b cap hd, v = .slice (some ⟨b, 0, none⟩) rows.length cap ∧ J b ∧ DRows w (fun x => J x ∧ x ≠ b) hd b cap sz rows := by
  generalize hc : CV.slice sz rows = c at h
  cases h <;> simp only [CV.slice.injEq, reduceCtorEq] at hc
  · exact Or.inl ⟨Or.inl rfl, hc.2⟩
  · exact Or.inl ⟨Or.inr ⟨_, _, rfl⟩, hc.2⟩
  · rename_i b cap sz' rows' vs e fr Js f hcap hsz hb hvs hfz hc' hr hdis hJ hJs
    obtain ⟨rfl, rfl⟩ := hc
    refine Or.inr ⟨b, cap, f, rfl, hJ, hcap, hsz, vs, e, fr, Js, hb, hvs, hfz, fun i r j c h1 h2 => ⟨_, hc' i r j c h1 h2, hr i r j c h1 h2, fun _ => rfl⟩, hJs, hdis⟩

end Go.Proofs.YtnafogjagbhdbaaDoor.Pi
/- The invariant between abstract states and machine states, and what keeps it. No statement of the seat is proved here. -/
namespace Go.Proofs.YtnafogjagbhdbaaDoor.Pi
open Go Go.RowKit
set_option linter.unusedVariables false

structure Ctx where
  w0 : World
  O : Nat → Prop
  I0 : Nat → Prop
  hO : ∀ b, w0.heap.size ≤ b → O b
  L0 : Lay
  lw : LaidIn O w0

structure Frame' (C : Ctx) (w : World) : Prop where
  os : w.os = C.w0.os
  tape : w.tape = C.w0.tape
  output : OutG w C.w0
  size : C.w0.heap.size ≤ w.heap.size
  block : ∀ b, b < C.w0.heap.size → ¬ C.O b → w.heap[b]? = C.w0.heap[b]?

structure Inv (C : Ctx) (L : Lay) (I : Nat → Prop) (s : St) (a : Act) (w : World) : Prop where
  len : a.tmps.size = s.regs.length
  regs : ∀ (t : Nat) (pv : PV) (v : Value), s.regs[t]? = some pv → a.tmps[t]? = some v → RepP L s.heap I w v pv
  heap : HeapOK C.O L s.heap I w
  Ib : ∀ b, I b → b < w.heap.size
  Io : ∀ b, b < C.w0.heap.size → I b → C.I0 b ∨ C.O b
  fr : Frame' C w
  defers : a.defers = []
  pin : ∀ k o, pinK k = true → find s.heap k = some o → L.blk k = C.L0.blk k ∧ L.cap k = C.L0.cap k

theorem Inv.laid {C : Ctx} {L : Lay} {I : Nat → Prop} {s : St} {a : Act} {w : World} (hi : Inv C L I s a w) {O : Nat → Prop} (hO : ∀ b, O b → C.O b ∨ C.w0.heap.size ≤ b) : LaidIn O w := C.lw.to hO hi.fr.size hi.fr.block
def Ob.shape : Ob → Nat × Nat × Nat
  | .box cs => (0, 0, cs.length)
  | .arr sz rows => (1, sz, rows.length)
  | .deep a sz rows => (match a with | true => 2 | false => 3, sz, rows.length)

def Knows (L : Lay) (H : Heap) (L' : Lay) (H' : Heap) (q : Nat → Prop) : Prop :=
  ∀ j o, q j → find H j = some o → (∃ o', find H' j = some o' ∧ o'.shape = o.shape) ∧ L'.blk j = L.blk j ∧ L'.cap j = L.cap j ∧ L'.hd j = L.hd j

abbrev Same (L L' : Lay) (j : Nat) : Prop := L'.blk j = L.blk j ∧ L'.cap j = L.cap j ∧ L'.fp j = L.fp j ∧ L'.hd j = L.hd j
theorem Same.rfl {L : Lay} {j : Nat} : Same L L j := ⟨Eq.refl _, Eq.refl _, Eq.refl _, Eq.refl _⟩

theorem shape_deep {o' : Ob} {a : Bool} {sz : Nat} {rows : List (List CV)} (h : o'.shape = (Ob.deep a sz rows).shape) : ∃ rows', o' = .deep a sz rows' ∧ rows'.length = rows.length := by
  cases o' with
  | box cs => cases a <;> simp [Ob.shape] at h
  | arr sz' rows' => cases a <;> simp [Ob.shape] at h
  | deep a' sz' rows' => cases a <;> cases a' <;> simp [Ob.shape] at h <;> exact ⟨rows', by rw [h.1], h.2⟩

theorem shape_arr {o' : Ob} {sz : Nat} {rows : List (List CV)} (h : o'.shape = (Ob.arr sz rows).shape) : ∃ rows', o' = .arr sz rows' ∧ rows'.length = rows.length := by
  cases o' with
  | box cs => simp [Ob.shape] at h
  | deep a' sz' rows' => cases a' <;> simp [Ob.shape] at h
  | arr sz' rows' => simp only [Ob.shape, Prod.mk.injEq, true_and] at h; exact ⟨rows', by rw [h.1], h.2⟩
theorem shape_box {o' : Ob} {cs : List XV} (h : o'.shape = (Ob.box cs).shape) : ∃ cs', o' = .box cs' ∧ cs'.length = cs.length := by
  cases o' with
  | arr sz rows => simp [Ob.shape] at h
  | deep a' sz' rows' => cases a' <;> simp [Ob.shape] at h
  | box cs' => simp only [Ob.shape, Prod.mk.injEq, true_and] at h; exact ⟨cs', rfl, h⟩

theorem RepX.ext {L L' : Lay} {H H' : Heap} {I I' : Nat → Prop} {w w' : World} {q : Nat → Prop} (hk : Knows L H L' H' q) (hI : ∀ b, I b → I' b) (hw : ∀ b, I b → w'.heap[b]? = w.heap[b]?)
    {v : Value} {x : XV} (hq : ∀ k, x.key? = some k → q k) (h : RepX L H I w v x) : RepX L' H' I' w' v x := by
  cases x with
  | c y => exact RepC.mono hI hw h
  | nil sz => exact h
  | undef => exact h
  | dead => trivial
  | rs k =>
    obtain ⟨sz, rows, h1, h2⟩ := h
    obtain ⟨⟨o', h3, h4⟩, hb, hc, hh⟩ := hk k _ (hq k rfl) h1
    obtain ⟨rows', rfl, hl⟩ := shape_arr h4
    exact ⟨sz, rows', h3, by rw [hb, hc, hl]; exact h2⟩
  | ru k off len =>
    obtain ⟨sz, rows, h1, h5, h2⟩ := h
    obtain ⟨⟨o', h3, h4⟩, hb, hc, hh⟩ := hk k _ (hq k rfl) h1
    obtain ⟨rows', rfl, hl⟩ := shape_arr h4
    exact ⟨sz, rows', h3, by omega, by rw [hb, hc]; exact h2⟩
  | pb k off len =>
    obtain ⟨cs, b, h1, h2, h5, h6⟩ := h
    obtain ⟨⟨o', h3, h4⟩, hb, hc, hh⟩ := hk k _ (hq k rfl) h1
    obtain ⟨cs', rfl, hl⟩ := shape_box h4
    exact ⟨cs', b, h3, by rw [hb, h2], by omega, h6⟩
  | pe k row off len =>
    obtain ⟨sz, rows, b, h1, h2, h5, h6, h7⟩ := h
    obtain ⟨⟨o', h3, h4⟩, hb, hc, hh⟩ := hk k _ (hq k rfl) h1
    obtain ⟨rows', rfl, hl⟩ := shape_arr h4
    exact ⟨sz, rows', b, h3, by rw [hb, h2], by omega, h6, h7⟩
  | ds k =>
    obtain ⟨a, sz, rows, h1, h2⟩ := h
    obtain ⟨⟨o', h3, h4⟩, hb, hc, hh⟩ := hk k _ (hq k rfl) h1
    obtain ⟨rows', rfl, hl⟩ := shape_deep h4
    exact ⟨a, sz, rows', h3, by rw [hb, hc, hl]; exact h2⟩
  | dp k row off len =>
    obtain ⟨a, sz, rows, b, h1, h2, h5, h6, h7⟩ := h
    obtain ⟨⟨o', h3, h4⟩, hb, hc, hh⟩ := hk k _ (hq k rfl) h1
    obtain ⟨rows', rfl, hl⟩ := shape_deep h4
    exact ⟨a, sz, rows', b, h3, by rw [hb, h2], by omega, h6, h7⟩
  | dn k row j =>
    obtain ⟨a, sz, rows, h1, h2, h5, h6⟩ := h
    obtain ⟨⟨o', h3, h4⟩, hb, hc, hh⟩ := hk k _ (hq k rfl) h1
    obtain ⟨rows', rfl, hl⟩ := shape_deep h4
    exact ⟨a, sz, rows', h3, by omega, by rw [hh]; exact h5, h6⟩
  | fb f cs k n ds =>
    obtain ⟨vs, cells, b, g1, h1, g2, g3, g4, g5, g6, g7⟩ := h
    obtain ⟨⟨o', h3, h4⟩, hb, hc, hh⟩ := hk k _ (hq k rfl) h1
    obtain ⟨cs', rfl, hl⟩ := shape_box h4
    exact ⟨vs, cs', b, g1, h3, by rw [hb, g2], by omega, g4, fun i c u q1 q2 => (g5 i c u q1 q2).mono hI hw, g6, fun i c u q1 q2 => (g7 i c u q1 q2).mono hI hw⟩

theorem RepO.ext {L L' : Lay} {H H' : Heap} {I I' : Nat → Prop} {w w' : World} {k : Nat} {o : Ob} {f : XV → XV} (hf : ∀ v x, RepX L H I w v x → RepX L' H' I' w' v (f x)) (hI : ∀ b, I b → I' b) (hw : ∀ b, I b → w'.heap[b]? = w.heap[b]?)
    (hs : Same L L' k) (hb : ∀ b, Foot L k b → w'.heap[b]? = w.heap[b]?) (hfc : ∀ y, f (.c y) = .c y) (h : RepO L H I w k o) : RepO L' H' I' w' k (o.map f) := by
  obtain ⟨hbk, hck, hfk, hhk⟩ := hs
  cases o with
  | deep a sz rows =>
    simp only [RepO, Ob.map] at h ⊢
    rw [hbk, hck, hfk, hhk]
    cases hL : L.blk k with
    | none => simpa [hL] using h
    | some b =>
      simp only [hL] at h ⊢
      exact ⟨h.1.mono (fun _ h => h) (hb b (.inl hL)) fun b' hb' => hb b' (.inr hb'), h.2⟩
  | box cs =>
    simp only [RepO, Ob.map] at h ⊢
    cases hB : bK k with
    | true =>
      rw [hB] at h
      obtain ⟨b, l, e, h1, h2⟩ := h
      subst e
      exact ⟨b, l, by simp [hfc], by rw [hbk, h1], h2.ext (hb b (.inl h1)) (fun g h => hb g (.inr h)) (fun g h => by rw [hfk]; exact h)⟩
    | false =>
      rw [hB] at h
      obtain ⟨b, vs, e, fr, h1, h2, h3, h5, h4⟩ := h
      exact ⟨b, vs, e, fr, by rw [hbk, h1], by rw [hb b (.inl h1), h2], fun o ho => by rw [frozen_of_block (p := ⟨b, o, none⟩) (hb b (.inl h1))]; exact h3 o ho, h5, h4.map' hf⟩
  | arr sz rows =>
    simp only [RepO, Ob.map] at h ⊢
    rw [hbk]
    cases hL : L.blk k with
    | none => simpa [hL] using h
    | some b =>
      simp only [hL] at h ⊢
      obtain ⟨h1, h2, vs, e, fr, h3, h4, h5, h6⟩ := h
      refine ⟨by rw [hck]; exact h1, h2, vs, e, fr, by rw [hb b (.inl hL), h3], by rw [hck]; exact h4, fun o ho => by rw [frozen_of_block (p := ⟨b, o, none⟩) (hb b (.inl hL))]; exact h5 o ho, fun i r j c g1 g2 => ?_⟩
      obtain ⟨v, g3, g4⟩ := h6 i r j c g1 g2
      exact ⟨v, g3, g4.mono hI hw⟩

theorem Ob.map_id' (o : Ob) : o.map (fun y => y) = o := by cases o <;> simp [Ob.map]

theorem RepO.ext' {L L' : Lay} {H H' : Heap} {I I' : Nat → Prop} {w w' : World} {k : Nat} {o : Ob} (hf : ∀ v x, RepX L H I w v x → RepX L' H' I' w' v x) (hI : ∀ b, I b → I' b) (hw : ∀ b, I b → w'.heap[b]? = w.heap[b]?)
    (hs : Same L L' k) (hb : ∀ b, Foot L k b → w'.heap[b]? = w.heap[b]?) (h : RepO L H I w k o) : RepO L' H' I' w' k o := by
  have := RepO.ext (f := fun y => y) hf hI hw hs hb (fun _ => rfl) h
  rwa [Ob.map_id'] at this

theorem Inv.change {C : Ctx} {L L' : Lay} {I I' : Nat → Prop} {s s' : St} {a : Act} {w w' : World} {f : XV → XV} (hi : Inv C L I s a w)
    (hf : ∀ v x, RepX L s.heap I w v x → RepX L' s'.heap I' w' v (f x)) (hregs : s'.regs = s.regs.map (PV.map f))
    (hheap : HeapOK C.O L' s'.heap I' w') (hIb : ∀ b, I' b → b < w'.heap.size) (hIo : ∀ b, b < C.w0.heap.size → I' b → C.I0 b ∨ C.O b) (hfr : Frame' C w') (hpin : ∀ k o, pinK k = true → find s'.heap k = some o → ∃ o', find s.heap k = some o' ∧ L'.blk k = L.blk k ∧ L'.cap k = L.cap k) : Inv C L' I' s' a w' where
  len := by rw [hregs]; simpa using hi.len
  regs := fun t pv v h1 h2 => by
    rw [hregs, List.getElem?_map] at h1
    cases h3 : s.regs[t]? with
    | none => simp [h3] at h1
    | some p => simp only [h3, Option.map_some, Option.some.injEq] at h1; subst h1; exact (hi.regs t p v h3 h2).map' hf
  heap := hheap
  Ib := hIb
  Io := hIo
  fr := hfr
  defers := hi.defers
  pin := fun k o h1 h2 => by
    obtain ⟨o', h3, h4, h5⟩ := hpin k o h1 h2
    rw [h4, h5]; exact hi.pin k o' h1 h3

theorem map_id_regs (l : List PV) : l.map (PV.map fun y => y) = l := by
  rw [show (PV.map fun y => y) = id from funext PV.map_id']; simp

theorem Inv.grow {C : Ctx} {L : Lay} {I : Nat → Prop} {s : St} {a : Act} {w w' : World} (hi : Inv C L I s a w)
    (hb : ∀ b, b < w.heap.size → w'.heap[b]? = w.heap[b]?) (hsz : w.heap.size ≤ w'.heap.size) (h1 : w'.os = w.os) (h2 : w'.tape = w.tape) (h3 : OutG w' w) : Inv C L I s a w' := by
  have hw : ∀ b, I b → w'.heap[b]? = w.heap[b]? := fun b hb' => hb b (hi.Ib b hb')
  have hf : ∀ v x, RepX L s.heap I w v x → RepX L s.heap I w' v x := fun v x h => h.mono (fun _ h => h) hw
  refine hi.change (f := fun y => y) hf (map_id_regs _).symm ?_ (fun b h => Nat.lt_of_lt_of_le (hi.Ib b h) hsz) hi.Io ?_ ?_
  · exact ⟨fun k o h => (hi.heap.ob k o h).ext' hf (fun _ h => h) hw .rfl (fun b hb' => hb b (hi.heap.own k o b h hb').2.2), fun k o b g1 g2 => ⟨(hi.heap.own k o b g1 g2).1, (hi.heap.own k o b g1 g2).2.1, Nat.lt_of_lt_of_le (hi.heap.own k o b g1 g2).2.2 hsz⟩, hi.heap.inj⟩
  · exact ⟨h1.trans hi.fr.os, h2.trans hi.fr.tape, h3.trans hi.fr.output, Nat.le_trans hi.fr.size hsz, fun b g1 g2 => (hb b (Nat.lt_of_lt_of_le g1 hi.fr.size)).trans (hi.fr.block b g1 g2)⟩
  · exact fun k o _ h => ⟨o, h, rfl, rfl⟩

theorem RepX.kill {L : Lay} {H H' : Heap} {I : Nat → Prop} {w : World} {k : Nat} (hH : ∀ j, j ≠ k → (find H' j = none ↔ find H j = none)) (hS : ∀ j o, j ≠ k → find H j = some o → ∃ o', find H' j = some o' ∧ o'.shape = o.shape) {v : Value} {x : XV} (h : RepX L H I w v x) : RepX L H' I w v (x.kill k) := by
  unfold XV.kill
  cases hx : x.key? with
  | none => exact RepX.ext (q := fun _ => False) (fun j o hq => hq.elim) (fun _ h => h) (fun _ _ => rfl) (fun k' h' => by rw [hx] at h'; cases h') h
  | some k' =>
    simp only
    cases hb : Nat.beq k' k with
    | true => trivial
    | false =>
      have hne := beq_false.1 hb
      exact RepX.ext (q := fun j => j ≠ k) (fun j o hq hj => ⟨hS j o hq hj, rfl, rfl, rfl⟩) (fun _ h => h) (fun _ _ => rfl) (fun k'' h' => by rw [hx] at h'; cases h'; exact hne) h

theorem shape_map (f : XV → XV) (o : Ob) : (o.map f).shape = o.shape := by cases o <;> simp [Ob.map, Ob.shape]

theorem killK_inv {C : Ctx} {L : Lay} {I : Nat → Prop} {s : St} {a : Act} {w : World} {k : Nat} {K : St → Prop} (hK : killK k s K) (hi : Inv C L I s a w) :
    ∃ s', K s' ∧ Inv C L I s' a w ∧ find s'.heap k = none ∧ (∀ j, j ≠ k → find s'.heap j = (find s.heap j).map (Ob.map (XV.kill k))) ∧ (∀ v x, RepX L s.heap I w v x → x.key? ≠ some k → RepX L s'.heap I w v x) := by
  unfold killK at hK
  cases hfd : find s.heap k with
  | none =>
    simp only [hfd] at hK
    refine ⟨s, hK, hi, hfd, fun j hj => ?_, fun v x h _ => h⟩
    cases hj' : find s.heap j with
    | none => rfl
    | some o =>
      have ho := hi.heap.ob j o hj'
      simp only [Option.map_some, Option.some.injEq]
      cases o with
      | arr sz rows => rfl
      | deep a sz rows => rfl
      | box cs =>
        simp only [RepO] at ho
        cases hB : bK j with
        | true =>
          rw [hB] at ho
          obtain ⟨b, l, e, _⟩ := ho
          subst e; rfl
        | false =>
        rw [hB] at ho
        obtain ⟨b, vs, e, fr, _, _, _, _, hsz, hr⟩ := ho
        simp only [Ob.map, Ob.box.injEq]
        refine (List.ext_getElem? fun i => ?_)
        rw [List.getElem?_map]
        cases hx : cs[i]? with
        | none => rfl
        | some x =>
          have hlt : i < vs.size := by rw [hsz]; exact (List.getElem?_eq_some_iff.1 hx).1
          have hrx := hr i x vs[i] hx (Array.getElem?_eq_getElem hlt)
          simp only [Option.map_some, Option.some.injEq]
          unfold XV.kill
          cases hk : x.key? with
          | none => rfl
          | some k' =>
            simp only
            cases hb : Nat.beq k' k with
            | false => rfl
            | true =>
              exfalso
              have e := beq_iff.1 hb
              subst e
              cases x <;> simp only [XV.key?, Option.some.injEq, reduceCtorEq] at hk <;> subst hk <;> simp only [RepX, hfd] at hrx <;> simp at hrx
  | some o =>
    simp only [hfd, force_eq] at hK
    have hfind : ∀ j, find ((del k s.heap).mapX (XV.kill k)) j = if j = k then none else (find s.heap j).map (Ob.map (XV.kill k)) := fun j => by
      rw [find_mapX, find_del]; split <;> rfl
    have hH : ∀ j, j ≠ k → (find ((del k s.heap).mapX (XV.kill k)) j = none ↔ find s.heap j = none) := fun j hj => by rw [hfind, if_neg hj]; simp
    have hS : ∀ j o, j ≠ k → find s.heap j = some o → ∃ o', find ((del k s.heap).mapX (XV.kill k)) j = some o' ∧ o'.shape = o.shape := fun j o hj h => ⟨o.map (XV.kill k), by rw [hfind, if_neg hj, h]; rfl, shape_map _ _⟩
    have hf : ∀ v x, RepX L s.heap I w v x → RepX L ((del k s.heap).mapX (XV.kill k)) I w v (x.kill k) := fun v x h => RepX.kill hH hS h
    refine ⟨_, hK, hi.change (f := XV.kill k) hf rfl ?_ hi.Ib hi.Io hi.fr (fun j o _ h => by
      simp only [hfind] at h
      split at h
      · cases h
      · cases h2 : find s.heap j with
        | none => simp [h2] at h
        | some o2 => exact ⟨o2, rfl, rfl, rfl⟩), by simp [hfind], fun j hj => by simp only [hfind, if_neg hj], fun v x h hx => ?_⟩
    · refine ⟨fun j o' h => ?_, fun j o' b h hb => ?_, fun j j' o1 o2 b h h' hb hb' => ?_⟩
      · simp only [hfind] at h
        by_cases hj : j = k
        · simp [hj] at h
        · rw [if_neg hj] at h
          cases h2 : find s.heap j with
          | none => simp [h2] at h
          | some o2 =>
            simp only [h2, Option.map_some, Option.some.injEq] at h
            subst h
            exact (hi.heap.ob j o2 h2).ext hf (fun _ h => h) (fun _ _ => rfl) .rfl (fun _ _ => rfl) (fun _ => rfl)
      · simp only [hfind] at h
        by_cases hj : j = k
        · simp [hj] at h
        · rw [if_neg hj] at h
          cases h2 : find s.heap j with
          | none => simp [h2] at h
          | some o2 => exact hi.heap.own j o2 b h2 hb
      · simp only [hfind] at h h'
        by_cases hj : j = k
        · simp [hj] at h
        · by_cases hj2 : j' = k
          · simp [hj2] at h'
          · rw [if_neg hj] at h; rw [if_neg hj2] at h'
            cases h2 : find s.heap j with
            | none => simp [h2] at h
            | some o3 =>
              cases h3 : find s.heap j' with
              | none => simp [h3] at h'
              | some o4 => exact hi.heap.inj j j' o3 o4 b h2 h3 hb hb'
    · have := hf v x h
      have e : x.kill k = x := by
        unfold XV.kill
        cases hk : x.key? with
        | none => rfl
        | some k' =>
          simp only
          cases hb : Nat.beq k' k with
          | false => rfl
          | true => exact absurd (by rw [hk, beq_iff.1 hb]) hx
      rwa [e] at this

def Lay.updD (L : Lay) (k : Nat) (nb : Option Nat) (cap : Nat) (fp : Nat → Prop) (hd : Nat → Value) : Lay := ⟨fun j => if j = k then nb else L.blk j, fun j => if j = k then cap else L.cap j, fun j => if j = k then fp else L.fp j, fun j => if j = k then hd else L.hd j⟩
def Lay.upd (L : Lay) (k : Nat) (nb : Option Nat) (cap : Nat) : Lay := L.updD k nb cap (fun _ => False) (fun _ => undef)
theorem Lay.updD_same (L : Lay) {k j : Nat} {nb : Option Nat} {cap : Nat} {fp : Nat → Prop} {hd : Nat → Value} (h : j ≠ k) : Same L (L.updD k nb cap fp hd) j := ⟨by simp [Lay.updD, h], by simp [Lay.updD, h], by simp [Lay.updD, h], by simp [Lay.updD, h]⟩

theorem newK_invD {C : Ctx} {L : Lay} {I : Nat → Prop} {s : St} {a : Act} {w w' : World} {k : Nat} {o : Ob} {K : St → Prop} (hK : newK k o s K) (hi : Inv C L I s a w)
    (hb : ∀ b, b < w.heap.size → w'.heap[b]? = w.heap[b]?) (hsz : w.heap.size ≤ w'.heap.size) (h1 : w'.os = w.os) (h2 : w'.tape = w.tape) (h3 : OutG w' w)
    (nb : Option Nat) (cap : Nat) (fp : Nat → Prop) (hd : Nat → Value) (hnb : ∀ b, (nb = some b ∨ fp b) → C.O b ∧ ¬ I b ∧ b < w'.heap.size ∧ ∀ j o', j ≠ k → find s.heap j = some o' → ¬ Foot L j b)
    (hrep : ∀ H', find H' k = some o → (∀ v x, RepX L s.heap I w v x → x.key? ≠ some k → RepX (L.updD k nb cap fp hd) H' I w' v x) → RepO (L.updD k nb cap fp hd) H' I w' k o) :
    ∃ s', K s' ∧ Inv C (L.updD k nb cap fp hd) I s' a w' ∧ find s'.heap k = some o ∧ (∀ v x, RepX L s.heap I w v x → x.key? ≠ some k → RepX (L.updD k nb cap fp hd) s'.heap I w' v x) ∧ (∀ j, j ≠ k → find s'.heap j = (find s.heap j).map (Ob.map (XV.kill k))) := by
  unfold newK at hK
  split at hK
  case h_1 => exact hK.elim
  rename_i hlt
  have hlt : pinK k = false := hlt
  obtain ⟨s1, hK, hi1, hn, hfs, hkeep⟩ := killK_inv hK hi
  obtain ⟨r1, H1⟩ := s1
  simp only [forceH_eq] at hK
  have hback : ∀ j, j ≠ k → ∀ o2, find H1 j = some o2 → ∃ o3, find s.heap j = some o3 := fun j hj o2 h => by
    rw [hfs j hj] at h
    cases h3 : find s.heap j with
    | none => simp [h3] at h
    | some o3 => exact ⟨o3, rfl⟩
  have hfind := find_ins k o H1
  have hw : ∀ b, I b → w'.heap[b]? = w.heap[b]? := fun b h => hb b (hi.Ib b h)
  have hsame : ∀ {j}, j ≠ k → Same L (L.updD k nb cap fp hd) j := fun h => L.updD_same h
  have hfoot : ∀ {j b}, j ≠ k → Foot (L.updD k nb cap fp hd) j b → Foot L j b := fun {j b} h hf => by
    obtain ⟨e1, _, e3, _⟩ := hsame h
    rcases hf with hf | hf
    · exact .inl (e1 ▸ hf)
    · exact .inr (e3 ▸ hf)
  have hnew : ∀ {b}, Foot (L.updD k nb cap fp hd) k b → nb = some b ∨ fp b := fun {b} hf => by simpa [Foot, Lay.updD] using hf
  have hf : ∀ v x, RepX L H1 I w v x → RepX (L.updD k nb cap fp hd) (ins k o H1) I w' v x := fun v x h => by
    refine RepX.ext (q := fun j => j ≠ k) (fun j o' hq hj => ⟨⟨o', by rw [hfind j hn, if_neg hq, hj], rfl⟩, (hsame hq).1, (hsame hq).2.1, (hsame hq).2.2.2⟩) (fun _ h => h) hw (fun j hj e => ?_) h
    subst e
    cases x <;> simp only [XV.key?, Option.some.injEq, reduceCtorEq] at hj <;> subst hj <;> simp only [RepX, hn] at h <;> simp at h
  have hall : ∀ v x, RepX L s.heap I w v x → x.key? ≠ some k → RepX (L.updD k nb cap fp hd) (ins k o H1) I w' v x := fun v x h hx => hf v x (hkeep v x h hx)
  refine ⟨_, hK, hi1.change (f := fun y => y) hf (map_id_regs _).symm ?_ (fun b h => Nat.lt_of_lt_of_le (hi.Ib b h) hsz) hi.Io ?_ ?_, by simp [hfind k hn], hall, fun j hj => by simp only [hfind j hn, if_neg hj]; exact hfs j hj⟩
  · refine ⟨fun j o' h => ?_, fun j o' b h hbk => ?_, fun j j' o1 o2 b h h' hbk hbk' => ?_⟩
    · by_cases hj : j = k
      · subst hj
        have e : o' = o := by simpa [hfind j hn] using h.symm
        subst e
        exact hrep _ h hall
      · have h' : find H1 j = some o' := by simpa [hfind j hn, hj] using h
        exact (hi1.heap.ob j o' h').ext' hf (fun _ h => h) hw (hsame hj) (fun b hb' => hb b (hi1.heap.own j o' b h' hb').2.2)
    · by_cases hj : j = k
      · subst hj
        obtain ⟨g1, g2, g3, _⟩ := hnb b (hnew hbk)
        exact ⟨g1, g2, g3⟩
      · have h' : find H1 j = some o' := by simpa [hfind j hn, hj] using h
        have := hi1.heap.own j o' b h' (hfoot hj hbk)
        exact ⟨this.1, this.2.1, Nat.lt_of_lt_of_le this.2.2 hsz⟩
    · by_cases hj : j = k
      · by_cases hj2 : j' = k
        · rw [hj, hj2]
        · exfalso
          have hbk1 := hnew (hj ▸ hbk)
          have h2' : find H1 j' = some o2 := by simpa [hfind j' hn, hj2] using h'
          obtain ⟨o3, h3'⟩ := hback j' hj2 o2 h2'
          exact (hnb b hbk1).2.2.2 j' o3 hj2 h3' (hfoot hj2 hbk')
      · by_cases hj2 : j' = k
        · exfalso
          have hbk1 := hnew (hj2 ▸ hbk')
          have h2' : find H1 j = some o1 := by simpa [hfind j hn, hj] using h
          obtain ⟨o3, h3'⟩ := hback j hj o1 h2'
          exact (hnb b hbk1).2.2.2 j o3 hj h3' (hfoot hj hbk)
        · exact hi1.heap.inj j j' o1 o2 b (by simpa [hfind j hn, hj] using h) (by simpa [hfind j' hn, hj2] using h') (hfoot hj hbk) (hfoot hj2 hbk')
  · exact ⟨h1.trans hi.fr.os, h2.trans hi.fr.tape, h3.trans hi.fr.output, Nat.le_trans hi.fr.size hsz, fun b g1 g2 => (hb b (Nat.lt_of_lt_of_le g1 hi.fr.size)).trans (hi.fr.block b g1 g2)⟩
  · intro j o' hj h
    have hne : j ≠ k := fun e => by rw [e, hlt] at hj; cases hj
    exact ⟨o', by simpa [hfind j hn, hne] using h, (hsame hne).1, (hsame hne).2.1⟩

theorem newK_inv {C : Ctx} {L : Lay} {I : Nat → Prop} {s : St} {a : Act} {w w' : World} {k : Nat} {o : Ob} {K : St → Prop} (hK : newK k o s K) (hi : Inv C L I s a w)
    (hb : ∀ b, b < w.heap.size → w'.heap[b]? = w.heap[b]?) (hsz : w.heap.size ≤ w'.heap.size) (h1 : w'.os = w.os) (h2 : w'.tape = w.tape) (h3 : OutG w' w)
    (nb : Option Nat) (cap : Nat) (hnb : ∀ b, nb = some b → C.O b ∧ ¬ I b ∧ b < w'.heap.size ∧ ∀ j o', j ≠ k → find s.heap j = some o' → ¬ Foot L j b)
    (hrep : ∀ H', find H' k = some o → (∀ v x, RepX L s.heap I w v x → x.key? ≠ some k → RepX (L.upd k nb cap) H' I w' v x) → RepO (L.upd k nb cap) H' I w' k o) :
    ∃ s', K s' ∧ Inv C (L.upd k nb cap) I s' a w' ∧ find s'.heap k = some o ∧ (∀ v x, RepX L s.heap I w v x → x.key? ≠ some k → RepX (L.upd k nb cap) s'.heap I w' v x) ∧ (∀ j, j ≠ k → find s'.heap j = (find s.heap j).map (Ob.map (XV.kill k))) :=
  newK_invD hK hi hb hsz h1 h2 h3 nb cap _ _ (fun b h => hnb b (h.elim id fun h => h.elim)) hrep

theorem Inv.put {C : Ctx} {L : Lay} {I : Nat → Prop} {s : St} {a : Act} {w : World} {d : Option Nat} {v : Value} {pv : PV} {K : St → Prop} (hK : putK d pv s K) (hi : Inv C L I s a w) (hr : RepP L s.heap I w v pv) :
    ∃ s', K s' ∧ Inv C L I s' (a.put d v) w := by
  obtain ⟨r, H⟩ := s
  cases d with
  | none => exact ⟨_, hK, hi⟩
  | some d =>
    simp only [putK, setK_iff] at hK
    refine ⟨_, hK.2, ⟨by simpa [Act.put] using hi.len, fun t pv' v' h1 h2 => ?_, hi.heap, hi.Ib, hi.Io, hi.fr, hi.defers, hi.pin⟩⟩
    simp only [List.getElem?_set] at h1
    simp only [Act.put, Array.getElem?_setIfInBounds] at h2
    by_cases e : d = t
    · subst e
      simp only [if_true] at h1 h2
      have hl : d < a.tmps.size := by rw [hi.len]; exact hK.1
      rw [if_pos hK.1] at h1
      rw [if_pos hl] at h2
      cases h1; cases h2; exact hr
    · rw [if_neg e] at h1 h2
      exact hi.regs t pv' v' h1 h2

end Go.Proofs.YtnafogjagbhdbaaDoor.Pi
/- Renaming, freezing, writing of own objects keep the invariant. No statement of the seat is proved here. -/
namespace Go.Proofs.YtnafogjagbhdbaaDoor.Pi
open Go Go.RowKit
set_option linter.unusedVariables false
set_option linter.unusedSimpArgs false

theorem cell_row {w : World} {b j : Nat} {cs : Array Value} {t : TypeId} {fr : Nat × Nat} (h : w.heap[b]? = some (.cells cs t fr)) : w.cell? ⟨b, j, none⟩ = cs[j]? := by
  simp [World.cell?, h]

theorem find_key {L : Lay} {H : Heap} {I : Nat → Prop} {w : World} {v : Value} {x : XV} {k : Nat} (hx : x.key? = some k) (h : RepX L H I w v x) : ∃ o, find H k = some o := by
  cases x <;> simp only [XV.key?, Option.some.injEq, reduceCtorEq] at hx <;> subst hx
  · obtain ⟨_, _, h, _⟩ := h; exact ⟨_, h⟩
  · obtain ⟨_, _, h, _⟩ := h; exact ⟨_, h⟩
  · obtain ⟨_, _, h, _⟩ := h; exact ⟨_, h⟩
  · obtain ⟨_, _, _, h, _⟩ := h; exact ⟨_, h⟩
  · obtain ⟨_, _, _, h, _⟩ := h; exact ⟨_, h⟩
  · obtain ⟨_, _, _, _, h, _⟩ := h; exact ⟨_, h⟩
  · obtain ⟨_, _, _, h, _⟩ := h; exact ⟨_, h⟩
  · obtain ⟨_, _, _, _, h, _⟩ := h; exact ⟨_, h⟩

theorem renK_inv {C : Ctx} {L : Lay} {I : Nat → Prop} {s : St} {a : Act} {w : World} {k k2 : Nat} {K : St → Prop} (hK : renK k k2 s K) (hi : Inv C L I s a w) (hne : ∃ o, find s.heap k = some o) :
    ∃ s' L', K s' ∧ Inv C L' I s' a w ∧ (∀ v, RepX L s.heap I w v (.rs k) → RepX L' s'.heap I w v (.rs k2)) ∧ (∀ v, RepX L s.heap I w v (.ds k) → RepX L' s'.heap I w v (.ds k2)) := by
  unfold renK at hK
  cases hb : Nat.beq k k2 with
  | true =>
    simp only [hb] at hK
    have e := beq_iff.1 hb
    subst e
    exact ⟨s, L, hK, hi, fun v h => h, fun v h => h⟩
  | false =>
    simp only [hb] at hK
    have hkk := beq_false.1 hb
    split at hK
    · exact hK.elim
    rename_i hlt
    have hlt : pinK k2 = false := hlt
    obtain ⟨s1, hK, hi1, hn, hfs, hkeep⟩ := killK_inv hK hi
    cases hfd : find s1.heap k with
    | none => simp [hfd] at hK
    | some o =>
      have hbb : bK k = bK k2 := by
        cases h : eqB (bK k) (bK k2) with
        | true => exact eqB_iff h
        | false => simp [hfd, h] at hK
      have hbe : eqB (bK k) (bK k2) = true := by rw [hbb]; cases bK k2 <;> rfl
      simp only [hfd, hbe, force_eq] at hK
      let L' : Lay := L.updD k2 (L.blk k) (L.cap k) (L.fp k) (L.hd k)
      have hs2 : L'.blk k2 = L.blk k ∧ L'.cap k2 = L.cap k ∧ L'.fp k2 = L.fp k ∧ L'.hd k2 = L.hd k := ⟨by simp [L', Lay.updD], by simp [L', Lay.updD], by simp [L', Lay.updD], by simp [L', Lay.updD]⟩
      have hfk : ∀ {b}, Foot L' k2 b → Foot L k b := fun {b} h => by simpa [Foot, L', Lay.updD] using h
      have hfj : ∀ {j b}, j ≠ k2 → Foot L' j b → Foot L j b := fun {j b} e h => by simpa [Foot, L', Lay.updD, e] using h
      have hdn : find (del k s1.heap) k2 = none := by
        rw [find_del]; split
        · rfl
        · exact hn
      have hfind : ∀ j, find ((ins k2 o (del k s1.heap)).mapX (XV.rename k k2)) j = if j = k2 then some (o.map (XV.rename k k2)) else if j = k then none else (find s1.heap j).map (Ob.map (XV.rename k k2)) := fun j => by
        rw [find_mapX, find_ins k2 o _ j hdn, find_del]
        by_cases e : j = k2
        · simp [e]
        · by_cases e2 : j = k <;> simp [e, e2]
      have hf : ∀ v x, RepX L s1.heap I w v x → RepX L' ((ins k2 o (del k s1.heap)).mapX (XV.rename k k2)) I w v (x.rename k k2) := fun v x h => by
        have hx2 : ∀ j, x.key? = some j → j ≠ k2 := fun j hj e => by
          subst e
          obtain ⟨o', ho'⟩ := find_key hj h
          rw [hn] at ho'; cases ho'
        by_cases hx : x.key? = some k
        · cases x <;> simp only [XV.key?, Option.some.injEq, reduceCtorEq] at hx <;> subst hx
          · obtain ⟨sz, rows, g1, g2⟩ := h
            simp only [XV.rename, (beq_iff (a := _) (b := _)).2 rfl]
            rw [hfd] at g1; cases g1
            exact ⟨sz, rows, by simp [hfind, Ob.map], by rw [hs2.1, hs2.2.1]; exact g2⟩
          · obtain ⟨sz, rows, g1, g3, g2⟩ := h
            simp only [XV.rename, (beq_iff (a := _) (b := _)).2 rfl]
            rw [hfd] at g1; cases g1
            exact ⟨sz, rows, by simp [hfind, Ob.map], g3, by rw [hs2.1, hs2.2.1]; exact g2⟩
          · obtain ⟨cs, b, g1, g2, g3, g4⟩ := h
            simp only [XV.rename, (beq_iff (a := _) (b := _)).2 rfl]
            rw [hfd] at g1; cases g1
            exact ⟨_, b, by rw [hfind, if_pos rfl]; rfl, by rw [hs2.1]; exact g2, by simpa using g3, g4⟩
          · obtain ⟨sz, rows, b, g1, g2, g3⟩ := h
            simp only [XV.rename, (beq_iff (a := _) (b := _)).2 rfl]
            rw [hfd] at g1; cases g1
            exact ⟨sz, rows, b, by simp [hfind, Ob.map], by rw [hs2.1]; exact g2, g3⟩
          · obtain ⟨a, sz, rows, g1, g2⟩ := h
            simp only [XV.rename, (beq_iff (a := _) (b := _)).2 rfl]
            rw [hfd] at g1; cases g1
            exact ⟨a, sz, rows, by simp [hfind, Ob.map], by rw [hs2.1, hs2.2.1]; exact g2⟩
          · obtain ⟨a, sz, rows, b, g1, g2, g3⟩ := h
            simp only [XV.rename, (beq_iff (a := _) (b := _)).2 rfl]
            rw [hfd] at g1; cases g1
            exact ⟨a, sz, rows, b, by simp [hfind, Ob.map], by rw [hs2.1]; exact g2, g3⟩
          · obtain ⟨a, sz, rows, g1, g2, g3, g4⟩ := h
            simp only [XV.rename, (beq_iff (a := _) (b := _)).2 rfl]
            rw [hfd] at g1; cases g1
            exact ⟨a, sz, rows, by simp [hfind, Ob.map], g2, by rw [hs2.2.2.2]; exact g3, g4⟩
          · obtain ⟨vs, cells, b, g0, g1, g2, g3, g4⟩ := h
            simp only [XV.rename, (beq_iff (a := _) (b := _)).2 rfl]
            rw [hfd] at g1; cases g1
            exact ⟨vs, _, b, g0, by rw [hfind, if_pos rfl]; rfl, by rw [hs2.1]; exact g2, by simpa using g3, g4⟩
        · have e : x.rename k k2 = x := by
            cases x <;> simp only [XV.rename] <;> (split <;> rename_i hb' <;> first | rfl | exact absurd (by simp [XV.key?, beq_iff.1 hb']) hx)
          rw [e]
          refine RepX.ext (q := fun j => j ≠ k ∧ j ≠ k2) (fun j o' hq hj => ⟨⟨o'.map (XV.rename k k2), by rw [hfind, if_neg hq.2, if_neg hq.1, hj]; rfl, shape_map _ _⟩, (L.updD_same hq.2).1, (L.updD_same hq.2).2.1, (L.updD_same hq.2).2.2.2⟩) (fun _ h => h) (fun _ _ => rfl) (fun j hj => ⟨fun e => hx (e ▸ hj), hx2 j hj⟩) h
      refine ⟨_, L', hK, hi1.change (f := XV.rename k k2) hf rfl ?_ hi.Ib hi.Io hi.fr (fun j o' hj h => by
        have e : j ≠ k2 := fun e => by rw [e, hlt] at hj; cases hj
        simp only [hfind, if_neg e] at h
        split at h
        · cases h
        · cases h3 : find s1.heap j with
          | none => simp [h3] at h
          | some o3 => exact ⟨o3, rfl, (L.updD_same e).1, (L.updD_same e).2.1⟩), fun v h => ?_, fun v h => ?_⟩
      · refine ⟨fun j o' h => ?_, fun j o' b h hbk => ?_, fun j j' o1 o2 b h h' hbk hbk' => ?_⟩
        · by_cases e : j = k2
          · subst e
            simp only [hfind, if_true, Option.some.injEq] at h
            subst h
            have := hi1.heap.ob k o hfd
            cases o with
            | box cs =>
              simp only [RepO, Ob.map] at this ⊢
              rw [← hbb]
              cases hB : bK k with
              | true =>
                rw [hB] at this
                obtain ⟨b, l, e, h1, h2⟩ := this
                subst e
                exact ⟨b, l, rfl, by rw [hs2.1]; exact h1, h2.ext rfl (fun _ _ => rfl) (fun g h => by rw [hs2.2.2.1]; exact h)⟩
              | false =>
                rw [hB] at this
                obtain ⟨b, vs, e', fr, g1, g2, g3, g5, g4⟩ := this
                exact ⟨b, vs, e', fr, by rw [hs2.1]; exact g1, g2, g3, g5, g4.map' hf⟩
            | arr sz rows =>
              simp only [RepO, Ob.map] at this ⊢
              rw [hs2.1, hs2.2.1]; exact this
            | deep a sz rows =>
              simp only [RepO, Ob.map] at this ⊢
              rw [hs2.1, hs2.2.1, hs2.2.2.1, hs2.2.2.2]; exact this
          · by_cases e2 : j = k
            · simp [hfind, e, e2, hkk] at h
            · cases h3 : find s1.heap j with
              | none => simp [hfind, e, e2, h3] at h
              | some o3 =>
                simp only [hfind, e, e2, h3, if_false, Option.map_some, Option.some.injEq] at h
                subst h
                exact (hi1.heap.ob j o3 h3).ext hf (fun _ h => h) (fun _ _ => rfl) (L.updD_same e) (fun _ _ => rfl) (fun _ => rfl)
        · by_cases e : j = k2
          · subst e
            exact hi1.heap.own k o b hfd (hfk hbk)
          · by_cases e2 : j = k
            · simp [hfind, e, e2, hkk] at h
            · cases h3 : find s1.heap j with
              | none => simp [hfind, e, e2, h3] at h
              | some o3 => exact hi1.heap.own j o3 b h3 (hfj e hbk)
        · by_cases e : j = k2
          · by_cases e2 : j' = k2
            · rw [e, e2]
            · exfalso
              by_cases e3 : j' = k
              · simp [hfind, e2, e3, hkk] at h'
              · cases h3 : find s1.heap j' with
                | none => simp [hfind, e2, e3, h3] at h'
                | some o3 => exact e3 (hi1.heap.inj j' k o3 o b h3 hfd (hfj e2 hbk') (hfk (e ▸ hbk)))
          · by_cases e1 : j = k
            · simp [hfind, e, e1, hkk] at h
            · cases h3 : find s1.heap j with
              | none => simp [hfind, e, e1, h3] at h
              | some o3 =>
                by_cases e2 : j' = k2
                · exfalso
                  exact e1 (hi1.heap.inj j k o3 o b h3 hfd (hfj e hbk) (hfk (e2 ▸ hbk')))
                · by_cases e4 : j' = k
                  · simp [hfind, e2, e4, hkk] at h'
                  · cases h5 : find s1.heap j' with
                    | none => simp [hfind, e2, e4, h5] at h'
                    | some o5 => exact hi1.heap.inj j j' o3 o5 b h3 h5 (hfj e hbk) (hfj e2 hbk')
      · have h' := hf v (.rs k) (hkeep v (.rs k) h (by simp [XV.key?]; exact hkk))
        simpa [XV.rename] using h'
      · have h' := hf v (.ds k) (hkeep v (.ds k) h (by simp [XV.key?]; exact hkk))
        simpa [XV.rename] using h'

theorem pures_iff : ∀ {xs : List XV} {ys : List CV}, pures xs = some ys → xs.length = ys.length ∧ ∀ (i : Nat) (x : XV), xs[i]? = some x → ∃ y, ys[i]? = some y ∧ x.pure? = some y
  | [], ys, h => by simp only [pures, Option.some.injEq] at h; subst h; simp
  | x :: xs, ys, h => by
    simp only [pures] at h
    cases h1 : x.pure? with
    | none => simp [h1] at h
    | some c =>
      cases h2 : pures xs with
      | none => simp [h1, h2] at h
      | some cs =>
        simp only [h1, h2, Option.some.injEq] at h
        subst h
        obtain ⟨g1, g2⟩ := pures_iff h2
        refine ⟨by simp [g1], fun i y hy => ?_⟩
        cases i with
        | zero => simp only [List.getElem?_cons_zero, Option.some.injEq] at hy ⊢; subst hy; exact ⟨c, rfl, h1⟩
        | succ i => simp only [List.getElem?_cons_succ] at hy ⊢; exact g2 i y hy

theorem RepX.pure {L : Lay} {H : Heap} {I : Nat → Prop} {w : World} {v : Value} {x : XV} {y : CV} (hp : x.pure? = some y) (h : RepX L H I w v x) : RepC I w v y := by
  cases x <;> simp only [XV.pure?, Option.some.injEq, reduceCtorEq] at hp <;> subst hp
  · exact h
  · cases h; exact .nil _

theorem arr_cells {L : Lay} {H : Heap} {I I' : Nat → Prop} {w : World} {k b sz : Nat} {rows : List (List CV)} (hII : ∀ b, I b → I' b) (hk : L.blk k = some b) (hI' : I' b) (h : RepO L H I w k (.arr sz rows)) :
    ∃ vs : Nat → Value, ∀ (i : Nat) (r : List CV) (j : Nat) (c : CV), rows[i]? = some r → r[j]? = some c → w.cell? ⟨b, i * sz + j, none⟩ = some (vs (i * sz + j)) ∧ RepC I' w (vs (i * sz + j)) c := by
  simp only [RepO, hk] at h
  obtain ⟨_, _, vs, e, fr, h3, _, _, h6⟩ := h
  refine ⟨fun i => vs.getD i undef, fun i r j c g1 g2 => ?_⟩
  obtain ⟨v, g3, g4⟩ := h6 i r j c g1 g2
  have e : vs.getD (i * sz + j) undef = v := by simp [g3]
  rw [cell_row h3]
  show vs[i * sz + j]? = some (vs.getD (i * sz + j) undef) ∧ RepC I' w (vs.getD (i * sz + j) undef) c
  exact ⟨by rw [g3, e], by rw [e]; exact g4.mono hII (fun _ _ => rfl)⟩

theorem box_cells {L : Lay} {H : Heap} {I I' : Nat → Prop} {w : World} {k b : Nat} {cs : List XV} {ys : List CV} (hp : pures cs = some ys) (hII : ∀ b, I b → I' b) (hk : L.blk k = some b) (hB : bK k = false) (h : RepO L H I w k (.box cs)) :
    ∃ vs : Nat → Value, ∀ (j : Nat) (c : CV), ys[j]? = some c → w.cell? ⟨b, j, none⟩ = some (vs j) ∧ RepC I' w (vs j) c := by
  simp only [RepO, hB] at h
  obtain ⟨b', vs, e, fr, h1, h2, h3, h5, hsz, h4⟩ := h
  rw [hk] at h1; cases h1
  obtain ⟨hl, hp⟩ := pures_iff hp
  refine ⟨fun i => vs.getD i undef, fun j c g => ?_⟩
  have hj : j < ys.length := (List.getElem?_eq_some_iff.1 g).1
  have hjc : j < cs.length := by omega
  have hjv : j < vs.size := by omega
  obtain ⟨y, g1, g2⟩ := hp j cs[j] (List.getElem?_eq_getElem hjc)
  rw [g] at g1; cases g1
  have := h4 j cs[j] vs[j] (List.getElem?_eq_getElem hjc) (Array.getElem?_eq_getElem hjv)
  have e : vs.getD j undef = vs[j] := by simp [hjv]
  rw [cell_row h2]
  show vs[j]? = some (vs.getD j undef) ∧ RepC I' w (vs.getD j undef) c
  rw [e]
  exact ⟨Array.getElem?_eq_getElem hjv, (RepX.pure g2 this).mono hII (fun _ _ => rfl)⟩

theorem slice_of_arr {L : Lay} {H : Heap} {I I' : Nat → Prop} {w : World} {k sz : Nat} {rows : List (List CV)} (hII : ∀ b, I b → I' b) (hI' : ∀ b, L.blk k = some b → I' b) (ho : RepO L H I w k (.arr sz rows)) (hf : find H k = some (.arr sz rows)) {v : Value} (h : RepX L H I w v (.rs k)) : RepC I' w v (.slice sz rows) := by
  obtain ⟨sz', rows', g1, g2⟩ := h
  rw [hf] at g1; cases g1
  cases hk : L.blk k with
  | none =>
    simp only [hk] at g2
    simp only [RepO, hk] at ho
    subst g2; subst ho
    exact .nil sz
  | some b =>
    simp only [hk] at g2
    subst g2
    obtain ⟨vs, hvs⟩ := arr_cells hII hk (hI' b hk) ho
    simp only [RepO, hk] at ho
    exact .slice b 0 _ sz _ rows (fun i j => vs (i * sz + j)) (hI' b hk) rfl ho.1 ho.2.1 (fun i r j c g1 g2 => by rw [Nat.zero_add]; exact (hvs i r j c g1 g2).1) (fun i r j c g1 g2 => (hvs i r j c g1 g2).2)

theorem part_of_arr {L : Lay} {H : Heap} {I I' : Nat → Prop} {w : World} {k sz off len : Nat} {rows : List (List CV)} (hII : ∀ b, I b → I' b) (hI' : ∀ b, L.blk k = some b → I' b) (ho : RepO L H I w k (.arr sz rows)) (hf : find H k = some (.arr sz rows)) {v : Value} (h : RepX L H I w v (.ru k off len)) : RepC I' w v (.slice sz ((rows.drop off).take len)) := by
  obtain ⟨sz', rows', g1, g3, g2⟩ := h
  rw [hf] at g1; cases g1
  cases hk : L.blk k with
  | none =>
    simp only [hk] at g2
    simp only [RepO, hk] at ho
    subst g2; subst ho
    simp only [List.drop_nil, List.take_nil]
    exact .nil sz
  | some b =>
    simp only [hk] at g2
    obtain ⟨q, g4, g5, rfl⟩ := g2
    obtain ⟨vs, hvs⟩ := arr_cells hII hk (hI' b hk) ho
    simp only [RepO, hk] at ho
    have hget : ∀ (i : Nat) (r : List CV), ((rows.drop off).take len)[i]? = some r → i < len ∧ rows[off + i]? = some r := fun i r hr => by
      rw [List.getElem?_take] at hr
      split at hr
      · rename_i hlt; exact ⟨hlt, by simpa [List.getElem?_drop] using hr⟩
      · cases hr
    refine .slice b q _ sz _ _ (fun i j => vs ((off + i) * sz + j)) (hI' b hk) (by simp; omega) (by omega) (fun i r hr => ho.2.1 _ r (hget i r hr).2) (fun i r j c h1 h2 => ?_) (fun i r j c h1 h2 => (hvs _ r j c (hget i r h1).2 h2).2)
    have hlt := (hget i r h1).1
    rw [g5 (.inl (by omega))]
    have := (hvs _ r j c (hget i r h1).2 h2).1
    rw [Nat.add_mul, Nat.add_assoc] at this
    rw [Nat.add_mul, Nat.add_assoc]; exact this

theorem elem_of_arr {L : Lay} {H : Heap} {I I' : Nat → Prop} {w : World} {k sz row off len : Nat} {rows : List (List CV)} (hII : ∀ b, I b → I' b) (hI' : ∀ b, L.blk k = some b → I' b) (ho : RepO L H I w k (.arr sz rows)) (hf : find H k = some (.arr sz rows)) {v : Value} (h : RepX L H I w v (.pe k row off len)) : RepC I' w v (.ptr len (sub (rows.getD row []) off len)) := by
  obtain ⟨sz', rows', b, g1, g2, g3, g4, rfl⟩ := h
  rw [hf] at g1; cases g1
  obtain ⟨vs, hvs⟩ := arr_cells hII g2 (hI' b g2) ho
  simp only [RepO, g2] at ho
  have hr : rows[row]? = some (rows.getD row []) := by simp [g3]
  have hl := ho.2.1 row _ hr
  rw [sub_eq]
  have hget : ∀ (j : Nat) (c : CV), (((rows.getD row []).drop off).take len)[j]? = some c → (rows.getD row [])[off + j]? = some c := fun j c hc => by
    rw [List.getElem?_take] at hc
    split at hc
    · simpa [List.getElem?_drop] using hc
    · cases hc
  refine .ptr b _ len _ (fun j => vs (row * sz + (off + j))) (hI' b g2) (by simp only [List.length_take, List.length_drop]; omega) (fun j c hc => ?_) (fun j c hc => (hvs row _ _ c hr (hget j c hc)).2)
  have := (hvs row _ _ c hr (hget j c hc)).1
  rw [Nat.add_assoc]; exact this

theorem deep_cells {w : World} {J I' : Nat → Prop} {hd : Nat → Value} {b cap sz : Nat} {rows : List (List CV)} (hI : ∀ x, J x → I' x) (h : DRows w J hd b cap sz rows) :
    ∃ vs : Nat → Value, ∀ (i : Nat) (r : List CV) (j : Nat) (c : CV), rows[i]? = some r → r[j]? = some c → w.cell? ⟨b, i * sz + j, none⟩ = some (vs (i * sz + j)) ∧ RepC I' w (vs (i * sz + j)) c := by
  obtain ⟨_, _, vs, e, fr, Js, h3, _, _, h6, h7, _⟩ := h
  refine ⟨fun i => vs.getD i undef, fun i r j c g1 g2 => ?_⟩
  obtain ⟨v, g3, g4, _⟩ := h6 i r j c g1 g2
  have e : vs.getD (i * sz + j) undef = v := by simp [g3]
  rw [cell_row h3]
  show vs[i * sz + j]? = some (vs.getD (i * sz + j) undef) ∧ RepC I' w (vs.getD (i * sz + j) undef) c
  exact ⟨by rw [g3, e], by rw [e]; exact g4.toC.mono (fun x hx => hI x (h7 _ x hx)) (fun _ _ => rfl)⟩

theorem emptyV.rep {I : Nat → Prop} {w : World} {v : Value} {sz : Nat} (h : emptyV v) : RepC I w v (.slice sz []) := by
  rcases h with rfl | ⟨_, _, rfl⟩
  · exact .nil _
  · exact .empty _ _ _

theorem slice_of_deep {L : Lay} {H : Heap} {I I' : Nat → Prop} {w : World} {k sz : Nat} {a : Bool} {rows : List (List CV)} (hI' : ∀ b, Foot L k b → I' b) (ho : RepO L H I w k (.deep a sz rows)) (hf : find H k = some (.deep a sz rows)) {v : Value} (h : RepX L H I w v (.ds k)) : RepC I' w v (.slice sz rows) := by
  obtain ⟨_, sz', rows', g1, g2⟩ := h
  rw [hf] at g1; cases g1
  cases hk : L.blk k with
  | none =>
    simp only [hk] at g2
    simp only [RepO, hk] at ho
    subst ho
    exact g2.1.rep
  | some b =>
    simp only [hk] at g2
    subst g2
    simp only [RepO, hk] at ho
    obtain ⟨vs, hvs⟩ := deep_cells (I' := I') (fun x hx => hI' x (.inr hx)) ho.1
    exact .slice b 0 _ sz _ rows (fun i j => vs (i * sz + j)) (hI' b (.inl hk)) rfl ho.1.1 ho.1.2.1 (fun i r j c g1 g2 => by rw [Nat.zero_add]; exact (hvs i r j c g1 g2).1) (fun i r j c g1 g2 => (hvs i r j c g1 g2).2)

theorem elem_of_deep {L : Lay} {H : Heap} {I I' : Nat → Prop} {w : World} {k sz row off len : Nat} {a : Bool} {rows : List (List CV)} (hI' : ∀ b, Foot L k b → I' b) (ho : RepO L H I w k (.deep a sz rows)) (hf : find H k = some (.deep a sz rows)) {v : Value} (h : RepX L H I w v (.dp k row off len)) : RepC I' w v (.ptr len (sub (rows.getD row []) off len)) := by
  obtain ⟨_, sz', rows', b, g1, g2, g3, g4, rfl⟩ := h
  rw [hf] at g1; cases g1
  simp only [RepO, g2] at ho
  obtain ⟨vs, hvs⟩ := deep_cells (I' := I') (fun x hx => hI' x (.inr hx)) ho.1
  have hr : rows[row]? = some (rows.getD row []) := by simp [g3]
  have hl := ho.1.2.1 row _ hr
  rw [sub_eq]
  have hget : ∀ (j : Nat) (c : CV), (((rows.getD row []).drop off).take len)[j]? = some c → (rows.getD row [])[off + j]? = some c := fun j c hc => by
    rw [List.getElem?_take] at hc
    split at hc
    · simpa [List.getElem?_drop] using hc
    · cases hc
  refine .ptr b _ len _ (fun j => vs (row * sz + (off + j))) (hI' b (.inl g2)) (by simp only [List.length_take, List.length_drop]; omega) (fun j c hc => ?_) (fun j c hc => (hvs row _ _ c hr (hget j c hc)).2)
  have := (hvs row _ _ c hr (hget j c hc)).1
  rw [Nat.add_assoc]; exact this

theorem fn_of_box {L : Lay} {H : Heap} {I I' : Nat → Prop} {w : World} {f k n : Nat} {pre post : List CV} {cs : List XV} {ys : List CV} (hl : cs.length = ys.length) (hII : ∀ b, I b → I' b)
    (hp : ∀ b, L.blk k = some b → RepC I' w (.pointer (some ⟨b, 0, none⟩)) (.ptr n ys)) (hf : find H k = some (.box cs)) {v : Value} (h : RepX L H I w v (.fb f pre k n post)) : RepC I' w v (.fn f (pre ++ .ptr n ys :: post)) := by
  obtain ⟨vs, cells, b, rfl, g1, g2, g3, g4, g5, g6, g7⟩ := h
  rw [hf] at g1; cases g1
  refine .fn f vs _ (by simp; omega) fun i c v h1 h2 => ?_
  by_cases h3 : i < pre.length
  · rw [List.getElem?_append_left h3] at h1
    exact (g5 i c v h1 h2).mono hII fun _ _ => rfl
  · rw [List.getElem?_append_right (by omega)] at h1
    by_cases h4 : i = pre.length
    · subst h4
      simp at h1
      subst h1
      rw [g6] at h2; cases h2
      exact hp b g2
    · obtain ⟨m, hm⟩ : ∃ m, i - pre.length = m + 1 := ⟨i - pre.length - 1, by omega⟩
      rw [hm, List.getElem?_cons_succ] at h1
      exact (g7 m c v h1 (by rw [← h2]; congr 1; omega)).mono hII fun _ _ => rfl

theorem ptr_of_box {L : Lay} {H : Heap} {I I' : Nat → Prop} {w : World} {k off len : Nat} {cs : List XV} {ys : List CV} (hp : pures cs = some ys) (hII : ∀ b, I b → I' b) (hI' : ∀ b, L.blk k = some b → I' b) (hB : bK k = false) (ho : RepO L H I w k (.box cs)) (hf : find H k = some (.box cs)) {v : Value} (h : RepX L H I w v (.pb k off len)) : RepC I' w v (.ptr len (sub ys off len)) := by
  obtain ⟨cs', b, g1, g2, g3, rfl⟩ := h
  rw [hf] at g1; cases g1
  obtain ⟨vs, hvs⟩ := box_cells hp hII g2 hB ho
  have hl := (pures_iff hp).1
  rw [sub_eq]
  have hget : ∀ (j : Nat) (c : CV), ((ys.drop off).take len)[j]? = some c → ys[off + j]? = some c := fun j c hc => by
    rw [List.getElem?_take] at hc
    split at hc
    · simpa [List.getElem?_drop] using hc
    · cases hc
  exact .ptr b off len _ (fun j => vs (off + j)) (hI' b g2) (by simp only [List.length_take, List.length_drop]; omega) (fun j c hc => (hvs _ c (hget j c hc)).1) (fun j c hc => (hvs _ c (hget j c hc)).2)

end Go.Proofs.YtnafogjagbhdbaaDoor.Pi
/- Freezing and writing keep the invariant. No statement of the seat is proved here. -/
namespace Go.Proofs.YtnafogjagbhdbaaDoor.Pi
open Go Go.RowKit
set_option linter.unusedVariables false
set_option linter.unusedSimpArgs false

theorem RepX.frz {L : Lay} {H : Heap} {I I' : Nat → Prop} {w : World} {k : Nat} {o : Ob} (hp : ∀ cs, o = .box cs → (∃ ys, pures cs = some ys) ∧ bK k = false) (hII : ∀ b, I b → I' b) (hI' : ∀ b, Foot L k b → I' b) (ho : RepO L H I w k o) (hfd : find H k = some o)
    {H' : Heap} (hH' : ∀ j o', j ≠ k → find H j = some o' → ∃ o2, find H' j = some o2 ∧ o2.shape = o'.shape) {v : Value} {x : XV} (h : RepX L H I w v x) : RepX L H' I' w v (frzX k o x) := by
  have hIb : ∀ b, L.blk k = some b → I' b := fun b h => hI' b (.inl h)
  by_cases hx : x.key? = some k
  · cases x <;> simp only [XV.key?, Option.some.injEq, reduceCtorEq] at hx <;> subst hx
    · cases o with
      | arr sz rows => simp only [frzX, (beq_iff (a := _) (b := _)).2 rfl]; exact slice_of_arr hII hIb ho hfd h
      | box cs => obtain ⟨_, _, g, _⟩ := h; rw [hfd] at g; cases g
      | deep a sz rows => obtain ⟨_, _, g, _⟩ := h; rw [hfd] at g; cases g
    · cases o with
      | arr sz rows => simp only [frzX, (beq_iff (a := _) (b := _)).2 rfl]; exact part_of_arr hII hIb ho hfd h
      | box cs => obtain ⟨_, _, g, _⟩ := h; rw [hfd] at g; cases g
      | deep a sz rows => obtain ⟨_, _, g, _⟩ := h; rw [hfd] at g; cases g
    · cases o with
      | arr sz rows => obtain ⟨_, _, g, _⟩ := h; rw [hfd] at g; cases g
      | deep a sz rows => obtain ⟨_, _, g, _⟩ := h; rw [hfd] at g; cases g
      | box cs =>
        obtain ⟨⟨ys, hys⟩, hB⟩ := hp cs rfl
        simp only [frzX, (beq_iff (a := _) (b := _)).2 rfl, hys]; exact ptr_of_box hys hII hIb hB ho hfd h
    · cases o with
      | arr sz rows => simp only [frzX, (beq_iff (a := _) (b := _)).2 rfl]; exact elem_of_arr hII hIb ho hfd h
      | box cs => obtain ⟨_, _, _, g, _⟩ := h; rw [hfd] at g; cases g
      | deep a sz rows => obtain ⟨_, _, _, g, _⟩ := h; rw [hfd] at g; cases g
    · cases o with
      | deep a sz rows => simp only [frzX, (beq_iff (a := _) (b := _)).2 rfl]; exact slice_of_deep hI' ho hfd h
      | box cs => obtain ⟨_, _, _, g, _⟩ := h; rw [hfd] at g; cases g
      | arr sz rows => obtain ⟨_, _, _, g, _⟩ := h; rw [hfd] at g; cases g
    · cases o with
      | deep a sz rows => simp only [frzX, (beq_iff (a := _) (b := _)).2 rfl]; exact elem_of_deep hI' ho hfd h
      | box cs => obtain ⟨_, _, _, _, g, _⟩ := h; rw [hfd] at g; cases g
      | arr sz rows => obtain ⟨_, _, _, _, g, _⟩ := h; rw [hfd] at g; cases g
    · cases o <;> (simp only [frzX, (beq_iff (a := _) (b := _)).2 rfl]; trivial)
    · cases o with
      | box cs =>
        obtain ⟨⟨ys, hys⟩, hB⟩ := hp cs rfl
        simp only [frzX, (beq_iff (a := _) (b := _)).2 rfl, hys]
        have hl := (pures_iff hys).1
        refine fn_of_box (cs := cs) hl hII (fun b hb => ?_) hfd h
        obtain ⟨vs, cells, b', g0, g1, g2, g3, g4⟩ := h
        rw [hfd] at g1; cases g1
        rw [g2] at hb; cases hb
        have := ptr_of_box hys hII hIb hB ho hfd (v := .pointer (some ⟨b, 0, none⟩)) (off := 0) (len := cs.length) ⟨cs, b, hfd, g2, by omega, rfl⟩
        rw [sub_eq, List.drop_zero, hl, List.take_length] at this
        rw [← g3, hl]; exact this
      | arr sz rows => obtain ⟨_, _, _, _, g, _⟩ := h; rw [hfd] at g; cases g
      | deep a sz rows => obtain ⟨_, _, _, _, g, _⟩ := h; rw [hfd] at g; cases g
  · have e : frzX k o x = x := by
      cases x <;> cases o <;> simp only [frzX] <;> (split <;> rename_i hb' <;> first | rfl | exact absurd (by simp [XV.key?, beq_iff.1 hb']) hx)
    rw [e]
    exact RepX.ext (q := fun j => j ≠ k) (fun j o' hq hj => ⟨hH' j o' hq hj, rfl, rfl, rfl⟩) hII (fun _ _ => rfl) (fun j hj e => hx (e ▸ hj)) h

theorem frz_core {C : Ctx} {L : Lay} {I : Nat → Prop} {s : St} {a : Act} {w : World} {k : Nat} {o : Ob} (hfd : find s.heap k = some o) (hp : ∀ cs, o = .box cs → (∃ ys, pures cs = some ys) ∧ bK k = false) (hi : Inv C L I s a w) :
    ∃ I', Inv C L I' ⟨s.regs.map (PV.map (frzX k o)), (del k s.heap).mapX (frzX k o)⟩ a w ∧ (∀ b, I b → I' b) := by
  have hII : ∀ b, I b → (I b ∨ Foot L k b) := fun b h => Or.inl h
  have hfind : ∀ j, find ((del k s.heap).mapX (frzX k o)) j = if j = k then none else (find s.heap j).map (Ob.map (frzX k o)) := fun j => by
    rw [find_mapX, find_del]; split <;> rfl
  have hf : ∀ v x, RepX L s.heap I w v x → RepX L ((del k s.heap).mapX (frzX k o)) (fun b => I b ∨ Foot L k b) w v (frzX k o x) := fun v x h =>
    RepX.frz hp hII (fun b h => Or.inr h) (hi.heap.ob k o hfd) hfd (fun j o' hj h => ⟨o'.map (frzX k o), by rw [hfind, if_neg hj, h]; rfl, shape_map _ _⟩) h
  refine ⟨fun b => I b ∨ Foot L k b, hi.change (f := frzX k o) hf rfl ?_ (fun b h => h.elim (hi.Ib b) fun h => (hi.heap.own k o b hfd h).2.2) (fun b h1 h => h.elim (hi.Io b h1) fun h => Or.inr (hi.heap.own k o b hfd h).1) hi.fr (fun j o' _ h => by
      simp only [hfind] at h
      split at h
      · cases h
      · cases h2 : find s.heap j with
        | none => simp [h2] at h
        | some o2 => exact ⟨o2, rfl, rfl, rfl⟩), hII⟩
  refine ⟨fun j o' h => ?_, fun j o' b h hb => ?_, fun j j' o1 o2 b h h' hb hb' => ?_⟩
  · simp only [hfind] at h
    by_cases hj : j = k
    · simp [hj] at h
    · rw [if_neg hj] at h
      cases h2 : find s.heap j with
      | none => simp [h2] at h
      | some o2 =>
        simp only [h2, Option.map_some, Option.some.injEq] at h
        subst h
        exact (hi.heap.ob j o2 h2).ext hf hII (fun _ _ => rfl) .rfl (fun _ _ => rfl) (fun _ => rfl)
  · simp only [hfind] at h
    by_cases hj : j = k
    · simp [hj] at h
    · rw [if_neg hj] at h
      cases h2 : find s.heap j with
      | none => simp [h2] at h
      | some o2 =>
        obtain ⟨g1, g2, g3⟩ := hi.heap.own j o2 b h2 hb
        exact ⟨g1, fun h => h.elim g2 fun h => hj (hi.heap.inj j k o2 o b h2 hfd hb h), g3⟩
  · simp only [hfind] at h h'
    by_cases hj : j = k
    · simp [hj] at h
    · by_cases hj2 : j' = k
      · simp [hj2] at h'
      · rw [if_neg hj] at h; rw [if_neg hj2] at h'
        cases h2 : find s.heap j with
        | none => simp [h2] at h
        | some o3 =>
          cases h3 : find s.heap j' with
          | none => simp [h3] at h'
          | some o4 => exact hi.heap.inj j j' o3 o4 b h2 h3 hb hb'

theorem frzK_inv {C : Ctx} {L : Lay} {I : Nat → Prop} {s : St} {a : Act} {w : World} {k : Nat} {K : St → Prop} (hK : frzK k s K) (hi : Inv C L I s a w) :
    ∃ s' I', K s' ∧ Inv C L I' s' a w ∧ (∀ b, I b → I' b) := by
  unfold frzK at hK
  cases hfd : find s.heap k with
  | none => simp only [hfd] at hK; exact ⟨s, I, hK, hi, fun _ h => h⟩
  | some o =>
    cases o with
    | arr sz rows =>
      simp only [hfd, force_eq] at hK
      obtain ⟨I', h1, h2⟩ := frz_core hfd (fun cs h => by cases h) hi
      exact ⟨_, I', hK, h1, h2⟩
    | deep a sz rows =>
      simp only [hfd, force_eq] at hK
      obtain ⟨I', h1, h2⟩ := frz_core hfd (fun cs h => by cases h) hi
      exact ⟨_, I', hK, h1, h2⟩
    | box cs =>
      simp only [hfd] at hK
      cases hp : pures cs with
      | none => simp [hp] at hK
      | some ys =>
        cases hB : bK k with
        | true => simp [hp, hB] at hK
        | false =>
        simp only [hp, hB, force_eq] at hK
        obtain ⟨I', h1, h2⟩ := frz_core hfd (fun cs' h => by cases h; exact ⟨⟨ys, hp⟩, hB⟩) hi
        exact ⟨_, I', hK, h1, h2⟩

theorem frzKeys_inv {C : Ctx} {L : Lay} {a : Act} {w : World} : ∀ {n : Nat} {ks : List Nat} {s : St} {I : Nat → Prop} {K : St → Prop}, frzKeys n ks s K → Inv C L I s a w →
    ∃ s' I', K s' ∧ Inv C L I' s' a w ∧ (∀ b, I b → I' b) := by
  intro n
  induction n with
  | zero =>
    intro ks s I K hK hi
    cases ks with
    | nil => exact ⟨s, I, hK, hi, fun _ h => h⟩
    | cons k ks => exact hK.elim
  | succ n ih =>
    intro ks s I K hK hi
    cases ks with
    | nil => exact ⟨s, I, hK, hi, fun _ h => h⟩
    | cons k ks =>
      simp only [frzKeys] at hK
      have tail : ∀ {I1 : Nat → Prop} {s1 : St}, frzK k s1 (fun s => frzKeys n ks s K) → Inv C L I1 s1 a w → ∃ s' I', K s' ∧ Inv C L I' s' a w ∧ (∀ b, I1 b → I' b) := fun hK hi => by
        obtain ⟨s2, I2, h1, h2, h3⟩ := frzK_inv hK hi
        obtain ⟨s3, I3, h4, h5, h6⟩ := ih h1 h2
        exact ⟨s3, I3, h4, h5, fun b h => h6 b (h3 b h)⟩
      split at hK
      · obtain ⟨s1, I1, h1, h2, h3⟩ := ih hK hi
        obtain ⟨s2, I2, h4, h5, h6⟩ := tail h1 h2
        exact ⟨s2, I2, h4, h5, fun b h => h6 b (h3 b h)⟩
      · exact tail hK hi

/-! ### writing -/
structure Wrote (w : World) (b o : Nat) (vs : List Value) (w' : World) : Prop where
  os : w'.os = w.os
  tape : w'.tape = w.tape
  output : OutG w' w
  size : w'.heap.size = w.heap.size
  other : ∀ b', b' ≠ b → w'.heap[b']? = w.heap[b']?
  row : ∀ cur e fr, w.heap[b]? = some (.cells cur e fr) → ∃ cur', w'.heap[b]? = some (.cells cur' e fr) ∧ cur'.size = cur.size ∧ ∀ j : Nat, cur'[j]? = if o ≤ j ∧ j < o + vs.length then vs[j - o]? else cur[j]?

theorem oneCell.bool {v : Value} (h : oneCell v) : v.oneCell' = true := by
  cases v <;> first | rfl | exact absurd rfl (h.1 _) | exact absurd rfl (h.2 _)

theorem add_plain (b o n : Nat) : Addr.add ⟨b, o, none⟩ n = ⟨b, o + n, none⟩ := by
  unfold Addr.add; split <;> simp_all

theorem run_storeCells {P : Program} {b o : Nat} : ∀ (vs : List Value) (i : Nat) (w : World) (cur : Array Value) (e : TypeId) (fr : Nat × Nat), w.heap[b]? = some (.cells cur e fr) → o + i + vs.length ≤ cur.size → (∀ j, j < cur.size → w.frozen? ⟨b, j, none⟩ = false) → (∀ v ∈ vs, oneCell v) →
    ∃ w', (storeCells ⟨b, o, none⟩ vs i).run P w = .ok () w' ∧ Wrote w b (o + i) vs w' := by
  intro vs
  induction vs with
  | nil =>
    intro i w cur e fr hb _ _ _
    refine ⟨w, rfl, ⟨rfl, rfl, .rfl, rfl, fun _ _ => rfl, fun cur' e' fr' h => ⟨cur', h, rfl, fun j => ?_⟩⟩⟩
    rw [if_neg (by simp only [List.length_nil]; omega)]
  | cons v vs ih =>
    intro i w cur e fr hb hsz hfz hv
    simp only [List.length_cons] at hsz
    have hlt : o + i < cur.size := by omega
    have hc : w.cell? ⟨b, o + i, none⟩ = some cur[o + i] := by rw [cell_row hb, Array.getElem?_eq_getElem hlt]
    have hrun : (store (Addr.add ⟨b, o, none⟩ i) v).run P w = .ok () (w.setCell ⟨b, o + i, none⟩ v) := by
      rw [add_plain, run_store P w _ v .plain (hv v (by simp)).bool, hc]
      simp [hfz _ hlt]
    have hb1 : (w.setCell ⟨b, o + i, none⟩ v).heap[b]? = some (.cells (cur.setIfInBounds (o + i) v) e fr) := by
      simp [World.setCell, Array.getElem?_modify, hb]
    have hother : ∀ b', b' ≠ b → (w.setCell ⟨b, o + i, none⟩ v).heap[b']? = w.heap[b']? := fun b' h => by
      simp only [World.setCell, Array.getElem?_modify]
      rw [if_neg (by exact fun e => h e.symm)]
    have hfz' : ∀ j, j < (cur.setIfInBounds (o + i) v).size → (w.setCell ⟨b, o + i, none⟩ v).frozen? ⟨b, j, none⟩ = false := fun j hj => by
      rw [World.frozen?_setCell]; exact hfz j (by simpa using hj)
    obtain ⟨w', h1, h2⟩ := ih (i + 1) _ _ e fr hb1 (by simp; omega) hfz' (fun u hu => hv u (by simp [hu]))
    refine ⟨w', ?_, ⟨h2.os, h2.tape, h2.output, by rw [h2.size]; simp, fun b' h => (h2.other b' h).trans (hother b' h), fun cur2 e2 fr2 h => ?_⟩⟩
    · simp only [storeCells, Sem.run_bind, hrun, Result.andThen_ok, h1]
    · rw [hb] at h; cases h
      obtain ⟨cur', g1, g2, g3⟩ := h2.row _ _ _ hb1
      refine ⟨cur', g1, by simpa using g2, fun j => ?_⟩
      rw [g3 j]
      by_cases e1 : j = o + i
      · subst e1
        rw [if_neg (by omega), if_pos (by simp)]
        simp [hlt]
      · by_cases e2 : o + i ≤ j ∧ j < o + i + (vs.length + 1)
        · rw [if_pos (by omega), if_pos (by simpa using e2)]
          have : j - (o + i) = (j - (o + (i + 1))) + 1 := by omega
          rw [this]; simp
        · rw [if_neg (by omega), if_neg (by simpa using e2)]
          rw [Array.getElem?_setIfInBounds_ne (by omega)]

theorem fillX_get : ∀ (xs cs : List XV) (o i : Nat), o + xs.length ≤ cs.length → (fillX cs o xs)[i]? = if o ≤ i ∧ i < o + xs.length then xs[i - o]? else cs[i]?
  | [], cs, o, i, _ => by rw [if_neg (by simp only [List.length_nil]; omega)]; rfl
  | x :: xs, cs, o, i, h => by
    simp only [List.length_cons] at h
    simp only [fillX]
    rw [fillX_get xs (cs.set o x) (o + 1) i (by simp; omega)]
    by_cases e1 : i = o
    · subst e1
      have hi : i < cs.length := by omega
      rw [if_neg (by omega), if_pos (by simp)]
      simp [hi]
    · by_cases e2 : o ≤ i ∧ i < o + (xs.length + 1)
      · rw [if_pos (by omega), if_pos (by simpa using e2)]
        have : i - o = (i - (o + 1)) + 1 := by omega
        rw [this]; simp
      · rw [if_neg (by omega), if_neg (by simpa using e2)]
        rw [List.getElem?_set_ne (by omega)]

theorem fillX_length : ∀ (xs cs : List XV) (o : Nat), (fillX cs o xs).length = cs.length
  | [], cs, o => rfl
  | x :: xs, cs, o => by simp [fillX, fillX_length xs]

theorem allLive_iff : ∀ {xs : List XV}, allLive xs = true ↔ ∀ x ∈ xs, x.live = true
  | [] => by simp [allLive]
  | x :: xs => by
    simp only [allLive]
    cases h : x.live with
    | true => simp [h, allLive_iff (xs := xs)]
    | false => simp [h]

theorem noKey_iff {k : Nat} : ∀ {xs : List XV}, noKey k xs = true ↔ ∀ x ∈ xs, x.key? ≠ some k
  | [] => by simp [noKey]
  | x :: xs => by
    simp only [noKey]
    cases h : x.key? with
    | none => simp [h, noKey_iff (xs := xs)]
    | some k' =>
      cases hb : Nat.beq k' k with
      | true => simp [h, beq_iff.1 hb]
      | false =>
        have hne := beq_false.1 hb
        simp only [hb, noKey_iff (xs := xs), List.mem_cons, forall_eq_or_imp, h, ne_eq, Option.some.injEq, hne, not_false_eq_true, true_and]

theorem Inv.writeOb {C : Ctx} {L : Lay} {I : Nat → Prop} {s : St} {a : Act} {w w' : World} {k b : Nat} {o o' : Ob} (hi : Inv C L I s a w) (hfd : find s.heap k = some o) (hbk : L.blk k = some b) (hsh : o'.shape = o.shape)
    (hsz : w'.heap.size = w.heap.size) (hother : ∀ b', b' ≠ b → w'.heap[b']? = w.heap[b']?) (h1 : w'.os = w.os) (h2 : w'.tape = w.tape) (h3 : OutG w' w)
    (hrep : (∀ v x, RepX L s.heap I w v x → RepX L (setOb s.heap k o') I w' v x) → (∀ v c, RepC I w v c → RepC I w' v c) → RepO L (setOb s.heap k o') I w' k o') : Inv C L I ⟨s.regs, setOb s.heap k o'⟩ a w' := by
  obtain ⟨hO, hnI, hlt⟩ := hi.heap.own k o b hfd (.inl hbk)
  have hw : ∀ b', I b' → w'.heap[b']? = w.heap[b']? := fun b' h => hother b' fun e => hnI (e ▸ h)
  have hfind : ∀ j, find (setOb s.heap k o') j = if j = k then some o' else find s.heap j := fun j => by
    rw [find_setOb]; by_cases e : j = k
    · simp [e, hfd]
    · simp [e]
  have hf : ∀ v x, RepX L s.heap I w v x → RepX L (setOb s.heap k o') I w' v x := fun v x h =>
    RepX.ext (q := fun _ => True) (fun j o2 _ hj => ⟨by
      by_cases e : j = k
      · subst e; rw [hfd] at hj; cases hj; exact ⟨o', by simp [hfind], hsh⟩
      · exact ⟨o2, by simp [hfind, e, hj], rfl⟩, rfl, rfl, rfl⟩) (fun _ h => h) hw (fun _ _ => trivial) h
  refine hi.change (f := fun y => y) hf (map_id_regs _).symm ?_ (fun b h => by rw [hsz]; exact hi.Ib b h) hi.Io ?_ ?_
  · refine ⟨fun j o2 h => ?_, fun j o2 b2 h hb2 => ?_, fun j j' o2 o3 b2 h h' hb2 hb2' => ?_⟩
    · by_cases e : j = k
      · subst e
        have e2 : o2 = o' := by simpa [hfind] using h.symm
        subst e2
        exact hrep hf (fun v c h => h.mono (fun _ h => h) hw)
      · have h' : find s.heap j = some o2 := by simpa [hfind, e] using h
        exact (hi.heap.ob j o2 h').ext' hf (fun _ h => h) hw .rfl (fun b' hb' => hother b' fun e2 => e (hi.heap.inj j k o2 o b h' hfd (e2 ▸ hb') (.inl hbk)))
    · rw [hsz]
      by_cases e : j = k
      · subst e; exact hi.heap.own j o b2 hfd hb2
      · exact hi.heap.own j o2 b2 (by simpa [hfind, e] using h) hb2
    · have g : ∃ o, find s.heap j = some o := by
        by_cases e : j = k
        · exact ⟨o, e ▸ hfd⟩
        · exact ⟨o2, by simpa [hfind, e] using h⟩
      have g' : ∃ o, find s.heap j' = some o := by
        by_cases e : j' = k
        · exact ⟨o, e ▸ hfd⟩
        · exact ⟨o3, by simpa [hfind, e] using h'⟩
      exact hi.heap.inj j j' _ _ b2 g.choose_spec g'.choose_spec hb2 hb2'
  · exact ⟨h1.trans hi.fr.os, h2.trans hi.fr.tape, h3.trans hi.fr.output, by rw [hsz]; exact hi.fr.size, fun b' g1 g2 => (hother b' fun e => g2 (e ▸ hO)).trans (hi.fr.block b' g1 g2)⟩
  · intro j o2 _ h
    by_cases e : j = k
    · exact ⟨o, e ▸ hfd, rfl, rfl⟩
    · exact ⟨o2, by simpa [hfind, e] using h, rfl, rfl⟩

theorem Inv.writeBox {C : Ctx} {L : Lay} {I : Nat → Prop} {s : St} {a : Act} {w : World} {P : Program} {k off b : Nat} {cs : List XV} {xs : List XV} {vs : Array Value} (hi : Inv C L I s a w) (hfd : find s.heap k = some (.box cs)) (hbk : L.blk k = some b) (hB : bK k = false) (hl : off + xs.length ≤ cs.length)
    (hv : RepXs L s.heap I w vs xs) (hlive : allLive xs = true) :
    ∃ w', (storeCells ⟨b, off, none⟩ vs.toList 0).run P w = .ok () w' ∧ Inv C L I ⟨s.regs, setOb s.heap k (.box (fillX cs off xs))⟩ a w' ∧ (∀ v x, RepX L s.heap I w v x → RepX L (setOb s.heap k (.box (fillX cs off xs))) I w' v x) := by
  have ho := hi.heap.ob k _ hfd
  simp only [RepO, hB] at ho
  obtain ⟨b', cur, e, fr, g1, g2, g3, g4, g5⟩ := ho
  rw [hbk] at g1; cases g1
  have hall : ∀ v ∈ vs.toList, oneCell v := fun v hm => by
    obtain ⟨i, hi', rfl⟩ := List.mem_iff_getElem.1 hm
    have hix : i < xs.length := by rw [← hv.1]; simpa using hi'
    exact RepX.oneCell (allLive_iff.1 hlive _ (List.getElem_mem hix)) (hv.2 i xs[i] _ (List.getElem?_eq_getElem hix) (by simp at hi'; simp [hi']))
  obtain ⟨w', h1, h2⟩ := run_storeCells (P := P) (o := off) vs.toList 0 w cur e fr g2 (by have := g5.1; have := hv.1; simp; omega) g3 hall
  obtain ⟨cur', q1, q2, q3⟩ := h2.row cur e fr g2
  have key := hi.writeOb (w' := w') (o' := .box (fillX cs off xs)) hfd hbk (by simp [Ob.shape, fillX_length]) h2.size h2.other h2.os h2.tape h2.output (fun hf hc => by
    simp only [RepO, hB]
    refine ⟨b, cur', e, fr, hbk, q1, fun o ho => ?_, fun i v hv' => ?_, ?_, fun i x v hx hv' => ?_⟩
    · have : w'.frozen? ⟨b, o, none⟩ = w.frozen? ⟨b, o, none⟩ := by simp [World.frozen?, q1, g2]
      rw [this]; exact g3 o (by rw [← q2]; exact ho)
    · rw [q3 i] at hv'
      split at hv'
      · exact hall v (List.mem_of_getElem? hv')
      · exact g4 i v hv'
    · rw [q2, g5.1, fillX_length]
    · rw [q3 i] at hv'
      rw [fillX_get xs cs off i hl] at hx
      have hlen : vs.toList.length = xs.length := by simpa using hv.1
      rw [hlen, Nat.add_zero] at hv'
      split at hx
      · rename_i hc'
        rw [if_pos hc'] at hv'
        exact hf _ _ (hv.2 _ x v hx (by simpa using hv'))
      · rename_i hc'
        rw [if_neg hc'] at hv'
        exact hf _ _ (g5.2 i x v hx hv'))
  refine ⟨w', h1, key, fun v x h => ?_⟩
  have hnI := (hi.heap.own k _ b hfd (.inl hbk)).2.1
  refine RepX.ext (q := fun _ => True) (fun j o2 _ hj => ⟨?_, rfl, rfl, rfl⟩) (fun _ h => h) (fun b' hb' => h2.other b' fun e => hnI (e ▸ hb')) (fun _ _ => trivial) h
  by_cases e : j = k
  · subst e; rw [hfd] at hj; cases hj; exact ⟨.box (fillX cs off xs), by simp [find_setOb, hfd], by simp [Ob.shape, fillX_length]⟩
  · exact ⟨o2, by simp [find_setOb, e, hj], rfl⟩

theorem Inv.writeRow {C : Ctx} {L : Lay} {I : Nat → Prop} {s : St} {a : Act} {w : World} {P : Program} {k r b sz : Nat} {rows : List (List CV)} {ys : List CV} {vs : Array Value} (hi : Inv C L I s a w) (hfd : find s.heap k = some (.arr sz rows)) (hbk : L.blk k = some b) (hr : r < rows.length)
    (hl : ys.length = sz) (hsz : vs.size = sz) (hv : ∀ (i : Nat) (y : CV) (v : Value), ys[i]? = some y → vs[i]? = some v → RepC I w v y) :
    ∃ w', (storeCells ⟨b, r * sz, none⟩ vs.toList 0).run P w = .ok () w' ∧ Inv C L I ⟨s.regs, setOb s.heap k (.arr sz (rows.set r ys))⟩ a w' := by
  have ho := hi.heap.ob k _ hfd
  simp only [RepO, hbk] at ho
  obtain ⟨h0, hrl, cur, e, fr, g2, g6, g3, g5⟩ := ho
  have hall : ∀ v ∈ vs.toList, oneCell v := fun v hm => by
    obtain ⟨i, hi', rfl⟩ := List.mem_iff_getElem.1 hm
    have hix : i < ys.length := by rw [hl, ← hsz]; simpa using hi'
    exact (hv i ys[i] _ (List.getElem?_eq_getElem hix) (by simp at hi'; simp [hi'])).oneCell
  have hfit : r * sz + sz ≤ cur.size := by
    have h1 : (r + 1) * sz ≤ L.cap k * sz := Nat.mul_le_mul_right _ (by omega)
    rw [Nat.add_mul] at h1; omega
  obtain ⟨w', h1, h2⟩ := run_storeCells (P := P) (o := r * sz) vs.toList 0 w cur e fr g2 (by simp; omega) g3 hall
  obtain ⟨cur', q1, q2, q3⟩ := h2.row cur e fr g2
  refine ⟨w', h1, hi.writeOb (w' := w') (o' := .arr sz (rows.set r ys)) hfd hbk (by simp [Ob.shape]) h2.size h2.other h2.os h2.tape h2.output (fun hf hc => ?_)⟩
  simp only [RepO, hbk]
  refine ⟨by simpa using h0, fun i r' hr' => ?_, cur', e, fr, q1, by rw [q2]; exact g6, fun o ho => ?_, fun i r' j c h3 h4 => ?_⟩
  · rw [List.getElem?_set] at hr'
    split at hr'
    · cases hr'; exact hl
    · exact hrl i r' hr'
  · have : w'.frozen? ⟨b, o, none⟩ = w.frozen? ⟨b, o, none⟩ := by simp [World.frozen?, q1, g2]
    rw [this]; exact g3 o (by rw [← q2]; exact ho)
  · rw [q3]
    have hlen : vs.toList.length = sz := by simpa using hsz
    rw [hlen, Nat.add_zero]
    rw [List.getElem?_set] at h3
    by_cases e1 : r = i
    · subst e1
      simp only [if_true] at h3
      rw [if_pos hr] at h3
      cases h3
      have hj : j < sz := by rw [← hl]; exact (List.getElem?_eq_some_iff.1 h4).1
      rw [if_pos (by omega), Nat.add_sub_cancel_left]
      have hjv : j < vs.size := by omega
      exact ⟨vs[j], by simp [hjv], hc _ _ (hv j c vs[j] h4 (Array.getElem?_eq_getElem hjv))⟩
    · rw [if_neg e1] at h3
      have hj : j < sz := by rw [← hrl i r' h3]; exact (List.getElem?_eq_some_iff.1 h4).1
      have hout : ¬ (r * sz ≤ i * sz + j ∧ i * sz + j < r * sz + sz) := by
        intro ⟨p1, p2⟩
        rcases Nat.lt_or_ge i r with hlt | hge
        · have : (i + 1) * sz ≤ r * sz := Nat.mul_le_mul_right _ hlt
          rw [Nat.add_mul] at this; omega
        · have : (r + 1) * sz ≤ i * sz := Nat.mul_le_mul_right _ (by omega)
          rw [Nat.add_mul] at this; omega
      rw [if_neg hout]
      obtain ⟨v, h5, h6⟩ := g5 i r' j c h3 h4
      exact ⟨v, h5, hc _ _ h6⟩

end Go.Proofs.YtnafogjagbhdbaaDoor.Pi
/- The table of types against the program; reading memory. No statement of the seat is proved here. -/
namespace Go.Proofs.YtnafogjagbhdbaaDoor.Pi
open Go Go.RowKit
set_option linter.unusedVariables false
set_option linter.unusedSimpArgs false

def zeroOk : List Value → List XV → Bool
  | [], [] => true
  | .int k n :: vs, .c (.int k' m) :: xs => decide (k = k') && decide (n = m) && zeroOk vs xs
  | .bool b :: vs, .c (.bool b') :: xs => b == b' && zeroOk vs xs
  | .string s :: vs, .c (.str t) :: xs => decide (s = t) && zeroOk vs xs
  | .slice none 0 0 :: vs, .nil _ :: xs => zeroOk vs xs
  | .nilIface :: vs, .c (.iface true) :: xs => zeroOk vs xs
  | .pointer none :: vs, .c (.ptr 0 []) :: xs => zeroOk vs xs
  | _, _ => false
def zeroOkC : List Value → List CV → Bool
  | [], [] => true
  | .int k n :: vs, .int k' m :: xs => decide (k = k') && decide (n = m) && zeroOkC vs xs
  | .bool b :: vs, .bool b' :: xs => b == b' && zeroOkC vs xs
  | .string s :: vs, .str t :: xs => decide (s = t) && zeroOkC vs xs
  | .slice none 0 0 :: vs, .slice _ [] :: xs => zeroOkC vs xs
  | .nilIface :: vs, .iface true :: xs => zeroOkC vs xs
  | .pointer none :: vs, .ptr 0 [] :: xs => zeroOkC vs xs
  | _, _ => false

def aggOf (P : Program) (t : TypeId) : Bool := match P.underlying t with | some (.struct _) | some (.array _ _) => true | _ => false

def leavesOf (P : Program) (g : TypeId → Option (List LK)) : List Field → Nat → Option (List LK)
  | [], _ => some []
  | f :: fs, off => match decide (f.name = "_"), decide (f.offset = off), g f.type with
    | false, true, some ls => match decide (P.cellsOf f.type = ls.length), leavesOf P g fs (off + ls.length) with
      | true, some r => some (ls ++ r)
      | _, _ => none
    | _, _, _ => none
def eqLeaves (P : Program) : Nat → TypeId → Option (List LK)
  | 0, _ => none
  | d + 1, t => match P.underlying t with
    | some .bool => some [.bool]
    | some (.int k) => some [.int k]
    | some .string => some [.str]
    | some (.struct fs) => match P.stoodInHeld t with
      | true => none
      | false => leavesOf P (eqLeaves P d) fs.toList 0
    | _ => none

def fieldsOk (P : Program) : List Field → List (Nat × Nat × Bool) → Bool
  | [], [] => true
  | f :: fs, (o, n, a) :: gs => f.offset == o && P.cellsOf f.type == n && (P.info? f.type).isSome && (P.underlying f.type).isSome && aggOf P f.type == a && fieldsOk P fs gs
  | _, _ => false

def tiOk (P : Program) (t : TypeId) (ti : TI) : Bool :=
  match ti.size with
  | 0 => ti.slice.isNone && ti.fields.isEmpty && ti.eq.isNone && ti.ik.isNone && !ti.str && !ti.u8 && !ti.iface && !ti.bool && ti.zero.isEmpty
  | n + 1 => match P.info? t, P.underlying t with
    | some i, some d => i.size == n + 1 && i.bytes == ti.bytes && aggOf P t == ti.agg
      && (match ti.zero with | [] => true | z :: zs => (match i.zero with | some v => zeroOk v.cells.toList (z :: zs) | none => false))
      && (match ti.slice with
        | none => true
        | some (sz, b) => (match d with
          | .slice e => e == ti.elem && (match P.info? e with | some ie => ie.size == sz && ie.bytes == b && decide (0 < sz) && (decide (0 < b ∧ b ≤ 1048576) && (match ie.zero with | some v => v.cells.size == sz && (match ti.ez with | [] => true | z :: zs => zeroOkC v.cells.toList (z :: zs)) | none => false)) | none => false)
          | _ => false))
      && (match ti.fields with
        | [] => true
        | g :: gs => (match d with | .struct fs => fieldsOk P fs.toList (g :: gs) | _ => false))
      && (match ti.eq with | none => true | some ls => decide (eqLeaves P 8 t = some ls) && !P.eqGuardType P.depth t)
      && (match ti.ik with | none => true | some k => decide (P.underlying t matches some (.int k')) && (match d with | .int k' => decide (k = k') | _ => false))
      && (!ti.str || (match d with | .string => true | _ => false))
      && (!ti.u8 || (match d with | .slice e => (match P.underlying e with | some (.int .u8) => true | _ => false) | _ => false))
      && (!ti.iface || (match d with | .interface _ => true | _ => false))
      && (!ti.bool || (match d with | .bool => true | _ => false))
    | _, _ => false

def TOK (P : Program) (tt : TT) : Prop := ∀ t, tiOk P t (tt t) = true

section
variable {P : Program} {w : World}

structure Known (P : Program) (t : TypeId) (ti : TI) : Prop where
  info : ∃ i, P.info? t = some i ∧ i.size = ti.size ∧ i.bytes = ti.bytes ∧ (ti.zero ≠ [] → ∃ v, i.zero = some v ∧ zeroOk v.cells.toList ti.zero = true)
  under : ∃ d, P.underlying t = some d
  agg : aggOf P t = ti.agg
  slice : ∀ sz b, ti.slice = some (sz, b) → P.underlying t = some (.slice ti.elem) ∧ 0 < sz ∧ ∃ ie, P.info? ti.elem = some ie ∧ ie.size = sz ∧ ie.bytes = b ∧ (0 < b ∧ b ≤ 1048576) ∧ ∃ v, ie.zero = some v ∧ v.cells.size = sz ∧ (ti.ez ≠ [] → zeroOkC v.cells.toList ti.ez = true)
  fields : ti.fields ≠ [] → ∃ fs, P.underlying t = some (.struct fs) ∧ fieldsOk P fs.toList ti.fields = true
  eq : ∀ ls, ti.eq = some ls → eqLeaves P 8 t = some ls ∧ P.eqGuardType P.depth t = false
  ik : ∀ k, ti.ik = some k → P.underlying t = some (.int k)
  str : ti.str = true → P.underlying t = some .string
  u8 : ti.u8 = true → ∃ e, P.underlying t = some (.slice e) ∧ P.underlying e = some (.int .u8)
  iface : ti.iface = true → ∃ ms, P.underlying t = some (.interface ms)
  bool : ti.bool = true → P.underlying t = some .bool

theorem known_of {t : TypeId} {ti : TI} (h : tiOk P t ti = true) (hs : ti.size ≠ 0) : Known P t ti := by
  unfold tiOk at h
  cases hn : ti.size with
  | zero => exact absurd hn hs
  | succ n =>
    simp only [hn] at h
    cases hi : P.info? t with
    | none => simp [hi] at h
    | some i =>
      cases hd : P.underlying t with
      | none => simp [hi, hd] at h
      | some d =>
        simp only [hi, hd, Bool.and_eq_true, Bool.or_eq_true, Bool.not_eq_true'] at h
        obtain ⟨⟨⟨⟨⟨⟨⟨⟨⟨⟨⟨h1, h2⟩, h3⟩, h4⟩, h5⟩, h6⟩, h7⟩, h8⟩, h9⟩, h10⟩, h11⟩, h12⟩ := h
        refine ⟨⟨i, hi, by rw [hn]; exact eq_of_beq h1, eq_of_beq h2, fun hz => ?_⟩, ⟨d, hd⟩, eq_of_beq h3, fun sz b hsl => ?_, fun hf => ?_, fun ls hl => ?_, fun k hk => ?_, fun hstr => ?_, fun hu => ?_, fun hif => ?_, fun hbo => ?_⟩
        · cases hz2 : ti.zero with
          | nil => exact absurd hz2 hz
          | cons z zs =>
            simp only [hz2] at h4
            cases hzv : i.zero with
            | none => simp [hzv] at h4
            | some v => simp only [hzv] at h4; exact ⟨v, rfl, h4⟩
        · simp only [hsl] at h5
          cases d <;> simp only [Bool.false_eq_true] at h5
          rename_i e
          simp only [Bool.and_eq_true] at h5
          obtain ⟨he, h5⟩ := h5
          have he' := eq_of_beq he
          subst he'
          cases hie : P.info? ti.elem with
          | none => simp [hie] at h5
          | some ie =>
            simp only [hie, Bool.and_eq_true, decide_eq_true_eq] at h5
            obtain ⟨⟨⟨q1, q2⟩, q3⟩, q5, q4⟩ := h5
            refine ⟨hd, q3, ie, rfl, eq_of_beq q1, eq_of_beq q2, q5, ?_⟩
            cases hzv : ie.zero with
            | none => simp [hzv] at q4
            | some v =>
              simp only [hzv, Bool.and_eq_true] at q4
              refine ⟨v, rfl, eq_of_beq q4.1, fun hez => ?_⟩
              cases he : ti.ez with
              | nil => exact absurd he hez
              | cons z zs => have := q4.2; simp only [he] at this; exact this
        · cases hf2 : ti.fields with
          | nil => exact absurd hf2 hf
          | cons g gs =>
            simp only [hf2] at h6
            cases d <;> simp only [Bool.false_eq_true] at h6
            exact ⟨_, hd, h6⟩
        · simp only [hl, Bool.and_eq_true, decide_eq_true_eq, Bool.not_eq_true'] at h7
          exact h7
        · simp only [hk, Bool.and_eq_true] at h8
          obtain ⟨_, h8⟩ := h8
          cases d <;> simp only [Bool.false_eq_true, decide_eq_true_eq] at h8
          subst h8; exact hd
        · rw [hstr] at h9
          simp only [Bool.true_eq_false, false_or] at h9
          cases d <;> simp only [Bool.false_eq_true] at h9
          exact hd
        · rw [hu] at h10
          simp only [Bool.true_eq_false, false_or] at h10
          cases d <;> simp only [Bool.false_eq_true] at h10
          rename_i e
          refine ⟨e, hd, ?_⟩
          split at h10
          · assumption
          · cases h10
        · rw [hif] at h11
          simp only [Bool.true_eq_false, false_or] at h11
          cases d <;> simp only [Bool.false_eq_true] at h11
          exact ⟨_, hd⟩
        · rw [hbo] at h12
          simp only [Bool.true_eq_false, false_or] at h12
          cases d <;> simp only [Bool.false_eq_true] at h12
          exact hd

theorem known_any {t : TypeId} {ti : TI} (h : tiOk P t ti = true) (hs : ti.slice ≠ none ∨ ti.fields ≠ [] ∨ ti.eq ≠ none ∨ ti.ik ≠ none ∨ ti.str = true ∨ ti.u8 = true ∨ ti.iface = true ∨ ti.zero ≠ [] ∨ ti.bool = true) : Known P t ti := by
  refine known_of h fun h0 => ?_
  simp only [tiOk, h0, Bool.and_eq_true, Bool.not_eq_true', Option.isNone_iff_eq_none, List.isEmpty_iff] at h
  obtain ⟨⟨⟨⟨⟨⟨⟨⟨h1, h2⟩, h3⟩, h4⟩, h5⟩, h6⟩, h7⟩, h9⟩, h8⟩ := h
  rcases hs with h | h | h | h | h | h | h | h | h
  · exact h h1
  · exact h h2
  · exact h h3
  · exact h h4
  · rw [h5] at h; cases h
  · rw [h6] at h; cases h
  · rw [h7] at h; cases h
  · exact h h8
  · rw [h9] at h; cases h

theorem run_isAgg' {t : TypeId} {d : TypeDesc} (h : P.underlying t = some d) : (isAgg t).run P w = .ok (aggOf P t) w := by
  simp only [isAgg, Sem.run_bind, run_underlying h, Result.andThen_ok, aggOf, h]
  cases d <;> rfl

theorem run_info {t : TypeId} {i : TypeInfo} (h : P.info? t = some i) : (typeInfo t).run P w = .ok i w := by
  simp [typeInfo, h]
theorem run_size {t : TypeId} {i : TypeInfo} (h : P.info? t = some i) : (sizeOf t).run P w = .ok i.size w := by
  simp [sizeOf, run_info h]

theorem run_loadVar' {t : TypeId} {ti : TI} (hk : Known P t ti) {b o : Nat} {f : Nat → Value} (hc : ∀ j, j < ti.size → w.cell? ⟨b, o + j, none⟩ = some (f j)) (h1 : ti.agg = false → ti.size = 1) :
    (loadVar t ⟨b, o, none⟩).run P w = .ok (if ti.agg then .agg ((List.range ti.size).map f).toArray else f 0) w := by
  obtain ⟨d, hd⟩ := hk.under
  obtain ⟨i, hi, hs, _⟩ := hk.info
  simp only [loadVar, Sem.run_bind, run_isAgg' hd, Result.andThen_ok, hk.agg]
  cases ha : ti.agg with
  | true =>
    simp only [if_true, Sem.run_bind, run_size hi, Result.andThen_ok, hs]
    rw [run_loadCells w ⟨b, o, none⟩ ti.size f (fun j hj => by rw [add_plain]; exact hc j hj)]
    simp
  | false =>
    have h0 := hc 0 (by rw [h1 ha]; omega)
    simp only [Nat.add_zero] at h0
    simp [h0]

end

end Go.Proofs.YtnafogjagbhdbaaDoor.Pi
