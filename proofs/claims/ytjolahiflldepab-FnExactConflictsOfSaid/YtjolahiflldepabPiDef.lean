/- The words of the layer 'Pi': pure values, abstract states and the predicate transformer 'pwp' over Go code. No statement of the seat is proved here. -/
import Derived.Below
namespace Go.Proofs.Ytjolahiflldepab.Pi
open Go
set_option linter.unusedVariables false

/-- The pure content of one cell. -/
inductive CV where
  | int (k : IntKind) (n : Int)
  | bool (b : Bool)
  | str (s : ByteArray)
  | slice (sz : Nat) (es : List (List CV))
  | ptr (sz : Nat) (cs : List CV)
  | fn (f : Nat) (cap : List CV)
  | iface (isNil : Bool)
  /-- A slice whose memory is its own, nil or from its begin: it may be appended to. -/
  | own (sz : Nat) (es : List (List CV))
  /-- What nobody reads. -/
  | hole

/-- What a register's cell, or a cell of an own box, holds. -/
inductive XV where
  | c (c : CV)
  | nil (sz : Nat)
  | rs (k : Nat)
  | ru (k off len : Nat)
  | pb (k off len : Nat)
  | pe (k row off len : Nat)
  | ds (k : Nat)
  | dp (k row off len : Nat)
  | dn (k row j : Nat)
  | fb (f : Nat) (cs : List CV) (k n : Nat) (ds : List CV)
  | undef
  | dead

inductive PV where
  | one (x : XV)
  | agg (xs : List XV)
  | tup (vs : List (Bool × List XV))

inductive Ob where
  | box (cs : List XV)
  | arr (sz : Nat) (rows : List (List CV))
  /-- Rows whose nested slices are memory of their own, each part of it once; 'a': it may be appended to. -/
  | deep (a : Bool) (sz : Nat) (rows : List (List CV))

abbrev Heap := List (Nat × Ob)

structure St where
  regs : List PV
  heap : Heap

/-- The kind of a cell that '==' looks at. -/
inductive LK where
  | int (k : IntKind)
  | bool
  | str
  deriving DecidableEq

/-- What is told of a type. 'kind': 0 scalar, 1 struct, 2 slice, 3 other. -/
structure TI where
  size : Nat
  bytes : Nat
  agg : Bool
  slice : Option (Nat × Nat)         -- the element's cells and bytes
  elem : Nat                         -- the element's type
  ez : List CV                       -- the element's zero cells
  ftypes : List Nat
  ik : Option IntKind
  str : Bool
  u8 : Bool                          -- a slice of bytes
  iface : Bool
  bool : Bool
  fields : List (Nat × Nat × Bool)   -- offset, cells, is it an aggregate
  zero : List XV
  eq : Option (List LK)              -- the kinds of its cells, where '==' looks at all of them

abbrev TT := Nat → TI

structure Side (A B : Prop) : Prop where
  a : A
  b : B
structure Br (b : Bool) (A B : Prop) : Prop where
  t : b = true → A
  f : b = false → B
inductive Pick {α : Type} (R : α → Prop) (K : α → Prop) : Prop
  | mk (z : α) (h : R z) (k : K z) : Pick R K

/-- A call that is given own objects: it reads them, or it is given them for good. -/
inductive CallC (A B : Prop) : Prop
  | r (h : A)
  | x (h : B)

theorem Br.yes {A B : Prop} (h : A) : Br true A B := ⟨fun _ => h, fun h => absurd h (by decide)⟩
theorem Br.no {A B : Prop} (h : B) : Br false A B := ⟨fun h => absurd h (by decide), fun _ => h⟩

/-! ### reading and writing registers, in continuation style -/
def look : List PV → Nat → (PV → Prop) → Prop
  | [], _, _ => False
  | x :: _, 0, K => K x
  | _ :: xs, n + 1, K => look xs n K

def setK : List PV → Nat → PV → (List PV → Prop) → Prop
  | [], _, _, _ => False
  | _ :: xs, 0, v, K => K (v :: xs)
  | x :: xs, n + 1, v, K => setK xs n v fun ys => K (x :: ys)

/-- The object under a key. -/
def find : Heap → Nat → Option Ob
  | [], _ => none
  | (k', o) :: h, k => match Nat.beq k' k with | true => some o | false => find h k

def ins (k : Nat) (o : Ob) : Heap → Heap
  | [] => [(k, o)]
  | (k', o') :: h => match Nat.blt k k' with | true => (k, o) :: (k', o') :: h | false => (k', o') :: ins k o h

def del (k : Nat) : Heap → Heap
  | [] => []
  | (k', o') :: h => match Nat.beq k' k with | true => del k h | false => (k', o') :: del k h

/-- A change of the references, everywhere. -/
def PV.map (f : XV → XV) : PV → PV
  | .one x => .one (f x)
  | .agg xs => .agg (xs.map f)
  | .tup vs => .tup (vs.map fun p => (p.1, p.2.map f))
def Ob.map (f : XV → XV) : Ob → Ob
  | .box cs => .box (cs.map f)
  | .arr sz rows => .arr sz rows
  | .deep a sz rows => .deep a sz rows
def Heap.mapX (f : XV → XV) (h : Heap) : Heap := h.map fun p => (p.1, p.2.map f)

def XV.key? : XV → Option Nat
  | .rs k | .ru k _ _ | .pb k _ _ | .pe k _ _ _ | .ds k | .dp k _ _ _ | .dn k _ _ | .fb _ _ k _ _ => some k
  | _ => none
/-- Keys of objects that were handed in: they lie where they lay. -/
def pinK (k : Nat) : Bool := match Nat.ble 1000000 k with | true => Nat.blt (Nat.mod k 64) 32 | false => false
def XV.kill (k : Nat) (x : XV) : XV :=
  match x.key? with
  | some k' => match Nat.beq k' k with | true => .dead | false => x
  | none => x
def XV.rename (k k2 : Nat) (x : XV) : XV :=
  match x with
  | .rs a => match Nat.beq a k with | true => .rs k2 | false => .rs a
  | .ru a o l => match Nat.beq a k with | true => .ru k2 o l | false => .ru a o l
  | .pb a o l => match Nat.beq a k with | true => .pb k2 o l | false => .pb a o l
  | .pe a r o l => match Nat.beq a k with | true => .pe k2 r o l | false => .pe a r o l
  | .ds a => match Nat.beq a k with | true => .ds k2 | false => .ds a
  | .dp a r o l => match Nat.beq a k with | true => .dp k2 r o l | false => .dp a r o l
  | .dn a r j => match Nat.beq a k with | true => .dn k2 r j | false => .dn a r j
  | .fb f cs a n qs => match Nat.beq a k with | true => .fb f cs k2 n qs | false => .fb f cs a n qs
  | x => x

/-! ### forcing: the same terms, their constructors in sight -/
def forceNat (k : Nat) (K : Nat → Prop) : Prop := match k with | 0 => K 0 | n + 1 => K (n + 1)
def forceB (b : Bool) (K : Bool → Prop) : Prop := match b with | true => K true | false => K false
def forceX (x : XV) (K : XV → Prop) : Prop :=
  match x with
  | .c c => K (.c c)
  | .nil a => K (.nil a)
  | .rs a => forceNat a fun a => K (.rs a)
  | .ru a b c => forceNat a fun a => K (.ru a b c)
  | .pb a b c => forceNat a fun a => K (.pb a b c)
  | .pe a b c d => forceNat a fun a => K (.pe a b c d)
  | .ds a => forceNat a fun a => K (.ds a)
  | .dp a b c d => forceNat a fun a => K (.dp a b c d)
  | .dn a b c => forceNat a fun a => K (.dn a b c)
  | .fb f a b c d => K (.fb f a b c d)
  | .undef => K .undef
  | .dead => K .dead
def forceXs : List XV → (List XV → Prop) → Prop
  | [], K => K []
  | x :: xs, K => forceX x fun x => forceXs xs fun xs => K (x :: xs)
def forceT : List (Bool × List XV) → (List (Bool × List XV) → Prop) → Prop
  | [], K => K []
  | (b, x) :: xs, K => forceB b fun b => forceXs x fun x => forceT xs fun xs => K ((b, x) :: xs)
def forceP (x : PV) (K : PV → Prop) : Prop :=
  match x with
  | .one x => forceX x fun x => K (.one x)
  | .agg xs => forceXs xs fun xs => K (.agg xs)
  | .tup vs => forceT vs fun vs => K (.tup vs)
def forceR : List PV → (List PV → Prop) → Prop
  | [], K => K []
  | x :: xs, K => forceP x fun x => forceR xs fun xs => K (x :: xs)
def forceO (o : Ob) (K : Ob → Prop) : Prop :=
  match o with
  | .box cs => forceXs cs fun cs => K (.box cs)
  | .arr sz rows => K (.arr sz rows)
  | .deep a sz rows => K (.deep a sz rows)
def forceH : Heap → (Heap → Prop) → Prop
  | [], K => K []
  | (k, o) :: h, K => forceNat k fun k => forceO o fun o => forceH h fun h => K ((k, o) :: h)
def force (s : St) (K : St → Prop) : Prop := match s with | ⟨r, h⟩ => forceR r fun r => forceH h fun h => K ⟨r, h⟩


/-! ### the value of an operand -/
def constK (v : Value) (t : TI) (K : PV → Prop) : Prop :=
  match v with
  | .int k n => K (.one (.c (.int k n)))
  | .bool b => K (.one (.c (.bool b)))
  | .string s => K (.one (.c (.str s)))
  | .slice none 0 0 => match t.slice with | some (sz, _) => K (.one (.nil sz)) | none => False
  | .nilIface => K (.one (.c (.iface true)))
  | _ => False

def opd (regs : List PV) (x : Operand) (t : TI) (K : PV → Prop) : Prop :=
  match x with
  | .tmp n => look regs n K
  | .const v => constK v t K
  | .func f => K (.one (.c (.fn f [])))
  | .global _ => False

def XV.pure? : XV → Option CV
  | .c y => some y
  | .nil sz => some (.slice sz [])
  | _ => none

def pures : List XV → Option (List CV)
  | [] => some []
  | x :: xs => match x.pure?, pures xs with | some c, some cs => some (c :: cs) | _, _ => none

/-- A content that has no memory of its own. -/
def CV.flat : CV → Bool
  | .int _ _ | .bool _ | .str _ | .iface _ => true
  | .slice _ [] => true
  | _ => false
def flatRows (rows : List (List CV)) : Prop := ∀ r ∈ rows, ∀ c ∈ r, c.flat = true
def CV.scalar : CV → Bool
  | .int _ _ | .bool _ | .str _ | .iface _ => true
  | _ => false
def XV.scalar : XV → Bool
  | .c y => y.scalar
  | _ => false

/-- A part of a list of cells. -/
def sub {α : Type} : List α → Nat → Nat → List α
  | _, _, 0 => []
  | [], _, _ + 1 => []
  | x :: xs, 0, n + 1 => x :: sub xs 0 n
  | _ :: xs, o + 1, n + 1 => sub xs o (n + 1)

def subK (xs : List XV) (o n : Nat) (K : List XV → Prop) : Prop := forceXs (sub xs o n) fun ys => K ys

def oneOr (agg : Bool) (xs : List XV) (K : PV → Prop) : Prop :=
  match agg, xs with
  | true, xs => K (.agg xs)
  | false, [x] => K (.one x)
  | false, _ => False

def lenIs {α : Type} : List α → Nat → Bool
  | [], 0 => true
  | _ :: xs, n + 1 => lenIs xs n
  | _, _ => false

/-- A cell of an own deep row, as it is read. -/
def dcell (k r j : Nat) (c : CV) : XV :=
  match c with
  | .int i n => .c (.int i n)
  | .bool b => .c (.bool b)
  | .str s => .c (.str s)
  | .iface b => .c (.iface b)
  | .slice _ _ => .dn k r j
  | .own _ _ => .dn k r j
  | _ => .dead
def dcells (k r : Nat) : Nat → List CV → List XV
  | _, [] => []
  | j, c :: cs => dcell k r j c :: dcells k r (j + 1) cs

/-- What is read at an address. -/
def loadK (h : Heap) (t : TI) (a : PV) (K : PV → Prop) : Prop :=
  match t.size with
  | 0 => False
  | m + 1 => match a with
    | .one (.c (.ptr sz cs)) => match Nat.beq sz (m + 1) with
      | true => forceXs (cs.map XV.c) fun xs => oneOr t.agg xs K
      | false => False
    | .one (.pb k o n) => match find h k, Nat.beq n (m + 1) with
      | some (.box cs), true => subK cs o n fun xs => oneOr t.agg xs K
      | _, _ => False
    | .one (.pe k r o n) => match find h k, Nat.beq n (m + 1) with
      | some (.arr _ rows), true => Pick (fun row => rows[r]? = some row) fun row => subK (row.map XV.c) o n fun xs => oneOr t.agg xs K
      | _, _ => False
    | .one (.dp k r o n) => match find h k, Nat.beq n (m + 1) with
      | some (.deep _ _ rows), true => Pick (fun row => rows[r]? = some row) fun row => subK (dcells k r 0 row) o n fun xs => oneOr t.agg xs K
      | _, _ => False
    | _ => False

def fieldAddrK (t : TI) (a : PV) (f : Nat) (K : PV → Prop) : Prop :=
  match t.fields[f]? with
  | some (off, n, _) => match Nat.beq n 0, a with
    | false, .one (.c (.ptr sz cs)) => match Nat.ble (off + n) sz with
      | true => K (.one (.c (.ptr n (sub cs off n))))
      | false => False
    | false, .one (.pb k o m) => match Nat.ble (off + n) m with
      | true => K (.one (.pb k (o + off) n))
      | false => False
    | false, .one (.pe k r o m) => match Nat.ble (off + n) m with
      | true => K (.one (.pe k r (o + off) n))
      | false => False
    | false, .one (.dp k r o m) => match Nat.ble (off + n) m with
      | true => K (.one (.dp k r (o + off) n))
      | false => False
    | _, _ => False
  | none => False

def intIx (i : PV) (K : Int → Prop) : Prop :=
  match i with
  | .one (.c (.int _ n)) => K n
  | _ => False

def indexAddrK (h : Heap) (t : TI) (a i : PV) (K : PV → Prop) : Prop :=
  intIx i fun n =>
  match a, t.slice with
  | .one (.c (.slice sz es)), some (sz', _) => match Nat.beq sz sz' with
    | true => Pick (fun row => 0 ≤ n ∧ es[n.toNat]? = some row) fun row => K (.one (.c (.ptr sz row)))
    | false => False
  | .one (.rs k), some (sz', _) => match find h k with
    | some (.arr sz rows) => match Nat.beq sz sz' with
      | true => Side (0 ≤ n ∧ n < rows.length) (K (.one (.pe k n.toNat 0 sz)))
      | false => False
    | _ => False
  | .one (.ds k), some (sz', _) => match find h k with
    | some (.deep _ sz rows) => match Nat.beq sz sz' with
      | true => Side (0 ≤ n ∧ n < rows.length) (K (.one (.dp k n.toNat 0 sz)))
      | false => False
    | _ => False
  | .one (.ru k o l), some (sz', _) => match find h k with
    | some (.arr sz rows) => match Nat.beq sz sz' with
      | true => Side (0 ≤ n ∧ n < l ∧ o + l ≤ rows.length) (K (.one (.pe k (o + n.toNat) 0 sz)))
      | false => False
    | _ => False
  | _, _ => False

def maxK (a b : PV) (K : PV → Prop) : Prop :=
  match a, b with
  | .one (.c (.int .i64 x)), .one (.c (.int .i64 y)) => K (.one (.c (.int .i64 (if y > x then y else x))))
  | _, _ => False

def lenK (h : Heap) (t : TI) (a : PV) (K : PV → Prop) : Prop :=
  match t.slice, t.str, a with
  | some _, _, .one (.c (.slice _ es)) => K (.one (.c (.int .i64 es.length)))
  | some _, _, .one (.nil _) => K (.one (.c (.int .i64 0)))
  | some _, _, .one (.rs k) => match find h k with
    | some (.arr _ rows) => K (.one (.c (.int .i64 rows.length)))
    | _ => False
  | some _, _, .one (.ru _ _ l) => K (.one (.c (.int .i64 l)))
  | some _, _, .one (.ds k) => match find h k with
    | some (.deep _ _ rows) => K (.one (.c (.int .i64 rows.length)))
    | _ => False
  | _, true, .one (.c (.str s)) => K (.one (.c (.int .i64 s.size)))
  | _, _, _ => False

def cellsEq : List LK → List XV → List XV → Option Bool
  | [], [], [] => some true
  | .int k :: ls, .c (.int k1 a) :: xs, .c (.int k2 b) :: ys => match decide (k1 = k), decide (k2 = k), cellsEq ls xs ys with
    | true, true, some r => some ((a == b) && r)
    | _, _, _ => none
  | .bool :: ls, .c (.bool a) :: xs, .c (.bool b) :: ys => match cellsEq ls xs ys with | some r => some ((a == b) && r) | none => none
  | .str :: ls, .c (.str a) :: xs, .c (.str b) :: ys => match cellsEq ls xs ys with | some r => some ((a == b) && r) | none => none
  | _, _, _ => none

def binK (op : BinOp) (t : TI) (yc : Bool) (x y : PV) (K : PV → Prop) : Prop :=
  let B (b : Bool) : Prop := K (.one (.c (.bool b)))
  let W (k : IntKind) (n : Int) : Prop := Pick (fun z => k.wrap n = z) fun z => K (.one (.c (.int k z)))
  match x, y with
  | .one (.c (.int k a)), .one (.c (.int k' b)) =>
    match op with
    | .shl => Side (0 ≤ b) (W k (a * 2 ^ (min b.toNat k.bits)))
    | .shr => Side (0 ≤ b) (K (.one (.c (.int k (a.fdiv (2 ^ (min b.toNat k.bits)))))))
    | _ => match decide (k = k') with
      | false => False
      | true => match op with
        | .add => W k (a + b)
        | .sub => W k (a - b)
        | .mul => W k (a * b)
        | .quo => Side (b ≠ 0) (W k (a.tdiv b))
        | .rem => Side (b ≠ 0) (K (.one (.c (.int k (a.tmod b)))))
        | .and => K (.one (.c (.int k (k.wrap (BitVec.ofInt k.bits a &&& BitVec.ofInt k.bits b).toNat))))
        | .or => K (.one (.c (.int k (k.wrap (BitVec.ofInt k.bits a ||| BitVec.ofInt k.bits b).toNat))))
        | .xor => K (.one (.c (.int k (k.wrap (BitVec.ofInt k.bits a ^^^ BitVec.ofInt k.bits b).toNat))))
        | .eql => B (a == b)
        | .neq => B (a != b)
        | .lss => B (decide (a < b))
        | .leq => B (decide (a ≤ b))
        | .gtr => B (decide (a > b))
        | .geq => B (decide (a ≥ b))
        | _ => False
  | .one (.c (.str a)), .one (.c (.str b)) =>
    match op with
    | .add => Side (((a.size + b.size : Nat) : Int) ≤ IntKind.i64.max) (K (.one (.c (.str (a ++ b)))))
    | .eql => B (a.toList == b.toList)
    | .neq => B (!(a.toList == b.toList))
    | .lss => B (Op.bytesLess a.toList b.toList)
    | .leq => B (Op.bytesLess a.toList b.toList || a.toList == b.toList)
    | .gtr => B (!(Op.bytesLess a.toList b.toList || a.toList == b.toList))
    | .geq => B (!(Op.bytesLess a.toList b.toList))
    | _ => False
  | .one (.c (.bool a)), .one (.c (.bool b)) =>
    match op, t.bool with
    | .eql, true => B (a == b)
    | .neq, true => B (!(a == b))
    | _, _ => False
  | .one (.c (.iface a)), .one (.c (.iface b)) =>
    match t.iface, yc, b with
    | true, true, true => match op with
      | .eql => B a
      | .neq => B (!a)
      | _ => False
    | _, _, _ => False
  | .agg xs, .agg ys =>
    match t.agg, t.eq with
    | true, some ls => match op, cellsEq ls xs ys with
      | .eql, some b => B b
      | .neq, some b => B (!b)
      | _, _ => False
    | _, _ => False
  | _, _ => False

def unK (op : UnOp) (x : PV) (K : PV → Prop) : Prop :=
  match op, x with
  | .not, .one (.c (.bool b)) => K (.one (.c (.bool (!b))))
  | .neg, .one (.c (.int k n)) => Pick (fun z => k.wrap (0 - n) = z) fun z => K (.one (.c (.int k z)))
  | _, _ => False

def boundsOf (n : Nat) (lo hi : Option Int) (K : Nat → Nat → Prop) : Prop :=
  match lo, hi with
  | none, none => K 0 n
  | some l, none => Side (0 ≤ l ∧ l ≤ n) (K l.toNat n)
  | none, some h => Side (0 ≤ h ∧ h ≤ n) (K 0 h.toNat)
  | some l, some h => Side (0 ≤ l ∧ l ≤ h ∧ h ≤ n) (K l.toNat h.toNat)

/-- A part of a slice that came in, or of a string; a part of an own slice. -/
def sliceK (h : Heap) (t : TI) (x : PV) (lo hi : Option Int) (K : PV → Prop) : Prop :=
  match t.slice, t.str, x with
  | _, true, .one (.c (.str s)) => boundsOf s.size lo hi fun l h => K (.one (.c (.str (s.extract l h))))
  | some (sz', _), _, .one (.c (.slice sz es)) => match Nat.beq sz sz' with
    | true => boundsOf es.length lo hi fun l h => K (.one (.c (.slice sz ((es.take h).drop l))))
    | false => False
  | some (sz', _), _, .one (.rs k) => match find h k with
    | some (.arr sz rows) => match Nat.beq sz sz' with
      | true => boundsOf rows.length lo hi fun l h => K (.one (.ru k l (h - l)))
      | false => False
    | _ => False
  | some (sz', _), _, .one (.nil sz) => boundsOf 0 lo hi fun _ _ => K (.one (.nil sz))
  | _, _, _ => False

def fillX (cells : List XV) (off : Nat) : List XV → List XV
  | [] => cells
  | x :: xs => fillX (cells.set off x) (off + 1) xs

def PV.cellsX : PV → Option (List XV)
  | .one x => some [x]
  | .agg xs => some xs
  | .tup _ => none

def XV.live : XV → Bool
  | .dead | .undef => false
  | _ => true

def pureB (vs : List PV) : Option (List (Bool × List CV)) :=
  match vs with
  | [] => some []
  | v :: vs => match (match v with
      | .one x => x.pure?.map fun c => (false, [c])
      | .agg xs => (pures xs).map fun cs => (true, cs)
      | .tup _ => none), pureB vs with
    | some c, some cs => some (c :: cs)
    | _, _ => none

end Go.Proofs.Ytjolahiflldepab.Pi
