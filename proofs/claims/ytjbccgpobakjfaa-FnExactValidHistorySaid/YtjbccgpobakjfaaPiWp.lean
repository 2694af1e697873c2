/- The predicate transformer 'pwp': what has to hold of an abstract state so that the code comes to its end as wanted. No statement of the seat is proved here. -/
import Derived.Test.YtjbccgpobakjfaaPiRep
import Derived.Still
namespace Go.Proofs.Ytjbccgpobakjfaa.Pi
open Go
set_option linter.unusedVariables false

def argsK (regs : List PV) (tt : TT) : List Operand → List TypeId → (List PV → Prop) → Prop
  | [], _, K => K []
  | x :: xs, ts, K => opd regs x (tt (ts.headD 0)) fun v => argsK regs tt xs ts.tail fun vs => K (v :: vs)

/-- The pure content that a cell reads as, own objects and all. -/
def snapX (h : Heap) : Nat → XV → Option CV
  | _, .c y => some y
  | _, .nil sz => some (.slice sz [])
  | _, .rs k => match find h k with | some (.arr sz rows) => some (.slice sz rows) | _ => none
  | _, .ru k off len => match find h k with | some (.arr sz rows) => some (.slice sz ((rows.drop off).take len)) | _ => none
  | f + 1, .pb k off len => match find h k with
    | some (.box cs) => match snapXs (snapX h f) cs with | some ys => some (.ptr len (sub ys off len)) | none => none
    | _ => none
  | _, _ => none
where snapXs (g : XV → Option CV) : List XV → Option (List CV)
  | [] => some []
  | x :: xs => match g x, snapXs g xs with | some y, some ys => some (y :: ys) | _, _ => none

def snapB (h : Heap) : List PV → Option (List Comp)
  | [] => some []
  | v :: vs => match (match v with
      | .one x => (snapX h 3 x).map fun y => (false, [y])
      | .agg xs => (snapX.snapXs (snapX h 3) xs).map fun ys => (true, ys)
      | .tup _ => none), snapB h vs with
    | some y, some ys => some (y :: ys)
    | _, _ => none

def noKeyX : List XV → Bool
  | [] => true
  | x :: xs => match x.key? with | some _ => false | none => noKeyX xs
def noKeyP : PV → Bool
  | .one x => noKeyX [x]
  | .agg xs => noKeyX xs
  | .tup vs => vs.all fun p => noKeyX p.2
def noKeys : List PV → Bool
  | [] => true
  | v :: vs => match noKeyP v with | true => noKeys vs | false => false
def PV.scalar : PV → Bool
  | .one x => x.scalar
  | .agg xs => xs.all XV.scalar
  | .tup vs => vs.all fun p => p.2.all XV.scalar

/-- A result, all of it pure. -/
def frzXs (h : Heap) : List XV → Option (List XV)
  | [] => some []
  | x :: xs => match snapX h 3 x, frzXs h xs with | some y, some ys => some (.c y :: ys) | _, _ => none
def frzT (h : Heap) : List (Bool × List XV) → Option (List (Bool × List XV))
  | [] => some []
  | (b, x) :: xs => match frzXs h x, frzT h xs with | some y, some ys => some ((b, y) :: ys) | _, _ => none
def frzP (r : Res) : Option PV :=
  match r with
  | (.one x, h) => match snapX h 3 x with | some y => some (.one (.c y)) | none => none
  | (.agg xs, h) => match frzXs h xs with | some ys => some (.agg ys) | none => none
  | (.tup vs, h) => match frzT h vs with | some ys => some (.tup ys) | none => none

def convertQ (h : Heap) (src dst : TI) (ik : Option IntKind) (v : PV) (K : PV → Prop) : Prop :=
  match ik, v, src.size with
  | some k, .one (.c (.int _ n)), _ + 1 => Pick (fun z => k.wrap n = z) fun z => K (.one (.c (.int k z)))
  | _, _, _ => False

def extractK (v : PV) (i : Nat) (K : PV → Prop) : Prop :=
  match v with
  | .tup vs => match vs[i]? with | some (b, xs) => oneOr b xs K | none => False
  | _ => False

def fieldK (t : TI) (v : PV) (f : Nat) (K : PV → Prop) : Prop :=
  match t.fields[f]?, v with
  | some (off, n, agg), .agg xs => subK xs off n fun ys => oneOr agg ys K
  | _, _ => False

def indexQ (v i : PV) (K : PV → Prop) : Prop :=
  match v, i with
  | .one (.c (.str s)), .one (.c (.int _ n)) => Pick (fun b => 0 ≤ n ∧ s[n.toNat]? = some b) fun b => K (.one (.c (.int .u8 b.toNat)))
  | _, _ => False

def optInt (regs : List PV) (tt : TT) (x : Option Operand) (K : Option Int → Prop) : Prop :=
  match x with
  | none => K none
  | some x => opd regs x (tt 0) fun v => intIx v fun n => K (some n)

def allLive (xs : List XV) : Bool := match xs with | [] => true | x :: xs => match x.live with | true => allLive xs | false => false

def buildK (t : TI) : List (Nat × PV) → List XV → (PV → Prop) → Prop
  | [], cells, K => forceXs cells fun xs => K (.agg xs)
  | (f, v) :: ps, cells, K => match t.fields[f]?, v.cellsX with
    | some (off, n, _), some xs => match lenIs xs n, Nat.ble (off + n) cells.length, allLive xs with
      | true, true, true => buildK t ps (fillX cells off xs) K
      | _, _, _ => False
    | _, _ => False

def partsK (regs : List PV) (tt : TT) (ft : Nat → Nat) : List (Nat × Operand) → (List (Nat × PV) → Prop) → Prop
  | [], K => K []
  | (i, x) :: xs, K => opd regs x (tt (ft i)) fun v => partsK regs tt ft xs fun vs => K ((i, v) :: vs)

/-- A call that leaves the abstract state alone. -/
def callQ (P : Program) (h : Heap) (f : PV) (vs : List PV) (K : PV → Prop) : Prop :=
  match f, snapB h vs with
  | .one (.c (.fn g caps)), some comps => Pick (fun r => Sat P g (comps ++ caps.map fun y => (false, [y])) r) fun r =>
      match noKeys vs with
      | true => match frzP r with | some pv => forceP pv K | none => False
      | false => match r.1.scalar with | true => forceP r.1 K | false => False
  | _, _ => False

/-- THE OPERATIONS THAT LEAVE THE ABSTRACT STATE ALONE, but for their own register. -/
def opQ (P : Program) (tt : TT) (s : St) (o : Oper) (K : PV → Prop) : Prop :=
  match o.op with
  | .move x | .assign x => opd s.regs x (tt o.type) K
  | .pick c a b => opd s.regs c (tt 0) fun v => match v with
    | .one (.c (.bool true)) => opd s.regs a (tt o.type) K
    | .one (.c (.bool false)) => opd s.regs b (tt o.type) K
    | _ => False
  | .load t a => opd s.regs a (tt 0) fun v => loadK s.heap (tt t) v K
  | .nilCheck x => opd s.regs x (tt 0) fun v => match v with
    | .one (.c (.ptr a b)) => K (.one (.c (.ptr a b)))
    | .one (.pb a b c) => K (.one (.pb a b c))
    | .one (.pe a b c d) => K (.one (.pe a b c d))
    | _ => False
  | .binOp op t x y _ => opd s.regs x (tt t) fun a => opd s.regs y (tt t) fun b => binK op (tt t) (match y with | .const _ => true | _ => false) a b K
  | .unOp op _ x => opd s.regs x (tt 0) fun v => unK op v K
  | .convert src dst x => opd s.regs x (tt src) fun v => convertQ s.heap (tt src) (tt dst) (tt dst).ik v K
  | .slice t x lo hi none => opd s.regs x (tt t) fun v => optInt s.regs tt lo fun l => optInt s.regs tt hi fun h => sliceK s.heap (tt t) v l h K
  | .fieldAddr t x f => opd s.regs x (tt 0) fun v => fieldAddrK (tt t) v f K
  | .field t x f => opd s.regs x (tt t) fun v => fieldK (tt t) v f K
  | .indexAddr t x i => opd s.regs x (tt t) fun v => opd s.regs i (tt 0) fun j => indexAddrK s.heap (tt t) v j K
  | .index t x i => opd s.regs x (tt t) fun v => opd s.regs i (tt 0) fun j => match (tt t).str with | true => indexQ v j K | false => False
  | .extract x i => opd s.regs x (tt 0) fun v => extractK v i K
  | .build t ps => match (tt t).fields, (tt t).zero with
    | [], _ => False
    | _, [] => False
    | _ :: _, _ :: _ => partsK s.regs tt (fun i => ((tt t).ftypes[i]?).getD 0) ps.toList fun vs => buildK (tt t) vs (tt t).zero K
  | .makeFunc (.func f) first captured => match first.toList with
    | [] => argsK s.regs tt captured.toList [] fun vs => match pureB vs with
      | some comps => match comps.all (fun p => !p.1) with
        | true => K (.one (.c (.fn f (comps.flatMap (·.2)))))
        | false => False
      | none => False
    | _ => False
  | .call c => match c.callee, c.args.toList with
    | .builtin .len, [x] => match c.argTypes.toList with
      | t :: _ => opd s.regs x (tt t) fun v => lenK s.heap (tt t) v K
      | [] => False
    | .value f, args => opd s.regs f (tt 0) fun g => argsK s.regs tt args c.argTypes.toList fun vs => callQ P s.heap g vs K
    | _, _ => False
  | _ => False

/-! ### what changes the abstract state -/
def killK (k : Nat) (s : St) (K : St → Prop) : Prop :=
  match find s.heap k with
  | none => K s
  | some _ => force ⟨s.regs.map (PV.map (XV.kill k)), (del k s.heap).mapX (XV.kill k)⟩ K

/-- A new object under a key (what lay under it goes). -/
def newK (k : Nat) (o : Ob) (s : St) (K : St → Prop) : Prop := killK k s fun s => match s with | ⟨r, h⟩ => forceH (ins k o h) fun h => K ⟨r, h⟩

/-- An object is known under another key. -/
def renK (k k2 : Nat) (s : St) (K : St → Prop) : Prop :=
  match Nat.beq k k2 with
  | true => K s
  | false => killK k2 s fun s => match find s.heap k with
    | some o => force ⟨s.regs.map (PV.map (XV.rename k k2)), (ins k2 o (del k s.heap)).mapX (XV.rename k k2)⟩ K
    | none => False

def frzX (k : Nat) (o : Ob) (x : XV) : XV :=
  match x, o with
  | .rs a, .arr sz rows => match Nat.beq a k with | true => .c (.slice sz rows) | false => x
  | .ru a off len, .arr sz rows => match Nat.beq a k with | true => .c (.slice sz ((rows.drop off).take len)) | false => x
  | .pe a row off len, .arr _ rows => match Nat.beq a k with | true => .c (.ptr len (sub (rows.getD row []) off len)) | false => x
  | .pb a off len, .box cs => match Nat.beq a k with | true => (match pures cs with | some ys => .c (.ptr len (sub ys off len)) | none => .dead) | false => x
  | x, _ => x

def frzK (k : Nat) (s : St) (K : St → Prop) : Prop :=
  match find s.heap k with
  | some (.arr sz rows) => force ⟨s.regs.map (PV.map (frzX k (.arr sz rows))), (del k s.heap).mapX (frzX k (.arr sz rows))⟩ K
  | some (.box cs) => match pures cs with
    | some _ => force ⟨s.regs.map (PV.map (frzX k (.box cs))), (del k s.heap).mapX (frzX k (.box cs))⟩ K
    | none => False
  | none => K s

def keysX : List XV → List Nat
  | [] => []
  | x :: xs => match x.key? with | some k => k :: keysX xs | none => keysX xs
def keysP : PV → List Nat
  | .one x => keysX [x]
  | .agg xs => keysX xs
  | .tup vs => vs.flatMap fun p => keysX p.2
def keysPs : List PV → List Nat
  | [] => []
  | v :: vs => keysP v ++ keysPs vs

def frzKeys : Nat → List Nat → St → (St → Prop) → Prop
  | _, [], s, K => K s
  | 0, _, _, _ => False
  | f + 1, k :: ks, s, K => match find s.heap k with
    | some (.box cs) => frzKeys f (keysX cs) s fun s => frzK k s fun s => frzKeys f ks s K
    | _ => frzK k s fun s => frzKeys f ks s K

/-- The keys of a result, for a caller's register. -/
def shiftX (d : Nat) (x : XV) : XV :=
  match x with
  | .rs a => .rs (d + a)
  | .ru a o l => .ru (d + a) o l
  | .pb a o l => .pb (d + a) o l
  | .pe a r o l => .pe (d + a) r o l
  | x => x

def newsK (d : Nat) : Heap → St → (St → Prop) → Prop
  | [], s, K => K s
  | (k, .arr sz rows) :: h, s, K => match find h k with
    | none => newK (d + k) (.arr sz rows) s fun s => newsK d h s K
    | some _ => False
  | _, _, _ => False

def dstK (o : Oper) (K : Nat → Prop) : Prop := match o.dst with | some d => K (64 * d) | none => False

/-- A call whose result may be the caller's own from now on. -/
def callM (P : Program) (tt : TT) (s : St) (f : PV) (args : List Operand) (ts : List TypeId) (dst : Option Nat) (K : PV → St → Prop) : Prop :=
  match f with
  | .one (.c (.fn g caps)) =>
    argsK s.regs tt args ts fun vs => frzKeys 20 (keysPs vs) s fun s' => argsK s'.regs tt args ts fun vs' => match pureB vs' with
      | some comps => Pick (fun r => Sat P g (comps ++ caps.map fun y => (false, [y])) r) fun r =>
        match r.1.scalar, r.2, dst with
        | true, [], _ => forceP r.1 fun pv => K pv s
        | _, [], _ => forceP r.1 fun pv => K pv s'
        | _, h, some d => newsK (64 * d) h s' fun s'' => forceP (r.1.map (shiftX (64 * d))) fun pv => K pv s''
        | _, _, none => K (.one .dead) s'
      | none => False
  | _ => False

def bytesRows (s : ByteArray) : List (List CV) := s.toList.map fun b => [CV.int .u8 b.toNat]

/-- What is appended: its rows. -/
def rowsOf (h : Heap) (sz : Nat) (v : PV) (K : List (List CV) → Prop) : Prop :=
  match v with
  | .one (.c (.slice sz' es)) => match Nat.beq sz sz' with | true => K es | false => False
  | .one (.nil _) => K []
  | .one (.c (.str s)) => match Nat.beq sz 1 with | true => K (bytesRows s) | false => False
  | .one (.rs k) => match find h k with
    | some (.arr sz' rows) => match Nat.beq sz sz' with | true => K rows | false => False
    | _ => False
  | .one (.ru k off len) => match find h k with
    | some (.arr sz' rows) => match Nat.beq sz sz' with | true => K ((rows.drop off).take len) | false => False
    | _ => False
  | _ => False

def appendM (t t2 : TI) (k2 : Nat) (s : St) (x y : PV) (K : PV → St → Prop) : Prop :=
  match t.slice, (t2.slice.isSome || t2.str) with
  | some (sz, bytes), true => rowsOf s.heap sz y fun es =>
    match x with
    | .one (.nil sz') => match Nat.beq sz sz' with
      | true => Side (es.length * bytes ≤ 2 ^ 46) (newK k2 (.arr sz es) s fun s => K (.one (.rs k2)) s)
      | false => False
    | .one (.rs k) => match find s.heap k with
      | some (.arr sz' rows) => match Nat.beq sz sz' with
        | true => Side ((rows.length + es.length) * bytes ≤ 2 ^ 46) (killK k s fun s => newK k2 (.arr sz (rows ++ es)) s fun s => K (.one (.rs k2)) s)
        | false => False
      | _ => False
    | _ => False
  | _, _ => False

def noKey (k : Nat) : List XV → Bool
  | [] => true
  | x :: xs => match x.key? with | some k' => (match Nat.beq k' k with | true => false | false => noKey k xs) | none => noKey k xs

def boxM (k : Nat) (xs : List XV) (s : St) (K : PV → St → Prop) : Prop :=
  match allLive xs, noKey k xs with
  | true, true => newK k (.box xs) s fun s => K (.one (.pb k 0 xs.length)) s
  | _, _ => False

def setOb (h : Heap) (k : Nat) (o : Ob) : Heap := match h with
  | [] => []
  | (k', o') :: h => match Nat.beq k' k with | true => (k', o) :: h | false => (k', o') :: setOb h k o

def spliceC (row : List CV) (o : Nat) : List CV → List CV
  | [] => row
  | y :: ys => spliceC (row.set o y) (o + 1) ys

def storeM (tt : TT) (t : TypeId) (a : Operand) (x : Operand) (s : St) (K : St → Prop) : Prop :=
  match (tt t).size with
  | 0 => False
  | m + 1 => opd s.regs a (tt 0) fun p => opd s.regs x (tt t) fun v => match p with
    | .one (.pb k o n) => match v.cellsX, find s.heap k, Nat.beq n (m + 1) with
      | some xs, some (.box cs), true => match lenIs xs n, allLive xs with
        | true, true => forceXs (fillX cs o xs) fun cs' => forceH (setOb s.heap k (.box cs')) fun h => match xs, s with
            | [.rs k2], ⟨r, _⟩ => renK k2 (k + 32 + o) ⟨r, h⟩ K
            | _, ⟨r, _⟩ => K ⟨r, h⟩
        | _, _ => False
      | _, _, _ => False
    | .one (.pe _ _ _ _) => frzKeys 20 (keysP v) s fun s => opd s.regs a (tt 0) fun p => opd s.regs x (tt t) fun v => match p with
      | .one (.pe k r o n) => match v.cellsX.bind pures, find s.heap k, Nat.beq n (m + 1) with
        | some ys, some (.arr sz rows), true => match lenIs ys n with
          | true => match Nat.beq n sz with
            | true => match s with | ⟨g, h⟩ => forceH (setOb h k (.arr sz (rows.set r ys))) fun h => K ⟨g, h⟩
            | false => Pick (fun row => rows[r]? = some row) fun row => match s with | ⟨g, h⟩ => forceH (setOb h k (.arr sz (rows.set r (spliceC row o ys)))) fun h => K ⟨g, h⟩
          | false => False
        | _, _, _ => False
      | _ => False
    | _ => False

def listRows (sz : Nat) : Nat → List (Nat × PV) → Option (List (List CV))
  | _, [] => some []
  | i, (j, v) :: ps => match Nat.beq i j, v.cellsX.bind pures, listRows sz (i + 1) ps with
    | true, some ys, some rows => match lenIs ys sz with | true => some (ys :: rows) | false => none
    | _, _, _ => none

/-- THE OPERATIONS OF A REGION WHOSE ORDER IS FIXED. -/
def opM (P : Program) (tt : TT) (s : St) (o : Oper) (K : PV → St → Prop) : Prop :=
  match o.op with
  | .assign x => opd s.regs x (tt o.type) fun v => match v with
    | .one (.nil sz) => dstK o fun k => newK k (.arr sz []) s fun s => K (.one (.rs k)) s
    | .one (.rs k) => dstK o fun k2 => renK k k2 s fun s => K (.one (.rs k2)) s
    | v => K v s
  | .alloc t => dstK o fun k => match (tt t).zero with | [] => False | z :: zs => boxM k (z :: zs) s K
  | .box t x => dstK o fun k => opd s.regs x (tt t) fun v => match v.cellsX with | some xs => boxM k xs s K | none => False
  | .buildSlice t len ps => match (tt t).slice, Nat.beq len ps.toList.length, Nat.ble (len * ((tt t).slice.getD (0, 0)).1) 16777216 with
    | some (sz, _), true, true => partsK s.regs tt (fun _ => (tt t).elem) ps.toList fun vs => frzKeys 40 (keysPs (vs.map (·.2))) s fun s => partsK s.regs tt (fun _ => (tt t).elem) ps.toList fun vs =>
      match listRows sz 0 vs with
      | some rows => dstK o fun k => newK k (.arr sz rows) s fun s => K (.one (.rs k)) s
      | none => False
    | _, _, _ => False
  | .makeSlice t l c => opd s.regs l (tt 0) fun l => opd s.regs c (tt 0) fun c => intIx l fun l => intIx c fun c => match (tt t).slice with
    | some (sz, bytes) => match (tt t).ez with | [] => False | _ :: _ => Side (0 ≤ l ∧ l ≤ c ∧ c * bytes ≤ 2 ^ 46) (dstK o fun k => newK k (.arr sz (List.replicate l.toNat (tt t).ez)) s fun s => K (.one (.rs k)) s)
    | none => False
  | .store t a x => storeM tt t a x s (K (.one .undef))
  | .convert src dst x => opd s.regs x (tt src) fun v => match (tt src).str, (tt dst).u8, (tt dst).str, (tt src).u8, v with
    | true, true, _, _, .one (.c (.str b)) => Side (b.size ≤ 2 ^ 46) (dstK o fun k => newK k (.arr 1 (bytesRows b)) s fun s => K (.one (.rs k)) s)
    | true, _, true, _, .one (.c (.str b)) => K (.one (.c (.str b))) s
    | _, _, true, true, .one (.c (.str _)) => False
    | _, _, true, true, v => rowsOf s.heap 1 v fun rows => Pick (fun b => bytesRows b = rows) fun b => K (.one (.c (.str b))) s
    | _, _, _, _, _ => opQ P tt s o fun v => K v s
  | .makeFunc (.func f) first captured => match first.toList with
    | [] => argsK s.regs tt captured.toList [] fun vs => frzKeys 40 (keysPs vs) s fun s => opQ P tt s o fun v => K v s
    | _ => False
  | .call c => match c.callee, c.args.toList with
    | .builtin .append, [x, y] => match c.argTypes.toList with
      | [t, t2] => dstK o fun k => opd s.regs x (tt t) fun v => opd s.regs y (tt t2) fun u => appendM (tt t) (tt t2) k s v u K
      | _ => False
    | .value f, args => opd s.regs f (tt 0) fun g => callM P tt s g args c.argTypes.toList o.dst K
    | _, _ => opQ P tt s o fun v => K v s
  | _ => opQ P tt s o fun v => K v s

def putK (d : Option Nat) (v : PV) (s : St) (K : St → Prop) : Prop :=
  match d, s with
  | some d, ⟨r, h⟩ => setK r d v fun r => K ⟨r, h⟩
  | none, s => K s

/-- Is the operation wanted? -/
def guardK (all : List Oper) (o : Oper) (s : St) (K : Bool → Prop) : Prop :=
  match o.guard with
  | none => K true
  | some (j, want) => match (all[j]?).bind (·.dst) with
    | some d => look s.regs d fun v => match v with
      | .one (.c (.bool b)) => K (b == want)
      | .one .undef => K false
      | _ => False
    | none => False

def isGuard (i : Nat) : List Oper → Bool
  | [] => false
  | o :: os => match o.guard with
    | some (j, _) => match Nat.beq i j with | true => true | false => isGuard i os
    | none => isGuard i os

def splitK (sp : Bool) (v : PV) (K : PV → Prop) : Prop :=
  match sp, v with
  | true, .one (.c (.bool b)) => Br b (K (.one (.c (.bool true)))) (K (.one (.c (.bool false))))
  | _, v => K v

def regN (P : Program) (tt : TT) (all : List Oper) : Nat → List Oper → St → (St → Prop) → Prop
  | _, [], s, K => K s
  | i, o :: r, s, K => guardK all o s fun run => match run with
    | true => opM P tt s o fun v s => splitK (isGuard i r) v fun v => putK o.dst v s fun s => regN P tt all (i + 1) r s K
    | false => putK o.dst (.one .undef) s fun s => regN P tt all (i + 1) r s K

def regQ (P : Program) (tt : TT) (all : List Oper) : Nat → List Oper → St → (St → Prop) → Prop
  | _, [], s, K => K s
  | i, o :: r, s, K => guardK all o s fun run => match run with
    | true => opQ P tt s o fun v => splitK (isGuard i r) v fun v => putK o.dst v s fun s => regQ P tt all (i + 1) r s K
    | false => putK o.dst (.one .undef) s fun s => regQ P tt all (i + 1) r s K

inductive Ex where
  | normal
  | exit (id : Nat)
  | ret

/-- Only these registers are kept, and the objects that they lead to. -/
def cleanR (live : List Nat) : Nat → List PV → List PV
  | _, [] => []
  | i, v :: vs => (match live.contains i with | true => v | false => .one .dead) :: cleanR live (i + 1) vs
def heapKeys : Heap → List Nat → List Nat
  | [], ks => ks
  | (k, .box cs) :: h, ks => match ks.contains k with | true => heapKeys h (ks ++ keysX cs) | false => heapKeys h ks
  | _ :: h, ks => heapKeys h ks
def keepH (ks : List Nat) : Heap → Heap
  | [] => []
  | (k, o) :: h => match ks.contains k with | true => (k, o) :: keepH ks h | false => keepH ks h
def keepX (ks : List Nat) (x : XV) : XV :=
  match x.key? with
  | some k => match ks.contains k with | true => x | false => .dead
  | none => x
def cleanK (live : List Nat) (s : St) (K : St → Prop) : Prop :=
  match s with
  | ⟨r, h⟩ => forceR (cleanR live 0 r) fun r => match heapKeys h (heapKeys h (keysPs r)) with
    | ks => force ⟨r.map (PV.map (keepX ks)), (keepH ks h).mapX (keepX ks)⟩ K

/-- A loop: one round more, or out of it. -/
inductive LoopL (B : St → (Ex → St → Prop) → Prop) (live : List Nat) (Q : Ex → St → Prop) : St → Prop
  | mk (s : St) (K : Ex → St → Prop) (hB : B s K) (hN : ∀ s' s'', K .normal s' → (∀ R : St → Prop, cleanK live s' R → R s'') → LoopL B live Q s'') (hE : ∀ e s', e ≠ .normal → K e s' → Q e s') : LoopL B live Q s

/-- The first n operations may be taken in their own order (whatever does not wait for one of them has nothing to do with it); behind them each waits for all before it. -/
def waitsFor (o : Oper) (j : Nat) : Bool := o.after.any fun e => Region.binds .any e && e.on == j
def drawB (ops : Array Oper) (n : Nat) : Bool :=
  Region.noSelect ops && (List.range ops.size).all fun k => match ops[k]? with
    | none => true
    | some o => o.after.all (fun e => !Region.binds .any e || decide (e.on < k)) &&
      (if k < n then (List.range ops.size).all fun j => decide (j ≤ k) || match ops[j]? with
        | none => true
        | some oj => waitsFor oj k || o.apart ops oj
      else (List.range k).all fun j => waitsFor o j)

def pwp (P : Program) (tt : TT) : Code → St → (Ex → St → Prop) → Prop
  | .skip, s, Q => Q .normal s
  | .region _ ops false, s, Q => regN P tt ops.toList 0 ops.toList s (Q .normal)
  | .region _ ops true, s, Q => Pick (fun n => drawB ops n = true) fun n => regQ P tt ops.toList 0 (ops.toList.take n) s fun s => regN P tt ops.toList n (ops.toList.drop n) s (Q .normal)
  | .seq a b, s, Q => pwp P tt a s fun e s' => match e with
    | .normal => pwp P tt b s' Q
    | e => Q e s'
  | .cond c a b, s, Q => opd s.regs c (tt 0) fun v => match v with
    | .one (.c (.bool t)) => Br t (pwp P tt a s Q) (pwp P tt b s Q)
    | _ => False
  | .block id c, s, Q => pwp P tt c s fun e s' => match e with
    | .exit i => (match Nat.beq i id with | true => Q .normal s' | false => Q (.exit i) s')
    | e => Q e s'
  | .loop c, s, Q => Pick (fun _ : List Nat => True) fun live => cleanK live s fun s' => LoopL (pwp P tt c) live Q s'
  | .exit id, s, Q => Q (.exit id) s
  | .label _, s, Q => Q .normal s
  | .ret, s, Q => Q .ret s
  | _, _, _ => False

/-! ### the begin and the end of a call -/
def argP : Comp → PV
  | (false, [y]) => .one (.c y)
  | (_, ys) => .agg (ys.map .c)
def initK (args : List Comp) (n : Nat) (K : St → Prop) : Prop := force ⟨args.map argP ++ List.replicate (n - args.length) (.one .undef), []⟩ K

def compK (v : PV) (K : Bool × List XV → Prop) : Prop :=
  match v with
  | .one x => K (false, [x])
  | .agg xs => K (true, xs)
  | .tup _ => False
def resVal (tt : TT) (s : St) (rv : ResultVar) (K : Bool × List XV → Prop) : Prop :=
  match rv with
  | .tmp t => look s.regs t fun v => compK v K
  | .cell a t => look s.regs a fun v => loadK s.heap (tt t) v fun v => compK v K
def resVals (tt : TT) (s : St) : List ResultVar → (List (Bool × List XV) → Prop) → Prop
  | [], K => K []
  | v :: vs, K => resVal tt s v fun p => resVals tt s vs fun ps => K (p :: ps)
def resPV : List (Bool × List XV) → PV
  | [(false, [x])] => .one x
  | [(true, xs)] => .agg xs
  | ps => .tup ps

def dedup : List Nat → List Nat
  | [] => []
  | k :: ks => match (dedup ks).contains k with | true => dedup ks | false => k :: dedup ks
def idx (k : Nat) : List Nat → Nat → Option Nat
  | [], _ => none
  | j :: js, i => match Nat.beq j k with | true => some i | false => idx k js (i + 1)
def canonX (ks : List Nat) (x : XV) : XV :=
  match x with
  | .rs k => match idx k ks 0 with | some i => .rs i | none => .dead
  | .ru k o l => match idx k ks 0 with | some i => .ru i o l | none => .dead
  | .pb _ _ _ => .dead
  | .pe k r o l => match idx k ks 0 with | some i => .pe i r o l | none => .dead
  | x => x
def canonH (h : Heap) : List Nat → Nat → Option Heap
  | [], _ => some []
  | k :: ks, i => match find h k, canonH h ks (i + 1) with
    | some (.arr sz rows), some r => some ((i, .arr sz rows) :: r)
    | _, _ => none

/-- What the call hands back is 'r' (or reads as 'r', once it is frozen). -/
inductive ResOK (r' r : Res) : Prop
  | same (h : r' = r)
  | frz (h : frzP r' = some r.1) (h2 : r.2 = [])

def retK (tt : TT) (fn : Func) (r : Res) (e : Ex) (s : St) : Prop :=
  match e with
  | .exit _ => False
  | _ => resVals tt s fn.results.toList fun ps => match resPV ps with
    | pv => match dedup (keysP pv) with
      | ks => match canonH s.heap ks 0 with
        | some h => forceP (pv.map (canonX ks)) fun pv => ResOK (pv, h) r
        | none => False

end Go.Proofs.Ytjbccgpobakjfaa.Pi
