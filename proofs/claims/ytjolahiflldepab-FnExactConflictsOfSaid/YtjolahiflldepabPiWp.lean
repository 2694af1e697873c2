/- The predicate transformer 'pwp': what has to hold of an abstract state so that the code comes to its end as wanted. No statement of the seat is proved here. -/
import Derived.Test.YtjolahiflldepabPiRep
import Derived.Still
namespace Go.Proofs.Ytjolahiflldepab.Pi
open Go
set_option linter.unusedVariables false

def argsK (regs : List PV) (tt : TT) : List Operand → List TypeId → (List PV → Prop) → Prop
  | [], _, K => K []
  | x :: xs, ts, K => opd regs x (tt (ts.headD 0)) fun v => argsK regs tt xs ts.tail fun vs => K (v :: vs)

/-- The pure content that a cell reads as, own objects and all. -/
def snapX (h : Heap) : Nat → XV → Option CV
  | _, .c y => some y
  | _, .nil sz => some (.slice sz [])
  | _, .rs k => match find h k with | some (.arr sz rows) => some (.slice sz rows) | _ => none
  | _, .ru k off len => match find h k with | some (.arr sz rows) => some (.slice sz ((rows.drop off).take len)) | _ => none
  | _, .ds k => match find h k with | some (.deep _ sz rows) => some (.slice sz rows) | _ => none
  | f + 1, .fb g pre k n post => match find h k with
    | some (.box cs) => match snapXs (snapX h f) cs with | some ys => some (.fn g (pre ++ .ptr n ys :: post)) | none => none
    | _ => none
  | f + 1, .pb k off len => match find h k with
    | some (.box cs) => match snapXs (snapX h f) cs with | some ys => some (.ptr len (sub ys off len)) | none => none
    | _ => none
  | _, _ => none
where snapXs (g : XV → Option CV) : List XV → Option (List CV)
  | [] => some []
  | x :: xs => match g x, snapXs g xs with | some y, some ys => some (y :: ys) | _, _ => none

def snapB (h : Heap) : List PV → Option (List Comp)
  | [] => some []
  | v :: vs => match (match v with
      | .one x => (snapX h 3 x).map fun y => (false, [y])
      | .agg xs => (snapX.snapXs (snapX h 3) xs).map fun ys => (true, ys)
      | .tup _ => none), snapB h vs with
    | some y, some ys => some (y :: ys)
    | _, _ => none

def noKeyX : List XV → Bool
  | [] => true
  | x :: xs => match x.key? with | some _ => false | none => noKeyX xs
def noKeyP : PV → Bool
  | .one x => noKeyX [x]
  | .agg xs => noKeyX xs
  | .tup vs => vs.all fun p => noKeyX p.2
def noKeys : List PV → Bool
  | [] => true
  | v :: vs => match noKeyP v with | true => noKeys vs | false => false
def PV.scalar : PV → Bool
  | .one x => x.scalar
  | .agg xs => xs.all XV.scalar
  | .tup vs => vs.all fun p => p.2.all XV.scalar

/-- A result, all of it pure. -/
def frzXs (h : Heap) : List XV → Option (List XV)
  | [] => some []
  | x :: xs => match snapX h 3 x, frzXs h xs with | some y, some ys => some (.c y :: ys) | _, _ => none
def frzT (h : Heap) : List (Bool × List XV) → Option (List (Bool × List XV))
  | [] => some []
  | (b, x) :: xs => match frzXs h x, frzT h xs with | some y, some ys => some ((b, y) :: ys) | _, _ => none
def frzP (r : Res) : Option PV :=
  match r with
  | (.one x, h) => match snapX h 3 x with | some y => some (.one (.c y)) | none => none
  | (.agg xs, h) => match frzXs h xs with | some ys => some (.agg ys) | none => none
  | (.tup vs, h) => match frzT h vs with | some ys => some (.tup ys) | none => none

def convertQ (h : Heap) (src dst : TI) (ik : Option IntKind) (v : PV) (K : PV → Prop) : Prop :=
  match ik, v, src.size with
  | some k, .one (.c (.int _ n)), _ + 1 => Pick (fun z => k.wrap n = z) fun z => K (.one (.c (.int k z)))
  | _, _, _ => False

def extractK (v : PV) (i : Nat) (K : PV → Prop) : Prop :=
  match v with
  | .tup vs => match vs[i]? with | some (b, xs) => oneOr b xs K | none => False
  | _ => False

def fieldK (t : TI) (v : PV) (f : Nat) (K : PV → Prop) : Prop :=
  match t.fields[f]?, v with
  | some (off, n, agg), .agg xs => subK xs off n fun ys => oneOr agg ys K
  | _, _ => False

def indexQ (v i : PV) (K : PV → Prop) : Prop :=
  match v, i with
  | .one (.c (.str s)), .one (.c (.int _ n)) => Pick (fun b => 0 ≤ n ∧ s[n.toNat]? = some b) fun b => K (.one (.c (.int .u8 b.toNat)))
  | _, _ => False

def optInt (regs : List PV) (tt : TT) (x : Option Operand) (K : Option Int → Prop) : Prop :=
  match x with
  | none => K none
  | some x => opd regs x (tt 0) fun v => intIx v fun n => K (some n)

def allLive (xs : List XV) : Bool := match xs with | [] => true | x :: xs => match x.live with | true => allLive xs | false => false

def buildK (t : TI) : List (Nat × PV) → List XV → (PV → Prop) → Prop
  | [], cells, K => forceXs cells fun xs => K (.agg xs)
  | (f, v) :: ps, cells, K => match t.fields[f]?, v.cellsX with
    | some (off, n, _), some xs => match lenIs xs n, Nat.ble (off + n) cells.length, allLive xs with
      | true, true, true => buildK t ps (fillX cells off xs) K
      | _, _, _ => False
    | _, _ => False

def partsK (regs : List PV) (tt : TT) (ft : Nat → Nat) : List (Nat × Operand) → (List (Nat × PV) → Prop) → Prop
  | [], K => K []
  | (i, x) :: xs, K => opd regs x (tt (ft i)) fun v => partsK regs tt ft xs fun vs => K ((i, v) :: vs)

/-! ### own results, own arguments -/
/-- All that is handed back is own, and reads no memory but its own. -/
def ownX : List XV → Bool
  | [] => true
  | .c c :: xs => match c.scalar with | true => ownX xs | false => false
  | .ds _ :: xs => ownX xs
  | _ => false
def ownP : PV → Bool
  | .one x => ownX [x]
  | .agg xs => ownX xs
  | .tup vs => vs.all fun p => ownX p.2
def ownH : Heap → Bool
  | [] => true
  | (_, .deep _ _ _) :: h => ownH h
  | _ => false
def ownRes (r : Res) : Bool := match ownH r.2 with | true => ownP r.1 | false => false

def sclRows (rows : List (List CV)) : Prop := ∀ r ∈ rows, ∀ c ∈ r, c.scalar = true
/-- A part of one own slice, and what is no slice: the slice's rows. -/
def ruRes (p : PV) (h : Heap) : Option (List (List CV)) := match p, h with
  | .tup ((false, [.ru _ _ _]) :: vs), [(_, .arr _ rows)] => match vs.all fun p => ownX p.2 with | true => some rows | false => none
  | _, _ => none

/-- A call that leaves the abstract state alone. -/
def callQ (P : Program) (h : Heap) (f : PV) (vs : List PV) (K : PV → Prop) : Prop :=
  match f, snapB h vs with
  | .one (.c (.fn g caps)), some comps => Pick (fun r => Sat P g (comps ++ caps.map fun y => (false, [y])) r) fun r =>
      match noKeys vs with
      | true => match frzP r with | some pv => forceP pv K | none => False
      | false => match r.1.scalar with
        | true => forceP r.1 K
        | false => match ownRes r with
          | true => match frzP r with | some pv => forceP pv K | none => False
          | false => False
  | _, _ => False

def listRows (sz : Nat) : Nat → List (Nat × PV) → Option (List (List CV))
  | _, [] => some []
  | i, (j, v) :: ps => match Nat.beq i j, v.cellsX.bind pures, listRows sz (i + 1) ps with
    | true, some ys, some rows => match lenIs ys sz with | true => some (ys :: rows) | false => none
    | _, _, _ => none

/-- THE OPERATIONS THAT LEAVE THE ABSTRACT STATE ALONE, but for their own register. -/
def opQ (P : Program) (tt : TT) (s : St) (o : Oper) (K : PV → Prop) : Prop :=
  match o.op with
  | .move x | .assign x => opd s.regs x (tt o.type) K
  | .pick c a b => opd s.regs c (tt 0) fun v => match v with
    | .one (.c (.bool true)) => opd s.regs a (tt o.type) K
    | .one (.c (.bool false)) => opd s.regs b (tt o.type) K
    | _ => False
  | .load t a => opd s.regs a (tt 0) fun v => loadK s.heap (tt t) v K
  | .nilCheck x => opd s.regs x (tt 0) fun v => match v with
    | .one (.c (.ptr a b)) => K (.one (.c (.ptr a b)))
    | .one (.pb a b c) => K (.one (.pb a b c))
    | .one (.pe a b c d) => K (.one (.pe a b c d))
    | .one (.dp a b c d) => K (.one (.dp a b c d))
    | _ => False
  | .binOp op t x y _ => opd s.regs x (tt t) fun a => opd s.regs y (tt t) fun b => binK op (tt t) (match y with | .const _ => true | _ => false) a b K
  | .unOp op _ x => opd s.regs x (tt 0) fun v => unK op v K
  | .convert src dst x => opd s.regs x (tt src) fun v => convertQ s.heap (tt src) (tt dst) (tt dst).ik v K
  | .slice t x lo hi none => opd s.regs x (tt t) fun v => optInt s.regs tt lo fun l => optInt s.regs tt hi fun h => sliceK s.heap (tt t) v l h K
  | .fieldAddr t x f => opd s.regs x (tt 0) fun v => fieldAddrK (tt t) v f K
  | .field t x f => opd s.regs x (tt t) fun v => fieldK (tt t) v f K
  | .indexAddr t x i => opd s.regs x (tt t) fun v => opd s.regs i (tt 0) fun j => indexAddrK s.heap (tt t) v j K
  | .index t x i => opd s.regs x (tt t) fun v => opd s.regs i (tt 0) fun j => match (tt t).str with | true => indexQ v j K | false => False
  | .extract x i => opd s.regs x (tt 0) fun v => extractK v i K
  | .build t ps => match (tt t).fields, (tt t).zero with
    | [], _ => False
    | _, [] => False
    | _ :: _, _ :: _ => partsK s.regs tt (fun i => ((tt t).ftypes[i]?).getD 0) ps.toList fun vs => buildK (tt t) vs (tt t).zero K
  | .buildSlice t len ps => match (tt t).slice, Nat.beq len ps.toList.length, Nat.ble (len * ((tt t).slice.getD (0, 0)).1) 16777216 with
    | some (sz, _), true, true => partsK s.regs tt (fun _ => (tt t).elem) ps.toList fun vs => match listRows sz 0 vs with
      | some rows => K (.one (.c (.slice sz rows)))
      | none => False
    | _, _, _ => False
  | .makeSlice t l c => opd s.regs l (tt 0) fun l => opd s.regs c (tt 0) fun c => intIx l fun l => intIx c fun c => match (tt t).slice with
    | some (sz, bytes) => match (tt t).ez with | [] => False | _ :: _ => Side (0 ≤ l ∧ l ≤ c ∧ c * bytes ≤ 2 ^ 46) (K (.one (.c (.slice sz (List.replicate l.toNat (tt t).ez)))))
    | none => False
  | .makeFunc (.func f) first captured => match first.toList with
    | [] => argsK s.regs tt captured.toList [] fun vs => match pureB vs with
      | some comps => match comps.all (fun p => !p.1) with
        | true => K (.one (.c (.fn f (comps.flatMap (·.2)))))
        | false => False
      | none => False
    | _ => False
  | .call c => match c.callee, c.args.toList with
    | .builtin .len, [x] => match c.argTypes.toList with
      | t :: _ => opd s.regs x (tt t) fun v => lenK s.heap (tt t) v K
      | [] => False
    | .builtin .max, [x, y] => opd s.regs x (tt 0) fun v => opd s.regs y (tt 0) fun u => maxK v u K
    | .value f, args => opd s.regs f (tt 0) fun g => argsK s.regs tt args c.argTypes.toList fun vs => callQ P s.heap g vs K
    | _, _ => False
  | _ => False

/-! ### what changes the abstract state -/
def killK (k : Nat) (s : St) (K : St → Prop) : Prop :=
  match find s.heap k with
  | none => K s
  | some _ => force ⟨s.regs.map (PV.map (XV.kill k)), (del k s.heap).mapX (XV.kill k)⟩ K

/-- A new object under a key (what lay under it goes). -/
def newK (k : Nat) (o : Ob) (s : St) (K : St → Prop) : Prop := match pinK k with
  | true => False
  | false => killK k s fun s => match s with | ⟨r, h⟩ => forceH (ins k o h) fun h => K ⟨r, h⟩

/-- An object is known under another key. -/
def renK (k k2 : Nat) (s : St) (K : St → Prop) : Prop :=
  match Nat.beq k k2 with
  | true => K s
  | false => match pinK k2 with
   | true => False
   | false => killK k2 s fun s => match find s.heap k with
    | some o => force ⟨s.regs.map (PV.map (XV.rename k k2)), (ins k2 o (del k s.heap)).mapX (XV.rename k k2)⟩ K
    | none => False

def frzX (k : Nat) (o : Ob) (x : XV) : XV :=
  match x, o with
  | .rs a, .arr sz rows => match Nat.beq a k with | true => .c (.slice sz rows) | false => x
  | .ru a off len, .arr sz rows => match Nat.beq a k with | true => .c (.slice sz ((rows.drop off).take len)) | false => x
  | .pe a row off len, .arr _ rows => match Nat.beq a k with | true => .c (.ptr len (sub (rows.getD row []) off len)) | false => x
  | .pb a off len, .box cs => match Nat.beq a k with | true => (match pures cs with | some ys => .c (.ptr len (sub ys off len)) | none => .dead) | false => x
  | .ds a, .deep _ sz rows => match Nat.beq a k with | true => .c (.slice sz rows) | false => x
  | .dp a row off len, .deep _ _ rows => match Nat.beq a k with | true => .c (.ptr len (sub (rows.getD row []) off len)) | false => x
  | .dn a _ _, _ => match Nat.beq a k with | true => .dead | false => x
  | .fb g pre a n post, .box cs => match Nat.beq a k with | true => (match pures cs with | some ys => .c (.fn g (pre ++ .ptr n ys :: post)) | none => .dead) | false => x
  | x, _ => x

def frzK (k : Nat) (s : St) (K : St → Prop) : Prop :=
  match find s.heap k with
  | some (.arr sz rows) => force ⟨s.regs.map (PV.map (frzX k (.arr sz rows))), (del k s.heap).mapX (frzX k (.arr sz rows))⟩ K
  | some (.deep a sz rows) => force ⟨s.regs.map (PV.map (frzX k (.deep a sz rows))), (del k s.heap).mapX (frzX k (.deep a sz rows))⟩ K
  | some (.box cs) => match pures cs with
    | some _ => force ⟨s.regs.map (PV.map (frzX k (.box cs))), (del k s.heap).mapX (frzX k (.box cs))⟩ K
    | none => False
  | none => K s

def keysX : List XV → List Nat
  | [] => []
  | x :: xs => match x.key? with | some k => k :: keysX xs | none => keysX xs
def keysP : PV → List Nat
  | .one x => keysX [x]
  | .agg xs => keysX xs
  | .tup vs => vs.flatMap fun p => keysX p.2
def keysPs : List PV → List Nat
  | [] => []
  | v :: vs => keysP v ++ keysPs vs

def frzKeys : Nat → List Nat → St → (St → Prop) → Prop
  | _, [], s, K => K s
  | 0, _, _, _ => False
  | f + 1, k :: ks, s, K => match find s.heap k with
    | some (.box cs) => frzKeys f (keysX cs) s fun s => frzK k s fun s => frzKeys f ks s K
    | _ => frzK k s fun s => frzKeys f ks s K

/-- The keys of a result, for a caller's register. -/
def shiftX (d : Nat) (x : XV) : XV :=
  match x with
  | .rs a => .rs (d + a)
  | .ru a o l => .ru (d + a) o l
  | .pb a o l => .pb (d + a) o l
  | .pe a r o l => .pe (d + a) r o l
  | .ds a => .ds (d + a)
  | .dp _ _ _ _ => .dead
  | .dn _ _ _ => .dead
  | .fb _ _ _ _ _ => .dead
  | x => x

def newsK (d : Nat) : Heap → St → (St → Prop) → Prop
  | [], s, K => K s
  | (k, .arr sz rows) :: h, s, K => match find h k with
    | none => newK (d + k) (.arr sz rows) s fun s => newsK d h s K
    | some _ => False
  | (k, .deep a sz rows) :: h, s, K => match find h k with
    | none => newK (d + k) (.deep a sz rows) s fun s => newsK d h s K
    | some _ => False
  | _, _, _ => False

/-! ### own arguments -/
def hasDs : List XV → Bool
  | [] => false
  | .ds _ :: _ => true
  | .dn _ _ _ :: _ => true
  | _ :: xs => hasDs xs
def hasDsP : List PV → Bool
  | [] => false
  | .one x :: vs => match hasDs [x] with | true => true | false => hasDsP vs
  | .agg xs :: vs => match hasDs xs with | true => true | false => hasDsP vs
  | .tup _ :: vs => hasDsP vs

def dedup : List Nat → List Nat
  | [] => []
  | k :: ks => match ks.contains k with | true => dedup ks | false => k :: dedup ks
def idx (k : Nat) : List Nat → Nat → Option Nat
  | [], _ => none
  | j :: js, i => match Nat.beq j k with | true => some i | false => idx k js (i + 1)

/-- References turned into the callee's, where they have such. -/
def trX (g : XV → Option XV) : List XV → Option (List XV)
  | [] => some []
  | x :: xs => match g x, trX g xs with
    | some y, some ys => some (y :: ys)
    | _, _ => none
def trP (g : XV → Option XV) : List PV → Option (List PV)
  | [] => some []
  | v :: vs => match (match v with
      | .one x => match g x with | some y => some (.one y) | none => none
      | .agg xs => match trX g xs with | some ys => some (PV.agg ys) | none => none
      | .tup _ => none), trP g vs with
    | some y, some ys => some (y :: ys)
    | _, _ => none
/-- Whole own deep slices, the rest scalar or pure. -/
def gIn (ks : List Nat) (x : XV) : Option XV :=
  match x with
  | .c c => some (.c c)
  | .nil sz => some (.c (.slice sz []))
  | .ds k => match idx k ks 0 with | some i => some (XV.ds (1000000 + i)) | none => none
  | _ => none
def inH (h : Heap) : List Nat → Nat → Option Heap
  | [], _ => some []
  | k :: ks, i => match find h k, inH h ks (i + 1) with
    | some (.deep a sz rows), some r => some ((1000000 + i, .deep a sz rows) :: r)
    | _, _ => none

def setOb (h : Heap) (k : Nat) (o : Ob) : Heap := match h with
  | [] => []
  | (k', o') :: h => match Nat.beq k' k with | true => (k', o) :: h | false => (k', o') :: setOb h k o

/-- References to nested slices go. -/
def unDn (k : Nat) (x : XV) : XV :=
  match x with
  | .dn a _ _ => match Nat.beq a k with | true => .dead | false => x
  | x => x

/-- An own object is changed in place. -/
def setK' (k : Nat) (o : Ob) (s : St) (K : St → Prop) : Prop :=
  force ⟨s.regs.map (PV.map (unDn k)), (setOb s.heap k o).mapX (unDn k)⟩ K

/-- What a call has made of its own arguments. -/
def backK (out : Heap) : List Nat → Nat → St → (St → Prop) → Prop
  | [], _, s, K => K s
  | k :: ks, i, s, K => match find out (1000000 + i), find s.heap k with
    | some (.deep _ sz' rows'), some (.deep a sz rows) => match Nat.beq sz sz' with
      | true => Side (rows'.length = rows.length) (setK' k (.deep a sz rows') s fun s => backK out ks (i + 1) s K)
      | false => False
    | _, _ => False

/-- The one nested slice among the arguments. -/
def oneDn : List XV → Option (Nat × Nat × Nat)
  | [] => none
  | .dn k r j :: _ => some (k, r, j)
  | _ :: xs => oneDn xs
def oneDnP : List PV → Option (Nat × Nat × Nat)
  | [] => none
  | v :: vs => match (match v with | .one x => oneDn [x] | .agg xs => oneDn xs | .tup _ => none) with
    | some p => some p
    | none => oneDnP vs
/-- One nested slice, the rest scalar or pure. -/
def gNest (x : XV) : Option XV :=
  match x with
  | .c c => some (XV.c c)
  | .nil sz => some (.c (.slice sz []))
  | .dn _ _ _ => some (.ds 1000000)
  | _ => none
def fixDn (k r j : Nat) (x : XV) : XV := match x with | .dn _ _ _ => .dn k r j | x => x

/-- A call that changes own arguments in place. -/
def callD (P : Program) (g : Nat) (caps : List CV) (vs : List PV) (s : St) (K : PV → St → Prop) : Prop :=
  match oneDnP vs with
  | none => match dedup (keysPs vs) with
    | ks => match trP (gIn ks) vs, inH s.heap ks 0, Nat.ble ks.length 32 with
      | some as, some h, true => Pick (fun r => SatM P g (as ++ caps.map fun y => .one (.c y)) h r) fun r => match r.1.scalar with
        | true => backK r.2 ks 0 s fun s => forceP r.1 fun pv => K pv s
        | false => False
      | _, _, _ => False
  | some (k, r, j) => Side (vs.map (PV.map (fixDn k r j)) = vs) (match find s.heap k, trP gNest vs with
    | some (.deep a sz rows), some as => Pick (fun p : List CV × Nat × List (List CV) => rows[r]? = some p.1 ∧ p.1[j]? = some (.slice p.2.1 p.2.2)) fun p =>
      Pick (fun q : Res => SatM P g (as ++ caps.map fun y => .one (.c y)) [(1000000, .deep false p.2.1 p.2.2)] q) fun q => match q.1.scalar, find q.2 1000000 with
        | true, some (.deep _ sz' es') => match Nat.beq p.2.1 sz' with
          | true => Side (es'.length = p.2.2.length) (setK' k (.deep a sz (rows.set r (p.1.set j (.slice p.2.1 es')))) s fun s => forceP q.1 fun pv => K pv s)
          | false => False
        | _, _ => False
    | _, _ => False)

def dstK (o : Oper) (K : Nat → Prop) : Prop := match o.dst with | some d => K (64 * d) | none => False

/-- A call that reads its arguments; what it hands back may be the caller's own from now on. -/
def callR (P : Program) (tt : TT) (s : St) (g : Nat) (caps : List CV) (args : List Operand) (ts : List TypeId) (dst : Option Nat) (vs : List PV) (K : PV → St → Prop) : Prop :=
  frzKeys 20 (keysPs vs) s fun s' => argsK s'.regs tt args ts fun vs' => match pureB vs' with
      | some comps => Pick (fun r => Sat P g (comps ++ caps.map fun y => (false, [y])) r) fun r =>
        match r.1.scalar, r.2, dst with
        | true, [], _ => forceP r.1 fun pv => K pv s
        | _, [], _ => forceP r.1 fun pv => K pv s'
        | _, h, some d => match ownRes (r.1, h) with
          | true => newsK (64 * d) h s fun s'' => forceP (r.1.map (shiftX (64 * d))) fun pv => K pv s''
          | false => match ruRes r.1 h with
            | some rows => Side (sclRows rows) (newsK (64 * d) h s fun s'' => forceP (r.1.map (shiftX (64 * d))) fun pv => K pv s'')
            | none => newsK (64 * d) h s' fun s'' => forceP (r.1.map (shiftX (64 * d))) fun pv => K pv s''
        | _, _, none => K (.one .dead) s'
      | none => False

/-! ### calls that are given own objects, whatever they are -/
/-- References that go: those to the objects of 'D', and those to nested slices of the objects of 'N'. -/
def wkX (D N : List Nat) (x : XV) : XV :=
  match x.key? with
  | none => x
  | some k => match D.contains k with
    | true => .dead
    | false => match x with
      | .dn a r j => match N.contains a with | true => .dead | false => .dn a r j
      | x => x
def wkH (D N : List Nat) : Heap → Heap
  | [] => []
  | (k, o) :: h => match D.contains k with
    | true => wkH D N h
    | false => (k, o.map (wkX D N)) :: wkH D N h

def rkey : List (Nat × Nat) → Nat → Option Nat
  | [], _ => none
  | (a, b) :: ρ, k => match Nat.beq a k with | true => some b | false => rkey ρ k
/-- The references under other keys. -/
def renX (ρ : List (Nat × Nat)) (x : XV) : XV :=
  match x with
  | .rs k => match rkey ρ k with | some k' => .rs k' | none => .dead
  | .ru k o l => match rkey ρ k with | some k' => .ru k' o l | none => .dead
  | .pb k o l => match rkey ρ k with | some k' => .pb k' o l | none => .dead
  | .pe k r o l => match rkey ρ k with | some k' => .pe k' r o l | none => .dead
  | .ds k => match rkey ρ k with | some k' => .ds k' | none => .dead
  | .dp k r o l => match rkey ρ k with | some k' => .dp k' r o l | none => .dead
  | .dn _ _ _ => .dead
  | .fb f cs k n ds => match rkey ρ k with | some k' => .fb f cs k' n ds | none => .dead
  | x => x
def renH (ρ : List (Nat × Nat)) (h : Heap) : List (Nat × Nat) → Option Heap
  | [] => some []
  | (a, b) :: r => match find h a, renH ρ h r with
    | some o, some hs => some ((b, o.map (renX ρ)) :: hs)
    | _, _ => none
def memB (k : Nat) : List Nat → Bool
  | [] => false
  | j :: js => match Nat.beq j k with | true => true | false => memB k js
def nodupB : List Nat → Bool
  | [] => true
  | k :: ks => match memB k ks with | true => false | false => nodupB ks
def forceN : List (Nat × Nat) → (List (Nat × Nat) → Prop) → Prop
  | [], K => K []
  | (a, b) :: l, K => forceN l fun l => K ((a, b) :: l)
def forceNs : List Nat → (List Nat → Prop) → Prop
  | [], K => K []
  | a :: l, K => forceNat a fun a => forceNs l fun l => K (a :: l)

/-- The objects in the fields of a box go along. -/
def fieldPairs (nb : Nat) : Nat → List XV → List (Nat × Nat)
  | _, [] => []
  | j, x :: xs => match x.key? with
    | some k => (k, nb + 32 + j) :: fieldPairs nb (j + 1) xs
    | none => fieldPairs nb (j + 1) xs
def rhoOf (h : Heap) : List Nat → Nat → List (Nat × Nat)
  | [], _ => []
  | k :: ks, i => (k, 1000000 + 64 * i) :: (match find h k with
    | some (.box cs) => fieldPairs (1000000 + 64 * i) 0 cs ++ rhoOf h ks (i + 1)
    | _ => rhoOf h ks (i + 1))

/-- Where what comes back lies with the caller. -/
def tauK (ks : List Nat) (d : Nat) (k : Nat) : Nat := match Nat.ble 1000000 k with
  | true => ks.getD (Nat.div (k - 1000000) 64) 0 + Nat.mod (k - 1000000) 64
  | false => d + k
def tauOf (ks : List Nat) (d : Nat) : Heap → List (Nat × Nat)
  | [] => []
  | (k, _) :: h => (k, tauK ks d k) :: tauOf ks d h
/-- What was handed in comes back where it was; the rest is new. -/
def tauOk (ρ : List (Nat × Nat)) : List (Nat × Nat) → Bool
  | [] => true
  | (k, k') :: τ => match pinK k with
    | true => match rkey ρ k' with
      | some b => match Nat.beq b k with | true => tauOk ρ τ | false => false
      | none => false
    | false => match pinK k' with | true => false | false => tauOk ρ τ
def keptOf : List (Nat × Nat) → List Nat
  | [] => []
  | (k, k') :: τ => match pinK k with | true => k' :: keptOf τ | false => keptOf τ
def newOf : List (Nat × Nat) → List Nat
  | [] => []
  | (k, k') :: τ => match pinK k with | true => newOf τ | false => k' :: newOf τ
def minus : List Nat → List Nat → List Nat
  | [], _ => []
  | k :: ks, js => match memB k js with | true => minus ks js | false => k :: minus ks js

def sameShapeK (o o' : Ob) (K : Prop) : Prop :=
  match o, o' with
  | .box cs, .box cs' => match Nat.beq cs.length cs'.length with | true => K | false => False
  | .arr sz rows, .arr sz' rows' => match Nat.beq sz sz' with | true => Side (rows'.length = rows.length) K | false => False
  | .deep true sz rows, .deep true sz' rows' => match Nat.beq sz sz' with | true => Side (rows'.length = rows.length) K | false => False
  | .deep false sz rows, .deep false sz' rows' => match Nat.beq sz sz' with | true => Side (rows'.length = rows.length) K | false => False
  | _, _ => False
def mergeK (τ : List (Nat × Nat)) : List (Nat × Nat) → Heap → Heap → (Heap → Prop) → Prop
  | [], _, h, K => K h
  | (k, k') :: r, H3, h, K => match find H3 k with
    | some o => match find h k' with
      | some o0 => sameShapeK o0 o (mergeK τ r H3 (setOb h k' (o.map (renX τ))) K)
      | none => mergeK τ r H3 (ins k' (o.map (renX τ)) h) K
    | none => False

def callX (P : Program) (s : St) (g : Nat) (extra : List PV) (vs : List PV) (dst : Option Nat) (K : PV → St → Prop) : Prop :=
  forceNs (dedup (keysPs (vs ++ extra))) fun ks => forceN (rhoOf s.heap ks 0) fun ρ =>
    match nodupB (ρ.map (·.1)), nodupB (ρ.map (·.2)), renH ρ s.heap ρ with
    | true, true, some H2 => forceH H2 fun H2 => forceR ((vs ++ extra).map (PV.map (renX ρ))) fun as =>
      Pick (fun r : Res => SatM P g as H2 r) fun r => forceH r.2 fun H3 => forceN (tauOf ks (match dst with | some d => 64 * d | none => 0) H3) fun τ =>
        match tauOk ρ τ, nodupB (τ.map (·.1)), nodupB (τ.map (·.2)) with
        | true, true, true => match minus (ρ.map (·.1)) (keptOf τ) ++ newOf τ, ρ.map (·.1) with
          | D, N => force ⟨s.regs.map (PV.map (wkX D N)), wkH D N s.heap⟩ fun s1 => mergeK τ τ H3 s1.heap fun h => forceP (r.1.map (renX τ)) fun pv => force ⟨s1.regs, h⟩ fun s => K pv s
        | _, _, _ => False
    | _, _, _ => False

def noNil : List PV → Bool
  | [] => true
  | .one (.nil _) :: _ => false
  | _ :: vs => noNil vs

/-- A call that may be given its own arguments for good. -/
def callE (P : Program) (tt : TT) (s : St) (g : Nat) (caps : List CV) (args : List Operand) (ts : List TypeId) (dst : Option Nat) (vs : List PV) (K : PV → St → Prop) : Prop :=
  match noKeys vs, noNil vs with
  | true, true => callR P tt s g caps args ts dst vs K
  | _, _ => CallC (callR P tt s g caps args ts dst vs K) (callX P s g (caps.map fun y => .one (.c y)) vs dst K)

/-- What is nested in an own deep slice is frozen; its rows stay own. -/
def flatX (k : Nat) (x : XV) : XV :=
  match x with
  | .ds a => match Nat.beq a k with | true => .rs k | false => x
  | .dp a r o l => match Nat.beq a k with | true => .pe k r o l | false => x
  | .dn a _ _ => match Nat.beq a k with | true => .dead | false => x
  | x => x
def flatK (k : Nat) (s : St) (K : St → Prop) : Prop :=
  match find s.heap k with
  | some (.deep true sz rows) => force ⟨s.regs.map (PV.map (flatX k)), (setOb s.heap k (.arr sz rows)).mapX (flatX k)⟩ K
  | _ => K s
def flatKeys : List Nat → St → (St → Prop) → Prop
  | [], s, K => K s
  | k :: ks, s, K => flatK k s fun s => flatKeys ks s K
def dsKeys : List PV → List Nat
  | [] => []
  | .one (.ds k) :: vs => k :: dsKeys vs
  | _ :: vs => dsKeys vs

/-- A call. -/
def callM (P : Program) (tt : TT) (s : St) (f : PV) (args : List Operand) (ts : List TypeId) (dst : Option Nat) (K : PV → St → Prop) : Prop :=
  match f with
  | .one (.c (.fn g caps)) =>
    argsK s.regs tt args ts fun vs => match hasDsP vs with
     | true => Pick (fun _ : Option Bool => True) fun m => match m with
      | some true => callD P g caps vs s K
      | some false => callE P tt s g caps args ts dst vs K
      | none => flatKeys (dsKeys vs) s fun s => argsK s.regs tt args ts fun vs => callE P tt s g caps args ts dst vs K
     | false => callE P tt s g caps args ts dst vs K
  | .one (.fb g pre k n post) =>
    argsK s.regs tt args ts fun vs => callX P s g (pre.map (fun y => .one (.c y)) ++ .one (.pb k 0 n) :: post.map fun y => .one (.c y)) vs dst K
  | _ => False

def bytesRows (s : ByteArray) : List (List CV) := s.toList.map fun b => [CV.int .u8 b.toNat]

/-- What is appended: its rows. -/
def rowsOf (h : Heap) (sz : Nat) (v : PV) (K : List (List CV) → Prop) : Prop :=
  match v with
  | .one (.c (.slice sz' es)) => match Nat.beq sz sz' with | true => K es | false => False
  | .one (.nil _) => K []
  | .one (.c (.str s)) => match Nat.beq sz 1 with | true => K (bytesRows s) | false => False
  | .one (.rs k) => match find h k with
    | some (.arr sz' rows) => match Nat.beq sz sz' with | true => K rows | false => False
    | _ => False
  | .one (.ru k off len) => match find h k with
    | some (.arr sz' rows) => match Nat.beq sz sz' with | true => K ((rows.drop off).take len) | false => False
    | _ => False
  | _ => False

/-- An own slice from its begin becomes an own slice by itself. -/
def shrinkK (k k2 l : Nat) (s : St) (K : St → Prop) : Prop :=
  match find s.heap k with
  | some (.arr sz rows) => killK k s fun s => newK k2 (.arr sz (rows.take l)) s K
  | _ => False

/-- Zeros are appended to nothing. -/
def appendZ (t : TI) (k : Nat) (s : St) (v u : PV) (K : PV → St → Prop) : Prop :=
  match t.slice, t.ez, v with
  | some (sz, bytes), _ :: _, .one (.nil sz') => intIx u fun n => match Nat.beq sz sz' with
    | true => Side (0 ≤ n ∧ n * bytes ≤ 2 ^ 46) (newK k (.arr sz (List.replicate n.toNat t.ez)) s fun s => K (.one (.rs k)) s)
    | false => False
  | _, _, _ => False

def capM (h : Heap) (t : TI) (v : PV) (K : PV → Prop) : Prop :=
  match t.slice, v with
  | some _, .one (.nil _) => K (.one (.c (.int .i64 0)))
  | some _, .one (.c (.slice _ es)) => ∀ c : Nat, es.length ≤ c → K (.one (.c (.int .i64 c)))
  | some _, .one (.rs k) => match find h k with
    | some (.arr _ rows) => ∀ c : Nat, rows.length ≤ c → K (.one (.c (.int .i64 c)))
    | _ => False
  | _, _ => False

def appendM (t t2 : TI) (k2 : Nat) (s : St) (x y : PV) (K : PV → St → Prop) : Prop :=
  match t.slice, (t2.slice.isSome || t2.str) with
  | some (sz, bytes), true => rowsOf s.heap sz y fun es =>
    match x with
    | .one (.nil sz') => match Nat.beq sz sz' with
      | true => Side (es.length * bytes ≤ 2 ^ 46) (newK k2 (.arr sz es) s fun s => K (.one (.rs k2)) s)
      | false => False
    | .one (.rs k) => match find s.heap k with
      | some (.arr sz' rows) => match Nat.beq sz sz' with
        | true => Side ((rows.length + es.length) * bytes ≤ 2 ^ 46) (killK k s fun s => newK k2 (.arr sz (rows ++ es)) s fun s => K (.one (.rs k2)) s)
        | false => False
      | _ => False
    | .one (.ru k off l) => match find s.heap k with
      | some (.arr sz' rows) => match Nat.beq sz sz' && Nat.beq off 0 with
        | true => Side (((rows.take l).length + es.length) * bytes ≤ 2 ^ 46) (killK k s fun s => newK k2 (.arr sz (rows.take l ++ es)) s fun s => K (.one (.rs k2)) s)
        | false => False
      | _ => False
    | .one (.ds k) => match find s.heap k with
      | some (.deep true sz' rows) => match Nat.beq sz sz' with
        | true => Side (flatRows es ∧ (rows.length + es.length) * bytes ≤ 2 ^ 46) (killK k s fun s => newK k2 (.deep true sz (rows ++ es)) s fun s => K (.one (.ds k2)) s)
        | false => False
      | _ => False
    | _ => False
  | _, _ => False

/-- What is appended to an own deep slice is taken over. -/
def appendD (t : TI) (k2 : Nat) (s : St) (k ky : Nat) (K : PV → St → Prop) : Prop :=
  match t.slice with
  | some (sz, bytes) => match find s.heap k, find s.heap ky, Nat.beq k ky with
    | some (.deep true sz1 rows), some (.deep _ sz2 es), false => match Nat.beq sz sz1, Nat.beq sz sz2 with
      | true, true => Side ((rows.length + es.length) * bytes ≤ 2 ^ 46) (killK ky s fun s => killK k s fun s => newK k2 (.deep true sz (rows ++ es)) s fun s => K (.one (.ds k2)) s)
      | _, _ => False
    | _, _, _ => False
  | none => False

def noKey (k : Nat) : List XV → Bool
  | [] => true
  | x :: xs => match x.key? with | some k' => (match Nat.beq k' k with | true => false | false => noKey k xs) | none => noKey k xs

def boxM (k : Nat) (xs : List XV) (s : St) (K : PV → St → Prop) : Prop :=
  match allLive xs, noKey k xs with
  | true, true => newK k (.box xs) s fun s => K (.one (.pb k 0 xs.length)) s
  | _, _ => False

def spliceC (row : List CV) (o : Nat) : List CV → List CV
  | [] => row
  | y :: ys => spliceC (row.set o y) (o + 1) ys

/-- Own parts are taken over. -/
def absorbK (m : Bool) : List XV → St → (List CV → St → Prop) → Prop
  | [], s, K => K [] s
  | .c c :: xs, s, K => match c.flat with
    | true => absorbK m xs s fun cs s => K (c :: cs) s
    | false => False
  | .nil sz :: xs, s, K => absorbK m xs s fun cs s => K (.slice sz [] :: cs) s
  | .rs k :: xs, s, K => match find s.heap k with
    | some (.arr sz rows) => Side (flatRows rows) (match m with
      | true => killK k s fun s => absorbK m xs s fun cs s => K (.own sz rows :: cs) s
      | false => killK k s fun s => absorbK m xs s fun cs s => K (.slice sz rows :: cs) s)
    | _ => False
  | .ds k :: xs, s, K => match find s.heap k with
    | some (.deep _ sz rows) => killK k s fun s => absorbK m xs s fun cs s => K (.slice sz rows :: cs) s
    | _ => False
  | _, _, _ => False

def absK (m : Bool) (xs : List XV) (s : St) (K : List CV → St → Prop) : Prop := match allLive xs with | true => absorbK m xs s K | false => False

def storeD (k r o n : Nat) (xs : List XV) (s : St) (K : St → Prop) : Prop :=
  absK false xs s fun ys s => match find s.heap k, lenIs ys n with
    | some (.deep a sz rows), true => match Nat.beq n sz with
      | true => setK' k (.deep a sz (rows.set r ys)) s K
      | false => Pick (fun row => rows[r]? = some row) fun row => setK' k (.deep a sz (rows.set r (spliceC row o ys))) s K
    | _, _ => False

def storeM (tt : TT) (t : TypeId) (a : Operand) (x : Operand) (s : St) (K : St → Prop) : Prop :=
  match (tt t).size with
  | 0 => False
  | m + 1 => opd s.regs a (tt 0) fun p => opd s.regs x (tt t) fun v => match p with
    | .one (.pb k o n) => match v.cellsX, find s.heap k, Nat.beq n (m + 1) with
      | some xs, some (.box cs), true => match lenIs xs n, allLive xs with
        | true, true => forceXs (fillX cs o xs) fun cs' => forceH (setOb s.heap k (.box cs')) fun h => match xs, s with
            | [.rs k2], ⟨r, _⟩ => renK k2 (k + 32 + o) ⟨r, h⟩ K
            | _, ⟨r, _⟩ => K ⟨r, h⟩
        | _, _ => False
      | _, _, _ => False
    | .one (.pe _ _ _ _) => frzKeys 20 (keysP v) s fun s => opd s.regs a (tt 0) fun p => opd s.regs x (tt t) fun v => match p with
      | .one (.pe k r o n) => match v.cellsX.bind pures, find s.heap k, Nat.beq n (m + 1) with
        | some ys, some (.arr sz rows), true => match lenIs ys n with
          | true => match Nat.beq n sz with
            | true => match s with | ⟨g, h⟩ => forceH (setOb h k (.arr sz (rows.set r ys))) fun h => K ⟨g, h⟩
            | false => Pick (fun row => rows[r]? = some row) fun row => match s with | ⟨g, h⟩ => forceH (setOb h k (.arr sz (rows.set r (spliceC row o ys)))) fun h => K ⟨g, h⟩
          | false => False
        | _, _, _ => False
      | _ => False
    | .one (.dp k r o n) => match v.cellsX, Nat.beq n (m + 1) with
      | some xs, true => storeD k r o n xs s K
      | _, _ => False
    | _ => False

/-- The one own box among the captured values, and whether what it holds is own. -/
def splitCap (h : Heap) : List PV → Option (List CV × Nat × Nat × List CV)
  | [] => none
  | .one (.pb k 0 n) :: vs => match find h k, pureB vs with
    | some (.box cs), some post => match keysX cs, Nat.beq cs.length n, post.all (fun p => !p.1) with
      | _ :: _, true, true => some ([], k, n, post.flatMap (·.2))
      | _, _, _ => none
    | _, _ => none
  | .one (.c c) :: vs => match splitCap h vs with | some (pre, p) => some (c :: pre, p) | none => none
  | _ => none

/-- A closure: what it captures is frozen, or (one own box) stays own. -/
def makeM (P : Program) (tt : TT) (s : St) (o : Oper) (f : Nat) (vs : List PV) (K : PV → St → Prop) : Prop :=
  match splitCap s.heap vs with
  | some (pre, k, n, post) => Pick (fun _ : Bool => True) fun m => match m with
    | true => K (.one (.fb f pre k n post)) s
    | false => frzKeys 40 (keysPs vs) s fun s => opQ P tt s o fun v => K v s
  | none => frzKeys 40 (keysPs vs) s fun s => opQ P tt s o fun v => K v s

def buildF (tt : TT) (t len : Nat) (sz : Nat) (ps : List (Nat × Operand)) (o : Oper) (vs : List (Nat × PV)) (s : St) (K : PV → St → Prop) : Prop :=
  frzKeys 40 (keysPs (vs.map (·.2))) s fun s => partsK s.regs tt (fun _ => (tt t).elem) ps fun vs =>
      match listRows sz 0 vs with
      | some rows => dstK o fun k => newK k (.arr sz rows) s fun s => K (.one (.rs k)) s
      | none => False

/-- Is a slice nil? An empty one may be. -/
def nilM (h : Heap) (v : PV) (K : Bool → Prop) : Prop :=
  match v with
  | .one (.c (.slice _ es)) => ∀ b, (b = true → es = []) → K b
  | .one (.nil _) => K true
  | .one (.rs k) => match find h k with
    | some (.arr _ rows) => ∀ b, (b = true → rows = []) → K b
    | _ => False
  | .one (.ds k) => match find h k with
    | some (.deep _ _ rows) => ∀ b, (b = true → rows = []) → K b
    | _ => False
  | _ => False

/-- A variable is set. -/
def assignM (o : Oper) (s : St) (v : PV) (K : PV → St → Prop) : Prop :=
  match v with
  | .one x => match x with
    | .nil sz => dstK o fun k => newK k (.arr sz []) s fun s => K (.one (.rs k)) s
    | .rs k => match pinK k with
      | true => K (.one (.rs k)) s
      | false => dstK o fun k2 => renK k k2 s fun s => K (.one (.rs k2)) s
    | .ds k => match pinK k with
      | true => K (.one (.ds k)) s
      | false => dstK o fun k2 => renK k k2 s fun s => K (.one (.ds k2)) s
    | .ru k off l => match Nat.beq off 0 with
      | true => CallC (K (.one (.ru k off l)) s) (dstK o fun k2 => shrinkK k k2 l s fun s => K (.one (.rs k2)) s)
      | false => K (.one (.ru k off l)) s
    | x => K (.one x) s
  | v => K v s

/-- A nested slice of its own is taken out, and appended to. -/
def appendT (t t2 : TI) (k : Nat) (s : St) (a r j : Nat) (u : PV) (K : PV → St → Prop) : Prop :=
  match t.slice, t2.slice.isSome with
  | some (sz, bytes), true => rowsOf s.heap sz u fun es => match find s.heap a, find s.heap k, pinK k with
    | some (.deep ap sz1 rows), none, false => Pick (fun p : List CV × List (List CV) => rows[r]? = some p.1 ∧ p.1[j]? = some (.own sz p.2)) fun p =>
      Side (flatRows es ∧ (p.2.length + es.length) * bytes ≤ 2 ^ 46) (match s with | ⟨g, h⟩ => forceH (ins k (.deep true sz (p.2 ++ es)) (setOb h a (.deep ap sz1 (rows.set r (p.1.set j .hole))))) fun h => K (.one (.ds k)) ⟨g, h⟩)
    | _, _, _ => False
  | _, _ => False

/-- What is appended is own and deep, or flat. -/
def appendA (t t2 : TI) (k : Nat) (s : St) (v u : PV) (K : PV → St → Prop) : Prop :=
  match v, u with
  | .one (.ds a), .one (.ds b) => match t2.slice.isSome with | true => appendD t k s a b K | false => False
  | .one (.dn a r j), u => appendT t t2 k s a r j u K
  | _, _ => appendM t t2 k s v u K

/-- The builtins. -/
def restM (P : Program) (tt : TT) (s : St) (o : Oper) (c : Call) (b : Builtin) (K : PV → St → Prop) : Prop :=
  match b with
  | .append => match c.args.toList, c.argTypes.toList with
    | [x, y], [t, t2] => dstK o fun k => opd s.regs x (tt t) fun v => opd s.regs y (tt t2) fun u => match (tt t2).ik with
      | some _ => appendZ (tt t) k s v u K
      | none => appendA (tt t) (tt t2) k s v u K
    | _, _ => False
  | .cap => match c.args.toList, c.argTypes.toList with
    | [x], t :: _ => opd s.regs x (tt t) fun v => capM s.heap (tt t) v fun v => K v s
    | _, _ => False
  | _ => opQ P tt s o fun v => K v s

/-- THE OPERATIONS OF A REGION WHOSE ORDER IS FIXED. -/
def opM (P : Program) (tt : TT) (s : St) (o : Oper) (K : PV → St → Prop) : Prop :=
  match o.op with
  | .assign x => opd s.regs x (tt o.type) fun v => assignM o s v K
  | .alloc t => dstK o fun k => match (tt t).zero with
    | [] => False
    | [.nil sz] => newK (k + 32) (.arr sz []) s fun s => boxM k [.rs (k + 32)] s K
    | z :: zs => boxM k (z :: zs) s K
  | .box t x => dstK o fun k => opd s.regs x (tt t) fun v => match v.cellsX with | some xs => boxM k xs s K | none => False
  | .buildSlice t len ps => match (tt t).slice, Nat.beq len ps.toList.length, Nat.ble (len * ((tt t).slice.getD (0, 0)).1) 16777216 with
    | some (sz, _), true, true => partsK s.regs tt (fun _ => (tt t).elem) ps.toList fun vs => match keysPs (vs.map (·.2)), vs with
      | _ :: _, [(0, v)] => Pick (fun _ : Option Bool => True) fun m => match m with
        | some true => match v.cellsX with
          | some xs => absK false xs s fun ys s => match lenIs ys sz with
            | true => dstK o fun k => newK k (.deep true sz [ys]) s fun s => K (.one (.ds k)) s
            | false => False
          | none => False
        | none => match v.cellsX with
          | some xs => absK true xs s fun ys s => match lenIs ys sz with
            | true => dstK o fun k => newK k (.deep true sz [ys]) s fun s => K (.one (.ds k)) s
            | false => False
          | none => False
        | some false => buildF tt t len sz ps.toList o vs s K
      | _, _ => buildF tt t len sz ps.toList o vs s K
    | _, _, _ => False
  | .makeSlice t l c => opd s.regs l (tt 0) fun l => opd s.regs c (tt 0) fun c => intIx l fun l => intIx c fun c => match (tt t).slice with
    | some (sz, bytes) => match (tt t).ez with | [] => False | _ :: _ => Side (0 ≤ l ∧ l ≤ c ∧ c * bytes ≤ 2 ^ 46) (dstK o fun k => newK k (.arr sz (List.replicate l.toNat (tt t).ez)) s fun s => K (.one (.rs k)) s)
    | none => False
  | .store t a x => storeM tt t a x s (K (.one .undef))
  | .binOp op t x y _ => match op, (tt t).slice, y with
    | .eql, some _, .const (.slice none 0 0) => opd s.regs x (tt t) fun v => nilM s.heap v fun b => K (.one (.c (.bool b))) s
    | _, _, _ => opQ P tt s o fun v => K v s
  | .convert src dst x => opd s.regs x (tt src) fun v => match (tt src).str, (tt dst).u8, (tt dst).str, (tt src).u8, v with
    | true, true, _, _, .one (.c (.str b)) => Side (b.size ≤ 2 ^ 46) (dstK o fun k => newK k (.arr 1 (bytesRows b)) s fun s => K (.one (.rs k)) s)
    | true, _, true, _, .one (.c (.str b)) => K (.one (.c (.str b))) s
    | _, _, true, true, .one (.c (.str _)) => False
    | _, _, true, true, v => rowsOf s.heap 1 v fun rows => Pick (fun b => bytesRows b = rows) fun b => K (.one (.c (.str b))) s
    | _, _, _, _, _ => opQ P tt s o fun v => K v s
  | .makeFunc (.func f) first captured => match first.toList with
    | [] => argsK s.regs tt captured.toList [] fun vs => makeM P tt s o f vs K
    | _ => False
  | .call c => match c.callee with
    | .value f => opd s.regs f (tt 0) fun g => callM P tt s g c.args.toList c.argTypes.toList o.dst K
    | .builtin b => restM P tt s o c b K
    | _ => opQ P tt s o fun v => K v s
  | _ => opQ P tt s o fun v => K v s

def putK (d : Option Nat) (v : PV) (s : St) (K : St → Prop) : Prop :=
  match d, s with
  | some d, ⟨r, h⟩ => setK r d v fun r => K ⟨r, h⟩
  | none, s => K s

/-- Is the operation wanted? -/
def guardK (all : List Oper) (o : Oper) (s : St) (K : Bool → Prop) : Prop :=
  match o.guard with
  | none => K true
  | some (j, want) => match (all[j]?).bind (·.dst) with
    | some d => look s.regs d fun v => match v with
      | .one (.c (.bool b)) => K (b == want)
      | .one .undef => K false
      | _ => False
    | none => False

def isGuard (i : Nat) : List Oper → Bool
  | [] => false
  | o :: os => match o.guard with
    | some (j, _) => match Nat.beq i j with | true => true | false => isGuard i os
    | none => isGuard i os

def splitK (sp : Bool) (v : PV) (K : PV → Prop) : Prop :=
  match v with
  | .one (.c (.bool b)) => (match sp with
    | true => Br b (K (.one (.c (.bool true)))) (K (.one (.c (.bool false))))
    | false => K (.one (.c (.bool b))))
  | v => K v

def regN (P : Program) (tt : TT) (all : List Oper) : Nat → List Oper → St → (St → Prop) → Prop
  | _, [], s, K => K s
  | i, o :: r, s, K => guardK all o s fun run => match run with
    | true => opM P tt s o fun v s => splitK (isGuard i r) v fun v => putK o.dst v s fun s => regN P tt all (i + 1) r s K
    | false => putK o.dst (.one .undef) s fun s => regN P tt all (i + 1) r s K

def regQ (P : Program) (tt : TT) (all : List Oper) : Nat → List Oper → St → (St → Prop) → Prop
  | _, [], s, K => K s
  | i, o :: r, s, K => guardK all o s fun run => match run with
    | true => opQ P tt s o fun v => splitK (isGuard i r) v fun v => putK o.dst v s fun s => regQ P tt all (i + 1) r s K
    | false => putK o.dst (.one .undef) s fun s => regQ P tt all (i + 1) r s K

/-- One operation of a drawn region. -/
def stepA (P : Program) (tt : TT) (ops : Array Oper) (n i : Nat) (K : St → Prop) (s : St) : Prop :=
  match ops[i]? with
  | none => K s
  | some o => guardK ops.toList o s fun run => match run, decide (i < n) with
    | true, true => opQ P tt s o fun v => putK o.dst v s K
    | true, false => opM P tt s o fun v s => putK o.dst v s K
    | false, _ => putK o.dst (.one .undef) s K

def bothK : List Nat → (Nat → Prop) → Prop
  | [], _ => True
  | i :: is, F => F i ∧ bothK is F

/-- A drawn region, all its orders one by one. -/
def anyM (P : Program) (tt : TT) (ops : Array Oper) (K : St → Prop) : Nat → Array Bool → St → Prop
  | 0, listed, s => Region.ready .any ops listed = [] ∧ K s
  | f + 1, listed, s => Pick (fun l : List Nat => Region.ready .any ops listed = l) fun l => match l with
    | [] => K s
    | i :: is => bothK (i :: is) fun i => stepA P tt ops 0 i (anyM P tt ops K f (listed.setIfInBounds i true)) s

inductive Ex where
  | normal
  | exit (id : Nat)
  | ret

/-- Only these registers are kept, and the objects that they lead to. -/
def cleanR (live : List Nat) : Nat → List PV → List PV
  | _, [] => []
  | i, v :: vs => (match live.contains i with | true => v | false => .one .dead) :: cleanR live (i + 1) vs
def heapKeys : Heap → List Nat → List Nat
  | [], ks => ks
  | (k, .box cs) :: h, ks => match ks.contains k with | true => heapKeys h (ks ++ keysX cs) | false => heapKeys h ks
  | _ :: h, ks => heapKeys h ks
def keepH (ks : List Nat) : Heap → Heap
  | [] => []
  | (k, o) :: h => match ks.contains k with | true => (k, o) :: keepH ks h | false => keepH ks h
def keepX (ks : List Nat) (x : XV) : XV :=
  match x.key? with
  | some k => match ks.contains k with | true => x | false => .dead
  | none => x
def cleanK (live : List Nat) (s : St) (K : St → Prop) : Prop :=
  match s with
  | ⟨r, h⟩ => forceR (cleanR live 0 r) fun r => forceNs (keysPs r) fun ks => forceNs (heapKeys h ks) fun ks => forceNs (heapKeys h ks) fun ks =>
    force ⟨r.map (PV.map (keepX ks)), (keepH ks h).mapX (keepX ks)⟩ K

/-- Numbers of a million and more stand for objects to be frozen ahead of the loop, of two millions and more for own slices that are to be deep. -/
def toFrz : List Nat → List Nat
  | [] => []
  | n :: ns => match Nat.ble 1000000 n, Nat.ble 2000000 n with | true, false => (n - 1000000) :: toFrz ns | _, _ => toFrz ns
def toDeep : List Nat → List Nat
  | [] => []
  | n :: ns => match Nat.ble 2000000 n, Nat.ble 3000000 n with | true, false => (n - 2000000) :: toDeep ns | _, _ => toDeep ns
/-- Numbers of three millions and more: nil slices in boxes that are to be own empty ones. -/
def toOwn : List Nat → List Nat
  | [] => []
  | n :: ns => match Nat.ble 3000000 n, Nat.ble 4000000 n with | true, false => (n - 3000000) :: toOwn ns | _, _ => toOwn ns
/-- Numbers of four millions and more stand for objects to be frozen behind the loop. -/
def toExit : List Nat → List Nat
  | [] => []
  | n :: ns => match Nat.ble 4000000 n with | true => (n - 4000000) :: toExit ns | false => toExit ns

/-- A nil slice in a box is an own empty one. -/
def swapK (k o q : Nat) (s : St) (K : St → Prop) : Prop :=
  match find s.heap k with
  | some (.box cs) => match cs[o]? with
    | some (.nil sz) => match find s.heap q with
      | some (.arr sz' []) => match Nat.beq sz sz' with
        | true => forceXs (cs.set o (.rs q)) fun cs => forceH (setOb s.heap k (.box cs)) fun h => match s with | ⟨r, _⟩ => K ⟨r, h⟩
        | false => False
      | _ => False
    | _ => False
  | _ => False
def ownNilK (k o q : Nat) (s : St) (K : St → Prop) : Prop :=
  match find s.heap k with
  | some (.box cs) => match cs[o]? with
    | some (.nil sz) => newK q (.arr sz []) s fun s => swapK k o q s K
    | some (.rs k0) => match find s.heap k0 with | some _ => renK k0 q s K | none => False
    | some (.ds k0) => match find s.heap k0 with | some _ => renK k0 q s K | none => False
    | _ => False
  | _ => False
def ownKeys : List Nat → St → (St → Prop) → Prop
  | [], s, K => K s
  | q :: ks, s, K => ownNilK (64 * Nat.div q 64) (Nat.mod q 64 - 32) q s fun s => ownKeys ks s K

def deepX (k : Nat) (x : XV) : XV :=
  match x with
  | .rs a => match Nat.beq a k with | true => .ds k | false => x
  | .ru a _ _ => match Nat.beq a k with | true => .dead | false => x
  | .pe a r o l => match Nat.beq a k with | true => .dp k r o l | false => x
  | x => x
def deepK (k : Nat) (s : St) (K : St → Prop) : Prop :=
  match find s.heap k with
  | some (.arr sz rows) => Side (flatRows rows) (force ⟨s.regs.map (PV.map (deepX k)), (setOb s.heap k (.deep true sz rows)).mapX (deepX k)⟩ K)
  | some (.deep _ _ _) => K s
  | _ => False
def deepKeys : List Nat → St → (St → Prop) → Prop
  | [], s, K => K s
  | k :: ks, s, K => deepK k s fun s => deepKeys ks s K

/-- A loop: one round more, or out of it. -/
inductive LoopL (B : St → (Ex → St → Prop) → Prop) (live : List Nat) (Q : Ex → St → Prop) : St → Prop
  | mk (s : St) (K : Ex → St → Prop) (hB : B s K) (hN : ∀ s' s'', K .normal s' → (∀ R : St → Prop, cleanK live s' R → R s'') → LoopL B live Q s'') (hE : ∀ e s', e ≠ .normal → K e s' → Q e s') : LoopL B live Q s

/-- The first n operations may be taken in their own order (whatever does not wait for one of them has nothing to do with it); behind them each waits for all before it. -/
def waitsFor (o : Oper) (j : Nat) : Bool := o.after.any fun e => Region.binds .any e && e.on == j
def drawB (ops : Array Oper) (n : Nat) : Bool :=
  Region.noSelect ops && (List.range ops.size).all fun k => match ops[k]? with
    | none => true
    | some o => o.after.all (fun e => !Region.binds .any e || decide (e.on < k)) &&
      (if k < n then (List.range ops.size).all fun j => decide (j ≤ k) || match ops[j]? with
        | none => true
        | some oj => waitsFor oj k || o.apart ops oj
      else (List.range k).all fun j => waitsFor o j)

/-! ### drawn regions that make a slice -/
def freshBox (k : Nat) (xs : List XV) : Bool := match xs with
  | [.nil _] => false
  | xs => match allLive xs with | true => noKey k xs | false => false
/-- New objects, one after the other. -/
def insAll : Heap → Heap → Heap
  | [], h => h
  | (k, o) :: N, h => insAll N (ins k o h)
/-- What a call brings, under keys that are free. -/
def freshN (d : Nat) : Heap → Heap → Option Heap
  | [], _ => some []
  | (k, .arr sz rows) :: h, H => match find H (d + k), pinK (d + k), find h k, freshN d h H with
    | none, false, none, some N => some ((d + k, .arr sz rows) :: N)
    | _, _, _, _ => none
  | (k, .deep a sz rows) :: h, H => match find H (d + k), pinK (d + k), find h k, freshN d h H with
    | none, false, none, some N => some ((d + k, .deep a sz rows) :: N)
    | _, _, _, _ => none
  | _, _ => none
/-- A new slice under a key that is free. -/
def opF (P : Program) (tt : TT) (s : St) (o : Oper) (K : PV → St → Prop) : Prop :=
  match o.op with
  | .buildSlice t len ps => match (tt t).slice, Nat.beq len ps.toList.length, Nat.ble (len * ((tt t).slice.getD (0, 0)).1) 16777216 with
    | some (sz, _), true, true => partsK s.regs tt (fun _ => (tt t).elem) ps.toList fun vs => match keysPs (vs.map (·.2)) with
      | [] => match listRows sz 0 vs with
        | some rows => dstK o fun k => match find s.heap k, pinK k with
          | none, false => match s with | ⟨r, h⟩ => forceH (ins k (.arr sz rows) h) fun h => K (.one (.rs k)) ⟨r, h⟩
          | _, _ => False
        | none => False
      | _ :: _ => False
    | _, _, _ => False
  | .alloc t => match (tt t).zero with
    | z :: zs => dstK o fun k => match find s.heap k, pinK k, freshBox k (z :: zs) with
      | none, false, true => match s with | ⟨r, h⟩ => forceH (ins k (.box (z :: zs)) h) fun h => K (.one (.pb k 0 (z :: zs).length)) ⟨r, h⟩
      | _, _, _ => False
    | [] => False
  | .makeSlice t l c => opd s.regs l (tt 0) fun l => opd s.regs c (tt 0) fun c => intIx l fun l => intIx c fun c => match (tt t).slice with
    | some (sz, bytes) => match (tt t).ez with | [] => False | _ :: _ => Side (0 ≤ l ∧ l ≤ c ∧ c * bytes ≤ 2 ^ 46) (dstK o fun k => match find s.heap k, pinK k with
      | none, false => match s with | ⟨r, h⟩ => forceH (ins k (.arr sz (List.replicate l.toNat (tt t).ez)) h) fun h => K (.one (.rs k)) ⟨r, h⟩
      | _, _ => False)
    | none => False
  | .call c => match c.callee with
    | .value f => opd s.regs f (tt 0) fun g => match g with
      | .one (.c (.fn g caps)) => argsK s.regs tt c.args.toList c.argTypes.toList fun vs => match keysPs vs, hasDsP vs, pureB vs with
        | [], false, some comps => Pick (fun r => Sat P g (comps ++ caps.map fun y => (false, [y])) r) fun r => match r with
          | (.one (.rs 0), [(0, .arr sz rows)]) => dstK o fun k => match find s.heap k, pinK k with
            | none, false => match s with | ⟨r, h⟩ => forceH (ins k (.arr sz rows) h) fun h => K (.one (.rs k)) ⟨r, h⟩
            | _, _ => False
          | (pv, []) => forceP pv fun u => K u s
          | (pv, x :: h) => dstK o fun k => match freshN k (x :: h) s.heap, ruRes pv (x :: h) with
            | some N, none => forceP (pv.map (shiftX k)) fun u => match s with | ⟨r, H⟩ => forceH (insAll N H) fun H => K u ⟨r, H⟩
            | _, _ => False
        | _, _, _ => False
      | _ => False
    | _ => False
  | _ => False
def isF (o : Oper) : Bool := match o.op with | .buildSlice _ _ _ => true | .alloc _ => true | .makeSlice _ _ _ => true | _ => false
/-- A store of plain cells into a row of an own array; a nested slice of its own that is appended to. -/
def opS (tt : TT) (s : St) (o : Oper) (K : PV → St → Prop) : Prop :=
  match o.op with
  | .store t a x => match (tt t).size with
    | 0 => False
    | m + 1 => opd s.regs a (tt 0) fun p => opd s.regs x (tt t) fun v => match p, keysP v with
      | .one (.pe k r _ n), [] => match v.cellsX.bind pures, find s.heap k, Nat.beq n (m + 1) with
        | some ys, some (.arr sz rows), true => match lenIs ys n, Nat.beq n sz with
          | true, true => match s with | ⟨g, h⟩ => forceH (setOb h k (.arr sz (rows.set r ys))) fun h => K (.one .undef) ⟨g, h⟩
          | _, _ => False
        | _, _, _ => False
      | _, _ => False
  | .call c => match c.callee, c.args.toList, c.argTypes.toList with
    | .builtin .append, [x, y], [t, t2] => dstK o fun k => opd s.regs x (tt t) fun v => opd s.regs y (tt t2) fun u => match (tt t2).ik, v with
      | none, .one (.dn a r j) => appendT (tt t) (tt t2) k s a r j u K
      | _, _ => False
    | _, _, _ => False
  | _ => False
def isS (n : Nat) (o : Oper) : Bool := match o.op with
  | .store _ _ _ => (match Nat.ble 1000 n, Nat.blt n 2000 with | true, true => true | _, _ => false)
  | .call c => match c.callee with | .builtin b => (match b with | .append => (match Nat.ble 3000 n, Nat.blt n 4000 with | true, true => true | _, _ => false) | _ => false) | _ => false
  | _ => false
/-- What looks at registers alone. -/
def isR (o : Oper) : Bool := match o.op with | .move _ => true | .binOp .add _ _ _ _ => true | _ => false
/-- A call that makes a slice: behind the reads, where stores are taken one by one. -/
def isC (n i : Nat) (o : Oper) : Bool := match o.op with
  | .call c => match c.callee, Nat.ble 2000 n, Nat.blt i (Nat.mod n 1000) with | .value _, true, false => true | _, _, _ => false
  | _ => false
/-- What makes something new and leaves all else as it is. -/
def isG (n i : Nat) (o : Oper) : Bool := match isF o with | true => true | false => isC n i o
def isP (n i : Nat) (o : Oper) : Bool := match o.op with
  | .build _ _ => (match Nat.ble 2000 n, Nat.blt i 1000 with | true, true => true | _, _ => false)
  | .extract _ _ => (match Nat.ble 2000 n, Nat.blt i 1000 with | true, true => true | _, _ => false)
  | _ => false
/-- A slice that is made of reads, and read alone. -/
def isB (n i : Nat) (o : Oper) : Bool := match o.op with
  | .buildSlice _ _ _ => (match Nat.ble 5000 n, Nat.blt i (Nat.mod n 1000) with | true, true => true | _, _ => false)
  | _ => false
/-- The first operations are reads, but for those that make a slice. -/
def isQ (n i : Nat) (o : Oper) : Bool := match isF o with
  | true => isB n i o
  | false => match Nat.blt i (Nat.mod n 1000) with | true => true | false => isP n i o
/-- The reads ahead of the first operation that is none. -/
def qsOf (n : Nat) : Nat → List Oper → List (Nat × Bool × Oper)
  | _, [] => []
  | i, o :: os => match isQ n i o, Nat.blt i (Nat.mod n 1000) with | true, true => (i, true, o) :: qsOf n (i + 1) os | _, _ => qsOf n (i + 1) os
/-- The others, in their own order. -/
def nqOf (n : Nat) : Nat → List Oper → List (Nat × Bool × Oper)
  | _, [] => []
  | i, o :: os => match isQ n i o, Nat.blt i (Nat.mod n 1000) with | true, true => nqOf n (i + 1) os | q, _ => (i, q, o) :: nqOf n (i + 1) os
def ordG (ops : Array Oper) (n : Nat) : List (Nat × Bool × Oper) := qsOf n 0 ops.toList ++ nqOf n 0 ops.toList
def isM (o : Oper) : Bool := match o.op with
  | .buildSlice _ _ _ | .makeSlice _ _ _ | .alloc _ | .box _ _ | .store _ _ _ => true
  | .call c => match c.callee with | .builtin b => (match b with | .append | .cap | .clear | .copy => true | _ => false) | _ => false
  | _ => false
def noM : List Oper → Bool
  | [] => true
  | o :: os => match isM o with | true => false | false => noM os
def mIx : List Oper → Nat → Nat
  | [], i => i
  | o :: os, i => match isM o with | true => i | false => mIx os (i + 1)
def depsOf (o : Oper) : List Nat := o.after.toList.filterMap fun e => match Region.binds .any e with | true => some e.on | false => none
/-- What each operation waits for, directly or through others. -/
def clos : List Oper → List (List Nat) → List (List Nat)
  | [], acc => acc
  | o :: os, acc => clos os (acc ++ [dedup (depsOf o ++ (depsOf o).flatMap fun d => acc.getD d [])])
/-- Those in an order that serves every order: what is behind a read waits for it, or has nothing to do with it; what is behind another waits for it. -/
def okG (ops : Array Oper) (n : Nat) (cl : List (List Nat)) : List Nat → List (Nat × Bool × Oper) → Bool
  | _, [] => true
  | done, (k, q, o) :: r => o.after.all (fun e => !Region.binds .any e || memB e.on done) &&
      (match q with
        | true => r.all fun x => (waitsFor x.2.2 k || o.apart ops x.2.2) && (x.2.1 || isG n x.1 x.2.2 || isR o && isS n x.2.2 || memB k (cl.getD x.1 []))
        | false => r.all fun x => memB k (cl.getD x.1 []) || (isG n k o && o.guard.isNone && !x.2.1 && (isG n x.1 x.2.2 && x.2.2.guard.isNone) && o.apart ops x.2.2)) && okG ops n cl (k :: done) r
/-- The reads among the first n operations may be taken first, in their own order. -/
def drawF (ops : Array Oper) (n : Nat) : Bool :=
  match clos ops.toList [], ordG ops n with
  | cl, σ => Region.noSelect ops && okG ops n cl [] σ

/-- The operations in an order of one's own. -/
def regG (P : Program) (tt : TT) (n : Nat) (all : List Oper) : List (Nat × Bool × Oper) → St → (St → Prop) → Prop
  | [], s, K => K s
  | (i, q, o) :: r, s, K => guardK all o s fun run => match run, q, isG n i o with
    | true, true, _ => opQ P tt s o fun v => splitK (isGuard i (r.map (·.2.2))) v fun v => putK o.dst v s fun s => regG P tt n all r s K
    | true, false, true => opF P tt s o fun v s => splitK (isGuard i (r.map (·.2.2))) v fun v => putK o.dst v s fun s => regG P tt n all r s K
    | true, false, false => match isS n o with
      | true => opS tt s o fun v s => putK o.dst v s fun s => regG P tt n all r s K
      | false => opM P tt s o fun v s => splitK (isGuard i (r.map (·.2.2))) v fun v => putK o.dst v s fun s => regG P tt n all r s K
    | false, _, _ => putK o.dst (.one .undef) s fun s => regG P tt n all r s K

def forceOps : List (Nat × Bool × Oper) → (List (Nat × Bool × Oper) → Prop) → Prop
  | [], K => K []
  | (i, q, o) :: r, K => forceOps r fun r => K ((i, q, o) :: r)

def drawR (ops : Array Oper) (n : Nat) : Prop := (drawB ops n = true ∧ Nat.ble 2000 n = false) ∨ n = 1000
def drawR2 (ops : Array Oper) (n : Nat) : Prop := drawR ops n ∨ (2000 ≤ n ∧ drawF ops (n - 2000) = true)

def pwp (P : Program) (tt : TT) : Code → St → (Ex → St → Prop) → Prop
  | .skip, s, Q => Q .normal s
  | .region _ ops false, s, Q => regN P tt ops.toList 0 ops.toList s (Q .normal)
  | .region _ ops true, s, Q => Pick (drawR2 ops) fun n => match Nat.beq n 1000, Nat.ble 2000 n with
    | true, _ => anyM P tt ops (Q .normal) ops.size (Array.replicate ops.size false) s
    | false, false => regQ P tt ops.toList 0 (ops.toList.take n) s fun s => regN P tt ops.toList n (ops.toList.drop n) s (Q .normal)
    | false, true => forceOps (ordG ops (n - 2000)) fun σ => regG P tt (n - 2000) ops.toList σ s (Q .normal)
  | .seq a b, s, Q => pwp P tt a s fun e s' => match e with
    | .normal => pwp P tt b s' Q
    | e => Q e s'
  | .cond c a b, s, Q => opd s.regs c (tt 0) fun v => match v with
    | .one (.c (.bool t)) => Br t (pwp P tt a s Q) (pwp P tt b s Q)
    | _ => False
  | .block id c, s, Q => pwp P tt c s fun e s' => match e with
    | .exit i => (match Nat.beq i id with | true => Q .normal s' | false => Q (.exit i) s')
    | e => Q e s'
  | .loop c, s, Q => Pick (fun _ : List Nat => True) fun live => frzKeys 20 (toFrz live) s fun s => deepKeys (toDeep live) s fun s => ownKeys (toOwn live) s fun s => cleanK live s fun s' => LoopL (pwp P tt c) live (fun e s => frzKeys 20 (toExit live) s (Q e)) s'
  | .exit id, s, Q => Q (.exit id) s
  | .label _, s, Q => Q .normal s
  | .ret, s, Q => Q .ret s
  | _, _, _ => False

/-! ### the begin and the end of a call -/
def argP : Comp → PV
  | (false, [y]) => .one (.c y)
  | (_, ys) => .agg (ys.map .c)
def initK (args : List Comp) (n : Nat) (K : St → Prop) : Prop := force ⟨args.map argP ++ List.replicate (n - args.length) (.one .undef), []⟩ K

def compK (v : PV) (K : Bool × List XV → Prop) : Prop :=
  match v with
  | .one x => K (false, [x])
  | .agg xs => K (true, xs)
  | .tup _ => False
def resVal (tt : TT) (s : St) (rv : ResultVar) (K : Bool × List XV → Prop) : Prop :=
  match rv with
  | .tmp t => look s.regs t fun v => compK v K
  | .cell a t => look s.regs a fun v => loadK s.heap (tt t) v fun v => compK v K
def resVals (tt : TT) (s : St) : List ResultVar → (List (Bool × List XV) → Prop) → Prop
  | [], K => K []
  | v :: vs, K => resVal tt s v fun p => resVals tt s vs fun ps => K (p :: ps)
def resPV : List (Bool × List XV) → PV
  | [(false, [x])] => .one x
  | [(true, xs)] => .agg xs
  | ps => .tup ps

def canonX (ks : List Nat) (x : XV) : XV :=
  match x with
  | .rs k => match idx k ks 0 with | some i => .rs i | none => .dead
  | .ru k o l => match idx k ks 0 with | some i => .ru i o l | none => .dead
  | .pb _ _ _ => .dead
  | .pe k r o l => match idx k ks 0 with | some i => .pe i r o l | none => .dead
  | .ds k => match idx k ks 0 with | some i => .ds i | none => .dead
  | .dp _ _ _ _ => .dead
  | .dn _ _ _ => .dead
  | .fb _ _ _ _ _ => .dead
  | x => x
def canonH (h : Heap) : List Nat → Nat → Option Heap
  | [], _ => some []
  | k :: ks, i => match find h k, canonH h ks (i + 1) with
    | some (.arr sz rows), some r => some ((i, .arr sz rows) :: r)
    | some (.deep a sz rows), some r => some ((i, .deep a sz rows) :: r)
    | _, _ => none

/-- Own flat slices are deep ones. -/
def asDs (x : XV) : XV := match x with | .rs k => .ds k | .ru _ _ _ => .dead | .pe _ _ _ _ => .dead | x => x
def asDeep : Heap → Heap
  | [] => []
  | (k, .arr sz rows) :: h => (k, .deep true sz rows) :: asDeep h
  | (k, o) :: h => (k, o) :: asDeep h
def flatH : Heap → Prop
  | [] => True
  | (_, .arr _ rows) :: h => flatRows rows ∧ flatH h
  | _ :: h => flatH h

/-- Nil slices are own deep ones, under keys of their own. -/
def topK : Heap → Nat
  | [] => 0
  | (k, _) :: h => match Nat.ble (k + 1) (topK h) with | true => topK h | false => k + 1
def ownNX : List XV → Nat → List XV
  | [], _ => []
  | x :: xs, n => match x with | .nil _ => .ds n :: ownNX xs (n + 1) | x => x :: ownNX xs n
def ownNH : List XV → Nat → Heap
  | [], _ => []
  | x :: xs, n => match x with | .nil sz => (n, .deep true sz []) :: ownNH xs (n + 1) | _ => ownNH xs n
def nilsX : List XV → Nat
  | [] => 0
  | x :: xs => match x with | .nil _ => nilsX xs + 1 | _ => nilsX xs
def ownNT : List (Bool × List XV) → Nat → List (Bool × List XV)
  | [], _ => []
  | (b, xs) :: vs, n => (b, ownNX xs n) :: ownNT vs (n + nilsX xs)
def ownNTH : List (Bool × List XV) → Nat → Heap
  | [], _ => []
  | (_, xs) :: vs, n => ownNH xs n ++ ownNTH vs (n + nilsX xs)
def ownN (r : Res) : Res :=
  match r.1 with
  | .one x => match x with | .nil sz => (.one (.ds (topK r.2)), r.2 ++ [(topK r.2, .deep true sz [])]) | x => (.one x, r.2)
  | .agg xs => (.agg (ownNX xs (topK r.2)), r.2 ++ ownNH xs (topK r.2))
  | .tup vs => (.tup (ownNT vs (topK r.2)), r.2 ++ ownNTH vs (topK r.2))

/-- What the call hands back is 'r' (or reads as 'r', once it is frozen). -/
inductive ResOK (r' r : Res) : Prop
  | same (h : r' = r)
  | frz (h : frzP r' = some r.1) (h2 : r.2 = [])
  | deep (h : (r'.1.map asDs, asDeep r'.2) = r) (h2 : flatH r'.2)
  | own (h : ownN (r'.1.map asDs, asDeep r'.2) = r) (h2 : flatH r'.2)

def retK (tt : TT) (fn : Func) (r : Res) (e : Ex) (s : St) : Prop :=
  match e with
  | .exit _ => False
  | _ => resVals tt s fn.results.toList fun ps => match resPV ps with
    | pv => match dedup (keysP pv) with
      | ks => match canonH s.heap ks 0 with
        | some h => forceP (pv.map (canonX ks)) fun pv => ResOK (pv, h) r
        | none => False

/-! ### calls that are given own objects -/
def initM (args : List PV) (H : Heap) (n : Nat) (K : St → Prop) : Prop := force ⟨args ++ List.replicate (n - args.length) (.one .undef), H⟩ K

/-- The keys of what was handed in, and of what lies in its fields. -/
def keptKeys : Heap → List Nat
  | [] => []
  | (k, _) :: h => match Nat.ble 1000000 k with | true => k :: keptKeys h | false => keptKeys h
def under (ks : List Nat) : List Nat := match ks with | [] => [] | k :: ks => match Nat.ble 1000000 k with | true => under ks | false => k :: under ks
def numbered : List Nat → Nat → List (Nat × Nat)
  | [], _ => []
  | k :: ks, i => (k, i) :: numbered ks (i + 1)
def selves : List Nat → List (Nat × Nat)
  | [] => []
  | k :: ks => (k, k) :: selves ks

def pinSelf : List (Nat × Nat) → Bool
  | [] => true
  | (a, b) :: ρ => match pinK b with
    | true => match Nat.beq a b with | true => pinSelf ρ | false => false
    | false => pinSelf ρ

/-- A call that was given own objects: what it hands back, and what has become of them. -/
def retM (tt : TT) (fn : Func) (r : Res) (e : Ex) (s : St) : Prop :=
  match e with
  | .exit _ => False
  | _ => resVals tt s fn.results.toList fun ps => match resPV ps with
    | pv => forceN (numbered (under (dedup (keysP pv))) 0 ++ selves (keptKeys s.heap)) fun ρ =>
      match nodupB (ρ.map (·.1)), nodupB (ρ.map (·.2)), pinSelf ρ, renH ρ s.heap ρ with
      | true, true, true, some h => forceP (pv.map (renX ρ)) fun pv => forceH h fun h => (pv, h) = r
      | _, _, _, _ => False

end Go.Proofs.Ytjolahiflldepab.Pi
