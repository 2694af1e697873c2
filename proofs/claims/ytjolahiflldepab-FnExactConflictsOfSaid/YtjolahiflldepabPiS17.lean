/- Regions whose order is drawn: their own order serves every order. No statement of the seat is proved here. -/
import Derived.Test.YtjolahiflldepabPiS16
namespace Go.Proofs.Ytjolahiflldepab.Pi
open Go Go.RowKit
set_option linter.unusedVariables false
set_option linter.unusedSimpArgs false

/-- What a continuation form says: it comes to one of its values, whatever follows. -/
def Ex1 {α : Type} (F : (α → Prop) → Prop) : Prop := ∀ K, F K → ∃ x, K x ∧ ∀ K' : α → Prop, K' x → F K'

theorem ex_pure {α : Type} (x : α) : Ex1 fun K => K x := fun K h => ⟨x, h, fun K' h => h⟩
theorem ex_false {α : Type} : Ex1 fun _ : α → Prop => False := fun K h => h.elim
theorem ex_bind {α β : Type} {F : (α → Prop) → Prop} {G : α → (β → Prop) → Prop} (hF : Ex1 F) (hG : ∀ x, Ex1 (G x)) : Ex1 fun K => F fun x => G x K := fun K h => by
  obtain ⟨x, h1, h2⟩ := hF _ h
  obtain ⟨y, h3, h4⟩ := hG x K h1
  exact ⟨y, h3, fun K' h => h2 _ (h4 K' h)⟩
theorem ex_pick {α β : Type} {R : α → Prop} {G : α → (β → Prop) → Prop} (hG : ∀ x, Ex1 (G x)) : Ex1 fun K => Pick R fun x => G x K := fun K ⟨x, h1, h2⟩ => by
  obtain ⟨y, h3, h4⟩ := hG x K h2
  exact ⟨y, h3, fun K' h => ⟨x, h1, h4 K' h⟩⟩
theorem ex_side {α : Type} {A : Prop} {G : (α → Prop) → Prop} (hG : Ex1 G) : Ex1 fun K => Side A (G K) := fun K ⟨h1, h2⟩ => by
  obtain ⟨y, h3, h4⟩ := hG K h2
  exact ⟨y, h3, fun K' h => ⟨h1, h4 K' h⟩⟩

theorem ex_look (l : List PV) (n : Nat) : Ex1 (look l n) := fun K h => by
  rw [look_iff] at h
  obtain ⟨v, h1, h2⟩ := h
  exact ⟨v, h2, fun K' h => look_iff.2 ⟨v, h1, h⟩⟩
theorem ex_const (v : Value) (t : TI) : Ex1 (constK v t) := by
  unfold constK
  split <;> first | exact ex_pure _ | exact ex_false | skip
  split <;> first | exact ex_pure _ | exact ex_false
theorem ex_opd (r : List PV) (x : Operand) (t : TI) : Ex1 (opd r x t) := by
  cases x with
  | tmp n => exact ex_look r n
  | const v => exact ex_const v t
  | global g => exact ex_false
  | func f => exact ex_pure _
theorem ex_args (r : List PV) (tt : TT) : ∀ (xs : List Operand) (ts : List TypeId), Ex1 (argsK r tt xs ts)
  | [], ts => ex_pure _
  | x :: xs, ts => ex_bind (G := fun v K => argsK r tt xs ts.tail fun vs => K (v :: vs)) (ex_opd _ _ _) fun v => ex_bind (G := fun vs K => K (v :: vs)) (ex_args r tt xs ts.tail) fun vs => ex_pure _
theorem ex_parts (r : List PV) (tt : TT) (ft : Nat → Nat) : ∀ (xs : List (Nat × Operand)), Ex1 (partsK r tt ft xs)
  | [] => ex_pure _
  | (i, x) :: xs => ex_bind (G := fun v K => partsK r tt ft xs fun vs => K ((i, v) :: vs)) (ex_opd _ _ _) fun v => ex_bind (G := fun vs K => K ((i, v) :: vs)) (ex_parts r tt ft xs) fun vs => ex_pure _
theorem ex_oneOr (b : Bool) (xs : List XV) : Ex1 (oneOr b xs) := by
  unfold oneOr
  split <;> first | exact ex_pure _ | exact ex_false
theorem ex_load (h : Heap) (t : TI) (a : PV) : Ex1 (loadK h t a) := by
  unfold loadK
  split
  · exact ex_false
  · split
    · split
      · simp only [forceXs_eq]; exact ex_oneOr _ _
      · exact ex_false
    · split
      · simp only [subK_eq]; exact ex_oneOr _ _
      · exact ex_false
    · split
      · simp only [subK_eq]; exact ex_pick fun row => ex_oneOr _ _
      · exact ex_false
    · split
      · simp only [subK_eq]; exact ex_pick fun row => ex_oneOr _ _
      · exact ex_false
    · exact ex_false
theorem ex_fieldAddr (t : TI) (a : PV) (f : Nat) : Ex1 (fieldAddrK t a f) := by
  unfold fieldAddrK
  split
  · split
    · split <;> first | exact ex_pure _ | exact ex_false
    · split <;> first | exact ex_pure _ | exact ex_false
    · split <;> first | exact ex_pure _ | exact ex_false
    · split <;> first | exact ex_pure _ | exact ex_false
    · exact ex_false
  · exact ex_false
theorem ex_intIx {β : Type} (i : PV) {G : Int → (β → Prop) → Prop} (hG : ∀ n, Ex1 (G n)) : Ex1 fun K => intIx i fun n => G n K := by
  unfold intIx
  split
  · exact hG _
  · exact ex_false
theorem ex_indexAddr (h : Heap) (t : TI) (a i : PV) : Ex1 (indexAddrK h t a i) := by
  unfold indexAddrK
  refine ex_intIx i fun n => ?_
  split
  · split
    · exact ex_pick fun _ => ex_pure _
    · exact ex_false
  · split
    · split
      · exact ex_side (ex_pure _)
      · exact ex_false
    · exact ex_false
  · split
    · split
      · exact ex_side (ex_pure _)
      · exact ex_false
    · exact ex_false
  · split
    · split
      · exact ex_side (ex_pure _)
      · exact ex_false
    · exact ex_false
  · exact ex_false
theorem ex_len (h : Heap) (t : TI) (a : PV) : Ex1 (lenK h t a) := by
  unfold lenK
  split <;> first | exact ex_pure _ | exact ex_false | skip
  · split <;> first | exact ex_pure _ | exact ex_false
  · split <;> first | exact ex_pure _ | exact ex_false
theorem ex_bin (op : BinOp) (t : TI) (yc : Bool) (x y : PV) : Ex1 (binK op t yc x y) := by
  unfold binK
  split
  · cases op <;> simp only <;> first | exact ex_side (ex_pick fun _ => ex_pure _) | exact ex_side (ex_pure _) | skip
    all_goals (split <;> first | exact ex_false | exact ex_pick fun _ => ex_pure _ | exact ex_pure _ | exact ex_side (ex_pick fun _ => ex_pure _) | exact ex_side (ex_pure _))
  · cases op <;> simp only <;> first | exact ex_side (ex_pure _) | exact ex_pure _ | exact ex_false
  · split <;> first | exact ex_pure _ | exact ex_false
  · split
    · cases op <;> simp only <;> first | exact ex_pure _ | exact ex_false
    · exact ex_false
  · split
    · split <;> first | exact ex_pure _ | exact ex_false
    · exact ex_false
  · exact ex_false
theorem ex_un (op : UnOp) (x : PV) : Ex1 (unK op x) := by
  unfold unK
  split <;> first | exact ex_pure _ | exact ex_false | exact ex_pick fun _ => ex_pure _
theorem ex_bounds {β : Type} (n : Nat) (lo hi : Option Int) {G : Nat → Nat → (β → Prop) → Prop} (hG : ∀ a b, Ex1 (G a b)) : Ex1 fun K => boundsOf n lo hi fun a b => G a b K := by
  unfold boundsOf
  split <;> first | exact hG _ _ | exact ex_side (hG _ _)
theorem ex_slice (h : Heap) (t : TI) (x : PV) (lo hi : Option Int) : Ex1 (sliceK h t x lo hi) := by
  unfold sliceK
  split
  · exact ex_bounds _ _ _ fun _ _ => ex_pure _
  · split
    · exact ex_bounds _ _ _ fun _ _ => ex_pure _
    · exact ex_false
  · split
    · split
      · exact ex_bounds _ _ _ fun _ _ => ex_pure _
      · exact ex_false
    · exact ex_false
  · exact ex_bounds _ _ _ fun _ _ => ex_pure _
  · exact ex_false
theorem ex_optInt {β : Type} (r : List PV) (tt : TT) (x : Option Operand) {G : Option Int → (β → Prop) → Prop} (hG : ∀ n, Ex1 (G n)) : Ex1 fun K => optInt r tt x fun n => G n K := by
  unfold optInt
  split
  · exact hG _
  · exact ex_bind (ex_opd _ _ _) fun v => ex_intIx v fun n => hG _
theorem ex_convert (h : Heap) (src dst : TI) (ik : Option IntKind) (v : PV) : Ex1 (convertQ h src dst ik v) := by
  unfold convertQ
  split <;> first | exact ex_false | exact ex_pick fun _ => ex_pure _
theorem ex_extract (v : PV) (i : Nat) : Ex1 (extractK v i) := by
  unfold extractK
  split
  · split
    · exact ex_oneOr _ _
    · exact ex_false
  · exact ex_false
theorem ex_field (t : TI) (v : PV) (f : Nat) : Ex1 (fieldK t v f) := by
  unfold fieldK
  split
  · simp only [subK_eq]; exact ex_oneOr _ _
  · exact ex_false
theorem ex_index (v i : PV) : Ex1 (indexQ v i) := by
  unfold indexQ
  split <;> first | exact ex_false | exact ex_pick fun _ => ex_pure _
theorem ex_build (t : TI) : ∀ (ps : List (Nat × PV)) (cells : List XV), Ex1 (buildK t ps cells)
  | [], cells => by simp only [buildK, forceXs_eq]; exact ex_pure _
  | (f, v) :: ps, cells => by
    show Ex1 (fun K => buildK t ((f, v) :: ps) cells K)
    simp only [buildK]
    split
    · split
      · exact ex_build t ps _
      · exact ex_false
    · exact ex_false
theorem ex_callQ (P : Program) (h : Heap) (f : PV) (vs : List PV) : Ex1 (callQ P h f vs) := by
  unfold callQ
  split
  · refine ex_pick fun r => ?_
    split
    · split
      · simp only [forceP_eq]; exact ex_pure _
      · exact ex_false
    · split
      · simp only [forceP_eq]; exact ex_pure _
      · split
        · split
          · simp only [forceP_eq]; exact ex_pure _
          · exact ex_false
        · exact ex_false
  · exact ex_false

theorem ex_opQ (P : Program) (tt : TT) (s : St) (o : Oper) : Ex1 (opQ P tt s o) := by
  show Ex1 (fun K => opQ P tt s o K)
  cases hop : o.op <;> simp only [opQ, hop] <;> try exact ex_false
  case move x => exact ex_opd _ _ _
  case assign x => exact ex_opd _ _ _
  case pick c x y =>
    refine ex_bind (ex_opd _ _ _) fun v => ?_
    split <;> first | exact ex_opd _ _ _ | exact ex_false
  case load t x => exact ex_bind (ex_opd _ _ _) fun v => ex_load _ _ _
  case nilCheck x =>
    refine ex_bind (ex_opd _ _ _) fun v => ?_
    split <;> first | exact ex_pure _ | exact ex_false
  case binOp op t x y yt => exact ex_bind (ex_opd _ _ _) fun v => ex_bind (ex_opd _ _ _) fun u => ex_bin _ _ _ _ _
  case unOp op t x => exact ex_bind (ex_opd _ _ _) fun v => ex_un _ _
  case convert src dst x => exact ex_bind (ex_opd _ _ _) fun v => ex_convert _ _ _ _ _
  case slice t x lo hi mx =>
    cases mx with
    | some m => exact ex_false
    | none => exact ex_bind (ex_opd _ _ _) fun v => ex_optInt _ _ _ fun l => ex_optInt _ _ _ fun u => ex_slice _ _ _ _ _
  case fieldAddr t x f => exact ex_bind (ex_opd _ _ _) fun v => ex_fieldAddr _ _ _
  case field t x f => exact ex_bind (ex_opd _ _ _) fun v => ex_field _ _ _
  case indexAddr t x i => exact ex_bind (ex_opd _ _ _) fun v => ex_bind (ex_opd _ _ _) fun u => ex_indexAddr _ _ _ _
  case index t x i =>
    refine ex_bind (ex_opd _ _ _) fun v => ex_bind (ex_opd _ _ _) fun u => ?_
    split <;> first | exact ex_index _ _ | exact ex_false
  case extract x i => exact ex_bind (ex_opd _ _ _) fun v => ex_extract _ _
  case build t ps =>
    split <;> first | exact ex_false | skip
    exact ex_bind (ex_parts _ _ _ _) fun vs => ex_build _ _ _
  case buildSlice t len ps =>
    split
    · refine ex_bind (ex_parts _ _ _ _) fun vs => ?_
      split
      · exact ex_pure _
      · exact ex_false
    · exact ex_false
  case makeSlice t l c =>
    refine ex_bind (ex_opd _ _ _) fun vl => ex_bind (ex_opd _ _ _) fun vc => ?_
    have ii : ∀ i : PV, Ex1 (intIx i) := fun i => by
      unfold intIx
      split
      · exact ex_pure _
      · exact ex_false
    refine ex_bind (ii _) fun l => ex_bind (ii _) fun c => ?_
    split
    · split
      · exact ex_false
      · exact fun K h => ⟨_, h.b, fun K' hk => ⟨h.a, hk⟩⟩
    · exact ex_false
  case makeFunc fn first captured =>
    cases fn <;> try exact ex_false
    simp only
    split
    · refine ex_bind (ex_args _ _ _ _) fun vs => ?_
      split
      · split <;> first | exact ex_pure _ | exact ex_false
      · exact ex_false
    · exact ex_false
  case call c =>
    split
    · split
      · exact ex_bind (ex_opd _ _ _) fun v => ex_len _ _ _
      · exact ex_false
    · exact ex_bind (ex_opd _ _ _) fun v => ex_bind (ex_opd _ _ _) fun u => by
        unfold maxK
        split
        · exact ex_pure _
        · exact ex_false
    · exact ex_bind (ex_opd _ _ _) fun g => ex_bind (ex_args _ _ _ _) fun vs => ex_callQ _ _ _ _
    · exact ex_false

/-! ### only what is looked at counts -/
theorem opd_congr {r r' : List PV} {x : Operand} (h : ∀ n, x = .tmp n → r[n]? = r'[n]?) (t : TI) : opd r x t = opd r' x t := by
  cases x with
  | tmp n =>
    funext K
    simp only [opd]
    exact propext ⟨fun hh => by rw [look_iff] at hh ⊢; rw [← h n rfl]; exact hh, fun hh => by rw [look_iff] at hh ⊢; rw [h n rfl]; exact hh⟩
  | _ => rfl
theorem args_congr {r r' : List PV} {tt : TT} : ∀ {xs : List Operand} (_ : ∀ n, Operand.tmp n ∈ xs → r[n]? = r'[n]?) (ts : List TypeId), argsK r tt xs ts = argsK r' tt xs ts
  | [], _, ts => rfl
  | x :: xs, h, ts => by
    funext K
    simp only [argsK, opd_congr (x := x) (fun n e => h n (by simp [e])), args_congr (xs := xs) (fun n hn => h n (by simp [hn]))]
theorem parts_congr {r r' : List PV} {tt : TT} {ft : Nat → Nat} : ∀ {xs : List (Nat × Operand)} (_ : ∀ n, Operand.tmp n ∈ xs.map (·.2) → r[n]? = r'[n]?), partsK r tt ft xs = partsK r' tt ft xs
  | [], _ => rfl
  | (i, x) :: xs, h => by
    funext K
    simp only [partsK, opd_congr (x := x) (fun n e => h n (by simp [e])), parts_congr (xs := xs) (fun n hn => h n (by simp only [List.map_cons, List.mem_cons]; exact Or.inr hn))]
theorem optInt_congr {r r' : List PV} {tt : TT} {x : Option Operand} (h : ∀ n, x = some (.tmp n) → r[n]? = r'[n]?) : optInt r tt x = optInt r' tt x := by
  cases x with
  | none => rfl
  | some x => funext K; simp only [optInt, opd_congr (x := x) (fun n e => h n (by rw [e]))]

theorem opQ_congr {P : Program} {tt : TT} {s s' : St} {o : Oper} (hh : s.heap = s'.heap) (hr : ∀ n, Operand.tmp n ∈ o.op.operands → s.regs[n]? = s'.regs[n]?) : opQ P tt s o = opQ P tt s' o := by
  funext K
  have one : ∀ {x : Operand}, (∀ n, x = .tmp n → Operand.tmp n ∈ o.op.operands) → ∀ t, opd s.regs x t = opd s'.regs x t := fun h t => opd_congr (fun n e => hr n (h n e)) t
  cases hop : o.op <;> simp only [opQ, hop]
  case move x => rw [one (x := x) (fun n e => by simp [hop, Op.operands, e])]
  case assign x => rw [one (x := x) (fun n e => by simp [hop, Op.operands, e])]
  case pick c x y => rw [one (x := c) (fun n e => by simp [hop, Op.operands, e]), one (x := x) (fun n e => by simp [hop, Op.operands, e]), one (x := y) (fun n e => by simp [hop, Op.operands, e])]
  case load t x => rw [one (x := x) (fun n e => by simp [hop, Op.operands, e]), hh]
  case nilCheck x => rw [one (x := x) (fun n e => by simp [hop, Op.operands, e])]
  case binOp op t x y yt => rw [one (x := x) (fun n e => by simp [hop, Op.operands, e]), one (x := y) (fun n e => by simp [hop, Op.operands, e])]
  case unOp op t x => rw [one (x := x) (fun n e => by simp [hop, Op.operands, e])]
  case convert src dst x => rw [one (x := x) (fun n e => by simp [hop, Op.operands, e]), hh]
  case slice t x lo hi mx =>
    cases mx with
    | some m => rfl
    | none =>
      simp only
      rw [one (x := x) (fun n e => by simp [hop, Op.operands, e]), optInt_congr (x := lo) (r' := s'.regs) (fun n e => hr n (by simp [hop, Op.operands, e])), optInt_congr (x := hi) (r' := s'.regs) (fun n e => hr n (by simp [hop, Op.operands, e])), hh]
  case fieldAddr t x f => rw [one (x := x) (fun n e => by simp [hop, Op.operands, e])]
  case field t x f => rw [one (x := x) (fun n e => by simp [hop, Op.operands, e])]
  case indexAddr t x i => rw [one (x := x) (fun n e => by simp [hop, Op.operands, e]), one (x := i) (fun n e => by simp [hop, Op.operands, e]), hh]
  case index t x i => rw [one (x := x) (fun n e => by simp [hop, Op.operands, e]), one (x := i) (fun n e => by simp [hop, Op.operands, e])]
  case extract x i => rw [one (x := x) (fun n e => by simp [hop, Op.operands, e])]
  case build t ps =>
    rw [parts_congr (xs := ps.toList) (r' := s'.regs) (fun n hn => hr n (by
      simp only [hop, Op.operands]
      simpa using hn))]
  case buildSlice t len ps =>
    rw [parts_congr (xs := ps.toList) (r' := s'.regs) (fun n hn => hr n (by
      simp only [hop, Op.operands]
      simpa using hn))]
  case makeSlice t l c => rw [one (x := l) (fun n e => by simp [hop, Op.operands, e]), one (x := c) (fun n e => by simp [hop, Op.operands, e])]
  case makeFunc fn first captured =>
    cases fn <;> simp only
    rw [args_congr (xs := captured.toList) (r' := s'.regs) (fun n hn => hr n (by simp only [hop, Op.operands]; simp at hn ⊢; exact Or.inr hn))]
  case call c =>
    cases hc : c.callee with
    | builtin b =>
      cases b <;> try rfl
      case max =>
        cases hal : c.args.toList with
        | nil => rfl
        | cons x xs =>
          cases xs with
          | nil => rfl
          | cons y ys =>
            cases ys with
            | cons z zs => rfl
            | nil =>
              simp only
              rw [one (x := x) (fun n e => by
                have : x ∈ c.args := by rw [← Array.mem_toList_iff, hal]; simp
                simp only [hop, Op.operands, Call.operands, hc]
                simp; rw [← e]; exact this), one (x := y) (fun n e => by
                have : y ∈ c.args := by rw [← Array.mem_toList_iff, hal]; simp
                simp only [hop, Op.operands, Call.operands, hc]
                simp; rw [← e]; exact this)]
      cases hal : c.args.toList with
      | nil => rfl
      | cons x xs =>
        cases xs with
        | cons y ys => rfl
        | nil =>
          simp only
          cases c.argTypes.toList with
          | nil => rfl
          | cons t ts =>
            simp only
            rw [one (x := x) (fun n e => by
              have : x ∈ c.args := by rw [← Array.mem_toList_iff, hal]; simp
              simp only [hop, Op.operands, Call.operands, hc]
              simp; rw [← e]; exact this), hh]
    | value f =>
      simp only
      rw [one (x := f) (fun n e => by simp [hop, Op.operands, Call.operands, hc, e]), args_congr (xs := c.args.toList) (r' := s'.regs) (fun n hn => hr n (by simp only [hop, Op.operands, Call.operands, hc]; simp at hn ⊢; exact Or.inr hn)), hh]
    | invoke r m => rfl

end Go.Proofs.Ytjolahiflldepab.Pi
