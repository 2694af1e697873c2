/- Small helps for the walks. No statement of the seat is proved here. -/
import Derived.Test.YtnafogjagbhdbaaDoorPiTok
import Derived.Test.YtnafogjagbhdbaaDoorPiGlue
namespace Go.Proofs.YtnafogjagbhdbaaDoor.Pi
open Go Go.RowKit
set_option linter.unusedVariables false

theorem LoopL.step {B : St → (Ex → St → Prop) → Prop} {live : List Nat} {Q : Ex → St → Prop} {s : St}
    (h : B s fun e s' => match e with | .normal => cleanK live s' (LoopL B live Q) | e => Q e s') : LoopL B live Q s :=
  .mk s _ h (fun s' s'' hk hR => hR _ hk) (fun e s' hne hk => by
    cases e with
    | normal => exact absurd rfl hne
    | exit i => exact hk
    | ret => exact hk)

theorem Pick.w64 {n : Int} {K : Int → Prop} (h0 : -9223372036854775808 ≤ n ∧ n ≤ 9223372036854775807) (h : K n) : Pick (fun z => IntKind.i64.wrap n = z) K :=
  ⟨n, wrap_i64 (by omega) (by omega), h⟩

theorem Pick.at64 {n z : Int} {K : Int → Prop} (e : n = z) (h0 : -9223372036854775808 ≤ z ∧ z ≤ 9223372036854775807) (h : K z) : Pick (fun z => IntKind.i64.wrap n = z) K :=
  ⟨z, by rw [e]; exact wrap_i64 (by omega) (by omega), h⟩

theorem Pick.draw {ops : Array Oper} {K : Nat → Prop} (_h0 : noM ops.toList = true) (h : (drawB ops ops.size && !Nat.ble 2000 ops.size) = true) (k : K ops.size) : Pick (drawR2 ops) K := ⟨_, .inl (.inl (by rw [Bool.and_eq_true, Bool.not_eq_true'] at h; exact h)), k⟩
theorem Pick.drawM {ops : Array Oper} {K : Nat → Prop} (h : drawF ops (mIx ops.toList 0) = true) (k : K (2000 + mIx ops.toList 0)) : Pick (drawR2 ops) K := ⟨_, .inr ⟨by omega, by rw [Nat.add_sub_cancel_left]; exact h⟩, k⟩
theorem Pick.drawS {ops : Array Oper} {K : Nat → Prop} (h : drawF ops (1000 + mIx ops.toList 0) = true) (k : K (2000 + (1000 + mIx ops.toList 0))) : Pick (drawR2 ops) K := ⟨_, .inr ⟨by omega, by rw [Nat.add_sub_cancel_left]; exact h⟩, k⟩
theorem Pick.drawA {ops : Array Oper} {K : Nat → Prop} (h : drawF ops (3000 + mIx ops.toList 0) = true) (k : K (2000 + (3000 + mIx ops.toList 0))) : Pick (drawR2 ops) K := ⟨_, .inr ⟨by omega, by rw [Nat.add_sub_cancel_left]; exact h⟩, k⟩
theorem Pick.drawC {ops : Array Oper} {K : Nat → Prop} (n : Nat) (h : drawF ops (2000 + n) = true) (k : K (2000 + (2000 + n))) : Pick (drawR2 ops) K := ⟨_, .inr ⟨by omega, by rw [Nat.add_sub_cancel_left]; exact h⟩, k⟩
theorem Pick.drawAt {ops : Array Oper} {K : Nat → Prop} (n : Nat) (h : (drawB ops n && !Nat.ble 2000 n) = true) (k : K n) : Pick (drawR2 ops) K := ⟨_, .inl (.inl (by rw [Bool.and_eq_true, Bool.not_eq_true'] at h; exact h)), k⟩
theorem Pick.drawFAt {ops : Array Oper} {K : Nat → Prop} (n : Nat) (h : drawF ops n = true) (k : K (2000 + n)) : Pick (drawR2 ops) K := ⟨_, .inr ⟨by omega, by rw [Nat.add_sub_cancel_left]; exact h⟩, k⟩

theorem B0 {A B : Prop} (h : B) : Br false A B := Br.no h
theorem B1 {A B : Prop} (h : A) : Br true A B := Br.yes h
theorem D1 {ops : Array Oper} {K : Nat → Prop} (k : K ops.size) (h0 : noM ops.toList = true := by exact rfl) (h : (drawB ops ops.size && !Nat.ble 2000 ops.size) = true := by kernel_rfl) : Pick (drawR2 ops) K := Pick.draw h0 h k
theorem D2 {ops : Array Oper} {K : Nat → Prop} (k : K (2000 + mIx ops.toList 0)) (h : drawF ops (mIx ops.toList 0) = true := by kernel_rfl) : Pick (drawR2 ops) K := Pick.drawM h k

def stRegs : Nat → Nat → List (Nat × PV) → List PV
  | _, 0, _ => []
  | i, n + 1, ps => (match ps with
    | [] => .one .dead
    | (j, v) :: _ => match Nat.beq i j with | true => v | false => .one .dead) :: stRegs (i + 1) n (match ps with
    | [] => []
    | (j, v) :: ps => match Nat.beq i j with | true => ps | false => (j, v) :: ps)
def stOf (n : Nat) (ps : List (Nat × PV)) (h : Heap) : St := ⟨stRegs 0 n ps, h⟩

theorem LoopL.run {α : Type} {B : St → (Ex → St → Prop) → Prop} {live : List Nat} {Q : Ex → St → Prop} (S : α → St) (m : α → Nat) (inv : α → Prop)
    (h : ∀ a, inv a → (∀ b, inv b → m b < m a → LoopL B live Q (S b)) → B (S a) fun e s' => match e with | .normal => cleanK live s' (LoopL B live Q) | e => Q e s') (a : α) (ha : inv a) {s0 : St} (he : S a = s0 := by rfl) : LoopL B live Q s0 := by
  subst he
  have : ∀ (n : Nat) (a : α), m a < n → inv a → LoopL B live Q (S a) := fun n => by
    induction n with
    | zero => intro a h; omega
    | succ n ih => exact fun a hn ha => LoopL.step (h a ha fun b hb hlt => ih b (by omega) hb)
  exact this _ a (Nat.lt_succ_self _) ha

def ovR : Nat → List PV → List (Nat × PV) → List PV
  | _, [], _ => []
  | i, r :: rs, ps => match ps with
    | [] => r :: rs
    | (j, v) :: ps' => match Nat.beq i j with
      | true => v :: ovR (i + 1) rs ps'
      | false => r :: ovR (i + 1) rs ((j, v) :: ps')
def ovH : Heap → Heap → Heap
  | h, [] => h
  | h, (k, o) :: ps => ovH (setOb h k o) ps
def ovS (s : St) (ps : List (Nat × PV)) (os : Heap) : St := ⟨ovR 0 s.regs ps, ovH s.heap os⟩

theorem LoopL.over {α : Type} {B : St → (Ex → St → Prop) → Prop} {live : List Nat} {Q : Ex → St → Prop} {s0 : St} (f : α → List (Nat × PV)) (g : α → Heap) (m : α → Nat) (inv : α → Prop)
    (h : ∀ a, inv a → (∀ b, inv b → m b < m a → LoopL B live Q (ovS s0 (f b) (g b))) → force (ovS s0 (f a) (g a)) fun s => B s fun e s' => match e with | .normal => cleanK live s' (LoopL B live Q) | e => Q e s') (a : α) (ha : inv a) (he : ovS s0 (f a) (g a) = s0 := by rfl) : LoopL B live Q s0 := by
  have := LoopL.run (B := B) (live := live) (Q := Q) (fun a => ovS s0 (f a) (g a)) m inv (fun a ha ih => by have := h a ha ih; rwa [force_eq] at this) a ha rfl
  rw [he] at this
  exact this

theorem pwp_cut {P : Program} {tt : TT} {a b : Code} {s : St} {Q : Ex → St → Prop} (h : ∀ K : St → Prop, (∀ s', pwp P tt b s' Q → K s') → pwp P tt a s (fun e s' => match e with | .normal => K s' | e => Q e s')) : pwp P tt (.seq a b) s Q := h (fun s' => pwp P tt b s' Q) (fun _ h => h)
theorem pwp_into {P : Program} {tt : TT} {id : Nat} {c : Code} {s : St} {Q : Ex → St → Prop} (h : pwp P tt c s (fun e s' => match e with
    | .exit i => (match Nat.beq i id with | true => Q .normal s' | false => Q (.exit i) s')
    | e => Q e s')) : pwp P tt (.block id c) s Q := h

end Go.Proofs.YtnafogjagbhdbaaDoor.Pi
