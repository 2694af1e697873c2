/- The invariant between abstract states and machine states, and what keeps it. No statement of the seat is proved here. -/
import Derived.Test.YtjolahiflldepabPiS1
namespace Go.Proofs.Ytjolahiflldepab.Pi
open Go Go.RowKit
set_option linter.unusedVariables false

/-- What is fixed during a call: the world at its begin, the blocks that it may write, those that it may read for ever. -/
structure Ctx where
  w0 : World
  O : Nat → Prop
  I0 : Nat → Prop
  hO : ∀ b, w0.heap.size ≤ b → O b
  L0 : Lay

structure Frame' (C : Ctx) (w : World) : Prop where
  os : w.os = C.w0.os
  tape : w.tape = C.w0.tape
  output : w.output = C.w0.output
  size : C.w0.heap.size ≤ w.heap.size
  block : ∀ b, b < C.w0.heap.size → ¬ C.O b → w.heap[b]? = C.w0.heap[b]?

structure Inv (C : Ctx) (L : Lay) (I : Nat → Prop) (s : St) (a : Act) (w : World) : Prop where
  len : a.tmps.size = s.regs.length
  regs : ∀ (t : Nat) (pv : PV) (v : Value), s.regs[t]? = some pv → a.tmps[t]? = some v → RepP L s.heap I w v pv
  heap : HeapOK C.O L s.heap I w
  Ib : ∀ b, I b → b < w.heap.size
  Io : ∀ b, b < C.w0.heap.size → I b → C.I0 b ∨ C.O b
  fr : Frame' C w
  defers : a.defers = []
  pin : ∀ k o, pinK k = true → find s.heap k = some o → L.blk k = C.L0.blk k ∧ L.cap k = C.L0.cap k

def Ob.shape : Ob → Nat × Nat × Nat
  | .box cs => (0, 0, cs.length)
  | .arr sz rows => (1, sz, rows.length)
  | .deep a sz rows => (match a with | true => 2 | false => 3, sz, rows.length)

/-- The new heap knows what the old one knew, in the same shape and at the same place. -/
def Knows (L : Lay) (H : Heap) (L' : Lay) (H' : Heap) (q : Nat → Prop) : Prop :=
  ∀ j o, q j → find H j = some o → (∃ o', find H' j = some o' ∧ o'.shape = o.shape) ∧ L'.blk j = L.blk j ∧ L'.cap j = L.cap j ∧ L'.hd j = L.hd j

/-- An object lies as it lay. -/
abbrev Same (L L' : Lay) (j : Nat) : Prop := L'.blk j = L.blk j ∧ L'.cap j = L.cap j ∧ L'.fp j = L.fp j ∧ L'.hd j = L.hd j
theorem Same.rfl {L : Lay} {j : Nat} : Same L L j := ⟨Eq.refl _, Eq.refl _, Eq.refl _, Eq.refl _⟩

theorem shape_deep {o' : Ob} {a : Bool} {sz : Nat} {rows : List (List CV)} (h : o'.shape = (Ob.deep a sz rows).shape) : ∃ rows', o' = .deep a sz rows' ∧ rows'.length = rows.length := by
  cases o' with
  | box cs => cases a <;> simp [Ob.shape] at h
  | arr sz' rows' => cases a <;> simp [Ob.shape] at h
  | deep a' sz' rows' => cases a <;> cases a' <;> simp [Ob.shape] at h <;> exact ⟨rows', by rw [h.1], h.2⟩

theorem shape_arr {o' : Ob} {sz : Nat} {rows : List (List CV)} (h : o'.shape = (Ob.arr sz rows).shape) : ∃ rows', o' = .arr sz rows' ∧ rows'.length = rows.length := by
  cases o' with
  | box cs => simp [Ob.shape] at h
  | deep a' sz' rows' => cases a' <;> simp [Ob.shape] at h
  | arr sz' rows' => simp only [Ob.shape, Prod.mk.injEq, true_and] at h; exact ⟨rows', by rw [h.1], h.2⟩
theorem shape_box {o' : Ob} {cs : List XV} (h : o'.shape = (Ob.box cs).shape) : ∃ cs', o' = .box cs' ∧ cs'.length = cs.length := by
  cases o' with
  | arr sz rows => simp [Ob.shape] at h
  | deep a' sz' rows' => cases a' <;> simp [Ob.shape] at h
  | box cs' => simp only [Ob.shape, Prod.mk.injEq, true_and] at h; exact ⟨cs', rfl, h⟩

theorem RepX.ext {L L' : Lay} {H H' : Heap} {I I' : Nat → Prop} {w w' : World} {q : Nat → Prop} (hk : Knows L H L' H' q) (hI : ∀ b, I b → I' b) (hw : ∀ b, I b → w'.heap[b]? = w.heap[b]?)
    {v : Value} {x : XV} (hq : ∀ k, x.key? = some k → q k) (h : RepX L H I w v x) : RepX L' H' I' w' v x := by
  cases x with
  | c y => exact RepC.mono hI hw h
  | nil sz => exact h
  | undef => exact h
  | dead => trivial
  | rs k =>
    obtain ⟨sz, rows, h1, h2⟩ := h
    obtain ⟨⟨o', h3, h4⟩, hb, hc, hh⟩ := hk k _ (hq k rfl) h1
    obtain ⟨rows', rfl, hl⟩ := shape_arr h4
    exact ⟨sz, rows', h3, by rw [hb, hc, hl]; exact h2⟩
  | ru k off len =>
    obtain ⟨sz, rows, h1, h5, h2⟩ := h
    obtain ⟨⟨o', h3, h4⟩, hb, hc, hh⟩ := hk k _ (hq k rfl) h1
    obtain ⟨rows', rfl, hl⟩ := shape_arr h4
    exact ⟨sz, rows', h3, by omega, by rw [hb, hc]; exact h2⟩
  | pb k off len =>
    obtain ⟨cs, b, h1, h2, h5, h6⟩ := h
    obtain ⟨⟨o', h3, h4⟩, hb, hc, hh⟩ := hk k _ (hq k rfl) h1
    obtain ⟨cs', rfl, hl⟩ := shape_box h4
    exact ⟨cs', b, h3, by rw [hb, h2], by omega, h6⟩
  | pe k row off len =>
    obtain ⟨sz, rows, b, h1, h2, h5, h6, h7⟩ := h
    obtain ⟨⟨o', h3, h4⟩, hb, hc, hh⟩ := hk k _ (hq k rfl) h1
    obtain ⟨rows', rfl, hl⟩ := shape_arr h4
    exact ⟨sz, rows', b, h3, by rw [hb, h2], by omega, h6, h7⟩
  | ds k =>
    obtain ⟨a, sz, rows, h1, h2⟩ := h
    obtain ⟨⟨o', h3, h4⟩, hb, hc, hh⟩ := hk k _ (hq k rfl) h1
    obtain ⟨rows', rfl, hl⟩ := shape_deep h4
    exact ⟨a, sz, rows', h3, by rw [hb, hc, hl]; exact h2⟩
  | dp k row off len =>
    obtain ⟨a, sz, rows, b, h1, h2, h5, h6, h7⟩ := h
    obtain ⟨⟨o', h3, h4⟩, hb, hc, hh⟩ := hk k _ (hq k rfl) h1
    obtain ⟨rows', rfl, hl⟩ := shape_deep h4
    exact ⟨a, sz, rows', b, h3, by rw [hb, h2], by omega, h6, h7⟩
  | dn k row j =>
    obtain ⟨a, sz, rows, h1, h2, h5, h6⟩ := h
    obtain ⟨⟨o', h3, h4⟩, hb, hc, hh⟩ := hk k _ (hq k rfl) h1
    obtain ⟨rows', rfl, hl⟩ := shape_deep h4
    exact ⟨a, sz, rows', h3, by omega, by rw [hh]; exact h5, h6⟩
  | fb f cs k n ds =>
    obtain ⟨vs, cells, b, g1, h1, g2, g3, g4, g5, g6, g7⟩ := h
    obtain ⟨⟨o', h3, h4⟩, hb, hc, hh⟩ := hk k _ (hq k rfl) h1
    obtain ⟨cs', rfl, hl⟩ := shape_box h4
    exact ⟨vs, cs', b, g1, h3, by rw [hb, g2], by omega, g4, fun i c u q1 q2 => (g5 i c u q1 q2).mono hI hw, g6, fun i c u q1 q2 => (g7 i c u q1 q2).mono hI hw⟩

/-- An object whose block has not turned. -/
theorem RepO.ext {L L' : Lay} {H H' : Heap} {I I' : Nat → Prop} {w w' : World} {k : Nat} {o : Ob} {f : XV → XV} (hf : ∀ v x, RepX L H I w v x → RepX L' H' I' w' v (f x)) (hI : ∀ b, I b → I' b) (hw : ∀ b, I b → w'.heap[b]? = w.heap[b]?)
    (hs : Same L L' k) (hb : ∀ b, Foot L k b → w'.heap[b]? = w.heap[b]?) (h : RepO L H I w k o) : RepO L' H' I' w' k (o.map f) := by
  obtain ⟨hbk, hck, hfk, hhk⟩ := hs
  cases o with
  | deep a sz rows =>
    simp only [RepO, Ob.map] at h ⊢
    rw [hbk, hck, hfk, hhk]
    cases hL : L.blk k with
    | none => simpa [hL] using h
    | some b =>
      simp only [hL] at h ⊢
      exact ⟨h.1.mono (fun _ h => h) (hb b (.inl hL)) fun b' hb' => hb b' (.inr hb'), h.2⟩
  | box cs =>
    obtain ⟨b, vs, e, fr, h1, h2, h3, h5, h4⟩ := h
    exact ⟨b, vs, e, fr, by rw [hbk, h1], by rw [hb b (.inl h1), h2], fun o ho => by rw [frozen_of_block (p := ⟨b, o, none⟩) (hb b (.inl h1))]; exact h3 o ho, h5, h4.map' hf⟩
  | arr sz rows =>
    simp only [RepO, Ob.map] at h ⊢
    rw [hbk]
    cases hL : L.blk k with
    | none => simpa [hL] using h
    | some b =>
      simp only [hL] at h ⊢
      obtain ⟨h1, h2, vs, e, fr, h3, h4, h5, h6⟩ := h
      refine ⟨by rw [hck]; exact h1, h2, vs, e, fr, by rw [hb b (.inl hL), h3], by rw [hck]; exact h4, fun o ho => by rw [frozen_of_block (p := ⟨b, o, none⟩) (hb b (.inl hL))]; exact h5 o ho, fun i r j c g1 g2 => ?_⟩
      obtain ⟨v, g3, g4⟩ := h6 i r j c g1 g2
      exact ⟨v, g3, g4.mono hI hw⟩

theorem Ob.map_id' (o : Ob) : o.map (fun y => y) = o := by cases o <;> simp [Ob.map]

theorem RepO.ext' {L L' : Lay} {H H' : Heap} {I I' : Nat → Prop} {w w' : World} {k : Nat} {o : Ob} (hf : ∀ v x, RepX L H I w v x → RepX L' H' I' w' v x) (hI : ∀ b, I b → I' b) (hw : ∀ b, I b → w'.heap[b]? = w.heap[b]?)
    (hs : Same L L' k) (hb : ∀ b, Foot L k b → w'.heap[b]? = w.heap[b]?) (h : RepO L H I w k o) : RepO L' H' I' w' k o := by
  have := RepO.ext (f := fun y => y) hf hI hw hs hb h
  rwa [Ob.map_id'] at this

/-- THE GENERAL CHANGE: the references are mapped by 'f', some objects go, the world grows. -/
theorem Inv.change {C : Ctx} {L L' : Lay} {I I' : Nat → Prop} {s s' : St} {a : Act} {w w' : World} {f : XV → XV} (hi : Inv C L I s a w)
    (hf : ∀ v x, RepX L s.heap I w v x → RepX L' s'.heap I' w' v (f x)) (hregs : s'.regs = s.regs.map (PV.map f))
    (hheap : HeapOK C.O L' s'.heap I' w') (hIb : ∀ b, I' b → b < w'.heap.size) (hIo : ∀ b, b < C.w0.heap.size → I' b → C.I0 b ∨ C.O b) (hfr : Frame' C w') (hpin : ∀ k o, pinK k = true → find s'.heap k = some o → ∃ o', find s.heap k = some o' ∧ L'.blk k = L.blk k ∧ L'.cap k = L.cap k) : Inv C L' I' s' a w' where
  len := by rw [hregs]; simpa using hi.len
  regs := fun t pv v h1 h2 => by
    rw [hregs, List.getElem?_map] at h1
    cases h3 : s.regs[t]? with
    | none => simp [h3] at h1
    | some p => simp only [h3, Option.map_some, Option.some.injEq] at h1; subst h1; exact (hi.regs t p v h3 h2).map' hf
  heap := hheap
  Ib := hIb
  Io := hIo
  fr := hfr
  defers := hi.defers
  pin := fun k o h1 h2 => by
    obtain ⟨o', h3, h4, h5⟩ := hpin k o h1 h2
    rw [h4, h5]; exact hi.pin k o' h1 h3

theorem map_id_regs (l : List PV) : l.map (PV.map fun y => y) = l := by
  rw [show (PV.map fun y => y) = id from funext PV.map_id']; simp

/-- Only the world grows: old blocks are as they were. -/
theorem Inv.grow {C : Ctx} {L : Lay} {I : Nat → Prop} {s : St} {a : Act} {w w' : World} (hi : Inv C L I s a w)
    (hb : ∀ b, b < w.heap.size → w'.heap[b]? = w.heap[b]?) (hsz : w.heap.size ≤ w'.heap.size) (h1 : w'.os = w.os) (h2 : w'.tape = w.tape) (h3 : w'.output = w.output) : Inv C L I s a w' := by
  have hw : ∀ b, I b → w'.heap[b]? = w.heap[b]? := fun b hb' => hb b (hi.Ib b hb')
  have hf : ∀ v x, RepX L s.heap I w v x → RepX L s.heap I w' v x := fun v x h => h.mono (fun _ h => h) hw
  refine hi.change (f := fun y => y) hf (map_id_regs _).symm ?_ (fun b h => Nat.lt_of_lt_of_le (hi.Ib b h) hsz) hi.Io ?_ ?_
  · exact ⟨fun k o h => (hi.heap.ob k o h).ext' hf (fun _ h => h) hw .rfl (fun b hb' => hb b (hi.heap.own k o b h hb').2.2), fun k o b g1 g2 => ⟨(hi.heap.own k o b g1 g2).1, (hi.heap.own k o b g1 g2).2.1, Nat.lt_of_lt_of_le (hi.heap.own k o b g1 g2).2.2 hsz⟩, hi.heap.inj⟩
  · exact ⟨h1.trans hi.fr.os, h2.trans hi.fr.tape, h3.trans hi.fr.output, Nat.le_trans hi.fr.size hsz, fun b g1 g2 => (hb b (Nat.lt_of_lt_of_le g1 hi.fr.size)).trans (hi.fr.block b g1 g2)⟩
  · exact fun k o _ h => ⟨o, h, rfl, rfl⟩

theorem RepX.kill {L : Lay} {H H' : Heap} {I : Nat → Prop} {w : World} {k : Nat} (hH : ∀ j, j ≠ k → (find H' j = none ↔ find H j = none)) (hS : ∀ j o, j ≠ k → find H j = some o → ∃ o', find H' j = some o' ∧ o'.shape = o.shape) {v : Value} {x : XV} (h : RepX L H I w v x) : RepX L H' I w v (x.kill k) := by
  unfold XV.kill
  cases hx : x.key? with
  | none => exact RepX.ext (q := fun _ => False) (fun j o hq => hq.elim) (fun _ h => h) (fun _ _ => rfl) (fun k' h' => by rw [hx] at h'; cases h') h
  | some k' =>
    simp only
    cases hb : Nat.beq k' k with
    | true => trivial
    | false =>
      have hne := beq_false.1 hb
      exact RepX.ext (q := fun j => j ≠ k) (fun j o hq hj => ⟨hS j o hq hj, rfl, rfl, rfl⟩) (fun _ h => h) (fun _ _ => rfl) (fun k'' h' => by rw [hx] at h'; cases h'; exact hne) h

theorem shape_map (f : XV → XV) (o : Ob) : (o.map f).shape = o.shape := by cases o <;> simp [Ob.map, Ob.shape]

theorem killK_inv {C : Ctx} {L : Lay} {I : Nat → Prop} {s : St} {a : Act} {w : World} {k : Nat} {K : St → Prop} (hK : killK k s K) (hi : Inv C L I s a w) :
    ∃ s', K s' ∧ Inv C L I s' a w ∧ find s'.heap k = none ∧ (∀ j, j ≠ k → find s'.heap j = (find s.heap j).map (Ob.map (XV.kill k))) ∧ (∀ v x, RepX L s.heap I w v x → x.key? ≠ some k → RepX L s'.heap I w v x) := by
  unfold killK at hK
  cases hfd : find s.heap k with
  | none =>
    simp only [hfd] at hK
    refine ⟨s, hK, hi, hfd, fun j hj => ?_, fun v x h _ => h⟩
    cases hj' : find s.heap j with
    | none => rfl
    | some o =>
      have ho := hi.heap.ob j o hj'
      simp only [Option.map_some, Option.some.injEq]
      cases o with
      | arr sz rows => rfl
      | deep a sz rows => rfl
      | box cs =>
        obtain ⟨b, vs, e, fr, _, _, _, _, hsz, hr⟩ := ho
        simp only [Ob.map, Ob.box.injEq]
        refine (List.ext_getElem? fun i => ?_)
        rw [List.getElem?_map]
        cases hx : cs[i]? with
        | none => rfl
        | some x =>
          have hlt : i < vs.size := by rw [hsz]; exact (List.getElem?_eq_some_iff.1 hx).1
          have hrx := hr i x vs[i] hx (Array.getElem?_eq_getElem hlt)
          simp only [Option.map_some, Option.some.injEq]
          unfold XV.kill
          cases hk : x.key? with
          | none => rfl
          | some k' =>
            simp only
            cases hb : Nat.beq k' k with
            | false => rfl
            | true =>
              exfalso
              have e := beq_iff.1 hb
              subst e
              cases x <;> simp only [XV.key?, Option.some.injEq, reduceCtorEq] at hk <;> subst hk <;> simp only [RepX, hfd] at hrx <;> simp at hrx
  | some o =>
    simp only [hfd, force_eq] at hK
    have hfind : ∀ j, find ((del k s.heap).mapX (XV.kill k)) j = if j = k then none else (find s.heap j).map (Ob.map (XV.kill k)) := fun j => by
      rw [find_mapX, find_del]; split <;> rfl
    have hH : ∀ j, j ≠ k → (find ((del k s.heap).mapX (XV.kill k)) j = none ↔ find s.heap j = none) := fun j hj => by rw [hfind, if_neg hj]; simp
    have hS : ∀ j o, j ≠ k → find s.heap j = some o → ∃ o', find ((del k s.heap).mapX (XV.kill k)) j = some o' ∧ o'.shape = o.shape := fun j o hj h => ⟨o.map (XV.kill k), by rw [hfind, if_neg hj, h]; rfl, shape_map _ _⟩
    have hf : ∀ v x, RepX L s.heap I w v x → RepX L ((del k s.heap).mapX (XV.kill k)) I w v (x.kill k) := fun v x h => RepX.kill hH hS h
    refine ⟨_, hK, hi.change (f := XV.kill k) hf rfl ?_ hi.Ib hi.Io hi.fr (fun j o _ h => by
      simp only [hfind] at h
      split at h
      · cases h
      · cases h2 : find s.heap j with
        | none => simp [h2] at h
        | some o2 => exact ⟨o2, rfl, rfl, rfl⟩), by simp [hfind], fun j hj => by simp only [hfind, if_neg hj], fun v x h hx => ?_⟩
    · refine ⟨fun j o' h => ?_, fun j o' b h hb => ?_, fun j j' o1 o2 b h h' hb hb' => ?_⟩
      · simp only [hfind] at h
        by_cases hj : j = k
        · simp [hj] at h
        · rw [if_neg hj] at h
          cases h2 : find s.heap j with
          | none => simp [h2] at h
          | some o2 =>
            simp only [h2, Option.map_some, Option.some.injEq] at h
            subst h
            exact (hi.heap.ob j o2 h2).ext hf (fun _ h => h) (fun _ _ => rfl) .rfl (fun _ _ => rfl)
      · simp only [hfind] at h
        by_cases hj : j = k
        · simp [hj] at h
        · rw [if_neg hj] at h
          cases h2 : find s.heap j with
          | none => simp [h2] at h
          | some o2 => exact hi.heap.own j o2 b h2 hb
      · simp only [hfind] at h h'
        by_cases hj : j = k
        · simp [hj] at h
        · by_cases hj2 : j' = k
          · simp [hj2] at h'
          · rw [if_neg hj] at h; rw [if_neg hj2] at h'
            cases h2 : find s.heap j with
            | none => simp [h2] at h
            | some o3 =>
              cases h3 : find s.heap j' with
              | none => simp [h3] at h'
              | some o4 => exact hi.heap.inj j j' o3 o4 b h2 h3 hb hb'
    · have := hf v x h
      have e : x.kill k = x := by
        unfold XV.kill
        cases hk : x.key? with
        | none => rfl
        | some k' =>
          simp only
          cases hb : Nat.beq k' k with
          | false => rfl
          | true => exact absurd (by rw [hk, beq_iff.1 hb]) hx
      rwa [e] at this

def Lay.updD (L : Lay) (k : Nat) (nb : Option Nat) (cap : Nat) (fp : Nat → Prop) (hd : Nat → Value) : Lay := ⟨fun j => if j = k then nb else L.blk j, fun j => if j = k then cap else L.cap j, fun j => if j = k then fp else L.fp j, fun j => if j = k then hd else L.hd j⟩
def Lay.upd (L : Lay) (k : Nat) (nb : Option Nat) (cap : Nat) : Lay := L.updD k nb cap (fun _ => False) (fun _ => undef)
theorem Lay.updD_same (L : Lay) {k j : Nat} {nb : Option Nat} {cap : Nat} {fp : Nat → Prop} {hd : Nat → Value} (h : j ≠ k) : Same L (L.updD k nb cap fp hd) j := ⟨by simp [Lay.updD, h], by simp [Lay.updD, h], by simp [Lay.updD, h], by simp [Lay.updD, h]⟩

/-- A NEW OBJECT, in new blocks or (an empty own slice) in none. -/
theorem newK_invD {C : Ctx} {L : Lay} {I : Nat → Prop} {s : St} {a : Act} {w w' : World} {k : Nat} {o : Ob} {K : St → Prop} (hK : newK k o s K) (hi : Inv C L I s a w)
    (hb : ∀ b, b < w.heap.size → w'.heap[b]? = w.heap[b]?) (hsz : w.heap.size ≤ w'.heap.size) (h1 : w'.os = w.os) (h2 : w'.tape = w.tape) (h3 : w'.output = w.output)
    (nb : Option Nat) (cap : Nat) (fp : Nat → Prop) (hd : Nat → Value) (hnb : ∀ b, (nb = some b ∨ fp b) → C.O b ∧ ¬ I b ∧ b < w'.heap.size ∧ ∀ j o', j ≠ k → find s.heap j = some o' → ¬ Foot L j b)
    (hrep : ∀ H', find H' k = some o → (∀ v x, RepX L s.heap I w v x → x.key? ≠ some k → RepX (L.updD k nb cap fp hd) H' I w' v x) → RepO (L.updD k nb cap fp hd) H' I w' k o) :
    ∃ s', K s' ∧ Inv C (L.updD k nb cap fp hd) I s' a w' ∧ find s'.heap k = some o ∧ (∀ v x, RepX L s.heap I w v x → x.key? ≠ some k → RepX (L.updD k nb cap fp hd) s'.heap I w' v x) ∧ (∀ j, j ≠ k → find s'.heap j = (find s.heap j).map (Ob.map (XV.kill k))) := by
  unfold newK at hK
  split at hK
  case h_1 => exact hK.elim
  rename_i hlt
  have hlt : pinK k = false := hlt
  obtain ⟨s1, hK, hi1, hn, hfs, hkeep⟩ := killK_inv hK hi
  obtain ⟨r1, H1⟩ := s1
  simp only [forceH_eq] at hK
  have hback : ∀ j, j ≠ k → ∀ o2, find H1 j = some o2 → ∃ o3, find s.heap j = some o3 := fun j hj o2 h => by
    rw [hfs j hj] at h
    cases h3 : find s.heap j with
    | none => simp [h3] at h
    | some o3 => exact ⟨o3, rfl⟩
  have hfind := find_ins k o H1
  have hw : ∀ b, I b → w'.heap[b]? = w.heap[b]? := fun b h => hb b (hi.Ib b h)
  have hsame : ∀ {j}, j ≠ k → Same L (L.updD k nb cap fp hd) j := fun h => L.updD_same h
  have hfoot : ∀ {j b}, j ≠ k → Foot (L.updD k nb cap fp hd) j b → Foot L j b := fun {j b} h hf => by
    obtain ⟨e1, _, e3, _⟩ := hsame h
    rcases hf with hf | hf
    · exact .inl (e1 ▸ hf)
    · exact .inr (e3 ▸ hf)
  have hnew : ∀ {b}, Foot (L.updD k nb cap fp hd) k b → nb = some b ∨ fp b := fun {b} hf => by simpa [Foot, Lay.updD] using hf
  have hf : ∀ v x, RepX L H1 I w v x → RepX (L.updD k nb cap fp hd) (ins k o H1) I w' v x := fun v x h => by
    refine RepX.ext (q := fun j => j ≠ k) (fun j o' hq hj => ⟨⟨o', by rw [hfind j hn, if_neg hq, hj], rfl⟩, (hsame hq).1, (hsame hq).2.1, (hsame hq).2.2.2⟩) (fun _ h => h) hw (fun j hj e => ?_) h
    subst e
    cases x <;> simp only [XV.key?, Option.some.injEq, reduceCtorEq] at hj <;> subst hj <;> simp only [RepX, hn] at h <;> simp at h
  have hall : ∀ v x, RepX L s.heap I w v x → x.key? ≠ some k → RepX (L.updD k nb cap fp hd) (ins k o H1) I w' v x := fun v x h hx => hf v x (hkeep v x h hx)
  refine ⟨_, hK, hi1.change (f := fun y => y) hf (map_id_regs _).symm ?_ (fun b h => Nat.lt_of_lt_of_le (hi.Ib b h) hsz) hi.Io ?_ ?_, by simp [hfind k hn], hall, fun j hj => by simp only [hfind j hn, if_neg hj]; exact hfs j hj⟩
  · refine ⟨fun j o' h => ?_, fun j o' b h hbk => ?_, fun j j' o1 o2 b h h' hbk hbk' => ?_⟩
    · by_cases hj : j = k
      · subst hj
        have e : o' = o := by simpa [hfind j hn] using h.symm
        subst e
        exact hrep _ h hall
      · have h' : find H1 j = some o' := by simpa [hfind j hn, hj] using h
        exact (hi1.heap.ob j o' h').ext' hf (fun _ h => h) hw (hsame hj) (fun b hb' => hb b (hi1.heap.own j o' b h' hb').2.2)
    · by_cases hj : j = k
      · subst hj
        obtain ⟨g1, g2, g3, _⟩ := hnb b (hnew hbk)
        exact ⟨g1, g2, g3⟩
      · have h' : find H1 j = some o' := by simpa [hfind j hn, hj] using h
        have := hi1.heap.own j o' b h' (hfoot hj hbk)
        exact ⟨this.1, this.2.1, Nat.lt_of_lt_of_le this.2.2 hsz⟩
    · by_cases hj : j = k
      · by_cases hj2 : j' = k
        · rw [hj, hj2]
        · exfalso
          have hbk1 := hnew (hj ▸ hbk)
          have h2' : find H1 j' = some o2 := by simpa [hfind j' hn, hj2] using h'
          obtain ⟨o3, h3'⟩ := hback j' hj2 o2 h2'
          exact (hnb b hbk1).2.2.2 j' o3 hj2 h3' (hfoot hj2 hbk')
      · by_cases hj2 : j' = k
        · exfalso
          have hbk1 := hnew (hj2 ▸ hbk')
          have h2' : find H1 j = some o1 := by simpa [hfind j hn, hj] using h
          obtain ⟨o3, h3'⟩ := hback j hj o1 h2'
          exact (hnb b hbk1).2.2.2 j o3 hj h3' (hfoot hj hbk)
        · exact hi1.heap.inj j j' o1 o2 b (by simpa [hfind j hn, hj] using h) (by simpa [hfind j' hn, hj2] using h') (hfoot hj hbk) (hfoot hj2 hbk')
  · exact ⟨h1.trans hi.fr.os, h2.trans hi.fr.tape, h3.trans hi.fr.output, Nat.le_trans hi.fr.size hsz, fun b g1 g2 => (hb b (Nat.lt_of_lt_of_le g1 hi.fr.size)).trans (hi.fr.block b g1 g2)⟩
  · intro j o' hj h
    have hne : j ≠ k := fun e => by rw [e, hlt] at hj; cases hj
    exact ⟨o', by simpa [hfind j hn, hne] using h, (hsame hne).1, (hsame hne).2.1⟩

/-- A NEW OBJECT, in a new block or (an empty own slice) in none. -/
theorem newK_inv {C : Ctx} {L : Lay} {I : Nat → Prop} {s : St} {a : Act} {w w' : World} {k : Nat} {o : Ob} {K : St → Prop} (hK : newK k o s K) (hi : Inv C L I s a w)
    (hb : ∀ b, b < w.heap.size → w'.heap[b]? = w.heap[b]?) (hsz : w.heap.size ≤ w'.heap.size) (h1 : w'.os = w.os) (h2 : w'.tape = w.tape) (h3 : w'.output = w.output)
    (nb : Option Nat) (cap : Nat) (hnb : ∀ b, nb = some b → C.O b ∧ ¬ I b ∧ b < w'.heap.size ∧ ∀ j o', j ≠ k → find s.heap j = some o' → ¬ Foot L j b)
    (hrep : ∀ H', find H' k = some o → (∀ v x, RepX L s.heap I w v x → x.key? ≠ some k → RepX (L.upd k nb cap) H' I w' v x) → RepO (L.upd k nb cap) H' I w' k o) :
    ∃ s', K s' ∧ Inv C (L.upd k nb cap) I s' a w' ∧ find s'.heap k = some o ∧ (∀ v x, RepX L s.heap I w v x → x.key? ≠ some k → RepX (L.upd k nb cap) s'.heap I w' v x) ∧ (∀ j, j ≠ k → find s'.heap j = (find s.heap j).map (Ob.map (XV.kill k))) :=
  newK_invD hK hi hb hsz h1 h2 h3 nb cap _ _ (fun b h => hnb b (h.elim id fun h => h.elim)) hrep

/-- A register is written. -/
theorem Inv.put {C : Ctx} {L : Lay} {I : Nat → Prop} {s : St} {a : Act} {w : World} {d : Option Nat} {v : Value} {pv : PV} {K : St → Prop} (hK : putK d pv s K) (hi : Inv C L I s a w) (hr : RepP L s.heap I w v pv) :
    ∃ s', K s' ∧ Inv C L I s' (a.put d v) w := by
  obtain ⟨r, H⟩ := s
  cases d with
  | none => exact ⟨_, hK, hi⟩
  | some d =>
    simp only [putK, setK_iff] at hK
    refine ⟨_, hK.2, ⟨by simpa [Act.put] using hi.len, fun t pv' v' h1 h2 => ?_, hi.heap, hi.Ib, hi.Io, hi.fr, hi.defers, hi.pin⟩⟩
    simp only [List.getElem?_set] at h1
    simp only [Act.put, Array.getElem?_setIfInBounds] at h2
    by_cases e : d = t
    · subst e
      simp only [if_true] at h1 h2
      have hl : d < a.tmps.size := by rw [hi.len]; exact hK.1
      rw [if_pos hK.1] at h1
      rw [if_pos hl] at h2
      cases h1; cases h2; exact hr
    · rw [if_neg e] at h1 h2
      exact hi.regs t pv' v' h1 h2

end Go.Proofs.Ytjolahiflldepab.Pi
