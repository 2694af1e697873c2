/- The order of making: the reference; valid items. No statement of the seat is proved here. -/
import Derived.Test.YtjolahiflldepaaDoorPiFItems
namespace Go.Proofs.YtjolahiflldepaaDoor.Pi
open Go
set_option maxRecDepth 10000
set_option maxHeartbeats 1600000
set_option linter.unusedVariables false

def dn (xs : List Item) (out : List Nat) (n : ByteArray) : Bool := out.contains (atName Item.name xs n).toNat
def rdy (xs : List Item) (out : List Nat) (i : Nat) : Bool := match xs[i]? with
  | some x => !(out.contains i) && x.needs.all (dn xs out)
  | none => false
def firstI (xs : List Item) (out : List Nat) : Option Nat := (List.range xs.length).find? (rdy xs out)
def runI (xs : List Item) : Nat → List Nat → List Nat
  | 0, out => out
  | k + 1, out => match firstI xs out with
    | some i => runI xs k (out ++ [i])
    | none => out
def ordI (xs : List Item) : List Nat := runI xs xs.length []
def optI (o : Option Nat) : Int := match o with | some k => (k : Nat) | none => -1
def nats (out : List Nat) : List (List CV) := out.map fun i => [CV.int .i64 (i : Nat)]
def doneRows (n : Nat) (out : List Nat) : List (List CV) := (List.range n).map fun i => [CV.bool (out.contains i)]

theorem rdy_at {xs : List Item} {out : List Nat} {i : Nat} (h : i < xs.length) : rdy xs out i = (!(out.contains i) && xs[i].needs.all (dn xs out)) := by
  simp only [rdy, List.getElem?_eq_getElem h]
theorem doneRows_zero (n : Nat) : doneRows n [] = List.replicate n [CV.bool false] := by
  exact List.ext_getElem (by simp [doneRows]) fun i h1 h2 => by simp [doneRows]
theorem doneRows_get {n i : Nat} (out : List Nat) (h : i < n) : (doneRows n out)[i]? = some [CV.bool (out.contains i)] := by
  simp [doneRows, h]
theorem doneRows_len (n : Nat) (out : List Nat) : (doneRows n out).length = n := by simp [doneRows]
theorem doneRows_set {n k : Nat} (out : List Nat) (h : k < n) : (doneRows n out).set k [CV.bool true] = doneRows n (out ++ [k]) := by
  refine List.ext_getElem (by simp [doneRows]) fun i h1 h2 => ?_
  simp only [doneRows, List.getElem_set, List.getElem_map, List.getElem_range]
  by_cases e : k = i
  · subst e; simp
  · have : ¬ i = k := fun h => e h.symm
    simp [e, this]
theorem nats_add (out : List Nat) (k : Nat) : nats (out ++ [k]) = nats out ++ [[CV.int .i64 (k : Nat)]] := by simp [nats]
theorem nats_len (out : List Nat) : (nats out).length = out.length := by simp [nats]
theorem firstI_some {xs : List Item} {out : List Nat} {k : Nat} (h : firstI xs out = some k) : k < xs.length ∧ rdy xs out k = true := by
  unfold firstI at h
  exact ⟨List.mem_range.1 (List.mem_of_find?_eq_some h), List.find?_some h⟩
theorem find_more {p : Nat → Bool} {i n k : Nat} (hi : i ≤ n) (h : (List.range i).find? p = some k) : (List.range n).find? p = some k := by
  obtain ⟨d, rfl⟩ : ∃ d, n = i + d := ⟨n - i, by omega⟩
  rw [List.range_add, List.find?_append, h]; rfl

theorem s_l28Order (xs : List Item) (o : Enc.ok xs) (hf : okForm xs = true) : Sat Tryd.prog 64 [(false, Enc.enc xs)] (.one (.c (.slice 1 (nats (ordI xs)))), []) := by
  have o2 := o.2
  have o3 := o.1
  have h16 := (okForm_iff.1 hf).1
  have hl : (xs.map (Enc.enc (α := Item))).length = xs.length := by simp
  refine Sat.intro tok mixed Tryd.func64 rfl rfl ?_
  ((conv => whnf); repeat ((first | refine B0 ?_ | refine B1 ?_ | refine D1 ?_ | refine D2 ?_ | refine CallC.r ?_); conv => whnf))
  refine Side.mk (by omega) ?_
  ((conv => whnf); repeat ((first | refine B0 ?_ | refine B1 ?_ | refine D1 ?_ | refine D2 ?_ | refine CallC.r ?_); conv => whnf))
  refine Pick.mk [0, 3, 4] trivial ?_
  ((conv => whnf); repeat ((first | refine B0 ?_ | refine B1 ?_ | refine D1 ?_ | refine D2 ?_ | refine CallC.r ?_); conv => whnf))
  refine LoopL.run (fun out : List Nat => St.mk [.one (.c (.slice 4 (xs.map Enc.enc))), .one .dead, .one .dead, .one (.rs 192), .one (.rs 256), .one .dead, .one .dead, .one .dead, .one .dead, .one .dead, .one .dead, .one .dead, .one .dead, .one .dead, .one .dead, .one .dead, .one .dead, .one .dead, .one .dead, .one .dead, .one .dead, .one .dead, .one .dead, .one .dead, .one .dead, .one .dead, .one .dead, .one .dead, .one .dead, .one .dead, .one .dead, .one .dead, .one .dead, .one .dead, .one .dead, .one .dead, .one .dead, .one .dead, .one .dead, .one .dead, .one .dead, .one .dead, .one .dead, .one .dead, .one .dead, .one .dead, .one .dead, .one .dead, .one .dead, .one .dead, .one .dead, .one .dead, .one .dead, .one .dead, .one .dead, .one .dead, .one .dead, .one .dead, .one .dead, .one .dead, .one .dead, .one .dead, .one .dead, .one .dead, .one .dead, .one .dead, .one .dead, .one .dead, .one .dead, .one .dead, .one .dead, .one .dead] [(192, .arr 1 (nats out)), (256, .arr 1 (doneRows xs.length out))]) (fun out => xs.length - out.length) (fun out => out.length ≤ xs.length ∧ runI xs (xs.length - out.length) out = ordI xs ∧ ∀ i ∈ out, i < xs.length) ?_ [] ⟨Nat.zero_le _, rfl, by simp⟩ (by rw [doneRows_zero, ← hl]; rfl)
  intro out ⟨h2, h3, h4⟩ ih
  ((conv => whnf); repeat ((first | refine B0 ?_ | refine B1 ?_ | refine D1 ?_ | refine D2 ?_ | refine CallC.r ?_); conv => whnf))
  refine Br.mk (fun h => ?_) (fun h => ?_) <;> ((conv => whnf); repeat ((first | refine B0 ?_ | refine B1 ?_ | refine D1 ?_ | refine D2 ?_ | refine CallC.r ?_); conv => whnf))
  · simp [nats] at h
    have hu : xs.length - out.length = (xs.length - (out.length + 1)) + 1 := by omega
    rw [hu, runI] at h3
    refine Pick.mk [0, 3, 4, 5, 6] trivial ?_
    ((conv => whnf); repeat ((first | refine B0 ?_ | refine B1 ?_ | refine D1 ?_ | refine D2 ?_ | refine CallC.r ?_); conv => whnf))
    refine LoopL.run (fun p : Nat × Int => St.mk [.one (.c (.slice 4 (xs.map Enc.enc))), .one .dead, .one .dead, .one (.rs 192), .one (.rs 256), .one (.c (.int .i64 p.2)), .one (.c (.int .i64 p.1)), .one .dead, .one .dead, .one .dead, .one .dead, .one .dead, .one .dead, .one .dead, .one .dead, .one .dead, .one .dead, .one .dead, .one .dead, .one .dead, .one .dead, .one .dead, .one .dead, .one .dead, .one .dead, .one .dead, .one .dead, .one .dead, .one .dead, .one .dead, .one .dead, .one .dead, .one .dead, .one .dead, .one .dead, .one .dead, .one .dead, .one .dead, .one .dead, .one .dead, .one .dead, .one .dead, .one .dead, .one .dead, .one .dead, .one .dead, .one .dead, .one .dead, .one .dead, .one .dead, .one .dead, .one .dead, .one .dead, .one .dead, .one .dead, .one .dead, .one .dead, .one .dead, .one .dead, .one .dead, .one .dead, .one .dead, .one .dead, .one .dead, .one .dead, .one .dead, .one .dead, .one .dead, .one .dead, .one .dead, .one .dead, .one .dead] [(192, .arr 1 (nats out)), (256, .arr 1 (doneRows xs.length out))]) (fun p => xs.length - p.1) (fun p => p.1 ≤ xs.length ∧ p.2 = optI ((List.range p.1).find? (rdy xs out))) ?_ (0, -1) ⟨Nat.zero_le _, rfl⟩
    intro ⟨i, nx⟩ ⟨h5, h6⟩ ih1
    simp only at h5 h6
    ((conv => whnf); repeat ((first | refine B0 ?_ | refine B1 ?_ | refine D1 ?_ | refine D2 ?_ | refine CallC.r ?_); conv => whnf))
    refine Br.mk (fun hi => ?yes) (fun hi => ?no) <;> ((conv => whnf); repeat ((first | refine B0 ?_ | refine B1 ?_ | refine D1 ?_ | refine D2 ?_ | refine CallC.r ?_); conv => whnf))
    case' yes =>
      simp at hi
      refine Br.mk (fun h7 => ?_) (fun h7 => ?_) <;> ((conv => whnf); repeat ((first | refine B0 ?_ | refine B1 ?_ | refine D1 ?_ | refine D2 ?_ | refine CallC.r ?_); conv => whnf))
      · simp at h7
        have hnone : (List.range i).find? (rdy xs out) = none := by
          cases hc : (List.range i).find? (rdy xs out) with
          | none => rfl
          | some k => rw [hc] at h6; simp only [optI] at h6; omega
        have hnext : (List.range (i + 1)).find? (rdy xs out) = if rdy xs out i = true then some i else none := by
          rw [List.range_succ, List.find?_append, hnone, Option.none_or]
          simp [List.find?]
          cases rdy xs out i <;> rfl
        refine Side.mk (by rw [doneRows_len]; omega) ?_
        ((conv => whnf); repeat ((first | refine B0 ?_ | refine B1 ?_ | refine D1 ?_ | refine D2 ?_ | refine CallC.r ?_); conv => whnf))
        refine Pick.mk _ (doneRows_get out hi) ?_
        ((conv => whnf); repeat ((first | refine B0 ?_ | refine B1 ?_ | refine D1 ?_ | refine D2 ?_ | refine CallC.r ?_); conv => whnf))
        have hx := List.getElem_mem hi
        have on1 : xs[i].needs.length ≤ 16 := (form_needs hf hx).2
        have hl2 : (xs[i].needs.map (Enc.enc (α := ByteArray))).length = xs[i].needs.length := by simp
        refine Pick.mk [0, 3, 4, 5, 6, 7, 8] trivial ?_
        ((conv => whnf); repeat ((first | refine B0 ?_ | refine B1 ?_ | refine D1 ?_ | refine D2 ?_ | refine CallC.r ?_); conv => whnf))
        refine LoopL.run (fun p : Nat × Bool => St.mk [.one (.c (.slice 4 (xs.map Enc.enc))), .one .dead, .one .dead, .one (.rs 192), .one (.rs 256), .one (.c (.int .i64 nx)), .one (.c (.int .i64 i)), .one (.c (.bool p.2)), .one (.c (.int .i64 p.1)), .one .dead, .one .dead, .one .dead, .one .dead, .one .dead, .one .dead, .one .dead, .one .dead, .one .dead, .one .dead, .one .dead, .one .dead, .one .dead, .one .dead, .one .dead, .one .dead, .one .dead, .one .dead, .one .dead, .one .dead, .one .dead, .one .dead, .one .dead, .one .dead, .one .dead, .one .dead, .one .dead, .one .dead, .one .dead, .one .dead, .one .dead, .one .dead, .one .dead, .one .dead, .one .dead, .one .dead, .one .dead, .one .dead, .one .dead, .one .dead, .one .dead, .one .dead, .one .dead, .one .dead, .one .dead, .one .dead, .one .dead, .one .dead, .one .dead, .one .dead, .one .dead, .one .dead, .one .dead, .one .dead, .one .dead, .one .dead, .one .dead, .one .dead, .one .dead, .one .dead, .one .dead, .one .dead, .one .dead] [(192, .arr 1 (nats out)), (256, .arr 1 (doneRows xs.length out))]) (fun p => xs[i].needs.length - p.1) (fun p => p.1 ≤ xs[i].needs.length ∧ p.2 = (!(out.contains i) && (xs[i].needs.take p.1).all (dn xs out))) ?_ (0, !(out.contains i)) ⟨Nat.zero_le _, by simp⟩
        intro ⟨k, b⟩ ⟨k2, k3⟩ ih2
        simp only at k2 k3
        have hfull : rdy xs out i = (b && (xs[i].needs.drop k).all (dn xs out)) := by
          rw [rdy_at hi, k3, Bool.and_assoc, ← List.all_append, List.take_append_drop]
        ((conv => whnf); repeat ((first | refine B0 ?_ | refine B1 ?_ | refine D1 ?_ | refine D2 ?_ | refine CallC.r ?_); conv => whnf))
        refine Pick.ix hi ?_
        ((conv => whnf); repeat ((first | refine B0 ?_ | refine B1 ?_ | refine D1 ?_ | refine D2 ?_ | refine CallC.r ?_); conv => whnf))
        refine Br.mk (fun hk => ?_) (fun hk => ?_) <;> ((conv => whnf); repeat ((first | refine B0 ?_ | refine B1 ?_ | refine D1 ?_ | refine D2 ?_ | refine CallC.r ?_); conv => whnf))
        · simp at hk
          refine Br.mk (fun hb => ?_) (fun hb => ?_)
          · ((conv => whnf); repeat ((first | refine B0 ?_ | refine B1 ?_ | refine D1 ?_ | refine D2 ?_ | refine CallC.r ?_); conv => whnf))
            subst hb
            obtain ⟨j, hj, e1, e2⟩ := form_need hf hx (List.getElem_mem hk)
            have hs := s_l28Find xs xs[i].needs[k] o3
            rw [e1] at hs
            refine Pick.ix hi ?_
            ((conv => whnf); repeat ((first | refine B0 ?_ | refine B1 ?_ | refine D1 ?_ | refine D2 ?_ | refine CallC.r ?_); conv => whnf))
            refine Pick.ix hk ?_
            ((conv => whnf); repeat ((first | refine B0 ?_ | refine B1 ?_ | refine D1 ?_ | refine D2 ?_ | refine CallC.r ?_); conv => whnf))
            refine Pick.mk _ hs ?_
            ((conv => whnf); repeat ((first | refine B0 ?_ | refine B1 ?_ | refine D1 ?_ | refine D2 ?_ | refine CallC.r ?_); conv => whnf))
            refine Side.mk (by rw [doneRows_len]; omega) ?_
            ((conv => whnf); repeat ((first | refine B0 ?_ | refine B1 ?_ | refine D1 ?_ | refine D2 ?_ | refine CallC.r ?_); conv => whnf))
            refine Pick.mk _ (doneRows_get out hj) ?_
            ((conv => whnf); repeat ((first | refine B0 ?_ | refine B1 ?_ | refine D1 ?_ | refine D2 ?_ | refine CallC.r ?_); conv => whnf))
            refine Pick.at64 (z := (k + 1 : Nat)) (by simp) (by omega) ?_
            ((conv => whnf); repeat ((first | refine B0 ?_ | refine B1 ?_ | refine D1 ?_ | refine D2 ?_ | refine CallC.r ?_); conv => whnf))
            refine ih2 (k + 1, out.contains j) ⟨by simp only []; omega, ?_⟩ (by simp only []; omega)
            simp only []
            rw [List.take_add_one, List.getElem?_eq_getElem hk, Option.toList_some, List.all_append, ← Bool.and_assoc, ← k3]
            simp [dn, e1]
          · subst hb
            ((conv => whnf); repeat ((first | refine B0 ?_ | refine B1 ?_ | refine D1 ?_ | refine D2 ?_ | refine CallC.r ?_); conv => whnf))
            refine Pick.at64 (z := (i + 1 : Nat)) (by simp) (by omega) ?_
            ((conv => whnf); repeat ((first | refine B0 ?_ | refine B1 ?_ | refine D1 ?_ | refine D2 ?_ | refine CallC.r ?_); conv => whnf))
            refine ih1 (i + 1, nx) ⟨by simp only []; omega, ?_⟩ (by simp only []; omega)
            simp only []
            rw [hnext, hfull, h6, hnone]; rfl
        · simp at hk
          rw [List.drop_of_length_le (by omega)] at hfull
          simp only [List.all_nil, Bool.and_true] at hfull
          refine Br.mk (fun hb => ?_) (fun hb => ?_)
          · subst hb
            ((conv => whnf); repeat ((first | refine B0 ?_ | refine B1 ?_ | refine D1 ?_ | refine D2 ?_ | refine CallC.r ?_); conv => whnf))
            refine Pick.at64 (z := (i + 1 : Nat)) (by simp) (by omega) ?_
            ((conv => whnf); repeat ((first | refine B0 ?_ | refine B1 ?_ | refine D1 ?_ | refine D2 ?_ | refine CallC.r ?_); conv => whnf))
            refine ih1 (i + 1, (i : Int)) ⟨by simp only []; omega, ?_⟩ (by simp only []; omega)
            simp only []
            rw [hnext, hfull]; rfl
          · subst hb
            ((conv => whnf); repeat ((first | refine B0 ?_ | refine B1 ?_ | refine D1 ?_ | refine D2 ?_ | refine CallC.r ?_); conv => whnf))
            refine Pick.at64 (z := (i + 1 : Nat)) (by simp) (by omega) ?_
            ((conv => whnf); repeat ((first | refine B0 ?_ | refine B1 ?_ | refine D1 ?_ | refine D2 ?_ | refine CallC.r ?_); conv => whnf))
            refine ih1 (i + 1, nx) ⟨by simp only []; omega, ?_⟩ (by simp only []; omega)
            simp only []
            rw [hnext, hfull, h6, hnone]; rfl
      have hfin : nx = optI (firstI xs out) := by
        simp at h7
        cases hc : (List.range i).find? (rdy xs out) with
        | none => rw [hc] at h6; simp only [optI] at h6; omega
        | some k => rw [h6, firstI, find_more h5 hc, hc]
    case' no =>
      have hfin : nx = optI (firstI xs out) := by
        simp at hi
        have : i = xs.length := by omega
        rw [h6, this]; rfl
    all_goals
      cases hc : firstI xs out with
      | none =>
        rw [hc] at h3 hfin
        simp only at h3
        subst h3
        simp only [optI] at hfin
        subst hfin
        ((conv => whnf); repeat ((first | refine B0 ?_ | refine B1 ?_ | refine D1 ?_ | refine D2 ?_ | refine CallC.r ?_); conv => whnf))
        exact ResOK.frz rfl rfl
      | some k =>
        rw [hc] at h3 hfin
        simp only at h3
        simp only [optI] at hfin
        subst hfin
        have hk := (firstI_some hc).1
        refine Br.mk (fun h8 => ?_) (fun h8 => ?_) <;> ((conv => whnf); repeat ((first | refine B0 ?_ | refine B1 ?_ | refine D1 ?_ | refine D2 ?_ | refine CallC.r ?_); conv => whnf))
        · simp at h8; omega
        refine Side.mk (by rw [doneRows_len]; omega) ?_
        ((conv => whnf); repeat ((first | refine B0 ?_ | refine B1 ?_ | refine D1 ?_ | refine D2 ?_ | refine CallC.r ?_); conv => whnf))
        refine Side.mk (by simp only [nats_len, List.length_cons, List.length_nil]; omega) ?_
        ((conv => whnf); repeat ((first | refine B0 ?_ | refine B1 ?_ | refine D1 ?_ | refine D2 ?_ | refine CallC.r ?_); conv => whnf))
        have := ih (out ++ [k]) ⟨by simp; omega, by rw [← h3]; simp, fun j hj => by
          rcases List.mem_append.1 hj with h | h
          · exact h4 j h
          · simp at h; omega⟩ (by simp; omega)
        simp only [nats_add, ← doneRows_set out hk] at this
        exact this
  · simp [nats] at h
    have hi : xs.length - out.length = 0 := by omega
    rw [hi, runI] at h3
    subst h3
    exact ResOK.frz rfl rfl

/-! ### the same order -/
def nmAt (xs : List Item) (i : Nat) : ByteArray := match xs[i]? with | some x => x.name | none => ⟨#[]⟩
theorem nmAt_at {xs : List Item} {i : Nat} (h : i < xs.length) : nmAt xs i = xs[i].name := by simp only [nmAt, List.getElem?_eq_getElem h]

theorem any_names {xs : List Item} (hf : okForm xs = true) {out : List Nat} (ho : ∀ i ∈ out, i < xs.length) {k : Nat} (hk : k < xs.length) : ((out.map (nmAt xs)).any fun o => xs[k].name.toList == o.toList) = out.contains k := by
  rw [Bool.eq_iff_iff, List.any_eq_true, List.contains_iff_mem]
  constructor
  · intro ⟨x, hx, e⟩
    obtain ⟨j, hj, rfl⟩ := List.mem_map.1 hx
    have e := bytes_inj (by simpa using e)
    rw [nmAt_at (ho j hj)] at e
    rw [ord_inj (form_ord hf) hk (ho j hj) e]
    exact hj
  · intro h
    exact ⟨_, List.mem_map.2 ⟨k, h, rfl⟩, by rw [nmAt_at hk]; simp⟩

theorem ready_eq {xs : List Item} (hf : okForm xs = true) {out : List Nat} (ho : ∀ i ∈ out, i < xs.length) {i : Nat} (h : i < xs.length) : readyN (out.map (nmAt xs)) xs[i] = rdy xs out i := by
  rw [rdy_at h, readyN, any_names hf ho h]
  congr 1
  rw [Bool.eq_iff_iff, Bool.not_eq_true', List.any_eq_false, List.all_eq_true]
  have key : ∀ n ∈ xs[i].needs, ((out.map (nmAt xs)).any fun o => n.toList == o.toList) = dn xs out n := fun n hn => by
    obtain ⟨j, hj, e1, e2⟩ := form_need hf (List.getElem_mem h) hn
    subst e2
    rw [any_names hf ho hj, dn, e1]; rfl
  constructor
  · intro q n hn
    have := q n hn
    rw [← key n hn]
    simpa using this
  · intro q n hn
    have := q n hn
    rw [← key n hn] at this
    simp [this]

theorem first_eq {xs : List Item} (hf : okForm xs = true) {out : List Nat} (ho : ∀ i ∈ out, i < xs.length) : (firstI xs out = none ∧ xs.find? (readyN (out.map (nmAt xs))) = none) ∨ ∃ (k : Nat) (h : k < xs.length), firstI xs out = some k ∧ xs.find? (readyN (out.map (nmAt xs))) = some xs[k] := by
  have hr := fun i h => ready_eq hf ho (i := i) h
  rcases first_cases (readyN (out.map (nmAt xs))) xs with ⟨_, h2, h3⟩ | ⟨k, hk, _, h2, h3, h4⟩
  · refine Or.inl ⟨?_, h2⟩
    unfold firstI
    rw [List.find?_eq_none]
    intro i hi
    have hi := List.mem_range.1 hi
    rw [← hr i hi, h3 i hi]; simp
  · refine Or.inr ⟨k, hk, ?_, h2⟩
    unfold firstI
    rcases first_cases (rdy xs out) (List.range xs.length) with ⟨_, _, g3⟩ | ⟨j, hj, _, g2, g3, g4⟩
    · have := g3 k (by simpa using hk)
      rw [List.getElem_range, ← hr k hk, h3] at this; cases this
    · have hj2 : j < xs.length := by simpa using hj
      rw [g2, List.getElem_range]
      rw [List.getElem_range] at g3
      congr 1
      by_cases h1 : j < k
      · have := h4 j hj2 h1
        rw [hr j hj2, g3] at this; cases this
      · by_cases h5 : k < j
        · have := g4 k (by simpa using hk) h5
          rw [List.getElem_range, ← hr k hk, h3] at this; cases this
        · omega

theorem run_eq {xs : List Item} (hf : okForm xs = true) : ∀ (k : Nat) (out : List Nat), (∀ i ∈ out, i < xs.length) → runN xs k (out.map (nmAt xs)) = (runI xs k out).map (nmAt xs)
  | 0, out, _ => rfl
  | k + 1, out, ho => by
    rw [runN, runI]
    rcases first_eq hf ho with ⟨h1, h2⟩ | ⟨i, hi, h1, h2⟩
    · rw [h1, h2]
    · rw [h1, h2]
      simp only
      have := run_eq hf k (out ++ [i]) (fun j hj => by
        rcases List.mem_append.1 hj with h | h
        · exact ho j h
        · simp at h; omega)
      rw [List.map_append, List.map_cons, List.map_nil, nmAt_at hi] at this
      exact this
theorem ord_eq {xs : List Item} (hf : okForm xs = true) : ordN xs = (ordI xs).map (nmAt xs) := run_eq hf xs.length [] (by simp)

/-! ### valid items -/
def okItems (xs : List Item) : Bool := okForm xs && decide ((ordI xs).length = xs.length)

theorem s_l28Ok (xs : List Item) (o : Enc.ok xs) : Sat Tryd.prog 37 [(false, Enc.enc xs)] (.one (.c (.bool (okItems xs))), []) := by
  have hl : (xs.map (Enc.enc (α := Item))).length = xs.length := by simp
  refine Sat.intro tok mixed Tryd.func37 rfl rfl ?_
  ((conv => whnf); repeat ((first | refine B0 ?_ | refine B1 ?_ | refine D1 ?_ | refine D2 ?_ | refine CallC.r ?_); conv => whnf))
  refine Pick.mk _ (s_l28Form xs o) ?_
  ((conv => whnf); repeat ((first | refine B0 ?_ | refine B1 ?_ | refine D1 ?_ | refine D2 ?_ | refine CallC.r ?_); conv => whnf))
  refine Br.mk (fun h => ?_) (fun h => ?_) <;> ((conv => whnf); repeat ((first | refine B0 ?_ | refine B1 ?_ | refine D1 ?_ | refine D2 ?_ | refine CallC.r ?_); conv => whnf))
  · refine Pick.mk _ (s_l28Order xs o h) ?_
    ((conv => whnf); repeat ((first | refine B0 ?_ | refine B1 ?_ | refine D1 ?_ | refine D2 ?_ | refine CallC.r ?_); conv => whnf))
    refine ResOK.same ?_
    have e : decide ((ordI xs).length = xs.length) = decide (((nats (ordI xs)).length : Int) = ((xs.map (Enc.enc (α := Item))).length : Int)) := by
      rw [nats_len, hl, Bool.eq_iff_iff, decide_eq_true_iff, decide_eq_true_iff]; omega
    simp only [okItems, h, Bool.true_and]
    rw [e]; rfl
  · exact ResOK.same (by simp only [okItems, h, Bool.false_and])

theorem s_ValidItems1 (os : List ByteArray) (ho : os.length ≤ maxLen) (n : ByteArray) : Sat Tryd.prog 68 ((false, Enc.enc n) :: [CV.ptr 1 [.slice 1 (os.map Enc.enc)]].map fun y => (false, [y])) (.one (.c (.bool (!(os.any fun o => n.toList == o.toList)))), []) := by
  refine Sat.intro tok mixed Tryd.func68 rfl rfl ?_
  ((conv => whnf); repeat ((first | refine B0 ?_ | refine B1 ?_ | refine D1 ?_ | refine D2 ?_ | refine CallC.r ?_); conv => whnf))
  refine Pick.mk _ (s_ContainsString os n ho) ?_
  ((conv => whnf); repeat ((first | refine B0 ?_ | refine B1 ?_ | refine D1 ?_ | refine D2 ?_ | refine CallC.r ?_); conv => whnf))
  exact ResOK.same rfl

theorem s_impl_ValidItems (xs : List Item) (o : Enc.ok xs) (hb : xs.length ≤ 1048576) : Sat Tryd.prog 40 [(false, Enc.enc xs)] (.one (.c (.bool (okItems xs))), []) := by
  have o2 := o.2
  have hl : (xs.map (Enc.enc (α := Item))).length = xs.length := by simp
  have bad : ∀ {b : Bool}, (okForm xs = true → b = true) → b = false → okItems xs = false := fun h1 h2 => by
    cases hf : okForm xs with
    | false => simp [okItems, hf]
    | true => rw [h1 hf] at h2; cases h2
  refine Sat.intro tok mixed Tryd.func40 rfl rfl ?_
  ((conv => whnf); repeat ((first | refine B0 ?_ | refine B1 ?_ | refine D1 ?_ | refine D2 ?_ | refine CallC.r ?_); conv => whnf))
  refine Pick.mk [0, 3, 8, 9, 10] trivial ?_
  ((conv => whnf); repeat ((first | refine B0 ?_ | refine B1 ?_ | refine D1 ?_ | refine D2 ?_ | refine CallC.r ?_); conv => whnf))
  refine LoopL.run (fun i : Nat => St.mk [.one (.c (.slice 4 (xs.map Enc.enc))), .one .dead, .one .dead, .one (.pb 192 0 1), .one .dead, .one .dead, .one .dead, .one .dead, .one (.c (.slice 4 (xs.map Enc.enc))), .one (.c (.int .i64 (xs.map (Enc.enc (α := Item))).length)), .one (.c (.int .i64 i)), .one .dead, .one .dead, .one .dead, .one .dead, .one .dead, .one .dead, .one .dead, .one .dead, .one .dead, .one .dead, .one .dead, .one .dead, .one .dead, .one .dead, .one .dead, .one .dead, .one .dead, .one .dead, .one .dead, .one .dead, .one .dead, .one .dead, .one .dead, .one .dead, .one .dead, .one .dead, .one .dead, .one .dead, .one .dead, .one .dead, .one .dead, .one .dead, .one .dead, .one .dead, .one .dead, .one .dead, .one .dead, .one .dead, .one .dead, .one .dead, .one .dead, .one .dead, .one .dead, .one .dead, .one .dead] [(192, .box [.rs 224]), (224, .arr 1 (((xs.take i).map Item.name).map Enc.enc))]) (fun i => xs.length - i) (fun i => i ≤ xs.length) ?_ 0 (Nat.zero_le _)
  intro i h2 ih
  ((conv => whnf); repeat ((first | refine B0 ?_ | refine B1 ?_ | refine D1 ?_ | refine D2 ?_ | refine CallC.r ?_); conv => whnf))
  refine Br.mk (fun h => ?_) (fun h => ?_) <;> ((conv => whnf); repeat ((first | refine B0 ?_ | refine B1 ?_ | refine D1 ?_ | refine D2 ?_ | refine CallC.r ?_); conv => whnf))
  · simp at h
    refine Pick.ix h ?_
    ((conv => whnf); repeat ((first | refine B0 ?_ | refine B1 ?_ | refine D1 ?_ | refine D2 ?_ | refine CallC.r ?_); conv => whnf))
    refine Side.mk (by simp; omega) ?_
    ((conv => whnf); repeat ((first | refine B0 ?_ | refine B1 ?_ | refine D1 ?_ | refine D2 ?_ | refine CallC.r ?_); conv => whnf))
    refine Pick.at64 (z := (i + 1 : Nat)) (by simp) (by omega) ?_
    ((conv => whnf); repeat ((first | refine B0 ?_ | refine B1 ?_ | refine D1 ?_ | refine D2 ?_ | refine CallC.r ?_); conv => whnf))
    refine cast (congrArg (fun r => LoopL _ _ _ ⟨_, [(_, _), (_, .arr 1 r)]⟩) ?_) (ih (i + 1) (by omega) (by omega))
    rw [List.take_add_one, List.getElem?_eq_getElem h, List.map_append, List.map_append]; rfl
  · simp at h
    have hi : i = xs.length := by omega
    subst hi
    rw [List.take_length]
    have on : Enc.ok (xs.map Item.name) := ⟨by simp only [maxLen, List.length_map]; omega, fun x hx => by
      obtain ⟨y, hy, rfl⟩ := List.mem_map.1 hx
      exact (o2 y hy).1⟩
    refine Pick.mk _ (s_areNames (xs.map Item.name) on 16) ?_
    ((conv => whnf); repeat ((first | refine B0 ?_ | refine B1 ?_ | refine D1 ?_ | refine D2 ?_ | refine CallC.r ?_); conv => whnf))
    have hnames : okForm xs = true → (okNames (xs.map Item.name) && decide (((xs.map Item.name).length : Int) ≤ 16)) = true := fun hf => by
      obtain ⟨h1, h2⟩ := form_names hf
      rw [h1]
      simp; omega
    refine Br.mk (fun h3 => ?_) (fun h3 => ?_) <;> ((conv => whnf); repeat ((first | refine B0 ?_ | refine B1 ?_ | refine D1 ?_ | refine D2 ?_ | refine CallC.r ?_); conv => whnf))
    · rw [Bool.not_eq_true'] at h3
      exact ResOK.same (by rw [bad hnames h3])
    rw [Bool.not_eq_false'] at h3
    simp only [Bool.and_eq_true, decide_eq_true_eq, List.length_map] at h3
    obtain ⟨h3, h16⟩ := h3
    obtain ⟨g1, g2⟩ := okNames_iff.1 h3
    refine Pick.mk [0, 3, 23, 24, 25, 1000224, 1000192] trivial ?_
    ((conv => whnf); repeat ((first | refine B0 ?_ | refine B1 ?_ | refine D1 ?_ | refine D2 ?_ | refine CallC.r ?_); conv => whnf))
    refine LoopL.run (fun i : Nat => St.mk [.one (.c (.slice 4 (xs.map Enc.enc))), .one .dead, .one .dead, .one (.c (.ptr 1 [.slice 1 ((xs.map Item.name).map Enc.enc)])), .one .dead, .one .dead, .one .dead, .one .dead, .one .dead, .one .dead, .one .dead, .one .dead, .one .dead, .one .dead, .one .dead, .one .dead, .one .dead, .one .dead, .one .dead, .one .dead, .one .dead, .one .dead, .one .dead, .one (.c (.slice 4 (xs.map Enc.enc))), .one (.c (.int .i64 (xs.map (Enc.enc (α := Item))).length)), .one (.c (.int .i64 i)), .one .dead, .one .dead, .one .dead, .one .dead, .one .dead, .one .dead, .one .dead, .one .dead, .one .dead, .one .dead, .one .dead, .one .dead, .one .dead, .one .dead, .one .dead, .one .dead, .one .dead, .one .dead, .one .dead, .one .dead, .one .dead, .one .dead, .one .dead, .one .dead, .one .dead, .one .dead, .one .dead, .one .dead, .one .dead, .one .dead] []) (fun i => xs.length - i) (fun i => i ≤ xs.length ∧ ∀ (j : Nat) (h : j < xs.length), j < i → ItemOK xs j h) ?_ 0 ⟨Nat.zero_le _, by intros; omega⟩
    intro i ⟨h4, h5⟩ ih
    ((conv => whnf); repeat ((first | refine B0 ?_ | refine B1 ?_ | refine D1 ?_ | refine D2 ?_ | refine CallC.r ?_); conv => whnf))
    refine Br.mk (fun h => ?_) (fun h => ?_) <;> ((conv => whnf); repeat ((first | refine B0 ?_ | refine B1 ?_ | refine D1 ?_ | refine D2 ?_ | refine CallC.r ?_); conv => whnf))
    · simp at h
      have hx := List.getElem_mem h
      have ox : Enc.ok xs[i] := o2 _ hx
      refine Pick.ix h ?_
      ((conv => whnf); repeat ((first | refine B0 ?_ | refine B1 ?_ | refine D1 ?_ | refine D2 ?_ | refine CallC.r ?_); conv => whnf))
      refine Pick.mk _ (s_areNames xs[i].needs ox.2.1 16) ?_
      ((conv => whnf); repeat ((first | refine B0 ?_ | refine B1 ?_ | refine D1 ?_ | refine D2 ?_ | refine CallC.r ?_); conv => whnf))
      have hneeds : okForm xs = true → (okNames xs[i].needs && decide ((xs[i].needs.length : Int) ≤ 16)) = true := fun hf => by
        obtain ⟨h1, h2⟩ := form_needs hf hx
        rw [h1]
        simp; omega
      refine Br.mk (fun h6 => ?_) (fun h6 => ?_) <;> ((conv => whnf); repeat ((first | refine B0 ?_ | refine B1 ?_ | refine D1 ?_ | refine D2 ?_ | refine CallC.r ?_); conv => whnf))
      · rw [Bool.not_eq_true'] at h6
        exact ResOK.same (by rw [bad hneeds h6])
      rw [Bool.not_eq_false'] at h6
      simp only [Bool.and_eq_true, decide_eq_true_eq] at h6
      obtain ⟨h6, h7⟩ := h6
      obtain ⟨g3, g4⟩ := okNames_iff.1 h6
      refine Pick.mk _ (s_within xs[i].made 0 1000000) ?_
      ((conv => whnf); repeat ((first | refine B0 ?_ | refine B1 ?_ | refine D1 ?_ | refine D2 ?_ | refine CallC.r ?_); conv => whnf))
      refine Br.mk (fun h8 => ?_) (fun h8 => ?_) <;> ((conv => whnf); repeat ((first | refine B0 ?_ | refine B1 ?_ | refine D1 ?_ | refine D2 ?_ | refine CallC.r ?_); conv => whnf))
      · rw [Bool.not_eq_true'] at h8
        exact ResOK.same (by rw [bad (fun hf => by have := ((okForm_iff.1 hf).2 i h).made; simp; omega) h8])
      have h8 : 0 ≤ xs[i].made ∧ xs[i].made ≤ 1000000 := by simpa using h8
      refine Pick.mk _ (s_within xs[i].cost 0 1000) ?_
      ((conv => whnf); repeat ((first | refine B0 ?_ | refine B1 ?_ | refine D1 ?_ | refine D2 ?_ | refine CallC.r ?_); conv => whnf))
      refine Br.mk (fun h9 => ?_) (fun h9 => ?_) <;> ((conv => whnf); repeat ((first | refine B0 ?_ | refine B1 ?_ | refine D1 ?_ | refine D2 ?_ | refine CallC.r ?_); conv => whnf))
      · rw [Bool.not_eq_true'] at h9
        exact ResOK.same (by rw [bad (fun hf => by have := ((okForm_iff.1 hf).2 i h).cost; simp; omega) h9])
      have h9 : 0 ≤ xs[i].cost ∧ xs[i].cost ≤ 1000 := by simpa using h9
      refine Pick.mk _ (s_ContainsFuncString xs[i].needs 68 [CV.ptr 1 [.slice 1 ((xs.map Item.name).map Enc.enc)]] (fun n => !((xs.map Item.name).any fun o => n.toList == o.toList)) ox.2.1.1 fun n _ => s_ValidItems1 (xs.map Item.name) on.1 n) ?_
      ((conv => whnf); repeat ((first | refine B0 ?_ | refine B1 ?_ | refine D1 ?_ | refine D2 ?_ | refine CallC.r ?_); conv => whnf))
      refine Br.mk (fun h10 => ?_) (fun h10 => ?_) <;> ((conv => whnf); repeat ((first | refine B0 ?_ | refine B1 ?_ | refine D1 ?_ | refine D2 ?_ | refine CallC.r ?_); conv => whnf))
      · refine ResOK.same ?_
        rw [bad (b := !(xs[i].needs.any fun n => !((xs.map Item.name).any fun o => n.toList == o.toList))) (fun hf => ?_) (by rw [h10]; rfl)]
        rw [Bool.not_eq_true', List.any_eq_false]
        intro n hn
        obtain ⟨k, hk, _, e⟩ := form_need hf hx hn
        have : ((xs.map Item.name).any fun o => n.toList == o.toList) = true := List.any_eq_true.2 ⟨_, List.mem_map.2 ⟨_, List.getElem_mem hk, rfl⟩, by rw [e]; simp⟩
        rw [this]; simp
      refine Pick.at64 (z := (i + 1 : Nat)) (by simp) (by omega) ?_
      ((conv => whnf); repeat ((first | refine B0 ?_ | refine B1 ?_ | refine D1 ?_ | refine D2 ?_ | refine CallC.r ?_); conv => whnf))
      refine ih (i + 1) ⟨by omega, fun j hj hlt => ?_⟩ (by omega)
      by_cases e : j = i
      · subst e
        refine ⟨g2 _ (List.mem_map.2 ⟨_, hx, rfl⟩), fun h0 => ?_, h8, h9, fun k hk => ⟨?_, fun h0 => g3 (k - 1) k (by omega) hk (by omega)⟩⟩
        · have := g1 (j - 1) j (by simp; omega) (by simp; omega) (by omega)
          simpa using this
        · rw [List.any_eq_false] at h10
          have := h10 _ (List.getElem_mem hk)
          simp only [Bool.not_eq_true', Bool.not_eq_false] at this
          obtain ⟨m, hm, e2⟩ := List.any_eq_true.1 this
          obtain ⟨y, hy, rfl⟩ := List.mem_map.1 hm
          obtain ⟨l, hl3, rfl⟩ := List.mem_iff_getElem.1 hy
          have e2 := bytes_inj (by simpa using e2)
          rw [e2, name_at (f := Item.name) (ord_of_steps fun a ha => by
            have := g1 a (a + 1) (by simp; omega) (by simpa using ha) (by omega)
            simpa using this) hl3]
          omega
      · exact h5 j hj (by omega)
    · simp at h
      have hi : i = xs.length := by omega
      subst hi
      have hf : okForm xs = true := okForm_iff.2 ⟨by omega, fun j hj => h5 j hj hj⟩
      refine Pick.mk _ (s_makeOrder xs o hb) ?_
      ((conv => whnf); repeat ((first | refine B0 ?_ | refine B1 ?_ | refine D1 ?_ | refine D2 ?_ | refine CallC.r ?_); conv => whnf))
      refine ResOK.same ?_
      have e : okItems xs = decide ((((ordN xs).map (Enc.enc (α := ByteArray))).length : Int) = ((xs.map (Enc.enc (α := Item))).length : Int)) := by
        rw [hl, ord_eq hf, okItems, hf, Bool.true_and, Bool.eq_iff_iff, decide_eq_true_iff, decide_eq_true_iff]
        simp only [List.length_map]; omega
      rw [e]; rfl

end Go.Proofs.YtjolahiflldepaaDoor.Pi
