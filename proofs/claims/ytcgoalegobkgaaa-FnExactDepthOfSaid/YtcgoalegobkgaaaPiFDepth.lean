/- The depths of items, the reference and the program. No statement of the seat is proved here. -/
import Derived.Test.YtcgoalegobkgaaaPiFOrder
namespace Go.Proofs.Ytcgoalegobkgaaa.Pi
open Go
set_option maxRecDepth 10000
set_option maxHeartbeats 1600000
set_option linter.unusedVariables false

def mx (a b : Int) : Int := if b > a then b else a
def mxs (ds : List Int) : Int := ds.foldl mx 0
theorem mx_or (a b : Int) : (mx a b = a ∧ b ≤ a) ∨ (mx a b = b ∧ a ≤ b) := by unfold mx; split <;> omega
theorem fold_mx (m : Int) : ∀ (ds : List Int) (a : Int), a ≤ m → (∀ d ∈ ds, d ≤ m) → a ≤ ds.foldl mx a ∧ ds.foldl mx a ≤ m
  | [], a, h, _ => ⟨Int.le_refl _, h⟩
  | d :: ds, a, h, hd => by
    have h1 := hd d (by simp)
    have h2 := mx_or a d
    have := fold_mx m ds (mx a d) (by omega) fun x hx => hd x (by simp [hx])
    simp only [List.foldl_cons]
    omega
theorem mxs_le {m : Int} {ds : List Int} (h0 : 0 ≤ m) (h : ∀ d ∈ ds, d ≤ m) : 0 ≤ mxs ds ∧ mxs ds ≤ m := fold_mx m ds 0 h0 h
theorem mxs_succ {α : Type} (g : α → Int) (xs : List α) (k : Nat) (h : k < xs.length) : mxs ((xs.take (k + 1)).map g) = mx (mxs ((xs.take k).map g)) (g xs[k]) := by
  simp only [mxs, List.take_add_one, List.getElem?_eq_getElem h, Option.toList_some, List.map_append, List.map_cons, List.map_nil, List.foldl_append, List.foldl_cons, List.foldl_nil]

def ix (xs : List Item) (n : ByteArray) : Nat := (atName Item.name xs n).toNat
def dep (xs : List Item) : Nat → Nat → Int
  | 0, _ => 0
  | f + 1, i => match xs[i]? with
    | some x => mxs (x.needs.map fun n => dep xs f (ix xs n)) + 1
    | none => 0
theorem dep_le (xs : List Item) : ∀ (f i : Nat), 0 ≤ dep xs f i ∧ dep xs f i ≤ f
  | 0, i => by simp [dep]
  | f + 1, i => by
    rw [dep]
    split
    · rename_i x _
      have := mxs_le (m := f) (ds := x.needs.map fun n => dep xs f (ix xs n)) (by omega) fun d hd => by
        obtain ⟨n, _, rfl⟩ := List.mem_map.1 hd
        exact (dep_le xs f _).2
      omega
    · omega
theorem dep_same (xs : List Item) : ∀ (p : Nat) (hp : p < (ordI xs).length) (f g : Nat), p < f → p < g → dep xs f (ordI xs)[p] = dep xs g (ordI xs)[p] := fun p => by
  induction p using Nat.strongRecOn with
  | _ p ih =>
    intro hp f g hf hg
    obtain ⟨f, rfl⟩ : ∃ f', f = f' + 1 := ⟨f - 1, by omega⟩
    obtain ⟨g, rfl⟩ : ∃ g', g = g' + 1 := ⟨g - 1, by omega⟩
    rw [dep, dep]
    have hlt := ord_lt (List.getElem_mem hp)
    rw [List.getElem?_eq_getElem hlt]
    simp only
    congr 2
    refine List.map_congr_left fun n hn => ?_
    obtain ⟨q, hq, e⟩ := ord_before hp hn
    show dep xs f (ix xs n) = dep xs g (ix xs n)
    unfold ix
    rw [← e]
    exact ih q hq (by omega) f g (by omega) (by omega)
def depth (xs : List Item) (i : Nat) : Int := dep xs (xs.length + 1) i
theorem depth_eq {xs : List Item} {p : Nat} (hp : p < (ordI xs).length) (hlen : (ordI xs).length = xs.length) : depth xs (ordI xs)[p] = mxs ((xs[(ordI xs)[p]]'(ord_lt (List.getElem_mem hp))).needs.map fun n => depth xs (ix xs n)) + 1 := by
  have hlt := ord_lt (List.getElem_mem hp)
  unfold depth
  rw [dep, List.getElem?_eq_getElem hlt]
  simp only
  congr 2
  refine List.map_congr_left fun n hn => ?_
  obtain ⟨q, hq, e⟩ := ord_before hp hn
  unfold ix
  rw [← e]
  exact dep_same xs q (by omega) _ _ (by omega) (by omega)

def depthIn (xs : List Item) (t : ByteArray) : Int × Int := if askI xs t = 0 then (depth xs (ix xs t), 0) else (0, askI xs t)

theorem s_depthOf (xs : List Item) (hok : okItems xs = true) (hb : xs.length ≤ 1048576) : ∀ (p : Nat) (hp : p < (ordI xs).length), Sat Try.prog 110 [(false, Enc.enc xs), (false, [.str (nmAt xs (ordI xs)[p])])] (.one (.c (.int .i64 (depth xs (ordI xs)[p]))), []) := fun p => by
  induction p using Nat.strongRecOn with
  | _ p ihp =>
    intro hp
    obtain ⟨hf, hlen⟩ := okItems_form hok
    have h16 := (okForm_iff.1 hf).1
    have ho := form_ord hf
    have hi := ord_lt (List.getElem_mem hp)
    have hd := depth_eq hp hlen
    have hdl := dep_le xs (xs.length + 1) (ordI xs)[p]
    have hx := List.getElem_mem hi
    have hbef : ∀ n ∈ xs[(ordI xs)[p]].needs, ∃ (q : Nat) (h : q < p), (ordI xs)[q] = ix xs n ∧ nmAt xs (ix xs n) = n := fun n hn => by
      obtain ⟨q, hq, e⟩ := ord_before hp hn
      obtain ⟨j, hj, e1, e2⟩ := form_need hf hx hn
      refine ⟨q, hq, e, ?_⟩
      have : ix xs n = j := by unfold ix; omega
      rw [this, nmAt_at hj, e2]
    have hnl := (form_needs hf hx).2
    rw [nmAt_at hi]
    generalize hit : xs[(ordI xs)[p]] = x at hd hx hbef hnl
    have hl : (x.needs.map (Enc.enc (α := ByteArray))).length = x.needs.length := by simp
    have hname := s_itemNamed xs ho hb _ hi
    rw [hit] at hname
    refine Sat.intro tok mixed Try.func110 rfl rfl ?_
    ((conv => whnf); repeat first | (refine Br.no ?_; conv => whnf) | (refine Br.yes ?_; conv => whnf) | (refine Pick.draw (by kernel_rfl) ?_; conv => whnf))
    refine Pick.mk _ hname ?_
    ((conv => whnf); repeat first | (refine Br.no ?_; conv => whnf) | (refine Br.yes ?_; conv => whnf) | (refine Pick.draw (by kernel_rfl) ?_; conv => whnf))
    refine Pick.mk [0, 5, 11, 12, 13] trivial ?_
    ((conv => whnf); repeat first | (refine Br.no ?_; conv => whnf) | (refine Br.yes ?_; conv => whnf) | (refine Pick.draw (by kernel_rfl) ?_; conv => whnf))
    refine LoopL.run (fun k : Nat => St.mk [.one (.c (.slice 4 (xs.map Enc.enc))), .one .dead, .one .dead, .one .dead, .one .dead, .one (.c (.int .i64 (mxs ((x.needs.take k).map fun n => depth xs (ix xs n))))), .one .dead, .one .dead, .one .dead, .one .dead, .one .dead, .one (.c (.slice 1 (x.needs.map Enc.enc))), .one (.c (.int .i64 (x.needs.map (Enc.enc (α := ByteArray))).length)), .one (.c (.int .i64 k)), .one .dead, .one .dead, .one .dead, .one .dead, .one .dead, .one .dead, .one .dead, .one .dead, .one .dead, .one .dead, .one .dead] []) (fun k => x.needs.length - k) (fun k => k ≤ x.needs.length) ?_ 0 (Nat.zero_le _)
    intro k h2 ih
    ((conv => whnf); repeat first | (refine Br.no ?_; conv => whnf) | (refine Br.yes ?_; conv => whnf) | (refine Pick.draw (by kernel_rfl) ?_; conv => whnf))
    refine Br.mk (fun h => ?_) (fun h => ?_) <;> ((conv => whnf); repeat first | (refine Br.no ?_; conv => whnf) | (refine Br.yes ?_; conv => whnf) | (refine Pick.draw (by kernel_rfl) ?_; conv => whnf))
    · simp at h
      refine Pick.ix h ?_
      ((conv => whnf); repeat first | (refine Br.no ?_; conv => whnf) | (refine Br.yes ?_; conv => whnf) | (refine Pick.draw (by kernel_rfl) ?_; conv => whnf))
      obtain ⟨q, hq, e1, e2⟩ := hbef _ (List.getElem_mem h)
      have hs := ihp q hq (by omega)
      rw [e1, e2] at hs
      refine Pick.mk _ hs ?_
      ((conv => whnf); repeat first | (refine Br.no ?_; conv => whnf) | (refine Br.yes ?_; conv => whnf) | (refine Pick.draw (by kernel_rfl) ?_; conv => whnf))
      refine Pick.at64 (z := (k + 1 : Nat)) (by simp) (by omega) ?_
      ((conv => whnf); repeat first | (refine Br.no ?_; conv => whnf) | (refine Br.yes ?_; conv => whnf) | (refine Pick.draw (by kernel_rfl) ?_; conv => whnf))
      have nxt := ih (k + 1) (by omega) (by omega)
      rw [mxs_succ (fun n => depth xs (ix xs n)) x.needs k h] at nxt
      exact nxt
    · simp at h
      have hk : k = x.needs.length := by omega
      subst hk
      rw [List.take_length]
      refine Pick.at64 (z := depth xs (ordI xs)[p]) (by rw [hd]) (by unfold depth; omega) ?_
      ((conv => whnf); repeat first | (refine Br.no ?_; conv => whnf) | (refine Br.yes ?_; conv => whnf) | (refine Pick.draw (by kernel_rfl) ?_; conv => whnf))
      exact ResOK.same rfl

theorem s_impl_DepthOf (xs : List Item) (o : Enc.ok xs) (hb : xs.length ≤ 1048576) (t : ByteArray) : Sat Try.prog 53 [(false, Enc.enc xs), (false, [.str t])] (.tup [(false, [.c (.int .i64 (depthIn xs t).1)]), (false, [.c (.int .i64 (depthIn xs t).2)])], []) := by
  refine Sat.intro tok mixed Try.func53 rfl rfl ?_
  ((conv => whnf); repeat first | (refine Br.no ?_; conv => whnf) | (refine Br.yes ?_; conv => whnf) | (refine Pick.draw (by kernel_rfl) ?_; conv => whnf))
  refine Pick.mk _ (s_itemized xs o hb t) ?_
  ((conv => whnf); repeat first | (refine Br.no ?_; conv => whnf) | (refine Br.yes ?_; conv => whnf) | (refine Pick.draw (by kernel_rfl) ?_; conv => whnf))
  refine Br.mk (fun h => ?_) (fun h => ?_) <;> ((conv => whnf); repeat first | (refine Br.no ?_; conv => whnf) | (refine Br.yes ?_; conv => whnf) | (refine Pick.draw (by kernel_rfl) ?_; conv => whnf))
  · simp at h
    exact ResOK.same (by simp only [depthIn]; rw [if_neg h])
  · simp at h
    have hok : okItems xs = true ∧ 0 ≤ atName Item.name xs t := by
      unfold askI at h
      split at h
      · rename_i hh; split at h
        · omega
        · exact ⟨hh, by omega⟩
      · omega
    obtain ⟨hok, h0⟩ := hok
    rcases name_cases Item.name xs t with ⟨e, _⟩ | ⟨k, hk, e1, e2⟩
    · omega
    obtain ⟨p, hp, e3⟩ := List.mem_iff_getElem.1 (ord_all hok hk)
    have hs := s_depthOf xs hok hb p hp
    rw [e3, nmAt_at hk, e2] at hs
    refine Pick.mk _ hs ?_
    ((conv => whnf); repeat first | (refine Br.no ?_; conv => whnf) | (refine Br.yes ?_; conv => whnf) | (refine Pick.draw (by kernel_rfl) ?_; conv => whnf))
    have : ix xs t = k := by unfold ix; omega
    exact ResOK.same (by simp only [depthIn, h, if_true, this])

theorem s_l00Max (a b : Int) : Sat Try.prog 107 [(false, [.int .i64 a]), (false, [.int .i64 b])] (.one (.c (.int .i64 (mx a b))), []) := by
  refine Sat.intro tok mixed Try.func107 rfl rfl ?_
  ((conv => whnf); repeat first | (refine Br.no ?_; conv => whnf) | (refine Br.yes ?_; conv => whnf) | (refine Pick.draw (by kernel_rfl) ?_; conv => whnf))
  have := mx_or a b
  refine Br.mk (fun h => ?_) (fun h => ?_) <;> ((conv => whnf); repeat first | (refine Br.no ?_; conv => whnf) | (refine Br.yes ?_; conv => whnf) | (refine Pick.draw (by kernel_rfl) ?_; conv => whnf))
  · simp at h
    have e : mx a b = a := by omega
    exact ResOK.same (by rw [e])
  · simp at h
    have e : mx a b = b := by omega
    exact ResOK.same (by rw [e])

def depRows (xs : List Item) (p : Nat) : List (List CV) := (List.range xs.length).map fun j => [CV.int .i64 (if ((ordI xs).take p).contains j then depth xs j else 0)]
theorem depRows_zero (xs : List Item) : depRows xs 0 = List.replicate xs.length [CV.int .i64 0] :=
  List.ext_getElem (by simp [depRows]) fun i h1 h2 => by simp [depRows]
theorem depRows_len (xs : List Item) (p : Nat) : (depRows xs p).length = xs.length := by simp [depRows]
theorem depRows_get {xs : List Item} {p j : Nat} (hj : j < xs.length) (h : j ∈ (ordI xs).take p) : (depRows xs p)[j]? = some [CV.int .i64 (depth xs j)] := by
  simp [depRows, hj, h]
theorem depRows_set {xs : List Item} {p : Nat} (h : p < (ordI xs).length) : (depRows xs p).set (ordI xs)[p] [CV.int .i64 (depth xs (ordI xs)[p])] = depRows xs (p + 1) := by
  refine List.ext_getElem (by simp [depRows]) fun i h1 h2 => ?_
  simp only [depRows, List.getElem_set, List.getElem_map, List.getElem_range]
  have ht : ((ordI xs).take (p + 1)).contains i = (((ordI xs).take p).contains i || decide (i = (ordI xs)[p])) := by
    rw [Bool.eq_iff_iff, List.contains_iff_mem, Bool.or_eq_true, List.contains_iff_mem, decide_eq_true_iff, List.take_add_one, List.getElem?_eq_getElem h, List.mem_append]
    simp
  rw [ht]
  by_cases e : (ordI xs)[p] = i
  · rw [if_pos e, decide_eq_true e.symm, Bool.or_true, if_pos rfl, e]
  · rw [if_neg e, decide_eq_false fun h => e h.symm, Bool.or_false]

theorem s_spec_DepthOf (xs : List Item) (o : Enc.ok xs) (t : ByteArray) : Sat Try.prog 52 [(false, Enc.enc xs), (false, [.str t])] (.tup [(false, [.c (.int .i64 (depthIn xs t).1)]), (false, [.c (.int .i64 (depthIn xs t).2)])], []) := by
  have o3 := o.1
  have hl : (xs.map (Enc.enc (α := Item))).length = xs.length := by simp
  refine Sat.intro tok mixed Try.func52 rfl rfl ?_
  ((conv => whnf); repeat first | (refine Br.no ?_; conv => whnf) | (refine Br.yes ?_; conv => whnf) | (refine Pick.draw (by kernel_rfl) ?_; conv => whnf))
  refine Pick.mk _ (s_l28Ask xs o t) ?_
  ((conv => whnf); repeat first | (refine Br.no ?_; conv => whnf) | (refine Br.yes ?_; conv => whnf) | (refine Pick.draw (by kernel_rfl) ?_; conv => whnf))
  refine Br.mk (fun h => ?_) (fun h => ?_) <;> ((conv => whnf); repeat first | (refine Br.no ?_; conv => whnf) | (refine Br.yes ?_; conv => whnf) | (refine Pick.draw (by kernel_rfl) ?_; conv => whnf))
  · simp at h
    exact ResOK.same (by simp only [depthIn]; rw [if_neg h])
  simp at h
  have hask := h
  have hok : okItems xs = true ∧ 0 ≤ atName Item.name xs t := by
    unfold askI at h
    split at h
    · rename_i hh; split at h
      · omega
      · exact ⟨hh, by omega⟩
    · omega
  obtain ⟨hok, h0⟩ := hok
  obtain ⟨hf, hlen⟩ := okItems_form hok
  have h16 := (okForm_iff.1 hf).1
  refine Pick.mk _ (s_l28Order xs o hf) ?_
  ((conv => whnf); repeat first | (refine Br.no ?_; conv => whnf) | (refine Br.yes ?_; conv => whnf) | (refine Pick.draw (by kernel_rfl) ?_; conv => whnf))
  refine Side.mk (by omega) ?_
  ((conv => whnf); repeat first | (refine Br.no ?_; conv => whnf) | (refine Br.yes ?_; conv => whnf) | (refine Pick.draw (by kernel_rfl) ?_; conv => whnf))
  refine Pick.mk [0, 1, 7, 8, 9] trivial ?_
  ((conv => whnf); repeat first | (refine Br.no ?_; conv => whnf) | (refine Br.yes ?_; conv => whnf) | (refine Pick.draw (by kernel_rfl) ?_; conv => whnf))
  refine LoopL.run (fun i : Nat => St.mk [.one (.c (.slice 4 (xs.map Enc.enc))), .one (.c (.str t)), .one .dead, .one .dead, .one .dead, .one .dead, .one .dead, .one (.c (.slice 1 (nats (ordI xs)))), .one (.rs 512), .one (.c (.int .i64 i)), .one .dead, .one .dead, .one .dead, .one .dead, .one .dead, .one .dead, .one .dead, .one .dead, .one .dead, .one .dead, .one .dead, .one .dead, .one .dead, .one .dead, .one .dead, .one .dead, .one .dead, .one .dead, .one .dead, .one .dead, .one .dead, .one .dead, .one .dead, .one .dead, .one .dead, .one .dead, .one .dead, .one .dead, .one .dead, .one .dead, .one .dead, .one .dead, .one .dead, .one .dead, .one .dead, .one .dead, .one .dead, .one .dead, .one .dead, .one .dead, .one .dead, .one .dead, .one .dead, .one .dead, .one .dead, .one .dead, .one .dead, .one .dead, .one .dead, .one .dead, .one .dead, .one .dead, .one .dead, .one .dead, .one .dead, .one .dead, .one .dead, .one .dead, .one .dead, .one .dead, .one .dead, .one .dead, .one .dead, .one .dead] [(512, .arr 1 (depRows xs i))]) (fun i => xs.length - i) (fun i => i ≤ xs.length) ?_ 0 (Nat.zero_le _) (by rw [depRows_zero, ← hl]; rfl)
  intro i h2 ih
  ((conv => whnf); repeat first | (refine Br.no ?_; conv => whnf) | (refine Br.yes ?_; conv => whnf) | (refine Pick.draw (by kernel_rfl) ?_; conv => whnf))
  refine Br.mk (fun h => ?_) (fun h => ?_) <;> ((conv => whnf); repeat first | (refine Br.no ?_; conv => whnf) | (refine Br.yes ?_; conv => whnf) | (refine Pick.draw (by kernel_rfl) ?_; conv => whnf))
  · simp [nats] at h
    have hlt := ord_lt (List.getElem_mem h)
    have hx := List.getElem_mem hlt
    have hbef : ∀ n ∈ xs[(ordI xs)[i]].needs, ∃ (j : Nat) (hj : j < xs.length), atName Item.name xs n = j ∧ ix xs n = j ∧ j ∈ (ordI xs).take i ∧ j ≠ (ordI xs)[i] := fun n hn => by
      obtain ⟨q, hq, e⟩ := ord_before h hn
      obtain ⟨j, hj, e1, e2⟩ := form_need hf hx hn
      have e3 : (ordI xs)[q] = j := by omega
      refine ⟨j, hj, e1, by unfold ix; omega, List.mem_take_iff_getElem.2 ⟨q, by omega, e3⟩, fun e4 => ?_⟩
      exact (List.pairwise_iff_getElem.1 (ord_nodup xs)) q i (by omega) h hq (e3.trans e4)
    have hnl := (form_needs hf hx).2
    have hd := depth_eq h hlen
    have hl2 : (xs[(ordI xs)[i]].needs.map (Enc.enc (α := ByteArray))).length = xs[(ordI xs)[i]].needs.length := by simp
    refine Pick.nat h ?_
    ((conv => whnf); repeat first | (refine Br.no ?_; conv => whnf) | (refine Br.yes ?_; conv => whnf) | (refine Pick.draw (by kernel_rfl) ?_; conv => whnf))
    refine Side.mk (by rw [depRows_len]; omega) ?_
    ((conv => whnf); repeat first | (refine Br.no ?_; conv => whnf) | (refine Br.yes ?_; conv => whnf) | (refine Pick.draw (by kernel_rfl) ?_; conv => whnf))
    refine Pick.mk [0, 1, 7, 8, 9, 10, 11] trivial ?_
    ((conv => whnf); repeat first | (refine Br.no ?_; conv => whnf) | (refine Br.yes ?_; conv => whnf) | (refine Pick.draw (by kernel_rfl) ?_; conv => whnf))
    refine LoopL.run (fun k : Nat => St.mk [.one (.c (.slice 4 (xs.map Enc.enc))), .one (.c (.str t)), .one .dead, .one .dead, .one .dead, .one .dead, .one .dead, .one (.c (.slice 1 (nats (ordI xs)))), .one (.rs 512), .one (.c (.int .i64 i)), .one (.c (.int .i64 ((ordI xs)[i] : Nat))), .one (.c (.int .i64 k)), .one .dead, .one .dead, .one .dead, .one .dead, .one .dead, .one .dead, .one .dead, .one .dead, .one .dead, .one .dead, .one .dead, .one .dead, .one .dead, .one .dead, .one .dead, .one .dead, .one .dead, .one .dead, .one .dead, .one .dead, .one .dead, .one .dead, .one .dead, .one .dead, .one .dead, .one .dead, .one .dead, .one .dead, .one .dead, .one .dead, .one .dead, .one .dead, .one .dead, .one .dead, .one .dead, .one .dead, .one .dead, .one .dead, .one .dead, .one .dead, .one .dead, .one .dead, .one .dead, .one .dead, .one .dead, .one .dead, .one .dead, .one .dead, .one .dead, .one .dead, .one .dead, .one .dead, .one .dead, .one .dead, .one .dead, .one .dead, .one .dead, .one .dead, .one .dead, .one .dead, .one .dead, .one .dead] [(512, .arr 1 ((depRows xs i).set (ordI xs)[i] [.int .i64 (mxs ((xs[(ordI xs)[i]].needs.take k).map fun n => depth xs (ix xs n)) + 1)]))]) (fun k => xs[(ordI xs)[i]].needs.length - k) (fun k => k ≤ xs[(ordI xs)[i]].needs.length) ?_ 0 (Nat.zero_le _)
    intro k h3 ih2
    ((conv => whnf); repeat first | (refine Br.no ?_; conv => whnf) | (refine Br.yes ?_; conv => whnf) | (refine Pick.draw (by kernel_rfl) ?_; conv => whnf))
    refine Pick.ix hlt ?_
    ((conv => whnf); repeat first | (refine Br.no ?_; conv => whnf) | (refine Br.yes ?_; conv => whnf) | (refine Pick.draw (by kernel_rfl) ?_; conv => whnf))
    refine Br.mk (fun hk => ?_) (fun hk => ?_)
    · simp at hk
      ((conv => whnf); repeat first | (refine Br.no ?_; conv => whnf) | (refine Br.yes ?_; conv => whnf))
      refine Pick.mk 22 (Or.inl (by kernel_rfl)) ?_
      ((conv => whnf); repeat first | (refine Br.no ?_; conv => whnf) | (refine Br.yes ?_; conv => whnf) | (refine Pick.draw (by kernel_rfl) ?_; conv => whnf))
      obtain ⟨j, hj, e1, e2, e3, e4⟩ := hbef _ (List.getElem_mem hk)
      have hs := s_l28Find xs xs[(ordI xs)[i]].needs[k] o3
      rw [e1] at hs
      have hm := mxs_le (m := 17) (ds := (xs[(ordI xs)[i]].needs.take k).map fun n => depth xs (ix xs n)) (by omega) fun d hd => by
        obtain ⟨n, _, rfl⟩ := List.mem_map.1 hd
        have := dep_le xs (xs.length + 1) (ix xs n)
        unfold depth; omega
      have hdj := dep_le xs (xs.length + 1) j
      refine Side.mk (by rw [List.length_set, depRows_len]; omega) ?_
      ((conv => whnf); repeat first | (refine Br.no ?_; conv => whnf) | (refine Br.yes ?_; conv => whnf) | (refine Pick.draw (by kernel_rfl) ?_; conv => whnf))
      refine Pick.mk [.int .i64 (mxs ((xs[(ordI xs)[i]].needs.take k).map fun n => depth xs (ix xs n)) + 1)] (by
        show ((depRows xs i).set (ordI xs)[i] _)[(ordI xs)[i]]? = _
        simp [depRows_len, hlt]) ?_
      ((conv => whnf); repeat first | (refine Br.no ?_; conv => whnf) | (refine Br.yes ?_; conv => whnf) | (refine Pick.draw (by kernel_rfl) ?_; conv => whnf))
      refine Pick.ix hlt ?_
      ((conv => whnf); repeat first | (refine Br.no ?_; conv => whnf) | (refine Br.yes ?_; conv => whnf) | (refine Pick.draw (by kernel_rfl) ?_; conv => whnf))
      refine Pick.ix hk ?_
      ((conv => whnf); repeat first | (refine Br.no ?_; conv => whnf) | (refine Br.yes ?_; conv => whnf) | (refine Pick.draw (by kernel_rfl) ?_; conv => whnf))
      refine Pick.mk _ hs ?_
      ((conv => whnf); repeat first | (refine Br.no ?_; conv => whnf) | (refine Br.yes ?_; conv => whnf) | (refine Pick.draw (by kernel_rfl) ?_; conv => whnf))
      refine Side.mk (by rw [List.length_set, depRows_len]; omega) ?_
      ((conv => whnf); repeat first | (refine Br.no ?_; conv => whnf) | (refine Br.yes ?_; conv => whnf) | (refine Pick.draw (by kernel_rfl) ?_; conv => whnf))
      refine Pick.mk [.int .i64 (depth xs j)] (by
        show ((depRows xs i).set (ordI xs)[i] _)[j]? = _
        rw [List.getElem?_set_ne (Ne.symm e4)]
        exact depRows_get hj e3) ?_
      ((conv => whnf); repeat first | (refine Br.no ?_; conv => whnf) | (refine Br.yes ?_; conv => whnf) | (refine Pick.draw (by kernel_rfl) ?_; conv => whnf))
      refine Pick.at64 (z := depth xs j + 1) rfl (by unfold depth; omega) ?_
      ((conv => whnf); repeat first | (refine Br.no ?_; conv => whnf) | (refine Br.yes ?_; conv => whnf) | (refine Pick.draw (by kernel_rfl) ?_; conv => whnf))
      refine Pick.mk _ (s_l00Max _ _) ?_
      ((conv => whnf); repeat first | (refine Br.no ?_; conv => whnf) | (refine Br.yes ?_; conv => whnf) | (refine Pick.draw (by kernel_rfl) ?_; conv => whnf))
      refine Side.mk (by rw [List.length_set, depRows_len]; omega) ?_
      ((conv => whnf); repeat first | (refine Br.no ?_; conv => whnf) | (refine Br.yes ?_; conv => whnf) | (refine Pick.draw (by kernel_rfl) ?_; conv => whnf))
      refine Pick.at64 (z := (k + 1 : Nat)) (by simp) (by omega) ?_
      ((conv => whnf); repeat first | (refine Br.no ?_; conv => whnf) | (refine Br.yes ?_; conv => whnf) | (refine Pick.draw (by kernel_rfl) ?_; conv => whnf))
      have nxt := ih2 (k + 1) (by omega) (by omega)
      have e5 : mxs ((xs[(ordI xs)[i]].needs.take (k + 1)).map fun n => depth xs (ix xs n)) + 1 = mx (mxs ((xs[(ordI xs)[i]].needs.take k).map fun n => depth xs (ix xs n)) + 1) (depth xs j + 1) := by
        rw [mxs_succ (fun n => depth xs (ix xs n)) _ k hk, e2]
        have := mx_or (mxs ((xs[(ordI xs)[i]].needs.take k).map fun n => depth xs (ix xs n))) (depth xs j)
        have := mx_or (mxs ((xs[(ordI xs)[i]].needs.take k).map fun n => depth xs (ix xs n)) + 1) (depth xs j + 1)
        omega
      rw [e5] at nxt
      refine cast (congrArg (fun r => LoopL _ _ _ ⟨_, [(_, .arr 1 r)]⟩) ?_) nxt
      exact (List.set_set ..).symm
    · simp at hk
      ((conv => whnf); repeat first | (refine Br.no ?_; conv => whnf) | (refine Br.yes ?_; conv => whnf) | (refine Pick.draw (by kernel_rfl) ?_; conv => whnf))
      have hk2 : k = xs[(ordI xs)[i]].needs.length := by omega
      subst hk2
      refine Pick.at64 (z := (i + 1 : Nat)) (by simp) (by omega) ?_
      ((conv => whnf); repeat first | (refine Br.no ?_; conv => whnf) | (refine Br.yes ?_; conv => whnf) | (refine Pick.draw (by kernel_rfl) ?_; conv => whnf))
      have nxt := ih (i + 1) (by omega) (by omega)
      rw [← depRows_set h, hd] at nxt
      rw [List.take_length]
      exact nxt
  · simp [nats] at h
    have hi : i = (ordI xs).length := by omega
    subst hi
    rcases name_cases Item.name xs t with ⟨e, _⟩ | ⟨k, hk, e1, e2⟩
    · omega
    have hs := s_l28Find xs t o3
    rw [e1] at hs
    refine Pick.mk _ hs ?_
    ((conv => whnf); repeat first | (refine Br.no ?_; conv => whnf) | (refine Br.yes ?_; conv => whnf) | (refine Pick.draw (by kernel_rfl) ?_; conv => whnf))
    refine Side.mk (by rw [depRows_len]; omega) ?_
    ((conv => whnf); repeat first | (refine Br.no ?_; conv => whnf) | (refine Br.yes ?_; conv => whnf) | (refine Pick.draw (by kernel_rfl) ?_; conv => whnf))
    refine Pick.mk [.int .i64 (depth xs k)] (by
      show (depRows xs _)[k]? = _
      exact depRows_get hk (by rw [List.take_length]; exact ord_all hok hk)) ?_
    ((conv => whnf); repeat first | (refine Br.no ?_; conv => whnf) | (refine Br.yes ?_; conv => whnf) | (refine Pick.draw (by kernel_rfl) ?_; conv => whnf))
    have : ix xs t = k := by unfold ix; omega
    exact ResOK.same (by simp only [depthIn, hask, if_true, this])

end Go.Proofs.Ytcgoalegobkgaaa.Pi
