/- What the order of making tells; items that are found; the orders, the depths. No statement of the seat is proved here. -/
import Derived.Test.YtcgoalegobkgaaaPiFItems2
namespace Go.Proofs.Ytcgoalegobkgaaa.Pi
open Go
set_option maxRecDepth 10000
set_option maxHeartbeats 1600000
set_option linter.unusedVariables false

theorem okItems_form {xs : List Item} (h : okItems xs = true) : okForm xs = true ∧ (ordI xs).length = xs.length := by
  simpa [okItems] using h

/-! ### the order -/
def Topo (xs : List Item) (out : List Nat) : Prop := ∀ (p : Nat) (h : p < out.length), rdy xs (out.take p) out[p] = true
theorem topo_run (xs : List Item) : ∀ (k : Nat) (out : List Nat), Topo xs out → Topo xs (runI xs k out)
  | 0, out, h => h
  | k + 1, out, h => by
    rw [runI]
    cases hc : firstI xs out with
    | none => exact h
    | some i =>
      simp only
      refine topo_run xs k _ fun p hp => ?_
      by_cases e : p < out.length
      · rw [List.take_append_of_le_length (by omega), List.getElem_append_left e]
        exact h p e
      · have : p = out.length := by simp at hp; omega
        subst this
        rw [List.take_left, List.getElem_append_right (Nat.le_refl _)]
        simpa using (firstI_some hc).2
theorem topo_ord (xs : List Item) : Topo xs (ordI xs) := topo_run xs _ [] fun p h => by simp at h
theorem rdy_lt {xs : List Item} {out : List Nat} {i : Nat} (h : rdy xs out i = true) : i < xs.length := by
  unfold rdy at h
  split at h
  · rename_i x hx; exact (List.getElem?_eq_some_iff.1 hx).1
  · cases h
theorem ord_lt {xs : List Item} {i : Nat} (h : i ∈ ordI xs) : i < xs.length := by
  obtain ⟨p, hp, rfl⟩ := List.mem_iff_getElem.1 h
  exact rdy_lt (topo_ord xs p hp)
theorem ord_nodup (xs : List Item) : (ordI xs).Nodup := by
  unfold List.Nodup
  rw [List.pairwise_iff_getElem]
  intro q p hq hp hlt e
  have h := topo_ord xs p hp
  rw [rdy_at (rdy_lt h)] at h
  simp only [Bool.and_eq_true, Bool.not_eq_true'] at h
  have h2 : (ordI xs)[p] ∈ (ordI xs).take p := by
    rw [← e]
    exact List.mem_take_iff_getElem.2 ⟨q, by omega, rfl⟩
  have := h.1
  rw [List.contains_iff_mem.2 h2] at this; cases this
theorem pigeon : ∀ (n : Nat) (l : List Nat), l.Nodup → (∀ x ∈ l, x < n) → l.length ≤ n
  | 0, l, _, h => by
    cases l with
    | nil => simp
    | cons x l => have := h x (by simp); omega
  | n + 1, l, hd, h => by
    have h1 := pigeon n (l.erase n) (hd.erase n) fun x hx => by
      have h2 := (hd.mem_erase_iff).1 hx
      have := h x h2.2
      have := h2.1
      omega
    rw [List.length_erase] at h1
    split at h1 <;> omega
theorem ord_all {xs : List Item} (h : okItems xs = true) {i : Nat} (hi : i < xs.length) : i ∈ ordI xs := by
  by_cases hm : i ∈ ordI xs
  · exact hm
  · exfalso
    have := pigeon xs.length (i :: ordI xs) (List.nodup_cons.2 ⟨hm, ord_nodup xs⟩) fun x hx => by
      rcases List.mem_cons.1 hx with e | e
      · omega
      · exact ord_lt e
    have := (okItems_form h).2
    simp at *
    omega
/-- What an item needs comes before it. -/
theorem ord_before {xs : List Item} {p : Nat} (hp : p < (ordI xs).length) {n : ByteArray} (hn : n ∈ (xs[(ordI xs)[p]]'(ord_lt (List.getElem_mem hp))).needs) : ∃ (q : Nat) (h : q < p), (ordI xs)[q] = (atName Item.name xs n).toNat := by
  have h := topo_ord xs p hp
  rw [rdy_at (rdy_lt h)] at h
  simp only [Bool.and_eq_true, List.all_eq_true] at h
  have := h.2 n hn
  simp only [dn, List.contains_iff_mem] at this
  obtain ⟨q, h1, h2⟩ := List.mem_take_iff_getElem.1 this
  exact ⟨q, by omega, h2⟩

theorem Pick.nat {out : List Nat} {i : Nat} {K : List CV → Prop} (h : i < out.length) (k : K [.int .i64 (out[i] : Nat)]) : Pick (fun row => 0 ≤ (i : Int) ∧ (nats out)[(i : Int).toNat]? = some row) K :=
  ⟨_, ⟨by omega, by simp [nats, h]⟩, k⟩

def orderOf (xs : List Item) : List ByteArray × Int := if okItems xs then ((ordI xs).map (nmAt xs), 0) else ([], 1)

theorem flat_str (xs : List ByteArray) : flatRows (xs.map Enc.enc) := fun r hr c hc => by
  obtain ⟨x, _, rfl⟩ := List.mem_map.1 hr
  have : c = .str x := by simpa [Enc.enc] using hc
  subst this; rfl

theorem s_impl_MakeOrder (xs : List Item) (o : Enc.ok xs) (hb : xs.length ≤ 1048576) : Sat Try.prog 34 [(false, Enc.enc xs)] (.tup [(false, [.ds 0]), (false, [.c (.int .i64 (orderOf xs).2)])], [(0, .deep true 1 ((orderOf xs).1.map Enc.enc))]) := by
  refine Sat.intro tok mixed Try.func34 rfl rfl ?_
  ((conv => whnf); repeat first | (refine Br.no ?_; conv => whnf) | (refine Br.yes ?_; conv => whnf) | (refine Pick.draw (by kernel_rfl) ?_; conv => whnf))
  refine Pick.mk _ (s_impl_ValidItems xs o hb) ?_
  ((conv => whnf); repeat first | (refine Br.no ?_; conv => whnf) | (refine Br.yes ?_; conv => whnf) | (refine Pick.draw (by kernel_rfl) ?_; conv => whnf))
  refine Br.mk (fun h => ?_) (fun h => ?_) <;> ((conv => whnf); repeat first | (refine Br.no ?_; conv => whnf) | (refine Br.yes ?_; conv => whnf) | (refine Pick.draw (by kernel_rfl) ?_; conv => whnf))
  · rw [Bool.not_eq_true'] at h
    exact ResOK.deep (by simp only [orderOf, h]; rfl) ⟨by simp [flatRows], trivial⟩
  · rw [Bool.not_eq_false'] at h
    have hs := s_makeOrder xs o hb
    rw [ord_eq (okItems_form h).1] at hs
    refine Pick.mk _ hs ?_
    ((conv => whnf); repeat first | (refine Br.no ?_; conv => whnf) | (refine Br.yes ?_; conv => whnf) | (refine Pick.draw (by kernel_rfl) ?_; conv => whnf))
    exact ResOK.same (by simp only [orderOf, h, if_true])

theorem s_spec_MakeOrder (xs : List Item) (o : Enc.ok xs) : Sat Try.prog 33 [(false, Enc.enc xs)] (.tup [(false, [.c (.slice 1 ((orderOf xs).1.map Enc.enc))]), (false, [.c (.int .i64 (orderOf xs).2)])], []) := by
  refine Sat.intro tok mixed Try.func33 rfl rfl ?_
  ((conv => whnf); repeat first | (refine Br.no ?_; conv => whnf) | (refine Br.yes ?_; conv => whnf) | (refine Pick.draw (by kernel_rfl) ?_; conv => whnf))
  refine Pick.mk _ (s_l28Ok xs o) ?_
  ((conv => whnf); repeat first | (refine Br.no ?_; conv => whnf) | (refine Br.yes ?_; conv => whnf) | (refine Pick.draw (by kernel_rfl) ?_; conv => whnf))
  refine Br.mk (fun h => ?_) (fun h => ?_) <;> ((conv => whnf); repeat first | (refine Br.no ?_; conv => whnf) | (refine Br.yes ?_; conv => whnf) | (refine Pick.draw (by kernel_rfl) ?_; conv => whnf))
  · rw [Bool.not_eq_true'] at h
    exact ResOK.frz (by simp only [orderOf, h]; rfl) rfl
  · rw [Bool.not_eq_false'] at h
    obtain ⟨hf, hlen⟩ := okItems_form h
    have h16 := (okForm_iff.1 hf).1
    refine Pick.mk _ (s_l28Order xs o hf) ?_
    ((conv => whnf); repeat first | (refine Br.no ?_; conv => whnf) | (refine Br.yes ?_; conv => whnf) | (refine Pick.draw (by kernel_rfl) ?_; conv => whnf))
    refine Pick.mk [0, 4, 5, 6] trivial ?_
    ((conv => whnf); repeat first | (refine Br.no ?_; conv => whnf) | (refine Br.yes ?_; conv => whnf) | (refine Pick.draw (by kernel_rfl) ?_; conv => whnf))
    refine LoopL.run (fun i : Nat => St.mk [.one (.c (.slice 4 (xs.map Enc.enc))), .one .dead, .one .dead, .one .dead, .one (.c (.slice 1 (nats (ordI xs)))), .one (.rs 320), .one (.c (.int .i64 i)), .one .dead, .one .dead, .one .dead, .one .dead, .one .dead, .one .dead, .one .dead, .one .dead, .one .dead, .one .dead, .one .dead, .one .dead, .one .dead, .one .dead, .one .dead, .one .dead, .one .dead, .one .dead, .one .dead, .one .dead, .one .dead, .one .dead, .one .dead, .one .dead] [(320, .arr 1 ((((ordI xs).take i).map (nmAt xs)).map Enc.enc))]) (fun i => xs.length - i) (fun i => i ≤ xs.length) ?_ 0 (Nat.zero_le _)
    intro i h2 ih
    ((conv => whnf); repeat first | (refine Br.no ?_; conv => whnf) | (refine Br.yes ?_; conv => whnf) | (refine Pick.draw (by kernel_rfl) ?_; conv => whnf))
    refine Br.mk (fun h => ?_) (fun h => ?_) <;> ((conv => whnf); repeat first | (refine Br.no ?_; conv => whnf) | (refine Br.yes ?_; conv => whnf) | (refine Pick.draw (by kernel_rfl) ?_; conv => whnf))
    · simp [nats] at h
      refine Pick.nat h ?_
      ((conv => whnf); repeat first | (refine Br.no ?_; conv => whnf) | (refine Br.yes ?_; conv => whnf) | (refine Pick.draw (by kernel_rfl) ?_; conv => whnf))
      have hlt := ord_lt (List.getElem_mem h)
      refine Pick.ix hlt ?_
      ((conv => whnf); repeat first | (refine Br.no ?_; conv => whnf) | (refine Br.yes ?_; conv => whnf) | (refine Pick.draw (by kernel_rfl) ?_; conv => whnf))
      refine Side.mk (by simp; omega) ?_
      ((conv => whnf); repeat first | (refine Br.no ?_; conv => whnf) | (refine Br.yes ?_; conv => whnf) | (refine Pick.draw (by kernel_rfl) ?_; conv => whnf))
      refine Pick.at64 (z := (i + 1 : Nat)) (by simp) (by omega) ?_
      ((conv => whnf); repeat first | (refine Br.no ?_; conv => whnf) | (refine Br.yes ?_; conv => whnf) | (refine Pick.draw (by kernel_rfl) ?_; conv => whnf))
      refine cast (congrArg (fun r => LoopL _ _ _ ⟨_, [(_, .arr 1 r)]⟩) ?_) (ih (i + 1) (by omega) (by omega))
      rw [List.take_add_one, List.getElem?_eq_getElem h, List.map_append, List.map_append]
      simp only [Option.toList_some, List.map_cons, List.map_nil, nmAt_at hlt]
      rfl
    · simp [nats] at h
      have hi : i = (ordI xs).length := by omega
      subst hi
      rw [List.take_length]
      exact ResOK.frz (by simp only [orderOf, (show okItems xs = true by assumption), if_true]; rfl) rfl

theorem nmAt_size {xs : List Item} (hf : okForm xs = true) {i : Nat} (h : i < xs.length) : (nmAt xs i).size ≤ 10 := by
  rw [nmAt_at h]
  have := ((okForm_iff.1 hf).2 i h).nm
  simp only [isName, Bool.and_eq_true, decide_eq_true_eq, size_list] at this ⊢
  omega
theorem orderOf_wt (xs : List Item) : Enc.wt (orderOf xs).1 ≤ 1048576 := by
  unfold orderOf
  split
  · rename_i h
    obtain ⟨hf, hl⟩ := okItems_form h
    have h16 := (okForm_iff.1 hf).1
    have key : ∀ l : List Nat, (∀ i ∈ l, i < xs.length) → Enc.wt (l.map (nmAt xs)) ≤ 11 * l.length := fun l => by
      induction l with
      | nil => intro _; simp [wt_list]
      | cons i l ih =>
        intro h
        have h1 := ih fun j hj => h j (by simp [hj])
        have h2 := nmAt_size hf (h i (by simp))
        simp only [wt_list, List.map_cons, List.sum_cons, List.length_cons, wt_str] at h1 ⊢
        omega
    have := key (ordI xs) fun i hi => ord_lt hi
    simp only
    omega
  · simp [wt_list]
/-! ### items that are found -/
theorem search_cases {xs : List Item} (ho : Ord Item.name xs) (t : ByteArray) : (∃ (k : Nat) (h : k < xs.length), xs[k].name = t ∧ posOf (fun x => cmpB x.name t) xs = k ∧ hitOf (fun x => cmpB x.name t) xs = true ∧ atName Item.name xs t = k) ∨ (hitOf (fun x => cmpB x.name t) xs = false ∧ atName Item.name xs t = -1) := by
  rcases hit_at ho t with ⟨h1, h2, h3⟩ | h
  · rcases name_cases Item.name xs t with ⟨h4, _⟩ | ⟨k, hk, h4, h5⟩
    · omega
    · exact Or.inl ⟨k, hk, h5, by omega, h1, h4⟩
  · exact Or.inr h

theorem s_itemAt1 (x : Item) (t : ByteArray) : Sat Try.prog 174 [(true, Enc.enc x), (false, [.str t])] (.one (.c (.int .i64 (cmpB x.name t))), []) := by
  refine Sat.intro tok mixed Try.func174 rfl rfl ?_
  ((conv => whnf); repeat first | (refine Br.no ?_; conv => whnf) | (refine Br.yes ?_; conv => whnf) | (refine Pick.draw (by kernel_rfl) ?_; conv => whnf))
  refine Pick.mk _ (s_Compare x.name t) ?_
  ((conv => whnf); repeat first | (refine Br.no ?_; conv => whnf) | (refine Br.yes ?_; conv => whnf) | (refine Pick.draw (by kernel_rfl) ?_; conv => whnf))
  exact ResOK.same rfl

theorem s_itemAt (xs : List Item) (t : ByteArray) (ho : Ord Item.name xs) (hb : xs.length ≤ 1048576) : Sat Try.prog 121 [(false, Enc.enc xs), (false, [.str t])] (.tup [(false, [.c (.int .i64 (posOf (fun x => cmpB x.name t) xs))]), (false, [.c (.bool (hitOf (fun x => cmpB x.name t) xs))])], []) := by
  refine Sat.intro tok mixed Try.func121 rfl rfl ?_
  ((conv => whnf); repeat first | (refine Br.no ?_; conv => whnf) | (refine Br.yes ?_; conv => whnf) | (refine Pick.draw (by kernel_rfl) ?_; conv => whnf))
  refine Pick.mk _ (s_BinarySearchItem xs t 174 (fun x => cmpB x.name t) hb (fun x _ => s_itemAt1 x t) (fun i j hi hj hij h => ord_mono ho t i j hi hj hij h)) ?_
  ((conv => whnf); repeat first | (refine Br.no ?_; conv => whnf) | (refine Br.yes ?_; conv => whnf) | (refine Pick.draw (by kernel_rfl) ?_; conv => whnf))
  exact ResOK.same rfl

def askI (xs : List Item) (t : ByteArray) : Int := if okItems xs then (if atName Item.name xs t < 0 then 3 else 0) else 1

theorem s_itemized (xs : List Item) (o : Enc.ok xs) (hb : xs.length ≤ 1048576) (t : ByteArray) : Sat Try.prog 109 [(false, Enc.enc xs), (false, [.str t])] (.one (.c (.int .i64 (askI xs t))), []) := by
  refine Sat.intro tok mixed Try.func109 rfl rfl ?_
  ((conv => whnf); repeat first | (refine Br.no ?_; conv => whnf) | (refine Br.yes ?_; conv => whnf) | (refine Pick.draw (by kernel_rfl) ?_; conv => whnf))
  refine Pick.mk _ (s_impl_ValidItems xs o hb) ?_
  ((conv => whnf); repeat first | (refine Br.no ?_; conv => whnf) | (refine Br.yes ?_; conv => whnf) | (refine Pick.draw (by kernel_rfl) ?_; conv => whnf))
  refine Br.mk (fun h => ?_) (fun h => ?_) <;> ((conv => whnf); repeat first | (refine Br.no ?_; conv => whnf) | (refine Br.yes ?_; conv => whnf) | (refine Pick.draw (by kernel_rfl) ?_; conv => whnf))
  · rw [Bool.not_eq_true'] at h
    exact ResOK.same (by simp only [askI, h]; rfl)
  rw [Bool.not_eq_false'] at h
  have ho := form_ord (okItems_form h).1
  have hs := s_itemAt xs t ho hb
  rcases search_cases ho t with ⟨k, hk, _, e1, e2, e3⟩ | ⟨e2, e3⟩
  · rw [e1, e2] at hs
    refine Pick.mk _ hs ?_
    ((conv => whnf); repeat first | (refine Br.no ?_; conv => whnf) | (refine Br.yes ?_; conv => whnf) | (refine Pick.draw (by kernel_rfl) ?_; conv => whnf))
    exact ResOK.same (by simp only [askI, h, e3, if_true]; rw [if_neg (by omega)])
  · rw [e2] at hs
    refine Pick.mk _ hs ?_
    ((conv => whnf); repeat first | (refine Br.no ?_; conv => whnf) | (refine Br.yes ?_; conv => whnf) | (refine Pick.draw (by kernel_rfl) ?_; conv => whnf))
    exact ResOK.same (by simp only [askI, h, e3, if_true]; rfl)

theorem s_itemNamed (xs : List Item) (ho : Ord Item.name xs) (hb : xs.length ≤ 1048576) (k : Nat) (hk : k < xs.length) : Sat Try.prog 167 [(false, Enc.enc xs), (false, [.str xs[k].name])] (.agg ((Enc.enc xs[k]).map .c), []) := by
  refine Sat.intro tok mixed Try.func167 rfl rfl ?_
  ((conv => whnf); repeat first | (refine Br.no ?_; conv => whnf) | (refine Br.yes ?_; conv => whnf) | (refine Pick.draw (by kernel_rfl) ?_; conv => whnf))
  have hs := s_itemAt xs xs[k].name ho hb
  have hn := name_at ho hk
  rcases search_cases ho xs[k].name with ⟨j, hj, _, e1, e2, e3⟩ | ⟨e2, e3⟩
  · have : j = k := by omega
    subst this
    rw [e1, e2] at hs
    refine Pick.mk _ hs ?_
    ((conv => whnf); repeat first | (refine Br.no ?_; conv => whnf) | (refine Br.yes ?_; conv => whnf) | (refine Pick.draw (by kernel_rfl) ?_; conv => whnf))
    refine Pick.ix hk ?_
    ((conv => whnf); repeat first | (refine Br.no ?_; conv => whnf) | (refine Br.yes ?_; conv => whnf) | (refine Pick.draw (by kernel_rfl) ?_; conv => whnf))
    exact ResOK.same rfl
  · omega

theorem s_l28Ask (xs : List Item) (o : Enc.ok xs) (t : ByteArray) : Sat Try.prog 106 [(false, Enc.enc xs), (false, [.str t])] (.one (.c (.int .i64 (askI xs t))), []) := by
  refine Sat.intro tok mixed Try.func106 rfl rfl ?_
  ((conv => whnf); repeat first | (refine Br.no ?_; conv => whnf) | (refine Br.yes ?_; conv => whnf) | (refine Pick.draw (by kernel_rfl) ?_; conv => whnf))
  refine Pick.mk _ (s_l28Ok xs o) ?_
  ((conv => whnf); repeat first | (refine Br.no ?_; conv => whnf) | (refine Br.yes ?_; conv => whnf) | (refine Pick.draw (by kernel_rfl) ?_; conv => whnf))
  refine Br.mk (fun h => ?_) (fun h => ?_) <;> ((conv => whnf); repeat first | (refine Br.no ?_; conv => whnf) | (refine Br.yes ?_; conv => whnf) | (refine Pick.draw (by kernel_rfl) ?_; conv => whnf))
  · rw [Bool.not_eq_true'] at h
    exact ResOK.same (by simp only [askI, h]; rfl)
  rw [Bool.not_eq_false'] at h
  refine Pick.mk _ (s_l28Find xs t o.1) ?_
  ((conv => whnf); repeat first | (refine Br.no ?_; conv => whnf) | (refine Br.yes ?_; conv => whnf) | (refine Pick.draw (by kernel_rfl) ?_; conv => whnf))
  refine Br.mk (fun h2 => ?_) (fun h2 => ?_) <;> ((conv => whnf); repeat first | (refine Br.no ?_; conv => whnf) | (refine Br.yes ?_; conv => whnf) | (refine Pick.draw (by kernel_rfl) ?_; conv => whnf))
  · simp at h2
    exact ResOK.same (by simp only [askI, h, h2, if_true])
  · simp at h2
    exact ResOK.same (by simp only [askI, h, if_true]; rw [if_neg (by omega)])

end Go.Proofs.Ytcgoalegobkgaaa.Pi
