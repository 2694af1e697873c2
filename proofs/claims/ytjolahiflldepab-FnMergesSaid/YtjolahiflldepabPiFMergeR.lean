/- Names of states and conflicts, the reference; sizes of merged states. No statement of the seat is proved here. -/
import Derived.Test.YtjolahiflldepabPiFMerge
import Derived.Test.YtjolahiflldepabPiM4
namespace Go.Proofs.Ytjolahiflldepab.Pi
open Go
set_option maxRecDepth 10000
set_option maxHeartbeats 1600000
set_option linter.unusedVariables false

theorem putAll_len (l : List Setting) : (putAll [] l).length ≤ l.length := by simpa [nameSet] using nameSet_len l
theorem putAll_snoc (l : List Setting) (x : Setting) : putAll [] (l ++ [x]) = insS x (putAll [] l) false := by simp [putAll, List.foldl_append]

theorem s_l27Names (base a b : List Setting) (l0 : base.length ≤ 24) (l1 : a.length ≤ 24) (l2 : b.length ≤ 24) :
    Sat Try.prog 86 [(false, Enc.enc base), (false, Enc.enc a), (false, Enc.enc b)] (.one (.rs 0), [(0, .arr 1 ((allN base a b).map Enc.enc))]) := by
  refine Sat.intro tok mixed Try.func86 rfl rfl ?_
  ((conv => whnf); repeat ((first | refine B0 ?_ | refine B1 ?_ | refine D1 ?_ | refine D2 ?_ | refine CallC.r ?_); conv => whnf))
  refine Pick.mk [0, 1, 2, 7, 8] trivial ?_
  ((conv => whnf); repeat ((first | refine B0 ?_ | refine B1 ?_ | refine D1 ?_ | refine D2 ?_ | refine CallC.r ?_); conv => whnf))
  refine LoopL.over (fun (i : Nat) => [(8, .one (.c (.int .i64 ((i : Int)))))]) (fun (i : Nat) => [(448, Ob.arr 2 ((putAll [] ((base.take i))).map Enc.enc))]) (fun (i : Nat) => base.length - i) (fun (i : Nat) => i ≤ base.length) ?_ 0 (Nat.zero_le _)
  intro i hi ih
  ((conv => whnf); repeat ((first | refine B0 ?_ | refine B1 ?_ | refine D1 ?_ | refine D2 ?_ | refine CallC.r ?_); conv => whnf))
  refine Br.mk (fun h => ?_) (fun h => ?_) <;> ((conv => whnf); repeat ((first | refine B0 ?_ | refine B1 ?_ | refine D1 ?_ | refine D2 ?_ | refine CallC.r ?_); conv => whnf))
  · have h : i < base.length := by simp only [List.length_map, decide_eq_true_eq] at h; omega
    refine Pick.ix (h) ?_
    ((conv => whnf); repeat ((first | refine B0 ?_ | refine B1 ?_ | refine D1 ?_ | refine D2 ?_ | refine CallC.r ?_); conv => whnf))
    refine Pick.mk _ (s_l27Set (putAll [] ((base.take i))) base[i] (by have := putAll_len ((base.take i)); simp only [List.length_append, List.length_take] at this; omega)) ?_
    ((conv => whnf); repeat ((first | refine B0 ?_ | refine B1 ?_ | refine D1 ?_ | refine D2 ?_ | refine CallC.r ?_); conv => whnf))
    refine Pick.at64 (z := (i + 1 : Nat)) (by simp) (by omega) ?_
    ((conv => whnf); repeat ((first | refine B0 ?_ | refine B1 ?_ | refine D1 ?_ | refine D2 ?_ | refine CallC.r ?_); conv => whnf))
    have hn := ih (i + 1) (by omega) (by omega)
    rw [List.take_add_one, List.getElem?_eq_getElem h, Option.toList_some, putAll_snoc] at hn
    exact hn
  · have h : i = base.length := by simp only [List.length_map, decide_eq_false_iff_not] at h; omega
    subst h
    rw [List.take_length]
    refine Pick.mk [1, 2, 7, 9] trivial ?_
    ((conv => whnf); repeat ((first | refine B0 ?_ | refine B1 ?_ | refine D1 ?_ | refine D2 ?_ | refine CallC.r ?_); conv => whnf))
    refine LoopL.over (fun (i : Nat) => [(9, .one (.c (.int .i64 ((i : Int)))))]) (fun (i : Nat) => [(448, Ob.arr 2 ((putAll [] (base ++ (a.take i))).map Enc.enc))]) (fun (i : Nat) => a.length - i) (fun (i : Nat) => i ≤ a.length) ?_ 0 (Nat.zero_le _) (by simp; rfl)
    intro i hi ih
    ((conv => whnf); repeat ((first | refine B0 ?_ | refine B1 ?_ | refine D1 ?_ | refine D2 ?_ | refine CallC.r ?_); conv => whnf))
    refine Br.mk (fun h => ?_) (fun h => ?_) <;> ((conv => whnf); repeat ((first | refine B0 ?_ | refine B1 ?_ | refine D1 ?_ | refine D2 ?_ | refine CallC.r ?_); conv => whnf))
    · have h : i < a.length := by simp only [List.length_map, decide_eq_true_eq] at h; omega
      refine Pick.ix (h) ?_
      ((conv => whnf); repeat ((first | refine B0 ?_ | refine B1 ?_ | refine D1 ?_ | refine D2 ?_ | refine CallC.r ?_); conv => whnf))
      refine Pick.mk _ (s_l27Set (putAll [] (base ++ (a.take i))) a[i] (by have := putAll_len (base ++ (a.take i)); simp only [List.length_append, List.length_take] at this; omega)) ?_
      ((conv => whnf); repeat ((first | refine B0 ?_ | refine B1 ?_ | refine D1 ?_ | refine D2 ?_ | refine CallC.r ?_); conv => whnf))
      refine Pick.at64 (z := (i + 1 : Nat)) (by simp) (by omega) ?_
      ((conv => whnf); repeat ((first | refine B0 ?_ | refine B1 ?_ | refine D1 ?_ | refine D2 ?_ | refine CallC.r ?_); conv => whnf))
      have hn := ih (i + 1) (by omega) (by omega)
      rw [List.take_add_one, List.getElem?_eq_getElem h, Option.toList_some, ← List.append_assoc, putAll_snoc] at hn
      exact hn
    · have h : i = a.length := by simp only [List.length_map, decide_eq_false_iff_not] at h; omega
      subst h
      rw [List.take_length]
      refine Pick.mk [2, 7, 10] trivial ?_
      ((conv => whnf); repeat ((first | refine B0 ?_ | refine B1 ?_ | refine D1 ?_ | refine D2 ?_ | refine CallC.r ?_); conv => whnf))
      refine LoopL.over (fun (i : Nat) => [(10, .one (.c (.int .i64 ((i : Int)))))]) (fun (i : Nat) => [(448, Ob.arr 2 ((putAll [] ((base ++ a) ++ (b.take i))).map Enc.enc))]) (fun (i : Nat) => b.length - i) (fun (i : Nat) => i ≤ b.length) ?_ 0 (Nat.zero_le _) (by simp; rfl)
      intro i hi ih
      ((conv => whnf); repeat ((first | refine B0 ?_ | refine B1 ?_ | refine D1 ?_ | refine D2 ?_ | refine CallC.r ?_); conv => whnf))
      refine Br.mk (fun h => ?_) (fun h => ?_) <;> ((conv => whnf); repeat ((first | refine B0 ?_ | refine B1 ?_ | refine D1 ?_ | refine D2 ?_ | refine CallC.r ?_); conv => whnf))
      · have h : i < b.length := by simp only [List.length_map, decide_eq_true_eq] at h; omega
        refine Pick.ix (h) ?_
        ((conv => whnf); repeat ((first | refine B0 ?_ | refine B1 ?_ | refine D1 ?_ | refine D2 ?_ | refine CallC.r ?_); conv => whnf))
        refine Pick.mk _ (s_l27Set (putAll [] ((base ++ a) ++ (b.take i))) b[i] (by have := putAll_len ((base ++ a) ++ (b.take i)); simp only [List.length_append, List.length_take] at this; omega)) ?_
        ((conv => whnf); repeat ((first | refine B0 ?_ | refine B1 ?_ | refine D1 ?_ | refine D2 ?_ | refine CallC.r ?_); conv => whnf))
        refine Pick.at64 (z := (i + 1 : Nat)) (by simp) (by omega) ?_
        ((conv => whnf); repeat ((first | refine B0 ?_ | refine B1 ?_ | refine D1 ?_ | refine D2 ?_ | refine CallC.r ?_); conv => whnf))
        have hn := ih (i + 1) (by omega) (by omega)
        rw [List.take_add_one, List.getElem?_eq_getElem h, Option.toList_some, ← List.append_assoc, putAll_snoc] at hn
        exact hn
      · have h : i = b.length := by simp only [List.length_map, decide_eq_false_iff_not] at h; omega
        subst h
        rw [List.take_length]
        have hpl : (putAll [] ((base ++ a) ++ b)).length ≤ 72 := Nat.le_trans (putAll_len _) (by simp; omega)
        have hall : allN base a b = (putAll [] ((base ++ a) ++ b)).map (·.name) := by simp [allN, nameSet]
        rw [hall]
        generalize putAll [] ((base ++ a) ++ b) = q at hpl ⊢
        refine Pick.mk [7, 11, 12, 1000448] trivial ?_
        ((conv => whnf); repeat ((first | refine B0 ?_ | refine B1 ?_ | refine D1 ?_ | refine D2 ?_ | refine CallC.r ?_); conv => whnf))
        refine LoopL.over (fun (i : Nat) => [(12, .one (.c (.int .i64 ((i : Int)))))]) (fun (i : Nat) => [(704, Ob.arr 1 (((q.take i).map (·.name)).map Enc.enc))]) (fun (i : Nat) => q.length - i) (fun (i : Nat) => i ≤ q.length) ?_ 0 (Nat.zero_le _)
        intro i hi ih
        ((conv => whnf); repeat ((first | refine B0 ?_ | refine B1 ?_ | refine D1 ?_ | refine D2 ?_ | refine CallC.r ?_); conv => whnf))
        refine Br.mk (fun h => ?_) (fun h => ?_) <;> ((conv => whnf); repeat ((first | refine B0 ?_ | refine B1 ?_ | refine D1 ?_ | refine D2 ?_ | refine CallC.r ?_); conv => whnf))
        · have h : i < q.length := by simp only [List.length_map, decide_eq_true_eq] at h; omega
          refine Pick.ix (h) ?_
          ((conv => whnf); repeat ((first | refine B0 ?_ | refine B1 ?_ | refine D1 ?_ | refine D2 ?_ | refine CallC.r ?_); conv => whnf))
          refine Side.mk (by simp; omega) ?_
          ((conv => whnf); repeat ((first | refine B0 ?_ | refine B1 ?_ | refine D1 ?_ | refine D2 ?_ | refine CallC.r ?_); conv => whnf))
          refine Pick.at64 (z := (i + 1 : Nat)) (by simp) (by omega) ?_
          ((conv => whnf); repeat ((first | refine B0 ?_ | refine B1 ?_ | refine D1 ?_ | refine D2 ?_ | refine CallC.r ?_); conv => whnf))
          have hn := ih (i + 1) (by omega) (by omega)
          rw [List.take_add_one, List.getElem?_eq_getElem h, Option.toList_some, List.map_append, List.map_append] at hn
          exact hn
        · have h : i = q.length := by simp only [List.length_map, decide_eq_false_iff_not] at h; omega
          subst h
          rw [List.take_length]
          exact ResOK.same rfl

theorem getS_no {xs : List Setting} {t : ByteArray} (hv : Vals xs) (h : valOf xs t = -1) : getS xs t = ⟨⟨#[]⟩, 0⟩ := by
  rcases get_cases xs t with ⟨h1, _, _⟩ | ⟨x, hx, _, _, h3⟩
  · exact h1
  · have := hv x hx; omega
theorem getS_at {xs : List Setting} {t : ByteArray} {k : Nat} (hk : k < xs.length) (h1 : xs[k].name.toList = t.toList) (h2 : valOf xs t = xs[k].value) : getS xs t = xs[k] := by
  have hn : xs[k].name = t := bytes_inj h1
  rcases get_cases xs t with ⟨_, _, h3⟩ | ⟨x, hx, e1, e2, e3⟩
  · exact absurd (List.mem_map.2 ⟨xs[k], List.getElem_mem hk, hn⟩) h3
  · rw [e1]
    obtain ⟨n, v⟩ := x
    have e4 : xs[k] = ⟨xs[k].name, xs[k].value⟩ := rfl
    rw [e4, hn, ← h2, e3]
    simp only at e2
    rw [e2]
theorem s_l27Get (xs : List Setting) (t : ByteArray) (hv : Vals xs) (hb : xs.length ≤ 1048576) : Sat Try.prog 87 [(false, Enc.enc xs), (false, [.str t])] (.agg ((Enc.enc (getS xs t)).map .c), []) := by
  refine Sat.intro tok mixed Try.func87 rfl rfl ?_
  ((conv => whnf); repeat ((first | refine B0 ?_ | refine B1 ?_ | refine D1 ?_ | refine D2 ?_ | refine CallC.r ?_); conv => whnf))
  refine Pick.mk _ (s_l27At xs t hb) ?_
  ((conv => whnf); repeat ((first | refine B0 ?_ | refine B1 ?_ | refine D1 ?_ | refine D2 ?_ | refine CallC.r ?_); conv => whnf))
  rcases at_cases xs t with ⟨h1, h2⟩ | ⟨k, hk, h1, h2, h3⟩
  · rw [h1, getS_no hv h2]
    ((conv => whnf); repeat ((first | refine B0 ?_ | refine B1 ?_ | refine D1 ?_ | refine D2 ?_ | refine CallC.r ?_); conv => whnf))
    exact ResOK.same rfl
  · rw [h1, getS_at hk h2 h3]
    refine Br.mk (fun h => absurd h (by simp)) (fun _ => ?_)
    ((conv => whnf); repeat ((first | refine B0 ?_ | refine B1 ?_ | refine D1 ?_ | refine D2 ?_ | refine CallC.r ?_); conv => whnf))
    refine Pick.mk (Enc.enc xs[k]) ⟨by omega, by rw [List.getElem?_map, show ((k : Int).toNat) = k by omega, List.getElem?_eq_getElem hk]; rfl⟩ ?_
    ((conv => whnf); repeat ((first | refine B0 ?_ | refine B1 ?_ | refine D1 ?_ | refine D2 ?_ | refine CallC.r ?_); conv => whnf))
    exact ResOK.same rfl

theorem sEq (x y : Setting) : (x.name == y.name && (x.value == y.value && true)) = eqS x y := by
  have hb : ∀ a b : ByteArray, (a == b) = (a.data == b.data) := fun ⟨_⟩ ⟨_⟩ => rfl
  have : (x.name == y.name) = (x.name.toList == y.name.toList) := by
    rw [hb, ByteArray.toList_eq, ByteArray.toList_eq]
    by_cases h : x.name.data = y.name.data
    · rw [h]; simp
    · have h2 : x.name.data.toList ≠ y.name.data.toList := fun e => h (Array.toList_inj.1 e)
      rw [beq_eq_false_iff_ne.2 h, beq_eq_false_iff_ne.2 h2]
  rw [this, Bool.and_true]; rfl
theorem ne_get {xs ys : List Setting} {t : ByteArray} (hx : Vals xs) (hy : Vals ys) (ht : t.toList ≠ []) {b : Bool} (h : (!((getS xs t).name == (getS ys t).name && ((getS xs t).value == (getS ys t).value && true))) = b) : decide (valOf xs t ≠ valOf ys t) = b := by
  rw [sEq, eq_get hx hy ht] at h
  rw [← h]
  by_cases e : valOf xs t = valOf ys t <;> simp [e]
theorem s_l27Conflicts (base a b : List Setting) (v0 : Vals base) (v1 : Vals a) (v2 : Vals b) (l0 : base.length ≤ 24) (l1 : a.length ≤ 24) (l2 : b.length ≤ 24) (hne : ∀ t ∈ allN base a b, t.toList ≠ []) :
    Sat Try.prog 43 [(false, Enc.enc base), (false, Enc.enc a), (false, Enc.enc b)] (.one (.c (.slice 1 ((confs base a b).map Enc.enc))), []) := by
  have hal : (allN base a b).length ≤ 72 := Nat.le_trans (nameSet_len _) (by simp; omega)
  refine Sat.intro tok mixed Try.func43 rfl rfl ?_
  ((conv => whnf); repeat ((first | refine B0 ?_ | refine B1 ?_ | refine D1 ?_ | refine D2 ?_ | refine CallC.r ?_); conv => whnf))
  refine Pick.mk _ (s_l27Names base a b l0 l1 l2) ?_
  ((conv => whnf); repeat ((first | refine B0 ?_ | refine B1 ?_ | refine D1 ?_ | refine D2 ?_ | refine CallC.r ?_); conv => whnf))
  refine Pick.mk [0, 1, 2, 7, 8, 9, 1000448] trivial ?_
  ((conv => whnf); repeat ((first | refine B0 ?_ | refine B1 ?_ | refine D1 ?_ | refine D2 ?_ | refine CallC.r ?_); conv => whnf))
  refine LoopL.over (fun (i : Nat) => [(9, .one (.c (.int .i64 ((i : Int)))))]) (fun (i : Nat) => [(512, Ob.arr 1 ((((allN base a b).take i).filter (confT base a b)).map Enc.enc))]) (fun (i : Nat) => (allN base a b).length - i) (fun (i : Nat) => i ≤ (allN base a b).length) ?_ 0 (Nat.zero_le _)
  intro i hi ih
  ((conv => whnf); repeat ((first | refine B0 ?_ | refine B1 ?_ | refine D1 ?_ | refine D2 ?_ | refine CallC.r ?_); conv => whnf))
  refine Br.mk (fun h => ?_) (fun h => ?_) <;> ((conv => whnf); repeat ((first | refine B0 ?_ | refine B1 ?_ | refine D1 ?_ | refine D2 ?_ | refine CallC.r ?_); conv => whnf))
  · have h : i < (allN base a b).length := by simp only [List.length_map, decide_eq_true_eq] at h; omega
    have ht : (allN base a b).take (i + 1) = (allN base a b).take i ++ [(allN base a b)[i]] := by rw [List.take_add_one, List.getElem?_eq_getElem h]; rfl
    have hte := hne _ (List.getElem_mem h)
    refine Pick.ix (h) ?_
    ((conv => whnf); repeat ((first | refine B0 ?_ | refine B1 ?_ | refine D1 ?_ | refine D2 ?_ | refine CallC.r ?_); conv => whnf))
    refine Pick.mk _ (s_l27Get base (allN base a b)[i] v0 (by omega)) ?_
    ((conv => whnf); repeat ((first | refine B0 ?_ | refine B1 ?_ | refine D1 ?_ | refine D2 ?_ | refine CallC.r ?_); conv => whnf))
    refine Pick.ix (h) ?_
    ((conv => whnf); repeat ((first | refine B0 ?_ | refine B1 ?_ | refine D1 ?_ | refine D2 ?_ | refine CallC.r ?_); conv => whnf))
    refine Pick.mk _ (s_l27Get a (allN base a b)[i] v1 (by omega)) ?_
    ((conv => whnf); repeat ((first | refine B0 ?_ | refine B1 ?_ | refine D1 ?_ | refine D2 ?_ | refine CallC.r ?_); conv => whnf))
    refine Pick.ix (h) ?_
    ((conv => whnf); repeat ((first | refine B0 ?_ | refine B1 ?_ | refine D1 ?_ | refine D2 ?_ | refine CallC.r ?_); conv => whnf))
    refine Pick.mk _ (s_l27Get b (allN base a b)[i] v2 (by omega)) ?_
    ((conv => whnf); repeat ((first | refine B0 ?_ | refine B1 ?_ | refine D1 ?_ | refine D2 ?_ | refine CallC.r ?_); conv => whnf))
    have hn := ih (i + 1) (by omega) (by omega)
    rw [ht, List.filter_append] at hn
    have skip : confT base a b (allN base a b)[i] = false → _ := fun e => by
      rw [show [(allN base a b)[i]].filter (confT base a b) = [] by simp [e], List.append_nil] at hn
      exact hn
    refine Br.mk (fun e1 => ?_) (fun e1 => ?_) <;> ((conv => whnf); repeat ((first | refine B0 ?_ | refine B1 ?_ | refine D1 ?_ | refine D2 ?_ | refine CallC.r ?_); conv => whnf))
    · have e1 := ne_get v0 v1 hte e1
      simp at e1
      refine Br.mk (fun e2 => ?_) (fun e2 => ?_) <;> ((conv => whnf); repeat ((first | refine B0 ?_ | refine B1 ?_ | refine D1 ?_ | refine D2 ?_ | refine CallC.r ?_); conv => whnf))
      · have e2 := ne_get v0 v2 hte e2
        simp at e2
        refine Br.mk (fun e3 => ?_) (fun e3 => ?_) <;> ((conv => whnf); repeat ((first | refine B0 ?_ | refine B1 ?_ | refine D1 ?_ | refine D2 ?_ | refine CallC.r ?_); conv => whnf))
        · have e3 := ne_get v1 v2 hte e3
          simp at e3
          refine Pick.ix (h) ?_
          ((conv => whnf); repeat ((first | refine B0 ?_ | refine B1 ?_ | refine D1 ?_ | refine D2 ?_ | refine CallC.r ?_); conv => whnf))
          refine Side.mk (by have h9 := List.length_filter_le (confT base a b) ((allN base a b).take i); rw [List.length_take] at h9; simp only [List.length_map, List.length_cons, List.length_nil]; omega) ?_
          ((conv => whnf); repeat ((first | refine B0 ?_ | refine B1 ?_ | refine D1 ?_ | refine D2 ?_ | refine CallC.r ?_); conv => whnf))
          refine Pick.at64 (z := (i + 1 : Nat)) (by simp) (by omega) ?_
          ((conv => whnf); repeat ((first | refine B0 ?_ | refine B1 ?_ | refine D1 ?_ | refine D2 ?_ | refine CallC.r ?_); conv => whnf))
          have hc : confT base a b (allN base a b)[i] = true := by simp [confT]; exact ⟨e3, fun e => e1 e.symm, fun e => e2 e.symm⟩
          rw [show [(allN base a b)[i]].filter (confT base a b) = [(allN base a b)[i]] by simp [hc], List.map_append] at hn
          exact hn
        · have e3 := ne_get v1 v2 hte e3
          simp at e3
          refine Pick.at64 (z := (i + 1 : Nat)) (by simp) (by omega) ?_
          ((conv => whnf); repeat ((first | refine B0 ?_ | refine B1 ?_ | refine D1 ?_ | refine D2 ?_ | refine CallC.r ?_); conv => whnf))
          exact skip (by simp [confT, e3])
      · have e2 := ne_get v0 v2 hte e2
        simp at e2
        refine Pick.at64 (z := (i + 1 : Nat)) (by simp) (by omega) ?_
        ((conv => whnf); repeat ((first | refine B0 ?_ | refine B1 ?_ | refine D1 ?_ | refine D2 ?_ | refine CallC.r ?_); conv => whnf))
        exact skip (by simp [confT, e2])
    · have e1 := ne_get v0 v1 hte e1
      simp at e1
      refine Pick.at64 (z := (i + 1 : Nat)) (by simp) (by omega) ?_
      ((conv => whnf); repeat ((first | refine B0 ?_ | refine B1 ?_ | refine D1 ?_ | refine D2 ?_ | refine CallC.r ?_); conv => whnf))
      exact skip (by simp [confT, e1])
  · have h : (allN base a b).length ≤ i := by simp only [List.length_map, decide_eq_false_iff_not] at h; omega
    exact ResOK.frz (by rw [List.take_of_length_le h]; rfl) rfl

theorem name_ne {xs : List Setting} (h : okState xs = true) (x : Setting) (hx : x ∈ xs) : x.name.toList ≠ [] := by
  obtain ⟨i, hi, rfl⟩ := List.getElem_of_mem hx
  simp only [okState, Bool.and_eq_true] at h
  have hv : okStep xs i xs[i] = true := by
    cases hv : okStep xs i xs[i] with
    | true => rfl
    | false =>
      have := allIx_no (p := okStep xs) (k := 0) (i := i) (List.getElem?_eq_getElem hi) (by rw [Nat.zero_add]; exact hv)
      rw [this] at h; cases h.1
  simp only [okStep, okSetting, Bool.and_eq_true] at hv
  intro e
  have hn := hv.1.1
  simp only [isName, Bool.and_eq_true, decide_eq_true_eq] at hn
  exact hn.1.1 (by rw [e]; rfl)
theorem names_ne {base a b : List Setting} (k0 : okState base = true) (k1 : okState a = true) (k2 : okState b = true) : ∀ t ∈ allN base a b, t.toList ≠ [] := fun t ht => by
  have h := nameSet_mem.1 ht
  obtain ⟨x, hx, rfl⟩ := List.mem_map.1 h
  simp only [List.flatten_cons, List.flatten_nil, List.append_nil, List.mem_append] at hx
  rcases hx with hx | hx | hx
  · exact name_ne k0 x hx
  · exact name_ne k1 x hx
  · exact name_ne k2 x hx
theorem okS_vals {xs : List Setting} (h : okState xs = true) : Vals xs := fun x hx => ((okState_ord h).2 x hx).1
theorem s_spec_ConflictsOf (base a b : List Setting) (o0 : Enc.ok base) (o1 : Enc.ok a) (o2 : Enc.ok b) : Sat Try.prog 9 [(false, Enc.enc base), (false, Enc.enc a), (false, Enc.enc b)]
    (.tup [(false, [.c (.slice 1 ((conflOf base a b).1.map Enc.enc))]), (false, [.c (.int .i64 (conflOf base a b).2)])], []) := by
  have bad : okS3 base a b = false → conflOf base a b = ([], 1) := fun h => by simp [conflOf, h]
  refine Sat.intro tok mixed Try.func9 rfl rfl ?_
  ((conv => whnf); repeat ((first | refine B0 ?_ | refine B1 ?_ | refine D1 ?_ | refine D2 ?_ | refine CallC.r ?_); conv => whnf))
  refine Pick.mk _ (s_l27State base o0) ?_
  ((conv => whnf); repeat ((first | refine B0 ?_ | refine B1 ?_ | refine D1 ?_ | refine D2 ?_ | refine CallC.r ?_); conv => whnf))
  refine Br.mk (fun k0 => ?_) (fun k0 => ?_) <;> ((conv => whnf); repeat ((first | refine B0 ?_ | refine B1 ?_ | refine D1 ?_ | refine D2 ?_ | refine CallC.r ?_); conv => whnf))
  · simp at k0
    rw [bad (by simp [okS3, k0])]
    exact ResOK.frz rfl rfl
  simp at k0
  refine Pick.mk _ (s_l27State a o1) ?_
  ((conv => whnf); repeat ((first | refine B0 ?_ | refine B1 ?_ | refine D1 ?_ | refine D2 ?_ | refine CallC.r ?_); conv => whnf))
  refine Br.mk (fun k1 => ?_) (fun k1 => ?_) <;> ((conv => whnf); repeat ((first | refine B0 ?_ | refine B1 ?_ | refine D1 ?_ | refine D2 ?_ | refine CallC.r ?_); conv => whnf))
  · simp at k1
    rw [bad (by simp [okS3, k1])]
    exact ResOK.frz rfl rfl
  simp at k1
  refine Pick.mk _ (s_l27State b o2) ?_
  ((conv => whnf); repeat ((first | refine B0 ?_ | refine B1 ?_ | refine D1 ?_ | refine D2 ?_ | refine CallC.r ?_); conv => whnf))
  refine Br.mk (fun k2 => ?_) (fun k2 => ?_) <;> ((conv => whnf); repeat ((first | refine B0 ?_ | refine B1 ?_ | refine D1 ?_ | refine D2 ?_ | refine CallC.r ?_); conv => whnf))
  · simp at k2
    rw [bad (by simp [okS3, k2])]
    exact ResOK.frz rfl rfl
  simp at k2
  have hk : okS3 base a b = true := by simp [okS3, k0, k1, k2]
  refine Pick.mk _ (s_l27Conflicts base a b (okS_vals k0) (okS_vals k1) (okS_vals k2) (okS_len k0) (okS_len k1) (okS_len k2) (names_ne k0 k1 k2)) ?_
  ((conv => whnf); repeat ((first | refine B0 ?_ | refine B1 ?_ | refine D1 ?_ | refine D2 ?_ | refine CallC.r ?_); conv => whnf))
  rw [show conflOf base a b = (confs base a b, 0) by simp [conflOf, hk]]
  exact ResOK.same rfl

theorem name_small {xs : List Setting} (h : okState xs = true) (x : Setting) (hx : x ∈ xs) : x.name.size ≤ 10 := by
  obtain ⟨i, hi, rfl⟩ := List.getElem_of_mem hx
  simp only [okState, Bool.and_eq_true] at h
  have hv : okStep xs i xs[i] = true := by
    cases hv : okStep xs i xs[i] with
    | true => rfl
    | false =>
      have := allIx_no (p := okStep xs) (k := 0) (i := i) (List.getElem?_eq_getElem hi) (by rw [Nat.zero_add]; exact hv)
      rw [this] at h; cases h.1
  simp only [okStep, okSetting, Bool.and_eq_true] at hv
  have hn := hv.1.1
  simp only [isName, Bool.and_eq_true, decide_eq_true_eq] at hn
  rw [size_list]
  exact hn.1.2
theorem sum_ten : ∀ {xs : List ByteArray}, (∀ t ∈ xs, t.size ≤ 10) → (xs.map Enc.wt).sum ≤ xs.length * 10
  | [], _ => by simp
  | x :: xs, h => by
    have h1 := sum_ten (xs := xs) fun t ht => h t (List.mem_cons_of_mem _ ht)
    have h2 := h x (List.mem_cons_self ..)
    have h3 : Enc.wt x = x.size := rfl
    simp only [List.map_cons, List.sum_cons, List.length_cons, h3]; omega
theorem conflOf_wt (base a b : List Setting) : Enc.wt (conflOf base a b).1 ≤ 1000 := by
  by_cases hk : okS3 base a b = true
  · have hk2 := hk
    simp only [okS3, Bool.and_eq_true] at hk2
    obtain ⟨k0, k1, k2⟩ := hk2
    rw [show conflOf base a b = (confs base a b, 0) by simp [conflOf, hk]]
    have l0 := okS_len k0
    have l1 := okS_len k1
    have l2 := okS_len k2
    have hal : (allN base a b).length ≤ 72 := Nat.le_trans (nameSet_len _) (by simp; omega)
    have hcl : (confs base a b).length ≤ (allN base a b).length := List.length_filter_le _ _
    have hs := sum_ten (xs := confs base a b) fun t ht => by
      have ht := (List.mem_filter.1 ht).1
      obtain ⟨x, hx, rfl⟩ := List.mem_map.1 (nameSet_mem.1 ht)
      simp only [List.flatten_cons, List.flatten_nil, List.append_nil, List.mem_append] at hx
      rcases hx with hx | hx | hx
      · exact name_small k0 x hx
      · exact name_small k1 x hx
      · exact name_small k2 x hx
    show Enc.wt (confs base a b) ≤ 1000
    rw [wt_list]; omega
  · rw [show conflOf base a b = ([], 1) by simp [conflOf, hk]]
    show Enc.wt ([] : List ByteArray) ≤ 1000
    rw [wt_list]; simp

end Go.Proofs.Ytjolahiflldepab.Pi
