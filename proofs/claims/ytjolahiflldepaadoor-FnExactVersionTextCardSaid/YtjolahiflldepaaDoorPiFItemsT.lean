/- The text of items, the program and the reference. No statement of the seat is proved here. -/
import Derived.Test.YtjolahiflldepaaDoorPiFDecG
import Derived.Test.YtjolahiflldepaaDoorPiFItems2
namespace Go.Proofs.YtjolahiflldepaaDoor.Pi
open Go
set_option maxRecDepth 10000
set_option maxHeartbeats 3200000
set_option linter.unusedVariables false

def bl (s : ByteArray) : List UInt8 := s.data.toList
theorem bl_inj {a b : ByteArray} (h : bl a = bl b) : a = b := by
  apply ByteArray.ext
  exact Array.toList_inj.1 h
theorem bl_app (a b : ByteArray) : bl (a ++ b) = bl a ++ bl b := by simp [bl, ByteArray.data_append]
theorem bl_size (a : ByteArray) : a.size = (bl a).length := by rw [bl, Array.length_toList]; rfl
theorem bl_mk (l : List UInt8) : bl ⟨l.toArray⟩ = l := by simp [bl]
theorem bl_join (xs : List ByteArray) (sep : ByteArray) : bl (joinB xs sep) = Lib.join (xs.map bl) (bl sep) := by
  rw [joinB, bl_mk]; rfl
def sp : ByteArray := ⟨#[32]⟩
def sl : ByteArray := ⟨#[47]⟩
theorem bl_sp : bl sp = [32] := rfl
theorem bl_sl : bl sl = [47] := rfl
def itT (x : Item) : ByteArray := joinB ([x.name, itoaB x.made, itoaB x.cost] ++ x.needs) sp
def preT (xs : List Item) (i : Nat) : ByteArray := joinB ((xs.take i).map itT) sl
def pre1 (xs : List Item) (i : Nat) : ByteArray := if i = 0 then preT xs i else preT xs i ++ sl
def headT (x : Item) : ByteArray := x.name ++ sp ++ itoaB x.made ++ sp ++ itoaB x.cost
def tailT (x : Item) (k : Nat) : ByteArray := ⟨(Lib.joinTail [32] ((x.needs.take k).map bl)).toArray⟩
theorem itT_eq (x : Item) : itT x = headT x ++ tailT x x.needs.length := by
  apply bl_inj
  rw [itT, bl_join, headT, tailT]
  simp only [bl_app, bl_mk, List.take_length, List.cons_append, List.nil_append, List.map_cons, Lib.join_cons]
  simp only [Lib.joinTail, bl_sp, List.map_cons, List.flatten_cons, List.append_assoc, List.cons_append, List.nil_append]
theorem tailT_succ (x : Item) {k : Nat} (h : k < x.needs.length) : tailT x (k + 1) = tailT x k ++ (sp ++ x.needs[k]) := by
  apply bl_inj
  rw [tailT, tailT, bl_app, bl_app, bl_mk, bl_mk, bl_sp, List.take_add_one, List.getElem?_eq_getElem h, Option.toList_some, List.map_append]
  simp only [Lib.joinTail, List.map_append, List.flatten_append, List.map_cons, List.map_nil, List.flatten_cons, List.flatten_nil, List.append_nil, List.cons_append, List.nil_append]
theorem preT_succ (xs : List Item) {i : Nat} (h : i < xs.length) : preT xs (i + 1) = pre1 xs i ++ itT xs[i] := by
  apply bl_inj
  rw [pre1, preT, preT, List.take_add_one, List.getElem?_eq_getElem h, Option.toList_some, List.map_append, List.map_cons, List.map_nil]
  cases i with
  | zero => simp [bl_join, bl_app, Lib.join_one, Lib.join_nil]
  | succ i =>
    rw [if_neg (by omega)]
    simp only [bl_app, bl_join, List.map_append, List.map_cons, List.map_nil]
    cases hx : xs.take (i + 1) with
    | nil => exact absurd (congrArg List.length hx) (by rw [List.length_take, List.length_nil]; omega)
    | cons y ys => simp only [List.map_cons, List.cons_append, Lib.join_cons, Lib.joinTail, bl_sl, List.map_append, List.flatten_append, List.map_nil, List.flatten_cons, List.flatten_nil, List.append_nil, List.append_assoc, List.cons_append, List.nil_append]
theorem tail_size (x : Item) (k : Nat) : (tailT x k).size ≤ (x.needs.map Enc.wt).sum + x.needs.length := by
  have key : ∀ ys : List ByteArray, (Lib.joinTail [32] (ys.map bl)).length = (ys.map Enc.wt).sum + ys.length := fun ys => by
    induction ys with
    | nil => rfl
    | cons y ys ih =>
      have e : Lib.joinTail [32] ((y :: ys).map bl) = 32 :: (bl y ++ Lib.joinTail [32] (ys.map bl)) := by simp [Lib.joinTail]
      have hy : Enc.wt y = (bl y).length := bl_size y
      rw [e]
      simp only [List.length_cons, List.length_append, List.map_cons, List.sum_cons, ih, hy]; omega
  rw [bl_size, tailT, bl_mk, key]
  have h1 : (x.needs.take k).length ≤ x.needs.length := List.length_take_le' ..
  have h2 : ((x.needs.take k).map Enc.wt).sum ≤ (x.needs.map Enc.wt).sum := by
    conv => rhs; rw [← List.take_append_drop k x.needs, List.map_append, List.sum_append]
    omega
  omega
def accT (q : ByteArray) (x : Item) (k : Nat) : ByteArray := (x.needs.take k).foldl (fun s n => s ++ (sp ++ n)) q
theorem accT_succ (q : ByteArray) (x : Item) {k : Nat} (h : k < x.needs.length) : accT q x (k + 1) = accT q x k ++ (sp ++ x.needs[k]) := by
  simp only [accT, List.take_add_one, List.getElem?_eq_getElem h, Option.toList_some, List.foldl_append, List.foldl_cons, List.foldl_nil]
theorem accT_eq (q : ByteArray) (x : Item) : ∀ {k : Nat}, k ≤ x.needs.length → accT q x k = q ++ tailT x k
  | 0, _ => by
    apply bl_inj
    rw [bl_app]
    show bl q = bl q ++ []
    rw [List.append_nil]
  | k + 1, h => by
    rw [accT_succ q x h, accT_eq q x (Nat.le_of_lt h), tailT_succ x h]
    apply bl_inj
    simp only [bl_app, List.append_assoc]
def pT (xs : List Item) : Nat → ByteArray
  | 0 => ⟨#[]⟩
  | i + 1 => match xs[i]? with
    | some x => (if i = 0 then pT xs i else pT xs i ++ sl) ++ itT x
    | none => pT xs i
theorem pT_eq (xs : List Item) : ∀ {i : Nat}, i ≤ xs.length → pT xs i = preT xs i
  | 0, _ => rfl
  | i + 1, h => by
    rw [preT_succ xs h, pre1, pT, List.getElem?_eq_getElem (show i < xs.length by omega)]
    simp only [pT_eq xs (show i ≤ xs.length by omega)]
theorem pT_succ (xs : List Item) {i : Nat} (h : i < xs.length) : pT xs (i + 1) = (if i = 0 then pT xs i else pT xs i ++ sl) ++ itT xs[i] := by
  rw [pT, List.getElem?_eq_getElem h]
theorem need_size (x : Item) {k : Nat} (h : k < x.needs.length) : x.needs[k].size ≤ (x.needs.map Enc.wt).sum := by
  have hs : ∀ ys : List ByteArray, ∀ y ∈ ys, y.size ≤ (ys.map Enc.wt).sum := fun ys => by
    induction ys with
    | nil => intro y hy; cases hy
    | cons z ys ih =>
      intro y hy
      rcases List.mem_cons.1 hy with rfl | hy
      · rw [List.map_cons, List.sum_cons]; exact Nat.le_add_right _ _
      · have := ih y hy; rw [List.map_cons, List.sum_cons]; omega
  exact hs _ _ (List.getElem_mem h)
structure ItemB (x : Item) : Prop where
  m0 : 0 ≤ x.made
  m1 : x.made ≤ 1000000
  c0 : 0 ≤ x.cost
  c1 : x.cost ≤ 1000
  w : Enc.wt x ≤ 1048576
theorem items_b {xs : List Item} (hk : okItems xs = true) (hw : Enc.wt xs ≤ 1048576) : ∀ x ∈ xs, ItemB x := fun x hx => by
  obtain ⟨i, hi, rfl⟩ := List.mem_iff_getElem.1 hx
  simp only [okItems, okForm, Bool.and_eq_true] at hk
  have h := (allIx_iff.1 hk.1.1) i hi
  simp only [okItem, Bool.and_eq_true, decide_eq_true_eq] at h
  have hs : ∀ ys : List Item, ∀ y ∈ ys, Enc.wt y ≤ (ys.map Enc.wt).sum := fun ys => by
    induction ys with
    | nil => intro y hy; cases hy
    | cons z ys ih =>
      intro y hy
      rcases List.mem_cons.1 hy with rfl | hy
      · simp
      · have := ih y hy; simp; omega
  have h2 := hs xs _ (List.getElem_mem hi)
  have h3 : Enc.wt xs = xs.length + (xs.map Enc.wt).sum := rfl
  exact ⟨h.2.2.1.1, h.2.2.1.2, h.2.2.2.1.1, h.2.2.2.1.2, by omega⟩
theorem items_16 {xs : List Item} (hk : okItems xs = true) : xs.length ≤ 16 := by
  simp only [okItems, okForm, Bool.and_eq_true, decide_eq_true_eq] at hk
  exact hk.1.2
theorem head_size {x : Item} (h : ItemB x) : (headT x).size ≤ x.name.size + 40 := by
  have h1 := itoa_size h.m0 (by have := h.m1; omega)
  have h2 := itoa_size h.c0 (by have := h.c1; omega)
  have h3 : sp.size = 1 := rfl
  simp only [headT, ByteArray.size_append]; omega
theorem item_wt (x : Item) : x.name.size + ((x.needs.map Enc.wt).sum + x.needs.length) ≤ Enc.wt x := by
  have e : Enc.wt x = x.name.size + (x.needs.length + (x.needs.map Enc.wt).sum) + 0 + 0 := rfl
  omega
theorem it_size {x : Item} (h : ItemB x) (k : Nat) : (headT x).size + (tailT x k).size ≤ 1048700 := by
  have h1 := head_size h
  have h2 := tail_size x k
  have h3 := item_wt x
  have h4 := h.w
  omega
theorem pT_size {xs : List Item} (hb : ∀ x ∈ xs, ItemB x) : ∀ i : Nat, (pT xs i).size ≤ i * 1048701
  | 0 => Nat.zero_le _
  | i + 1 => by
    have ih := pT_size hb i
    rw [pT]
    split
    · rename_i x hx
      have h1 := it_size (hb x (List.mem_of_getElem? hx)) x.needs.length
      have h3 : sl.size = 1 := rfl
      have h4 : (if i = 0 then pT xs i else pT xs i ++ sl).size ≤ (pT xs i).size + 1 := by
        by_cases hi : i = 0
        · rw [if_pos hi]; omega
        · rw [if_neg hi, ByteArray.size_append, h3]; omega
      have h5 : (itT x).size = (headT x).size + (tailT x x.needs.length).size := by rw [itT_eq, ByteArray.size_append]
      rw [ByteArray.size_append, h5]
      exact Nat.le_trans (Nat.add_le_add h4 h1) (by rw [Nat.add_mul, Nat.one_mul]; omega)
    · exact Nat.le_trans ih (by rw [Nat.add_mul]; exact Nat.le_add_right _ _)
theorem s_l01DecI (n : Int) (h0 : 0 ≤ n) (h : n ≤ 1000000000000000000) : Sat Tryd.prog 27 [(false, [.int .i64 n])] (.one (.c (.str (itoaB n))), []) := by
  obtain ⟨m, rfl⟩ : ∃ m : Nat, n = m := ⟨n.toNat, by omega⟩
  exact s_l01Dec m (by omega)
theorem s_l28Text (xs : List Item) (hk : okItems xs = true) (hw : Enc.wt xs ≤ 1048576) : Sat Tryd.prog 38 [(false, Enc.enc xs)] (.one (.c (.str (pT xs xs.length))), []) := by
  have hb := items_b hk hw
  have h16 := items_16 hk
  have hsl : sl.size = 1 := rfl
  have hsp : sp.size = 1 := rfl
  have hmx : IntKind.i64.max = 9223372036854775807 := rfl
  refine Sat.intro tok mixed Tryd.func38 rfl rfl ?_
  ((conv => whnf); repeat ((first | refine B0 ?_ | refine B1 ?_ | refine D1 ?_ | refine D2 ?_ | refine CallC.r ?_); conv => whnf))
  refine Pick.mk [0, 3, 4] trivial ?_
  ((conv => whnf); repeat ((first | refine B0 ?_ | refine B1 ?_ | refine D1 ?_ | refine D2 ?_ | refine CallC.r ?_); conv => whnf))
  refine LoopL.over (fun (i : Nat) => [(3, .one (.c (.str (pT xs i)))), (4, .one (.c (.int .i64 ((i : Int)))))]) (fun (i : Nat) => []) (fun (i : Nat) => xs.length - i) (fun (i : Nat) => i ≤ xs.length) ?_ 0 (Nat.zero_le _)
  intro i g1 ih
  have hps := pT_size hb i
  ((conv => whnf); repeat ((first | refine B0 ?_ | refine B1 ?_ | refine D1 ?_ | refine D2 ?_ | refine CallC.r ?_); conv => whnf))
  refine Br.mk (fun h => ?_) (fun h => ?_) <;> ((conv => whnf); repeat ((first | refine B0 ?_ | refine B1 ?_ | refine D1 ?_ | refine D2 ?_ | refine CallC.r ?_); conv => whnf))
  · have h : i < xs.length := by simp only [List.length_map, decide_eq_true_eq] at h; omega
    have hx := hb _ (List.getElem_mem h)
    have hn := ih (i + 1) (by omega) (by omega)
    rw [pT_succ xs h] at hn
    have h1 := itoa_size hx.m0 (by have := hx.m1; omega)
    have h2 := itoa_size hx.c0 (by have := hx.c1; omega)
    have h3 := it_size hx xs[i].needs.length
    have h4 : xs[i].name.size ≤ 1048576 := by have := item_wt xs[i]; have := hx.w; omega
    clear ih
    have e32 : (⟨#[32]⟩ : ByteArray).size = 1 := rfl
    have e47 : (⟨#[47]⟩ : ByteArray).size = 1 := rfl
    refine Br.mk (fun hz => ?_) (fun hz => ?_) <;> ((conv => whnf); repeat ((first | refine B0 ?_ | refine B1 ?_ | refine D1 ?_ | refine D2 ?_ | refine CallC.r ?_); conv => whnf))
    · have hz : ¬ i = 0 := by simp only [decide_eq_true_eq] at hz; omega
      rw [if_neg hz] at hn
      refine Side.mk (by simp only [ByteArray.size_append, e32, e47, hmx]; omega) ?_
      ((conv => whnf); repeat ((first | refine B0 ?_ | refine B1 ?_ | refine D1 ?_ | refine D2 ?_ | refine CallC.r ?_); conv => whnf))
      refine Pick.ix (h) ?_
      ((conv => whnf); repeat ((first | refine B0 ?_ | refine B1 ?_ | refine D1 ?_ | refine D2 ?_ | refine CallC.r ?_); conv => whnf))
      refine Side.mk (by simp only [ByteArray.size_append, e32, e47, hmx]; omega) ?_
      ((conv => whnf); repeat ((first | refine B0 ?_ | refine B1 ?_ | refine D1 ?_ | refine D2 ?_ | refine CallC.r ?_); conv => whnf))
      refine Pick.ix (h) ?_
      ((conv => whnf); repeat ((first | refine B0 ?_ | refine B1 ?_ | refine D1 ?_ | refine D2 ?_ | refine CallC.r ?_); conv => whnf))
      refine Pick.mk _ (s_l01DecI xs[i].made hx.m0 (by have := hx.m1; omega)) ?_
      ((conv => whnf); repeat ((first | refine B0 ?_ | refine B1 ?_ | refine D1 ?_ | refine D2 ?_ | refine CallC.r ?_); conv => whnf))
      refine Side.mk (by simp only [ByteArray.size_append, e32, e47, hmx]; omega) ?_
      ((conv => whnf); repeat ((first | refine B0 ?_ | refine B1 ?_ | refine D1 ?_ | refine D2 ?_ | refine CallC.r ?_); conv => whnf))
      refine Side.mk (by simp only [ByteArray.size_append, e32, e47, hmx]; omega) ?_
      ((conv => whnf); repeat ((first | refine B0 ?_ | refine B1 ?_ | refine D1 ?_ | refine D2 ?_ | refine CallC.r ?_); conv => whnf))
      refine Pick.ix (h) ?_
      ((conv => whnf); repeat ((first | refine B0 ?_ | refine B1 ?_ | refine D1 ?_ | refine D2 ?_ | refine CallC.r ?_); conv => whnf))
      refine Pick.mk _ (s_l01DecI xs[i].cost hx.c0 (by have := hx.c1; omega)) ?_
      ((conv => whnf); repeat ((first | refine B0 ?_ | refine B1 ?_ | refine D1 ?_ | refine D2 ?_ | refine CallC.r ?_); conv => whnf))
      refine Side.mk (by simp only [ByteArray.size_append, e32, e47, hmx]; omega) ?_
      ((conv => whnf); repeat ((first | refine B0 ?_ | refine B1 ?_ | refine D1 ?_ | refine D2 ?_ | refine CallC.r ?_); conv => whnf))
      refine Side.mk (by simp only [ByteArray.size_append, e32, e47, hmx]; omega) ?_
      ((conv => whnf); repeat ((first | refine B0 ?_ | refine B1 ?_ | refine D1 ?_ | refine D2 ?_ | refine CallC.r ?_); conv => whnf))
      refine Pick.mk [0, 3, 4, 5] trivial ?_
      ((conv => whnf); repeat ((first | refine B0 ?_ | refine B1 ?_ | refine D1 ?_ | refine D2 ?_ | refine CallC.r ?_); conv => whnf))
      refine LoopL.over (fun (k : Nat) => [(3, .one (.c (.str (accT ((pT xs i ++ sl) ++ headT xs[i]) xs[i] k)))), (5, .one (.c (.int .i64 ((k : Int)))))]) (fun (k : Nat) => []) (fun (k : Nat) => xs[i].needs.length - k) (fun (k : Nat) => k ≤ xs[i].needs.length) ?_ 0 (Nat.zero_le _)
      intro k f1 ih2
      have hac := accT_eq ((pT xs i ++ sl) ++ headT xs[i]) xs[i] f1
      have hts := tail_size xs[i] k
      have hit := it_size hx k
      have hwt := item_wt xs[i]
      have hxw := hx.w
      ((conv => whnf); repeat ((first | refine B0 ?_ | refine B1 ?_ | refine D1 ?_ | refine D2 ?_ | refine CallC.r ?_); conv => whnf))
      refine Pick.ix (h) ?_
      ((conv => whnf); repeat ((first | refine B0 ?_ | refine B1 ?_ | refine D1 ?_ | refine D2 ?_ | refine CallC.r ?_); conv => whnf))
      refine Br.mk (fun hk2 => ?_) (fun hk2 => ?_) <;> ((conv => whnf); repeat ((first | refine B0 ?_ | refine B1 ?_ | refine D1 ?_ | refine D2 ?_ | refine CallC.r ?_); conv => whnf))
      · have hk2 : k < xs[i].needs.length := by simp only [List.length_map, decide_eq_true_eq] at hk2; omega
        have hn2 := ih2 (k + 1) (by omega) (by omega)
        rw [accT_succ _ _ hk2] at hn2
        have hnl := need_size xs[i] hk2
        refine Pick.ix (h) ?_
        ((conv => whnf); repeat ((first | refine B0 ?_ | refine B1 ?_ | refine D1 ?_ | refine D2 ?_ | refine CallC.r ?_); conv => whnf))
        refine Pick.ix (hk2) ?_
        ((conv => whnf); repeat ((first | refine B0 ?_ | refine B1 ?_ | refine D1 ?_ | refine D2 ?_ | refine CallC.r ?_); conv => whnf))
        refine Side.mk (by simp only [ByteArray.size_append, e32, e47, hmx]; omega) ?_
        ((conv => whnf); repeat ((first | refine B0 ?_ | refine B1 ?_ | refine D1 ?_ | refine D2 ?_ | refine CallC.r ?_); conv => whnf))
        refine Side.mk (by rw [hac]; simp only [ByteArray.size_append, e32, e47, hmx]; omega) ?_
        ((conv => whnf); repeat ((first | refine B0 ?_ | refine B1 ?_ | refine D1 ?_ | refine D2 ?_ | refine CallC.r ?_); conv => whnf))
        refine Pick.at64 (z := (k + 1 : Nat)) (by simp) (by omega) ?_
        ((conv => whnf); repeat ((first | refine B0 ?_ | refine B1 ?_ | refine D1 ?_ | refine D2 ?_ | refine CallC.r ?_); conv => whnf))
        exact hn2
      · have hk2 : k = xs[i].needs.length := by simp only [List.length_map, decide_eq_false_iff_not] at hk2; omega
        subst hk2
        refine Pick.at64 (z := (i + 1 : Nat)) (by simp) (by omega) ?_
        ((conv => whnf); repeat ((first | refine B0 ?_ | refine B1 ?_ | refine D1 ?_ | refine D2 ?_ | refine CallC.r ?_); conv => whnf))
        have e : accT ((pT xs i ++ sl) ++ headT xs[i]) xs[i] xs[i].needs.length = (pT xs i ++ sl) ++ itT xs[i] := by
          rw [hac, itT_eq]
          apply bl_inj
          simp only [bl_app, List.append_assoc]
        rw [← e] at hn
        exact hn
    · have hz : i = 0 := by simp only [decide_eq_false_iff_not] at hz; omega
      rw [if_pos hz] at hn
      refine Pick.ix (h) ?_
      ((conv => whnf); repeat ((first | refine B0 ?_ | refine B1 ?_ | refine D1 ?_ | refine D2 ?_ | refine CallC.r ?_); conv => whnf))
      refine Side.mk (by simp only [ByteArray.size_append, e32, e47, hmx]; omega) ?_
      ((conv => whnf); repeat ((first | refine B0 ?_ | refine B1 ?_ | refine D1 ?_ | refine D2 ?_ | refine CallC.r ?_); conv => whnf))
      refine Pick.ix (h) ?_
      ((conv => whnf); repeat ((first | refine B0 ?_ | refine B1 ?_ | refine D1 ?_ | refine D2 ?_ | refine CallC.r ?_); conv => whnf))
      refine Pick.mk _ (s_l01DecI xs[i].made hx.m0 (by have := hx.m1; omega)) ?_
      ((conv => whnf); repeat ((first | refine B0 ?_ | refine B1 ?_ | refine D1 ?_ | refine D2 ?_ | refine CallC.r ?_); conv => whnf))
      refine Side.mk (by simp only [ByteArray.size_append, e32, e47, hmx]; omega) ?_
      ((conv => whnf); repeat ((first | refine B0 ?_ | refine B1 ?_ | refine D1 ?_ | refine D2 ?_ | refine CallC.r ?_); conv => whnf))
      refine Side.mk (by simp only [ByteArray.size_append, e32, e47, hmx]; omega) ?_
      ((conv => whnf); repeat ((first | refine B0 ?_ | refine B1 ?_ | refine D1 ?_ | refine D2 ?_ | refine CallC.r ?_); conv => whnf))
      refine Pick.ix (h) ?_
      ((conv => whnf); repeat ((first | refine B0 ?_ | refine B1 ?_ | refine D1 ?_ | refine D2 ?_ | refine CallC.r ?_); conv => whnf))
      refine Pick.mk _ (s_l01DecI xs[i].cost hx.c0 (by have := hx.c1; omega)) ?_
      ((conv => whnf); repeat ((first | refine B0 ?_ | refine B1 ?_ | refine D1 ?_ | refine D2 ?_ | refine CallC.r ?_); conv => whnf))
      refine Side.mk (by simp only [ByteArray.size_append, e32, e47, hmx]; omega) ?_
      ((conv => whnf); repeat ((first | refine B0 ?_ | refine B1 ?_ | refine D1 ?_ | refine D2 ?_ | refine CallC.r ?_); conv => whnf))
      refine Side.mk (by simp only [ByteArray.size_append, e32, e47, hmx]; omega) ?_
      ((conv => whnf); repeat ((first | refine B0 ?_ | refine B1 ?_ | refine D1 ?_ | refine D2 ?_ | refine CallC.r ?_); conv => whnf))
      refine Pick.mk [0, 3, 4, 5] trivial ?_
      ((conv => whnf); repeat ((first | refine B0 ?_ | refine B1 ?_ | refine D1 ?_ | refine D2 ?_ | refine CallC.r ?_); conv => whnf))
      refine LoopL.over (fun (k : Nat) => [(3, .one (.c (.str (accT ((pT xs i) ++ headT xs[i]) xs[i] k)))), (5, .one (.c (.int .i64 ((k : Int)))))]) (fun (k : Nat) => []) (fun (k : Nat) => xs[i].needs.length - k) (fun (k : Nat) => k ≤ xs[i].needs.length) ?_ 0 (Nat.zero_le _)
      intro k f1 ih2
      have hac := accT_eq ((pT xs i) ++ headT xs[i]) xs[i] f1
      have hts := tail_size xs[i] k
      have hit := it_size hx k
      have hwt := item_wt xs[i]
      have hxw := hx.w
      ((conv => whnf); repeat ((first | refine B0 ?_ | refine B1 ?_ | refine D1 ?_ | refine D2 ?_ | refine CallC.r ?_); conv => whnf))
      refine Pick.ix (h) ?_
      ((conv => whnf); repeat ((first | refine B0 ?_ | refine B1 ?_ | refine D1 ?_ | refine D2 ?_ | refine CallC.r ?_); conv => whnf))
      refine Br.mk (fun hk2 => ?_) (fun hk2 => ?_) <;> ((conv => whnf); repeat ((first | refine B0 ?_ | refine B1 ?_ | refine D1 ?_ | refine D2 ?_ | refine CallC.r ?_); conv => whnf))
      · have hk2 : k < xs[i].needs.length := by simp only [List.length_map, decide_eq_true_eq] at hk2; omega
        have hn2 := ih2 (k + 1) (by omega) (by omega)
        rw [accT_succ _ _ hk2] at hn2
        have hnl := need_size xs[i] hk2
        refine Pick.ix (h) ?_
        ((conv => whnf); repeat ((first | refine B0 ?_ | refine B1 ?_ | refine D1 ?_ | refine D2 ?_ | refine CallC.r ?_); conv => whnf))
        refine Pick.ix (hk2) ?_
        ((conv => whnf); repeat ((first | refine B0 ?_ | refine B1 ?_ | refine D1 ?_ | refine D2 ?_ | refine CallC.r ?_); conv => whnf))
        refine Side.mk (by simp only [ByteArray.size_append, e32, e47, hmx]; omega) ?_
        ((conv => whnf); repeat ((first | refine B0 ?_ | refine B1 ?_ | refine D1 ?_ | refine D2 ?_ | refine CallC.r ?_); conv => whnf))
        refine Side.mk (by rw [hac]; simp only [ByteArray.size_append, e32, e47, hmx]; omega) ?_
        ((conv => whnf); repeat ((first | refine B0 ?_ | refine B1 ?_ | refine D1 ?_ | refine D2 ?_ | refine CallC.r ?_); conv => whnf))
        refine Pick.at64 (z := (k + 1 : Nat)) (by simp) (by omega) ?_
        ((conv => whnf); repeat ((first | refine B0 ?_ | refine B1 ?_ | refine D1 ?_ | refine D2 ?_ | refine CallC.r ?_); conv => whnf))
        exact hn2
      · have hk2 : k = xs[i].needs.length := by simp only [List.length_map, decide_eq_false_iff_not] at hk2; omega
        subst hk2
        refine Pick.at64 (z := (i + 1 : Nat)) (by simp) (by omega) ?_
        ((conv => whnf); repeat ((first | refine B0 ?_ | refine B1 ?_ | refine D1 ?_ | refine D2 ?_ | refine CallC.r ?_); conv => whnf))
        have e : accT ((pT xs i) ++ headT xs[i]) xs[i] xs[i].needs.length = (pT xs i) ++ itT xs[i] := by
          rw [hac, itT_eq]
          apply bl_inj
          simp only [bl_app, List.append_assoc]
        rw [← e] at hn
        exact hn
  · have h : i = xs.length := by simp only [List.length_map, decide_eq_false_iff_not] at h; omega
    subst h
    exact ResOK.same rfl
end Go.Proofs.YtjolahiflldepaaDoor.Pi
