/- The text of a list, the program and the reference. No statement of the seat is proved here. -/
import Derived.Test.YtnafogjagbhdbaaDoorPiFBl
import Derived.Test.YtnafogjagbhdbaaDoorPiFRowsT
namespace Go.Proofs.YtnafogjagbhdbaaDoor.Pi
open Go
set_option maxRecDepth 10000
set_option maxHeartbeats 3200000
set_option linter.unusedVariables false
set_option linter.unusedSimpArgs false

def cm : ByteArray := ⟨#[44]⟩
theorem bl_es : bl es = [] := rfl
/-- Texts, one behind the other, something between them. -/
def pJ (ys : List ByteArray) (sep : ByteArray) : Nat → ByteArray
  | 0 => es
  | i + 1 => match ys[i]? with
    | some y => (if i = 0 then pJ ys sep i else pJ ys sep i ++ sep) ++ y
    | none => pJ ys sep i
theorem pJ_succ (ys : List ByteArray) (sep : ByteArray) {i : Nat} (h : i < ys.length) : pJ ys sep (i + 1) = (if i = 0 then pJ ys sep i else pJ ys sep i ++ sep) ++ ys[i] := by
  rw [pJ, List.getElem?_eq_getElem h]
theorem pJ_eq (ys : List ByteArray) (sep : ByteArray) : ∀ {i : Nat}, i ≤ ys.length → pJ ys sep i = joinB (ys.take i) sep
  | 0, _ => rfl
  | i + 1, h => by
    rw [pJ_succ ys sep (by omega), pJ_eq ys sep (show i ≤ ys.length by omega)]
    apply bl_inj
    rw [List.take_add_one, List.getElem?_eq_getElem (show i < ys.length by omega), Option.toList_some]
    cases i with
    | zero => simp [bl_join, bl_app, Lib.join_one, Lib.join_nil]
    | succ i =>
      rw [if_neg (by omega)]
      simp only [bl_app, bl_join, List.map_append, List.map_cons, List.map_nil]
      cases hx : ys.take (i + 1) with
      | nil => exact absurd (congrArg List.length hx) (by rw [List.length_take, List.length_nil]; omega)
      | cons y zs => simp only [List.map_cons, List.cons_append, Lib.join_cons, Lib.joinTail, List.map_append, List.flatten_append, List.map_nil, List.flatten_cons, List.flatten_nil, List.append_nil, List.append_assoc, List.cons_append, List.nil_append]
theorem pJ_size (ys : List ByteArray) (sep : ByteArray) {c : Nat} (hc : ∀ y ∈ ys, y.size ≤ c) (hs : sep.size = 1) : ∀ {i : Nat}, i ≤ ys.length → (pJ ys sep i).size ≤ i * (c + 1)
  | 0, _ => by show (0 : Nat) ≤ _; omega
  | i + 1, h => by
    have h1 := pJ_size ys sep hc hs (show i ≤ ys.length by omega)
    have h2 := hc _ (List.getElem_mem (show i < ys.length by omega))
    rw [pJ_succ ys sep (by omega), ByteArray.size_append, Nat.succ_mul]
    split
    · omega
    · rw [ByteArray.size_append]; omega
/-- Texts, one behind the other, behind a text. -/
def accW {α : Type} (f : α → ByteArray) (q : ByteArray) (xs : List α) (k : Nat) : ByteArray := (xs.take k).foldl (fun s x => s ++ f x) q
theorem accW_succ {α : Type} (f : α → ByteArray) (q : ByteArray) (xs : List α) {k : Nat} (h : k < xs.length) : accW f q xs (k + 1) = accW f q xs k ++ f xs[k] := by
  simp only [accW, List.take_add_one, List.getElem?_eq_getElem h, Option.toList_some, List.foldl_append, List.foldl_cons, List.foldl_nil]
theorem foldl_app {α : Type} (f : α → ByteArray) : ∀ (xs : List α) (q : ByteArray), xs.foldl (fun s x => s ++ f x) q = q ++ xs.foldl (fun s x => s ++ f x) es
  | [], q => (app_es q).symm
  | x :: xs, q => by
    rw [List.foldl_cons, List.foldl_cons, foldl_app f xs (q ++ f x), foldl_app f xs (es ++ f x), es_app, app_assoc]
theorem accW_app {α : Type} (f : α → ByteArray) (q : ByteArray) (xs : List α) (k : Nat) : accW f q xs k = q ++ accW f es xs k := foldl_app f _ q
theorem accW_size {α : Type} (f : α → ByteArray) (q : ByteArray) (xs : List α) {c : Nat} (hc : ∀ x ∈ xs, (f x).size ≤ c) : ∀ {k : Nat}, k ≤ xs.length → (accW f q xs k).size ≤ q.size + k * c
  | 0, _ => by show q.size ≤ _; omega
  | k + 1, h => by
    have h1 := accW_size f q xs hc (show k ≤ xs.length by omega)
    have h2 := hc _ (List.getElem_mem (show k < xs.length by omega))
    rw [accW_succ f q xs (by omega), ByteArray.size_append, Nat.succ_mul]; omega
theorem join_acc (sep w : ByteArray) (ys : List ByteArray) : joinB (w :: ys) sep = accW (fun y => sep ++ y) w ys ys.length := by
  have key : ∀ (ys : List ByteArray) (q : ByteArray), bl (ys.foldl (fun s y => s ++ (sep ++ y)) q) = bl q ++ Lib.joinTail (bl sep) (ys.map bl) := fun ys => by
    induction ys with
    | nil => intro q; exact (List.append_nil _).symm
    | cons y ys ih =>
      intro q
      rw [List.foldl_cons, ih]
      simp only [bl_app, Lib.joinTail, List.map_cons, List.flatten_cons, List.append_assoc]
  apply bl_inj
  rw [bl_join, List.map_cons, Lib.join_cons, accW, List.take_length, key]
theorem accW_map {α : Type} (f : ByteArray → ByteArray) (g : α → ByteArray) (q : ByteArray) (xs : List α) : accW f q (xs.map g) (xs.map g).length = accW (fun x => f (g x)) q xs xs.length := by
  rw [accW, accW, List.take_length, List.take_length, List.foldl_map]

def listB (xs : List Int) : ByteArray := if xs.length = 0 then ⟨#[45]⟩ else joinB (xs.map itoaB) cm
def SmallL (xs : List Int) : Prop := xs.length ≤ 64 ∧ ∀ x ∈ xs, 0 ≤ x ∧ x ≤ 1000000000000
theorem itoas_size {xs : List Int} (h : SmallL xs) : ∀ y ∈ xs.map itoaB, y.size ≤ 19 := fun y hy => by
  obtain ⟨x, hx, rfl⟩ := List.mem_map.1 hy
  have := h.2 x hx
  exact itoa_size this.1 (by omega)
theorem listB_size {xs : List Int} (h : SmallL xs) : (listB xs).size ≤ 1280 := by
  rw [listB]
  split
  · show (1 : Nat) ≤ 1280; omega
  · have h1 := pJ_size (xs.map itoaB) cm (itoas_size h) rfl (Nat.le_refl _)
    rw [pJ_eq _ _ (Nat.le_refl _), List.take_length, List.length_map] at h1
    have := h.1
    omega
theorem s_l01List (xs : List Int) (h : SmallL xs) : Sat Tryd.prog 27 [(false, Enc.enc xs)] (.one (.c (.str (listB xs))), []) := by
  have hmx : IntKind.i64.max = 9223372036854775807 := rfl
  have e44 : (⟨#[44]⟩ : ByteArray).size = 1 := rfl
  obtain ⟨h64, hv⟩ := h
  refine Sat.intro tok mixed Tryd.func27 rfl rfl ?_
  ((conv => whnf); repeat ((first | refine B0 ?_ | refine B1 ?_ | refine D1 ?_ | refine D2 ?_ | refine CallC.r ?_); conv => whnf))
  refine Br.mk (fun hz => ?_) (fun hz => ?_) <;> ((conv => whnf); repeat ((first | refine B0 ?_ | refine B1 ?_ | refine D1 ?_ | refine D2 ?_ | refine CallC.r ?_); conv => whnf))
  · have hz : xs.length = 0 := by have hz := eq_of_beq hz; simp only [List.length_map] at hz; omega
    exact ResOK.same (by rw [listB, if_pos hz])
  have hz : ¬ xs.length = 0 := fun e => by
    rw [List.length_map, e] at hz
    exact absurd hz (by decide)
  refine Pick.mk [0, 3, 4] trivial ?_
  ((conv => whnf); repeat ((first | refine B0 ?_ | refine B1 ?_ | refine D1 ?_ | refine D2 ?_ | refine CallC.r ?_); conv => whnf))
  refine LoopL.over (fun (i : Nat) => [(3, .one (.c (.str (pJ (xs.map itoaB) cm i)))), (4, .one (.c (.int .i64 ((i : Int)))))]) (fun (i : Nat) => []) (fun (i : Nat) => xs.length - i) (fun (i : Nat) => i ≤ xs.length) ?_ 0 (Nat.zero_le _)
  intro i g1 ih
  have hps := pJ_size (xs.map itoaB) cm (itoas_size ⟨h64, hv⟩) rfl (show i ≤ (xs.map itoaB).length by rw [List.length_map]; omega)
  ((conv => whnf); repeat ((first | refine B0 ?_ | refine B1 ?_ | refine D1 ?_ | refine D2 ?_ | refine CallC.r ?_); conv => whnf))
  refine Br.mk (fun h => ?_) (fun h => ?_) <;> ((conv => whnf); repeat ((first | refine B0 ?_ | refine B1 ?_ | refine D1 ?_ | refine D2 ?_ | refine CallC.r ?_); conv => whnf))
  · have h : i < xs.length := by simp only [List.length_map, decide_eq_true_eq] at h; omega
    have hx := hv _ (List.getElem_mem h)
    have hn := ih (i + 1) (by omega) (by omega)
    rw [pJ_succ _ _ (show i < (xs.map itoaB).length by rw [List.length_map]; omega), List.getElem_map] at hn
    have h1 := itoa_size hx.1 (by omega)
    clear ih
    refine Br.mk (fun hz => ?_) (fun hz => ?_) <;> ((conv => whnf); repeat ((first | refine B0 ?_ | refine B1 ?_ | refine D1 ?_ | refine D2 ?_ | refine CallC.r ?_); conv => whnf))
    · have hz : ¬ i = 0 := by simp only [decide_eq_true_eq] at hz; omega
      rw [if_neg hz] at hn
      refine Side.mk (by simp only [ByteArray.size_append, e44, hmx]; omega) ?_
      ((conv => whnf); repeat ((first | refine B0 ?_ | refine B1 ?_ | refine D1 ?_ | refine D2 ?_ | refine CallC.r ?_); conv => whnf))
      refine Pick.ix (h) ?_
      ((conv => whnf); repeat ((first | refine B0 ?_ | refine B1 ?_ | refine D1 ?_ | refine D2 ?_ | refine CallC.r ?_); conv => whnf))
      refine Pick.mk _ (s_l01DecI xs[i] hx.1 (by omega)) ?_
      ((conv => whnf); repeat ((first | refine B0 ?_ | refine B1 ?_ | refine D1 ?_ | refine D2 ?_ | refine CallC.r ?_); conv => whnf))
      refine Side.mk (by simp only [ByteArray.size_append, e44, hmx]; omega) ?_
      ((conv => whnf); repeat ((first | refine B0 ?_ | refine B1 ?_ | refine D1 ?_ | refine D2 ?_ | refine CallC.r ?_); conv => whnf))
      refine Pick.at64 (z := (i + 1 : Nat)) (by simp) (by omega) ?_
      ((conv => whnf); repeat ((first | refine B0 ?_ | refine B1 ?_ | refine D1 ?_ | refine D2 ?_ | refine CallC.r ?_); conv => whnf))
      exact hn
    · have hz : i = 0 := by simp only [decide_eq_false_iff_not] at hz; omega
      rw [if_pos hz] at hn
      refine Pick.ix (h) ?_
      ((conv => whnf); repeat ((first | refine B0 ?_ | refine B1 ?_ | refine D1 ?_ | refine D2 ?_ | refine CallC.r ?_); conv => whnf))
      refine Pick.mk _ (s_l01DecI xs[i] hx.1 (by omega)) ?_
      ((conv => whnf); repeat ((first | refine B0 ?_ | refine B1 ?_ | refine D1 ?_ | refine D2 ?_ | refine CallC.r ?_); conv => whnf))
      refine Side.mk (by simp only [ByteArray.size_append, e44, hmx]; omega) ?_
      ((conv => whnf); repeat ((first | refine B0 ?_ | refine B1 ?_ | refine D1 ?_ | refine D2 ?_ | refine CallC.r ?_); conv => whnf))
      refine Pick.at64 (z := (i + 1 : Nat)) (by simp) (by omega) ?_
      ((conv => whnf); repeat ((first | refine B0 ?_ | refine B1 ?_ | refine D1 ?_ | refine D2 ?_ | refine CallC.r ?_); conv => whnf))
      exact hn
  · have h : i = xs.length := by simp only [List.length_map, decide_eq_false_iff_not] at h; omega
    subst h
    have e : joinB (xs.map itoaB) cm = pJ (xs.map itoaB) cm xs.length := by
      have := pJ_eq (xs.map itoaB) cm (Nat.le_refl _)
      rw [List.take_length, List.length_map] at this
      exact this.symm
    exact ResOK.same (by rw [listB, if_neg hz, e])
theorem s_isValue (x : Int) : Sat Tryd.prog 38 [(false, [.int .i64 x])] (.one (.c (.bool (decide (-1000000000000 ≤ x) && decide (x ≤ 1000000000000)))), []) := by
  refine Sat.intro tok mixed Tryd.func38 rfl rfl ?_
  ((conv => whnf); repeat ((first | refine B0 ?_ | refine B1 ?_ | refine D1 ?_ | refine D2 ?_ | refine CallC.r ?_); conv => whnf))
  refine Pick.mk _ (s_within x (-1000000000000) 1000000000000) ?_
  ((conv => whnf); repeat ((first | refine B0 ?_ | refine B1 ?_ | refine D1 ?_ | refine D2 ?_ | refine CallC.r ?_); conv => whnf))
  exact ResOK.same rfl
theorem s_ListText1 (x : Int) : Sat Tryd.prog 37 ((false, Enc.enc x) :: ([] : List CV).map fun y => (false, [y])) (.one (.c (.bool (!(decide (-1000000000000 ≤ x) && decide (x ≤ 1000000000000))))), []) := by
  refine Sat.intro tok mixed Tryd.func37 rfl rfl ?_
  ((conv => whnf); repeat ((first | refine B0 ?_ | refine B1 ?_ | refine D1 ?_ | refine D2 ?_ | refine CallC.r ?_); conv => whnf))
  refine Pick.mk _ (s_isValue x) ?_
  ((conv => whnf); repeat ((first | refine B0 ?_ | refine B1 ?_ | refine D1 ?_ | refine D2 ?_ | refine CallC.r ?_); conv => whnf))
  exact ResOK.same rfl
theorem s_ListText (xs : List Int) (h : SmallL xs) : Sat Tryd.prog 18 [(false, Enc.enc xs)] (.one (.c (.str (listB xs))), []) := by
  have hits := itoas_size h
  obtain ⟨h64, hv⟩ := h
  refine Sat.intro tok mixed Tryd.func18 rfl rfl ?_
  ((conv => whnf); repeat ((first | refine B0 ?_ | refine B1 ?_ | refine D1 ?_ | refine D2 ?_ | refine CallC.r ?_); conv => whnf))
  refine Br.mk (fun h => absurd h (by simp only [List.length_map, decide_eq_true_eq]; omega)) (fun _ => ?_)
  ((conv => whnf); repeat ((first | refine B0 ?_ | refine B1 ?_ | refine D1 ?_ | refine D2 ?_ | refine CallC.r ?_); conv => whnf))
  refine Pick.mk _ (s_ContainsFuncInt64 xs 37 [] (fun x => !(decide (-1000000000000 ≤ x) && decide (x ≤ 1000000000000))) (by simp only [maxLen]; omega) (fun x _ => s_ListText1 x)) ?_
  ((conv => whnf); repeat ((first | refine B0 ?_ | refine B1 ?_ | refine D1 ?_ | refine D2 ?_ | refine CallC.r ?_); conv => whnf))
  have hany : (xs.any fun x => !(decide (-1000000000000 ≤ x) && decide (x ≤ 1000000000000))) = false := by
    rw [List.any_eq_false]
    intro x hx
    have := hv x hx
    have e1 : decide (-1000000000000 ≤ x) = true := decide_eq_true (by omega)
    have e2 : decide (x ≤ 1000000000000) = true := decide_eq_true (by omega)
    rw [e1, e2]; decide
  refine Br.mk (fun h => absurd h (by rw [hany]; decide)) (fun _ => ?_)
  ((conv => whnf); repeat ((first | refine B0 ?_ | refine B1 ?_ | refine D1 ?_ | refine D2 ?_ | refine CallC.r ?_); conv => whnf))
  refine Br.mk (fun hz => ?_) (fun hz => ?_) <;> ((conv => whnf); repeat ((first | refine B0 ?_ | refine B1 ?_ | refine D1 ?_ | refine D2 ?_ | refine CallC.r ?_); conv => whnf))
  · have hz : xs.length = 0 := by have hz := eq_of_beq hz; simp only [List.length_map] at hz; omega
    exact ResOK.same (by rw [listB, if_pos hz])
  have hz : ¬ xs.length = 0 := fun e => by
    rw [List.length_map, e] at hz
    exact absurd hz (by decide)
  refine Pick.mk [3, 16, 17, 18] trivial ?_
  ((conv => whnf); repeat ((first | refine B0 ?_ | refine B1 ?_ | refine D1 ?_ | refine D2 ?_ | refine CallC.r ?_); conv => whnf))
  refine LoopL.over (fun (i : Nat) => [(18, .one (.c (.int .i64 ((i : Int)))))]) (fun (i : Nat) => [(192, .arr 1 (List.map Enc.enc ((xs.take i).map itoaB)))]) (fun (i : Nat) => xs.length - i) (fun (i : Nat) => i ≤ xs.length) ?_ 0 (Nat.zero_le _)
  intro i g1 ih
  ((conv => whnf); repeat ((first | refine B0 ?_ | refine B1 ?_ | refine D1 ?_ | refine D2 ?_ | refine CallC.r ?_); conv => whnf))
  refine Br.mk (fun h => ?_) (fun h => ?_) <;> ((conv => whnf); repeat ((first | refine B0 ?_ | refine B1 ?_ | refine D1 ?_ | refine D2 ?_ | refine CallC.r ?_); conv => whnf))
  · have h : i < xs.length := by simp only [List.length_map, decide_eq_true_eq] at h; omega
    have hx := hv _ (List.getElem_mem h)
    have hn := ih (i + 1) (by omega) (by omega)
    clear ih
    refine Pick.ix (h) ?_
    ((conv => whnf); repeat ((first | refine B0 ?_ | refine B1 ?_ | refine D1 ?_ | refine D2 ?_ | refine CallC.r ?_); conv => whnf))
    refine Pick.mk _ (s_Decimal xs[i] ⟨by omega, by omega⟩) ?_
    ((conv => whnf); repeat ((first | refine B0 ?_ | refine B1 ?_ | refine D1 ?_ | refine D2 ?_ | refine CallC.r ?_); conv => whnf))
    refine Side.mk (by simp only [List.length_map, List.length_cons, List.length_nil, List.length_take]; omega) ?_
    ((conv => whnf); repeat ((first | refine B0 ?_ | refine B1 ?_ | refine D1 ?_ | refine D2 ?_ | refine CallC.r ?_); conv => whnf))
    refine Pick.at64 (z := (i + 1 : Nat)) (by simp) (by omega) ?_
    ((conv => whnf); repeat ((first | refine B0 ?_ | refine B1 ?_ | refine D1 ?_ | refine D2 ?_ | refine CallC.r ?_); conv => whnf))
    rw [List.take_add_one, List.getElem?_eq_getElem h, Option.toList_some, List.map_append, List.map_append] at hn
    exact hn
  · have h : i = xs.length := by simp only [List.length_map, decide_eq_false_iff_not] at h; omega
    subst h
    rw [List.take_length]
    have hjl : (Lib.join ((xs.map itoaB).map (·.data.toList)) cm.data.toList).length ≤ 140737488355328 := by
      have h1 := pJ_size (xs.map itoaB) cm hits rfl (Nat.le_refl _)
      rw [pJ_eq _ _ (Nat.le_refl _), List.take_length, List.length_map, bl_size, bl_join] at h1
      show (Lib.join ((xs.map itoaB).map bl) (bl cm)).length ≤ 140737488355328
      omega
    refine Pick.mk _ (s_JoinS (xs.map itoaB) cm (by rw [List.length_map]; omega) hjl) ?_
    ((conv => whnf); repeat ((first | refine B0 ?_ | refine B1 ?_ | refine D1 ?_ | refine D2 ?_ | refine CallC.r ?_); conv => whnf))
    exact ResOK.same (by rw [listB, if_neg hz])
/-- What a call hands back, frozen. -/
theorem Sat.frzR {P : Program} {f : FuncId} {args : List Comp} {r : Res} {pv : PV} (h : Sat P f args r) (hp : frzP r = some pv) : Sat P f args (pv, []) :=
  ⟨h.1, fun I w vals hlw hI hn hr => (h.2 I w vals hlw hI hn hr).mono fun e w' hpost => by
    cases e with
    | returned v =>
      obtain ⟨hb, L, I', q1, q2, q3, q4⟩ := hpost
      obtain ⟨p, H⟩ := r
      refine ⟨hb, ⟨fun _ => none, fun _ => 0, fun _ _ => False, fun _ _ => undef⟩, Iall L H I', fun b hb' hIa => ?_, fun b hIa => ?_, frzP_rep q4 (fun b h => h) hp q3, ?_⟩
      · rcases hIa with h | ⟨k, o, h3, h4⟩
        · exact q1 b hb' h
        · have := (q4.own k o b h3 h4).1
          omega
      · rcases hIa with h | ⟨k, o, h3, h4⟩
        · exact q2 b h
        · exact (q4.own k o b h3 h4).2.2
      · exact ⟨fun k o h => by simp [find] at h, fun k o b h => by simp [find] at h, fun k k' o o' b h => by simp [find] at h⟩
    | outgrown => exact hpost.elim
    | panicked _ => exact hpost.elim⟩
end Go.Proofs.YtnafogjagbhdbaaDoor.Pi
