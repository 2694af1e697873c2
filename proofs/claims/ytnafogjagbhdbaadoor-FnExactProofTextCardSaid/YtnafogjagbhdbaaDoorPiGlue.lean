/- From arguments that read as data to pure contents. No statement of the seat is proved here. -/
import Derived.Test.YtnafogjagbhdbaaDoorPiE
import Derived.ChangeShapes
import Derived.ChangeAnyMap
import Derived.DataReads
import Derived.Carry
import Derived.ChangeOld
namespace Go.Proofs.YtnafogjagbhdbaaDoor.Pi
open Go Go.RowKit Go.ChangeShapes
set_option linter.unusedVariables false
set_option linter.unusedSimpArgs false

def HasFs (P : Program) (g : TypeId → List CV → Prop) : List Field → List CV → Prop
  | [], cs => cs = []
  | f :: fs, cs => ∃ a b, cs = a ++ b ∧ a.length = P.cellsOf f.type ∧ g f.type a ∧ HasFs P g fs b

/-- The cells are of the type. -/
def HasT (P : Program) : Nat → TypeId → List CV → Prop
  | 0, _, _ => False
  | n + 1, t, cs => match P.underlying t with
    | some .bool => ∃ b, cs = [.bool b]
    | some (.int k) => ∃ m, cs = [.int k m] ∧ (Lit.int k m).wf = true
    | some .string => ∃ s : ByteArray, cs = [.str s] ∧ s.size ≤ maxLen
    | some (.slice e) => ∃ es, cs = [.slice (P.cellsOf e) es] ∧ es.length ≤ maxLen ∧ ∀ r ∈ es, HasT P n e r
    | some (.struct fs) => HasFs P (HasT P n) fs.toList cs
    | _ => False

def tiles (P : Program) : List Field → Nat → Nat → Bool
  | [], off, tot => Nat.beq off tot
  | f :: fs, off, tot => Nat.beq f.offset off && tiles P fs (off + P.cellsOf f.type) tot

/-- The types of the list are made of bools, integers, strings, slices and structs of such. -/
def closedT (P : Program) (S : List Nat) : Bool := S.all fun t => match P.underlying t with
  | some .bool | some (.int _) | some .string => true
  | some (.slice e) => S.contains e && Nat.blt 0 (P.cellsOf e)
  | some (.struct fs) => fs.toList.all (fun f => S.contains f.type) && tiles P fs.toList 0 (P.cellsOf t)
  | _ => false

theorem tiles_le {P : Program} : ∀ {fs : List Field} {off tot : Nat}, tiles P fs off tot = true → off ≤ tot
  | [], off, tot, h => Nat.le_of_eq (beq_iff.1 h)
  | f :: fs, off, tot, h => by
    simp only [tiles, Bool.and_eq_true] at h
    have := tiles_le h.2
    omega

theorem mapM_all {α β : Type} {f : α → Option β} : ∀ {l : List α} {r : List β}, l.mapM f = some r → ∀ x ∈ l, ∃ y, f x = some y
  | [], r, h, x, hx => by simp at hx
  | a :: l, r, h, x, hx => by
    rw [List.mapM_cons] at h
    cases ha : f a with
    | none => simp [ha] at h
    | some b =>
      cases hl : l.mapM f with
      | none => simp [ha, hl] at h
      | some bs =>
        rcases List.mem_cons.1 hx with rfl | hx
        · exact ⟨b, ha⟩
        · exact mapM_all hl x hx

theorem exists_list {β : Type} {p : Nat → β → Prop} : ∀ (n : Nat), (∀ i, i < n → ∃ y, p i y) → ∃ l : List β, l.length = n ∧ ∀ i y, l[i]? = some y → p i y
  | 0, h => ⟨[], rfl, by simp⟩
  | n + 1, h => by
    obtain ⟨l, h1, h2⟩ := exists_list n fun i hi => h i (by omega)
    obtain ⟨y, hy⟩ := h n (by omega)
    refine ⟨l ++ [y], by simp [h1], fun i z hz => ?_⟩
    by_cases hi : i < n
    · rw [List.getElem?_append_left (by omega)] at hz
      exact h2 i z hz
    · have hlt : i < (l ++ [y]).length := (List.getElem?_eq_some_iff.1 hz).1
      have : i = n := by simp [h1] at hlt; omega
      subst this
      rw [List.getElem?_append_right (by omega)] at hz
      simp [h1] at hz
      subst hz
      exact hy

section
variable {H : Type} {enc : TypeId × Value → H} {P : Program} {W : World} {base : Nat} {sp : Nat → Bool} {held : Bool}

def RepL (I : Nat → Prop) (W : World) (vs : List Value) (ys : List CV) : Prop := ys.length = vs.length ∧ ∀ (i : Nat) (y : CV) (v : Value), ys[i]? = some y → vs[i]? = some v → RepC I W v y

theorem RepL.one {I : Nat → Prop} {v : Value} {y : CV} (h : RepC I W v y) : RepL I W [v] [y] := ⟨rfl, fun i y' v' h1 h2 => by
  cases i with
  | zero => simp only [List.getElem?_cons_zero, Option.some.injEq] at h1 h2; subst h1 h2; exact h
  | succ i => simp at h1⟩

theorem fields_rep {I : Nat → Prop} {g : TypeId → List Value → Option (DataW H × List MemPlace)} {q : TypeId → List CV → Prop} {cs : List Value} :
    ∀ {fs : List Field} {off : Nat}, tiles P fs off cs.length = true → (∀ f ∈ fs, ∀ vs x, g f.type vs = some x → ∃ ys, q f.type ys ∧ RepL I W vs ys) →
      (∀ f ∈ fs, ∃ x, g f.type ((cs.drop f.offset).take (P.cellsOf f.type)) = some x) → ∃ ys, HasFs P q fs ys ∧ RepL I W (cs.drop off) ys
  | [], off, ht, hi, h => by
    have := beq_iff.1 ht
    exact ⟨[], rfl, by simp [this], fun i y v h => by simp at h⟩
  | f :: fs, off, ht, hi, h => by
    simp only [tiles, Bool.and_eq_true] at ht
    obtain ⟨ht1, ht2⟩ := ht
    have ho := beq_iff.1 ht1
    have hle := tiles_le ht2
    obtain ⟨x, hx⟩ := h f (by simp)
    obtain ⟨a, ha1, ha2, ha3⟩ := hi f (by simp) _ _ hx
    obtain ⟨b, hb1, hb2, hb3⟩ := fields_rep ht2 (fun f hf => hi f (by simp [hf])) (fun f hf => h f (by simp [hf]))
    rw [ho] at ha2 ha3
    have hal : a.length = P.cellsOf f.type := by rw [ha2]; simp; omega
    refine ⟨a ++ b, ⟨a, b, rfl, hal, ha1, hb1⟩, by simp [hal]; rw [hb2]; simp; omega, fun i y v h1 h2 => ?_⟩
    by_cases hlt : i < a.length
    · rw [List.getElem?_append_left hlt] at h1
      refine ha3 i y v h1 ?_
      rw [List.getElem?_take, if_pos (by omega)]
      exact h2
    · rw [List.getElem?_append_right (by omega)] at h1
      refine hb3 _ y v h1 ?_
      rw [List.getElem?_drop] at h2 ⊢
      rw [← h2]; congr 1; omega

theorem trod_rep {S : List Nat} (hS : closedT P S = true) : ∀ (n : Nat) (t : TypeId) (cs : List Value) (x : DataW H × List MemPlace), S.contains t = true → DataW.trod enc P W base sp held n t cs = some x →
    ∃ ys, HasT P n t ys ∧ RepL (fun b => b < W.heap.size) W cs ys := by
  intro n
  induction n with
  | zero => intro t cs x _ h; simp [DataW.trod] at h
  | succ n ih =>
    intro t cs x ht h
    have hc := List.all_eq_true.1 hS t (List.contains_iff_mem.1 ht)
    rw [DataW.trod_step] at h
    unfold DataW.trodStep at h
    split at h
    case h_1 b hu => exact ⟨[.bool b], by simp [HasT, hu], RepL.one (.bool b)⟩
    case h_2 k k' m hu =>
      split at h
      · rename_i hk
        obtain ⟨rfl, hw⟩ := hk
        exact ⟨[.int _ m], by simp [HasT, hu, hw], RepL.one (.int _ m)⟩
      · cases h
    case h_4 st hu =>
      split at h
      · rename_i hk
        exact ⟨[.str st], by simp [HasT, hu, hk], RepL.one (.str st)⟩
      · cases h
    case h_7 e hu => exact ⟨[.slice (P.cellsOf e) []], by simp [HasT, hu], RepL.one (.nil _)⟩
    case h_8 e a len cap hu =>
      simp only [hu, Bool.and_eq_true] at hc
      obtain ⟨hce, hsz⟩ := hc
      have hsz : 0 < P.cellsOf e := by simpa using hsz
      simp only at h
      split at h
      · rename_i hb
        simp only [Option.bind_eq_some_iff] at h
        obtain ⟨elems, he, _⟩ := h
        have hsp : 0 < len → a.spot = none := fun h0 => by
          obtain ⟨y, hy⟩ := mapM_all he 0 (by simpa using h0)
          simp only [Option.bind_eq_some_iff] at hy
          obtain ⟨vs, hvs, hy⟩ := hy
          obtain ⟨_, hl, hcell⟩ := World.cells?_some hvs
          have h0 := hcell 0 hsz
          have e0 : vs[0]? = some vs[0] := List.getElem?_eq_getElem (by omega)
          have ea : (a.add (0 * P.cellsOf e)).add 0 = a := by simp [Addr.add]
          rw [e0, ea] at h0
          cases hs : a.spot with
          | none => rfl
          | some q => simp only [World.cell?, hs, Option.isSome_some, if_true] at h0; split at h0 <;> cases h0
        have hel : ∀ i, i < len → ∃ r, HasT P n e r ∧ r.length = P.cellsOf e ∧ ∀ (j : Nat) (c : CV), r[j]? = some c → ∃ v, W.cell? ⟨a.block, a.off + (i * P.cellsOf e + j), none⟩ = some v ∧ RepC (fun b => b < W.heap.size) W v c := fun i hi => by
          obtain ⟨y, hy⟩ := mapM_all he i (by simpa using hi)
          simp only [Option.bind_eq_some_iff] at hy
          obtain ⟨vs, hvs, hy⟩ := hy
          obtain ⟨_, hl, hcell⟩ := World.cells?_some hvs
          obtain ⟨r, h1, h2, h3⟩ := ih e vs y hce hy
          have hs := hsp (by omega)
          refine ⟨r, h1, by omega, fun j c hj => ?_⟩
          have hjl : j < vs.length := by rw [← h2]; exact (List.getElem?_eq_some_iff.1 hj).1
          have hcj := hcell j (by omega)
          refine ⟨vs[j], ?_, h3 j c vs[j] hj (List.getElem?_eq_getElem hjl)⟩
          rw [List.getElem?_eq_getElem hjl] at hcj
          rw [← hcj]
          have ea : a = ⟨a.block, a.off, none⟩ := by cases a; simp_all
          rw [ea, add_plain, add_plain, Nat.add_assoc]
        obtain ⟨es, hes, hall⟩ := exists_list len hel
        cases len with
        | zero =>
          obtain rfl : es = [] := List.eq_nil_of_length_eq_zero hes
          exact ⟨[.slice (P.cellsOf e) []], by simp [HasT, hu], RepL.one (.empty a cap _)⟩
        | succ m =>
          have hs := hsp (by omega)
          refine ⟨[.slice (P.cellsOf e) es], ?_, RepL.one ?_⟩
          · simp only [HasT, hu]
            refine ⟨es, rfl, by omega, fun r hr => ?_⟩
            obtain ⟨i, hi, rfl⟩ := List.getElem_of_mem hr
            exact (hall i _ (List.getElem?_eq_getElem hi)).1
          · have hlt : a.block < W.heap.size := by
              have h0 : es[0]? = some es[0] := List.getElem?_eq_getElem (by omega)
              obtain ⟨_, hl0, hv0⟩ := hall 0 _ h0
              obtain ⟨v, hv, _⟩ := hv0 0 _ (List.getElem?_eq_getElem (by omega))
              have := World.block_lt_of_cell? W _ hv; exact this
            have ea : a = ⟨a.block, a.off, none⟩ := by cases a; simp_all
            rw [ea]
            refine RepC.slice a.block a.off cap (P.cellsOf e) (m + 1) es (fun i j => (W.cell? ⟨a.block, a.off + (i * P.cellsOf e + j), none⟩).getD undef) hlt hes (by omega) (fun i r hr => (hall i r hr).2.1) (fun i r j c h1 h2 => ?_) (fun i r j c h1 h2 => ?_)
            · obtain ⟨v, hv, _⟩ := (hall i r h1).2.2 j c h2
              simp [hv]
            · obtain ⟨v, hv, hr⟩ := (hall i r h1).2.2 j c h2
              simpa [hv] using hr
      · cases h
    case h_9 fs hu =>
      simp only [hu, Bool.and_eq_true] at hc
      obtain ⟨hc1, hc2⟩ := hc
      split at h
      · rename_i hl
        simp only [Option.map_eq_some_iff] at h
        obtain ⟨xs, hxs, _⟩ := h
        rw [← hl] at hc2
        have hin : ∀ f ∈ fs.toList, S.contains f.type = true := fun f hf => List.all_eq_true.1 hc1 f hf
        obtain ⟨ys, h1, h2⟩ := fields_rep (W := W) (I := fun b => b < W.heap.size) (q := HasT P n) (g := DataW.trod enc P W base sp held n) hc2 (fun f hf vs x hx => ih f.type vs x (hin f hf) hx) (fun f hf => mapM_all hxs f hf)
        refine ⟨ys, by simp only [HasT, hu]; exact h1, by simpa using h2⟩
      · cases h
    all_goals (exfalso; simp_all; done)

theorem cellOk_one {t : TypeId} {v : Value} {r : Reach} {b : Nat} (h : Cell.okWide P W r b t v) (h2 : ∀ fs, P.underlying t ≠ some (.struct fs)) : oneCell v := by
  have ok : ∀ (u : Value), Cell.ok P W r b t u → (∀ cs, u ≠ .agg cs) ∧ ∀ cs, u ≠ .tuple cs := fun u hu => by
    unfold Cell.ok at hu
    split at hu <;> first | exact hu.elim | exact ⟨nofun, nofun⟩
  unfold Cell.okWide at h
  split at h <;> first | exact ok _ h | exact ⟨nofun, nofun⟩

theorem arg_rep {S : List Nat} (hS : closedT P S = true) {t : TypeId} {v : Value} {d : DataW H} {p : List MemPlace} {b : Nat} (ht : S.contains t = true) (hok : Value.okWide P W .any b t v) (h : DataW.Trod enc P W base sp held t v d p) :
    ∃ ys n, HasT P n t ys ∧ RepComp (fun b => b < W.heap.size) W v (aggOf P t, ys) := by
  obtain ⟨n, h⟩ := h
  obtain ⟨ys, h1, h2, h3⟩ := trod_rep hS n t _ _ ht h
  refine ⟨ys, n, h1, ?_⟩
  have hc := List.all_eq_true.1 hS t (List.contains_iff_mem.1 ht)
  unfold Value.okWide at hok
  cases hu : P.underlying t with
  | none => simp [hu] at hc
  | some dd =>
    have one : ∀ (hno : ∀ fs, P.underlying t ≠ some (.struct fs)), Cell.okWide P W .any b t v → RepComp (fun b => b < W.heap.size) W v (false, ys) := fun hno hcell => by
      have ho := cellOk_one hcell hno
      rw [ho.cells] at h2 h3
      match ys, h2 with
      | [y], _ => exact h3 0 y v rfl rfl
    cases dd with
    | struct fs =>
      simp only [hu] at hok
      obtain ⟨cs, rfl, hsz, _⟩ := hok
      simp only [aggOf, hu]
      exact ⟨cs, rfl, by simpa [Value.cells] using h2.symm, fun i c u hc hu => h3 i c u hc (by simpa [Value.cells] using hu)⟩
    | bool => simp only [hu] at hok; simp only [aggOf, hu]; exact one (by simp [hu]) hok
    | int k => simp only [hu] at hok; simp only [aggOf, hu]; exact one (by simp [hu]) hok
    | string => simp only [hu] at hok; simp only [aggOf, hu]; exact one (by simp [hu]) hok
    | slice e => simp only [hu] at hok; simp only [aggOf, hu]; exact one (by simp [hu]) hok
    | _ => simp [hu] at hc

def HasTs (P : Program) : List TypeId → List (List CV) → Prop
  | [], [] => True
  | t :: ts, y :: ys => (∃ n, HasT P n t y) ∧ HasTs P ts ys
  | _, _ => False
def compsT (P : Program) : List TypeId → List (List CV) → List Comp
  | t :: ts, y :: ys => (aggOf P t, y) :: compsT P ts ys
  | _, _ => []

theorem args_rep {S : List Nat} (hS : closedT P S = true) {b : Nat} : ∀ (ts : List TypeId) (vs : List Value) (ds : List (DataW H)) (ps : List MemPlace), (∀ t ∈ ts, S.contains t = true) → DataW.TrodAll enc P W base sp held ts vs ds ps →
    (∀ (j : Nat) t v, ts[j]? = some t → vs[j]? = some v → Value.okWide P W .any b t v) → ∃ yss, HasTs P ts yss ∧ vs.length = (compsT P ts yss).length ∧ ∀ (i : Nat) (c : Comp) (v : Value), (compsT P ts yss)[i]? = some c → vs[i]? = some v → RepComp (fun b => b < W.heap.size) W v c
  | [], vs, ds, ps, _, h, _ => by
    obtain ⟨rfl, rfl, rfl⟩ := trodAll_nil h
    exact ⟨[], trivial, rfl, by simp [compsT]⟩
  | t :: ts, vs, ds, ps, hin, h, hok => by
    obtain ⟨v, vs', d, ds', p, q, rfl, rfl, rfl, h1, h2⟩ := trodAll_cons h
    obtain ⟨ys, n, g1, g2⟩ := arg_rep hS (hin t (by simp)) (hok 0 t v rfl rfl) h1
    obtain ⟨yss, g3, g4, g5⟩ := args_rep hS ts vs' ds' q (fun t ht => hin t (by simp [ht])) h2 (fun j t v hj hv => hok (j + 1) t v (by simpa using hj) (by simpa using hv))
    refine ⟨ys :: yss, ⟨⟨n, g1⟩, g3⟩, by simp [compsT, g4], fun i c u hc hu => ?_⟩
    cases i with
    | zero => simp only [compsT, List.getElem?_cons_zero, Option.some.injEq] at hc hu; subst hc hu; exact g2
    | succ i => simp only [compsT, List.getElem?_cons_succ] at hc hu; exact g5 i c u hc hu

theorem again_args {ts : List TypeId} {vs : List Value} {ds : List (DataW H)} {ps : List MemPlace} {W' : World} (hl : laidOutB P = true) (hr : ∀ t ∈ ts, P.readableRec t = true ∧ t < P.types.size)
    (h : DataW.TrodAll enc P W 0 (fun _ => true) true ts vs ds ps) (hb : Below W.heap.size W W') (hlt : ∀ x ∈ ps, x.block < W.heap.size) : ∃ ps', DataW.TrodAll enc P W' 0 (fun b => decide (b < W.heap.size)) true ts vs ds ps' := by
  induction ts generalizing vs ds ps with
  | nil =>
    obtain ⟨rfl, rfl, rfl⟩ := trodAll_nil h
    exact ⟨[], rfl⟩
  | cons t ts ih =>
    obtain ⟨v, vs', d, ds', p, q, rfl, rfl, rfl, h1, h2⟩ := trodAll_cons h
    obtain ⟨q', hq⟩ := ih (fun t ht => hr t (by simp [ht])) h2 (fun x hx => hlt x (by simp [hx]))
    exact ⟨_, _, _, Below.trod hl (hr t (by simp)).1 (hr t (by simp)).2 h1 hb (fun x hx => hlt x (by simp [hx])), hq, rfl⟩

/-- A LAW: its function answers true over all pure contents; so its row's contract holds. -/
theorem law_calls {S : List Nat} (hS : closedT P S = true) (hl : laidOutB P = true) {f : FuncId} {fn : Func} {s : ChangeSpec} (hr : ∀ t ∈ fn.params.toList, S.contains t = true ∧ P.readableRec t = true ∧ t < P.types.size)
    (hvars : s.vars = []) {tb : TypeId} (hres : fn.resultTypes = #[tb]) (htb : P.underlying tb = some .bool)
    (hspec : ∀ ds : List (DataW H), ds.length = fn.params.size → s.fn H ds = { results := [.lit (.bool true)], args := ds })
    (hsat : ∀ yss, HasTs P fn.params.toList yss → Sat P f (compsT P fn.params.toList yss) (.one (.c (.bool true)), []))
    {base : Nat} {args : Array Value} {ds gs : List (DataW H)} {before : List MemPlace}
    (hlaid : LaidIn (fun _ => False) W)
    (hval : ∀ (j : Nat) t v, fn.params[j]? = some t → args[j]? = some v → Value.okWide P W .any base t v)
    (hW : DataW.Whole enc P fn.params.toList s.vars false W args.toList ds gs before) :
    Calls P f args W fun e W' => ∃ v, e = .returned v ∧ s.post enc P fn false true false false W args v W' := by
  have hW' := hW
  obtain ⟨p, q, hA, hV, rfl, hfz, hnd⟩ := hW
  have hV' := hV
  rw [hvars] at hV
  obtain ⟨rfl, rfl⟩ := trodVars_none hV
  obtain ⟨yss, g1, g2, g3⟩ := args_rep hS (b := base) _ _ _ _ (fun t ht => (hr t ht).1) hA (fun j t v hj hv => hval j t v (by simpa using hj) (by simpa using hv))
  have hs := (hsat yss g1).2 (fun b => b < W.heap.size) W args hlaid (fun b h => h) (by simpa using g2) (fun i c v h1 h2 => g3 i c v h1 (by simpa using h2))
  refine hs.mono fun e W' hp => ?_
  cases e with
  | returned v =>
    obtain ⟨hb, L, I', h1, h2, h3, h4⟩ := hp
    have hb := hb.below
    have hv : v = .bool true := rep_bool (s := ⟨[], []⟩) (L := L) h3
    subst hv
    obtain ⟨pa, hpa⟩ := again_args hl (fun t ht => (hr t ht).2) hA hb (fun x hx => hW'.lt x (by simp [hx]))
    have hlen : (ds ++ ([] : List (DataW H))).length = fn.params.size := by
      have : ∀ {ts : List TypeId} {vs : List Value} {ds : List (DataW H)} {ps : List MemPlace}, DataW.TrodAll enc P W 0 (fun _ => true) true ts vs ds ps → ds.length = ts.length := fun {ts} => by
        induction ts with
        | nil => intro vs ds ps h; obtain ⟨_, rfl, _⟩ := trodAll_nil h; rfl
        | cons t ts ih => intro vs ds ps h; obtain ⟨v, vs', d, ds', p, q, rfl, rfl, rfl, h1, h2⟩ := trodAll_cons h; simp [ih h2]
      simpa using this hA
    refine ⟨.bool true, rfl, ds, [], _, [], pa, [], hW', ?_, ?_, ?_, hb.frame _, fun h => by cases h⟩
    · rw [hspec _ hlen, hres]
      exact trodAll_mk1 (shut_bool htb _)
    · rw [hspec _ hlen]
      simpa using hpa
    · rw [hspec _ hlen, hvars]
      rfl
  | outgrown => exact hp.elim
  | panicked _ => exact hp.elim

end

end Go.Proofs.YtnafogjagbhdbaaDoor.Pi
