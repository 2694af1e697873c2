/- Operators: the continuation forms against the machine. No statement of the seat is proved here. -/
import Derived.Test.YtjolahiflldepabPiS6
import Derived.Laws.StructEq
namespace Go.Proofs.Ytjolahiflldepab.Pi
open Go Go.RowKit
set_option linter.unusedVariables false
set_option linter.unusedSimpArgs false

def valEq : List LK → List Value → List Value → Option Bool
  | [], [], [] => some true
  | .int k :: ls, .int k1 a :: xs, .int k2 b :: ys => match decide (k1 = k), decide (k2 = k), valEq ls xs ys with
    | true, true, some r => some ((a == b) && r)
    | _, _, _ => none
  | .bool :: ls, .bool a :: xs, .bool b :: ys => match valEq ls xs ys with | some r => some ((a == b) && r) | none => none
  | .str :: ls, .string a :: xs, .string b :: ys => match valEq ls xs ys with | some r => some ((a == b) && r) | none => none
  | _, _, _ => none

theorem valEq_length : ∀ {ls : List LK} {xs ys : List Value} {r : Bool}, valEq ls xs ys = some r → xs.length = ls.length ∧ ys.length = ls.length
  | [], xs, ys, r, h => by cases xs <;> cases ys <;> simp [valEq] at h ⊢
  | l :: ls, xs, ys, r, h => by
    cases xs with
    | nil => cases l <;> simp [valEq] at h
    | cons x xs =>
      cases ys with
      | nil => cases l <;> cases x <;> simp [valEq] at h
      | cons y ys =>
        have key : ∀ r, valEq ls xs ys = some r → (x :: xs).length = (l :: ls).length ∧ (y :: ys).length = (l :: ls).length := fun r h => by
          obtain ⟨h1, h2⟩ := valEq_length h
          simp [h1, h2]
        cases l <;> cases x <;> first | (simp [valEq] at h; done) | skip
        all_goals (cases y <;> first | (simp [valEq] at h; done) | skip)
        all_goals (simp only [valEq] at h; split at h <;> first | exact key _ (by assumption) | cases h)

theorem valEq_append : ∀ {ls1 ls2 : List LK} {xs ys : List Value} {r : Bool}, valEq (ls1 ++ ls2) xs ys = some r →
    ∃ r1 r2, valEq ls1 (xs.take ls1.length) (ys.take ls1.length) = some r1 ∧ valEq ls2 (xs.drop ls1.length) (ys.drop ls1.length) = some r2 ∧ r = (r1 && r2)
  | [], ls2, xs, ys, r, h => ⟨true, r, by simp [valEq], by simpa using h, by simp⟩
  | l :: ls1, ls2, xs, ys, r, h => by
    cases xs with
    | nil => cases l <;> cases ys <;> simp [valEq] at h
    | cons x xs =>
      cases ys with
      | nil => cases l <;> cases x <;> simp [valEq] at h
      | cons y ys =>
        cases l with
        | int k =>
          cases x <;> cases y <;> simp only [List.cons_append, valEq, reduceCtorEq] at h
          rename_i k1 a k2 b
          split at h
          · rename_i h1 h2 h3
            obtain ⟨r1, r2, g1, g2, g3⟩ := valEq_append h3
            cases h
            refine ⟨(a == b) && r1, r2, ?_, by simpa using g2, by rw [g3, Bool.and_assoc]⟩
            simp only [List.length_cons, List.take_succ_cons, valEq, h1, h2, g1]
          · cases h
        | bool =>
          cases x <;> cases y <;> simp only [List.cons_append, valEq, reduceCtorEq] at h
          rename_i a b
          split at h
          · rename_i h3
            obtain ⟨r1, r2, g1, g2, g3⟩ := valEq_append h3
            cases h
            refine ⟨(a == b) && r1, r2, ?_, by simpa using g2, by rw [g3, Bool.and_assoc]⟩
            simp only [List.length_cons, List.take_succ_cons, valEq, g1]
          · cases h
        | str =>
          cases x <;> cases y <;> simp only [List.cons_append, valEq, reduceCtorEq] at h
          rename_i a b
          split at h
          · rename_i h3
            obtain ⟨r1, r2, g1, g2, g3⟩ := valEq_append h3
            cases h
            refine ⟨(a == b) && r1, r2, ?_, by simpa using g2, by rw [g3, Bool.and_assoc]⟩
            simp only [List.length_cons, List.take_succ_cons, valEq, g1]
          · cases h

section
variable {P : Program} {w : World}

def pack (P : Program) (t : TypeId) (xs : List Value) : Value := if aggOf P t then .agg xs.toArray else xs.headD undef

theorem eqLeaves_one {d : Nat} {t : TypeId} {ls : List LK} (h : eqLeaves P d t = some ls) (ha : aggOf P t = false) : ls.length = 1 := by
  cases d with
  | zero => simp [eqLeaves] at h
  | succ d =>
    simp only [eqLeaves] at h
    unfold aggOf at ha
    split at h
    · cases h; rfl
    · cases h; rfl
    · cases h; rfl
    · rename_i fs hu; simp [hu] at ha
    · cases h

theorem eqLeaves_under {d : Nat} {t : TypeId} {ls : List LK} (h : eqLeaves P d t = some ls) : ∃ u, P.underlying t = some u := by
  cases d with
  | zero => simp [eqLeaves] at h
  | succ d =>
    simp only [eqLeaves] at h
    split at h <;> first | exact ⟨_, by assumption⟩ | cases h

theorem run_part {t : TypeId} {xs : List Value} {off n : Nat} (hu : ∃ u, P.underlying t = some u) (hn : P.cellsOf t = n) (hi : ∃ i, P.info? t = some i) (h1 : aggOf P t = false → n = 1) (hl : off + n ≤ xs.length) :
    (part t xs.toArray off).run P w = .ok (pack P t ((xs.drop off).take n)) w := by
  obtain ⟨u, hu⟩ := hu
  obtain ⟨i, hi⟩ := hi
  simp only [Program.cellsOf, hi, Option.map_some, Option.getD_some] at hn
  simp only [part, Sem.run_bind, run_isAgg' hu, Result.andThen_ok, pack]
  cases ha : aggOf P t with
  | true =>
    simp only [if_true, Sem.run_bind, run_size hi, Result.andThen_ok, hn, Sem.run_pure]
    congr 2
    apply Array.ext'
    simp
  | false =>
    have h1 := h1 ha
    subst h1
    have hlt : off < xs.length := by omega
    simp only [Bool.false_eq_true, if_false]
    have e : ((xs.drop off).take 1).headD undef = xs[off] := by rw [List.drop_eq_getElem_cons hlt]; rfl
    simp only [List.getElem?_toArray, List.getElem?_eq_getElem hlt, Sem.run_pure, e]

theorem eq_leaf : ∀ (d : Nat) (t : TypeId) (ls : List LK), eqLeaves P d t = some ls → ∀ D, d ≤ D → ∀ (xs ys : List Value) (r : Bool), valEq ls xs ys = some r → (Op.equalIn D t (pack P t xs) (pack P t ys)).run P w = .ok r w := by
  intro d
  induction d with
  | zero => intro t ls h; simp [eqLeaves] at h
  | succ d ih =>
    intro t ls h D hD xs ys r hv
    obtain ⟨D, rfl⟩ : ∃ E, D = E + 1 := ⟨D - 1, by omega⟩
    obtain ⟨hx, hy⟩ := valEq_length hv
    simp only [eqLeaves] at h
    split at h
    · rename_i hu
      cases h
      match xs, ys, hv with
      | [.bool a], [.bool b], hv =>
        simp only [valEq, Bool.and_true, Option.some.injEq] at hv
        simp [pack, aggOf, hu, Op.equalIn, run_underlying hu, hv]
    · rename_i k hu
      cases h
      match xs, ys, hv with
      | [.int k1 a], [.int k2 b], hv =>
        by_cases h1 : k1 = k
        · by_cases h2 : k2 = k
          · subst h1; subst h2
            simp [valEq] at hv
            simp [pack, aggOf, hu, Op.equalIn, run_underlying hu, hv]
          · simp [valEq, h2] at hv
        · simp [valEq, h1] at hv
    · rename_i hu
      cases h
      match xs, ys, hv with
      | [.string a], [.string b], hv =>
        simp only [valEq, Bool.and_true, Option.some.injEq] at hv
        simp [pack, aggOf, hu, Op.equalIn, run_underlying hu, hv]
    · rename_i fs hu
      split at h
      · cases h
      · rename_i hst
        have hf : P.fieldsOf t = fs := by simp [Program.fieldsOf, hu]
        have hpx : ∀ zs : List Value, pack P t zs = .agg zs.toArray := fun zs => by simp [pack, aggOf, hu]
        rw [hpx, hpx, run_equalIn_struct (P := P) w D t _ _ (by rw [hf]; exact hu) hst, hf]
        have key : ∀ (fl : List Field) (off : Nat) (ls' : List LK) (r' : Bool), leavesOf P (eqLeaves P d) fl off = some ls' → valEq ls' (xs.drop off) (ys.drop off) = some r' → (Op.eqFields D xs.toArray ys.toArray fl).run P w = .ok r' w := by
          intro fl
          induction fl with
          | nil =>
            intro off ls' r' h1 h2
            simp only [leavesOf, Option.some.injEq] at h1
            subst h1
            cases hd1 : xs.drop off <;> cases hd2 : ys.drop off <;> simp [hd1, hd2, valEq] at h2
            subst h2
            simp [Op.eqFields]
          | cons f fl ihf =>
            intro off ls' r' h1 h2
            simp only [leavesOf] at h1
            split at h1
            · rename_i ls1 hnm hof hg
              split at h1
              · rename_i r2 hcl hr2
                cases h1
                have hnm' : f.name ≠ "_" := of_decide_eq_false hnm
                have hof' := of_decide_eq_true hof
                have hcl' := of_decide_eq_true hcl
                obtain ⟨q1, q2, g1, g2, g3⟩ := valEq_append h2
                obtain ⟨l1, l2⟩ := valEq_length g1
                simp only [List.length_take, List.length_drop] at l1 l2
                obtain ⟨e1, e2⟩ := valEq_length h2
                simp only [List.length_drop, List.length_append] at e1 e2
                have hinfo : ∃ i, P.info? f.type = some i := by
                  obtain ⟨u, hu'⟩ := eqLeaves_under hg
                  unfold Program.underlying at hu'
                  cases hi : P.info? f.type with
                  | none => simp [hi] at hu'
                  | some i => exact ⟨i, rfl⟩
                have hlen : 0 < ls1.length ∨ ls1.length = 0 := by omega
                have p1 : (part f.type xs.toArray f.offset).run P w = .ok (pack P f.type ((xs.drop off).take ls1.length)) w := by
                  rw [hof']
                  rcases hlen with hp | h0
                  · exact run_part (eqLeaves_under hg) hcl' hinfo (fun ha => eqLeaves_one hg ha) (by omega)
                  · have ha : aggOf P f.type = true := by
                      cases ha : aggOf P f.type with
                      | true => rfl
                      | false => have := eqLeaves_one hg ha; omega
                    obtain ⟨u, hu'⟩ := eqLeaves_under hg
                    obtain ⟨i, hi⟩ := hinfo
                    have hn : i.size = 0 := by simpa [Program.cellsOf, hi, h0] using hcl'
                    simp only [part, Sem.run_bind, run_isAgg' hu', Result.andThen_ok, pack, ha, if_true, run_size hi, hn, Sem.run_pure, h0]
                    congr 2
                    apply Array.ext'
                    simp
                have p2 : (part f.type ys.toArray f.offset).run P w = .ok (pack P f.type ((ys.drop off).take ls1.length)) w := by
                  rw [hof']
                  rcases hlen with hp | h0
                  · exact run_part (eqLeaves_under hg) hcl' hinfo (fun ha => eqLeaves_one hg ha) (by omega)
                  · have ha : aggOf P f.type = true := by
                      cases ha : aggOf P f.type with
                      | true => rfl
                      | false => have := eqLeaves_one hg ha; omega
                    obtain ⟨u, hu'⟩ := eqLeaves_under hg
                    obtain ⟨i, hi⟩ := hinfo
                    have hn : i.size = 0 := by simpa [Program.cellsOf, hi, h0] using hcl'
                    simp only [part, Sem.run_bind, run_isAgg' hu', Result.andThen_ok, pack, ha, if_true, run_size hi, hn, Sem.run_pure, h0]
                    congr 2
                    apply Array.ext'
                    simp
                have p3 := ih f.type ls1 hg D (by omega) _ _ q1 g1
                rw [List.drop_drop, List.drop_drop] at g2
                have p4 := ihf (off + ls1.length) r2 q2 hr2 g2
                simp only [Op.eqFields, if_pos hnm', Sem.run_bind, p1, p2, p3, Result.andThen_ok]
                cases q1 with
                | true => simp [p4, g3]
                | false => simp [g3]
              · cases h1
            · cases h1
        exact key fs.toList 0 ls r h (by simpa using hv)
    · cases h

end

end Go.Proofs.Ytjolahiflldepab.Pi
