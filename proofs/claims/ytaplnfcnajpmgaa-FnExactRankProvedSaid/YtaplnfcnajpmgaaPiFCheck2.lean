/- Proofs that are right, the reference; the first that is wrong; the rank that is proved. No statement of the seat is proved here. -/
import Derived.Test.YtaplnfcnajpmgaaPiFCheck
namespace Go.Proofs.Ytaplnfcnajpmgaa.Pi
open Go
set_option maxRecDepth 10000
set_option maxHeartbeats 3200000
set_option linter.unusedVariables false

theorem s_l26Right (q : Proof) (o : Enc.ok q) : Sat Try.prog 68 [(false, [.ptr 6 (Enc.enc q)])] (.one (.c (.bool (okProof q && rightOf q))), []) := by
  refine Sat.intro tok mixed Try.func68 rfl rfl ?_
  ((conv => whnf); repeat first | (refine Br.no ?_; conv => whnf) | (refine Br.yes ?_; conv => whnf) | (refine Pick.draw rfl (by kernel_rfl) ?_; conv => whnf) | (refine Pick.drawM (by kernel_rfl) ?_; conv => whnf) | (refine CallC.r ?_; conv => whnf))
  refine Pick.mk _ (s_l26Ok q o) ?_
  ((conv => whnf); repeat first | (refine Br.no ?_; conv => whnf) | (refine Br.yes ?_; conv => whnf) | (refine Pick.draw rfl (by kernel_rfl) ?_; conv => whnf) | (refine Pick.drawM (by kernel_rfl) ?_; conv => whnf) | (refine CallC.r ?_; conv => whnf))
  refine Br.mk (fun hq => ?_) (fun hq => ?_) <;> ((conv => whnf); repeat first | (refine Br.no ?_; conv => whnf) | (refine Br.yes ?_; conv => whnf) | (refine Pick.draw rfl (by kernel_rfl) ?_; conv => whnf) | (refine Pick.drawM (by kernel_rfl) ?_; conv => whnf) | (refine CallC.r ?_; conv => whnf))
  · simp at hq
    exact ResOK.same (by rw [hq, Bool.false_and])
  simp at hq
  rw [hq, Bool.true_and]
  obtain ⟨k, m, v⟩ := q
  simp only [okProof, Bool.and_eq_true, decide_eq_true_eq] at hq
  obtain ⟨h1, h2, st⟩ := hq
  have ok := mat_of h1
  have hv : v.length ≤ 64 := by omega
  generalize m.rows.toNat = r at ok
  generalize m.columns.toNat = c at ok
  have hrb := ok.rb
  have hcb := ok.cb
  have hlv : (v.map (Enc.enc (α := List Int))).length = v.length := by simp
  refine Side.mk (by decide) ?_
  ((conv => whnf); repeat first | (refine Br.no ?_; conv => whnf) | (refine Br.yes ?_; conv => whnf) | (refine Pick.draw rfl (by kernel_rfl) ?_; conv => whnf) | (refine Pick.drawM (by kernel_rfl) ?_; conv => whnf) | (refine CallC.r ?_; conv => whnf))
  rcases st_kind st with rfl | rfl | rfl | rfl | rfl | rfl
  · obtain ⟨a, b, rfl, ha, hae, hb, hbe⟩ := st1 ok st
    have hal := applyM_len ok b
    refine Pick.at64 (z := 1) (by simp <;> decide) (by omega) ?_
    ((conv => whnf); repeat first | (refine Br.no ?_; conv => whnf) | (refine Br.yes ?_; conv => whnf) | (refine Pick.draw rfl (by kernel_rfl) ?_; conv => whnf) | (refine Pick.drawM (by kernel_rfl) ?_; conv => whnf) | (refine CallC.r ?_; conv => whnf))
    refine Pick.mk _ ⟨by decide, rfl⟩ ?_
    ((conv => whnf); repeat first | (refine Br.no ?_; conv => whnf) | (refine Br.yes ?_; conv => whnf) | (refine Pick.draw rfl (by kernel_rfl) ?_; conv => whnf) | (refine Pick.drawM (by kernel_rfl) ?_; conv => whnf) | (refine CallC.r ?_; conv => whnf))
    refine Pick.mk _ (s_l03Apply m ok b hb hbe) ?_
    ((conv => whnf); repeat first | (refine Br.no ?_; conv => whnf) | (refine Br.yes ?_; conv => whnf) | (refine Pick.draw rfl (by kernel_rfl) ?_; conv => whnf) | (refine Pick.drawM (by kernel_rfl) ?_; conv => whnf) | (refine CallC.r ?_; conv => whnf))
    refine Pick.mk _ ⟨by decide, rfl⟩ ?_
    ((conv => whnf); repeat first | (refine Br.no ?_; conv => whnf) | (refine Br.yes ?_; conv => whnf) | (refine Pick.draw rfl (by kernel_rfl) ?_; conv => whnf) | (refine Pick.drawM (by kernel_rfl) ?_; conv => whnf) | (refine CallC.r ?_; conv => whnf))
    refine Pick.mk _ (s_l00Same (applyM m b) a (by rw [hal]; simp only [maxLen]; omega)) ?_
    ((conv => whnf); repeat first | (refine Br.no ?_; conv => whnf) | (refine Br.yes ?_; conv => whnf) | (refine Pick.draw rfl (by kernel_rfl) ?_; conv => whnf) | (refine Pick.drawM (by kernel_rfl) ?_; conv => whnf) | (refine CallC.r ?_; conv => whnf))
    exact ResOK.same rfl
  · obtain ⟨a, b, rfl, ha, hae, hb, hbe⟩ := st2 ok st
    have hal := leftM_len ok b
    refine Pick.at64 (z := 1) (by simp <;> decide) (by omega) ?_
    ((conv => whnf); repeat first | (refine Br.no ?_; conv => whnf) | (refine Br.yes ?_; conv => whnf) | (refine Pick.draw rfl (by kernel_rfl) ?_; conv => whnf) | (refine Pick.drawM (by kernel_rfl) ?_; conv => whnf) | (refine CallC.r ?_; conv => whnf))
    refine Pick.mk _ ⟨by decide, rfl⟩ ?_
    ((conv => whnf); repeat first | (refine Br.no ?_; conv => whnf) | (refine Br.yes ?_; conv => whnf) | (refine Pick.draw rfl (by kernel_rfl) ?_; conv => whnf) | (refine Pick.drawM (by kernel_rfl) ?_; conv => whnf) | (refine CallC.r ?_; conv => whnf))
    refine Pick.mk _ (s_l26Left m ok b hb hbe) ?_
    ((conv => whnf); repeat first | (refine Br.no ?_; conv => whnf) | (refine Br.yes ?_; conv => whnf) | (refine Pick.draw rfl (by kernel_rfl) ?_; conv => whnf) | (refine Pick.drawM (by kernel_rfl) ?_; conv => whnf) | (refine CallC.r ?_; conv => whnf))
    refine Pick.mk _ (s_l02Zero (leftM m b) (by omega)) ?_
    ((conv => whnf); repeat first | (refine Br.no ?_; conv => whnf) | (refine Br.yes ?_; conv => whnf) | (refine Pick.draw rfl (by kernel_rfl) ?_; conv => whnf) | (refine Pick.drawM (by kernel_rfl) ?_; conv => whnf) | (refine CallC.r ?_; conv => whnf))
    refine Br.mk (fun h => ?_) (fun h => ?_) <;> ((conv => whnf); repeat first | (refine Br.no ?_; conv => whnf) | (refine Br.yes ?_; conv => whnf) | (refine Pick.draw rfl (by kernel_rfl) ?_; conv => whnf) | (refine Pick.drawM (by kernel_rfl) ?_; conv => whnf) | (refine CallC.r ?_; conv => whnf))
    · refine Pick.mk _ ⟨by decide, rfl⟩ ?_
      ((conv => whnf); repeat first | (refine Br.no ?_; conv => whnf) | (refine Br.yes ?_; conv => whnf) | (refine Pick.draw rfl (by kernel_rfl) ?_; conv => whnf) | (refine Pick.drawM (by kernel_rfl) ?_; conv => whnf) | (refine CallC.r ?_; conv => whnf))
      refine Pick.mk _ ⟨by decide, rfl⟩ ?_
      ((conv => whnf); repeat first | (refine Br.no ?_; conv => whnf) | (refine Br.yes ?_; conv => whnf) | (refine Pick.draw rfl (by kernel_rfl) ?_; conv => whnf) | (refine Pick.drawM (by kernel_rfl) ?_; conv => whnf) | (refine CallC.r ?_; conv => whnf))
      refine Pick.mk _ (s_l02Dot b a m.prime hbe hae ok.p (by omega) (by omega)) ?_
      ((conv => whnf); repeat first | (refine Br.no ?_; conv => whnf) | (refine Br.yes ?_; conv => whnf) | (refine Pick.draw rfl (by kernel_rfl) ?_; conv => whnf) | (refine Pick.drawM (by kernel_rfl) ?_; conv => whnf) | (refine CallC.r ?_; conv => whnf))
      refine ResOK.same ?_
      show _ = (PV.one (.c (.bool (!nz (leftM m b) && (dotM m.prime a b == 1)))), _)
      rw [show nz (leftM m b) = (leftM m b).any fun x => x != 0 from rfl, h, Bool.true_and, dotM_comm _ _ _ (by rw [ha, hb])]
    · refine ResOK.same ?_
      show _ = (PV.one (.c (.bool (!nz (leftM m b) && (dotM m.prime a b == 1)))), _)
      rw [show nz (leftM m b) = (leftM m b).any fun x => x != 0 from rfl, h, Bool.false_and]
  · obtain ⟨a, rfl, ha, hae⟩ := st3 ok st
    have hal := applyM_len ok a
    refine Pick.at64 (z := 0) (by simp <;> decide) (by omega) ?_
    ((conv => whnf); repeat first | (refine Br.no ?_; conv => whnf) | (refine Br.yes ?_; conv => whnf) | (refine Pick.draw rfl (by kernel_rfl) ?_; conv => whnf) | (refine Pick.drawM (by kernel_rfl) ?_; conv => whnf) | (refine CallC.r ?_; conv => whnf))
    refine Pick.mk _ ⟨by decide, rfl⟩ ?_
    ((conv => whnf); repeat first | (refine Br.no ?_; conv => whnf) | (refine Br.yes ?_; conv => whnf) | (refine Pick.draw rfl (by kernel_rfl) ?_; conv => whnf) | (refine Pick.drawM (by kernel_rfl) ?_; conv => whnf) | (refine CallC.r ?_; conv => whnf))
    refine Pick.mk _ (s_l03Apply m ok a ha hae) ?_
    ((conv => whnf); repeat first | (refine Br.no ?_; conv => whnf) | (refine Br.yes ?_; conv => whnf) | (refine Pick.draw rfl (by kernel_rfl) ?_; conv => whnf) | (refine Pick.drawM (by kernel_rfl) ?_; conv => whnf) | (refine CallC.r ?_; conv => whnf))
    refine Pick.mk _ (s_l02Zero (applyM m a) (by omega)) ?_
    ((conv => whnf); repeat first | (refine Br.no ?_; conv => whnf) | (refine Br.yes ?_; conv => whnf) | (refine Pick.draw rfl (by kernel_rfl) ?_; conv => whnf) | (refine Pick.drawM (by kernel_rfl) ?_; conv => whnf) | (refine CallC.r ?_; conv => whnf))
    refine Br.mk (fun h => ?_) (fun h => ?_) <;> ((conv => whnf); repeat first | (refine Br.no ?_; conv => whnf) | (refine Br.yes ?_; conv => whnf) | (refine Pick.draw rfl (by kernel_rfl) ?_; conv => whnf) | (refine Pick.drawM (by kernel_rfl) ?_; conv => whnf) | (refine CallC.r ?_; conv => whnf))
    · refine Pick.mk _ ⟨by decide, rfl⟩ ?_
      ((conv => whnf); repeat first | (refine Br.no ?_; conv => whnf) | (refine Br.yes ?_; conv => whnf) | (refine Pick.draw rfl (by kernel_rfl) ?_; conv => whnf) | (refine Pick.drawM (by kernel_rfl) ?_; conv => whnf) | (refine CallC.r ?_; conv => whnf))
      refine Pick.mk _ (s_l02Zero a (by omega)) ?_
      ((conv => whnf); repeat first | (refine Br.no ?_; conv => whnf) | (refine Br.yes ?_; conv => whnf) | (refine Pick.draw rfl (by kernel_rfl) ?_; conv => whnf) | (refine Pick.drawM (by kernel_rfl) ?_; conv => whnf) | (refine CallC.r ?_; conv => whnf))
      refine ResOK.same ?_
      show _ = (PV.one (.c (.bool (!nz (applyM m a) && nz a))), _)
      rw [show nz (applyM m a) = (applyM m a).any fun x => x != 0 from rfl, h, Bool.true_and, Bool.not_not]; rfl
    · refine ResOK.same ?_
      show _ = (PV.one (.c (.bool (!nz (applyM m a) && nz a))), _)
      rw [show nz (applyM m a) = (applyM m a).any fun x => x != 0 from rfl, h, Bool.false_and]
  · obtain ⟨hl, hvs⟩ := st4 ok st
    refine Pick.at64 (z := ((v.length / 2 : Nat) : Int)) (by rw [hlv]; exact half _) (by omega) ?_
    ((conv => whnf); repeat first | (refine Br.no ?_; conv => whnf) | (refine Br.yes ?_; conv => whnf) | (refine Pick.draw rfl (by kernel_rfl) ?_; conv => whnf) | (refine Pick.drawM (by kernel_rfl) ?_; conv => whnf) | (refine CallC.r ?_; conv => whnf))
    refine Pick.mk [3, 4, 6] trivial ?_
    ((conv => whnf); repeat first | (refine Br.no ?_; conv => whnf) | (refine Br.yes ?_; conv => whnf) | (refine Pick.draw rfl (by kernel_rfl) ?_; conv => whnf) | (refine Pick.drawM (by kernel_rfl) ?_; conv => whnf) | (refine CallC.r ?_; conv => whnf))
    refine LoopL.over (fun (i : Nat) => [(6, .one (.c (.int .i64 ((i : Int)))))]) (fun (i : Nat) => []) (fun (i : Nat) => v.length - i) (fun (i : Nat) => i ≤ v.length ∧ ∀ j, j < i → unitAt (leftM m (v.getD j [])) j = true) ?_ 0 ⟨Nat.zero_le _, by intros; omega⟩
    intro i ⟨hi, hz⟩ ih
    ((conv => whnf); repeat first | (refine Br.no ?_; conv => whnf) | (refine Br.yes ?_; conv => whnf) | (refine Pick.draw rfl (by kernel_rfl) ?_; conv => whnf) | (refine Pick.drawM (by kernel_rfl) ?_; conv => whnf) | (refine CallC.r ?_; conv => whnf))
    refine Br.mk (fun h => ?_) (fun h => ?_) <;> ((conv => whnf); repeat first | (refine Br.no ?_; conv => whnf) | (refine Br.yes ?_; conv => whnf) | (refine Pick.draw rfl (by kernel_rfl) ?_; conv => whnf) | (refine Pick.drawM (by kernel_rfl) ?_; conv => whnf) | (refine CallC.r ?_; conv => whnf))
    · simp at h
      have hvi := hvs.at i h
      have hll := leftM_len ok v[i]
      refine Pick.ix (h) ?_
      ((conv => whnf); repeat first | (refine Br.no ?_; conv => whnf) | (refine Br.yes ?_; conv => whnf) | (refine Pick.draw rfl (by kernel_rfl) ?_; conv => whnf) | (refine Pick.drawM (by kernel_rfl) ?_; conv => whnf) | (refine CallC.r ?_; conv => whnf))
      refine Pick.mk _ (s_l26Left m ok v[i] hvi.1 hvi.2) ?_
      ((conv => whnf); repeat first | (refine Br.no ?_; conv => whnf) | (refine Br.yes ?_; conv => whnf) | (refine Pick.draw rfl (by kernel_rfl) ?_; conv => whnf) | (refine Pick.drawM (by kernel_rfl) ?_; conv => whnf) | (refine CallC.r ?_; conv => whnf))
      refine Pick.mk _ (s_l26UnitAt (leftM m v[i]) i (by omega)) ?_
      ((conv => whnf); repeat first | (refine Br.no ?_; conv => whnf) | (refine Br.yes ?_; conv => whnf) | (refine Pick.draw rfl (by kernel_rfl) ?_; conv => whnf) | (refine Pick.drawM (by kernel_rfl) ?_; conv => whnf) | (refine CallC.r ?_; conv => whnf))
      refine Br.mk (fun h3 => ?_) (fun h3 => ?_) <;> ((conv => whnf); repeat first | (refine Br.no ?_; conv => whnf) | (refine Br.yes ?_; conv => whnf) | (refine Pick.draw rfl (by kernel_rfl) ?_; conv => whnf) | (refine Pick.drawM (by kernel_rfl) ?_; conv => whnf) | (refine CallC.r ?_; conv => whnf))
      · simp at h3
        refine ResOK.same ?_
        have e : rightOf ⟨4, m, v⟩ = false := allR_no h (by rw [getD_lt _ _ h]; exact h3)
        rw [e]
      · simp at h3
        refine Pick.at64 (z := (i + 1 : Nat)) (by simp) (by omega) ?_
        ((conv => whnf); repeat first | (refine Br.no ?_; conv => whnf) | (refine Br.yes ?_; conv => whnf) | (refine Pick.draw rfl (by kernel_rfl) ?_; conv => whnf) | (refine Pick.drawM (by kernel_rfl) ?_; conv => whnf) | (refine CallC.r ?_; conv => whnf))
        refine ih (i + 1) ⟨by omega, fun j hj => ?_⟩ (by omega)
        by_cases e : j = i
        · subst e; rw [getD_lt _ _ h]; exact h3
        · exact hz j (by omega)
    · simp at h
      refine ResOK.same ?_
      have e : rightOf ⟨4, m, v⟩ = true := allR_yes fun j hj => hz j (by have : j < v.length := hj; omega)
      rw [e]
  · obtain ⟨hl, hv1, hv2⟩ := st5 ok st
    refine Pick.at64 (z := ((v.length / 2 : Nat) : Int)) (by rw [hlv]; exact half _) (by omega) ?_
    ((conv => whnf); repeat first | (refine Br.no ?_; conv => whnf) | (refine Br.yes ?_; conv => whnf) | (refine Pick.draw rfl (by kernel_rfl) ?_; conv => whnf) | (refine Pick.drawM (by kernel_rfl) ?_; conv => whnf) | (refine CallC.r ?_; conv => whnf))
    have e5 : rightOf ⟨5, m, v⟩ = (List.range (v.length / 2)).all fun k => (List.range (v.length / 2)).all fun i => dotM m.prime (v.getD (v.length / 2 + i) []) (applyM m (v.getD k [])) == if i = k then 1 else 0 := rfl
    rw [e5]
    generalize hn : v.length / 2 = n at hl hv1 hv2
    refine Pick.mk [3, 4, 5, 7] trivial ?_
    ((conv => whnf); repeat first | (refine Br.no ?_; conv => whnf) | (refine Br.yes ?_; conv => whnf) | (refine Pick.draw rfl (by kernel_rfl) ?_; conv => whnf) | (refine Pick.drawM (by kernel_rfl) ?_; conv => whnf) | (refine CallC.r ?_; conv => whnf))
    refine LoopL.over (fun (k : Nat) => [(7, .one (.c (.int .i64 ((k : Int)))))]) (fun (k : Nat) => []) (fun (k : Nat) => n - k) (fun (k : Nat) => k ≤ n ∧ ∀ q, q < k → ((List.range n).all fun i => dotM m.prime (v.getD (n + i) []) (applyM m (v.getD q [])) == if i = q then 1 else 0) = true) ?_ 0 ⟨Nat.zero_le _, by intros; omega⟩
    intro k ⟨hk, hz⟩ ih
    ((conv => whnf); repeat first | (refine Br.no ?_; conv => whnf) | (refine Br.yes ?_; conv => whnf) | (refine Pick.draw rfl (by kernel_rfl) ?_; conv => whnf) | (refine Pick.drawM (by kernel_rfl) ?_; conv => whnf) | (refine CallC.r ?_; conv => whnf))
    refine Br.mk (fun h => ?_) (fun h => ?_) <;> ((conv => whnf); repeat first | (refine Br.no ?_; conv => whnf) | (refine Br.yes ?_; conv => whnf) | (refine Pick.draw rfl (by kernel_rfl) ?_; conv => whnf) | (refine Pick.drawM (by kernel_rfl) ?_; conv => whnf) | (refine CallC.r ?_; conv => whnf))
    · simp at h
      have hkv : k < v.length := by omega
      have hvk : v[k].length = c ∧ El m.prime v[k] := hv1 _ (List.mem_take_iff_getElem.2 ⟨k, by omega, rfl⟩)
      refine Pick.ix (hkv) ?_
      ((conv => whnf); repeat first | (refine Br.no ?_; conv => whnf) | (refine Br.yes ?_; conv => whnf) | (refine Pick.draw rfl (by kernel_rfl) ?_; conv => whnf) | (refine Pick.drawM (by kernel_rfl) ?_; conv => whnf) | (refine CallC.r ?_; conv => whnf))
      refine Pick.mk _ (s_l03Apply m ok v[k] hvk.1 hvk.2) ?_
      ((conv => whnf); repeat first | (refine Br.no ?_; conv => whnf) | (refine Br.yes ?_; conv => whnf) | (refine Pick.draw rfl (by kernel_rfl) ?_; conv => whnf) | (refine Pick.drawM (by kernel_rfl) ?_; conv => whnf) | (refine CallC.r ?_; conv => whnf))
      refine Pick.mk [3, 4, 5, 7, 8, 9] trivial ?_
      ((conv => whnf); repeat first | (refine Br.no ?_; conv => whnf) | (refine Br.yes ?_; conv => whnf) | (refine Pick.draw rfl (by kernel_rfl) ?_; conv => whnf) | (refine Pick.drawM (by kernel_rfl) ?_; conv => whnf) | (refine CallC.r ?_; conv => whnf))
      refine LoopL.over (fun (i : Nat) => [(9, .one (.c (.int .i64 ((i : Int)))))]) (fun (i : Nat) => []) (fun (i : Nat) => n - i) (fun (i : Nat) => i ≤ n ∧ ∀ q, q < i → (dotM m.prime (v.getD (n + q) []) (applyM m v[k]) == if q = k then 1 else 0) = true) ?_ 0 ⟨Nat.zero_le _, by intros; omega⟩
      intro i ⟨hi, hz2⟩ ih2
      ((conv => whnf); repeat first | (refine Br.no ?_; conv => whnf) | (refine Br.yes ?_; conv => whnf) | (refine Pick.draw rfl (by kernel_rfl) ?_; conv => whnf) | (refine Pick.drawM (by kernel_rfl) ?_; conv => whnf) | (refine CallC.r ?_; conv => whnf))
      refine Br.mk (fun h3 => ?_) (fun h3 => ?_) <;> ((conv => whnf); repeat first | (refine Br.no ?_; conv => whnf) | (refine Br.yes ?_; conv => whnf) | (refine Pick.draw rfl (by kernel_rfl) ?_; conv => whnf) | (refine Pick.drawM (by kernel_rfl) ?_; conv => whnf) | (refine CallC.r ?_; conv => whnf))
      · simp at h3
        have hiv : n + i < v.length := by omega
        have hvi : v[n + i].length = r ∧ El m.prime v[n + i] := hv2 _ (List.mem_drop_iff_getElem.2 ⟨i, by omega, rfl⟩)
        have hal := applyM_len ok v[k]
        have no : (dotM m.prime v[n + i] (applyM m v[k]) == if i = k then 1 else 0) = false → ((List.range n).all fun k => (List.range n).all fun i => dotM m.prime (v.getD (n + i) []) (applyM m (v.getD k [])) == if i = k then 1 else 0) = false := fun e => allR_no h (allR_no h3 (by rw [getD_lt _ _ hkv, getD_lt _ _ hiv]; exact e))
        have go : (dotM m.prime v[n + i] (applyM m v[k]) == if i = k then 1 else 0) = true → ∀ q, q < i + 1 → (dotM m.prime (v.getD (n + q) []) (applyM m v[k]) == if q = k then 1 else 0) = true := fun e q hq => by
          by_cases eq : q = i
          · subst eq; rw [getD_lt _ _ hiv]; exact e
          · exact hz2 q (by omega)
        refine Pick.at64 (z := ((n + i : Nat) : Int)) (by push_cast; rfl) (by omega) ?_
        ((conv => whnf); repeat first | (refine Br.no ?_; conv => whnf) | (refine Br.yes ?_; conv => whnf) | (refine Pick.draw rfl (by kernel_rfl) ?_; conv => whnf) | (refine Pick.drawM (by kernel_rfl) ?_; conv => whnf) | (refine CallC.r ?_; conv => whnf))
        refine Pick.ix (hiv) ?_
        ((conv => whnf); repeat first | (refine Br.no ?_; conv => whnf) | (refine Br.yes ?_; conv => whnf) | (refine Pick.draw rfl (by kernel_rfl) ?_; conv => whnf) | (refine Pick.drawM (by kernel_rfl) ?_; conv => whnf) | (refine CallC.r ?_; conv => whnf))
        refine Pick.mk _ (s_l02Dot v[n + i] (applyM m v[k]) m.prime hvi.2 (applyM_el ok _) ok.p (by omega) (by omega)) ?_
        ((conv => whnf); repeat first | (refine Br.no ?_; conv => whnf) | (refine Br.yes ?_; conv => whnf) | (refine Pick.draw rfl (by kernel_rfl) ?_; conv => whnf) | (refine Pick.drawM (by kernel_rfl) ?_; conv => whnf) | (refine CallC.r ?_; conv => whnf))
        refine Br.mk (fun h4 => ?_) (fun h4 => ?_) <;> ((conv => whnf); repeat first | (refine Br.no ?_; conv => whnf) | (refine Br.yes ?_; conv => whnf) | (refine Pick.draw rfl (by kernel_rfl) ?_; conv => whnf) | (refine Pick.drawM (by kernel_rfl) ?_; conv => whnf) | (refine CallC.r ?_; conv => whnf))
        · simp at h4
          rw [if_pos (show i = k by omega)] at no go
          refine Br.mk (fun h5 => ?_) (fun h5 => ?_) <;> ((conv => whnf); repeat first | (refine Br.no ?_; conv => whnf) | (refine Br.yes ?_; conv => whnf) | (refine Pick.draw rfl (by kernel_rfl) ?_; conv => whnf) | (refine Pick.drawM (by kernel_rfl) ?_; conv => whnf) | (refine CallC.r ?_; conv => whnf))
          · exact ResOK.same (by rw [no (by simpa using h5)])
          · refine Br.mk (fun h6 => ?_) (fun h6 => ?_) <;> ((conv => whnf); repeat first | (refine Br.no ?_; conv => whnf) | (refine Br.yes ?_; conv => whnf) | (refine Pick.draw rfl (by kernel_rfl) ?_; conv => whnf) | (refine Pick.drawM (by kernel_rfl) ?_; conv => whnf) | (refine CallC.r ?_; conv => whnf))
            · simp at h6; omega
            · refine Pick.at64 (z := (i + 1 : Nat)) (by simp) (by omega) ?_
              ((conv => whnf); repeat first | (refine Br.no ?_; conv => whnf) | (refine Br.yes ?_; conv => whnf) | (refine Pick.draw rfl (by kernel_rfl) ?_; conv => whnf) | (refine Pick.drawM (by kernel_rfl) ?_; conv => whnf) | (refine CallC.r ?_; conv => whnf))
              exact ih2 (i + 1) ⟨by omega, go (by simpa using h5)⟩ (by omega)
        · simp at h4
          rw [if_neg (show ¬ i = k by omega)] at no go
          refine Br.mk (fun h6 => ?_) (fun h6 => ?_) <;> ((conv => whnf); repeat first | (refine Br.no ?_; conv => whnf) | (refine Br.yes ?_; conv => whnf) | (refine Pick.draw rfl (by kernel_rfl) ?_; conv => whnf) | (refine Pick.drawM (by kernel_rfl) ?_; conv => whnf) | (refine CallC.r ?_; conv => whnf))
          · refine Br.mk (fun h5 => ?_) (fun h5 => ?_) <;> ((conv => whnf); repeat first | (refine Br.no ?_; conv => whnf) | (refine Br.yes ?_; conv => whnf) | (refine Pick.draw rfl (by kernel_rfl) ?_; conv => whnf) | (refine Pick.drawM (by kernel_rfl) ?_; conv => whnf) | (refine CallC.r ?_; conv => whnf))
            · exact ResOK.same (by rw [no (by simpa using h5)])
            · refine Pick.at64 (z := (i + 1 : Nat)) (by simp) (by omega) ?_
              ((conv => whnf); repeat first | (refine Br.no ?_; conv => whnf) | (refine Br.yes ?_; conv => whnf) | (refine Pick.draw rfl (by kernel_rfl) ?_; conv => whnf) | (refine Pick.drawM (by kernel_rfl) ?_; conv => whnf) | (refine CallC.r ?_; conv => whnf))
              exact ih2 (i + 1) ⟨by omega, go (by simpa using h5)⟩ (by omega)
          · simp at h6; omega
      · simp at h3
        refine Pick.at64 (z := (k + 1 : Nat)) (by simp) (by omega) ?_
        ((conv => whnf); repeat first | (refine Br.no ?_; conv => whnf) | (refine Br.yes ?_; conv => whnf) | (refine Pick.draw rfl (by kernel_rfl) ?_; conv => whnf) | (refine Pick.drawM (by kernel_rfl) ?_; conv => whnf) | (refine CallC.r ?_; conv => whnf))
        refine ih (k + 1) ⟨by omega, fun q hq => ?_⟩ (by omega)
        by_cases eq : q = k
        · subst eq
          rw [getD_lt _ _ hkv]
          exact allR_yes fun i hi => hz2 i (by omega)
        · exact hz q (by omega)
    · simp at h
      exact ResOK.same (by rw [allR_yes fun q hq => hz q (by omega)])
  · obtain ⟨hl, hv1, hv2⟩ := st6 ok st
    have e6 : rightOf ⟨6, m, v⟩ = (List.range r).all fun i => (List.range c).all fun j => sumN (pairT v (v.length / 2) i j) (v.length / 2) % m.prime == cellAt m i j := by
      show ((List.range m.rows.toNat).all fun r => (List.range m.columns.toNat).all fun c => sumN (pairT v (v.length / 2) r c) (v.length / 2) % m.prime == cellAt m r c) = _
      rw [ok.rn, ok.cn]
    rw [e6]
    have hrow := ok.rows
    have hcol := ok.columns
    have hp := ok.p
    refine Pick.at64 (z := ((v.length / 2 : Nat) : Int)) (by rw [hlv]; exact half _) (by omega) ?_
    ((conv => whnf); repeat first | (refine Br.no ?_; conv => whnf) | (refine Br.yes ?_; conv => whnf) | (refine Pick.draw rfl (by kernel_rfl) ?_; conv => whnf) | (refine Pick.drawM (by kernel_rfl) ?_; conv => whnf) | (refine CallC.r ?_; conv => whnf))
    generalize hn : v.length / 2 = n at hl hv1 hv2
    refine Pick.mk [3, 4, 5, 11] trivial ?_
    ((conv => whnf); repeat first | (refine Br.no ?_; conv => whnf) | (refine Br.yes ?_; conv => whnf) | (refine Pick.draw rfl (by kernel_rfl) ?_; conv => whnf) | (refine Pick.drawM (by kernel_rfl) ?_; conv => whnf) | (refine CallC.r ?_; conv => whnf))
    refine LoopL.over (fun (i : Nat) => [(11, .one (.c (.int .i64 ((i : Int)))))]) (fun (i : Nat) => []) (fun (i : Nat) => r - i) (fun (i : Nat) => i ≤ r ∧ ∀ q, q < i → ((List.range c).all fun j => sumN (pairT v n q j) n % m.prime == cellAt m q j) = true) ?_ 0 ⟨Nat.zero_le _, by intros; omega⟩
    intro i ⟨hi, hz⟩ ih
    ((conv => whnf); repeat first | (refine Br.no ?_; conv => whnf) | (refine Br.yes ?_; conv => whnf) | (refine Pick.draw rfl (by kernel_rfl) ?_; conv => whnf) | (refine Pick.drawM (by kernel_rfl) ?_; conv => whnf) | (refine CallC.r ?_; conv => whnf))
    refine Br.mk (fun h => ?_) (fun h => ?_) <;> ((conv => whnf); repeat first | (refine Br.no ?_; conv => whnf) | (refine Br.yes ?_; conv => whnf) | (refine Pick.draw rfl (by kernel_rfl) ?_; conv => whnf) | (refine Pick.drawM (by kernel_rfl) ?_; conv => whnf) | (refine CallC.r ?_; conv => whnf))
    · simp [hrow] at h
      refine Pick.mk [3, 4, 5, 11, 12] trivial ?_
      ((conv => whnf); repeat first | (refine Br.no ?_; conv => whnf) | (refine Br.yes ?_; conv => whnf) | (refine Pick.draw rfl (by kernel_rfl) ?_; conv => whnf) | (refine Pick.drawM (by kernel_rfl) ?_; conv => whnf) | (refine CallC.r ?_; conv => whnf))
      refine LoopL.over (fun (j : Nat) => [(12, .one (.c (.int .i64 ((j : Int)))))]) (fun (j : Nat) => []) (fun (j : Nat) => c - j) (fun (j : Nat) => j ≤ c ∧ ∀ q, q < j → (sumN (pairT v n i q) n % m.prime == cellAt m i q) = true) ?_ 0 ⟨Nat.zero_le _, by intros; omega⟩
      intro j ⟨hj, hz2⟩ ih2
      ((conv => whnf); repeat first | (refine Br.no ?_; conv => whnf) | (refine Br.yes ?_; conv => whnf) | (refine Pick.draw rfl (by kernel_rfl) ?_; conv => whnf) | (refine Pick.drawM (by kernel_rfl) ?_; conv => whnf) | (refine CallC.r ?_; conv => whnf))
      refine Br.mk (fun h3 => ?_) (fun h3 => ?_) <;> ((conv => whnf); repeat first | (refine Br.no ?_; conv => whnf) | (refine Br.yes ?_; conv => whnf) | (refine Pick.draw rfl (by kernel_rfl) ?_; conv => whnf) | (refine Pick.drawM (by kernel_rfl) ?_; conv => whnf) | (refine CallC.r ?_; conv => whnf))
      · simp [hcol] at h3
        refine Pick.mk [3, 4, 5, 11, 12, 13, 14] trivial ?_
        ((conv => whnf); repeat first | (refine Br.no ?_; conv => whnf) | (refine Br.yes ?_; conv => whnf) | (refine Pick.draw rfl (by kernel_rfl) ?_; conv => whnf) | (refine Pick.drawM (by kernel_rfl) ?_; conv => whnf) | (refine CallC.r ?_; conv => whnf))
        refine LoopL.over (fun (k : Nat) => [(13, .one (.c (.int .i64 (sumN (pairT v n i j) k % m.prime)))), (14, .one (.c (.int .i64 ((k : Int)))))]) (fun (k : Nat) => []) (fun (k : Nat) => n - k) (fun (k : Nat) => k ≤ n) ?_ 0 (Nat.zero_le _) (by simp [sumN]; rfl)
        intro k hk ih3
        have h5 := Int.emod_nonneg (sumN (pairT v n i j) k) (show m.prime ≠ 0 by omega)
        have h6 := Int.emod_lt_of_pos (sumN (pairT v n i j) k) (show 0 < m.prime by omega)
        ((conv => whnf); repeat first | (refine Br.no ?_; conv => whnf) | (refine Br.yes ?_; conv => whnf) | (refine Pick.draw rfl (by kernel_rfl) ?_; conv => whnf) | (refine Pick.drawM (by kernel_rfl) ?_; conv => whnf) | (refine CallC.r ?_; conv => whnf))
        refine Br.mk (fun h4 => ?_) (fun h4 => ?_) <;> ((conv => whnf); repeat first | (refine Br.no ?_; conv => whnf) | (refine Br.yes ?_; conv => whnf) | (refine Pick.draw rfl (by kernel_rfl) ?_; conv => whnf) | (refine Pick.drawM (by kernel_rfl) ?_; conv => whnf) | (refine CallC.r ?_; conv => whnf))
        · simp at h4
          have hkv : k < v.length := by omega
          have hiv : n + k < v.length := by omega
          have hvk : v[k].length = r ∧ El m.prime v[k] := hv1 _ (List.mem_take_iff_getElem.2 ⟨k, by omega, rfl⟩)
          have hvi : v[n + k].length = c ∧ El m.prime v[n + k] := hv2 _ (List.mem_drop_iff_getElem.2 ⟨k, by omega, rfl⟩)
          have hik : i < v[k].length := by omega
          have hjk : j < v[n + k].length := by omega
          have h7 := hvk.2.at i hik
          have h8 := hvi.2.at j hjk
          have hm := mul_bound (a := v[k][i]) (b := v[n + k][j]) (by omega) (by omega)
          refine Pick.ix (xs := v) hkv ?_
          ((conv => whnf); repeat first | (refine Br.no ?_; conv => whnf) | (refine Br.yes ?_; conv => whnf) | (refine Pick.draw rfl (by kernel_rfl) ?_; conv => whnf) | (refine Pick.drawM (by kernel_rfl) ?_; conv => whnf) | (refine CallC.r ?_; conv => whnf))
          refine Pick.ix (hik) ?_
          ((conv => whnf); repeat first | (refine Br.no ?_; conv => whnf) | (refine Br.yes ?_; conv => whnf) | (refine Pick.draw rfl (by kernel_rfl) ?_; conv => whnf) | (refine Pick.drawM (by kernel_rfl) ?_; conv => whnf) | (refine CallC.r ?_; conv => whnf))
          refine Pick.at64 (z := ((n + k : Nat) : Int)) (by push_cast; rfl) (by omega) ?_
          ((conv => whnf); repeat first | (refine Br.no ?_; conv => whnf) | (refine Br.yes ?_; conv => whnf) | (refine Pick.draw rfl (by kernel_rfl) ?_; conv => whnf) | (refine Pick.drawM (by kernel_rfl) ?_; conv => whnf) | (refine CallC.r ?_; conv => whnf))
          refine Pick.ix (xs := v) hiv ?_
          ((conv => whnf); repeat first | (refine Br.no ?_; conv => whnf) | (refine Br.yes ?_; conv => whnf) | (refine Pick.draw rfl (by kernel_rfl) ?_; conv => whnf) | (refine Pick.drawM (by kernel_rfl) ?_; conv => whnf) | (refine CallC.r ?_; conv => whnf))
          refine Pick.ix (hjk) ?_
          ((conv => whnf); repeat first | (refine Br.no ?_; conv => whnf) | (refine Br.yes ?_; conv => whnf) | (refine Pick.draw rfl (by kernel_rfl) ?_; conv => whnf) | (refine Pick.drawM (by kernel_rfl) ?_; conv => whnf) | (refine CallC.r ?_; conv => whnf))
          refine Pick.w64 (by omega) ?_
          ((conv => whnf); repeat first | (refine Br.no ?_; conv => whnf) | (refine Br.yes ?_; conv => whnf) | (refine Pick.draw rfl (by kernel_rfl) ?_; conv => whnf) | (refine Pick.drawM (by kernel_rfl) ?_; conv => whnf) | (refine CallC.r ?_; conv => whnf))
          refine Pick.w64 (by omega) ?_
          ((conv => whnf); repeat first | (refine Br.no ?_; conv => whnf) | (refine Br.yes ?_; conv => whnf) | (refine Pick.draw rfl (by kernel_rfl) ?_; conv => whnf) | (refine Pick.drawM (by kernel_rfl) ?_; conv => whnf) | (refine CallC.r ?_; conv => whnf))
          refine Side.mk (show m.prime ≠ 0 by omega) ?_
          ((conv => whnf); repeat first | (refine Br.no ?_; conv => whnf) | (refine Br.yes ?_; conv => whnf) | (refine Pick.draw rfl (by kernel_rfl) ?_; conv => whnf) | (refine Pick.drawM (by kernel_rfl) ?_; conv => whnf) | (refine CallC.r ?_; conv => whnf))
          have e : (sumN (pairT v n i j) k % m.prime + v[k][i] * v[n + k][j]).tmod m.prime = sumN (pairT v n i j) (k + 1) % m.prime := by
            rw [Int.tmod_eq_emod_of_nonneg (by omega), dot_step _ _ _ _ (by omega)]
            simp only [sumN, pairT, getD_lt _ _ hkv, getD_lt _ _ hiv, getD_lt _ _ hik, getD_lt _ _ hjk]
          rw [e]
          refine Pick.at64 (z := (k + 1 : Nat)) (by simp) (by omega) ?_
          ((conv => whnf); repeat first | (refine Br.no ?_; conv => whnf) | (refine Br.yes ?_; conv => whnf) | (refine Pick.draw rfl (by kernel_rfl) ?_; conv => whnf) | (refine Pick.drawM (by kernel_rfl) ?_; conv => whnf) | (refine CallC.r ?_; conv => whnf))
          exact ih3 (k + 1) (by omega) (by omega)
        · simp at h4
          obtain rfl : k = n := by omega
          have hbig := ok.big h h3
          have hlt := ok.lt h h3
          have hic : i * c ≤ i * c + j := Nat.le_add_right _ _
          have h7 := ok.cell h h3
          refine Pick.at64 (z := ((i * c : Nat) : Int)) (by rw [hcol]; push_cast; rfl) (by omega) ?_
          ((conv => whnf); repeat first | (refine Br.no ?_; conv => whnf) | (refine Br.yes ?_; conv => whnf) | (refine Pick.draw rfl (by kernel_rfl) ?_; conv => whnf) | (refine Pick.drawM (by kernel_rfl) ?_; conv => whnf) | (refine CallC.r ?_; conv => whnf))
          refine Pick.at64 (z := ((i * c + j : Nat) : Int)) (by push_cast; rfl) (by omega) ?_
          ((conv => whnf); repeat first | (refine Br.no ?_; conv => whnf) | (refine Br.yes ?_; conv => whnf) | (refine Pick.draw rfl (by kernel_rfl) ?_; conv => whnf) | (refine Pick.drawM (by kernel_rfl) ?_; conv => whnf) | (refine CallC.r ?_; conv => whnf))
          refine Pick.ix (hlt) ?_
          ((conv => whnf); repeat first | (refine Br.no ?_; conv => whnf) | (refine Br.yes ?_; conv => whnf) | (refine Pick.draw rfl (by kernel_rfl) ?_; conv => whnf) | (refine Pick.drawM (by kernel_rfl) ?_; conv => whnf) | (refine CallC.r ?_; conv => whnf))
          rw [← h7]
          refine Br.mk (fun h8 => ?_) (fun h8 => ?_) <;> ((conv => whnf); repeat first | (refine Br.no ?_; conv => whnf) | (refine Br.yes ?_; conv => whnf) | (refine Pick.draw rfl (by kernel_rfl) ?_; conv => whnf) | (refine Pick.drawM (by kernel_rfl) ?_; conv => whnf) | (refine CallC.r ?_; conv => whnf))
          · refine ResOK.same ?_
            rw [allR_no h (allR_no h3 (by simpa using h8))]
          · refine Pick.at64 (z := (j + 1 : Nat)) (by simp) (by omega) ?_
            ((conv => whnf); repeat first | (refine Br.no ?_; conv => whnf) | (refine Br.yes ?_; conv => whnf) | (refine Pick.draw rfl (by kernel_rfl) ?_; conv => whnf) | (refine Pick.drawM (by kernel_rfl) ?_; conv => whnf) | (refine CallC.r ?_; conv => whnf))
            refine ih2 (j + 1) ⟨by omega, fun q hq => ?_⟩ (by omega)
            by_cases eq : q = j
            · subst eq; simpa using h8
            · exact hz2 q (by omega)
      · simp [hcol] at h3
        refine Pick.at64 (z := (i + 1 : Nat)) (by simp) (by omega) ?_
        ((conv => whnf); repeat first | (refine Br.no ?_; conv => whnf) | (refine Br.yes ?_; conv => whnf) | (refine Pick.draw rfl (by kernel_rfl) ?_; conv => whnf) | (refine Pick.drawM (by kernel_rfl) ?_; conv => whnf) | (refine CallC.r ?_; conv => whnf))
        refine ih (i + 1) ⟨by omega, fun q hq => ?_⟩ (by omega)
        by_cases eq : q = i
        · subst eq; exact allR_yes fun j hj => hz2 j (by omega)
        · exact hz q (by omega)
    · simp [hrow] at h
      exact ResOK.same (by rw [allR_yes fun q hq => hz q (by omega)])

theorem s_spec_CheckProof (q : Proof) (o : Enc.ok q) : Sat Try.prog 29 [(true, Enc.enc q)] (.one (.c (.bool (okProof q && rightOf q))), []) := by
  refine Sat.intro tok mixed Try.func29 rfl rfl ?_
  ((conv => whnf); repeat first | (refine Br.no ?_; conv => whnf) | (refine Br.yes ?_; conv => whnf) | (refine Pick.draw rfl (by kernel_rfl) ?_; conv => whnf) | (refine Pick.drawM (by kernel_rfl) ?_; conv => whnf) | (refine CallC.r ?_; conv => whnf))
  refine Pick.mk _ (s_l26Right q o) ?_
  ((conv => whnf); repeat first | (refine Br.no ?_; conv => whnf) | (refine Br.yes ?_; conv => whnf) | (refine Pick.draw rfl (by kernel_rfl) ?_; conv => whnf) | (refine Pick.drawM (by kernel_rfl) ?_; conv => whnf) | (refine CallC.r ?_; conv => whnf))
  exact ResOK.same rfl

/-! ### the first that is wrong -/
def wrongP (q : Proof) : Bool := !(okProof q && rightOf q)
def firstWrong (xs : List Proof) : Int × Int := if (xs.length : Int) > 16 then (0, 5) else if firstIx wrongP xs 0 < 0 then (0, 3) else (firstIx wrongP xs 0, 0)

theorem s_FirstWrong1 (q : Proof) (o : Enc.ok q) : Sat Try.prog 76 ((true, Enc.enc q) :: ([] : List CV).map fun y => (false, [y])) (.one (.c (.bool (wrongP q))), []) := by
  refine Sat.intro tok mixed Try.func76 rfl rfl ?_
  ((conv => whnf); repeat first | (refine Br.no ?_; conv => whnf) | (refine Br.yes ?_; conv => whnf) | (refine Pick.draw rfl (by kernel_rfl) ?_; conv => whnf) | (refine Pick.drawM (by kernel_rfl) ?_; conv => whnf) | (refine CallC.r ?_; conv => whnf))
  refine Pick.mk _ (s_impl_CheckProof q o) ?_
  ((conv => whnf); repeat first | (refine Br.no ?_; conv => whnf) | (refine Br.yes ?_; conv => whnf) | (refine Pick.draw rfl (by kernel_rfl) ?_; conv => whnf) | (refine Pick.drawM (by kernel_rfl) ?_; conv => whnf) | (refine CallC.r ?_; conv => whnf))
  exact ResOK.same rfl

theorem s_IndexFuncProof (xs : List Proof) (g : Nat) (caps : List CV) (p : Proof → Bool) (hb : xs.length ≤ maxLen) (hp : ∀ x ∈ xs, Sat Try.prog g ((true, Enc.enc x) :: caps.map fun y => (false, [y])) (.one (.c (.bool (p x))), [])) :
    Sat Try.prog 75 [(false, Enc.enc xs), (false, [.fn g caps])] (.one (.c (.int .i64 (firstIx p xs 0))), []) := by
  simp only [maxLen] at hb
  refine Sat.intro tok mixed Try.func75 rfl rfl ?_
  ((conv => whnf); repeat first | (refine Br.no ?_; conv => whnf) | (refine Br.yes ?_; conv => whnf) | (refine Pick.draw rfl (by kernel_rfl) ?_; conv => whnf) | (refine Pick.drawM (by kernel_rfl) ?_; conv => whnf) | (refine CallC.r ?_; conv => whnf))
  refine Pick.mk [0, 1, 7, 8] trivial ?_
  ((conv => whnf); repeat first | (refine Br.no ?_; conv => whnf) | (refine Br.yes ?_; conv => whnf) | (refine Pick.draw rfl (by kernel_rfl) ?_; conv => whnf) | (refine Pick.drawM (by kernel_rfl) ?_; conv => whnf) | (refine CallC.r ?_; conv => whnf))
  refine LoopL.over (fun (i : Nat) => [(8, .one (.c (.int .i64 ((i : Int)))))]) (fun (i : Nat) => []) (fun (i : Nat) => xs.length - i) (fun (i : Nat) => i ≤ xs.length ∧ ∀ (j : Nat) (h : j < xs.length), j < i → p xs[j] = false) ?_ 0 ⟨Nat.zero_le _, by intros; omega⟩
  intro i ⟨h2, h3⟩ ih
  ((conv => whnf); repeat first | (refine Br.no ?_; conv => whnf) | (refine Br.yes ?_; conv => whnf) | (refine Pick.draw rfl (by kernel_rfl) ?_; conv => whnf) | (refine Pick.drawM (by kernel_rfl) ?_; conv => whnf) | (refine CallC.r ?_; conv => whnf))
  refine Br.mk (fun h => ?_) (fun h => ?_) <;> ((conv => whnf); repeat first | (refine Br.no ?_; conv => whnf) | (refine Br.yes ?_; conv => whnf) | (refine Pick.draw rfl (by kernel_rfl) ?_; conv => whnf) | (refine Pick.drawM (by kernel_rfl) ?_; conv => whnf) | (refine CallC.r ?_; conv => whnf))
  · simp at h
    refine Pick.ix (h) ?_
    ((conv => whnf); repeat first | (refine Br.no ?_; conv => whnf) | (refine Br.yes ?_; conv => whnf) | (refine Pick.draw rfl (by kernel_rfl) ?_; conv => whnf) | (refine Pick.drawM (by kernel_rfl) ?_; conv => whnf) | (refine CallC.r ?_; conv => whnf))
    refine Pick.mk _ (hp xs[i] (List.getElem_mem h)) ?_
    ((conv => whnf); repeat first | (refine Br.no ?_; conv => whnf) | (refine Br.yes ?_; conv => whnf) | (refine Pick.draw rfl (by kernel_rfl) ?_; conv => whnf) | (refine Pick.drawM (by kernel_rfl) ?_; conv => whnf) | (refine CallC.r ?_; conv => whnf))
    refine Br.mk (fun h5 => ?_) (fun h5 => ?_) <;> ((conv => whnf); repeat first | (refine Br.no ?_; conv => whnf) | (refine Br.yes ?_; conv => whnf) | (refine Pick.draw rfl (by kernel_rfl) ?_; conv => whnf) | (refine Pick.drawM (by kernel_rfl) ?_; conv => whnf) | (refine CallC.r ?_; conv => whnf))
    · exact ResOK.same (by rw [firstIx_at h h5 h3, Nat.zero_add])
    · refine Pick.at64 (z := (i + 1 : Nat)) (by simp) (by omega) ?_
      ((conv => whnf); repeat first | (refine Br.no ?_; conv => whnf) | (refine Br.yes ?_; conv => whnf) | (refine Pick.draw rfl (by kernel_rfl) ?_; conv => whnf) | (refine Pick.drawM (by kernel_rfl) ?_; conv => whnf) | (refine CallC.r ?_; conv => whnf))
      refine ih (i + 1) ⟨by omega, fun j h1 h6 => ?_⟩ (by omega)
      by_cases hj : j < i
      · exact h3 j h1 hj
      · obtain rfl : j = i := by omega
        exact h5
  · simp at h
    exact ResOK.same (by rw [firstIx_none fun j h1 => h3 j h1 (by omega)])

theorem s_impl_FirstWrong (xs : List Proof) (o : Enc.ok xs) : Sat Try.prog 37 [(false, Enc.enc xs)] (.tup [(false, [.c (.int .i64 (firstWrong xs).1)]), (false, [.c (.int .i64 (firstWrong xs).2)])], []) := by
  have hl : (xs.map (Enc.enc (α := Proof))).length = xs.length := by simp
  refine Sat.intro tok mixed Try.func37 rfl rfl ?_
  ((conv => whnf); repeat first | (refine Br.no ?_; conv => whnf) | (refine Br.yes ?_; conv => whnf) | (refine Pick.draw rfl (by kernel_rfl) ?_; conv => whnf) | (refine Pick.drawM (by kernel_rfl) ?_; conv => whnf) | (refine CallC.r ?_; conv => whnf))
  refine Br.mk (fun h => ?_) (fun h => ?_) <;> ((conv => whnf); repeat first | (refine Br.no ?_; conv => whnf) | (refine Br.yes ?_; conv => whnf) | (refine Pick.draw rfl (by kernel_rfl) ?_; conv => whnf) | (refine Pick.drawM (by kernel_rfl) ?_; conv => whnf) | (refine CallC.r ?_; conv => whnf))
  · exact ResOK.same (by rw [hl] at h; simp only [firstWrong, of_decide_eq_true h, if_true])
  · rw [hl] at h
    have h := of_decide_eq_false h
    refine Pick.mk _ (s_IndexFuncProof xs 76 [] wrongP o.1 fun x hx => s_FirstWrong1 x (o.2 x hx)) ?_
    ((conv => whnf); repeat first | (refine Br.no ?_; conv => whnf) | (refine Br.yes ?_; conv => whnf) | (refine Pick.draw rfl (by kernel_rfl) ?_; conv => whnf) | (refine Pick.drawM (by kernel_rfl) ?_; conv => whnf) | (refine CallC.r ?_; conv => whnf))
    refine Br.mk (fun h2 => ?_) (fun h2 => ?_) <;> ((conv => whnf); repeat first | (refine Br.no ?_; conv => whnf) | (refine Br.yes ?_; conv => whnf) | (refine Pick.draw rfl (by kernel_rfl) ?_; conv => whnf) | (refine Pick.drawM (by kernel_rfl) ?_; conv => whnf) | (refine CallC.r ?_; conv => whnf))
    · exact ResOK.same (by simp only [firstWrong, h, of_decide_eq_true h2, if_true, if_false])
    · exact ResOK.same (by simp only [firstWrong, h, of_decide_eq_false h2, if_false])

theorem s_spec_FirstWrong (xs : List Proof) (o : Enc.ok xs) : Sat Try.prog 35 [(false, Enc.enc xs)] (.tup [(false, [.c (.int .i64 (firstWrong xs).1)]), (false, [.c (.int .i64 (firstWrong xs).2)])], []) := by
  have hl : (xs.map (Enc.enc (α := Proof))).length = xs.length := by simp
  refine Sat.intro tok mixed Try.func35 rfl rfl ?_
  ((conv => whnf); repeat first | (refine Br.no ?_; conv => whnf) | (refine Br.yes ?_; conv => whnf) | (refine Pick.draw rfl (by kernel_rfl) ?_; conv => whnf) | (refine Pick.drawM (by kernel_rfl) ?_; conv => whnf) | (refine CallC.r ?_; conv => whnf))
  refine Br.mk (fun h => ?_) (fun h => ?_) <;> ((conv => whnf); repeat first | (refine Br.no ?_; conv => whnf) | (refine Br.yes ?_; conv => whnf) | (refine Pick.draw rfl (by kernel_rfl) ?_; conv => whnf) | (refine Pick.drawM (by kernel_rfl) ?_; conv => whnf) | (refine CallC.r ?_; conv => whnf))
  · exact ResOK.same (by rw [hl] at h; simp only [firstWrong, of_decide_eq_true h, if_true])
  · rw [hl] at h
    have h := of_decide_eq_false h
    refine Pick.mk [0, 4] trivial ?_
    ((conv => whnf); repeat first | (refine Br.no ?_; conv => whnf) | (refine Br.yes ?_; conv => whnf) | (refine Pick.draw rfl (by kernel_rfl) ?_; conv => whnf) | (refine Pick.drawM (by kernel_rfl) ?_; conv => whnf) | (refine CallC.r ?_; conv => whnf))
    refine LoopL.over (fun (i : Nat) => [(4, .one (.c (.int .i64 ((i : Int)))))]) (fun (i : Nat) => []) (fun (i : Nat) => xs.length - i) (fun (i : Nat) => i ≤ xs.length ∧ ∀ (j : Nat) (h : j < xs.length), j < i → wrongP xs[j] = false) ?_ 0 ⟨Nat.zero_le _, by intros; omega⟩
    intro i ⟨h2, h3⟩ ih
    ((conv => whnf); repeat first | (refine Br.no ?_; conv => whnf) | (refine Br.yes ?_; conv => whnf) | (refine Pick.draw rfl (by kernel_rfl) ?_; conv => whnf) | (refine Pick.drawM (by kernel_rfl) ?_; conv => whnf) | (refine CallC.r ?_; conv => whnf))
    refine Br.mk (fun h4 => ?_) (fun h4 => ?_) <;> ((conv => whnf); repeat first | (refine Br.no ?_; conv => whnf) | (refine Br.yes ?_; conv => whnf) | (refine Pick.draw rfl (by kernel_rfl) ?_; conv => whnf) | (refine Pick.drawM (by kernel_rfl) ?_; conv => whnf) | (refine CallC.r ?_; conv => whnf))
    · simp at h4
      refine Pick.ix (h4) ?_
      ((conv => whnf); repeat first | (refine Br.no ?_; conv => whnf) | (refine Br.yes ?_; conv => whnf) | (refine Pick.draw rfl (by kernel_rfl) ?_; conv => whnf) | (refine Pick.drawM (by kernel_rfl) ?_; conv => whnf) | (refine CallC.r ?_; conv => whnf))
      refine Pick.mk _ (s_l26Right xs[i] (o.2 _ (List.getElem_mem h4))) ?_
      ((conv => whnf); repeat first | (refine Br.no ?_; conv => whnf) | (refine Br.yes ?_; conv => whnf) | (refine Pick.draw rfl (by kernel_rfl) ?_; conv => whnf) | (refine Pick.drawM (by kernel_rfl) ?_; conv => whnf) | (refine CallC.r ?_; conv => whnf))
      refine Br.mk (fun h5 => ?_) (fun h5 => ?_) <;> ((conv => whnf); repeat first | (refine Br.no ?_; conv => whnf) | (refine Br.yes ?_; conv => whnf) | (refine Pick.draw rfl (by kernel_rfl) ?_; conv => whnf) | (refine Pick.drawM (by kernel_rfl) ?_; conv => whnf) | (refine CallC.r ?_; conv => whnf))
      · have e := firstIx_at (p := wrongP) (k := 0) h4 h5 h3
        rw [Nat.zero_add] at e
        exact ResOK.same (by simp only [firstWrong, h, if_false, e]; rw [if_neg (by omega)])
      · refine Pick.at64 (z := (i + 1 : Nat)) (by simp) (by omega) ?_
        ((conv => whnf); repeat first | (refine Br.no ?_; conv => whnf) | (refine Br.yes ?_; conv => whnf) | (refine Pick.draw rfl (by kernel_rfl) ?_; conv => whnf) | (refine Pick.drawM (by kernel_rfl) ?_; conv => whnf) | (refine CallC.r ?_; conv => whnf))
        refine ih (i + 1) ⟨by omega, fun j h1 h6 => ?_⟩ (by omega)
        by_cases hj : j < i
        · exact h3 j h1 hj
        · obtain rfl : j = i := by omega
          exact h5
    · simp at h4
      have e := firstIx_none (p := wrongP) (xs := xs) (k := 0) fun j h1 => h3 j h1 (by omega)
      exact ResOK.same (by simp only [firstWrong, h, if_false, e]; rfl)

/-! ### the rank that is proved -/
def rankProved (a b : Proof) : Int × Int := if wrongP a || (wrongP b || ((a.kind != 5) || (b.kind != 6))) then (0, 1) else if !sameMatrix a.claim b.claim || ((a.vectors.length : Int) != (b.vectors.length : Int)) then (0, 6) else ((a.vectors.length / 2 : Nat), 0)

theorem s_impl_RankProved (a b : Proof) (oa : Enc.ok a) (ob : Enc.ok b) : Sat Try.prog 33 [(true, Enc.enc a), (true, Enc.enc b)] (.tup [(false, [.c (.int .i64 (rankProved a b).1)]), (false, [.c (.int .i64 (rankProved a b).2)])], []) := by
  have hla : (a.vectors.map (Enc.enc (α := List Int))).length = a.vectors.length := by simp
  have hlb : (b.vectors.map (Enc.enc (α := List Int))).length = b.vectors.length := by simp
  have hz := oa.2.2.1
  simp only [maxLen] at hz
  have bad : (wrongP a || (wrongP b || ((a.kind != 5) || (b.kind != 6)))) = true → rankProved a b = (0, 1) := fun e => by simp only [rankProved, e, if_true]
  refine Sat.intro tok mixed Try.func33 rfl rfl ?_
  ((conv => whnf); repeat first | (refine Br.no ?_; conv => whnf) | (refine Br.yes ?_; conv => whnf) | (refine Pick.draw rfl (by kernel_rfl) ?_; conv => whnf) | (refine Pick.drawM (by kernel_rfl) ?_; conv => whnf) | (refine CallC.r ?_; conv => whnf))
  refine Pick.mk _ (s_impl_CheckProof a oa) ?_
  ((conv => whnf); repeat first | (refine Br.no ?_; conv => whnf) | (refine Br.yes ?_; conv => whnf) | (refine Pick.draw rfl (by kernel_rfl) ?_; conv => whnf) | (refine Pick.drawM (by kernel_rfl) ?_; conv => whnf) | (refine CallC.r ?_; conv => whnf))
  refine Br.mk (fun h1 => ?_) (fun h1 => ?_) <;> ((conv => whnf); repeat first | (refine Br.no ?_; conv => whnf) | (refine Br.yes ?_; conv => whnf) | (refine Pick.draw rfl (by kernel_rfl) ?_; conv => whnf) | (refine Pick.drawM (by kernel_rfl) ?_; conv => whnf) | (refine CallC.r ?_; conv => whnf))
  · exact ResOK.same (by rw [bad (by rw [show wrongP a = true from h1]; rfl)])
  refine Pick.mk _ (s_impl_CheckProof b ob) ?_
  ((conv => whnf); repeat first | (refine Br.no ?_; conv => whnf) | (refine Br.yes ?_; conv => whnf) | (refine Pick.draw rfl (by kernel_rfl) ?_; conv => whnf) | (refine Pick.drawM (by kernel_rfl) ?_; conv => whnf) | (refine CallC.r ?_; conv => whnf))
  refine Br.mk (fun h2 => ?_) (fun h2 => ?_) <;> ((conv => whnf); repeat first | (refine Br.no ?_; conv => whnf) | (refine Br.yes ?_; conv => whnf) | (refine Pick.draw rfl (by kernel_rfl) ?_; conv => whnf) | (refine Pick.drawM (by kernel_rfl) ?_; conv => whnf) | (refine CallC.r ?_; conv => whnf))
  · exact ResOK.same (by rw [bad (by rw [show wrongP b = true from h2]; simp)])
  refine Br.mk (fun h3 => ?_) (fun h3 => ?_) <;> ((conv => whnf); repeat first | (refine Br.no ?_; conv => whnf) | (refine Br.yes ?_; conv => whnf) | (refine Pick.draw rfl (by kernel_rfl) ?_; conv => whnf) | (refine Pick.drawM (by kernel_rfl) ?_; conv => whnf) | (refine CallC.r ?_; conv => whnf))
  · exact ResOK.same (by rw [bad (by rw [h3]; simp)])
  refine Br.mk (fun h4 => ?_) (fun h4 => ?_) <;> ((conv => whnf); repeat first | (refine Br.no ?_; conv => whnf) | (refine Br.yes ?_; conv => whnf) | (refine Pick.draw rfl (by kernel_rfl) ?_; conv => whnf) | (refine Pick.drawM (by kernel_rfl) ?_; conv => whnf) | (refine CallC.r ?_; conv => whnf))
  · exact ResOK.same (by rw [bad (by rw [h4]; simp)])
  have good : (wrongP a || (wrongP b || ((a.kind != 5) || (b.kind != 6)))) = false := by rw [show wrongP a = false from h1, show wrongP b = false from h2, h3, h4]; rfl
  refine Pick.mk _ (s_impl_SameMatrix a.claim b.claim oa.2.1) ?_
  ((conv => whnf); repeat first | (refine Br.no ?_; conv => whnf) | (refine Br.yes ?_; conv => whnf) | (refine Pick.draw rfl (by kernel_rfl) ?_; conv => whnf) | (refine Pick.drawM (by kernel_rfl) ?_; conv => whnf) | (refine CallC.r ?_; conv => whnf))
  refine Br.mk (fun h5 => ?_) (fun h5 => ?_) <;> ((conv => whnf); repeat first | (refine Br.no ?_; conv => whnf) | (refine Br.yes ?_; conv => whnf) | (refine Pick.draw rfl (by kernel_rfl) ?_; conv => whnf) | (refine Pick.drawM (by kernel_rfl) ?_; conv => whnf) | (refine CallC.r ?_; conv => whnf))
  · exact ResOK.same (by simp only [rankProved, good, h5, Bool.true_or, Bool.false_eq_true, if_true, if_false])
  refine Br.mk (fun h6 => ?_) (fun h6 => ?_) <;> ((conv => whnf); repeat first | (refine Br.no ?_; conv => whnf) | (refine Br.yes ?_; conv => whnf) | (refine Pick.draw rfl (by kernel_rfl) ?_; conv => whnf) | (refine Pick.drawM (by kernel_rfl) ?_; conv => whnf) | (refine CallC.r ?_; conv => whnf))
  · rw [hla, hlb] at h6
    exact ResOK.same (by simp only [rankProved, good, h5, h6, Bool.or_true, Bool.false_eq_true, if_true, if_false])
  rw [hla, hlb] at h6
  refine Pick.mk _ (s_sizeInts a.vectors) ?_
  ((conv => whnf); repeat first | (refine Br.no ?_; conv => whnf) | (refine Br.yes ?_; conv => whnf) | (refine Pick.draw rfl (by kernel_rfl) ?_; conv => whnf) | (refine Pick.drawM (by kernel_rfl) ?_; conv => whnf) | (refine CallC.r ?_; conv => whnf))
  refine Side.mk (by decide) ?_
  ((conv => whnf); repeat first | (refine Br.no ?_; conv => whnf) | (refine Br.yes ?_; conv => whnf) | (refine Pick.draw rfl (by kernel_rfl) ?_; conv => whnf) | (refine Pick.drawM (by kernel_rfl) ?_; conv => whnf) | (refine CallC.r ?_; conv => whnf))
  refine Pick.at64 (z := ((a.vectors.length / 2 : Nat) : Int)) (half _) (by omega) ?_
  ((conv => whnf); repeat first | (refine Br.no ?_; conv => whnf) | (refine Br.yes ?_; conv => whnf) | (refine Pick.draw rfl (by kernel_rfl) ?_; conv => whnf) | (refine Pick.drawM (by kernel_rfl) ?_; conv => whnf) | (refine CallC.r ?_; conv => whnf))
  exact ResOK.same (by simp only [rankProved, good, h5, h6, Bool.or_false, Bool.false_eq_true, if_false])

theorem s_spec_RankProved (a b : Proof) (oa : Enc.ok a) (ob : Enc.ok b) : Sat Try.prog 32 [(true, Enc.enc a), (true, Enc.enc b)] (.tup [(false, [.c (.int .i64 (rankProved a b).1)]), (false, [.c (.int .i64 (rankProved a b).2)])], []) := by
  have hla : (a.vectors.map (Enc.enc (α := List Int))).length = a.vectors.length := by simp
  have hlb : (b.vectors.map (Enc.enc (α := List Int))).length = b.vectors.length := by simp
  have hz := oa.2.2.1
  simp only [maxLen] at hz
  have bad : (wrongP a || (wrongP b || ((a.kind != 5) || (b.kind != 6)))) = true → rankProved a b = (0, 1) := fun e => by simp only [rankProved, e, if_true]
  refine Sat.intro tok mixed Try.func32 rfl rfl ?_
  ((conv => whnf); repeat first | (refine Br.no ?_; conv => whnf) | (refine Br.yes ?_; conv => whnf) | (refine Pick.draw rfl (by kernel_rfl) ?_; conv => whnf) | (refine Pick.drawM (by kernel_rfl) ?_; conv => whnf) | (refine CallC.r ?_; conv => whnf))
  refine Pick.mk _ (s_l26Right a oa) ?_
  ((conv => whnf); repeat first | (refine Br.no ?_; conv => whnf) | (refine Br.yes ?_; conv => whnf) | (refine Pick.draw rfl (by kernel_rfl) ?_; conv => whnf) | (refine Pick.drawM (by kernel_rfl) ?_; conv => whnf) | (refine CallC.r ?_; conv => whnf))
  refine Br.mk (fun h1 => ?_) (fun h1 => ?_) <;> ((conv => whnf); repeat first | (refine Br.no ?_; conv => whnf) | (refine Br.yes ?_; conv => whnf) | (refine Pick.draw rfl (by kernel_rfl) ?_; conv => whnf) | (refine Pick.drawM (by kernel_rfl) ?_; conv => whnf) | (refine CallC.r ?_; conv => whnf))
  · exact ResOK.same (by rw [bad (by rw [show wrongP a = true from h1]; rfl)])
  refine Pick.mk _ (s_l26Right b ob) ?_
  ((conv => whnf); repeat first | (refine Br.no ?_; conv => whnf) | (refine Br.yes ?_; conv => whnf) | (refine Pick.draw rfl (by kernel_rfl) ?_; conv => whnf) | (refine Pick.drawM (by kernel_rfl) ?_; conv => whnf) | (refine CallC.r ?_; conv => whnf))
  refine Br.mk (fun h2 => ?_) (fun h2 => ?_) <;> ((conv => whnf); repeat first | (refine Br.no ?_; conv => whnf) | (refine Br.yes ?_; conv => whnf) | (refine Pick.draw rfl (by kernel_rfl) ?_; conv => whnf) | (refine Pick.drawM (by kernel_rfl) ?_; conv => whnf) | (refine CallC.r ?_; conv => whnf))
  · exact ResOK.same (by rw [bad (by rw [show wrongP b = true from h2]; simp)])
  refine Br.mk (fun h3 => ?_) (fun h3 => ?_) <;> ((conv => whnf); repeat first | (refine Br.no ?_; conv => whnf) | (refine Br.yes ?_; conv => whnf) | (refine Pick.draw rfl (by kernel_rfl) ?_; conv => whnf) | (refine Pick.drawM (by kernel_rfl) ?_; conv => whnf) | (refine CallC.r ?_; conv => whnf))
  · exact ResOK.same (by rw [bad (by rw [h3]; simp)])
  refine Br.mk (fun h4 => ?_) (fun h4 => ?_) <;> ((conv => whnf); repeat first | (refine Br.no ?_; conv => whnf) | (refine Br.yes ?_; conv => whnf) | (refine Pick.draw rfl (by kernel_rfl) ?_; conv => whnf) | (refine Pick.drawM (by kernel_rfl) ?_; conv => whnf) | (refine CallC.r ?_; conv => whnf))
  · exact ResOK.same (by rw [bad (by rw [h4]; simp)])
  have good : (wrongP a || (wrongP b || ((a.kind != 5) || (b.kind != 6)))) = false := by rw [show wrongP a = false from h1, show wrongP b = false from h2, h3, h4]; rfl
  refine Pick.mk _ (s_spec_SameMatrix a.claim b.claim oa.2.1) ?_
  ((conv => whnf); repeat first | (refine Br.no ?_; conv => whnf) | (refine Br.yes ?_; conv => whnf) | (refine Pick.draw rfl (by kernel_rfl) ?_; conv => whnf) | (refine Pick.drawM (by kernel_rfl) ?_; conv => whnf) | (refine CallC.r ?_; conv => whnf))
  refine Br.mk (fun h5 => ?_) (fun h5 => ?_) <;> ((conv => whnf); repeat first | (refine Br.no ?_; conv => whnf) | (refine Br.yes ?_; conv => whnf) | (refine Pick.draw rfl (by kernel_rfl) ?_; conv => whnf) | (refine Pick.drawM (by kernel_rfl) ?_; conv => whnf) | (refine CallC.r ?_; conv => whnf))
  · exact ResOK.same (by simp only [rankProved, good, h5, Bool.true_or, Bool.false_eq_true, if_true, if_false])
  refine Br.mk (fun h6 => ?_) (fun h6 => ?_) <;> ((conv => whnf); repeat first | (refine Br.no ?_; conv => whnf) | (refine Br.yes ?_; conv => whnf) | (refine Pick.draw rfl (by kernel_rfl) ?_; conv => whnf) | (refine Pick.drawM (by kernel_rfl) ?_; conv => whnf) | (refine CallC.r ?_; conv => whnf))
  · rw [hla, hlb] at h6
    exact ResOK.same (by simp only [rankProved, good, h5, h6, Bool.or_true, Bool.false_eq_true, if_true, if_false])
  rw [hla, hlb] at h6
  refine Side.mk (by decide) ?_
  ((conv => whnf); repeat first | (refine Br.no ?_; conv => whnf) | (refine Br.yes ?_; conv => whnf) | (refine Pick.draw rfl (by kernel_rfl) ?_; conv => whnf) | (refine Pick.drawM (by kernel_rfl) ?_; conv => whnf) | (refine CallC.r ?_; conv => whnf))
  refine Pick.at64 (z := ((a.vectors.length / 2 : Nat) : Int)) (by rw [hla]; exact half _) (by omega) ?_
  ((conv => whnf); repeat first | (refine Br.no ?_; conv => whnf) | (refine Br.yes ?_; conv => whnf) | (refine Pick.draw rfl (by kernel_rfl) ?_; conv => whnf) | (refine Pick.drawM (by kernel_rfl) ?_; conv => whnf) | (refine CallC.r ?_; conv => whnf))
  exact ResOK.same (by simp only [rankProved, good, h5, h6, Bool.or_false, Bool.false_eq_true, if_false])

end Go.Proofs.Ytaplnfcnajpmgaa.Pi
