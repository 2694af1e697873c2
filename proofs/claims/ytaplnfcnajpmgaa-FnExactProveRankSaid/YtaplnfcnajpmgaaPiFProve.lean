/- Copies of matrices and lists; the proof that something other than 0 leads to 0. No statement of the seat is proved here. -/
import Derived.Test.YtaplnfcnajpmgaaPiFKernel
namespace Go.Proofs.Ytaplnfcnajpmgaa.Pi
open Go
set_option maxRecDepth 10000
set_option maxHeartbeats 3200000
set_option linter.unusedVariables false

theorem flat_int (xs : List Int) : flatRows (xs.map Enc.enc) := fun r hr c hc => by
  obtain ⟨x, _, rfl⟩ := List.mem_map.1 hr
  simp only [Enc.enc, List.mem_singleton] at hc
  subst hc; rfl
theorem s_copyMatrix (m : Matrix) (hb : m.cells.length ≤ 1048576) : Sat Try.prog 88 [(true, Enc.enc m)] (.agg [.c (.int .i64 m.prime), .c (.int .i64 m.rows), .c (.int .i64 m.columns), .rs 0], [(0, .arr 1 (m.cells.map Enc.enc))]) := by
  refine Sat.intro tok mixed Try.func88 rfl rfl ?_
  ((conv => whnf); repeat first | (refine Br.no ?_; conv => whnf) | (refine Br.yes ?_; conv => whnf) | (refine Pick.draw rfl (by kernel_rfl) ?_; conv => whnf) | (refine Pick.drawM (by kernel_rfl) ?_; conv => whnf) | (refine CallC.r ?_; conv => whnf))
  refine Pick.mk _ (s_CloneInt m.cells hb) ?_
  ((conv => whnf); repeat first | (refine Br.no ?_; conv => whnf) | (refine Br.yes ?_; conv => whnf) | (refine Pick.draw rfl (by kernel_rfl) ?_; conv => whnf) | (refine Pick.drawM (by kernel_rfl) ?_; conv => whnf) | (refine CallC.r ?_; conv => whnf))
  exact ResOK.same rfl
theorem s_l26Own (m : Matrix) (hb : m.cells.length ≤ 1048576) : Sat Try.prog 42 [(false, [.ptr 4 (Enc.enc m)])] (.agg [.c (.int .i64 m.prime), .c (.int .i64 m.rows), .c (.int .i64 m.columns), .rs 0], [(0, .arr 1 (m.cells.map Enc.enc))]) := by
  refine Sat.intro tok mixed Try.func42 rfl rfl ?_
  ((conv => whnf); repeat first | (refine Br.no ?_; conv => whnf) | (refine Br.yes ?_; conv => whnf) | (refine CallC.r ?_; conv => whnf))
  refine Pick.drawC 16 (by kernel_rfl) ?_
  ((conv => whnf); repeat first | (refine Br.no ?_; conv => whnf) | (refine Br.yes ?_; conv => whnf) | (refine Pick.draw rfl (by kernel_rfl) ?_; conv => whnf) | (refine Pick.drawM (by kernel_rfl) ?_; conv => whnf) | (refine CallC.r ?_; conv => whnf))
  refine Pick.mk _ (s_l00Own m.cells (by omega)) ?_
  ((conv => whnf); repeat first | (refine Br.no ?_; conv => whnf) | (refine Br.yes ?_; conv => whnf) | (refine Pick.draw rfl (by kernel_rfl) ?_; conv => whnf) | (refine Pick.drawM (by kernel_rfl) ?_; conv => whnf) | (refine CallC.r ?_; conv => whnf))
  exact ResOK.same rfl
theorem s_copyLists (xs : List (List Int)) (hb : xs.length ≤ 1048576) (hl : ∀ x ∈ xs, x.length ≤ 1048576) : Sat Try.prog 89 [(false, Enc.enc xs)] (.one (.ds 0), [(0, .deep true 1 (xs.map Enc.enc))]) := by
  have hlx : (xs.map (Enc.enc (α := List Int))).length = xs.length := by simp
  refine Sat.intro tok mixed Try.func89 rfl rfl ?_
  ((conv => whnf); repeat first | (refine Br.no ?_; conv => whnf) | (refine Br.yes ?_; conv => whnf) | (refine Pick.draw rfl (by kernel_rfl) ?_; conv => whnf) | (refine Pick.drawM (by kernel_rfl) ?_; conv => whnf) | (refine CallC.r ?_; conv => whnf))
  refine Pick.mk [3, 6, 7, 8, 2000192] trivial ?_
  ((conv => whnf); repeat first | (refine Br.no ?_; conv => whnf) | (refine Br.yes ?_; conv => whnf) | (refine Pick.draw rfl (by kernel_rfl) ?_; conv => whnf) | (refine Pick.drawM (by kernel_rfl) ?_; conv => whnf) | (refine CallC.r ?_; conv => whnf))
  refine Side.mk (by simp [flatRows]) ?_
  ((conv => whnf); repeat first | (refine Br.no ?_; conv => whnf) | (refine Br.yes ?_; conv => whnf) | (refine Pick.draw rfl (by kernel_rfl) ?_; conv => whnf) | (refine Pick.drawM (by kernel_rfl) ?_; conv => whnf) | (refine CallC.r ?_; conv => whnf))
  refine LoopL.over (fun i : Nat => [(8, .one (.c (.int .i64 (i : Int))))]) (fun i => [(192, .deep true 1 ((xs.take i).map Enc.enc))]) (fun i => xs.length - i) (fun i => i ≤ xs.length) ?_ 0 (Nat.zero_le _)
  intro i hi ih
  ((conv => whnf); repeat first | (refine Br.no ?_; conv => whnf) | (refine Br.yes ?_; conv => whnf) | (refine Pick.draw rfl (by kernel_rfl) ?_; conv => whnf) | (refine Pick.drawM (by kernel_rfl) ?_; conv => whnf) | (refine CallC.r ?_; conv => whnf))
  refine Br.mk (fun h => ?_) (fun h => ?_) <;> ((conv => whnf); repeat first | (refine Br.no ?_; conv => whnf) | (refine Br.yes ?_; conv => whnf) | (refine Pick.draw rfl (by kernel_rfl) ?_; conv => whnf) | (refine Pick.drawM (by kernel_rfl) ?_; conv => whnf) | (refine CallC.r ?_; conv => whnf))
  · simp at h
    refine Pick.ix (h) ?_
    ((conv => whnf); repeat first | (refine Br.no ?_; conv => whnf) | (refine Br.yes ?_; conv => whnf) | (refine Pick.draw rfl (by kernel_rfl) ?_; conv => whnf) | (refine Pick.drawM (by kernel_rfl) ?_; conv => whnf) | (refine CallC.r ?_; conv => whnf))
    refine Pick.mk _ (s_CloneInt xs[i] (hl _ (List.getElem_mem h))) ?_
    ((conv => whnf); repeat first | (refine Br.no ?_; conv => whnf) | (refine Br.yes ?_; conv => whnf) | (refine Pick.draw rfl (by kernel_rfl) ?_; conv => whnf) | (refine Pick.drawM (by kernel_rfl) ?_; conv => whnf) | (refine CallC.r ?_; conv => whnf))
    refine Pick.mk true trivial ?_
    ((conv => whnf); repeat first | (refine Br.no ?_; conv => whnf) | (refine Br.yes ?_; conv => whnf) | (refine Pick.draw rfl (by kernel_rfl) ?_; conv => whnf) | (refine Pick.drawM (by kernel_rfl) ?_; conv => whnf) | (refine CallC.r ?_; conv => whnf))
    refine Side.mk (flat_int xs[i]) ?_
    ((conv => whnf); repeat first | (refine Br.no ?_; conv => whnf) | (refine Br.yes ?_; conv => whnf) | (refine Pick.draw rfl (by kernel_rfl) ?_; conv => whnf) | (refine Pick.drawM (by kernel_rfl) ?_; conv => whnf) | (refine CallC.r ?_; conv => whnf))
    refine Side.mk (by simp; omega) ?_
    ((conv => whnf); repeat first | (refine Br.no ?_; conv => whnf) | (refine Br.yes ?_; conv => whnf) | (refine Pick.draw rfl (by kernel_rfl) ?_; conv => whnf) | (refine Pick.drawM (by kernel_rfl) ?_; conv => whnf) | (refine CallC.r ?_; conv => whnf))
    refine Pick.at64 (z := (i + 1 : Nat)) (by simp) (by omega) ?_
    ((conv => whnf); repeat first | (refine Br.no ?_; conv => whnf) | (refine Br.yes ?_; conv => whnf) | (refine Pick.draw rfl (by kernel_rfl) ?_; conv => whnf) | (refine Pick.drawM (by kernel_rfl) ?_; conv => whnf) | (refine CallC.r ?_; conv => whnf))
    have hn := ih (i + 1) (by omega) (by omega)
    rw [List.take_add_one, List.getElem?_eq_getElem h, List.map_append] at hn
    exact hn
  · simp at h
    obtain rfl : i = xs.length := by omega
    rw [List.take_length]
    exact ResOK.same rfl

theorem s_proofOf (kind : Int) (m : Matrix) (vs : List (List Int)) (hb : m.cells.length ≤ 1048576) (hv : vs.length ≤ 1048576) (hl : ∀ x ∈ vs, x.length ≤ 1048576) : Sat Try.prog 46 [(false, [.int .i64 kind]), (true, Enc.enc m), (false, Enc.enc vs)] (.agg [.c (.int .i64 kind), .c (.int .i64 m.prime), .c (.int .i64 m.rows), .c (.int .i64 m.columns), .rs 0, .ds 1], [(0, .arr 1 (m.cells.map Enc.enc)), (1, .deep true 1 (vs.map Enc.enc))]) := by
  refine Sat.intro tok mixed Try.func46 rfl rfl ?_
  ((conv => whnf); repeat first | (refine Br.no ?_; conv => whnf) | (refine Br.yes ?_; conv => whnf) | (refine Pick.draw rfl (by kernel_rfl) ?_; conv => whnf) | (refine Pick.drawM (by kernel_rfl) ?_; conv => whnf) | (refine CallC.r ?_; conv => whnf))
  refine Pick.mk _ (s_copyMatrix m hb) ?_
  ((conv => whnf); repeat first | (refine Br.no ?_; conv => whnf) | (refine Br.yes ?_; conv => whnf) | (refine Pick.draw rfl (by kernel_rfl) ?_; conv => whnf) | (refine Pick.drawM (by kernel_rfl) ?_; conv => whnf) | (refine CallC.r ?_; conv => whnf))
  refine Pick.mk _ (s_copyLists vs hv hl) ?_
  ((conv => whnf); repeat first | (refine Br.no ?_; conv => whnf) | (refine Br.yes ?_; conv => whnf) | (refine Pick.draw rfl (by kernel_rfl) ?_; conv => whnf) | (refine Pick.drawM (by kernel_rfl) ?_; conv => whnf) | (refine CallC.r ?_; conv => whnf))
  exact ResOK.same rfl

def zeroP : Proof := ⟨0, ⟨0, 0, 0, []⟩, []⟩
/-- A proof in memory of its own, and a code. -/
def prRes (q : Proof × Int) : Res := (.tup [(true, [.c (.int .i64 q.1.kind), .c (.int .i64 q.1.claim.prime), .c (.int .i64 q.1.claim.rows), .c (.int .i64 q.1.claim.columns), .ds 0, .ds 1]), (false, [.c (.int .i64 q.2)])], [(0, .deep true 1 (q.1.claim.cells.map Enc.enc)), (1, .deep true 1 (q.1.vectors.map Enc.enc))])
/-- A proof that is not written to, and a code. -/
def prPure (q : Proof × Int) : Res := (.tup [(true, (Enc.enc q.1).map .c), (false, [.c (.int .i64 q.2)])], [])

theorem pr_zero {q : Proof × Int} {c : Int} (h : q = (zeroP, c)) : ResOK (.tup [(true, [.c (.int .i64 0), .c (.int .i64 0), .c (.int .i64 0), .c (.int .i64 0), .nil 1, .nil 1]), (false, [.c (.int .i64 c)])], []) (prRes q) := by
  subst h; exact ResOK.own rfl trivial
theorem pr_zeroS {q : Proof × Int} {c : Int} (h : q = (zeroP, c)) : ResOK (.tup [(true, [.c (.int .i64 0), .c (.int .i64 0), .c (.int .i64 0), .c (.int .i64 0), .nil 1, .nil 1]), (false, [.c (.int .i64 c)])], []) (prPure q) := by
  subst h; exact ResOK.frz rfl rfl

def kerOf (m : Matrix) : List (List Int) := kerUp m.prime (elimF m.prime m.rows.toNat (cellAt m) m.columns.toNat) m.columns.toNat m.columns.toNat
def proveK (m : Matrix) : Proof × Int := if okMatrix m then (match kerOf m with | [] => (zeroP, 3) | x :: _ => (⟨3, m, [x]⟩, 0)) else (zeroP, 1)
theorem proveK_bad {m : Matrix} (h : okMatrix m = false) : proveK m = (zeroP, 1) := by simp [proveK, h]
theorem proveK_none {m : Matrix} (h : okMatrix m = true) (h2 : kerOf m = []) : proveK m = (zeroP, 3) := by simp [proveK, h, h2]
theorem proveK_some {m : Matrix} (h : okMatrix m = true) {x : List Int} {l : List (List Int)} (h2 : kerOf m = x :: l) : proveK m = (⟨3, m, [x]⟩, 0) := by simp [proveK, h, h2]
theorem kerUp_mem {p : Int} {s : ES} {w : Nat} : ∀ {n : Nat} {x : List Int}, x ∈ kerUp p s w n → x.length = w
  | 0, x, h => by simp [kerUp] at h
  | n + 1, x, h => by
    unfold kerUp at h
    split at h
    · exact kerUp_mem h
    · rcases List.mem_append.1 h with h | h
      · exact kerUp_mem h
      · simp only [List.mem_singleton] at h
        rw [h, kerV_len]

theorem cells_le {m : Matrix} {r w : Nat} (ok : MatOK m r w) : m.cells.length ≤ 16777216 := by rw [ok.len]; exact ok.rc
theorem cells_small {m : Matrix} (h : okMatrix m = true) : m.cells.length ≤ 1024 := by
  obtain ⟨_, h1, h2⟩ := okMatrix_of h
  have h3 := (mat_of h).len
  have : m.rows.toNat * m.columns.toNat ≤ 32 * 32 := Nat.mul_le_mul (by omega) (by omega)
  omega

theorem s_impl_ProveKernel (m : Matrix) (o : Enc.ok m) : Sat Try.prog 13 [(true, Enc.enc m)] (prRes (proveK m)) := by
  refine Sat.intro tok mixed Try.func13 rfl rfl ?_
  ((conv => whnf); repeat first | (refine Br.no ?_; conv => whnf) | (refine Br.yes ?_; conv => whnf) | (refine Pick.draw rfl (by kernel_rfl) ?_; conv => whnf) | (refine Pick.drawM (by kernel_rfl) ?_; conv => whnf) | (refine CallC.r ?_; conv => whnf))
  refine Pick.mk _ (s_impl_ValidMatrix m o) ?_
  ((conv => whnf); repeat first | (refine Br.no ?_; conv => whnf) | (refine Br.yes ?_; conv => whnf) | (refine Pick.draw rfl (by kernel_rfl) ?_; conv => whnf) | (refine Pick.drawM (by kernel_rfl) ?_; conv => whnf) | (refine CallC.r ?_; conv => whnf))
  refine Br.mk (fun h => ?_) (fun h => ?_) <;> ((conv => whnf); repeat first | (refine Br.no ?_; conv => whnf) | (refine Br.yes ?_; conv => whnf) | (refine Pick.draw rfl (by kernel_rfl) ?_; conv => whnf) | (refine Pick.drawM (by kernel_rfl) ?_; conv => whnf) | (refine CallC.r ?_; conv => whnf))
  · simp at h
    exact pr_zero (proveK_bad h)
  · simp at h
    have ok := mat_of h
    have hc := cells_small h
    have hcb := ok.cb
    refine Pick.mk _ (show Sat _ _ _ (.one (.rs 0), [(0, .arr 1 ((kerOf m).map Enc.enc))]) from s_kernel m ok) ?_
    ((conv => whnf); repeat first | (refine Br.no ?_; conv => whnf) | (refine Br.yes ?_; conv => whnf) | (refine Pick.draw rfl (by kernel_rfl) ?_; conv => whnf) | (refine Pick.drawM (by kernel_rfl) ?_; conv => whnf) | (refine CallC.r ?_; conv => whnf))
    refine Br.mk (fun h2 => ?_) (fun h2 => ?_) <;> ((conv => whnf); repeat first | (refine Br.no ?_; conv => whnf) | (refine Br.yes ?_; conv => whnf) | (refine Pick.draw rfl (by kernel_rfl) ?_; conv => whnf) | (refine Pick.drawM (by kernel_rfl) ?_; conv => whnf) | (refine CallC.r ?_; conv => whnf))
    · have e : kerOf m = [] := by simpa using h2
      exact pr_zero (proveK_none h e)
    · obtain ⟨x, l, e⟩ : ∃ x l, kerOf m = x :: l := by
        cases hk : kerOf m with
        | nil => rw [hk] at h2; simp at h2
        | cons x l => exact ⟨x, l, rfl⟩
      have hx : x.length = m.columns.toNat := kerUp_mem (p := m.prime) (s := elimF m.prime m.rows.toNat (cellAt m) m.columns.toNat) (n := m.columns.toNat) (show x ∈ kerOf m from e ▸ List.mem_cons_self ..)
      rw [e]
      refine Side.mk (by simp <;> omega) ?_
      ((conv => whnf); repeat first | (refine Br.no ?_; conv => whnf) | (refine Br.yes ?_; conv => whnf) | (refine Pick.draw rfl (by kernel_rfl) ?_; conv => whnf) | (refine Pick.drawM (by kernel_rfl) ?_; conv => whnf) | (refine CallC.r ?_; conv => whnf))
      refine Pick.mk (Enc.enc x) rfl ?_
      ((conv => whnf); repeat first | (refine Br.no ?_; conv => whnf) | (refine Br.yes ?_; conv => whnf) | (refine Pick.draw rfl (by kernel_rfl) ?_; conv => whnf) | (refine Pick.drawM (by kernel_rfl) ?_; conv => whnf) | (refine CallC.r ?_; conv => whnf))
      refine Pick.mk _ (s_proofOf 3 m [x] (by omega) (by simp) (fun y hy => by simp at hy; subst hy; omega)) ?_
      ((conv => whnf); repeat first | (refine Br.no ?_; conv => whnf) | (refine Br.yes ?_; conv => whnf) | (refine Pick.draw rfl (by kernel_rfl) ?_; conv => whnf) | (refine Pick.drawM (by kernel_rfl) ?_; conv => whnf) | (refine CallC.r ?_; conv => whnf))
      refine ResOK.own ?_ ⟨flat_int _, trivial⟩
      rw [proveK_some h e]
      rfl

theorem s_l26OwnD (m : Matrix) (hb : m.cells.length ≤ 1048576) : Sat Try.prog 42 [(false, [.ptr 4 (Enc.enc m)])] (.agg [.c (.int .i64 m.prime), .c (.int .i64 m.rows), .c (.int .i64 m.columns), .ds 0], [(0, .deep true 1 (m.cells.map Enc.enc))]) := by
  refine Sat.intro tok mixed Try.func42 rfl rfl ?_
  ((conv => whnf); repeat first | (refine Br.no ?_; conv => whnf) | (refine Br.yes ?_; conv => whnf) | (refine CallC.r ?_; conv => whnf))
  refine Pick.drawC 16 (by kernel_rfl) ?_
  ((conv => whnf); repeat first | (refine Br.no ?_; conv => whnf) | (refine Br.yes ?_; conv => whnf) | (refine Pick.draw rfl (by kernel_rfl) ?_; conv => whnf) | (refine Pick.drawM (by kernel_rfl) ?_; conv => whnf) | (refine CallC.r ?_; conv => whnf))
  refine Pick.mk _ (s_l00Own m.cells (by omega)) ?_
  ((conv => whnf); repeat first | (refine Br.no ?_; conv => whnf) | (refine Br.yes ?_; conv => whnf) | (refine Pick.draw rfl (by kernel_rfl) ?_; conv => whnf) | (refine Pick.drawM (by kernel_rfl) ?_; conv => whnf) | (refine CallC.r ?_; conv => whnf))
  exact ResOK.deep rfl ⟨flat_int _, trivial⟩

theorem s_spec_ProveKernel (m : Matrix) (o : Enc.ok m) : Sat Try.prog 11 [(true, Enc.enc m)] (prPure (proveK m)) := by
  refine Sat.intro tok mixed Try.func11 rfl rfl ?_
  ((conv => whnf); repeat first | (refine Br.no ?_; conv => whnf) | (refine Br.yes ?_; conv => whnf) | (refine Pick.draw rfl (by kernel_rfl) ?_; conv => whnf) | (refine Pick.drawM (by kernel_rfl) ?_; conv => whnf) | (refine CallC.r ?_; conv => whnf))
  refine Pick.mk _ (s_l03Ok m o) ?_
  ((conv => whnf); repeat first | (refine Br.no ?_; conv => whnf) | (refine Br.yes ?_; conv => whnf) | (refine Pick.draw rfl (by kernel_rfl) ?_; conv => whnf) | (refine Pick.drawM (by kernel_rfl) ?_; conv => whnf) | (refine CallC.r ?_; conv => whnf))
  refine Br.mk (fun h => ?_) (fun h => ?_) <;> ((conv => whnf); repeat first | (refine Br.no ?_; conv => whnf) | (refine Br.yes ?_; conv => whnf) | (refine Pick.draw rfl (by kernel_rfl) ?_; conv => whnf) | (refine Pick.drawM (by kernel_rfl) ?_; conv => whnf) | (refine CallC.r ?_; conv => whnf))
  · simp at h
    exact pr_zeroS (proveK_bad h)
  · simp at h
    have ok := mat_of h
    have hc := cells_small h
    have hcb := ok.cb
    refine Pick.mk _ (show Sat _ _ _ (.one (.rs 0), [(0, .arr 1 ((kerOf m).map Enc.enc))]) from s_l03Kernel m ok) ?_
    ((conv => whnf); repeat first | (refine Br.no ?_; conv => whnf) | (refine Br.yes ?_; conv => whnf) | (refine Pick.draw rfl (by kernel_rfl) ?_; conv => whnf) | (refine Pick.drawM (by kernel_rfl) ?_; conv => whnf) | (refine CallC.r ?_; conv => whnf))
    refine Br.mk (fun h2 => ?_) (fun h2 => ?_) <;> ((conv => whnf); repeat first | (refine Br.no ?_; conv => whnf) | (refine Br.yes ?_; conv => whnf) | (refine Pick.draw rfl (by kernel_rfl) ?_; conv => whnf) | (refine Pick.drawM (by kernel_rfl) ?_; conv => whnf) | (refine CallC.r ?_; conv => whnf))
    · have e : kerOf m = [] := by simpa using h2
      exact pr_zeroS (proveK_none h e)
    · obtain ⟨x, l, e⟩ : ∃ x l, kerOf m = x :: l := by
        cases hk : kerOf m with
        | nil => rw [hk] at h2; simp at h2
        | cons x l => exact ⟨x, l, rfl⟩
      have hx : x.length = m.columns.toNat := kerUp_mem (p := m.prime) (s := elimF m.prime m.rows.toNat (cellAt m) m.columns.toNat) (n := m.columns.toNat) (show x ∈ kerOf m from e ▸ List.mem_cons_self ..)
      rw [e]
      refine Pick.mk _ (s_l26OwnD m (by omega)) ?_
      ((conv => whnf); repeat first | (refine Br.no ?_; conv => whnf) | (refine Br.yes ?_; conv => whnf) | (refine Pick.draw rfl (by kernel_rfl) ?_; conv => whnf) | (refine Pick.drawM (by kernel_rfl) ?_; conv => whnf) | (refine CallC.r ?_; conv => whnf))
      refine Side.mk (by simp <;> omega) ?_
      ((conv => whnf); repeat first | (refine Br.no ?_; conv => whnf) | (refine Br.yes ?_; conv => whnf) | (refine Pick.draw rfl (by kernel_rfl) ?_; conv => whnf) | (refine Pick.drawM (by kernel_rfl) ?_; conv => whnf) | (refine CallC.r ?_; conv => whnf))
      refine Pick.mk (Enc.enc x) rfl ?_
      ((conv => whnf); repeat first | (refine Br.no ?_; conv => whnf) | (refine Br.yes ?_; conv => whnf) | (refine Pick.draw rfl (by kernel_rfl) ?_; conv => whnf) | (refine Pick.drawM (by kernel_rfl) ?_; conv => whnf) | (refine CallC.r ?_; conv => whnf))
      refine Pick.mk _ (s_l00Own x (by omega)) ?_
      ((conv => whnf); repeat first | (refine Br.no ?_; conv => whnf) | (refine Br.yes ?_; conv => whnf) | (refine Pick.draw rfl (by kernel_rfl) ?_; conv => whnf) | (refine Pick.drawM (by kernel_rfl) ?_; conv => whnf) | (refine CallC.r ?_; conv => whnf))
      refine ResOK.frz ?_ rfl
      rw [proveK_some h e]
      rfl
end Go.Proofs.Ytaplnfcnajpmgaa.Pi
