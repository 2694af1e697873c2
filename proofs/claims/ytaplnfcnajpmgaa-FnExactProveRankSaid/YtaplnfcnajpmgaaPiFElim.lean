/- Elimination: the program and the reference. No statement of the seat is proved here. -/
import Derived.Test.YtaplnfcnajpmgaaPiElim
import Derived.Test.YtaplnfcnajpmgaaPiFMat2
namespace Go.Proofs.Ytaplnfcnajpmgaa.Pi
open Go
set_option maxRecDepth 10000
set_option maxHeartbeats 1600000
set_option linter.unusedVariables false

/-- a plus c times b. -/
def addT (p : Int) (a b : List Int) (c : Int) : List Int := (List.range a.length).map fun k => (a.getD k 0 + c * b.getD k 0) % p
theorem mul_bound' {a b : Int} (ha : 0 ≤ a ∧ a ≤ 251) (hb : 0 ≤ b ∧ b ≤ 251) : 0 ≤ a * b ∧ a * b ≤ 63001 := by
  refine ⟨Int.mul_nonneg ha.1 hb.1, ?_⟩
  have h1 : a * b ≤ 251 * b := Int.mul_le_mul_of_nonneg_right ha.2 hb.1
  omega
theorem s_addTimes (a b : List Int) (c p : Int) (es : List (List CV)) (hes : es = a.map Enc.enc) (ha : El p a) (hb : El p b) (hp : 2 ≤ p ∧ p ≤ 251) (hc : 0 ≤ c ∧ c ≤ p) (hl : a.length = b.length) (hbb : a.length ≤ 1048576) : Sat Try.prog 101 [(false, [.slice 1 es]), (false, Enc.enc b), (false, [.int .i64 c]), (false, [.int .i64 p])] (.one (.rs 0), [(0, .arr 1 ((addT p a b c).map Enc.enc))]) := by
  subst hes
  have hla : (a.map (Enc.enc (α := Int))).length = a.length := by simp
  refine Sat.intro tok mixed Try.func101 rfl rfl ?_
  ((conv => whnf); repeat first | (refine Br.no ?_; conv => whnf) | (refine Br.yes ?_; conv => whnf) | (refine Pick.draw rfl (by kernel_rfl) ?_; conv => whnf) | (refine Pick.drawM (by kernel_rfl) ?_; conv => whnf) | (refine CallC.r ?_; conv => whnf))
  refine Pick.mk [0, 1, 2, 3, 9, 12, 13] trivial ?_
  ((conv => whnf); repeat first | (refine Br.no ?_; conv => whnf) | (refine Br.yes ?_; conv => whnf) | (refine Pick.draw rfl (by kernel_rfl) ?_; conv => whnf) | (refine Pick.drawM (by kernel_rfl) ?_; conv => whnf) | (refine CallC.r ?_; conv => whnf))
  refine LoopL.over (fun (k : Nat) => [(13, .one (.c (.int .i64 ((k : Int)))))]) (fun (k : Nat) => [(576, .arr 1 (List.map Enc.enc ((List.range k).map fun k => (a.getD k 0 + c * b.getD k 0) % p)))]) (fun (k : Nat) => a.length - k) (fun (k : Nat) => k ≤ a.length) ?_ 0 (Nat.zero_le _)
  intro k hk ih
  ((conv => whnf); repeat first | (refine Br.no ?_; conv => whnf) | (refine Br.yes ?_; conv => whnf) | (refine Pick.draw rfl (by kernel_rfl) ?_; conv => whnf) | (refine Pick.drawM (by kernel_rfl) ?_; conv => whnf) | (refine CallC.r ?_; conv => whnf))
  refine Br.mk (fun h => ?_) (fun h => ?_) <;> ((conv => whnf); repeat first | (refine Br.no ?_; conv => whnf) | (refine Br.yes ?_; conv => whnf) | (refine Pick.draw rfl (by kernel_rfl) ?_; conv => whnf) | (refine Pick.drawM (by kernel_rfl) ?_; conv => whnf) | (refine CallC.r ?_; conv => whnf))
  · simp at h
    have hky : k < b.length := by omega
    have h1 := ha.at k h
    have h2 := hb.at k hky
    have hm := mul_bound' (a := c) (b := b[k]) (by omega) (by omega)
    refine Pick.ix (h) ?_
    ((conv => whnf); repeat first | (refine Br.no ?_; conv => whnf) | (refine Br.yes ?_; conv => whnf) | (refine Pick.draw rfl (by kernel_rfl) ?_; conv => whnf) | (refine Pick.drawM (by kernel_rfl) ?_; conv => whnf) | (refine CallC.r ?_; conv => whnf))
    refine Pick.ix (hky) ?_
    ((conv => whnf); repeat first | (refine Br.no ?_; conv => whnf) | (refine Br.yes ?_; conv => whnf) | (refine Pick.draw rfl (by kernel_rfl) ?_; conv => whnf) | (refine Pick.drawM (by kernel_rfl) ?_; conv => whnf) | (refine CallC.r ?_; conv => whnf))
    refine Pick.w64 (by omega) ?_
    ((conv => whnf); repeat first | (refine Br.no ?_; conv => whnf) | (refine Br.yes ?_; conv => whnf) | (refine Pick.draw rfl (by kernel_rfl) ?_; conv => whnf) | (refine Pick.drawM (by kernel_rfl) ?_; conv => whnf) | (refine CallC.r ?_; conv => whnf))
    refine Pick.w64 (by omega) ?_
    ((conv => whnf); repeat first | (refine Br.no ?_; conv => whnf) | (refine Br.yes ?_; conv => whnf) | (refine Pick.draw rfl (by kernel_rfl) ?_; conv => whnf) | (refine Pick.drawM (by kernel_rfl) ?_; conv => whnf) | (refine CallC.r ?_; conv => whnf))
    refine Side.mk (by omega) ?_
    ((conv => whnf); repeat first | (refine Br.no ?_; conv => whnf) | (refine Br.yes ?_; conv => whnf) | (refine Pick.draw rfl (by kernel_rfl) ?_; conv => whnf) | (refine Pick.drawM (by kernel_rfl) ?_; conv => whnf) | (refine CallC.r ?_; conv => whnf))
    refine Side.mk (by simp only [List.length_map, List.length_range, List.length_cons, List.length_nil]; omega) ?_
    ((conv => whnf); repeat first | (refine Br.no ?_; conv => whnf) | (refine Br.yes ?_; conv => whnf) | (refine Pick.draw rfl (by kernel_rfl) ?_; conv => whnf) | (refine Pick.drawM (by kernel_rfl) ?_; conv => whnf) | (refine CallC.r ?_; conv => whnf))
    refine Pick.at64 (z := (k + 1 : Nat)) (by simp) (by omega) ?_
    ((conv => whnf); repeat first | (refine Br.no ?_; conv => whnf) | (refine Br.yes ?_; conv => whnf) | (refine Pick.draw rfl (by kernel_rfl) ?_; conv => whnf) | (refine Pick.drawM (by kernel_rfl) ?_; conv => whnf) | (refine CallC.r ?_; conv => whnf))
    have hn := ih (k + 1) (by omega) (by omega)
    rw [List.range_succ, List.map_append, List.map_append] at hn
    have e : (a[k] + c * b[k]).tmod p = (a.getD k 0 + c * b.getD k 0) % p := by
      rw [Int.tmod_eq_emod_of_nonneg (by omega), getD_lt _ _ h, getD_lt _ _ hky]
    rw [e]
    exact hn
  · simp at h
    obtain rfl : k = a.length := by omega
    exact ResOK.same rfl

theorem s_powerOf (a p : Int) (n : Nat) (hp : 2 ≤ p ∧ p ≤ 251) (ha : 0 ≤ a ∧ a < p) (hn : n ≤ 100000) : Sat Try.prog 131 [(false, [.int .i64 a]), (false, [.int .i64 n]), (false, [.int .i64 p])] (.one (.c (.int .i64 (pw a p n))), []) := by
  refine Sat.intro tok mixed Try.func131 rfl rfl ?_
  ((conv => whnf); repeat first | (refine Br.no ?_; conv => whnf) | (refine Br.yes ?_; conv => whnf) | (refine Pick.draw rfl (by kernel_rfl) ?_; conv => whnf) | (refine Pick.drawM (by kernel_rfl) ?_; conv => whnf) | (refine CallC.r ?_; conv => whnf))
  refine Pick.mk [0, 1, 2, 7] trivial ?_
  ((conv => whnf); repeat first | (refine Br.no ?_; conv => whnf) | (refine Br.yes ?_; conv => whnf) | (refine Pick.draw rfl (by kernel_rfl) ?_; conv => whnf) | (refine Pick.drawM (by kernel_rfl) ?_; conv => whnf) | (refine CallC.r ?_; conv => whnf))
  refine LoopL.over (fun (x : Int × Nat × Int) => [(0, .one (.c (.int .i64 (x.1)))), (1, .one (.c (.int .i64 ((x.2.1 : Int))))), (7, .one (.c (.int .i64 (x.2.2))))]) (fun (x : Int × Nat × Int) => []) (fun (x : Int × Nat × Int) => x.2.1) (fun (x : Int × Nat × Int) => (0 ≤ x.1 ∧ x.1 < p) ∧ x.2.1 ≤ n ∧ (0 ≤ x.2.2 ∧ x.2.2 < p) ∧ x.2.2 * x.1 ^ x.2.1 % p = pw a p n) ?_ (a, n, 1) ⟨ha, Nat.le_refl _, ⟨by show (0 : Int) ≤ 1; omega, by show (1 : Int) < p; omega⟩, by rw [Int.one_mul]; rfl⟩
  intro ⟨b, m, x⟩ ⟨hb, hm, hx, hinv⟩ ih
  simp only at hb hm hx hinv ih ⊢
  have h1 := mul_bound' (a := x) (b := b) (by omega) (by omega)
  have h2 := mul_bound' (a := b) (b := b) (by omega) (by omega)
  have hq : ((m : Nat) : Int).tdiv 2 = ((m / 2 : Nat) : Int) := by rw [Int.tdiv_eq_ediv_of_nonneg (by omega)]; rfl
  have he : (x * b).tmod p = x * b % p := Int.tmod_eq_emod_of_nonneg (by omega)
  have he2 : (b * b).tmod p = b * b % p := Int.tmod_eq_emod_of_nonneg (by omega)
  have hr := mod_el (a := b * b) (p := p) hp.1
  have hr2 := mod_el (a := x * b) (p := p) hp.1
  ((conv => whnf); repeat first | (refine Br.no ?_; conv => whnf) | (refine Br.yes ?_; conv => whnf) | (refine Pick.draw rfl (by kernel_rfl) ?_; conv => whnf) | (refine Pick.drawM (by kernel_rfl) ?_; conv => whnf) | (refine CallC.r ?_; conv => whnf))
  refine Br.mk (fun h => ?_) (fun h => ?_) <;> ((conv => whnf); repeat first | (refine Br.no ?_; conv => whnf) | (refine Br.yes ?_; conv => whnf) | (refine Pick.draw rfl (by kernel_rfl) ?_; conv => whnf) | (refine Pick.drawM (by kernel_rfl) ?_; conv => whnf) | (refine CallC.r ?_; conv => whnf))
  · simp at h
    refine Side.mk (by omega) ?_
    ((conv => whnf); repeat first | (refine Br.no ?_; conv => whnf) | (refine Br.yes ?_; conv => whnf) | (refine Pick.draw rfl (by kernel_rfl) ?_; conv => whnf) | (refine Pick.drawM (by kernel_rfl) ?_; conv => whnf) | (refine CallC.r ?_; conv => whnf))
    refine Br.mk (fun h3 => ?_) (fun h3 => ?_) <;> ((conv => whnf); repeat first | (refine Br.no ?_; conv => whnf) | (refine Br.yes ?_; conv => whnf) | (refine Pick.draw rfl (by kernel_rfl) ?_; conv => whnf) | (refine Pick.drawM (by kernel_rfl) ?_; conv => whnf) | (refine CallC.r ?_; conv => whnf))
    · simp at h3
      rw [Int.tmod_eq_emod_of_nonneg (by omega)] at h3
      refine Pick.w64 (by omega) ?_
      ((conv => whnf); repeat first | (refine Br.no ?_; conv => whnf) | (refine Br.yes ?_; conv => whnf) | (refine Pick.draw rfl (by kernel_rfl) ?_; conv => whnf) | (refine Pick.drawM (by kernel_rfl) ?_; conv => whnf) | (refine CallC.r ?_; conv => whnf))
      refine Side.mk (by omega) ?_
      ((conv => whnf); repeat first | (refine Br.no ?_; conv => whnf) | (refine Br.yes ?_; conv => whnf) | (refine Pick.draw rfl (by kernel_rfl) ?_; conv => whnf) | (refine Pick.drawM (by kernel_rfl) ?_; conv => whnf) | (refine CallC.r ?_; conv => whnf))
      rw [he]
      refine Pick.w64 (by omega) ?_
      ((conv => whnf); repeat first | (refine Br.no ?_; conv => whnf) | (refine Br.yes ?_; conv => whnf) | (refine Pick.draw rfl (by kernel_rfl) ?_; conv => whnf) | (refine Pick.drawM (by kernel_rfl) ?_; conv => whnf) | (refine CallC.r ?_; conv => whnf))
      refine Side.mk (by omega) ?_
      ((conv => whnf); repeat first | (refine Br.no ?_; conv => whnf) | (refine Br.yes ?_; conv => whnf) | (refine Pick.draw rfl (by kernel_rfl) ?_; conv => whnf) | (refine Pick.drawM (by kernel_rfl) ?_; conv => whnf) | (refine CallC.r ?_; conv => whnf))
      rw [he2]
      refine Side.mk (by omega) ?_
      ((conv => whnf); repeat first | (refine Br.no ?_; conv => whnf) | (refine Br.yes ?_; conv => whnf) | (refine Pick.draw rfl (by kernel_rfl) ?_; conv => whnf) | (refine Pick.drawM (by kernel_rfl) ?_; conv => whnf) | (refine CallC.r ?_; conv => whnf))
      rw [hq]
      refine Pick.w64 (by omega) ?_
      ((conv => whnf); repeat first | (refine Br.no ?_; conv => whnf) | (refine Br.yes ?_; conv => whnf) | (refine Pick.draw rfl (by kernel_rfl) ?_; conv => whnf) | (refine Pick.drawM (by kernel_rfl) ?_; conv => whnf) | (refine CallC.r ?_; conv => whnf))
      exact ih (b * b % p, m / 2, x * b % p) ⟨hr, (by show m / 2 ≤ n; omega), hr2, by rw [pow_mod_step _ _ _ _ (by omega)]; exact hinv⟩ (by simp only; omega)
    · simp at h3
      rw [Int.tmod_eq_emod_of_nonneg (by omega)] at h3
      refine Pick.w64 (by omega) ?_
      ((conv => whnf); repeat first | (refine Br.no ?_; conv => whnf) | (refine Br.yes ?_; conv => whnf) | (refine Pick.draw rfl (by kernel_rfl) ?_; conv => whnf) | (refine Pick.drawM (by kernel_rfl) ?_; conv => whnf) | (refine CallC.r ?_; conv => whnf))
      refine Side.mk (by omega) ?_
      ((conv => whnf); repeat first | (refine Br.no ?_; conv => whnf) | (refine Br.yes ?_; conv => whnf) | (refine Pick.draw rfl (by kernel_rfl) ?_; conv => whnf) | (refine Pick.drawM (by kernel_rfl) ?_; conv => whnf) | (refine CallC.r ?_; conv => whnf))
      rw [he2]
      refine Side.mk (by omega) ?_
      ((conv => whnf); repeat first | (refine Br.no ?_; conv => whnf) | (refine Br.yes ?_; conv => whnf) | (refine Pick.draw rfl (by kernel_rfl) ?_; conv => whnf) | (refine Pick.drawM (by kernel_rfl) ?_; conv => whnf) | (refine CallC.r ?_; conv => whnf))
      rw [hq]
      refine Pick.w64 (by omega) ?_
      ((conv => whnf); repeat first | (refine Br.no ?_; conv => whnf) | (refine Br.yes ?_; conv => whnf) | (refine Pick.draw rfl (by kernel_rfl) ?_; conv => whnf) | (refine Pick.drawM (by kernel_rfl) ?_; conv => whnf) | (refine CallC.r ?_; conv => whnf))
      exact ih (b * b % p, m / 2, x) ⟨hr, (by show m / 2 ≤ n; omega), hx, by rw [pow_mod_half _ _ _ _ (by omega)]; exact hinv⟩ (by simp only; omega)
  · simp at h
    obtain rfl : m = 0 := by omega
    refine ResOK.same ?_
    simp only [Int.pow_zero, Int.mul_one] at hinv
    rw [← hinv, Int.emod_eq_of_lt hx.1 hx.2]

theorem s_inverseOf (a p : Int) (hp : 2 ≤ p ∧ p ≤ 251) (ha : 0 ≤ a ∧ a < p) : Sat Try.prog 102 [(false, [.int .i64 a]), (false, [.int .i64 p])] (.one (.c (.int .i64 (invM a p))), []) := by
  refine Sat.intro tok mixed Try.func102 rfl rfl ?_
  ((conv => whnf); repeat first | (refine Br.no ?_; conv => whnf) | (refine Br.yes ?_; conv => whnf) | (refine Pick.draw rfl (by kernel_rfl) ?_; conv => whnf) | (refine Pick.drawM (by kernel_rfl) ?_; conv => whnf) | (refine CallC.r ?_; conv => whnf))
  refine Pick.w64 (by omega) ?_
  ((conv => whnf); repeat first | (refine Br.no ?_; conv => whnf) | (refine Br.yes ?_; conv => whnf) | (refine Pick.draw rfl (by kernel_rfl) ?_; conv => whnf) | (refine Pick.drawM (by kernel_rfl) ?_; conv => whnf) | (refine CallC.r ?_; conv => whnf))
  have e : p - 2 = (((p - 2).toNat : Nat) : Int) := by omega
  rw [e]
  refine Pick.mk _ (s_powerOf a p (p - 2).toNat hp ha (by omega)) ?_
  ((conv => whnf); repeat first | (refine Br.no ?_; conv => whnf) | (refine Br.yes ?_; conv => whnf) | (refine Pick.draw rfl (by kernel_rfl) ?_; conv => whnf) | (refine Pick.drawM (by kernel_rfl) ?_; conv => whnf) | (refine CallC.r ?_; conv => whnf))
  exact ResOK.same (by rw [invM])

theorem s_reduce (a p : Int) (hp : 2 ≤ p ∧ p ≤ 251) (ha : -63001 ≤ a ∧ a ≤ 63001) : Sat Try.prog 87 [(false, [.int .i64 a]), (false, [.int .i64 p])] (.one (.c (.int .i64 (a % p))), []) := by
  have h1 := Int.tmod_lt_of_pos a (show 0 < p by omega)
  have h2 : -p < a.tmod p := by
    have := Int.tmod_lt_of_pos (-a) (show 0 < p by omega)
    rw [Int.neg_tmod] at this; omega
  refine Sat.intro tok mixed Try.func87 rfl rfl ?_
  ((conv => whnf); repeat first | (refine Br.no ?_; conv => whnf) | (refine Br.yes ?_; conv => whnf) | (refine Pick.draw rfl (by kernel_rfl) ?_; conv => whnf) | (refine Pick.drawM (by kernel_rfl) ?_; conv => whnf) | (refine CallC.r ?_; conv => whnf))
  refine Side.mk (by omega) ?_
  ((conv => whnf); repeat first | (refine Br.no ?_; conv => whnf) | (refine Br.yes ?_; conv => whnf) | (refine Pick.draw rfl (by kernel_rfl) ?_; conv => whnf) | (refine Pick.drawM (by kernel_rfl) ?_; conv => whnf) | (refine CallC.r ?_; conv => whnf))
  refine Pick.w64 (by omega) ?_
  ((conv => whnf); repeat first | (refine Br.no ?_; conv => whnf) | (refine Br.yes ?_; conv => whnf) | (refine Pick.draw rfl (by kernel_rfl) ?_; conv => whnf) | (refine Pick.drawM (by kernel_rfl) ?_; conv => whnf) | (refine CallC.r ?_; conv => whnf))
  refine Side.mk (by omega) ?_
  ((conv => whnf); repeat first | (refine Br.no ?_; conv => whnf) | (refine Br.yes ?_; conv => whnf) | (refine Pick.draw rfl (by kernel_rfl) ?_; conv => whnf) | (refine Pick.drawM (by kernel_rfl) ?_; conv => whnf) | (refine CallC.r ?_; conv => whnf))
  refine ResOK.same ?_
  rw [Int.tmod_eq_emod_of_nonneg (by omega)]
  have e : a % p = (a.tmod p) % p := by conv => lhs; rw [← Int.mul_tdiv_add_tmod a p, Int.add_comm, Int.add_mul_emod_self_left]
  rw [e]
  simp
theorem s_l03Mod (a p : Int) (hp : 2 ≤ p ∧ p ≤ 251) (ha : -63001 ≤ a ∧ a ≤ 63001) : Sat Try.prog 81 [(false, [.int .i64 a]), (false, [.int .i64 p])] (.one (.c (.int .i64 (a % p))), []) := by
  have h1 := Int.tmod_lt_of_pos a (show 0 < p by omega)
  have h2 : -p < a.tmod p := by
    have := Int.tmod_lt_of_pos (-a) (show 0 < p by omega)
    rw [Int.neg_tmod] at this; omega
  refine Sat.intro tok mixed Try.func81 rfl rfl ?_
  ((conv => whnf); repeat first | (refine Br.no ?_; conv => whnf) | (refine Br.yes ?_; conv => whnf) | (refine Pick.draw rfl (by kernel_rfl) ?_; conv => whnf) | (refine Pick.drawM (by kernel_rfl) ?_; conv => whnf) | (refine CallC.r ?_; conv => whnf))
  refine Side.mk (by omega) ?_
  ((conv => whnf); repeat first | (refine Br.no ?_; conv => whnf) | (refine Br.yes ?_; conv => whnf) | (refine Pick.draw rfl (by kernel_rfl) ?_; conv => whnf) | (refine Pick.drawM (by kernel_rfl) ?_; conv => whnf) | (refine CallC.r ?_; conv => whnf))
  refine Pick.w64 (by omega) ?_
  ((conv => whnf); repeat first | (refine Br.no ?_; conv => whnf) | (refine Br.yes ?_; conv => whnf) | (refine Pick.draw rfl (by kernel_rfl) ?_; conv => whnf) | (refine Pick.drawM (by kernel_rfl) ?_; conv => whnf) | (refine CallC.r ?_; conv => whnf))
  refine Side.mk (by omega) ?_
  ((conv => whnf); repeat first | (refine Br.no ?_; conv => whnf) | (refine Br.yes ?_; conv => whnf) | (refine Pick.draw rfl (by kernel_rfl) ?_; conv => whnf) | (refine Pick.drawM (by kernel_rfl) ?_; conv => whnf) | (refine CallC.r ?_; conv => whnf))
  refine ResOK.same ?_
  rw [Int.tmod_eq_emod_of_nonneg (by omega)]
  have e : a % p = (a.tmod p) % p := by conv => lhs; rw [← Int.mul_tdiv_add_tmod a p, Int.add_comm, Int.add_mul_emod_self_left]
  rw [e]
  simp
theorem s_l03Inverse (a p : Int) (hp : 2 ≤ p ∧ p ≤ 251) (ha : 0 ≤ a ∧ a < p) : Sat Try.prog 97 [(false, [.int .i64 a]), (false, [.int .i64 p])] (.one (.c (.int .i64 (invM a p))), []) := by
  refine Sat.intro tok mixed Try.func97 rfl rfl ?_
  ((conv => whnf); repeat first | (refine Br.no ?_; conv => whnf) | (refine Br.yes ?_; conv => whnf) | (refine Pick.draw rfl (by kernel_rfl) ?_; conv => whnf) | (refine Pick.drawM (by kernel_rfl) ?_; conv => whnf) | (refine CallC.r ?_; conv => whnf))
  refine Pick.w64 (by omega) ?_
  ((conv => whnf); repeat first | (refine Br.no ?_; conv => whnf) | (refine Br.yes ?_; conv => whnf) | (refine Pick.draw rfl (by kernel_rfl) ?_; conv => whnf) | (refine Pick.drawM (by kernel_rfl) ?_; conv => whnf) | (refine CallC.r ?_; conv => whnf))
  refine Pick.mk [0, 1, 5, 6] trivial ?_
  ((conv => whnf); repeat first | (refine Br.no ?_; conv => whnf) | (refine Br.yes ?_; conv => whnf) | (refine Pick.draw rfl (by kernel_rfl) ?_; conv => whnf) | (refine Pick.drawM (by kernel_rfl) ?_; conv => whnf) | (refine CallC.r ?_; conv => whnf))
  refine LoopL.over (fun (k : Nat) => [(5, .one (.c (.int .i64 (pw a p k)))), (6, .one (.c (.int .i64 (p - 2 - (k : Int)))))]) (fun (k : Nat) => []) (fun (k : Nat) => (p - 2).toNat - k) (fun (k : Nat) => k ≤ (p - 2).toNat) ?_ 0 (Nat.zero_le _) (by have e : (1 : Int) % p = 1 := Int.emod_eq_of_lt (by omega) (by omega); simp [pw, e]; rfl)
  intro k hk ih
  have h0 := pw_el (a := a) (p := p) (n := k) hp.1
  have h1 := mul_bound' (a := pw a p k) (b := a) (by omega) (by omega)
  ((conv => whnf); repeat first | (refine Br.no ?_; conv => whnf) | (refine Br.yes ?_; conv => whnf) | (refine Pick.draw rfl (by kernel_rfl) ?_; conv => whnf) | (refine Pick.drawM (by kernel_rfl) ?_; conv => whnf) | (refine CallC.r ?_; conv => whnf))
  refine Br.mk (fun h => ?_) (fun h => ?_) <;> ((conv => whnf); repeat first | (refine Br.no ?_; conv => whnf) | (refine Br.yes ?_; conv => whnf) | (refine Pick.draw rfl (by kernel_rfl) ?_; conv => whnf) | (refine Pick.drawM (by kernel_rfl) ?_; conv => whnf) | (refine CallC.r ?_; conv => whnf))
  · simp at h
    refine Pick.w64 (by omega) ?_
    ((conv => whnf); repeat first | (refine Br.no ?_; conv => whnf) | (refine Br.yes ?_; conv => whnf) | (refine Pick.draw rfl (by kernel_rfl) ?_; conv => whnf) | (refine Pick.drawM (by kernel_rfl) ?_; conv => whnf) | (refine CallC.r ?_; conv => whnf))
    refine Side.mk (by omega) ?_
    ((conv => whnf); repeat first | (refine Br.no ?_; conv => whnf) | (refine Br.yes ?_; conv => whnf) | (refine Pick.draw rfl (by kernel_rfl) ?_; conv => whnf) | (refine Pick.drawM (by kernel_rfl) ?_; conv => whnf) | (refine CallC.r ?_; conv => whnf))
    refine Pick.w64 (by omega) ?_
    ((conv => whnf); repeat first | (refine Br.no ?_; conv => whnf) | (refine Br.yes ?_; conv => whnf) | (refine Pick.draw rfl (by kernel_rfl) ?_; conv => whnf) | (refine Pick.drawM (by kernel_rfl) ?_; conv => whnf) | (refine CallC.r ?_; conv => whnf))
    have e : (pw a p k * a).tmod p = pw a p (k + 1) := by
      rw [Int.tmod_eq_emod_of_nonneg (by omega), pw, pw, Int.pow_succ, Int.mul_emod, Int.emod_emod_of_dvd _ (Int.dvd_refl p), ← Int.mul_emod]
    rw [e]
    have e2 : p - 2 - (k : Int) - 1 = p - 2 - ((k + 1 : Nat) : Int) := by omega
    rw [e2]
    exact ih (k + 1) (by omega) (by omega)
  · simp at h
    obtain rfl : k = (p - 2).toNat := by omega
    exact ResOK.same rfl

/-! ### rows in memory of their own -/
theorem Pick.ro {α : Type} [Enc α] {xs : List α} {i n : Nat} {K : List CV → Prop} (h : i < xs.length) (e : n = i) (k : K (Enc.enc xs[i])) : Pick (fun row => (xs.map Enc.enc)[n]? = some row) K :=
  ⟨_, by subst e; simp [h], k⟩
theorem Pick.roI {α : Type} [Enc α] {xs : List α} {i : Nat} {n : Int} {K : List CV → Prop} (h : i < xs.length) (e : n = (i : Int)) (k : K (Enc.enc xs[i])) : Pick (fun row => 0 ≤ n ∧ (xs.map Enc.enc)[n.toNat]? = some row) K :=
  ⟨_, by subst e; exact ⟨by omega, by simp [h]⟩, k⟩
theorem s_eliminate1 (row : List Int) (c : Nat) (h : c < row.length) : Sat Try.prog 100 ((false, Enc.enc row) :: [CV.ptr 1 [.int .i64 c]].map fun y => (false, [y])) (.one (.c (.bool (row[c] != 0))), []) := by
  refine Sat.intro tok mixed Try.func100 rfl rfl ?_
  ((conv => whnf); repeat first | (refine Br.no ?_; conv => whnf) | (refine Br.yes ?_; conv => whnf) | (refine Pick.draw rfl (by kernel_rfl) ?_; conv => whnf) | (refine Pick.drawM (by kernel_rfl) ?_; conv => whnf) | (refine CallC.r ?_; conv => whnf))
  refine Pick.ix (h) ?_
  ((conv => whnf); repeat first | (refine Br.no ?_; conv => whnf) | (refine Br.yes ?_; conv => whnf) | (refine Pick.draw rfl (by kernel_rfl) ?_; conv => whnf) | (refine Pick.drawM (by kernel_rfl) ?_; conv => whnf) | (refine CallC.r ?_; conv => whnf))
  exact ResOK.same rfl

theorem s_IndexFuncRows (rows : List (List Int)) (c top : Nat) (ht : top ≤ rows.length) (hr : ∀ r ∈ rows, c < r.length) (hb : rows.length ≤ 1048576) :
    SatM Try.prog 99 [.one (.ru 1000000 top (rows.length - top)), .one (.c (.fn 100 [.ptr 1 [.int .i64 c]]))] [(1000000, .arr 1 (rows.map Enc.enc))]
      (.one (.c (.int .i64 (if seek (fun q => (rows.getD q []).getD c 0 != 0) (rows.length - top) top < rows.length then (seek (fun q => (rows.getD q []).getD c 0 != 0) (rows.length - top) top : Int) - top else -1))), [(1000000, .arr 1 (rows.map Enc.enc))]) := by
  refine SatM.intro tok mixed Try.func99 rfl rfl ?_
  ((conv => whnf); repeat first | (refine Br.no ?_; conv => whnf) | (refine Br.yes ?_; conv => whnf) | (refine Pick.draw rfl (by kernel_rfl) ?_; conv => whnf) | (refine Pick.drawM (by kernel_rfl) ?_; conv => whnf) | (refine CallC.r ?_; conv => whnf))
  refine Pick.mk [0, 1, 7, 8] trivial ?_
  ((conv => whnf); repeat first | (refine Br.no ?_; conv => whnf) | (refine Br.yes ?_; conv => whnf) | (refine Pick.draw rfl (by kernel_rfl) ?_; conv => whnf) | (refine Pick.drawM (by kernel_rfl) ?_; conv => whnf) | (refine CallC.r ?_; conv => whnf))
  refine LoopL.over (fun (i : Nat) => [(8, .one (.c (.int .i64 ((i : Int)))))]) (fun (i : Nat) => []) (fun (i : Nat) => rows.length - top - i) (fun (i : Nat) => i ≤ rows.length - top ∧ ∀ j, top ≤ j → j < top + i → ((rows.getD j []).getD c 0 != 0) = false) ?_ 0 ⟨Nat.zero_le _, by intros; omega⟩
  intro i ⟨hi, hz⟩ ih
  ((conv => whnf); repeat first | (refine Br.no ?_; conv => whnf) | (refine Br.yes ?_; conv => whnf) | (refine Pick.draw rfl (by kernel_rfl) ?_; conv => whnf) | (refine Pick.drawM (by kernel_rfl) ?_; conv => whnf) | (refine CallC.r ?_; conv => whnf))
  refine Br.mk (fun h => ?_) (fun h => ?_) <;> ((conv => whnf); repeat first | (refine Br.no ?_; conv => whnf) | (refine Br.yes ?_; conv => whnf) | (refine Pick.draw rfl (by kernel_rfl) ?_; conv => whnf) | (refine Pick.drawM (by kernel_rfl) ?_; conv => whnf) | (refine CallC.r ?_; conv => whnf))
  · simp at h
    have h2 : top + i < rows.length := by omega
    have hlt := hr _ (List.getElem_mem h2)
    refine Side.mk (by rw [List.length_map]; omega) ?_
    ((conv => whnf); repeat first | (refine Br.no ?_; conv => whnf) | (refine Br.yes ?_; conv => whnf) | (refine Pick.draw rfl (by kernel_rfl) ?_; conv => whnf) | (refine Pick.drawM (by kernel_rfl) ?_; conv => whnf) | (refine CallC.r ?_; conv => whnf))
    refine Pick.ro (i := top + i) h2 (by omega) ?_
    ((conv => whnf); repeat first | (refine Br.no ?_; conv => whnf) | (refine Br.yes ?_; conv => whnf) | (refine Pick.draw rfl (by kernel_rfl) ?_; conv => whnf) | (refine Pick.drawM (by kernel_rfl) ?_; conv => whnf) | (refine CallC.r ?_; conv => whnf))
    refine Pick.mk _ (s_eliminate1 _ c hlt) ?_
    ((conv => whnf); repeat first | (refine Br.no ?_; conv => whnf) | (refine Br.yes ?_; conv => whnf) | (refine Pick.draw rfl (by kernel_rfl) ?_; conv => whnf) | (refine Pick.drawM (by kernel_rfl) ?_; conv => whnf) | (refine CallC.r ?_; conv => whnf))
    have hg : ((rows.getD (top + i) []).getD c 0 != 0) = (rows[top + i][c] != 0) := by rw [getD_lt _ _ h2, getD_lt _ _ hlt]
    refine Br.mk (fun h3 => ?_) (fun h3 => ?_) <;> ((conv => whnf); repeat first | (refine Br.no ?_; conv => whnf) | (refine Br.yes ?_; conv => whnf) | (refine Pick.draw rfl (by kernel_rfl) ?_; conv => whnf) | (refine Pick.drawM (by kernel_rfl) ?_; conv => whnf) | (refine CallC.r ?_; conv => whnf))
    · have e : seek (fun q => (rows.getD q []).getD c 0 != 0) (rows.length - top) top = top + i := seek_eq (by omega) (by omega) (by rw [hg]; exact h3) fun j h4 h5 => hz j h4 h5
      rw [e, if_pos h2]
      have e2 : ((top + i : Nat) : Int) - top = i := by omega
      rw [e2]
    · refine Pick.at64 (z := (i + 1 : Nat)) (by simp) (by omega) ?_
      ((conv => whnf); repeat first | (refine Br.no ?_; conv => whnf) | (refine Br.yes ?_; conv => whnf) | (refine Pick.draw rfl (by kernel_rfl) ?_; conv => whnf) | (refine Pick.drawM (by kernel_rfl) ?_; conv => whnf) | (refine CallC.r ?_; conv => whnf))
      refine ih (i + 1) ⟨by omega, fun j h4 h5 => ?_⟩ (by omega)
      by_cases e : j = top + i
      · subst e; rw [hg]; exact h3
      · exact hz j h4 (by omega)
  · simp at h
    obtain rfl : i = rows.length - top := by omega
    have e : seek (fun q => (rows.getD q []).getD c 0 != 0) (rows.length - top) top = top + (rows.length - top) := seek_none fun j h4 h5 => hz j h4 h5
    rw [e, if_neg (by omega)]

theorem seek_congr {g g' : Nat → Bool} : ∀ {n q : Nat}, (∀ i, q ≤ i → i < q + n → g i = g' i) → seek g n q = seek g' n q
  | 0, q, _ => rfl
  | n + 1, q, h => by
    unfold seek
    rw [h q (Nat.le_refl _) (by omega), seek_congr (n := n) (q := q + 1) fun i h1 h2 => h i (by omega) (by omega)]
theorem s_IndexFuncTab (r w : Nat) (f : Nat → Nat → Int) (c top o l : Nat) (ho : o = top) (hl : l = r - top) (hc : c < w) (ht : top ≤ r) (hb : r ≤ 4096) :
    SatM Try.prog 99 [.one (.ru 1000000 o l), .one (.c (.fn 100 [.ptr 1 [.int .i64 c]]))] [(1000000, .arr 1 ((tab r w f).map Enc.enc))]
      (.one (.c (.int .i64 (if seek (fun q => f q c != 0) (r - top) top < r then (seek (fun q => f q c != 0) (r - top) top : Int) - top else -1))), [(1000000, .arr 1 ((tab r w f).map Enc.enc))]) := by
  have h := s_IndexFuncRows (tab r w f) c top (by rw [tab_len]; exact ht) (fun x hx => by
    obtain ⟨i, _, rfl⟩ := List.mem_map.1 hx
    simp [hc]) (by rw [tab_len]; omega)
  rw [tab_len] at h
  have e : seek (fun q => ((tab r w f).getD q []).getD c 0 != 0) (r - top) top = seek (fun q => f q c != 0) (r - top) top := seek_congr fun i h1 h2 => by
    have e1 : (tab r w f).getD i [] = (List.range w).map (f i) := by rw [List.getD_eq_getElem?_getD, tab_get (by omega)]; rfl
    rw [e1]; simp [List.getD_eq_getElem?_getD, hc]
  rw [e] at h
  subst ho hl
  exact h

/-- Rows that have been cleared, and rows still to come. -/
def partF (f : Nat → Nat → Int) (p : Int) (top c n : Nat) : Nat → Nat → Int := fun a b => if a < n then clearF f p top c a b else f a b
theorem partF_zero (f : Nat → Nat → Int) (p : Int) (top c : Nat) : partF f p top c 0 = f := by
  funext a b; simp [partF]
theorem partF_self (f : Nat → Nat → Int) (p : Int) (top c n : Nat) : partF f p top c n n = f n := by
  funext b; simp [partF]
theorem partF_top (f : Nat → Nat → Int) (p : Int) (top c n : Nat) : partF f p top c n top = f top := by
  funext b; simp [partF, clearF]
theorem partF_succ {f : Nat → Nat → Int} {p : Int} {top c n w r : Nat} : tab r w (partF f p top c (n + 1)) = tab r w (upd1 (partF f p top c n) n (clearF f p top c n)) := tab_congr fun a b _ _ => by
  unfold partF upd1
  by_cases h : a = n
  · subst h; simp
  · by_cases h2 : a < n
    · simp [h, h2, Nat.lt_succ_of_lt h2]
    · have : ¬ a < n + 1 := by omega
      simp [h, h2, this]
theorem partF_keep {f : Nat → Nat → Int} {p : Int} {top c n w r : Nat} (hf : ∀ i j, i < r → j < w → 0 ≤ f i j ∧ f i j < p) (h : n = top ∨ f n c = 0) : tab r w (partF f p top c (n + 1)) = tab r w (partF f p top c n) := tab_congr fun a b ha hb => by
  unfold partF
  by_cases h1 : a = n
  · subst h1
    have h2 := hf a b ha hb
    rw [if_pos (by omega), if_neg (by omega)]
    unfold clearF
    split
    · rfl
    · rename_i h3
      rw [h.resolve_left h3, Int.sub_zero, Int.add_mul_emod_self_left, Int.emod_eq_of_lt h2.1 h2.2]
  · by_cases h2 : a < n
    · rw [if_pos (by omega), if_pos h2]
    · rw [if_neg (by omega), if_neg h2]
theorem partF_all {f : Nat → Nat → Int} {p : Int} {top c w r : Nat} : tab r w (partF f p top c r) = tab r w (clearF f p top c) := tab_congr fun a b ha hb => by
  unfold partF; rw [if_pos ha]
theorem swap_self (f : Nat → Nat → Int) (a : Nat) : swapF f a a = f := by
  funext i j
  unfold swapF
  split
  · rename_i h; rw [h]
  · rfl
theorem swap_set {r w : Nat} {f : Nat → Nat → Int} {a b : Nat} (ha : a < r) (hb : b < r) : (((tab r w f).map (Enc.enc (α := List Int))).set a (Enc.enc ((List.range w).map (f b)))).set b (Enc.enc ((List.range w).map (f a))) = (tab r w (swapF f a b)).map Enc.enc := by
  rw [← List.map_set, tab_set ha, ← List.map_set, tab_set hb]
  congr 1
  refine tab_congr fun i j _ _ => ?_
  unfold upd1 swapF
  by_cases h1 : i = b
  · rw [if_pos h1]
    by_cases h2 : i = a
    · rw [if_pos h2, ← h1, ← h2]
    · rw [if_neg h2, if_pos h1]
  · rw [if_neg h1]
    by_cases h2 : i = a
    · rw [if_pos h2, if_pos h2]
    · rw [if_neg h2, if_neg h2, if_neg h1]

def pvI (s : ES) : List Int := s.pv.map fun (c : Nat) => (c : Int)
theorem pvI_len (s : ES) : (pvI s).length = s.pv.length := by simp [pvI]
theorem s_eliminate (w r : Nat) (p : Int) (f : Nat → Nat → Int) (hp : 2 ≤ p ∧ p ≤ 251) (hf : ∀ i j, i < r → j < w → 0 ≤ f i j ∧ f i j < p) (hr : r ≤ 4096) (hw : w ≤ 4096) :
    SatM Try.prog 63 [.one (.rs 1000000), .one (.c (.int .i64 w)), .one (.c (.int .i64 p))] [(1000000, .arr 1 ((tab r w f).map Enc.enc))]
      (.tup [(false, [.rs 0]), (false, [.c (.int .i64 (elimF p r f w).dI)])], [(0, .arr 1 ((pvI (elimF p r f w)).map Enc.enc)), (1000000, .arr 1 ((tab r w (elimF p r f w).f).map Enc.enc))]) := by
  refine SatM.intro tok mixed Try.func63 rfl rfl ?_
  ((conv => whnf); repeat first | (refine Br.no ?_; conv => whnf) | (refine Br.yes ?_; conv => whnf) | (refine Pick.draw rfl (by kernel_rfl) ?_; conv => whnf) | (refine Pick.drawM (by kernel_rfl) ?_; conv => whnf) | (refine CallC.r ?_; conv => whnf))
  refine Pick.mk [0, 1, 2, 8, 9, 16, 17] trivial ?_
  ((conv => whnf); repeat first | (refine Br.no ?_; conv => whnf) | (refine Br.yes ?_; conv => whnf) | (refine Pick.draw rfl (by kernel_rfl) ?_; conv => whnf) | (refine Pick.drawM (by kernel_rfl) ?_; conv => whnf) | (refine CallC.r ?_; conv => whnf))
  refine LoopL.over (fun (k : Nat) => [(9, .one (.c (.int .i64 ((elimF p r f k).dI)))), (17, .one (.c (.int .i64 ((k : Int)))))]) (fun (k : Nat) => [(512, .arr 1 (List.map Enc.enc (pvI (elimF p r f k)))), (1000000, Ob.arr 1 ((tab r w (elimF p r f k).f).map Enc.enc))]) (fun (k : Nat) => w - k) (fun (k : Nat) => k ≤ w) ?_ 0 (Nat.zero_le _)
  intro k hk ih
  have ok := elimF_ok hp.1 hf k
  have hst := elimF_succ p r f k
  generalize hs : elimF p r f k = s at ok hst
  have hpl : ((pvI s).map (Enc.enc (α := Int))).length = s.pv.length := by rw [List.length_map, pvI_len]
  have htl : ∀ g, ((tab r w g).map (Enc.enc (α := List Int))).length = r := fun g => by rw [List.length_map, tab_len]
  have hpr := ok.pr
  ((conv => whnf); repeat first | (refine Br.no ?_; conv => whnf) | (refine Br.yes ?_; conv => whnf) | (refine Pick.draw rfl (by kernel_rfl) ?_; conv => whnf) | (refine Pick.drawM (by kernel_rfl) ?_; conv => whnf) | (refine CallC.r ?_; conv => whnf))
  refine Br.mk (fun h => ?_) (fun h => ?_) <;> ((conv => whnf); repeat first | (refine Br.no ?_; conv => whnf) | (refine Br.yes ?_; conv => whnf) | (refine Pick.draw rfl (by kernel_rfl) ?_; conv => whnf) | (refine Pick.drawM (by kernel_rfl) ?_; conv => whnf) | (refine CallC.r ?_; conv => whnf))
  · simp at h
    refine Side.mk (by rw [hpl, htl]; omega) ?_
    ((conv => whnf); repeat first | (refine Br.no ?_; conv => whnf) | (refine Br.yes ?_; conv => whnf) | (refine Pick.draw rfl (by kernel_rfl) ?_; conv => whnf) | (refine Pick.drawM (by kernel_rfl) ?_; conv => whnf))
    refine CallC.x ?_
    ((conv => whnf); repeat first | (refine Br.no ?_; conv => whnf) | (refine Br.yes ?_; conv => whnf) | (refine Pick.draw rfl (by kernel_rfl) ?_; conv => whnf) | (refine Pick.drawM (by kernel_rfl) ?_; conv => whnf) | (refine CallC.r ?_; conv => whnf))
    refine Pick.mk _ (s_IndexFuncTab r w s.f k s.pv.length _ _ ?_ ?_ h hpr hr) ?_
    · rw [hpl]; rfl
    · rw [hpl, htl]; rfl
    rw [show seek (fun q => s.f q k != 0) (r - s.pv.length) s.pv.length = at0 r k s from rfl]
    have hge : s.pv.length ≤ at0 r k s := seek_ge _ _ _
    by_cases hq : at0 r k s < r
    · rw [if_pos hq]
      ((conv => whnf); repeat first | (refine Br.no ?_; conv => whnf) | (refine Br.yes ?_; conv => whnf) | (refine Pick.draw rfl (by kernel_rfl) ?_; conv => whnf) | (refine Pick.drawM (by kernel_rfl) ?_; conv => whnf) | (refine CallC.r ?_; conv => whnf))
      refine Side.mk (by rfl) ?_
      ((conv => whnf); repeat first | (refine Br.no ?_; conv => whnf) | (refine Br.yes ?_; conv => whnf) | (refine Pick.draw rfl (by kernel_rfl) ?_; conv => whnf) | (refine Pick.drawM (by kernel_rfl) ?_; conv => whnf) | (refine CallC.r ?_; conv => whnf))
      refine Br.mk (fun h2 => by simp at h2; omega) (fun _ => ?_)
      ((conv => whnf); repeat first | (refine Br.no ?_; conv => whnf) | (refine Br.yes ?_; conv => whnf) | (refine Pick.draw rfl (by kernel_rfl) ?_; conv => whnf) | (refine Pick.drawM (by kernel_rfl) ?_; conv => whnf) | (refine CallC.r ?_; conv => whnf))
      have hd : 0 ≤ s.dI ∧ s.dI < p := ok.dI
      have htop : s.pv.length < r := by omega
      generalize hg : swapF s.f s.pv.length (at0 r k s) = g
      have hgel : ∀ i j, i < r → j < w → 0 ≤ g i j ∧ g i j < p := hg ▸ swap_el ok.el htop hq
      have hlead : g s.pv.length k = leadV r k s := by rw [← hg]; simp [swapF, leadV]
      refine Br.mk (fun h2 => ?_) (fun h2 => ?_)
      focus
        ((conv => whnf); repeat first | (refine Br.no ?_; conv => whnf) | (refine Br.yes ?_; conv => whnf) | (refine CallC.r ?_; conv => whnf))
        refine Pick.drawS (by kernel_rfl) ?_
        ((conv => whnf); repeat first | (refine Br.no ?_; conv => whnf) | (refine Br.yes ?_; conv => whnf) | (refine Pick.draw rfl (by kernel_rfl) ?_; conv => whnf) | (refine Pick.drawM (by kernel_rfl) ?_; conv => whnf) | (refine CallC.r ?_; conv => whnf))
        refine Pick.at64 (z := ((at0 r k s : Nat) : Int)) (by rw [hpl]; omega) (by omega) ?_
        ((conv => whnf); repeat first | (refine Br.no ?_; conv => whnf) | (refine Br.yes ?_; conv => whnf) | (refine Pick.draw rfl (by kernel_rfl) ?_; conv => whnf) | (refine Pick.drawM (by kernel_rfl) ?_; conv => whnf) | (refine CallC.r ?_; conv => whnf))
        refine Pick.at64 (z := ((at0 r k s : Nat) : Int)) (by rw [hpl]; omega) (by omega) ?_
        ((conv => whnf); repeat first | (refine Br.no ?_; conv => whnf) | (refine Br.yes ?_; conv => whnf) | (refine Pick.draw rfl (by kernel_rfl) ?_; conv => whnf) | (refine Pick.drawM (by kernel_rfl) ?_; conv => whnf) | (refine CallC.r ?_; conv => whnf))
        refine Side.mk (by rw [htl]; omega) ?_
        ((conv => whnf); repeat first | (refine Br.no ?_; conv => whnf) | (refine Br.yes ?_; conv => whnf) | (refine Pick.draw rfl (by kernel_rfl) ?_; conv => whnf) | (refine Pick.drawM (by kernel_rfl) ?_; conv => whnf) | (refine CallC.r ?_; conv => whnf))
        refine Pick.ro (i := at0 r k s) (by rw [tab_len]; exact hq) (by omega) ?_
        ((conv => whnf); repeat first | (refine Br.no ?_; conv => whnf) | (refine Br.yes ?_; conv => whnf) | (refine Pick.draw rfl (by kernel_rfl) ?_; conv => whnf) | (refine Pick.drawM (by kernel_rfl) ?_; conv => whnf) | (refine CallC.r ?_; conv => whnf))
        refine Side.mk (by rw [hpl, htl]; omega) ?_
        ((conv => whnf); repeat first | (refine Br.no ?_; conv => whnf) | (refine Br.yes ?_; conv => whnf) | (refine Pick.draw rfl (by kernel_rfl) ?_; conv => whnf) | (refine Pick.drawM (by kernel_rfl) ?_; conv => whnf) | (refine CallC.r ?_; conv => whnf))
        refine Pick.ro (i := s.pv.length) (by rw [tab_len]; exact htop) (by rw [hpl]; rfl) ?_
        ((conv => whnf); repeat first | (refine Br.no ?_; conv => whnf) | (refine Br.yes ?_; conv => whnf) | (refine Pick.draw rfl (by kernel_rfl) ?_; conv => whnf) | (refine Pick.drawM (by kernel_rfl) ?_; conv => whnf) | (refine CallC.r ?_; conv => whnf))
        refine Side.mk (by rw [hpl, htl]; omega) ?_
        ((conv => whnf); repeat first | (refine Br.no ?_; conv => whnf) | (refine Br.yes ?_; conv => whnf) | (refine Pick.draw rfl (by kernel_rfl) ?_; conv => whnf) | (refine Pick.drawM (by kernel_rfl) ?_; conv => whnf) | (refine CallC.r ?_; conv => whnf))
        refine Side.mk (by rw [List.length_set, htl]; omega) ?_
        ((conv => whnf); repeat first | (refine Br.no ?_; conv => whnf) | (refine Br.yes ?_; conv => whnf) | (refine Pick.draw rfl (by kernel_rfl) ?_; conv => whnf) | (refine Pick.drawM (by kernel_rfl) ?_; conv => whnf) | (refine CallC.r ?_; conv => whnf))
        have ha : at0 r k s < (tab r w s.f).length := by rw [tab_len]; exact hq
        have hb : s.pv.length < (tab r w s.f).length := by rw [tab_len]; exact htop
        have hset : ∀ (n1 n2 : Nat) (y1 y2 : List CV), n1 = s.pv.length → n2 = at0 r k s → y1 = Enc.enc ((tab r w s.f)[at0 r k s]'ha) → y2 = Enc.enc ((tab r w s.f)[s.pv.length]'hb) → (((tab r w s.f).map (Enc.enc (α := List Int))).set n1 y1).set n2 y2 = (tab r w g).map Enc.enc := fun n1 n2 y1 y2 e1 e2 e3 e4 => by
          rw [e1, e2, e3, e4, tab_getE, tab_getE, swap_set htop hq, hg]
        rw [hset]
        rotate_left
        · rw [hpl]; rfl
        · rfl
        · rfl
        · rfl
        clear hset
        refine Pick.w64 (by omega) ?_
        ((conv => whnf); repeat first | (refine Br.no ?_; conv => whnf) | (refine Br.yes ?_; conv => whnf) | (refine Pick.draw rfl (by kernel_rfl) ?_; conv => whnf) | (refine Pick.drawM (by kernel_rfl) ?_; conv => whnf) | (refine CallC.r ?_; conv => whnf))
        refine Pick.mk _ (s_reduce (0 - s.dI) p hp (by omega)) ?_
        ((conv => whnf); repeat first | (refine Br.no ?_; conv => whnf) | (refine Br.yes ?_; conv => whnf) | (refine Pick.draw rfl (by kernel_rfl) ?_; conv => whnf) | (refine Pick.drawM (by kernel_rfl) ?_; conv => whnf) | (refine CallC.r ?_; conv => whnf))
        have hd2 := mod_el (a := 0 - s.dI) hp.1
        have h3 := of_decide_eq_true h2
        generalize hdd : (0 - s.dI) % p = d at hd2 ⊢
        have hdet : (if at0 r k s = s.pv.length then s.dI else ((-s.dI) % p + p) % p) = d := by
          rw [if_neg (by omega), ← hdd]; simp
      rotate_left
      focus
        have h3 := of_decide_eq_false h2
        have e : at0 r k s = s.pv.length := by omega
        have hg2 : s.f = g := by rw [← hg, e, swap_self]
        rw [hg2]
        have hd2 := hd
        generalize hdd : s.dI = d at hd2 ⊢
        have hdet : (if at0 r k s = s.pv.length then s.dI else ((-s.dI) % p + p) % p) = d := by rw [if_pos e, hdd]
        ((conv => whnf); repeat first | (refine Br.no ?_; conv => whnf) | (refine Br.yes ?_; conv => whnf) | (refine Pick.draw rfl (by kernel_rfl) ?_; conv => whnf) | (refine Pick.drawM (by kernel_rfl) ?_; conv => whnf) | (refine CallC.r ?_; conv => whnf))
      all_goals
        refine Side.mk (by rw [hpl, htl]; omega) ?_
        ((conv => whnf); repeat first | (refine Br.no ?_; conv => whnf) | (refine Br.yes ?_; conv => whnf) | (refine Pick.draw rfl (by kernel_rfl) ?_; conv => whnf) | (refine Pick.drawM (by kernel_rfl) ?_; conv => whnf) | (refine CallC.r ?_; conv => whnf))
        refine Pick.ro (i := s.pv.length) (by rw [tab_len]; exact htop) (by rw [hpl]; rfl) ?_
        rw [tab_getE]
        ((conv => whnf); repeat first | (refine Br.no ?_; conv => whnf) | (refine Br.yes ?_; conv => whnf) | (refine Pick.draw rfl (by kernel_rfl) ?_; conv => whnf) | (refine Pick.drawM (by kernel_rfl) ?_; conv => whnf) | (refine CallC.r ?_; conv => whnf))
        refine Pick.ix (xs := (List.range w).map (g s.pv.length)) (i := k) (by simpa using h) ?_
        have hrow : ((List.range w).map (g s.pv.length))[k]'(by simpa using h) = leadV r k s := by simp [hlead]
        rw [hrow]
        ((conv => whnf); repeat first | (refine Br.no ?_; conv => whnf) | (refine Br.yes ?_; conv => whnf) | (refine Pick.draw rfl (by kernel_rfl) ?_; conv => whnf) | (refine Pick.drawM (by kernel_rfl) ?_; conv => whnf) | (refine CallC.r ?_; conv => whnf))
        have hl := hgel _ _ htop h
        rw [hlead] at hl
        generalize hld : leadV r k s = ld at hl ⊢
        have hdm := mul_bound' (a := d) (b := ld) (by omega) (by omega)
        refine Pick.w64 (by omega) ?_
        ((conv => whnf); repeat first | (refine Br.no ?_; conv => whnf) | (refine Br.yes ?_; conv => whnf) | (refine Pick.draw rfl (by kernel_rfl) ?_; conv => whnf) | (refine Pick.drawM (by kernel_rfl) ?_; conv => whnf) | (refine CallC.r ?_; conv => whnf))
        refine Side.mk (by omega) ?_
        rw [Int.tmod_eq_emod_of_nonneg hdm.1]
        ((conv => whnf); repeat first | (refine Br.no ?_; conv => whnf) | (refine Br.yes ?_; conv => whnf) | (refine CallC.r ?_; conv => whnf))
        refine Pick.drawAt 14 (by kernel_rfl) ?_
        ((conv => whnf); repeat first | (refine Br.no ?_; conv => whnf) | (refine Br.yes ?_; conv => whnf) | (refine Pick.draw rfl (by kernel_rfl) ?_; conv => whnf) | (refine Pick.drawM (by kernel_rfl) ?_; conv => whnf) | (refine CallC.r ?_; conv => whnf))
        refine Side.mk (by omega) ?_
        ((conv => whnf); repeat first | (refine Br.no ?_; conv => whnf) | (refine Br.yes ?_; conv => whnf) | (refine Pick.draw rfl (by kernel_rfl) ?_; conv => whnf) | (refine Pick.drawM (by kernel_rfl) ?_; conv => whnf) | (refine CallC.r ?_; conv => whnf))
        refine Side.mk (by rw [hpl, htl]; omega) ?_
        ((conv => whnf); repeat first | (refine Br.no ?_; conv => whnf) | (refine Br.yes ?_; conv => whnf) | (refine Pick.draw rfl (by kernel_rfl) ?_; conv => whnf) | (refine Pick.drawM (by kernel_rfl) ?_; conv => whnf) | (refine CallC.r ?_; conv => whnf))
        refine Pick.ro (i := s.pv.length) (by rw [tab_len]; exact htop) (by rw [hpl]; rfl) ?_
        rw [tab_getE]
        ((conv => whnf); repeat first | (refine Br.no ?_; conv => whnf) | (refine Br.yes ?_; conv => whnf) | (refine Pick.draw rfl (by kernel_rfl) ?_; conv => whnf) | (refine Pick.drawM (by kernel_rfl) ?_; conv => whnf) | (refine CallC.r ?_; conv => whnf))
        refine Pick.mk _ (s_inverseOf ld p hp hl) ?_
        ((conv => whnf); repeat first | (refine Br.no ?_; conv => whnf) | (refine Br.yes ?_; conv => whnf) | (refine Pick.draw rfl (by kernel_rfl) ?_; conv => whnf) | (refine Pick.drawM (by kernel_rfl) ?_; conv => whnf) | (refine CallC.r ?_; conv => whnf))
        have hiv := pw_el (a := ld) (p := p) (n := (p - 2).toNat) hp.1
        refine Pick.mk _ (s_addTimes (List.replicate w 0) ((List.range w).map (g s.pv.length)) (invM ld p) p _ ?_ ?_ ?_ hp ⟨hiv.1, Int.le_of_lt hiv.2⟩ ?_ ?_) ?_
        · rw [List.map_replicate]; rfl
        · intro x hx
          have := List.eq_of_mem_replicate hx
          omega
        · intro x hx
          obtain ⟨j, hj, rfl⟩ := List.mem_map.1 hx
          exact hgel _ _ htop (List.mem_range.1 hj)
        · simp
        · simp; omega
        ((conv => whnf); repeat first | (refine Br.no ?_; conv => whnf) | (refine Br.yes ?_; conv => whnf) | (refine Pick.draw rfl (by kernel_rfl) ?_; conv => whnf) | (refine Pick.drawM (by kernel_rfl) ?_; conv => whnf) | (refine CallC.r ?_; conv => whnf))
        refine Side.mk (by rw [hpl, htl]; omega) ?_
        ((conv => whnf); repeat first | (refine Br.no ?_; conv => whnf) | (refine Br.yes ?_; conv => whnf) | (refine Pick.draw rfl (by kernel_rfl) ?_; conv => whnf) | (refine Pick.drawM (by kernel_rfl) ?_; conv => whnf) | (refine CallC.r ?_; conv => whnf))
        have hset2 : ∀ (n : Nat) (y : List CV), n = s.pv.length → y = Enc.enc (addT p (List.replicate w 0) ((List.range w).map (g s.pv.length)) (invM ld p)) → ((tab r w g).map (Enc.enc (α := List Int))).set n y = (tab r w (leadF g p s.pv.length (invM ld p))).map Enc.enc := fun n y e1 e2 => by
          have e3 : addT p (List.replicate w 0) ((List.range w).map (g s.pv.length)) (invM ld p) = (List.range w).map (leadF g p s.pv.length (invM ld p) s.pv.length) := by
            simp only [addT, List.length_replicate]
            refine List.map_congr_left fun j hj => ?_
            have hj := List.mem_range.1 hj
            simp [leadF, List.getD_eq_getElem?_getD, hj, Int.mul_comm]
          rw [e1, e2, e3, ← List.map_set, tab_set htop]
          congr 1
          refine tab_congr fun i j _ _ => ?_
          unfold upd1 leadF
          by_cases h1 : i = s.pv.length
          · simp [h1]
          · simp [h1]
        rw [hset2]
        rotate_left
        · rw [hpl]; rfl
        · rfl
        clear hset2
        generalize hlf : leadF g p s.pv.length (invM ld p) = lf
        have hlel : ∀ i j, i < r → j < w → 0 ≤ lf i j ∧ lf i j < p := hlf ▸ lead_el hp.1 hgel
        refine Pick.mk [0, 1, 2, 8, 9, 10, 11, 16, 17, 79, 80, 81] trivial ?_
        ((conv => whnf); repeat first | (refine Br.no ?_; conv => whnf) | (refine Br.yes ?_; conv => whnf) | (refine Pick.draw rfl (by kernel_rfl) ?_; conv => whnf) | (refine Pick.drawM (by kernel_rfl) ?_; conv => whnf) | (refine CallC.r ?_; conv => whnf))
        refine LoopL.over (fun (i : Nat) => [(81, .one (.c (.int .i64 ((i : Int)))))]) (fun (i : Nat) => [(1000000, Ob.arr 1 ((tab r w (partF lf p s.pv.length k i)).map Enc.enc))]) (fun (i : Nat) => r - i) (fun (i : Nat) => i ≤ r) ?_ 0 (Nat.zero_le _) (by rw [partF_zero]; rfl)
        intro i hi ih2
        ((conv => whnf); repeat first | (refine Br.no ?_; conv => whnf) | (refine Br.yes ?_; conv => whnf) | (refine Pick.draw rfl (by kernel_rfl) ?_; conv => whnf) | (refine Pick.drawM (by kernel_rfl) ?_; conv => whnf) | (refine CallC.r ?_; conv => whnf))
        refine Br.mk (fun h5 => ?_) (fun h5 => ?_) <;> ((conv => whnf); repeat first | (refine Br.no ?_; conv => whnf) | (refine Br.yes ?_; conv => whnf) | (refine Pick.draw rfl (by kernel_rfl) ?_; conv => whnf) | (refine Pick.drawM (by kernel_rfl) ?_; conv => whnf) | (refine CallC.r ?_; conv => whnf))
        · simp [tab_len] at h5
          refine Side.mk (by rw [htl]; omega) ?_
          ((conv => whnf); repeat first | (refine Br.no ?_; conv => whnf) | (refine Br.yes ?_; conv => whnf) | (refine Pick.draw rfl (by kernel_rfl) ?_; conv => whnf) | (refine Pick.drawM (by kernel_rfl) ?_; conv => whnf) | (refine CallC.r ?_; conv => whnf))
          refine Pick.ro (i := i) (by rw [tab_len]; exact h5) (by omega) ?_
          rw [tab_getE, partF_self]
          ((conv => whnf); repeat first | (refine Br.no ?_; conv => whnf) | (refine Br.yes ?_; conv => whnf) | (refine Pick.draw rfl (by kernel_rfl) ?_; conv => whnf) | (refine Pick.drawM (by kernel_rfl) ?_; conv => whnf) | (refine CallC.r ?_; conv => whnf))
          refine Br.mk (fun h6 => ?_) (fun h6 => ?_) <;> ((conv => whnf); repeat first | (refine Br.no ?_; conv => whnf) | (refine Br.yes ?_; conv => whnf) | (refine Pick.draw rfl (by kernel_rfl) ?_; conv => whnf) | (refine Pick.drawM (by kernel_rfl) ?_; conv => whnf) | (refine CallC.r ?_; conv => whnf))
          · have hne : i ≠ s.pv.length := fun e => by rw [hpl, e] at h6; simp at h6
            refine Pick.ix (xs := (List.range w).map (lf i)) (i := k) (by simpa using h) ?_
            have hrow2 : ((List.range w).map (lf i))[k]'(by simpa using h) = lf i k := by simp
            rw [hrow2]
            ((conv => whnf); repeat first | (refine Br.no ?_; conv => whnf) | (refine Br.yes ?_; conv => whnf) | (refine Pick.draw rfl (by kernel_rfl) ?_; conv => whnf) | (refine Pick.drawM (by kernel_rfl) ?_; conv => whnf) | (refine CallC.r ?_; conv => whnf))
            have hfi := hlel i k h5 h
            refine Br.mk (fun h7 => ?_) (fun h7 => ?_) <;> ((conv => whnf); repeat first | (refine Br.no ?_; conv => whnf) | (refine Br.yes ?_; conv => whnf) | (refine Pick.draw rfl (by kernel_rfl) ?_; conv => whnf) | (refine Pick.drawM (by kernel_rfl) ?_; conv => whnf) | (refine CallC.r ?_; conv => whnf))
            · refine Side.mk (by rw [hpl, htl]; omega) ?_
              ((conv => whnf); repeat first | (refine Br.no ?_; conv => whnf) | (refine Br.yes ?_; conv => whnf) | (refine Pick.draw rfl (by kernel_rfl) ?_; conv => whnf) | (refine Pick.drawM (by kernel_rfl) ?_; conv => whnf) | (refine CallC.r ?_; conv => whnf))
              refine Pick.ro (i := s.pv.length) (by rw [tab_len]; exact htop) (by rw [hpl]; rfl) ?_
              rw [tab_getE, partF_top]
              ((conv => whnf); repeat first | (refine Br.no ?_; conv => whnf) | (refine Br.yes ?_; conv => whnf) | (refine Pick.draw rfl (by kernel_rfl) ?_; conv => whnf) | (refine Pick.drawM (by kernel_rfl) ?_; conv => whnf) | (refine CallC.r ?_; conv => whnf))
              refine Pick.ix (xs := (List.range w).map (lf i)) (i := k) (by simpa using h) ?_
              rw [hrow2]
              ((conv => whnf); repeat first | (refine Br.no ?_; conv => whnf) | (refine Br.yes ?_; conv => whnf) | (refine Pick.draw rfl (by kernel_rfl) ?_; conv => whnf) | (refine Pick.drawM (by kernel_rfl) ?_; conv => whnf) | (refine CallC.r ?_; conv => whnf))
              refine Pick.w64 (by omega) ?_
              ((conv => whnf); repeat first | (refine Br.no ?_; conv => whnf) | (refine Br.yes ?_; conv => whnf) | (refine Pick.draw rfl (by kernel_rfl) ?_; conv => whnf) | (refine Pick.drawM (by kernel_rfl) ?_; conv => whnf) | (refine CallC.r ?_; conv => whnf))
              refine Pick.mk _ (s_addTimes ((List.range w).map (lf i)) ((List.range w).map (lf s.pv.length)) (p - lf i k) p _ rfl ?_ ?_ hp ⟨by omega, by omega⟩ ?_ ?_) ?_
              · intro x hx
                obtain ⟨j, hj, rfl⟩ := List.mem_map.1 hx
                exact hlel _ _ h5 (List.mem_range.1 hj)
              · intro x hx
                obtain ⟨j, hj, rfl⟩ := List.mem_map.1 hx
                exact hlel _ _ htop (List.mem_range.1 hj)
              · simp
              · simp; omega
              ((conv => whnf); repeat first | (refine Br.no ?_; conv => whnf) | (refine Br.yes ?_; conv => whnf) | (refine Pick.draw rfl (by kernel_rfl) ?_; conv => whnf) | (refine Pick.drawM (by kernel_rfl) ?_; conv => whnf) | (refine CallC.r ?_; conv => whnf))
              refine Side.mk (by rw [htl]; omega) ?_
              ((conv => whnf); repeat first | (refine Br.no ?_; conv => whnf) | (refine Br.yes ?_; conv => whnf) | (refine Pick.draw rfl (by kernel_rfl) ?_; conv => whnf) | (refine Pick.drawM (by kernel_rfl) ?_; conv => whnf) | (refine CallC.r ?_; conv => whnf))
              have hset3 : ∀ (n : Nat) (y : List CV), n = i → y = Enc.enc (addT p ((List.range w).map (lf i)) ((List.range w).map (lf s.pv.length)) (p - lf i k)) → ((tab r w (partF lf p s.pv.length k i)).map (Enc.enc (α := List Int))).set n y = (tab r w (partF lf p s.pv.length k (i + 1))).map Enc.enc := fun n y e1 e2 => by
                have e3 : addT p ((List.range w).map (lf i)) ((List.range w).map (lf s.pv.length)) (p - lf i k) = (List.range w).map (clearF lf p s.pv.length k i) := by
                  simp only [addT, List.length_map, List.length_range]
                  refine List.map_congr_left fun j hj => ?_
                  have hj := List.mem_range.1 hj
                  simp [clearF, hne, List.getD_eq_getElem?_getD, hj]
                rw [e1, e2, e3, ← List.map_set, tab_set h5, partF_succ]
              rw [hset3]
              rotate_left
              · rfl
              · rfl
              refine Pick.at64 (z := (i + 1 : Nat)) (by simp) (by omega) ?_
              ((conv => whnf); repeat first | (refine Br.no ?_; conv => whnf) | (refine Br.yes ?_; conv => whnf) | (refine Pick.draw rfl (by kernel_rfl) ?_; conv => whnf) | (refine Pick.drawM (by kernel_rfl) ?_; conv => whnf) | (refine CallC.r ?_; conv => whnf))
              exact ih2 (i + 1) (by omega) (by omega)
            · have h8 : lf i k = 0 := by simpa using h7
              refine Pick.at64 (z := (i + 1 : Nat)) (by simp) (by omega) ?_
              ((conv => whnf); repeat first | (refine Br.no ?_; conv => whnf) | (refine Br.yes ?_; conv => whnf) | (refine Pick.draw rfl (by kernel_rfl) ?_; conv => whnf) | (refine Pick.drawM (by kernel_rfl) ?_; conv => whnf) | (refine CallC.r ?_; conv => whnf))
              have hn := ih2 (i + 1) (by omega) (by omega)
              rw [partF_keep hlel (Or.inr h8)] at hn
              exact hn
          · have he : i = s.pv.length := by rw [hpl] at h6; simp at h6; omega
            refine Pick.at64 (z := (i + 1 : Nat)) (by simp) (by omega) ?_
            ((conv => whnf); repeat first | (refine Br.no ?_; conv => whnf) | (refine Br.yes ?_; conv => whnf) | (refine Pick.draw rfl (by kernel_rfl) ?_; conv => whnf) | (refine Pick.drawM (by kernel_rfl) ?_; conv => whnf) | (refine CallC.r ?_; conv => whnf))
            have hn := ih2 (i + 1) (by omega) (by omega)
            rw [partF_keep hlel (Or.inl he)] at hn
            exact hn
        · simp [tab_len] at h5
          obtain rfl : i = r := by omega
          refine Side.mk (by rw [hpl]; simp; omega) ?_
          ((conv => whnf); repeat first | (refine Br.no ?_; conv => whnf) | (refine Br.yes ?_; conv => whnf) | (refine Pick.draw rfl (by kernel_rfl) ?_; conv => whnf) | (refine Pick.drawM (by kernel_rfl) ?_; conv => whnf) | (refine CallC.r ?_; conv => whnf))
          refine Pick.at64 (z := (k + 1 : Nat)) (by simp) (by omega) ?_
          ((conv => whnf); repeat first | (refine Br.no ?_; conv => whnf) | (refine Br.yes ?_; conv => whnf) | (refine Pick.draw rfl (by kernel_rfl) ?_; conv => whnf) | (refine Pick.drawM (by kernel_rfl) ?_; conv => whnf) | (refine CallC.r ?_; conv => whnf))
          have e : stepE p i s k = ⟨clearF lf p s.pv.length k, s.pv ++ [k], d * ld % p, (if at0 i k s = s.pv.length then s.dS else p - s.dS) * leadV i k s % p⟩ := by
            unfold stepE; rw [if_pos hq, hg, hdet, hld, hlf]
          have hn := ih (k + 1) (by omega) (by omega)
          rw [hst, e] at hn
          have e2 : pvI (⟨clearF lf p s.pv.length k, s.pv ++ [k], d * ld % p, (if at0 i k s = s.pv.length then s.dS else p - s.dS) * leadV i k s % p⟩ : ES) = pvI s ++ [(k : Int)] := by simp [pvI]
          rw [e2, List.map_append] at hn
          simp only at hn
          rw [partF_all]
          exact hn
    · rw [if_neg hq]
      ((conv => whnf); repeat first | (refine Br.no ?_; conv => whnf) | (refine Br.yes ?_; conv => whnf) | (refine Pick.draw rfl (by kernel_rfl) ?_; conv => whnf) | (refine Pick.drawM (by kernel_rfl) ?_; conv => whnf) | (refine CallC.r ?_; conv => whnf))
      refine Side.mk (by rfl) ?_
      ((conv => whnf); repeat first | (refine Br.no ?_; conv => whnf) | (refine Br.yes ?_; conv => whnf) | (refine Pick.draw rfl (by kernel_rfl) ?_; conv => whnf) | (refine Pick.drawM (by kernel_rfl) ?_; conv => whnf) | (refine CallC.r ?_; conv => whnf))
      refine Pick.at64 (z := ((k + 1 : Nat) : Int)) (by omega) (by omega) ?_
      ((conv => whnf); repeat first | (refine Br.no ?_; conv => whnf) | (refine Br.yes ?_; conv => whnf) | (refine Pick.draw rfl (by kernel_rfl) ?_; conv => whnf) | (refine Pick.drawM (by kernel_rfl) ?_; conv => whnf) | (refine CallC.r ?_; conv => whnf))
      have e : stepE p r s k = { s with dI := 0 } := by unfold stepE; rw [if_neg hq]
      have hn := ih (k + 1) (by omega) (by omega)
      rw [hst, e] at hn
      exact hn
  · simp at h
    obtain rfl : k = w := by omega
    rw [hs]
end Go.Proofs.Ytaplnfcnajpmgaa.Pi
