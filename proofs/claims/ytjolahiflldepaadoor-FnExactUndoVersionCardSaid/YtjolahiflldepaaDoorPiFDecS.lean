/- The decimal text of a small number, the reference. No statement of the seat is proved here. -/
import Derived.Test.YtjolahiflldepaaDoorPiFDec
namespace Go.Proofs.YtjolahiflldepaaDoor.Pi
open Go
set_option maxRecDepth 10000
set_option maxHeartbeats 1600000
set_option linter.unusedVariables false

def dgt (n j : Nat) : List CV := [CV.int .u8 ((48 + n / 10 ^ j % 10 : Nat) : Int)]
def dgts (n i : Nat) : List (List CV) := (List.range i).map (dgt n)
def rdgt (n l i : Nat) : List (List CV) := (List.range i).map fun j => dgt n (l - 1 - j)
theorem dgts_succ (n i : Nat) : dgts n (i + 1) = dgts n i ++ [dgt n i] := by simp [dgts, List.range_succ]
theorem rdgt_succ (n l i : Nat) : rdgt n l (i + 1) = rdgt n l i ++ [dgt n (l - 1 - i)] := by simp [rdgt, List.range_succ]
theorem dgts_len (n i : Nat) : (dgts n i).length = i := by simp [dgts]
theorem rdgt_len (n l i : Nat) : (rdgt n l i).length = i := by simp [rdgt]

theorem dec_rows {n : Nat} (h : n ≤ 32) (h0 : 1 ≤ n) : bytesRows (decB n) = rdgt n (if n < 10 then 1 else 2) (if n < 10 then 1 else 2) := by
  rcases upto32 h with rfl | rfl | rfl | rfl | rfl | rfl | rfl | rfl | rfl | rfl | rfl | rfl | rfl | rfl | rfl | rfl | rfl | rfl | rfl | rfl | rfl | rfl | rfl | rfl | rfl | rfl | rfl | rfl | rfl | rfl | rfl | rfl | rfl
  · omega
  all_goals (simp [bytesRows, decB, rdgt, dgt, List.range_succ] <;> rfl)

theorem s_l01Dec (n : Nat) (h0 : 1 ≤ n) (h : n ≤ 32) : Sat Tryd.prog 27 [(false, [.int .i64 (n : Int)])] (.one (.c (.str (decB n))), []) := by
  refine Sat.intro tok mixed Tryd.func27 rfl rfl ?_
  ((conv => whnf); repeat first | (refine Br.no ?_; conv => whnf) | (refine Br.yes ?_; conv => whnf) | (refine Pick.draw rfl (by kernel_rfl) ?_; conv => whnf) | (refine Pick.drawM (by kernel_rfl) ?_; conv => whnf) | (refine CallC.r ?_; conv => whnf))
  refine Br.mk (fun g => absurd g (by simp; omega)) (fun _ => ?_)
  ((conv => whnf); repeat first | (refine Br.no ?_; conv => whnf) | (refine Br.yes ?_; conv => whnf) | (refine Pick.draw rfl (by kernel_rfl) ?_; conv => whnf) | (refine Pick.drawM (by kernel_rfl) ?_; conv => whnf) | (refine CallC.r ?_; conv => whnf))
  refine Pick.mk [0, 3, 4] trivial ?_
  ((conv => whnf); repeat first | (refine Br.no ?_; conv => whnf) | (refine Br.yes ?_; conv => whnf) | (refine Pick.draw rfl (by kernel_rfl) ?_; conv => whnf) | (refine Pick.drawM (by kernel_rfl) ?_; conv => whnf) | (refine CallC.r ?_; conv => whnf))
  refine LoopL.over (fun (i : Nat) => [(4, .one (.c (.int .i64 (((n / 10 ^ i : Nat) : Int)))))]) (fun (i : Nat) => [(192, Ob.arr 1 (dgts n i))]) (fun (i : Nat) => n / 10 ^ i) (fun (i : Nat) => i ≤ 2 ∧ (i = 0 ∨ 0 < n / 10 ^ (i - 1))) ?_ 0 ⟨by omega, .inl rfl⟩ (by simp [dgts]; rfl)
  intro i ⟨hi, hz⟩ ih
  ((conv => whnf); repeat first | (refine Br.no ?_; conv => whnf) | (refine Br.yes ?_; conv => whnf) | (refine Pick.draw rfl (by kernel_rfl) ?_; conv => whnf) | (refine Pick.drawM (by kernel_rfl) ?_; conv => whnf) | (refine CallC.r ?_; conv => whnf))
  refine Br.mk (fun g => ?_) (fun g => ?_) <;> ((conv => whnf); repeat first | (refine Br.no ?_; conv => whnf) | (refine Br.yes ?_; conv => whnf) | (refine Pick.draw rfl (by kernel_rfl) ?_; conv => whnf) | (refine Pick.drawM (by kernel_rfl) ?_; conv => whnf) | (refine CallC.r ?_; conv => whnf))
  · have hn0 : 0 < n / 10 ^ i := Nat.pos_of_ne_zero fun e => by rw [e] at g; simp at g
    have hi1 : i < 2 := by
      rcases Nat.lt_or_ge i 2 with h2 | h2
      · exact h2
      · obtain rfl : i = 2 := by omega
        omega
    have hq : n / 10 ^ (i + 1) = n / 10 ^ i / 10 := by rw [Nat.pow_succ, Nat.div_div_eq_div_mul]
    have hb : n / 10 ^ i ≤ n := Nat.div_le_self _ _
    refine Side.mk (by decide) ?_
    ((conv => whnf); repeat first | (refine Br.no ?_; conv => whnf) | (refine Br.yes ?_; conv => whnf) | (refine Pick.draw rfl (by kernel_rfl) ?_; conv => whnf) | (refine Pick.drawM (by kernel_rfl) ?_; conv => whnf) | (refine CallC.r ?_; conv => whnf))
    have hm : Int.tmod ((n / 10 ^ i : Nat) : Int) 10 = ((n / 10 ^ i % 10 : Nat) : Int) := by rw [Int.tmod_eq_emod_of_nonneg (by omega)]; omega
    rw [hm]
    ((conv => whnf); repeat first | (refine Br.no ?_; conv => whnf) | (refine Br.yes ?_; conv => whnf) | (refine Pick.draw rfl (by kernel_rfl) ?_; conv => whnf) | (refine Pick.drawM (by kernel_rfl) ?_; conv => whnf) | (refine CallC.r ?_; conv => whnf))
    refine Pick.at64 (z := ((48 + n / 10 ^ i % 10 : Nat) : Int)) (by push_cast; rfl) (by omega) ?_
    ((conv => whnf); repeat first | (refine Br.no ?_; conv => whnf) | (refine Br.yes ?_; conv => whnf) | (refine Pick.draw rfl (by kernel_rfl) ?_; conv => whnf) | (refine Pick.drawM (by kernel_rfl) ?_; conv => whnf) | (refine CallC.r ?_; conv => whnf))
    refine Pick.mk ((48 + n / 10 ^ i % 10 : Nat) : Int) (IntWalk.u8_in _ ⟨by omega, by omega⟩) ?_
    ((conv => whnf); repeat first | (refine Br.no ?_; conv => whnf) | (refine Br.yes ?_; conv => whnf) | (refine Pick.draw rfl (by kernel_rfl) ?_; conv => whnf) | (refine Pick.drawM (by kernel_rfl) ?_; conv => whnf) | (refine CallC.r ?_; conv => whnf))
    refine Side.mk (by rw [dgts_len]; simp; omega) ?_
    ((conv => whnf); repeat first | (refine Br.no ?_; conv => whnf) | (refine Br.yes ?_; conv => whnf) | (refine Pick.draw rfl (by kernel_rfl) ?_; conv => whnf) | (refine Pick.drawM (by kernel_rfl) ?_; conv => whnf) | (refine CallC.r ?_; conv => whnf))
    refine Side.mk (by decide) ?_
    ((conv => whnf); repeat first | (refine Br.no ?_; conv => whnf) | (refine Br.yes ?_; conv => whnf) | (refine Pick.draw rfl (by kernel_rfl) ?_; conv => whnf) | (refine Pick.drawM (by kernel_rfl) ?_; conv => whnf) | (refine CallC.r ?_; conv => whnf))
    refine Pick.at64 (z := ((n / 10 ^ (i + 1) : Nat) : Int)) (by rw [hq, Int.tdiv_eq_ediv_of_nonneg (by omega)]; omega) (by omega) ?_
    ((conv => whnf); repeat first | (refine Br.no ?_; conv => whnf) | (refine Br.yes ?_; conv => whnf) | (refine Pick.draw rfl (by kernel_rfl) ?_; conv => whnf) | (refine Pick.drawM (by kernel_rfl) ?_; conv => whnf) | (refine CallC.r ?_; conv => whnf))
    have hn := ih (i + 1) ⟨by omega, .inr (by rw [Nat.add_sub_cancel]; exact hn0)⟩ (by rw [hq]; omega)
    rw [dgts_succ] at hn
    exact hn
  · have gz : n / 10 ^ i = 0 := by simp only [bne_eq_false_iff_eq] at g; omega
    have hl : i = if n < 10 then 1 else 2 := by
      rcases hz with rfl | hz
      · simp at gz; omega
      · have h2 : i = 1 ∨ i = 2 := by
          rcases Nat.lt_or_ge i 1 with h3 | h3
          · obtain rfl : i = 0 := by omega
            simp at gz; omega
          · omega
        rcases h2 with rfl | rfl
        · rw [if_pos (by omega)]
        · rw [if_neg (by simp at hz; omega)]
    have h1 : 1 ≤ i := by rw [hl]; split <;> omega
    refine Pick.at64 (z := ((i : Nat) : Int) - 1) (by rw [dgts_len]) (by omega) ?_
    ((conv => whnf); repeat first | (refine Br.no ?_; conv => whnf) | (refine Br.yes ?_; conv => whnf) | (refine Pick.draw rfl (by kernel_rfl) ?_; conv => whnf) | (refine Pick.drawM (by kernel_rfl) ?_; conv => whnf) | (refine CallC.r ?_; conv => whnf))
    refine Pick.mk [3, 6, 7, 1000192] trivial ?_
    ((conv => whnf); repeat first | (refine Br.no ?_; conv => whnf) | (refine Br.yes ?_; conv => whnf) | (refine Pick.draw rfl (by kernel_rfl) ?_; conv => whnf) | (refine Pick.drawM (by kernel_rfl) ?_; conv => whnf) | (refine CallC.r ?_; conv => whnf))
    refine LoopL.over (fun (k : Nat) => [(7, .one (.c (.int .i64 ((i : Int) - 1 - (k : Int)))))]) (fun (k : Nat) => [(384, Ob.arr 1 (rdgt n i k))]) (fun (k : Nat) => i - k) (fun (k : Nat) => k ≤ i) ?_ 0 (Nat.zero_le _) (by simp [rdgt]; rfl)
    intro k hk ih2
    ((conv => whnf); repeat first | (refine Br.no ?_; conv => whnf) | (refine Br.yes ?_; conv => whnf) | (refine Pick.draw rfl (by kernel_rfl) ?_; conv => whnf) | (refine Pick.drawM (by kernel_rfl) ?_; conv => whnf) | (refine CallC.r ?_; conv => whnf))
    refine Br.mk (fun g2 => ?_) (fun g2 => ?_) <;> ((conv => whnf); repeat first | (refine Br.no ?_; conv => whnf) | (refine Br.yes ?_; conv => whnf) | (refine Pick.draw rfl (by kernel_rfl) ?_; conv => whnf) | (refine Pick.drawM (by kernel_rfl) ?_; conv => whnf) | (refine CallC.r ?_; conv => whnf))
    · have hk2 : k < i := by simp at g2; omega
      refine Pick.mk (dgt n (i - 1 - k)) ⟨by omega, by rw [show ((i : Int) - 1 - k).toNat = i - 1 - k by omega]; simp only [dgts, List.getElem?_map, List.getElem?_range (show i - 1 - k < i by omega), Option.map_some]⟩ ?_
      ((conv => whnf); repeat first | (refine Br.no ?_; conv => whnf) | (refine Br.yes ?_; conv => whnf) | (refine Pick.draw rfl (by kernel_rfl) ?_; conv => whnf) | (refine Pick.drawM (by kernel_rfl) ?_; conv => whnf) | (refine CallC.r ?_; conv => whnf))
      refine Side.mk (by rw [rdgt_len]; simp; omega) ?_
      ((conv => whnf); repeat first | (refine Br.no ?_; conv => whnf) | (refine Br.yes ?_; conv => whnf) | (refine Pick.draw rfl (by kernel_rfl) ?_; conv => whnf) | (refine Pick.drawM (by kernel_rfl) ?_; conv => whnf) | (refine CallC.r ?_; conv => whnf))
      refine Pick.at64 (z := (i : Int) - 1 - ((k + 1 : Nat) : Int)) (by push_cast; omega) (by omega) ?_
      ((conv => whnf); repeat first | (refine Br.no ?_; conv => whnf) | (refine Br.yes ?_; conv => whnf) | (refine Pick.draw rfl (by kernel_rfl) ?_; conv => whnf) | (refine Pick.drawM (by kernel_rfl) ?_; conv => whnf) | (refine CallC.r ?_; conv => whnf))
      have hn := ih2 (k + 1) (by omega) (by omega)
      rw [rdgt_succ] at hn
      exact hn
    · have hk2 : k = i := by simp at g2; omega
      subst hk2
      refine Pick.mk (decB n) (by rw [hl]; exact dec_rows h h0) ?_
      ((conv => whnf); repeat first | (refine Br.no ?_; conv => whnf) | (refine Br.yes ?_; conv => whnf) | (refine Pick.draw rfl (by kernel_rfl) ?_; conv => whnf) | (refine Pick.drawM (by kernel_rfl) ?_; conv => whnf) | (refine CallC.r ?_; conv => whnf))
      exact ResOK.same rfl
end Go.Proofs.YtjolahiflldepaaDoor.Pi
