/- The decimal text of a number, the program and the reference. No statement of the seat is proved here. -/
import Derived.Test.YtnafogjagbhdbaaDoorPiLayT
namespace Go.Proofs.YtnafogjagbhdbaaDoor.Pi
open Go
set_option maxRecDepth 10000
set_option maxHeartbeats 1600000
set_option linter.unusedVariables false

def dgt (n j : Nat) : List CV := [CV.int .u8 ((48 + n / 10 ^ j % 10 : Nat) : Int)]
def dgts (n i : Nat) : List (List CV) := (List.range i).map (dgt n)
def rdgt (n l i : Nat) : List (List CV) := (List.range i).map fun j => dgt n (l - 1 - j)
theorem dgts_succ (n i : Nat) : dgts n (i + 1) = dgts n i ++ [dgt n i] := by simp [dgts, List.range_succ]
theorem rdgt_succ (n l i : Nat) : rdgt n l (i + 1) = rdgt n l i ++ [dgt n (l - 1 - i)] := by simp [rdgt, List.range_succ]
theorem dgts_len (n i : Nat) : (dgts n i).length = i := by simp [dgts]
theorem rdgt_len (n l i : Nat) : (rdgt n l i).length = i := by simp [rdgt]

theorem itoa_rows (n : Nat) : bytesRows (itoaB n) = rdgt n (Lib.nDigits n) (Lib.nDigits n) := by
  have e : Lib.itoa (n : Int) = Lib.decDigits n := by simp [Lib.itoa]
  rw [bytesRows, itoaB, ByteArray.toList_eq, e, Lib.decDigits_eq, rdgt]
  simp only [List.map_map]
  refine List.map_congr_left fun t ht => ?_
  simp only [Function.comp_apply, Lib.dg, dgt]
  rw [UInt8.toNat_ofNat_of_lt' (show 48 + n / 10 ^ (Lib.nDigits n - 1 - t) % 10 < 256 by omega)]
theorem nd_lt {n i : Nat} (h : 0 < n / 10 ^ i) : i < Lib.nDigits n := by
  have h1 := Lib.lt_pow_nDigits n
  have h2 : 10 ^ i ≤ n := by
    rcases Nat.lt_or_ge n (10 ^ i) with h2 | h2
    · rw [Nat.div_eq_of_lt h2] at h; omega
    · exact h2
  exact (Nat.pow_lt_pow_iff_right (by decide : 1 < 10)).1 (Nat.lt_of_le_of_lt h2 h1)
theorem nd_eq {n i : Nat} (h : n / 10 ^ i = 0) (h2 : i = 0 ∨ 0 < n / 10 ^ (i - 1)) (h0 : 1 ≤ n) : i = Lib.nDigits n := by
  rcases h2 with rfl | h2
  · simp at h; omega
  · have h1 := nd_lt h2
    have h3 : n < 10 ^ i := by
      rcases Nat.lt_or_ge n (10 ^ i) with h3 | h3
      · exact h3
      · have := Nat.div_pos h3 (Nat.pow_pos (by decide : 0 < 10)); omega
    rcases Nat.lt_or_ge (Lib.nDigits n) i with h4 | h4
    · omega
    · rcases Nat.lt_or_ge i (Lib.nDigits n) with h5 | h5
      · exfalso
        have hk : 1 ≤ i := by
          rcases Nat.eq_zero_or_pos i with rfl | h6
          · simp at h3; omega
          · exact h6
        have hp : 10 ^ (i - 1) ≤ n := by
          rcases Nat.lt_or_ge n (10 ^ (i - 1)) with h6 | h6
          · rw [Nat.div_eq_of_lt h6] at h2; omega
          · exact h6
        have := Lib.nDigits_unique (i - 1) n hp (by rw [show i - 1 + 1 = i by omega]; exact h3)
        omega
      · omega
theorem nd19 {n : Nat} (h0 : 1 ≤ n) (h : n ≤ 1000000000000000000) : Lib.nDigits n ≤ 19 := by
  rcases Nat.lt_or_ge 19 (Lib.nDigits n) with h5 | h5
  · exfalso
    have h6 : 1 < Lib.nDigits n := by omega
    have h7 : ∀ m : Nat, 10 ^ 18 < m → m ≤ n → False := fun m a b => by omega
    have h8 : ∀ k : Nat, Lib.nDigits n = k + 1 → 10 ^ k ≤ n := fun k hk => by
      rcases Nat.lt_or_ge n (10 ^ k) with h9 | h9
      · exfalso
        cases k with
        | zero => simp at h9; omega
        | succ k =>
          have h10 : 0 < n / 10 ^ k ∨ n / 10 ^ k = 0 := (Nat.eq_zero_or_pos _).symm
          rcases h10 with h10 | h10
          · have hp : 10 ^ k ≤ n := by
              rcases Nat.lt_or_ge n (10 ^ k) with h6 | h6
              · rw [Nat.div_eq_of_lt h6] at h10; omega
              · exact h6
            have := Lib.nDigits_unique k n hp h9
            omega
          · have : ∀ j : Nat, n < 10 ^ (j + 1) → Lib.nDigits n ≤ j + 1 := fun j => by
              induction j with
              | zero => intro hj; rw [Lib.nDigits_small (by simpa using hj)]; omega
              | succ j ih =>
                intro hj
                rcases Nat.lt_or_ge n (10 ^ (j + 1)) with h11 | h11
                · have := ih h11; omega
                · rw [Lib.nDigits_unique (j + 1) n h11 hj]; omega
            have := this k (by omega)
            omega
      · exact h9
    obtain ⟨k, hk⟩ : ∃ k, Lib.nDigits n = k + 1 := ⟨Lib.nDigits n - 1, by omega⟩
    have h9 := h8 k hk
    have h10 : 10 ^ 19 ≤ 10 ^ k := Nat.pow_le_pow_right (by decide) (by omega)
    have h11 : (10 : Nat) ^ 19 = 10000000000000000000 := by decide
    omega
  · exact h5
theorem itoa_size {n : Int} (h0 : 0 ≤ n) (h : n ≤ 1000000000000000000) : (itoaB n).size ≤ 19 := by
  obtain ⟨m, rfl⟩ : ∃ m : Nat, n = m := ⟨n.toNat, by omega⟩
  have e : Lib.itoa (m : Int) = Lib.decDigits m := by simp [Lib.itoa]
  show (Lib.itoa (m : Int)).toArray.size ≤ 19
  rw [e, List.size_toArray, Lib.decDigits_length]
  rcases Nat.eq_zero_or_pos m with rfl | hm
  · rw [Lib.nDigits_small (by decide)]; decide
  · exact nd19 hm (by omega)
theorem s_Decimal (n : Int) (hn : I64 n) : Sat Tryd.prog 33 [(false, [.int .i64 n])] (.one (.c (.str (itoaB n))), []) := by
  refine Sat.intro tok mixed Tryd.func33 rfl rfl ?_
  ((conv => whnf); repeat ((first | refine B0 ?_ | refine B1 ?_ | refine D1 ?_ | refine D2 ?_ | refine CallC.r ?_); conv => whnf))
  refine Pick.mk _ (s_FormatI n hn) ?_
  ((conv => whnf); repeat ((first | refine B0 ?_ | refine B1 ?_ | refine D1 ?_ | refine D2 ?_ | refine CallC.r ?_); conv => whnf))
  exact ResOK.same rfl
theorem s_l01DecP (n : Nat) (h0 : 1 ≤ n) (h : n ≤ 1000000000000000000) : Sat Tryd.prog 48 [(false, [.int .i64 (n : Int)])] (.one (.c (.str (itoaB n))), []) := by
  refine Sat.intro tok mixed Tryd.func48 rfl rfl ?_
  ((conv => whnf); repeat ((first | refine B0 ?_ | refine B1 ?_ | refine D1 ?_ | refine D2 ?_ | refine CallC.r ?_); conv => whnf))
  refine Br.mk (fun g => absurd g (by simp; omega)) (fun _ => ?_)
  ((conv => whnf); repeat ((first | refine B0 ?_ | refine B1 ?_ | refine D1 ?_ | refine D2 ?_ | refine CallC.r ?_); conv => whnf))
  have h19 := nd19 h0 h
  refine Pick.mk [0, 3, 4] trivial ?_
  ((conv => whnf); repeat ((first | refine B0 ?_ | refine B1 ?_ | refine D1 ?_ | refine D2 ?_ | refine CallC.r ?_); conv => whnf))
  refine LoopL.over (fun (i : Nat) => [(4, .one (.c (.int .i64 (((n / 10 ^ i : Nat) : Int)))))]) (fun (i : Nat) => [(192, Ob.arr 1 (dgts n i))]) (fun (i : Nat) => n / 10 ^ i) (fun (i : Nat) => i ≤ Lib.nDigits n ∧ (i = 0 ∨ 0 < n / 10 ^ (i - 1))) ?_ 0 ⟨by omega, .inl rfl⟩ (by simp [dgts]; rfl)
  intro i ⟨hi, hz⟩ ih
  ((conv => whnf); repeat ((first | refine B0 ?_ | refine B1 ?_ | refine D1 ?_ | refine D2 ?_ | refine CallC.r ?_); conv => whnf))
  refine Br.mk (fun g => ?_) (fun g => ?_) <;> ((conv => whnf); repeat ((first | refine B0 ?_ | refine B1 ?_ | refine D1 ?_ | refine D2 ?_ | refine CallC.r ?_); conv => whnf))
  · have hn0 : 0 < n / 10 ^ i := Nat.pos_of_ne_zero fun e => by rw [e] at g; simp at g
    have hi1 := nd_lt hn0
    have hq : n / 10 ^ (i + 1) = n / 10 ^ i / 10 := by rw [Nat.pow_succ, Nat.div_div_eq_div_mul]
    have hb : n / 10 ^ i ≤ n := Nat.div_le_self _ _
    refine Side.mk (by decide) ?_
    ((conv => whnf); repeat ((first | refine B0 ?_ | refine B1 ?_ | refine D1 ?_ | refine D2 ?_ | refine CallC.r ?_); conv => whnf))
    have hm : Int.tmod ((n / 10 ^ i : Nat) : Int) 10 = ((n / 10 ^ i % 10 : Nat) : Int) := by rw [Int.tmod_eq_emod_of_nonneg (by omega)]; omega
    rw [hm]
    ((conv => whnf); repeat ((first | refine B0 ?_ | refine B1 ?_ | refine D1 ?_ | refine D2 ?_ | refine CallC.r ?_); conv => whnf))
    refine Pick.at64 (z := ((48 + n / 10 ^ i % 10 : Nat) : Int)) (by push_cast; rfl) (by omega) ?_
    ((conv => whnf); repeat ((first | refine B0 ?_ | refine B1 ?_ | refine D1 ?_ | refine D2 ?_ | refine CallC.r ?_); conv => whnf))
    refine Pick.mk ((48 + n / 10 ^ i % 10 : Nat) : Int) (IntWalk.u8_in _ ⟨by omega, by omega⟩) ?_
    ((conv => whnf); repeat ((first | refine B0 ?_ | refine B1 ?_ | refine D1 ?_ | refine D2 ?_ | refine CallC.r ?_); conv => whnf))
    refine Side.mk (by rw [dgts_len]; simp; omega) ?_
    ((conv => whnf); repeat ((first | refine B0 ?_ | refine B1 ?_ | refine D1 ?_ | refine D2 ?_ | refine CallC.r ?_); conv => whnf))
    refine Side.mk (by decide) ?_
    ((conv => whnf); repeat ((first | refine B0 ?_ | refine B1 ?_ | refine D1 ?_ | refine D2 ?_ | refine CallC.r ?_); conv => whnf))
    refine Pick.at64 (z := ((n / 10 ^ (i + 1) : Nat) : Int)) (by rw [hq, Int.tdiv_eq_ediv_of_nonneg (by omega)]; omega) (by omega) ?_
    ((conv => whnf); repeat ((first | refine B0 ?_ | refine B1 ?_ | refine D1 ?_ | refine D2 ?_ | refine CallC.r ?_); conv => whnf))
    have hn := ih (i + 1) ⟨by omega, .inr (by rw [Nat.add_sub_cancel]; exact hn0)⟩ (by rw [hq]; omega)
    rw [dgts_succ] at hn
    exact hn
  · have gz : n / 10 ^ i = 0 := by simp only [bne_eq_false_iff_eq] at g; omega
    have hl : i = Lib.nDigits n := nd_eq gz hz h0
    have h1 : 1 ≤ i := by rw [hl]; exact Lib.nDigits_pos n
    refine Pick.at64 (z := ((i : Nat) : Int) - 1) (by rw [dgts_len]) (by omega) ?_
    ((conv => whnf); repeat ((first | refine B0 ?_ | refine B1 ?_ | refine D1 ?_ | refine D2 ?_ | refine CallC.r ?_); conv => whnf))
    refine Pick.mk [3, 6, 7, 1000192] trivial ?_
    ((conv => whnf); repeat ((first | refine B0 ?_ | refine B1 ?_ | refine D1 ?_ | refine D2 ?_ | refine CallC.r ?_); conv => whnf))
    refine LoopL.over (fun (k : Nat) => [(7, .one (.c (.int .i64 ((i : Int) - 1 - (k : Int)))))]) (fun (k : Nat) => [(384, Ob.arr 1 (rdgt n i k))]) (fun (k : Nat) => i - k) (fun (k : Nat) => k ≤ i) ?_ 0 (Nat.zero_le _) (by simp [rdgt]; rfl)
    intro k hk ih2
    ((conv => whnf); repeat ((first | refine B0 ?_ | refine B1 ?_ | refine D1 ?_ | refine D2 ?_ | refine CallC.r ?_); conv => whnf))
    refine Br.mk (fun g2 => ?_) (fun g2 => ?_) <;> ((conv => whnf); repeat ((first | refine B0 ?_ | refine B1 ?_ | refine D1 ?_ | refine D2 ?_ | refine CallC.r ?_); conv => whnf))
    · have hk2 : k < i := by simp at g2; omega
      refine Pick.mk (dgt n (i - 1 - k)) ⟨by omega, by rw [show ((i : Int) - 1 - k).toNat = i - 1 - k by omega]; simp only [dgts, List.getElem?_map, List.getElem?_range (show i - 1 - k < i by omega), Option.map_some]⟩ ?_
      ((conv => whnf); repeat ((first | refine B0 ?_ | refine B1 ?_ | refine D1 ?_ | refine D2 ?_ | refine CallC.r ?_); conv => whnf))
      refine Side.mk (by rw [rdgt_len]; simp; omega) ?_
      ((conv => whnf); repeat ((first | refine B0 ?_ | refine B1 ?_ | refine D1 ?_ | refine D2 ?_ | refine CallC.r ?_); conv => whnf))
      refine Pick.at64 (z := (i : Int) - 1 - ((k + 1 : Nat) : Int)) (by push_cast; omega) (by omega) ?_
      ((conv => whnf); repeat ((first | refine B0 ?_ | refine B1 ?_ | refine D1 ?_ | refine D2 ?_ | refine CallC.r ?_); conv => whnf))
      have hn := ih2 (k + 1) (by omega) (by omega)
      rw [rdgt_succ] at hn
      exact hn
    · have hk2 : k = i := by simp at g2; omega
      subst hk2
      refine Pick.mk (itoaB n) (by rw [hl]; exact itoa_rows n) ?_
      ((conv => whnf); repeat ((first | refine B0 ?_ | refine B1 ?_ | refine D1 ?_ | refine D2 ?_ | refine CallC.r ?_); conv => whnf))
      exact ResOK.same rfl
theorem s_l01Dec (n : Nat) (h : n ≤ 1000000000000000000) : Sat Tryd.prog 48 [(false, [.int .i64 (n : Int)])] (.one (.c (.str (itoaB n))), []) := by
  rcases Nat.eq_zero_or_pos n with rfl | h0
  · refine Sat.intro tok mixed Tryd.func48 rfl rfl ?_
    ((conv => whnf); repeat ((first | refine B0 ?_ | refine B1 ?_ | refine D1 ?_ | refine D2 ?_ | refine CallC.r ?_); conv => whnf))
    refine ResOK.same ?_
    rw [show itoaB ((0 : Nat) : Int) = ⟨#[48]⟩ by simp [itoaB, Lib.itoa, Lib.decDigits_one]]
  · exact s_l01DecP n h0 h
end Go.Proofs.YtnafogjagbhdbaaDoor.Pi
