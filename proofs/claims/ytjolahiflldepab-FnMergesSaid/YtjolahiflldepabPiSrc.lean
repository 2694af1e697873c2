/- Numbers that are drawn out of bytes. No statement of the seat is proved here. -/
import Derived.Test.YtjolahiflldepabPiEnc
namespace Go.Proofs.Ytjolahiflldepab.Pi
open Go
set_option maxRecDepth 10000
set_option maxHeartbeats 1600000
set_option linter.unusedVariables false

theorem Dec.u8 {P : Program} {t : TypeId} (hu : P.underlying t = some (.int .u8)) (hs : P.cellsOf t = 1) : Dec P t UInt8 := ⟨hs, fun n cs h => by
  cases n with
  | zero => exact h.elim
  | succ n =>
    simp only [HasT, hu] at h
    obtain ⟨m, rfl, hw⟩ := h
    simp only [Lit.wf, Bool.and_eq_true, decide_eq_true_eq] at hw
    have hw : 0 ≤ m ∧ m ≤ 255 := hw
    have e : ((UInt8.ofNat m.toNat).toNat : Int) = m := by
      rw [UInt8.toNat_ofNat_of_lt' (show m.toNat < 256 by omega)]; omega
    exact ⟨UInt8.ofNat m.toNat, trivial, by show [CV.int .u8 m] = [CV.int .u8 ((UInt8.ofNat m.toNat).toNat : Int)]; rw [e]⟩⟩
structure Src where
  pos : Int
  seed : Int
def u64 (n : Int) : Int := IntKind.u64.wrap n
def byteAt (code : List UInt8) (k : Int) : Int := match code[k.toNat]? with | some b => (b.toNat : Int) | none => 0
theorem byteAt_lt (code : List UInt8) (k : Int) : 0 ≤ byteAt code k ∧ byteAt code k ≤ 255 := by
  unfold byteAt
  split
  · rename_i b _
    have := b.toNat_lt
    omega
  · omega
def lastB (seed : Int) : Int := IntKind.u64.wrap (BitVec.ofInt IntKind.u64.bits (seed.fdiv (2 ^ 40)) &&& BitVec.ofInt IntKind.u64.bits 255).toNat
theorem lastB_lt (seed : Int) : 0 ≤ lastB seed ∧ lastB seed ≤ 255 := by
  unfold lastB
  have h : (BitVec.ofInt IntKind.u64.bits (seed.fdiv (2 ^ 40)) &&& BitVec.ofInt IntKind.u64.bits 255).toNat ≤ 255 := by
    rw [BitVec.toNat_and]
    exact Nat.and_le_right
  generalize (BitVec.ofInt IntKind.u64.bits (seed.fdiv (2 ^ 40)) &&& BitVec.ofInt IntKind.u64.bits 255).toNat = n at h
  have e : IntKind.u64.wrap (n : Int) = n := by
    simp only [IntKind.wrap, IntKind.bits, IntKind.signed]; simp; omega
  omega
def seedS (code : List UInt8) (s : Src) : Int := u64 (u64 (u64 (s.seed * 6364136223846793005) + u64 (byteAt code s.pos)) + 1442695040888963407)
def nextS (code : List UInt8) (s : Src) : Int × Src := (if s.pos + 1 ≤ code.length then byteAt code s.pos else lastB (seedS code s), ⟨s.pos + 1, seedS code s⟩)
theorem nextS_lt (code : List UInt8) (s : Src) : 0 ≤ (nextS code s).1 ∧ (nextS code s).1 ≤ 255 := by
  unfold nextS
  split
  · exact byteAt_lt _ _
  · exact lastB_lt _
def pickS (code : List UInt8) (s : Src) (n : Int) : Int × Src :=
  if n ≤ 1 then (0, s) else if n > 200 then (((nextS code s).1 * 256 + (nextS code (nextS code s).2).1).tmod n, (nextS code (nextS code s).2).2) else ((nextS code s).1.tmod n, (nextS code s).2)
theorem pickS_lt (code : List UInt8) (s : Src) (n : Int) (h : 1 ≤ n) : 0 ≤ (pickS code s n).1 ∧ (pickS code s n).1 < n := by
  have h1 := nextS_lt code s
  have h2 := nextS_lt code (nextS code s).2
  unfold pickS
  split
  · simp only; omega
  · split
    · rw [Int.tmod_eq_emod_of_nonneg (by omega)]
      exact ⟨Int.emod_nonneg _ (by omega), Int.emod_lt_of_pos _ (by omega)⟩
    · rw [Int.tmod_eq_emod_of_nonneg (by omega)]
      exact ⟨Int.emod_nonneg _ (by omega), Int.emod_lt_of_pos _ (by omega)⟩
theorem pickS_pos (code : List UInt8) (s : Src) (n : Int) : s.pos ≤ (pickS code s n).2.pos ∧ (pickS code s n).2.pos ≤ s.pos + 2 := by
  unfold pickS
  split
  · simp only; omega
  · split <;> (simp only [nextS]; omega)

def srcX (code : List UInt8) (s : Src) : List XV := [.c (.slice 1 (code.map Enc.enc)), .c (.int .i64 s.pos), .c (.int .u64 s.seed)]

theorem s_next (code : List UInt8) (s : Src) (h0 : 0 ≤ s.pos) (hb : s.pos ≤ 1000000000) (hl : code.length ≤ 1048576) :
    SatM Try.prog 138 [.one (.pb 1000000 0 3)] [(1000000, .box (srcX code s))] (.one (.c (.int .i64 (nextS code s).1)), [(1000000, .box (srcX code (nextS code s).2))]) := by
  unfold srcX
  refine SatM.intro tok mixed Try.func138 rfl rfl ?_
  ((conv => whnf); repeat ((first | refine B0 ?_ | refine B1 ?_ | refine D1 ?_ | refine D2 ?_ | refine CallC.r ?_); conv => whnf))
  have hwf := byteAt_lt code s.pos
  refine Br.mk (fun h => ?_) (fun h => ?_) <;> ((conv => whnf); repeat ((first | refine B0 ?_ | refine B1 ?_ | refine D1 ?_ | refine D2 ?_ | refine CallC.r ?_); conv => whnf))
  · have h : s.pos.toNat < code.length := by simp only [List.length_map, decide_eq_true_eq] at h; omega
    have hbv : byteAt code s.pos = (code[s.pos.toNat].toNat : Int) := by unfold byteAt; rw [List.getElem?_eq_getElem h]
    refine Pick.mk (Enc.enc code[s.pos.toNat]) ⟨h0, by rw [List.getElem?_map, List.getElem?_eq_getElem h]; rfl⟩ ?_
    ((conv => whnf); repeat ((first | refine B0 ?_ | refine B1 ?_ | refine D1 ?_ | refine D2 ?_ | refine CallC.r ?_); conv => whnf))
    refine Pick.at64 (z := byteAt code s.pos) hbv.symm (by omega) ?_
    ((conv => whnf); repeat ((first | refine B0 ?_ | refine B1 ?_ | refine D1 ?_ | refine D2 ?_ | refine CallC.r ?_); conv => whnf))
    refine Pick.at64 (z := s.pos + 1) rfl (by omega) ?_
    ((conv => whnf); repeat ((first | refine B0 ?_ | refine B1 ?_ | refine D1 ?_ | refine D2 ?_ | refine CallC.r ?_); conv => whnf))
    refine Pick.mk _ rfl ?_
    ((conv => whnf); repeat ((first | refine B0 ?_ | refine B1 ?_ | refine D1 ?_ | refine D2 ?_ | refine CallC.r ?_); conv => whnf))
    refine Pick.mk _ rfl ?_
    ((conv => whnf); repeat ((first | refine B0 ?_ | refine B1 ?_ | refine D1 ?_ | refine D2 ?_ | refine CallC.r ?_); conv => whnf))
    refine Pick.mk _ rfl ?_
    ((conv => whnf); repeat ((first | refine B0 ?_ | refine B1 ?_ | refine D1 ?_ | refine D2 ?_ | refine CallC.r ?_); conv => whnf))
    refine Pick.mk _ rfl ?_
    ((conv => whnf); repeat ((first | refine B0 ?_ | refine B1 ?_ | refine D1 ?_ | refine D2 ?_ | refine CallC.r ?_); conv => whnf))
    refine Br.mk (fun h2 => ?_) (fun h2 => ?_) <;> ((conv => whnf); repeat ((first | refine B0 ?_ | refine B1 ?_ | refine D1 ?_ | refine D2 ?_ | refine CallC.r ?_); conv => whnf))
    · exact congrArg (fun z => (PV.one (XV.c (CV.int IntKind.i64 z)), _)) (by simp only [nextS]; rw [if_pos (by simpa using h2)])
    · refine Side.mk (by omega) ?_
      ((conv => whnf); repeat ((first | refine B0 ?_ | refine B1 ?_ | refine D1 ?_ | refine D2 ?_ | refine CallC.r ?_); conv => whnf))
      have hlb := lastB_lt (seedS code s)
      refine Pick.at64 (z := lastB (seedS code s)) rfl (by omega) ?_
      ((conv => whnf); repeat ((first | refine B0 ?_ | refine B1 ?_ | refine D1 ?_ | refine D2 ?_ | refine CallC.r ?_); conv => whnf))
      exact congrArg (fun z => (PV.one (XV.c (CV.int IntKind.i64 z)), _)) (by simp only [nextS]; rw [if_neg (by simpa using h2)])
  · have h : code.length ≤ s.pos.toNat := by simp only [List.length_map, decide_eq_false_iff_not] at h; omega
    have hbv : byteAt code s.pos = 0 := by unfold byteAt; rw [List.getElem?_eq_none h]
    refine Pick.at64 (z := s.pos + 1) rfl (by omega) ?_
    ((conv => whnf); repeat ((first | refine B0 ?_ | refine B1 ?_ | refine D1 ?_ | refine D2 ?_ | refine CallC.r ?_); conv => whnf))
    refine Pick.mk _ rfl ?_
    ((conv => whnf); repeat ((first | refine B0 ?_ | refine B1 ?_ | refine D1 ?_ | refine D2 ?_ | refine CallC.r ?_); conv => whnf))
    refine Pick.mk _ rfl ?_
    ((conv => whnf); repeat ((first | refine B0 ?_ | refine B1 ?_ | refine D1 ?_ | refine D2 ?_ | refine CallC.r ?_); conv => whnf))
    refine Pick.mk _ rfl ?_
    ((conv => whnf); repeat ((first | refine B0 ?_ | refine B1 ?_ | refine D1 ?_ | refine D2 ?_ | refine CallC.r ?_); conv => whnf))
    refine Pick.mk _ rfl ?_
    ((conv => whnf); repeat ((first | refine B0 ?_ | refine B1 ?_ | refine D1 ?_ | refine D2 ?_ | refine CallC.r ?_); conv => whnf))
    have hse : u64 (u64 (u64 (s.seed * 6364136223846793005) + u64 0) + 1442695040888963407) = seedS code s := by rw [seedS, hbv]
    refine Br.mk (fun h2 => absurd h2 (by simp; omega)) (fun h2 => ?_)
    ((conv => whnf); repeat ((first | refine B0 ?_ | refine B1 ?_ | refine D1 ?_ | refine D2 ?_ | refine CallC.r ?_); conv => whnf))
    refine Side.mk (by omega) ?_
    ((conv => whnf); repeat ((first | refine B0 ?_ | refine B1 ?_ | refine D1 ?_ | refine D2 ?_ | refine CallC.r ?_); conv => whnf))
    have hlb := lastB_lt (seedS code s)
    refine Pick.at64 (z := lastB (seedS code s)) (by rw [← hse]; rfl) (by omega) ?_
    ((conv => whnf); repeat ((first | refine B0 ?_ | refine B1 ?_ | refine D1 ?_ | refine D2 ?_ | refine CallC.r ?_); conv => whnf))
    have e : nextS code s = (lastB (seedS code s), ⟨s.pos + 1, seedS code s⟩) := by simp only [nextS]; rw [if_neg (by omega)]
    rw [e, ← hse]
    exact rfl

theorem s_pick (code : List UInt8) (s : Src) (n : Int) (h0 : 0 ≤ s.pos) (hb : s.pos ≤ 900000000) (hl : code.length ≤ 1048576) :
    SatM Try.prog 108 [.one (.pb 1000000 0 3), .one (.c (.int .i64 n))] [(1000000, .box (srcX code s))] (.one (.c (.int .i64 (pickS code s n).1)), [(1000000, .box (srcX code (pickS code s n).2))]) := by
  have h1 := nextS_lt code s
  have hp1 : (nextS code s).2.pos = s.pos + 1 := rfl
  refine SatM.intro tok mixed Try.func108 rfl rfl ?_
  ((conv => whnf); repeat ((first | refine B0 ?_ | refine B1 ?_ | refine D1 ?_ | refine D2 ?_ | refine CallC.r ?_); conv => whnf))
  refine Br.mk (fun h => ?_) (fun h => ?_) <;> ((conv => whnf); repeat ((first | refine B0 ?_ | refine B1 ?_ | refine D1 ?_ | refine D2 ?_); conv => whnf))
  · have e : pickS code s n = (0, s) := by simp only [pickS]; rw [if_pos (by simpa using h)]
    rw [e]; exact rfl
  have hn : ¬ n ≤ 1 := by simpa using h
  refine CallC.x ?_
  ((conv => whnf); repeat ((first | refine B0 ?_ | refine B1 ?_ | refine D1 ?_ | refine D2 ?_ | refine CallC.r ?_); conv => whnf))
  refine Pick.mk _ (s_next code s h0 (by omega) hl) ?_
  ((conv => whnf); repeat ((first | refine B0 ?_ | refine B1 ?_ | refine D1 ?_ | refine D2 ?_ | refine CallC.r ?_); conv => whnf))
  refine Br.mk (fun h2 => ?_) (fun h2 => ?_) <;> ((conv => whnf); repeat ((first | refine B0 ?_ | refine B1 ?_ | refine D1 ?_ | refine D2 ?_); conv => whnf))
  · have h2 : n > 200 := by simpa using h2
    have h3 := nextS_lt code (nextS code s).2
    refine Pick.at64 (z := (nextS code s).1 * 256) rfl (by omega) ?_
    ((conv => whnf); repeat ((first | refine B0 ?_ | refine B1 ?_ | refine D1 ?_ | refine D2 ?_); conv => whnf))
    refine CallC.x ?_
    ((conv => whnf); repeat ((first | refine B0 ?_ | refine B1 ?_ | refine D1 ?_ | refine D2 ?_ | refine CallC.r ?_); conv => whnf))
    refine Pick.mk _ (s_next code (nextS code s).2 (by omega) (by omega) hl) ?_
    ((conv => whnf); repeat ((first | refine B0 ?_ | refine B1 ?_ | refine D1 ?_ | refine D2 ?_ | refine CallC.r ?_); conv => whnf))
    refine Pick.w64 (by omega) ?_
    ((conv => whnf); repeat ((first | refine B0 ?_ | refine B1 ?_ | refine D1 ?_ | refine D2 ?_ | refine CallC.r ?_); conv => whnf))
    refine Side.mk (by omega) ?_
    ((conv => whnf); repeat ((first | refine B0 ?_ | refine B1 ?_ | refine D1 ?_ | refine D2 ?_ | refine CallC.r ?_); conv => whnf))
    have e : pickS code s n = (((nextS code s).1 * 256 + (nextS code (nextS code s).2).1).tmod n, (nextS code (nextS code s).2).2) := by simp only [pickS]; rw [if_neg hn, if_pos h2]
    rw [e]; exact rfl
  · have h2 : ¬ n > 200 := by simpa using h2
    refine Side.mk (by omega) ?_
    ((conv => whnf); repeat ((first | refine B0 ?_ | refine B1 ?_ | refine D1 ?_ | refine D2 ?_ | refine CallC.r ?_); conv => whnf))
    have e : pickS code s n = ((nextS code s).1.tmod n, (nextS code s).2) := by simp only [pickS]; rw [if_neg hn, if_neg h2]
    rw [e]; exact rfl

theorem s_one (code : List UInt8) (s : Src) (n : Int) (h0 : 0 ≤ s.pos) (hb : s.pos ≤ 900000000) (hl : code.length ≤ 1048576) :
    SatM Try.prog 107 [.one (.pb 1000000 0 3), .one (.c (.int .i64 n))] [(1000000, .box (srcX code s))] (.one (.c (.bool ((pickS code s n).1 == 0))), [(1000000, .box (srcX code (pickS code s n).2))]) := by
  refine SatM.intro tok mixed Try.func107 rfl rfl ?_
  ((conv => whnf); repeat ((first | refine B0 ?_ | refine B1 ?_ | refine D1 ?_ | refine D2 ?_); conv => whnf))
  refine CallC.x ?_
  ((conv => whnf); repeat ((first | refine B0 ?_ | refine B1 ?_ | refine D1 ?_ | refine D2 ?_ | refine CallC.r ?_); conv => whnf))
  refine Pick.mk _ (s_pick code s n h0 hb hl) ?_
  ((conv => whnf); repeat ((first | refine B0 ?_ | refine B1 ?_ | refine D1 ?_ | refine D2 ?_ | refine CallC.r ?_); conv => whnf))
  exact rfl

theorem s_text (code : List UInt8) (s : Src) (xs : List ByteArray) (h0 : 0 ≤ s.pos) (hb : s.pos ≤ 900000000) (hl : code.length ≤ 1048576) (hx : 1 ≤ xs.length) (hx2 : xs.length ≤ 1000000) :
    SatM Try.prog 111 [.one (.pb 1000000 0 3), .one (.c (.slice 1 (xs.map Enc.enc)))] [(1000000, .box (srcX code s))] (.one (.c (.str (xs.getD (pickS code s xs.length).1.toNat ⟨#[]⟩))), [(1000000, .box (srcX code (pickS code s xs.length).2))]) := by
  have hp := pickS_lt code s xs.length (by omega)
  have hk : (pickS code s xs.length).1.toNat < xs.length := by omega
  have hlen : (xs.map (Enc.enc (α := ByteArray))).length = xs.length := by simp
  refine SatM.intro tok mixed Try.func111 rfl rfl ?_
  ((conv => whnf); repeat ((first | refine B0 ?_ | refine B1 ?_ | refine D1 ?_ | refine D2 ?_); conv => whnf))
  refine CallC.x ?_
  ((conv => whnf); repeat ((first | refine B0 ?_ | refine B1 ?_ | refine D1 ?_ | refine D2 ?_ | refine CallC.r ?_); conv => whnf))
  rw [hlen]
  refine Pick.mk _ (s_pick code s xs.length h0 hb hl) ?_
  ((conv => whnf); repeat ((first | refine B0 ?_ | refine B1 ?_ | refine D1 ?_ | refine D2 ?_ | refine CallC.r ?_); conv => whnf))
  refine Pick.mk (Enc.enc xs[(pickS code s xs.length).1.toNat]) ⟨hp.1, by rw [List.getElem?_map, List.getElem?_eq_getElem hk]; rfl⟩ ?_
  ((conv => whnf); repeat ((first | refine B0 ?_ | refine B1 ?_ | refine D1 ?_ | refine D2 ?_ | refine CallC.r ?_); conv => whnf))
  have e : xs.getD (pickS code s xs.length).1.toNat ⟨#[]⟩ = xs[(pickS code s xs.length).1.toNat] := by simp [List.getD, List.getElem?_eq_getElem hk]
  rw [e]; exact rfl

theorem s_l00From (code : List UInt8) : SatM Try.prog 66 [.one (.c (.slice 1 (code.map Enc.enc)))] [] (.one (.pb 0 0 3), [(0, .box (srcX code ⟨0, 0⟩))]) := by
  refine SatM.intro tok mixed Try.func66 rfl rfl ?_
  ((conv => whnf); repeat ((first | refine B0 ?_ | refine B1 ?_ | refine D1 ?_ | refine D2 ?_ | refine CallC.r ?_); conv => whnf))
  exact rfl
end Go.Proofs.Ytjolahiflldepab.Pi
