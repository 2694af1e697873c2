/- Deep copies, marks and what is held, as the laws have them. No statement of the seat is proved here. -/
import Derived.Test.YtjolahiflldepaaDoorPiM1
namespace Go.Proofs.YtjolahiflldepaaDoor.Pi
open Go
set_option maxRecDepth 10000
set_option linter.unusedVariables false
set_option linter.unusedSimpArgs false

instance : Mk Version := ⟨fun x k => ⟨k, k + 1, tx (k + 2), mkL x.state (k + 3)⟩, fun x => 3 + Mk.cnt x.state⟩

instance : Big Version := ⟨fun x => x.state.length ≤ 1099511627776⟩

theorem d_Version (x : Version) (hb : Enc.wt x ≤ 1048576) : Sat Tryd.prog 8 [(true, Enc.enc x)] (.agg [.c (.int .i64 x.number), .c (.int .i64 x.parent), .c (.str x.memo), .ds 0], [(0, .deep true 2 (x.state.map Enc.enc))]) := by
  have hw : Enc.wt x = Enc.wt x.number + Enc.wt x.parent + Enc.wt x.memo + Enc.wt x.state := rfl
  refine Sat.intro tok mixed Tryd.func8 rfl rfl ?_
  ((conv => whnf); repeat ((first | refine B0 ?_ | refine B1 ?_ | refine D1 ?_ | refine D2 ?_ | refine CallC.r ?_); conv => whnf))
  refine Pick.mk _ (d_SettingS x.state (by omega)) ?_
  ((conv => whnf); repeat ((first | refine B0 ?_ | refine B1 ?_ | refine D1 ?_ | refine D2 ?_ | refine CallC.r ?_); conv => whnf))
  exact ResOK.same rfl

theorem d_VersionS (xs : List Version) (hb : Enc.wt xs ≤ 1048576) : Sat Tryd.prog 18 [(false, Enc.enc xs)] (.one (.ds 0), [(0, .deep true 4 (xs.map Enc.enc))]) := by
  have hl : (xs.map (Enc.enc (α := Version))).length = xs.length := by simp
  have hw := wt_list xs
  refine Sat.intro tok mixed Tryd.func18 rfl rfl ?_
  ((conv => whnf); repeat ((first | refine B0 ?_ | refine B1 ?_ | refine D1 ?_ | refine D2 ?_ | refine CallC.r ?_); conv => whnf))
  refine Side.mk (by omega) ?_
  ((conv => whnf); repeat ((first | refine B0 ?_ | refine B1 ?_ | refine D1 ?_ | refine D2 ?_ | refine CallC.r ?_); conv => whnf))
  refine Pick.mk [0, 3, 4, 2000192] trivial ?_
  ((conv => whnf); repeat ((first | refine B0 ?_ | refine B1 ?_ | refine D1 ?_ | refine D2 ?_ | refine CallC.r ?_); conv => whnf))
  refine Side.mk (flat_rep rfl) ?_
  ((conv => whnf); repeat ((first | refine B0 ?_ | refine B1 ?_ | refine D1 ?_ | refine D2 ?_ | refine CallC.r ?_); conv => whnf))
  refine LoopL.run (fun i : Nat => St.mk [.one (.c (.slice 4 (xs.map Enc.enc))), .one .dead, .one .dead, .one (.ds 192), .one (.c (.int .i64 i)), .one .dead, .one .dead, .one .dead, .one .dead, .one .dead, .one .dead, .one .dead, .one .dead, .one .dead, .one .dead, .one .dead, .one .dead, .one .dead, .one .dead, .one .dead, .one .dead, .one .dead, .one .dead] [(192, .deep true 4 (upTo [.int .i64 0, .int .i64 0, .str ⟨#[]⟩, .slice 2 []] xs i))])
      (fun i => xs.length - i) (fun i => i ≤ xs.length) ?_ 0 (Nat.zero_le _) (by rw [upTo_zero, hl]; rfl)
  intro i h2 ih
  refine pwp_cut fun K hK => ?_
  ((conv => whnf); repeat ((first | refine B0 ?_ | refine B1 ?_ | refine D1 ?_ | refine D2 ?_ | refine CallC.r ?_); conv => whnf))
  refine Br.mk (fun h => ?_) (fun h => ?_) <;> ((conv => whnf); repeat ((first | refine B0 ?_ | refine B1 ?_ | refine D1 ?_ | refine D2 ?_ | refine CallC.r ?_); conv => whnf))
  · simp at h
    refine hK _ (pwp_cut fun K1 hK1 => pwp_into ?_)
    ((conv => whnf); repeat ((first | refine B0 ?_ | refine B1 ?_ | refine D1 ?_ | refine D2 ?_ | refine CallC.r ?_); conv => whnf))
    refine Pick.ix h ?_
    ((conv => whnf); repeat ((first | refine B0 ?_ | refine B1 ?_ | refine D1 ?_ | refine D2 ?_ | refine CallC.r ?_); conv => whnf))
    refine Pick.mk _ (d_Version xs[i] (by have := wt_get xs i h; omega)) ?_
    ((conv => whnf); repeat ((first | refine B0 ?_ | refine B1 ?_ | refine D1 ?_ | refine D2 ?_ | refine CallC.r ?_); conv => whnf))
    refine Side.mk (by rw [upTo_length _ _ _ h2]; omega) ?_
    ((conv => whnf); repeat ((first | refine B0 ?_ | refine B1 ?_ | refine D1 ?_ | refine D2 ?_ | refine CallC.r ?_); conv => whnf))
    refine hK1 _ ?_
    ((conv => whnf); repeat ((first | refine B0 ?_ | refine B1 ?_ | refine D1 ?_ | refine D2 ?_ | refine CallC.r ?_); conv => whnf))
    refine Pick.at64 (z := (i + 1 : Nat)) (by simp) (by omega) ?_
    ((conv => whnf); repeat ((first | refine B0 ?_ | refine B1 ?_ | refine D1 ?_ | refine D2 ?_ | refine CallC.r ?_); conv => whnf))
    refine cast (congrArg (fun r => LoopL _ _ _ ⟨_, [(_, .deep true 4 r)]⟩) (upTo_set [.int .i64 0, .int .i64 0, .str ⟨#[]⟩, .slice 2 []] xs i h).symm) (ih (i + 1) (by omega) (by omega))
  · simp at h
    have e := upTo_all [.int .i64 0, .int .i64 0, .str ⟨#[]⟩, .slice 2 []] xs i (by omega)
    rw [e]
    exact ResOK.same rfl

theorem m_VersionS (a : Bool) (xs : List Version) (k : Int) (hk : k + Mk.cnt xs ≤ 1099511627776) (h0 : 0 ≤ k) (hb : xs.length ≤ 1099511627776) (hl : ∀ x ∈ xs, bigL x) :
    SatM Tryd.prog 21 [.one (.ds 1000000), .one (.c (.int .i64 k))] [(1000000, .deep a 4 (xs.map Enc.enc))] (.one (.c (.int .i64 (k + Mk.cnt xs))), [(1000000, .deep a 4 ((mkL xs k).map Enc.enc))]) := by
  have hc := cnt_list xs
  refine SatM.intro tok mixed Tryd.func21 rfl rfl ?_
  ((conv => whnf); repeat ((first | refine B0 ?_ | refine B1 ?_ | refine D1 ?_ | refine D2 ?_ | refine CallC.r ?_); conv => whnf))
  refine Pick.mk [0, 1, 5] trivial ?_
  ((conv => whnf); repeat ((first | refine B0 ?_ | refine B1 ?_ | refine D1 ?_ | refine D2 ?_ | refine CallC.r ?_); conv => whnf))
  refine LoopL.run (fun i : Nat => St.mk [.one (.ds 1000000), .one (.c (.int .i64 (k + cnts xs i))), .one .dead, .one .dead, .one .dead, .one (.c (.int .i64 i)), .one .dead, .one .dead, .one .dead, .one .dead, .one .dead, .one .dead, .one .dead, .one .dead, .one .dead, .one .dead, .one .dead, .one .dead, .one .dead, .one .dead, .one .dead, .one .dead, .one .dead, .one .dead, .one .dead, .one .dead, .one .dead, .one .dead, .one .dead, .one .dead, .one .dead, .one .dead, .one .dead, .one .dead, .one .dead, .one .dead, .one .dead, .one .dead, .one .dead, .one .dead, .one .dead, .one .dead] [(1000000, .deep a 4 (part xs k i))]) (fun i => xs.length - i) (fun i => i ≤ xs.length) ?_ 0 (Nat.zero_le _) (by rw [part_zero, cnts_zero]; simp only [Int.natCast_zero, Int.add_zero] <;> rfl)
  intro i h2 ih
  have hpl := part_length xs k i
  refine pwp_cut fun K hK => ?_
  ((conv => whnf); repeat ((first | refine B0 ?_ | refine B1 ?_ | refine D1 ?_ | refine D2 ?_ | refine CallC.r ?_); conv => whnf))
  refine Br.mk (fun h => ?_) (fun h => ?_) <;> ((conv => whnf); repeat ((first | refine B0 ?_ | refine B1 ?_ | refine D1 ?_ | refine D2 ?_ | refine CallC.r ?_); conv => whnf))
  · simp [hpl] at h
    have e1 := cnts_succ xs i h
    have e2 := cnts_le xs (i + 1)
    have e3 : Mk.cnt xs[i] = 3 + Mk.cnt xs[i].state := rfl
    refine hK _ ?_
    refine pwp_cut fun K1 hK1 => pwp_into (pwp_cut fun K2 hK2 => ?_)
    ((conv => whnf); repeat ((first | refine B0 ?_ | refine B1 ?_ | refine D1 ?_ | refine D2 ?_ | refine CallC.r ?_); conv => whnf))
    refine Side.mk (by simp [hpl] <;> omega) ?_
    ((conv => whnf); repeat ((first | refine B0 ?_ | refine B1 ?_ | refine D1 ?_ | refine D2 ?_ | refine CallC.r ?_); conv => whnf))
    refine Pick.mk ([.int .i64 xs[i].number, .int .i64 xs[i].parent, .str xs[i].memo, .slice 2 (xs[i].state.map Enc.enc)] : List CV) (by rw [show ((i : Int).toNat) = i by omega, part_get xs k i h]; rfl) ?_
    ((conv => whnf); repeat ((first | refine B0 ?_ | refine B1 ?_ | refine D1 ?_ | refine D2 ?_ | refine CallC.r ?_); conv => whnf))
    refine hK2 _ (pwp_cut fun K3 hK3 => ?_)
    ((conv => whnf); repeat ((first | refine B0 ?_ | refine B1 ?_ | refine D1 ?_ | refine D2 ?_ | refine CallC.r ?_); conv => whnf))
    refine Pick.at64 (z := k + cnts xs i + 1) (by omega) (by omega) ?_
    ((conv => whnf); repeat ((first | refine B0 ?_ | refine B1 ?_ | refine D1 ?_ | refine D2 ?_ | refine CallC.r ?_); conv => whnf))
    refine hK3 _ (pwp_cut fun K4 hK4 => ?_)
    ((conv => whnf); repeat ((first | refine B0 ?_ | refine B1 ?_ | refine D1 ?_ | refine D2 ?_ | refine CallC.r ?_); conv => whnf))
    refine Side.mk (by simp [hpl] <;> omega) ?_
    ((conv => whnf); repeat ((first | refine B0 ?_ | refine B1 ?_ | refine D1 ?_ | refine D2 ?_ | refine CallC.r ?_); conv => whnf))
    refine Pick.row ([.int .i64 (k + cnts xs i), .int .i64 xs[i].parent, .str xs[i].memo, .slice 2 (xs[i].state.map Enc.enc)] : List CV) (by simp [hpl] <;> omega) rfl ?_
    ((conv => whnf); repeat ((first | refine B0 ?_ | refine B1 ?_ | refine D1 ?_ | refine D2 ?_ | refine CallC.r ?_); conv => whnf))
    refine hK4 _ (pwp_cut fun K5 hK5 => ?_)
    ((conv => whnf); repeat ((first | refine B0 ?_ | refine B1 ?_ | refine D1 ?_ | refine D2 ?_ | refine CallC.r ?_); conv => whnf))
    refine Pick.at64 (z := k + cnts xs i + 2) (by omega) (by omega) ?_
    ((conv => whnf); repeat ((first | refine B0 ?_ | refine B1 ?_ | refine D1 ?_ | refine D2 ?_ | refine CallC.r ?_); conv => whnf))
    refine hK5 _ (pwp_cut fun K6 hK6 => ?_)
    ((conv => whnf); repeat ((first | refine B0 ?_ | refine B1 ?_ | refine D1 ?_ | refine D2 ?_ | refine CallC.r ?_); conv => whnf))
    refine Pick.mk _ (s_markText (k + cnts xs i + 2) (by omega)) ?_
    ((conv => whnf); repeat ((first | refine B0 ?_ | refine B1 ?_ | refine D1 ?_ | refine D2 ?_ | refine CallC.r ?_); conv => whnf))
    refine Side.mk (by simp [hpl] <;> omega) ?_
    ((conv => whnf); repeat ((first | refine B0 ?_ | refine B1 ?_ | refine D1 ?_ | refine D2 ?_ | refine CallC.r ?_); conv => whnf))
    refine Pick.row ([.int .i64 (k + cnts xs i), .int .i64 (k + cnts xs i + 1), .str xs[i].memo, .slice 2 (xs[i].state.map Enc.enc)] : List CV) (by simp [hpl] <;> omega) rfl ?_
    ((conv => whnf); repeat ((first | refine B0 ?_ | refine B1 ?_ | refine D1 ?_ | refine D2 ?_ | refine CallC.r ?_); conv => whnf))
    refine hK6 _ (pwp_cut fun K7 hK7 => ?_)
    ((conv => whnf); repeat ((first | refine B0 ?_ | refine B1 ?_ | refine D1 ?_ | refine D2 ?_ | refine CallC.r ?_); conv => whnf))
    refine Pick.at64 (z := k + cnts xs i + 3) (by omega) (by omega) ?_
    ((conv => whnf); repeat ((first | refine B0 ?_ | refine B1 ?_ | refine D1 ?_ | refine D2 ?_ | refine CallC.r ?_); conv => whnf))
    refine hK7 _ ?_
    ((conv => whnf); repeat ((first | refine B0 ?_ | refine B1 ?_ | refine D1 ?_ | refine D2 ?_ | refine CallC.r ?_); conv => whnf))
    refine Side.mk (by simp [hpl] <;> omega) ?_
    ((conv => whnf); repeat ((first | refine B0 ?_ | refine B1 ?_ | refine D1 ?_ | refine D2 ?_ | refine CallC.r ?_); conv => whnf))
    refine Pick.row ([.int .i64 (k + cnts xs i), .int .i64 (k + cnts xs i + 1), .str (tx (k + cnts xs i + 2)), .slice 2 (xs[i].state.map Enc.enc)] : List CV) (by simp [hpl] <;> omega) rfl ?_
    ((conv => whnf); repeat ((first | refine B0 ?_ | refine B1 ?_ | refine D1 ?_ | refine D2 ?_ | refine CallC.r ?_); conv => whnf))
    refine Pick.mk true trivial ?_
    ((conv => whnf); repeat ((first | refine B0 ?_ | refine B1 ?_ | refine D1 ?_ | refine D2 ?_ | refine CallC.r ?_); conv => whnf))
    refine Side.mk rfl ?_
    ((conv => whnf); repeat ((first | refine B0 ?_ | refine B1 ?_ | refine D1 ?_ | refine D2 ?_ | refine CallC.r ?_); conv => whnf))
    refine Pick.mk ((([.int .i64 (k + cnts xs i), .int .i64 (k + cnts xs i + 1), .str (tx (k + cnts xs i + 2)), .slice 2 (xs[i].state.map Enc.enc)] : List CV), 2, xs[i].state.map Enc.enc) : List CV × Nat × List (List CV)) ⟨by simp [hpl, h]; first | done | rfl | omega, rfl⟩ ?_
    ((conv => whnf); repeat ((first | refine B0 ?_ | refine B1 ?_ | refine D1 ?_ | refine D2 ?_ | refine CallC.r ?_); conv => whnf))
    have hw3 := hl xs[i] (List.getElem_mem h)
    have hm3 := m_SettingS false xs[i].state (k + cnts xs i + 3) (by omega) (by omega) (by simp only [bigL, Big.big] at hw3; omega)
    rw [show ((k + cnts xs i + 3) + (Mk.cnt xs[i].state : Int)) = k + cnts xs (i + 1) by omega] at hm3
    refine Pick.mk _ hm3 ?_
    ((conv => whnf); repeat ((first | refine B0 ?_ | refine B1 ?_ | refine D1 ?_ | refine D2 ?_ | refine CallC.r ?_); conv => whnf))
    refine Side.mk (by rw [List.length_map, List.length_map, mkL_length]) ?_
    ((conv => whnf); repeat ((first | refine B0 ?_ | refine B1 ?_ | refine D1 ?_ | refine D2 ?_ | refine CallC.r ?_); conv => whnf))
    refine hK1 _ ?_
    ((conv => whnf); repeat ((first | refine B0 ?_ | refine B1 ?_ | refine D1 ?_ | refine D2 ?_ | refine CallC.r ?_); conv => whnf))
    refine Pick.at64 (z := (i + 1 : Nat)) (by simp) (by omega) ?_
    ((conv => whnf); repeat ((first | refine B0 ?_ | refine B1 ?_ | refine D1 ?_ | refine D2 ?_ | refine CallC.r ?_); conv => whnf))
    have e : ((((part xs k i).set (i : Int).toNat (spliceC ([.int .i64 xs[i].number, .int .i64 xs[i].parent, .str xs[i].memo, .slice 2 (xs[i].state.map Enc.enc)] : List CV) (0 + 0) [.int .i64 (k + cnts xs i)])).set (i : Int).toNat (spliceC ([.int .i64 (k + cnts xs i), .int .i64 xs[i].parent, .str xs[i].memo, .slice 2 (xs[i].state.map Enc.enc)] : List CV) (0 + 1) [.int .i64 (k + cnts xs i + 1)])).set (i : Int).toNat (spliceC ([.int .i64 (k + cnts xs i), .int .i64 (k + cnts xs i + 1), .str xs[i].memo, .slice 2 (xs[i].state.map Enc.enc)] : List CV) (0 + 2) [.str (tx (k + cnts xs i + 2))])).set (i : Int).toNat (([.int .i64 (k + cnts xs i), .int .i64 (k + cnts xs i + 1), .str (tx (k + cnts xs i + 2)), .slice 2 (xs[i].state.map Enc.enc)] : List CV).set 3 (.slice 2 ((mkL xs[i].state (k + cnts xs i + 3)).map Enc.enc))) = part xs k (i + 1) := by
      rw [← part_set xs k i h, show ((i : Int).toNat) = i by omega]
      try simp only [List.set_set]
      rfl
    refine cast (congrArg (fun r => LoopL _ _ _ ⟨_, [(_, .deep a 4 r)]⟩) e.symm) (ih (i + 1) (by omega) (by omega))
  · simp [hpl] at h
    have e1 := part_all xs k i (by omega)
    have e2 := cnts_all xs i (by omega)
    rw [e1, e2, ← hc]

theorem h_VersionS (xs : List Version) (k : Int) (hk : k + Mk.cnt xs ≤ 1099511627776) (h0 : 0 ≤ k) (hb : xs.length ≤ 1099511627776) (hl : ∀ x ∈ xs, bigL x) :
    Sat Tryd.prog 22 [(false, Enc.enc (mkL xs k)), (false, [.int .i64 k])] (.one (.c (.int .i64 (k + Mk.cnt xs))), []) := by
  have hc := cnt_list xs
  have hpl := mkL_length xs k
  refine Sat.intro tok mixed Tryd.func22 rfl rfl ?_
  ((conv => whnf); repeat ((first | refine B0 ?_ | refine B1 ?_ | refine D1 ?_ | refine D2 ?_ | refine CallC.r ?_); conv => whnf))
  refine Pick.mk [0, 1, 5] trivial ?_
  ((conv => whnf); repeat ((first | refine B0 ?_ | refine B1 ?_ | refine D1 ?_ | refine D2 ?_ | refine CallC.r ?_); conv => whnf))
  refine LoopL.run (fun i : Nat => St.mk [.one (.c (.slice 4 ((mkL xs k).map Enc.enc))), .one (.c (.int .i64 (k + cnts xs i))), .one .dead, .one .dead, .one .dead, .one (.c (.int .i64 i)), .one .dead, .one .dead, .one .dead, .one .dead, .one .dead, .one .dead, .one .dead, .one .dead, .one .dead, .one .dead, .one .dead, .one .dead, .one .dead, .one .dead, .one .dead, .one .dead, .one .dead, .one .dead, .one .dead, .one .dead, .one .dead, .one .dead, .one .dead, .one .dead, .one .dead, .one .dead, .one .dead, .one .dead, .one .dead, .one .dead, .one .dead, .one .dead, .one .dead, .one .dead, .one .dead, .one .dead, .one .dead, .one .dead, .one .dead, .one .dead, .one .dead, .one .dead, .one .dead, .one .dead] []) (fun i => xs.length - i) (fun i => i ≤ xs.length) ?_ 0 (Nat.zero_le _) (by rw [cnts_zero]; simp only [Int.natCast_zero, Int.add_zero] <;> rfl)
  intro i h2 ih
  ((conv => whnf); repeat ((first | refine B0 ?_ | refine B1 ?_ | refine D1 ?_ | refine D2 ?_ | refine CallC.r ?_); conv => whnf))
  refine Br.mk (fun h => ?_) (fun h => ?_) <;> ((conv => whnf); repeat ((first | refine B0 ?_ | refine B1 ?_ | refine D1 ?_ | refine D2 ?_ | refine CallC.r ?_); conv => whnf))
  · simp [hpl] at h
    have hr : ((mkL xs k).map Enc.enc)[(i : Int).toNat]? = some ([.int .i64 (k + cnts xs i), .int .i64 (k + cnts xs i + 1), .str (tx (k + cnts xs i + 2)), .slice 2 ((mkL xs[i].state (k + cnts xs i + 3)).map Enc.enc)] : List CV) := by
      rw [show ((i : Int).toNat) = i by omega, List.getElem?_map, mkL_get xs k i h]; rfl
    have e1 := cnts_succ xs i h
    have e2 := cnts_le xs (i + 1)
    have e3 : Mk.cnt xs[i] = 3 + Mk.cnt xs[i].state := rfl
    refine Pick.mk _ ⟨by omega, hr⟩ ?_
    ((conv => whnf); repeat ((first | refine B0 ?_ | refine B1 ?_ | refine D1 ?_ | refine D2 ?_ | refine CallC.r ?_); conv => whnf))
    refine Br.mk (fun h5 => ?_) (fun h5 => ?_) <;> ((conv => whnf); repeat ((first | refine B0 ?_ | refine B1 ?_ | refine D1 ?_ | refine D2 ?_ | refine CallC.r ?_); conv => whnf))
    · simp at h5
    clear h5
    refine Pick.at64 (z := k + cnts xs i + 1) (by omega) (by omega) ?_
    ((conv => whnf); repeat ((first | refine B0 ?_ | refine B1 ?_ | refine D1 ?_ | refine D2 ?_ | refine CallC.r ?_); conv => whnf))
    refine Pick.mk _ ⟨by omega, hr⟩ ?_
    ((conv => whnf); repeat ((first | refine B0 ?_ | refine B1 ?_ | refine D1 ?_ | refine D2 ?_ | refine CallC.r ?_); conv => whnf))
    refine Br.mk (fun h5 => ?_) (fun h5 => ?_) <;> ((conv => whnf); repeat ((first | refine B0 ?_ | refine B1 ?_ | refine D1 ?_ | refine D2 ?_ | refine CallC.r ?_); conv => whnf))
    · simp at h5
    clear h5
    refine Pick.at64 (z := k + cnts xs i + 2) (by omega) (by omega) ?_
    ((conv => whnf); repeat ((first | refine B0 ?_ | refine B1 ?_ | refine D1 ?_ | refine D2 ?_ | refine CallC.r ?_); conv => whnf))
    refine Pick.mk _ ⟨by omega, hr⟩ ?_
    ((conv => whnf); repeat ((first | refine B0 ?_ | refine B1 ?_ | refine D1 ?_ | refine D2 ?_ | refine CallC.r ?_); conv => whnf))
    refine Pick.mk _ (s_markText (k + cnts xs i + 2) (by omega)) ?_
    ((conv => whnf); repeat ((first | refine B0 ?_ | refine B1 ?_ | refine D1 ?_ | refine D2 ?_ | refine CallC.r ?_); conv => whnf))
    refine Br.mk (fun h5 => ?_) (fun h5 => ?_) <;> ((conv => whnf); repeat ((first | refine B0 ?_ | refine B1 ?_ | refine D1 ?_ | refine D2 ?_ | refine CallC.r ?_); conv => whnf))
    · simp at h5
    clear h5
    refine Pick.at64 (z := k + cnts xs i + 3) (by omega) (by omega) ?_
    ((conv => whnf); repeat ((first | refine B0 ?_ | refine B1 ?_ | refine D1 ?_ | refine D2 ?_ | refine CallC.r ?_); conv => whnf))
    refine Pick.mk _ ⟨by omega, hr⟩ ?_
    ((conv => whnf); repeat ((first | refine B0 ?_ | refine B1 ?_ | refine D1 ?_ | refine D2 ?_ | refine CallC.r ?_); conv => whnf))
    have hw3 := hl xs[i] (List.getElem_mem h)
    have hm3 := h_SettingS xs[i].state (k + cnts xs i + 3) (by omega) (by omega) (by simp only [bigL, Big.big] at hw3; omega)
    rw [show ((k + cnts xs i + 3) + (Mk.cnt xs[i].state : Int)) = k + cnts xs (i + 1) by omega] at hm3
    refine Pick.mk _ hm3 ?_
    ((conv => whnf); repeat ((first | refine B0 ?_ | refine B1 ?_ | refine D1 ?_ | refine D2 ?_ | refine CallC.r ?_); conv => whnf))
    refine Br.mk (fun h5 => ?_) (fun h5 => ?_) <;> ((conv => whnf); repeat ((first | refine B0 ?_ | refine B1 ?_ | refine D1 ?_ | refine D2 ?_ | refine CallC.r ?_); conv => whnf))
    · simp at h5
      omega
    clear h5
    refine Pick.at64 (z := (i + 1 : Nat)) (by simp) (by omega) ?_
    ((conv => whnf); repeat ((first | refine B0 ?_ | refine B1 ?_ | refine D1 ?_ | refine D2 ?_ | refine CallC.r ?_); conv => whnf))
    exact ih (i + 1) (by omega) (by omega)
  · simp [hpl] at h
    have e2 := cnts_all xs i (by omega)
    exact ResOK.same (by rw [e2, ← hc])

end Go.Proofs.YtjolahiflldepaaDoor.Pi
