/- Versions that are added, the reference and the program. No statement of the seat is proved here. -/
import Derived.Test.YtjolahiflldepabPiFLine
import Derived.Test.YtjolahiflldepabPiM4
namespace Go.Proofs.Ytjolahiflldepab.Pi
open Go
set_option maxRecDepth 10000
set_option linter.unusedVariables false

theorem flat_set (xs : List Setting) : flatRows (xs.map Enc.enc) := fun r hr c hc => by
  obtain ⟨x, _, rfl⟩ := List.mem_map.1 hr
  have : c = .str x.name ∨ c = .int .i64 x.value := by simpa [Enc.enc] using hc
  rcases this with rfl | rfl <;> rfl
theorem flat_int (xs : List Int) : flatRows (xs.map Enc.enc) := fun r hr c hc => by
  obtain ⟨x, _, rfl⟩ := List.mem_map.1 hr
  have : c = .int .i64 x := by simpa [Enc.enc] using hc
  subst this; rfl

theorem s_CloneSetting (xs : List Setting) (hb : xs.length ≤ 1048576) : Sat Try.prog 137 [(false, Enc.enc xs)] (.one (.ds 0), [(0, .deep true 2 (xs.map Enc.enc))]) := by
  have hl : (xs.map (Enc.enc (α := Setting))).length = xs.length := by simp
  refine Sat.intro tok mixed Try.func137 rfl rfl ?_
  ((conv => whnf); repeat ((first | refine B0 ?_ | refine B1 ?_ | refine D1 ?_ | refine D2 ?_ | refine CallC.r ?_); conv => whnf))
  intro b hb0
  ((conv => whnf); repeat ((first | refine B0 ?_ | refine B1 ?_ | refine D1 ?_ | refine D2 ?_ | refine CallC.r ?_); conv => whnf))
  refine Br.mk (fun h => ?_) (fun h => ?_) <;> ((conv => whnf); repeat ((first | refine B0 ?_ | refine B1 ?_ | refine D1 ?_ | refine D2 ?_ | refine CallC.r ?_); conv => whnf))
  · have e : xs = [] := by simpa using hb0 h
    subst e
    exact ResOK.deep rfl ⟨by simp [flatRows], trivial⟩
  · refine Side.mk (by rw [hl]; simp only [List.length_nil]; omega) ?_
    ((conv => whnf); repeat ((first | refine B0 ?_ | refine B1 ?_ | refine D1 ?_ | refine D2 ?_ | refine CallC.r ?_); conv => whnf))
    exact ResOK.deep rfl ⟨flat_set xs, trivial⟩

theorem s_copyVersion (v : Version) (hb : v.state.length ≤ 1048576) : Sat Try.prog 106 [(true, Enc.enc v)] (.agg [.c (.int .i64 v.number), .c (.int .i64 v.parent), .c (.str v.memo), .ds 0], [(0, .deep true 2 (v.state.map Enc.enc))]) := by
  refine Sat.intro tok mixed Try.func106 rfl rfl ?_
  ((conv => whnf); repeat ((first | refine B0 ?_ | refine B1 ?_ | refine D1 ?_ | refine D2 ?_ | refine CallC.r ?_); conv => whnf))
  refine Pick.mk _ (s_CloneSetting v.state hb) ?_
  ((conv => whnf); repeat ((first | refine B0 ?_ | refine B1 ?_ | refine D1 ?_ | refine D2 ?_ | refine CallC.r ?_); conv => whnf))
  exact ResOK.same rfl

def added (xs : List Version) (parent : Int) (memo : ByteArray) (st : List Setting) : List Version × Int :=
  if xs.length < 32 then (xs ++ [⟨xs.length + 1, parent, memo, st⟩], 0) else ([], 5)

theorem s_commit (xs : List Version) (hk : okHistory xs = true) (hb : Enc.wt xs ≤ 1048576) (parent : Int) (memo : ByteArray) (st : List Setting) (hs : st.length ≤ 1048576) : Sat Try.prog 64 [(false, Enc.enc xs), (false, [.int .i64 parent]), (false, Enc.enc memo), (false, Enc.enc st)]
    (.tup [(false, [.ds 0]), (false, [.c (.int .i64 (added xs parent memo st).2)])], [(0, .deep true 4 ((added xs parent memo st).1.map Enc.enc))]) := by
  have hl : (xs.map (Enc.enc (α := Version))).length = xs.length := by simp
  have h32 := okHistory_len hk
  refine Sat.intro tok mixed Try.func64 rfl rfl ?_
  ((conv => whnf); repeat ((first | refine B0 ?_ | refine B1 ?_ | refine D1 ?_ | refine D2 ?_ | refine CallC.r ?_); conv => whnf))
  refine Br.mk (fun h => ?_) (fun h => ?_) <;> ((conv => whnf); repeat ((first | refine B0 ?_ | refine B1 ?_ | refine D1 ?_ | refine D2 ?_ | refine CallC.r ?_); conv => whnf))
  · simp at h
    refine ResOK.deep (by simp only [added]; rw [if_neg (by omega)]; rfl) ⟨by simp [flatRows], trivial⟩
  · simp at h
    refine Pick.mk [0, 1, 2, 3, 10, 16, 17, 18, 2000640] trivial ?_
    ((conv => whnf); repeat ((first | refine B0 ?_ | refine B1 ?_ | refine D1 ?_ | refine D2 ?_ | refine CallC.r ?_); conv => whnf))
    refine Side.mk (by simp [flatRows]) ?_
    ((conv => whnf); repeat ((first | refine B0 ?_ | refine B1 ?_ | refine D1 ?_ | refine D2 ?_ | refine CallC.r ?_); conv => whnf))
    refine LoopL.run (fun i : Nat => St.mk [.one (.c (.slice 4 (xs.map Enc.enc))), .one (.c (.int .i64 parent)), .one (.c (.str memo)), .one (.c (.slice 2 (st.map Enc.enc))), .one .dead, .one .dead, .one .dead, .one .dead, .one .dead, .one .dead, .one (.ds 640), .one .dead, .one .dead, .one .dead, .one .dead, .one .dead, .one (.c (.slice 4 (xs.map Enc.enc))), .one (.c (.int .i64 (xs.map (Enc.enc (α := Version))).length)), .one (.c (.int .i64 i)), .one .dead, .one .dead, .one .dead, .one .dead, .one .dead, .one .dead, .one .dead, .one .dead, .one .dead, .one .dead, .one .dead, .one .dead, .one .dead, .one .dead, .one .dead, .one .dead, .one .dead, .one .dead, .one .dead, .one .dead] [(640, .deep true 4 ((xs.take i).map Enc.enc))]) (fun i => xs.length - i) (fun i => i ≤ xs.length) ?_ 0 (Nat.zero_le _)
    intro i h2 ih
    ((conv => whnf); repeat ((first | refine B0 ?_ | refine B1 ?_ | refine D1 ?_ | refine D2 ?_ | refine CallC.r ?_); conv => whnf))
    refine Br.mk (fun h => ?_) (fun h => ?_) <;> ((conv => whnf); repeat ((first | refine B0 ?_ | refine B1 ?_ | refine D1 ?_ | refine D2 ?_ | refine CallC.r ?_); conv => whnf))
    · simp at h
      have hw := wt_get xs i h
      have hw2 : Enc.wt xs[i] = Enc.wt xs[i].number + Enc.wt xs[i].parent + Enc.wt xs[i].memo + Enc.wt xs[i].state := rfl
      have hw3 := lenwt_list xs[i].state
      refine Pick.ix h ?_
      ((conv => whnf); repeat ((first | refine B0 ?_ | refine B1 ?_ | refine D1 ?_ | refine D2 ?_ | refine CallC.r ?_); conv => whnf))
      refine Pick.mk _ (s_copyVersion xs[i] (by omega)) ?_
      ((conv => whnf); repeat ((first | refine B0 ?_ | refine B1 ?_ | refine D1 ?_ | refine D2 ?_ | refine CallC.r ?_); conv => whnf))
      refine Pick.mk true trivial ?_
      ((conv => whnf); repeat ((first | refine B0 ?_ | refine B1 ?_ | refine D1 ?_ | refine D2 ?_ | refine CallC.r ?_); conv => whnf))
      refine Side.mk (by simp; omega) ?_
      ((conv => whnf); repeat ((first | refine B0 ?_ | refine B1 ?_ | refine D1 ?_ | refine D2 ?_ | refine CallC.r ?_); conv => whnf))
      refine Pick.at64 (z := (i + 1 : Nat)) (by simp) (by omega) ?_
      ((conv => whnf); repeat ((first | refine B0 ?_ | refine B1 ?_ | refine D1 ?_ | refine D2 ?_ | refine CallC.r ?_); conv => whnf))
      refine cast (congrArg (fun r => LoopL _ _ _ ⟨_, [(_, .deep true 4 r)]⟩) ?_) (ih (i + 1) (by omega) (by omega))
      rw [List.take_add_one, List.getElem?_eq_getElem h, List.map_append]; rfl
    · simp at h
      have hi : i = xs.length := by omega
      subst hi
      rw [List.take_length]
      refine Pick.mk _ (s_sizeVersion xs) ?_
      ((conv => whnf); repeat ((first | refine B0 ?_ | refine B1 ?_ | refine D1 ?_ | refine D2 ?_ | refine CallC.r ?_); conv => whnf))
      refine Pick.at64 (z := (xs.length : Int) + 1) rfl (by omega) ?_
      ((conv => whnf); repeat ((first | refine B0 ?_ | refine B1 ?_ | refine D1 ?_ | refine D2 ?_ | refine CallC.r ?_); conv => whnf))
      refine Pick.mk _ (s_copyVersion ⟨xs.length + 1, parent, memo, st⟩ hs) ?_
      ((conv => whnf); repeat ((first | refine B0 ?_ | refine B1 ?_ | refine D1 ?_ | refine D2 ?_ | refine CallC.r ?_); conv => whnf))
      refine Pick.mk true trivial ?_
      ((conv => whnf); repeat ((first | refine B0 ?_ | refine B1 ?_ | refine D1 ?_ | refine D2 ?_ | refine CallC.r ?_); conv => whnf))
      refine Side.mk (by simp; omega) ?_
      ((conv => whnf); repeat ((first | refine B0 ?_ | refine B1 ?_ | refine D1 ?_ | refine D2 ?_ | refine CallC.r ?_); conv => whnf))
      refine ResOK.same ?_
      simp only [added]
      rw [if_pos (by omega), List.map_append]
      rfl

theorem s_l27Own (xs : List Version) (hk : okHistory xs = true) (hb : Enc.wt xs ≤ 1048576) : Sat Try.prog 97 [(false, Enc.enc xs)] (.one (.rs 0), [(0, .arr 4 (xs.map Enc.enc))]) := by
  have hl : (xs.map (Enc.enc (α := Version))).length = xs.length := by simp
  have h32 := okHistory_len hk
  refine Sat.intro tok mixed Try.func97 rfl rfl ?_
  ((conv => whnf); repeat ((first | refine B0 ?_ | refine B1 ?_ | refine D1 ?_ | refine D2 ?_ | refine CallC.r ?_); conv => whnf))
  refine Pick.mk [0, 3, 4] trivial ?_
  ((conv => whnf); repeat ((first | refine B0 ?_ | refine B1 ?_ | refine D1 ?_ | refine D2 ?_ | refine CallC.r ?_); conv => whnf))
  refine LoopL.run (fun i : Nat => St.mk [.one (.c (.slice 4 (xs.map Enc.enc))), .one .dead, .one .dead, .one (.rs 192), .one (.c (.int .i64 i)), .one .dead, .one .dead, .one .dead, .one .dead, .one .dead, .one .dead, .one .dead, .one .dead, .one .dead, .one .dead, .one .dead, .one .dead, .one .dead, .one .dead, .one .dead, .one .dead, .one .dead, .one .dead, .one .dead, .one .dead, .one .dead, .one .dead] [(192, .arr 4 ((xs.take i).map Enc.enc))]) (fun i => xs.length - i) (fun i => i ≤ xs.length) ?_ 0 (Nat.zero_le _)
  intro i h2 ih
  ((conv => whnf); repeat ((first | refine B0 ?_ | refine B1 ?_ | refine D1 ?_ | refine D2 ?_ | refine CallC.r ?_); conv => whnf))
  refine Br.mk (fun h => ?_) (fun h => ?_) <;> ((conv => whnf); repeat ((first | refine B0 ?_ | refine B1 ?_ | refine D1 ?_ | refine D2 ?_ | refine CallC.r ?_); conv => whnf))
  · simp at h
    have hw := wt_get xs i h
    have hw2 : Enc.wt xs[i] = Enc.wt xs[i].number + Enc.wt xs[i].parent + Enc.wt xs[i].memo + Enc.wt xs[i].state := rfl
    have hw3 := lenwt_list xs[i].state
    refine Pick.ix h ?_
    ((conv => whnf); repeat ((first | refine B0 ?_ | refine B1 ?_ | refine D1 ?_ | refine D2 ?_ | refine CallC.r ?_); conv => whnf))
    refine Side.mk (by simp; omega) ?_
    ((conv => whnf); repeat ((first | refine B0 ?_ | refine B1 ?_ | refine D1 ?_ | refine D2 ?_ | refine CallC.r ?_); conv => whnf))
    refine Pick.mk false trivial ?_
    ((conv => whnf); repeat ((first | refine B0 ?_ | refine B1 ?_ | refine D1 ?_ | refine D2 ?_ | refine CallC.r ?_); conv => whnf))
    refine Side.mk (by simp; omega) ?_
    ((conv => whnf); repeat ((first | refine B0 ?_ | refine B1 ?_ | refine D1 ?_ | refine D2 ?_ | refine CallC.r ?_); conv => whnf))
    refine Pick.at64 (z := (i + 1 : Nat)) (by simp) (by omega) ?_
    ((conv => whnf); repeat ((first | refine B0 ?_ | refine B1 ?_ | refine D1 ?_ | refine D2 ?_ | refine CallC.r ?_); conv => whnf))
    refine cast (congrArg (fun r => LoopL _ _ _ ⟨_, [(_, .arr 4 r)]⟩) ?_) (ih (i + 1) (by omega) (by omega))
    rw [List.take_add_one, List.getElem?_eq_getElem h, List.map_append]; rfl
  · simp at h
    have hi : i = xs.length := by omega
    subst hi
    rw [List.take_length]
    exact ResOK.same rfl

theorem s_l27Add (xs : List Version) (hk : okHistory xs = true) (hb : Enc.wt xs ≤ 1048576) (parent : Int) (memo : ByteArray) (st : List Setting) (hs : st.length ≤ 1048576) : Sat Try.prog 58 [(false, Enc.enc xs), (false, [.int .i64 parent]), (false, Enc.enc memo), (false, Enc.enc st)]
    (.tup [(false, [.c (.slice 4 ((added xs parent memo st).1.map Enc.enc))]), (false, [.c (.int .i64 (added xs parent memo st).2)])], []) := by
  have hl : (xs.map (Enc.enc (α := Version))).length = xs.length := by simp
  have hl2 : (st.map (Enc.enc (α := Setting))).length = st.length := by simp
  have h32 := okHistory_len hk
  refine Sat.intro tok mixed Try.func58 rfl rfl ?_
  ((conv => whnf); repeat ((first | refine B0 ?_ | refine B1 ?_ | refine D1 ?_ | refine D2 ?_ | refine CallC.r ?_); conv => whnf))
  refine Br.mk (fun h => ?_) (fun h => ?_) <;> ((conv => whnf); repeat ((first | refine B0 ?_ | refine B1 ?_ | refine D1 ?_ | refine D2 ?_ | refine CallC.r ?_); conv => whnf))
  · simp at h
    refine ResOK.frz (by simp only [added]; rw [if_neg (by omega)]; rfl) rfl
  · simp at h
    refine Pick.at64 (z := (xs.length : Int) + 1) (by rw [hl]) (by omega) ?_
    ((conv => whnf); repeat ((first | refine B0 ?_ | refine B1 ?_ | refine D1 ?_ | refine D2 ?_ | refine CallC.r ?_); conv => whnf))
    refine Side.mk (by simp only [hl2, List.length_nil]; omega) ?_
    conv => whnf
    refine Pick.mk 1000 (Or.inl (Or.inr rfl)) ?_
    ((conv => whnf); repeat ((first | refine B0 ?_ | refine B1 ?_ | refine CallC.r ?_); conv => whnf))
    refine Pick.mk [0, 2] (by kernel_rfl) ?_
    ((conv => whnf); repeat ((first | refine B0 ?_ | refine B1 ?_ | refine CallC.r ?_); conv => whnf))
    refine And.intro ?_ ?_
    · ((conv => whnf); repeat ((first | refine B0 ?_ | refine B1 ?_ | refine CallC.r ?_); conv => whnf))
      refine Pick.mk [1, 2] (by kernel_rfl) ?_
      ((conv => whnf); repeat ((first | refine B0 ?_ | refine B1 ?_ | refine CallC.r ?_); conv => whnf))
      refine And.intro ?_ ?_
      · ((conv => whnf); repeat ((first | refine B0 ?_ | refine B1 ?_ | refine CallC.r ?_); conv => whnf))
        refine Pick.mk _ (s_l27Own xs hk hb) ?_
        ((conv => whnf); repeat ((first | refine B0 ?_ | refine B1 ?_ | refine CallC.r ?_); conv => whnf))
        refine Pick.mk [2] (by kernel_rfl) ?_
        ((conv => whnf); repeat ((first | refine B0 ?_ | refine B1 ?_ | refine CallC.r ?_); conv => whnf))
        refine And.intro ?_ trivial
        ((conv => whnf); repeat ((first | refine B0 ?_ | refine B1 ?_ | refine CallC.r ?_); conv => whnf))
        refine Pick.mk [3] (by kernel_rfl) ?_
        ((conv => whnf); repeat ((first | refine B0 ?_ | refine B1 ?_ | refine CallC.r ?_); conv => whnf))
        refine And.intro ?_ trivial
        ((conv => whnf); repeat ((first | refine B0 ?_ | refine B1 ?_ | refine CallC.r ?_); conv => whnf))
        refine Pick.mk false trivial ?_
        ((conv => whnf); repeat ((first | refine B0 ?_ | refine B1 ?_ | refine CallC.r ?_); conv => whnf))
        refine Pick.mk [4] (by kernel_rfl) ?_
        ((conv => whnf); repeat ((first | refine B0 ?_ | refine B1 ?_ | refine CallC.r ?_); conv => whnf))
        refine And.intro ?_ trivial
        ((conv => whnf); repeat ((first | refine B0 ?_ | refine B1 ?_ | refine CallC.r ?_); conv => whnf))
        refine Side.mk (by simp; omega) ?_
        ((conv => whnf); repeat ((first | refine B0 ?_ | refine B1 ?_ | refine CallC.r ?_); conv => whnf))
        refine Pick.mk [5] (by kernel_rfl) ?_
        ((conv => whnf); repeat ((first | refine B0 ?_ | refine B1 ?_ | refine CallC.r ?_); conv => whnf))
        refine And.intro ?_ trivial
        ((conv => whnf); repeat ((first | refine B0 ?_ | refine B1 ?_ | refine CallC.r ?_); conv => whnf))
        refine Pick.mk [6] (by kernel_rfl) ?_
        ((conv => whnf); repeat ((first | refine B0 ?_ | refine B1 ?_ | refine CallC.r ?_); conv => whnf))
        refine And.intro ?_ trivial
        ((conv => whnf); repeat ((first | refine B0 ?_ | refine B1 ?_ | refine CallC.r ?_); conv => whnf))
        refine And.intro (by kernel_rfl) ?_
        ((conv => whnf); repeat ((first | refine B0 ?_ | refine B1 ?_ | refine CallC.r ?_); conv => whnf))
        exact ResOK.frz (by simp only [added]; rw [if_pos (by omega), List.map_append]; rfl) rfl
      ((conv => whnf); repeat ((first | refine B0 ?_ | refine B1 ?_ | refine CallC.r ?_); conv => whnf))
      refine And.intro ?_ trivial
      ((conv => whnf); repeat ((first | refine B0 ?_ | refine B1 ?_ | refine CallC.r ?_); conv => whnf))
      refine Pick.mk [1, 3] (by kernel_rfl) ?_
      ((conv => whnf); repeat ((first | refine B0 ?_ | refine B1 ?_ | refine CallC.r ?_); conv => whnf))
      refine And.intro ?_ ?_
      · ((conv => whnf); repeat ((first | refine B0 ?_ | refine B1 ?_ | refine CallC.r ?_); conv => whnf))
        refine Pick.mk _ (s_l27Own xs hk hb) ?_
        ((conv => whnf); repeat ((first | refine B0 ?_ | refine B1 ?_ | refine CallC.r ?_); conv => whnf))
        refine Pick.mk [3] (by kernel_rfl) ?_
        ((conv => whnf); repeat ((first | refine B0 ?_ | refine B1 ?_ | refine CallC.r ?_); conv => whnf))
        refine And.intro ?_ trivial
        ((conv => whnf); repeat ((first | refine B0 ?_ | refine B1 ?_ | refine CallC.r ?_); conv => whnf))
        refine Pick.mk false trivial ?_
        ((conv => whnf); repeat ((first | refine B0 ?_ | refine B1 ?_ | refine CallC.r ?_); conv => whnf))
        refine Pick.mk [4] (by kernel_rfl) ?_
        ((conv => whnf); repeat ((first | refine B0 ?_ | refine B1 ?_ | refine CallC.r ?_); conv => whnf))
        refine And.intro ?_ trivial
        ((conv => whnf); repeat ((first | refine B0 ?_ | refine B1 ?_ | refine CallC.r ?_); conv => whnf))
        refine Side.mk (by simp; omega) ?_
        ((conv => whnf); repeat ((first | refine B0 ?_ | refine B1 ?_ | refine CallC.r ?_); conv => whnf))
        refine Pick.mk [5] (by kernel_rfl) ?_
        ((conv => whnf); repeat ((first | refine B0 ?_ | refine B1 ?_ | refine CallC.r ?_); conv => whnf))
        refine And.intro ?_ trivial
        ((conv => whnf); repeat ((first | refine B0 ?_ | refine B1 ?_ | refine CallC.r ?_); conv => whnf))
        refine Pick.mk [6] (by kernel_rfl) ?_
        ((conv => whnf); repeat ((first | refine B0 ?_ | refine B1 ?_ | refine CallC.r ?_); conv => whnf))
        refine And.intro ?_ trivial
        ((conv => whnf); repeat ((first | refine B0 ?_ | refine B1 ?_ | refine CallC.r ?_); conv => whnf))
        refine And.intro (by kernel_rfl) ?_
        ((conv => whnf); repeat ((first | refine B0 ?_ | refine B1 ?_ | refine CallC.r ?_); conv => whnf))
        exact ResOK.frz (by simp only [added]; rw [if_pos (by omega), List.map_append]; rfl) rfl
      ((conv => whnf); repeat ((first | refine B0 ?_ | refine B1 ?_ | refine CallC.r ?_); conv => whnf))
      refine And.intro ?_ trivial
      ((conv => whnf); repeat ((first | refine B0 ?_ | refine B1 ?_ | refine CallC.r ?_); conv => whnf))
      refine Pick.mk false trivial ?_
      ((conv => whnf); repeat ((first | refine B0 ?_ | refine B1 ?_ | refine CallC.r ?_); conv => whnf))
      refine Pick.mk [1] (by kernel_rfl) ?_
      ((conv => whnf); repeat ((first | refine B0 ?_ | refine B1 ?_ | refine CallC.r ?_); conv => whnf))
      refine And.intro ?_ trivial
      ((conv => whnf); repeat ((first | refine B0 ?_ | refine B1 ?_ | refine CallC.r ?_); conv => whnf))
      refine Pick.mk _ (s_l27Own xs hk hb) ?_
      ((conv => whnf); repeat ((first | refine B0 ?_ | refine B1 ?_ | refine CallC.r ?_); conv => whnf))
      refine Pick.mk [4] (by kernel_rfl) ?_
      ((conv => whnf); repeat ((first | refine B0 ?_ | refine B1 ?_ | refine CallC.r ?_); conv => whnf))
      refine And.intro ?_ trivial
      ((conv => whnf); repeat ((first | refine B0 ?_ | refine B1 ?_ | refine CallC.r ?_); conv => whnf))
      refine Side.mk (by simp; omega) ?_
      ((conv => whnf); repeat ((first | refine B0 ?_ | refine B1 ?_ | refine CallC.r ?_); conv => whnf))
      refine Pick.mk [5] (by kernel_rfl) ?_
      ((conv => whnf); repeat ((first | refine B0 ?_ | refine B1 ?_ | refine CallC.r ?_); conv => whnf))
      refine And.intro ?_ trivial
      ((conv => whnf); repeat ((first | refine B0 ?_ | refine B1 ?_ | refine CallC.r ?_); conv => whnf))
      refine Pick.mk [6] (by kernel_rfl) ?_
      ((conv => whnf); repeat ((first | refine B0 ?_ | refine B1 ?_ | refine CallC.r ?_); conv => whnf))
      refine And.intro ?_ trivial
      ((conv => whnf); repeat ((first | refine B0 ?_ | refine B1 ?_ | refine CallC.r ?_); conv => whnf))
      refine And.intro (by kernel_rfl) ?_
      ((conv => whnf); repeat ((first | refine B0 ?_ | refine B1 ?_ | refine CallC.r ?_); conv => whnf))
      exact ResOK.frz (by simp only [added]; rw [if_pos (by omega), List.map_append]; rfl) rfl
    ((conv => whnf); repeat ((first | refine B0 ?_ | refine B1 ?_ | refine CallC.r ?_); conv => whnf))
    refine And.intro ?_ trivial
    ((conv => whnf); repeat ((first | refine B0 ?_ | refine B1 ?_ | refine CallC.r ?_); conv => whnf))
    refine Pick.mk [0, 3] (by kernel_rfl) ?_
    ((conv => whnf); repeat ((first | refine B0 ?_ | refine B1 ?_ | refine CallC.r ?_); conv => whnf))
    refine And.intro ?_ ?_
    · ((conv => whnf); repeat ((first | refine B0 ?_ | refine B1 ?_ | refine CallC.r ?_); conv => whnf))
      refine Pick.mk [1, 3] (by kernel_rfl) ?_
      ((conv => whnf); repeat ((first | refine B0 ?_ | refine B1 ?_ | refine CallC.r ?_); conv => whnf))
      refine And.intro ?_ ?_
      · ((conv => whnf); repeat ((first | refine B0 ?_ | refine B1 ?_ | refine CallC.r ?_); conv => whnf))
        refine Pick.mk _ (s_l27Own xs hk hb) ?_
        ((conv => whnf); repeat ((first | refine B0 ?_ | refine B1 ?_ | refine CallC.r ?_); conv => whnf))
        refine Pick.mk [3] (by kernel_rfl) ?_
        ((conv => whnf); repeat ((first | refine B0 ?_ | refine B1 ?_ | refine CallC.r ?_); conv => whnf))
        refine And.intro ?_ trivial
        ((conv => whnf); repeat ((first | refine B0 ?_ | refine B1 ?_ | refine CallC.r ?_); conv => whnf))
        refine Pick.mk false trivial ?_
        ((conv => whnf); repeat ((first | refine B0 ?_ | refine B1 ?_ | refine CallC.r ?_); conv => whnf))
        refine Pick.mk [4] (by kernel_rfl) ?_
        ((conv => whnf); repeat ((first | refine B0 ?_ | refine B1 ?_ | refine CallC.r ?_); conv => whnf))
        refine And.intro ?_ trivial
        ((conv => whnf); repeat ((first | refine B0 ?_ | refine B1 ?_ | refine CallC.r ?_); conv => whnf))
        refine Side.mk (by simp; omega) ?_
        ((conv => whnf); repeat ((first | refine B0 ?_ | refine B1 ?_ | refine CallC.r ?_); conv => whnf))
        refine Pick.mk [5] (by kernel_rfl) ?_
        ((conv => whnf); repeat ((first | refine B0 ?_ | refine B1 ?_ | refine CallC.r ?_); conv => whnf))
        refine And.intro ?_ trivial
        ((conv => whnf); repeat ((first | refine B0 ?_ | refine B1 ?_ | refine CallC.r ?_); conv => whnf))
        refine Pick.mk [6] (by kernel_rfl) ?_
        ((conv => whnf); repeat ((first | refine B0 ?_ | refine B1 ?_ | refine CallC.r ?_); conv => whnf))
        refine And.intro ?_ trivial
        ((conv => whnf); repeat ((first | refine B0 ?_ | refine B1 ?_ | refine CallC.r ?_); conv => whnf))
        refine And.intro (by kernel_rfl) ?_
        ((conv => whnf); repeat ((first | refine B0 ?_ | refine B1 ?_ | refine CallC.r ?_); conv => whnf))
        exact ResOK.frz (by simp only [added]; rw [if_pos (by omega), List.map_append]; rfl) rfl
      ((conv => whnf); repeat ((first | refine B0 ?_ | refine B1 ?_ | refine CallC.r ?_); conv => whnf))
      refine And.intro ?_ trivial
      ((conv => whnf); repeat ((first | refine B0 ?_ | refine B1 ?_ | refine CallC.r ?_); conv => whnf))
      refine Pick.mk false trivial ?_
      ((conv => whnf); repeat ((first | refine B0 ?_ | refine B1 ?_ | refine CallC.r ?_); conv => whnf))
      refine Pick.mk [1] (by kernel_rfl) ?_
      ((conv => whnf); repeat ((first | refine B0 ?_ | refine B1 ?_ | refine CallC.r ?_); conv => whnf))
      refine And.intro ?_ trivial
      ((conv => whnf); repeat ((first | refine B0 ?_ | refine B1 ?_ | refine CallC.r ?_); conv => whnf))
      refine Pick.mk _ (s_l27Own xs hk hb) ?_
      ((conv => whnf); repeat ((first | refine B0 ?_ | refine B1 ?_ | refine CallC.r ?_); conv => whnf))
      refine Pick.mk [4] (by kernel_rfl) ?_
      ((conv => whnf); repeat ((first | refine B0 ?_ | refine B1 ?_ | refine CallC.r ?_); conv => whnf))
      refine And.intro ?_ trivial
      ((conv => whnf); repeat ((first | refine B0 ?_ | refine B1 ?_ | refine CallC.r ?_); conv => whnf))
      refine Side.mk (by simp; omega) ?_
      ((conv => whnf); repeat ((first | refine B0 ?_ | refine B1 ?_ | refine CallC.r ?_); conv => whnf))
      refine Pick.mk [5] (by kernel_rfl) ?_
      ((conv => whnf); repeat ((first | refine B0 ?_ | refine B1 ?_ | refine CallC.r ?_); conv => whnf))
      refine And.intro ?_ trivial
      ((conv => whnf); repeat ((first | refine B0 ?_ | refine B1 ?_ | refine CallC.r ?_); conv => whnf))
      refine Pick.mk [6] (by kernel_rfl) ?_
      ((conv => whnf); repeat ((first | refine B0 ?_ | refine B1 ?_ | refine CallC.r ?_); conv => whnf))
      refine And.intro ?_ trivial
      ((conv => whnf); repeat ((first | refine B0 ?_ | refine B1 ?_ | refine CallC.r ?_); conv => whnf))
      refine And.intro (by kernel_rfl) ?_
      ((conv => whnf); repeat ((first | refine B0 ?_ | refine B1 ?_ | refine CallC.r ?_); conv => whnf))
      exact ResOK.frz (by simp only [added]; rw [if_pos (by omega), List.map_append]; rfl) rfl
    ((conv => whnf); repeat ((first | refine B0 ?_ | refine B1 ?_ | refine CallC.r ?_); conv => whnf))
    refine And.intro ?_ trivial
    ((conv => whnf); repeat ((first | refine B0 ?_ | refine B1 ?_ | refine CallC.r ?_); conv => whnf))
    refine Pick.mk false trivial ?_
    ((conv => whnf); repeat ((first | refine B0 ?_ | refine B1 ?_ | refine CallC.r ?_); conv => whnf))
    refine Pick.mk [0] (by kernel_rfl) ?_
    ((conv => whnf); repeat ((first | refine B0 ?_ | refine B1 ?_ | refine CallC.r ?_); conv => whnf))
    refine And.intro ?_ trivial
    ((conv => whnf); repeat ((first | refine B0 ?_ | refine B1 ?_ | refine CallC.r ?_); conv => whnf))
    refine Pick.mk [1] (by kernel_rfl) ?_
    ((conv => whnf); repeat ((first | refine B0 ?_ | refine B1 ?_ | refine CallC.r ?_); conv => whnf))
    refine And.intro ?_ trivial
    ((conv => whnf); repeat ((first | refine B0 ?_ | refine B1 ?_ | refine CallC.r ?_); conv => whnf))
    refine Pick.mk _ (s_l27Own xs hk hb) ?_
    ((conv => whnf); repeat ((first | refine B0 ?_ | refine B1 ?_ | refine CallC.r ?_); conv => whnf))
    refine Pick.mk [4] (by kernel_rfl) ?_
    ((conv => whnf); repeat ((first | refine B0 ?_ | refine B1 ?_ | refine CallC.r ?_); conv => whnf))
    refine And.intro ?_ trivial
    ((conv => whnf); repeat ((first | refine B0 ?_ | refine B1 ?_ | refine CallC.r ?_); conv => whnf))
    refine Side.mk (by simp; omega) ?_
    ((conv => whnf); repeat ((first | refine B0 ?_ | refine B1 ?_ | refine CallC.r ?_); conv => whnf))
    refine Pick.mk [5] (by kernel_rfl) ?_
    ((conv => whnf); repeat ((first | refine B0 ?_ | refine B1 ?_ | refine CallC.r ?_); conv => whnf))
    refine And.intro ?_ trivial
    ((conv => whnf); repeat ((first | refine B0 ?_ | refine B1 ?_ | refine CallC.r ?_); conv => whnf))
    refine Pick.mk [6] (by kernel_rfl) ?_
    ((conv => whnf); repeat ((first | refine B0 ?_ | refine B1 ?_ | refine CallC.r ?_); conv => whnf))
    refine And.intro ?_ trivial
    ((conv => whnf); repeat ((first | refine B0 ?_ | refine B1 ?_ | refine CallC.r ?_); conv => whnf))
    refine And.intro (by kernel_rfl) ?_
    ((conv => whnf); repeat ((first | refine B0 ?_ | refine B1 ?_ | refine CallC.r ?_); conv => whnf))
    exact ResOK.frz (by simp only [added]; rw [if_pos (by omega), List.map_append]; rfl) rfl

def commitOf (xs : List Version) (parent : Int) (memo : ByteArray) (st : List Setting) : List Version × Int :=
  if okHistory xs && (okMemo memo && okState st) then (if decide (0 ≤ parent) && decide (parent ≤ (xs.length : Int)) then added xs parent memo st else ([], 3)) else ([], 1)

theorem added_same {xs : List Version} {parent : Int} {memo : ByteArray} {st : List Setting} (h : okHistory xs = true) (h2 : okMemo memo = true) (h3 : okState st = true) (h4 : 0 ≤ parent ∧ parent ≤ (xs.length : Int)) : commitOf xs parent memo st = added xs parent memo st := by
  simp [commitOf, h, h2, h3, h4]
theorem commit_bad {xs : List Version} {parent : Int} {memo : ByteArray} {st : List Setting} (h : (okHistory xs && (okMemo memo && okState st)) = false) : commitOf xs parent memo st = ([], 1) := by
  simp only [commitOf, h, Bool.false_eq_true, if_false]
theorem commit_none {xs : List Version} {parent : Int} {memo : ByteArray} {st : List Setting} (h : okHistory xs = true) (h2 : okMemo memo = true) (h3 : okState st = true) (h4 : ¬ (0 ≤ parent ∧ parent ≤ (xs.length : Int))) : commitOf xs parent memo st = ([], 3) := by
  have : (decide (0 ≤ parent) && decide (parent ≤ (xs.length : Int))) = false := by simpa using h4
  simp only [commitOf, h, h2, h3, this, Bool.and_self, if_true, Bool.false_eq_true, if_false]

theorem okState_len {st : List Setting} (h : okState st = true) : st.length ≤ 24 := by
  simp only [okState, Bool.and_eq_true, decide_eq_true_eq] at h; omega

theorem wt_append {α : Type} [Enc α] (xs ys : List α) : Enc.wt (xs ++ ys) = Enc.wt xs + Enc.wt ys := by
  simp only [wt_list, List.length_append, List.map_append, List.sum_append]; omega
theorem commitOf_wt (xs : List Version) (parent : Int) (memo : ByteArray) (st : List Setting) (h1 : memo.size ≤ 1048576) (h2 : Enc.wt xs ≤ 1048576) (h3 : Enc.wt st ≤ 1048576) : Enc.wt (commitOf xs parent memo st).1 ≤ 4194304 := by
  have h0 : Enc.wt ([] : List Version) = 0 := by rw [wt_list]; rfl
  unfold commitOf added
  repeat' split
  all_goals first
    | (simp only [h0]; omega)
    | skip
  simp only [wt_append]
  have : Enc.wt [(⟨xs.length + 1, parent, memo, st⟩ : Version)] = 1 + (Enc.wt memo + Enc.wt st) := by
    have : Enc.wt (⟨xs.length + 1, parent, memo, st⟩ : Version) = 0 + 0 + Enc.wt memo + Enc.wt st := rfl
    rw [wt_list]; simp only [List.length_cons, List.length_nil, List.map_cons, List.map_nil, List.sum_cons, List.sum_nil, this]; omega
  have h4 : Enc.wt memo = memo.size := rfl
  omega

end Go.Proofs.Ytjolahiflldepab.Pi
