/- Sheaves by name. No statement of the seat is proved here. -/
import Derived.Test.YtlnjgoeicanehaaGreatPiFNamed
namespace Go.Proofs.YtlnjgoeicanehaaGreat.Pi
open Go
set_option maxRecDepth 10000
set_option maxHeartbeats 12800000
set_option linter.unusedVariables false
set_option linter.unusedSimpArgs false

theorem s_l25Sheaf (w : World) (t : ByteArray) (hb : Enc.wt w ≤ 1048576) : Sat Tryz.prog 62 [(false, [.ptr 2 (Enc.enc w)]), (false, [.str t])] (.one (.c (.int .i64 (atName NamedSheaf.name w.sheaves t))), []) := by
  have hl := nw_len hb
  refine Sat.intro tok mixed Tryz.func62 rfl rfl ?_
  ((conv => whnf); repeat ((first | refine B0 ?_ | refine B1 ?_ | refine D1 ?_ | refine D2 ?_ | refine CallC.r ?_); conv => whnf))
  refine Pick.mk [0, 1, 5] trivial ?_
  ((conv => whnf); repeat ((first | refine B0 ?_ | refine B1 ?_ | refine D1 ?_ | refine D2 ?_ | refine CallC.r ?_); conv => whnf))
  refine LoopL.over (fun (i : Nat) => [(5, .one (.c (.int .i64 ((i : Int)))))]) (fun (i : Nat) => []) (fun (i : Nat) => w.sheaves.length - i) (fun (i : Nat) => i ≤ w.sheaves.length ∧ ∀ (j : Nat) (h : j < w.sheaves.length), j < i → (w.sheaves[j].name.toList == t.toList) = false) ?_ 0 ⟨Nat.zero_le _, by intros; omega⟩
  intro i ⟨h2, h3⟩ ih
  ((conv => whnf); repeat ((first | refine B0 ?_ | refine B1 ?_ | refine D1 ?_ | refine D2 ?_ | refine CallC.r ?_); conv => whnf))
  refine Br.mk (fun h => ?_) (fun h => ?_) <;> ((conv => whnf); repeat ((first | refine B0 ?_ | refine B1 ?_ | refine D1 ?_ | refine D2 ?_ | refine CallC.r ?_); conv => whnf))
  · have h : i < w.sheaves.length := by simp only [List.length_map, decide_eq_true_eq] at h; omega
    refine Pick.ix (h) ?_
    ((conv => whnf); repeat ((first | refine B0 ?_ | refine B1 ?_ | refine D1 ?_ | refine D2 ?_ | refine CallC.r ?_); conv => whnf))
    refine Br.mk (fun h5 => ?_) (fun h5 => ?_) <;> ((conv => whnf); repeat ((first | refine B0 ?_ | refine B1 ?_ | refine D1 ?_ | refine D2 ?_ | refine CallC.r ?_); conv => whnf))
    · exact ResOK.same (by rw [atName, firstIx_at h h5 h3, Nat.zero_add])
    · refine Pick.at64 (z := (i + 1 : Nat)) (by simp) (by omega) ?_
      ((conv => whnf); repeat ((first | refine B0 ?_ | refine B1 ?_ | refine D1 ?_ | refine D2 ?_ | refine CallC.r ?_); conv => whnf))
      refine ih (i + 1) ⟨by omega, fun j hj hlt => ?_⟩ (by omega)
      by_cases e : j = i
      · subst e; exact h5
      · exact h3 j hj (by omega)
  · have h : i = w.sheaves.length := by simp only [List.length_map, decide_eq_false_iff_not] at h; omega
    exact ResOK.same (by rw [atName, firstIx_none fun j hj => h3 j hj (by omega)])

theorem s_copyMatrix (m : Matrix) (hb : m.cells.length ≤ 1048576) : Sat Tryz.prog 121 [(true, Enc.enc m)] (.agg [.c (.int .i64 m.prime), .c (.int .i64 m.rows), .c (.int .i64 m.columns), .ds 0], [(0, .deep true 1 (m.cells.map Enc.enc))]) := by
  refine Sat.intro tok mixed Tryz.func121 rfl rfl ?_
  ((conv => whnf); repeat ((first | refine B0 ?_ | refine B1 ?_ | refine D1 ?_ | refine D2 ?_ | refine CallC.r ?_); conv => whnf))
  refine Pick.mk _ (s_CloneIntD m.cells hb) ?_
  ((conv => whnf); repeat ((first | refine B0 ?_ | refine B1 ?_ | refine D1 ?_ | refine D2 ?_ | refine CallC.r ?_); conv => whnf))
  exact ResOK.same rfl

theorem Pick.orders {P : Program} {tt : TT} {ops : Array Oper} {n : Nat} {l : Array Bool} {s : St} {Q : St → Prop} {F G : Nat → Prop} (h : ∀ K : St → Prop, (∀ s', Q s' → K s') → anyM P tt ops K n l s) : Pick (drawR2 ops) fun m => match Nat.beq m 1000, Nat.ble 2000 m with | true, _ => anyM P tt ops Q n l s | false, false => F m | false, true => G m :=
  ⟨1000, Or.inl (Or.inr rfl), h Q fun _ h => h⟩
theorem s_copySheaf (s : Sheaf) (hb : s.base.simplices.length ≤ 1048576) (hc : ∀ x ∈ s.base.simplices, x.length ≤ 1048576) (h2 : s.stalks.length ≤ 1048576) (h3 : s.maps.length ≤ 1048576) (h4 : ∀ m ∈ s.maps, m.cells.length ≤ 1048576) :
    Sat Tryz.prog 65 [(true, Enc.enc s)] (.agg [.ds 0, .c (.int .i64 s.prime), .ds 1, .ds 2], [(0, .deep true 1 (s.base.simplices.map Enc.enc)), (1, .deep true 1 (s.stalks.map Enc.enc)), (2, .deep true 4 (s.maps.map Enc.enc))]) := by
  refine Sat.intro tok mixed Tryz.func65 rfl rfl ?_
  ((conv => whnf); repeat ((first | refine B0 ?_ | refine B1 ?_ | refine CallC.r ?_); conv => whnf))
  refine Pick.drawC (5000 + 7) (by kernel_rfl) ?_
  ((conv => whnf); repeat ((first | refine B0 ?_ | refine B1 ?_ | refine D1 ?_ | refine D2 ?_ | refine CallC.r ?_); conv => whnf))
  refine Pick.mk _ (s_copyComplex s.base hb hc) ?_
  ((conv => whnf); repeat ((first | refine B0 ?_ | refine B1 ?_ | refine D1 ?_ | refine D2 ?_ | refine CallC.r ?_); conv => whnf))
  refine Pick.mk _ (s_CloneIntD s.stalks h2) ?_
  ((conv => whnf); repeat ((first | refine B0 ?_ | refine B1 ?_ | refine D1 ?_ | refine D2 ?_ | refine CallC.r ?_); conv => whnf))
  refine Pick.mk ([2, 3, 16, 17, 18] ++ [3000227, 2000227]) trivial ?_
  ((conv => whnf); repeat ((first | refine B0 ?_ | refine B1 ?_ | refine D1 ?_ | refine D2 ?_ | refine CallC.r ?_); conv => whnf))
  refine Side.mk (by simp [flatRows]) ?_
  ((conv => whnf); repeat ((first | refine B0 ?_ | refine B1 ?_ | refine D1 ?_ | refine D2 ?_ | refine CallC.r ?_); conv => whnf))
  refine LoopL.run (fun i : Nat => match i with
    | 0 => St.mk [.one .dead, .one .dead, .one (.pb 128 0 4), .one (.pb 192 0 4), .one .dead, .one .dead, .one .dead, .one .dead, .one .dead, .one .dead, .one .dead, .one .dead, .one .dead, .one .dead, .one .dead, .one .dead, .one (.c (.slice 4 (s.maps.map Enc.enc))), .one (.c (.int .i64 (s.maps.map (Enc.enc (α := Matrix))).length)), .one (.c (.int .i64 ((0 : Nat) : Int))), .one .dead, .one .dead, .one .dead, .one .dead, .one .dead, .one .dead, .one .dead, .one .dead, .one .dead, .one .dead, .one .dead, .one .dead] [(128, .box [.nil 1, .c (.int .i64 0), .nil 1, .nil 4]), (192, .box [.ds 512, .c (.int .i64 s.prime), .ds 832, .ds 227]), (227, .deep true 4 []), (512, .deep true 1 (s.base.simplices.map Enc.enc)), (832, .deep true 1 (s.stalks.map Enc.enc))]
    | j + 1 => St.mk [.one .dead, .one .dead, .one (.pb 128 0 4), .one (.pb 192 0 4), .one .dead, .one .dead, .one .dead, .one .dead, .one .dead, .one .dead, .one .dead, .one .dead, .one .dead, .one .dead, .one .dead, .one .dead, .one (.c (.slice 4 (s.maps.map Enc.enc))), .one (.c (.int .i64 (s.maps.map (Enc.enc (α := Matrix))).length)), .one (.c (.int .i64 ((j + 1 : Nat) : Int))), .one .dead, .one .dead, .one .dead, .one .dead, .one .dead, .one .dead, .one .dead, .one .dead, .one .dead, .one .dead, .one .dead, .one .dead] [(128, .box [.nil 1, .c (.int .i64 0), .nil 1, .nil 4]), (192, .box [.ds 512, .c (.int .i64 s.prime), .ds 832, .ds 1728]), (512, .deep true 1 (s.base.simplices.map Enc.enc)), (832, .deep true 1 (s.stalks.map Enc.enc)), (1728, .deep true 4 ((s.maps.take (j + 1)).map Enc.enc))]) (fun i => s.maps.length - i) (fun i => i ≤ s.maps.length) ?_ 0 (Nat.zero_le _)
  intro i hi ih
  by_cases h : i < s.maps.length
  · have hn := ih (i + 1) (by omega) (by omega)
    dsimp only at hn
    rw [List.take_add_one, List.getElem?_eq_getElem h, Option.toList_some, List.map_append] at hn
    have hcm := s_copyMatrix s.maps[i] (h4 _ (List.getElem_mem h))
    have hw : IntKind.i64.wrap ((i : Int) + 1) = ((i + 1 : Nat) : Int) := wrap_i64 (by omega) (by omega)
    have hd : decide ((i : Int) < ((s.maps.map (Enc.enc (α := Matrix))).length : Int)) = true := by simp only [List.length_map, decide_eq_true_eq]; omega
    clear ih
    cases i <;> ((conv => whnf); repeat ((first | refine B0 ?_ | refine B1 ?_ | refine D1 ?_ | refine D2 ?_ | refine CallC.r ?_); conv => whnf))
    all_goals refine Br.mk (fun _ => ?_) (fun h' => Bool.noConfusion (hd.symm.trans h'))
    all_goals ((conv => whnf); repeat ((first | refine B0 ?_ | refine B1 ?_ | refine CallC.r ?_); conv => whnf))
    all_goals refine Pick.ix h ?_
    all_goals ((conv => whnf); repeat ((first | refine B0 ?_ | refine B1 ?_ | refine CallC.r ?_); conv => whnf))
    all_goals
      refine Pick.orders fun K hK => ?_
      ((conv => whnf); repeat ((first | refine B0 ?_ | refine B1 ?_ | refine CallC.r ?_); conv => whnf))
    -- orders
      refine Pick.mk [0, 2] (by kernel_rfl) ?_
      ((conv => whnf); repeat ((first | refine B0 ?_ | refine B1 ?_ | refine CallC.r ?_); conv => whnf))
      refine And.intro ?_ ?_
      · ((conv => whnf); repeat ((first | refine B0 ?_ | refine B1 ?_ | refine CallC.r ?_); conv => whnf))
        refine Pick.mk [1, 2] (by kernel_rfl) ?_
        ((conv => whnf); repeat ((first | refine B0 ?_ | refine B1 ?_ | refine CallC.r ?_); conv => whnf))
        refine And.intro ?_ ?_
        · ((conv => whnf); repeat ((first | refine B0 ?_ | refine B1 ?_ | refine CallC.r ?_); conv => whnf))
          refine Pick.mk [2] (by kernel_rfl) ?_
          ((conv => whnf); repeat ((first | refine B0 ?_ | refine B1 ?_ | refine CallC.r ?_); conv => whnf))
          refine And.intro ?_ trivial
          ((conv => whnf); repeat ((first | refine B0 ?_ | refine B1 ?_ | refine CallC.r ?_); conv => whnf))
          refine Pick.mk [3] (by kernel_rfl) ?_
          ((conv => whnf); repeat ((first | refine B0 ?_ | refine B1 ?_ | refine CallC.r ?_); conv => whnf))
          refine And.intro ?_ trivial
          ((conv => whnf); repeat ((first | refine B0 ?_ | refine B1 ?_ | refine CallC.r ?_); conv => whnf))
          refine Pick.mk _ hcm ?_
          ((conv => whnf); repeat ((first | refine B0 ?_ | refine B1 ?_ | refine CallC.r ?_); conv => whnf))
          refine Pick.mk [4] (by kernel_rfl) ?_
          ((conv => whnf); repeat ((first | refine B0 ?_ | refine B1 ?_ | refine CallC.r ?_); conv => whnf))
          refine And.intro ?_ trivial
          ((conv => whnf); repeat ((first | refine B0 ?_ | refine B1 ?_ | refine CallC.r ?_); conv => whnf))
          refine Pick.mk (some true) trivial ?_
          ((conv => whnf); repeat ((first | refine B0 ?_ | refine B1 ?_ | refine CallC.r ?_); conv => whnf))
          refine Pick.mk [5] (by kernel_rfl) ?_
          ((conv => whnf); repeat ((first | refine B0 ?_ | refine B1 ?_ | refine CallC.r ?_); conv => whnf))
          refine And.intro ?_ trivial
          ((conv => whnf); repeat ((first | refine B0 ?_ | refine B1 ?_ | refine CallC.r ?_); conv => whnf))
          refine Side.mk (by first | (simp only [List.length_map, List.length_take, List.length_cons, List.length_nil]; omega) | (simp; done) | (simp; omega)) ?_
          ((conv => whnf); repeat ((first | refine B0 ?_ | refine B1 ?_ | refine CallC.r ?_); conv => whnf))
          refine Pick.mk [6] (by kernel_rfl) ?_
          ((conv => whnf); repeat ((first | refine B0 ?_ | refine B1 ?_ | refine CallC.r ?_); conv => whnf))
          refine And.intro ?_ trivial
          ((conv => whnf); repeat ((first | refine B0 ?_ | refine B1 ?_ | refine CallC.r ?_); conv => whnf))
          refine Pick.mk [7] (by kernel_rfl) ?_
          ((conv => whnf); repeat ((first | refine B0 ?_ | refine B1 ?_ | refine CallC.r ?_); conv => whnf))
          refine And.intro ?_ trivial
          ((conv => whnf); repeat ((first | refine B0 ?_ | refine B1 ?_ | refine CallC.r ?_); conv => whnf))
          refine And.intro (by kernel_rfl) ?_
          ((conv => whnf); repeat ((first | refine B0 ?_ | refine B1 ?_ | refine CallC.r ?_); conv => whnf))
          refine hK _ ?_; ((conv => whnf); repeat ((first | refine B0 ?_ | refine B1 ?_ | refine D1 ?_ | refine D2 ?_ | refine CallC.r ?_); conv => whnf)); refine Pick.mk _ hw ?_; ((conv => whnf); repeat ((first | refine B0 ?_ | refine B1 ?_ | refine D1 ?_ | refine D2 ?_ | refine CallC.r ?_); conv => whnf)); exact hn
        ((conv => whnf); repeat ((first | refine B0 ?_ | refine B1 ?_ | refine CallC.r ?_); conv => whnf))
        refine And.intro ?_ trivial
        ((conv => whnf); repeat ((first | refine B0 ?_ | refine B1 ?_ | refine CallC.r ?_); conv => whnf))
        refine Pick.mk [1, 3] (by kernel_rfl) ?_
        ((conv => whnf); repeat ((first | refine B0 ?_ | refine B1 ?_ | refine CallC.r ?_); conv => whnf))
        refine And.intro ?_ ?_
        · ((conv => whnf); repeat ((first | refine B0 ?_ | refine B1 ?_ | refine CallC.r ?_); conv => whnf))
          refine Pick.mk [3] (by kernel_rfl) ?_
          ((conv => whnf); repeat ((first | refine B0 ?_ | refine B1 ?_ | refine CallC.r ?_); conv => whnf))
          refine And.intro ?_ trivial
          ((conv => whnf); repeat ((first | refine B0 ?_ | refine B1 ?_ | refine CallC.r ?_); conv => whnf))
          refine Pick.mk _ hcm ?_
          ((conv => whnf); repeat ((first | refine B0 ?_ | refine B1 ?_ | refine CallC.r ?_); conv => whnf))
          refine Pick.mk [4] (by kernel_rfl) ?_
          ((conv => whnf); repeat ((first | refine B0 ?_ | refine B1 ?_ | refine CallC.r ?_); conv => whnf))
          refine And.intro ?_ trivial
          ((conv => whnf); repeat ((first | refine B0 ?_ | refine B1 ?_ | refine CallC.r ?_); conv => whnf))
          refine Pick.mk (some true) trivial ?_
          ((conv => whnf); repeat ((first | refine B0 ?_ | refine B1 ?_ | refine CallC.r ?_); conv => whnf))
          refine Pick.mk [5] (by kernel_rfl) ?_
          ((conv => whnf); repeat ((first | refine B0 ?_ | refine B1 ?_ | refine CallC.r ?_); conv => whnf))
          refine And.intro ?_ trivial
          ((conv => whnf); repeat ((first | refine B0 ?_ | refine B1 ?_ | refine CallC.r ?_); conv => whnf))
          refine Side.mk (by first | (simp only [List.length_map, List.length_take, List.length_cons, List.length_nil]; omega) | (simp; done) | (simp; omega)) ?_
          ((conv => whnf); repeat ((first | refine B0 ?_ | refine B1 ?_ | refine CallC.r ?_); conv => whnf))
          refine Pick.mk [6] (by kernel_rfl) ?_
          ((conv => whnf); repeat ((first | refine B0 ?_ | refine B1 ?_ | refine CallC.r ?_); conv => whnf))
          refine And.intro ?_ trivial
          ((conv => whnf); repeat ((first | refine B0 ?_ | refine B1 ?_ | refine CallC.r ?_); conv => whnf))
          refine Pick.mk [7] (by kernel_rfl) ?_
          ((conv => whnf); repeat ((first | refine B0 ?_ | refine B1 ?_ | refine CallC.r ?_); conv => whnf))
          refine And.intro ?_ trivial
          ((conv => whnf); repeat ((first | refine B0 ?_ | refine B1 ?_ | refine CallC.r ?_); conv => whnf))
          refine And.intro (by kernel_rfl) ?_
          ((conv => whnf); repeat ((first | refine B0 ?_ | refine B1 ?_ | refine CallC.r ?_); conv => whnf))
          refine hK _ ?_; ((conv => whnf); repeat ((first | refine B0 ?_ | refine B1 ?_ | refine D1 ?_ | refine D2 ?_ | refine CallC.r ?_); conv => whnf)); refine Pick.mk _ hw ?_; ((conv => whnf); repeat ((first | refine B0 ?_ | refine B1 ?_ | refine D1 ?_ | refine D2 ?_ | refine CallC.r ?_); conv => whnf)); exact hn
        ((conv => whnf); repeat ((first | refine B0 ?_ | refine B1 ?_ | refine CallC.r ?_); conv => whnf))
        refine And.intro ?_ trivial
        ((conv => whnf); repeat ((first | refine B0 ?_ | refine B1 ?_ | refine CallC.r ?_); conv => whnf))
        refine Pick.mk _ hcm ?_
        ((conv => whnf); repeat ((first | refine B0 ?_ | refine B1 ?_ | refine CallC.r ?_); conv => whnf))
        refine Pick.mk [1, 4] (by kernel_rfl) ?_
        ((conv => whnf); repeat ((first | refine B0 ?_ | refine B1 ?_ | refine CallC.r ?_); conv => whnf))
        refine And.intro ?_ ?_
        · ((conv => whnf); repeat ((first | refine B0 ?_ | refine B1 ?_ | refine CallC.r ?_); conv => whnf))
          refine Pick.mk [4] (by kernel_rfl) ?_
          ((conv => whnf); repeat ((first | refine B0 ?_ | refine B1 ?_ | refine CallC.r ?_); conv => whnf))
          refine And.intro ?_ trivial
          ((conv => whnf); repeat ((first | refine B0 ?_ | refine B1 ?_ | refine CallC.r ?_); conv => whnf))
          refine Pick.mk (some true) trivial ?_
          ((conv => whnf); repeat ((first | refine B0 ?_ | refine B1 ?_ | refine CallC.r ?_); conv => whnf))
          refine Pick.mk [5] (by kernel_rfl) ?_
          ((conv => whnf); repeat ((first | refine B0 ?_ | refine B1 ?_ | refine CallC.r ?_); conv => whnf))
          refine And.intro ?_ trivial
          ((conv => whnf); repeat ((first | refine B0 ?_ | refine B1 ?_ | refine CallC.r ?_); conv => whnf))
          refine Side.mk (by first | (simp only [List.length_map, List.length_take, List.length_cons, List.length_nil]; omega) | (simp; done) | (simp; omega)) ?_
          ((conv => whnf); repeat ((first | refine B0 ?_ | refine B1 ?_ | refine CallC.r ?_); conv => whnf))
          refine Pick.mk [6] (by kernel_rfl) ?_
          ((conv => whnf); repeat ((first | refine B0 ?_ | refine B1 ?_ | refine CallC.r ?_); conv => whnf))
          refine And.intro ?_ trivial
          ((conv => whnf); repeat ((first | refine B0 ?_ | refine B1 ?_ | refine CallC.r ?_); conv => whnf))
          refine Pick.mk [7] (by kernel_rfl) ?_
          ((conv => whnf); repeat ((first | refine B0 ?_ | refine B1 ?_ | refine CallC.r ?_); conv => whnf))
          refine And.intro ?_ trivial
          ((conv => whnf); repeat ((first | refine B0 ?_ | refine B1 ?_ | refine CallC.r ?_); conv => whnf))
          refine And.intro (by kernel_rfl) ?_
          ((conv => whnf); repeat ((first | refine B0 ?_ | refine B1 ?_ | refine CallC.r ?_); conv => whnf))
          refine hK _ ?_; ((conv => whnf); repeat ((first | refine B0 ?_ | refine B1 ?_ | refine D1 ?_ | refine D2 ?_ | refine CallC.r ?_); conv => whnf)); refine Pick.mk _ hw ?_; ((conv => whnf); repeat ((first | refine B0 ?_ | refine B1 ?_ | refine D1 ?_ | refine D2 ?_ | refine CallC.r ?_); conv => whnf)); exact hn
        ((conv => whnf); repeat ((first | refine B0 ?_ | refine B1 ?_ | refine CallC.r ?_); conv => whnf))
        refine And.intro ?_ trivial
        ((conv => whnf); repeat ((first | refine B0 ?_ | refine B1 ?_ | refine CallC.r ?_); conv => whnf))
        refine Pick.mk (some true) trivial ?_
        ((conv => whnf); repeat ((first | refine B0 ?_ | refine B1 ?_ | refine CallC.r ?_); conv => whnf))
        refine Pick.mk [1] (by kernel_rfl) ?_
        ((conv => whnf); repeat ((first | refine B0 ?_ | refine B1 ?_ | refine CallC.r ?_); conv => whnf))
        refine And.intro ?_ trivial
        ((conv => whnf); repeat ((first | refine B0 ?_ | refine B1 ?_ | refine CallC.r ?_); conv => whnf))
        refine Pick.mk [5] (by kernel_rfl) ?_
        ((conv => whnf); repeat ((first | refine B0 ?_ | refine B1 ?_ | refine CallC.r ?_); conv => whnf))
        refine And.intro ?_ trivial
        ((conv => whnf); repeat ((first | refine B0 ?_ | refine B1 ?_ | refine CallC.r ?_); conv => whnf))
        refine Side.mk (by first | (simp only [List.length_map, List.length_take, List.length_cons, List.length_nil]; omega) | (simp; done) | (simp; omega)) ?_
        ((conv => whnf); repeat ((first | refine B0 ?_ | refine B1 ?_ | refine CallC.r ?_); conv => whnf))
        refine Pick.mk [6] (by kernel_rfl) ?_
        ((conv => whnf); repeat ((first | refine B0 ?_ | refine B1 ?_ | refine CallC.r ?_); conv => whnf))
        refine And.intro ?_ trivial
        ((conv => whnf); repeat ((first | refine B0 ?_ | refine B1 ?_ | refine CallC.r ?_); conv => whnf))
        refine Pick.mk [7] (by kernel_rfl) ?_
        ((conv => whnf); repeat ((first | refine B0 ?_ | refine B1 ?_ | refine CallC.r ?_); conv => whnf))
        refine And.intro ?_ trivial
        ((conv => whnf); repeat ((first | refine B0 ?_ | refine B1 ?_ | refine CallC.r ?_); conv => whnf))
        refine And.intro (by kernel_rfl) ?_
        ((conv => whnf); repeat ((first | refine B0 ?_ | refine B1 ?_ | refine CallC.r ?_); conv => whnf))
        refine hK _ ?_; ((conv => whnf); repeat ((first | refine B0 ?_ | refine B1 ?_ | refine D1 ?_ | refine D2 ?_ | refine CallC.r ?_); conv => whnf)); refine Pick.mk _ hw ?_; ((conv => whnf); repeat ((first | refine B0 ?_ | refine B1 ?_ | refine D1 ?_ | refine D2 ?_ | refine CallC.r ?_); conv => whnf)); exact hn
      ((conv => whnf); repeat ((first | refine B0 ?_ | refine B1 ?_ | refine CallC.r ?_); conv => whnf))
      refine And.intro ?_ trivial
      ((conv => whnf); repeat ((first | refine B0 ?_ | refine B1 ?_ | refine CallC.r ?_); conv => whnf))
      refine Pick.mk [0, 3] (by kernel_rfl) ?_
      ((conv => whnf); repeat ((first | refine B0 ?_ | refine B1 ?_ | refine CallC.r ?_); conv => whnf))
      refine And.intro ?_ ?_
      · ((conv => whnf); repeat ((first | refine B0 ?_ | refine B1 ?_ | refine CallC.r ?_); conv => whnf))
        refine Pick.mk [1, 3] (by kernel_rfl) ?_
        ((conv => whnf); repeat ((first | refine B0 ?_ | refine B1 ?_ | refine CallC.r ?_); conv => whnf))
        refine And.intro ?_ ?_
        · ((conv => whnf); repeat ((first | refine B0 ?_ | refine B1 ?_ | refine CallC.r ?_); conv => whnf))
          refine Pick.mk [3] (by kernel_rfl) ?_
          ((conv => whnf); repeat ((first | refine B0 ?_ | refine B1 ?_ | refine CallC.r ?_); conv => whnf))
          refine And.intro ?_ trivial
          ((conv => whnf); repeat ((first | refine B0 ?_ | refine B1 ?_ | refine CallC.r ?_); conv => whnf))
          refine Pick.mk _ hcm ?_
          ((conv => whnf); repeat ((first | refine B0 ?_ | refine B1 ?_ | refine CallC.r ?_); conv => whnf))
          refine Pick.mk [4] (by kernel_rfl) ?_
          ((conv => whnf); repeat ((first | refine B0 ?_ | refine B1 ?_ | refine CallC.r ?_); conv => whnf))
          refine And.intro ?_ trivial
          ((conv => whnf); repeat ((first | refine B0 ?_ | refine B1 ?_ | refine CallC.r ?_); conv => whnf))
          refine Pick.mk (some true) trivial ?_
          ((conv => whnf); repeat ((first | refine B0 ?_ | refine B1 ?_ | refine CallC.r ?_); conv => whnf))
          refine Pick.mk [5] (by kernel_rfl) ?_
          ((conv => whnf); repeat ((first | refine B0 ?_ | refine B1 ?_ | refine CallC.r ?_); conv => whnf))
          refine And.intro ?_ trivial
          ((conv => whnf); repeat ((first | refine B0 ?_ | refine B1 ?_ | refine CallC.r ?_); conv => whnf))
          refine Side.mk (by first | (simp only [List.length_map, List.length_take, List.length_cons, List.length_nil]; omega) | (simp; done) | (simp; omega)) ?_
          ((conv => whnf); repeat ((first | refine B0 ?_ | refine B1 ?_ | refine CallC.r ?_); conv => whnf))
          refine Pick.mk [6] (by kernel_rfl) ?_
          ((conv => whnf); repeat ((first | refine B0 ?_ | refine B1 ?_ | refine CallC.r ?_); conv => whnf))
          refine And.intro ?_ trivial
          ((conv => whnf); repeat ((first | refine B0 ?_ | refine B1 ?_ | refine CallC.r ?_); conv => whnf))
          refine Pick.mk [7] (by kernel_rfl) ?_
          ((conv => whnf); repeat ((first | refine B0 ?_ | refine B1 ?_ | refine CallC.r ?_); conv => whnf))
          refine And.intro ?_ trivial
          ((conv => whnf); repeat ((first | refine B0 ?_ | refine B1 ?_ | refine CallC.r ?_); conv => whnf))
          refine And.intro (by kernel_rfl) ?_
          ((conv => whnf); repeat ((first | refine B0 ?_ | refine B1 ?_ | refine CallC.r ?_); conv => whnf))
          refine hK _ ?_; ((conv => whnf); repeat ((first | refine B0 ?_ | refine B1 ?_ | refine D1 ?_ | refine D2 ?_ | refine CallC.r ?_); conv => whnf)); refine Pick.mk _ hw ?_; ((conv => whnf); repeat ((first | refine B0 ?_ | refine B1 ?_ | refine D1 ?_ | refine D2 ?_ | refine CallC.r ?_); conv => whnf)); exact hn
        ((conv => whnf); repeat ((first | refine B0 ?_ | refine B1 ?_ | refine CallC.r ?_); conv => whnf))
        refine And.intro ?_ trivial
        ((conv => whnf); repeat ((first | refine B0 ?_ | refine B1 ?_ | refine CallC.r ?_); conv => whnf))
        refine Pick.mk _ hcm ?_
        ((conv => whnf); repeat ((first | refine B0 ?_ | refine B1 ?_ | refine CallC.r ?_); conv => whnf))
        refine Pick.mk [1, 4] (by kernel_rfl) ?_
        ((conv => whnf); repeat ((first | refine B0 ?_ | refine B1 ?_ | refine CallC.r ?_); conv => whnf))
        refine And.intro ?_ ?_
        · ((conv => whnf); repeat ((first | refine B0 ?_ | refine B1 ?_ | refine CallC.r ?_); conv => whnf))
          refine Pick.mk [4] (by kernel_rfl) ?_
          ((conv => whnf); repeat ((first | refine B0 ?_ | refine B1 ?_ | refine CallC.r ?_); conv => whnf))
          refine And.intro ?_ trivial
          ((conv => whnf); repeat ((first | refine B0 ?_ | refine B1 ?_ | refine CallC.r ?_); conv => whnf))
          refine Pick.mk (some true) trivial ?_
          ((conv => whnf); repeat ((first | refine B0 ?_ | refine B1 ?_ | refine CallC.r ?_); conv => whnf))
          refine Pick.mk [5] (by kernel_rfl) ?_
          ((conv => whnf); repeat ((first | refine B0 ?_ | refine B1 ?_ | refine CallC.r ?_); conv => whnf))
          refine And.intro ?_ trivial
          ((conv => whnf); repeat ((first | refine B0 ?_ | refine B1 ?_ | refine CallC.r ?_); conv => whnf))
          refine Side.mk (by first | (simp only [List.length_map, List.length_take, List.length_cons, List.length_nil]; omega) | (simp; done) | (simp; omega)) ?_
          ((conv => whnf); repeat ((first | refine B0 ?_ | refine B1 ?_ | refine CallC.r ?_); conv => whnf))
          refine Pick.mk [6] (by kernel_rfl) ?_
          ((conv => whnf); repeat ((first | refine B0 ?_ | refine B1 ?_ | refine CallC.r ?_); conv => whnf))
          refine And.intro ?_ trivial
          ((conv => whnf); repeat ((first | refine B0 ?_ | refine B1 ?_ | refine CallC.r ?_); conv => whnf))
          refine Pick.mk [7] (by kernel_rfl) ?_
          ((conv => whnf); repeat ((first | refine B0 ?_ | refine B1 ?_ | refine CallC.r ?_); conv => whnf))
          refine And.intro ?_ trivial
          ((conv => whnf); repeat ((first | refine B0 ?_ | refine B1 ?_ | refine CallC.r ?_); conv => whnf))
          refine And.intro (by kernel_rfl) ?_
          ((conv => whnf); repeat ((first | refine B0 ?_ | refine B1 ?_ | refine CallC.r ?_); conv => whnf))
          refine hK _ ?_; ((conv => whnf); repeat ((first | refine B0 ?_ | refine B1 ?_ | refine D1 ?_ | refine D2 ?_ | refine CallC.r ?_); conv => whnf)); refine Pick.mk _ hw ?_; ((conv => whnf); repeat ((first | refine B0 ?_ | refine B1 ?_ | refine D1 ?_ | refine D2 ?_ | refine CallC.r ?_); conv => whnf)); exact hn
        ((conv => whnf); repeat ((first | refine B0 ?_ | refine B1 ?_ | refine CallC.r ?_); conv => whnf))
        refine And.intro ?_ trivial
        ((conv => whnf); repeat ((first | refine B0 ?_ | refine B1 ?_ | refine CallC.r ?_); conv => whnf))
        refine Pick.mk (some true) trivial ?_
        ((conv => whnf); repeat ((first | refine B0 ?_ | refine B1 ?_ | refine CallC.r ?_); conv => whnf))
        refine Pick.mk [1] (by kernel_rfl) ?_
        ((conv => whnf); repeat ((first | refine B0 ?_ | refine B1 ?_ | refine CallC.r ?_); conv => whnf))
        refine And.intro ?_ trivial
        ((conv => whnf); repeat ((first | refine B0 ?_ | refine B1 ?_ | refine CallC.r ?_); conv => whnf))
        refine Pick.mk [5] (by kernel_rfl) ?_
        ((conv => whnf); repeat ((first | refine B0 ?_ | refine B1 ?_ | refine CallC.r ?_); conv => whnf))
        refine And.intro ?_ trivial
        ((conv => whnf); repeat ((first | refine B0 ?_ | refine B1 ?_ | refine CallC.r ?_); conv => whnf))
        refine Side.mk (by first | (simp only [List.length_map, List.length_take, List.length_cons, List.length_nil]; omega) | (simp; done) | (simp; omega)) ?_
        ((conv => whnf); repeat ((first | refine B0 ?_ | refine B1 ?_ | refine CallC.r ?_); conv => whnf))
        refine Pick.mk [6] (by kernel_rfl) ?_
        ((conv => whnf); repeat ((first | refine B0 ?_ | refine B1 ?_ | refine CallC.r ?_); conv => whnf))
        refine And.intro ?_ trivial
        ((conv => whnf); repeat ((first | refine B0 ?_ | refine B1 ?_ | refine CallC.r ?_); conv => whnf))
        refine Pick.mk [7] (by kernel_rfl) ?_
        ((conv => whnf); repeat ((first | refine B0 ?_ | refine B1 ?_ | refine CallC.r ?_); conv => whnf))
        refine And.intro ?_ trivial
        ((conv => whnf); repeat ((first | refine B0 ?_ | refine B1 ?_ | refine CallC.r ?_); conv => whnf))
        refine And.intro (by kernel_rfl) ?_
        ((conv => whnf); repeat ((first | refine B0 ?_ | refine B1 ?_ | refine CallC.r ?_); conv => whnf))
        refine hK _ ?_; ((conv => whnf); repeat ((first | refine B0 ?_ | refine B1 ?_ | refine D1 ?_ | refine D2 ?_ | refine CallC.r ?_); conv => whnf)); refine Pick.mk _ hw ?_; ((conv => whnf); repeat ((first | refine B0 ?_ | refine B1 ?_ | refine D1 ?_ | refine D2 ?_ | refine CallC.r ?_); conv => whnf)); exact hn
      ((conv => whnf); repeat ((first | refine B0 ?_ | refine B1 ?_ | refine CallC.r ?_); conv => whnf))
      refine And.intro ?_ trivial
      ((conv => whnf); repeat ((first | refine B0 ?_ | refine B1 ?_ | refine CallC.r ?_); conv => whnf))
      refine Pick.mk _ hcm ?_
      ((conv => whnf); repeat ((first | refine B0 ?_ | refine B1 ?_ | refine CallC.r ?_); conv => whnf))
      refine Pick.mk [0, 4] (by kernel_rfl) ?_
      ((conv => whnf); repeat ((first | refine B0 ?_ | refine B1 ?_ | refine CallC.r ?_); conv => whnf))
      refine And.intro ?_ ?_
      · ((conv => whnf); repeat ((first | refine B0 ?_ | refine B1 ?_ | refine CallC.r ?_); conv => whnf))
        refine Pick.mk [1, 4] (by kernel_rfl) ?_
        ((conv => whnf); repeat ((first | refine B0 ?_ | refine B1 ?_ | refine CallC.r ?_); conv => whnf))
        refine And.intro ?_ ?_
        · ((conv => whnf); repeat ((first | refine B0 ?_ | refine B1 ?_ | refine CallC.r ?_); conv => whnf))
          refine Pick.mk [4] (by kernel_rfl) ?_
          ((conv => whnf); repeat ((first | refine B0 ?_ | refine B1 ?_ | refine CallC.r ?_); conv => whnf))
          refine And.intro ?_ trivial
          ((conv => whnf); repeat ((first | refine B0 ?_ | refine B1 ?_ | refine CallC.r ?_); conv => whnf))
          refine Pick.mk (some true) trivial ?_
          ((conv => whnf); repeat ((first | refine B0 ?_ | refine B1 ?_ | refine CallC.r ?_); conv => whnf))
          refine Pick.mk [5] (by kernel_rfl) ?_
          ((conv => whnf); repeat ((first | refine B0 ?_ | refine B1 ?_ | refine CallC.r ?_); conv => whnf))
          refine And.intro ?_ trivial
          ((conv => whnf); repeat ((first | refine B0 ?_ | refine B1 ?_ | refine CallC.r ?_); conv => whnf))
          refine Side.mk (by first | (simp only [List.length_map, List.length_take, List.length_cons, List.length_nil]; omega) | (simp; done) | (simp; omega)) ?_
          ((conv => whnf); repeat ((first | refine B0 ?_ | refine B1 ?_ | refine CallC.r ?_); conv => whnf))
          refine Pick.mk [6] (by kernel_rfl) ?_
          ((conv => whnf); repeat ((first | refine B0 ?_ | refine B1 ?_ | refine CallC.r ?_); conv => whnf))
          refine And.intro ?_ trivial
          ((conv => whnf); repeat ((first | refine B0 ?_ | refine B1 ?_ | refine CallC.r ?_); conv => whnf))
          refine Pick.mk [7] (by kernel_rfl) ?_
          ((conv => whnf); repeat ((first | refine B0 ?_ | refine B1 ?_ | refine CallC.r ?_); conv => whnf))
          refine And.intro ?_ trivial
          ((conv => whnf); repeat ((first | refine B0 ?_ | refine B1 ?_ | refine CallC.r ?_); conv => whnf))
          refine And.intro (by kernel_rfl) ?_
          ((conv => whnf); repeat ((first | refine B0 ?_ | refine B1 ?_ | refine CallC.r ?_); conv => whnf))
          refine hK _ ?_; ((conv => whnf); repeat ((first | refine B0 ?_ | refine B1 ?_ | refine D1 ?_ | refine D2 ?_ | refine CallC.r ?_); conv => whnf)); refine Pick.mk _ hw ?_; ((conv => whnf); repeat ((first | refine B0 ?_ | refine B1 ?_ | refine D1 ?_ | refine D2 ?_ | refine CallC.r ?_); conv => whnf)); exact hn
        ((conv => whnf); repeat ((first | refine B0 ?_ | refine B1 ?_ | refine CallC.r ?_); conv => whnf))
        refine And.intro ?_ trivial
        ((conv => whnf); repeat ((first | refine B0 ?_ | refine B1 ?_ | refine CallC.r ?_); conv => whnf))
        refine Pick.mk (some true) trivial ?_
        ((conv => whnf); repeat ((first | refine B0 ?_ | refine B1 ?_ | refine CallC.r ?_); conv => whnf))
        refine Pick.mk [1] (by kernel_rfl) ?_
        ((conv => whnf); repeat ((first | refine B0 ?_ | refine B1 ?_ | refine CallC.r ?_); conv => whnf))
        refine And.intro ?_ trivial
        ((conv => whnf); repeat ((first | refine B0 ?_ | refine B1 ?_ | refine CallC.r ?_); conv => whnf))
        refine Pick.mk [5] (by kernel_rfl) ?_
        ((conv => whnf); repeat ((first | refine B0 ?_ | refine B1 ?_ | refine CallC.r ?_); conv => whnf))
        refine And.intro ?_ trivial
        ((conv => whnf); repeat ((first | refine B0 ?_ | refine B1 ?_ | refine CallC.r ?_); conv => whnf))
        refine Side.mk (by first | (simp only [List.length_map, List.length_take, List.length_cons, List.length_nil]; omega) | (simp; done) | (simp; omega)) ?_
        ((conv => whnf); repeat ((first | refine B0 ?_ | refine B1 ?_ | refine CallC.r ?_); conv => whnf))
        refine Pick.mk [6] (by kernel_rfl) ?_
        ((conv => whnf); repeat ((first | refine B0 ?_ | refine B1 ?_ | refine CallC.r ?_); conv => whnf))
        refine And.intro ?_ trivial
        ((conv => whnf); repeat ((first | refine B0 ?_ | refine B1 ?_ | refine CallC.r ?_); conv => whnf))
        refine Pick.mk [7] (by kernel_rfl) ?_
        ((conv => whnf); repeat ((first | refine B0 ?_ | refine B1 ?_ | refine CallC.r ?_); conv => whnf))
        refine And.intro ?_ trivial
        ((conv => whnf); repeat ((first | refine B0 ?_ | refine B1 ?_ | refine CallC.r ?_); conv => whnf))
        refine And.intro (by kernel_rfl) ?_
        ((conv => whnf); repeat ((first | refine B0 ?_ | refine B1 ?_ | refine CallC.r ?_); conv => whnf))
        refine hK _ ?_; ((conv => whnf); repeat ((first | refine B0 ?_ | refine B1 ?_ | refine D1 ?_ | refine D2 ?_ | refine CallC.r ?_); conv => whnf)); refine Pick.mk _ hw ?_; ((conv => whnf); repeat ((first | refine B0 ?_ | refine B1 ?_ | refine D1 ?_ | refine D2 ?_ | refine CallC.r ?_); conv => whnf)); exact hn
      ((conv => whnf); repeat ((first | refine B0 ?_ | refine B1 ?_ | refine CallC.r ?_); conv => whnf))
      refine And.intro ?_ trivial
      ((conv => whnf); repeat ((first | refine B0 ?_ | refine B1 ?_ | refine CallC.r ?_); conv => whnf))
      refine Pick.mk (some true) trivial ?_
      ((conv => whnf); repeat ((first | refine B0 ?_ | refine B1 ?_ | refine CallC.r ?_); conv => whnf))
      refine Pick.mk [0] (by kernel_rfl) ?_
      ((conv => whnf); repeat ((first | refine B0 ?_ | refine B1 ?_ | refine CallC.r ?_); conv => whnf))
      refine And.intro ?_ trivial
      ((conv => whnf); repeat ((first | refine B0 ?_ | refine B1 ?_ | refine CallC.r ?_); conv => whnf))
      refine Pick.mk [1] (by kernel_rfl) ?_
      ((conv => whnf); repeat ((first | refine B0 ?_ | refine B1 ?_ | refine CallC.r ?_); conv => whnf))
      refine And.intro ?_ trivial
      ((conv => whnf); repeat ((first | refine B0 ?_ | refine B1 ?_ | refine CallC.r ?_); conv => whnf))
      refine Pick.mk [5] (by kernel_rfl) ?_
      ((conv => whnf); repeat ((first | refine B0 ?_ | refine B1 ?_ | refine CallC.r ?_); conv => whnf))
      refine And.intro ?_ trivial
      ((conv => whnf); repeat ((first | refine B0 ?_ | refine B1 ?_ | refine CallC.r ?_); conv => whnf))
      refine Side.mk (by first | (simp only [List.length_map, List.length_take, List.length_cons, List.length_nil]; omega) | (simp; done) | (simp; omega)) ?_
      ((conv => whnf); repeat ((first | refine B0 ?_ | refine B1 ?_ | refine CallC.r ?_); conv => whnf))
      refine Pick.mk [6] (by kernel_rfl) ?_
      ((conv => whnf); repeat ((first | refine B0 ?_ | refine B1 ?_ | refine CallC.r ?_); conv => whnf))
      refine And.intro ?_ trivial
      ((conv => whnf); repeat ((first | refine B0 ?_ | refine B1 ?_ | refine CallC.r ?_); conv => whnf))
      refine Pick.mk [7] (by kernel_rfl) ?_
      ((conv => whnf); repeat ((first | refine B0 ?_ | refine B1 ?_ | refine CallC.r ?_); conv => whnf))
      refine And.intro ?_ trivial
      ((conv => whnf); repeat ((first | refine B0 ?_ | refine B1 ?_ | refine CallC.r ?_); conv => whnf))
      refine And.intro (by kernel_rfl) ?_
      ((conv => whnf); repeat ((first | refine B0 ?_ | refine B1 ?_ | refine CallC.r ?_); conv => whnf))
      refine hK _ ?_; ((conv => whnf); repeat ((first | refine B0 ?_ | refine B1 ?_ | refine D1 ?_ | refine D2 ?_ | refine CallC.r ?_); conv => whnf)); refine Pick.mk _ hw ?_; ((conv => whnf); repeat ((first | refine B0 ?_ | refine B1 ?_ | refine D1 ?_ | refine D2 ?_ | refine CallC.r ?_); conv => whnf)); exact hn
    -- end of orders
  · have h : i = s.maps.length := by omega
    have e1 : s.maps.take i = s.maps := List.take_of_length_le (by omega)
    have hd : decide ((i : Int) < ((s.maps.map (Enc.enc (α := Matrix))).length : Int)) = false := by simp only [List.length_map, decide_eq_false_iff_not]; omega
    clear ih
    cases i <;> ((conv => whnf); repeat ((first | refine B0 ?_ | refine B1 ?_ | refine D1 ?_ | refine D2 ?_ | refine CallC.r ?_); conv => whnf))
    all_goals refine Br.mk (fun h' => Bool.noConfusion (hd.symm.trans h')) (fun _ => ?_)
    all_goals ((conv => whnf); repeat ((first | refine B0 ?_ | refine B1 ?_ | refine D1 ?_ | refine D2 ?_ | refine CallC.r ?_); conv => whnf))
    · have e2 : s.maps.map Enc.enc = ([] : List (List CV)) := by rw [← e1, List.take_zero]; rfl
      exact ResOK.same (by rw [e2])
    · exact ResOK.same (by rw [e1])

def zeroM (m : Matrix) : Matrix := ⟨m.prime, m.rows, m.columns, grid m.rows.toNat m.columns.toNat fun _ _ => 0⟩
theorem s_l09New (s : Sheaf) (h : okSheaf s = true) : Sat Tryz.prog 117 [(false, [.ptr 1 (Enc.enc s.base)]), (false, [.int .i64 s.prime]), (false, Enc.enc s.stalks)] (.agg [.c (.slice 1 (s.base.simplices.map Enc.enc)), .c (.int .i64 s.prime), .c (.slice 1 (s.stalks.map Enc.enc)), .rs 0], [(0, .arr 4 ((s.maps.map zeroM).map Enc.enc))]) := by
  obtain ⟨h1, _, h3, h4⟩ := okSheaf_of h
  have cx : CxOK s.base.simplices := ⟨h1⟩
  have hst := okStalks_of h3
  have hl48 := cx.len
  have hsl := hst.1
  have hpm : placeL s.base.simplices s.base.simplices.length = s.maps.length := by
    simp only [okMaps, Bool.and_eq_true, decide_eq_true_eq] at h4
    rw [← h4.2]; exact (arrowsTo_len _ (Nat.le_refl _)).symm
  have hml : s.maps.length ≤ 192 := by rw [← hpm]; exact cx.place _ hl48
  refine Sat.intro tok mixed Tryz.func117 rfl rfl ?_
  ((conv => whnf); repeat ((first | refine B0 ?_ | refine B1 ?_ | refine D1 ?_ | refine D2 ?_ | refine CallC.r ?_); conv => whnf))
  refine Pick.mk _ (s_l05Skeleton s.base (by omega) (fun x hx => (cx.each x hx).2)) ?_
  ((conv => whnf); repeat ((first | refine B0 ?_ | refine B1 ?_ | refine D1 ?_ | refine D2 ?_ | refine CallC.r ?_); conv => whnf))
  refine Pick.mk _ ((s_ownInt s.stalks (by omega)).frz rfl) ?_
  ((conv => whnf); repeat ((first | refine B0 ?_ | refine B1 ?_ | refine D1 ?_ | refine D2 ?_ | refine CallC.r ?_); conv => whnf))
  refine Pick.mk [0, 1, 2, 6, 7, 8, 3000483] trivial ?_
  ((conv => whnf); repeat ((first | refine B0 ?_ | refine B1 ?_ | refine D1 ?_ | refine D2 ?_ | refine CallC.r ?_); conv => whnf))
  refine LoopL.over (fun (k : Nat) => [(8, .one (.c (.int .i64 ((k : Int)))))]) (fun (k : Nat) => [(483, .arr 4 (List.map Enc.enc ((s.maps.take (placeL s.base.simplices k)).map zeroM)))]) (fun (k : Nat) => s.base.simplices.length - k) (fun (k : Nat) => k ≤ s.base.simplices.length) ?_ 0 (Nat.zero_le _)
  intro k hk ihk
  ((conv => whnf); repeat ((first | refine B0 ?_ | refine B1 ?_ | refine D1 ?_ | refine D2 ?_ | refine CallC.r ?_); conv => whnf))
  refine Br.mk (fun q1 => ?_) (fun q1 => ?_) <;> ((conv => whnf); repeat ((first | refine B0 ?_ | refine B1 ?_ | refine D1 ?_ | refine D2 ?_ | refine CallC.r ?_); conv => whnf))
  · have q1 : k < s.base.simplices.length := by simp only [List.length_map, decide_eq_true_eq] at q1; omega
    have hfl := cx.faces _ (List.getElem_mem q1)
    rw [← faceIx_len q1] at hfl
    refine Pick.mk _ (s_l05Faces s.base cx k q1) ?_
    ((conv => whnf); repeat ((first | refine B0 ?_ | refine B1 ?_ | refine D1 ?_ | refine D2 ?_ | refine CallC.r ?_); conv => whnf))
    refine Pick.mk [0, 1, 2, 6, 7, 8, 9, 10, 1000576] trivial ?_
    ((conv => whnf); repeat ((first | refine B0 ?_ | refine B1 ?_ | refine D1 ?_ | refine D2 ?_ | refine CallC.r ?_); conv => whnf))
    refine LoopL.over (fun (i : Nat) => [(10, .one (.c (.int .i64 ((i : Int)))))]) (fun (i : Nat) => [(483, .arr 4 (List.map Enc.enc ((s.maps.take (placeL s.base.simplices k + i)).map zeroM)))]) (fun (i : Nat) => (faceIx s.base.simplices k).length - i) (fun (i : Nat) => i ≤ (faceIx s.base.simplices k).length) ?_ 0 (Nat.zero_le _)
    intro i hi ihi
    ((conv => whnf); repeat ((first | refine B0 ?_ | refine B1 ?_ | refine D1 ?_ | refine D2 ?_ | refine CallC.r ?_); conv => whnf))
    refine Br.mk (fun q2 => ?_) (fun q2 => ?_)
    · have q2 : i < (faceIx s.base.simplices k).length := by simp only [List.length_map, decide_eq_true_eq] at q2; omega
      obtain ⟨n, hn, _, e1, _⟩ := face_at cx.ok q1 q2
      have e : faceN s k i = n := by unfold faceN; rw [e1]; rfl
      obtain ⟨hm, em, mok, mp, mr, mc⟩ := okMaps_at h q1 q2
      rw [e] at mok mc
      have b1 := hst.at k
      have b2 := hst.at n
      ((conv => whnf); repeat ((first | refine B0 ?_ | refine B1 ?_ | refine CallC.r ?_); conv => whnf))
      refine Pick.drawC 14 (by kernel_rfl) ?_
      ((conv => whnf); repeat ((first | refine B0 ?_ | refine B1 ?_ | refine D1 ?_ | refine D2 ?_ | refine CallC.r ?_); conv => whnf))
      refine Pick.mk (Enc.enc (s.stalks.getD k 0)) ⟨by omega, by rw [Int.toNat_natCast]; exact getD_mem (by rw [hst.1]; exact q1) 0 _ rfl⟩ ?_
      ((conv => whnf); repeat ((first | refine B0 ?_ | refine B1 ?_ | refine D1 ?_ | refine D2 ?_ | refine CallC.r ?_); conv => whnf))
      refine Pick.mk (Enc.enc ((n : Nat) : Int)) ⟨by omega, by rw [Int.toNat_natCast]; exact getD_mem q2 0 _ e1⟩ ?_
      ((conv => whnf); repeat ((first | refine B0 ?_ | refine B1 ?_ | refine D1 ?_ | refine D2 ?_ | refine CallC.r ?_); conv => whnf))
      refine Pick.mk (Enc.enc (s.stalks.getD n 0)) ⟨by omega, by rw [Int.toNat_natCast]; exact getD_mem (by rw [hst.1]; exact hn) 0 _ rfl⟩ ?_
      ((conv => whnf); repeat ((first | refine B0 ?_ | refine B1 ?_ | refine D1 ?_ | refine D2 ?_ | refine CallC.r ?_); conv => whnf))
      have hz := s_l03Zero s.prime (s.stalks.getD k 0).toNat (s.stalks.getD n 0).toNat (by omega) (by omega)
      rw [show (((s.stalks.getD k 0).toNat : Nat) : Int) = s.stalks.getD k 0 by omega, show (((s.stalks.getD n 0).toNat : Nat) : Int) = s.stalks.getD n 0 by omega] at hz
      refine Pick.mk _ (hz.frz rfl) ?_
      ((conv => whnf); repeat ((first | refine B0 ?_ | refine B1 ?_ | refine D1 ?_ | refine D2 ?_ | refine CallC.r ?_); conv => whnf))
      refine Side.mk (by simp only [List.length_map, List.length_take, List.length_cons, List.length_nil]; omega) ?_
      ((conv => whnf); repeat ((first | refine B0 ?_ | refine B1 ?_ | refine D1 ?_ | refine D2 ?_ | refine CallC.r ?_); conv => whnf))
      refine Pick.at64 (z := (i + 1 : Nat)) (by simp) (by omega) ?_
      ((conv => whnf); repeat ((first | refine B0 ?_ | refine B1 ?_ | refine D1 ?_ | refine D2 ?_ | refine CallC.r ?_); conv => whnf))
      have ez : zeroM s.maps[placeL s.base.simplices k + i] = ⟨s.prime, s.stalks.getD k 0, s.stalks.getD n 0, grid (s.stalks.getD k 0).toNat (s.stalks.getD n 0).toNat fun _ _ => 0⟩ := by rw [← em]; simp only [zeroM, mp, mr, mc]
      have hn' := ihi (i + 1) (by omega) (by omega)
      rw [← Nat.add_assoc, List.take_add_one, List.getElem?_eq_getElem hm, Option.toList_some, List.map_append, List.map_cons, ez, List.map_append] at hn'
      exact hn'
    · have q2 : i = (faceIx s.base.simplices k).length := by simp only [List.length_map, decide_eq_false_iff_not] at q2; omega
      subst q2
      ((conv => whnf); repeat ((first | refine B0 ?_ | refine B1 ?_ | refine D1 ?_ | refine D2 ?_ | refine CallC.r ?_); conv => whnf))
      refine Pick.at64 (z := (k + 1 : Nat)) (by simp) (by omega) ?_
      ((conv => whnf); repeat ((first | refine B0 ?_ | refine B1 ?_ | refine D1 ?_ | refine D2 ?_ | refine CallC.r ?_); conv => whnf))
      have hn' := ihk (k + 1) (by omega) (by omega)
      rw [placeL_succ q1, ← faceIx_len q1] at hn'
      exact hn'
  · have q1 : k = s.base.simplices.length := by simp only [List.length_map, decide_eq_false_iff_not] at q1; omega
    subst q1
    rw [hpm, List.take_length]
    exact ResOK.same rfl

def ownUp (s : Sheaf) (i : Nat) : List Matrix := s.maps.take i ++ (s.maps.drop i).map zeroM
theorem ownUp_len (s : Sheaf) (i : Nat) : (ownUp s i).length = s.maps.length := by simp [ownUp]; omega
theorem ownUp_at (s : Sheaf) {i : Nat} (h : i < s.maps.length) : (ownUp s i)[i]? = some (zeroM s.maps[i]) := by
  have e : (s.maps.take i).length = i := by rw [List.length_take]; omega
  unfold ownUp
  rw [List.getElem?_append_right (by omega), e, Nat.sub_self, List.drop_eq_getElem_cons h]
  rfl
theorem ownUp_set (s : Sheaf) {i : Nat} (h : i < s.maps.length) : (ownUp s i).set i s.maps[i] = ownUp s (i + 1) := by
  have e : (s.maps.take i).length = i := by rw [List.length_take]; omega
  unfold ownUp
  rw [List.set_append_right _ _ (by omega), e, Nat.sub_self, List.drop_eq_getElem_cons h, List.map_cons, List.set_cons_zero, List.take_add_one, List.getElem?_eq_getElem h]
  simp only [Option.toList_some, List.append_assoc, List.singleton_append]
theorem ownUp_all (s : Sheaf) : ownUp s s.maps.length = s.maps := by simp [ownUp]
theorem s_l09Own (s : Sheaf) (h : okSheaf s = true) (hcl : ∀ m ∈ s.maps, m.cells.length ≤ 16777216) (hml : s.maps.length ≤ 1048576) : Sat Tryz.prog 63 [(false, [.ptr 4 (Enc.enc s)])] (.agg ((Enc.enc s).map .c), []) := by
  refine Sat.intro tok mixed Tryz.func63 rfl rfl ?_
  ((conv => whnf); repeat ((first | refine B0 ?_ | refine B1 ?_ | refine CallC.r ?_); conv => whnf))
  refine Pick.drawC 11 (by kernel_rfl) ?_
  ((conv => whnf); repeat ((first | refine B0 ?_ | refine B1 ?_ | refine D1 ?_ | refine D2 ?_ | refine CallC.r ?_); conv => whnf))
  refine Pick.mk _ (s_l09New s h) ?_
  ((conv => whnf); repeat ((first | refine B0 ?_ | refine B1 ?_ | refine D1 ?_ | refine D2 ?_ | refine CallC.r ?_); conv => whnf))
  refine Pick.mk [0, 2, 3, 4] trivial ?_
  ((conv => whnf); repeat ((first | refine B0 ?_ | refine B1 ?_ | refine D1 ?_ | refine D2 ?_ | refine CallC.r ?_); conv => whnf))
  refine LoopL.over (fun (i : Nat) => [(4, .one (.c (.int .i64 ((i : Int)))))]) (fun (i : Nat) => [(1024, .arr 4 (List.map Enc.enc (ownUp s i)))]) (fun (i : Nat) => s.maps.length - i) (fun (i : Nat) => i ≤ s.maps.length) ?_ 0 (Nat.zero_le _)
  intro i hi ih
  ((conv => whnf); repeat ((first | refine B0 ?_ | refine B1 ?_ | refine D1 ?_ | refine D2 ?_ | refine CallC.r ?_); conv => whnf))
  refine Br.mk (fun q => ?_) (fun q => ?_)
  · have q : i < s.maps.length := by simp only [List.length_map, decide_eq_true_eq] at q; omega
    ((conv => whnf); repeat ((first | refine B0 ?_ | refine B1 ?_ | refine CallC.r ?_); conv => whnf))
    refine Pick.drawC 11 (by kernel_rfl) ?_
    ((conv => whnf); repeat ((first | refine B0 ?_ | refine B1 ?_ | refine D1 ?_ | refine D2 ?_ | refine CallC.r ?_); conv => whnf))
    refine Pick.ix (q) ?_
    ((conv => whnf); repeat ((first | refine B0 ?_ | refine B1 ?_ | refine D1 ?_ | refine D2 ?_ | refine CallC.r ?_); conv => whnf))
    refine Pick.mk _ ((s_ownInt s.maps[i].cells (hcl _ (List.getElem_mem q))).frz rfl) ?_
    refine Side.mk (by rw [List.length_map, ownUp_len]; omega) ?_
    ((conv => whnf); repeat ((first | refine B0 ?_ | refine B1 ?_ | refine D1 ?_ | refine D2 ?_ | refine CallC.r ?_); conv => whnf))
    refine Pick.mk (Enc.enc (zeroM s.maps[i])) (by rw [Int.toNat_natCast, List.getElem?_map, ownUp_at s q]; rfl) ?_
    ((conv => whnf); repeat ((first | refine B0 ?_ | refine B1 ?_ | refine D1 ?_ | refine D2 ?_ | refine CallC.r ?_); conv => whnf))
    refine Pick.at64 (z := (i + 1 : Nat)) (by simp) (by omega) ?_
    ((conv => whnf); repeat ((first | refine B0 ?_ | refine B1 ?_ | refine D1 ?_ | refine D2 ?_ | refine CallC.r ?_); conv => whnf))
    have hn := ih (i + 1) (by omega) (by omega)
    rw [← ownUp_set s q, List.map_set] at hn
    exact hn
  · have q : i = s.maps.length := by simp only [List.length_map, decide_eq_false_iff_not] at q; omega
    subst q
    rw [ownUp_all]
    ((conv => whnf); repeat ((first | refine B0 ?_ | refine B1 ?_ | refine D1 ?_ | refine D2 ?_ | refine CallC.r ?_); conv => whnf))
    exact ResOK.frz rfl rfl
def zShf : Sheaf := ⟨⟨[]⟩, 0, [], []⟩
def sNamed (w : World) (t : ByteArray) : Sheaf × Int := if okWorld w = true then (match w.sheaves.find? (fun c => c.name.toList == t.toList) with | some c => (c.value, 0) | none => (zShf, 3)) else (zShf, 1)
theorem mat_bound {xs : List Matrix} (h : Enc.wt xs ≤ 1048576) : ∀ m ∈ xs, m.cells.length ≤ 1048576 := fun m hm => by
  obtain ⟨i, hi, rfl⟩ := List.mem_iff_getElem.1 hm
  have h1 := wt_get xs i hi
  have e : Enc.wt xs[i] = Enc.wt xs[i].prime + Enc.wt xs[i].rows + Enc.wt xs[i].columns + Enc.wt xs[i].cells := rfl
  have h2 := wt_list xs[i].cells
  omega
theorem shf_bound2 {s : Sheaf} (h : Enc.wt s ≤ 1048576) : s.stalks.length ≤ 1048576 ∧ ∀ m ∈ s.maps, m.cells.length ≤ 1048576 := by
  have e : Enc.wt s = Enc.wt s.base + Enc.wt s.prime + Enc.wt s.stalks + Enc.wt s.maps := rfl
  have h2 := wt_list s.stalks
  exact ⟨by omega, mat_bound (by omega)⟩
theorem s_impl_SheafNamed (w : World) (o : Enc.ok w) (hb : Enc.wt w ≤ 1048576) (t : ByteArray) : Sat Tryz.prog 20 [(true, Enc.enc w), (false, Enc.enc t)]
    (.tup [(true, [.ds 0, .c (.int .i64 (sNamed w t).1.prime), .ds 1, .ds 2]), (false, [.c (.int .i64 (sNamed w t).2)])], [(0, .deep true 1 ((sNamed w t).1.base.simplices.map Enc.enc)), (1, .deep true 1 ((sNamed w t).1.stalks.map Enc.enc)), (2, .deep true 4 ((sNamed w t).1.maps.map Enc.enc))]) := by
  have hl := nw_len hb
  refine Sat.intro tok mixed Tryz.func20 rfl rfl ?_
  ((conv => whnf); repeat ((first | refine B0 ?_ | refine B1 ?_ | refine D1 ?_ | refine D2 ?_ | refine CallC.r ?_); conv => whnf))
  refine Pick.mk _ (s_impl_ValidWorld w o hb) ?_
  ((conv => whnf); repeat ((first | refine B0 ?_ | refine B1 ?_ | refine D1 ?_ | refine D2 ?_ | refine CallC.r ?_); conv => whnf))
  refine Br.mk (fun h1 => ?_) (fun h1 => ?_) <;> ((conv => whnf); repeat ((first | refine B0 ?_ | refine B1 ?_ | refine D1 ?_ | refine D2 ?_ | refine CallC.r ?_); conv => whnf))
  · simp only [Bool.not_eq_true'] at h1
    rw [show sNamed w t = (zShf, 1) by simp [sNamed, h1]]
    exact ResOK.own rfl trivial
  simp only [Bool.not_eq_false'] at h1
  have ho := (okWorld_ords h1).2
  refine Pick.mk _ (s_findSheaf w t ho hl.2) ?_
  ((conv => whnf); repeat ((first | refine B0 ?_ | refine B1 ?_ | refine D1 ?_ | refine D2 ?_ | refine CallC.r ?_); conv => whnf))
  rcases named_cases ho t with ⟨a1, a2, a3⟩ | ⟨k, hk, a1, a2, a3, a4⟩
  · rw [a1]
    refine Br.mk (fun _ => ?_) (fun h => absurd h (by simp))
    ((conv => whnf); repeat ((first | refine B0 ?_ | refine B1 ?_ | refine D1 ?_ | refine D2 ?_ | refine CallC.r ?_); conv => whnf))
    rw [show sNamed w t = (zShf, 3) by simp only [sNamed, h1, if_true, a3]]
    exact ResOK.own rfl trivial
  · rw [a1, a2]
    refine Br.mk (fun h => absurd h (by simp)) (fun _ => ?_)
    ((conv => whnf); repeat ((first | refine B0 ?_ | refine B1 ?_ | refine D1 ?_ | refine D2 ?_ | refine CallC.r ?_); conv => whnf))
    refine Pick.ix (hk) ?_
    ((conv => whnf); repeat ((first | refine B0 ?_ | refine B1 ?_ | refine D1 ?_ | refine D2 ?_ | refine CallC.r ?_); conv => whnf))
    have bw := ns_wt hb _ (List.getElem_mem hk)
    have bc := shf_bound bw
    have bd := shf_bound2 bw
    refine Pick.mk _ (s_copySheaf w.sheaves[k].value bc.1.1 bc.1.2 bd.1 bc.2 bd.2) ?_
    ((conv => whnf); repeat ((first | refine B0 ?_ | refine B1 ?_ | refine D1 ?_ | refine D2 ?_ | refine CallC.r ?_); conv => whnf))
    rw [show sNamed w t = (w.sheaves[k].value, 0) by simp only [sNamed, h1, if_true, a4]]
    exact ResOK.same rfl
theorem s_spec_SheafNamed (w : World) (o : Enc.ok w) (hb : Enc.wt w ≤ 1048576) (t : ByteArray) : Sat Tryz.prog 19 [(true, Enc.enc w), (false, Enc.enc t)] (.tup [(true, (Enc.enc (sNamed w t).1).map .c), (false, [.c (.int .i64 (sNamed w t).2)])], []) := by
  have hl := nw_len hb
  refine Sat.intro tok mixed Tryz.func19 rfl rfl ?_
  ((conv => whnf); repeat ((first | refine B0 ?_ | refine B1 ?_ | refine D1 ?_ | refine D2 ?_ | refine CallC.r ?_); conv => whnf))
  refine Pick.mk _ (s_l25Ok w o hb) ?_
  ((conv => whnf); repeat ((first | refine B0 ?_ | refine B1 ?_ | refine D1 ?_ | refine D2 ?_ | refine CallC.r ?_); conv => whnf))
  refine Br.mk (fun h1 => ?_) (fun h1 => ?_) <;> ((conv => whnf); repeat ((first | refine B0 ?_ | refine B1 ?_ | refine D1 ?_ | refine D2 ?_ | refine CallC.r ?_); conv => whnf))
  · simp only [Bool.not_eq_true'] at h1
    rw [show sNamed w t = (zShf, 1) by simp [sNamed, h1]]
    exact ResOK.frz rfl rfl
  simp only [Bool.not_eq_false'] at h1
  have ho := (okWorld_ords h1).2
  refine Pick.mk _ (s_l25Sheaf w t hb) ?_
  ((conv => whnf); repeat ((first | refine B0 ?_ | refine B1 ?_ | refine D1 ?_ | refine D2 ?_ | refine CallC.r ?_); conv => whnf))
  rcases named_cases ho t with ⟨a1, a2, a3⟩ | ⟨k, hk, a1, a2, a3, a4⟩
  · rw [a2]
    refine Br.mk (fun _ => ?_) (fun h => absurd h (by simp))
    ((conv => whnf); repeat ((first | refine B0 ?_ | refine B1 ?_ | refine D1 ?_ | refine D2 ?_ | refine CallC.r ?_); conv => whnf))
    rw [show sNamed w t = (zShf, 3) by simp only [sNamed, h1, if_true, a3]]
    exact ResOK.frz rfl rfl
  · rw [a3]
    refine Br.mk (fun h => absurd h (by simp)) (fun _ => ?_)
    ((conv => whnf); repeat ((first | refine B0 ?_ | refine B1 ?_ | refine D1 ?_ | refine D2 ?_ | refine CallC.r ?_); conv => whnf))
    refine Pick.ix (hk) ?_
    ((conv => whnf); repeat ((first | refine B0 ?_ | refine B1 ?_ | refine D1 ?_ | refine D2 ?_ | refine CallC.r ?_); conv => whnf))
    have bw := ns_wt hb _ (List.getElem_mem hk)
    have bc := shf_bound bw
    have bd := shf_bound2 bw
    have hok : okSheaf w.sheaves[k].value = true := by
      simp only [okWorld, Bool.and_eq_true] at h1
      have := List.all_eq_true.1 h1.2.2.2 _ (List.getElem_mem hk)
      simp only [isSheaf, Bool.and_eq_true] at this
      exact this.1
    refine Pick.mk _ (s_l09Own w.sheaves[k].value hok (fun m hm => by have := bd.2 m hm; omega) bc.2) ?_
    ((conv => whnf); repeat ((first | refine B0 ?_ | refine B1 ?_ | refine D1 ?_ | refine D2 ?_ | refine CallC.r ?_); conv => whnf))
    rw [show sNamed w t = (w.sheaves[k].value, 0) by simp only [sNamed, h1, if_true, a4]]
    exact ResOK.frz rfl rfl
end Go.Proofs.YtlnjgoeicanehaaGreat.Pi
