/- The operations that leave the abstract state alone, against the machine. No statement of the seat is proved here. -/
import Derived.Test.YtjolahiflldepabPiS8
import Derived.Laws.Tables
namespace Go.Proofs.Ytjolahiflldepab.Pi
open Go Go.RowKit
set_option linter.unusedVariables false
set_option linter.unusedSimpArgs false

section
variable {P : Program} {C : Ctx} {L : Lay} {I : Nat → Prop} {s : St} {a : Act} {w : World}

theorem unK_sound {op : UnOp} {v : Value} {x : PV} {K : PV → Prop} (h : unK op x K) (hx : RepP L s.heap I w v x) : Runs P L s.heap I w (Op.unary op v) K := by
  unfold unK at h
  split at h
  · have e := rep_bool hx; subst e
    exact runs_bool (by simp [Op.unary]) h
  · have e := rep_int hx; subst e
    obtain ⟨z, hz, h⟩ := h
    exact runs_int (k := _) (n := _) (by simp only [Op.unary, Op.intArith]; rfl) hz h
  · exact h.elim

theorem convertQ_sound {src dst : TypeId} {tis tid : TI} (hs : tiOk P dst tid = true) (hsrc : tiOk P src tis = true) {v : Value} {x : PV} {K : PV → Prop} {h0 : Heap} (h : convertQ h0 tis tid tid.ik x K) (hx : RepP L s.heap I w v x) : Runs P L s.heap I w (convert src dst v) K := by
  unfold convertQ at h
  split at h
  · rename_i hik hsz
    have e := rep_int hx; subst e
    obtain ⟨z, hz, h⟩ := h
    have hu := (known_any hs (.inr (.inr (.inr (.inl (by rw [hik]; simp)))))).ik _ hik
    obtain ⟨d, hd⟩ := (known_of hsrc (by omega)).under
    refine runs_int ?_ hz h
    simp only [convert, Sem.run_bind, run_underlying hd, run_underlying hu, Result.andThen_ok, Conv.intToInt, Sem.run_pure]
  · exact h.elim

theorem lenK_sound {t ty : TypeId} {ti : TI} (ht : tiOk P t ti = true) {v : Value} {x : PV} {K : PV → Prop} (hi : Inv C L I s a w) (h : lenK s.heap ti x K) (hx : RepP L s.heap I w v x) (ats : Array TypeId) (hats : ats[0]? = some t) : Runs P L s.heap I w (Builtin.len_ ats ty #[v]) K := by
  have sl : ∀ {sz b : Nat}, ti.slice = some (sz, b) → ∀ (base : Option Addr) (n c : Nat), (Builtin.len_ ats ty #[.slice base n c]).run P w = .ok (.int .i64 n) w := fun {sz b} hsl base n c => by
    have hu := ((known_any ht (.inl (by rw [hsl]; simp))).slice _ _ hsl).1
    simp [Builtin.len_, hats, run_underlying hu, goInt]
  unfold lenK at h
  split at h
  · rename_i sz' sz es hsl
    have hx : RepC I w v (.slice sz es) := hx
    cases hx with
    | nil _ => exact runs_int (sl hsl _ _ _) (by simp) h
    | empty _ _ _ => exact runs_int (sl hsl _ _ _) (by simp) h
    | slice b off cap _ n _ vs hI hn hcap hsz hc hrc => exact runs_int (sl hsl _ _ _) (by rw [hn]) h
  · rename_i sz' sz hsl
    have hx : v = .slice none 0 0 := hx
    subst hx
    exact runs_int (sl hsl _ _ _) (by simp) h
  · rename_i sz' k hsl
    split at h
    · rename_i sz rows hf
      obtain ⟨_, _, g1, g2⟩ := hx
      rw [hf] at g1; cases g1
      cases hbk : L.blk k with
      | none =>
        have ho := hi.heap.ob k _ hf
        simp only [RepO, hbk] at ho
        simp only [hbk] at g2
        subst g2; subst ho
        exact runs_int (sl hsl _ _ _) (by simp) h
      | some b => simp only [hbk] at g2; subst g2; exact runs_int (sl hsl _ _ _) rfl h
    · exact h.elim
  · rename_i sz' k o l hsl
    obtain ⟨sz, rows, g1, g3, g2⟩ := hx
    cases hbk : L.blk k with
    | none =>
      have ho := hi.heap.ob k _ g1
      simp only [RepO, hbk] at ho
      simp only [hbk] at g2
      subst g2; subst ho
      exact runs_int (sl hsl _ _ _) (by simp at g3; simp [g3.2]) h
    | some b => simp only [hbk] at g2; obtain ⟨q, _, _, rfl⟩ := g2; exact runs_int (sl hsl _ _ _) rfl h
  · rename_i sz' k hsl
    split at h
    · rename_i ap sz rows hf
      obtain ⟨_, _, _, g1, g2⟩ := hx
      rw [hf] at g1; cases g1
      cases hbk : L.blk k with
      | none =>
        have ho := hi.heap.ob k _ hf
        simp only [RepO, hbk] at ho
        simp only [hbk] at g2
        subst ho
        rcases g2.1 with g2 | ⟨_, _, g2⟩ <;> subst g2 <;> exact runs_int (sl hsl _ _ _) (by simp) h
      | some b => simp only [hbk] at g2; subst g2; exact runs_int (sl hsl _ _ _) rfl h
    · exact h.elim
  · rename_i s' hst
    have e := rep_str hx; subst e
    have hu := (known_any ht (.inr (.inr (.inr (.inr (.inl (by assumption))))))).str (by assumption)
    exact runs_int (by simp [Builtin.len_, hats, run_underlying hu, goInt]) rfl h
  · exact h.elim

theorem sliceBounds_ok {isS : Bool} {n c : Nat} (hnc : n ≤ c) {lo hi : Option Int} {K : Nat → Nat → Prop} (h : boundsOf n lo hi K) {lv hv : Option Value}
    (hlo : OptI lv lo) (hhi : OptI hv hi) :
    ∃ l h', K l h' ∧ l ≤ h' ∧ h' ≤ n ∧ (Instr.sliceBounds isS n c lv hv none).run P w = .ok (l, h', c) w := by
  have one : ∀ (k : IntKind) (m : Int) (y : Nat) (code : BoundsCode), 0 ≤ m → m ≤ y → (Instr.sliceBound (.int k m) y code).run P w = .ok m.toNat w := fun k m y code h0 h1 => by
    simp [Instr.sliceBound, asIntOf, h0, h1]
  unfold boundsOf at h
  cases lo with
  | none =>
    cases lv with
    | some v => exact hlo.elim
    | none =>
      cases hi with
      | none =>
        cases hv with
        | some v => exact hhi.elim
        | none => exact ⟨0, n, h, by omega, by omega, by simp [Instr.sliceBounds]⟩
      | some m =>
        cases hv with
        | none => exact hhi.elim
        | some v =>
          obtain ⟨k, rfl⟩ := hhi
          obtain ⟨⟨h0, h1⟩, h⟩ := h
          refine ⟨0, m.toNat, h, by omega, by omega, ?_⟩
          simp only [Instr.sliceBounds, Sem.run_bind, Sem.run_pure, Result.andThen_ok, one k m c _ h0 (by omega)]
  | some l =>
    cases lv with
    | none => exact hlo.elim
    | some v =>
      obtain ⟨kl, rfl⟩ := hlo
      cases hi with
      | none =>
        cases hv with
        | some v => exact hhi.elim
        | none =>
          obtain ⟨⟨h0, h1⟩, h⟩ := h
          refine ⟨l.toNat, n, h, by omega, by omega, ?_⟩
          simp only [Instr.sliceBounds, Sem.run_bind, Sem.run_pure, Result.andThen_ok, one kl l n _ h0 h1]
      | some m =>
        cases hv with
        | none => exact hhi.elim
        | some v =>
          obtain ⟨k, rfl⟩ := hhi
          obtain ⟨⟨h0, h1, h2⟩, h⟩ := h
          refine ⟨l.toNat, m.toNat, h, by omega, by omega, ?_⟩
          simp only [Instr.sliceBounds, Sem.run_bind, Sem.run_pure, Result.andThen_ok, one k m c _ (by omega) (by omega), one kl l m.toNat _ h0 (by omega)]

theorem sliceK_sound {t : TypeId} {ti : TI} (ht : tiOk P t ti = true) (hi : Inv C L I s a w) {v : Value} {x : PV} {lo hi' : Option Int} {K : PV → Prop} (h : sliceK s.heap ti x lo hi' K) (hx : RepP L s.heap I w v x) {lv hv : Option Value}
    (hlo : OptI lv lo) (hhi : OptI hv hi') :
    Runs P L s.heap I w (Instr.sliceAt t v lv hv none) K := by
  have sl : ∀ {sz b : Nat}, ti.slice = some (sz, b) → ∀ (base : Option Addr) (n c : Nat) (K' : Nat → Nat → Prop), n ≤ c → boundsOf n lo hi' K' → ∃ l h', K' l h' ∧ l ≤ h' ∧ h' ≤ n ∧
      (Instr.sliceAt t (.slice base n c) lv hv none).run P w = .ok (.slice (if c = l then base else base.map (·.add (l * sz))) (h' - l) (c - l)) w := fun {sz b} hsl base n c K' hnc hb => by
    obtain ⟨hu, _, ie, hie, hs, _⟩ := (known_any ht (.inl (by rw [hsl]; simp))).slice _ _ hsl
    obtain ⟨l, h', g1, g2, g3, g4⟩ := sliceBounds_ok (P := P) (w := w) (isS := true) hnc hb hlo hhi
    refine ⟨l, h', g1, g2, g3, ?_⟩
    simp only [Instr.sliceAt, Instr.slice, Sem.run_bind, run_underlying hu, Result.andThen_ok, g4, run_size hie, hs, Sem.run_pure]
  unfold sliceK at h
  split at h
  · rename_i st hst
    have e := rep_str hx; subst e
    have hu := (known_any ht (.inr (.inr (.inr (.inr (.inl (by assumption))))))).str (by assumption)
    obtain ⟨l, h', g1, g2, g3, g4⟩ := sliceBounds_ok (P := P) (w := w) (isS := false) (Nat.le_refl _) h hlo hhi
    exact runs_str (by simp only [Instr.sliceAt, Instr.slice, Sem.run_bind, run_underlying hu, Result.andThen_ok, g4, Sem.run_pure]; simp [g4]) g1
  · rename_i sz' _ sz es hsl
    split at h
    · rename_i hb
      have e := beq_iff.1 hb
      subst e
      have hx : RepC I w v (.slice sz es) := hx
      cases hx with
      | nil _ =>
        obtain ⟨l, h', g1, g2, g3, g4⟩ := sl hsl none 0 0 _ (Nat.le_refl _) h
        obtain rfl : h' = 0 := by simpa using g3
        obtain rfl : l = 0 := by omega
        exact ⟨_, _, g1, g4, by simp only [List.take_nil, List.drop_nil]; exact RepC.nil sz⟩
      | empty b cap _ =>
        obtain ⟨l, h', g1, g2, g3, g4⟩ := sl hsl (some b) 0 cap _ (Nat.zero_le _) h
        obtain rfl : h' = 0 := by simpa using g3
        obtain rfl : l = 0 := by omega
        refine ⟨_, _, g1, g4, ?_⟩
        simp only [List.take_nil, List.drop_nil]
        split
        · exact RepC.empty _ _ sz
        · exact RepC.empty _ _ sz
      | slice b off cap _ n _ vs hI hn hcap hsz hc hrc =>
        subst hn
        obtain ⟨l, h', g1, g2, g3, g4⟩ := sl hsl _ _ cap _ hcap h
        have hget : ∀ (i : Nat) (r : List CV), ((es.take h').drop l)[i]? = some r → i < h' - l ∧ es[l + i]? = some r := fun i r hr => by
          rw [List.getElem?_drop, List.getElem?_take] at hr
          split at hr
          · exact ⟨by omega, hr⟩
          · cases hr
        refine ⟨_, _, g1, g4, ?_⟩
        by_cases e : cap = l
        · have : ((es.take h').drop l) = [] := by
            apply List.eq_nil_of_length_eq_zero; simp; omega
          rw [if_pos e, this]
          refine RepC.slice b off _ sz _ [] (fun _ _ => undef) hI (by simp; omega) (by omega) (fun i r h => by simp at h) (fun i r j c h => by simp at h) (fun i r j c h => by simp at h)
        · rw [if_neg e]
          simp only [Option.map_some, add_plain]
          refine RepC.slice b (off + l * sz) _ sz _ _ (fun i j => vs (l + i) j) hI (by simp; omega) (by omega) (fun i r hr => hsz _ r (hget i r hr).2) (fun i r j c h1 h2 => ?_) (fun i r j c h1 h2 => hrc _ r j c (hget i r h1).2 h2)
          have := hc _ r j c (hget i r h1).2 h2
          rw [Nat.add_mul, Nat.add_assoc] at this
          rw [Nat.add_assoc]; exact this
    · exact h.elim
  · rename_i sz' _ k hsl
    split at h
    · rename_i sz rows hf
      split at h
      · rename_i hb
        have e := beq_iff.1 hb
        subst e
        obtain ⟨_, _, g1, g2⟩ := hx
        rw [hf] at g1; cases g1
        have ho := hi.heap.ob k _ hf
        cases hbk : L.blk k with
        | none =>
          simp only [RepO, hbk] at ho
          simp only [hbk] at g2
          subst g2; subst ho
          obtain ⟨l, h', q1, q2, q3, q4⟩ := sl hsl none 0 0 _ (Nat.le_refl _) h
          obtain rfl : h' = 0 := by simpa using q3
          obtain rfl : l = 0 := by omega
          exact ⟨_, _, q1, q4, sz, [], hf, by simp, by simp [hbk]⟩
        | some b =>
          simp only [RepO, hbk] at ho
          simp only [hbk] at g2
          subst g2
          obtain ⟨l, h', q1, q2, q3, q4⟩ := sl hsl _ _ (L.cap k) _ ho.1 h
          refine ⟨_, _, q1, q4, sz, rows, hf, by omega, ?_⟩
          simp only [hbk]
          by_cases e : L.cap k = l
          · rw [if_pos e]
            exact ⟨0, by omega, fun h => by rcases h with h | h <;> first | omega | (subst h; simp), rfl⟩
          · rw [if_neg e]
            exact ⟨l * sz, by omega, fun _ => rfl, by simp [add_plain]⟩
      · exact h.elim
    · exact h.elim
  · rename_i sz' _ sz hsl
    have hx : v = .slice none 0 0 := hx
    subst hx
    obtain ⟨l, h', q1, q2, q3, q4⟩ := sl hsl none 0 0 _ (Nat.le_refl _) h
    obtain rfl : h' = 0 := by simpa using q3
    obtain rfl : l = 0 := by omega
    exact ⟨_, _, q1, q4, rfl⟩
  · exact h.elim

theorem extractK_sound {v : Value} {x : PV} {i : Nat} {K : PV → Prop} (h : extractK x i K) (hx : RepP L s.heap I w v x) : Runs P L s.heap I w (Instr.extract v i) K := by
  unfold extractK at h
  split at h
  · rename_i vs
    split at h
    · rename_i b xs hg
      obtain ⟨us, rfl, hsz, hr⟩ := hx
      have hlt : i < us.size := by rw [hsz]; exact (List.getElem?_eq_some_iff.1 hg).1
      have := hr i (b, xs) us[i] hg (Array.getElem?_eq_getElem hlt)
      have run : (Instr.extract (.tuple us) i).run P w = .ok us[i] w := by simp [Instr.extract, hlt]
      unfold oneOr at h
      split at h
      · obtain ⟨cs, e, hcs⟩ := this; exact ⟨_, _, h, run, cs, e, hcs⟩
      · exact ⟨_, _, h, run, this⟩
      · exact h.elim
    · exact h.elim
  · exact h.elim

theorem fieldK_sound {t : TypeId} {ti : TI} (ht : tiOk P t ti = true) {v : Value} {x : PV} {f : Nat} {K : PV → Prop} (h : fieldK ti x f K) (hx : RepP L s.heap I w v x) : Runs P L s.heap I w (Instr.field t v f) K := by
  unfold fieldK at h
  split at h
  · rename_i off n ag xs hg
    have hne : ti.fields ≠ [] := fun e => by rw [e] at hg; simp at hg
    obtain ⟨fs, hu, hfo⟩ := (known_any ht (.inr (.inl hne))).fields hne
    obtain ⟨fd, i, hfd, ho, hinfo, hn, hag, d, hun⟩ := fieldsOk_get hfo hg
    obtain ⟨vs, rfl, hvs⟩ := hx
    simp only [subK_eq] at h
    have hfd' : fs[f]? = some fd := by simpa using hfd
    have hget : ∀ (j : Nat) (x : XV), (sub xs off n)[j]? = some x → ∃ v, vs[off + j]? = some v ∧ RepX L s.heap I w v x ∧ j < n := fun j x hx => by
      obtain ⟨h1, h2⟩ := sub_get _ _ _ _ _ hx
      have hlt : off + j < vs.size := by rw [hvs.1]; exact (List.getElem?_eq_some_iff.1 h2).1
      exact ⟨_, Array.getElem?_eq_getElem hlt, hvs.2 _ x _ h2 (Array.getElem?_eq_getElem hlt), h1⟩
    unfold oneOr at h
    split at h
    · refine ⟨_, .agg (vs.extract off (off + n)), h, ?_, _, rfl, ?_, fun j x v hx hv => ?_⟩
      · simp only [Instr.field, Sem.run_bind, run_underlying hu, Result.andThen_ok, hfd', asAgg, Sem.run_pure, part, run_isAgg' hun, hag, if_true, run_size hinfo, hn, ho]
      · rw [sub_eq]; simp [hvs.1]; omega
      · obtain ⟨v', h1, h2, h3⟩ := hget j x hx
        have : v = v' := by
          rw [Array.getElem?_extract] at hv
          split at hv
          · rw [h1] at hv; exact (Option.some.inj hv).symm
          · cases hv
        rw [this]; exact h2
    · rename_i x hsub
      obtain ⟨v', h1, h2, h3⟩ := hget 0 x (by rw [hsub]; rfl)
      refine ⟨_, v', h, ?_, h2⟩
      simp only [Nat.add_zero] at h1
      simp only [Instr.field, Sem.run_bind, run_underlying hu, Result.andThen_ok, hfd', asAgg, Sem.run_pure, part, run_isAgg' hun, hag, Bool.false_eq_true, if_false, ho, h1]
    · exact h.elim
  · exact h.elim

end

end Go.Proofs.Ytjolahiflldepab.Pi
