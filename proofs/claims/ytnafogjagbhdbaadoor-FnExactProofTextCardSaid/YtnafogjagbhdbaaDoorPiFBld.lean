/- String builders: what the library's own functions do to them. No statement of the seat is proved here. -/
import Derived.Test.YtnafogjagbhdbaaDoorPiLayT
import Derived.Shelf.Strings.Builder1
namespace Go.Proofs.YtnafogjagbhdbaaDoor.Pi
open Go Go.RowKit Go.Sort Go.Proofs Go.Shelf Go.Lib
set_option maxRecDepth 100000
set_option maxHeartbeats 3200000
set_option linter.unusedVariables false

/-- Bytes of a text behind an owned row: the row is the old one, or a new one. -/
theorem run_app {P : Program} (w : World) (base : Nat) (t u ty e : TypeId) (i : TypeInfo) (ht : P.underlying t = some (.slice e)) (hu : P.underlying u = some .string) (hi : P.info? e = some i) (hz : i.zero = some (.int .u8 0))
    (hsize : i.size = 1) (hby : i.bytes = 1) (v : Value) (n : Nat) (xs : List Value) (hown : w.ownsRow base e 1 v n xs) (s : ByteArray) (h63 : n + s.size ≤ maxLen) (hbytes : n + s.size ≤ 140737488355328) (hbase : base ≤ w.heap.size) :
    ∃ v' w', (Builtin.append_ #[t, u] ty #[v, .string s]).run P w = .ok v' w' ∧ w'.ownsRow base e 1 v' (n + s.size) (xs ++ strCells s) ∧ w.grownBy w' v.ownBlock ∧ ∀ g, v'.ownBlock = some g → v.ownBlock = some g ∨ w.heap.size ≤ g := by
  obtain ⟨v', w', hr, h2, h3, h4⟩ := run_append_own_string (P := P) w base t u ty e i ht hu hi hz hsize hby v n xs hown s h63 hbytes hbase
  refine ⟨v', w', hr, h2, h3, fun g hg => ?_⟩
  rcases hown.2 with ⟨rfl, rfl⟩ | ⟨g0, cap, cur, rfl, hbg, hg0, hnc, hcm, hcs, htake⟩
  · right
    have hown2 : w.ownsRow w.heap.size e 1 (.slice none 0 0) 0 xs := ⟨hown.1, .inl ⟨rfl, rfl⟩⟩
    obtain ⟨v2, w2, hr2, k2, _, _⟩ := run_append_own_string (P := P) w w.heap.size t u ty e i ht hu hi hz hsize hby _ 0 xs hown2 s h63 hbytes (Nat.le_refl _)
    rw [hr] at hr2
    cases hr2
    rcases k2.2 with ⟨rfl, _⟩ | ⟨g2, cap, cur, rfl, k3, _⟩
    · cases hg
    · cases hg; exact k3
  · by_cases hroom : n + s.size ≤ cap
    · left
      have hcs' : cur.size = cap := by simpa using hcs
      have hr2 := run_append_room_string (P := P) w t u ty e i ht hu hi hsize g0 n cap cur hg0 s hroom (by omega)
      rw [hr] at hr2
      cases hr2
      exact hg
    · right
      have hxl : xs.length = n := by simpa using hown.1
      have holds : ∀ j u, xs[j]? = some u → w.cell? ((⟨g0, 0, none⟩ : Addr).add j) = some u := hown.cells (g := g0) rfl
      have hr2 := run_append_grow_string (P := P) w t u ty e i (.int .u8 0) ht hu hi hz ⟨g0, 0, none⟩ n cap xs (by rw [hsize]; simpa using hxl) holds s (by omega) (by simp only [maxLen] at h63; omega) (by rw [hby]; exact growslice_fits (by omega) (by omega))
      rw [hr] at hr2
      cases hr2
      cases hg
      exact Nat.le_refl _
theorem wp_app {P : Program} {w : World} {ops : Array Oper} {rest : List Oper} {o : Oper} {a : Act} {Q : Exit → Act → World → Prop} (hgd : o.guard = none) (sl x : Operand) (t u : TypeId)
    (ho : o.op = .call { callee := .builtin .append, args := #[sl, x], argTypes := #[t, u] })
    (base : Nat) (e : TypeId) (i : TypeInfo) (ht : P.underlying t = some (.slice e)) (hu : P.underlying u = some .string) (hi : P.info? e = some i) (hz : i.zero = some (.int .u8 0)) (hsize : i.size = 1) (hby : i.bytes = 1)
    (v : Value) (n : Nat) (xs : List Value) (hs : a.eval sl = v) (hown : w.ownsRow base e 1 v n xs) (s : ByteArray) (hx : a.eval x = .string s) (h63 : n + s.size ≤ maxLen) (hbytes : n + s.size ≤ 140737488355328) (hbase : base ≤ w.heap.size)
    (h : ∀ v' w', w'.ownsRow base e 1 v' (n + s.size) (xs ++ strCells s) → w.grownBy w' v.ownBlock → (∀ g, v'.ownBlock = some g → v.ownBlock = some g ∨ w.heap.size ≤ g) → wpList P ops Q rest (a.put o.dst v') w') : wpList P ops Q (o :: rest) a w := by
  refine wpList_plain hgd fun K hK => ?_
  obtain ⟨v', w', hr, h2, h3, h4⟩ := run_app (P := P) w base t u o.type e i ht hu hi hz hsize hby v n xs hown s h63 hbytes hbase
  unfold Oper.wp execOp
  simp only [ho, resolve, invoke, builtin, Sem.run_bind, Sem.run_pure, Result.andThen_ok, List.map_toArray, List.map_cons, List.map_nil, hs, hx, hr]
  exact hK _ _ (h v' w' h2 h3 h4)
/-- A builder in block 'b', in plain words of the world. -/
def BAt (T e : TypeId) (w : World) (b : Nat) (v : Value) (l : List UInt8) : Prop :=
  ∃ p, w.heap[b]? = some (.cells #[p, v] T (0, 0)) ∧ (p = .pointer none ∨ p = .pointer (some ⟨b, 0, none⟩)) ∧ w.ownsRow 0 e 1 v l.length (Lib.byteCells l) ∧ v.ownBlock ≠ some b
theorem cells_app (l : List UInt8) (s : ByteArray) : Lib.byteCells l ++ Lib.strCells s = Lib.byteCells (l ++ s.toList) := by
  rw [ByteArray.toList_eq]
  simp [Lib.byteCells, Lib.strCells]
/-- What is kept outside two blocks. -/
structure KeptB (b : Nat) (ob : Option Nat) (w w' : World) : Prop where
  os : w'.os = w.os
  tape : w'.tape = w.tape
  output : w'.output = w.output
  size : w.heap.size ≤ w'.heap.size
  block : ∀ k, k < w.heap.size → k ≠ b → some k ≠ ob → w'.heap[k]? = w.heap[k]?

theorem copy_exact {P : Program} {ρ : Ren} (L : Lays.n240 P ρ) (X : Builder.X72 P ρ) (b : Nat) (v : Value) (l : List UInt8) (w : World) (h : BAt (ρ.t 72) (ρ.t 5) w b v l) :
    Calls P (ρ.f 240) #[.pointer (some ⟨b, 0, none⟩)] w fun e w' => e = .returned (.tuple #[]) ∧ w'.heap[b]? = some (.cells #[.pointer (some ⟨b, 0, none⟩), v] (ρ.t 72) (0, 0)) ∧ w'.ownsRow 0 (ρ.t 5) 1 v l.length (Lib.byteCells l) ∧ w'.heap.size = w.heap.size ∧ KeptB b none w w' := by
  obtain ⟨p, hb, hp, hown, hne⟩ := h
  rcases hp with rfl | rfl
  · refine (Any.Builder_copyCheck_fresh L X b w (by simp [World.cell?, hb]) (by simp [World.shape?, hb]) (by simp [World.frozen?, hb])).mono ?_
    rintro e w' ⟨rfl, rfl⟩
    have hoth : ∀ k, k ≠ b → (w.setCell ⟨b, 0, none⟩ (.pointer (some ⟨b, 0, none⟩))).heap[k]? = w.heap[k]? := fun k hk => by
      simp only [World.setCell, Array.getElem?_modify]
      rw [if_neg fun e => hk e.symm]
    refine ⟨rfl, by simp [World.setCell, Array.getElem?_modify, hb], ⟨hown.1, ?_⟩, by simp [World.setCell], ⟨rfl, rfl, rfl, by simp [World.setCell], fun k _ hk _ => hoth k hk⟩⟩
    rcases hown.2 with h | ⟨g, cap, cur, rfl, h1, h2, h3⟩
    · exact .inl h
    · exact .inr ⟨g, cap, cur, rfl, h1, by rw [hoth g fun e => hne (by rw [e]; rfl)]; exact h2, h3⟩
  · refine (Any.Builder_copyCheck_used L X b w (by simp [World.cell?, hb])).mono ?_
    rintro e w' ⟨rfl, rfl⟩
    exact ⟨rfl, hb, hown, rfl, ⟨rfl, rfl, rfl, Nat.le_refl _, fun _ _ _ _ => rfl⟩⟩

theorem write_exact {P : Program} {ρ : Ren} (L : Lays.n166 P ρ) (X : Builder.Extra P ρ) (b : Nat) (v : Value) (l : List UInt8) (s : ByteArray) (w : World) (h : BAt (ρ.t 72) (ρ.t 5) w b v l) (hlen : l.length + s.size ≤ 140737488355328) :
    Calls P (ρ.f 166) #[.pointer (some ⟨b, 0, none⟩), .string s] w fun e w' => e = .returned (.tuple #[.int .i64 s.size, .nilIface]) ∧ KeptB b v.ownBlock w w' ∧ ∃ v', BAt (ρ.t 72) (ρ.t 5) w' b v' (l ++ s.toList) ∧ ∀ g, v'.ownBlock = some g → v.ownBlock = some g ∨ w.heap.size ≤ g := by
  obtain ⟨i0, hi, hz0, hz1, hz2⟩ := info_parts X.infoByte
  have mixed := L.mixed
  have t72 := L.t72; have a72 := L.a72; have z72 := L.z72; have v72 := L.v72; have u72 := run_underlying L.t72
  have t70 := L.t70; have a70 := L.a70; have z70 := L.z70; have v70 := L.v70; have u70 := run_underlying L.t70
  have t37 := L.t37; have a37 := L.a37; have z37 := L.z37; have v37 := L.v37; have u37 := run_underlying L.t37
  have t3 := L.t3; have a3 := L.a3; have z3 := L.z3; have v3 := L.v3; have u3 := run_underlying L.t3
  have t9 := L.t9; have a9 := L.a9; have z9 := L.z9; have v9 := L.v9; have u9 := run_underlying L.t9
  have t4 := L.t4; have a4 := L.a4; have z4 := L.z4; have v4 := L.v4; have u4 := run_underlying L.t4
  have t164 := L.t164; have a164 := L.a164; have z164 := L.z164; have v164 := L.v164; have u164 := run_underlying L.t164
  have t5 := X.t5; have a5 := X.a5; have z5 := X.z5; have v5 := X.v5; have u5 := run_underlying X.t5
  have e240 : ∀ args w, (callFunc (ρ.f 240) args).run P w = .ok (.enter (ρ.f 240) args) w := enters_of L.f240 (by kernel_rfl) rfl
  go_enter L.f166, Body.n166_ntmps ρ
  go_wp2_with (go_at_fn (ρ.f 240); refine (copy_exact { L with } X.toX72 b v l _ h).mono ?_)
  rintro e w1 ⟨rfl, hbk, hown, hsz1, hk1⟩
  have hne : v.ownBlock ≠ some b := h.choose_spec.2.2.2
  have c0 : w1.cell? ⟨b, 0, none⟩ = some (.pointer (some ⟨b, 0, none⟩)) := by rw [Lib.cell_of_heap hbk]; rfl
  have c1 : w1.cell? ⟨b, 1, none⟩ = some v := by rw [Lib.cell_of_heap hbk]; rfl
  go_wp2_with (at_builtin; refine wp_app rfl _ _ (ρ.t 37) (ρ.t 9) rfl 0 (ρ.t 5) i0 L.t37 L.t9 hi hz0 hz1 hz2 _ _ _ rfl hown s rfl ?c3 ?c4 ?c5 ?_)
  case c3 => unfold maxLen; omega
  case c4 => omega
  case c5 => exact Nat.zero_le _
  intro v' w2 hown' hgrow hfresh
  have hlt : b < w1.heap.size := by
    rcases Nat.lt_or_ge b w1.heap.size with h' | h'
    · exact h'
    · simp [Array.getElem?_eq_none h'] at hbk
  have hb2 : w2.heap[b]? = some (.cells #[.pointer (some ⟨b, 0, none⟩), v] (ρ.t 72) (0, 0)) := by
    rw [hgrow.block b hlt (fun e => hne e.symm)]
    exact hbk
  have d0 : w2.cell? ⟨b, 0, none⟩ = some (.pointer (some ⟨b, 0, none⟩)) := by rw [Lib.cell_of_heap hb2]; rfl
  have d1 : w2.cell? ⟨b, 1, none⟩ = some v := by rw [Lib.cell_of_heap hb2]; rfl
  have f1 : w2.frozen? ⟨b, 1, none⟩ = false := Lib.frozen_of_heap hb2 1
  have hne' : v'.ownBlock ≠ some b := fun hc => by
    rcases hfresh b hc with h6 | h6
    · exact hne h6
    · omega
  obtain ⟨ao, n', cap, rfl⟩ : ∃ ao n' cap, v' = .slice ao n' cap := by
    rcases hown'.2 with ⟨hv, _⟩ | ⟨g, cap, cur, hv, _⟩
    · exact ⟨_, _, _, hv⟩
    · exact ⟨_, _, _, hv⟩
  go_wp2
  go_ret2
  have hoth : ∀ k, k ≠ b → (w2.setCell ⟨b, 1, none⟩ (.slice ao n' cap)).heap[k]? = w2.heap[k]? := fun k hk => by
    simp only [World.setCell, Array.getElem?_modify]
    rw [if_neg fun e => hk e.symm]
  refine ⟨rfl, ⟨hgrow.os.trans hk1.os, hgrow.tape.trans hk1.tape, hgrow.output.trans hk1.output, ?_, fun k hk hkb hko => ?_⟩, .slice ao n' cap, ⟨.pointer (some ⟨b, 0, none⟩), ?_, .inr rfl, ?_, hne'⟩, hfresh⟩
  · have := hgrow.size
    simp only [World.setCell, Array.size_modify]; omega
  · rw [hoth k hkb, hgrow.block k (by omega) hko]
    exact hk1.block k hk hkb (fun e => by cases e)
  · simp [World.setCell, Array.getElem?_modify, hb2]
  · rw [cells_app] at hown'
    have hll : (l ++ s.toList).length = l.length + s.size := by
      rw [List.length_append, ByteArray.toList_eq, Array.length_toList]; rfl
    rw [← hll] at hown'
    refine ⟨hown'.1, ?_⟩
    rcases hown'.2 with h | ⟨g, cap', cur, e1, k1, k2, k3⟩
    · exact .inl h
    · exact .inr ⟨g, cap', cur, e1, k1, by rw [hoth g fun e => hne' (by rw [e1, e]; rfl)]; exact k2, k3⟩
theorem freeze_other (w : World) (a : Addr) (n k : Nat) (h : k ≠ a.block) : (w.freeze a n).heap[k]? = w.heap[k]? := by
  unfold World.freeze
  split
  · rfl
  · show (w.heap.modify a.block _)[k]? = _
    rw [Array.getElem?_modify, if_neg fun e => h e.symm]
theorem freeze_kept (w : World) (a : Addr) (n : Nat) : (w.freeze a n).os = w.os ∧ (w.freeze a n).tape = w.tape ∧ (w.freeze a n).output = w.output ∧ (w.freeze a n).heap.size = w.heap.size := by
  unfold World.freeze
  split
  · exact ⟨rfl, rfl, rfl, rfl⟩
  · exact ⟨rfl, rfl, rfl, by simp⟩
theorem string_exact {P : Program} {ρ : Ren} (L : Lays.n169 P ρ) (X : Builder.Extra P ρ) (b : Nat) (v : Value) (l : List UInt8) (w : World) (h : BAt (ρ.t 72) (ρ.t 5) w b v l) (h0 : l ≠ []) :
    Calls P (ρ.f 169) #[.pointer (some ⟨b, 0, none⟩)] w fun e w' => e = .returned (.string ⟨l.toArray⟩) ∧ KeptB b v.ownBlock w w' := by
  obtain ⟨p, hbk, hp, hown, hne⟩ := h
  have hl0 : l.length ≠ 0 := by simpa using h0
  obtain ⟨g, cap, cur, rfl, hbg, hg, hnc, hcm, hcs, htake⟩ : ∃ g cap cur, v = .slice (some ⟨g, 0, none⟩) l.length cap ∧ 0 ≤ g ∧ w.heap[g]? = some (.cells cur (ρ.t 5) (0, 0)) ∧ l.length ≤ cap ∧ cap ≤ maxLen ∧ cur.size = cap * 1 ∧ cur.toList.take (l.length * 1) = Lib.byteCells l := by
    rcases hown.2 with ⟨_, hz⟩ | ⟨g, cap, cur, hv, r⟩
    · exact absurd hz hl0
    · exact ⟨g, cap, cur, hv, r⟩
  have c1 : w.drew.cell? ⟨b, 1, none⟩ = some (.slice (some ⟨g, 0, none⟩) l.length cap) := by
    have : w.drew.heap[b]? = some (.cells #[p, .slice (some ⟨g, 0, none⟩) l.length cap] (ρ.t 72) (0, 0)) := hbk
    rw [Lib.cell_of_heap this]; rfl
  have hSD : (Builtin.unsafeSliceData_ #[(ρ.t 37)] (ρ.t 127) #[.slice (some ⟨g, 0, none⟩) l.length cap]).run P w.drew = .ok (.pointer (some ⟨g, 0, none⟩)) w.drew :=
    Lib.run_unsafeSliceData_row _ _ _ _ _ _ (by omega)
  have hUS : (Builtin.unsafeString_ #[(ρ.t 127), (ρ.t 3)] (ρ.t 9) #[.pointer (some ⟨g, 0, none⟩), .int .i64 l.length]).run P w.drew = .ok (.string ⟨l.toArray⟩) (w.drew.freeze ⟨g, 0, none⟩ l.length) := by
    refine Lib.run_unsafeString_row w.drew (ρ.t 127) (ρ.t 3) (ρ.t 9) (ρ.t 5) L.t127 X.cellsByte g cur.size (by have hg' : w.drew.heap[g]? = some (.cells cur (ρ.t 5) (0, 0)) := hg; simp [World.shape?, hg']) l h0 (by omega) (by unfold maxLen at hcm; omega) ?_
    intro j x hx
    have := hown.cells (g := g) rfl j (.int .u8 x.toNat) (by simp [Lib.byteCells, hx])
    exact this
  have mixed := L.mixed
  have t72 := L.t72; have a72 := L.a72; have z72 := L.z72; have v72 := L.v72; have u72 := run_underlying L.t72
  have t70 := L.t70; have a70 := L.a70; have z70 := L.z70; have v70 := L.v70; have u70 := run_underlying L.t70
  have t37 := L.t37; have a37 := L.a37; have z37 := L.z37; have v37 := L.v37; have u37 := run_underlying L.t37
  have t127 := L.t127; have a127 := L.a127; have z127 := L.z127; have v127 := L.v127; have u127 := run_underlying L.t127
  have t3 := L.t3; have a3 := L.a3; have z3 := L.z3; have v3 := L.v3; have u3 := run_underlying L.t3
  have t9 := L.t9; have a9 := L.a9; have z9 := L.z9; have v9 := L.v9; have u9 := run_underlying L.t9
  have t5 := X.t5; have a5 := X.a5; have z5 := X.z5; have v5 := X.v5; have u5 := run_underlying X.t5
  have hk : KeptB b (some g) w (w.drew.freeze ⟨g, 0, none⟩ l.length) := by
    obtain ⟨k1, k2, k3, k4⟩ := freeze_kept w.drew ⟨g, 0, none⟩ l.length
    exact ⟨k1, k2, k3, Nat.le_of_eq k4.symm, fun k _ _ ho => freeze_other w.drew _ _ k fun e => ho (by rw [e])⟩
  go_enter L.f169, Body.n169_ntmps ρ
  go_wp2
  go_region_o
  all_goals (go_wp2; go_ret; exact ⟨rfl, hk⟩)

theorem string_any {P : Program} {ρ : Ren} (L : Lays.n169 P ρ) (X : Builder.Extra P ρ) (b : Nat) (v : Value) (l : List UInt8) (w : World) (h : BAt (ρ.t 72) (ρ.t 5) w b v l) :
    Calls P (ρ.f 169) #[.pointer (some ⟨b, 0, none⟩)] w fun e w' => e = .returned (.string ⟨l.toArray⟩) ∧ KeptB b v.ownBlock w w' := by
  by_cases h0 : l = []
  · subst h0
    obtain ⟨p, hbk, hp, hown, hne⟩ := h
    have key : ∀ (e : Ending) (w' : World), (e = .returned (.string ⟨#[]⟩) ∧ Below w.heap.size w w') → e = .returned (.string ⟨([] : List UInt8).toArray⟩) ∧ KeptB b v.ownBlock w w' := fun e w' ⟨h1, h2⟩ => ⟨h1, ⟨h2.os, h2.tape, h2.output, h2.size, fun k hk _ _ => h2.block k hk⟩⟩
    rcases hown.2 with ⟨rfl, _⟩ | ⟨g, cap, cur, rfl, _, hg, _⟩
    · exact (Any.Builder_String_nil L X w.heap.size b p w hbk).mono fun e w' h => key e w' h
    · by_cases hc : cap = 0
      · subst hc
        exact (Any.Builder_String_noroom L X w.heap.size b g p cur w (Nat.le_refl _) hbk hg).mono fun e w' h => key e w' h
      · exact (Any.Builder_String_room L X w.heap.size b g cap p w hc hbk).mono fun e w' h => key e w' h
  · exact string_exact L X b v l w h h0
/-- What is kept of blocks that are not the builder's. -/
theorem KeptB.kept {O : Nat → Prop} {b : Nat} {ob : Option Nat} {w w' : World} (h : KeptB b ob w w') (hb : O b) (ho : ∀ g, ob = some g → O g) : Kept O w w' :=
  ⟨h.os, h.tape, ⟨h.output, fun d => absurd d (by decide)⟩, h.size, fun k hk hno => h.block k hk (fun e => hno (e ▸ hb)) (fun e => hno (ho k e.symm))⟩
theorem findBox {o' : Ob} {o : Ob} {k k' : Nat} (hf : find [(k, o)] k' = some o') : k' = k ∧ o' = o := by
  simp only [find] at hf
  split at hf
  · rename_i e
    cases hf
    exact ⟨(beq_iff.1 e).symm, rfl⟩
  · cases hf
theorem s_WriteStr {P : Program} {ρ : Ren} (L : Lays.n166 P ρ) (X : Builder.Extra P ρ) (he : Ent P (ρ.f 166)) (hT : ρ.t 72 = TB) (h5 : ρ.t 5 = T5) (l : List UInt8) (s : ByteArray) (hlen : l.length + s.size ≤ 140737488355328) :
    SatM P (ρ.f 166) [.one (.pb 1000029 0 1), .one (.c (.str s))] [(1000029, .box [.c (.str ⟨l.toArray⟩)])]
      (.tup [(false, [.c (.int .i64 s.size)]), (false, [.c (.iface true)])], [(1000029, .box [.c (.str ⟨(l ++ s.toList).toArray⟩)])]) := by
  refine ⟨he, fun O I w L0 vals hlw hI hsz hargs hH => ?_⟩
  obtain ⟨v0, v1, rfl⟩ : ∃ a b, vals = #[a, b] := arr2 hsz
  obtain ⟨cs, b, hf, hb, _, rfl⟩ : RepX L0 _ I w v0 (.pb 1000029 0 1) := hargs 0 _ v0 rfl rfl
  have h1 : RepC I w v1 (.str s) := hargs 1 _ v1 rfl rfl
  cases h1
  have hfe : find [(1000029, Ob.box [.c (.str ⟨l.toArray⟩)])] 1000029 = some (.box [.c (.str ⟨l.toArray⟩)]) := rfl
  obtain ⟨b', l', e1, hb', hB⟩ : ∃ (b : Nat) (l' : List UInt8), [XV.c (.str ⟨l.toArray⟩)] = [XV.c (.str ⟨l'.toArray⟩)] ∧ L0.blk 1000029 = some b ∧ BldAt L0 w 1000029 b l' := hH.ob 1000029 _ hfe
  have : l' = l := by simpa using e1.symm
  subst this
  obtain rfl : b' = b := by rw [hb] at hb'; exact (Option.some.inj hb').symm
  obtain ⟨p, v, k1, k2, k3, k4⟩ := hB
  have hAt : BAt (ρ.t 72) (ρ.t 5) w b' v l' := by
    rw [hT, h5]
    exact ⟨p, k1, k2, k3, fun e => (k4 b' e).2 rfl⟩
  have hOb : O b' := (hH.own 1000029 _ b' hfe (.inl hb)).1
  have hOg : ∀ g, v.ownBlock = some g → O g ∧ ¬ I g ∧ g < w.heap.size := fun g hg => hH.own 1000029 _ g hfe (.inr (k4 g hg).1)
  refine (write_exact L X b' v l' s w hAt hlen).mono ?_
  rintro e w' ⟨rfl, hk, v', ⟨p', q1, q2, q3, q4⟩, hv'⟩
  rw [hT] at q1
  rw [h5] at q3
  have hK := hk.kept hOb fun g hg => (hOg g hg).1
  have hlt' : ∀ g, v'.ownBlock = some g → g < w'.heap.size := fun g hg => by
    rcases q3.2 with ⟨rfl, _⟩ | ⟨g', cap, cur, rfl, _, q, _⟩
    · cases hg
    · cases hg
      exact (Array.getElem?_eq_some_iff.1 q).1
  refine ⟨hK, ⟨L0.blk, L0.cap, fun k g => k = 1000029 ∧ v'.ownBlock = some g, L0.hd⟩, I, fun b _ h => .inl h, fun b h => Nat.lt_of_lt_of_le (hI b h) hk.size, ?_, ⟨fun k o hf => ?_, fun k o g hf hg => ?_, fun k k' o o' b hf hf' _ _ => ?_⟩, fun k o _ hf => ⟨rfl, rfl⟩⟩
  · refine ⟨_, rfl, rfl, fun i p v hp hv => ?_⟩
    match i, hp, hv with
    | 0, hp, hv => cases hp; cases hv; exact RepC.int _ _
    | 1, hp, hv => cases hp; cases hv; exact RepC.nilI
  · obtain ⟨rfl, rfl⟩ := findBox hf
    exact ⟨b', _, rfl, hb, p', v', q1, q2, q3, fun g hg => ⟨⟨rfl, hg⟩, fun e => q4 (e ▸ hg)⟩⟩
  · obtain ⟨rfl, rfl⟩ := findBox hf
    rcases hg with hg | ⟨_, hg⟩
    · obtain rfl : b' = g := by
        have : L0.blk 1000029 = some g := hg
        rw [hb] at this; exact Option.some.inj this
      obtain ⟨o1, o2, o3⟩ := hH.own 1000029 _ b' hfe (.inl hb)
      exact ⟨.inr o1, o2, Nat.lt_of_lt_of_le o3 hk.size⟩
    · rcases hv' g hg with h | h
      · obtain ⟨o1, o2, o3⟩ := hOg g h
        exact ⟨.inr o1, o2, Nat.lt_of_lt_of_le o3 hk.size⟩
      · exact ⟨.inl h, fun hi => absurd (hI g hi) (by omega), hlt' g hg⟩
  · rw [(findBox hf).1, (findBox hf').1]
theorem s_BldStr {P : Program} {ρ : Ren} (L : Lays.n169 P ρ) (X : Builder.Extra P ρ) (he : Ent P (ρ.f 169)) (hT : ρ.t 72 = TB) (h5 : ρ.t 5 = T5) (l : List UInt8) :
    SatM P (ρ.f 169) [.one (.pb 1000029 0 1)] [(1000029, .box [.c (.str ⟨l.toArray⟩)])] (.one (.c (.str ⟨l.toArray⟩)), []) := by
  refine ⟨he, fun O I w L0 vals hlw hI hsz hargs hH => ?_⟩
  obtain ⟨v0, rfl⟩ : ∃ v, vals = #[v] := Array.size_eq_one_iff.1 hsz
  obtain ⟨cs, b, hf, hb, _, rfl⟩ : RepX L0 _ I w v0 (.pb 1000029 0 1) := hargs 0 _ v0 rfl rfl
  have hfe : find [(1000029, Ob.box [.c (.str ⟨l.toArray⟩)])] 1000029 = some (.box [.c (.str ⟨l.toArray⟩)]) := rfl
  obtain ⟨b', l', e1, hb', hB⟩ : ∃ (b : Nat) (l' : List UInt8), [XV.c (.str ⟨l.toArray⟩)] = [XV.c (.str ⟨l'.toArray⟩)] ∧ L0.blk 1000029 = some b ∧ BldAt L0 w 1000029 b l' := hH.ob 1000029 _ hfe
  have : l' = l := by simpa using e1.symm
  subst this
  obtain rfl : b' = b := by rw [hb] at hb'; exact (Option.some.inj hb').symm
  obtain ⟨p, v, k1, k2, k3, k4⟩ := hB
  have hAt : BAt (ρ.t 72) (ρ.t 5) w b' v l' := by
    rw [hT, h5]
    exact ⟨p, k1, k2, k3, fun e => (k4 b' e).2 rfl⟩
  have hOb : O b' := (hH.own 1000029 _ b' hfe (.inl hb)).1
  have hOg : ∀ g, v.ownBlock = some g → O g ∧ ¬ I g ∧ g < w.heap.size := fun g hg => hH.own 1000029 _ g hfe (.inr (k4 g hg).1)
  refine (string_any L X b' v l' w hAt).mono ?_
  rintro e w' ⟨rfl, hk⟩
  refine ⟨hk.kept hOb fun g hg => (hOg g hg).1, L0, I, fun b _ h => .inl h, fun b h => Nat.lt_of_lt_of_le (hI b h) hk.size, RepC.str _, ⟨fun k o hf => ?_, fun k o g hf hg => ?_, fun k k' o o' b hf hf' _ _ => ?_⟩, fun k o _ hf => ⟨rfl, rfl⟩⟩
  all_goals cases hf
end Go.Proofs.YtnafogjagbhdbaaDoor.Pi
