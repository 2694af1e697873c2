/- Every operation of a region whose order is fixed is sound. No statement of the seat is proved here. -/
import Derived.Test.YtjolahiflldepabPiX
namespace Go.Proofs.Ytjolahiflldepab.Pi
open Go Go.RowKit
set_option linter.unusedVariables false
set_option linter.unusedSimpArgs false

section
variable {P : Program} {C : Ctx} {L : Lay} {I : Nat → Prop} {s : St} {a : Act} {w : World}

theorem dstK_iff {o : Oper} {K : Nat → Prop} (h : dstK o K) : ∃ d, o.dst = some d ∧ K (64 * d) := by
  unfold dstK at h
  split at h
  · exact ⟨_, by assumption, h⟩
  · exact h.elim

/-- A run that ends without a value. -/
theorem goesM_skip {o : Oper} {w' : World} {L' : Lay} {I' : Nat → Prop} {s' : St} (hrun : (execOp a.eval o).run P w = .ok .skip w') (hi : Inv C L' I' s' a w') : GoesM P C s' a w o (.one .undef) := fun next Q _ hn => Or.inl (by
  unfold Oper.wp
  rw [hrun]
  exact hn undef w' I' L' hi rfl)

theorem boxM_goes {o : Oper} {k : Nat} {xs : List XV} {cells : Array Value} {e : TypeId} {K : PV → St → Prop} (hi : Inv C L I s a w) (hr : RepXs L s.heap I w cells xs) (hrun : (execOp a.eval o).run P w = .ok (.value (.pointer (some ⟨w.heap.size, 0, none⟩))) (w.alloc (.cells cells e))) (h : boxM k xs s K) : ∃ pv s', K pv s' ∧ GoesM P C s' a w o pv := by
  unfold boxM at h
  split at h
  · rename_i hl hk
    obtain ⟨s', L', h1, h2, h3⟩ := newBox (e := e) h hi hr hl hk
    exact ⟨_, s', h1, goesM_run hrun h2 h3⟩
  · exact h.elim

theorem run_storeVar {t : TypeId} {i : TypeInfo} {v : Value} {b o : Nat} {w' : World} (hi : P.info? t = some i) (hs : v.cells.size = i.size) (hst : (storeCells ⟨b, o, none⟩ v.cells.toList 0).run P w = .ok () w') :
    (Instr.storeAt t (.pointer (some ⟨b, o, none⟩)) v).run P w = .ok () w' := by
  simp only [Instr.storeAt, Instr.sureAddr, Sem.run_bind, Sem.run_pure, Result.andThen_ok, storeVar, run_size hi, hs]
  rw [if_neg (by simp)]
  exact hst

theorem storeM_goes {tt : TT} (hT : TOK P tt) {o : Oper} {t : TypeId} {x y : Operand} {K : St → Prop} (hi : Inv C L I s a w) (ho : o.op = .store t x y) (h : storeM tt t x y s K) : ∃ s', K s' ∧ GoesM P C s' a w o (.one .undef) := by
  have hexec : ∀ {w' : World}, (Instr.storeAt t (a.eval x) (a.eval y)).run P w = .ok () w' → (execOp a.eval o).run P w = .ok .skip w' := fun {w'} hr => by
    simp only [execOp, ho, Sem.run_bind, hr, Result.andThen_ok, Sem.run_pure]
  unfold storeM at h
  split at h
  · exact h.elim
  rename_i m hm
  have hkn := known_of (hT t) (by omega)
  obtain ⟨i, hinf, hs, _⟩ := hkn.info
  replace h := opd_sound hi h
  obtain ⟨p, h, hp⟩ := h
  replace h := opd_sound hi h
  obtain ⟨v, h, hv⟩ := h
  split at h
  · rename_i k off n
    obtain ⟨cs, b, g1, g2, g3, g4⟩ := hp
    split at h
    · rename_i xs cs' hxs hf hb
      have e := beq_iff.1 hb
      rw [g1] at hf; cases hf
      split at h
      · rename_i hl hlive
        have hl := lenIs_iff.1 hl
        simp only [forceXs_eq, forceH_eq] at h
        have hvr := cellsX_rep hxs (Or.inl hlive) hv
        obtain ⟨w', h1, h2, h3⟩ := hi.writeBox (P := P) (off := off) g1 g2 (by omega) hvr hlive
        have hrun := hexec (by rw [g4]; exact run_storeVar hinf (by rw [hvr.1, hl, hs, e, hm]) h1)
        split at h
        · rename_i k2 r _ _
          obtain ⟨sk, rows, hk2, _⟩ := hvr.2 0 (.rs k2) ((a.eval y).cells[0]'(by rw [hvr.1]; simp)) rfl (by
            have : 0 < (a.eval y).cells.size := by rw [hvr.1]; simp
            simp [this])
          obtain ⟨s', L', q1, q2, _⟩ := renK_inv h h2 (by
            by_cases e2 : k2 = k
            · subst e2; exact ⟨_, by simp only [find_setOb, if_true, g1]; rfl⟩
            · exact ⟨_, by simp only [find_setOb, if_neg e2]; exact hk2⟩)
          exact ⟨s', q1, goesM_skip hrun q2⟩
        · exact ⟨_, h, goesM_skip hrun h2⟩
      · exact h.elim
    · exact h.elim
  · clear hp hv
    replace h := frzKeys_inv h hi
    obtain ⟨s1, I1, h, hi1, _⟩ := h
    replace h := opd_sound hi1 h
    obtain ⟨p, h, hp⟩ := h
    replace h := opd_sound hi1 h
    obtain ⟨v, h, hv⟩ := h
    split at h
    · rename_i k r off n
      obtain ⟨sz0, rows0, b, g1, g2, g3, g5, g4⟩ := hp
      split at h
      · rename_i ys sz rows hys hf hb
        have e := beq_iff.1 hb
        rw [g1] at hf; cases hf
        obtain ⟨hvs, hvr⟩ := cells_pure hys hv
        split at h
        · rename_i hl
          have hl := lenIs_iff.1 hl
          split at h
          · rename_i hb2
            have e2 := beq_iff.1 hb2
            obtain rfl : off = 0 := by omega
            simp only [forceH_eq] at h
            obtain ⟨w', h1, h2⟩ := hi1.writeRow (P := P) g1 g2 g3 (by omega) (by omega) hvr
            have hrun := hexec (by rw [g4]; exact run_storeVar hinf (by rw [hvs, hl, hs, e, hm]) h1)
            exact ⟨_, h, goesM_skip hrun h2⟩
          · obtain ⟨row, hrow, h⟩ := h
            simp only [forceH_eq] at h
            obtain ⟨w', h1, h2⟩ := hi1.writePart (P := P) (o := off) g1 g2 hrow (by omega) hvs hvr
            have hrun := hexec (by rw [g4]; exact run_storeVar hinf (by rw [hvs, hl, hs, e, hm]) h1)
            exact ⟨_, h, goesM_skip hrun h2⟩
        · exact h.elim
      · exact h.elim
    · exact h.elim
  · rename_i k r off n
    split at h
    · rename_i xs hxs hb
      have e := beq_iff.1 hb
      obtain ⟨ap0, sz0, rows0, b, g1, g2, g3, g5, g4⟩ := hp
      unfold storeD absK at h
      split at h
      · rename_i hlive
        have hvr := cellsX_rep hxs (Or.inl hlive) hv
        have hab := absorbK_inv h hi (fun k o hf _ => hf) (a.eval y).cells.toList (by simp [hvr.1]) (fun i x v h1 h2 => hvr.2 i x v h1 (by simpa using h2))
        clear h
        obtain ⟨ys, s1, Js, h, hi1, hyl, hyr, hJ, hdj, hback⟩ := hab
        have hJ' : ∀ i b, Js i b → C.O b ∧ ¬ I b ∧ b < w.heap.size ∧ ∀ j o, find s1.heap j = some o → ¬ Foot L j b := fun i b hb => by
          obtain ⟨⟨j, o', q1, q2⟩, q3⟩ := hJ i b hb
          obtain ⟨x1, x2, x3⟩ := hi.heap.own j o' b q1 q2
          exact ⟨x1, x2, x3, q3⟩
        split at h
        · rename_i ap sz rows hf hl
          have hl := lenIs_iff.1 hl
          have hf0 := (hback k _ hf).2 (fun cs h => by cases h)
          rw [g1] at hf0; cases hf0
          have ho := hi1.heap.ob k _ hf
          simp only [RepO, g2] at ho
          have hcs : (a.eval y).cells.size = ys.length := by rw [hvr.1, hyl]
          have hyr' : ∀ (i : Nat) (y' : CV) (v' : Value), ys[i]? = some y' → (a.eval y).cells[i]? = some v' → RepD w (Js i) v' y' := fun i y' v' h1 h2 => hyr i y' v' h1 (by simpa using h2)
          split at h
          · rename_i hb2
            have e2 := beq_iff.1 hb2
            obtain rfl : off = 0 := by omega
            have hrow : rows0[r]? = some rows0[r] := List.getElem?_eq_getElem g3
            have hrl := ho.1.2.1 r _ hrow
            have heq : spliceC rows0[r] 0 ys = ys := by
              apply List.ext_getElem?
              intro q
              rw [spliceC_get ys _ 0 q (by omega)]
              by_cases hq : q < ys.length
              · rw [if_pos (by omega)]; simp
              · rw [if_neg (by omega), List.getElem?_eq_none (by omega), List.getElem?_eq_none (by omega)]
            obtain ⟨w', s', L', h1, h2, h3⟩ := hi1.writeDeep (P := P) (o := 0) (vs := (a.eval y).cells) hf g2 hrow (by omega) hcs hyr' hJ' hdj (by rw [heq]; exact h)
            have hrun := hexec (by rw [g4]; exact run_storeVar hinf (by rw [hcs, hl, hs, e, hm]) h1)
            exact ⟨s', h2, goesM_skip hrun h3⟩
          · obtain ⟨row, hrow, h⟩ := h
            obtain ⟨w', s', L', h1, h2, h3⟩ := hi1.writeDeep (P := P) (o := off) (vs := (a.eval y).cells) hf g2 hrow (by omega) hcs hyr' hJ' hdj h
            have hrun := hexec (by rw [g4]; exact run_storeVar hinf (by rw [hcs, hl, hs, e, hm]) h1)
            exact ⟨s', h2, goesM_skip hrun h3⟩
        · exact h.elim
      · exact h.elim
    · exact h.elim
  · exact h.elim

theorem bytes_fold (b : ByteArray) : (b.toList.map fun x => (x.toNat : Int)).foldl (fun r n => r.push (UInt8.ofNat n.toNat)) ByteArray.empty = b := by
  have key : ∀ (l : List UInt8) (r : ByteArray), ((l.map fun x => (x.toNat : Int)).foldl (fun r n => r.push (UInt8.ofNat n.toNat)) r).data = r.data ++ l.toArray := by
    intro l
    induction l with
    | nil => intro r; simp
    | cons x l ih =>
      intro r
      simp only [List.map_cons, List.foldl_cons]
      rw [ih]
      simp
  have h := key b.toList ByteArray.empty
  rw [ByteArray.toList_eq] at h ⊢
  apply ByteArray.ext
  rw [h]
  simp

theorem strBytes_goes {o : Oper} {k : Nat} {b : ByteArray} {el : TypeId} {K : PV → St → Prop} (hi : Inv C L I s a w) (h : newK k (.arr 1 (bytesRows b)) s fun s => K (.one (.rs k)) s) (hsz : b.size ≤ 2 ^ 46)
    (hexec : ∀ {v : Value} {w' : World}, (Conv.stringToBytes el b).run P w = .ok v w' → (execOp a.eval o).run P w = .ok (.value v) w') : ∃ pv s', K pv s' ∧ GoesM P C s' a w o pv := by
  obtain ⟨cap, hcap, hch⟩ := choose_cap (P := P) (w := w) b.size 0 el (by omega)
  let cs : Array Value := (b.data.map fun x => Value.int .u8 x.toNat) ++ Array.replicate (cap - b.size) (.int .u8 0)
  have hcs : cs.size = cap := by simp [cs]; have : b.data.size = b.size := rfl; omega
  let w1 : World := { w with drawn := w.drawn + 1 }
  let w' : World := (w1.alloc (.cells cs el)).freeze ⟨w.heap.size, cap, none⟩ 1
  have hal : (w1.alloc (.cells cs el)).heap[w.heap.size]? = some (.cells cs el (0, 0)) := by
    show (w1.heap.push _)[w1.heap.size]? = _
    simp
  have hnew : w'.heap[w.heap.size]? = some (.cells cs el (cap, cap + 1)) := by
    simp only [w', World.freeze]
    rw [if_neg (by omega)]
    simp only [Array.getElem?_modify, if_true, hal, Option.map_some]
    simp
  have hold : ∀ b', b' < w.heap.size → w'.heap[b']? = w.heap[b']? := fun b' hb' => by
    have h1 : (w1.alloc (.cells cs el)).heap[b']? = w.heap[b']? := Below.heap_alloc w1 _ b' hb'
    simp only [w', World.freeze]
    rw [if_neg (by omega)]
    simp only [Array.getElem?_modify]
    rw [if_neg (by omega), h1]
  have hsize : w'.heap.size = w.heap.size + 1 := by
    simp only [w', World.freeze]
    rw [if_neg (by omega)]
    simp [w1]
  have hos : w'.os = w.os ∧ w'.tape = w.tape ∧ w'.output = w.output := by
    simp only [w', World.freeze]
    rw [if_neg (by omega)]
    exact ⟨rfl, rfl, rfl⟩
  have hbl : (bytesRows b).length = b.size := by simp [bytesRows, ByteArray.toList_eq]
  obtain ⟨s', h1, h2, h3, _, _⟩ := newK_inv (w' := w') h hi hold (by omega) hos.1 hos.2.1 hos.2.2 (some w.heap.size) cap (fun b' hb' => by
    cases hb'
    exact ⟨C.hO _ hi.fr.size, fun h => by have := hi.Ib _ h; omega, by omega, fun j o' _ hj hbj => by have := (hi.heap.own j o' _ hj hbj).2.2; omega⟩) (fun H' _ _ => by
    simp only [RepO, Lay.upd, Lay.updD, if_true]
    refine ⟨by omega, fun i r hr => ?_, cs, el, (cap, cap + 1), hnew, by omega, fun o' ho' => ?_, fun i r j c hr hc => ?_⟩
    · simp only [bytesRows, List.getElem?_map] at hr
      cases hb : b.toList[i]? with
      | none => simp [hb] at hr
      | some x => simp [hb] at hr; subst hr; rfl
    · simp only [World.frozen?, hnew]
      simp; omega
    · simp only [bytesRows, List.getElem?_map] at hr
      cases hb : b.toList[i]? with
      | none => simp [hb] at hr
      | some x =>
        simp [hb] at hr
        subst hr
        cases j with
        | succ j => simp at hc
        | zero =>
          simp at hc
          subst hc
          refine ⟨.int .u8 x.toNat, ?_, RepC.int _ _⟩
          rw [ByteArray.toList_eq] at hb
          have hb' : b.data[i]? = some x := by simpa using hb
          have hlt : i < b.data.size := (Array.getElem?_eq_some_iff.1 hb').1
          have e2 : i * 1 + 0 = i := by omega
          rw [e2]
          simp only [cs]
          rw [Array.getElem?_append_left (by simpa using hlt)]
          simp [hb'])
  refine ⟨_, s', h1, goesM_run (v := .slice (some ⟨w.heap.size, 0, none⟩) b.size cap) (w' := w') (hexec ?_) h2 ⟨1, bytesRows b, h3, by simp [Lay.upd, Lay.updD, hbl]⟩⟩
  have hshape : (w1.alloc (.cells cs el)).shape? w.heap.size = some (el, cap) := by simp [World.shape?, hal, hcs]
  simp only [Conv.stringToBytes, Sem.run_bind, hch, Result.andThen_ok, newRow, run_newObj, markStringish, run_shape]
  show (Result.andThen (Sem.run P (match (w1.alloc (.cells cs el)).shape? w.heap.size with | some (_, n) => freeze { block := w.heap.size, off := n } 1 | _ => pure ()) (w1.alloc (.cells cs el))) fun _ w' => _) = _
  rw [hshape]
  rfl

theorem bytes_run {v : Value} {y : PV} {es : List (List CV)} {cells : Array Value} {b : ByteArray} (hv : RepP L s.heap I w v y) (hns : ∀ b, y ≠ .one (.c (.str b))) (hnd : y ≠ .one .dead) (hlen : (Builtin.lenOf v).run P w = .ok es.length w) (hc : (Builtin.firstCells 1 es.length v).run P w = .ok cells w) (hf : Flat I w 1 es cells) (hb : bytesRows b = es) :
    (∃ base n c, v = .slice base n c) ∧ (Conv.bytesToString v).run P w = .ok (.string b) w := by
  have hbl : es.length = b.toList.length := by rw [← hb]; simp [bytesRows]
  have hcells : cells = ((b.toList.map fun x => (x.toNat : Int)).map (Value.int .u8)).toArray := by
    apply Array.ext
    · rw [hf.size, hbl]; simp
    · intro i h1 h2
      have hi' : i < b.toList.length := by rw [hf.size, hbl] at h1; omega
      have hr : es[i]? = some [CV.int .u8 (b.toList[i].toNat : Int)] := by rw [← hb]; simp [bytesRows, hi']
      obtain ⟨u, q1, q2⟩ := hf.rep i _ 0 _ hr rfl
      have e2 : i * 1 + 0 = i := by omega
      rw [e2, Array.getElem?_eq_getElem h1] at q1
      cases q1
      generalize cells[i] = u at q2
      cases q2
      simp
  cases v <;> simp only [Builtin.lenOf, run_stuck, reduceCtorEq] at hlen
  · exfalso
    cases y with
    | one x =>
      cases x with
      | c cc =>
        have hv : RepC I w _ cc := hv
        cases hv with
        | str => exact hns _ rfl
        | own _ _ _ h => cases h
      | nil _ => cases hv
      | rs k =>
        obtain ⟨_, _, _, h⟩ := hv
        cases hk : L.blk k <;> simp [hk] at h
      | ru k o l =>
        obtain ⟨_, _, _, _, h⟩ := hv
        cases hk : L.blk k <;> simp [hk] at h
      | pb k o l => obtain ⟨_, _, _, _, _, h⟩ := hv; cases h
      | pe k r o l => obtain ⟨_, _, _, _, _, _, _, h⟩ := hv; cases h
      | ds k =>
        obtain ⟨_, _, _, _, h⟩ := hv
        cases hk : L.blk k with
        | none => simp only [hk] at h; rcases h.1 with e | ⟨_, _, e⟩ <;> cases e
        | some b => simp [hk] at h
      | dp k r o l => obtain ⟨_, _, _, _, _, _, _, _, h⟩ := hv; cases h
      | dn k r j => obtain ⟨_, _, _, _, _, _, _, _, _, h⟩ := hv; cases h
      | fb f cs k n qs => obtain ⟨_, _, _, h, _⟩ := hv; cases h
      | undef => cases hv
      | dead => exact hnd rfl
    | agg _ => obtain ⟨_, h, _⟩ := hv; cases h
    | tup _ => obtain ⟨_, h, _⟩ := hv; cases h
  · rename_i base n c
    refine ⟨⟨base, n, c, rfl⟩, ?_⟩
    simp only [Sem.run_pure, Result.ok.injEq, and_true] at hlen
    subst hlen
    cases base with
    | none =>
      simp only [Builtin.firstCells, Sem.run_pure, Result.ok.injEq, and_true] at hc
      rw [← hc] at hcells
      have : b.toList = [] := by
        have h := congrArg Array.size hcells
        simp at h
        exact List.eq_nil_of_length_eq_zero (by simpa using h.symm)
      have hbe : b = ByteArray.empty := by
        apply ByteArray.ext
        rw [ByteArray.toList_eq] at this
        have : b.data = #[] := by apply Array.ext'; simpa using this
        rw [this]; rfl
      rw [hbe]; rfl
    | some a' =>
      simp only [Builtin.firstCells, Nat.mul_one] at hc
      rw [hcells] at hc
      have := run_bytesToString (P := P) w a' es.length c (b.toList.map fun x => (x.toNat : Int)) hc
      rw [this, bytes_fold]

theorem nilM_sound {v : Value} {pv : PV} {K : Bool → Prop} (hi : Inv C L I s a w) (h : nilM s.heap pv K) (hr : RepP L s.heap I w v pv) : ∃ base n c, v = .slice base n c ∧ K base.isNone := by
  unfold nilM at h
  split at h
  · rename_i sz es
    have hr : RepC I w v (.slice sz es) := hr
    cases hr with
    | nil _ => exact ⟨none, 0, 0, rfl, h _ fun _ => rfl⟩
    | empty a' cap _ => exact ⟨some a', 0, cap, rfl, h _ fun e => by cases e⟩
    | slice b off cap _ n _ vs _ _ _ _ _ _ => exact ⟨some _, n, cap, rfl, h _ fun e => by cases e⟩
  · have hr : v = .slice none 0 0 := hr
    exact ⟨none, 0, 0, hr, h⟩
  · rename_i k
    split at h
    · rename_i sz rows hf
      obtain ⟨_, _, g1, g2⟩ := hr
      rw [hf] at g1; cases g1
      have ho := hi.heap.ob k _ hf
      cases hbk : L.blk k with
      | none =>
        simp only [RepO, hbk] at ho
        simp only [hbk] at g2
        exact ⟨none, 0, 0, g2, h _ fun _ => ho⟩
      | some b => simp only [hbk] at g2; exact ⟨some _, _, _, g2, h _ fun e => by cases e⟩
    · exact h.elim
  · rename_i k
    split at h
    · rename_i ap sz rows hf
      obtain ⟨_, _, _, g1, g2⟩ := hr
      rw [hf] at g1; cases g1
      have ho := hi.heap.ob k _ hf
      cases hbk : L.blk k with
      | none =>
        simp only [RepO, hbk] at ho
        simp only [hbk] at g2
        rcases g2.1 with e | ⟨a', c, e⟩
        · exact ⟨none, 0, 0, e, h _ fun _ => ho⟩
        · exact ⟨some a', 0, c, e, h _ fun e => by cases e⟩
      | some b => simp only [hbk] at g2; exact ⟨some _, _, _, g2, h _ fun e => by cases e⟩
    · exact h.elim
  · exact h.elim

theorem splitCap_rep {H : Heap} : ∀ {vs : List PV} {pre post : List CV} {k n : Nat} (us : List Value), splitCap H vs = some (pre, k, n, post) → us.length = vs.length → (∀ (i : Nat) (p : PV) (u : Value), vs[i]? = some p → us[i]? = some u → RepP L H I w u p) →
    ∃ b cells, find H k = some (.box cells) ∧ L.blk k = some b ∧ cells.length = n ∧ us.length = pre.length + 1 + post.length ∧ (∀ (i : Nat) (c : CV) (u : Value), pre[i]? = some c → us[i]? = some u → RepC I w u c) ∧ us[pre.length]? = some (.pointer (some ⟨b, 0, none⟩)) ∧
      (∀ (i : Nat) (c : CV) (u : Value), post[i]? = some c → us[pre.length + 1 + i]? = some u → RepC I w u c)
  | [], pre, post, k, n, us, h, _, _ => by simp [splitCap] at h
  | p :: vs, pre, post, k, n, [], h, hl, _ => by simp at hl
  | p :: vs, pre, post, k, n, u :: us, h, hl, hr => by
    have hr0 := hr 0 p u rfl rfl
    have hrs : ∀ (i : Nat) (p : PV) (u : Value), vs[i]? = some p → us[i]? = some u → RepP L H I w u p := fun i q v h1 h2 => hr (i + 1) q v (by simpa using h1) (by simpa using h2)
    have hls : us.length = vs.length := by simpa using hl
    unfold splitCap at h
    split at h
    · cases ‹_ = _›
    · rename_i k' n' vs' heq
      cases heq
      split at h
      · rename_i cs post' hf hpost
        split at h
        · rename_i hb hall
          cases h
          obtain ⟨cs', b, g1, g2, g3, rfl⟩ := hr0
          rw [hf] at g1; cases g1
          obtain ⟨e1, e2⟩ := pureB_get hpost
          have hone : ∀ c ∈ post', c.1 = false → ∃ y, c = (false, [y]) := fun c hc hff => by
            obtain ⟨i, hi', rfl⟩ := List.mem_iff_getElem.1 hc
            obtain ⟨c', e3, e4⟩ := e2 i (vs[i]'(by omega)) (List.getElem?_eq_getElem _)
            rw [List.getElem?_eq_getElem hi'] at e3; cases e3
            rcases e4 with ⟨x, y, _, _, e5⟩ | ⟨_, _, _, _, e5⟩
            · exact ⟨y, e5⟩
            · rw [e5] at hff; cases hff
          obtain ⟨q1, q2⟩ := flat_get hall hone
          refine ⟨b, cs, hf, g2, beq_iff.1 hb, (by rw [q1]; simp only [List.length_cons, List.length_nil]; omega), fun i c u h1 => by simp at h1, by simp, fun i c v h1 h2 => ?_⟩
          simp only [List.length_nil, Nat.zero_add] at h2
          rw [Nat.add_comm 1 i, List.getElem?_cons_succ] at h2
          have hcy := q2 i c h1
          have hil : i < vs.length := by rw [e1]; exact (List.getElem?_eq_some_iff.1 hcy).1
          obtain ⟨c', e3, e4⟩ := e2 i vs[i] (List.getElem?_eq_getElem hil)
          rw [hcy] at e3; cases e3
          exact comp_of_pure (s := ⟨[], H⟩) (hrs i _ v (List.getElem?_eq_getElem hil) h2) e4
        · cases h
      · cases h
    · rename_i c0 vs' heq
      cases heq
      split at h
      · rename_i pre' p' hsp
        cases h
        obtain ⟨b, cells, q1, q2, q3, q4, q5, q6, q7⟩ := splitCap_rep us hsp hls hrs
        refine ⟨b, cells, q1, q2, q3, by simp; omega, fun i c v h1 h2 => ?_, by simpa using q6, fun i c v h1 h2 => ?_⟩
        · cases i with
          | zero => simp at h1 h2; subst h1; subst h2; exact hr0
          | succ i => simp at h1 h2; exact q5 i c v h1 h2
        · refine q7 i c v h1 ?_
          rw [← h2]
          simp only [List.length_cons]
          rw [show pre'.length + 1 + 1 + i = (pre'.length + 1 + i) + 1 by omega, List.getElem?_cons_succ]
      · cases h
    · cases h

/-- An own slice from its begin, by itself. -/
theorem shrinkK_inv {k k2 l : Nat} {v : Value} {K : St → Prop} (h : shrinkK k k2 l s K) (hi : Inv C L I s a w) (hv : RepX L s.heap I w v (.ru k 0 l)) : ∃ s' L', K s' ∧ Inv C L' I s' a w ∧ RepX L' s'.heap I w v (.rs k2) := by
  unfold shrinkK at h
  split at h
  · rename_i sz rows hf
    obtain ⟨s1, h, hi1, hnone, hfs, _⟩ := killK_inv h hi
    obtain ⟨sz', rows', g1, g3, g2⟩ := hv
    rw [hf] at g1; cases g1
    have ho := hi.heap.ob k _ hf
    cases hbk : L.blk k with
    | none =>
      simp only [RepO, hbk] at ho
      simp only [hbk] at g2
      subst ho
      simp only [List.take_nil] at h
      obtain ⟨s', L', e1, e2, e3⟩ := newNil h hi1
      exact ⟨s', L', e1, e2, by rw [g2]; exact e3⟩
    | some b =>
      simp only [RepO, hbk] at ho
      simp only [hbk] at g2
      obtain ⟨hcap, hrl, cur, ce, fr, hcur, hfit, hfz, hrep⟩ := ho
      obtain ⟨hO, hnI, hlt⟩ := hi.heap.own k _ b hf (.inl hbk)
      obtain ⟨q, q1, q2, q3⟩ := g2
      have e0 := q2 (.inr trivial)
      rw [Nat.zero_mul] at e0
      subst e0
      have hnob : ∀ j o', find s1.heap j = some o' → ¬ Foot L j b := fun j o' hj hbj => by
        by_cases e : j = k
        · rw [e, hnone] at hj; cases hj
        · rw [hfs j e] at hj
          cases hj' : find s.heap j with
          | none => simp [hj'] at hj
          | some o3 => exact e (hi.heap.inj j k o3 _ b hj' hf hbj (.inl hbk))
      have hsub : ∀ (i : Nat) (r : List CV), (rows.take l)[i]? = some r → rows[i]? = some r := fun i r h => by
        rw [List.getElem?_take] at h
        split at h
        · exact h
        · cases h
      obtain ⟨s', e1, e2, e3, _, _⟩ := newK_inv (w' := w) h hi1 (fun _ _ => rfl) (Nat.le_refl _) rfl rfl rfl (some b) (L.cap k) (fun b' hb' => by
        cases hb'
        exact ⟨hO, hnI, hlt, fun j o' _ hj => hnob j o' hj⟩) (fun H' _ _ => by
        simp only [RepO, Lay.upd, Lay.updD, if_true]
        exact ⟨by simp; omega, fun i r hr => hrl i r (hsub i r hr), cur, ce, fr, hcur, hfit, hfz, fun i r j c h1 h2 => hrep i r j c (hsub i r h1) h2⟩)
      exact ⟨s', _, e1, e2, sz, rows.take l, e3, by simp only [Lay.upd, Lay.updD, if_true]; rw [q3, Nat.sub_zero, List.length_take, Nat.min_eq_left (by omega)]⟩
  · exact h.elim

/-- Zeros that are appended to nothing. -/
theorem appendZ_goes {o : Oper} {c : Call} {x y : Operand} {t t2 : TypeId} {ti ti2 : TI} (ht : tiOk P t ti = true) (ht2 : tiOk P t2 ti2 = true) (hz2 : ti2.ik ≠ none) (hi : Inv C L I s a w) (ho : o.op = .call c) (hc : c.callee = .builtin .append) (hargs : c.args.toList = [x, y]) (hts : c.argTypes.toList = [t, t2]) {k : Nat} {px py : PV} {K : PV → St → Prop}
    (hx : RepP L s.heap I w (a.eval x) px) (hy : RepP L s.heap I w (a.eval y) py) (h : appendZ ti k s px py K) : ∃ pv s', K pv s' ∧ GoesM P C s' a w o pv := by
  have hca : c.args = #[x, y] := by apply Array.ext'; simpa using hargs
  have hct : c.argTypes = #[t, t2] := by apply Array.ext'; simpa using hts
  have hexec : ∀ {v : Value} {w' : World}, (Builtin.append_ #[t, t2] o.type #[a.eval x, a.eval y]).run P w = .ok v w' → (execOp a.eval o).run P w = .ok (.value v) w' := fun {v w'} hr => by
    simp [execOp, ho, resolve, hc, hca, hct, invoke, builtin, hr]
  unfold appendZ at h
  split at h
  · rename_i sz bytes z zs sz' hsl hez
    replace h := intIx_sound h hy
    obtain ⟨kl, n, en, h⟩ := h
    split at h
    · obtain ⟨⟨h0, h1⟩, h⟩ := h
      obtain ⟨k2, hk2⟩ := Option.ne_none_iff_exists'.1 hz2
      have hu2 := (known_any ht2 (.inr (.inr (.inr (.inl hz2))))).ik k2 hk2
      have hkn := known_any ht (.inl (by rw [hsl]; simp))
      obtain ⟨hu, hsz0, ie, hie, hs, hby, ⟨hb0, hb1⟩, zv, hzv, hzs, hzo⟩ := hkn.slice _ _ hsl
      have hzo := hzo (by rw [hez]; simp)
      obtain ⟨y1, y2⟩ := zeroOkC_rep (I := I) (w := w) hzo
      subst hby
      have hxv : a.eval x = .slice none 0 0 := hx
      have hnn : n ≤ 2 ^ 46 := by
        have : n * 1 ≤ n * (ie.bytes : Int) := Int.mul_le_mul_of_nonneg_left (by omega) (by omega)
        omega
      have hw := wrap_small (n := n) h0 (by omega)
      have hnb : n.toNat * ie.bytes ≤ 2 ^ 46 := by
        have : ((n.toNat * ie.bytes : Nat) : Int) = n * ie.bytes := by rw [Int.natCast_mul, Int.toNat_of_nonneg h0]
        omega
      by_cases hn0 : n = 0
      · subst hn0
        obtain ⟨s', L', g1, g2, g3⟩ := newNil h hi
        refine ⟨_, s', g1, goesM_run (hexec ?_) g2 g3⟩
        rw [hxv, en]
        unfold Builtin.append_
        simp [Sem.run_bind, run_underlying hu, run_underlying hu2, run_size hie, hs, asInt, asIntOf, hw, run_info hie]
      · obtain ⟨cap, h3, h4⟩ := choose_cap (P := P) (w := w) (0 + n.toNat) 0 ti.elem (by omega)
        have hrl : ti.ez.length = sz := by rw [← y1]; simpa using hzs
        obtain ⟨s', L', e1, e2, e3⟩ := newArr (w1 := { w with drawn := w.drawn + 1 }) (cap := cap) (e := ti.elem) (cells := #[] ++ Builtin.zeroCells zv.cells n.toNat ++ Builtin.zeroCells zv.cells (cap - (0 + n.toNat))) h hi ⟨rfl, rfl, rfl, rfl⟩ (by simp; omega) (by
            simp only [Array.size_append, zeroCells_size, hzs, List.size_toArray, List.length_nil]
            rw [Nat.zero_add, ← Nat.add_mul]; exact Nat.mul_le_mul_right _ (by omega)) (fun i r hr => by
          have := List.eq_of_mem_replicate (List.mem_of_getElem? hr); rw [this]; exact hrl) (fun i r j c hr hcc => by
          have hrr := List.eq_of_mem_replicate (List.mem_of_getElem? hr)
          subst hrr
          have hi' : i < n.toNat := by have := (List.getElem?_eq_some_iff.1 hr).1; simpa using this
          have hj : j < sz := by rw [← hrl]; exact (List.getElem?_eq_some_iff.1 hcc).1
          have hjz : j < zv.cells.size := by omega
          have hz := zero_row hzs hi' hj
          have hlt : i * sz + j < n.toNat * sz := by
            have : (i + 1) * sz ≤ n.toNat * sz := Nat.mul_le_mul_right _ hi'
            rw [Nat.add_mul] at this; omega
          refine ⟨zv.cells[j], ?_, y2 j c _ hcc (by simp [hjz])⟩
          rw [Array.getElem?_append_left (by simp [zeroCells_size, hzs]; exact hlt)]
          have hz' : (Builtin.zeroCells zv.cells n.toNat)[i * sz + j]? = zv.cells[j]? := by
            unfold Builtin.zeroCells
            rw [hzs] at hz ⊢
            exact hz
          rw [Array.empty_append, hz']
          exact Array.getElem?_eq_getElem hjz)
        refine ⟨_, s', e1, goesM_run (v := .slice (some ⟨w.heap.size, 0, none⟩) (0 + n.toNat) cap) (hexec ?_) e2 (by have e4 := e3; rw [List.length_replicate] at e4; rw [Nat.zero_add]; exact e4)⟩
        have hbig : ¬ n * (ie.bytes : Int) > 2 ^ 48 := by omega
        have hnext : ¬ Builtin.nextslicecap (0 + n.toNat) 0 * ie.bytes > 2 ^ 48 := by
          have : Builtin.nextslicecap (0 + n.toNat) 0 = 0 + n.toNat := by unfold Builtin.nextslicecap; rw [if_pos (by omega)]
          rw [this, Nat.zero_add]; omega
        have hmul : ¬ n.toNat * sz = 0 := by
          intro e0; rcases Nat.mul_eq_zero.1 e0 with e0 | e0 <;> omega
        rw [hxv, en]
        unfold Builtin.append_
        simp only [List.getElem?_toArray, List.getElem?_cons_zero, List.getElem?_cons_succ, Sem.run_bind, run_underlying hu, run_underlying hu2, Result.andThen_ok, run_size hie, hs, Sem.run_pure, if_true, asInt, asIntOf, hw, Sem.run_ite, run_info hie]
        rw [if_neg (by omega)]
        simp only [Sem.run_pure, Result.andThen_ok, Sem.run_bind, run_info hie, Sem.run_ite, if_neg hbig]
        rw [if_neg (by omega), if_neg (by intro ⟨h, _⟩; have : IntKind.i64.max = 9223372036854775807 := rfl; omega)]
        simp only [Sem.run_pure, Result.andThen_ok, Sem.run_bind, run_info hie, Sem.run_ite, if_neg hnext, h4, run_askRoom, Builtin.firstCells, Bool.not_true, Bool.false_eq_true, if_false, if_neg hmul, zeroValue, hzv, newRow, run_newObj]
        rfl
    · exact h.elim
  · exact h.elim

theorem capM_goes {o : Oper} {c : Call} {x : Operand} {t : TypeId} {ti : TI} (ht : tiOk P t ti = true) (hi : Inv C L I s a w) (ho : o.op = .call c) (hc : c.callee = .builtin .cap) (hargs : c.args.toList = [x]) {ts : List TypeId} (hts : c.argTypes.toList = t :: ts) {px : PV} {K : PV → St → Prop}
    (hx : RepP L s.heap I w (a.eval x) px) (h : capM s.heap ti px fun v => K v s) : ∃ pv s', K pv s' ∧ GoesM P C s' a w o pv := by
  have hca : c.args = #[x] := by apply Array.ext'; simpa using hargs
  have hat : c.argTypes[0]? = some t := by rw [← Array.getElem?_toList, hts]; rfl
  have key : ∀ {sz b : Nat} {base : Option Addr} {n cp : Nat}, ti.slice = some (sz, b) → a.eval x = .slice base n cp → K (.one (.c (.int .i64 cp))) s → ∃ pv s', K pv s' ∧ GoesM P C s' a w o pv := fun {sz b base n cp} hsl hv h => by
    have hu := ((known_any ht (.inl (by rw [hsl]; simp))).slice _ _ hsl).1
    refine ⟨_, s, h, goesM_run (v := .int .i64 cp) ?_ hi (RepC.int .i64 _)⟩
    simp [execOp, ho, resolve, hc, hca, invoke, builtin, hv, Builtin.cap_, hat, run_underlying hu, goInt]
  unfold capM at h
  split at h
  · rename_i p _ hsl
    have hv : a.eval x = .slice none 0 0 := hx
    exact key (cp := 0) hsl hv (by simpa using h)
  · rename_i p sz es hsl
    have hv : RepC I w (a.eval x) (.slice sz es) := hx
    generalize a.eval x = v at hv key
    cases hv with
    | nil _ => exact key hsl rfl (h 0 (by simp))
    | empty b cap _ => exact key hsl rfl (h cap (by simp))
    | slice b off cap _ n _ vs hI hn hcap hsz hc hrc => exact key hsl rfl (h cap (by omega))
  · rename_i p k hsl
    split at h
    · rename_i sz rows hf
      obtain ⟨_, _, g1, g2⟩ := hx
      rw [hf] at g1; cases g1
      have ho' := hi.heap.ob k _ hf
      cases hbk : L.blk k with
      | none =>
        simp only [RepO, hbk] at ho'
        simp only [hbk] at g2
        subst ho'
        exact key hsl g2 (h 0 (by simp))
      | some b =>
        simp only [RepO, hbk] at ho'
        simp only [hbk] at g2
        exact key hsl g2 (h _ ho'.1)
    · exact h.elim
  · exact h.elim

theorem opM_sound {tt : TT} (hT : TOK P tt) {o : Oper} {K : PV → St → Prop} (hi : Inv C L I s a w) (h : opM P tt s o K) : ∃ pv s', K pv s' ∧ GoesM P C s' a w o pv := by
  have fall : ∀ {s1 : St} {L1 : Lay} {I1 : Nat → Prop}, Inv C L1 I1 s1 a w → opQ P tt s1 o (fun v => K v s1) → ∃ pv s', K pv s' ∧ GoesM P C s' a w o pv := fun {s1 L1 I1} hi1 h => by
    obtain ⟨pv, h1, h2⟩ := opQ_sound hT hi1 h
    exact ⟨pv, s1, h1, h2.m⟩
  cases hop : o.op <;> simp only [opM, hop] at h
  case assign x =>
    replace h := opd_sound hi h
    obtain ⟨v, h, hv⟩ := h
    have hrun : (execOp a.eval o).run P w = .ok (.value (a.eval x)) w := by simp only [execOp, hop]; rfl
    unfold assignM at h
    split at h
    · split at h
      · obtain ⟨d, hd, h⟩ := dstK_iff h
        have e : a.eval x = .slice none 0 0 := hv
        obtain ⟨s', L', h1, h2, h3⟩ := newNil h hi
        exact ⟨_, s', h1, goesM_run (by rw [hrun, e]) h2 h3⟩
      · rename_i k
        split at h
        · exact ⟨_, s, h, goesM_run hrun hi hv⟩
        obtain ⟨d, hd, h⟩ := dstK_iff h
        obtain ⟨o', ho'⟩ := find_key (L := L) (I := I) (w := w) (H := s.heap) (x := .rs k) rfl hv
        obtain ⟨s', L', h1, h2, h3⟩ := renK_inv h hi ⟨o', ho'⟩
        exact ⟨_, s', h1, goesM_run hrun h2 (h3.1 _ hv)⟩
      · rename_i k
        split at h
        · exact ⟨_, s, h, goesM_run hrun hi hv⟩
        obtain ⟨d, hd, h⟩ := dstK_iff h
        obtain ⟨o', ho'⟩ := find_key (L := L) (I := I) (w := w) (H := s.heap) (x := .ds k) rfl hv
        obtain ⟨s', L', h1, h2, h3⟩ := renK_inv h hi ⟨o', ho'⟩
        exact ⟨_, s', h1, goesM_run hrun h2 (h3.2 _ hv)⟩
      · rename_i k off l
        split at h
        case h_2 => exact ⟨_, s, h, goesM_run hrun hi hv⟩
        rename_i hoff
        have e0 := beq_iff.1 hoff
        subst e0
        cases h with
        | r h => exact ⟨_, s, h, goesM_run hrun hi hv⟩
        | x h =>
          obtain ⟨d, hd, h⟩ := dstK_iff h
          obtain ⟨s', L', h1, h2, h3⟩ := shrinkK_inv h hi hv
          exact ⟨_, s', h1, goesM_run hrun h2 h3⟩
      · exact ⟨_, s, h, goesM_run hrun hi hv⟩
    · exact ⟨_, s, h, goesM_run hrun hi hv⟩
  case alloc t =>
    obtain ⟨d, hd, h⟩ := dstK_iff h
    split at h
    · exact h.elim
    · rename_i sz hz
      have hkn := known_any (hT t) (.inr (.inr (.inr (.inr (.inr (.inr (.inr (.inl (by rw [hz]; simp)))))))))
      obtain ⟨i, hinf, hs, _, hzz⟩ := hkn.info
      obtain ⟨zv, hzv, hzok⟩ := hzz (by rw [hz]; simp)
      obtain ⟨z1, z2⟩ := zeroOk_rep (L := L) (s := s) (I := I) (w := w) hzok
      rw [hz] at z1 z2
      have z3 : zv.cells.size = 1 := by simpa using z1
      have z4 : zv.cells[0]'(by omega) = .slice none 0 0 := z2 0 (.nil sz) _ rfl (by simp [z3])
      obtain ⟨s1, L1, h, hi1, hr1⟩ := newNil h hi
      refine boxM_goes (cells := zv.cells) (e := t) hi1 ⟨by simpa using z3, fun i x v h1 h2 => ?_⟩ ?_ h
      · cases i with
        | succ i => simp at h1
        | zero =>
          simp at h1
          subst h1
          rw [Array.getElem?_eq_getElem (by omega), z4] at h2
          cases h2
          exact hr1
      · simp only [execOp, hop, Instr.alloc, zeroValue, Sem.run_bind, run_info hinf, hzv, Sem.run_pure, Result.andThen_ok, newVar, newRow, run_newObj]
        rfl
    · rename_i z zs _ hz
      have hkn := known_any (hT t) (.inr (.inr (.inr (.inr (.inr (.inr (.inr (.inl (by rw [hz]; simp)))))))))
      obtain ⟨i, hinf, hs, _, hzz⟩ := hkn.info
      obtain ⟨zv, hzv, hzok⟩ := hzz (by rw [hz]; simp)
      obtain ⟨z1, z2⟩ := zeroOk_rep (L := L) (s := s) (I := I) (w := w) hzok
      rw [hz] at z1 z2
      refine boxM_goes (cells := zv.cells) (e := t) hi ⟨by simpa using z1, fun i x v h1 h2 => z2 i x v h1 (by simpa using h2)⟩ ?_ h
      simp only [execOp, hop, Instr.alloc, zeroValue, Sem.run_bind, run_info hinf, hzv, Sem.run_pure, Result.andThen_ok, newVar, newRow, run_newObj]
      rfl
  case box t x =>
    obtain ⟨d, hd, h⟩ := dstK_iff h
    replace h := opd_sound hi h
    obtain ⟨v, h, hv⟩ := h
    split at h
    · rename_i xs hxs
      have hlive : allLive xs = true := by
        unfold boxM at h
        split at h
        · assumption
        · exact h.elim
      refine boxM_goes (cells := (a.eval x).cells) (e := t) hi (cellsX_rep hxs (Or.inl hlive) hv) ?_ h
      simp only [execOp, hop, Instr.box, Sem.run_bind, newVar, newRow, run_newObj, Result.andThen_ok, Sem.run_pure]
      rfl
    · exact h.elim
  case buildSlice t len ps =>
    split at h
    · rename_i sz bb hsl hlen hbig
      have hkn := known_any (hT t) (.inl (by rw [hsl]; simp))
      obtain ⟨hu, hsz0, ie, hie, hs, hby, _, zv, hzv, hzs, _⟩ := hkn.slice _ _ hsl
      replace h := partsK_sound hi h
      obtain ⟨pvs0, h, hps0⟩ := h
      have flat : buildF tt t len sz ps.toList o pvs0 s K → ∃ pv s', K pv s' ∧ GoesM P C s' a w o pv := fun h => by
        unfold buildF at h
        replace h := frzKeys_inv h hi
        obtain ⟨s1, I1, h, hi1, _⟩ := h
        replace h := partsK_sound hi1 h
        obtain ⟨pvs, h, hps⟩ := h
        split at h
        · rename_i rows hrows
          obtain ⟨d, hd, h⟩ := dstK_iff h
          have hlen' := beq_iff.1 hlen
          simp only [hsl, Option.getD_some] at hbig
          have hbig' := Nat.le_of_ble_eq_true hbig
          have hrl : ∀ {i : Nat} {ps : List (Nat × PV)} {rows : List (List CV)}, listRows sz i ps = some rows → rows.length = ps.length := by
            intro i ps
            induction ps generalizing i with
            | nil => intro rows h; simp only [listRows, Option.some.injEq] at h; subst h; rfl
            | cons p ps ih =>
              intro rows h
              obtain ⟨j, v⟩ := p
              simp only [listRows] at h
              split at h
              · rename_i _ _ hr
                split at h
                · cases h; simp [ih hr]
                · cases h
              · cases h
          have hpl : ∀ {pv : List (Nat × PV)} {vs : List (Nat × Value)}, PartsRep L s1.heap I1 w pv vs → pv.length = vs.length := by
            intro pv
            induction pv with
            | nil => intro vs h; cases vs with | nil => rfl | cons _ _ => exact h.elim
            | cons p pv ih => intro vs h; cases vs with | nil => exact h.elim | cons q vs => obtain ⟨_, _, h⟩ := h; simp [ih h]
          have hn : rows.length = len := by rw [hrl hrows, hpl hps, List.length_map]; exact hlen'.symm
          let zero : Array Value := if len * sz = 0 then #[] else zv.cells
          have hzsz : ((Array.range (len * sz)).map (zero[· % zero.size]!)).size = len * sz := by simp
          obtain ⟨out, g1, g2, g3, g4, g5⟩ := fill_rows (L := L) (s := s1) (I := I1) (w := w) hsz0 (cells := (Array.range (len * sz)).map (zero[· % zero.size]!)) hrows hps (by rw [hzsz, Nat.zero_add, hn]; exact Nat.le_refl _)
          obtain ⟨s', L', e1, e2, e3⟩ := newArr (w1 := w) (cap := len) (e := (tt t).elem) (cells := out) h hi1 ⟨rfl, rfl, rfl, rfl⟩ (by omega) (by rw [g2, hzsz]; exact Nat.le_refl _) g4 (fun i r j c h1 h2 => by have := g5 i r j c h1 h2; rwa [Nat.zero_add] at this)
          refine ⟨_, s', e1, goesM_run (v := .slice (some ⟨w.heap.size, 0, none⟩) len len) (w' := w.alloc (.cells out (tt t).elem)) ?_ e2 (by rw [hn] at e3; exact e3)⟩
          have hparts : (ps.map fun (x : Nat × Operand) => (x.1, a.eval x.2)).toList = ps.toList.map fun p => (p.1, a.eval p.2) := by simp
          simp only [execOp, hop, Instr.buildSlice, Sem.run_bind, run_underlying hu, Result.andThen_ok, run_size hie, hs, Sem.run_ite]
          rw [if_neg (by omega)]
          by_cases h0 : len * sz = 0
          · simp only [h0, if_true, Sem.run_pure, Result.andThen_ok, Sem.run_bind]
            simp only [h0, if_true, zero] at g1
            simp only [hparts]
            rw [g1]
            simp only [newRow, Sem.run_bind, run_newObj, Result.andThen_ok, Sem.run_pure]
            rfl
          · simp only [h0, if_false, Sem.run_pure, Result.andThen_ok, Sem.run_bind, zeroValue, run_info hie, hzv]
            simp only [h0, if_false, zero] at g1
            simp only [hparts]
            rw [g1]
            simp only [newRow, Sem.run_bind, run_newObj, Result.andThen_ok, Sem.run_pure]
            rfl
        · exact h.elim
      split at h
      · rename_i v0 _
        obtain ⟨m, _, h⟩ := h
        replace h : buildF tt t len sz ps.toList o [(0, v0)] s K ∨ ∃ m : Bool, match v0.cellsX with
          | some xs => absK m xs s fun ys s => match lenIs ys sz with
            | true => dstK o fun k => newK k (.deep true sz [ys]) s fun s => K (.one (.ds k)) s
            | false => False
          | none => False := by
          match m, h with
          | some true, h => exact .inr ⟨false, h⟩
          | none, h => exact .inr ⟨true, h⟩
          | some false, h => exact .inl h
        rcases h with h | ⟨m, h⟩
        · exact flat h
        · split at h
          · rename_i xs hxs
            unfold absK at h
            split at h
            · rename_i hlive
              -- one part
              have hpl : ∀ {pv : List (Nat × PV)} {vs : List (Nat × Value)}, PartsRep L s.heap I w pv vs → pv.length = vs.length := by
                intro pv
                induction pv with
                | nil => intro vs h; cases vs with | nil => rfl | cons _ _ => exact h.elim
                | cons p pv ih => intro vs h; cases vs with | nil => exact h.elim | cons q vs => obtain ⟨_, _, h⟩ := h; simp [ih h]
              have hlen' := beq_iff.1 hlen
              have hl1 := hpl hps0
              simp only [List.length_map, List.length_cons, List.length_nil] at hl1
              obtain ⟨⟨p0, x0⟩, hp0⟩ : ∃ p, ps.toList = [p] := List.length_eq_one_iff.1 hl1.symm
              rw [hp0] at hps0 hlen'
              obtain ⟨rfl, hv0, _⟩ := hps0
              simp only [List.length_cons, List.length_nil] at hlen'
              subst hlen'
              have hvr := cellsX_rep hxs (Or.inl hlive) hv0
              obtain ⟨ys, s1, Js, h, hi1, hyl, hyr, hJ, hdj, hback⟩ := absorbK_inv h hi (fun k o hf _ => hf) (a.eval x0).cells.toList (by simp [hvr.1]) (fun i x v h1 h2 => hvr.2 i x v h1 (by simpa using h2))
              split at h
              · rename_i hl
                have hl := lenIs_iff.1 hl
                obtain ⟨d, hd, h⟩ := dstK_iff h
                have hvs : (a.eval x0).cells.size = sz := by rw [hvr.1, ← hyl, hl]
                let cells0 : Array Value := (Array.range (1 * sz)).map (zv.cells[· % zv.cells.size]!)
                have hc0 : cells0.size = sz := by simp [cells0]
                let out : Array Value := (a.eval x0).cells.zipIdx.foldl (fun cs (p : Value × Nat) => cs.setIfInBounds (0 * sz + p.2) p.1) cells0
                have hget : ∀ i, i < sz → out[i]? = (a.eval x0).cells[i]? := fun i hi' => by
                  simp only [out]
                  rw [← Array.foldl_toList]
                  have hzi : (a.eval x0).cells.zipIdx.toList = (a.eval x0).cells.toList.zipIdx := by simp
                  rw [hzi, fold_get (a.eval x0).cells.toList 0 (0 * sz) cells0 i (by simp [hvs, hc0])]
                  simp only [Nat.zero_mul, Nat.add_zero, Nat.zero_add, Array.length_toList, hvs]
                  rw [if_pos (by omega), Nat.sub_zero, Array.getElem?_toList]
                have hosz : out.size = sz := by
                  simp only [out]
                  rw [← Array.foldl_toList, fold_size, hc0]
                obtain ⟨s', L', e1, e2, e3⟩ := newDeep (w1 := w) (cap := 1) (e := (tt t).elem) (cells := out) (Js := Js) (J := fun b => ∃ i, Js i b) h hi1 ⟨rfl, rfl, rfl, rfl⟩ (by simp) (by rw [hosz, Nat.one_mul]; exact Nat.le_refl _) (fun i r hr => by
                  cases i with
                  | zero => simp at hr; subst hr; exact hl
                  | succ i => simp at hr) (fun i r j c hr hcc => by
                  cases i with
                  | succ i => simp at hr
                  | zero =>
                    simp at hr; subst hr
                    have hj : j < sz := by rw [← hl]; exact (List.getElem?_eq_some_iff.1 hcc).1
                    have hjv : j < (a.eval x0).cells.size := by omega
                    rw [Nat.zero_mul, Nat.zero_add]
                    exact ⟨_, by rw [hget j hj]; exact Array.getElem?_eq_getElem hjv, hyr j c _ hcc (by simp [hjv])⟩) (fun x b hb => ⟨x, hb⟩) hdj (fun b ⟨i, hb⟩ => by
                  obtain ⟨⟨j, o', q1, q2⟩, q3⟩ := hJ i b hb
                  obtain ⟨x1, x2, x3⟩ := hi.heap.own j o' b q1 q2
                  exact ⟨x1, x2, x3, fun j o _ hj => q3 j o hj⟩)
                refine ⟨_, s', e1, goesM_run (v := .slice (some ⟨w.heap.size, 0, none⟩) 1 1) (w' := w.alloc (.cells out (tt t).elem)) ?_ e2 e3⟩
                have hparts : (ps.map fun (x : Nat × Operand) => (x.1, a.eval x.2)).toList = [(0, a.eval x0)] := by simp [hp0]
                have hbig' : ¬ 1 * sz > 16777216 := by
                  simp only [hsl, Option.getD_some] at hbig
                  have := Nat.le_of_ble_eq_true hbig; omega
                have hnot : ¬ ((a.eval x0).cells.size ≠ sz ∨ 0 * sz + (a.eval x0).cells.size > cells0.size) := by omega
                have hfill : Instr.fill (fun i => some (i * sz, sz)) cells0 [(0, a.eval x0)] = some out := by
                  simp only [Instr.fill, Bool.or_eq_true, decide_eq_true_eq, ne_eq]
                  rw [if_neg hnot]
                simp only [execOp, hop, Instr.buildSlice, Sem.run_bind, run_underlying hu, Result.andThen_ok, run_size hie, hs, Sem.run_ite]
                rw [if_neg hbig']
                have h0 : ¬ 1 * sz = 0 := by omega
                simp only [h0, if_false, Sem.run_pure, Result.andThen_ok, Sem.run_bind, zeroValue, run_info hie, hzv]
                simp only [hparts]
                have hfill' : Instr.fill (fun i => some (i * sz, sz)) ((Array.range (1 * sz)).map (zv.cells[· % zv.cells.size]!)) [(0, a.eval x0)] = some out := hfill
                rw [hfill']
                simp only [newRow, Sem.run_bind, run_newObj, Result.andThen_ok, Sem.run_pure]
                rfl
              · exact h.elim
            · exact h.elim
          · exact h.elim
      · exact flat h
    · exact h.elim
  case makeSlice t l c =>
    replace h := opd_sound hi h
    obtain ⟨vl, h, hl⟩ := h
    replace h := opd_sound hi h
    obtain ⟨vc, h, hc⟩ := h
    replace h := intIx_sound h hl
    obtain ⟨kl, nl, el, h⟩ := h
    replace h := intIx_sound h hc
    obtain ⟨kc, nc, ec, h⟩ := h
    split at h
    · rename_i sz bytes hsl
      split at h
      · exact h.elim
      · rename_i z zs hez
        obtain ⟨⟨h0, h1, h2⟩, h⟩ := h
        obtain ⟨d, hd, h⟩ := dstK_iff h
        have hkn := known_any (hT t) (.inl (by rw [hsl]; simp))
        obtain ⟨hu, hsz0, ie, hie, hs, hby, ⟨hb0, hb1⟩, zv, hzv, hzs, hzo⟩ := hkn.slice _ _ hsl
        have hzo := hzo (by rw [hez]; simp)
        obtain ⟨y1, y2⟩ := zeroOkC_rep (I := I) (w := w) hzo
        subst hby
        have hnc : nc ≤ 2 ^ 46 := by
          have : nc * 1 ≤ nc * (ie.bytes : Int) := Int.mul_le_mul_of_nonneg_left (by omega) (by omega)
          omega
        have hwl := wrap_small (n := nl) h0 (by omega)
        have hwc := wrap_small (n := nc) (by omega) (by omega)
        have hcells : (((Array.range (nc.toNat * sz)).map ((if nc.toNat * sz = 0 then (#[] : Array Value) else zv.cells)[· % (if nc.toNat * sz = 0 then (#[] : Array Value) else zv.cells).size]!))).size = nc.toNat * sz := by simp
        have hrl : (tt t).ez.length = sz := by rw [← y1]; simpa using hzs
        obtain ⟨s', L', e1, e2, e3⟩ := newArr (w1 := w) (cap := nc.toNat) (e := (tt t).elem) (cells := (Array.range (nc.toNat * sz)).map ((if nc.toNat * sz = 0 then (#[] : Array Value) else zv.cells)[· % (if nc.toNat * sz = 0 then (#[] : Array Value) else zv.cells).size]!)) h hi ⟨rfl, rfl, rfl, rfl⟩ (by simp; omega) (by rw [hcells]; exact Nat.le_refl _) (fun i r hr => by
          have := List.eq_of_mem_replicate (List.mem_of_getElem? hr); rw [this]; exact hrl) (fun i r j c hr hcc => by
          have hrr := List.eq_of_mem_replicate (List.mem_of_getElem? hr)
          subst hrr
          have hi' : i < nl.toNat := by have := (List.getElem?_eq_some_iff.1 hr).1; simpa using this
          have hj : j < sz := by rw [← hrl]; exact (List.getElem?_eq_some_iff.1 hcc).1
          have hne : ¬ nc.toNat * sz = 0 := by
            intro e0
            rcases Nat.mul_eq_zero.1 e0 with e0 | e0 <;> omega
          simp only [if_neg hne]
          rw [zero_row hzs (by omega) hj]
          have hjz : j < zv.cells.size := by omega
          exact ⟨zv.cells[j], Array.getElem?_eq_getElem hjz, y2 j c _ hcc (by simp [hjz])⟩)
        refine ⟨_, s', e1, goesM_run (v := .slice (some ⟨w.heap.size, 0, none⟩) nl.toNat nc.toNat) (w' := w.alloc (.cells ((Array.range (nc.toNat * sz)).map ((if nc.toNat * sz = 0 then (#[] : Array Value) else zv.cells)[· % (if nc.toNat * sz = 0 then (#[] : Array Value) else zv.cells).size]!)) (tt t).elem)) ?_ e2 (by have e4 := e3; rw [List.length_replicate] at e4; exact e4)⟩
        have hbig : ¬ (ie.bytes : Int) * nc > 2 ^ 48 := by rw [Int.mul_comm]; omega
        simp only [execOp, hop, el, ec, Instr.makeSlice, Sem.run_bind, run_underlying hu, Result.andThen_ok, asInt, asIntOf, Sem.run_pure, run_info hie, hwl, hwc, Sem.run_ite]
        rw [if_neg (by simp only [Bool.or_eq_true, decide_eq_true_eq, not_or]; omega)]
        simp only [Sem.run_bind, run_askRoom, Result.andThen_ok, run_size hie, hs]
        by_cases hz0 : nc.toNat * sz = 0
        · simp only [hz0, if_true, Sem.run_pure, Result.andThen_ok, Sem.run_bind, newRow, run_newObj]
          rfl
        · simp only [hz0, if_false, Sem.run_pure, Result.andThen_ok, Sem.run_bind, zeroValue, run_info hie, hzv, newRow, run_newObj]
          rfl
    · exact h.elim
  case binOp op t x y yt =>
    split at h
    · rename_i sl hsl
      replace h := opd_sound hi h
      obtain ⟨v, h, hv⟩ := h
      obtain ⟨base, n, c, hb, h⟩ := nilM_sound hi h hv
      obtain ⟨⟨sz, by'⟩, rfl⟩ : ∃ p, sl = p := ⟨sl, rfl⟩
      have hu := ((known_any (hT t) (.inl (by rw [hsl]; simp))).slice _ _ hsl).1
      refine ⟨_, s, h, goesM_run (v := .bool base.isNone) ?_ hi (RepC.bool _)⟩
      have hg : ∀ (X Y : Operand) (u : Value), eqGuard .eql t X Y (.slice base n c) u = pure () := fun X Y u => rfl
      have he : (Op.equal t (.slice base n c) (.slice none 0 0)).run P w = .ok base.isNone w := by
        cases base <;> (unfold Op.equal Op.maxDepth Op.equalIn; simp only [Sem.run_bind, run_underlying hu, Result.andThen_ok, Sem.run_pure, Option.isNone_none, Option.isNone_some])
      have hex : execOp a.eval o = (do let v ← (do eqGuard .eql t x (.const (.slice none 0 0)) (a.eval x) (.slice none 0 0); binOp .eql t (a.eval x) (.slice none 0 0)); pure (.value v)) := by
        simp only [execOp, hop]; rfl
      rw [hex, hb, hg]
      have hbo : binOp .eql t (.slice base n c) (.slice none 0 0) = (do pure (.bool (← Op.equal t (.slice base n c) (.slice none 0 0)))) := rfl
      simp only [Sem.run_bind, Sem.run_pure, Result.andThen_ok, hbo, he]
    · exact fall hi h
  case store t x y =>
    obtain ⟨s', h1, h2⟩ := storeM_goes hT hi hop h
    exact ⟨_, s', h1, h2⟩
  case convert src dst x =>
    replace h := opd_sound hi h
    obtain ⟨v, h, hv⟩ := h
    split at h
    · rename_i b hss hu8
      have e := rep_str hv
      have hus := (known_any (hT src) (.inr (.inr (.inr (.inr (.inl hss)))))).str hss
      obtain ⟨el, hud, hue⟩ := (known_any (hT dst) (.inr (.inr (.inr (.inr (.inr (.inl hu8))))))).u8 hu8
      obtain ⟨hsz, h⟩ := h
      obtain ⟨d, hd, h⟩ := dstK_iff h
      exact strBytes_goes (el := el) hi h hsz fun hr => by
        simp only [execOp, hop, e, convert, Sem.run_bind, run_underlying hus, run_underlying hud, run_underlying hue, Result.andThen_ok, hr, Sem.run_pure]
    · rename_i b hss hds _
      have e := rep_str hv
      have hus := (known_any (hT src) (.inr (.inr (.inr (.inr (.inl hss)))))).str hss
      have hud := (known_any (hT dst) (.inr (.inr (.inr (.inr (.inl hds)))))).str hds
      refine ⟨_, s, h, goesM_run (v := .string b) ?_ hi (RepC.str b)⟩
      simp only [execOp, hop, e, convert, Sem.run_bind, run_underlying hus, run_underlying hud, Result.andThen_ok, Sem.run_pure]
    · exact h.elim
    · rename_i hds hu8 hns _ _
      have hud := (known_any (hT dst) (.inr (.inr (.inr (.inr (.inl hds)))))).str hds
      obtain ⟨el, hus, hue⟩ := (known_any (hT src) (.inr (.inr (.inr (.inr (.inr (.inl hu8))))))).u8 hu8
      have hnd0 : ∀ (y : PV) (K : List (List CV) → Prop), rowsOf s.heap 1 y K → y ≠ .one .dead := fun y K hy e => by rw [e] at hy; exact hy
      have hnd := hnd0 _ _ h
      replace h := rowsOf_sound (P := P) hi (by omega) h hv
      obtain ⟨es, cells, ⟨b, hb, h⟩, hlen, hcells, hflat⟩ := h
      refine ⟨_, s, h, goesM_run (v := .string b) ?_ hi (RepC.str b)⟩
      have hr := bytes_run (P := P) hv hns hnd hlen (hcells w rfl) hflat hb
      obtain ⟨base, n, c, ev⟩ : ∃ base n c, a.eval x = .slice base n c := hr.1
      have hr2 := hr.2
      rw [ev] at hr2
      simp only [execOp, hop, ev, Sem.run_bind, run_convert_bytes_string w src dst el base n c hus hue hud, hr2, Result.andThen_ok, Sem.run_pure]
    · exact fall hi h
  case makeFunc fn first captured =>
    cases fn <;> (first | exact fall hi h | skip)
    rename_i f
    simp only [opM] at h
    split at h
    · rename_i hfirst
      replace h := argsK_sound hi h
      obtain ⟨vs, h, hvl, hvr⟩ := h
      have frz : frzKeys 40 (keysPs vs) s (fun s => opQ P tt s o fun v => K v s) → ∃ pv s', K pv s' ∧ GoesM P C s' a w o pv := fun h => by
        replace h := frzKeys_inv h hi
        obtain ⟨s1, I1, h, hi1, _⟩ := h
        exact fall hi1 h
      unfold makeM at h
      split at h
      · rename_i pre k n post hsp
        obtain ⟨m, _, h⟩ := h
        cases m with
        | false => exact frz h
        | true =>
          refine ⟨_, s, h, goesM_run (v := .func (.func f) #[] (captured.map a.eval)) (w' := w) ?_ hi ?_⟩
          · have hfe : first = #[] := by apply Array.ext'; simpa using hfirst
            have hfm : first.map a.eval = #[] := by rw [hfe]; simp
            simp only [execOp, hop, hfm]
            rfl
          · have hvl' : vs.length = captured.size := by rw [hvl]; simp
            obtain ⟨b, cells, q1, q2, q3, q4, q5, q6, q7⟩ := splitCap_rep (L := L) (I := I) (w := w) (captured.map a.eval).toList hsp (by simp [hvl']) (fun i p u h1 h2 => by
              have hil : i < vs.length := (List.getElem?_eq_some_iff.1 h1).1
              have hia : i < captured.toList.length := by omega
              have := hvr i p captured.toList[i] h1 (List.getElem?_eq_getElem hia)
              have hia' : i < captured.size := by simpa using hia
              simp [hia'] at h2
              rw [← h2]
              simpa using this)
            exact ⟨_, cells, b, rfl, q1, q2, q3, by simpa using q4, fun i c u h1 h2 => q5 i c u h1 (by simpa using h2), by simpa using q6, fun i c u h1 h2 => q7 i c u h1 (by simpa using h2)⟩
      · exact frz h
    · exact h.elim
  case call c =>
    split at h
    · rename_i f hc
      replace h := opd_sound hi h
      obtain ⟨pf, h, hpf⟩ := h
      exact callM_goes hi hop hc hpf h
    · rename_i b hc
      unfold restM at h
      split at h
      · split at h
        · rename_i x y t t2 hargs hts
          obtain ⟨d, hd, h⟩ := dstK_iff h
          replace h := opd_sound hi h
          obtain ⟨px, h, hx⟩ := h
          replace h := opd_sound hi h
          obtain ⟨py, h, hy⟩ := h
          split at h
          · rename_i hik
            exact appendZ_goes (hT t) (hT t2) (by rw [hik]; simp) hi hop hc hargs hts hx hy h
          · unfold appendA at h
            split at h
            · split at h
              · rename_i hok
                refine appendD_goes (hT t) ?_ hi hop hc hargs hts hx hy h
                obtain ⟨⟨s2, b2⟩, h2⟩ := Option.isSome_iff_exists.1 hok
                exact ⟨_, ((known_any (hT t2) (.inl (by rw [h2]; simp))).slice _ _ h2).1, fun k h => by cases h⟩
              · exact h.elim
            · exact appendT_goes (hT t) (hT t2) hi hop hc hargs hts hx hy h
            · exact appendM_goes (hT t) (hT t2) hi hop hc hargs hts hx hy h
        · exact h.elim
      · split at h
        · rename_i x t ts hargs hts
          replace h := opd_sound hi h
          obtain ⟨px, h, hx⟩ := h
          exact capM_goes (hT t) hi hop hc hargs hts hx h
        · exact h.elim
      · exact fall hi h
    · exact fall hi h
  all_goals exact fall hi h

end

end Go.Proofs.Ytjolahiflldepab.Pi
