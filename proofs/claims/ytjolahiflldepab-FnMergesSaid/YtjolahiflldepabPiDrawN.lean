/- States, changes and histories that are drawn out of bytes, plain. No statement of the seat is proved here. -/
import Derived.Test.YtjolahiflldepabPiSrc
import Derived.Test.YtjolahiflldepabPiMergeLaw
import Derived.Test.YtjolahiflldepabPiFMergeV
namespace Go.Proofs.Ytjolahiflldepab.Pi
open Go
set_option maxRecDepth 10000
set_option maxHeartbeats 3200000
set_option linter.unusedVariables false

def nm5 : List ByteArray := [⟨#[97]⟩, ⟨#[98]⟩, ⟨#[99]⟩, ⟨#[100]⟩, ⟨#[101]⟩]
def nm6 : List ByteArray := [⟨#[97]⟩, ⟨#[98]⟩, ⟨#[99]⟩, ⟨#[100]⟩, ⟨#[101]⟩, ⟨#[102]⟩]
def dsStep (code : List UInt8) (i : Nat) (p : Src × List Setting) : Src × List Setting :=
  if (pickS code p.1 2).1 == 0 then ((pickS code (pickS code p.1 2).2 1001).2, p.2 ++ [⟨nm5.getD i ⟨#[]⟩, (pickS code (pickS code p.1 2).2 1001).1⟩]) else ((pickS code p.1 2).2, p.2)
def dsUp (code : List UInt8) (s : Src) : Nat → Src × List Setting
  | 0 => (s, [])
  | i + 1 => dsStep code i (dsUp code s i)
def drawSt (code : List UInt8) (s : Src) : Src × List Setting := dsUp code s 5
theorem dsUp_pos (code : List UInt8) (s : Src) : ∀ i : Nat, s.pos ≤ (dsUp code s i).1.pos ∧ (dsUp code s i).1.pos ≤ s.pos + 4 * i
  | 0 => by simp [dsUp]
  | i + 1 => by
    have h := dsUp_pos code s i
    have h1 := pickS_pos code (dsUp code s i).1 2
    have h2 := pickS_pos code (pickS code (dsUp code s i).1 2).2 1001
    simp only [dsUp, dsStep]
    split <;> (simp only; omega)
theorem dsUp_len (code : List UInt8) (s : Src) : ∀ i : Nat, (dsUp code s i).2.length ≤ i
  | 0 => by simp [dsUp]
  | i + 1 => by
    have h := dsUp_len code s i
    simp only [dsUp, dsStep]
    split <;> simp <;> omega
theorem dsUp_names (code : List UInt8) (s : Src) : ∀ i : Nat, i ≤ 5 → ((dsUp code s i).2.map (·.name)).Sublist (nm5.take i)
  | 0, _ => by simp [dsUp]
  | i + 1, hi => by
    have h := dsUp_names code s i (by omega)
    have hlt : i < nm5.length := by have : nm5.length = 5 := rfl
                                    omega
    have e : nm5.take (i + 1) = nm5.take i ++ [nm5[i]] := by rw [List.take_add_one, List.getElem?_eq_getElem hlt]; rfl
    have e2 : nm5.getD i ⟨#[]⟩ = nm5[i] := by simp [List.getD, List.getElem?_eq_getElem hlt]
    rw [e]
    simp only [dsUp, dsStep]
    split
    · simp only [List.map_append, List.map_cons, List.map_nil, e2]
      exact h.append (List.Sublist.refl _)
    · exact h.trans (List.sublist_append_left _ _)
theorem dsUp_vals (code : List UInt8) (s : Src) : ∀ i : Nat, ∀ x ∈ (dsUp code s i).2, 0 ≤ x.value ∧ x.value ≤ 1000
  | 0 => by simp [dsUp]
  | i + 1 => by
    have h := dsUp_vals code s i
    have h2 := pickS_lt code (pickS code (dsUp code s i).1 2).2 1001 (by omega)
    simp only [dsUp, dsStep]
    split
    · intro x hx
      rcases List.mem_append.1 hx with hx | hx
      · exact h x hx
      · simp only [List.mem_singleton] at hx; subst hx; simp only; omega
    · exact h
/-- What the draws give. -/
def okD (xs : List Setting) : Prop := Ord Setting.name xs ∧ ∀ x ∈ xs, x.name ∈ nm6 ∧ 0 ≤ x.value ∧ x.value ≤ 1000
theorem nm6_ord : Ord id nm6 := by
  rw [ord_pw]
  have e : ∀ a b : UInt8, less ⟨#[a]⟩ ⟨#[b]⟩ = decide (a < b) := fun a b => by
    show Op.bytesLess (ByteArray.toList ⟨#[a]⟩) (ByteArray.toList ⟨#[b]⟩) = _
    rw [ByteArray.toList_eq, ByteArray.toList_eq]
    simp [Op.bytesLess]
  simp only [nm6, List.pairwise_cons, List.mem_cons, List.not_mem_nil, or_false, id, forall_eq_or_imp, forall_eq, e, decide_eq_true_eq]
  simp
theorem nm6_name : ∀ t ∈ nm6, isName t = true := by
  intro t ht
  simp only [nm6, List.mem_cons, List.not_mem_nil, or_false] at ht
  rcases ht with rfl | rfl | rfl | rfl | rfl | rfl <;> (simp only [isName, ByteArray.toList_eq]; decide)
theorem okD_ok {xs : List Setting} (h : okD xs) : okState xs = true := by
  refine okState_of h.1 (fun x hx => ?_) ?_
  · have := h.2 x hx
    simp only [okSetting, Bool.and_eq_true, decide_eq_true_eq]
    exact ⟨nm6_name _ this.1, this.2⟩
  · have hl := ord_sub (A := xs.map (·.name)) (B := nm6) (by rw [ord_pw, List.pairwise_map]; exact ord_pw.1 h.1) nm6_ord (fun a ha => by
      obtain ⟨x, hx, rfl⟩ := List.mem_map.1 ha
      exact (h.2 x hx).1)
    rw [List.length_map] at hl
    have : nm6.length = 6 := rfl
    omega
theorem okD_len {xs : List Setting} (h : okD xs) : xs.length ≤ 24 := okS_len (okD_ok h)
theorem drawSt_ok (code : List UInt8) (s : Src) : okD (drawSt code s).2 := by
  have h := dsUp_names code s 5 (by omega)
  have h5 : (nm5.take 5).Sublist nm6 := by decide
  have h := h.trans h5
  refine ⟨?_, fun x hx => ⟨h.subset (List.mem_map.2 ⟨x, hx, rfl⟩), dsUp_vals code s 5 x hx⟩⟩
  have := (ord_pw.1 nm6_ord).sublist h
  rw [List.pairwise_map] at this
  exact ord_pw.2 this


/-! ### a setting is set -/
def setL (e : Setting) (xs : List Setting) : List Setting := insS e xs false
theorem setL_ok {e : Setting} {xs : List Setting} (h : okD xs) (he : e.name ∈ nm6 ∧ 0 ≤ e.value ∧ e.value ≤ 1000) : okD (setL e xs) :=
  ⟨insS_ord e h.1, fun x hx => by
    rcases (insS_mem e x xs).1 hx with rfl | ⟨hx, _⟩
    · exact he
    · exact h.2 x hx⟩

/-! ### changes -/
def nmAt (k : Int) : ByteArray := nm6.getD k.toNat ⟨#[]⟩
/-- One change. -/
def chStep (code : List UInt8) (p : Src × List Setting) : Src × List Setting :=
  let a := pickS code p.1 6
  let at_ := atName Setting.name p.2 (nmAt a.1)
  let b := if 0 ≤ at_ then pickS code a.2 2 else (1, a.2)
  if b.1 = 0 then (b.2, p.2.take at_.toNat ++ p.2.drop (at_.toNat + 1)) else ((pickS code b.2 1001).2, setL ⟨nmAt a.1, (pickS code b.2 1001).1⟩ p.2)
def chN (code : List UInt8) : Nat → Src × List Setting → Src × List Setting
  | 0, p => p
  | n + 1, p => chN code n (chStep code p)
def chS (code : List UInt8) (s : Src) (xs : List Setting) : Src × List Setting := chN code (pickS code s 4).1.toNat ((pickS code s 4).2, xs)
theorem nmAt_mem (code : List UInt8) (s : Src) : nmAt (pickS code s 6).1 ∈ nm6 := by
  have h := pickS_lt code s 6 (by omega)
  have hk : (pickS code s 6).1.toNat < nm6.length := by show _ < 6; omega
  simp only [nmAt, List.getD_eq_getElem?_getD, List.getElem?_eq_getElem hk, Option.getD_some]
  exact List.getElem_mem hk
theorem chStep_ok (code : List UInt8) {p : Src × List Setting} (h : okD p.2) : okD (chStep code p).2 ∧ p.1.pos ≤ (chStep code p).1.pos ∧ (chStep code p).1.pos ≤ p.1.pos + 6 := by
  have h1 := pickS_pos code p.1 6
  have hm := nmAt_mem code p.1
  unfold chStep
  simp only
  generalize pickS code p.1 6 = a at h1 hm ⊢
  have h2 : a.2.pos ≤ (if 0 ≤ atName Setting.name p.2 (nmAt a.1) then pickS code a.2 2 else (1, a.2)).2.pos ∧ (if 0 ≤ atName Setting.name p.2 (nmAt a.1) then pickS code a.2 2 else (1, a.2)).2.pos ≤ a.2.pos + 2 := by
    split
    · exact pickS_pos code a.2 2
    · simp only; omega
  generalize (if 0 ≤ atName Setting.name p.2 (nmAt a.1) then pickS code a.2 2 else (1, a.2)) = b at h2 ⊢
  split
  · refine ⟨⟨?_, fun x hx => ?_⟩, by first | omega | (simp only; omega), by first | omega | (simp only; omega)⟩
    · refine ord_pw.2 ((ord_pw.1 h.1).sublist ?_)
      generalize (atName Setting.name p.2 (nmAt a.1)).toNat = n
      exact ((List.Sublist.refl _).append ((List.drop_sublist_drop_left _ (by omega : n ≤ n + 1)))).trans (by rw [List.take_append_drop]; exact List.Sublist.refl _)
    · rcases List.mem_append.1 hx with hx | hx
      · exact h.2 x (List.mem_of_mem_take hx)
      · exact h.2 x (List.mem_of_mem_drop hx)
  · have h3 := pickS_pos code b.2 1001
    have h4 := pickS_lt code b.2 1001 (by omega)
    exact ⟨setL_ok h ⟨hm, h4.1, by first | omega | (simp only; omega)⟩, by first | omega | (simp only; omega), by first | omega | (simp only; omega)⟩
theorem chN_ok (code : List UInt8) : ∀ (n : Nat) {p : Src × List Setting}, okD p.2 → okD (chN code n p).2 ∧ p.1.pos ≤ (chN code n p).1.pos ∧ (chN code n p).1.pos ≤ p.1.pos + 6 * n
  | 0, p, h => ⟨h, Int.le_refl _, by simp [chN]⟩
  | n + 1, p, h => by
    obtain ⟨h1, h2, h3⟩ := chStep_ok code h
    obtain ⟨g1, g2, g3⟩ := chN_ok code n h1
    exact ⟨g1, by simp only [chN]; omega, by simp only [chN]; omega⟩
theorem chS_ok (code : List UInt8) (s : Src) {xs : List Setting} (h : okD xs) : okD (chS code s xs).2 ∧ s.pos ≤ (chS code s xs).1.pos ∧ (chS code s xs).1.pos ≤ s.pos + 20 := by
  have h1 := pickS_pos code s 4
  have h2 := pickS_lt code s 4 (by omega)
  obtain ⟨g1, g2, g3⟩ := chN_ok code (pickS code s 4).1.toNat (p := ((pickS code s 4).2, xs)) h
  simp only at g2 g3
  exact ⟨g1, by simp only [chS]; omega, by simp only [chS]; omega⟩

/-! ### histories -/
def memo3 : List ByteArray := [⟨#[]⟩, ⟨#[110, 101, 119]⟩, ⟨#[97, 32, 98]⟩]
def hiStep (code : List UInt8) (p : Src × List Version) : Src × List Version :=
  let a := pickS code p.1 (p.2.length + 1)
  let d := drawSt code a.2
  let c := if 0 < a.1 then chS code d.1 (stV p.2 a.1) else d
  let t := pickS code c.1 3
  (t.2, p.2 ++ [⟨(p.2.length : Int) + 1, a.1, memo3.getD t.1.toNat ⟨#[]⟩, c.2⟩])
def hiN (code : List UInt8) : Nat → Src × List Version → Src × List Version
  | 0, p => p
  | n + 1, p => hiN code n (hiStep code p)
def hiS (code : List UInt8) (s : Src) : Src × List Version := hiN code (pickS code s 6).1.toNat ((pickS code s 6).2, [])
def okH (xs : List Version) : Prop := ∀ (i : Nat) (h : i < xs.length), xs[i].number = (i : Int) + 1 ∧ 0 ≤ xs[i].parent ∧ xs[i].parent ≤ i ∧ xs[i].memo ∈ memo3 ∧ okD xs[i].state
theorem okD_nil : okD [] := ⟨fun i j hi => by simp at hi, fun x hx => nomatch hx⟩
theorem stV_okD {xs : List Version} (h : okH xs) (p : Int) : okD (stV xs p) := by
  unfold stV
  split
  · exact okD_nil
  · split
    · rename_i v hv
      obtain ⟨hi, rfl⟩ := List.getElem?_eq_some_iff.1 hv
      exact (h _ hi).2.2.2.2
    · exact okD_nil
theorem hiStep_ok (code : List UInt8) {p : Src × List Version} (h : okH p.2) : okH (hiStep code p).2 ∧ (hiStep code p).2.length = p.2.length + 1 ∧ p.1.pos ≤ (hiStep code p).1.pos ∧ (hiStep code p).1.pos ≤ p.1.pos + 60 := by
  have h1 := pickS_pos code p.1 (p.2.length + 1)
  have h2 := pickS_lt code p.1 (p.2.length + 1) (by omega)
  unfold hiStep
  simp only
  generalize pickS code p.1 (p.2.length + 1) = a at h1 h2 ⊢
  have hd : a.2.pos ≤ (drawSt code a.2).1.pos ∧ (drawSt code a.2).1.pos ≤ a.2.pos + 20 := by
    have := dsUp_pos code a.2 5
    simp only [drawSt]; omega
  have hd2 := drawSt_ok code a.2
  generalize drawSt code a.2 = d at hd hd2 ⊢
  have hc : okD (if 0 < a.1 then chS code d.1 (stV p.2 a.1) else d).2 ∧ d.1.pos ≤ (if 0 < a.1 then chS code d.1 (stV p.2 a.1) else d).1.pos ∧ (if 0 < a.1 then chS code d.1 (stV p.2 a.1) else d).1.pos ≤ d.1.pos + 20 := by
    split
    · exact chS_ok code d.1 (stV_okD h a.1)
    · exact ⟨hd2, by omega, by omega⟩
  generalize (if 0 < a.1 then chS code d.1 (stV p.2 a.1) else d) = c at hc ⊢
  have ht := pickS_pos code c.1 3
  have ht2 := pickS_lt code c.1 3 (by omega)
  generalize pickS code c.1 3 = t at ht ht2 ⊢
  refine ⟨fun i hi => ?_, by simp, by first | omega | (simp only; omega), by first | omega | (simp only; omega)⟩
  rw [List.length_append, List.length_cons, List.length_nil] at hi
  rw [List.getElem_append]
  split
  · rename_i hlt
    exact h i hlt
  · rename_i hge
    have hi2 : i = p.2.length := by omega
    subst hi2
    simp only [Nat.sub_self, List.getElem_cons_zero]
    refine ⟨by first | rfl | trivial, h2.1, by omega, ?_, hc.1⟩
    have hk : t.1.toNat < memo3.length := by show _ < 3; omega
    simp only [List.getD_eq_getElem?_getD, List.getElem?_eq_getElem hk, Option.getD_some]
    exact List.getElem_mem hk
theorem hiN_ok (code : List UInt8) : ∀ (n : Nat) {p : Src × List Version}, okH p.2 → okH (hiN code n p).2 ∧ (hiN code n p).2.length = p.2.length + n ∧ p.1.pos ≤ (hiN code n p).1.pos ∧ (hiN code n p).1.pos ≤ p.1.pos + 60 * n
  | 0, p, h => ⟨h, by simp [hiN], Int.le_refl _, by simp [hiN]⟩
  | n + 1, p, h => by
    obtain ⟨h1, h0, h2, h3⟩ := hiStep_ok code h
    obtain ⟨g1, g0, g2, g3⟩ := hiN_ok code n h1
    exact ⟨g1, by simp only [hiN]; omega, by simp only [hiN]; omega, by simp only [hiN]; omega⟩
theorem hiS_ok (code : List UInt8) (s : Src) : okH (hiS code s).2 ∧ (hiS code s).2.length ≤ 5 ∧ s.pos ≤ (hiS code s).1.pos ∧ (hiS code s).1.pos ≤ s.pos + 400 := by
  have h1 := pickS_pos code s 6
  have h2 := pickS_lt code s 6 (by omega)
  obtain ⟨g1, g0, g2, g3⟩ := hiN_ok code (pickS code s 6).1.toNat (p := ((pickS code s 6).2, [])) (fun i hi => by simp at hi)
  simp only [List.length_nil] at g0 g2 g3
  exact ⟨g1, by simp only [hiS]; omega, by simp only [hiS]; omega, by simp only [hiS]; omega⟩
theorem memo3_ok : ∀ t ∈ memo3, okMemo t = true := by
  intro t ht
  simp only [memo3, List.mem_cons, List.not_mem_nil, or_false] at ht
  rcases ht with rfl | rfl | rfl <;> (unfold okMemo; rw [ByteArray.toList_eq]; decide)
theorem okH_ok {xs : List Version} (h : okH xs) (hl : xs.length ≤ 32) : okHistory xs = true := by
  simp only [okHistory, Bool.and_eq_true, decide_eq_true_eq]
  refine ⟨allIx_iff.2 fun i hi => ?_, hl⟩
  obtain ⟨h1, h2, h3, h4, h5⟩ := h i hi
  simp only [okVersion, Bool.and_eq_true, beq_iff_eq, decide_eq_true_eq]
  exact ⟨h1, ⟨h2, h3⟩, memo3_ok _ h4, okD_ok h5⟩
/-- Sizes of what is drawn. -/
theorem okD_enc {xs : List Setting} (h : okD xs) : Enc.ok xs := by
  refine ⟨by have := okD_len h; simp only [maxLen]; omega, fun x hx => ?_⟩
  obtain ⟨h1, h2, h3⟩ := h.2 x hx
  refine ⟨?_, (⟨by omega, by omega⟩ : I64 x.value)⟩
  show x.name.size ≤ maxLen
  simp only [nm6, List.mem_cons, List.not_mem_nil, or_false] at h1
  rcases h1 with h1 | h1 | h1 | h1 | h1 | h1 <;> (rw [h1]; decide)
theorem okD_wt {xs : List Setting} (h : okD xs) : Enc.wt xs ≤ 48 := by
  have hs : ∀ ys : List Setting, (∀ x ∈ ys, x.name ∈ nm6) → (ys.map Enc.wt).sum ≤ ys.length := fun ys => by
    induction ys with
    | nil => simp
    | cons y ys ih =>
      intro hy
      have h1 := hy y (by simp)
      have h2 := ih (fun x hx => hy x (by simp [hx]))
      have h3 : Enc.wt y ≤ 1 := by
        show y.name.size + 0 ≤ 1
        simp only [nm6, List.mem_cons, List.not_mem_nil, or_false] at h1
        rcases h1 with h1 | h1 | h1 | h1 | h1 | h1 <;> (rw [h1]; decide)
      simp only [List.map_cons, List.sum_cons, List.length_cons]; omega
  have h1 := hs xs fun x hx => (h.2 x hx).1
  have h2 := okD_len h
  show xs.length + (xs.map Enc.wt).sum ≤ 48
  omega
theorem memo3_size : ∀ t ∈ memo3, t.size ≤ 3 := by
  intro t ht
  simp only [memo3, List.mem_cons, List.not_mem_nil, or_false] at ht
  rcases ht with rfl | rfl | rfl <;> decide
theorem okH_enc {xs : List Version} (h : okH xs) (hl : xs.length ≤ 32) : Enc.ok xs := by
  refine ⟨by simp only [maxLen]; omega, fun x hx => ?_⟩
  obtain ⟨i, hi, rfl⟩ := List.mem_iff_getElem.1 hx
  obtain ⟨h1, h2, h3, h4, h5⟩ := h i hi
  refine ⟨?_, ?_, ?_, okD_enc h5⟩
  · show I64 _
    simp only [I64]; omega
  · show I64 _
    simp only [I64]; omega
  · have := memo3_size _ h4
    show xs[i].memo.size ≤ maxLen
    simp only [maxLen]; omega
theorem okH_wt {xs : List Version} (h : okH xs) : Enc.wt xs ≤ 60 * xs.length := by
  have hs : ∀ ys : List Version, (∀ x ∈ ys, Enc.wt x ≤ 51) → (ys.map Enc.wt).sum ≤ 51 * ys.length := fun ys => by
    induction ys with
    | nil => simp
    | cons y ys ih =>
      intro hy
      have h1 := hy y (by simp)
      have h2 := ih (fun x hx => hy x (by simp [hx]))
      simp only [List.map_cons, List.sum_cons, List.length_cons]; omega
  have h1 := hs xs fun x hx => by
    obtain ⟨i, hi, rfl⟩ := List.mem_iff_getElem.1 hx
    obtain ⟨_, _, _, h4, h5⟩ := h i hi
    have g1 := memo3_size _ h4
    have g2 := okD_wt h5
    show 0 + 0 + xs[i].memo.size + Enc.wt xs[i].state ≤ 51
    omega
  show xs.length + (xs.map Enc.wt).sum ≤ _
  omega

/-! ### nearest common versions -/
theorem find_great {A : List Int} (hA : A.Pairwise (· > ·)) {p : Int → Bool} {x : Int} (h : A.find? p = some x) : ∀ z ∈ A, p z = true → z ≤ x := by
  induction A with
  | nil => cases h
  | cons a A ih =>
    obtain ⟨h1, h2⟩ := List.pairwise_cons.1 hA
    intro z hz hp
    rw [List.find?_cons] at h
    cases ha : p a with
    | true =>
      rw [ha] at h
      simp only [Option.some.injEq] at h
      subst h
      rcases List.mem_cons.1 hz with rfl | hz
      · omega
      · have := h1 z hz; omega
    | false =>
      rw [ha] at h
      rcases List.mem_cons.1 hz with rfl | hz
      · rw [ha] at hp; cases hp
      · exact ih h2 h z hz hp
theorem line_pw {xs : List Version} (hk : okHistory xs = true) : ∀ (f : Nat) (n : Int), n ≤ xs.length → (line xs f n).Pairwise (· > ·) ∧ ∀ z ∈ line xs f n, 1 ≤ z ∧ z ≤ n
  | 0, n, _ => by simp [line]
  | f + 1, n, hn => by
    by_cases h : 0 < n
    · obtain ⟨h1, h2⟩ := up_ok hk (n := n) (by omega) hn
      obtain ⟨g1, g2⟩ := line_pw hk f (up xs n) (by omega)
      rw [line_step h]
      refine ⟨List.pairwise_cons.2 ⟨fun z hz => ?_, g1⟩, fun z hz => ?_⟩
      · have := g2 z hz; show z < n; omega
      · rcases List.mem_cons.1 hz with rfl | hz
        · omega
        · have := g2 z hz; omega
    · rw [line_zero (by omega)]; simp
theorem common_sym {xs : List Version} (hk : okHistory xs = true) {a b : Int} (ha : a ≤ xs.length) (hb : b ≤ xs.length) : common xs a b = common xs b a := by
  obtain ⟨pa, _⟩ := line_pw hk 32 a ha
  obtain ⟨pb, _⟩ := line_pw hk 32 b hb
  unfold common
  generalize line xs 32 a = A at *
  generalize line xs 32 b = B at *
  cases h1 : A.find? (fun x => B.any fun y => x == y) with
  | none =>
    cases h2 : B.find? (fun x => A.any fun y => x == y) with
    | none => rfl
    | some x =>
      have hm := List.mem_of_find?_eq_some h2
      have hp := List.find?_some h2
      obtain ⟨y, hy, e⟩ := List.any_eq_true.1 hp
      have e : x = y := by simpa using e
      subst e
      have := List.find?_eq_none.1 h1 x hy
      exact absurd (List.any_eq_true.2 ⟨x, hm, by simp⟩) this
  | some x =>
    have hm := List.mem_of_find?_eq_some h1
    have hp := List.find?_some h1
    obtain ⟨y, hy, e⟩ := List.any_eq_true.1 hp
    have e : x = y := by simpa using e
    subst e
    cases h2 : B.find? (fun x => A.any fun y => x == y) with
    | none =>
      have := List.find?_eq_none.1 h2 x hy
      exact absurd (List.any_eq_true.2 ⟨x, hm, by simp⟩) this
    | some z =>
      have hm2 := List.mem_of_find?_eq_some h2
      have hp2 := List.find?_some h2
      obtain ⟨y, hy2, e⟩ := List.any_eq_true.1 hp2
      have e : z = y := by simpa using e
      subst e
      have g1 := find_great pb h2 x hy (List.any_eq_true.2 ⟨x, hm, by simp⟩)
      have g2 := find_great pa h1 z hy2 (List.any_eq_true.2 ⟨z, hm2, by simp⟩)
      simp only [Option.getD_some]; omega
theorem common_le {xs : List Version} (hk : okHistory xs = true) {a b : Int} (h1 : 1 ≤ a) (h2 : a ≤ xs.length) (h3 : 1 ≤ b) (h4 : b ≤ xs.length) : 0 ≤ common xs a b ∧ common xs a b ≤ a ∧ common xs a b ≤ b := by
  have g := common_ok hk (b := b) h1 h2
  have k : ∀ c d : Int, 1 ≤ c → c ≤ xs.length → common xs c d ≤ c := fun c d hc hc2 => by
    unfold common
    cases h : (line xs 32 c).find? fun x => (line xs 32 d).any fun y => x == y with
    | none => simp only [Option.getD_none]; omega
    | some x => exact ((line_pw hk 32 c hc2).2 x (List.mem_of_find?_eq_some h)).2
  exact ⟨g.1, k a b h1 h2, by rw [common_sym hk h2 h4]; exact k b a h3 h4⟩
/-- A history with one version more. -/
theorem added_ok {xs : List Version} (hk : okHistory xs = true) {p : Int} (hp : 0 ≤ p) (hp2 : p ≤ xs.length) {memo : ByteArray} (hm : okMemo memo = true) {st : List Setting} (hs : okState st = true) (h0 : (added xs p memo st).2 = 0) :
    (added xs p memo st).1.length = xs.length + 1 ∧ okHistory (added xs p memo st).1 = true := by
  unfold added at h0 ⊢
  split at h0
  · rename_i hl
    rw [if_pos hl]
    refine ⟨by simp, ?_⟩
    simp only [okHistory, Bool.and_eq_true, decide_eq_true_eq]
    refine ⟨allIx_iff.2 fun i hi => ?_, by rw [List.length_append, List.length_cons, List.length_nil]; omega⟩
    rw [List.length_append, List.length_cons, List.length_nil] at hi
    rw [List.getElem_append]
    split
    · rename_i hlt
      exact okHistory_get hk i hlt
    · have hi2 : i = xs.length := by omega
      subst hi2
      simp only [Nat.sub_self, List.getElem_cons_zero, okVersion, Bool.and_eq_true, beq_iff_eq, decide_eq_true_eq]
      exact ⟨trivial, ⟨hp, hp2⟩, hm, hs⟩
  · rename_i hl
    exact absurd h0 (by decide)
end Go.Proofs.Ytjolahiflldepab.Pi
