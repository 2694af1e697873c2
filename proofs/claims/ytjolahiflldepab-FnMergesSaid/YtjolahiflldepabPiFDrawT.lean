/- Changes and histories that are drawn out of bytes. No statement of the seat is proved here. -/
import Derived.Test.YtjolahiflldepabPiFDrawS
namespace Go.Proofs.Ytjolahiflldepab.Pi
open Go
set_option maxRecDepth 10000
set_option maxHeartbeats 6400000
set_option linter.unusedVariables false

theorem firstIx_lt {α : Type} (p : α → Bool) : ∀ (xs : List α) (k : Nat), firstIx p xs k < (k : Int) + xs.length
  | [], k => by simp [firstIx]; omega
  | x :: xs, k => by
    have ih := firstIx_lt p xs (k + 1)
    simp only [firstIx, List.length_cons]
    split <;> omega
theorem s_l27Changed (code : List UInt8) (s : Src) (xs : List Setting) (hx : okD xs) (h0 : 0 ≤ s.pos) (hb : s.pos ≤ 100000000) (hl : code.length ≤ 1048576) :
    SatM Try.prog 68 [.one (.pb 1000000 0 3), .one (.c (.slice 2 (xs.map Enc.enc)))] [(1000000, .box (srcX code s))] (.one (.rs 0), [(0, .arr 2 ((chS code s xs).2.map Enc.enc)), (1000000, .box (srcX code (chS code s xs).1))]) := by
  have h1 := pickS_pos code s 4
  have h2 := pickS_lt code s 4 (by omega)
  have hxl := okD_len hx
  have hpk := s_pick code s 4 h0 (by omega) hl
  have hT : chN code (pickS code s 4).1.toNat ((pickS code s 4).2, xs) = chS code s xs := rfl
  generalize pickS code s 4 = a at h1 h2 hpk hT
  obtain ⟨av, sa⟩ := a
  obtain ⟨n, rfl⟩ : ∃ n : Nat, av = n := ⟨av.toNat, by simp only at h2; omega⟩
  simp only [Int.toNat_natCast] at hT h1 h2
  refine SatM.intro tok mixed Try.func68 rfl rfl ?_
  ((conv => whnf); repeat ((first | refine B0 ?_ | refine B1 ?_ | refine D1 ?_ | refine D2 ?_ | refine CallC.r ?_); conv => whnf))
  refine Side.mk (by simp only [List.length_map, List.length_nil]; omega) ?_
  ((conv => whnf); repeat ((first | refine B0 ?_ | refine B1 ?_ | refine D1 ?_ | refine D2 ?_); conv => whnf))
  refine CallC.x ?_
  ((conv => whnf); repeat ((first | refine B0 ?_ | refine B1 ?_ | refine D1 ?_ | refine D2 ?_ | refine CallC.r ?_); conv => whnf))
  refine Pick.mk _ hpk ?_
  ((conv => whnf); repeat ((first | refine B0 ?_ | refine B1 ?_ | refine D1 ?_ | refine D2 ?_ | refine CallC.r ?_); conv => whnf))
  refine Pick.mk [0, 5, 6, 7, 1000384] trivial ?_
  ((conv => whnf); repeat ((first | refine B0 ?_ | refine B1 ?_ | refine D1 ?_ | refine D2 ?_ | refine CallC.r ?_); conv => whnf))
  refine LoopL.over (fun (x : Nat × Src × List Setting) => [(7, .one (.c (.int .i64 ((x.1 : Int)))))]) (fun (x : Nat × Src × List Setting) => [(320, .arr 2 (List.map Enc.enc (x.2.2))), (1000000, Ob.box (srcX code x.2.1))]) (fun (x : Nat × Src × List Setting) => x.1) (fun (x : Nat × Src × List Setting) => x.1 ≤ 3 ∧ okD x.2.2 ∧ 0 ≤ x.2.1.pos ∧ x.2.1.pos ≤ s.pos + 50 - 8 * x.1 ∧ chN code x.1 x.2 = chS code s xs) ?_ (n, sa, xs) ⟨by simp only; omega, hx, by simp only; omega, by simp only; omega, hT⟩
  intro x ⟨g1, g2, g3, g4, g5⟩ ih
  obtain ⟨n, p, ys⟩ := x
  simp only at g1 g2 g3 g4 g5
  have hyl := okD_len g2
  ((conv => whnf); repeat ((first | refine B0 ?_ | refine B1 ?_ | refine D1 ?_ | refine D2 ?_); conv => whnf))
  refine Br.mk (fun h => ?_) (fun h => ?_) <;> ((conv => whnf); repeat ((first | refine B0 ?_ | refine B1 ?_ | refine D1 ?_ | refine D2 ?_); conv => whnf))
  · have h : 0 < n := by simp only [decide_eq_true_eq] at h; omega
    obtain ⟨m, rfl⟩ : ∃ m, n = m + 1 := ⟨n - 1, by omega⟩
    have hst := chStep_ok code (p := (p, ys)) g2
    have hn := ih (m, chStep code (p, ys)) ⟨by simp only; omega, hst.1, by simp only at hst ⊢; omega, by simp only at hst ⊢; omega, g5⟩ (by simp only; omega)
    clear ih g5 hT
    have a1 := pickS_pos code p 6
    have a2 := nmAt_mem code p
    have a3 := pickS_lt code p 6 (by omega)
    simp only [chStep] at hn
    refine CallC.x ?_
    ((conv => whnf); repeat ((first | refine B0 ?_ | refine B1 ?_ | refine D1 ?_ | refine D2 ?_ | refine CallC.r ?_); conv => whnf))
    refine Pick.mk _ (s_pick code p 6 g3 (by omega) hl) ?_
    ((conv => whnf); repeat ((first | refine B0 ?_ | refine B1 ?_ | refine D1 ?_ | refine D2 ?_ | refine CallC.r ?_); conv => whnf))
    have hrow : 0 ≤ (pickS code p 6).1 ∧ (nm6.map Enc.enc)[(pickS code p 6).1.toNat]? = some (Enc.enc (nmAt (pickS code p 6).1)) := ⟨by omega, by
      have hk : (pickS code p 6).1.toNat < nm6.length := by show _ < 6; omega
      rw [List.getElem?_map, List.getElem?_eq_getElem hk]; simp [nmAt, List.getD, List.getElem?_eq_getElem hk]⟩
    generalize pickS code p 6 = a at *
    obtain ⟨av, sa⟩ := a
    simp only at a1 a2 a3 hrow hn
    refine Pick.mk (Enc.enc (nmAt av)) hrow ?_
    ((conv => whnf); repeat ((first | refine B0 ?_ | refine B1 ?_ | refine D1 ?_ | refine D2 ?_ | refine CallC.r ?_); conv => whnf))
    refine Pick.mk _ (s_l27At ys (nmAt av) (by omega)) ?_
    ((conv => whnf); repeat ((first | refine B0 ?_ | refine B1 ?_ | refine D1 ?_ | refine D2 ?_ | refine CallC.r ?_); conv => whnf))
    have hat : atName Setting.name ys (nmAt av) < (0 : Nat) + ys.length := firstIx_lt _ ys 0
    generalize atName Setting.name ys (nmAt av) = at_ at *
    refine Br.mk (fun hg => ?_) (fun hg => ?_) <;> ((conv => whnf); repeat ((first | refine B0 ?_ | refine B1 ?_ | refine D1 ?_ | refine D2 ?_); conv => whnf))
    · have hg : 0 ≤ at_ := by simpa using hg
      rw [if_pos hg] at hn
      have b1 := pickS_pos code sa 2
      refine CallC.x ?_
      ((conv => whnf); repeat ((first | refine B0 ?_ | refine B1 ?_ | refine D1 ?_ | refine D2 ?_ | refine CallC.r ?_); conv => whnf))
      refine Pick.mk _ (s_one code sa 2 (by omega) (by omega) hl) ?_
      ((conv => whnf); repeat ((first | refine B0 ?_ | refine B1 ?_ | refine D1 ?_ | refine D2 ?_ | refine CallC.r ?_); conv => whnf))
      refine Br.mk (fun h3 => ?_) (fun h3 => ?_) <;> ((conv => whnf); repeat ((first | refine B0 ?_ | refine B1 ?_ | refine D1 ?_ | refine D2 ?_); conv => whnf))
      · have h3 : (pickS code sa 2).1 = 0 := by simpa using h3
        rw [if_pos h3] at hn
        refine Side.mk (by simp only [List.length_map]; omega) ?_
        ((conv => whnf); repeat ((first | refine B0 ?_ | refine B1 ?_ | refine D1 ?_ | refine D2 ?_ | refine CallC.r ?_); conv => whnf))
        refine Side.mk (by simp only [List.length_map, List.length_take, List.length_drop, List.length_nil]; omega) ?_
        ((conv => whnf); repeat ((first | refine B0 ?_ | refine B1 ?_ | refine D1 ?_ | refine D2 ?_ | refine CallC.r ?_); conv => whnf))
        refine Pick.at64 (z := at_ + 1) rfl (by omega) ?_
        ((conv => whnf); repeat ((first | refine B0 ?_ | refine B1 ?_ | refine D1 ?_ | refine D2 ?_ | refine CallC.r ?_); conv => whnf))
        refine Side.mk (by simp only [List.length_map]; omega) ?_
        ((conv => whnf); repeat ((first | refine B0 ?_ | refine B1 ?_ | refine D1 ?_ | refine D2 ?_ | refine CallC.r ?_); conv => whnf))
        refine Side.mk (by simp only [List.length_map, List.length_take, List.length_drop, List.length_nil, List.length_append]; omega) ?_
        ((conv => whnf); repeat ((first | refine B0 ?_ | refine B1 ?_ | refine D1 ?_ | refine D2 ?_ | refine CallC.r ?_); conv => whnf))
        refine Pick.at64 (z := (m : Int)) (by simp only; omega) (by omega) ?_
        ((conv => whnf); repeat ((first | refine B0 ?_ | refine B1 ?_ | refine D1 ?_ | refine D2 ?_ | refine CallC.r ?_); conv => whnf))
        have e : ∀ l : List (List CV), l.take at_.toNat ++ l.drop (at_.toNat + 1) = [] ++ List.take (at_.toNat - 0) (List.drop 0 l) ++ List.take (l.length - (at_ + 1).toNat) (List.drop (at_ + 1).toNat l) := fun l => by
          rw [show (at_ + 1).toNat = at_.toNat + 1 by omega, List.take_of_length_le (l := List.drop (at_.toNat + 1) l) (by rw [List.length_drop]; omega)]; rfl
        rw [List.map_append, List.map_take, List.map_drop, e] at hn
        exact hn
      · have h3 : ¬ (pickS code sa 2).1 = 0 := by simpa using h3
        rw [if_neg h3] at hn
        refine CallC.x ?_
        ((conv => whnf); repeat ((first | refine B0 ?_ | refine B1 ?_ | refine D1 ?_ | refine D2 ?_ | refine CallC.r ?_); conv => whnf))
        refine Pick.mk _ (s_pick code (pickS code sa 2).2 1001 (by omega) (by omega) hl) ?_
        ((conv => whnf); repeat ((first | refine B0 ?_ | refine B1 ?_ | refine D1 ?_ | refine D2 ?_ | refine CallC.r ?_); conv => whnf))
        refine Pick.mk _ (s_l27Set ys ⟨nmAt av, (pickS code (pickS code sa 2).2 1001).1⟩ (by omega)) ?_
        ((conv => whnf); repeat ((first | refine B0 ?_ | refine B1 ?_ | refine D1 ?_ | refine D2 ?_ | refine CallC.r ?_); conv => whnf))
        refine Pick.at64 (z := (m : Int)) (by simp only; omega) (by omega) ?_
        ((conv => whnf); repeat ((first | refine B0 ?_ | refine B1 ?_ | refine D1 ?_ | refine D2 ?_ | refine CallC.r ?_); conv => whnf))
        exact hn
    · have hg : ¬ 0 ≤ at_ := by simpa using hg
      rw [if_neg hg, if_neg (show ¬ (1 : Int) = 0 by decide)] at hn
      refine CallC.x ?_
      ((conv => whnf); repeat ((first | refine B0 ?_ | refine B1 ?_ | refine D1 ?_ | refine D2 ?_ | refine CallC.r ?_); conv => whnf))
      refine Pick.mk _ (s_pick code sa 1001 (by omega) (by omega) hl) ?_
      ((conv => whnf); repeat ((first | refine B0 ?_ | refine B1 ?_ | refine D1 ?_ | refine D2 ?_ | refine CallC.r ?_); conv => whnf))
      refine Pick.mk _ (s_l27Set ys ⟨nmAt av, (pickS code sa 1001).1⟩ (by omega)) ?_
      ((conv => whnf); repeat ((first | refine B0 ?_ | refine B1 ?_ | refine D1 ?_ | refine D2 ?_ | refine CallC.r ?_); conv => whnf))
      refine Pick.at64 (z := (m : Int)) (by simp only; omega) (by omega) ?_
      ((conv => whnf); repeat ((first | refine B0 ?_ | refine B1 ?_ | refine D1 ?_ | refine D2 ?_ | refine CallC.r ?_); conv => whnf))
      exact hn
  · have h : n = 0 := by simp only [decide_eq_false_iff_not] at h; omega
    subst h
    rw [← g5]
    exact rfl
theorem s_textO (code : List UInt8) (s : Src) (xs : List ByteArray) (h0 : 0 ≤ s.pos) (hb : s.pos ≤ 900000000) (hl : code.length ≤ 1048576) (hx : 1 ≤ xs.length) (hx2 : xs.length ≤ 1000000) :
    SatM Try.prog 111 [.one (.pb 1000000 0 3), .one (.rs 1000064)] [(1000000, .box (srcX code s)), (1000064, .arr 1 (xs.map Enc.enc))] (.one (.c (.str (xs.getD (pickS code s xs.length).1.toNat ⟨#[]⟩))), [(1000000, .box (srcX code (pickS code s xs.length).2)), (1000064, .arr 1 (xs.map Enc.enc))]) := by
  have hp := pickS_lt code s xs.length (by omega)
  have hk : (pickS code s xs.length).1.toNat < xs.length := by omega
  have hlen : (xs.map (Enc.enc (α := ByteArray))).length = xs.length := by simp
  refine SatM.intro tok mixed Try.func111 rfl rfl ?_
  ((conv => whnf); repeat ((first | refine B0 ?_ | refine B1 ?_ | refine D1 ?_ | refine D2 ?_); conv => whnf))
  refine CallC.x ?_
  ((conv => whnf); repeat ((first | refine B0 ?_ | refine B1 ?_ | refine D1 ?_ | refine D2 ?_ | refine CallC.r ?_); conv => whnf))
  rw [hlen]
  refine Pick.mk _ (s_pick code s xs.length h0 hb hl) ?_
  ((conv => whnf); repeat ((first | refine B0 ?_ | refine B1 ?_ | refine D1 ?_ | refine D2 ?_ | refine CallC.r ?_); conv => whnf))
  refine Side.mk (by rw [hlen]; omega) ?_
  ((conv => whnf); repeat ((first | refine B0 ?_ | refine B1 ?_ | refine D1 ?_ | refine D2 ?_ | refine CallC.r ?_); conv => whnf))
  refine Pick.mk (Enc.enc xs[(pickS code s xs.length).1.toNat]) (by rw [List.getElem?_map, List.getElem?_eq_getElem hk]; rfl) ?_
  ((conv => whnf); repeat ((first | refine B0 ?_ | refine B1 ?_ | refine D1 ?_ | refine D2 ?_ | refine CallC.r ?_); conv => whnf))
  have e : xs.getD (pickS code s xs.length).1.toNat ⟨#[]⟩ = xs[(pickS code s xs.length).1.toNat] := by simp [List.getD, List.getElem?_eq_getElem hk]
  rw [e]; exact rfl
theorem s_l27Draw (code : List UInt8) (s : Src) (h0 : 0 ≤ s.pos) (hb : s.pos ≤ 10000000) (hl : code.length ≤ 1048576) :
    SatM Try.prog 70 [.one (.pb 1000000 0 3)] [(1000000, .box (srcX code s))] (.one (.rs 0), [(0, .arr 4 ((hiS code s).2.map Enc.enc)), (1000000, .box (srcX code (hiS code s).1))]) := by
  have h1 := pickS_pos code s 6
  have h2 := pickS_lt code s 6 (by omega)
  have hpk := s_pick code s 6 h0 (by omega) hl
  have hT : hiN code (pickS code s 6).1.toNat ((pickS code s 6).2, []) = hiS code s := rfl
  generalize pickS code s 6 = a at h1 h2 hpk hT
  obtain ⟨av, sa⟩ := a
  obtain ⟨n, rfl⟩ : ∃ n : Nat, av = n := ⟨av.toNat, by simp only at h2; omega⟩
  simp only [Int.toNat_natCast] at hT h1 h2
  refine SatM.intro tok mixed Try.func70 rfl rfl ?_
  ((conv => whnf); repeat ((first | refine B0 ?_ | refine B1 ?_ | refine D1 ?_ | refine D2 ?_); conv => whnf))
  refine CallC.x ?_
  ((conv => whnf); repeat ((first | refine B0 ?_ | refine B1 ?_ | refine D1 ?_ | refine D2 ?_ | refine CallC.r ?_); conv => whnf))
  refine Pick.mk _ hpk ?_
  ((conv => whnf); repeat ((first | refine B0 ?_ | refine B1 ?_ | refine D1 ?_ | refine D2 ?_ | refine CallC.r ?_); conv => whnf))
  refine Pick.mk [0, 3, 4] trivial ?_
  ((conv => whnf); repeat ((first | refine B0 ?_ | refine B1 ?_ | refine D1 ?_ | refine D2 ?_ | refine CallC.r ?_); conv => whnf))
  refine LoopL.over (fun (x : Nat × Src × List Version) => [(4, .one (.c (.int .i64 ((x.1 : Int)))))]) (fun (x : Nat × Src × List Version) => [(192, .arr 4 (List.map Enc.enc (x.2.2))), (1000000, Ob.box (srcX code x.2.1))]) (fun (x : Nat × Src × List Version) => x.1) (fun (x : Nat × Src × List Version) => x.1 ≤ 5 ∧ okH x.2.2 ∧ x.2.2.length + x.1 ≤ 5 ∧ 0 ≤ x.2.1.pos ∧ x.2.1.pos ≤ s.pos + 400 - 60 * x.1 ∧ hiN code x.1 x.2 = hiS code s) ?_ (n, sa, []) ⟨by simp only; omega, (fun i hi => by simp at hi), by simp only [List.length_nil]; omega, by simp only; omega, by simp only; omega, hT⟩
  intro x ⟨g1, g2, g6, g3, g4, g5⟩ ih
  obtain ⟨n, p, ys⟩ := x
  simp only at g1 g2 g3 g4 g5 g6
  ((conv => whnf); repeat ((first | refine B0 ?_ | refine B1 ?_ | refine D1 ?_ | refine D2 ?_); conv => whnf))
  refine Br.mk (fun h => ?_) (fun h => ?_) <;> ((conv => whnf); repeat ((first | refine B0 ?_ | refine B1 ?_ | refine D1 ?_ | refine D2 ?_); conv => whnf))
  · have h : 0 < n := by simp only [decide_eq_true_eq] at h; omega
    obtain ⟨m, rfl⟩ : ∃ m, n = m + 1 := ⟨n - 1, by omega⟩
    have hst := hiStep_ok code (p := (p, ys)) g2
    have hn := ih (m, hiStep code (p, ys)) ⟨by simp only; omega, hst.1, by simp only at hst ⊢; omega, by simp only at hst ⊢; omega, by simp only at hst ⊢; omega, g5⟩ (by simp only; omega)
    clear ih g5 hT
    refine Pick.at64 (z := (ys.length : Int) + 1) (by simp only [List.length_map]) (by omega) ?_
    ((conv => whnf); repeat ((first | refine B0 ?_ | refine B1 ?_ | refine D1 ?_ | refine D2 ?_); conv => whnf))
    have a1 := pickS_pos code p (ys.length + 1)
    have a3 := pickS_lt code p (ys.length + 1) (by omega)
    simp only [hiStep] at hn
    refine CallC.x ?_
    ((conv => whnf); repeat ((first | refine B0 ?_ | refine B1 ?_ | refine D1 ?_ | refine D2 ?_ | refine CallC.r ?_); conv => whnf))
    refine Pick.mk _ (s_pick code p (ys.length + 1) g3 (by omega) hl) ?_
    ((conv => whnf); repeat ((first | refine B0 ?_ | refine B1 ?_ | refine D1 ?_ | refine D2 ?_); conv => whnf))
    generalize pickS code p (ys.length + 1) = a at *
    obtain ⟨av, sa⟩ := a
    simp only at a1 a3 hn
    refine CallC.x ?_
    ((conv => whnf); repeat ((first | refine B0 ?_ | refine B1 ?_ | refine D1 ?_ | refine D2 ?_ | refine CallC.r ?_); conv => whnf))
    refine Pick.mk _ (s_l27DrawState code sa (by omega) (by omega) hl) ?_
    ((conv => whnf); repeat ((first | refine B0 ?_ | refine B1 ?_ | refine D1 ?_ | refine D2 ?_ | refine CallC.r ?_); conv => whnf))
    have hd : sa.pos ≤ (drawSt code sa).1.pos ∧ (drawSt code sa).1.pos ≤ sa.pos + 20 := by
      have := dsUp_pos code sa 5
      simp only [drawSt]; omega
    have hd2 := drawSt_ok code sa
    generalize drawSt code sa = d at *
    refine Br.mk (fun hp => ?_) (fun hp => ?_) <;> ((conv => whnf); repeat ((first | refine B0 ?_ | refine B1 ?_ | refine D1 ?_ | refine D2 ?_); conv => whnf))
    · have hp : 0 < av := by simpa using hp
      rw [if_pos hp] at hn
      have hlt : (av - 1).toNat < ys.length := by omega
      have hsv : stV ys av = ys[(av - 1).toNat].state := by
        unfold stV
        rw [if_neg (by omega), List.getElem?_eq_getElem hlt]
      have hc := chS_ok code d.1 (stV_okD g2 av)
      refine Pick.at64 (z := av - 1) rfl (by omega) ?_
      ((conv => whnf); repeat ((first | refine B0 ?_ | refine B1 ?_ | refine D1 ?_ | refine D2 ?_ | refine CallC.r ?_); conv => whnf))
      refine Side.mk (by simp only [List.length_map]; omega) ?_
      ((conv => whnf); repeat ((first | refine B0 ?_ | refine B1 ?_ | refine D1 ?_ | refine D2 ?_ | refine CallC.r ?_); conv => whnf))
      refine Pick.mk (Enc.enc ys[(av - 1).toNat]) (by rw [List.getElem?_map, List.getElem?_eq_getElem hlt]; rfl) ?_
      ((conv => whnf); repeat ((first | refine B0 ?_ | refine B1 ?_ | refine D1 ?_ | refine D2 ?_); conv => whnf))
      refine CallC.x ?_
      ((conv => whnf); repeat ((first | refine B0 ?_ | refine B1 ?_ | refine D1 ?_ | refine D2 ?_ | refine CallC.r ?_); conv => whnf))
      refine Pick.mk _ (s_l27Changed code d.1 ys[(av - 1).toNat].state (by rw [← hsv]; exact stV_okD g2 av) (by omega) (by omega) hl) ?_
      ((conv => whnf); repeat ((first | refine B0 ?_ | refine B1 ?_ | refine D1 ?_ | refine D2 ?_ | refine CallC.r ?_); conv => whnf))
      rw [← hsv]
      generalize chS code d.1 (stV ys av) = c at *
      refine Pick.at64 (z := (ys.length : Int) + 1) (by simp only [List.length_map]) (by omega) ?_
      ((conv => whnf); repeat ((first | refine B0 ?_ | refine B1 ?_ | refine D1 ?_ | refine D2 ?_); conv => whnf))
      refine CallC.x ?_
      ((conv => whnf); repeat ((first | refine B0 ?_ | refine B1 ?_ | refine D1 ?_ | refine D2 ?_ | refine CallC.r ?_); conv => whnf))
      refine Pick.mk _ (s_textO code c.1 memo3 (by omega) (by omega) hl (by decide) (by decide)) ?_
      ((conv => whnf); repeat ((first | refine B0 ?_ | refine B1 ?_ | refine D1 ?_ | refine D2 ?_ | refine CallC.r ?_); conv => whnf))
      refine Side.mk rfl ?_
      ((conv => whnf); repeat ((first | refine B0 ?_ | refine B1 ?_ | refine D1 ?_ | refine D2 ?_ | refine CallC.r ?_); conv => whnf))
      refine Pick.mk (some false) trivial ?_
      ((conv => whnf); repeat ((first | refine B0 ?_ | refine B1 ?_ | refine D1 ?_ | refine D2 ?_ | refine CallC.r ?_); conv => whnf))
      refine Side.mk (by simp only [List.length_map, List.length_cons, List.length_nil]; omega) ?_
      ((conv => whnf); repeat ((first | refine B0 ?_ | refine B1 ?_ | refine D1 ?_ | refine D2 ?_ | refine CallC.r ?_); conv => whnf))
      refine Pick.at64 (z := (m : Int)) (by simp only; omega) (by omega) ?_
      ((conv => whnf); repeat ((first | refine B0 ?_ | refine B1 ?_ | refine D1 ?_ | refine D2 ?_ | refine CallC.r ?_); conv => whnf))
      rw [List.map_append] at hn
      exact hn
    · have hp : ¬ 0 < av := by simpa using hp
      rw [if_neg hp] at hn
      obtain ⟨c, hcd⟩ : ∃ c, c = d := ⟨d, rfl⟩
      rw [← hcd] at hd hd2 hn ⊢
      refine Pick.at64 (z := (ys.length : Int) + 1) (by simp only [List.length_map]) (by omega) ?_
      ((conv => whnf); repeat ((first | refine B0 ?_ | refine B1 ?_ | refine D1 ?_ | refine D2 ?_); conv => whnf))
      refine CallC.x ?_
      ((conv => whnf); repeat ((first | refine B0 ?_ | refine B1 ?_ | refine D1 ?_ | refine D2 ?_ | refine CallC.r ?_); conv => whnf))
      refine Pick.mk _ (s_textO code c.1 memo3 (by omega) (by omega) hl (by decide) (by decide)) ?_
      ((conv => whnf); repeat ((first | refine B0 ?_ | refine B1 ?_ | refine D1 ?_ | refine D2 ?_ | refine CallC.r ?_); conv => whnf))
      refine Side.mk rfl ?_
      ((conv => whnf); repeat ((first | refine B0 ?_ | refine B1 ?_ | refine D1 ?_ | refine D2 ?_ | refine CallC.r ?_); conv => whnf))
      refine Pick.mk (some false) trivial ?_
      ((conv => whnf); repeat ((first | refine B0 ?_ | refine B1 ?_ | refine D1 ?_ | refine D2 ?_ | refine CallC.r ?_); conv => whnf))
      refine Side.mk (by simp only [List.length_map, List.length_cons, List.length_nil]; omega) ?_
      ((conv => whnf); repeat ((first | refine B0 ?_ | refine B1 ?_ | refine D1 ?_ | refine D2 ?_ | refine CallC.r ?_); conv => whnf))
      refine Pick.at64 (z := (m : Int)) (by simp only; omega) (by omega) ?_
      ((conv => whnf); repeat ((first | refine B0 ?_ | refine B1 ?_ | refine D1 ?_ | refine D2 ?_ | refine CallC.r ?_); conv => whnf))
      rw [List.map_append] at hn
      exact hn
  · have h : n = 0 := by simp only [decide_eq_false_iff_not] at h; omega
    subst h
    rw [← g5]
    exact rfl
theorem s_R8State (code : List UInt8) (hl : code.length ≤ 1048576) : Sat Try.prog 28 [(false, Enc.enc code)] (.one (.c (.slice 2 ((drawSt code ⟨0, 0⟩).2.map Enc.enc))), []) := by
  refine Sat.intro tok mixed Try.func28 rfl rfl ?_
  ((conv => whnf); repeat ((first | refine B0 ?_ | refine B1 ?_ | refine D1 ?_ | refine D2 ?_); conv => whnf))
  refine CallC.x ?_
  ((conv => whnf); repeat ((first | refine B0 ?_ | refine B1 ?_ | refine D1 ?_ | refine D2 ?_ | refine CallC.r ?_); conv => whnf))
  refine Pick.mk _ (s_l00From code) ?_
  ((conv => whnf); repeat ((first | refine B0 ?_ | refine B1 ?_ | refine D1 ?_ | refine D2 ?_); conv => whnf))
  refine CallC.x ?_
  ((conv => whnf); repeat ((first | refine B0 ?_ | refine B1 ?_ | refine D1 ?_ | refine D2 ?_ | refine CallC.r ?_); conv => whnf))
  refine Pick.mk _ (s_l27DrawState code ⟨0, 0⟩ (by decide) (by decide) hl) ?_
  ((conv => whnf); repeat ((first | refine B0 ?_ | refine B1 ?_ | refine D1 ?_ | refine D2 ?_ | refine CallC.r ?_); conv => whnf))
  exact ResOK.frz rfl rfl
theorem s_R8Changed (code : List UInt8) (xs : List Setting) (hx : okD xs) (hl : code.length ≤ 1048576) : Sat Try.prog 29 [(false, Enc.enc code), (false, Enc.enc xs)] (.one (.c (.slice 2 ((chS code ⟨0, 0⟩ xs).2.map Enc.enc))), []) := by
  refine Sat.intro tok mixed Try.func29 rfl rfl ?_
  ((conv => whnf); repeat ((first | refine B0 ?_ | refine B1 ?_ | refine D1 ?_ | refine D2 ?_); conv => whnf))
  refine CallC.x ?_
  ((conv => whnf); repeat ((first | refine B0 ?_ | refine B1 ?_ | refine D1 ?_ | refine D2 ?_ | refine CallC.r ?_); conv => whnf))
  refine Pick.mk _ (s_l00From code) ?_
  ((conv => whnf); repeat ((first | refine B0 ?_ | refine B1 ?_ | refine D1 ?_ | refine D2 ?_); conv => whnf))
  refine CallC.x ?_
  ((conv => whnf); repeat ((first | refine B0 ?_ | refine B1 ?_ | refine D1 ?_ | refine D2 ?_ | refine CallC.r ?_); conv => whnf))
  refine Pick.mk _ (s_l27Changed code ⟨0, 0⟩ xs hx (by decide) (by decide) hl) ?_
  ((conv => whnf); repeat ((first | refine B0 ?_ | refine B1 ?_ | refine D1 ?_ | refine D2 ?_ | refine CallC.r ?_); conv => whnf))
  exact ResOK.frz rfl rfl
theorem s_R8History (code : List UInt8) (hl : code.length ≤ 1048576) : Sat Try.prog 32 [(false, Enc.enc code)] (.one (.c (.slice 4 ((hiS code ⟨0, 0⟩).2.map Enc.enc))), []) := by
  refine Sat.intro tok mixed Try.func32 rfl rfl ?_
  ((conv => whnf); repeat ((first | refine B0 ?_ | refine B1 ?_ | refine D1 ?_ | refine D2 ?_); conv => whnf))
  refine CallC.x ?_
  ((conv => whnf); repeat ((first | refine B0 ?_ | refine B1 ?_ | refine D1 ?_ | refine D2 ?_ | refine CallC.r ?_); conv => whnf))
  refine Pick.mk _ (s_l00From code) ?_
  ((conv => whnf); repeat ((first | refine B0 ?_ | refine B1 ?_ | refine D1 ?_ | refine D2 ?_); conv => whnf))
  refine CallC.x ?_
  ((conv => whnf); repeat ((first | refine B0 ?_ | refine B1 ?_ | refine D1 ?_ | refine D2 ?_ | refine CallC.r ?_); conv => whnf))
  refine Pick.mk _ (s_l27Draw code ⟨0, 0⟩ (by decide) (by decide) hl) ?_
  ((conv => whnf); repeat ((first | refine B0 ?_ | refine B1 ?_ | refine D1 ?_ | refine D2 ?_ | refine CallC.r ?_); conv => whnf))
  exact ResOK.frz rfl rfl
def atB (code : List UInt8) (k n : Int) : Int := if n ≤ 1 then 0 else if k ≥ code.length then 0 else (byteAt code k).tmod n
theorem atB_lt (code : List UInt8) (k n : Int) (hn : 1 ≤ n) : 0 ≤ atB code k n ∧ atB code k n < n := by
  have h := byteAt_lt code k
  unfold atB
  split
  · omega
  · split
    · omega
    · rw [Int.tmod_eq_emod_of_nonneg h.1]
      exact ⟨Int.emod_nonneg _ (by omega), Int.emod_lt_of_pos _ (by omega)⟩
theorem s_r8At (code : List UInt8) (k n : Int) (hk : 0 ≤ k) : Sat Try.prog 33 [(false, Enc.enc code), (false, [.int .i64 k]), (false, [.int .i64 n])] (.one (.c (.int .i64 (atB code k n))), []) := by
  refine Sat.intro tok mixed Try.func33 rfl rfl ?_
  ((conv => whnf); repeat ((first | refine B0 ?_ | refine B1 ?_ | refine D1 ?_ | refine D2 ?_ | refine CallC.r ?_); conv => whnf))
  refine Br.mk (fun h => ?_) (fun h => ?_) <;> ((conv => whnf); repeat ((first | refine B0 ?_ | refine B1 ?_ | refine D1 ?_ | refine D2 ?_ | refine CallC.r ?_); conv => whnf))
  · have h : n ≤ 1 := by simpa using h
    exact ResOK.same (by rw [atB, if_pos h])
  have h : ¬ n ≤ 1 := by simpa using h
  refine Br.mk (fun h2 => ?_) (fun h2 => ?_) <;> ((conv => whnf); repeat ((first | refine B0 ?_ | refine B1 ?_ | refine D1 ?_ | refine D2 ?_ | refine CallC.r ?_); conv => whnf))
  · have h2 : k ≥ code.length := by simpa using h2
    exact ResOK.same (by rw [atB, if_neg h, if_pos h2])
  have h2 : ¬ k ≥ code.length := by simpa using h2
  have hlt : k.toNat < code.length := by omega
  have hbv : byteAt code k = (code[k.toNat].toNat : Int) := by unfold byteAt; rw [List.getElem?_eq_getElem hlt]
  have hwf := byteAt_lt code k
  refine Pick.mk (Enc.enc code[k.toNat]) ⟨hk, by rw [List.getElem?_map, List.getElem?_eq_getElem hlt]; rfl⟩ ?_
  ((conv => whnf); repeat ((first | refine B0 ?_ | refine B1 ?_ | refine D1 ?_ | refine D2 ?_ | refine CallC.r ?_); conv => whnf))
  refine Pick.at64 (z := byteAt code k) hbv.symm (by omega) ?_
  ((conv => whnf); repeat ((first | refine B0 ?_ | refine B1 ?_ | refine D1 ?_ | refine D2 ?_ | refine CallC.r ?_); conv => whnf))
  refine Side.mk (by omega) ?_
  ((conv => whnf); repeat ((first | refine B0 ?_ | refine B1 ?_ | refine D1 ?_ | refine D2 ?_ | refine CallC.r ?_); conv => whnf))
  exact ResOK.same (by rw [atB, if_neg h, if_neg h2])
theorem s_r8Long (code more : List UInt8) : Sat Try.prog 27 [(false, Enc.enc code), (false, Enc.enc more)] (.one (.c (.bool (decide (1048576 < code.length ∨ 1048576 < more.length)))), []) := by
  refine Sat.intro tok mixed Try.func27 rfl rfl ?_
  ((conv => whnf); repeat ((first | refine B0 ?_ | refine B1 ?_ | refine D1 ?_ | refine D2 ?_ | refine CallC.r ?_); conv => whnf))
  refine Br.mk (fun h => ?_) (fun h => ?_) <;> ((conv => whnf); repeat ((first | refine B0 ?_ | refine B1 ?_ | refine D1 ?_ | refine D2 ?_ | refine CallC.r ?_); conv => whnf))
  · have h : 1048576 < code.length := by simp only [List.length_map, decide_eq_true_eq] at h; omega
    exact ResOK.same (by rw [decide_eq_true (Or.inl h)])
  have h : ¬ 1048576 < code.length := by simp only [List.length_map, decide_eq_false_iff_not] at h; omega
  exact ResOK.same (by
    have e : ((1048576 < code.length ∨ 1048576 < more.length)) = (1048576 < more.length) := by simp [h]
    simp only [e, List.length_map]
    simp; omega)
end Go.Proofs.Ytjolahiflldepab.Pi
