/- Numbers in decimal and joined texts, by the library. No statement of the seat is proved here. -/
import Derived.Test.YtnafogjagbhdbaaDoorPiEnc
import Derived.Shelf.Strconv.Itoa4
import Derived.Shelf.Strings.OnBuilder
namespace Go.Proofs.YtnafogjagbhdbaaDoor.Pi
open Go Go.RowKit Go.Sort
set_option linter.unusedVariables false

theorem arr2 {α : Type} {xs : Array α} (h : xs.size = 2) : ∃ a b, xs = #[a, b] := by
  obtain ⟨l⟩ := xs
  match l, h with
  | [a, b], _ => exact ⟨a, b, rfl⟩
def itoaB (n : Int) : ByteArray := ⟨(Lib.itoa n).toArray⟩
def joinB (xs : List ByteArray) (sep : ByteArray) : ByteArray := ⟨(Lib.join (xs.map (·.data.toList)) sep.data.toList).toArray⟩
theorem blw_of_below {w w' : World} (h : Below w.heap.size w w') : Blw w w' := ⟨h.os, h.tape, ⟨h.output, fun d => absurd d (by decide)⟩, h.size, h.block⟩
def L00 : Lay := ⟨fun _ => none, fun _ => 0, fun _ _ => False, fun _ _ => undef⟩
theorem back_str {I : Nat → Prop} {w w' : World} (h : Blw w w') (s : ByteArray) : Back I w (.one (.c (.str s)), []) (.string s) w' :=
  ⟨h, L00, fun _ => False, fun _ _ h => h.elim, fun _ h => h.elim, RepC.str s, fun k o h => by simp [find] at h, fun k o b h => by simp [find] at h, fun k k' o o' b h => by simp [find] at h⟩
theorem s_FormatInt {ρ : Go.Shelf.Ren} (Ly : Go.Proofs.LaysM.n173 Tryd.prog ρ) (he : Ent Tryd.prog (ρ.f 173)) (hg : ρ.g 17 = powG) (n : Int) (hn : I64 n) :
    Sat Tryd.prog (ρ.f 173) [(false, [.int .i64 n]), (false, [.int .i64 10])] (.one (.c (.str (itoaB n))), []) := by
  refine ⟨he, fun I w vals hlw hI hsz hargs => ?_⟩
  obtain ⟨v0, v1, rfl⟩ : ∃ a b, vals = #[a, b] := arr2 hsz
  have h0 : RepC I w v0 (.int .i64 n) := hargs 0 _ v0 rfl rfl
  have h1 : RepC I w v1 (.int .i64 10) := hargs 1 _ v1 rfl rfl
  cases h0
  cases h1
  have htab : Lib.TabIs Tryd.prog w "internal/strconv.uint64pow10" .u64 Lib.pow10Tab := by
    obtain ⟨_, _, T, fr, h⟩ := hlw (powG, _) (List.mem_singleton.2 rfl)
    have hm := Ly.m17
    rw [hg] at hm
    simp only [Lib.TabIs, World.var?, hm, Option.bind_some, h]
  refine (Go.Proofs.Any.strconv_FormatInt_10 Ly n hn.1 hn.2 w htab).mono ?_
  rintro e w' ⟨rfl, k, os, rfl⟩
  refine back_str (w := w) (w' := grow (w.drewN k) os) ⟨rfl, rfl, ⟨rfl, fun d => absurd d (by decide)⟩, by simp [grow, World.drewN], fun b hb => ?_⟩ _
  show (w.heap ++ os)[b]? = w.heap[b]?
  exact Array.getElem?_append_left hb
theorem s_Join {ρ : Go.Shelf.Ren} (Ly : Go.Proofs.Lays.n156 Tryd.prog ρ) (X : Go.Proofs.Builder.Extra Tryd.prog ρ) (he : Ent Tryd.prog (ρ.f 156)) (xs : List ByteArray) (sep : ByteArray) (hx : xs.length ≤ 16777216)
    (hl : (Lib.join (xs.map (·.data.toList)) sep.data.toList).length ≤ 140737488355328) :
    Sat Tryd.prog (ρ.f 156) [(false, [.slice 1 (xs.map Enc.enc)]), (false, [.str sep])] (.one (.c (.str (joinB xs sep))), []) := by
  refine ⟨he, fun I w vals hlw hI hsz hargs => ?_⟩
  obtain ⟨v0, v1, rfl⟩ : ∃ a b, vals = #[a, b] := arr2 hsz
  have h0 : RepC I w v0 (.slice 1 (xs.map Enc.enc)) := hargs 0 _ v0 rfl rfl
  have h1 : RepC I w v1 (.str sep) := hargs 1 _ v1 rfl rfl
  cases h1
  have none : ∀ (a : Option Addr) (c : Nat), xs.map (Enc.enc (α := ByteArray)) = [] → v0 = .slice a 0 c → Calls Tryd.prog (ρ.f 156) #[v0, .string sep] w (Post I w (.one (.c (.str (joinB xs sep))), [])) := fun a c hxs hv => by
    subst hv
    have : xs = [] := by simpa using hxs
    subst this
    refine (Go.Proofs.Any.strings_Join_none Ly X a c sep w).mono ?_
    rintro e w' ⟨rfl, rfl⟩
    exact back_str ⟨rfl, rfl, .rfl, Nat.le_refl _, fun _ _ => rfl⟩ _
  generalize hes : xs.map (Enc.enc (α := ByteArray)) = es at h0 none
  cases h0 with
  | nil => exact none Option.none 0 rfl rfl
  | empty a cap => exact none (some a) cap rfl rfl
  | slice b off cap sz n es vs hIb hn hcap hszr hc hr =>
    have hlen : xs.length = n := by rw [← hn, ← hes, List.length_map]
    subst hlen
    have hlen : xs.length = xs.length := rfl
    refine (Go.Proofs.Any.strings_Join Ly X b off cap xs sep w (fun j x hj => ?_) (hI b hIb) (by omega) hcap hl).mono ?_
    · have e1 : es[j]? = some (Enc.enc x) := by rw [← hes, List.getElem?_map, hj]; rfl
      have h1 := hc j (Enc.enc x) 0 (.str x) e1 rfl
      have h2 := hr j (Enc.enc x) 0 (.str x) e1 rfl
      have e2 : vs j 0 = .string x := by
        generalize vs j 0 = v at h2
        cases h2; rfl
      rw [e2] at h1
      simpa using h1
    · rintro e w' ⟨rfl, hw⟩
      exact back_str (blw_of_below hw) _
end Go.Proofs.YtnafogjagbhdbaaDoor.Pi
