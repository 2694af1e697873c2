/- Texts as lists of bytes; string builders of this program. No statement of the seat is proved here. -/
import Derived.Test.YtnafogjagbhdbaaDoorPiFBld
import Derived.Test.YtnafogjagbhdbaaDoorPiFDecG
namespace Go.Proofs.YtnafogjagbhdbaaDoor.Pi
open Go
set_option maxRecDepth 10000
set_option maxHeartbeats 3200000
set_option linter.unusedVariables false

def bl (s : ByteArray) : List UInt8 := s.data.toList
theorem bl_inj {a b : ByteArray} (h : bl a = bl b) : a = b := by
  apply ByteArray.ext
  exact Array.toList_inj.1 h
theorem bl_app (a b : ByteArray) : bl (a ++ b) = bl a ++ bl b := by simp [bl, ByteArray.data_append]
theorem bl_size (a : ByteArray) : a.size = (bl a).length := by rw [bl, Array.length_toList]; rfl
theorem bl_mk (l : List UInt8) : bl ⟨l.toArray⟩ = l := by simp [bl]
theorem bl_join (xs : List ByteArray) (sep : ByteArray) : bl (joinB xs sep) = Lib.join (xs.map bl) (bl sep) := by
  rw [joinB, bl_mk]; rfl
theorem bl_toList (s : ByteArray) : s.toList = bl s := ByteArray.toList_eq s
theorem mk_bl (s : ByteArray) : (⟨(bl s).toArray⟩ : ByteArray) = s := bl_inj (bl_mk _)
def es : ByteArray := ⟨#[]⟩
theorem es_app (q : ByteArray) : es ++ q = q := bl_inj (by rw [bl_app]; rfl)
theorem app_es (q : ByteArray) : q ++ es = q := bl_inj (by rw [bl_app]; exact List.append_nil _)
theorem app_assoc (a b c : ByteArray) : a ++ b ++ c = a ++ (b ++ c) := bl_inj (by simp only [bl_app, List.append_assoc])
theorem s_l01DecI (n : Int) (h0 : 0 ≤ n) (h : n ≤ 1000000000000000000) : Sat Tryd.prog 48 [(false, [.int .i64 n])] (.one (.c (.str (itoaB n))), []) := by
  obtain ⟨m, rfl⟩ : ∃ m : Nat, n = m := ⟨n.toNat, by omega⟩
  exact s_l01Dec m (by omega)
theorem s_WriteS (t s r : ByteArray) (hr : t ++ s = r) (h : r.size ≤ 140737488355328) : SatM Tryd.prog 40 [.one (.pb 1000029 0 1), .one (.c (.str s))] [(1000029, .box [.c (.str t)])]
    (.tup [(false, [.c (.int .i64 s.size)]), (false, [.c (.iface true)])], [(1000029, .box [.c (.str r)])]) := by
  subst hr
  have h' := s_WriteStr (ρ := lays156_ren) { lays156 with } Builder_Extra_156 ⟨_, Tryd.func40, rfl, rfl⟩ rfl rfl (bl t) s (by rw [← bl_size, ← ByteArray.size_append]; exact h)
  rw [mk_bl, bl_toList, ← bl_app, mk_bl] at h'
  exact h'
theorem s_StringS (t : ByteArray) : SatM Tryd.prog 41 [.one (.pb 1000029 0 1)] [(1000029, .box [.c (.str t)])] (.one (.c (.str t)), []) := by
  have h' := s_BldStr (ρ := lays156_ren) { lays156 with } Builder_Extra_156 ⟨_, Tryd.func41, rfl, rfl⟩ rfl rfl (bl t)
  rw [mk_bl] at h'
  exact h'
end Go.Proofs.YtnafogjagbhdbaaDoor.Pi
