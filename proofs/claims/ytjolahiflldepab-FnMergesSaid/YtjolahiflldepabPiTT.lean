/- The table of the types, as the program has them. -/
import Derived.Test.YtjolahiflldepabPiA
namespace Go.Proofs.Ytjolahiflldepab.Pi
open Go
def tid : TI := { size := 0, bytes := 0, agg := false, slice := none, elem := 0, ez := [], fields := [], ftypes := [], zero := [], eq := none, ik := none, str := false, u8 := false, iface := false, bool := false }
def ti2 : TI := { size := 1, bytes := 8, agg := false, slice := none, elem := 0, ez := [], fields := [], ftypes := [], zero := [.c (.int .i64 0)], eq := some [.int .i64], ik := some .i64, str := false, u8 := false, iface := false, bool := false } -- int64
def ti3 : TI := { size := 1, bytes := 8, agg := false, slice := none, elem := 0, ez := [], fields := [], ftypes := [], zero := [.c (.int .i64 0)], eq := some [.int .i64], ik := some .i64, str := false, u8 := false, iface := false, bool := false } -- int
def ti4 : TI := { size := 1, bytes := 1, agg := false, slice := none, elem := 0, ez := [], fields := [], ftypes := [], zero := [.c (.bool false)], eq := some [.bool], ik := none, str := false, u8 := false, iface := false, bool := true } -- bool
def ti5 : TI := { size := 1, bytes := 1, agg := false, slice := none, elem := 0, ez := [], fields := [], ftypes := [], zero := [.c (.int .u8 0)], eq := some [.int .u8], ik := some .u8, str := false, u8 := false, iface := false, bool := false } -- uint8
def ti7 : TI := { size := 4, bytes := 24, agg := true, slice := none, elem := 0, ez := [], fields := [(0, 1, false), (1, 1, false), (2, 1, false), (3, 1, false)], ftypes := [2, 3, 4, 6], zero := [.c (.int .i64 0), .c (.int .i64 0), .c (.bool false), .c (.int .u8 0)], eq := some [.int .i64, .int .i64, .bool, .int .u8], ik := none, str := false, u8 := false, iface := false, bool := false } -- struct 
def ti9 : TI := { size := 1, bytes := 16, agg := false, slice := none, elem := 0, ez := [], fields := [], ftypes := [], zero := [.c (.str ⟨#[]⟩)], eq := some [.str], ik := none, str := true, u8 := false, iface := false, bool := false } -- string
def ti12 : TI := { size := 1, bytes := 8, agg := false, slice := none, elem := 0, ez := [], fields := [], ftypes := [], zero := [.c (.int .u64 0)], eq := some [.int .u64], ik := some .u64, str := false, u8 := false, iface := false, bool := false } -- uintptr
def ti18 : TI := { size := 1, bytes := 8, agg := true, slice := none, elem := 0, ez := [], fields := [(0, 1, false)], ftypes := [17], zero := [.c (.ptr 0 [])], eq := none, ik := none, str := false, u8 := false, iface := false, bool := false } -- struct 
def ti20 : TI := { size := 1, bytes := 16, agg := false, slice := none, elem := 0, ez := [], fields := [], ftypes := [], zero := [.c (.iface true)], eq := none, ik := none, str := false, u8 := false, iface := true, bool := false } -- interface 
def ti21 : TI := { size := 1, bytes := 4, agg := false, slice := none, elem := 0, ez := [], fields := [], ftypes := [], zero := [.c (.int .i32 0)], eq := some [.int .i32], ik := some .i32, str := false, u8 := false, iface := false, bool := false } -- int32
def ti22 : TI := { size := 1, bytes := 24, agg := false, slice := some (2, 24), elem := 64, ez := [.str ⟨#[]⟩, .int .i64 0], fields := [], ftypes := [], zero := [.nil 2], eq := none, ik := none, str := false, u8 := false, iface := false, bool := false } -- []laws.Setting
def ti24 : TI := { size := 1, bytes := 24, agg := false, slice := some (1, 16), elem := 9, ez := [.str ⟨#[]⟩], fields := [], ftypes := [], zero := [.nil 1], eq := none, ik := none, str := false, u8 := false, iface := false, bool := false } -- []string
def ti27 : TI := { size := 1, bytes := 24, agg := false, slice := some (2, 24), elem := 66, ez := [.str ⟨#[]⟩, .int .i64 0], fields := [], ftypes := [], zero := [.nil 2], eq := none, ik := none, str := false, u8 := false, iface := false, bool := false } -- []impl.Setting
def ti36 : TI := { size := 1, bytes := 24, agg := false, slice := some (4, 56), elem := 75, ez := [.int .i64 0, .int .i64 0, .str ⟨#[]⟩, .slice 2 []], fields := [], ftypes := [], zero := [.nil 4], eq := none, ik := none, str := false, u8 := false, iface := false, bool := false } -- []laws.Version
def ti38 : TI := { size := 1, bytes := 24, agg := false, slice := some (4, 56), elem := 82, ez := [.int .i64 0, .int .i64 0, .str ⟨#[]⟩, .slice 2 []], fields := [], ftypes := [], zero := [.nil 4], eq := none, ik := none, str := false, u8 := false, iface := false, bool := false } -- []impl.Version
def ti45 : TI := { size := 1, bytes := 24, agg := false, slice := some (1, 1), elem := 5, ez := [.int .u8 0], fields := [], ftypes := [], zero := [.nil 1], eq := none, ik := none, str := false, u8 := true, iface := false, bool := false } -- []uint8
def ti55 : TI := { size := 1, bytes := 24, agg := false, slice := some (4, 56), elem := 93, ez := [.str ⟨#[]⟩, .slice 1 [], .int .i64 0, .int .i64 0], fields := [], ftypes := [], zero := [.nil 4], eq := none, ik := none, str := false, u8 := false, iface := false, bool := false } -- []laws.Item
def ti58 : TI := { size := 1, bytes := 24, agg := false, slice := some (4, 56), elem := 101, ez := [.str ⟨#[]⟩, .slice 1 [], .int .i64 0, .int .i64 0], fields := [], ftypes := [], zero := [.nil 4], eq := none, ik := none, str := false, u8 := false, iface := false, bool := false } -- []impl.Item
def ti63 : TI := { size := 2, bytes := 24, agg := true, slice := none, elem := 0, ez := [], fields := [(0, 1, false), (1, 1, false)], ftypes := [9, 2], zero := [.c (.str ⟨#[]⟩), .c (.int .i64 0)], eq := some [.str, .int .i64], ik := none, str := false, u8 := false, iface := false, bool := false } -- struct 
def ti64 : TI := { size := 2, bytes := 24, agg := true, slice := none, elem := 0, ez := [], fields := [(0, 1, false), (1, 1, false)], ftypes := [9, 2], zero := [.c (.str ⟨#[]⟩), .c (.int .i64 0)], eq := some [.str, .int .i64], ik := none, str := false, u8 := false, iface := false, bool := false } -- laws.Setting
def ti66 : TI := { size := 2, bytes := 24, agg := true, slice := none, elem := 0, ez := [], fields := [(0, 1, false), (1, 1, false)], ftypes := [9, 2], zero := [.c (.str ⟨#[]⟩), .c (.int .i64 0)], eq := some [.str, .int .i64], ik := none, str := false, u8 := false, iface := false, bool := false } -- impl.Setting
def ti74 : TI := { size := 4, bytes := 56, agg := true, slice := none, elem := 0, ez := [], fields := [(0, 1, false), (1, 1, false), (2, 1, false), (3, 1, false)], ftypes := [2, 2, 9, 22], zero := [.c (.int .i64 0), .c (.int .i64 0), .c (.str ⟨#[]⟩), .nil 2], eq := none, ik := none, str := false, u8 := false, iface := false, bool := false } -- struct 
def ti75 : TI := { size := 4, bytes := 56, agg := true, slice := none, elem := 0, ez := [], fields := [(0, 1, false), (1, 1, false), (2, 1, false), (3, 1, false)], ftypes := [2, 2, 9, 22], zero := [.c (.int .i64 0), .c (.int .i64 0), .c (.str ⟨#[]⟩), .nil 2], eq := none, ik := none, str := false, u8 := false, iface := false, bool := false } -- laws.Version
def ti81 : TI := { size := 4, bytes := 56, agg := true, slice := none, elem := 0, ez := [], fields := [(0, 1, false), (1, 1, false), (2, 1, false), (3, 1, false)], ftypes := [2, 2, 9, 27], zero := [.c (.int .i64 0), .c (.int .i64 0), .c (.str ⟨#[]⟩), .nil 2], eq := none, ik := none, str := false, u8 := false, iface := false, bool := false } -- struct 
def ti82 : TI := { size := 4, bytes := 56, agg := true, slice := none, elem := 0, ez := [], fields := [(0, 1, false), (1, 1, false), (2, 1, false), (3, 1, false)], ftypes := [2, 2, 9, 27], zero := [.c (.int .i64 0), .c (.int .i64 0), .c (.str ⟨#[]⟩), .nil 2], eq := none, ik := none, str := false, u8 := false, iface := false, bool := false } -- impl.Version
def ti86 : TI := { size := 1, bytes := 8, agg := false, slice := none, elem := 0, ez := [], fields := [], ftypes := [], zero := [.c (.ptr 0 [])], eq := none, ik := none, str := false, u8 := false, iface := false, bool := false } -- *spec.l00Src
def ti92 : TI := { size := 4, bytes := 56, agg := true, slice := none, elem := 0, ez := [], fields := [(0, 1, false), (1, 1, false), (2, 1, false), (3, 1, false)], ftypes := [9, 24, 2, 2], zero := [.c (.str ⟨#[]⟩), .nil 1, .c (.int .i64 0), .c (.int .i64 0)], eq := none, ik := none, str := false, u8 := false, iface := false, bool := false } -- struct 
def ti93 : TI := { size := 4, bytes := 56, agg := true, slice := none, elem := 0, ez := [], fields := [(0, 1, false), (1, 1, false), (2, 1, false), (3, 1, false)], ftypes := [9, 24, 2, 2], zero := [.c (.str ⟨#[]⟩), .nil 1, .c (.int .i64 0), .c (.int .i64 0)], eq := none, ik := none, str := false, u8 := false, iface := false, bool := false } -- laws.Item
def ti96 : TI := { size := 1, bytes := 24, agg := false, slice := some (1, 8), elem := 3, ez := [.int .i64 0], fields := [], ftypes := [], zero := [.nil 1], eq := none, ik := none, str := false, u8 := false, iface := false, bool := false } -- []int
def ti98 : TI := { size := 1, bytes := 24, agg := false, slice := some (1, 1), elem := 4, ez := [.bool false], fields := [], ftypes := [], zero := [.nil 1], eq := none, ik := none, str := false, u8 := false, iface := false, bool := false } -- []bool
def ti100 : TI := { size := 1, bytes := 24, agg := false, slice := some (1, 8), elem := 2, ez := [.int .i64 0], fields := [], ftypes := [], zero := [.nil 1], eq := none, ik := none, str := false, u8 := false, iface := false, bool := false } -- []int64
def ti101 : TI := { size := 4, bytes := 56, agg := true, slice := none, elem := 0, ez := [], fields := [(0, 1, false), (1, 1, false), (2, 1, false), (3, 1, false)], ftypes := [9, 24, 2, 2], zero := [.c (.str ⟨#[]⟩), .nil 1, .c (.int .i64 0), .c (.int .i64 0)], eq := none, ik := none, str := false, u8 := false, iface := false, bool := false } -- impl.Item
def ti105 : TI := { size := 1, bytes := 8, agg := false, slice := none, elem := 0, ez := [], fields := [], ftypes := [], zero := [.c (.ptr 0 [])], eq := none, ik := none, str := false, u8 := false, iface := false, bool := false } -- *impl.workshop
def ti113 : TI := { size := 1, bytes := 8, agg := false, slice := none, elem := 0, ez := [], fields := [], ftypes := [], zero := [.c (.ptr 0 [])], eq := none, ik := none, str := false, u8 := false, iface := false, bool := false } -- *impl.Setting
def ti115 : TI := { size := 1, bytes := 24, agg := false, slice := some (1, 24), elem := 27, ez := [.slice 2 []], fields := [], ftypes := [], zero := [.nil 1], eq := none, ik := none, str := false, u8 := false, iface := false, bool := false } -- [][]impl.Setting
def ti131 : TI := { size := 1, bytes := 8, agg := false, slice := none, elem := 0, ez := [], fields := [], ftypes := [], zero := [.c (.int .u64 0)], eq := some [.int .u64], ik := some .u64, str := false, u8 := false, iface := false, bool := false } -- uint64
def ti132 : TI := { size := 3, bytes := 40, agg := true, slice := none, elem := 0, ez := [], fields := [(0, 1, false), (1, 1, false), (2, 1, false)], ftypes := [45, 3, 131], zero := [.nil 1, .c (.int .i64 0), .c (.int .u64 0)], eq := none, ik := none, str := false, u8 := false, iface := false, bool := false } -- struct 
def ti133 : TI := { size := 3, bytes := 40, agg := true, slice := none, elem := 0, ez := [], fields := [(0, 1, false), (1, 1, false), (2, 1, false)], ftypes := [45, 3, 131], zero := [.nil 1, .c (.int .i64 0), .c (.int .u64 0)], eq := none, ik := none, str := false, u8 := false, iface := false, bool := false } -- spec.l00Src
def ti149 : TI := { size := 1, bytes := 8, agg := false, slice := none, elem := 0, ez := [], fields := [], ftypes := [], zero := [.c (.int .u64 0)], eq := some [.int .u64], ik := some .u64, str := false, u8 := false, iface := false, bool := false } -- uint
def ti164 : TI := { size := 1, bytes := 8, agg := false, slice := none, elem := 0, ez := [], fields := [], ftypes := [], zero := [.c (.int .i64 0)], eq := some [.int .i64], ik := some .i64, str := false, u8 := false, iface := false, bool := false } -- slices.sortedHint
def ti172 : TI := { size := 1, bytes := 4, agg := false, slice := none, elem := 0, ez := [], fields := [], ftypes := [], zero := [.c (.int .u32 0)], eq := some [.int .u32], ik := some .u32, str := false, u8 := false, iface := false, bool := false } -- uint32
def ti176 : TI := { size := 1, bytes := 8, agg := false, slice := none, elem := 0, ez := [], fields := [], ftypes := [], zero := [.c (.int .u64 0)], eq := some [.int .u64], ik := some .u64, str := false, u8 := false, iface := false, bool := false } -- slices.xorshift
def ti180 : TI := { size := 1, bytes := 8, agg := false, slice := none, elem := 0, ez := [], fields := [], ftypes := [], zero := [.c (.ptr 0 [])], eq := none, ik := none, str := false, u8 := false, iface := false, bool := false } -- *int
def ti182 : TI := { size := 1, bytes := 8, agg := false, slice := none, elem := 0, ez := [], fields := [], ftypes := [], zero := [.c (.ptr 0 [])], eq := none, ik := none, str := false, u8 := false, iface := false, bool := false } -- *slices.xorshift
def ti186 : TI := { size := 4, bytes := 40, agg := true, slice := none, elem := 0, ez := [], fields := [(0, 1, false), (1, 1, false), (2, 1, false), (3, 1, false)], ftypes := [17, 17, 17, 9], zero := [.c (.ptr 0 []), .c (.ptr 0 []), .c (.ptr 0 []), .c (.str ⟨#[]⟩)], eq := none, ik := none, str := false, u8 := false, iface := false, bool := false } -- struct 
def ti195 : TI := { size := 1, bytes := 8, agg := false, slice := none, elem := 0, ez := [], fields := [], ftypes := [], zero := [.c (.ptr 0 [])], eq := none, ik := none, str := false, u8 := false, iface := false, bool := false } -- *uint8
def tt (t : Nat) : TI := match Nat.blt t 81 with
  | true => (match Nat.blt t 24 with
    | true => (match Nat.blt t 9 with
      | true => (match Nat.blt t 4 with
        | true => (match Nat.blt t 3 with
          | true => (match Nat.beq t 2 with | true => ti2 | false => tid)
          | false => (match Nat.beq t 3 with | true => ti3 | false => tid))
        | false => (match Nat.blt t 5 with
          | true => (match Nat.beq t 4 with | true => ti4 | false => tid)
          | false => (match Nat.blt t 7 with
            | true => (match Nat.beq t 5 with | true => ti5 | false => tid)
            | false => (match Nat.beq t 7 with | true => ti7 | false => tid))))
      | false => (match Nat.blt t 20 with
        | true => (match Nat.blt t 12 with
          | true => (match Nat.beq t 9 with | true => ti9 | false => tid)
          | false => (match Nat.blt t 18 with
            | true => (match Nat.beq t 12 with | true => ti12 | false => tid)
            | false => (match Nat.beq t 18 with | true => ti18 | false => tid)))
        | false => (match Nat.blt t 21 with
          | true => (match Nat.beq t 20 with | true => ti20 | false => tid)
          | false => (match Nat.blt t 22 with
            | true => (match Nat.beq t 21 with | true => ti21 | false => tid)
            | false => (match Nat.beq t 22 with | true => ti22 | false => tid)))))
    | false => (match Nat.blt t 58 with
      | true => (match Nat.blt t 38 with
        | true => (match Nat.blt t 27 with
          | true => (match Nat.beq t 24 with | true => ti24 | false => tid)
          | false => (match Nat.blt t 36 with
            | true => (match Nat.beq t 27 with | true => ti27 | false => tid)
            | false => (match Nat.beq t 36 with | true => ti36 | false => tid)))
        | false => (match Nat.blt t 45 with
          | true => (match Nat.beq t 38 with | true => ti38 | false => tid)
          | false => (match Nat.blt t 55 with
            | true => (match Nat.beq t 45 with | true => ti45 | false => tid)
            | false => (match Nat.beq t 55 with | true => ti55 | false => tid))))
      | false => (match Nat.blt t 66 with
        | true => (match Nat.blt t 63 with
          | true => (match Nat.beq t 58 with | true => ti58 | false => tid)
          | false => (match Nat.blt t 64 with
            | true => (match Nat.beq t 63 with | true => ti63 | false => tid)
            | false => (match Nat.beq t 64 with | true => ti64 | false => tid)))
        | false => (match Nat.blt t 74 with
          | true => (match Nat.beq t 66 with | true => ti66 | false => tid)
          | false => (match Nat.blt t 75 with
            | true => (match Nat.beq t 74 with | true => ti74 | false => tid)
            | false => (match Nat.beq t 75 with | true => ti75 | false => tid))))))
  | false => (match Nat.blt t 115 with
    | true => (match Nat.blt t 96 with
      | true => (match Nat.blt t 86 with
        | true => (match Nat.blt t 82 with
          | true => (match Nat.beq t 81 with | true => ti81 | false => tid)
          | false => (match Nat.beq t 82 with | true => ti82 | false => tid))
        | false => (match Nat.blt t 92 with
          | true => (match Nat.beq t 86 with | true => ti86 | false => tid)
          | false => (match Nat.blt t 93 with
            | true => (match Nat.beq t 92 with | true => ti92 | false => tid)
            | false => (match Nat.beq t 93 with | true => ti93 | false => tid))))
      | false => (match Nat.blt t 101 with
        | true => (match Nat.blt t 98 with
          | true => (match Nat.beq t 96 with | true => ti96 | false => tid)
          | false => (match Nat.blt t 100 with
            | true => (match Nat.beq t 98 with | true => ti98 | false => tid)
            | false => (match Nat.beq t 100 with | true => ti100 | false => tid)))
        | false => (match Nat.blt t 105 with
          | true => (match Nat.beq t 101 with | true => ti101 | false => tid)
          | false => (match Nat.blt t 113 with
            | true => (match Nat.beq t 105 with | true => ti105 | false => tid)
            | false => (match Nat.beq t 113 with | true => ti113 | false => tid)))))
    | false => (match Nat.blt t 172 with
      | true => (match Nat.blt t 133 with
        | true => (match Nat.blt t 131 with
          | true => (match Nat.beq t 115 with | true => ti115 | false => tid)
          | false => (match Nat.blt t 132 with
            | true => (match Nat.beq t 131 with | true => ti131 | false => tid)
            | false => (match Nat.beq t 132 with | true => ti132 | false => tid)))
        | false => (match Nat.blt t 149 with
          | true => (match Nat.beq t 133 with | true => ti133 | false => tid)
          | false => (match Nat.blt t 164 with
            | true => (match Nat.beq t 149 with | true => ti149 | false => tid)
            | false => (match Nat.beq t 164 with | true => ti164 | false => tid))))
      | false => (match Nat.blt t 182 with
        | true => (match Nat.blt t 176 with
          | true => (match Nat.beq t 172 with | true => ti172 | false => tid)
          | false => (match Nat.blt t 180 with
            | true => (match Nat.beq t 176 with | true => ti176 | false => tid)
            | false => (match Nat.beq t 180 with | true => ti180 | false => tid)))
        | false => (match Nat.blt t 186 with
          | true => (match Nat.beq t 182 with | true => ti182 | false => tid)
          | false => (match Nat.blt t 195 with
            | true => (match Nat.beq t 186 with | true => ti186 | false => tid)
            | false => (match Nat.beq t 195 with | true => ti195 | false => tid))))))
end Go.Proofs.Ytjolahiflldepab.Pi
