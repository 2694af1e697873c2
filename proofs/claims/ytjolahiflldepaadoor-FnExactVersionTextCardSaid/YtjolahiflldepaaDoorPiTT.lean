/- The table of the types, as the program has them. -/
import Derived.Test.YtjolahiflldepaaDoorPiA
namespace Go.Proofs.YtjolahiflldepaaDoor.Pi
open Go
def tid : TI := { size := 0, bytes := 0, agg := false, slice := none, elem := 0, ez := [], fields := [], ftypes := [], zero := [], eq := none, ik := none, str := false, u8 := false, iface := false, bool := false }
def ti2 : TI := { size := 1, bytes := 8, agg := false, slice := none, elem := 0, ez := [], fields := [], ftypes := [], zero := [.c (.int .i64 0)], eq := some [.int .i64], ik := some .i64, str := false, u8 := false, iface := false, bool := false } -- int64
def ti3 : TI := { size := 1, bytes := 8, agg := false, slice := none, elem := 0, ez := [], fields := [], ftypes := [], zero := [.c (.int .i64 0)], eq := some [.int .i64], ik := some .i64, str := false, u8 := false, iface := false, bool := false } -- int
def ti4 : TI := { size := 1, bytes := 1, agg := false, slice := none, elem := 0, ez := [], fields := [], ftypes := [], zero := [.c (.bool false)], eq := some [.bool], ik := none, str := false, u8 := false, iface := false, bool := true } -- bool
def ti5 : TI := { size := 1, bytes := 1, agg := false, slice := none, elem := 0, ez := [], fields := [], ftypes := [], zero := [.c (.int .u8 0)], eq := some [.int .u8], ik := some .u8, str := false, u8 := false, iface := false, bool := false } -- uint8
def ti7 : TI := { size := 4, bytes := 24, agg := true, slice := none, elem := 0, ez := [], fields := [(0, 1, false), (1, 1, false), (2, 1, false), (3, 1, false)], ftypes := [2, 3, 4, 6], zero := [.c (.int .i64 0), .c (.int .i64 0), .c (.bool false), .c (.int .u8 0)], eq := some [.int .i64, .int .i64, .bool, .int .u8], ik := none, str := false, u8 := false, iface := false, bool := false } -- struct 
def ti9 : TI := { size := 1, bytes := 16, agg := false, slice := none, elem := 0, ez := [], fields := [], ftypes := [], zero := [.c (.str ⟨#[]⟩)], eq := some [.str], ik := none, str := true, u8 := false, iface := false, bool := false } -- string
def ti12 : TI := { size := 1, bytes := 8, agg := false, slice := none, elem := 0, ez := [], fields := [], ftypes := [], zero := [.c (.int .u64 0)], eq := some [.int .u64], ik := some .u64, str := false, u8 := false, iface := false, bool := false } -- uintptr
def ti18 : TI := { size := 1, bytes := 8, agg := true, slice := none, elem := 0, ez := [], fields := [(0, 1, false)], ftypes := [17], zero := [.c (.ptr 0 [])], eq := none, ik := none, str := false, u8 := false, iface := false, bool := false } -- struct 
def ti20 : TI := { size := 1, bytes := 16, agg := false, slice := none, elem := 0, ez := [], fields := [], ftypes := [], zero := [.c (.iface true)], eq := none, ik := none, str := false, u8 := false, iface := true, bool := false } -- interface 
def ti21 : TI := { size := 1, bytes := 4, agg := false, slice := none, elem := 0, ez := [], fields := [], ftypes := [], zero := [.c (.int .i32 0)], eq := some [.int .i32], ik := some .i32, str := false, u8 := false, iface := false, bool := false } -- int32
def ti22 : TI := { size := 1, bytes := 24, agg := false, slice := some (2, 24), elem := 84, ez := [.str ⟨#[]⟩, .int .i64 0], fields := [], ftypes := [], zero := [.nil 2], eq := none, ik := none, str := false, u8 := false, iface := false, bool := false } -- []laws.Setting
def ti23 : TI := { size := 4, bytes := 56, agg := true, slice := none, elem := 0, ez := [], fields := [(0, 1, false), (1, 1, false), (2, 1, false), (3, 1, false)], ftypes := [2, 2, 9, 22], zero := [.c (.int .i64 0), .c (.int .i64 0), .c (.str ⟨#[]⟩), .nil 2], eq := none, ik := none, str := false, u8 := false, iface := false, bool := false } -- struct 
def ti24 : TI := { size := 4, bytes := 56, agg := true, slice := none, elem := 0, ez := [], fields := [(0, 1, false), (1, 1, false), (2, 1, false), (3, 1, false)], ftypes := [2, 2, 9, 22], zero := [.c (.int .i64 0), .c (.int .i64 0), .c (.str ⟨#[]⟩), .nil 2], eq := none, ik := none, str := false, u8 := false, iface := false, bool := false } -- laws.Version
def ti27 : TI := { size := 1, bytes := 24, agg := false, slice := some (2, 24), elem := 55, ez := [.str ⟨#[]⟩, .int .i64 0], fields := [], ftypes := [], zero := [.nil 2], eq := none, ik := none, str := false, u8 := false, iface := false, bool := false } -- []impl.Setting
def ti28 : TI := { size := 4, bytes := 56, agg := true, slice := none, elem := 0, ez := [], fields := [(0, 1, false), (1, 1, false), (2, 1, false), (3, 1, false)], ftypes := [2, 2, 9, 27], zero := [.c (.int .i64 0), .c (.int .i64 0), .c (.str ⟨#[]⟩), .nil 2], eq := none, ik := none, str := false, u8 := false, iface := false, bool := false } -- struct 
def ti29 : TI := { size := 4, bytes := 56, agg := true, slice := none, elem := 0, ez := [], fields := [(0, 1, false), (1, 1, false), (2, 1, false), (3, 1, false)], ftypes := [2, 2, 9, 27], zero := [.c (.int .i64 0), .c (.int .i64 0), .c (.str ⟨#[]⟩), .nil 2], eq := none, ik := none, str := false, u8 := false, iface := false, bool := false } -- impl.Version
def ti33 : TI := { size := 1, bytes := 24, agg := false, slice := some (4, 56), elem := 70, ez := [.str ⟨#[]⟩, .slice 1 [], .int .i64 0, .int .i64 0], fields := [], ftypes := [], zero := [.nil 4], eq := none, ik := none, str := false, u8 := false, iface := false, bool := false } -- []laws.Item
def ti36 : TI := { size := 1, bytes := 24, agg := false, slice := some (4, 56), elem := 72, ez := [.str ⟨#[]⟩, .slice 1 [], .int .i64 0, .int .i64 0], fields := [], ftypes := [], zero := [.nil 4], eq := none, ik := none, str := false, u8 := false, iface := false, bool := false } -- []impl.Item
def ti40 : TI := { size := 1, bytes := 24, agg := false, slice := some (4, 56), elem := 24, ez := [.int .i64 0, .int .i64 0, .str ⟨#[]⟩, .slice 2 []], fields := [], ftypes := [], zero := [.nil 4], eq := none, ik := none, str := false, u8 := false, iface := false, bool := false } -- []laws.Version
def ti42 : TI := { size := 1, bytes := 24, agg := false, slice := some (4, 56), elem := 29, ez := [.int .i64 0, .int .i64 0, .str ⟨#[]⟩, .slice 2 []], fields := [], ftypes := [], zero := [.nil 4], eq := none, ik := none, str := false, u8 := false, iface := false, bool := false } -- []impl.Version
def ti54 : TI := { size := 2, bytes := 24, agg := true, slice := none, elem := 0, ez := [], fields := [(0, 1, false), (1, 1, false)], ftypes := [9, 2], zero := [.c (.str ⟨#[]⟩), .c (.int .i64 0)], eq := some [.str, .int .i64], ik := none, str := false, u8 := false, iface := false, bool := false } -- struct 
def ti55 : TI := { size := 2, bytes := 24, agg := true, slice := none, elem := 0, ez := [], fields := [(0, 1, false), (1, 1, false)], ftypes := [9, 2], zero := [.c (.str ⟨#[]⟩), .c (.int .i64 0)], eq := some [.str, .int .i64], ik := none, str := false, u8 := false, iface := false, bool := false } -- impl.Setting
def ti57 : TI := { size := 1, bytes := 8, agg := false, slice := none, elem := 0, ez := [], fields := [], ftypes := [], zero := [.c (.ptr 0 [])], eq := none, ik := none, str := false, u8 := false, iface := false, bool := false } -- *strings.Builder
def ti58 : TI := { size := 1, bytes := 24, agg := false, slice := some (1, 1), elem := 5, ez := [.int .u8 0], fields := [], ftypes := [], zero := [.nil 1], eq := none, ik := none, str := false, u8 := true, iface := false, bool := false } -- []uint8
def ti59 : TI := { size := 2, bytes := 32, agg := true, slice := none, elem := 0, ez := [], fields := [(0, 1, false), (1, 1, false)], ftypes := [57, 58], zero := [.c (.ptr 0 []), .nil 1], eq := none, ik := none, str := false, u8 := false, iface := false, bool := false } -- struct 
def ti60 : TI := { size := 2, bytes := 32, agg := true, slice := none, elem := 0, ez := [], fields := [(0, 1, false), (1, 1, false)], ftypes := [57, 58], zero := [.c (.ptr 0 []), .nil 1], eq := none, ik := none, str := false, u8 := false, iface := false, bool := false } -- strings.Builder
def ti61 : TI := { size := 1, bytes := 16, agg := false, slice := none, elem := 0, ez := [], fields := [], ftypes := [], zero := [.c (.iface true)], eq := none, ik := none, str := false, u8 := false, iface := true, bool := false } -- interface 
def ti62 : TI := { size := 1, bytes := 16, agg := false, slice := none, elem := 0, ez := [], fields := [], ftypes := [], zero := [.c (.iface true)], eq := none, ik := none, str := false, u8 := false, iface := true, bool := false } -- error
def ti68 : TI := { size := 1, bytes := 24, agg := false, slice := some (1, 16), elem := 9, ez := [.str ⟨#[]⟩], fields := [], ftypes := [], zero := [.nil 1], eq := none, ik := none, str := false, u8 := false, iface := false, bool := false } -- []string
def ti69 : TI := { size := 4, bytes := 56, agg := true, slice := none, elem := 0, ez := [], fields := [(0, 1, false), (1, 1, false), (2, 1, false), (3, 1, false)], ftypes := [9, 68, 2, 2], zero := [.c (.str ⟨#[]⟩), .nil 1, .c (.int .i64 0), .c (.int .i64 0)], eq := none, ik := none, str := false, u8 := false, iface := false, bool := false } -- struct 
def ti70 : TI := { size := 4, bytes := 56, agg := true, slice := none, elem := 0, ez := [], fields := [(0, 1, false), (1, 1, false), (2, 1, false), (3, 1, false)], ftypes := [9, 68, 2, 2], zero := [.c (.str ⟨#[]⟩), .nil 1, .c (.int .i64 0), .c (.int .i64 0)], eq := none, ik := none, str := false, u8 := false, iface := false, bool := false } -- laws.Item
def ti72 : TI := { size := 4, bytes := 56, agg := true, slice := none, elem := 0, ez := [], fields := [(0, 1, false), (1, 1, false), (2, 1, false), (3, 1, false)], ftypes := [9, 68, 2, 2], zero := [.c (.str ⟨#[]⟩), .nil 1, .c (.int .i64 0), .c (.int .i64 0)], eq := none, ik := none, str := false, u8 := false, iface := false, bool := false } -- impl.Item
def ti84 : TI := { size := 2, bytes := 24, agg := true, slice := none, elem := 0, ez := [], fields := [(0, 1, false), (1, 1, false)], ftypes := [9, 2], zero := [.c (.str ⟨#[]⟩), .c (.int .i64 0)], eq := some [.str, .int .i64], ik := none, str := false, u8 := false, iface := false, bool := false } -- laws.Setting
def ti86 : TI := { size := 1, bytes := 8, agg := false, slice := none, elem := 0, ez := [], fields := [], ftypes := [], zero := [.c (.ptr 0 [])], eq := none, ik := none, str := false, u8 := false, iface := false, bool := false } -- *impl.Setting
def ti92 : TI := { size := 1, bytes := 8, agg := false, slice := none, elem := 0, ez := [], fields := [], ftypes := [], zero := [.c (.ptr 0 [])], eq := none, ik := none, str := false, u8 := false, iface := false, bool := false } -- *uint8
def ti95 : TI := { size := 1, bytes := 24, agg := false, slice := some (1, 8), elem := 3, ez := [.int .i64 0], fields := [], ftypes := [], zero := [.nil 1], eq := none, ik := none, str := false, u8 := false, iface := false, bool := false } -- []int
def ti105 : TI := { size := 1, bytes := 24, agg := false, slice := some (1, 8), elem := 2, ez := [.int .i64 0], fields := [], ftypes := [], zero := [.nil 1], eq := none, ik := none, str := false, u8 := false, iface := false, bool := false } -- []int64
def ti114 : TI := { size := 1, bytes := 24, agg := false, slice := some (1, 1), elem := 4, ez := [.bool false], fields := [], ftypes := [], zero := [.nil 1], eq := none, ik := none, str := false, u8 := false, iface := false, bool := false } -- []bool
def ti122 : TI := { size := 1, bytes := 8, agg := false, slice := none, elem := 0, ez := [], fields := [], ftypes := [], zero := [.c (.int .u64 0)], eq := some [.int .u64], ik := some .u64, str := false, u8 := false, iface := false, bool := false } -- uint64
def ti131 : TI := { size := 1, bytes := 4, agg := false, slice := none, elem := 0, ez := [], fields := [], ftypes := [], zero := [.c (.int .u32 0)], eq := some [.int .u32], ik := some .u32, str := false, u8 := false, iface := false, bool := false } -- uint32
def ti134 : TI := { size := 1, bytes := 8, agg := false, slice := none, elem := 0, ez := [], fields := [], ftypes := [], zero := [.c (.int .u64 0)], eq := some [.int .u64], ik := some .u64, str := false, u8 := false, iface := false, bool := false } -- uint
def ti139 : TI := { size := 4, bytes := 40, agg := true, slice := none, elem := 0, ez := [], fields := [(0, 1, false), (1, 1, false), (2, 1, false), (3, 1, false)], ftypes := [17, 17, 17, 9], zero := [.c (.ptr 0 []), .c (.ptr 0 []), .c (.ptr 0 []), .c (.str ⟨#[]⟩)], eq := none, ik := none, str := false, u8 := false, iface := false, bool := false } -- struct 
def tt (t : Nat) : TI := match Nat.blt t 55 with
  | true => (match Nat.blt t 22 with
    | true => (match Nat.blt t 9 with
      | true => (match Nat.blt t 4 with
        | true => (match Nat.blt t 3 with
          | true => (match Nat.beq t 2 with | true => ti2 | false => tid)
          | false => (match Nat.beq t 3 with | true => ti3 | false => tid))
        | false => (match Nat.blt t 5 with
          | true => (match Nat.beq t 4 with | true => ti4 | false => tid)
          | false => (match Nat.blt t 7 with
            | true => (match Nat.beq t 5 with | true => ti5 | false => tid)
            | false => (match Nat.beq t 7 with | true => ti7 | false => tid))))
      | false => (match Nat.blt t 18 with
        | true => (match Nat.blt t 12 with
          | true => (match Nat.beq t 9 with | true => ti9 | false => tid)
          | false => (match Nat.beq t 12 with | true => ti12 | false => tid))
        | false => (match Nat.blt t 20 with
          | true => (match Nat.beq t 18 with | true => ti18 | false => tid)
          | false => (match Nat.blt t 21 with
            | true => (match Nat.beq t 20 with | true => ti20 | false => tid)
            | false => (match Nat.beq t 21 with | true => ti21 | false => tid)))))
    | false => (match Nat.blt t 29 with
      | true => (match Nat.blt t 24 with
        | true => (match Nat.blt t 23 with
          | true => (match Nat.beq t 22 with | true => ti22 | false => tid)
          | false => (match Nat.beq t 23 with | true => ti23 | false => tid))
        | false => (match Nat.blt t 27 with
          | true => (match Nat.beq t 24 with | true => ti24 | false => tid)
          | false => (match Nat.blt t 28 with
            | true => (match Nat.beq t 27 with | true => ti27 | false => tid)
            | false => (match Nat.beq t 28 with | true => ti28 | false => tid))))
      | false => (match Nat.blt t 40 with
        | true => (match Nat.blt t 33 with
          | true => (match Nat.beq t 29 with | true => ti29 | false => tid)
          | false => (match Nat.blt t 36 with
            | true => (match Nat.beq t 33 with | true => ti33 | false => tid)
            | false => (match Nat.beq t 36 with | true => ti36 | false => tid)))
        | false => (match Nat.blt t 42 with
          | true => (match Nat.beq t 40 with | true => ti40 | false => tid)
          | false => (match Nat.blt t 54 with
            | true => (match Nat.beq t 42 with | true => ti42 | false => tid)
            | false => (match Nat.beq t 54 with | true => ti54 | false => tid))))))
  | false => (match Nat.blt t 72 with
    | true => (match Nat.blt t 61 with
      | true => (match Nat.blt t 58 with
        | true => (match Nat.blt t 57 with
          | true => (match Nat.beq t 55 with | true => ti55 | false => tid)
          | false => (match Nat.beq t 57 with | true => ti57 | false => tid))
        | false => (match Nat.blt t 59 with
          | true => (match Nat.beq t 58 with | true => ti58 | false => tid)
          | false => (match Nat.blt t 60 with
            | true => (match Nat.beq t 59 with | true => ti59 | false => tid)
            | false => (match Nat.beq t 60 with | true => ti60 | false => tid))))
      | false => (match Nat.blt t 68 with
        | true => (match Nat.blt t 62 with
          | true => (match Nat.beq t 61 with | true => ti61 | false => tid)
          | false => (match Nat.beq t 62 with | true => ti62 | false => tid))
        | false => (match Nat.blt t 69 with
          | true => (match Nat.beq t 68 with | true => ti68 | false => tid)
          | false => (match Nat.blt t 70 with
            | true => (match Nat.beq t 69 with | true => ti69 | false => tid)
            | false => (match Nat.beq t 70 with | true => ti70 | false => tid)))))
    | false => (match Nat.blt t 105 with
      | true => (match Nat.blt t 86 with
        | true => (match Nat.blt t 84 with
          | true => (match Nat.beq t 72 with | true => ti72 | false => tid)
          | false => (match Nat.beq t 84 with | true => ti84 | false => tid))
        | false => (match Nat.blt t 92 with
          | true => (match Nat.beq t 86 with | true => ti86 | false => tid)
          | false => (match Nat.blt t 95 with
            | true => (match Nat.beq t 92 with | true => ti92 | false => tid)
            | false => (match Nat.beq t 95 with | true => ti95 | false => tid))))
      | false => (match Nat.blt t 131 with
        | true => (match Nat.blt t 114 with
          | true => (match Nat.beq t 105 with | true => ti105 | false => tid)
          | false => (match Nat.blt t 122 with
            | true => (match Nat.beq t 114 with | true => ti114 | false => tid)
            | false => (match Nat.beq t 122 with | true => ti122 | false => tid)))
        | false => (match Nat.blt t 134 with
          | true => (match Nat.beq t 131 with | true => ti131 | false => tid)
          | false => (match Nat.blt t 139 with
            | true => (match Nat.beq t 134 with | true => ti134 | false => tid)
            | false => (match Nat.beq t 139 with | true => ti139 | false => tid))))))
end Go.Proofs.YtjolahiflldepaaDoor.Pi
