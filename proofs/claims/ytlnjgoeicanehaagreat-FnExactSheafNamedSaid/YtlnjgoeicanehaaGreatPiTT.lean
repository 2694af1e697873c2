/- The table of the types, as the program has them. -/
import Derived.Test.YtlnjgoeicanehaaGreatPiA
namespace Go.Proofs.YtlnjgoeicanehaaGreat.Pi
open Go
def tid : TI := { size := 0, bytes := 0, agg := false, slice := none, elem := 0, ez := [], fields := [], ftypes := [], zero := [], eq := none, ik := none, str := false, u8 := false, iface := false, bool := false }
def ti2 : TI := { size := 1, bytes := 8, agg := false, slice := none, elem := 0, ez := [], fields := [], ftypes := [], zero := [.c (.int .i64 0)], eq := some [.int .i64], ik := some .i64, str := false, u8 := false, iface := false, bool := false } -- int64
def ti3 : TI := { size := 1, bytes := 8, agg := false, slice := none, elem := 0, ez := [], fields := [], ftypes := [], zero := [.c (.int .i64 0)], eq := some [.int .i64], ik := some .i64, str := false, u8 := false, iface := false, bool := false } -- int
def ti4 : TI := { size := 1, bytes := 1, agg := false, slice := none, elem := 0, ez := [], fields := [], ftypes := [], zero := [.c (.bool false)], eq := some [.bool], ik := none, str := false, u8 := false, iface := false, bool := true } -- bool
def ti5 : TI := { size := 1, bytes := 1, agg := false, slice := none, elem := 0, ez := [], fields := [], ftypes := [], zero := [.c (.int .u8 0)], eq := some [.int .u8], ik := some .u8, str := false, u8 := false, iface := false, bool := false } -- uint8
def ti7 : TI := { size := 4, bytes := 24, agg := true, slice := none, elem := 0, ez := [], fields := [(0, 1, false), (1, 1, false), (2, 1, false), (3, 1, false)], ftypes := [2, 3, 4, 6], zero := [.c (.int .i64 0), .c (.int .i64 0), .c (.bool false), .c (.int .u8 0)], eq := some [.int .i64, .int .i64, .bool, .int .u8], ik := none, str := false, u8 := false, iface := false, bool := false } -- struct 
def ti9 : TI := { size := 1, bytes := 16, agg := false, slice := none, elem := 0, ez := [], fields := [], ftypes := [], zero := [.c (.str ⟨#[]⟩)], eq := some [.str], ik := none, str := true, u8 := false, iface := false, bool := false } -- string
def ti12 : TI := { size := 1, bytes := 8, agg := false, slice := none, elem := 0, ez := [], fields := [], ftypes := [], zero := [.c (.int .u64 0)], eq := some [.int .u64], ik := some .u64, str := false, u8 := false, iface := false, bool := false } -- uintptr
def ti20 : TI := { size := 1, bytes := 16, agg := false, slice := none, elem := 0, ez := [], fields := [], ftypes := [], zero := [.c (.iface true)], eq := none, ik := none, str := false, u8 := false, iface := true, bool := false } -- interface 
def ti21 : TI := { size := 1, bytes := 4, agg := false, slice := none, elem := 0, ez := [], fields := [], ftypes := [], zero := [.c (.int .i32 0)], eq := some [.int .i32], ik := some .i32, str := false, u8 := false, iface := false, bool := false } -- int32
def ti22 : TI := { size := 1, bytes := 24, agg := false, slice := some (2, 40), elem := 133, ez := [.str ⟨#[]⟩, .slice 1 []], fields := [], ftypes := [], zero := [.nil 2], eq := none, ik := none, str := false, u8 := false, iface := false, bool := false } -- []laws.NamedComplex
def ti23 : TI := { size := 1, bytes := 24, agg := false, slice := some (5, 96), elem := 136, ez := [.str ⟨#[]⟩, .slice 1 [], .int .i64 0, .slice 1 [], .slice 4 []], fields := [], ftypes := [], zero := [.nil 5], eq := none, ik := none, str := false, u8 := false, iface := false, bool := false } -- []laws.NamedSheaf
def ti24 : TI := { size := 2, bytes := 48, agg := true, slice := none, elem := 0, ez := [], fields := [(0, 1, false), (1, 1, false)], ftypes := [22, 23], zero := [.nil 2, .nil 5], eq := none, ik := none, str := false, u8 := false, iface := false, bool := false } -- struct 
def ti25 : TI := { size := 2, bytes := 48, agg := true, slice := none, elem := 0, ez := [], fields := [(0, 1, false), (1, 1, false)], ftypes := [22, 23], zero := [.nil 2, .nil 5], eq := none, ik := none, str := false, u8 := false, iface := false, bool := false } -- laws.World
def ti28 : TI := { size := 1, bytes := 24, agg := false, slice := some (2, 40), elem := 81, ez := [.str ⟨#[]⟩, .slice 1 []], fields := [], ftypes := [], zero := [.nil 2], eq := none, ik := none, str := false, u8 := false, iface := false, bool := false } -- []impl.NamedComplex
def ti29 : TI := { size := 1, bytes := 24, agg := false, slice := some (5, 96), elem := 86, ez := [.str ⟨#[]⟩, .slice 1 [], .int .i64 0, .slice 1 [], .slice 4 []], fields := [], ftypes := [], zero := [.nil 5], eq := none, ik := none, str := false, u8 := false, iface := false, bool := false } -- []impl.NamedSheaf
def ti30 : TI := { size := 2, bytes := 48, agg := true, slice := none, elem := 0, ez := [], fields := [(0, 1, false), (1, 1, false)], ftypes := [28, 29], zero := [.nil 2, .nil 5], eq := none, ik := none, str := false, u8 := false, iface := false, bool := false } -- struct 
def ti31 : TI := { size := 2, bytes := 48, agg := true, slice := none, elem := 0, ez := [], fields := [(0, 1, false), (1, 1, false)], ftypes := [28, 29], zero := [.nil 2, .nil 5], eq := none, ik := none, str := false, u8 := false, iface := false, bool := false } -- impl.World
def ti35 : TI := { size := 1, bytes := 24, agg := false, slice := some (1, 24), elem := 44, ez := [.slice 1 []], fields := [], ftypes := [], zero := [.nil 1], eq := none, ik := none, str := false, u8 := false, iface := false, bool := false } -- [][]int64
def ti36 : TI := { size := 1, bytes := 24, agg := true, slice := none, elem := 0, ez := [], fields := [(0, 1, false)], ftypes := [35], zero := [.nil 1], eq := none, ik := none, str := false, u8 := false, iface := false, bool := false } -- struct 
def ti37 : TI := { size := 1, bytes := 24, agg := true, slice := none, elem := 0, ez := [], fields := [(0, 1, false)], ftypes := [35], zero := [.nil 1], eq := none, ik := none, str := false, u8 := false, iface := false, bool := false } -- impl.Complex
def ti44 : TI := { size := 1, bytes := 24, agg := false, slice := some (1, 8), elem := 2, ez := [.int .i64 0], fields := [], ftypes := [], zero := [.nil 1], eq := none, ik := none, str := false, u8 := false, iface := false, bool := false } -- []int64
def ti45 : TI := { size := 1, bytes := 24, agg := false, slice := some (4, 48), elem := 161, ez := [.int .i64 0, .int .i64 0, .int .i64 0, .slice 1 []], fields := [], ftypes := [], zero := [.nil 4], eq := none, ik := none, str := false, u8 := false, iface := false, bool := false } -- []impl.Matrix
def ti46 : TI := { size := 4, bytes := 80, agg := true, slice := none, elem := 0, ez := [], fields := [(0, 1, true), (1, 1, false), (2, 1, false), (3, 1, false)], ftypes := [37, 2, 44, 45], zero := [.nil 1, .c (.int .i64 0), .nil 1, .nil 4], eq := none, ik := none, str := false, u8 := false, iface := false, bool := false } -- struct 
def ti47 : TI := { size := 4, bytes := 80, agg := true, slice := none, elem := 0, ez := [], fields := [(0, 1, true), (1, 1, false), (2, 1, false), (3, 1, false)], ftypes := [37, 2, 44, 45], zero := [.nil 1, .c (.int .i64 0), .nil 1, .nil 4], eq := none, ik := none, str := false, u8 := false, iface := false, bool := false } -- impl.Sheaf
def ti54 : TI := { size := 1, bytes := 24, agg := true, slice := none, elem := 0, ez := [], fields := [(0, 1, false)], ftypes := [35], zero := [.nil 1], eq := none, ik := none, str := false, u8 := false, iface := false, bool := false } -- laws.Complex
def ti55 : TI := { size := 1, bytes := 24, agg := false, slice := some (4, 48), elem := 167, ez := [.int .i64 0, .int .i64 0, .int .i64 0, .slice 1 []], fields := [], ftypes := [], zero := [.nil 4], eq := none, ik := none, str := false, u8 := false, iface := false, bool := false } -- []laws.Matrix
def ti56 : TI := { size := 4, bytes := 80, agg := true, slice := none, elem := 0, ez := [], fields := [(0, 1, true), (1, 1, false), (2, 1, false), (3, 1, false)], ftypes := [54, 2, 44, 55], zero := [.nil 1, .c (.int .i64 0), .nil 1, .nil 4], eq := none, ik := none, str := false, u8 := false, iface := false, bool := false } -- struct 
def ti57 : TI := { size := 4, bytes := 80, agg := true, slice := none, elem := 0, ez := [], fields := [(0, 1, true), (1, 1, false), (2, 1, false), (3, 1, false)], ftypes := [54, 2, 44, 55], zero := [.nil 1, .c (.int .i64 0), .nil 1, .nil 4], eq := none, ik := none, str := false, u8 := false, iface := false, bool := false } -- laws.Sheaf
def ti69 : TI := { size := 1, bytes := 8, agg := false, slice := none, elem := 0, ez := [], fields := [], ftypes := [], zero := [], eq := none, ik := none, str := false, u8 := false, iface := false, bool := false } -- *impl.World
def ti72 : TI := { size := 1, bytes := 24, agg := false, slice := some (1, 16), elem := 9, ez := [.str ⟨#[]⟩], fields := [], ftypes := [], zero := [.nil 1], eq := none, ik := none, str := false, u8 := false, iface := false, bool := false } -- []string
def ti80 : TI := { size := 2, bytes := 40, agg := true, slice := none, elem := 0, ez := [], fields := [(0, 1, false), (1, 1, true)], ftypes := [9, 37], zero := [.c (.str ⟨#[]⟩), .nil 1], eq := none, ik := none, str := false, u8 := false, iface := false, bool := false } -- struct 
def ti81 : TI := { size := 2, bytes := 40, agg := true, slice := none, elem := 0, ez := [], fields := [(0, 1, false), (1, 1, true)], ftypes := [9, 37], zero := [.c (.str ⟨#[]⟩), .nil 1], eq := none, ik := none, str := false, u8 := false, iface := false, bool := false } -- impl.NamedComplex
def ti85 : TI := { size := 5, bytes := 96, agg := true, slice := none, elem := 0, ez := [], fields := [(0, 1, false), (1, 4, true)], ftypes := [9, 47], zero := [.c (.str ⟨#[]⟩), .nil 1, .c (.int .i64 0), .nil 1, .nil 4], eq := none, ik := none, str := false, u8 := false, iface := false, bool := false } -- struct 
def ti86 : TI := { size := 5, bytes := 96, agg := true, slice := none, elem := 0, ez := [], fields := [(0, 1, false), (1, 4, true)], ftypes := [9, 47], zero := [.c (.str ⟨#[]⟩), .nil 1, .c (.int .i64 0), .nil 1, .nil 4], eq := none, ik := none, str := false, u8 := false, iface := false, bool := false } -- impl.NamedSheaf
def ti93 : TI := { size := 1, bytes := 8, agg := false, slice := none, elem := 0, ez := [], fields := [], ftypes := [], zero := [], eq := none, ik := none, str := false, u8 := false, iface := false, bool := false } -- *impl.Complex
def ti102 : TI := { size := 1, bytes := 8, agg := false, slice := none, elem := 0, ez := [], fields := [], ftypes := [], zero := [], eq := none, ik := none, str := false, u8 := false, iface := false, bool := false } -- *impl.Sheaf
def ti113 : TI := { size := 1, bytes := 8, agg := false, slice := none, elem := 0, ez := [], fields := [], ftypes := [], zero := [], eq := none, ik := none, str := false, u8 := false, iface := false, bool := false } -- *spec.l17Search
def ti122 : TI := { size := 1, bytes := 8, agg := false, slice := none, elem := 0, ez := [], fields := [], ftypes := [], zero := [], eq := none, ik := none, str := false, u8 := false, iface := false, bool := false } -- *impl.agreer
def ti123 : TI := { size := 2, bytes := 16, agg := true, slice := none, elem := 0, ez := [], fields := [(0, 1, false), (1, 1, false)], ftypes := [2, 4], zero := [.c (.int .i64 0), .c (.bool false)], eq := some [.int .i64, .bool], ik := none, str := false, u8 := false, iface := false, bool := false } -- struct 
def ti124 : TI := { size := 2, bytes := 16, agg := true, slice := none, elem := 0, ez := [], fields := [(0, 1, false), (1, 1, false)], ftypes := [2, 4], zero := [.c (.int .i64 0), .c (.bool false)], eq := some [.int .i64, .bool], ik := none, str := false, u8 := false, iface := false, bool := false } -- impl.counter
def ti128 : TI := { size := 9, bytes := 152, agg := true, slice := none, elem := 0, ez := [], fields := [(0, 2, true), (2, 4, true), (6, 1, false), (7, 1, false), (8, 1, false)], ftypes := [124, 47, 44, 2, 44], zero := [.c (.int .i64 0), .c (.bool false), .nil 1, .c (.int .i64 0), .nil 1, .nil 4, .nil 1, .c (.int .i64 0), .nil 1], eq := none, ik := none, str := false, u8 := false, iface := false, bool := false } -- struct 
def ti129 : TI := { size := 9, bytes := 152, agg := true, slice := none, elem := 0, ez := [], fields := [(0, 2, true), (2, 4, true), (6, 1, false), (7, 1, false), (8, 1, false)], ftypes := [124, 47, 44, 2, 44], zero := [.c (.int .i64 0), .c (.bool false), .nil 1, .c (.int .i64 0), .nil 1, .nil 4, .nil 1, .c (.int .i64 0), .nil 1], eq := none, ik := none, str := false, u8 := false, iface := false, bool := false } -- impl.agreer
def ti132 : TI := { size := 2, bytes := 40, agg := true, slice := none, elem := 0, ez := [], fields := [(0, 1, false), (1, 1, true)], ftypes := [9, 54], zero := [.c (.str ⟨#[]⟩), .nil 1], eq := none, ik := none, str := false, u8 := false, iface := false, bool := false } -- struct 
def ti133 : TI := { size := 2, bytes := 40, agg := true, slice := none, elem := 0, ez := [], fields := [(0, 1, false), (1, 1, true)], ftypes := [9, 54], zero := [.c (.str ⟨#[]⟩), .nil 1], eq := none, ik := none, str := false, u8 := false, iface := false, bool := false } -- laws.NamedComplex
def ti135 : TI := { size := 5, bytes := 96, agg := true, slice := none, elem := 0, ez := [], fields := [(0, 1, false), (1, 4, true)], ftypes := [9, 57], zero := [.c (.str ⟨#[]⟩), .nil 1, .c (.int .i64 0), .nil 1, .nil 4], eq := none, ik := none, str := false, u8 := false, iface := false, bool := false } -- struct 
def ti136 : TI := { size := 5, bytes := 96, agg := true, slice := none, elem := 0, ez := [], fields := [(0, 1, false), (1, 4, true)], ftypes := [9, 57], zero := [.c (.str ⟨#[]⟩), .nil 1, .c (.int .i64 0), .nil 1, .nil 4], eq := none, ik := none, str := false, u8 := false, iface := false, bool := false } -- laws.NamedSheaf
def ti160 : TI := { size := 4, bytes := 48, agg := true, slice := none, elem := 0, ez := [], fields := [(0, 1, false), (1, 1, false), (2, 1, false), (3, 1, false)], ftypes := [2, 2, 2, 44], zero := [.c (.int .i64 0), .c (.int .i64 0), .c (.int .i64 0), .nil 1], eq := none, ik := none, str := false, u8 := false, iface := false, bool := false } -- struct 
def ti161 : TI := { size := 4, bytes := 48, agg := true, slice := none, elem := 0, ez := [], fields := [(0, 1, false), (1, 1, false), (2, 1, false), (3, 1, false)], ftypes := [2, 2, 2, 44], zero := [.c (.int .i64 0), .c (.int .i64 0), .c (.int .i64 0), .nil 1], eq := none, ik := none, str := false, u8 := false, iface := false, bool := false } -- impl.Matrix
def ti167 : TI := { size := 4, bytes := 48, agg := true, slice := none, elem := 0, ez := [], fields := [(0, 1, false), (1, 1, false), (2, 1, false), (3, 1, false)], ftypes := [2, 2, 2, 44], zero := [.c (.int .i64 0), .c (.int .i64 0), .c (.int .i64 0), .nil 1], eq := none, ik := none, str := false, u8 := false, iface := false, bool := false } -- laws.Matrix
def ti172 : TI := { size := 1, bytes := 8, agg := false, slice := none, elem := 0, ez := [], fields := [], ftypes := [], zero := [], eq := none, ik := none, str := false, u8 := false, iface := false, bool := false } -- *impl.Matrix
def ti190 : TI := { size := 1, bytes := 24, agg := false, slice := some (1, 1), elem := 5, ez := [.int .u8 0], fields := [], ftypes := [], zero := [.nil 1], eq := none, ik := none, str := false, u8 := true, iface := false, bool := false } -- []uint8
def ti197 : TI := { size := 1, bytes := 24, agg := false, slice := some (3, 24), elem := 200, ez := [.int .i64 0, .int .i64 0, .int .i64 0], fields := [], ftypes := [], zero := [.nil 3], eq := none, ik := none, str := false, u8 := false, iface := false, bool := false } -- []impl.arrow
def ti199 : TI := { size := 3, bytes := 24, agg := true, slice := none, elem := 0, ez := [], fields := [(0, 1, false), (1, 1, false), (2, 1, false)], ftypes := [2, 2, 2], zero := [.c (.int .i64 0), .c (.int .i64 0), .c (.int .i64 0)], eq := some [.int .i64, .int .i64, .int .i64], ik := none, str := false, u8 := false, iface := false, bool := false } -- struct 
def ti200 : TI := { size := 3, bytes := 24, agg := true, slice := none, elem := 0, ez := [], fields := [(0, 1, false), (1, 1, false), (2, 1, false)], ftypes := [2, 2, 2], zero := [.c (.int .i64 0), .c (.int .i64 0), .c (.int .i64 0)], eq := some [.int .i64, .int .i64, .int .i64], ik := none, str := false, u8 := false, iface := false, bool := false } -- impl.arrow
def ti204 : TI := { size := 1, bytes := 8, agg := false, slice := none, elem := 0, ez := [], fields := [], ftypes := [], zero := [.c (.int .u64 0)], eq := some [.int .u64], ik := some .u64, str := false, u8 := false, iface := false, bool := false } -- uint
def ti217 : TI := { size := 1, bytes := 8, agg := false, slice := none, elem := 0, ez := [], fields := [], ftypes := [], zero := [], eq := none, ik := none, str := false, u8 := false, iface := false, bool := false } -- *impl.counter
def ti225 : TI := { size := 1, bytes := 24, agg := false, slice := some (1, 8), elem := 3, ez := [.int .i64 0], fields := [], ftypes := [], zero := [.nil 1], eq := none, ik := none, str := false, u8 := false, iface := false, bool := false } -- []int
def ti243 : TI := { size := 1, bytes := 4, agg := false, slice := none, elem := 0, ez := [], fields := [], ftypes := [], zero := [.c (.int .u32 0)], eq := some [.int .u32], ik := some .u32, str := false, u8 := false, iface := false, bool := false } -- uint32
def ti247 : TI := { size := 1, bytes := 8, agg := false, slice := none, elem := 0, ez := [], fields := [], ftypes := [], zero := [], eq := none, ik := none, str := false, u8 := false, iface := false, bool := false } -- *uint8
def tt (t : Nat) : TI := match Nat.blt t 72 with
  | true => (match Nat.blt t 29 with
    | true => (match Nat.blt t 20 with
      | true => (match Nat.blt t 5 with
        | true => (match Nat.blt t 3 with
          | true => (match Nat.beq t 2 with | true => ti2 | false => tid)
          | false => (match Nat.blt t 4 with
            | true => (match Nat.beq t 3 with | true => ti3 | false => tid)
            | false => (match Nat.beq t 4 with | true => ti4 | false => tid)))
        | false => (match Nat.blt t 9 with
          | true => (match Nat.blt t 7 with
            | true => (match Nat.beq t 5 with | true => ti5 | false => tid)
            | false => (match Nat.beq t 7 with | true => ti7 | false => tid))
          | false => (match Nat.blt t 12 with
            | true => (match Nat.beq t 9 with | true => ti9 | false => tid)
            | false => (match Nat.beq t 12 with | true => ti12 | false => tid))))
      | false => (match Nat.blt t 23 with
        | true => (match Nat.blt t 21 with
          | true => (match Nat.beq t 20 with | true => ti20 | false => tid)
          | false => (match Nat.blt t 22 with
            | true => (match Nat.beq t 21 with | true => ti21 | false => tid)
            | false => (match Nat.beq t 22 with | true => ti22 | false => tid)))
        | false => (match Nat.blt t 25 with
          | true => (match Nat.blt t 24 with
            | true => (match Nat.beq t 23 with | true => ti23 | false => tid)
            | false => (match Nat.beq t 24 with | true => ti24 | false => tid))
          | false => (match Nat.blt t 28 with
            | true => (match Nat.beq t 25 with | true => ti25 | false => tid)
            | false => (match Nat.beq t 28 with | true => ti28 | false => tid)))))
    | false => (match Nat.blt t 45 with
      | true => (match Nat.blt t 35 with
        | true => (match Nat.blt t 30 with
          | true => (match Nat.beq t 29 with | true => ti29 | false => tid)
          | false => (match Nat.blt t 31 with
            | true => (match Nat.beq t 30 with | true => ti30 | false => tid)
            | false => (match Nat.beq t 31 with | true => ti31 | false => tid)))
        | false => (match Nat.blt t 37 with
          | true => (match Nat.blt t 36 with
            | true => (match Nat.beq t 35 with | true => ti35 | false => tid)
            | false => (match Nat.beq t 36 with | true => ti36 | false => tid))
          | false => (match Nat.blt t 44 with
            | true => (match Nat.beq t 37 with | true => ti37 | false => tid)
            | false => (match Nat.beq t 44 with | true => ti44 | false => tid))))
      | false => (match Nat.blt t 55 with
        | true => (match Nat.blt t 47 with
          | true => (match Nat.blt t 46 with
            | true => (match Nat.beq t 45 with | true => ti45 | false => tid)
            | false => (match Nat.beq t 46 with | true => ti46 | false => tid))
          | false => (match Nat.blt t 54 with
            | true => (match Nat.beq t 47 with | true => ti47 | false => tid)
            | false => (match Nat.beq t 54 with | true => ti54 | false => tid)))
        | false => (match Nat.blt t 57 with
          | true => (match Nat.blt t 56 with
            | true => (match Nat.beq t 55 with | true => ti55 | false => tid)
            | false => (match Nat.beq t 56 with | true => ti56 | false => tid))
          | false => (match Nat.blt t 69 with
            | true => (match Nat.beq t 57 with | true => ti57 | false => tid)
            | false => (match Nat.beq t 69 with | true => ti69 | false => tid))))))
  | false => (match Nat.blt t 135 with
    | true => (match Nat.blt t 113 with
      | true => (match Nat.blt t 85 with
        | true => (match Nat.blt t 80 with
          | true => (match Nat.beq t 72 with | true => ti72 | false => tid)
          | false => (match Nat.blt t 81 with
            | true => (match Nat.beq t 80 with | true => ti80 | false => tid)
            | false => (match Nat.beq t 81 with | true => ti81 | false => tid)))
        | false => (match Nat.blt t 93 with
          | true => (match Nat.blt t 86 with
            | true => (match Nat.beq t 85 with | true => ti85 | false => tid)
            | false => (match Nat.beq t 86 with | true => ti86 | false => tid))
          | false => (match Nat.blt t 102 with
            | true => (match Nat.beq t 93 with | true => ti93 | false => tid)
            | false => (match Nat.beq t 102 with | true => ti102 | false => tid))))
      | false => (match Nat.blt t 128 with
        | true => (match Nat.blt t 123 with
          | true => (match Nat.blt t 122 with
            | true => (match Nat.beq t 113 with | true => ti113 | false => tid)
            | false => (match Nat.beq t 122 with | true => ti122 | false => tid))
          | false => (match Nat.blt t 124 with
            | true => (match Nat.beq t 123 with | true => ti123 | false => tid)
            | false => (match Nat.beq t 124 with | true => ti124 | false => tid)))
        | false => (match Nat.blt t 132 with
          | true => (match Nat.blt t 129 with
            | true => (match Nat.beq t 128 with | true => ti128 | false => tid)
            | false => (match Nat.beq t 129 with | true => ti129 | false => tid))
          | false => (match Nat.blt t 133 with
            | true => (match Nat.beq t 132 with | true => ti132 | false => tid)
            | false => (match Nat.beq t 133 with | true => ti133 | false => tid)))))
    | false => (match Nat.blt t 197 with
      | true => (match Nat.blt t 161 with
        | true => (match Nat.blt t 136 with
          | true => (match Nat.beq t 135 with | true => ti135 | false => tid)
          | false => (match Nat.blt t 160 with
            | true => (match Nat.beq t 136 with | true => ti136 | false => tid)
            | false => (match Nat.beq t 160 with | true => ti160 | false => tid)))
        | false => (match Nat.blt t 172 with
          | true => (match Nat.blt t 167 with
            | true => (match Nat.beq t 161 with | true => ti161 | false => tid)
            | false => (match Nat.beq t 167 with | true => ti167 | false => tid))
          | false => (match Nat.blt t 190 with
            | true => (match Nat.beq t 172 with | true => ti172 | false => tid)
            | false => (match Nat.beq t 190 with | true => ti190 | false => tid))))
      | false => (match Nat.blt t 217 with
        | true => (match Nat.blt t 200 with
          | true => (match Nat.blt t 199 with
            | true => (match Nat.beq t 197 with | true => ti197 | false => tid)
            | false => (match Nat.beq t 199 with | true => ti199 | false => tid))
          | false => (match Nat.blt t 204 with
            | true => (match Nat.beq t 200 with | true => ti200 | false => tid)
            | false => (match Nat.beq t 204 with | true => ti204 | false => tid)))
        | false => (match Nat.blt t 243 with
          | true => (match Nat.blt t 225 with
            | true => (match Nat.beq t 217 with | true => ti217 | false => tid)
            | false => (match Nat.beq t 225 with | true => ti225 | false => tid))
          | false => (match Nat.blt t 247 with
            | true => (match Nat.beq t 243 with | true => ti243 | false => tid)
            | false => (match Nat.beq t 247 with | true => ti247 | false => tid))))))
end Go.Proofs.YtlnjgoeicanehaaGreat.Pi
