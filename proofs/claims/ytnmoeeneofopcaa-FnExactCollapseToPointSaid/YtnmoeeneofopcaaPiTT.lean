/- The table of the types, as the program has them. -/
import Derived.Test.YtnmoeeneofopcaaPiA
namespace Go.Proofs.Ytnmoeeneofopcaa.Pi
open Go
def tid : TI := { size := 0, bytes := 0, agg := false, slice := none, elem := 0, ez := [], fields := [], ftypes := [], zero := [], eq := none, ik := none, str := false, u8 := false, iface := false, bool := false }
def ti2 : TI := { size := 1, bytes := 8, agg := false, slice := none, elem := 0, ez := [], fields := [], ftypes := [], zero := [.c (.int .i64 0)], eq := some [.int .i64], ik := some .i64, str := false, u8 := false, iface := false, bool := false } -- int64
def ti3 : TI := { size := 1, bytes := 8, agg := false, slice := none, elem := 0, ez := [], fields := [], ftypes := [], zero := [.c (.int .i64 0)], eq := some [.int .i64], ik := some .i64, str := false, u8 := false, iface := false, bool := false } -- int
def ti4 : TI := { size := 1, bytes := 1, agg := false, slice := none, elem := 0, ez := [], fields := [], ftypes := [], zero := [.c (.bool false)], eq := some [.bool], ik := none, str := false, u8 := false, iface := false, bool := true } -- bool
def ti5 : TI := { size := 1, bytes := 1, agg := false, slice := none, elem := 0, ez := [], fields := [], ftypes := [], zero := [.c (.int .u8 0)], eq := some [.int .u8], ik := some .u8, str := false, u8 := false, iface := false, bool := false } -- uint8
def ti7 : TI := { size := 4, bytes := 24, agg := true, slice := none, elem := 0, ez := [], fields := [(0, 1, false), (1, 1, false), (2, 1, false), (3, 1, false)], ftypes := [2, 3, 4, 6], zero := [.c (.int .i64 0), .c (.int .i64 0), .c (.bool false), .c (.int .u8 0)], eq := some [.int .i64, .int .i64, .bool, .int .u8], ik := none, str := false, u8 := false, iface := false, bool := false } -- struct 
def ti9 : TI := { size := 1, bytes := 16, agg := false, slice := none, elem := 0, ez := [], fields := [], ftypes := [], zero := [.c (.str ⟨#[]⟩)], eq := some [.str], ik := none, str := true, u8 := false, iface := false, bool := false } -- string
def ti12 : TI := { size := 1, bytes := 8, agg := false, slice := none, elem := 0, ez := [], fields := [], ftypes := [], zero := [.c (.int .u64 0)], eq := some [.int .u64], ik := some .u64, str := false, u8 := false, iface := false, bool := false } -- uintptr
def ti18 : TI := { size := 1, bytes := 8, agg := true, slice := none, elem := 0, ez := [], fields := [(0, 1, false)], ftypes := [17], zero := [.c (.ptr 0 [])], eq := none, ik := none, str := false, u8 := false, iface := false, bool := false } -- struct 
def ti20 : TI := { size := 1, bytes := 16, agg := false, slice := none, elem := 0, ez := [], fields := [], ftypes := [], zero := [.c (.iface true)], eq := none, ik := none, str := false, u8 := false, iface := true, bool := false } -- interface 
def ti21 : TI := { size := 1, bytes := 4, agg := false, slice := none, elem := 0, ez := [], fields := [], ftypes := [], zero := [.c (.int .i32 0)], eq := some [.int .i32], ik := some .i32, str := false, u8 := false, iface := false, bool := false } -- int32
def ti22 : TI := { size := 1, bytes := 24, agg := false, slice := some (1, 24), elem := 61, ez := [.slice 1 []], fields := [], ftypes := [], zero := [.nil 1], eq := none, ik := none, str := false, u8 := false, iface := false, bool := false } -- [][]int64
def ti23 : TI := { size := 1, bytes := 24, agg := true, slice := none, elem := 0, ez := [], fields := [(0, 1, false)], ftypes := [22], zero := [.nil 1], eq := none, ik := none, str := false, u8 := false, iface := false, bool := false } -- struct 
def ti24 : TI := { size := 1, bytes := 24, agg := true, slice := none, elem := 0, ez := [], fields := [(0, 1, false)], ftypes := [22], zero := [.nil 1], eq := none, ik := none, str := false, u8 := false, iface := false, bool := false } -- laws.Complex
def ti28 : TI := { size := 1, bytes := 24, agg := true, slice := none, elem := 0, ez := [], fields := [(0, 1, false)], ftypes := [22], zero := [.nil 1], eq := none, ik := none, str := false, u8 := false, iface := false, bool := false } -- impl.Complex
def ti35 : TI := { size := 1, bytes := 24, agg := false, slice := some (2, 48), elem := 84, ez := [.slice 1 [], .slice 1 []], fields := [], ftypes := [], zero := [.nil 2], eq := none, ik := none, str := false, u8 := false, iface := false, bool := false } -- []laws.Table
def ti38 : TI := { size := 1, bytes := 24, agg := false, slice := some (2, 48), elem := 87, ez := [.slice 1 [], .slice 1 []], fields := [], ftypes := [], zero := [.nil 2], eq := none, ik := none, str := false, u8 := false, iface := false, bool := false } -- []impl.Table
def ti43 : TI := { size := 1, bytes := 24, agg := false, slice := some (1, 1), elem := 5, ez := [.int .u8 0], fields := [], ftypes := [], zero := [.nil 1], eq := none, ik := none, str := false, u8 := true, iface := false, bool := false } -- []uint8
def ti45 : TI := { size := 1, bytes := 24, agg := false, slice := some (3, 24), elem := 110, ez := [.int .i64 0, .int .i64 0, .int .i64 0], fields := [], ftypes := [], zero := [.nil 3], eq := none, ik := none, str := false, u8 := false, iface := false, bool := false } -- []impl.Edge
def ti46 : TI := { size := 2, bytes := 32, agg := true, slice := none, elem := 0, ez := [], fields := [(0, 1, false), (1, 1, false)], ftypes := [2, 45], zero := [.c (.int .i64 0), .nil 3], eq := none, ik := none, str := false, u8 := false, iface := false, bool := false } -- struct 
def ti47 : TI := { size := 2, bytes := 32, agg := true, slice := none, elem := 0, ez := [], fields := [(0, 1, false), (1, 1, false)], ftypes := [2, 45], zero := [.c (.int .i64 0), .nil 3], eq := none, ik := none, str := false, u8 := false, iface := false, bool := false } -- impl.Graph
def ti61 : TI := { size := 1, bytes := 24, agg := false, slice := some (1, 8), elem := 2, ez := [.int .i64 0], fields := [], ftypes := [], zero := [.nil 1], eq := none, ik := none, str := false, u8 := false, iface := false, bool := false } -- []int64
def ti66 : TI := { size := 1, bytes := 8, agg := false, slice := none, elem := 0, ez := [], fields := [], ftypes := [], zero := [.c (.ptr 0 [])], eq := none, ik := none, str := false, u8 := false, iface := false, bool := false } -- *impl.Complex
def ti68 : TI := { size := 1, bytes := 8, agg := false, slice := none, elem := 0, ez := [], fields := [], ftypes := [], zero := [.c (.ptr 0 [])], eq := none, ik := none, str := false, u8 := false, iface := false, bool := false } -- *spec.l08Fall
def ti69 : TI := { size := 4, bytes := 48, agg := true, slice := none, elem := 0, ez := [], fields := [(0, 1, false), (1, 1, false), (2, 1, false), (3, 1, false)], ftypes := [22, 2, 2, 4], zero := [.nil 1, .c (.int .i64 0), .c (.int .i64 0), .c (.bool false)], eq := none, ik := none, str := false, u8 := false, iface := false, bool := false } -- struct 
def ti70 : TI := { size := 4, bytes := 48, agg := true, slice := none, elem := 0, ez := [], fields := [(0, 1, false), (1, 1, false), (2, 1, false), (3, 1, false)], ftypes := [22, 2, 2, 4], zero := [.nil 1, .c (.int .i64 0), .c (.int .i64 0), .c (.bool false)], eq := none, ik := none, str := false, u8 := false, iface := false, bool := false } -- spec.l08Fall
def ti75 : TI := { size := 1, bytes := 8, agg := false, slice := none, elem := 0, ez := [], fields := [], ftypes := [], zero := [.c (.ptr 0 [])], eq := none, ik := none, str := false, u8 := false, iface := false, bool := false } -- *impl.collapser
def ti76 : TI := { size := 2, bytes := 16, agg := true, slice := none, elem := 0, ez := [], fields := [(0, 1, false), (1, 1, false)], ftypes := [2, 4], zero := [.c (.int .i64 0), .c (.bool false)], eq := some [.int .i64, .bool], ik := none, str := false, u8 := false, iface := false, bool := false } -- struct 
def ti77 : TI := { size := 2, bytes := 16, agg := true, slice := none, elem := 0, ez := [], fields := [(0, 1, false), (1, 1, false)], ftypes := [2, 4], zero := [.c (.int .i64 0), .c (.bool false)], eq := some [.int .i64, .bool], ik := none, str := false, u8 := false, iface := false, bool := false } -- impl.counter
def ti78 : TI := { size := 3, bytes := 40, agg := true, slice := none, elem := 0, ez := [], fields := [(0, 2, true), (2, 1, false)], ftypes := [77, 22], zero := [.c (.int .i64 0), .c (.bool false), .nil 1], eq := none, ik := none, str := false, u8 := false, iface := false, bool := false } -- struct 
def ti79 : TI := { size := 3, bytes := 40, agg := true, slice := none, elem := 0, ez := [], fields := [(0, 2, true), (2, 1, false)], ftypes := [77, 22], zero := [.c (.int .i64 0), .c (.bool false), .nil 1], eq := none, ik := none, str := false, u8 := false, iface := false, bool := false } -- impl.collapser
def ti83 : TI := { size := 2, bytes := 48, agg := true, slice := none, elem := 0, ez := [], fields := [(0, 1, false), (1, 1, false)], ftypes := [61, 22], zero := [.nil 1, .nil 1], eq := none, ik := none, str := false, u8 := false, iface := false, bool := false } -- struct 
def ti84 : TI := { size := 2, bytes := 48, agg := true, slice := none, elem := 0, ez := [], fields := [(0, 1, false), (1, 1, false)], ftypes := [61, 22], zero := [.nil 1, .nil 1], eq := none, ik := none, str := false, u8 := false, iface := false, bool := false } -- laws.Table
def ti87 : TI := { size := 2, bytes := 48, agg := true, slice := none, elem := 0, ez := [], fields := [(0, 1, false), (1, 1, false)], ftypes := [61, 22], zero := [.nil 1, .nil 1], eq := none, ik := none, str := false, u8 := false, iface := false, bool := false } -- impl.Table
def ti89 : TI := { size := 1, bytes := 8, agg := false, slice := none, elem := 0, ez := [], fields := [], ftypes := [], zero := [.c (.ptr 0 [])], eq := none, ik := none, str := false, u8 := false, iface := false, bool := false } -- *impl.Table
def ti91 : TI := { size := 1, bytes := 8, agg := false, slice := none, elem := 0, ez := [], fields := [], ftypes := [], zero := [.c (.ptr 0 [])], eq := none, ik := none, str := false, u8 := false, iface := false, bool := false } -- *impl.globalizer
def ti95 : TI := { size := 6, bytes := 112, agg := true, slice := none, elem := 0, ez := [], fields := [(0, 2, true), (2, 1, false), (3, 1, false), (4, 1, false), (5, 1, false)], ftypes := [77, 38, 61, 61, 22], zero := [.c (.int .i64 0), .c (.bool false), .nil 2, .nil 1, .nil 1, .nil 1], eq := none, ik := none, str := false, u8 := false, iface := false, bool := false } -- struct 
def ti96 : TI := { size := 6, bytes := 112, agg := true, slice := none, elem := 0, ez := [], fields := [(0, 2, true), (2, 1, false), (3, 1, false), (4, 1, false), (5, 1, false)], ftypes := [77, 38, 61, 61, 22], zero := [.c (.int .i64 0), .c (.bool false), .nil 2, .nil 1, .nil 1, .nil 1], eq := none, ik := none, str := false, u8 := false, iface := false, bool := false } -- impl.globalizer
def ti100 : TI := { size := 1, bytes := 8, agg := false, slice := none, elem := 0, ez := [], fields := [], ftypes := [], zero := [.c (.ptr 0 [])], eq := none, ik := none, str := false, u8 := false, iface := false, bool := false } -- *spec.l00Src
def ti105 : TI := { size := 1, bytes := 8, agg := false, slice := none, elem := 0, ez := [], fields := [], ftypes := [], zero := [.c (.ptr 0 [])], eq := none, ik := none, str := false, u8 := false, iface := false, bool := false } -- *impl.planner
def ti106 : TI := { size := 5, bytes := 72, agg := true, slice := none, elem := 0, ez := [], fields := [(0, 2, true), (2, 2, true), (4, 1, false)], ftypes := [77, 47, 22], zero := [.c (.int .i64 0), .c (.bool false), .c (.int .i64 0), .nil 3, .nil 1], eq := none, ik := none, str := false, u8 := false, iface := false, bool := false } -- struct 
def ti107 : TI := { size := 5, bytes := 72, agg := true, slice := none, elem := 0, ez := [], fields := [(0, 2, true), (2, 2, true), (4, 1, false)], ftypes := [77, 47, 22], zero := [.c (.int .i64 0), .c (.bool false), .c (.int .i64 0), .nil 3, .nil 1], eq := none, ik := none, str := false, u8 := false, iface := false, bool := false } -- impl.planner
def ti109 : TI := { size := 3, bytes := 24, agg := true, slice := none, elem := 0, ez := [], fields := [(0, 1, false), (1, 1, false), (2, 1, false)], ftypes := [2, 2, 2], zero := [.c (.int .i64 0), .c (.int .i64 0), .c (.int .i64 0)], eq := some [.int .i64, .int .i64, .int .i64], ik := none, str := false, u8 := false, iface := false, bool := false } -- struct 
def ti110 : TI := { size := 3, bytes := 24, agg := true, slice := none, elem := 0, ez := [], fields := [(0, 1, false), (1, 1, false), (2, 1, false)], ftypes := [2, 2, 2], zero := [.c (.int .i64 0), .c (.int .i64 0), .c (.int .i64 0)], eq := some [.int .i64, .int .i64, .int .i64], ik := none, str := false, u8 := false, iface := false, bool := false } -- impl.Edge
def ti116 : TI := { size := 1, bytes := 8, agg := false, slice := none, elem := 0, ez := [], fields := [], ftypes := [], zero := [.c (.ptr 0 [])], eq := none, ik := none, str := false, u8 := false, iface := false, bool := false } -- *impl.Graph
def ti122 : TI := { size := 1, bytes := 24, agg := false, slice := some (1, 8), elem := 3, ez := [.int .i64 0], fields := [], ftypes := [], zero := [.nil 1], eq := none, ik := none, str := false, u8 := false, iface := false, bool := false } -- []int
def ti135 : TI := { size := 1, bytes := 8, agg := false, slice := none, elem := 0, ez := [], fields := [], ftypes := [], zero := [.c (.ptr 0 [])], eq := none, ik := none, str := false, u8 := false, iface := false, bool := false } -- *spec.l20Search
def ti136 : TI := { size := 7, bytes := 120, agg := true, slice := none, elem := 0, ez := [], fields := [(0, 1, false), (1, 1, false), (2, 1, false), (3, 1, false), (4, 1, false), (5, 1, false), (6, 1, false)], ftypes := [38, 61, 61, 22, 2, 2, 4], zero := [.nil 2, .nil 1, .nil 1, .nil 1, .c (.int .i64 0), .c (.int .i64 0), .c (.bool false)], eq := none, ik := none, str := false, u8 := false, iface := false, bool := false } -- struct 
def ti137 : TI := { size := 7, bytes := 120, agg := true, slice := none, elem := 0, ez := [], fields := [(0, 1, false), (1, 1, false), (2, 1, false), (3, 1, false), (4, 1, false), (5, 1, false), (6, 1, false)], ftypes := [38, 61, 61, 22, 2, 2, 4], zero := [.nil 2, .nil 1, .nil 1, .nil 1, .c (.int .i64 0), .c (.int .i64 0), .c (.bool false)], eq := none, ik := none, str := false, u8 := false, iface := false, bool := false } -- spec.l20Search
def ti141 : TI := { size := 1, bytes := 8, agg := false, slice := none, elem := 0, ez := [], fields := [], ftypes := [], zero := [.c (.int .u64 0)], eq := some [.int .u64], ik := some .u64, str := false, u8 := false, iface := false, bool := false } -- uint64
def ti142 : TI := { size := 3, bytes := 40, agg := true, slice := none, elem := 0, ez := [], fields := [(0, 1, false), (1, 1, false), (2, 1, false)], ftypes := [43, 3, 141], zero := [.nil 1, .c (.int .i64 0), .c (.int .u64 0)], eq := none, ik := none, str := false, u8 := false, iface := false, bool := false } -- struct 
def ti143 : TI := { size := 3, bytes := 40, agg := true, slice := none, elem := 0, ez := [], fields := [(0, 1, false), (1, 1, false), (2, 1, false)], ftypes := [43, 3, 141], zero := [.nil 1, .c (.int .i64 0), .c (.int .u64 0)], eq := none, ik := none, str := false, u8 := false, iface := false, bool := false } -- spec.l00Src
def ti165 : TI := { size := 1, bytes := 8, agg := false, slice := none, elem := 0, ez := [], fields := [], ftypes := [], zero := [.c (.ptr 0 [])], eq := none, ik := none, str := false, u8 := false, iface := false, bool := false } -- *impl.counter
def ti177 : TI := { size := 1, bytes := 8, agg := false, slice := none, elem := 0, ez := [], fields := [], ftypes := [], zero := [.c (.ptr 0 [])], eq := none, ik := none, str := false, u8 := false, iface := false, bool := false } -- *impl.Edge
def ti180 : TI := { size := 1, bytes := 24, agg := false, slice := some (1, 24), elem := 22, ez := [.slice 1 []], fields := [], ftypes := [], zero := [.nil 1], eq := none, ik := none, str := false, u8 := false, iface := false, bool := false } -- [][][]int64
def ti182 : TI := { size := 1, bytes := 8, agg := false, slice := none, elem := 0, ez := [], fields := [], ftypes := [], zero := [.c (.int .u64 0)], eq := some [.int .u64], ik := some .u64, str := false, u8 := false, iface := false, bool := false } -- uint
def ti191 : TI := { size := 1, bytes := 8, agg := false, slice := none, elem := 0, ez := [], fields := [], ftypes := [], zero := [.c (.int .i64 0)], eq := some [.int .i64], ik := some .i64, str := false, u8 := false, iface := false, bool := false } -- slices.sortedHint
def ti198 : TI := { size := 1, bytes := 4, agg := false, slice := none, elem := 0, ez := [], fields := [], ftypes := [], zero := [.c (.int .u32 0)], eq := some [.int .u32], ik := some .u32, str := false, u8 := false, iface := false, bool := false } -- uint32
def ti206 : TI := { size := 1, bytes := 8, agg := false, slice := none, elem := 0, ez := [], fields := [], ftypes := [], zero := [.c (.int .u64 0)], eq := some [.int .u64], ik := some .u64, str := false, u8 := false, iface := false, bool := false } -- slices.xorshift
def ti210 : TI := { size := 1, bytes := 8, agg := false, slice := none, elem := 0, ez := [], fields := [], ftypes := [], zero := [.c (.ptr 0 [])], eq := none, ik := none, str := false, u8 := false, iface := false, bool := false } -- *int
def ti214 : TI := { size := 1, bytes := 8, agg := false, slice := none, elem := 0, ez := [], fields := [], ftypes := [], zero := [.c (.ptr 0 [])], eq := none, ik := none, str := false, u8 := false, iface := false, bool := false } -- *slices.xorshift
def ti220 : TI := { size := 4, bytes := 40, agg := true, slice := none, elem := 0, ez := [], fields := [(0, 1, false), (1, 1, false), (2, 1, false), (3, 1, false)], ftypes := [17, 17, 17, 9], zero := [.c (.ptr 0 []), .c (.ptr 0 []), .c (.ptr 0 []), .c (.str ⟨#[]⟩)], eq := none, ik := none, str := false, u8 := false, iface := false, bool := false } -- struct 
def ti229 : TI := { size := 1, bytes := 8, agg := false, slice := none, elem := 0, ez := [], fields := [], ftypes := [], zero := [.c (.ptr 0 [])], eq := none, ik := none, str := false, u8 := false, iface := false, bool := false } -- *uint8
def tt (t : Nat) : TI := match Nat.blt t 84 with
  | true => (match Nat.blt t 38 with
    | true => (match Nat.blt t 18 with
      | true => (match Nat.blt t 5 with
        | true => (match Nat.blt t 3 with
          | true => (match Nat.beq t 2 with | true => ti2 | false => tid)
          | false => (match Nat.blt t 4 with
            | true => (match Nat.beq t 3 with | true => ti3 | false => tid)
            | false => (match Nat.beq t 4 with | true => ti4 | false => tid)))
        | false => (match Nat.blt t 9 with
          | true => (match Nat.blt t 7 with
            | true => (match Nat.beq t 5 with | true => ti5 | false => tid)
            | false => (match Nat.beq t 7 with | true => ti7 | false => tid))
          | false => (match Nat.blt t 12 with
            | true => (match Nat.beq t 9 with | true => ti9 | false => tid)
            | false => (match Nat.beq t 12 with | true => ti12 | false => tid))))
      | false => (match Nat.blt t 23 with
        | true => (match Nat.blt t 21 with
          | true => (match Nat.blt t 20 with
            | true => (match Nat.beq t 18 with | true => ti18 | false => tid)
            | false => (match Nat.beq t 20 with | true => ti20 | false => tid))
          | false => (match Nat.blt t 22 with
            | true => (match Nat.beq t 21 with | true => ti21 | false => tid)
            | false => (match Nat.beq t 22 with | true => ti22 | false => tid)))
        | false => (match Nat.blt t 28 with
          | true => (match Nat.blt t 24 with
            | true => (match Nat.beq t 23 with | true => ti23 | false => tid)
            | false => (match Nat.beq t 24 with | true => ti24 | false => tid))
          | false => (match Nat.blt t 35 with
            | true => (match Nat.beq t 28 with | true => ti28 | false => tid)
            | false => (match Nat.beq t 35 with | true => ti35 | false => tid)))))
    | false => (match Nat.blt t 69 with
      | true => (match Nat.blt t 47 with
        | true => (match Nat.blt t 45 with
          | true => (match Nat.blt t 43 with
            | true => (match Nat.beq t 38 with | true => ti38 | false => tid)
            | false => (match Nat.beq t 43 with | true => ti43 | false => tid))
          | false => (match Nat.blt t 46 with
            | true => (match Nat.beq t 45 with | true => ti45 | false => tid)
            | false => (match Nat.beq t 46 with | true => ti46 | false => tid)))
        | false => (match Nat.blt t 66 with
          | true => (match Nat.blt t 61 with
            | true => (match Nat.beq t 47 with | true => ti47 | false => tid)
            | false => (match Nat.beq t 61 with | true => ti61 | false => tid))
          | false => (match Nat.blt t 68 with
            | true => (match Nat.beq t 66 with | true => ti66 | false => tid)
            | false => (match Nat.beq t 68 with | true => ti68 | false => tid))))
      | false => (match Nat.blt t 77 with
        | true => (match Nat.blt t 75 with
          | true => (match Nat.blt t 70 with
            | true => (match Nat.beq t 69 with | true => ti69 | false => tid)
            | false => (match Nat.beq t 70 with | true => ti70 | false => tid))
          | false => (match Nat.blt t 76 with
            | true => (match Nat.beq t 75 with | true => ti75 | false => tid)
            | false => (match Nat.beq t 76 with | true => ti76 | false => tid)))
        | false => (match Nat.blt t 79 with
          | true => (match Nat.blt t 78 with
            | true => (match Nat.beq t 77 with | true => ti77 | false => tid)
            | false => (match Nat.beq t 78 with | true => ti78 | false => tid))
          | false => (match Nat.blt t 83 with
            | true => (match Nat.beq t 79 with | true => ti79 | false => tid)
            | false => (match Nat.beq t 83 with | true => ti83 | false => tid))))))
  | false => (match Nat.blt t 136 with
    | true => (match Nat.blt t 105 with
      | true => (match Nat.blt t 91 with
        | true => (match Nat.blt t 87 with
          | true => (match Nat.beq t 84 with | true => ti84 | false => tid)
          | false => (match Nat.blt t 89 with
            | true => (match Nat.beq t 87 with | true => ti87 | false => tid)
            | false => (match Nat.beq t 89 with | true => ti89 | false => tid)))
        | false => (match Nat.blt t 96 with
          | true => (match Nat.blt t 95 with
            | true => (match Nat.beq t 91 with | true => ti91 | false => tid)
            | false => (match Nat.beq t 95 with | true => ti95 | false => tid))
          | false => (match Nat.blt t 100 with
            | true => (match Nat.beq t 96 with | true => ti96 | false => tid)
            | false => (match Nat.beq t 100 with | true => ti100 | false => tid))))
      | false => (match Nat.blt t 110 with
        | true => (match Nat.blt t 107 with
          | true => (match Nat.blt t 106 with
            | true => (match Nat.beq t 105 with | true => ti105 | false => tid)
            | false => (match Nat.beq t 106 with | true => ti106 | false => tid))
          | false => (match Nat.blt t 109 with
            | true => (match Nat.beq t 107 with | true => ti107 | false => tid)
            | false => (match Nat.beq t 109 with | true => ti109 | false => tid)))
        | false => (match Nat.blt t 122 with
          | true => (match Nat.blt t 116 with
            | true => (match Nat.beq t 110 with | true => ti110 | false => tid)
            | false => (match Nat.beq t 116 with | true => ti116 | false => tid))
          | false => (match Nat.blt t 135 with
            | true => (match Nat.beq t 122 with | true => ti122 | false => tid)
            | false => (match Nat.beq t 135 with | true => ti135 | false => tid)))))
    | false => (match Nat.blt t 182 with
      | true => (match Nat.blt t 143 with
        | true => (match Nat.blt t 141 with
          | true => (match Nat.blt t 137 with
            | true => (match Nat.beq t 136 with | true => ti136 | false => tid)
            | false => (match Nat.beq t 137 with | true => ti137 | false => tid))
          | false => (match Nat.blt t 142 with
            | true => (match Nat.beq t 141 with | true => ti141 | false => tid)
            | false => (match Nat.beq t 142 with | true => ti142 | false => tid)))
        | false => (match Nat.blt t 177 with
          | true => (match Nat.blt t 165 with
            | true => (match Nat.beq t 143 with | true => ti143 | false => tid)
            | false => (match Nat.beq t 165 with | true => ti165 | false => tid))
          | false => (match Nat.blt t 180 with
            | true => (match Nat.beq t 177 with | true => ti177 | false => tid)
            | false => (match Nat.beq t 180 with | true => ti180 | false => tid))))
      | false => (match Nat.blt t 210 with
        | true => (match Nat.blt t 198 with
          | true => (match Nat.blt t 191 with
            | true => (match Nat.beq t 182 with | true => ti182 | false => tid)
            | false => (match Nat.beq t 191 with | true => ti191 | false => tid))
          | false => (match Nat.blt t 206 with
            | true => (match Nat.beq t 198 with | true => ti198 | false => tid)
            | false => (match Nat.beq t 206 with | true => ti206 | false => tid)))
        | false => (match Nat.blt t 220 with
          | true => (match Nat.blt t 214 with
            | true => (match Nat.beq t 210 with | true => ti210 | false => tid)
            | false => (match Nat.beq t 214 with | true => ti214 | false => tid))
          | false => (match Nat.blt t 229 with
            | true => (match Nat.beq t 220 with | true => ti220 | false => tid)
            | false => (match Nat.beq t 229 with | true => ti229 | false => tid))))))
end Go.Proofs.Ytnmoeeneofopcaa.Pi
