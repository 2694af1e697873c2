/- The table of the types, as the program has them. -/
import Derived.Test.YtnafogjagbhdbaaDoorPiA
namespace Go.Proofs.YtnafogjagbhdbaaDoor.Pi
open Go
def tid : TI := { size := 0, bytes := 0, agg := false, slice := none, elem := 0, ez := [], fields := [], ftypes := [], zero := [], eq := none, ik := none, str := false, u8 := false, iface := false, bool := false }
def ti2 : TI := { size := 1, bytes := 8, agg := false, slice := none, elem := 0, ez := [], fields := [], ftypes := [], zero := [.c (.int .i64 0)], eq := some [.int .i64], ik := some .i64, str := false, u8 := false, iface := false, bool := false } -- int64
def ti3 : TI := { size := 1, bytes := 8, agg := false, slice := none, elem := 0, ez := [], fields := [], ftypes := [], zero := [.c (.int .i64 0)], eq := some [.int .i64], ik := some .i64, str := false, u8 := false, iface := false, bool := false } -- int
def ti4 : TI := { size := 1, bytes := 1, agg := false, slice := none, elem := 0, ez := [], fields := [], ftypes := [], zero := [.c (.bool false)], eq := some [.bool], ik := none, str := false, u8 := false, iface := false, bool := true } -- bool
def ti5 : TI := { size := 1, bytes := 1, agg := false, slice := none, elem := 0, ez := [], fields := [], ftypes := [], zero := [.c (.int .u8 0)], eq := some [.int .u8], ik := some .u8, str := false, u8 := false, iface := false, bool := false } -- uint8
def ti7 : TI := { size := 4, bytes := 24, agg := true, slice := none, elem := 0, ez := [], fields := [(0, 1, false), (1, 1, false), (2, 1, false), (3, 1, false)], ftypes := [2, 3, 4, 6], zero := [.c (.int .i64 0), .c (.int .i64 0), .c (.bool false), .c (.int .u8 0)], eq := some [.int .i64, .int .i64, .bool, .int .u8], ik := none, str := false, u8 := false, iface := false, bool := false } -- struct 
def ti9 : TI := { size := 1, bytes := 16, agg := false, slice := none, elem := 0, ez := [], fields := [], ftypes := [], zero := [.c (.str ⟨#[]⟩)], eq := some [.str], ik := none, str := true, u8 := false, iface := false, bool := false } -- string
def ti12 : TI := { size := 1, bytes := 8, agg := false, slice := none, elem := 0, ez := [], fields := [], ftypes := [], zero := [.c (.int .u64 0)], eq := some [.int .u64], ik := some .u64, str := false, u8 := false, iface := false, bool := false } -- uintptr
def ti18 : TI := { size := 1, bytes := 8, agg := true, slice := none, elem := 0, ez := [], fields := [(0, 1, false)], ftypes := [17], zero := [.c (.ptr 0 [])], eq := none, ik := none, str := false, u8 := false, iface := false, bool := false } -- struct 
def ti20 : TI := { size := 1, bytes := 16, agg := false, slice := none, elem := 0, ez := [], fields := [], ftypes := [], zero := [.c (.iface true)], eq := none, ik := none, str := false, u8 := false, iface := true, bool := false } -- interface 
def ti21 : TI := { size := 1, bytes := 4, agg := false, slice := none, elem := 0, ez := [], fields := [], ftypes := [], zero := [.c (.int .i32 0)], eq := some [.int .i32], ik := some .i32, str := false, u8 := false, iface := false, bool := false } -- int32
def ti22 : TI := { size := 1, bytes := 24, agg := false, slice := some (1, 8), elem := 2, ez := [.int .i64 0], fields := [], ftypes := [], zero := [.nil 1], eq := none, ik := none, str := false, u8 := false, iface := false, bool := false } -- []int64
def ti23 : TI := { size := 4, bytes := 48, agg := true, slice := none, elem := 0, ez := [], fields := [(0, 1, false), (1, 1, false), (2, 1, false), (3, 1, false)], ftypes := [2, 2, 2, 22], zero := [.c (.int .i64 0), .c (.int .i64 0), .c (.int .i64 0), .nil 1], eq := none, ik := none, str := false, u8 := false, iface := false, bool := false } -- struct 
def ti24 : TI := { size := 4, bytes := 48, agg := true, slice := none, elem := 0, ez := [], fields := [(0, 1, false), (1, 1, false), (2, 1, false), (3, 1, false)], ftypes := [2, 2, 2, 22], zero := [.c (.int .i64 0), .c (.int .i64 0), .c (.int .i64 0), .nil 1], eq := none, ik := none, str := false, u8 := false, iface := false, bool := false } -- laws.Matrix
def ti25 : TI := { size := 1, bytes := 24, agg := false, slice := some (1, 24), elem := 22, ez := [.slice 1 []], fields := [], ftypes := [], zero := [.nil 1], eq := none, ik := none, str := false, u8 := false, iface := false, bool := false } -- [][]int64
def ti26 : TI := { size := 6, bytes := 80, agg := true, slice := none, elem := 0, ez := [], fields := [(0, 1, false), (1, 4, true), (5, 1, false)], ftypes := [2, 24, 25], zero := [.c (.int .i64 0), .c (.int .i64 0), .c (.int .i64 0), .c (.int .i64 0), .nil 1, .nil 1], eq := none, ik := none, str := false, u8 := false, iface := false, bool := false } -- struct 
def ti27 : TI := { size := 6, bytes := 80, agg := true, slice := none, elem := 0, ez := [], fields := [(0, 1, false), (1, 4, true), (5, 1, false)], ftypes := [2, 24, 25], zero := [.c (.int .i64 0), .c (.int .i64 0), .c (.int .i64 0), .c (.int .i64 0), .nil 1, .nil 1], eq := none, ik := none, str := false, u8 := false, iface := false, bool := false } -- laws.Proof
def ti30 : TI := { size := 4, bytes := 48, agg := true, slice := none, elem := 0, ez := [], fields := [(0, 1, false), (1, 1, false), (2, 1, false), (3, 1, false)], ftypes := [2, 2, 2, 22], zero := [.c (.int .i64 0), .c (.int .i64 0), .c (.int .i64 0), .nil 1], eq := none, ik := none, str := false, u8 := false, iface := false, bool := false } -- impl.Matrix
def ti31 : TI := { size := 6, bytes := 80, agg := true, slice := none, elem := 0, ez := [], fields := [(0, 1, false), (1, 4, true), (5, 1, false)], ftypes := [2, 30, 25], zero := [.c (.int .i64 0), .c (.int .i64 0), .c (.int .i64 0), .c (.int .i64 0), .nil 1, .nil 1], eq := none, ik := none, str := false, u8 := false, iface := false, bool := false } -- struct 
def ti32 : TI := { size := 6, bytes := 80, agg := true, slice := none, elem := 0, ez := [], fields := [(0, 1, false), (1, 4, true), (5, 1, false)], ftypes := [2, 30, 25], zero := [.c (.int .i64 0), .c (.int .i64 0), .c (.int .i64 0), .c (.int .i64 0), .nil 1, .nil 1], eq := none, ik := none, str := false, u8 := false, iface := false, bool := false } -- impl.Proof
def ti39 : TI := { size := 1, bytes := 8, agg := false, slice := none, elem := 0, ez := [], fields := [], ftypes := [], zero := [.c (.ptr 0 [])], eq := none, ik := none, str := false, u8 := false, iface := false, bool := false } -- *impl.Proof
def ti46 : TI := { size := 1, bytes := 24, agg := false, slice := some (1, 16), elem := 9, ez := [.str ⟨#[]⟩], fields := [], ftypes := [], zero := [.nil 1], eq := none, ik := none, str := false, u8 := false, iface := false, bool := false } -- []string
def ti52 : TI := { size := 1, bytes := 8, agg := false, slice := none, elem := 0, ez := [], fields := [], ftypes := [], zero := [.c (.ptr 0 [])], eq := none, ik := none, str := false, u8 := false, iface := false, bool := false } -- *impl.Matrix
def ti63 : TI := { size := 1, bytes := 8, agg := false, slice := none, elem := 0, ez := [], fields := [], ftypes := [], zero := [.c (.ptr 0 [])], eq := none, ik := none, str := false, u8 := false, iface := false, bool := false } -- *strings.Builder
def ti64 : TI := { size := 1, bytes := 24, agg := false, slice := some (1, 1), elem := 5, ez := [.int .u8 0], fields := [], ftypes := [], zero := [.nil 1], eq := none, ik := none, str := false, u8 := true, iface := false, bool := false } -- []uint8
def ti65 : TI := { size := 2, bytes := 32, agg := true, slice := none, elem := 0, ez := [], fields := [(0, 1, false), (1, 1, false)], ftypes := [63, 64], zero := [.c (.ptr 0 []), .nil 1], eq := none, ik := none, str := false, u8 := false, iface := false, bool := false } -- struct 
def ti66 : TI := { size := 2, bytes := 32, agg := true, slice := none, elem := 0, ez := [], fields := [(0, 1, false), (1, 1, false)], ftypes := [63, 64], zero := [.c (.ptr 0 []), .nil 1], eq := none, ik := none, str := false, u8 := false, iface := false, bool := false } -- strings.Builder
def ti68 : TI := { size := 1, bytes := 16, agg := false, slice := none, elem := 0, ez := [], fields := [], ftypes := [], zero := [.c (.iface true)], eq := none, ik := none, str := false, u8 := false, iface := true, bool := false } -- interface 
def ti69 : TI := { size := 1, bytes := 16, agg := false, slice := none, elem := 0, ez := [], fields := [], ftypes := [], zero := [.c (.iface true)], eq := none, ik := none, str := false, u8 := false, iface := true, bool := false } -- error
def ti84 : TI := { size := 1, bytes := 8, agg := false, slice := none, elem := 0, ez := [], fields := [], ftypes := [], zero := [.c (.ptr 0 [])], eq := none, ik := none, str := false, u8 := false, iface := false, bool := false } -- *uint8
def ti94 : TI := { size := 1, bytes := 8, agg := false, slice := none, elem := 0, ez := [], fields := [], ftypes := [], zero := [.c (.int .u64 0)], eq := some [.int .u64], ik := some .u64, str := false, u8 := false, iface := false, bool := false } -- uint64
def ti102 : TI := { size := 1, bytes := 4, agg := false, slice := none, elem := 0, ez := [], fields := [], ftypes := [], zero := [.c (.int .u32 0)], eq := some [.int .u32], ik := some .u32, str := false, u8 := false, iface := false, bool := false } -- uint32
def ti105 : TI := { size := 1, bytes := 8, agg := false, slice := none, elem := 0, ez := [], fields := [], ftypes := [], zero := [.c (.int .u64 0)], eq := some [.int .u64], ik := some .u64, str := false, u8 := false, iface := false, bool := false } -- uint
def ti110 : TI := { size := 4, bytes := 40, agg := true, slice := none, elem := 0, ez := [], fields := [(0, 1, false), (1, 1, false), (2, 1, false), (3, 1, false)], ftypes := [17, 17, 17, 9], zero := [.c (.ptr 0 []), .c (.ptr 0 []), .c (.ptr 0 []), .c (.str ⟨#[]⟩)], eq := none, ik := none, str := false, u8 := false, iface := false, bool := false } -- struct 
def tt (t : Nat) : TI := match Nat.blt t 30 with
  | true => (match Nat.blt t 20 with
    | true => (match Nat.blt t 7 with
      | true => (match Nat.blt t 4 with
        | true => (match Nat.blt t 3 with
          | true => (match Nat.beq t 2 with | true => ti2 | false => tid)
          | false => (match Nat.beq t 3 with | true => ti3 | false => tid))
        | false => (match Nat.blt t 5 with
          | true => (match Nat.beq t 4 with | true => ti4 | false => tid)
          | false => (match Nat.beq t 5 with | true => ti5 | false => tid)))
      | false => (match Nat.blt t 12 with
        | true => (match Nat.blt t 9 with
          | true => (match Nat.beq t 7 with | true => ti7 | false => tid)
          | false => (match Nat.beq t 9 with | true => ti9 | false => tid))
        | false => (match Nat.blt t 18 with
          | true => (match Nat.beq t 12 with | true => ti12 | false => tid)
          | false => (match Nat.beq t 18 with | true => ti18 | false => tid))))
    | false => (match Nat.blt t 24 with
      | true => (match Nat.blt t 22 with
        | true => (match Nat.blt t 21 with
          | true => (match Nat.beq t 20 with | true => ti20 | false => tid)
          | false => (match Nat.beq t 21 with | true => ti21 | false => tid))
        | false => (match Nat.blt t 23 with
          | true => (match Nat.beq t 22 with | true => ti22 | false => tid)
          | false => (match Nat.beq t 23 with | true => ti23 | false => tid)))
      | false => (match Nat.blt t 26 with
        | true => (match Nat.blt t 25 with
          | true => (match Nat.beq t 24 with | true => ti24 | false => tid)
          | false => (match Nat.beq t 25 with | true => ti25 | false => tid))
        | false => (match Nat.blt t 27 with
          | true => (match Nat.beq t 26 with | true => ti26 | false => tid)
          | false => (match Nat.beq t 27 with | true => ti27 | false => tid)))))
  | false => (match Nat.blt t 65 with
    | true => (match Nat.blt t 46 with
      | true => (match Nat.blt t 32 with
        | true => (match Nat.blt t 31 with
          | true => (match Nat.beq t 30 with | true => ti30 | false => tid)
          | false => (match Nat.beq t 31 with | true => ti31 | false => tid))
        | false => (match Nat.blt t 39 with
          | true => (match Nat.beq t 32 with | true => ti32 | false => tid)
          | false => (match Nat.beq t 39 with | true => ti39 | false => tid)))
      | false => (match Nat.blt t 63 with
        | true => (match Nat.blt t 52 with
          | true => (match Nat.beq t 46 with | true => ti46 | false => tid)
          | false => (match Nat.beq t 52 with | true => ti52 | false => tid))
        | false => (match Nat.blt t 64 with
          | true => (match Nat.beq t 63 with | true => ti63 | false => tid)
          | false => (match Nat.beq t 64 with | true => ti64 | false => tid))))
    | false => (match Nat.blt t 84 with
      | true => (match Nat.blt t 68 with
        | true => (match Nat.blt t 66 with
          | true => (match Nat.beq t 65 with | true => ti65 | false => tid)
          | false => (match Nat.beq t 66 with | true => ti66 | false => tid))
        | false => (match Nat.blt t 69 with
          | true => (match Nat.beq t 68 with | true => ti68 | false => tid)
          | false => (match Nat.beq t 69 with | true => ti69 | false => tid)))
      | false => (match Nat.blt t 102 with
        | true => (match Nat.blt t 94 with
          | true => (match Nat.beq t 84 with | true => ti84 | false => tid)
          | false => (match Nat.beq t 94 with | true => ti94 | false => tid))
        | false => (match Nat.blt t 105 with
          | true => (match Nat.beq t 102 with | true => ti102 | false => tid)
          | false => (match Nat.blt t 110 with
            | true => (match Nat.beq t 105 with | true => ti105 | false => tid)
            | false => (match Nat.beq t 110 with | true => ti110 | false => tid))))))
end Go.Proofs.YtnafogjagbhdbaaDoor.Pi
