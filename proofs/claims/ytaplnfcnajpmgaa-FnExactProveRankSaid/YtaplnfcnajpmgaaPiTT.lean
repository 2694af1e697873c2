/- The table of the types, as the program has them. -/
import Derived.Test.YtaplnfcnajpmgaaPiWp
namespace Go.Proofs.Ytaplnfcnajpmgaa.Pi
open Go
def tid : TI := { size := 0, bytes := 0, agg := false, slice := none, elem := 0, ez := [], fields := [], ftypes := [], zero := [], eq := none, ik := none, str := false, u8 := false, iface := false, bool := false }
def ti2 : TI := { size := 1, bytes := 8, agg := false, slice := none, elem := 0, ez := [], fields := [], ftypes := [], zero := [.c (.int .i64 0)], eq := some [.int .i64], ik := some .i64, str := false, u8 := false, iface := false, bool := false } -- int64
def ti3 : TI := { size := 1, bytes := 8, agg := false, slice := none, elem := 0, ez := [], fields := [], ftypes := [], zero := [.c (.int .i64 0)], eq := some [.int .i64], ik := some .i64, str := false, u8 := false, iface := false, bool := false } -- int
def ti4 : TI := { size := 1, bytes := 1, agg := false, slice := none, elem := 0, ez := [], fields := [], ftypes := [], zero := [.c (.bool false)], eq := some [.bool], ik := none, str := false, u8 := false, iface := false, bool := true } -- bool
def ti5 : TI := { size := 1, bytes := 1, agg := false, slice := none, elem := 0, ez := [], fields := [], ftypes := [], zero := [.c (.int .u8 0)], eq := some [.int .u8], ik := some .u8, str := false, u8 := false, iface := false, bool := false } -- uint8
def ti7 : TI := { size := 4, bytes := 24, agg := true, slice := none, elem := 0, ez := [], fields := [(0, 1, false), (1, 1, false), (2, 1, false), (3, 1, false)], ftypes := [2, 3, 4, 6], zero := [.c (.int .i64 0), .c (.int .i64 0), .c (.bool false), .c (.int .u8 0)], eq := some [.int .i64, .int .i64, .bool, .int .u8], ik := none, str := false, u8 := false, iface := false, bool := false } -- struct 
def ti9 : TI := { size := 1, bytes := 16, agg := false, slice := none, elem := 0, ez := [], fields := [], ftypes := [], zero := [.c (.str ⟨#[]⟩)], eq := some [.str], ik := none, str := true, u8 := false, iface := false, bool := false } -- string
def ti12 : TI := { size := 1, bytes := 8, agg := false, slice := none, elem := 0, ez := [], fields := [], ftypes := [], zero := [.c (.int .u64 0)], eq := some [.int .u64], ik := some .u64, str := false, u8 := false, iface := false, bool := false } -- uintptr
def ti20 : TI := { size := 1, bytes := 16, agg := false, slice := none, elem := 0, ez := [], fields := [], ftypes := [], zero := [.c (.iface true)], eq := none, ik := none, str := false, u8 := false, iface := true, bool := false } -- interface 
def ti21 : TI := { size := 1, bytes := 4, agg := false, slice := none, elem := 0, ez := [], fields := [], ftypes := [], zero := [.c (.int .i32 0)], eq := some [.int .i32], ik := some .i32, str := false, u8 := false, iface := false, bool := false } -- int32
def ti22 : TI := { size := 1, bytes := 24, agg := false, slice := some (1, 8), elem := 2, ez := [.int .i64 0], fields := [], ftypes := [], zero := [.nil 1], eq := none, ik := none, str := false, u8 := false, iface := false, bool := false } -- []int64
def ti23 : TI := { size := 4, bytes := 48, agg := true, slice := none, elem := 0, ez := [], fields := [(0, 1, false), (1, 1, false), (2, 1, false), (3, 1, false)], ftypes := [2, 2, 2, 22], zero := [.c (.int .i64 0), .c (.int .i64 0), .c (.int .i64 0), .nil 1], eq := none, ik := none, str := false, u8 := false, iface := false, bool := false } -- struct 
def ti24 : TI := { size := 4, bytes := 48, agg := true, slice := none, elem := 0, ez := [], fields := [(0, 1, false), (1, 1, false), (2, 1, false), (3, 1, false)], ftypes := [2, 2, 2, 22], zero := [.c (.int .i64 0), .c (.int .i64 0), .c (.int .i64 0), .nil 1], eq := none, ik := none, str := false, u8 := false, iface := false, bool := false } -- laws.Matrix
def ti26 : TI := { size := 4, bytes := 48, agg := true, slice := none, elem := 0, ez := [], fields := [(0, 1, false), (1, 1, false), (2, 1, false), (3, 1, false)], ftypes := [2, 2, 2, 22], zero := [.c (.int .i64 0), .c (.int .i64 0), .c (.int .i64 0), .nil 1], eq := none, ik := none, str := false, u8 := false, iface := false, bool := false } -- impl.Matrix
def ti27 : TI := { size := 1, bytes := 24, agg := false, slice := some (1, 24), elem := 22, ez := [.slice 1 []], fields := [], ftypes := [], zero := [.nil 1], eq := none, ik := none, str := false, u8 := false, iface := false, bool := false } -- [][]int64
def ti28 : TI := { size := 6, bytes := 80, agg := true, slice := none, elem := 0, ez := [], fields := [(0, 1, false), (1, 4, true), (5, 1, false)], ftypes := [2, 26, 27], zero := [.c (.int .i64 0), .c (.int .i64 0), .c (.int .i64 0), .c (.int .i64 0), .nil 1, .nil 1], eq := none, ik := none, str := false, u8 := false, iface := false, bool := false } -- struct 
def ti29 : TI := { size := 6, bytes := 80, agg := true, slice := none, elem := 0, ez := [], fields := [(0, 1, false), (1, 4, true), (5, 1, false)], ftypes := [2, 26, 27], zero := [.c (.int .i64 0), .c (.int .i64 0), .c (.int .i64 0), .c (.int .i64 0), .nil 1, .nil 1], eq := none, ik := none, str := false, u8 := false, iface := false, bool := false } -- impl.Proof
def ti45 : TI := { size := 6, bytes := 80, agg := true, slice := none, elem := 0, ez := [], fields := [(0, 1, false), (1, 4, true), (5, 1, false)], ftypes := [2, 24, 27], zero := [.c (.int .i64 0), .c (.int .i64 0), .c (.int .i64 0), .c (.int .i64 0), .nil 1, .nil 1], eq := none, ik := none, str := false, u8 := false, iface := false, bool := false } -- struct 
def ti46 : TI := { size := 6, bytes := 80, agg := true, slice := none, elem := 0, ez := [], fields := [(0, 1, false), (1, 4, true), (5, 1, false)], ftypes := [2, 24, 27], zero := [.c (.int .i64 0), .c (.int .i64 0), .c (.int .i64 0), .c (.int .i64 0), .nil 1, .nil 1], eq := none, ik := none, str := false, u8 := false, iface := false, bool := false } -- laws.Proof
def ti54 : TI := { size := 1, bytes := 24, agg := false, slice := some (6, 80), elem := 46, ez := [.int .i64 0, .int .i64 0, .int .i64 0, .int .i64 0, .slice 1 [], .slice 1 []], fields := [], ftypes := [], zero := [.nil 6], eq := none, ik := none, str := false, u8 := false, iface := false, bool := false } -- []laws.Proof
def ti57 : TI := { size := 1, bytes := 24, agg := false, slice := some (6, 80), elem := 29, ez := [.int .i64 0, .int .i64 0, .int .i64 0, .int .i64 0, .slice 1 [], .slice 1 []], fields := [], ftypes := [], zero := [.nil 6], eq := none, ik := none, str := false, u8 := false, iface := false, bool := false } -- []impl.Proof
def ti62 : TI := { size := 1, bytes := 8, agg := false, slice := none, elem := 0, ez := [], fields := [], ftypes := [], zero := [], eq := none, ik := none, str := false, u8 := false, iface := false, bool := false } -- *impl.Matrix
def ti85 : TI := { size := 1, bytes := 8, agg := false, slice := none, elem := 0, ez := [], fields := [], ftypes := [], zero := [], eq := none, ik := none, str := false, u8 := false, iface := false, bool := false } -- *impl.Proof
def ti103 : TI := { size := 1, bytes := 24, agg := false, slice := some (1, 24), elem := 27, ez := [.slice 1 []], fields := [], ftypes := [], zero := [.nil 1], eq := none, ik := none, str := false, u8 := false, iface := false, bool := false } -- [][][]int64
def ti129 : TI := { size := 1, bytes := 4, agg := false, slice := none, elem := 0, ez := [], fields := [], ftypes := [], zero := [.c (.int .u32 0)], eq := some [.int .u32], ik := some .u32, str := false, u8 := false, iface := false, bool := false } -- uint32
def ti133 : TI := { size := 1, bytes := 8, agg := false, slice := none, elem := 0, ez := [], fields := [], ftypes := [], zero := [], eq := none, ik := none, str := false, u8 := false, iface := false, bool := false } -- *uint8
def tt (t : Nat) : TI := match Nat.blt t 26 with
  | true => (match Nat.blt t 12 with
    | true => (match Nat.blt t 5 with
      | true => (match Nat.blt t 3 with
        | true => (match Nat.beq t 2 with | true => ti2 | false => tid)
        | false => (match Nat.blt t 4 with
          | true => (match Nat.beq t 3 with | true => ti3 | false => tid)
          | false => (match Nat.beq t 4 with | true => ti4 | false => tid)))
      | false => (match Nat.blt t 7 with
        | true => (match Nat.beq t 5 with | true => ti5 | false => tid)
        | false => (match Nat.blt t 9 with
          | true => (match Nat.beq t 7 with | true => ti7 | false => tid)
          | false => (match Nat.beq t 9 with | true => ti9 | false => tid))))
    | false => (match Nat.blt t 22 with
      | true => (match Nat.blt t 20 with
        | true => (match Nat.beq t 12 with | true => ti12 | false => tid)
        | false => (match Nat.blt t 21 with
          | true => (match Nat.beq t 20 with | true => ti20 | false => tid)
          | false => (match Nat.beq t 21 with | true => ti21 | false => tid)))
      | false => (match Nat.blt t 23 with
        | true => (match Nat.beq t 22 with | true => ti22 | false => tid)
        | false => (match Nat.blt t 24 with
          | true => (match Nat.beq t 23 with | true => ti23 | false => tid)
          | false => (match Nat.beq t 24 with | true => ti24 | false => tid)))))
  | false => (match Nat.blt t 54 with
    | true => (match Nat.blt t 29 with
      | true => (match Nat.blt t 27 with
        | true => (match Nat.beq t 26 with | true => ti26 | false => tid)
        | false => (match Nat.blt t 28 with
          | true => (match Nat.beq t 27 with | true => ti27 | false => tid)
          | false => (match Nat.beq t 28 with | true => ti28 | false => tid)))
      | false => (match Nat.blt t 45 with
        | true => (match Nat.beq t 29 with | true => ti29 | false => tid)
        | false => (match Nat.blt t 46 with
          | true => (match Nat.beq t 45 with | true => ti45 | false => tid)
          | false => (match Nat.beq t 46 with | true => ti46 | false => tid))))
    | false => (match Nat.blt t 85 with
      | true => (match Nat.blt t 57 with
        | true => (match Nat.beq t 54 with | true => ti54 | false => tid)
        | false => (match Nat.blt t 62 with
          | true => (match Nat.beq t 57 with | true => ti57 | false => tid)
          | false => (match Nat.beq t 62 with | true => ti62 | false => tid)))
      | false => (match Nat.blt t 129 with
        | true => (match Nat.blt t 103 with
          | true => (match Nat.beq t 85 with | true => ti85 | false => tid)
          | false => (match Nat.beq t 103 with | true => ti103 | false => tid))
        | false => (match Nat.blt t 133 with
          | true => (match Nat.beq t 129 with | true => ti129 | false => tid)
          | false => (match Nat.beq t 133 with | true => ti133 | false => tid)))))
end Go.Proofs.Ytaplnfcnajpmgaa.Pi
