/- The table of the types, as the program has them. -/
import Derived.Test.YtphdicamabjbbaaPiWp
namespace Go.Proofs.Ytphdicamabjbbaa.Pi
open Go
def tid : TI := { size := 0, bytes := 0, agg := false, slice := none, elem := 0, ez := [], fields := [], ftypes := [], zero := [], eq := none, ik := none, str := false, u8 := false, iface := false, bool := false }
def ti2 : TI := { size := 1, bytes := 8, agg := false, slice := none, elem := 0, ez := [], fields := [], ftypes := [], zero := [.c (.int .i64 0)], eq := some [.int .i64], ik := some .i64, str := false, u8 := false, iface := false, bool := false } -- int64
def ti3 : TI := { size := 1, bytes := 8, agg := false, slice := none, elem := 0, ez := [], fields := [], ftypes := [], zero := [.c (.int .i64 0)], eq := some [.int .i64], ik := some .i64, str := false, u8 := false, iface := false, bool := false } -- int
def ti4 : TI := { size := 1, bytes := 1, agg := false, slice := none, elem := 0, ez := [], fields := [], ftypes := [], zero := [.c (.bool false)], eq := some [.bool], ik := none, str := false, u8 := false, iface := false, bool := true } -- bool
def ti5 : TI := { size := 1, bytes := 1, agg := false, slice := none, elem := 0, ez := [], fields := [], ftypes := [], zero := [.c (.int .u8 0)], eq := some [.int .u8], ik := some .u8, str := false, u8 := false, iface := false, bool := false } -- uint8
def ti7 : TI := { size := 4, bytes := 24, agg := true, slice := none, elem := 0, ez := [], fields := [(0, 1, false), (1, 1, false), (2, 1, false), (3, 1, false)], ftypes := [2, 3, 4, 6], zero := [.c (.int .i64 0), .c (.int .i64 0), .c (.bool false), .c (.int .u8 0)], eq := some [.int .i64, .int .i64, .bool, .int .u8], ik := none, str := false, u8 := false, iface := false, bool := false } -- struct 
def ti9 : TI := { size := 1, bytes := 16, agg := false, slice := none, elem := 0, ez := [], fields := [], ftypes := [], zero := [.c (.str ⟨#[]⟩)], eq := some [.str], ik := none, str := true, u8 := false, iface := false, bool := false } -- string
def ti12 : TI := { size := 1, bytes := 8, agg := false, slice := none, elem := 0, ez := [], fields := [], ftypes := [], zero := [.c (.int .u64 0)], eq := some [.int .u64], ik := some .u64, str := false, u8 := false, iface := false, bool := false } -- uintptr
def ti20 : TI := { size := 1, bytes := 16, agg := false, slice := none, elem := 0, ez := [], fields := [], ftypes := [], zero := [.c (.iface true)], eq := none, ik := none, str := false, u8 := false, iface := true, bool := false } -- interface 
def ti21 : TI := { size := 1, bytes := 4, agg := false, slice := none, elem := 0, ez := [], fields := [], ftypes := [], zero := [.c (.int .i32 0)], eq := some [.int .i32], ik := some .i32, str := false, u8 := false, iface := false, bool := false } -- int32
def ti24 : TI := { size := 1, bytes := 24, agg := false, slice := some (2, 24), elem := 62, ez := [.str ⟨#[]⟩, .int .i64 0], fields := [], ftypes := [], zero := [.nil 2], eq := none, ik := none, str := false, u8 := false, iface := false, bool := false } -- []laws.Setting
def ti27 : TI := { size := 1, bytes := 24, agg := false, slice := some (2, 24), elem := 63, ez := [.str ⟨#[]⟩, .int .i64 0], fields := [], ftypes := [], zero := [.nil 2], eq := none, ik := none, str := false, u8 := false, iface := false, bool := false } -- []impl.Setting
def ti32 : TI := { size := 1, bytes := 24, agg := false, slice := some (4, 56), elem := 69, ez := [.str ⟨#[]⟩, .slice 1 [], .int .i64 0, .int .i64 0], fields := [], ftypes := [], zero := [.nil 4], eq := none, ik := none, str := false, u8 := false, iface := false, bool := false } -- []laws.Item
def ti35 : TI := { size := 1, bytes := 24, agg := false, slice := some (4, 56), elem := 70, ez := [.str ⟨#[]⟩, .slice 1 [], .int .i64 0, .int .i64 0], fields := [], ftypes := [], zero := [.nil 4], eq := none, ik := none, str := false, u8 := false, iface := false, bool := false } -- []impl.Item
def ti38 : TI := { size := 1, bytes := 24, agg := false, slice := some (4, 56), elem := 77, ez := [.int .i64 0, .int .i64 0, .str ⟨#[]⟩, .slice 2 []], fields := [], ftypes := [], zero := [.nil 4], eq := none, ik := none, str := false, u8 := false, iface := false, bool := false } -- []laws.Version
def ti41 : TI := { size := 1, bytes := 24, agg := false, slice := some (4, 56), elem := 79, ez := [.int .i64 0, .int .i64 0, .str ⟨#[]⟩, .slice 2 []], fields := [], ftypes := [], zero := [.nil 4], eq := none, ik := none, str := false, u8 := false, iface := false, bool := false } -- []impl.Version
def ti44 : TI := { size := 1, bytes := 24, agg := false, slice := some (1, 8), elem := 2, ez := [.int .i64 0], fields := [], ftypes := [], zero := [.nil 1], eq := none, ik := none, str := false, u8 := false, iface := false, bool := false } -- []int64
def ti45 : TI := { size := 4, bytes := 48, agg := true, slice := none, elem := 0, ez := [], fields := [(0, 1, false), (1, 1, false), (2, 1, false), (3, 1, false)], ftypes := [2, 2, 2, 44], zero := [.c (.int .i64 0), .c (.int .i64 0), .c (.int .i64 0), .nil 1], eq := none, ik := none, str := false, u8 := false, iface := false, bool := false } -- struct 
def ti46 : TI := { size := 4, bytes := 48, agg := true, slice := none, elem := 0, ez := [], fields := [(0, 1, false), (1, 1, false), (2, 1, false), (3, 1, false)], ftypes := [2, 2, 2, 44], zero := [.c (.int .i64 0), .c (.int .i64 0), .c (.int .i64 0), .nil 1], eq := none, ik := none, str := false, u8 := false, iface := false, bool := false } -- laws.Matrix
def ti47 : TI := { size := 1, bytes := 24, agg := false, slice := some (1, 24), elem := 44, ez := [.slice 1 []], fields := [], ftypes := [], zero := [.nil 1], eq := none, ik := none, str := false, u8 := false, iface := false, bool := false } -- [][]int64
def ti48 : TI := { size := 6, bytes := 80, agg := true, slice := none, elem := 0, ez := [], fields := [(0, 1, false), (1, 4, true), (5, 1, false)], ftypes := [2, 46, 47], zero := [.c (.int .i64 0), .c (.int .i64 0), .c (.int .i64 0), .c (.int .i64 0), .nil 1, .nil 1], eq := none, ik := none, str := false, u8 := false, iface := false, bool := false } -- struct 
def ti49 : TI := { size := 6, bytes := 80, agg := true, slice := none, elem := 0, ez := [], fields := [(0, 1, false), (1, 4, true), (5, 1, false)], ftypes := [2, 46, 47], zero := [.c (.int .i64 0), .c (.int .i64 0), .c (.int .i64 0), .c (.int .i64 0), .nil 1, .nil 1], eq := none, ik := none, str := false, u8 := false, iface := false, bool := false } -- laws.Proof
def ti52 : TI := { size := 4, bytes := 48, agg := true, slice := none, elem := 0, ez := [], fields := [(0, 1, false), (1, 1, false), (2, 1, false), (3, 1, false)], ftypes := [2, 2, 2, 44], zero := [.c (.int .i64 0), .c (.int .i64 0), .c (.int .i64 0), .nil 1], eq := none, ik := none, str := false, u8 := false, iface := false, bool := false } -- impl.Matrix
def ti53 : TI := { size := 6, bytes := 80, agg := true, slice := none, elem := 0, ez := [], fields := [(0, 1, false), (1, 4, true), (5, 1, false)], ftypes := [2, 52, 47], zero := [.c (.int .i64 0), .c (.int .i64 0), .c (.int .i64 0), .c (.int .i64 0), .nil 1, .nil 1], eq := none, ik := none, str := false, u8 := false, iface := false, bool := false } -- struct 
def ti54 : TI := { size := 6, bytes := 80, agg := true, slice := none, elem := 0, ez := [], fields := [(0, 1, false), (1, 4, true), (5, 1, false)], ftypes := [2, 52, 47], zero := [.c (.int .i64 0), .c (.int .i64 0), .c (.int .i64 0), .c (.int .i64 0), .nil 1, .nil 1], eq := none, ik := none, str := false, u8 := false, iface := false, bool := false } -- impl.Proof
def ti58 : TI := { size := 1, bytes := 24, agg := false, slice := some (1, 16), elem := 9, ez := [.str ⟨#[]⟩], fields := [], ftypes := [], zero := [.nil 1], eq := none, ik := none, str := false, u8 := false, iface := false, bool := false } -- []string
def ti61 : TI := { size := 2, bytes := 24, agg := true, slice := none, elem := 0, ez := [], fields := [(0, 1, false), (1, 1, false)], ftypes := [9, 2], zero := [.c (.str ⟨#[]⟩), .c (.int .i64 0)], eq := some [.str, .int .i64], ik := none, str := false, u8 := false, iface := false, bool := false } -- struct 
def ti62 : TI := { size := 2, bytes := 24, agg := true, slice := none, elem := 0, ez := [], fields := [(0, 1, false), (1, 1, false)], ftypes := [9, 2], zero := [.c (.str ⟨#[]⟩), .c (.int .i64 0)], eq := some [.str, .int .i64], ik := none, str := false, u8 := false, iface := false, bool := false } -- laws.Setting
def ti63 : TI := { size := 2, bytes := 24, agg := true, slice := none, elem := 0, ez := [], fields := [(0, 1, false), (1, 1, false)], ftypes := [9, 2], zero := [.c (.str ⟨#[]⟩), .c (.int .i64 0)], eq := some [.str, .int .i64], ik := none, str := false, u8 := false, iface := false, bool := false } -- impl.Setting
def ti68 : TI := { size := 4, bytes := 56, agg := true, slice := none, elem := 0, ez := [], fields := [(0, 1, false), (1, 1, false), (2, 1, false), (3, 1, false)], ftypes := [9, 58, 2, 2], zero := [.c (.str ⟨#[]⟩), .nil 1, .c (.int .i64 0), .c (.int .i64 0)], eq := none, ik := none, str := false, u8 := false, iface := false, bool := false } -- struct 
def ti69 : TI := { size := 4, bytes := 56, agg := true, slice := none, elem := 0, ez := [], fields := [(0, 1, false), (1, 1, false), (2, 1, false), (3, 1, false)], ftypes := [9, 58, 2, 2], zero := [.c (.str ⟨#[]⟩), .nil 1, .c (.int .i64 0), .c (.int .i64 0)], eq := none, ik := none, str := false, u8 := false, iface := false, bool := false } -- laws.Item
def ti70 : TI := { size := 4, bytes := 56, agg := true, slice := none, elem := 0, ez := [], fields := [(0, 1, false), (1, 1, false), (2, 1, false), (3, 1, false)], ftypes := [9, 58, 2, 2], zero := [.c (.str ⟨#[]⟩), .nil 1, .c (.int .i64 0), .c (.int .i64 0)], eq := none, ik := none, str := false, u8 := false, iface := false, bool := false } -- impl.Item
def ti76 : TI := { size := 4, bytes := 56, agg := true, slice := none, elem := 0, ez := [], fields := [(0, 1, false), (1, 1, false), (2, 1, false), (3, 1, false)], ftypes := [2, 2, 9, 24], zero := [.c (.int .i64 0), .c (.int .i64 0), .c (.str ⟨#[]⟩), .nil 2], eq := none, ik := none, str := false, u8 := false, iface := false, bool := false } -- struct 
def ti77 : TI := { size := 4, bytes := 56, agg := true, slice := none, elem := 0, ez := [], fields := [(0, 1, false), (1, 1, false), (2, 1, false), (3, 1, false)], ftypes := [2, 2, 9, 24], zero := [.c (.int .i64 0), .c (.int .i64 0), .c (.str ⟨#[]⟩), .nil 2], eq := none, ik := none, str := false, u8 := false, iface := false, bool := false } -- laws.Version
def ti78 : TI := { size := 4, bytes := 56, agg := true, slice := none, elem := 0, ez := [], fields := [(0, 1, false), (1, 1, false), (2, 1, false), (3, 1, false)], ftypes := [2, 2, 9, 27], zero := [.c (.int .i64 0), .c (.int .i64 0), .c (.str ⟨#[]⟩), .nil 2], eq := none, ik := none, str := false, u8 := false, iface := false, bool := false } -- struct 
def ti79 : TI := { size := 4, bytes := 56, agg := true, slice := none, elem := 0, ez := [], fields := [(0, 1, false), (1, 1, false), (2, 1, false), (3, 1, false)], ftypes := [2, 2, 9, 27], zero := [.c (.int .i64 0), .c (.int .i64 0), .c (.str ⟨#[]⟩), .nil 2], eq := none, ik := none, str := false, u8 := false, iface := false, bool := false } -- impl.Version
def ti90 : TI := { size := 1, bytes := 8, agg := false, slice := none, elem := 0, ez := [], fields := [], ftypes := [], zero := [], eq := none, ik := none, str := false, u8 := false, iface := false, bool := false } -- *impl.Setting
def ti96 : TI := { size := 1, bytes := 8, agg := false, slice := none, elem := 0, ez := [], fields := [], ftypes := [], zero := [], eq := none, ik := none, str := false, u8 := false, iface := false, bool := false } -- *impl.Matrix
def ti100 : TI := { size := 1, bytes := 24, agg := false, slice := some (1, 1), elem := 5, ez := [.int .u8 0], fields := [], ftypes := [], zero := [.nil 1], eq := none, ik := none, str := false, u8 := true, iface := false, bool := false } -- []uint8
def ti109 : TI := { size := 1, bytes := 4, agg := false, slice := none, elem := 0, ez := [], fields := [], ftypes := [], zero := [.c (.int .u32 0)], eq := some [.int .u32], ik := some .u32, str := false, u8 := false, iface := false, bool := false } -- uint32
def ti113 : TI := { size := 1, bytes := 8, agg := false, slice := none, elem := 0, ez := [], fields := [], ftypes := [], zero := [], eq := none, ik := none, str := false, u8 := false, iface := false, bool := false } -- *uint8
def tt (t : Nat) : TI := match Nat.blt t 49 with
  | true => (match Nat.blt t 27 with
    | true => (match Nat.blt t 9 with
      | true => (match Nat.blt t 4 with
        | true => (match Nat.blt t 3 with
          | true => (match Nat.beq t 2 with | true => ti2 | false => tid)
          | false => (match Nat.beq t 3 with | true => ti3 | false => tid))
        | false => (match Nat.blt t 5 with
          | true => (match Nat.beq t 4 with | true => ti4 | false => tid)
          | false => (match Nat.blt t 7 with
            | true => (match Nat.beq t 5 with | true => ti5 | false => tid)
            | false => (match Nat.beq t 7 with | true => ti7 | false => tid))))
      | false => (match Nat.blt t 20 with
        | true => (match Nat.blt t 12 with
          | true => (match Nat.beq t 9 with | true => ti9 | false => tid)
          | false => (match Nat.beq t 12 with | true => ti12 | false => tid))
        | false => (match Nat.blt t 21 with
          | true => (match Nat.beq t 20 with | true => ti20 | false => tid)
          | false => (match Nat.blt t 24 with
            | true => (match Nat.beq t 21 with | true => ti21 | false => tid)
            | false => (match Nat.beq t 24 with | true => ti24 | false => tid)))))
    | false => (match Nat.blt t 44 with
      | true => (match Nat.blt t 35 with
        | true => (match Nat.blt t 32 with
          | true => (match Nat.beq t 27 with | true => ti27 | false => tid)
          | false => (match Nat.beq t 32 with | true => ti32 | false => tid))
        | false => (match Nat.blt t 38 with
          | true => (match Nat.beq t 35 with | true => ti35 | false => tid)
          | false => (match Nat.blt t 41 with
            | true => (match Nat.beq t 38 with | true => ti38 | false => tid)
            | false => (match Nat.beq t 41 with | true => ti41 | false => tid))))
      | false => (match Nat.blt t 46 with
        | true => (match Nat.blt t 45 with
          | true => (match Nat.beq t 44 with | true => ti44 | false => tid)
          | false => (match Nat.beq t 45 with | true => ti45 | false => tid))
        | false => (match Nat.blt t 47 with
          | true => (match Nat.beq t 46 with | true => ti46 | false => tid)
          | false => (match Nat.blt t 48 with
            | true => (match Nat.beq t 47 with | true => ti47 | false => tid)
            | false => (match Nat.beq t 48 with | true => ti48 | false => tid))))))
  | false => (match Nat.blt t 70 with
    | true => (match Nat.blt t 61 with
      | true => (match Nat.blt t 53 with
        | true => (match Nat.blt t 52 with
          | true => (match Nat.beq t 49 with | true => ti49 | false => tid)
          | false => (match Nat.beq t 52 with | true => ti52 | false => tid))
        | false => (match Nat.blt t 54 with
          | true => (match Nat.beq t 53 with | true => ti53 | false => tid)
          | false => (match Nat.blt t 58 with
            | true => (match Nat.beq t 54 with | true => ti54 | false => tid)
            | false => (match Nat.beq t 58 with | true => ti58 | false => tid))))
      | false => (match Nat.blt t 63 with
        | true => (match Nat.blt t 62 with
          | true => (match Nat.beq t 61 with | true => ti61 | false => tid)
          | false => (match Nat.beq t 62 with | true => ti62 | false => tid))
        | false => (match Nat.blt t 68 with
          | true => (match Nat.beq t 63 with | true => ti63 | false => tid)
          | false => (match Nat.blt t 69 with
            | true => (match Nat.beq t 68 with | true => ti68 | false => tid)
            | false => (match Nat.beq t 69 with | true => ti69 | false => tid)))))
    | false => (match Nat.blt t 90 with
      | true => (match Nat.blt t 77 with
        | true => (match Nat.blt t 76 with
          | true => (match Nat.beq t 70 with | true => ti70 | false => tid)
          | false => (match Nat.beq t 76 with | true => ti76 | false => tid))
        | false => (match Nat.blt t 78 with
          | true => (match Nat.beq t 77 with | true => ti77 | false => tid)
          | false => (match Nat.blt t 79 with
            | true => (match Nat.beq t 78 with | true => ti78 | false => tid)
            | false => (match Nat.beq t 79 with | true => ti79 | false => tid))))
      | false => (match Nat.blt t 100 with
        | true => (match Nat.blt t 96 with
          | true => (match Nat.beq t 90 with | true => ti90 | false => tid)
          | false => (match Nat.beq t 96 with | true => ti96 | false => tid))
        | false => (match Nat.blt t 109 with
          | true => (match Nat.beq t 100 with | true => ti100 | false => tid)
          | false => (match Nat.blt t 113 with
            | true => (match Nat.beq t 109 with | true => ti109 | false => tid)
            | false => (match Nat.beq t 113 with | true => ti113 | false => tid))))))
end Go.Proofs.Ytphdicamabjbbaa.Pi
