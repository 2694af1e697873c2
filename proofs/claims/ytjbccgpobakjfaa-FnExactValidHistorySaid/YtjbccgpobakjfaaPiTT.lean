/- The table of the types, as the program has them. -/
import Derived.Test.YtjbccgpobakjfaaPiWp
namespace Go.Proofs.Ytjbccgpobakjfaa.Pi
open Go
def tid : TI := { size := 0, bytes := 0, agg := false, slice := none, elem := 0, ez := [], fields := [], ftypes := [], zero := [], eq := none, ik := none, str := false, u8 := false, iface := false, bool := false }
def ti2 : TI := { size := 1, bytes := 8, agg := false, slice := none, elem := 0, ez := [], fields := [], ftypes := [], zero := [.c (.int .i64 0)], eq := some [.int .i64], ik := some .i64, str := false, u8 := false, iface := false, bool := false } -- int64
def ti3 : TI := { size := 1, bytes := 8, agg := false, slice := none, elem := 0, ez := [], fields := [], ftypes := [], zero := [.c (.int .i64 0)], eq := some [.int .i64], ik := some .i64, str := false, u8 := false, iface := false, bool := false } -- int
def ti4 : TI := { size := 1, bytes := 1, agg := false, slice := none, elem := 0, ez := [], fields := [], ftypes := [], zero := [.c (.bool false)], eq := some [.bool], ik := none, str := false, u8 := false, iface := false, bool := true } -- bool
def ti5 : TI := { size := 1, bytes := 1, agg := false, slice := none, elem := 0, ez := [], fields := [], ftypes := [], zero := [.c (.int .u8 0)], eq := some [.int .u8], ik := some .u8, str := false, u8 := false, iface := false, bool := false } -- uint8
def ti7 : TI := { size := 4, bytes := 24, agg := true, slice := none, elem := 0, ez := [], fields := [(0, 1, false), (1, 1, false), (2, 1, false), (3, 1, false)], ftypes := [2, 3, 4, 6], zero := [.c (.int .i64 0), .c (.int .i64 0), .c (.bool false), .c (.int .u8 0)], eq := some [.int .i64, .int .i64, .bool, .int .u8], ik := none, str := false, u8 := false, iface := false, bool := false } -- struct 
def ti9 : TI := { size := 1, bytes := 16, agg := false, slice := none, elem := 0, ez := [], fields := [], ftypes := [], zero := [.c (.str ⟨#[]⟩)], eq := some [.str], ik := none, str := true, u8 := false, iface := false, bool := false } -- string
def ti12 : TI := { size := 1, bytes := 8, agg := false, slice := none, elem := 0, ez := [], fields := [], ftypes := [], zero := [.c (.int .u64 0)], eq := some [.int .u64], ik := some .u64, str := false, u8 := false, iface := false, bool := false } -- uintptr
def ti20 : TI := { size := 1, bytes := 16, agg := false, slice := none, elem := 0, ez := [], fields := [], ftypes := [], zero := [.c (.iface true)], eq := none, ik := none, str := false, u8 := false, iface := true, bool := false } -- interface 
def ti21 : TI := { size := 1, bytes := 4, agg := false, slice := none, elem := 0, ez := [], fields := [], ftypes := [], zero := [.c (.int .i32 0)], eq := some [.int .i32], ik := some .i32, str := false, u8 := false, iface := false, bool := false } -- int32
def ti22 : TI := { size := 1, bytes := 24, agg := false, slice := some (4, 56), elem := 73, ez := [.int .i64 0, .int .i64 0, .str ⟨#[]⟩, .slice 2 []], fields := [], ftypes := [], zero := [.nil 4], eq := none, ik := none, str := false, u8 := false, iface := false, bool := false } -- []laws.Version
def ti25 : TI := { size := 1, bytes := 24, agg := false, slice := some (4, 56), elem := 75, ez := [.int .i64 0, .int .i64 0, .str ⟨#[]⟩, .slice 2 []], fields := [], ftypes := [], zero := [.nil 4], eq := none, ik := none, str := false, u8 := false, iface := false, bool := false } -- []impl.Version
def ti29 : TI := { size := 1, bytes := 24, agg := false, slice := some (4, 56), elem := 83, ez := [.str ⟨#[]⟩, .slice 1 [], .int .i64 0, .int .i64 0], fields := [], ftypes := [], zero := [.nil 4], eq := none, ik := none, str := false, u8 := false, iface := false, bool := false } -- []laws.Item
def ti32 : TI := { size := 1, bytes := 24, agg := false, slice := some (4, 56), elem := 84, ez := [.str ⟨#[]⟩, .slice 1 [], .int .i64 0, .int .i64 0], fields := [], ftypes := [], zero := [.nil 4], eq := none, ik := none, str := false, u8 := false, iface := false, bool := false } -- []impl.Item
def ti36 : TI := { size := 1, bytes := 24, agg := false, slice := some (1, 8), elem := 2, ez := [.int .i64 0], fields := [], ftypes := [], zero := [.nil 1], eq := none, ik := none, str := false, u8 := false, iface := false, bool := false } -- []int64
def ti37 : TI := { size := 4, bytes := 48, agg := true, slice := none, elem := 0, ez := [], fields := [(0, 1, false), (1, 1, false), (2, 1, false), (3, 1, false)], ftypes := [2, 2, 2, 36], zero := [.c (.int .i64 0), .c (.int .i64 0), .c (.int .i64 0), .nil 1], eq := none, ik := none, str := false, u8 := false, iface := false, bool := false } -- struct 
def ti38 : TI := { size := 4, bytes := 48, agg := true, slice := none, elem := 0, ez := [], fields := [(0, 1, false), (1, 1, false), (2, 1, false), (3, 1, false)], ftypes := [2, 2, 2, 36], zero := [.c (.int .i64 0), .c (.int .i64 0), .c (.int .i64 0), .nil 1], eq := none, ik := none, str := false, u8 := false, iface := false, bool := false } -- laws.Matrix
def ti39 : TI := { size := 1, bytes := 24, agg := false, slice := some (1, 24), elem := 36, ez := [.slice 1 []], fields := [], ftypes := [], zero := [.nil 1], eq := none, ik := none, str := false, u8 := false, iface := false, bool := false } -- [][]int64
def ti40 : TI := { size := 6, bytes := 80, agg := true, slice := none, elem := 0, ez := [], fields := [(0, 1, false), (1, 4, true), (5, 1, false)], ftypes := [2, 38, 39], zero := [.c (.int .i64 0), .c (.int .i64 0), .c (.int .i64 0), .c (.int .i64 0), .nil 1, .nil 1], eq := none, ik := none, str := false, u8 := false, iface := false, bool := false } -- struct 
def ti41 : TI := { size := 6, bytes := 80, agg := true, slice := none, elem := 0, ez := [], fields := [(0, 1, false), (1, 4, true), (5, 1, false)], ftypes := [2, 38, 39], zero := [.c (.int .i64 0), .c (.int .i64 0), .c (.int .i64 0), .c (.int .i64 0), .nil 1, .nil 1], eq := none, ik := none, str := false, u8 := false, iface := false, bool := false } -- laws.Proof
def ti44 : TI := { size := 4, bytes := 48, agg := true, slice := none, elem := 0, ez := [], fields := [(0, 1, false), (1, 1, false), (2, 1, false), (3, 1, false)], ftypes := [2, 2, 2, 36], zero := [.c (.int .i64 0), .c (.int .i64 0), .c (.int .i64 0), .nil 1], eq := none, ik := none, str := false, u8 := false, iface := false, bool := false } -- impl.Matrix
def ti45 : TI := { size := 6, bytes := 80, agg := true, slice := none, elem := 0, ez := [], fields := [(0, 1, false), (1, 4, true), (5, 1, false)], ftypes := [2, 44, 39], zero := [.c (.int .i64 0), .c (.int .i64 0), .c (.int .i64 0), .c (.int .i64 0), .nil 1, .nil 1], eq := none, ik := none, str := false, u8 := false, iface := false, bool := false } -- struct 
def ti46 : TI := { size := 6, bytes := 80, agg := true, slice := none, elem := 0, ez := [], fields := [(0, 1, false), (1, 4, true), (5, 1, false)], ftypes := [2, 44, 39], zero := [.c (.int .i64 0), .c (.int .i64 0), .c (.int .i64 0), .c (.int .i64 0), .nil 1, .nil 1], eq := none, ik := none, str := false, u8 := false, iface := false, bool := false } -- impl.Proof
def ti50 : TI := { size := 1, bytes := 24, agg := false, slice := some (2, 24), elem := 102, ez := [.str ⟨#[]⟩, .int .i64 0], fields := [], ftypes := [], zero := [.nil 2], eq := none, ik := none, str := false, u8 := false, iface := false, bool := false } -- []laws.Setting
def ti52 : TI := { size := 1, bytes := 24, agg := false, slice := some (3, 32), elem := 106, ez := [.int .i64 0, .str ⟨#[]⟩, .int .i64 0], fields := [], ftypes := [], zero := [.nil 3], eq := none, ik := none, str := false, u8 := false, iface := false, bool := false } -- []impl.Change
def ti55 : TI := { size := 1, bytes := 24, agg := false, slice := some (2, 24), elem := 104, ez := [.str ⟨#[]⟩, .int .i64 0], fields := [], ftypes := [], zero := [.nil 2], eq := none, ik := none, str := false, u8 := false, iface := false, bool := false } -- []impl.Setting
def ti62 : TI := { size := 1, bytes := 24, agg := false, slice := some (1, 16), elem := 9, ez := [.str ⟨#[]⟩], fields := [], ftypes := [], zero := [.nil 1], eq := none, ik := none, str := false, u8 := false, iface := false, bool := false } -- []string
def ti72 : TI := { size := 4, bytes := 56, agg := true, slice := none, elem := 0, ez := [], fields := [(0, 1, false), (1, 1, false), (2, 1, false), (3, 1, false)], ftypes := [2, 2, 9, 50], zero := [.c (.int .i64 0), .c (.int .i64 0), .c (.str ⟨#[]⟩), .nil 2], eq := none, ik := none, str := false, u8 := false, iface := false, bool := false } -- struct 
def ti73 : TI := { size := 4, bytes := 56, agg := true, slice := none, elem := 0, ez := [], fields := [(0, 1, false), (1, 1, false), (2, 1, false), (3, 1, false)], ftypes := [2, 2, 9, 50], zero := [.c (.int .i64 0), .c (.int .i64 0), .c (.str ⟨#[]⟩), .nil 2], eq := none, ik := none, str := false, u8 := false, iface := false, bool := false } -- laws.Version
def ti74 : TI := { size := 4, bytes := 56, agg := true, slice := none, elem := 0, ez := [], fields := [(0, 1, false), (1, 1, false), (2, 1, false), (3, 1, false)], ftypes := [2, 2, 9, 55], zero := [.c (.int .i64 0), .c (.int .i64 0), .c (.str ⟨#[]⟩), .nil 2], eq := none, ik := none, str := false, u8 := false, iface := false, bool := false } -- struct 
def ti75 : TI := { size := 4, bytes := 56, agg := true, slice := none, elem := 0, ez := [], fields := [(0, 1, false), (1, 1, false), (2, 1, false), (3, 1, false)], ftypes := [2, 2, 9, 55], zero := [.c (.int .i64 0), .c (.int .i64 0), .c (.str ⟨#[]⟩), .nil 2], eq := none, ik := none, str := false, u8 := false, iface := false, bool := false } -- impl.Version
def ti82 : TI := { size := 4, bytes := 56, agg := true, slice := none, elem := 0, ez := [], fields := [(0, 1, false), (1, 1, false), (2, 1, false), (3, 1, false)], ftypes := [9, 62, 2, 2], zero := [.c (.str ⟨#[]⟩), .nil 1, .c (.int .i64 0), .c (.int .i64 0)], eq := none, ik := none, str := false, u8 := false, iface := false, bool := false } -- struct 
def ti83 : TI := { size := 4, bytes := 56, agg := true, slice := none, elem := 0, ez := [], fields := [(0, 1, false), (1, 1, false), (2, 1, false), (3, 1, false)], ftypes := [9, 62, 2, 2], zero := [.c (.str ⟨#[]⟩), .nil 1, .c (.int .i64 0), .c (.int .i64 0)], eq := none, ik := none, str := false, u8 := false, iface := false, bool := false } -- laws.Item
def ti84 : TI := { size := 4, bytes := 56, agg := true, slice := none, elem := 0, ez := [], fields := [(0, 1, false), (1, 1, false), (2, 1, false), (3, 1, false)], ftypes := [9, 62, 2, 2], zero := [.c (.str ⟨#[]⟩), .nil 1, .c (.int .i64 0), .c (.int .i64 0)], eq := none, ik := none, str := false, u8 := false, iface := false, bool := false } -- impl.Item
def ti94 : TI := { size := 1, bytes := 8, agg := false, slice := none, elem := 0, ez := [], fields := [], ftypes := [], zero := [], eq := none, ik := none, str := false, u8 := false, iface := false, bool := false } -- *impl.Proof
def ti101 : TI := { size := 2, bytes := 24, agg := true, slice := none, elem := 0, ez := [], fields := [(0, 1, false), (1, 1, false)], ftypes := [9, 2], zero := [.c (.str ⟨#[]⟩), .c (.int .i64 0)], eq := some [.str, .int .i64], ik := none, str := false, u8 := false, iface := false, bool := false } -- struct 
def ti102 : TI := { size := 2, bytes := 24, agg := true, slice := none, elem := 0, ez := [], fields := [(0, 1, false), (1, 1, false)], ftypes := [9, 2], zero := [.c (.str ⟨#[]⟩), .c (.int .i64 0)], eq := some [.str, .int .i64], ik := none, str := false, u8 := false, iface := false, bool := false } -- laws.Setting
def ti104 : TI := { size := 2, bytes := 24, agg := true, slice := none, elem := 0, ez := [], fields := [(0, 1, false), (1, 1, false)], ftypes := [9, 2], zero := [.c (.str ⟨#[]⟩), .c (.int .i64 0)], eq := some [.str, .int .i64], ik := none, str := false, u8 := false, iface := false, bool := false } -- impl.Setting
def ti105 : TI := { size := 3, bytes := 32, agg := true, slice := none, elem := 0, ez := [], fields := [(0, 1, false), (1, 2, true)], ftypes := [2, 104], zero := [.c (.int .i64 0), .c (.str ⟨#[]⟩), .c (.int .i64 0)], eq := some [.int .i64, .str, .int .i64], ik := none, str := false, u8 := false, iface := false, bool := false } -- struct 
def ti106 : TI := { size := 3, bytes := 32, agg := true, slice := none, elem := 0, ez := [], fields := [(0, 1, false), (1, 2, true)], ftypes := [2, 104], zero := [.c (.int .i64 0), .c (.str ⟨#[]⟩), .c (.int .i64 0)], eq := some [.int .i64, .str, .int .i64], ik := none, str := false, u8 := false, iface := false, bool := false } -- impl.Change
def ti113 : TI := { size := 1, bytes := 24, agg := false, slice := some (1, 8), elem := 3, ez := [.int .i64 0], fields := [], ftypes := [], zero := [.nil 1], eq := none, ik := none, str := false, u8 := false, iface := false, bool := false } -- []int
def ti119 : TI := { size := 1, bytes := 24, agg := false, slice := some (1, 1), elem := 5, ez := [.int .u8 0], fields := [], ftypes := [], zero := [.nil 1], eq := none, ik := none, str := false, u8 := true, iface := false, bool := false } -- []uint8
def ti128 : TI := { size := 1, bytes := 8, agg := false, slice := none, elem := 0, ez := [], fields := [], ftypes := [], zero := [], eq := none, ik := none, str := false, u8 := false, iface := false, bool := false } -- *impl.Matrix
def ti140 : TI := { size := 1, bytes := 8, agg := false, slice := none, elem := 0, ez := [], fields := [], ftypes := [], zero := [], eq := none, ik := none, str := false, u8 := false, iface := false, bool := false } -- *impl.Setting
def ti141 : TI := { size := 1, bytes := 24, agg := false, slice := some (1, 24), elem := 55, ez := [.slice 2 []], fields := [], ftypes := [], zero := [.nil 1], eq := none, ik := none, str := false, u8 := false, iface := false, bool := false } -- [][]impl.Setting
def ti145 : TI := { size := 1, bytes := 24, agg := false, slice := some (1, 1), elem := 4, ez := [.bool false], fields := [], ftypes := [], zero := [.nil 1], eq := none, ik := none, str := false, u8 := false, iface := false, bool := false } -- []bool
def ti162 : TI := { size := 1, bytes := 8, agg := false, slice := none, elem := 0, ez := [], fields := [], ftypes := [], zero := [.c (.int .u64 0)], eq := some [.int .u64], ik := some .u64, str := false, u8 := false, iface := false, bool := false } -- uint
def ti170 : TI := { size := 1, bytes := 4, agg := false, slice := none, elem := 0, ez := [], fields := [], ftypes := [], zero := [.c (.int .u32 0)], eq := some [.int .u32], ik := some .u32, str := false, u8 := false, iface := false, bool := false } -- uint32
def ti174 : TI := { size := 1, bytes := 8, agg := false, slice := none, elem := 0, ez := [], fields := [], ftypes := [], zero := [], eq := none, ik := none, str := false, u8 := false, iface := false, bool := false } -- *uint8
def tt (t : Nat) : TI := match Nat.blt t 55 with
  | true => (match Nat.blt t 32 with
    | true => (match Nat.blt t 12 with
      | true => (match Nat.blt t 5 with
        | true => (match Nat.blt t 3 with
          | true => (match Nat.beq t 2 with | true => ti2 | false => tid)
          | false => (match Nat.blt t 4 with
            | true => (match Nat.beq t 3 with | true => ti3 | false => tid)
            | false => (match Nat.beq t 4 with | true => ti4 | false => tid)))
        | false => (match Nat.blt t 7 with
          | true => (match Nat.beq t 5 with | true => ti5 | false => tid)
          | false => (match Nat.blt t 9 with
            | true => (match Nat.beq t 7 with | true => ti7 | false => tid)
            | false => (match Nat.beq t 9 with | true => ti9 | false => tid))))
      | false => (match Nat.blt t 22 with
        | true => (match Nat.blt t 20 with
          | true => (match Nat.beq t 12 with | true => ti12 | false => tid)
          | false => (match Nat.blt t 21 with
            | true => (match Nat.beq t 20 with | true => ti20 | false => tid)
            | false => (match Nat.beq t 21 with | true => ti21 | false => tid)))
        | false => (match Nat.blt t 25 with
          | true => (match Nat.beq t 22 with | true => ti22 | false => tid)
          | false => (match Nat.blt t 29 with
            | true => (match Nat.beq t 25 with | true => ti25 | false => tid)
            | false => (match Nat.beq t 29 with | true => ti29 | false => tid)))))
    | false => (match Nat.blt t 41 with
      | true => (match Nat.blt t 38 with
        | true => (match Nat.blt t 36 with
          | true => (match Nat.beq t 32 with | true => ti32 | false => tid)
          | false => (match Nat.blt t 37 with
            | true => (match Nat.beq t 36 with | true => ti36 | false => tid)
            | false => (match Nat.beq t 37 with | true => ti37 | false => tid)))
        | false => (match Nat.blt t 39 with
          | true => (match Nat.beq t 38 with | true => ti38 | false => tid)
          | false => (match Nat.blt t 40 with
            | true => (match Nat.beq t 39 with | true => ti39 | false => tid)
            | false => (match Nat.beq t 40 with | true => ti40 | false => tid))))
      | false => (match Nat.blt t 46 with
        | true => (match Nat.blt t 44 with
          | true => (match Nat.beq t 41 with | true => ti41 | false => tid)
          | false => (match Nat.blt t 45 with
            | true => (match Nat.beq t 44 with | true => ti44 | false => tid)
            | false => (match Nat.beq t 45 with | true => ti45 | false => tid)))
        | false => (match Nat.blt t 50 with
          | true => (match Nat.beq t 46 with | true => ti46 | false => tid)
          | false => (match Nat.blt t 52 with
            | true => (match Nat.beq t 50 with | true => ti50 | false => tid)
            | false => (match Nat.beq t 52 with | true => ti52 | false => tid))))))
  | false => (match Nat.blt t 104 with
    | true => (match Nat.blt t 82 with
      | true => (match Nat.blt t 73 with
        | true => (match Nat.blt t 62 with
          | true => (match Nat.beq t 55 with | true => ti55 | false => tid)
          | false => (match Nat.blt t 72 with
            | true => (match Nat.beq t 62 with | true => ti62 | false => tid)
            | false => (match Nat.beq t 72 with | true => ti72 | false => tid)))
        | false => (match Nat.blt t 74 with
          | true => (match Nat.beq t 73 with | true => ti73 | false => tid)
          | false => (match Nat.blt t 75 with
            | true => (match Nat.beq t 74 with | true => ti74 | false => tid)
            | false => (match Nat.beq t 75 with | true => ti75 | false => tid))))
      | false => (match Nat.blt t 94 with
        | true => (match Nat.blt t 83 with
          | true => (match Nat.beq t 82 with | true => ti82 | false => tid)
          | false => (match Nat.blt t 84 with
            | true => (match Nat.beq t 83 with | true => ti83 | false => tid)
            | false => (match Nat.beq t 84 with | true => ti84 | false => tid)))
        | false => (match Nat.blt t 101 with
          | true => (match Nat.beq t 94 with | true => ti94 | false => tid)
          | false => (match Nat.blt t 102 with
            | true => (match Nat.beq t 101 with | true => ti101 | false => tid)
            | false => (match Nat.beq t 102 with | true => ti102 | false => tid)))))
    | false => (match Nat.blt t 140 with
      | true => (match Nat.blt t 113 with
        | true => (match Nat.blt t 105 with
          | true => (match Nat.beq t 104 with | true => ti104 | false => tid)
          | false => (match Nat.blt t 106 with
            | true => (match Nat.beq t 105 with | true => ti105 | false => tid)
            | false => (match Nat.beq t 106 with | true => ti106 | false => tid)))
        | false => (match Nat.blt t 119 with
          | true => (match Nat.beq t 113 with | true => ti113 | false => tid)
          | false => (match Nat.blt t 128 with
            | true => (match Nat.beq t 119 with | true => ti119 | false => tid)
            | false => (match Nat.beq t 128 with | true => ti128 | false => tid))))
      | false => (match Nat.blt t 162 with
        | true => (match Nat.blt t 141 with
          | true => (match Nat.beq t 140 with | true => ti140 | false => tid)
          | false => (match Nat.blt t 145 with
            | true => (match Nat.beq t 141 with | true => ti141 | false => tid)
            | false => (match Nat.beq t 145 with | true => ti145 | false => tid)))
        | false => (match Nat.blt t 170 with
          | true => (match Nat.beq t 162 with | true => ti162 | false => tid)
          | false => (match Nat.blt t 174 with
            | true => (match Nat.beq t 170 with | true => ti170 | false => tid)
            | false => (match Nat.beq t 174 with | true => ti174 | false => tid))))))
end Go.Proofs.Ytjbccgpobakjfaa.Pi
