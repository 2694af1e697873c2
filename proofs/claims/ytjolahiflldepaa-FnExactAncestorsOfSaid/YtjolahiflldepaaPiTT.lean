/- The table of the types, as the program has them. -/
import Derived.Test.YtjolahiflldepaaPiWp
namespace Go.Proofs.Ytjolahiflldepaa.Pi
open Go
def tid : TI := { size := 0, bytes := 0, agg := false, slice := none, elem := 0, ez := [], fields := [], ftypes := [], zero := [], eq := none, ik := none, str := false, u8 := false, iface := false, bool := false }
def ti2 : TI := { size := 1, bytes := 8, agg := false, slice := none, elem := 0, ez := [], fields := [], ftypes := [], zero := [.c (.int .i64 0)], eq := some [.int .i64], ik := some .i64, str := false, u8 := false, iface := false, bool := false } -- int64
def ti3 : TI := { size := 1, bytes := 8, agg := false, slice := none, elem := 0, ez := [], fields := [], ftypes := [], zero := [.c (.int .i64 0)], eq := some [.int .i64], ik := some .i64, str := false, u8 := false, iface := false, bool := false } -- int
def ti4 : TI := { size := 1, bytes := 1, agg := false, slice := none, elem := 0, ez := [], fields := [], ftypes := [], zero := [.c (.bool false)], eq := some [.bool], ik := none, str := false, u8 := false, iface := false, bool := true } -- bool
def ti5 : TI := { size := 1, bytes := 1, agg := false, slice := none, elem := 0, ez := [], fields := [], ftypes := [], zero := [.c (.int .u8 0)], eq := some [.int .u8], ik := some .u8, str := false, u8 := false, iface := false, bool := false } -- uint8
def ti7 : TI := { size := 4, bytes := 24, agg := true, slice := none, elem := 0, ez := [], fields := [(0, 1, false), (1, 1, false), (2, 1, false), (3, 1, false)], ftypes := [2, 3, 4, 6], zero := [.c (.int .i64 0), .c (.int .i64 0), .c (.bool false), .c (.int .u8 0)], eq := some [.int .i64, .int .i64, .bool, .int .u8], ik := none, str := false, u8 := false, iface := false, bool := false } -- struct 
def ti9 : TI := { size := 1, bytes := 16, agg := false, slice := none, elem := 0, ez := [], fields := [], ftypes := [], zero := [.c (.str ⟨#[]⟩)], eq := some [.str], ik := none, str := true, u8 := false, iface := false, bool := false } -- string
def ti12 : TI := { size := 1, bytes := 8, agg := false, slice := none, elem := 0, ez := [], fields := [], ftypes := [], zero := [.c (.int .u64 0)], eq := some [.int .u64], ik := some .u64, str := false, u8 := false, iface := false, bool := false } -- uintptr
def ti20 : TI := { size := 1, bytes := 16, agg := false, slice := none, elem := 0, ez := [], fields := [], ftypes := [], zero := [.c (.iface true)], eq := none, ik := none, str := false, u8 := false, iface := true, bool := false } -- interface 
def ti21 : TI := { size := 1, bytes := 4, agg := false, slice := none, elem := 0, ez := [], fields := [], ftypes := [], zero := [.c (.int .i32 0)], eq := some [.int .i32], ik := some .i32, str := false, u8 := false, iface := false, bool := false } -- int32
def ti22 : TI := { size := 1, bytes := 24, agg := false, slice := some (4, 56), elem := 68, ez := [.int .i64 0, .int .i64 0, .str ⟨#[]⟩, .slice 2 []], fields := [], ftypes := [], zero := [.nil 4], eq := none, ik := none, str := false, u8 := false, iface := false, bool := false } -- []laws.Version
def ti24 : TI := { size := 1, bytes := 24, agg := false, slice := some (1, 8), elem := 2, ez := [.int .i64 0], fields := [], ftypes := [], zero := [.nil 1], eq := none, ik := none, str := false, u8 := false, iface := false, bool := false } -- []int64
def ti27 : TI := { size := 1, bytes := 24, agg := false, slice := some (4, 56), elem := 73, ez := [.int .i64 0, .int .i64 0, .str ⟨#[]⟩, .slice 2 []], fields := [], ftypes := [], zero := [.nil 4], eq := none, ik := none, str := false, u8 := false, iface := false, bool := false } -- []impl.Version
def ti34 : TI := { size := 1, bytes := 24, agg := false, slice := some (2, 24), elem := 80, ez := [.str ⟨#[]⟩, .int .i64 0], fields := [], ftypes := [], zero := [.nil 2], eq := none, ik := none, str := false, u8 := false, iface := false, bool := false } -- []laws.Setting
def ti35 : TI := { size := 1, bytes := 24, agg := false, slice := some (3, 32), elem := 83, ez := [.int .i64 0, .str ⟨#[]⟩, .int .i64 0], fields := [], ftypes := [], zero := [.nil 3], eq := none, ik := none, str := false, u8 := false, iface := false, bool := false } -- []laws.Change
def ti38 : TI := { size := 1, bytes := 24, agg := false, slice := some (2, 24), elem := 87, ez := [.str ⟨#[]⟩, .int .i64 0], fields := [], ftypes := [], zero := [.nil 2], eq := none, ik := none, str := false, u8 := false, iface := false, bool := false } -- []impl.Setting
def ti42 : TI := { size := 1, bytes := 24, agg := false, slice := some (3, 32), elem := 89, ez := [.int .i64 0, .str ⟨#[]⟩, .int .i64 0], fields := [], ftypes := [], zero := [.nil 3], eq := none, ik := none, str := false, u8 := false, iface := false, bool := false } -- []impl.Change
def ti49 : TI := { size := 1, bytes := 24, agg := false, slice := some (4, 56), elem := 52, ez := [.str ⟨#[]⟩, .slice 1 [], .int .i64 0, .int .i64 0], fields := [], ftypes := [], zero := [.nil 4], eq := none, ik := none, str := false, u8 := false, iface := false, bool := false } -- []laws.Item
def ti50 : TI := { size := 1, bytes := 24, agg := false, slice := some (1, 16), elem := 9, ez := [.str ⟨#[]⟩], fields := [], ftypes := [], zero := [.nil 1], eq := none, ik := none, str := false, u8 := false, iface := false, bool := false } -- []string
def ti51 : TI := { size := 4, bytes := 56, agg := true, slice := none, elem := 0, ez := [], fields := [(0, 1, false), (1, 1, false), (2, 1, false), (3, 1, false)], ftypes := [9, 50, 2, 2], zero := [.c (.str ⟨#[]⟩), .nil 1, .c (.int .i64 0), .c (.int .i64 0)], eq := none, ik := none, str := false, u8 := false, iface := false, bool := false } -- struct 
def ti52 : TI := { size := 4, bytes := 56, agg := true, slice := none, elem := 0, ez := [], fields := [(0, 1, false), (1, 1, false), (2, 1, false), (3, 1, false)], ftypes := [9, 50, 2, 2], zero := [.c (.str ⟨#[]⟩), .nil 1, .c (.int .i64 0), .c (.int .i64 0)], eq := none, ik := none, str := false, u8 := false, iface := false, bool := false } -- laws.Item
def ti55 : TI := { size := 1, bytes := 24, agg := false, slice := some (4, 56), elem := 59, ez := [.str ⟨#[]⟩, .slice 1 [], .int .i64 0, .int .i64 0], fields := [], ftypes := [], zero := [.nil 4], eq := none, ik := none, str := false, u8 := false, iface := false, bool := false } -- []impl.Item
def ti59 : TI := { size := 4, bytes := 56, agg := true, slice := none, elem := 0, ez := [], fields := [(0, 1, false), (1, 1, false), (2, 1, false), (3, 1, false)], ftypes := [9, 50, 2, 2], zero := [.c (.str ⟨#[]⟩), .nil 1, .c (.int .i64 0), .c (.int .i64 0)], eq := none, ik := none, str := false, u8 := false, iface := false, bool := false } -- impl.Item
def ti67 : TI := { size := 4, bytes := 56, agg := true, slice := none, elem := 0, ez := [], fields := [(0, 1, false), (1, 1, false), (2, 1, false), (3, 1, false)], ftypes := [2, 2, 9, 34], zero := [.c (.int .i64 0), .c (.int .i64 0), .c (.str ⟨#[]⟩), .nil 2], eq := none, ik := none, str := false, u8 := false, iface := false, bool := false } -- struct 
def ti68 : TI := { size := 4, bytes := 56, agg := true, slice := none, elem := 0, ez := [], fields := [(0, 1, false), (1, 1, false), (2, 1, false), (3, 1, false)], ftypes := [2, 2, 9, 34], zero := [.c (.int .i64 0), .c (.int .i64 0), .c (.str ⟨#[]⟩), .nil 2], eq := none, ik := none, str := false, u8 := false, iface := false, bool := false } -- laws.Version
def ti72 : TI := { size := 4, bytes := 56, agg := true, slice := none, elem := 0, ez := [], fields := [(0, 1, false), (1, 1, false), (2, 1, false), (3, 1, false)], ftypes := [2, 2, 9, 38], zero := [.c (.int .i64 0), .c (.int .i64 0), .c (.str ⟨#[]⟩), .nil 2], eq := none, ik := none, str := false, u8 := false, iface := false, bool := false } -- struct 
def ti73 : TI := { size := 4, bytes := 56, agg := true, slice := none, elem := 0, ez := [], fields := [(0, 1, false), (1, 1, false), (2, 1, false), (3, 1, false)], ftypes := [2, 2, 9, 38], zero := [.c (.int .i64 0), .c (.int .i64 0), .c (.str ⟨#[]⟩), .nil 2], eq := none, ik := none, str := false, u8 := false, iface := false, bool := false } -- impl.Version
def ti79 : TI := { size := 2, bytes := 24, agg := true, slice := none, elem := 0, ez := [], fields := [(0, 1, false), (1, 1, false)], ftypes := [9, 2], zero := [.c (.str ⟨#[]⟩), .c (.int .i64 0)], eq := some [.str, .int .i64], ik := none, str := false, u8 := false, iface := false, bool := false } -- struct 
def ti80 : TI := { size := 2, bytes := 24, agg := true, slice := none, elem := 0, ez := [], fields := [(0, 1, false), (1, 1, false)], ftypes := [9, 2], zero := [.c (.str ⟨#[]⟩), .c (.int .i64 0)], eq := some [.str, .int .i64], ik := none, str := false, u8 := false, iface := false, bool := false } -- laws.Setting
def ti82 : TI := { size := 3, bytes := 32, agg := true, slice := none, elem := 0, ez := [], fields := [(0, 1, false), (1, 2, true)], ftypes := [2, 80], zero := [.c (.int .i64 0), .c (.str ⟨#[]⟩), .c (.int .i64 0)], eq := some [.int .i64, .str, .int .i64], ik := none, str := false, u8 := false, iface := false, bool := false } -- struct 
def ti83 : TI := { size := 3, bytes := 32, agg := true, slice := none, elem := 0, ez := [], fields := [(0, 1, false), (1, 2, true)], ftypes := [2, 80], zero := [.c (.int .i64 0), .c (.str ⟨#[]⟩), .c (.int .i64 0)], eq := some [.int .i64, .str, .int .i64], ik := none, str := false, u8 := false, iface := false, bool := false } -- laws.Change
def ti86 : TI := { size := 1, bytes := 8, agg := false, slice := none, elem := 0, ez := [], fields := [], ftypes := [], zero := [], eq := none, ik := none, str := false, u8 := false, iface := false, bool := false } -- *impl.Change
def ti87 : TI := { size := 2, bytes := 24, agg := true, slice := none, elem := 0, ez := [], fields := [(0, 1, false), (1, 1, false)], ftypes := [9, 2], zero := [.c (.str ⟨#[]⟩), .c (.int .i64 0)], eq := some [.str, .int .i64], ik := none, str := false, u8 := false, iface := false, bool := false } -- impl.Setting
def ti88 : TI := { size := 3, bytes := 32, agg := true, slice := none, elem := 0, ez := [], fields := [(0, 1, false), (1, 2, true)], ftypes := [2, 87], zero := [.c (.int .i64 0), .c (.str ⟨#[]⟩), .c (.int .i64 0)], eq := some [.int .i64, .str, .int .i64], ik := none, str := false, u8 := false, iface := false, bool := false } -- struct 
def ti89 : TI := { size := 3, bytes := 32, agg := true, slice := none, elem := 0, ez := [], fields := [(0, 1, false), (1, 2, true)], ftypes := [2, 87], zero := [.c (.int .i64 0), .c (.str ⟨#[]⟩), .c (.int .i64 0)], eq := some [.int .i64, .str, .int .i64], ik := none, str := false, u8 := false, iface := false, bool := false } -- impl.Change
def ti115 : TI := { size := 1, bytes := 24, agg := false, slice := some (1, 1), elem := 5, ez := [.int .u8 0], fields := [], ftypes := [], zero := [.nil 1], eq := none, ik := none, str := false, u8 := true, iface := false, bool := false } -- []uint8
def ti117 : TI := { size := 1, bytes := 8, agg := false, slice := none, elem := 0, ez := [], fields := [], ftypes := [], zero := [], eq := none, ik := none, str := false, u8 := false, iface := false, bool := false } -- *impl.Setting
def ti122 : TI := { size := 1, bytes := 24, agg := false, slice := some (1, 8), elem := 3, ez := [.int .i64 0], fields := [], ftypes := [], zero := [.nil 1], eq := none, ik := none, str := false, u8 := false, iface := false, bool := false } -- []int
def ti136 : TI := { size := 1, bytes := 24, agg := false, slice := some (1, 1), elem := 4, ez := [.bool false], fields := [], ftypes := [], zero := [.nil 1], eq := none, ik := none, str := false, u8 := false, iface := false, bool := false } -- []bool
def ti141 : TI := { size := 1, bytes := 8, agg := false, slice := none, elem := 0, ez := [], fields := [], ftypes := [], zero := [.c (.int .u64 0)], eq := some [.int .u64], ik := some .u64, str := false, u8 := false, iface := false, bool := false } -- uint
def ti154 : TI := { size := 1, bytes := 4, agg := false, slice := none, elem := 0, ez := [], fields := [], ftypes := [], zero := [.c (.int .u32 0)], eq := some [.int .u32], ik := some .u32, str := false, u8 := false, iface := false, bool := false } -- uint32
def ti158 : TI := { size := 1, bytes := 8, agg := false, slice := none, elem := 0, ez := [], fields := [], ftypes := [], zero := [], eq := none, ik := none, str := false, u8 := false, iface := false, bool := false } -- *uint8
def tt (t : Nat) : TI := match Nat.blt t 55 with
  | true => (match Nat.blt t 24 with
    | true => (match Nat.blt t 9 with
      | true => (match Nat.blt t 4 with
        | true => (match Nat.blt t 3 with
          | true => (match Nat.beq t 2 with | true => ti2 | false => tid)
          | false => (match Nat.beq t 3 with | true => ti3 | false => tid))
        | false => (match Nat.blt t 5 with
          | true => (match Nat.beq t 4 with | true => ti4 | false => tid)
          | false => (match Nat.blt t 7 with
            | true => (match Nat.beq t 5 with | true => ti5 | false => tid)
            | false => (match Nat.beq t 7 with | true => ti7 | false => tid))))
      | false => (match Nat.blt t 20 with
        | true => (match Nat.blt t 12 with
          | true => (match Nat.beq t 9 with | true => ti9 | false => tid)
          | false => (match Nat.beq t 12 with | true => ti12 | false => tid))
        | false => (match Nat.blt t 21 with
          | true => (match Nat.beq t 20 with | true => ti20 | false => tid)
          | false => (match Nat.blt t 22 with
            | true => (match Nat.beq t 21 with | true => ti21 | false => tid)
            | false => (match Nat.beq t 22 with | true => ti22 | false => tid)))))
    | false => (match Nat.blt t 42 with
      | true => (match Nat.blt t 34 with
        | true => (match Nat.blt t 27 with
          | true => (match Nat.beq t 24 with | true => ti24 | false => tid)
          | false => (match Nat.beq t 27 with | true => ti27 | false => tid))
        | false => (match Nat.blt t 35 with
          | true => (match Nat.beq t 34 with | true => ti34 | false => tid)
          | false => (match Nat.blt t 38 with
            | true => (match Nat.beq t 35 with | true => ti35 | false => tid)
            | false => (match Nat.beq t 38 with | true => ti38 | false => tid))))
      | false => (match Nat.blt t 50 with
        | true => (match Nat.blt t 49 with
          | true => (match Nat.beq t 42 with | true => ti42 | false => tid)
          | false => (match Nat.beq t 49 with | true => ti49 | false => tid))
        | false => (match Nat.blt t 51 with
          | true => (match Nat.beq t 50 with | true => ti50 | false => tid)
          | false => (match Nat.blt t 52 with
            | true => (match Nat.beq t 51 with | true => ti51 | false => tid)
            | false => (match Nat.beq t 52 with | true => ti52 | false => tid))))))
  | false => (match Nat.blt t 86 with
    | true => (match Nat.blt t 73 with
      | true => (match Nat.blt t 67 with
        | true => (match Nat.blt t 59 with
          | true => (match Nat.beq t 55 with | true => ti55 | false => tid)
          | false => (match Nat.beq t 59 with | true => ti59 | false => tid))
        | false => (match Nat.blt t 68 with
          | true => (match Nat.beq t 67 with | true => ti67 | false => tid)
          | false => (match Nat.blt t 72 with
            | true => (match Nat.beq t 68 with | true => ti68 | false => tid)
            | false => (match Nat.beq t 72 with | true => ti72 | false => tid))))
      | false => (match Nat.blt t 80 with
        | true => (match Nat.blt t 79 with
          | true => (match Nat.beq t 73 with | true => ti73 | false => tid)
          | false => (match Nat.beq t 79 with | true => ti79 | false => tid))
        | false => (match Nat.blt t 82 with
          | true => (match Nat.beq t 80 with | true => ti80 | false => tid)
          | false => (match Nat.blt t 83 with
            | true => (match Nat.beq t 82 with | true => ti82 | false => tid)
            | false => (match Nat.beq t 83 with | true => ti83 | false => tid)))))
    | false => (match Nat.blt t 117 with
      | true => (match Nat.blt t 88 with
        | true => (match Nat.blt t 87 with
          | true => (match Nat.beq t 86 with | true => ti86 | false => tid)
          | false => (match Nat.beq t 87 with | true => ti87 | false => tid))
        | false => (match Nat.blt t 89 with
          | true => (match Nat.beq t 88 with | true => ti88 | false => tid)
          | false => (match Nat.blt t 115 with
            | true => (match Nat.beq t 89 with | true => ti89 | false => tid)
            | false => (match Nat.beq t 115 with | true => ti115 | false => tid))))
      | false => (match Nat.blt t 141 with
        | true => (match Nat.blt t 122 with
          | true => (match Nat.beq t 117 with | true => ti117 | false => tid)
          | false => (match Nat.blt t 136 with
            | true => (match Nat.beq t 122 with | true => ti122 | false => tid)
            | false => (match Nat.beq t 136 with | true => ti136 | false => tid)))
        | false => (match Nat.blt t 154 with
          | true => (match Nat.beq t 141 with | true => ti141 | false => tid)
          | false => (match Nat.blt t 158 with
            | true => (match Nat.beq t 154 with | true => ti154 | false => tid)
            | false => (match Nat.beq t 158 with | true => ti158 | false => tid))))))
end Go.Proofs.Ytjolahiflldepaa.Pi
