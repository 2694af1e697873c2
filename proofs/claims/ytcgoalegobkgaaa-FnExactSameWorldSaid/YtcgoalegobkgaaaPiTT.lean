/- The table of the types, as the program has them. -/
import Derived.Test.YtcgoalegobkgaaaPiWp
namespace Go.Proofs.Ytcgoalegobkgaaa.Pi
open Go
def tid : TI := { size := 0, bytes := 0, agg := false, slice := none, elem := 0, ez := [], fields := [], ftypes := [], zero := [], eq := none, ik := none, str := false, u8 := false, iface := false, bool := false }
def ti2 : TI := { size := 1, bytes := 8, agg := false, slice := none, elem := 0, ez := [], fields := [], ftypes := [], zero := [.c (.int .i64 0)], eq := some [.int .i64], ik := some .i64, str := false, u8 := false, iface := false, bool := false } -- int64
def ti3 : TI := { size := 1, bytes := 8, agg := false, slice := none, elem := 0, ez := [], fields := [], ftypes := [], zero := [.c (.int .i64 0)], eq := some [.int .i64], ik := some .i64, str := false, u8 := false, iface := false, bool := false } -- int
def ti4 : TI := { size := 1, bytes := 1, agg := false, slice := none, elem := 0, ez := [], fields := [], ftypes := [], zero := [.c (.bool false)], eq := some [.bool], ik := none, str := false, u8 := false, iface := false, bool := true } -- bool
def ti5 : TI := { size := 1, bytes := 1, agg := false, slice := none, elem := 0, ez := [], fields := [], ftypes := [], zero := [.c (.int .u8 0)], eq := some [.int .u8], ik := some .u8, str := false, u8 := false, iface := false, bool := false } -- uint8
def ti7 : TI := { size := 4, bytes := 24, agg := true, slice := none, elem := 0, ez := [], fields := [(0, 1, false), (1, 1, false), (2, 1, false), (3, 1, false)], ftypes := [2, 3, 4, 6], zero := [.c (.int .i64 0), .c (.int .i64 0), .c (.bool false), .c (.int .u8 0)], eq := some [.int .i64, .int .i64, .bool, .int .u8], ik := none, str := false, u8 := false, iface := false, bool := false } -- struct 
def ti9 : TI := { size := 1, bytes := 16, agg := false, slice := none, elem := 0, ez := [], fields := [], ftypes := [], zero := [.c (.str ⟨#[]⟩)], eq := some [.str], ik := none, str := true, u8 := false, iface := false, bool := false } -- string
def ti12 : TI := { size := 1, bytes := 8, agg := false, slice := none, elem := 0, ez := [], fields := [], ftypes := [], zero := [.c (.int .u64 0)], eq := some [.int .u64], ik := some .u64, str := false, u8 := false, iface := false, bool := false } -- uintptr
def ti20 : TI := { size := 1, bytes := 16, agg := false, slice := none, elem := 0, ez := [], fields := [], ftypes := [], zero := [.c (.iface true)], eq := none, ik := none, str := false, u8 := false, iface := true, bool := false } -- interface 
def ti21 : TI := { size := 1, bytes := 4, agg := false, slice := none, elem := 0, ez := [], fields := [], ftypes := [], zero := [.c (.int .i32 0)], eq := some [.int .i32], ik := some .i32, str := false, u8 := false, iface := false, bool := false } -- int32
def ti22 : TI := { size := 1, bytes := 24, agg := false, slice := some (4, 56), elem := 99, ez := [.str ⟨#[]⟩, .slice 1 [], .int .i64 0, .int .i64 0], fields := [], ftypes := [], zero := [.nil 4], eq := none, ik := none, str := false, u8 := false, iface := false, bool := false } -- []laws.Item
def ti25 : TI := { size := 1, bytes := 24, agg := false, slice := some (4, 56), elem := 100, ez := [.str ⟨#[]⟩, .slice 1 [], .int .i64 0, .int .i64 0], fields := [], ftypes := [], zero := [.nil 4], eq := none, ik := none, str := false, u8 := false, iface := false, bool := false } -- []impl.Item
def ti29 : TI := { size := 1, bytes := 24, agg := false, slice := some (1, 8), elem := 2, ez := [.int .i64 0], fields := [], ftypes := [], zero := [.nil 1], eq := none, ik := none, str := false, u8 := false, iface := false, bool := false } -- []int64
def ti30 : TI := { size := 4, bytes := 48, agg := true, slice := none, elem := 0, ez := [], fields := [(0, 1, false), (1, 1, false), (2, 1, false), (3, 1, false)], ftypes := [2, 2, 2, 29], zero := [.c (.int .i64 0), .c (.int .i64 0), .c (.int .i64 0), .nil 1], eq := none, ik := none, str := false, u8 := false, iface := false, bool := false } -- struct 
def ti31 : TI := { size := 4, bytes := 48, agg := true, slice := none, elem := 0, ez := [], fields := [(0, 1, false), (1, 1, false), (2, 1, false), (3, 1, false)], ftypes := [2, 2, 2, 29], zero := [.c (.int .i64 0), .c (.int .i64 0), .c (.int .i64 0), .nil 1], eq := none, ik := none, str := false, u8 := false, iface := false, bool := false } -- laws.Matrix
def ti32 : TI := { size := 1, bytes := 24, agg := false, slice := some (1, 24), elem := 29, ez := [.slice 1 []], fields := [], ftypes := [], zero := [.nil 1], eq := none, ik := none, str := false, u8 := false, iface := false, bool := false } -- [][]int64
def ti33 : TI := { size := 6, bytes := 80, agg := true, slice := none, elem := 0, ez := [], fields := [(0, 1, false), (1, 4, true), (5, 1, false)], ftypes := [2, 31, 32], zero := [.c (.int .i64 0), .c (.int .i64 0), .c (.int .i64 0), .c (.int .i64 0), .nil 1, .nil 1], eq := none, ik := none, str := false, u8 := false, iface := false, bool := false } -- struct 
def ti34 : TI := { size := 6, bytes := 80, agg := true, slice := none, elem := 0, ez := [], fields := [(0, 1, false), (1, 4, true), (5, 1, false)], ftypes := [2, 31, 32], zero := [.c (.int .i64 0), .c (.int .i64 0), .c (.int .i64 0), .c (.int .i64 0), .nil 1, .nil 1], eq := none, ik := none, str := false, u8 := false, iface := false, bool := false } -- laws.Proof
def ti37 : TI := { size := 4, bytes := 48, agg := true, slice := none, elem := 0, ez := [], fields := [(0, 1, false), (1, 1, false), (2, 1, false), (3, 1, false)], ftypes := [2, 2, 2, 29], zero := [.c (.int .i64 0), .c (.int .i64 0), .c (.int .i64 0), .nil 1], eq := none, ik := none, str := false, u8 := false, iface := false, bool := false } -- impl.Matrix
def ti38 : TI := { size := 6, bytes := 80, agg := true, slice := none, elem := 0, ez := [], fields := [(0, 1, false), (1, 4, true), (5, 1, false)], ftypes := [2, 37, 32], zero := [.c (.int .i64 0), .c (.int .i64 0), .c (.int .i64 0), .c (.int .i64 0), .nil 1, .nil 1], eq := none, ik := none, str := false, u8 := false, iface := false, bool := false } -- struct 
def ti39 : TI := { size := 6, bytes := 80, agg := true, slice := none, elem := 0, ez := [], fields := [(0, 1, false), (1, 4, true), (5, 1, false)], ftypes := [2, 37, 32], zero := [.c (.int .i64 0), .c (.int .i64 0), .c (.int .i64 0), .c (.int .i64 0), .nil 1, .nil 1], eq := none, ik := none, str := false, u8 := false, iface := false, bool := false } -- impl.Proof
def ti43 : TI := { size := 1, bytes := 24, agg := false, slice := some (2, 24), elem := 120, ez := [.str ⟨#[]⟩, .int .i64 0], fields := [], ftypes := [], zero := [.nil 2], eq := none, ik := none, str := false, u8 := false, iface := false, bool := false } -- []laws.Setting
def ti45 : TI := { size := 1, bytes := 24, agg := false, slice := some (3, 32), elem := 125, ez := [.int .i64 0, .str ⟨#[]⟩, .int .i64 0], fields := [], ftypes := [], zero := [.nil 3], eq := none, ik := none, str := false, u8 := false, iface := false, bool := false } -- []impl.Change
def ti48 : TI := { size := 1, bytes := 24, agg := false, slice := some (2, 24), elem := 123, ez := [.str ⟨#[]⟩, .int .i64 0], fields := [], ftypes := [], zero := [.nil 2], eq := none, ik := none, str := false, u8 := false, iface := false, bool := false } -- []impl.Setting
def ti55 : TI := { size := 1, bytes := 24, agg := false, slice := some (1, 16), elem := 9, ez := [.str ⟨#[]⟩], fields := [], ftypes := [], zero := [.nil 1], eq := none, ik := none, str := false, u8 := false, iface := false, bool := false } -- []string
def ti61 : TI := { size := 1, bytes := 24, agg := false, slice := some (4, 56), elem := 136, ez := [.int .i64 0, .int .i64 0, .str ⟨#[]⟩, .slice 2 []], fields := [], ftypes := [], zero := [.nil 4], eq := none, ik := none, str := false, u8 := false, iface := false, bool := false } -- []laws.Version
def ti65 : TI := { size := 1, bytes := 24, agg := false, slice := some (4, 56), elem := 141, ez := [.int .i64 0, .int .i64 0, .str ⟨#[]⟩, .slice 2 []], fields := [], ftypes := [], zero := [.nil 4], eq := none, ik := none, str := false, u8 := false, iface := false, bool := false } -- []impl.Version
def ti85 : TI := { size := 1, bytes := 24, agg := false, slice := some (2, 40), elem := 216, ez := [.str ⟨#[]⟩, .slice 1 []], fields := [], ftypes := [], zero := [.nil 2], eq := none, ik := none, str := false, u8 := false, iface := false, bool := false } -- []laws.NamedComplex
def ti86 : TI := { size := 1, bytes := 24, agg := false, slice := some (5, 96), elem := 222, ez := [.str ⟨#[]⟩, .slice 1 [], .int .i64 0, .slice 1 [], .slice 4 []], fields := [], ftypes := [], zero := [.nil 5], eq := none, ik := none, str := false, u8 := false, iface := false, bool := false } -- []laws.NamedSheaf
def ti87 : TI := { size := 2, bytes := 48, agg := true, slice := none, elem := 0, ez := [], fields := [(0, 1, false), (1, 1, false)], ftypes := [85, 86], zero := [.nil 2, .nil 5], eq := none, ik := none, str := false, u8 := false, iface := false, bool := false } -- struct 
def ti88 : TI := { size := 2, bytes := 48, agg := true, slice := none, elem := 0, ez := [], fields := [(0, 1, false), (1, 1, false)], ftypes := [85, 86], zero := [.nil 2, .nil 5], eq := none, ik := none, str := false, u8 := false, iface := false, bool := false } -- laws.World
def ti91 : TI := { size := 1, bytes := 24, agg := false, slice := some (2, 40), elem := 160, ez := [.str ⟨#[]⟩, .slice 1 []], fields := [], ftypes := [], zero := [.nil 2], eq := none, ik := none, str := false, u8 := false, iface := false, bool := false } -- []impl.NamedComplex
def ti92 : TI := { size := 1, bytes := 24, agg := false, slice := some (5, 96), elem := 167, ez := [.str ⟨#[]⟩, .slice 1 [], .int .i64 0, .slice 1 [], .slice 4 []], fields := [], ftypes := [], zero := [.nil 5], eq := none, ik := none, str := false, u8 := false, iface := false, bool := false } -- []impl.NamedSheaf
def ti93 : TI := { size := 2, bytes := 48, agg := true, slice := none, elem := 0, ez := [], fields := [(0, 1, false), (1, 1, false)], ftypes := [91, 92], zero := [.nil 2, .nil 5], eq := none, ik := none, str := false, u8 := false, iface := false, bool := false } -- struct 
def ti94 : TI := { size := 2, bytes := 48, agg := true, slice := none, elem := 0, ez := [], fields := [(0, 1, false), (1, 1, false)], ftypes := [91, 92], zero := [.nil 2, .nil 5], eq := none, ik := none, str := false, u8 := false, iface := false, bool := false } -- impl.World
def ti98 : TI := { size := 4, bytes := 56, agg := true, slice := none, elem := 0, ez := [], fields := [(0, 1, false), (1, 1, false), (2, 1, false), (3, 1, false)], ftypes := [9, 55, 2, 2], zero := [.c (.str ⟨#[]⟩), .nil 1, .c (.int .i64 0), .c (.int .i64 0)], eq := none, ik := none, str := false, u8 := false, iface := false, bool := false } -- struct 
def ti99 : TI := { size := 4, bytes := 56, agg := true, slice := none, elem := 0, ez := [], fields := [(0, 1, false), (1, 1, false), (2, 1, false), (3, 1, false)], ftypes := [9, 55, 2, 2], zero := [.c (.str ⟨#[]⟩), .nil 1, .c (.int .i64 0), .c (.int .i64 0)], eq := none, ik := none, str := false, u8 := false, iface := false, bool := false } -- laws.Item
def ti100 : TI := { size := 4, bytes := 56, agg := true, slice := none, elem := 0, ez := [], fields := [(0, 1, false), (1, 1, false), (2, 1, false), (3, 1, false)], ftypes := [9, 55, 2, 2], zero := [.c (.str ⟨#[]⟩), .nil 1, .c (.int .i64 0), .c (.int .i64 0)], eq := none, ik := none, str := false, u8 := false, iface := false, bool := false } -- impl.Item
def ti112 : TI := { size := 1, bytes := 8, agg := false, slice := none, elem := 0, ez := [], fields := [], ftypes := [], zero := [], eq := none, ik := none, str := false, u8 := false, iface := false, bool := false } -- *impl.Proof
def ti119 : TI := { size := 2, bytes := 24, agg := true, slice := none, elem := 0, ez := [], fields := [(0, 1, false), (1, 1, false)], ftypes := [9, 2], zero := [.c (.str ⟨#[]⟩), .c (.int .i64 0)], eq := some [.str, .int .i64], ik := none, str := false, u8 := false, iface := false, bool := false } -- struct 
def ti120 : TI := { size := 2, bytes := 24, agg := true, slice := none, elem := 0, ez := [], fields := [(0, 1, false), (1, 1, false)], ftypes := [9, 2], zero := [.c (.str ⟨#[]⟩), .c (.int .i64 0)], eq := some [.str, .int .i64], ik := none, str := false, u8 := false, iface := false, bool := false } -- laws.Setting
def ti123 : TI := { size := 2, bytes := 24, agg := true, slice := none, elem := 0, ez := [], fields := [(0, 1, false), (1, 1, false)], ftypes := [9, 2], zero := [.c (.str ⟨#[]⟩), .c (.int .i64 0)], eq := some [.str, .int .i64], ik := none, str := false, u8 := false, iface := false, bool := false } -- impl.Setting
def ti124 : TI := { size := 3, bytes := 32, agg := true, slice := none, elem := 0, ez := [], fields := [(0, 1, false), (1, 2, true)], ftypes := [2, 123], zero := [.c (.int .i64 0), .c (.str ⟨#[]⟩), .c (.int .i64 0)], eq := some [.int .i64, .str, .int .i64], ik := none, str := false, u8 := false, iface := false, bool := false } -- struct 
def ti125 : TI := { size := 3, bytes := 32, agg := true, slice := none, elem := 0, ez := [], fields := [(0, 1, false), (1, 2, true)], ftypes := [2, 123], zero := [.c (.int .i64 0), .c (.str ⟨#[]⟩), .c (.int .i64 0)], eq := some [.int .i64, .str, .int .i64], ik := none, str := false, u8 := false, iface := false, bool := false } -- impl.Change
def ti132 : TI := { size := 1, bytes := 24, agg := false, slice := some (1, 8), elem := 3, ez := [.int .i64 0], fields := [], ftypes := [], zero := [.nil 1], eq := none, ik := none, str := false, u8 := false, iface := false, bool := false } -- []int
def ti135 : TI := { size := 4, bytes := 56, agg := true, slice := none, elem := 0, ez := [], fields := [(0, 1, false), (1, 1, false), (2, 1, false), (3, 1, false)], ftypes := [2, 2, 9, 43], zero := [.c (.int .i64 0), .c (.int .i64 0), .c (.str ⟨#[]⟩), .nil 2], eq := none, ik := none, str := false, u8 := false, iface := false, bool := false } -- struct 
def ti136 : TI := { size := 4, bytes := 56, agg := true, slice := none, elem := 0, ez := [], fields := [(0, 1, false), (1, 1, false), (2, 1, false), (3, 1, false)], ftypes := [2, 2, 9, 43], zero := [.c (.int .i64 0), .c (.int .i64 0), .c (.str ⟨#[]⟩), .nil 2], eq := none, ik := none, str := false, u8 := false, iface := false, bool := false } -- laws.Version
def ti140 : TI := { size := 4, bytes := 56, agg := true, slice := none, elem := 0, ez := [], fields := [(0, 1, false), (1, 1, false), (2, 1, false), (3, 1, false)], ftypes := [2, 2, 9, 48], zero := [.c (.int .i64 0), .c (.int .i64 0), .c (.str ⟨#[]⟩), .nil 2], eq := none, ik := none, str := false, u8 := false, iface := false, bool := false } -- struct 
def ti141 : TI := { size := 4, bytes := 56, agg := true, slice := none, elem := 0, ez := [], fields := [(0, 1, false), (1, 1, false), (2, 1, false), (3, 1, false)], ftypes := [2, 2, 9, 48], zero := [.c (.int .i64 0), .c (.int .i64 0), .c (.str ⟨#[]⟩), .nil 2], eq := none, ik := none, str := false, u8 := false, iface := false, bool := false } -- impl.Version
def ti157 : TI := { size := 1, bytes := 24, agg := true, slice := none, elem := 0, ez := [], fields := [(0, 1, false)], ftypes := [32], zero := [.nil 1], eq := none, ik := none, str := false, u8 := false, iface := false, bool := false } -- struct 
def ti158 : TI := { size := 1, bytes := 24, agg := true, slice := none, elem := 0, ez := [], fields := [(0, 1, false)], ftypes := [32], zero := [.nil 1], eq := none, ik := none, str := false, u8 := false, iface := false, bool := false } -- impl.Complex
def ti159 : TI := { size := 2, bytes := 40, agg := true, slice := none, elem := 0, ez := [], fields := [(0, 1, false), (1, 1, true)], ftypes := [9, 158], zero := [.c (.str ⟨#[]⟩), .nil 1], eq := none, ik := none, str := false, u8 := false, iface := false, bool := false } -- struct 
def ti160 : TI := { size := 2, bytes := 40, agg := true, slice := none, elem := 0, ez := [], fields := [(0, 1, false), (1, 1, true)], ftypes := [9, 158], zero := [.c (.str ⟨#[]⟩), .nil 1], eq := none, ik := none, str := false, u8 := false, iface := false, bool := false } -- impl.NamedComplex
def ti162 : TI := { size := 1, bytes := 8, agg := false, slice := none, elem := 0, ez := [], fields := [], ftypes := [], zero := [], eq := none, ik := none, str := false, u8 := false, iface := false, bool := false } -- *impl.Complex
def ti163 : TI := { size := 1, bytes := 24, agg := false, slice := some (4, 48), elem := 37, ez := [.int .i64 0, .int .i64 0, .int .i64 0, .slice 1 []], fields := [], ftypes := [], zero := [.nil 4], eq := none, ik := none, str := false, u8 := false, iface := false, bool := false } -- []impl.Matrix
def ti164 : TI := { size := 4, bytes := 80, agg := true, slice := none, elem := 0, ez := [], fields := [(0, 1, true), (1, 1, false), (2, 1, false), (3, 1, false)], ftypes := [158, 2, 29, 163], zero := [.nil 1, .c (.int .i64 0), .nil 1, .nil 4], eq := none, ik := none, str := false, u8 := false, iface := false, bool := false } -- struct 
def ti165 : TI := { size := 4, bytes := 80, agg := true, slice := none, elem := 0, ez := [], fields := [(0, 1, true), (1, 1, false), (2, 1, false), (3, 1, false)], ftypes := [158, 2, 29, 163], zero := [.nil 1, .c (.int .i64 0), .nil 1, .nil 4], eq := none, ik := none, str := false, u8 := false, iface := false, bool := false } -- impl.Sheaf
def ti166 : TI := { size := 5, bytes := 96, agg := true, slice := none, elem := 0, ez := [], fields := [(0, 1, false), (1, 4, true)], ftypes := [9, 165], zero := [.c (.str ⟨#[]⟩), .nil 1, .c (.int .i64 0), .nil 1, .nil 4], eq := none, ik := none, str := false, u8 := false, iface := false, bool := false } -- struct 
def ti167 : TI := { size := 5, bytes := 96, agg := true, slice := none, elem := 0, ez := [], fields := [(0, 1, false), (1, 4, true)], ftypes := [9, 165], zero := [.c (.str ⟨#[]⟩), .nil 1, .c (.int .i64 0), .nil 1, .nil 4], eq := none, ik := none, str := false, u8 := false, iface := false, bool := false } -- impl.NamedSheaf
def ti169 : TI := { size := 1, bytes := 8, agg := false, slice := none, elem := 0, ez := [], fields := [], ftypes := [], zero := [], eq := none, ik := none, str := false, u8 := false, iface := false, bool := false } -- *impl.Sheaf
def ti185 : TI := { size := 1, bytes := 8, agg := false, slice := none, elem := 0, ez := [], fields := [], ftypes := [], zero := [], eq := none, ik := none, str := false, u8 := false, iface := false, bool := false } -- *impl.Matrix
def ti196 : TI := { size := 1, bytes := 8, agg := false, slice := none, elem := 0, ez := [], fields := [], ftypes := [], zero := [], eq := none, ik := none, str := false, u8 := false, iface := false, bool := false } -- *impl.Setting
def ti197 : TI := { size := 1, bytes := 24, agg := false, slice := some (1, 24), elem := 48, ez := [.slice 2 []], fields := [], ftypes := [], zero := [.nil 1], eq := none, ik := none, str := false, u8 := false, iface := false, bool := false } -- [][]impl.Setting
def ti200 : TI := { size := 1, bytes := 24, agg := false, slice := some (1, 1), elem := 5, ez := [.int .u8 0], fields := [], ftypes := [], zero := [.nil 1], eq := none, ik := none, str := false, u8 := true, iface := false, bool := false } -- []uint8
def ti201 : TI := { size := 1, bytes := 24, agg := false, slice := some (1, 1), elem := 4, ez := [.bool false], fields := [], ftypes := [], zero := [.nil 1], eq := none, ik := none, str := false, u8 := false, iface := false, bool := false } -- []bool
def ti214 : TI := { size := 1, bytes := 24, agg := true, slice := none, elem := 0, ez := [], fields := [(0, 1, false)], ftypes := [32], zero := [.nil 1], eq := none, ik := none, str := false, u8 := false, iface := false, bool := false } -- laws.Complex
def ti215 : TI := { size := 2, bytes := 40, agg := true, slice := none, elem := 0, ez := [], fields := [(0, 1, false), (1, 1, true)], ftypes := [9, 214], zero := [.c (.str ⟨#[]⟩), .nil 1], eq := none, ik := none, str := false, u8 := false, iface := false, bool := false } -- struct 
def ti216 : TI := { size := 2, bytes := 40, agg := true, slice := none, elem := 0, ez := [], fields := [(0, 1, false), (1, 1, true)], ftypes := [9, 214], zero := [.c (.str ⟨#[]⟩), .nil 1], eq := none, ik := none, str := false, u8 := false, iface := false, bool := false } -- laws.NamedComplex
def ti218 : TI := { size := 1, bytes := 24, agg := false, slice := some (4, 48), elem := 31, ez := [.int .i64 0, .int .i64 0, .int .i64 0, .slice 1 []], fields := [], ftypes := [], zero := [.nil 4], eq := none, ik := none, str := false, u8 := false, iface := false, bool := false } -- []laws.Matrix
def ti219 : TI := { size := 4, bytes := 80, agg := true, slice := none, elem := 0, ez := [], fields := [(0, 1, true), (1, 1, false), (2, 1, false), (3, 1, false)], ftypes := [214, 2, 29, 218], zero := [.nil 1, .c (.int .i64 0), .nil 1, .nil 4], eq := none, ik := none, str := false, u8 := false, iface := false, bool := false } -- struct 
def ti220 : TI := { size := 4, bytes := 80, agg := true, slice := none, elem := 0, ez := [], fields := [(0, 1, true), (1, 1, false), (2, 1, false), (3, 1, false)], ftypes := [214, 2, 29, 218], zero := [.nil 1, .c (.int .i64 0), .nil 1, .nil 4], eq := none, ik := none, str := false, u8 := false, iface := false, bool := false } -- laws.Sheaf
def ti221 : TI := { size := 5, bytes := 96, agg := true, slice := none, elem := 0, ez := [], fields := [(0, 1, false), (1, 4, true)], ftypes := [9, 220], zero := [.c (.str ⟨#[]⟩), .nil 1, .c (.int .i64 0), .nil 1, .nil 4], eq := none, ik := none, str := false, u8 := false, iface := false, bool := false } -- struct 
def ti222 : TI := { size := 5, bytes := 96, agg := true, slice := none, elem := 0, ez := [], fields := [(0, 1, false), (1, 4, true)], ftypes := [9, 220], zero := [.c (.str ⟨#[]⟩), .nil 1, .c (.int .i64 0), .nil 1, .nil 4], eq := none, ik := none, str := false, u8 := false, iface := false, bool := false } -- laws.NamedSheaf
def ti238 : TI := { size := 1, bytes := 8, agg := false, slice := none, elem := 0, ez := [], fields := [], ftypes := [], zero := [.c (.int .u64 0)], eq := some [.int .u64], ik := some .u64, str := false, u8 := false, iface := false, bool := false } -- uint
def ti255 : TI := { size := 1, bytes := 4, agg := false, slice := none, elem := 0, ez := [], fields := [], ftypes := [], zero := [.c (.int .u32 0)], eq := some [.int .u32], ik := some .u32, str := false, u8 := false, iface := false, bool := false } -- uint32
def ti259 : TI := { size := 1, bytes := 8, agg := false, slice := none, elem := 0, ez := [], fields := [], ftypes := [], zero := [], eq := none, ik := none, str := false, u8 := false, iface := false, bool := false } -- *uint8
def tt (t : Nat) : TI := match Nat.blt t 112 with
  | true => (match Nat.blt t 38 with
    | true => (match Nat.blt t 22 with
      | true => (match Nat.blt t 7 with
        | true => (match Nat.blt t 4 with
          | true => (match Nat.blt t 3 with
            | true => (match Nat.beq t 2 with | true => ti2 | false => tid)
            | false => (match Nat.beq t 3 with | true => ti3 | false => tid))
          | false => (match Nat.blt t 5 with
            | true => (match Nat.beq t 4 with | true => ti4 | false => tid)
            | false => (match Nat.beq t 5 with | true => ti5 | false => tid)))
        | false => (match Nat.blt t 12 with
          | true => (match Nat.blt t 9 with
            | true => (match Nat.beq t 7 with | true => ti7 | false => tid)
            | false => (match Nat.beq t 9 with | true => ti9 | false => tid))
          | false => (match Nat.blt t 20 with
            | true => (match Nat.beq t 12 with | true => ti12 | false => tid)
            | false => (match Nat.blt t 21 with
              | true => (match Nat.beq t 20 with | true => ti20 | false => tid)
              | false => (match Nat.beq t 21 with | true => ti21 | false => tid)))))
      | false => (match Nat.blt t 31 with
        | true => (match Nat.blt t 29 with
          | true => (match Nat.blt t 25 with
            | true => (match Nat.beq t 22 with | true => ti22 | false => tid)
            | false => (match Nat.beq t 25 with | true => ti25 | false => tid))
          | false => (match Nat.blt t 30 with
            | true => (match Nat.beq t 29 with | true => ti29 | false => tid)
            | false => (match Nat.beq t 30 with | true => ti30 | false => tid)))
        | false => (match Nat.blt t 33 with
          | true => (match Nat.blt t 32 with
            | true => (match Nat.beq t 31 with | true => ti31 | false => tid)
            | false => (match Nat.beq t 32 with | true => ti32 | false => tid))
          | false => (match Nat.blt t 34 with
            | true => (match Nat.beq t 33 with | true => ti33 | false => tid)
            | false => (match Nat.blt t 37 with
              | true => (match Nat.beq t 34 with | true => ti34 | false => tid)
              | false => (match Nat.beq t 37 with | true => ti37 | false => tid))))))
    | false => (match Nat.blt t 86 with
      | true => (match Nat.blt t 48 with
        | true => (match Nat.blt t 43 with
          | true => (match Nat.blt t 39 with
            | true => (match Nat.beq t 38 with | true => ti38 | false => tid)
            | false => (match Nat.beq t 39 with | true => ti39 | false => tid))
          | false => (match Nat.blt t 45 with
            | true => (match Nat.beq t 43 with | true => ti43 | false => tid)
            | false => (match Nat.beq t 45 with | true => ti45 | false => tid)))
        | false => (match Nat.blt t 61 with
          | true => (match Nat.blt t 55 with
            | true => (match Nat.beq t 48 with | true => ti48 | false => tid)
            | false => (match Nat.beq t 55 with | true => ti55 | false => tid))
          | false => (match Nat.blt t 65 with
            | true => (match Nat.beq t 61 with | true => ti61 | false => tid)
            | false => (match Nat.blt t 85 with
              | true => (match Nat.beq t 65 with | true => ti65 | false => tid)
              | false => (match Nat.beq t 85 with | true => ti85 | false => tid)))))
      | false => (match Nat.blt t 93 with
        | true => (match Nat.blt t 88 with
          | true => (match Nat.blt t 87 with
            | true => (match Nat.beq t 86 with | true => ti86 | false => tid)
            | false => (match Nat.beq t 87 with | true => ti87 | false => tid))
          | false => (match Nat.blt t 91 with
            | true => (match Nat.beq t 88 with | true => ti88 | false => tid)
            | false => (match Nat.blt t 92 with
              | true => (match Nat.beq t 91 with | true => ti91 | false => tid)
              | false => (match Nat.beq t 92 with | true => ti92 | false => tid))))
        | false => (match Nat.blt t 98 with
          | true => (match Nat.blt t 94 with
            | true => (match Nat.beq t 93 with | true => ti93 | false => tid)
            | false => (match Nat.beq t 94 with | true => ti94 | false => tid))
          | false => (match Nat.blt t 99 with
            | true => (match Nat.beq t 98 with | true => ti98 | false => tid)
            | false => (match Nat.blt t 100 with
              | true => (match Nat.beq t 99 with | true => ti99 | false => tid)
              | false => (match Nat.beq t 100 with | true => ti100 | false => tid)))))))
  | false => (match Nat.blt t 166 with
    | true => (match Nat.blt t 140 with
      | true => (match Nat.blt t 124 with
        | true => (match Nat.blt t 120 with
          | true => (match Nat.blt t 119 with
            | true => (match Nat.beq t 112 with | true => ti112 | false => tid)
            | false => (match Nat.beq t 119 with | true => ti119 | false => tid))
          | false => (match Nat.blt t 123 with
            | true => (match Nat.beq t 120 with | true => ti120 | false => tid)
            | false => (match Nat.beq t 123 with | true => ti123 | false => tid)))
        | false => (match Nat.blt t 132 with
          | true => (match Nat.blt t 125 with
            | true => (match Nat.beq t 124 with | true => ti124 | false => tid)
            | false => (match Nat.beq t 125 with | true => ti125 | false => tid))
          | false => (match Nat.blt t 135 with
            | true => (match Nat.beq t 132 with | true => ti132 | false => tid)
            | false => (match Nat.blt t 136 with
              | true => (match Nat.beq t 135 with | true => ti135 | false => tid)
              | false => (match Nat.beq t 136 with | true => ti136 | false => tid)))))
      | false => (match Nat.blt t 160 with
        | true => (match Nat.blt t 157 with
          | true => (match Nat.blt t 141 with
            | true => (match Nat.beq t 140 with | true => ti140 | false => tid)
            | false => (match Nat.beq t 141 with | true => ti141 | false => tid))
          | false => (match Nat.blt t 158 with
            | true => (match Nat.beq t 157 with | true => ti157 | false => tid)
            | false => (match Nat.blt t 159 with
              | true => (match Nat.beq t 158 with | true => ti158 | false => tid)
              | false => (match Nat.beq t 159 with | true => ti159 | false => tid))))
        | false => (match Nat.blt t 163 with
          | true => (match Nat.blt t 162 with
            | true => (match Nat.beq t 160 with | true => ti160 | false => tid)
            | false => (match Nat.beq t 162 with | true => ti162 | false => tid))
          | false => (match Nat.blt t 164 with
            | true => (match Nat.beq t 163 with | true => ti163 | false => tid)
            | false => (match Nat.blt t 165 with
              | true => (match Nat.beq t 164 with | true => ti164 | false => tid)
              | false => (match Nat.beq t 165 with | true => ti165 | false => tid))))))
    | false => (match Nat.blt t 215 with
      | true => (match Nat.blt t 196 with
        | true => (match Nat.blt t 169 with
          | true => (match Nat.blt t 167 with
            | true => (match Nat.beq t 166 with | true => ti166 | false => tid)
            | false => (match Nat.beq t 167 with | true => ti167 | false => tid))
          | false => (match Nat.blt t 185 with
            | true => (match Nat.beq t 169 with | true => ti169 | false => tid)
            | false => (match Nat.beq t 185 with | true => ti185 | false => tid)))
        | false => (match Nat.blt t 200 with
          | true => (match Nat.blt t 197 with
            | true => (match Nat.beq t 196 with | true => ti196 | false => tid)
            | false => (match Nat.beq t 197 with | true => ti197 | false => tid))
          | false => (match Nat.blt t 201 with
            | true => (match Nat.beq t 200 with | true => ti200 | false => tid)
            | false => (match Nat.blt t 214 with
              | true => (match Nat.beq t 201 with | true => ti201 | false => tid)
              | false => (match Nat.beq t 214 with | true => ti214 | false => tid)))))
      | false => (match Nat.blt t 221 with
        | true => (match Nat.blt t 218 with
          | true => (match Nat.blt t 216 with
            | true => (match Nat.beq t 215 with | true => ti215 | false => tid)
            | false => (match Nat.beq t 216 with | true => ti216 | false => tid))
          | false => (match Nat.blt t 219 with
            | true => (match Nat.beq t 218 with | true => ti218 | false => tid)
            | false => (match Nat.blt t 220 with
              | true => (match Nat.beq t 219 with | true => ti219 | false => tid)
              | false => (match Nat.beq t 220 with | true => ti220 | false => tid))))
        | false => (match Nat.blt t 238 with
          | true => (match Nat.blt t 222 with
            | true => (match Nat.beq t 221 with | true => ti221 | false => tid)
            | false => (match Nat.beq t 222 with | true => ti222 | false => tid))
          | false => (match Nat.blt t 255 with
            | true => (match Nat.beq t 238 with | true => ti238 | false => tid)
            | false => (match Nat.blt t 259 with
              | true => (match Nat.beq t 255 with | true => ti255 | false => tid)
              | false => (match Nat.beq t 259 with | true => ti259 | false => tid)))))))
end Go.Proofs.Ytcgoalegobkgaaa.Pi
