/- The table of the types, as the program has them. -/
import Derived.Test.YtnmoeeneofopcaaGreatPiA
namespace Go.Proofs.YtnmoeeneofopcaaGreat.Pi
open Go
def tid : TI := { size := 0, bytes := 0, agg := false, slice := none, elem := 0, ez := [], fields := [], ftypes := [], zero := [], eq := none, ik := none, str := false, u8 := false, iface := false, bool := false }
def ti2 : TI := { size := 1, bytes := 8, agg := false, slice := none, elem := 0, ez := [], fields := [], ftypes := [], zero := [.c (.int .i64 0)], eq := some [.int .i64], ik := some .i64, str := false, u8 := false, iface := false, bool := false } -- int64
def ti3 : TI := { size := 1, bytes := 8, agg := false, slice := none, elem := 0, ez := [], fields := [], ftypes := [], zero := [.c (.int .i64 0)], eq := some [.int .i64], ik := some .i64, str := false, u8 := false, iface := false, bool := false } -- int
def ti4 : TI := { size := 1, bytes := 1, agg := false, slice := none, elem := 0, ez := [], fields := [], ftypes := [], zero := [.c (.bool false)], eq := some [.bool], ik := none, str := false, u8 := false, iface := false, bool := true } -- bool
def ti5 : TI := { size := 1, bytes := 1, agg := false, slice := none, elem := 0, ez := [], fields := [], ftypes := [], zero := [.c (.int .u8 0)], eq := some [.int .u8], ik := some .u8, str := false, u8 := false, iface := false, bool := false } -- uint8
def ti7 : TI := { size := 4, bytes := 24, agg := true, slice := none, elem := 0, ez := [], fields := [(0, 1, false), (1, 1, false), (2, 1, false), (3, 1, false)], ftypes := [2, 3, 4, 6], zero := [.c (.int .i64 0), .c (.int .i64 0), .c (.bool false), .c (.int .u8 0)], eq := some [.int .i64, .int .i64, .bool, .int .u8], ik := none, str := false, u8 := false, iface := false, bool := false } -- struct 
def ti9 : TI := { size := 1, bytes := 16, agg := false, slice := none, elem := 0, ez := [], fields := [], ftypes := [], zero := [.c (.str ⟨#[]⟩)], eq := some [.str], ik := none, str := true, u8 := false, iface := false, bool := false } -- string
def ti12 : TI := { size := 1, bytes := 8, agg := false, slice := none, elem := 0, ez := [], fields := [], ftypes := [], zero := [.c (.int .u64 0)], eq := some [.int .u64], ik := some .u64, str := false, u8 := false, iface := false, bool := false } -- uintptr
def ti18 : TI := { size := 1, bytes := 8, agg := true, slice := none, elem := 0, ez := [], fields := [(0, 1, false)], ftypes := [17], zero := [.c (.ptr 0 [])], eq := none, ik := none, str := false, u8 := false, iface := false, bool := false } -- struct 
def ti20 : TI := { size := 1, bytes := 16, agg := false, slice := none, elem := 0, ez := [], fields := [], ftypes := [], zero := [.c (.iface true)], eq := none, ik := none, str := false, u8 := false, iface := true, bool := false } -- interface 
def ti21 : TI := { size := 1, bytes := 4, agg := false, slice := none, elem := 0, ez := [], fields := [], ftypes := [], zero := [.c (.int .i32 0)], eq := some [.int .i32], ik := some .i32, str := false, u8 := false, iface := false, bool := false } -- int32
def ti22 : TI := { size := 1, bytes := 24, agg := false, slice := some (2, 40), elem := 184, ez := [.str ⟨#[]⟩, .slice 1 []], fields := [], ftypes := [], zero := [.nil 2], eq := none, ik := none, str := false, u8 := false, iface := false, bool := false } -- []laws.NamedComplex
def ti23 : TI := { size := 1, bytes := 24, agg := false, slice := some (5, 96), elem := 187, ez := [.str ⟨#[]⟩, .slice 1 [], .int .i64 0, .slice 1 [], .slice 4 []], fields := [], ftypes := [], zero := [.nil 5], eq := none, ik := none, str := false, u8 := false, iface := false, bool := false } -- []laws.NamedSheaf
def ti24 : TI := { size := 2, bytes := 48, agg := true, slice := none, elem := 0, ez := [], fields := [(0, 1, false), (1, 1, false)], ftypes := [22, 23], zero := [.nil 2, .nil 5], eq := none, ik := none, str := false, u8 := false, iface := false, bool := false } -- struct 
def ti25 : TI := { size := 2, bytes := 48, agg := true, slice := none, elem := 0, ez := [], fields := [(0, 1, false), (1, 1, false)], ftypes := [22, 23], zero := [.nil 2, .nil 5], eq := none, ik := none, str := false, u8 := false, iface := false, bool := false } -- laws.World
def ti27 : TI := { size := 1, bytes := 24, agg := false, slice := some (2, 40), elem := 105, ez := [.str ⟨#[]⟩, .slice 1 []], fields := [], ftypes := [], zero := [.nil 2], eq := none, ik := none, str := false, u8 := false, iface := false, bool := false } -- []impl.NamedComplex
def ti28 : TI := { size := 1, bytes := 24, agg := false, slice := some (5, 96), elem := 108, ez := [.str ⟨#[]⟩, .slice 1 [], .int .i64 0, .slice 1 [], .slice 4 []], fields := [], ftypes := [], zero := [.nil 5], eq := none, ik := none, str := false, u8 := false, iface := false, bool := false } -- []impl.NamedSheaf
def ti29 : TI := { size := 2, bytes := 48, agg := true, slice := none, elem := 0, ez := [], fields := [(0, 1, false), (1, 1, false)], ftypes := [27, 28], zero := [.nil 2, .nil 5], eq := none, ik := none, str := false, u8 := false, iface := false, bool := false } -- struct 
def ti30 : TI := { size := 2, bytes := 48, agg := true, slice := none, elem := 0, ez := [], fields := [(0, 1, false), (1, 1, false)], ftypes := [27, 28], zero := [.nil 2, .nil 5], eq := none, ik := none, str := false, u8 := false, iface := false, bool := false } -- impl.World
def ti37 : TI := { size := 1, bytes := 24, agg := false, slice := some (1, 24), elem := 40, ez := [.slice 1 []], fields := [], ftypes := [], zero := [.nil 1], eq := none, ik := none, str := false, u8 := false, iface := false, bool := false } -- [][]int64
def ti38 : TI := { size := 1, bytes := 24, agg := true, slice := none, elem := 0, ez := [], fields := [(0, 1, false)], ftypes := [37], zero := [.nil 1], eq := none, ik := none, str := false, u8 := false, iface := false, bool := false } -- struct 
def ti39 : TI := { size := 1, bytes := 24, agg := true, slice := none, elem := 0, ez := [], fields := [(0, 1, false)], ftypes := [37], zero := [.nil 1], eq := none, ik := none, str := false, u8 := false, iface := false, bool := false } -- laws.Complex
def ti40 : TI := { size := 1, bytes := 24, agg := false, slice := some (1, 8), elem := 2, ez := [.int .i64 0], fields := [], ftypes := [], zero := [.nil 1], eq := none, ik := none, str := false, u8 := false, iface := false, bool := false } -- []int64
def ti41 : TI := { size := 1, bytes := 24, agg := false, slice := some (4, 48), elem := 218, ez := [.int .i64 0, .int .i64 0, .int .i64 0, .slice 1 []], fields := [], ftypes := [], zero := [.nil 4], eq := none, ik := none, str := false, u8 := false, iface := false, bool := false } -- []laws.Matrix
def ti42 : TI := { size := 4, bytes := 80, agg := true, slice := none, elem := 0, ez := [], fields := [(0, 1, true), (1, 1, false), (2, 1, false), (3, 1, false)], ftypes := [39, 2, 40, 41], zero := [.nil 1, .c (.int .i64 0), .nil 1, .nil 4], eq := none, ik := none, str := false, u8 := false, iface := false, bool := false } -- struct 
def ti43 : TI := { size := 4, bytes := 80, agg := true, slice := none, elem := 0, ez := [], fields := [(0, 1, true), (1, 1, false), (2, 1, false), (3, 1, false)], ftypes := [39, 2, 40, 41], zero := [.nil 1, .c (.int .i64 0), .nil 1, .nil 4], eq := none, ik := none, str := false, u8 := false, iface := false, bool := false } -- laws.Sheaf
def ti47 : TI := { size := 1, bytes := 24, agg := true, slice := none, elem := 0, ez := [], fields := [(0, 1, false)], ftypes := [37], zero := [.nil 1], eq := none, ik := none, str := false, u8 := false, iface := false, bool := false } -- impl.Complex
def ti48 : TI := { size := 1, bytes := 24, agg := false, slice := some (4, 48), elem := 163, ez := [.int .i64 0, .int .i64 0, .int .i64 0, .slice 1 []], fields := [], ftypes := [], zero := [.nil 4], eq := none, ik := none, str := false, u8 := false, iface := false, bool := false } -- []impl.Matrix
def ti49 : TI := { size := 4, bytes := 80, agg := true, slice := none, elem := 0, ez := [], fields := [(0, 1, true), (1, 1, false), (2, 1, false), (3, 1, false)], ftypes := [47, 2, 40, 48], zero := [.nil 1, .c (.int .i64 0), .nil 1, .nil 4], eq := none, ik := none, str := false, u8 := false, iface := false, bool := false } -- struct 
def ti50 : TI := { size := 4, bytes := 80, agg := true, slice := none, elem := 0, ez := [], fields := [(0, 1, true), (1, 1, false), (2, 1, false), (3, 1, false)], ftypes := [47, 2, 40, 48], zero := [.nil 1, .c (.int .i64 0), .nil 1, .nil 4], eq := none, ik := none, str := false, u8 := false, iface := false, bool := false } -- impl.Sheaf
def ti58 : TI := { size := 1, bytes := 24, agg := false, slice := some (2, 48), elem := 141, ez := [.slice 1 [], .slice 1 []], fields := [], ftypes := [], zero := [.nil 2], eq := none, ik := none, str := false, u8 := false, iface := false, bool := false } -- []laws.Table
def ti62 : TI := { size := 1, bytes := 24, agg := false, slice := some (2, 48), elem := 77, ez := [.slice 1 [], .slice 1 []], fields := [], ftypes := [], zero := [.nil 2], eq := none, ik := none, str := false, u8 := false, iface := false, bool := false } -- []impl.Table
def ti66 : TI := { size := 1, bytes := 24, agg := false, slice := some (1, 1), elem := 5, ez := [.int .u8 0], fields := [], ftypes := [], zero := [.nil 1], eq := none, ik := none, str := false, u8 := true, iface := false, bool := false } -- []uint8
def ti76 : TI := { size := 2, bytes := 48, agg := true, slice := none, elem := 0, ez := [], fields := [(0, 1, false), (1, 1, false)], ftypes := [40, 37], zero := [.nil 1, .nil 1], eq := none, ik := none, str := false, u8 := false, iface := false, bool := false } -- struct 
def ti77 : TI := { size := 2, bytes := 48, agg := true, slice := none, elem := 0, ez := [], fields := [(0, 1, false), (1, 1, false)], ftypes := [40, 37], zero := [.nil 1, .nil 1], eq := none, ik := none, str := false, u8 := false, iface := false, bool := false } -- impl.Table
def ti94 : TI := { size := 1, bytes := 8, agg := false, slice := none, elem := 0, ez := [], fields := [], ftypes := [], zero := [.c (.ptr 0 [])], eq := none, ik := none, str := false, u8 := false, iface := false, bool := false } -- *impl.World
def ti104 : TI := { size := 2, bytes := 40, agg := true, slice := none, elem := 0, ez := [], fields := [(0, 1, false), (1, 1, true)], ftypes := [9, 47], zero := [.c (.str ⟨#[]⟩), .nil 1], eq := none, ik := none, str := false, u8 := false, iface := false, bool := false } -- struct 
def ti105 : TI := { size := 2, bytes := 40, agg := true, slice := none, elem := 0, ez := [], fields := [(0, 1, false), (1, 1, true)], ftypes := [9, 47], zero := [.c (.str ⟨#[]⟩), .nil 1], eq := none, ik := none, str := false, u8 := false, iface := false, bool := false } -- impl.NamedComplex
def ti107 : TI := { size := 5, bytes := 96, agg := true, slice := none, elem := 0, ez := [], fields := [(0, 1, false), (1, 4, true)], ftypes := [9, 50], zero := [.c (.str ⟨#[]⟩), .nil 1, .c (.int .i64 0), .nil 1, .nil 4], eq := none, ik := none, str := false, u8 := false, iface := false, bool := false } -- struct 
def ti108 : TI := { size := 5, bytes := 96, agg := true, slice := none, elem := 0, ez := [], fields := [(0, 1, false), (1, 4, true)], ftypes := [9, 50], zero := [.c (.str ⟨#[]⟩), .nil 1, .c (.int .i64 0), .nil 1, .nil 4], eq := none, ik := none, str := false, u8 := false, iface := false, bool := false } -- impl.NamedSheaf
def ti116 : TI := { size := 1, bytes := 8, agg := false, slice := none, elem := 0, ez := [], fields := [], ftypes := [], zero := [.c (.ptr 0 [])], eq := none, ik := none, str := false, u8 := false, iface := false, bool := false } -- *impl.Sheaf
def ti117 : TI := { size := 1, bytes := 8, agg := false, slice := none, elem := 0, ez := [], fields := [], ftypes := [], zero := [.c (.ptr 0 [])], eq := none, ik := none, str := false, u8 := false, iface := false, bool := false } -- *spec.l17Search
def ti120 : TI := { size := 1, bytes := 8, agg := false, slice := none, elem := 0, ez := [], fields := [], ftypes := [], zero := [.c (.ptr 0 [])], eq := none, ik := none, str := false, u8 := false, iface := false, bool := false } -- *impl.Complex
def ti121 : TI := { size := 10, bytes := 160, agg := true, slice := none, elem := 0, ez := [], fields := [(0, 1, false), (1, 1, false), (2, 1, false), (3, 1, false), (4, 1, false), (5, 1, false), (6, 1, false), (7, 1, false), (8, 1, false), (9, 1, false)], ftypes := [116, 40, 40, 2, 40, 40, 40, 3, 2, 2], zero := [.c (.ptr 0 []), .nil 1, .nil 1, .c (.int .i64 0), .nil 1, .nil 1, .nil 1, .c (.int .i64 0), .c (.int .i64 0), .c (.int .i64 0)], eq := none, ik := none, str := false, u8 := false, iface := false, bool := false } -- struct 
def ti122 : TI := { size := 10, bytes := 160, agg := true, slice := none, elem := 0, ez := [], fields := [(0, 1, false), (1, 1, false), (2, 1, false), (3, 1, false), (4, 1, false), (5, 1, false), (6, 1, false), (7, 1, false), (8, 1, false), (9, 1, false)], ftypes := [116, 40, 40, 2, 40, 40, 40, 3, 2, 2], zero := [.c (.ptr 0 []), .nil 1, .nil 1, .c (.int .i64 0), .nil 1, .nil 1, .nil 1, .c (.int .i64 0), .c (.int .i64 0), .c (.int .i64 0)], eq := none, ik := none, str := false, u8 := false, iface := false, bool := false } -- spec.l17Search
def ti127 : TI := { size := 1, bytes := 8, agg := false, slice := none, elem := 0, ez := [], fields := [], ftypes := [], zero := [.c (.ptr 0 [])], eq := none, ik := none, str := false, u8 := false, iface := false, bool := false } -- *impl.agreer
def ti128 : TI := { size := 2, bytes := 16, agg := true, slice := none, elem := 0, ez := [], fields := [(0, 1, false), (1, 1, false)], ftypes := [2, 4], zero := [.c (.int .i64 0), .c (.bool false)], eq := some [.int .i64, .bool], ik := none, str := false, u8 := false, iface := false, bool := false } -- struct 
def ti129 : TI := { size := 2, bytes := 16, agg := true, slice := none, elem := 0, ez := [], fields := [(0, 1, false), (1, 1, false)], ftypes := [2, 4], zero := [.c (.int .i64 0), .c (.bool false)], eq := some [.int .i64, .bool], ik := none, str := false, u8 := false, iface := false, bool := false } -- impl.counter
def ti133 : TI := { size := 9, bytes := 152, agg := true, slice := none, elem := 0, ez := [], fields := [(0, 2, true), (2, 4, true), (6, 1, false), (7, 1, false), (8, 1, false)], ftypes := [129, 50, 40, 2, 40], zero := [.c (.int .i64 0), .c (.bool false), .nil 1, .c (.int .i64 0), .nil 1, .nil 4, .nil 1, .c (.int .i64 0), .nil 1], eq := none, ik := none, str := false, u8 := false, iface := false, bool := false } -- struct 
def ti134 : TI := { size := 9, bytes := 152, agg := true, slice := none, elem := 0, ez := [], fields := [(0, 2, true), (2, 4, true), (6, 1, false), (7, 1, false), (8, 1, false)], ftypes := [129, 50, 40, 2, 40], zero := [.c (.int .i64 0), .c (.bool false), .nil 1, .c (.int .i64 0), .nil 1, .nil 4, .nil 1, .c (.int .i64 0), .nil 1], eq := none, ik := none, str := false, u8 := false, iface := false, bool := false } -- impl.agreer
def ti141 : TI := { size := 2, bytes := 48, agg := true, slice := none, elem := 0, ez := [], fields := [(0, 1, false), (1, 1, false)], ftypes := [40, 37], zero := [.nil 1, .nil 1], eq := none, ik := none, str := false, u8 := false, iface := false, bool := false } -- laws.Table
def ti145 : TI := { size := 1, bytes := 8, agg := false, slice := none, elem := 0, ez := [], fields := [], ftypes := [], zero := [.c (.ptr 0 [])], eq := none, ik := none, str := false, u8 := false, iface := false, bool := false } -- *impl.globalizer
def ti150 : TI := { size := 6, bytes := 112, agg := true, slice := none, elem := 0, ez := [], fields := [(0, 2, true), (2, 1, false), (3, 1, false), (4, 1, false), (5, 1, false)], ftypes := [129, 62, 40, 40, 37], zero := [.c (.int .i64 0), .c (.bool false), .nil 2, .nil 1, .nil 1, .nil 1], eq := none, ik := none, str := false, u8 := false, iface := false, bool := false } -- struct 
def ti151 : TI := { size := 6, bytes := 112, agg := true, slice := none, elem := 0, ez := [], fields := [(0, 2, true), (2, 1, false), (3, 1, false), (4, 1, false), (5, 1, false)], ftypes := [129, 62, 40, 40, 37], zero := [.c (.int .i64 0), .c (.bool false), .nil 2, .nil 1, .nil 1, .nil 1], eq := none, ik := none, str := false, u8 := false, iface := false, bool := false } -- impl.globalizer
def ti153 : TI := { size := 1, bytes := 8, agg := false, slice := none, elem := 0, ez := [], fields := [], ftypes := [], zero := [.c (.ptr 0 [])], eq := none, ik := none, str := false, u8 := false, iface := false, bool := false } -- *spec.l00Src
def ti162 : TI := { size := 4, bytes := 48, agg := true, slice := none, elem := 0, ez := [], fields := [(0, 1, false), (1, 1, false), (2, 1, false), (3, 1, false)], ftypes := [2, 2, 2, 40], zero := [.c (.int .i64 0), .c (.int .i64 0), .c (.int .i64 0), .nil 1], eq := none, ik := none, str := false, u8 := false, iface := false, bool := false } -- struct 
def ti163 : TI := { size := 4, bytes := 48, agg := true, slice := none, elem := 0, ez := [], fields := [(0, 1, false), (1, 1, false), (2, 1, false), (3, 1, false)], ftypes := [2, 2, 2, 40], zero := [.c (.int .i64 0), .c (.int .i64 0), .c (.int .i64 0), .nil 1], eq := none, ik := none, str := false, u8 := false, iface := false, bool := false } -- impl.Matrix
def ti167 : TI := { size := 1, bytes := 8, agg := false, slice := none, elem := 0, ez := [], fields := [], ftypes := [], zero := [.c (.ptr 0 [])], eq := none, ik := none, str := false, u8 := false, iface := false, bool := false } -- *impl.Matrix
def ti183 : TI := { size := 2, bytes := 40, agg := true, slice := none, elem := 0, ez := [], fields := [(0, 1, false), (1, 1, true)], ftypes := [9, 39], zero := [.c (.str ⟨#[]⟩), .nil 1], eq := none, ik := none, str := false, u8 := false, iface := false, bool := false } -- struct 
def ti184 : TI := { size := 2, bytes := 40, agg := true, slice := none, elem := 0, ez := [], fields := [(0, 1, false), (1, 1, true)], ftypes := [9, 39], zero := [.c (.str ⟨#[]⟩), .nil 1], eq := none, ik := none, str := false, u8 := false, iface := false, bool := false } -- laws.NamedComplex
def ti186 : TI := { size := 5, bytes := 96, agg := true, slice := none, elem := 0, ez := [], fields := [(0, 1, false), (1, 4, true)], ftypes := [9, 43], zero := [.c (.str ⟨#[]⟩), .nil 1, .c (.int .i64 0), .nil 1, .nil 4], eq := none, ik := none, str := false, u8 := false, iface := false, bool := false } -- struct 
def ti187 : TI := { size := 5, bytes := 96, agg := true, slice := none, elem := 0, ez := [], fields := [(0, 1, false), (1, 4, true)], ftypes := [9, 43], zero := [.c (.str ⟨#[]⟩), .nil 1, .c (.int .i64 0), .nil 1, .nil 4], eq := none, ik := none, str := false, u8 := false, iface := false, bool := false } -- laws.NamedSheaf
def ti194 : TI := { size := 1, bytes := 24, agg := false, slice := some (1, 16), elem := 9, ez := [.str ⟨#[]⟩], fields := [], ftypes := [], zero := [.nil 1], eq := none, ik := none, str := false, u8 := false, iface := false, bool := false } -- []string
def ti218 : TI := { size := 4, bytes := 48, agg := true, slice := none, elem := 0, ez := [], fields := [(0, 1, false), (1, 1, false), (2, 1, false), (3, 1, false)], ftypes := [2, 2, 2, 40], zero := [.c (.int .i64 0), .c (.int .i64 0), .c (.int .i64 0), .nil 1], eq := none, ik := none, str := false, u8 := false, iface := false, bool := false } -- laws.Matrix
def ti231 : TI := { size := 1, bytes := 8, agg := false, slice := none, elem := 0, ez := [], fields := [], ftypes := [], zero := [.c (.ptr 0 [])], eq := none, ik := none, str := false, u8 := false, iface := false, bool := false } -- *spec.l20Search
def ti232 : TI := { size := 7, bytes := 120, agg := true, slice := none, elem := 0, ez := [], fields := [(0, 1, false), (1, 1, false), (2, 1, false), (3, 1, false), (4, 1, false), (5, 1, false), (6, 1, false)], ftypes := [62, 40, 40, 37, 2, 2, 4], zero := [.nil 2, .nil 1, .nil 1, .nil 1, .c (.int .i64 0), .c (.int .i64 0), .c (.bool false)], eq := none, ik := none, str := false, u8 := false, iface := false, bool := false } -- struct 
def ti233 : TI := { size := 7, bytes := 120, agg := true, slice := none, elem := 0, ez := [], fields := [(0, 1, false), (1, 1, false), (2, 1, false), (3, 1, false), (4, 1, false), (5, 1, false), (6, 1, false)], ftypes := [62, 40, 40, 37, 2, 2, 4], zero := [.nil 2, .nil 1, .nil 1, .nil 1, .c (.int .i64 0), .c (.int .i64 0), .c (.bool false)], eq := none, ik := none, str := false, u8 := false, iface := false, bool := false } -- spec.l20Search
def ti235 : TI := { size := 1, bytes := 8, agg := false, slice := none, elem := 0, ez := [], fields := [], ftypes := [], zero := [.c (.ptr 0 [])], eq := none, ik := none, str := false, u8 := false, iface := false, bool := false } -- *impl.Table
def ti237 : TI := { size := 1, bytes := 8, agg := false, slice := none, elem := 0, ez := [], fields := [], ftypes := [], zero := [.c (.int .u64 0)], eq := some [.int .u64], ik := some .u64, str := false, u8 := false, iface := false, bool := false } -- uint64
def ti238 : TI := { size := 3, bytes := 40, agg := true, slice := none, elem := 0, ez := [], fields := [(0, 1, false), (1, 1, false), (2, 1, false)], ftypes := [66, 3, 237], zero := [.nil 1, .c (.int .i64 0), .c (.int .u64 0)], eq := none, ik := none, str := false, u8 := false, iface := false, bool := false } -- struct 
def ti239 : TI := { size := 3, bytes := 40, agg := true, slice := none, elem := 0, ez := [], fields := [(0, 1, false), (1, 1, false), (2, 1, false)], ftypes := [66, 3, 237], zero := [.nil 1, .c (.int .i64 0), .c (.int .u64 0)], eq := none, ik := none, str := false, u8 := false, iface := false, bool := false } -- spec.l00Src
def ti261 : TI := { size := 1, bytes := 8, agg := false, slice := none, elem := 0, ez := [], fields := [], ftypes := [], zero := [.c (.ptr 0 [])], eq := none, ik := none, str := false, u8 := false, iface := false, bool := false } -- *impl.counter
def ti280 : TI := { size := 1, bytes := 8, agg := false, slice := none, elem := 0, ez := [], fields := [], ftypes := [], zero := [.c (.int .u64 0)], eq := some [.int .u64], ik := some .u64, str := false, u8 := false, iface := false, bool := false } -- uint
def ti311 : TI := { size := 1, bytes := 24, agg := false, slice := some (3, 24), elem := 314, ez := [.int .i64 0, .int .i64 0, .int .i64 0], fields := [], ftypes := [], zero := [.nil 3], eq := none, ik := none, str := false, u8 := false, iface := false, bool := false } -- []impl.arrow
def ti313 : TI := { size := 3, bytes := 24, agg := true, slice := none, elem := 0, ez := [], fields := [(0, 1, false), (1, 1, false), (2, 1, false)], ftypes := [2, 2, 2], zero := [.c (.int .i64 0), .c (.int .i64 0), .c (.int .i64 0)], eq := some [.int .i64, .int .i64, .int .i64], ik := none, str := false, u8 := false, iface := false, bool := false } -- struct 
def ti314 : TI := { size := 3, bytes := 24, agg := true, slice := none, elem := 0, ez := [], fields := [(0, 1, false), (1, 1, false), (2, 1, false)], ftypes := [2, 2, 2], zero := [.c (.int .i64 0), .c (.int .i64 0), .c (.int .i64 0)], eq := some [.int .i64, .int .i64, .int .i64], ik := none, str := false, u8 := false, iface := false, bool := false } -- impl.arrow
def ti325 : TI := { size := 1, bytes := 24, agg := false, slice := some (1, 8), elem := 3, ez := [.int .i64 0], fields := [], ftypes := [], zero := [.nil 1], eq := none, ik := none, str := false, u8 := false, iface := false, bool := false } -- []int
def ti331 : TI := { size := 1, bytes := 8, agg := false, slice := none, elem := 0, ez := [], fields := [], ftypes := [], zero := [.c (.int .i64 0)], eq := some [.int .i64], ik := some .i64, str := false, u8 := false, iface := false, bool := false } -- slices.sortedHint
def ti338 : TI := { size := 1, bytes := 4, agg := false, slice := none, elem := 0, ez := [], fields := [], ftypes := [], zero := [.c (.int .u32 0)], eq := some [.int .u32], ik := some .u32, str := false, u8 := false, iface := false, bool := false } -- uint32
def ti344 : TI := { size := 1, bytes := 8, agg := false, slice := none, elem := 0, ez := [], fields := [], ftypes := [], zero := [.c (.int .u64 0)], eq := some [.int .u64], ik := some .u64, str := false, u8 := false, iface := false, bool := false } -- slices.xorshift
def ti348 : TI := { size := 1, bytes := 8, agg := false, slice := none, elem := 0, ez := [], fields := [], ftypes := [], zero := [.c (.ptr 0 [])], eq := none, ik := none, str := false, u8 := false, iface := false, bool := false } -- *int
def ti351 : TI := { size := 1, bytes := 8, agg := false, slice := none, elem := 0, ez := [], fields := [], ftypes := [], zero := [.c (.ptr 0 [])], eq := none, ik := none, str := false, u8 := false, iface := false, bool := false } -- *slices.xorshift
def ti363 : TI := { size := 4, bytes := 40, agg := true, slice := none, elem := 0, ez := [], fields := [(0, 1, false), (1, 1, false), (2, 1, false), (3, 1, false)], ftypes := [17, 17, 17, 9], zero := [.c (.ptr 0 []), .c (.ptr 0 []), .c (.ptr 0 []), .c (.str ⟨#[]⟩)], eq := none, ik := none, str := false, u8 := false, iface := false, bool := false } -- struct 
def ti372 : TI := { size := 1, bytes := 8, agg := false, slice := none, elem := 0, ez := [], fields := [], ftypes := [], zero := [.c (.ptr 0 [])], eq := none, ik := none, str := false, u8 := false, iface := false, bool := false } -- *uint8
def tt (t : Nat) : TI := match Nat.blt t 120 with
  | true => (match Nat.blt t 39 with
    | true => (match Nat.blt t 22 with
      | true => (match Nat.blt t 9 with
        | true => (match Nat.blt t 4 with
          | true => (match Nat.blt t 3 with
            | true => (match Nat.beq t 2 with | true => ti2 | false => tid)
            | false => (match Nat.beq t 3 with | true => ti3 | false => tid))
          | false => (match Nat.blt t 5 with
            | true => (match Nat.beq t 4 with | true => ti4 | false => tid)
            | false => (match Nat.blt t 7 with
              | true => (match Nat.beq t 5 with | true => ti5 | false => tid)
              | false => (match Nat.beq t 7 with | true => ti7 | false => tid))))
        | false => (match Nat.blt t 18 with
          | true => (match Nat.blt t 12 with
            | true => (match Nat.beq t 9 with | true => ti9 | false => tid)
            | false => (match Nat.beq t 12 with | true => ti12 | false => tid))
          | false => (match Nat.blt t 20 with
            | true => (match Nat.beq t 18 with | true => ti18 | false => tid)
            | false => (match Nat.blt t 21 with
              | true => (match Nat.beq t 20 with | true => ti20 | false => tid)
              | false => (match Nat.beq t 21 with | true => ti21 | false => tid)))))
      | false => (match Nat.blt t 28 with
        | true => (match Nat.blt t 24 with
          | true => (match Nat.blt t 23 with
            | true => (match Nat.beq t 22 with | true => ti22 | false => tid)
            | false => (match Nat.beq t 23 with | true => ti23 | false => tid))
          | false => (match Nat.blt t 25 with
            | true => (match Nat.beq t 24 with | true => ti24 | false => tid)
            | false => (match Nat.blt t 27 with
              | true => (match Nat.beq t 25 with | true => ti25 | false => tid)
              | false => (match Nat.beq t 27 with | true => ti27 | false => tid))))
        | false => (match Nat.blt t 30 with
          | true => (match Nat.blt t 29 with
            | true => (match Nat.beq t 28 with | true => ti28 | false => tid)
            | false => (match Nat.beq t 29 with | true => ti29 | false => tid))
          | false => (match Nat.blt t 37 with
            | true => (match Nat.beq t 30 with | true => ti30 | false => tid)
            | false => (match Nat.blt t 38 with
              | true => (match Nat.beq t 37 with | true => ti37 | false => tid)
              | false => (match Nat.beq t 38 with | true => ti38 | false => tid))))))
    | false => (match Nat.blt t 62 with
      | true => (match Nat.blt t 47 with
        | true => (match Nat.blt t 41 with
          | true => (match Nat.blt t 40 with
            | true => (match Nat.beq t 39 with | true => ti39 | false => tid)
            | false => (match Nat.beq t 40 with | true => ti40 | false => tid))
          | false => (match Nat.blt t 42 with
            | true => (match Nat.beq t 41 with | true => ti41 | false => tid)
            | false => (match Nat.blt t 43 with
              | true => (match Nat.beq t 42 with | true => ti42 | false => tid)
              | false => (match Nat.beq t 43 with | true => ti43 | false => tid))))
        | false => (match Nat.blt t 49 with
          | true => (match Nat.blt t 48 with
            | true => (match Nat.beq t 47 with | true => ti47 | false => tid)
            | false => (match Nat.beq t 48 with | true => ti48 | false => tid))
          | false => (match Nat.blt t 50 with
            | true => (match Nat.beq t 49 with | true => ti49 | false => tid)
            | false => (match Nat.blt t 58 with
              | true => (match Nat.beq t 50 with | true => ti50 | false => tid)
              | false => (match Nat.beq t 58 with | true => ti58 | false => tid)))))
      | false => (match Nat.blt t 104 with
        | true => (match Nat.blt t 76 with
          | true => (match Nat.blt t 66 with
            | true => (match Nat.beq t 62 with | true => ti62 | false => tid)
            | false => (match Nat.beq t 66 with | true => ti66 | false => tid))
          | false => (match Nat.blt t 77 with
            | true => (match Nat.beq t 76 with | true => ti76 | false => tid)
            | false => (match Nat.blt t 94 with
              | true => (match Nat.beq t 77 with | true => ti77 | false => tid)
              | false => (match Nat.beq t 94 with | true => ti94 | false => tid))))
        | false => (match Nat.blt t 108 with
          | true => (match Nat.blt t 105 with
            | true => (match Nat.beq t 104 with | true => ti104 | false => tid)
            | false => (match Nat.blt t 107 with
              | true => (match Nat.beq t 105 with | true => ti105 | false => tid)
              | false => (match Nat.beq t 107 with | true => ti107 | false => tid)))
          | false => (match Nat.blt t 116 with
            | true => (match Nat.beq t 108 with | true => ti108 | false => tid)
            | false => (match Nat.blt t 117 with
              | true => (match Nat.beq t 116 with | true => ti116 | false => tid)
              | false => (match Nat.beq t 117 with | true => ti117 | false => tid)))))))
  | false => (match Nat.blt t 218 with
    | true => (match Nat.blt t 150 with
      | true => (match Nat.blt t 129 with
        | true => (match Nat.blt t 122 with
          | true => (match Nat.blt t 121 with
            | true => (match Nat.beq t 120 with | true => ti120 | false => tid)
            | false => (match Nat.beq t 121 with | true => ti121 | false => tid))
          | false => (match Nat.blt t 127 with
            | true => (match Nat.beq t 122 with | true => ti122 | false => tid)
            | false => (match Nat.blt t 128 with
              | true => (match Nat.beq t 127 with | true => ti127 | false => tid)
              | false => (match Nat.beq t 128 with | true => ti128 | false => tid))))
        | false => (match Nat.blt t 134 with
          | true => (match Nat.blt t 133 with
            | true => (match Nat.beq t 129 with | true => ti129 | false => tid)
            | false => (match Nat.beq t 133 with | true => ti133 | false => tid))
          | false => (match Nat.blt t 141 with
            | true => (match Nat.beq t 134 with | true => ti134 | false => tid)
            | false => (match Nat.blt t 145 with
              | true => (match Nat.beq t 141 with | true => ti141 | false => tid)
              | false => (match Nat.beq t 145 with | true => ti145 | false => tid)))))
      | false => (match Nat.blt t 167 with
        | true => (match Nat.blt t 153 with
          | true => (match Nat.blt t 151 with
            | true => (match Nat.beq t 150 with | true => ti150 | false => tid)
            | false => (match Nat.beq t 151 with | true => ti151 | false => tid))
          | false => (match Nat.blt t 162 with
            | true => (match Nat.beq t 153 with | true => ti153 | false => tid)
            | false => (match Nat.blt t 163 with
              | true => (match Nat.beq t 162 with | true => ti162 | false => tid)
              | false => (match Nat.beq t 163 with | true => ti163 | false => tid))))
        | false => (match Nat.blt t 186 with
          | true => (match Nat.blt t 183 with
            | true => (match Nat.beq t 167 with | true => ti167 | false => tid)
            | false => (match Nat.blt t 184 with
              | true => (match Nat.beq t 183 with | true => ti183 | false => tid)
              | false => (match Nat.beq t 184 with | true => ti184 | false => tid)))
          | false => (match Nat.blt t 187 with
            | true => (match Nat.beq t 186 with | true => ti186 | false => tid)
            | false => (match Nat.blt t 194 with
              | true => (match Nat.beq t 187 with | true => ti187 | false => tid)
              | false => (match Nat.beq t 194 with | true => ti194 | false => tid))))))
    | false => (match Nat.blt t 311 with
      | true => (match Nat.blt t 237 with
        | true => (match Nat.blt t 232 with
          | true => (match Nat.blt t 231 with
            | true => (match Nat.beq t 218 with | true => ti218 | false => tid)
            | false => (match Nat.beq t 231 with | true => ti231 | false => tid))
          | false => (match Nat.blt t 233 with
            | true => (match Nat.beq t 232 with | true => ti232 | false => tid)
            | false => (match Nat.blt t 235 with
              | true => (match Nat.beq t 233 with | true => ti233 | false => tid)
              | false => (match Nat.beq t 235 with | true => ti235 | false => tid))))
        | false => (match Nat.blt t 239 with
          | true => (match Nat.blt t 238 with
            | true => (match Nat.beq t 237 with | true => ti237 | false => tid)
            | false => (match Nat.beq t 238 with | true => ti238 | false => tid))
          | false => (match Nat.blt t 261 with
            | true => (match Nat.beq t 239 with | true => ti239 | false => tid)
            | false => (match Nat.blt t 280 with
              | true => (match Nat.beq t 261 with | true => ti261 | false => tid)
              | false => (match Nat.beq t 280 with | true => ti280 | false => tid)))))
      | false => (match Nat.blt t 338 with
        | true => (match Nat.blt t 314 with
          | true => (match Nat.blt t 313 with
            | true => (match Nat.beq t 311 with | true => ti311 | false => tid)
            | false => (match Nat.beq t 313 with | true => ti313 | false => tid))
          | false => (match Nat.blt t 325 with
            | true => (match Nat.beq t 314 with | true => ti314 | false => tid)
            | false => (match Nat.blt t 331 with
              | true => (match Nat.beq t 325 with | true => ti325 | false => tid)
              | false => (match Nat.beq t 331 with | true => ti331 | false => tid))))
        | false => (match Nat.blt t 351 with
          | true => (match Nat.blt t 344 with
            | true => (match Nat.beq t 338 with | true => ti338 | false => tid)
            | false => (match Nat.blt t 348 with
              | true => (match Nat.beq t 344 with | true => ti344 | false => tid)
              | false => (match Nat.beq t 348 with | true => ti348 | false => tid)))
          | false => (match Nat.blt t 363 with
            | true => (match Nat.beq t 351 with | true => ti351 | false => tid)
            | false => (match Nat.blt t 372 with
              | true => (match Nat.beq t 363 with | true => ti363 | false => tid)
              | false => (match Nat.beq t 372 with | true => ti372 | false => tid)))))))
end Go.Proofs.YtnmoeeneofopcaaGreat.Pi
