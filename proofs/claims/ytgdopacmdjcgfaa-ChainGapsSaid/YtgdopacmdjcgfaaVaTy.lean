/- The table of the types of this program, for the abstract machine: it fits the program. -/
import Derived.Test.YtgdopacmdjcgfaaVaFit
import Derived.Test.YtgdopacmdjcgfaaProg
namespace Go.Proofs.Ytgdopacmdjcgfaa.VA
set_option maxRecDepth 100000
def table : List TI := [
  ⟨0, [], .other⟩,
  ⟨1, [.nilf], .func⟩,
  ⟨1, [.int .i64 0], .int .i64⟩,
  ⟨1, [.int .i64 0], .int .i64⟩,
  ⟨1, [.bool false], .bool⟩,
  ⟨1, [.int .u8 0], .int .u8⟩,
  ⟨1, [.int .u8 0], .int .u8⟩,
  ⟨4, [.int .i64 0, .int .i64 0, .bool false, .int .u8 0], .struct [(0, 1, 2), (1, 1, 3), (2, 1, 4), (3, 1, 6)]⟩,
  ⟨4, [.int .i64 0, .int .i64 0, .bool false, .int .u8 0], .struct [(0, 1, 2), (1, 1, 3), (2, 1, 4), (3, 1, 6)]⟩,
  ⟨1, [.str []], .str⟩,
  ⟨1, [.str []], .str⟩,
  ⟨1, [.str []], .str⟩,
  ⟨1, [.int .u64 0], .int .u64⟩,
  ⟨2, [.str [], .int .u64 0], .struct [(0, 1, 9), (1, 1, 12)]⟩,
  ⟨2, [.str [], .int .u64 0], .struct [(0, 1, 9), (1, 1, 12)]⟩,
  ⟨0, [], .other⟩,
  ⟨0, [], .other⟩,
  ⟨0, [], .other⟩,
  ⟨0, [], .other⟩,
  ⟨0, [], .other⟩,
  ⟨0, [], .other⟩,
  ⟨1, [.int .i32 0], .int .i32⟩,
  ⟨1, [.own false 42 []], .slice 70 42 400⟩,
  ⟨1, [.nilf], .func⟩,
  ⟨1, [.nilf], .func⟩,
  ⟨1, [.own false 21 []], .slice 41 21 200⟩,
  ⟨1, [.own false 1 []], .slice 3 1 8⟩,
  ⟨1, [.int .u64 0], .int .u64⟩,
  ⟨4, [.int .u64 0, .int .u64 0, .int .u64 0, .int .u64 0], .arr 4 27 1⟩,
  ⟨4, [.int .u64 0, .int .u64 0, .int .u64 0, .int .u64 0], .arr 4 27 1⟩,
  ⟨7, [.own false 21 [], .own false 21 [], .own false 1 [], .int .u64 0, .int .u64 0, .int .u64 0, .int .u64 0], .struct [(0, 1, 25), (1, 1, 25), (2, 1, 26), (3, 4, 29)]⟩,
  ⟨7, [.own false 21 [], .own false 21 [], .own false 1 [], .int .u64 0, .int .u64 0, .int .u64 0, .int .u64 0], .struct [(0, 1, 25), (1, 1, 25), (2, 1, 26), (3, 4, 29)]⟩,
  ⟨1, [.nilf], .func⟩,
  ⟨1, [.nilf], .func⟩,
  ⟨1, [.nilf], .func⟩,
  ⟨1, [.nilf], .func⟩,
  ⟨1, [.int .i64 0], .int .i64⟩,
  ⟨1, [.nilf], .func⟩,
  ⟨1, [.own false 1 []], .slice 27 1 8⟩,
  ⟨1, [.own false 1 []], .slice 9 1 16⟩,
  ⟨21, [.int .i64 0, .int .i64 0, .int .u64 0, .int .u64 0, .int .u64 0, .int .u64 0, .int .u64 0, .int .u64 0, .int .u64 0, .int .u64 0, .int .u64 0, .int .u64 0, .int .u64 0, .int .u64 0, .int .u64 0, .int .u64 0, .int .u64 0, .int .u64 0, .int .i64 0, .own false 1 [], .own false 1 []], .struct [(0, 1, 3), (1, 1, 3), (2, 4, 29), (6, 4, 29), (10, 4, 29), (14, 4, 29), (18, 1, 3), (19, 1, 38), (20, 1, 39)]⟩,
  ⟨21, [.int .i64 0, .int .i64 0, .int .u64 0, .int .u64 0, .int .u64 0, .int .u64 0, .int .u64 0, .int .u64 0, .int .u64 0, .int .u64 0, .int .u64 0, .int .u64 0, .int .u64 0, .int .u64 0, .int .u64 0, .int .u64 0, .int .u64 0, .int .u64 0, .int .i64 0, .own false 1 [], .own false 1 []], .struct [(0, 1, 3), (1, 1, 3), (2, 4, 29), (6, 4, 29), (10, 4, 29), (14, 4, 29), (18, 1, 3), (19, 1, 38), (20, 1, 39)]⟩,
  ⟨1, [.nilf], .func⟩,
  ⟨0, [], .other⟩,
  ⟨1, [.nilf], .func⟩,
  ⟨1, [.nilf], .func⟩,
  ⟨0, [], .other⟩,
  ⟨1, [.nilf], .func⟩,
  ⟨1, [.nilf], .func⟩,
  ⟨1, [.nilf], .func⟩,
  ⟨1, [.nilf], .func⟩,
  ⟨1, [.nilf], .func⟩,
  ⟨0, [], .other⟩,
  ⟨1, [.nilf], .func⟩,
  ⟨0, [], .other⟩,
  ⟨1, [.nilf], .func⟩,
  ⟨1, [.nilf], .func⟩,
  ⟨1, [.nilf], .func⟩,
  ⟨1, [.nilf], .func⟩,
  ⟨0, [], .other⟩,
  ⟨1, [.nilf], .func⟩,
  ⟨0, [], .other⟩,
  ⟨1, [.nilf], .func⟩,
  ⟨1, [.nilf], .func⟩,
  ⟨1, [.nilf], .func⟩,
  ⟨1, [.nilf], .func⟩,
  ⟨1, [.nilf], .func⟩,
  ⟨1, [.nilf], .func⟩,
  ⟨1, [.nilf], .func⟩,
  ⟨42, [.int .i64 0, .int .i64 0, .int .u64 0, .int .u64 0, .int .u64 0, .int .u64 0, .int .u64 0, .int .u64 0, .int .u64 0, .int .u64 0, .int .u64 0, .int .u64 0, .int .u64 0, .int .u64 0, .int .u64 0, .int .u64 0, .int .u64 0, .int .u64 0, .int .i64 0, .own false 1 [], .own false 1 [], .int .i64 0, .int .i64 0, .int .u64 0, .int .u64 0, .int .u64 0, .int .u64 0, .int .u64 0, .int .u64 0, .int .u64 0, .int .u64 0, .int .u64 0, .int .u64 0, .int .u64 0, .int .u64 0, .int .u64 0, .int .u64 0, .int .u64 0, .int .u64 0, .int .i64 0, .own false 1 [], .own false 1 []], .struct [(0, 21, 41), (21, 21, 41)]⟩,
  ⟨42, [.int .i64 0, .int .i64 0, .int .u64 0, .int .u64 0, .int .u64 0, .int .u64 0, .int .u64 0, .int .u64 0, .int .u64 0, .int .u64 0, .int .u64 0, .int .u64 0, .int .u64 0, .int .u64 0, .int .u64 0, .int .u64 0, .int .u64 0, .int .u64 0, .int .i64 0, .own false 1 [], .own false 1 [], .int .i64 0, .int .i64 0, .int .u64 0, .int .u64 0, .int .u64 0, .int .u64 0, .int .u64 0, .int .u64 0, .int .u64 0, .int .u64 0, .int .u64 0, .int .u64 0, .int .u64 0, .int .u64 0, .int .u64 0, .int .u64 0, .int .u64 0, .int .u64 0, .int .i64 0, .own false 1 [], .own false 1 []], .struct [(0, 21, 41), (21, 21, 41)]⟩,
  ⟨1, [.nilf], .func⟩,
  ⟨1, [.nilf], .func⟩,
  ⟨0, [], .other⟩,
  ⟨1, [.nilf], .func⟩,
  ⟨0, [], .other⟩,
  ⟨1, [.nilf], .func⟩,
  ⟨1, [.nilf], .func⟩,
  ⟨1, [.nilf], .func⟩,
  ⟨1, [.nilf], .func⟩,
  ⟨1, [.nilf], .func⟩,
  ⟨1, [.nilf], .func⟩,
  ⟨1, [.nilf], .func⟩,
  ⟨1, [.nilf], .func⟩,
  ⟨1, [.nilf], .func⟩,
  ⟨1, [.nilf], .func⟩,
  ⟨1, [.nilf], .func⟩,
  ⟨1, [.int .u64 0], .int .u64⟩,
  ⟨1, [.nilf], .func⟩,
  ⟨1, [.nilf], .func⟩,
  ⟨1, [.nilf], .func⟩,
  ⟨12, [.int .u64 0, .int .u64 0, .int .u64 0, .int .u64 0, .int .u64 0, .int .u64 0, .int .u64 0, .int .u64 0, .int .u64 0, .int .u64 0, .int .u64 0, .int .u64 0], .arr 3 29 4⟩,
  ⟨1, [.nilf], .func⟩,
  ⟨1, [.nilf], .func⟩,
  ⟨0, [], .other⟩,
  ⟨1, [.nilf], .func⟩,
  ⟨1, [.nilf], .func⟩,
  ⟨1, [.nilf], .func⟩,
  ⟨1, [.nilf], .func⟩,
  ⟨1, [.own false 4 []], .slice 29 4 32⟩,
  ⟨1, [.nilf], .func⟩,
  ⟨1, [.nilf], .func⟩,
  ⟨1, [.nilf], .func⟩,
  ⟨16, [.int .u64 0, .int .u64 0, .int .u64 0, .int .u64 0, .int .u64 0, .int .u64 0, .int .u64 0, .int .u64 0, .int .u64 0, .int .u64 0, .int .u64 0, .int .u64 0, .int .u64 0, .int .u64 0, .int .u64 0, .int .u64 0], .arr 16 27 1⟩,
  ⟨1, [.nilf], .func⟩,
  ⟨1, [.own false 3 []], .slice 107 3 48⟩,
  ⟨3, [.bool false, .str [], .own false 3 []], .struct [(0, 1, 4), (1, 1, 9), (2, 1, 105)]⟩,
  ⟨3, [.bool false, .str [], .own false 3 []], .struct [(0, 1, 4), (1, 1, 9), (2, 1, 105)]⟩,
  ⟨1, [.nilf], .func⟩,
  ⟨1, [.nilf], .func⟩,
  ⟨1, [.nilf], .func⟩,
  ⟨1, [.nilf], .func⟩,
  ⟨1, [.nilf], .func⟩,
  ⟨0, [], .other⟩,
  ⟨1, [.nilf], .func⟩,
  ⟨1, [.nilf], .func⟩,
  ⟨0, [], .other⟩,
  ⟨1, [.nilf], .func⟩,
  ⟨0, [], .other⟩,
  ⟨1, [.nilf], .func⟩,
  ⟨1, [.nilf], .func⟩,
  ⟨4, [.int .i64 0, .int .i64 0, .int .i64 0, .int .i64 0], .arr 4 36 1⟩,
  ⟨8, [.int .u8 0, .int .u8 0, .int .u8 0, .int .u8 0, .int .u8 0, .int .u8 0, .int .u8 0, .int .u8 0], .arr 8 5 1⟩,
  ⟨1, [.own false 1 []], .slice 5 1 1⟩,
  ⟨1, [.nilf], .func⟩,
  ⟨1, [.nilf], .func⟩,
  ⟨1, [.nilf], .func⟩,
  ⟨1, [.nilf], .func⟩,
  ⟨8, [.int .u64 0, .int .u64 0, .int .u64 0, .int .u64 0, .int .u64 0, .int .u64 0, .int .u64 0, .int .u64 0], .arr 8 27 1⟩,
  ⟨1, [.nilf], .func⟩,
  ⟨1, [.nilf], .func⟩,
  ⟨0, [], .other⟩,
  ⟨1, [.nilf], .func⟩,
  ⟨1, [.nilf], .func⟩,
  ⟨1, [.nilf], .func⟩,
  ⟨1, [.nilf], .func⟩,
  ⟨1, [.nilf], .func⟩,
  ⟨1, [.nilf], .func⟩,
  ⟨1, [.nilf], .func⟩,
  ⟨1, [.nilf], .func⟩,
  ⟨1, [.nilf], .func⟩,
  ⟨1, [.nilf], .func⟩,
  ⟨1, [.nilf], .func⟩,
  ⟨1, [.nilf], .func⟩,
  ⟨1, [.nilf], .func⟩,
  ⟨1, [.nilf], .func⟩,
  ⟨0, [], .other⟩,
  ⟨0, [], .other⟩,
  ⟨0, [], .other⟩,
  ⟨0, [], .other⟩,
  ⟨0, [], .other⟩,
  ⟨1, [.nilf], .func⟩,
  ⟨1, [.int .u32 0], .int .u32⟩,
  ⟨1, [.int .u8 0], .int .u8⟩,
  ⟨1, [.int .u8 0], .int .u8⟩,
  ⟨1, [.nilf], .func⟩,
  ⟨0, [], .other⟩,
  ⟨1, [.int .i32 0], .int .i32⟩,
  ⟨1, [.int .i32 0], .int .i32⟩,
  ⟨0, [], .other⟩,
  ⟨0, [], .other⟩,
  ⟨0, [], .other⟩]
def ti : TypeId → TI := tiOf table
theorem ti1 : ti 1 = ⟨1, [.nilf], .func⟩ := rfl
theorem ti2 : ti 2 = ⟨1, [.int .i64 0], .int .i64⟩ := rfl
theorem ti3 : ti 3 = ⟨1, [.int .i64 0], .int .i64⟩ := rfl
theorem ti4 : ti 4 = ⟨1, [.bool false], .bool⟩ := rfl
theorem ti5 : ti 5 = ⟨1, [.int .u8 0], .int .u8⟩ := rfl
theorem ti6 : ti 6 = ⟨1, [.int .u8 0], .int .u8⟩ := rfl
theorem ti7 : ti 7 = ⟨4, [.int .i64 0, .int .i64 0, .bool false, .int .u8 0], .struct [(0, 1, 2), (1, 1, 3), (2, 1, 4), (3, 1, 6)]⟩ := rfl
theorem ti8 : ti 8 = ⟨4, [.int .i64 0, .int .i64 0, .bool false, .int .u8 0], .struct [(0, 1, 2), (1, 1, 3), (2, 1, 4), (3, 1, 6)]⟩ := rfl
theorem ti9 : ti 9 = ⟨1, [.str []], .str⟩ := rfl
theorem ti10 : ti 10 = ⟨1, [.str []], .str⟩ := rfl
theorem ti11 : ti 11 = ⟨1, [.str []], .str⟩ := rfl
theorem ti12 : ti 12 = ⟨1, [.int .u64 0], .int .u64⟩ := rfl
theorem ti13 : ti 13 = ⟨2, [.str [], .int .u64 0], .struct [(0, 1, 9), (1, 1, 12)]⟩ := rfl
theorem ti14 : ti 14 = ⟨2, [.str [], .int .u64 0], .struct [(0, 1, 9), (1, 1, 12)]⟩ := rfl
theorem ti21 : ti 21 = ⟨1, [.int .i32 0], .int .i32⟩ := rfl
theorem ti22 : ti 22 = ⟨1, [.own false 42 []], .slice 70 42 400⟩ := rfl
theorem ti23 : ti 23 = ⟨1, [.nilf], .func⟩ := rfl
theorem ti24 : ti 24 = ⟨1, [.nilf], .func⟩ := rfl
theorem ti25 : ti 25 = ⟨1, [.own false 21 []], .slice 41 21 200⟩ := rfl
theorem ti26 : ti 26 = ⟨1, [.own false 1 []], .slice 3 1 8⟩ := rfl
theorem ti27 : ti 27 = ⟨1, [.int .u64 0], .int .u64⟩ := rfl
theorem ti28 : ti 28 = ⟨4, [.int .u64 0, .int .u64 0, .int .u64 0, .int .u64 0], .arr 4 27 1⟩ := rfl
theorem ti29 : ti 29 = ⟨4, [.int .u64 0, .int .u64 0, .int .u64 0, .int .u64 0], .arr 4 27 1⟩ := rfl
theorem ti30 : ti 30 = ⟨7, [.own false 21 [], .own false 21 [], .own false 1 [], .int .u64 0, .int .u64 0, .int .u64 0, .int .u64 0], .struct [(0, 1, 25), (1, 1, 25), (2, 1, 26), (3, 4, 29)]⟩ := rfl
theorem ti31 : ti 31 = ⟨7, [.own false 21 [], .own false 21 [], .own false 1 [], .int .u64 0, .int .u64 0, .int .u64 0, .int .u64 0], .struct [(0, 1, 25), (1, 1, 25), (2, 1, 26), (3, 4, 29)]⟩ := rfl
theorem ti32 : ti 32 = ⟨1, [.nilf], .func⟩ := rfl
theorem ti33 : ti 33 = ⟨1, [.nilf], .func⟩ := rfl
theorem ti34 : ti 34 = ⟨1, [.nilf], .func⟩ := rfl
theorem ti35 : ti 35 = ⟨1, [.nilf], .func⟩ := rfl
theorem ti36 : ti 36 = ⟨1, [.int .i64 0], .int .i64⟩ := rfl
theorem ti37 : ti 37 = ⟨1, [.nilf], .func⟩ := rfl
theorem ti38 : ti 38 = ⟨1, [.own false 1 []], .slice 27 1 8⟩ := rfl
theorem ti39 : ti 39 = ⟨1, [.own false 1 []], .slice 9 1 16⟩ := rfl
theorem ti40 : ti 40 = ⟨21, [.int .i64 0, .int .i64 0, .int .u64 0, .int .u64 0, .int .u64 0, .int .u64 0, .int .u64 0, .int .u64 0, .int .u64 0, .int .u64 0, .int .u64 0, .int .u64 0, .int .u64 0, .int .u64 0, .int .u64 0, .int .u64 0, .int .u64 0, .int .u64 0, .int .i64 0, .own false 1 [], .own false 1 []], .struct [(0, 1, 3), (1, 1, 3), (2, 4, 29), (6, 4, 29), (10, 4, 29), (14, 4, 29), (18, 1, 3), (19, 1, 38), (20, 1, 39)]⟩ := rfl
theorem ti41 : ti 41 = ⟨21, [.int .i64 0, .int .i64 0, .int .u64 0, .int .u64 0, .int .u64 0, .int .u64 0, .int .u64 0, .int .u64 0, .int .u64 0, .int .u64 0, .int .u64 0, .int .u64 0, .int .u64 0, .int .u64 0, .int .u64 0, .int .u64 0, .int .u64 0, .int .u64 0, .int .i64 0, .own false 1 [], .own false 1 []], .struct [(0, 1, 3), (1, 1, 3), (2, 4, 29), (6, 4, 29), (10, 4, 29), (14, 4, 29), (18, 1, 3), (19, 1, 38), (20, 1, 39)]⟩ := rfl
theorem ti42 : ti 42 = ⟨1, [.nilf], .func⟩ := rfl
theorem ti44 : ti 44 = ⟨1, [.nilf], .func⟩ := rfl
theorem ti45 : ti 45 = ⟨1, [.nilf], .func⟩ := rfl
theorem ti47 : ti 47 = ⟨1, [.nilf], .func⟩ := rfl
theorem ti48 : ti 48 = ⟨1, [.nilf], .func⟩ := rfl
theorem ti49 : ti 49 = ⟨1, [.nilf], .func⟩ := rfl
theorem ti50 : ti 50 = ⟨1, [.nilf], .func⟩ := rfl
theorem ti51 : ti 51 = ⟨1, [.nilf], .func⟩ := rfl
theorem ti53 : ti 53 = ⟨1, [.nilf], .func⟩ := rfl
theorem ti55 : ti 55 = ⟨1, [.nilf], .func⟩ := rfl
theorem ti56 : ti 56 = ⟨1, [.nilf], .func⟩ := rfl
theorem ti57 : ti 57 = ⟨1, [.nilf], .func⟩ := rfl
theorem ti58 : ti 58 = ⟨1, [.nilf], .func⟩ := rfl
theorem ti60 : ti 60 = ⟨1, [.nilf], .func⟩ := rfl
theorem ti62 : ti 62 = ⟨1, [.nilf], .func⟩ := rfl
theorem ti63 : ti 63 = ⟨1, [.nilf], .func⟩ := rfl
theorem ti64 : ti 64 = ⟨1, [.nilf], .func⟩ := rfl
theorem ti65 : ti 65 = ⟨1, [.nilf], .func⟩ := rfl
theorem ti66 : ti 66 = ⟨1, [.nilf], .func⟩ := rfl
theorem ti67 : ti 67 = ⟨1, [.nilf], .func⟩ := rfl
theorem ti68 : ti 68 = ⟨1, [.nilf], .func⟩ := rfl
theorem ti69 : ti 69 = ⟨42, [.int .i64 0, .int .i64 0, .int .u64 0, .int .u64 0, .int .u64 0, .int .u64 0, .int .u64 0, .int .u64 0, .int .u64 0, .int .u64 0, .int .u64 0, .int .u64 0, .int .u64 0, .int .u64 0, .int .u64 0, .int .u64 0, .int .u64 0, .int .u64 0, .int .i64 0, .own false 1 [], .own false 1 [], .int .i64 0, .int .i64 0, .int .u64 0, .int .u64 0, .int .u64 0, .int .u64 0, .int .u64 0, .int .u64 0, .int .u64 0, .int .u64 0, .int .u64 0, .int .u64 0, .int .u64 0, .int .u64 0, .int .u64 0, .int .u64 0, .int .u64 0, .int .u64 0, .int .i64 0, .own false 1 [], .own false 1 []], .struct [(0, 21, 41), (21, 21, 41)]⟩ := rfl
theorem ti70 : ti 70 = ⟨42, [.int .i64 0, .int .i64 0, .int .u64 0, .int .u64 0, .int .u64 0, .int .u64 0, .int .u64 0, .int .u64 0, .int .u64 0, .int .u64 0, .int .u64 0, .int .u64 0, .int .u64 0, .int .u64 0, .int .u64 0, .int .u64 0, .int .u64 0, .int .u64 0, .int .i64 0, .own false 1 [], .own false 1 [], .int .i64 0, .int .i64 0, .int .u64 0, .int .u64 0, .int .u64 0, .int .u64 0, .int .u64 0, .int .u64 0, .int .u64 0, .int .u64 0, .int .u64 0, .int .u64 0, .int .u64 0, .int .u64 0, .int .u64 0, .int .u64 0, .int .u64 0, .int .u64 0, .int .i64 0, .own false 1 [], .own false 1 []], .struct [(0, 21, 41), (21, 21, 41)]⟩ := rfl
theorem ti71 : ti 71 = ⟨1, [.nilf], .func⟩ := rfl
theorem ti72 : ti 72 = ⟨1, [.nilf], .func⟩ := rfl
theorem ti74 : ti 74 = ⟨1, [.nilf], .func⟩ := rfl
theorem ti76 : ti 76 = ⟨1, [.nilf], .func⟩ := rfl
theorem ti77 : ti 77 = ⟨1, [.nilf], .func⟩ := rfl
theorem ti78 : ti 78 = ⟨1, [.nilf], .func⟩ := rfl
theorem ti79 : ti 79 = ⟨1, [.nilf], .func⟩ := rfl
theorem ti80 : ti 80 = ⟨1, [.nilf], .func⟩ := rfl
theorem ti81 : ti 81 = ⟨1, [.nilf], .func⟩ := rfl
theorem ti82 : ti 82 = ⟨1, [.nilf], .func⟩ := rfl
theorem ti83 : ti 83 = ⟨1, [.nilf], .func⟩ := rfl
theorem ti84 : ti 84 = ⟨1, [.nilf], .func⟩ := rfl
theorem ti85 : ti 85 = ⟨1, [.nilf], .func⟩ := rfl
theorem ti86 : ti 86 = ⟨1, [.nilf], .func⟩ := rfl
theorem ti87 : ti 87 = ⟨1, [.int .u64 0], .int .u64⟩ := rfl
theorem ti88 : ti 88 = ⟨1, [.nilf], .func⟩ := rfl
theorem ti89 : ti 89 = ⟨1, [.nilf], .func⟩ := rfl
theorem ti90 : ti 90 = ⟨1, [.nilf], .func⟩ := rfl
theorem ti91 : ti 91 = ⟨12, [.int .u64 0, .int .u64 0, .int .u64 0, .int .u64 0, .int .u64 0, .int .u64 0, .int .u64 0, .int .u64 0, .int .u64 0, .int .u64 0, .int .u64 0, .int .u64 0], .arr 3 29 4⟩ := rfl
theorem ti92 : ti 92 = ⟨1, [.nilf], .func⟩ := rfl
theorem ti93 : ti 93 = ⟨1, [.nilf], .func⟩ := rfl
theorem ti95 : ti 95 = ⟨1, [.nilf], .func⟩ := rfl
theorem ti96 : ti 96 = ⟨1, [.nilf], .func⟩ := rfl
theorem ti97 : ti 97 = ⟨1, [.nilf], .func⟩ := rfl
theorem ti98 : ti 98 = ⟨1, [.nilf], .func⟩ := rfl
theorem ti99 : ti 99 = ⟨1, [.own false 4 []], .slice 29 4 32⟩ := rfl
theorem ti100 : ti 100 = ⟨1, [.nilf], .func⟩ := rfl
theorem ti101 : ti 101 = ⟨1, [.nilf], .func⟩ := rfl
theorem ti102 : ti 102 = ⟨1, [.nilf], .func⟩ := rfl
theorem ti103 : ti 103 = ⟨16, [.int .u64 0, .int .u64 0, .int .u64 0, .int .u64 0, .int .u64 0, .int .u64 0, .int .u64 0, .int .u64 0, .int .u64 0, .int .u64 0, .int .u64 0, .int .u64 0, .int .u64 0, .int .u64 0, .int .u64 0, .int .u64 0], .arr 16 27 1⟩ := rfl
theorem ti104 : ti 104 = ⟨1, [.nilf], .func⟩ := rfl
theorem ti105 : ti 105 = ⟨1, [.own false 3 []], .slice 107 3 48⟩ := rfl
theorem ti106 : ti 106 = ⟨3, [.bool false, .str [], .own false 3 []], .struct [(0, 1, 4), (1, 1, 9), (2, 1, 105)]⟩ := rfl
theorem ti107 : ti 107 = ⟨3, [.bool false, .str [], .own false 3 []], .struct [(0, 1, 4), (1, 1, 9), (2, 1, 105)]⟩ := rfl
theorem ti108 : ti 108 = ⟨1, [.nilf], .func⟩ := rfl
theorem ti109 : ti 109 = ⟨1, [.nilf], .func⟩ := rfl
theorem ti110 : ti 110 = ⟨1, [.nilf], .func⟩ := rfl
theorem ti111 : ti 111 = ⟨1, [.nilf], .func⟩ := rfl
theorem ti112 : ti 112 = ⟨1, [.nilf], .func⟩ := rfl
theorem ti114 : ti 114 = ⟨1, [.nilf], .func⟩ := rfl
theorem ti115 : ti 115 = ⟨1, [.nilf], .func⟩ := rfl
theorem ti117 : ti 117 = ⟨1, [.nilf], .func⟩ := rfl
theorem ti119 : ti 119 = ⟨1, [.nilf], .func⟩ := rfl
theorem ti120 : ti 120 = ⟨1, [.nilf], .func⟩ := rfl
theorem ti121 : ti 121 = ⟨4, [.int .i64 0, .int .i64 0, .int .i64 0, .int .i64 0], .arr 4 36 1⟩ := rfl
theorem ti122 : ti 122 = ⟨8, [.int .u8 0, .int .u8 0, .int .u8 0, .int .u8 0, .int .u8 0, .int .u8 0, .int .u8 0, .int .u8 0], .arr 8 5 1⟩ := rfl
theorem ti123 : ti 123 = ⟨1, [.own false 1 []], .slice 5 1 1⟩ := rfl
theorem ti124 : ti 124 = ⟨1, [.nilf], .func⟩ := rfl
theorem ti125 : ti 125 = ⟨1, [.nilf], .func⟩ := rfl
theorem ti126 : ti 126 = ⟨1, [.nilf], .func⟩ := rfl
theorem ti127 : ti 127 = ⟨1, [.nilf], .func⟩ := rfl
theorem ti128 : ti 128 = ⟨8, [.int .u64 0, .int .u64 0, .int .u64 0, .int .u64 0, .int .u64 0, .int .u64 0, .int .u64 0, .int .u64 0], .arr 8 27 1⟩ := rfl
theorem ti129 : ti 129 = ⟨1, [.nilf], .func⟩ := rfl
theorem ti130 : ti 130 = ⟨1, [.nilf], .func⟩ := rfl
theorem ti132 : ti 132 = ⟨1, [.nilf], .func⟩ := rfl
theorem ti133 : ti 133 = ⟨1, [.nilf], .func⟩ := rfl
theorem ti134 : ti 134 = ⟨1, [.nilf], .func⟩ := rfl
theorem ti135 : ti 135 = ⟨1, [.nilf], .func⟩ := rfl
theorem ti136 : ti 136 = ⟨1, [.nilf], .func⟩ := rfl
theorem ti137 : ti 137 = ⟨1, [.nilf], .func⟩ := rfl
theorem ti138 : ti 138 = ⟨1, [.nilf], .func⟩ := rfl
theorem ti139 : ti 139 = ⟨1, [.nilf], .func⟩ := rfl
theorem ti140 : ti 140 = ⟨1, [.nilf], .func⟩ := rfl
theorem ti141 : ti 141 = ⟨1, [.nilf], .func⟩ := rfl
theorem ti142 : ti 142 = ⟨1, [.nilf], .func⟩ := rfl
theorem ti143 : ti 143 = ⟨1, [.nilf], .func⟩ := rfl
theorem ti144 : ti 144 = ⟨1, [.nilf], .func⟩ := rfl
theorem ti145 : ti 145 = ⟨1, [.nilf], .func⟩ := rfl
theorem ti151 : ti 151 = ⟨1, [.nilf], .func⟩ := rfl
theorem ti152 : ti 152 = ⟨1, [.int .u32 0], .int .u32⟩ := rfl
theorem ti153 : ti 153 = ⟨1, [.int .u8 0], .int .u8⟩ := rfl
theorem ti154 : ti 154 = ⟨1, [.int .u8 0], .int .u8⟩ := rfl
theorem ti155 : ti 155 = ⟨1, [.nilf], .func⟩ := rfl
theorem ti157 : ti 157 = ⟨1, [.int .i32 0], .int .i32⟩ := rfl
theorem ti158 : ti 158 = ⟨1, [.int .i32 0], .int .i32⟩ := rfl
theorem fits : fitAll Try.prog table = true := by kernel_rfl
/-- How a function is looked at. -/
noncomputable def cf (n : Nat) (live : List Nat) (ownp : FuncId → List Nat) : Cfg := { P := Try.prog, ti := ti, n := n, live := live, ownp := ownp }
theorem cf_ok (n : Nat) (live : List Nat) (ownp : FuncId → List Nat) : CfgOk (cf n live ownp) := ⟨by kernel_rfl, fun T h => fitAll_ok fits T h⟩
end Go.Proofs.Ytgdopacmdjcgfaa.VA
