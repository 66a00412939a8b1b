/- The table of the types of this program, for the abstract machine: it fits the program. -/
import Derived.Test.YtjfnmlheehbojaaVaFit
import Derived.Test.YtjfnmlheehbojaaProg
namespace Go.Proofs.Ytjfnmlheehbojaa.VA
set_option maxRecDepth 100000
def table : List TI := [
  ⟨0, [], .other⟩,
  ⟨1, [.nilf], .func⟩,
  ⟨1, [.int .i64 0], .int .i64⟩,
  ⟨1, [.int .i64 0], .int .i64⟩,
  ⟨1, [.bool false], .bool⟩,
  ⟨1, [.int .u8 0], .int .u8⟩,
  ⟨1, [.int .u8 0], .int .u8⟩,
  ⟨4, [.int .i64 0, .int .i64 0, .bool false, .int .u8 0], .struct [(0, 1, 2), (1, 1, 3), (2, 1, 4), (3, 1, 6)]⟩,
  ⟨4, [.int .i64 0, .int .i64 0, .bool false, .int .u8 0], .struct [(0, 1, 2), (1, 1, 3), (2, 1, 4), (3, 1, 6)]⟩,
  ⟨1, [.str []], .str⟩,
  ⟨1, [.str []], .str⟩,
  ⟨1, [.str []], .str⟩,
  ⟨1, [.int .u64 0], .int .u64⟩,
  ⟨2, [.str [], .int .u64 0], .struct [(0, 1, 9), (1, 1, 12)]⟩,
  ⟨2, [.str [], .int .u64 0], .struct [(0, 1, 9), (1, 1, 12)]⟩,
  ⟨0, [], .other⟩,
  ⟨0, [], .other⟩,
  ⟨0, [], .other⟩,
  ⟨0, [], .other⟩,
  ⟨0, [], .other⟩,
  ⟨0, [], .other⟩,
  ⟨1, [.int .i32 0], .int .i32⟩,
  ⟨1, [.own false 1 []], .slice 3 1 8⟩,
  ⟨1, [.int .i64 0], .int .i64⟩,
  ⟨0, [], .other⟩,
  ⟨1, [.nilf], .func⟩,
  ⟨1, [.nilf], .func⟩,
  ⟨1, [.nilf], .func⟩,
  ⟨1, [.nilf], .func⟩,
  ⟨1, [.own false 3 []], .slice 33 3 56⟩,
  ⟨1, [.own false 1 []], .slice 34 1 8⟩,
  ⟨1, [.own false 1 []], .slice 9 1 16⟩,
  ⟨3, [.own false 1 [], .own false 1 [], .int .i64 0], .struct [(0, 1, 30), (1, 1, 31), (2, 1, 3)]⟩,
  ⟨3, [.own false 1 [], .own false 1 [], .int .i64 0], .struct [(0, 1, 30), (1, 1, 31), (2, 1, 3)]⟩,
  ⟨1, [.int .u64 0], .int .u64⟩,
  ⟨0, [], .other⟩,
  ⟨1, [.nilf], .func⟩,
  ⟨1, [.nilf], .func⟩,
  ⟨1, [.nilf], .func⟩,
  ⟨0, [], .other⟩,
  ⟨1, [.nilf], .func⟩,
  ⟨1, [.nilf], .func⟩,
  ⟨1, [.nilf], .func⟩,
  ⟨1, [.own false 1 []], .slice 5 1 1⟩,
  ⟨1, [.nilf], .func⟩,
  ⟨1, [.nilf], .func⟩,
  ⟨1, [.nilf], .func⟩,
  ⟨1, [.nilf], .func⟩,
  ⟨1, [.nilf], .func⟩,
  ⟨1, [.nilf], .func⟩,
  ⟨1, [.own false 4 []], .slice 56 4 64⟩,
  ⟨1, [.nilf], .func⟩,
  ⟨1, [.own false 3 []], .slice 54 3 48⟩,
  ⟨3, [.bool false, .str [], .own false 3 []], .struct [(0, 1, 4), (1, 1, 9), (2, 1, 52)]⟩,
  ⟨3, [.bool false, .str [], .own false 3 []], .struct [(0, 1, 4), (1, 1, 9), (2, 1, 52)]⟩,
  ⟨4, [.bool false, .str [], .own false 3 [], .str []], .struct [(0, 3, 54), (3, 1, 9)]⟩,
  ⟨4, [.bool false, .str [], .own false 3 [], .str []], .struct [(0, 3, 54), (3, 1, 9)]⟩,
  ⟨1, [.nilf], .func⟩,
  ⟨0, [], .other⟩,
  ⟨1, [.nilf], .func⟩,
  ⟨0, [], .other⟩,
  ⟨1, [.nilf], .func⟩,
  ⟨1, [.nilf], .func⟩,
  ⟨1, [.nilf], .func⟩,
  ⟨1, [.nilf], .func⟩,
  ⟨1, [.nilf], .func⟩,
  ⟨1, [.nilf], .func⟩,
  ⟨0, [], .other⟩,
  ⟨1, [.nilf], .func⟩,
  ⟨0, [], .other⟩,
  ⟨1, [.nilf], .func⟩,
  ⟨1, [.nilf], .func⟩,
  ⟨0, [], .other⟩,
  ⟨1, [.nilf], .func⟩,
  ⟨1, [.nilf], .func⟩,
  ⟨1, [.int .u64 0], .int .u64⟩,
  ⟨8, [.int .u8 0, .int .u8 0, .int .u8 0, .int .u8 0, .int .u8 0, .int .u8 0, .int .u8 0, .int .u8 0], .arr 8 5 1⟩,
  ⟨1, [.nilf], .func⟩,
  ⟨1, [.nilf], .func⟩,
  ⟨1, [.nilf], .func⟩,
  ⟨0, [], .other⟩,
  ⟨1, [.nilf], .func⟩,
  ⟨1, [.nilf], .func⟩,
  ⟨1, [.nilf], .func⟩,
  ⟨1, [.nilf], .func⟩,
  ⟨1, [.nilf], .func⟩,
  ⟨1, [.nilf], .func⟩,
  ⟨1, [.nilf], .func⟩,
  ⟨1, [.nilf], .func⟩,
  ⟨1, [.nilf], .func⟩,
  ⟨1, [.nilf], .func⟩,
  ⟨1, [.nilf], .func⟩,
  ⟨3, [.bool false, .int .i64 0, .int .i64 0], .struct [(0, 1, 4), (1, 1, 3), (2, 1, 3)]⟩,
  ⟨3, [.bool false, .int .i64 0, .int .i64 0], .struct [(0, 1, 4), (1, 1, 3), (2, 1, 3)]⟩,
  ⟨0, [], .other⟩,
  ⟨1, [.nilf], .func⟩,
  ⟨1, [.nilf], .func⟩,
  ⟨1, [.nilf], .func⟩,
  ⟨4, [.int .u64 0, .int .u64 0, .int .u64 0, .int .u64 0], .arr 4 34 1⟩,
  ⟨4, [.int .u64 0, .int .u64 0, .int .u64 0, .int .u64 0], .arr 4 34 1⟩,
  ⟨1, [.nilf], .func⟩,
  ⟨0, [], .other⟩,
  ⟨1, [.nilf], .func⟩,
  ⟨1, [.nilf], .func⟩,
  ⟨1, [.nilf], .func⟩,
  ⟨1, [.nilf], .func⟩,
  ⟨1, [.nilf], .func⟩,
  ⟨1, [.nilf], .func⟩,
  ⟨0, [], .other⟩,
  ⟨0, [], .other⟩,
  ⟨0, [], .other⟩,
  ⟨0, [], .other⟩,
  ⟨0, [], .other⟩,
  ⟨1, [.nilf], .func⟩,
  ⟨1, [.int .u32 0], .int .u32⟩,
  ⟨1, [.int .u8 0], .int .u8⟩,
  ⟨1, [.int .u8 0], .int .u8⟩,
  ⟨1, [.nilf], .func⟩,
  ⟨0, [], .other⟩,
  ⟨1, [.int .i32 0], .int .i32⟩,
  ⟨1, [.int .i32 0], .int .i32⟩,
  ⟨0, [], .other⟩,
  ⟨0, [], .other⟩,
  ⟨0, [], .other⟩]
def ti : TypeId → TI := tiOf table
theorem ti1 : ti 1 = ⟨1, [.nilf], .func⟩ := rfl
theorem ti2 : ti 2 = ⟨1, [.int .i64 0], .int .i64⟩ := rfl
theorem ti3 : ti 3 = ⟨1, [.int .i64 0], .int .i64⟩ := rfl
theorem ti4 : ti 4 = ⟨1, [.bool false], .bool⟩ := rfl
theorem ti5 : ti 5 = ⟨1, [.int .u8 0], .int .u8⟩ := rfl
theorem ti6 : ti 6 = ⟨1, [.int .u8 0], .int .u8⟩ := rfl
theorem ti7 : ti 7 = ⟨4, [.int .i64 0, .int .i64 0, .bool false, .int .u8 0], .struct [(0, 1, 2), (1, 1, 3), (2, 1, 4), (3, 1, 6)]⟩ := rfl
theorem ti8 : ti 8 = ⟨4, [.int .i64 0, .int .i64 0, .bool false, .int .u8 0], .struct [(0, 1, 2), (1, 1, 3), (2, 1, 4), (3, 1, 6)]⟩ := rfl
theorem ti9 : ti 9 = ⟨1, [.str []], .str⟩ := rfl
theorem ti10 : ti 10 = ⟨1, [.str []], .str⟩ := rfl
theorem ti11 : ti 11 = ⟨1, [.str []], .str⟩ := rfl
theorem ti12 : ti 12 = ⟨1, [.int .u64 0], .int .u64⟩ := rfl
theorem ti13 : ti 13 = ⟨2, [.str [], .int .u64 0], .struct [(0, 1, 9), (1, 1, 12)]⟩ := rfl
theorem ti14 : ti 14 = ⟨2, [.str [], .int .u64 0], .struct [(0, 1, 9), (1, 1, 12)]⟩ := rfl
theorem ti21 : ti 21 = ⟨1, [.int .i32 0], .int .i32⟩ := rfl
theorem ti22 : ti 22 = ⟨1, [.own false 1 []], .slice 3 1 8⟩ := rfl
theorem ti23 : ti 23 = ⟨1, [.int .i64 0], .int .i64⟩ := rfl
theorem ti25 : ti 25 = ⟨1, [.nilf], .func⟩ := rfl
theorem ti26 : ti 26 = ⟨1, [.nilf], .func⟩ := rfl
theorem ti27 : ti 27 = ⟨1, [.nilf], .func⟩ := rfl
theorem ti28 : ti 28 = ⟨1, [.nilf], .func⟩ := rfl
theorem ti29 : ti 29 = ⟨1, [.own false 3 []], .slice 33 3 56⟩ := rfl
theorem ti30 : ti 30 = ⟨1, [.own false 1 []], .slice 34 1 8⟩ := rfl
theorem ti31 : ti 31 = ⟨1, [.own false 1 []], .slice 9 1 16⟩ := rfl
theorem ti32 : ti 32 = ⟨3, [.own false 1 [], .own false 1 [], .int .i64 0], .struct [(0, 1, 30), (1, 1, 31), (2, 1, 3)]⟩ := rfl
theorem ti33 : ti 33 = ⟨3, [.own false 1 [], .own false 1 [], .int .i64 0], .struct [(0, 1, 30), (1, 1, 31), (2, 1, 3)]⟩ := rfl
theorem ti34 : ti 34 = ⟨1, [.int .u64 0], .int .u64⟩ := rfl
theorem ti36 : ti 36 = ⟨1, [.nilf], .func⟩ := rfl
theorem ti37 : ti 37 = ⟨1, [.nilf], .func⟩ := rfl
theorem ti38 : ti 38 = ⟨1, [.nilf], .func⟩ := rfl
theorem ti40 : ti 40 = ⟨1, [.nilf], .func⟩ := rfl
theorem ti41 : ti 41 = ⟨1, [.nilf], .func⟩ := rfl
theorem ti42 : ti 42 = ⟨1, [.nilf], .func⟩ := rfl
theorem ti43 : ti 43 = ⟨1, [.own false 1 []], .slice 5 1 1⟩ := rfl
theorem ti44 : ti 44 = ⟨1, [.nilf], .func⟩ := rfl
theorem ti45 : ti 45 = ⟨1, [.nilf], .func⟩ := rfl
theorem ti46 : ti 46 = ⟨1, [.nilf], .func⟩ := rfl
theorem ti47 : ti 47 = ⟨1, [.nilf], .func⟩ := rfl
theorem ti48 : ti 48 = ⟨1, [.nilf], .func⟩ := rfl
theorem ti49 : ti 49 = ⟨1, [.nilf], .func⟩ := rfl
theorem ti50 : ti 50 = ⟨1, [.own false 4 []], .slice 56 4 64⟩ := rfl
theorem ti51 : ti 51 = ⟨1, [.nilf], .func⟩ := rfl
theorem ti52 : ti 52 = ⟨1, [.own false 3 []], .slice 54 3 48⟩ := rfl
theorem ti53 : ti 53 = ⟨3, [.bool false, .str [], .own false 3 []], .struct [(0, 1, 4), (1, 1, 9), (2, 1, 52)]⟩ := rfl
theorem ti54 : ti 54 = ⟨3, [.bool false, .str [], .own false 3 []], .struct [(0, 1, 4), (1, 1, 9), (2, 1, 52)]⟩ := rfl
theorem ti55 : ti 55 = ⟨4, [.bool false, .str [], .own false 3 [], .str []], .struct [(0, 3, 54), (3, 1, 9)]⟩ := rfl
theorem ti56 : ti 56 = ⟨4, [.bool false, .str [], .own false 3 [], .str []], .struct [(0, 3, 54), (3, 1, 9)]⟩ := rfl
theorem ti57 : ti 57 = ⟨1, [.nilf], .func⟩ := rfl
theorem ti59 : ti 59 = ⟨1, [.nilf], .func⟩ := rfl
theorem ti61 : ti 61 = ⟨1, [.nilf], .func⟩ := rfl
theorem ti62 : ti 62 = ⟨1, [.nilf], .func⟩ := rfl
theorem ti63 : ti 63 = ⟨1, [.nilf], .func⟩ := rfl
theorem ti64 : ti 64 = ⟨1, [.nilf], .func⟩ := rfl
theorem ti65 : ti 65 = ⟨1, [.nilf], .func⟩ := rfl
theorem ti66 : ti 66 = ⟨1, [.nilf], .func⟩ := rfl
theorem ti68 : ti 68 = ⟨1, [.nilf], .func⟩ := rfl
theorem ti70 : ti 70 = ⟨1, [.nilf], .func⟩ := rfl
theorem ti71 : ti 71 = ⟨1, [.nilf], .func⟩ := rfl
theorem ti73 : ti 73 = ⟨1, [.nilf], .func⟩ := rfl
theorem ti74 : ti 74 = ⟨1, [.nilf], .func⟩ := rfl
theorem ti75 : ti 75 = ⟨1, [.int .u64 0], .int .u64⟩ := rfl
theorem ti76 : ti 76 = ⟨8, [.int .u8 0, .int .u8 0, .int .u8 0, .int .u8 0, .int .u8 0, .int .u8 0, .int .u8 0, .int .u8 0], .arr 8 5 1⟩ := rfl
theorem ti77 : ti 77 = ⟨1, [.nilf], .func⟩ := rfl
theorem ti78 : ti 78 = ⟨1, [.nilf], .func⟩ := rfl
theorem ti79 : ti 79 = ⟨1, [.nilf], .func⟩ := rfl
theorem ti81 : ti 81 = ⟨1, [.nilf], .func⟩ := rfl
theorem ti82 : ti 82 = ⟨1, [.nilf], .func⟩ := rfl
theorem ti83 : ti 83 = ⟨1, [.nilf], .func⟩ := rfl
theorem ti84 : ti 84 = ⟨1, [.nilf], .func⟩ := rfl
theorem ti85 : ti 85 = ⟨1, [.nilf], .func⟩ := rfl
theorem ti86 : ti 86 = ⟨1, [.nilf], .func⟩ := rfl
theorem ti87 : ti 87 = ⟨1, [.nilf], .func⟩ := rfl
theorem ti88 : ti 88 = ⟨1, [.nilf], .func⟩ := rfl
theorem ti89 : ti 89 = ⟨1, [.nilf], .func⟩ := rfl
theorem ti90 : ti 90 = ⟨1, [.nilf], .func⟩ := rfl
theorem ti91 : ti 91 = ⟨1, [.nilf], .func⟩ := rfl
theorem ti92 : ti 92 = ⟨3, [.bool false, .int .i64 0, .int .i64 0], .struct [(0, 1, 4), (1, 1, 3), (2, 1, 3)]⟩ := rfl
theorem ti93 : ti 93 = ⟨3, [.bool false, .int .i64 0, .int .i64 0], .struct [(0, 1, 4), (1, 1, 3), (2, 1, 3)]⟩ := rfl
theorem ti95 : ti 95 = ⟨1, [.nilf], .func⟩ := rfl
theorem ti96 : ti 96 = ⟨1, [.nilf], .func⟩ := rfl
theorem ti97 : ti 97 = ⟨1, [.nilf], .func⟩ := rfl
theorem ti98 : ti 98 = ⟨4, [.int .u64 0, .int .u64 0, .int .u64 0, .int .u64 0], .arr 4 34 1⟩ := rfl
theorem ti99 : ti 99 = ⟨4, [.int .u64 0, .int .u64 0, .int .u64 0, .int .u64 0], .arr 4 34 1⟩ := rfl
theorem ti100 : ti 100 = ⟨1, [.nilf], .func⟩ := rfl
theorem ti102 : ti 102 = ⟨1, [.nilf], .func⟩ := rfl
theorem ti103 : ti 103 = ⟨1, [.nilf], .func⟩ := rfl
theorem ti104 : ti 104 = ⟨1, [.nilf], .func⟩ := rfl
theorem ti105 : ti 105 = ⟨1, [.nilf], .func⟩ := rfl
theorem ti106 : ti 106 = ⟨1, [.nilf], .func⟩ := rfl
theorem ti107 : ti 107 = ⟨1, [.nilf], .func⟩ := rfl
theorem ti113 : ti 113 = ⟨1, [.nilf], .func⟩ := rfl
theorem ti114 : ti 114 = ⟨1, [.int .u32 0], .int .u32⟩ := rfl
theorem ti115 : ti 115 = ⟨1, [.int .u8 0], .int .u8⟩ := rfl
theorem ti116 : ti 116 = ⟨1, [.int .u8 0], .int .u8⟩ := rfl
theorem ti117 : ti 117 = ⟨1, [.nilf], .func⟩ := rfl
theorem ti119 : ti 119 = ⟨1, [.int .i32 0], .int .i32⟩ := rfl
theorem ti120 : ti 120 = ⟨1, [.int .i32 0], .int .i32⟩ := rfl
theorem fits : fitAll Try.prog table = true := by kernel_rfl
/-- How a function is looked at. -/
noncomputable def cf (n : Nat) (live : List Nat) (ownp : FuncId → List Nat) : Cfg := { P := Try.prog, ti := ti, n := n, live := live, ownp := ownp }
theorem cf_ok (n : Nat) (live : List Nat) (ownp : FuncId → List Nat) : CfgOk (cf n live ownp) := ⟨by kernel_rfl, fun T h => fitAll_ok fits T h⟩
end Go.Proofs.Ytjfnmlheehbojaa.VA
