/- Part 3 of what the last text proves: Nuclei are found: the law holds at every input. -/
import Derived.Test.YteegdecbdobdpaaQn2
section
-- PRINTED by gen.py: clean texts of functions, and their tie to the program.
set_option maxRecDepth 100000
namespace Go.PS
open Go.Proofs
/-- spec.DrawNucleiOf -/
def an_74 : Ann := ⟨[(1, 1, 16), (1, 2, 16)], [(0, [0, 2]), (1, [2])], [], []⟩
def fa_74 : FnA := ⟨6, [.c 2 28],
  (.seq
    (.region false [⟨some 2, (.alloc 28), 0, none, 0⟩] (some [0, 2]))
    (.seq
      (.region false [⟨some 3, (.mv (.t 0)), 42, none, 0⟩, ⟨some 4, (.call (.f 107) [(.t 3)]), 88, none, 16⟩, ⟨some 5, (.call (.f 106) [(.t 4)]), 28, none, 16⟩, ⟨none, (.store 28 (.t 2) (.t 5)), 0, none, 0⟩] (some [2]))
      .ret))⟩
theorem fok_74 : FnOk Try.prog 74 fa_74 an_74 := ⟨Try.f74, _, Try.func74, rfl, by kernel_rfl, rfl, rfl, by decide, by kernel_rfl⟩
/-- impl.IsNucleus -/
def an_78 : Ann := ⟨[(1, 1, 3), (1, 5, 3)], [(0, [1, 2]), (1, [4])], [], []⟩
def fa_78 : FnA := ⟨12, [.t 4],
  (.seq
    (.region false [⟨some 2, (.box 28 (.t 0)), 0, none, 0⟩, ⟨some 4, (.mv (.c (.bool false))), 4, none, 0⟩] (some [1, 2]))
    (.seq
      (.region false (gops [⟨some 5, (.load 28 (.t 2)), 28, none, 0⟩, ⟨some 6, (.call (.f 36) [(.t 5)]), 4, none, 3⟩, ⟨some 7, (.mv (.t 6)), 4, none, 0⟩, ⟨some 8, (.load 28 (.t 2)), 28, some (7, true), 0⟩, ⟨some 9, (.mv (.t 1)), 22, some (7, true), 0⟩, ⟨some 10, (.call (.f 154) [(.t 8), (.t 9)]), 4, some (7, true), 3⟩, ⟨some 11, (.pick (.t 7) (.t 10) (.c (.bool false))), 4, none, 0⟩, ⟨some 4, (.mv (.t 11)), 4, none, 0⟩]) (some [4]))
      .ret))⟩
theorem fok_78 : FnOk Try.prog 78 fa_78 an_78 := ⟨Try.f78, _, Try.func78, rfl, by kernel_rfl, rfl, rfl, by decide, by kernel_rfl⟩
/-- impl.TwiceNot -/
def an_81 : Ann := ⟨[(1, 1, 3), (3, 0, 1), (7, 4, 3), (7, 5, 3)], [(0, [1]), (1, [1, 7]), (2, [2]), (3, [1, 3]), (4, [1, 3, 11, 12]), (5, [1, 3, 11, 12, 13]), (6, [1, 3, 4, 11, 12]), (7, [1, 3, 11, 12]), (8, [1, 3, 11, 12]), (9, [2])], [(5, [1, 3, 11, 12], [64, 176])], []⟩
def lb_81_5 : AC :=
  (.seq
    (.region false [⟨some 13, (.bin .lss 3 (.t 12) (.t 11)), 0, none, 0⟩] (some [1, 3, 11, 12, 13]))
    (.seq
      (.cond (.t 13)
        .skip
        (.exit 0))
      (.seq
        (.block 1
          (.seq
            (.region false [⟨some 14, (.mv (.t 12)), 3, none, 0⟩, ⟨some 4, (.mv (.t 14)), 3, none, 0⟩] (some [1, 3, 4, 11, 12]))
            (.region true [⟨some 15, (.mv (.t 3)), 22, none, 0⟩, ⟨some 16, (.load 28 (.t 1)), 28, none, 0⟩, ⟨some 17, (.load 28 (.t 1)), 28, none, 0⟩, ⟨some 18, (.mv (.t 4)), 3, none, 0⟩, ⟨some 19, (.call (.f 129) [(.t 17), (.t 18)]), 3, none, 3⟩, ⟨some 20, (.call (.f 129) [(.t 16), (.t 19)]), 3, none, 3⟩, ⟨some 21, (.bslice 22 1 [(0, (.t 20))]), 22, none, 0⟩, ⟨some 22, (.app 22 22 (.t 15) (.t 21)), 22, none, 0⟩, ⟨some 3, (.mv (.t 22)), 22, none, 0⟩] (some [1, 3, 11, 12]))))
        (.region false [⟨some 23, (.bin .add 3 (.t 12) (.c (.int .i64 1))), 3, none, 0⟩, ⟨some 12, (.mv (.t 23)), 3, none, 0⟩] (some [1, 3, 11, 12])))))
def fa_81 : FnA := ⟨25, [.t 2],
  (.seq
    (.region false [⟨some 1, (.box 28 (.t 0)), 0, none, 0⟩, ⟨some 2, (.mv (.c .nil)), 22, none, 0⟩] (some [1]))
    (.seq
      (.seq
        (.region false [⟨some 5, (.load 28 (.t 1)), 28, none, 0⟩, ⟨some 6, (.call (.f 36) [(.t 5)]), 4, none, 3⟩, ⟨some 7, (.un .not (.t 6)), 4, none, 0⟩] (some [1, 7]))
        (.cond (.t 7)
          (.seq
            (.region false [⟨some 2, (.mv (.c .nil)), 22, none, 0⟩] (some [2]))
            .ret)
          .skip))
      (.seq
        (.region false [⟨some 8, (.bslice 22 0 []), 22, none, 1⟩, ⟨some 3, (.mv (.t 8)), 22, none, 0⟩] (some [1, 3]))
        (.seq
          (.seq
            (.region false [⟨some 9, (.faddr 28 (.t 1) 0), 0, none, 0⟩, ⟨some 10, (.load 22 (.t 9)), 22, none, 0⟩, ⟨some 11, (.len 22 (.t 10)), 3, none, 0⟩, ⟨some 12, (.mv (.c (.int .i64 0))), 3, none, 0⟩] (some [1, 3, 11, 12]))
            (.block 0
              (.loop [1, 3, 11, 12] [64, 176] lb_81_5)))
          (.seq
            (.region false [⟨some 24, (.mv (.t 3)), 22, none, 0⟩, ⟨some 2, (.mv (.t 24)), 22, none, 0⟩] (some [2]))
            .ret)))))⟩
theorem fok_81 : FnOk Try.prog 81 fa_81 an_81 := ⟨Try.f81, _, Try.func81, rfl, by kernel_rfl, rfl, rfl, by decide, by kernel_rfl⟩
/-- laws.equalLists -/
def an_76 : Ann := ⟨[(6, 8, 3)], [(0, [0, 1]), (1, [0, 1, 10]), (2, [4]), (3, [0, 1, 5]), (4, [0, 1, 5, 14]), (6, [0, 1, 5, 26]), (7, [4]), (5, [0, 1, 5]), (8, [4])], [(4, [0, 1, 5], [])], []⟩
def lb_76_4 : AC :=
  (.seq
    (.seq
      (.region false [⟨some 11, (.mv (.t 5)), 3, none, 0⟩, ⟨some 12, (.mv (.t 0)), 23, none, 0⟩, ⟨some 13, (.len 23 (.t 12)), 3, none, 0⟩, ⟨some 14, (.bin .lss 3 (.t 11) (.t 13)), 4, none, 0⟩] (some [0, 1, 5, 14]))
      (.cond (.t 14)
        .skip
        (.exit 0)))
    (.seq
      (.block 1
        (.seq
          (.region true [⟨some 17, (.mv (.t 0)), 23, none, 0⟩, ⟨some 18, (.mv (.t 5)), 3, none, 0⟩, ⟨some 19, (.iaddr 23 (.t 17) (.t 18)), 0, none, 0⟩, ⟨some 20, (.load 22 (.t 19)), 22, none, 0⟩, ⟨some 21, (.mv (.t 1)), 23, none, 0⟩, ⟨some 22, (.mv (.t 5)), 3, none, 0⟩, ⟨some 23, (.iaddr 23 (.t 21) (.t 22)), 0, none, 0⟩, ⟨some 24, (.load 22 (.t 23)), 22, none, 0⟩, ⟨some 25, (.call (.f 63) [(.t 20), (.t 24)]), 4, none, 3⟩, ⟨some 26, (.un .not (.t 25)), 4, none, 0⟩] (some [0, 1, 5, 26]))
          (.cond (.t 26)
            (.seq
              (.region false [⟨some 4, (.mv (.c (.bool false))), 4, none, 0⟩] (some [4]))
              .ret)
            .skip)))
      (.region false [⟨some 15, (.mv (.t 5)), 3, none, 0⟩, ⟨some 16, (.bin .add 3 (.t 15) (.c (.int .i64 1))), 3, none, 0⟩, ⟨some 5, (.mv (.t 16)), 3, none, 0⟩] (some [0, 1, 5]))))
def fa_76 : FnA := ⟨27, [.t 4],
  (.seq
    (.region false [⟨some 4, (.mv (.c (.bool false))), 4, none, 0⟩] (some [0, 1]))
    (.seq
      (.seq
        (.region false [⟨some 6, (.mv (.t 0)), 23, none, 0⟩, ⟨some 7, (.len 23 (.t 6)), 3, none, 0⟩, ⟨some 8, (.mv (.t 1)), 23, none, 0⟩, ⟨some 9, (.len 23 (.t 8)), 3, none, 0⟩, ⟨some 10, (.bin .neq 3 (.t 7) (.t 9)), 4, none, 0⟩] (some [0, 1, 10]))
        (.cond (.t 10)
          (.seq
            (.region false [⟨some 4, (.mv (.c (.bool false))), 4, none, 0⟩] (some [4]))
            .ret)
          .skip))
      (.seq
        (.seq
          (.region false [⟨some 5, (.mv (.c (.int .i64 0))), 3, none, 0⟩] (some [0, 1, 5]))
          (.block 0
            (.loop [0, 1, 5] [] lb_76_4)))
        (.seq
          (.region false [⟨some 4, (.mv (.c (.bool true))), 4, none, 0⟩] (some [4]))
          .ret))))⟩
theorem fok_76 : FnOk Try.prog 76 fa_76 an_76 := ⟨Try.f76, _, Try.func76, rfl, by kernel_rfl, rfl, rfl, by decide, by kernel_rfl⟩
/-- laws.rising -/
def an_80 : Ann := ⟨[(1, 0, 1)], [(0, [0]), (1, [0, 3]), (2, [0, 3, 8]), (3, [0, 3]), (4, [2])], [(2, [0, 3], [32, 104])], []⟩
def lb_80_2 : AC :=
  (.seq
    (.seq
      (.region false [⟨some 5, (.mv (.t 3)), 22, none, 0⟩, ⟨some 6, (.len 22 (.t 5)), 3, none, 0⟩, ⟨some 7, (.mv (.t 0)), 3, none, 0⟩, ⟨some 8, (.bin .lss 3 (.t 6) (.t 7)), 4, none, 0⟩] (some [0, 3, 8]))
      (.cond (.t 8)
        .skip
        (.exit 0)))
    (.block 1
      (.region false [⟨some 9, (.mv (.t 3)), 22, none, 0⟩, ⟨some 10, (.mv (.t 3)), 22, none, 0⟩, ⟨some 11, (.len 22 (.t 10)), 3, none, 0⟩, ⟨some 12, (.bslice 22 1 [(0, (.t 11))]), 22, none, 0⟩, ⟨some 13, (.app 22 22 (.t 9) (.t 12)), 22, none, 0⟩, ⟨some 3, (.mv (.t 13)), 22, none, 0⟩] (some [0, 3]))))
def fa_80 : FnA := ⟨15, [.t 2],
  (.seq
    (.region false [⟨some 2, (.mv (.c .nil)), 22, none, 0⟩] (some [0]))
    (.seq
      (.region false [⟨some 4, (.bslice 22 0 []), 22, none, 1⟩, ⟨some 3, (.mv (.t 4)), 22, none, 0⟩] (some [0, 3]))
      (.seq
        (.block 0
          (.loop [0, 3] [32, 104] lb_80_2))
        (.seq
          (.region false [⟨some 14, (.mv (.t 3)), 22, none, 0⟩, ⟨some 2, (.mv (.t 14)), 22, none, 0⟩] (some [2]))
          .ret))))⟩
theorem fok_80 : FnOk Try.prog 80 fa_80 an_80 := ⟨Try.f80, _, Try.func80, rfl, by kernel_rfl, rfl, rfl, by decide, by kernel_rfl⟩
/-- laws.holdsList -/
def an_79 : Ann := ⟨[(4, 5, 3)], [(0, [0, 1]), (1, [0, 1, 5]), (2, [0, 1, 5, 9]), (4, [0, 1, 5, 17]), (5, [4]), (3, [0, 1, 5]), (6, [4])], [(2, [0, 1, 5], [])], []⟩
def lb_79_2 : AC :=
  (.seq
    (.seq
      (.region false [⟨some 6, (.mv (.t 5)), 3, none, 0⟩, ⟨some 7, (.mv (.t 0)), 23, none, 0⟩, ⟨some 8, (.len 23 (.t 7)), 3, none, 0⟩, ⟨some 9, (.bin .lss 3 (.t 6) (.t 8)), 4, none, 0⟩] (some [0, 1, 5, 9]))
      (.cond (.t 9)
        .skip
        (.exit 0)))
    (.seq
      (.block 1
        (.seq
          (.region false [⟨some 12, (.mv (.t 0)), 23, none, 0⟩, ⟨some 13, (.mv (.t 5)), 3, none, 0⟩, ⟨some 14, (.iaddr 23 (.t 12) (.t 13)), 0, none, 0⟩, ⟨some 15, (.load 22 (.t 14)), 22, none, 0⟩, ⟨some 16, (.mv (.t 1)), 22, none, 0⟩, ⟨some 17, (.call (.f 63) [(.t 15), (.t 16)]), 4, none, 3⟩] (some [0, 1, 5, 17]))
          (.cond (.t 17)
            (.seq
              (.region false [⟨some 4, (.mv (.c (.bool true))), 4, none, 0⟩] (some [4]))
              .ret)
            .skip)))
      (.region false [⟨some 10, (.mv (.t 5)), 3, none, 0⟩, ⟨some 11, (.bin .add 3 (.t 10) (.c (.int .i64 1))), 3, none, 0⟩, ⟨some 5, (.mv (.t 11)), 3, none, 0⟩] (some [0, 1, 5]))))
def fa_79 : FnA := ⟨18, [.t 4],
  (.seq
    (.region false [⟨some 4, (.mv (.c (.bool false))), 4, none, 0⟩] (some [0, 1]))
    (.seq
      (.seq
        (.region false [⟨some 5, (.mv (.c (.int .i64 0))), 3, none, 0⟩] (some [0, 1, 5]))
        (.block 0
          (.loop [0, 1, 5] [] lb_79_2)))
      (.seq
        (.region false [⟨some 4, (.mv (.c (.bool false))), 4, none, 0⟩] (some [4]))
        .ret)))⟩
theorem fok_79 : FnOk Try.prog 79 fa_79 an_79 := ⟨Try.f79, _, Try.func79, rfl, by kernel_rfl, rfl, rfl, by decide, by kernel_rfl⟩
/-- laws.FnNucleiOf -/
def an_17 : Ann := ⟨[(3, 1, 3), (4, 1, 3), (5, 2, 3), (5, 3, 3), (5, 7, 3), (6, 2, 3), (6, 3, 3), (8, 0, 1), (16, 5, 3), (16, 20, 3), (18, 2, 3), (18, 3, 3), (18, 6, 2), (18, 7, 3), (18, 12, 3), (18, 13, 3)], [(0, [0]), (1, [0, 11]), (2, [2]), (3, [3]), (4, [3, 4]), (5, [3, 4, 25]), (6, [2]), (7, [3, 4, 5]), (8, [3, 4, 5, 6]), (9, [3, 4, 5, 6, 7]), (10, [3, 4, 5, 6, 7, 36]), (12, [3, 4, 5, 6, 7]), (11, [3, 4, 5, 6, 7]), (13, [3, 4, 5, 6, 8]), (14, [3, 4, 5, 6, 8, 47]), (16, [3, 4, 5, 6, 8, 72]), (17, [2]), (15, [3, 4, 5, 6, 8]), (18, [2])], [(10, [3, 4, 5, 6, 7], [24, 264, 344]), (14, [3, 4, 5, 6, 8], [24, 264, 344])], []⟩
def lb_17_10 : AC :=
  (.seq
    (.seq
      (.region false [⟨some 34, (.mv (.t 7)), 3, none, 0⟩, ⟨some 35, (.mv (.t 5)), 3, none, 0⟩, ⟨some 36, (.bin .lss 3 (.t 34) (.t 35)), 4, none, 0⟩] (some [3, 4, 5, 6, 7, 36]))
      (.cond (.t 36)
        .skip
        (.exit 0)))
    (.seq
      (.block 1
        (.region false [⟨some 39, (.mv (.t 6)), 22, none, 0⟩, ⟨some 40, (.mv (.t 5)), 3, none, 0⟩, ⟨some 41, (.bin .sub 3 (.t 40) (.c (.int .i64 1))), 3, none, 0⟩, ⟨some 42, (.bslice 22 1 [(0, (.t 41))]), 22, none, 0⟩, ⟨some 43, (.app 22 22 (.t 39) (.t 42)), 22, none, 0⟩, ⟨some 6, (.mv (.t 43)), 22, none, 0⟩] (some [3, 4, 5, 6, 7])))
      (.region false [⟨some 37, (.mv (.t 7)), 3, none, 0⟩, ⟨some 38, (.bin .add 3 (.t 37) (.c (.int .i64 1))), 3, none, 0⟩, ⟨some 7, (.mv (.t 38)), 3, none, 0⟩] (some [3, 4, 5, 6, 7]))))
def lb_17_14 : AC :=
  (.seq
    (.seq
      (.region false [⟨some 44, (.mv (.t 8)), 3, none, 0⟩, ⟨some 45, (.mv (.t 4)), 23, none, 0⟩, ⟨some 46, (.len 23 (.t 45)), 3, none, 0⟩, ⟨some 47, (.bin .lss 3 (.t 44) (.t 46)), 4, none, 0⟩] (some [3, 4, 5, 6, 8, 47]))
      (.cond (.t 47)
        .skip
        (.exit 2)))
    (.seq
      (.block 3
        (.seq
          (.region true (gops (seg [3, 4, 5, 6, 8, 57, 59] [⟨some 50, (.load 28 (.t 3)), 28, none, 0⟩, ⟨some 51, (.mv (.t 4)), 23, none, 0⟩, ⟨some 52, (.mv (.t 8)), 3, none, 0⟩, ⟨some 53, (.iaddr 23 (.t 51) (.t 52)), 0, none, 0⟩, ⟨some 54, (.load 22 (.t 53)), 22, none, 0⟩, ⟨some 55, (.call (.f 78) [(.t 50), (.t 54)]), 4, none, 3⟩, ⟨some 56, (.un .not (.t 55)), 4, none, 0⟩, ⟨some 57, (.mv (.t 56)), 4, none, 0⟩, ⟨some 58, (.mv (.t 8)), 3, some (57, false), 0⟩, ⟨some 59, (.bin .gtr 3 (.t 58) (.c (.int .i64 0))), 4, some (57, false), 0⟩]
          [⟨some 60, (.mv (.t 59)), 4, some (57, false), 0⟩, ⟨some 61, (.mv (.t 4)), 23, some (60, true), 0⟩, ⟨some 62, (.mv (.t 8)), 3, some (60, true), 0⟩, ⟨some 63, (.bin .sub 3 (.t 62) (.c (.int .i64 1))), 3, some (60, true), 0⟩, ⟨some 64, (.iaddr 23 (.t 61) (.t 63)), 0, some (60, true), 0⟩, ⟨some 65, (.load 22 (.t 64)), 22, some (60, true), 0⟩, ⟨some 66, (.mv (.t 4)), 23, some (60, true), 0⟩, ⟨some 67, (.mv (.t 8)), 3, some (60, true), 0⟩, ⟨some 68, (.iaddr 23 (.t 66) (.t 67)), 0, some (60, true), 0⟩, ⟨some 69, (.load 22 (.t 68)), 22, some (60, true), 0⟩, ⟨some 70, (.call (.f 63) [(.t 65), (.t 69)]), 4, some (60, true), 3⟩, ⟨some 71, (.pick (.t 60) (.t 70) (.c (.bool false))), 4, some (57, false), 0⟩, ⟨some 72, (.pick (.t 57) (.c (.bool true)) (.t 71)), 4, none, 0⟩] [3, 4, 5, 6, 8, 72] (by decide))) (some [3, 4, 5, 6, 8, 72]))
          (.cond (.t 72)
            (.seq
              (.region false [⟨some 2, (.mv (.c (.bool false))), 4, none, 0⟩] (some [2]))
              .ret)
            .skip)))
      (.region false [⟨some 48, (.mv (.t 8)), 3, none, 0⟩, ⟨some 49, (.bin .add 3 (.t 48) (.c (.int .i64 1))), 3, none, 0⟩, ⟨some 8, (.mv (.t 49)), 3, none, 0⟩] (some [3, 4, 5, 6, 8]))))
def fa_17 : FnA := ⟨88, [.t 2],
  (.seq
    (.region false [⟨some 2, (.mv (.c (.bool false))), 4, none, 0⟩] (some [0]))
    (.seq
      (.seq
        (.region false [⟨some 9, (.mv (.t 0)), 42, none, 0⟩, ⟨some 10, (.len 42 (.t 9)), 3, none, 0⟩, ⟨some 11, (.bin .gtr 3 (.t 10) (.c (.int .i64 1048576))), 4, none, 0⟩] (some [0, 11]))
        (.cond (.t 11)
          (.seq
            (.region false [⟨some 2, (.mv (.c (.bool true))), 4, none, 0⟩] (some [2]))
            .ret)
          .skip))
      (.seq
        (.region false [⟨some 12, (.mv (.t 0)), 42, none, 0⟩, ⟨some 13, (.call (.f 74) [(.t 12)]), 28, none, 3⟩, ⟨some 3, (.alloc 28), 0, none, 0⟩, ⟨none, (.store 28 (.t 3) (.t 13)), 0, none, 0⟩] (some [3]))
        (.seq
          (.region false [⟨some 14, (.load 28 (.t 3)), 28, none, 0⟩, ⟨some 15, (.call (.f 75) [(.t 14)]), 23, none, 3⟩, ⟨some 4, (.mv (.t 15)), 23, none, 0⟩] (some [3, 4]))
          (.seq
            (.seq
              (.region false (gops [⟨some 16, (.mv (.t 4)), 23, none, 0⟩, ⟨some 17, (.load 28 (.t 3)), 28, none, 0⟩, ⟨some 18, (.call (.f 77) [(.t 17)]), 23, none, 3⟩, ⟨some 19, (.call (.f 76) [(.t 16), (.t 18)]), 4, none, 3⟩, ⟨some 20, (.un .not (.t 19)), 4, none, 0⟩, ⟨some 21, (.mv (.t 20)), 4, none, 0⟩, ⟨some 22, (.load 28 (.t 3)), 28, some (21, false), 0⟩, ⟨some 23, (.call (.f 36) [(.t 22)]), 4, some (21, false), 3⟩, ⟨some 24, (.un .not (.t 23)), 4, some (21, false), 0⟩, ⟨some 25, (.pick (.t 21) (.c (.bool true)) (.t 24)), 4, none, 0⟩]) (some [3, 4, 25]))
              (.cond (.t 25)
                (.seq
                  (.region false [⟨some 26, (.mv (.t 4)), 23, none, 0⟩, ⟨some 27, (.load 28 (.t 3)), 28, none, 0⟩, ⟨some 28, (.call (.f 77) [(.t 27)]), 23, none, 3⟩, ⟨some 29, (.call (.f 76) [(.t 26), (.t 28)]), 4, none, 3⟩, ⟨some 2, (.mv (.t 29)), 4, none, 0⟩] (some [2]))
                  .ret)
                .skip))
            (.seq
              (.region false [⟨some 30, (.faddr 28 (.t 3) 0), 0, none, 0⟩, ⟨some 31, (.load 22 (.t 30)), 22, none, 0⟩, ⟨some 32, (.len 22 (.t 31)), 3, none, 0⟩, ⟨some 5, (.mv (.t 32)), 3, none, 0⟩] (some [3, 4, 5]))
              (.seq
                (.region false [⟨some 33, (.bslice 22 0 []), 22, none, 1⟩, ⟨some 6, (.mv (.t 33)), 22, none, 0⟩] (some [3, 4, 5, 6]))
                (.seq
                  (.seq
                    (.region false [⟨some 7, (.mv (.c (.int .i64 0))), 3, none, 0⟩] (some [3, 4, 5, 6, 7]))
                    (.block 0
                      (.loop [3, 4, 5, 6, 7] [24, 264, 344] lb_17_10)))
                  (.seq
                    (.seq
                      (.region false [⟨some 8, (.mv (.c (.int .i64 0))), 3, none, 0⟩] (some [3, 4, 5, 6, 8]))
                      (.block 2
                        (.loop [3, 4, 5, 6, 8] [24, 264, 344] lb_17_14)))
                    (.seq
                      (.region false (gops [⟨some 73, (.mv (.t 4)), 23, none, 0⟩, ⟨some 74, (.mv (.t 5)), 3, none, 0⟩, ⟨some 75, (.call (.f 80) [(.t 74)]), 22, none, 3⟩, ⟨some 76, (.call (.f 79) [(.t 73), (.t 75)]), 4, none, 3⟩, ⟨some 77, (.mv (.t 76)), 4, none, 0⟩, ⟨some 78, (.mv (.t 4)), 23, some (77, true), 0⟩, ⟨some 79, (.mv (.t 6)), 22, some (77, true), 2⟩, ⟨some 80, (.call (.f 79) [(.t 78), (.t 79)]), 4, some (77, true), 3⟩, ⟨some 81, (.pick (.t 77) (.t 80) (.c (.bool false))), 4, none, 0⟩, ⟨some 82, (.mv (.t 81)), 4, none, 0⟩, ⟨some 83, (.mv (.t 4)), 23, some (82, true), 0⟩, ⟨some 84, (.load 28 (.t 3)), 28, some (82, true), 0⟩, ⟨some 85, (.call (.f 81) [(.t 84)]), 22, some (82, true), 3⟩, ⟨some 86, (.call (.f 79) [(.t 83), (.t 85)]), 4, some (82, true), 3⟩, ⟨some 87, (.pick (.t 82) (.t 86) (.c (.bool false))), 4, none, 0⟩, ⟨some 2, (.mv (.t 87)), 4, none, 0⟩]) (some [2]))
                      .ret))))))))))⟩
theorem fok_17 : FnOk Try.prog 17 fa_17 an_17 := ⟨Try.f17, _, Try.func17, rfl, by kernel_rfl, rfl, rfl, by decide, by kernel_rfl⟩
end Go.PS
end

section
-- Contracts of the law of nuclei.
set_option maxRecDepth 100000
set_option linter.unusedVariables false
set_option linter.unusedSimpArgs false
namespace Go.PS
open Go.Proofs

theorem IsNucI_pc (u : List Int) (t : List (List Int)) (j : List Int) (hu : Big u.length) (ht : BigR t) (hj : Big j.length) : PC Try.prog 78 [AL u t, IL j] none true (fun r _ => r = .bool (decide (VA u t) && decide (NU u t j))) := by
  refine pcT [fm_validAlgebraI, fm_isNucI] fok_78 ?_
  by_cases a : VA u t
  · simp [gops, fa_78, hu, ht, hj, a, a.tf]
  · simp [gops, fa_78, hu, ht, a]
noncomputable def fm_IsNucI : Fam Try.prog := mkFam (X := List Int × List (List Int) × List Int) 78 true (fun (u, t, j) => [AL u t, IL j]) (fun (u, t, j) => (Big u.length) ∧ (BigR t) ∧ (Big j.length)) (fun (u, t, j) => .bool (decide (VA u t) && decide (NU u t j))) (by
  rintro ⟨u, t, j⟩ ⟨hu, ht, hj⟩
  exact IsNucI_pc u t j hu ht hj)
@[simp] theorem fm_IsNucI_id : fm_IsNucI.id = 78 := rfl
@[simp] theorem fm_IsNucI_fresh : fm_IsNucI.fresh = true := rfl
@[simp] theorem fm_IsNucI_look (u : List Int) (t : List (List Int)) (j : List Int) (hu : Big u.length) (ht : BigR t) (hj : Big j.length) : fm_IsNucI.look [AL u t, IL j] = some (.bool (decide (VA u t) && decide (NU u t j))) :=
  lookF_of (X := List Int × List (List Int) × List Int) (args := fun (u, t, j) => [AL u t, IL j]) (pre := fun (u, t, j) => (Big u.length) ∧ (BigR t) ∧ (Big j.length)) (val := fun (u, t, j) => .bool (decide (VA u t) && decide (NU u t j))) (by
  rintro ⟨u, t, j⟩ ⟨u', t', j'⟩ h
  simp at h
  try simp only [and_assoc] at h
  obtain ⟨rfl, rfl, rfl⟩ := h
  rfl) (u, t, j) ⟨hu, ht, hj⟩
attribute [irreducible] fm_IsNucI
theorem TwiceI_pc (u : List Int) (t : List (List Int)) (hu : Big u.length) (ht : BigR t) : PC Try.prog 81 [AL u t] none true (fun r _ => r = IO1 (if VA u t then lst u.length (fun x => im u t (im u t x 0) 0) else [])) := by
  have hul := hu.le
  refine pcT [fm_validAlgebraI, fm_notI] fok_81 ?_
  by_cases a : VA u t
  · have f := a.tf
    have hp := a.lat.pos
    simp [fa_81, hu, ht, a]
    refine loopX (tabK_mono _) u.length (fun i γ => [(3, .arr 64 γ), (12, I64 i)]) (fun i γ => [⟨64, γ, .arr 1 (ints (lst i fun x => im u t (im u t x 0) 0))⟩]) (fun _ _ => True) 1 (by simp) (by simp [lst, ints_nil]) trivial (fun i γ g hi _ => ?_)
    simp [lb_81_5, wrap_succ hi hul]
    refine ⟨fun h => ?_, fun h => ?_⟩
    · have hs : lst (i + 1) (fun x => im u t (im u t x 0) 0) = lst i (fun x => im u t (im u t x 0) 0) ++ [implyM u t (implyM u t i 0).toNat 0] := by
        rw [lst_succ, show implyM u t (implyM u t i 0).toNat 0 = _ from a.im_int (x := im u t i 0) (y := 0)]
      have r1 := a.lat.imply_rng (t := t) (x := i) (y := 0)
      have hle := lst_len (n := i) (f := fun x => im u t (im u t x 0) 0)
      generalize lst i (fun x => im u t (im u t x 0) 0) = l0 at *
      simp [h, f, r1, wrap_succ hi hul, show (implyM u t i 0).toNat < u.length by omega]
      exact ⟨le_big (by omega), hs.symm⟩
    · obtain rfl : i = u.length := by omega
      simp
  · simp [fa_81, hu, ht, a, ints_nil]
noncomputable def fm_TwiceI : Fam Try.prog := mkFam (X := List Int × List (List Int)) 81 true (fun (u, t) => [AL u t]) (fun (u, t) => (Big u.length) ∧ (BigR t)) (fun (u, t) => IO1 (if VA u t then lst u.length (fun x => im u t (im u t x 0) 0) else [])) (by
  rintro ⟨u, t⟩ ⟨hu, ht⟩
  exact TwiceI_pc u t hu ht)
@[simp] theorem fm_TwiceI_id : fm_TwiceI.id = 81 := rfl
@[simp] theorem fm_TwiceI_fresh : fm_TwiceI.fresh = true := rfl
@[simp] theorem fm_TwiceI_look (u : List Int) (t : List (List Int)) (hu : Big u.length) (ht : BigR t) : fm_TwiceI.look [AL u t] = some (IO1 (if VA u t then lst u.length (fun x => im u t (im u t x 0) 0) else [])) :=
  lookF_of (X := List Int × List (List Int)) (args := fun (u, t) => [AL u t]) (pre := fun (u, t) => (Big u.length) ∧ (BigR t)) (val := fun (u, t) => IO1 (if VA u t then lst u.length (fun x => im u t (im u t x 0) 0) else [])) (by
  rintro ⟨u, t⟩ ⟨u', t'⟩ h
  simp at h
  try simp only [and_assoc] at h
  obtain ⟨rfl, rfl⟩ := h
  rfl) (u, t) ⟨hu, ht⟩
attribute [irreducible] fm_TwiceI
theorem risingL_pc (n : Int) (h0 : 0 ≤ n) (hn : Big n.toNat) : PC Try.prog 80 [I64 n] none true (fun r _ => r = IO1 (lst n.toNat fun x => x)) := by
  obtain ⟨n, rfl⟩ := Int.eq_ofNat_of_zero_le h0
  simp only [Int.toNat_natCast] at hn ⊢
  have hl := hn.le
  refine pcT [] fok_80 ?_
  simp [fa_80]
  refine loopX (tabK_mono _) n (fun i γ => [(3, .arr 32 γ)]) (fun i γ => [⟨32, γ, .arr 1 (ints (lst i fun x => x))⟩]) (fun _ _ => True) 1 (by simp) (by simp [lst, ints_nil]) trivial (fun i γ g hi _ => ?_)
  simp [lb_80_2, lst_len]
  refine ⟨fun h => ?_, fun h => ?_⟩
  · have hs := lst_succ (n := i) (f := fun x => x)
    simp [h, hs, lst_len]
    exact le_big (by omega)
  · obtain rfl : i = n := by omega
    simp
noncomputable def fm_risingL : Fam Try.prog := mkFam (X := Int) 80 true (fun n => [I64 n]) (fun n => (0 ≤ n) ∧ (Big n.toNat)) (fun n => IO1 (lst n.toNat fun x => x)) (by
  rintro n ⟨h0, hn⟩
  exact risingL_pc n h0 hn)
@[simp] theorem fm_risingL_id : fm_risingL.id = 80 := rfl
@[simp] theorem fm_risingL_fresh : fm_risingL.fresh = true := rfl
@[simp] theorem fm_risingL_look (n : Int) (h0 : 0 ≤ n) (hn : Big n.toNat) : fm_risingL.look [I64 n] = some (IO1 (lst n.toNat fun x => x)) :=
  lookF_of (X := Int) (args := fun n => [I64 n]) (pre := fun n => (0 ≤ n) ∧ (Big n.toNat)) (val := fun n => IO1 (lst n.toNat fun x => x)) (by
  intro n n' h
  simp at h
  subst h
  rfl) n ⟨h0, hn⟩
attribute [irreducible] fm_risingL
theorem holdsL_pc (a : List (List Int)) (l : List Int) (ha : BigR a) : PC Try.prog 79 [RL a, IL l] none true (fun r _ => r = .bool (decide (l ∈ a))) := by
  have hl := ha.1.le
  refine pcT [fm_eqInts] fok_79 ?_
  simp [fa_79]
  refine loopA (tabK_mono _) a.length (fun i => [(5, I64 i)]) (fun _ => []) (fun j => ¬ gr a j = l) (by simp) (by simp) (fun i g hi hP => ?_)
  simp [lb_79_2, wrap_succ hi hl]
  refine ⟨fun h => ?_, fun h => ?_⟩
  · have hb := ha.row h
    by_cases e : gr a i = l
    · subst e
      simp [h, hb]
      rw [gr, List.getElem?_eq_getElem h]
      exact List.getElem_mem h
    · simp [h, hb, e, wrap_succ hi hl]
  · intro hx
    obtain ⟨j, hj, e⟩ := List.mem_iff_getElem.1 hx
    have := hP j (by omega)
    simp [gr, List.getElem?_eq_getElem hj] at this
    exact this e
noncomputable def fm_holdsL : Fam Try.prog := mkFam (X := List (List Int) × List Int) 79 true (fun (a, l) => [RL a, IL l]) (fun (a, l) => (BigR a)) (fun (a, l) => .bool (decide (l ∈ a))) (by
  rintro ⟨a, l⟩ ha
  exact holdsL_pc a l ha)
@[simp] theorem fm_holdsL_id : fm_holdsL.id = 79 := rfl
@[simp] theorem fm_holdsL_fresh : fm_holdsL.fresh = true := rfl
@[simp] theorem fm_holdsL_look (a : List (List Int)) (l : List Int) (ha : BigR a) : fm_holdsL.look [RL a, IL l] = some (.bool (decide (l ∈ a))) :=
  lookF_of (X := List (List Int) × List Int) (args := fun (a, l) => [RL a, IL l]) (pre := fun (a, l) => (BigR a)) (val := fun (a, l) => .bool (decide (l ∈ a))) (by
  rintro ⟨a, l⟩ ⟨a', l'⟩ h
  simp at h
  try simp only [and_assoc] at h
  obtain ⟨rfl, rfl⟩ := h
  rfl) (a, l) ha
attribute [irreducible] fm_holdsL
theorem eqLists_pc (a b : List (List Int)) (ha : BigR a) : PC Try.prog 76 [RL a, RL b] none true (fun r _ => r = .bool (decide (a = b))) := by
  have hl := ha.1.le
  refine pcT [fm_eqInts] fok_76 ?_
  simp [fa_76]
  refine ⟨fun h e => h (by rw [e]), fun hlen => ?_⟩
  have hlen : a.length = b.length := by omega
  refine loopA (tabK_mono _) a.length (fun i => [(5, I64 i)]) (fun _ => []) (fun j => gr a j = gr b j) (by simp) (by simp) (fun i g hi hP => ?_)
  simp [lb_76_4, wrap_succ hi hl]
  refine ⟨fun h => ?_, fun h => ?_⟩
  · have hb := ha.row h
    have h' : i < b.length := by omega
    by_cases e : gr a i = gr b i
    · rw [e] at hb
      simp [h, h', hb, e, wrap_succ hi hl]
    · simp [h, h', hb, e]
      intro e2
      exact e (by rw [e2])
  · apply List.ext_getElem?
    intro j
    by_cases hj : j < a.length
    · have := hP j (by omega)
      simp only [gr, List.getElem?_eq_getElem hj, List.getElem?_eq_getElem (show j < b.length by omega), Option.getD_some] at this ⊢
      rw [this]
    · rw [List.getElem?_eq_none (by omega), List.getElem?_eq_none (by omega)]
noncomputable def fm_eqLists : Fam Try.prog := mkFam (X := List (List Int) × List (List Int)) 76 true (fun (a, b) => [RL a, RL b]) (fun (a, b) => (BigR a)) (fun (a, b) => .bool (decide (a = b))) (by
  rintro ⟨a, b⟩ ha
  exact eqLists_pc a b ha)
@[simp] theorem fm_eqLists_id : fm_eqLists.id = 76 := rfl
@[simp] theorem fm_eqLists_fresh : fm_eqLists.fresh = true := rfl
@[simp] theorem fm_eqLists_look (a b : List (List Int)) (ha : BigR a) : fm_eqLists.look [RL a, RL b] = some (.bool (decide (a = b))) :=
  lookF_of (X := List (List Int) × List (List Int)) (args := fun (a, b) => [RL a, RL b]) (pre := fun (a, b) => (BigR a)) (val := fun (a, b) => .bool (decide (a = b))) (by
  rintro ⟨a, b⟩ ⟨a', b'⟩ h
  simp at h
  try simp only [and_assoc] at h
  obtain ⟨rfl, rfl⟩ := h
  rfl) (a, b) ha
attribute [irreducible] fm_eqLists
theorem drNuc_pc (c : List Int) (hc : Byt c) (hl : Big c.length) : PC Try.prog 74 [BL c] none false (fun r _ => r = AL (saM (rdB c) 0).1.1 (saM (rdB c) 0).1.2) := by
  have hl := hl.le
  have hb := rdB_ok hc
  have l1 := fw_someAlg_look (rdB c) 0 hb (by omega) (by omega)
  refine pcR [] [fw_someAlg] fok_74 ?_
  generalize saM (rdB c) 0 = A at *
  obtain ⟨⟨u, t⟩, p1⟩ := A
  dsimp only at *
  simp [fa_74]
  refine newR hl ?_
  simp [callOWR, l1]
noncomputable def fm_drNuc : Fam Try.prog := mkFam (X := List Int) 74 false (fun c => [BL c]) (fun c => (Byt c) ∧ (Big c.length)) (fun c => AL (saM (rdB c) 0).1.1 (saM (rdB c) 0).1.2) (by
  rintro c ⟨hc, hl⟩
  exact drNuc_pc c hc hl)
@[simp] theorem fm_drNuc_id : fm_drNuc.id = 74 := rfl
@[simp] theorem fm_drNuc_fresh : fm_drNuc.fresh = false := rfl
@[simp] theorem fm_drNuc_look (c : List Int) (hc : Byt c) (hl : Big c.length) : fm_drNuc.look [BL c] = some (AL (saM (rdB c) 0).1.1 (saM (rdB c) 0).1.2) :=
  lookF_of (X := List Int) (args := fun c => [BL c]) (pre := fun c => (Byt c) ∧ (Big c.length)) (val := fun c => AL (saM (rdB c) 0).1.1 (saM (rdB c) 0).1.2) (by
  intro c c' h
  simp at h
  subst h
  rfl) c ⟨hc, hl⟩
attribute [irreducible] fm_drNuc
end Go.PS
end

section
-- The law of nuclei.
set_option maxRecDepth 100000
set_option linter.unusedVariables false
set_option linter.unusedSimpArgs false
namespace Go.PS
open Go.Proofs

set_option maxHeartbeats 2000000 in
theorem FnNucleiOf_pc (c : List Int) (hl : Hu c.length) (hc : Byt c) : PC Try.prog 17 [BL c] none true (fun r _ => r = .bool true) := by
  have hl' := hl.le
  refine pcT [fm_drNuc, fm_nucleiI, fm_nucleiS, fm_eqLists, fm_validAlgebraI, fm_eqInts, fm_IsNucI, fm_holdsL, fm_risingL, fm_TwiceI] fok_17 ?_
  rcases Nat.lt_or_ge 1048576 c.length with q | q
  · simp [fa_17, show ((1048576 : Int) < c.length) by omega]
  · have hbig : Big c.length := by unfold Big; omega
    have l1 := fm_drNuc_look c hc hbig
    obtain ⟨g, _⟩ := saM_few (rdB_ok hc) (p := 0) (by omega)
    have hu := g.big
    have ht := g.bigR
    generalize saM (rdB c) 0 = A at *
    obtain ⟨⟨u, t⟩, p1⟩ := A
    dsimp only at *
    have hul := hu.le
    have hr := nucR_ok (u := u) (t := t)
    simp [fa_17, show ¬ ((1048576 : Int) < c.length) by omega, show ((c.length : Int) ≤ 1048576) by omega, l1, hu, ht]
    refine cutW (tabK_mono _) [(25, .bool (!decide (VA u t)))] (by simp [hu, ht, hr]) ?_
    simp [hu, ht, hr]
    refine fun a => ?_
    have v := a.lat
    have hp := v.pos
    have h6 := v.six
    have eR : nucR u t = nucM u t := by unfold nucR; rw [if_pos a]
    have hN : ∀ {j : List Int}, j ∈ nucR u t ↔ NU u t j := fun {j} => by rw [eR]; exact mem_nuc hp
    have hne : ∀ {i : Nat}, i + 1 < (nucR u t).length → gr (nucR u t) i ≠ gr (nucR u t) (i + 1) := fun {i} h => by rw [eR] at h ⊢; exact nuc_ne hp h
    generalize nucR u t = r at *
    have hrl := hr.1.le
    have w1 : IntKind.i64.wrap ((u.length : Int) - 1) = u.length - 1 := wrap64 (by omega) (by omega)
    refine loopX (tabK_mono _) u.length (fun i γ => [(6, .arr 264 γ), (7, I64 i)]) (fun i γ => [⟨24, 1, .cells [IL u, RL t]⟩, ⟨264, γ, .arr 1 (ints (lst i fun _ => u.length - 1))⟩]) (fun _ _ => True) 2 (by simp) (by simp [lst, ints_nil]) trivial (fun i γ g1 hi _ => ?_)
    simp [lb_17_10, wrap_succ hi hul, w1]
    refine ⟨fun h => ?_, fun h => ?_⟩
    · have hs : lst (i + 1) (fun _ => u.length - 1) = lst i (fun _ => u.length - 1) ++ [(u.length : Int) - 1] := by
        rw [lst_succ, show ((u.length - 1 : Nat) : Int) = u.length - 1 by omega]
      have hle := lst_len (n := i) (f := fun _ => u.length - 1)
      generalize lst i (fun _ => u.length - 1) = l0 at *
      simp [h, w1, wrap_succ hi hul]
      exact ⟨le_big (by omega), hs.symm⟩
    · obtain rfl : i = u.length := by omega
      refine loopA (tabK_mono _) r.length (fun i => [(8, I64 i)]) (fun _ => [⟨24, 1, .cells [IL u, RL t]⟩, ⟨264, γ, .arr 1 (ints (lst u.length fun _ => u.length - 1))⟩]) (fun _ => True) (by simp) (by simp) (fun i g2 hi _ => ?_)
      simp [lb_17_14, wrap_succ hi hrl]
      refine ⟨fun h2 => ?_, fun h2 => ?_⟩
      · have hb := hr.row h2
        have hm : NU u t (gr r i) := hN.1 (by rw [gr, List.getElem?_eq_getElem h2]; exact List.getElem_mem h2)
        refine cutWc (tabK_mono _) [(72, .bool false)] (by
          rcases i with _ | i
          · simp [h2, hb, hu, ht, a, hm]
          · have hb0 := hr.row (show i < r.length by omega)
            have hd := hne h2
            simp [h2, hb, hb0, hu, ht, a, hm, hd, wrap64 (n := (i : Int)) (by omega) (by omega), show (i : Int) < r.length by omega, show (i : Int) + 1 < r.length by omega, show 0 ≤ (i : Int) + 1 by omega]) ?_
        simp [wrap_succ hi hrl, h2]
      · have e1 : (lst u.length fun x => x) ∈ r := hN.2 (nu_id a)
        have e2 : (lst u.length fun _ => u.length - 1) ∈ r := hN.2 (nu_top a)
        have e3 : (lst u.length fun x => im u t (im u t x 0) 0) ∈ r := hN.2 (nu_nn a)
        have l2 := fm_TwiceI_look u t hu ht
        have l3 := fm_risingL_look u.length (by omega) (by simpa using hu)
        have k1 := fm_holdsL_look r (lst u.length fun x => x) hr
        have k2 := fm_holdsL_look r (lst u.length fun _ => u.length - 1) hr
        have k3 := fm_holdsL_look r (lst u.length fun x => im u t (im u t x 0) 0) hr
        rw [if_pos a] at l2
        rw [Int.toNat_natCast] at l3
        rw [decide_eq_true e1] at k1
        rw [decide_eq_true e2] at k2
        rw [decide_eq_true e3] at k3
        generalize (lst u.length fun x => x) = q1 at *
        generalize (lst u.length fun _ => u.length - 1) = q2 at *
        generalize (lst u.length fun x => im u t (im u t x 0) 0) = q3 at *
        simp [gops, l2, l3, k1, k2, k3]
end Go.PS
end
