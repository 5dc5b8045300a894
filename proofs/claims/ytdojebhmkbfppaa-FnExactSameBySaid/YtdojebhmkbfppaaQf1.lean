/- Part 1 of what the last text proves: The program's SameBy returns what the reference's returns, for all arguments. -/
import Derived.Test.YtdojebhmkbfppaaQe1
section
-- PRINTED by gen.py: clean texts of functions, and their tie to the program.
set_option maxRecDepth 100000
namespace Go.PS
open Go.Proofs
/-- spec.imageOf -/
def an_104 : Ann := ⟨[(5, 5, 3)], [(0, [0]), (1, [0, 3]), (2, [0, 3, 4]), (3, [0, 3, 4, 8]), (5, [0, 3, 4]), (4, [0, 3, 4]), (6, [2])], [(3, [0, 3, 4], [])], []⟩
def lb_104_3 : AC :=
  (.seq
    (.seq
      (.region false [⟨some 5, (.mv (.t 4)), 3, none, 0⟩, ⟨some 6, (.mv (.t 0)), 22, none, 0⟩, ⟨some 7, (.len 22 (.t 6)), 3, none, 0⟩, ⟨some 8, (.bin .lss 3 (.t 5) (.t 7)), 4, none, 0⟩] (some [0, 3, 4, 8]))
      (.cond (.t 8)
        .skip
        (.exit 0)))
    (.seq
      (.block 1
        (.region false [⟨some 11, (.mv (.t 3)), 3, none, 0⟩, ⟨some 12, (.mv (.t 0)), 22, none, 0⟩, ⟨some 13, (.mv (.t 4)), 3, none, 0⟩, ⟨some 14, (.iaddr 22 (.t 12) (.t 13)), 0, none, 0⟩, ⟨some 15, (.load 3 (.t 14)), 3, none, 0⟩, ⟨some 16, (.call (.f 105) [(.t 15)]), 3, none, 3⟩, ⟨some 17, (.bin .or 3 (.t 11) (.t 16)), 3, none, 0⟩, ⟨some 3, (.mv (.t 17)), 3, none, 0⟩] (some [0, 3, 4])))
      (.region false [⟨some 9, (.mv (.t 4)), 3, none, 0⟩, ⟨some 10, (.bin .add 3 (.t 9) (.c (.int .i64 1))), 3, none, 0⟩, ⟨some 4, (.mv (.t 10)), 3, none, 0⟩] (some [0, 3, 4]))))
def fa_104 : FnA := ⟨19, [.t 2],
  (.seq
    (.region false [⟨some 2, (.mv (.c (.int .i64 0))), 3, none, 0⟩] (some [0]))
    (.seq
      (.region false [⟨some 3, (.mv (.c (.int .i64 0))), 3, none, 0⟩] (some [0, 3]))
      (.seq
        (.seq
          (.region false [⟨some 4, (.mv (.c (.int .i64 0))), 3, none, 0⟩] (some [0, 3, 4]))
          (.block 0
            (.loop [0, 3, 4] [] lb_104_3)))
        (.seq
          (.region false [⟨some 18, (.mv (.t 3)), 3, none, 0⟩, ⟨some 2, (.mv (.t 18)), 3, none, 0⟩] (some [2]))
          .ret))))⟩
theorem fok_104 : FnOk Try.prog 104 fa_104 an_104 := ⟨Try.f104, _, Try.func104, rfl, by kernel_rfl, rfl, rfl, by decide, by kernel_rfl⟩
/-- spec.SameBy -/
def an_48 : Ann := ⟨[(1, 1, 3), (1, 5, 3), (3, 3, 3), (7, 4, 3), (7, 8, 3)], [(0, [2, 3]), (1, [2, 3, 24]), (2, [4, 5]), (3, [3, 6]), (4, [3, 6, 7]), (5, [3, 6, 7, 32]), (7, [3, 6, 7, 45]), (8, [4, 5]), (6, [3, 6, 7]), (9, [4, 5])], [(5, [3, 6, 7], [])], []⟩
def lb_48_5 : AC :=
  (.seq
    (.seq
      (.region false [⟨some 29, (.mv (.t 7)), 3, none, 0⟩, ⟨some 30, (.mv (.t 6)), 23, none, 0⟩, ⟨some 31, (.len 23 (.t 30)), 3, none, 0⟩, ⟨some 32, (.bin .lss 3 (.t 29) (.t 31)), 4, none, 0⟩] (some [3, 6, 7, 32]))
      (.cond (.t 32)
        .skip
        (.exit 0)))
    (.seq
      (.block 1
        (.seq
          (.region true [⟨some 35, (.mv (.t 6)), 23, none, 0⟩, ⟨some 36, (.mv (.t 7)), 3, none, 0⟩, ⟨some 37, (.iaddr 23 (.t 35) (.t 36)), 0, none, 0⟩, ⟨some 38, (.load 22 (.t 37)), 22, none, 0⟩, ⟨some 39, (.call (.f 104) [(.t 38)]), 3, none, 3⟩, ⟨some 40, (.faddr 28 (.t 3) 0), 0, none, 0⟩, ⟨some 41, (.load 22 (.t 40)), 22, none, 0⟩, ⟨some 42, (.len 22 (.t 41)), 3, none, 0⟩, ⟨some 43, (.call (.f 105) [(.t 42)]), 3, none, 3⟩, ⟨some 44, (.bin .sub 3 (.t 43) (.c (.int .i64 1))), 3, none, 0⟩, ⟨some 45, (.bin .eql 3 (.t 39) (.t 44)), 4, none, 0⟩] (some [3, 6, 7, 45]))
          (.cond (.t 45)
            (.seq
              (.region false [⟨some 46, (.mv (.t 6)), 23, none, 0⟩, ⟨some 47, (.mv (.t 7)), 3, none, 0⟩, ⟨some 48, (.iaddr 23 (.t 46) (.t 47)), 0, none, 0⟩, ⟨some 49, (.load 22 (.t 48)), 22, none, 0⟩, ⟨some 4, (.mv (.t 49)), 22, none, 0⟩, ⟨some 5, (.mv (.c (.bool true))), 4, none, 0⟩] (some [4, 5]))
              .ret)
            .skip)))
      (.region false [⟨some 33, (.mv (.t 7)), 3, none, 0⟩, ⟨some 34, (.bin .add 3 (.t 33) (.c (.int .i64 1))), 3, none, 0⟩, ⟨some 7, (.mv (.t 34)), 3, none, 0⟩] (some [3, 6, 7]))))
def fa_48 : FnA := ⟨50, [.t 4, .t 5],
  (.seq
    (.region false [⟨some 2, (.box 28 (.t 0)), 0, none, 0⟩, ⟨some 3, (.box 28 (.t 1)), 0, none, 0⟩, ⟨some 4, (.mv (.c .nil)), 22, none, 0⟩, ⟨some 5, (.mv (.c (.bool false))), 4, none, 0⟩] (some [2, 3]))
    (.seq
      (.seq
        (.region false (gops [⟨some 8, (.load 28 (.t 2)), 28, none, 0⟩, ⟨some 9, (.call (.f 62) [(.t 8)]), 4, none, 3⟩, ⟨some 10, (.un .not (.t 9)), 4, none, 0⟩, ⟨some 11, (.mv (.t 10)), 4, none, 0⟩, ⟨some 12, (.load 28 (.t 3)), 28, some (11, false), 0⟩, ⟨some 13, (.call (.f 62) [(.t 12)]), 4, some (11, false), 3⟩, ⟨some 14, (.un .not (.t 13)), 4, some (11, false), 0⟩, ⟨some 15, (.pick (.t 11) (.c (.bool true)) (.t 14)), 4, none, 0⟩, ⟨some 16, (.mv (.t 15)), 4, none, 0⟩, ⟨some 17, (.faddr 28 (.t 2) 0), 0, some (16, false), 0⟩, ⟨some 18, (.load 22 (.t 17)), 22, some (16, false), 0⟩, ⟨some 19, (.len 22 (.t 18)), 3, some (16, false), 0⟩, ⟨some 20, (.faddr 28 (.t 3) 0), 0, some (16, false), 0⟩, ⟨some 21, (.load 22 (.t 20)), 22, some (16, false), 0⟩, ⟨some 22, (.len 22 (.t 21)), 3, some (16, false), 0⟩, ⟨some 23, (.bin .neq 3 (.t 19) (.t 22)), 4, some (16, false), 0⟩, ⟨some 24, (.pick (.t 16) (.c (.bool true)) (.t 23)), 4, none, 0⟩]) (some [2, 3, 24]))
        (.cond (.t 24)
          (.seq
            (.region false [⟨some 4, (.mv (.c .nil)), 22, none, 0⟩, ⟨some 5, (.mv (.c (.bool false))), 4, none, 0⟩] (some [4, 5]))
            .ret)
          .skip))
      (.seq
        (.region false [⟨some 25, (.load 28 (.t 2)), 28, none, 0⟩, ⟨some 26, (.load 28 (.t 3)), 28, none, 0⟩, ⟨some 27, (.bslice 22 0 []), 22, none, 0⟩, ⟨some 28, (.call (.f 99) [(.t 25), (.t 26), (.t 27)]), 23, none, 3⟩, ⟨some 6, (.mv (.t 28)), 23, none, 0⟩] (some [3, 6]))
        (.seq
          (.seq
            (.region false [⟨some 7, (.mv (.c (.int .i64 0))), 3, none, 0⟩] (some [3, 6, 7]))
            (.block 0
              (.loop [3, 6, 7] [] lb_48_5)))
          (.seq
            (.region false [⟨some 4, (.mv (.c .nil)), 22, none, 0⟩, ⟨some 5, (.mv (.c (.bool false))), 4, none, 0⟩] (some [4, 5]))
            .ret)))))⟩
theorem fok_48 : FnOk Try.prog 48 fa_48 an_48 := ⟨Try.f48, _, Try.func48, rfl, by kernel_rfl, rfl, rfl, by decide, by kernel_rfl⟩
/-- impl.image -/
def an_106 : Ann := ⟨[], [(0, [0]), (1, [0, 3]), (2, [3, 6, 7, 8]), (3, [3, 6, 7, 8, 9]), (4, [3, 5, 6, 7, 8]), (5, [3, 6, 7, 8]), (6, [3, 6, 7, 8]), (7, [2])], [(3, [3, 6, 7, 8], [])], []⟩
def lb_106_3 : AC :=
  (.seq
    (.region false [⟨some 9, (.bin .lss 3 (.t 8) (.t 7)), 0, none, 0⟩] (some [3, 6, 7, 8, 9]))
    (.seq
      (.cond (.t 9)
        .skip
        (.exit 0))
      (.seq
        (.block 1
          (.seq
            (.region false [⟨some 10, (.iaddr 22 (.t 6) (.t 8)), 0, none, 0⟩, ⟨some 11, (.load 3 (.t 10)), 3, none, 0⟩, ⟨some 5, (.mv (.t 11)), 3, none, 0⟩] (some [3, 5, 6, 7, 8]))
            (.region false [⟨some 12, (.mv (.t 3)), 3, none, 0⟩, ⟨some 13, (.mv (.t 5)), 3, none, 0⟩, ⟨some 14, (.bin .shl 3 (.c (.int .i64 1)) (.t 13)), 3, none, 0⟩, ⟨some 15, (.bin .or 3 (.t 12) (.t 14)), 3, none, 0⟩, ⟨some 3, (.mv (.t 15)), 3, none, 0⟩] (some [3, 6, 7, 8]))))
        (.region false [⟨some 16, (.bin .add 3 (.t 8) (.c (.int .i64 1))), 3, none, 0⟩, ⟨some 8, (.mv (.t 16)), 3, none, 0⟩] (some [3, 6, 7, 8])))))
def fa_106 : FnA := ⟨18, [.t 2],
  (.seq
    (.region false [⟨some 2, (.mv (.c (.int .i64 0))), 3, none, 0⟩] (some [0]))
    (.seq
      (.region false [⟨some 3, (.mv (.c (.int .i64 0))), 3, none, 0⟩] (some [0, 3]))
      (.seq
        (.seq
          (.region false [⟨some 6, (.mv (.t 0)), 22, none, 0⟩, ⟨some 7, (.len 22 (.t 6)), 3, none, 0⟩, ⟨some 8, (.mv (.c (.int .i64 0))), 3, none, 0⟩] (some [3, 6, 7, 8]))
          (.block 0
            (.loop [3, 6, 7, 8] [] lb_106_3)))
        (.seq
          (.region false [⟨some 17, (.mv (.t 3)), 3, none, 0⟩, ⟨some 2, (.mv (.t 17)), 3, none, 0⟩] (some [2]))
          .ret))))⟩
theorem fok_106 : FnOk Try.prog 106 fa_106 an_106 := ⟨Try.f106, _, Try.func106, rfl, by kernel_rfl, rfl, rfl, by decide, by kernel_rfl⟩
/-- impl.SameBy -/
def an_49 : Ann := ⟨[(1, 1, 3), (1, 5, 3), (3, 2, 1), (5, 1, 1), (6, 1, 3)], [(0, [2, 3]), (1, [2, 3, 24]), (2, [4, 5]), (3, [3, 27, 28, 29]), (4, [3, 27, 28, 29, 30]), (5, [3, 7, 27, 28, 29]), (6, [3, 7, 27, 28, 29, 40]), (7, [4, 5]), (8, [3, 27, 28, 29]), (9, [4, 5])], [(4, [3, 27, 28, 29], [216, 217, 218, 219, 220, 221, 222, 223])], []⟩
def lb_49_4 : AC :=
  (.seq
    (.region false [⟨some 30, (.bin .lss 3 (.t 29) (.t 28)), 0, none, 0⟩] (some [3, 27, 28, 29, 30]))
    (.seq
      (.cond (.t 30)
        .skip
        (.exit 0))
      (.seq
        (.block 1
          (.seq
            (.region false [⟨some 31, (.iaddr 23 (.t 27) (.t 29)), 0, none, 0⟩, ⟨some 32, (.load 22 (.t 31)), 22, none, 1⟩, ⟨some 7, (.mv (.t 32)), 22, none, 0⟩] (some [3, 7, 27, 28, 29]))
            (.seq
              (.region true [⟨some 33, (.mv (.t 7)), 22, none, 0⟩, ⟨some 34, (.call (.f 106) [(.t 33)]), 3, none, 3⟩, ⟨some 35, (.faddr 28 (.t 3) 0), 0, none, 0⟩, ⟨some 36, (.load 22 (.t 35)), 22, none, 0⟩, ⟨some 37, (.len 22 (.t 36)), 3, none, 0⟩, ⟨some 38, (.bin .shl 3 (.c (.int .i64 1)) (.t 37)), 3, none, 0⟩, ⟨some 39, (.bin .sub 3 (.t 38) (.c (.int .i64 1))), 3, none, 0⟩, ⟨some 40, (.bin .eql 3 (.t 34) (.t 39)), 4, none, 0⟩] (some [3, 7, 27, 28, 29, 40]))
              (.cond (.t 40)
                (.seq
                  (.region false [⟨some 41, (.mv (.t 7)), 22, none, 0⟩, ⟨some 4, (.mv (.t 41)), 22, none, 0⟩, ⟨some 5, (.mv (.c (.bool true))), 4, none, 0⟩] (some [4, 5]))
                  .ret)
                .skip))))
        (.region false [⟨some 42, (.bin .add 3 (.t 29) (.c (.int .i64 1))), 3, none, 0⟩, ⟨some 29, (.mv (.t 42)), 3, none, 0⟩] (some [3, 27, 28, 29])))))
def fa_49 : FnA := ⟨43, [.t 4, .t 5],
  (.seq
    (.region false [⟨some 2, (.box 28 (.t 0)), 0, none, 0⟩, ⟨some 3, (.box 28 (.t 1)), 0, none, 0⟩, ⟨some 4, (.mv (.c .nil)), 22, none, 0⟩, ⟨some 5, (.mv (.c (.bool false))), 4, none, 0⟩] (some [2, 3]))
    (.seq
      (.seq
        (.region false (gops [⟨some 8, (.load 28 (.t 2)), 28, none, 0⟩, ⟨some 9, (.call (.f 72) [(.t 8)]), 4, none, 3⟩, ⟨some 10, (.un .not (.t 9)), 4, none, 0⟩, ⟨some 11, (.mv (.t 10)), 4, none, 0⟩, ⟨some 12, (.load 28 (.t 3)), 28, some (11, false), 0⟩, ⟨some 13, (.call (.f 72) [(.t 12)]), 4, some (11, false), 3⟩, ⟨some 14, (.un .not (.t 13)), 4, some (11, false), 0⟩, ⟨some 15, (.pick (.t 11) (.c (.bool true)) (.t 14)), 4, none, 0⟩, ⟨some 16, (.mv (.t 15)), 4, none, 0⟩, ⟨some 17, (.faddr 28 (.t 2) 0), 0, some (16, false), 0⟩, ⟨some 18, (.load 22 (.t 17)), 22, some (16, false), 0⟩, ⟨some 19, (.len 22 (.t 18)), 3, some (16, false), 0⟩, ⟨some 20, (.faddr 28 (.t 3) 0), 0, some (16, false), 0⟩, ⟨some 21, (.load 22 (.t 20)), 22, some (16, false), 0⟩, ⟨some 22, (.len 22 (.t 21)), 3, some (16, false), 0⟩, ⟨some 23, (.bin .neq 3 (.t 19) (.t 22)), 4, some (16, false), 0⟩, ⟨some 24, (.pick (.t 16) (.c (.bool true)) (.t 23)), 4, none, 0⟩]) (some [2, 3, 24]))
        (.cond (.t 24)
          (.seq
            (.region false [⟨some 4, (.mv (.c .nil)), 22, none, 0⟩, ⟨some 5, (.mv (.c (.bool false))), 4, none, 0⟩] (some [4, 5]))
            .ret)
          .skip))
      (.seq
        (.seq
          (.region false [⟨some 25, (.load 28 (.t 2)), 28, none, 0⟩, ⟨some 26, (.load 28 (.t 3)), 28, none, 0⟩, ⟨some 27, (.call (.f 100) [(.t 25), (.t 26)]), 23, none, 1⟩, ⟨some 28, (.len 23 (.t 27)), 3, none, 0⟩, ⟨some 29, (.mv (.c (.int .i64 0))), 3, none, 0⟩] (some [3, 27, 28, 29]))
          (.block 0
            (.loop [3, 27, 28, 29] [216, 217, 218, 219, 220, 221, 222, 223] lb_49_4)))
        (.seq
          (.region false [⟨some 4, (.mv (.c .nil)), 22, none, 0⟩, ⟨some 5, (.mv (.c (.bool false))), 4, none, 0⟩] (some [4, 5]))
          .ret))))⟩
theorem fok_49 : FnOk Try.prog 49 fa_49 an_49 := ⟨Try.f49, _, Try.func49, rfl, by kernel_rfl, rfl, rfl, by decide, by kernel_rfl⟩
/-- laws.FnExactSameBy -/
def an_11 : Ann := ⟨[(2, 2, 3), (5, 2, 3), (8, 1, 3), (8, 3, 3), (8, 4, 3), (9, 1, 1), (10, 1, 1), (11, 2, 1), (12, 2, 3), (14, 2, 3), (14, 3, 3), (16, 2, 3), (16, 3, 3), (19, 2, 16), (20, 2, 16), (21, 5, 3), (24, 2, 16), (26, 2, 3), (31, 1, 3), (31, 3, 3), (31, 4, 3), (32, 2, 3), (35, 2, 3)], [(0, [2, 3]), (1, [2, 3, 5]), (2, [2, 3, 5]), (3, [2, 3, 5, 21]), (4, [4]), (5, [2, 3, 5]), (6, [2, 3, 26]), (7, [4]), (8, [2, 3, 6, 7]), (9, [2, 3, 6, 7, 8]), (10, [2, 3, 6, 7, 8, 9]), (11, [2, 3, 6, 7, 8, 9, 10, 11]), (12, [2, 3, 6, 7, 8, 9, 10, 11, 53]), (13, [4]), (14, [2, 3, 6, 7, 8, 9, 10, 11, 58]), (15, [4]), (16, [2, 3, 6, 7, 8, 9, 10, 11, 63]), (17, [4]), (18, [2, 3, 6, 7, 8, 9, 10, 11, 12]), (19, [2, 3, 6, 7, 9, 10, 11, 12]), (20, [2, 3, 6, 7, 10, 11, 12]), (21, [2, 3, 6, 7, 10, 82]), (22, [4]), (23, [2, 3, 6, 7, 10, 13]), (24, [2, 3, 6, 7, 10, 13]), (25, [2, 3, 6, 7, 10, 13, 14]), (26, [2, 3, 6, 7, 10, 13, 14]), (27, [2, 3, 6, 7, 10, 13, 14, 90]), (28, [4]), (29, [2, 3, 6, 7, 10, 13, 93]), (30, [4]), (31, [6, 7, 10, 13, 15, 16]), (32, [10, 13, 110]), (33, [4]), (34, [10, 13, 14]), (35, [13, 14]), (36, [13, 14, 115]), (37, [4]), (38, [118]), (39, [4]), (40, [4])], [], []⟩
def fa_11 : FnA := ⟨119, [.t 4],
  (.seq
    (.region false [⟨some 2, (.box 25 (.t 0)), 0, none, 0⟩, ⟨some 3, (.box 25 (.t 1)), 0, none, 0⟩, ⟨some 4, (.mv (.c (.bool false))), 4, none, 0⟩] (some [2, 3]))
    (.seq
      (.region false [⟨some 5, (.mv (.c (.int .i64 1048576))), 3, none, 0⟩] (some [2, 3, 5]))
      (.seq
        (.region false [⟨some 17, (.load 25 (.t 2)), 25, none, 0⟩, ⟨some 18, (.mv (.t 5)), 3, none, 0⟩, ⟨some 19, (.call (.f 17) [(.t 17), (.t 18)]), 3, none, 3⟩, ⟨some 5, (.mv (.t 19)), 3, none, 0⟩] (some [2, 3, 5]))
        (.seq
          (.seq
            (.region false [⟨some 20, (.mv (.t 5)), 3, none, 0⟩, ⟨some 21, (.bin .lss 3 (.t 20) (.c (.int .i64 0))), 4, none, 0⟩] (some [2, 3, 5, 21]))
            (.cond (.t 21)
              (.seq
                (.region false [⟨some 4, (.mv (.c (.bool true))), 4, none, 0⟩] (some [4]))
                .ret)
              .skip))
          (.seq
            (.region false [⟨some 22, (.load 25 (.t 3)), 25, none, 0⟩, ⟨some 23, (.mv (.t 5)), 3, none, 0⟩, ⟨some 24, (.call (.f 17) [(.t 22), (.t 23)]), 3, none, 3⟩, ⟨some 5, (.mv (.t 24)), 3, none, 0⟩] (some [2, 3, 5]))
            (.seq
              (.seq
                (.region false [⟨some 25, (.mv (.t 5)), 3, none, 0⟩, ⟨some 26, (.bin .lss 3 (.t 25) (.c (.int .i64 0))), 4, none, 0⟩] (some [2, 3, 26]))
                (.cond (.t 26)
                  (.seq
                    (.region false [⟨some 4, (.mv (.c (.bool true))), 4, none, 0⟩] (some [4]))
                    .ret)
                  .skip))
              (.seq
                (.region true [⟨some 28, (.load 25 (.t 2)), 25, none, 0⟩, ⟨some 29, (.call (.f 19) [(.t 28)]), 28, none, 3⟩, ⟨some 30, (.load 25 (.t 3)), 25, none, 0⟩, ⟨some 31, (.call (.f 19) [(.t 30)]), 28, none, 3⟩, ⟨some 32, (.call (.f 48) [(.t 29), (.t 31)]), 54, none, 3⟩, ⟨some 27, (.mv (.t 32)), 54, none, 0⟩, ⟨some 33, (.ext (.t 27) 0), 22, none, 0⟩, ⟨some 34, (.ext (.t 27) 1), 4, none, 0⟩, ⟨some 6, (.mv (.t 33)), 22, none, 0⟩, ⟨some 7, (.mv (.t 34)), 4, none, 0⟩] (some [2, 3, 6, 7]))
                (.seq
                  (.region false [⟨some 35, (.load 25 (.t 2)), 25, none, 0⟩, ⟨some 36, (.call (.f 19) [(.t 35)]), 28, none, 1⟩, ⟨some 8, (.alloc 28), 0, none, 0⟩, ⟨none, (.store 28 (.t 8) (.t 36)), 0, none, 0⟩] (some [2, 3, 6, 7, 8]))
                  (.seq
                    (.region false [⟨some 37, (.load 25 (.t 3)), 25, none, 0⟩, ⟨some 38, (.call (.f 19) [(.t 37)]), 28, none, 1⟩, ⟨some 9, (.alloc 28), 0, none, 0⟩, ⟨none, (.store 28 (.t 9) (.t 38)), 0, none, 0⟩] (some [2, 3, 6, 7, 8, 9]))
                    (.seq
                      (.region false [⟨some 40, (.load 28 (.t 8)), 28, none, 0⟩, ⟨some 41, (.load 28 (.t 9)), 28, none, 0⟩, ⟨some 42, (.call (.f 49) [(.t 40), (.t 41)]), 54, none, 1⟩, ⟨some 39, (.mv (.t 42)), 54, none, 0⟩, ⟨some 43, (.ext (.t 39) 0), 22, none, 0⟩, ⟨some 44, (.ext (.t 39) 1), 4, none, 0⟩, ⟨some 10, (.mv (.t 43)), 22, none, 0⟩, ⟨some 11, (.mv (.t 44)), 4, none, 0⟩] (some [2, 3, 6, 7, 8, 9, 10, 11]))
                      (.seq
                        (.seq
                          (.region false (gops [⟨some 45, (.mv (.t 10)), 22, none, 0⟩, ⟨some 46, (.mv (.t 6)), 22, none, 0⟩, ⟨some 47, (.call (.f 23) [(.t 45), (.t 46)]), 4, none, 3⟩, ⟨some 48, (.un .not (.t 47)), 4, none, 0⟩, ⟨some 49, (.mv (.t 48)), 4, none, 0⟩, ⟨some 50, (.mv (.t 11)), 4, some (49, false), 0⟩, ⟨some 51, (.mv (.t 7)), 4, some (49, false), 0⟩, ⟨some 52, (.bin .neq 4 (.t 50) (.t 51)), 4, some (49, false), 0⟩, ⟨some 53, (.pick (.t 49) (.c (.bool true)) (.t 52)), 4, none, 0⟩]) (some [2, 3, 6, 7, 8, 9, 10, 11, 53]))
                          (.cond (.t 53)
                            (.seq
                              (.region false [⟨some 4, (.mv (.c (.bool false))), 4, none, 0⟩] (some [4]))
                              .ret)
                            .skip))
                        (.seq
                          (.seq
                            (.region true [⟨some 54, (.load 28 (.t 8)), 28, none, 0⟩, ⟨some 55, (.load 25 (.t 2)), 25, none, 0⟩, ⟨some 56, (.call (.f 19) [(.t 55)]), 28, none, 3⟩, ⟨some 57, (.call (.f 22) [(.t 54), (.t 56)]), 4, none, 3⟩, ⟨some 58, (.un .not (.t 57)), 4, none, 0⟩] (some [2, 3, 6, 7, 8, 9, 10, 11, 58]))
                            (.cond (.t 58)
                              (.seq
                                (.region false [⟨some 4, (.mv (.c (.bool false))), 4, none, 0⟩] (some [4]))
                                .ret)
                              .skip))
                          (.seq
                            (.seq
                              (.region true [⟨some 59, (.load 28 (.t 9)), 28, none, 0⟩, ⟨some 60, (.load 25 (.t 3)), 25, none, 0⟩, ⟨some 61, (.call (.f 19) [(.t 60)]), 28, none, 3⟩, ⟨some 62, (.call (.f 22) [(.t 59), (.t 61)]), 4, none, 3⟩, ⟨some 63, (.un .not (.t 62)), 4, none, 0⟩] (some [2, 3, 6, 7, 8, 9, 10, 11, 63]))
                              (.cond (.t 63)
                                (.seq
                                  (.region false [⟨some 4, (.mv (.c (.bool false))), 4, none, 0⟩] (some [4]))
                                  .ret)
                                .skip))
                            (.seq
                              (.region false [⟨some 12, (.mv (.c (.int .i64 1))), 3, none, 0⟩] (some [2, 3, 6, 7, 8, 9, 10, 11, 12]))
                              (.seq
                                (.region false [⟨some 64, (.load 28 (.t 8)), 28, none, 0⟩, ⟨some 65, (.mv (.t 12)), 3, none, 0⟩, ⟨some 66, (.call (.f 26) [(.t 64), (.t 65)]), 3, none, 16⟩, ⟨some 12, (.mv (.t 66)), 3, none, 0⟩] (some [2, 3, 6, 7, 9, 10, 11, 12]))
                                (.seq
                                  (.region false [⟨some 67, (.load 28 (.t 9)), 28, none, 0⟩, ⟨some 68, (.mv (.t 12)), 3, none, 0⟩, ⟨some 69, (.call (.f 26) [(.t 67), (.t 68)]), 3, none, 16⟩, ⟨some 12, (.mv (.t 69)), 3, none, 0⟩] (some [2, 3, 6, 7, 10, 11, 12]))
                                  (.seq
                                    (.seq
                                      (.region false (gops [⟨some 70, (.mv (.t 12)), 3, none, 0⟩, ⟨some 71, (.bin .lss 3 (.t 70) (.c (.int .i64 0))), 4, none, 0⟩, ⟨some 72, (.mv (.t 71)), 4, none, 0⟩, ⟨some 73, (.mv (.t 10)), 22, some (72, false), 0⟩, ⟨some 74, (.mv (.t 6)), 22, some (72, false), 0⟩, ⟨some 75, (.call (.f 23) [(.t 73), (.t 74)]), 4, some (72, false), 3⟩, ⟨some 76, (.un .not (.t 75)), 4, some (72, false), 0⟩, ⟨some 77, (.pick (.t 72) (.c (.bool true)) (.t 76)), 4, none, 0⟩, ⟨some 78, (.mv (.t 77)), 4, none, 0⟩, ⟨some 79, (.mv (.t 11)), 4, some (78, false), 0⟩, ⟨some 80, (.mv (.t 7)), 4, some (78, false), 0⟩, ⟨some 81, (.bin .neq 4 (.t 79) (.t 80)), 4, some (78, false), 0⟩, ⟨some 82, (.pick (.t 78) (.c (.bool true)) (.t 81)), 4, none, 0⟩]) (some [2, 3, 6, 7, 10, 82]))
                                      (.cond (.t 82)
                                        (.seq
                                          (.region false [⟨some 4, (.mv (.c (.bool false))), 4, none, 0⟩] (some [4]))
                                          .ret)
                                        .skip))
                                    (.seq
                                      (.region false [⟨some 13, (.mv (.c (.int .i64 1))), 3, none, 0⟩] (some [2, 3, 6, 7, 10, 13]))
                                      (.seq
                                        (.region false [⟨some 83, (.mv (.t 10)), 22, none, 0⟩, ⟨some 84, (.mv (.t 13)), 3, none, 0⟩, ⟨some 85, (.call (.f 27) [(.t 83), (.t 84)]), 3, none, 16⟩, ⟨some 13, (.mv (.t 85)), 3, none, 0⟩] (some [2, 3, 6, 7, 10, 13]))
                                        (.seq
                                          (.region false [⟨some 14, (.mv (.c (.int .i64 1))), 3, none, 0⟩] (some [2, 3, 6, 7, 10, 13, 14]))
                                          (.seq
                                            (.region false [⟨some 86, (.mv (.t 10)), 22, none, 0⟩, ⟨some 87, (.mv (.t 14)), 3, none, 0⟩, ⟨some 88, (.call (.f 28) [(.t 86), (.t 87)]), 3, none, 3⟩, ⟨some 14, (.mv (.t 88)), 3, none, 0⟩] (some [2, 3, 6, 7, 10, 13, 14]))
                                            (.seq
                                              (.seq
                                                (.region false [⟨some 89, (.mv (.t 14)), 3, none, 0⟩, ⟨some 90, (.bin .lss 3 (.t 89) (.c (.int .i64 0))), 4, none, 0⟩] (some [2, 3, 6, 7, 10, 13, 14, 90]))
                                                (.cond (.t 90)
                                                  (.seq
                                                    (.region false [⟨some 4, (.mv (.c (.bool false))), 4, none, 0⟩] (some [4]))
                                                    .ret)
                                                  .skip))
                                              (.seq
                                                (.seq
                                                  (.region false [⟨some 91, (.mv (.t 14)), 3, none, 0⟩, ⟨some 92, (.mv (.t 13)), 3, none, 0⟩, ⟨some 93, (.bin .neq 3 (.t 91) (.t 92)), 4, none, 0⟩] (some [2, 3, 6, 7, 10, 13, 93]))
                                                  (.cond (.t 93)
                                                    (.seq
                                                      (.region false [⟨some 4, (.mv (.c (.bool false))), 4, none, 0⟩] (some [4]))
                                                      .ret)
                                                    .skip))
                                                (.seq
                                                  (.region true [⟨some 95, (.load 25 (.t 2)), 25, none, 0⟩, ⟨some 96, (.call (.f 19) [(.t 95)]), 28, none, 3⟩, ⟨some 97, (.load 25 (.t 3)), 25, none, 0⟩, ⟨some 98, (.call (.f 19) [(.t 97)]), 28, none, 3⟩, ⟨some 99, (.call (.f 49) [(.t 96), (.t 98)]), 54, none, 3⟩, ⟨some 94, (.mv (.t 99)), 54, none, 0⟩, ⟨some 100, (.ext (.t 94) 0), 22, none, 0⟩, ⟨some 101, (.ext (.t 94) 1), 4, none, 0⟩, ⟨some 15, (.mv (.t 100)), 22, none, 0⟩, ⟨some 16, (.mv (.t 101)), 4, none, 0⟩] (some [6, 7, 10, 13, 15, 16]))
                                                  (.seq
                                                    (.seq
                                                      (.region false (gops [⟨some 102, (.mv (.t 15)), 22, none, 0⟩, ⟨some 103, (.mv (.t 6)), 22, none, 0⟩, ⟨some 104, (.call (.f 23) [(.t 102), (.t 103)]), 4, none, 3⟩, ⟨some 105, (.un .not (.t 104)), 4, none, 0⟩, ⟨some 106, (.mv (.t 105)), 4, none, 0⟩, ⟨some 107, (.mv (.t 16)), 4, some (106, false), 0⟩, ⟨some 108, (.mv (.t 7)), 4, some (106, false), 0⟩, ⟨some 109, (.bin .neq 4 (.t 107) (.t 108)), 4, some (106, false), 0⟩, ⟨some 110, (.pick (.t 106) (.c (.bool true)) (.t 109)), 4, none, 0⟩]) (some [10, 13, 110]))
                                                      (.cond (.t 110)
                                                        (.seq
                                                          (.region false [⟨some 4, (.mv (.c (.bool false))), 4, none, 0⟩] (some [4]))
                                                          .ret)
                                                        .skip))
                                                    (.seq
                                                      (.region false [⟨some 14, (.mv (.c (.int .i64 1))), 3, none, 0⟩] (some [10, 13, 14]))
                                                      (.seq
                                                        (.region false [⟨some 111, (.mv (.t 10)), 22, none, 0⟩, ⟨some 112, (.mv (.t 14)), 3, none, 0⟩, ⟨some 113, (.call (.f 28) [(.t 111), (.t 112)]), 3, none, 3⟩, ⟨some 14, (.mv (.t 113)), 3, none, 0⟩] (some [13, 14]))
                                                        (.seq
                                                          (.seq
                                                            (.region false [⟨some 114, (.mv (.t 14)), 3, none, 0⟩, ⟨some 115, (.bin .lss 3 (.t 114) (.c (.int .i64 0))), 4, none, 0⟩] (some [13, 14, 115]))
                                                            (.cond (.t 115)
                                                              (.seq
                                                                (.region false [⟨some 4, (.mv (.c (.bool false))), 4, none, 0⟩] (some [4]))
                                                                .ret)
                                                              .skip))
                                                          (.seq
                                                            (.seq
                                                              (.region false [⟨some 116, (.mv (.t 14)), 3, none, 0⟩, ⟨some 117, (.mv (.t 13)), 3, none, 0⟩, ⟨some 118, (.bin .neq 3 (.t 116) (.t 117)), 4, none, 0⟩] (some [118]))
                                                              (.cond (.t 118)
                                                                (.seq
                                                                  (.region false [⟨some 4, (.mv (.c (.bool false))), 4, none, 0⟩] (some [4]))
                                                                  .ret)
                                                                .skip))
                                                            (.seq
                                                              (.region false [⟨some 4, (.mv (.c (.bool true))), 4, none, 0⟩] (some [4]))
                                                              .ret))))))))))))))))))))))))))))))⟩
theorem fok_11 : FnOk Try.prog 11 fa_11 an_11 := ⟨Try.f11, _, Try.func11, rfl, by kernel_rfl, rfl, rfl, by decide, by kernel_rfl⟩
end Go.PS
end

section
-- Contracts: images, and algebras that are the same.
set_option maxRecDepth 100000
set_option linter.unusedVariables false
set_option linter.unusedSimpArgs false
namespace Go.PS
open Go.Proofs

def imgM (l : List Int) (n : Nat) : Int := (List.range n).foldl (fun o i => bOr .i64 o (2 ^ (gi l i).toNat)) 0
theorem imgM_succ {l : List Int} {n : Nat} : imgM l (n + 1) = bOr .i64 (imgM l n) (2 ^ (gi l n).toNat) := by
  simp [imgM, List.range_succ]
theorem shl2 {n : Int} (h0 : 0 ≤ n) (h : n ≤ 6) : bShl .i64 1 n = 2 ^ n.toNat := by
  obtain ⟨k, rfl⟩ := Int.eq_ofNat_of_zero_le h0
  have : k = 0 ∨ k = 1 ∨ k = 2 ∨ k = 3 ∨ k = 4 ∨ k = 5 ∨ k = 6 := by omega
  rcases this with rfl | rfl | rfl | rfl | rfl | rfl | rfl <;> rfl

theorem imgS_pc (l : List Int) (hl : Big l.length) (hr : ∀ x, x < l.length → 0 ≤ gi l x ∧ gi l x ≤ 6) : PC Try.prog 104 [IL l] none true (fun r _ => r = I64 (imgM l l.length)) := by
  have hl := hl.le
  refine pcT [fm_power] fok_104 ?_
  simp [fa_104]
  refine loopA (tabK_mono _) l.length (fun i => [(3, I64 (imgM l i)), (4, I64 i)]) (fun _ => []) (fun _ => True) (by simp [imgM]) (by simp) (fun i g hi _ => ?_)
  simp [lb_104_3, wrap_succ hi hl]
  refine ⟨fun h => ?_, fun h => by rw [show i = l.length by omega]⟩
  have := hr i h
  simp [h, this, show gi l i ≤ 61 by omega, imgM_succ, wrap_succ hi hl]
noncomputable def fm_imgS : Fam Try.prog := mkFam (X := List Int) 104 true (fun l => [IL l]) (fun l => (Big l.length) ∧ (∀ x, x < l.length → 0 ≤ gi l x ∧ gi l x ≤ 6)) (fun l => I64 (imgM l l.length)) (by
  rintro l ⟨hl, hr⟩
  exact imgS_pc l hl hr)
@[simp] theorem fm_imgS_id : fm_imgS.id = 104 := rfl
@[simp] theorem fm_imgS_fresh : fm_imgS.fresh = true := rfl
@[simp] theorem fm_imgS_look (l : List Int) (hl : Big l.length) (hr : ∀ x, x < l.length → 0 ≤ gi l x ∧ gi l x ≤ 6) : fm_imgS.look [IL l] = some (I64 (imgM l l.length)) :=
  lookF_of (X := List Int) (args := fun l => [IL l]) (pre := fun l => (Big l.length) ∧ (∀ x, x < l.length → 0 ≤ gi l x ∧ gi l x ≤ 6)) (val := fun l => I64 (imgM l l.length)) (by
  intro l l' h
  simp at h
  subst h
  rfl) l ⟨hl, hr⟩
attribute [irreducible] fm_imgS
theorem imgI_pc (l : List Int) (hl : Big l.length) (hr : ∀ x, x < l.length → 0 ≤ gi l x ∧ gi l x ≤ 6) : PC Try.prog 106 [IL l] none true (fun r _ => r = I64 (imgM l l.length)) := by
  have hl := hl.le
  refine pcT [] fok_106 ?_
  simp [fa_106]
  refine loopA (tabK_mono _) l.length (fun i => [(3, I64 (imgM l i)), (8, I64 i)]) (fun _ => []) (fun _ => True) (by simp [imgM]) (by simp) (fun i g hi _ => ?_)
  simp [lb_106_3, wrap_succ hi hl]
  refine ⟨fun h => ?_, fun h => by rw [show i = l.length by omega]⟩
  have := hr i h
  simp [h, this, imgM_succ, shl2, wrap_succ hi hl]
noncomputable def fm_imgI : Fam Try.prog := mkFam (X := List Int) 106 true (fun l => [IL l]) (fun l => (Big l.length) ∧ (∀ x, x < l.length → 0 ≤ gi l x ∧ gi l x ≤ 6)) (fun l => I64 (imgM l l.length)) (by
  rintro l ⟨hl, hr⟩
  exact imgI_pc l hl hr)
@[simp] theorem fm_imgI_id : fm_imgI.id = 106 := rfl
@[simp] theorem fm_imgI_fresh : fm_imgI.fresh = true := rfl
@[simp] theorem fm_imgI_look (l : List Int) (hl : Big l.length) (hr : ∀ x, x < l.length → 0 ≤ gi l x ∧ gi l x ≤ 6) : fm_imgI.look [IL l] = some (I64 (imgM l l.length)) :=
  lookF_of (X := List Int) (args := fun l => [IL l]) (pre := fun l => (Big l.length) ∧ (∀ x, x < l.length → 0 ≤ gi l x ∧ gi l x ≤ 6)) (val := fun l => I64 (imgM l l.length)) (by
  intro l l' h
  simp at h
  subst h
  rfl) l ⟨hl, hr⟩
attribute [irreducible] fm_imgI

def isAll (n : Nat) (l : List Int) : Bool := decide (imgM l l.length = 2 ^ n - 1)
def sbI (n : Nat) (r : List (List Int)) : Int := firstI r.length fun i => isAll n (gr r i)
noncomputable def smM (u : List Int) (t : List (List Int)) (v : List Int) (s : List (List Int)) : List Int × Bool :=
  if VA u t ∧ VA v s ∧ u.length = v.length then (if 0 ≤ sbI v.length (mprn u t v s u.length []) then (gr (mprn u t v s u.length []) (sbI v.length (mprn u t v s u.length [])).toNat, true) else ([], false)) else ([], false)
theorem mprn_mp {u : List Int} {t : List (List Int)} {v : List Int} {s : List (List Int)} (f : TF u t) (f2 : TF v s) {x : List Int} (h : x ∈ mprn u t v s u.length []) : MP u t v s x := by
  rw [mprn, prn_eq (fun k h y l hy hl hg => mok_of f f2 hl (of_decide_eq_true hg))] at h
  exact of_decide_eq_true (List.mem_filter.1 h).2
theorem pow2w {n : Nat} (h : n ≤ 6) : IntKind.i64.wrap ((2 : Int) ^ n - 1) = 2 ^ n - 1 := by
  have : n = 0 ∨ n = 1 ∨ n = 2 ∨ n = 3 ∨ n = 4 ∨ n = 5 ∨ n = 6 := by omega
  rcases this with rfl | rfl | rfl | rfl | rfl | rfl | rfl <;> rfl

set_option maxHeartbeats 1000000 in
theorem sameS_pc (u : List Int) (t : List (List Int)) (v : List Int) (s : List (List Int)) (hu : Big u.length) (ht : BigR t) (hv : Big v.length) (hs : BigR s) : PC Try.prog 48 [AL u t, AL v s] none false (fun r _ => r = .tup [IL (smM u t v s).1, .bool (smM u t v s).2]) := by
  have hul := hu.le
  have hvl := hv.le
  refine pcT [fm_validAlgebraS, fm_mapsFromS, fm_imgS, fm_power] fok_48 ?_
  simp [fa_48]
  refine cutW (tabK_mono _) [(24, .bool (!(decide (VA u t) && decide (VA v s) && decide (u.length = v.length))))] (by
    cases hb : decide (VA u t)
    · simp [hu, ht, hb]
    · cases hb2 : decide (VA v s)
      · simp [hu, ht, hv, hs, hb, hb2]
      · simp [hu, ht, hv, hs, hb, hb2]
        omega) ?_
  simp
  refine ⟨fun h => ?_, fun h h2 h3 => ?_⟩
  · have : ¬ (VA u t ∧ VA v s ∧ u.length = v.length) := fun w => by simp [w.1, w.2.1, w.2.2] at h
    simp [smM, this, ints]
  have f := h.tf
  have f2 := h2.tf
  have h6 := f.lat.six
  have h62 := f2.lat.six
  have l1 : fm_mapsFromS.look [AL u t, AL v s, .list 1 []] = some (RL (mprn u t v s u.length [])) := fm_mapsFromS_look u t v s f f2
  have hmp : ∀ i, i < (mprn u t v s u.length []).length → MP u t v s (gr (mprn u t v s u.length []) i) := fun i hi => mprn_mp f f2 (gr_mem hi)
  have hN : (mprn u t v s u.length []).length ≤ 46656 := Nat.le_trans (prn_len _ _) (pow6 h62 h6)
  have eM : smM u t v s = if 0 ≤ sbI v.length (mprn u t v s u.length []) then (gr (mprn u t v s u.length []) (sbI v.length (mprn u t v s u.length [])).toNat, true) else ([], false) := by simp [smM, h, h2, h3]
  rw [eM]
  simp [l1]
  clear eM l1
  generalize mprn u t v s u.length [] = r at *
  refine loopA (tabK_mono _) r.length (fun i => [(7, I64 i)]) (fun _ => []) (fun j => isAll v.length (gr r j) = false) (by simp) (by simp) (fun i g hi hP => ?_)
  simp [lb_48_5, wrap_succ hi (by omega)]
  refine ⟨fun hlt => ?_, fun hge => ?_⟩
  · have M := hmp i hlt
    have hb : Big (gr r i).length := by rw [M.len]; exact hu
    have l2 := fm_imgS_look (gr r i) hb (fun x hx => by have := M.rng x (by rw [M.len] at hx; exact hx); omega)
    cases hc : isAll v.length (gr r i)
    · have hc' : ¬ imgM (gr r i) (gr r i).length = 2 ^ v.length - 1 := by simpa [isAll] using hc
      simp [hlt, l2, pow2w h62, hc', show (v.length : Int) ≤ 61 by omega, wrap_succ hi (by omega)]
      exact hc
    · have hc' : imgM (gr r i) (gr r i).length = 2 ^ v.length - 1 := by simpa [isAll] using hc
      have er : sbI v.length r = i := firstI_some hlt hc hP
      simp [hlt, l2, pow2w h62, hc', er, show (v.length : Int) ≤ 61 by omega]
  · have er : sbI v.length r = -1 := firstI_none (fun j hj => hP j (by omega))
    simp [er, ints]
noncomputable def fm_sameS : Fam Try.prog := mkFam (X := List Int × List (List Int) × List Int × List (List Int)) 48 false (fun (u, t, v, s) => [AL u t, AL v s]) (fun (u, t, v, s) => (Big u.length) ∧ (BigR t) ∧ (Big v.length) ∧ (BigR s)) (fun (u, t, v, s) => .tup [IL (smM u t v s).1, .bool (smM u t v s).2]) (by
  rintro ⟨u, t, v, s⟩ ⟨hu, ht, hv, hs⟩
  exact sameS_pc u t v s hu ht hv hs)
@[simp] theorem fm_sameS_id : fm_sameS.id = 48 := rfl
@[simp] theorem fm_sameS_fresh : fm_sameS.fresh = false := rfl
@[simp] theorem fm_sameS_look (u : List Int) (t : List (List Int)) (v : List Int) (s : List (List Int)) (hu : Big u.length) (ht : BigR t) (hv : Big v.length) (hs : BigR s) : fm_sameS.look [AL u t, AL v s] = some (.tup [IL (smM u t v s).1, .bool (smM u t v s).2]) :=
  lookF_of (X := List Int × List (List Int) × List Int × List (List Int)) (args := fun (u, t, v, s) => [AL u t, AL v s]) (pre := fun (u, t, v, s) => (Big u.length) ∧ (BigR t) ∧ (Big v.length) ∧ (BigR s)) (val := fun (u, t, v, s) => .tup [IL (smM u t v s).1, .bool (smM u t v s).2]) (by
  rintro ⟨u, t, v, s⟩ ⟨u', t', v', s'⟩ h
  simp at h
  try simp only [and_assoc] at h
  obtain ⟨rfl, rfl, rfl, rfl⟩ := h
  rfl) (u, t, v, s) ⟨hu, ht, hv, hs⟩
attribute [irreducible] fm_sameS

set_option maxHeartbeats 1000000 in
theorem sameI_pc (u : List Int) (t : List (List Int)) (v : List Int) (s : List (List Int)) (hu : Big u.length) (ht : BigR t) (hv : Big v.length) (hs : BigR s) : PC Try.prog 49 [AL u t, AL v s] none true (fun r _ => r = .tup [IO1 (smM u t v s).1, .bool (smM u t v s).2]) := by
  have hul := hu.le
  have hvl := hv.le
  refine pcT [fm_validAlgebraI, fm_mapsI, fm_imgI] fok_49 ?_
  simp [fa_49]
  refine cutW (tabK_mono _) [(24, .bool (!(decide (VA u t) && decide (VA v s) && decide (u.length = v.length))))] (by
    cases hb : decide (VA u t)
    · simp [hu, ht, hb]
    · cases hb2 : decide (VA v s)
      · simp [hu, ht, hv, hs, hb, hb2]
      · simp [hu, ht, hv, hs, hb, hb2]
        omega) ?_
  simp
  refine ⟨fun h => ?_, fun h h2 h3 => ?_⟩
  · have : ¬ (VA u t ∧ VA v s ∧ u.length = v.length) := fun w => by simp [w.1, w.2.1, w.2.2] at h
    simp [smM, this, ints]
  have f := h.tf
  have f2 := h2.tf
  have h6 := f.lat.six
  have h62 := f2.lat.six
  have l1 := fm_mapsI_look u t v s f f2
  have hmp : ∀ i, i < (mprn u t v s u.length []).length → MP u t v s (gr (mprn u t v s u.length []) i) := fun i hi => mprn_mp f f2 (gr_mem hi)
  have hN : (mprn u t v s u.length []).length ≤ 46656 := Nat.le_trans (prn_len _ _) (pow6 h62 h6)
  have eM : smM u t v s = if 0 ≤ sbI v.length (mprn u t v s u.length []) then (gr (mprn u t v s u.length []) (sbI v.length (mprn u t v s u.length [])).toNat, true) else ([], false) := by simp [smM, h, h2, h3]
  rw [eM]
  clear eM
  generalize mprn u t v s u.length [] = r at *
  refine callO1 fm_mapsI (by simp) (by simp) (v := RO r) (by simp; exact l1) ?_
  simp
  refine loopA (tabK_mono _) r.length (fun i => [(29, I64 i)]) (fun _ => [⟨216, 1, .arr 1 (orowsD r)⟩]) (fun j => isAll v.length (gr r j) = false) (by simp) (by simp) (fun i g hi hP => ?_)
  simp [lb_49_4, wrap_succ hi (by omega)]
  refine ⟨fun hlt => ?_, fun hge => ?_⟩
  · have M := hmp i hlt
    have hb : Big (gr r i).length := by rw [M.len]; exact hu
    have l2 := fm_imgI_look (gr r i) hb (fun x hx => by have := M.rng x (by rw [M.len] at hx; exact hx); omega)
    have ra : rowAt [⟨216, 1, .arr 1 (orowsD r)⟩] 216 1 i = some (1, ints (gr r i)) := (rowAt_of (b := .arr 1 (orowsD r)) (by simp)).trans (rowB_orows hlt)
    have rd : rowD (some (1, ints (gr r i))) 4 = IL (gr r i) := by simp [rowD]
    cases hc : isAll v.length (gr r i)
    · have hc' : ¬ imgM (gr r i) (gr r i).length = 2 ^ v.length - 1 := by simpa [isAll] using hc
      simp [hlt, l2, ra, rd, shl1 h62, hc', orowsD_gete, wrap_succ hi (by omega)]
      exact hc
    · have hc' : imgM (gr r i) (gr r i).length = 2 ^ v.length - 1 := by simpa [isAll] using hc
      have er : sbI v.length r = i := firstI_some hlt hc hP
      simp [hlt, l2, ra, rd, shl1 h62, hc', er, orowsD_gete]
  · have er : sbI v.length r = -1 := firstI_none (fun j hj => hP j (by omega))
    simp [er, ints]
noncomputable def fm_sameI : Fam Try.prog := mkFam (X := List Int × List (List Int) × List Int × List (List Int)) 49 true (fun (u, t, v, s) => [AL u t, AL v s]) (fun (u, t, v, s) => (Big u.length) ∧ (BigR t) ∧ (Big v.length) ∧ (BigR s)) (fun (u, t, v, s) => .tup [IO1 (smM u t v s).1, .bool (smM u t v s).2]) (by
  rintro ⟨u, t, v, s⟩ ⟨hu, ht, hv, hs⟩
  exact sameI_pc u t v s hu ht hv hs)
@[simp] theorem fm_sameI_id : fm_sameI.id = 49 := rfl
@[simp] theorem fm_sameI_fresh : fm_sameI.fresh = true := rfl
@[simp] theorem fm_sameI_look (u : List Int) (t : List (List Int)) (v : List Int) (s : List (List Int)) (hu : Big u.length) (ht : BigR t) (hv : Big v.length) (hs : BigR s) : fm_sameI.look [AL u t, AL v s] = some (.tup [IO1 (smM u t v s).1, .bool (smM u t v s).2]) :=
  lookF_of (X := List Int × List (List Int) × List Int × List (List Int)) (args := fun (u, t, v, s) => [AL u t, AL v s]) (pre := fun (u, t, v, s) => (Big u.length) ∧ (BigR t) ∧ (Big v.length) ∧ (BigR s)) (val := fun (u, t, v, s) => .tup [IO1 (smM u t v s).1, .bool (smM u t v s).2]) (by
  rintro ⟨u, t, v, s⟩ ⟨u', t', v', s'⟩ h
  simp at h
  try simp only [and_assoc] at h
  obtain ⟨rfl, rfl, rfl, rfl⟩ := h
  rfl) (u, t, v, s) ⟨hu, ht, hv, hs⟩
attribute [irreducible] fm_sameI

theorem smM_big {u : List Int} {t : List (List Int)} {v : List Int} {s : List (List Int)} : (smM u t v s).1.length ≤ 6 := by
  unfold smM
  split
  · rename_i a
    split
    · rename_i h
      have f := a.1.tf
      have f2 := a.2.1.tf
      rcases firstI_range (n := (mprn u t v s u.length []).length) (p := fun i => isAll v.length (gr (mprn u t v s u.length []) i)) with h1 | ⟨z, hz, _, h1⟩
      · rw [sbI, h1] at h; omega
      · rw [sbI, h1, Int.toNat_natCast]
        have M := mprn_mp f f2 (gr_mem hz)
        show (gr _ z).length ≤ 6
        rw [M.len]
        exact f.lat.six
    · simp
  · simp
end Go.PS
end

section
-- The law of algebras that are the same.
set_option maxRecDepth 100000
set_option linter.unusedVariables false
set_option linter.unusedSimpArgs false
namespace Go.PS
open Go.Proofs

theorem FnExactSameBy_pc (u : List Int) (t : List (List Int)) (v : List Int) (s : List (List Int)) (hu : Hu u.length) (ht : HuR t) (hv : Hu v.length) (hs : HuR s) : PC Try.prog 11 [AL u t, AL v s] none true (fun r _ => r = .bool true) := by
  refine pcI inlM inlM_ok [fm_szAlgebra, fm_toAlgebra, fm_sameS, fm_sameI, fm_eqAlgebra, fm_eqIntS, fm_heldIntS] 3 fok_11 ?_
  simp [fa_11, callO3T, inlM, hu, ht, hv, hs]
  intro h3
  have hs1 := szA_sub h3
  have hb := szA_big (by omega) h3
  have hN : szA u t 1048576 ≤ 1048576 := by omega
  simp [callO3T, inlM, hv, hs, hN, show -1 ≤ szA u t 1048576 by omega]
  intro h4
  have hs2 := szA_sub h4
  have hb2 := szA_big hN h4
  have hr6 := smM_big (u := u) (t := t) (v := v) (s := s)
  have l1 := fm_sameS_look u t v s hb.1 hb.2 hb2.1 hb2.2
  have l2 := fm_sameI_look u t v s hb.1 hb.2 hb2.1 hb2.2
  generalize smM u t v s = r at *
  obtain ⟨r, b⟩ := r
  dsimp only at hr6 l1 l2
  have hrl : Big r.length := by unfold Big; omega
  simp [callO3T, callDO3T, inlM, hb.1, hb.2, hb2.1, hb2.2, l1]
  refine callO1 fm_toAlgebra (by simp) (by simp) (v := .agg [IO1 u, RO t]) (by simp [hb.1, hb.2]) ?_
  simp
  refine callO1 fm_toAlgebra (by simp) (by simp) (v := .agg [IO1 v, RO s]) (by simp [hb2.1, hb2.2]) ?_
  simp
  refine callO1 fm_sameI (by simp) (by simp) (v := .tup [IO1 r, .bool b]) (by simp; exact l2) ?_
  simp [callO3T, callDO3T, inlM, hrl, hb.1, hb.2, hb2.1, hb2.2]
  refine cutW (inlT_mono _ _ _ _) [(53, .bool false)] (by simp [callO3T, inlM, hrl]) ?_
  simp [callO3T, callDO3T, inlM, hb.1, hb.2, hb2.1, hb2.2, callO16 (C := CI inlM) (id := 26) (fa := fa_26) rfl]
  refine markA_run rfl rfl hb.1 hb.2 (by omega) (by omega) (by omega) (by omega) (by omega) (by simp) (by simp) (fun g1 => ?_)
  simp [callO16 (C := CI inlM) (id := 26) (fa := fa_26) rfl]
  refine markA_run rfl rfl hb2.1 hb2.2 (by omega) (by omega) (by omega) (by omega) (by omega) (by simp) (by simp) (fun g2 => ?_)
  simp
  refine cutW (inlT_mono _ _ _ _) [(82, .bool false)] (by
    simp [callO3T, inlM, hrl]
    omega) ?_
  simp [callO16 (C := CI inlM) (id := 27) (fa := fa_27) rfl]
  refine markI_run hrl (by omega) (by omega) (by simp) (fun g3 => ?_)
  have hh : hdI (mk 1 r.length) 1 = 1 + r.length := by simp [hdI]
  simp [callO3T, callDO3T, inlM, hrl, hh, hb.1, hb.2, hb2.1, hb2.2, l2, show ¬ (1 + (r.length : Int) < 0) by omega]
  refine cutW (inlT_mono _ _ _ _) [(110, .bool false)] (by simp [callO3T, inlM, hrl]) ?_
  simp [callO3T, inlM, hrl, hh, show ¬ (1 + (r.length : Int) < 0) by omega]
end Go.PS
end
