/- Part 1 of what the last text proves: The program's NucleiOf returns what the reference's returns, for all arguments. -/
import Derived.Test.YtdojebhmkbfppaaQc1
section
-- PRINTED by gen.py: clean texts of functions, and their tie to the program.
set_option maxRecDepth 100000
namespace Go.PS
open Go.Proofs
/-- laws.heldIntSS -/
def an_43 : Ann := ⟨[(4, 5, 3)], [(0, [0, 1]), (1, [0, 1, 5]), (2, [0, 1, 5, 9]), (4, [0, 1, 5]), (5, [0, 1, 5, 19]), (6, [4]), (3, [0, 1, 5]), (7, [4])], [(2, [0, 1, 5], [])], []⟩
def lb_43_2 : AC :=
  (.seq
    (.seq
      (.region false [⟨some 6, (.mv (.t 5)), 3, none, 0⟩, ⟨some 7, (.mv (.t 0)), 23, none, 0⟩, ⟨some 8, (.len 23 (.t 7)), 3, none, 0⟩, ⟨some 9, (.bin .lss 3 (.t 6) (.t 8)), 4, none, 0⟩] (some [0, 1, 5, 9]))
      (.cond (.t 9)
        .skip
        (.exit 0)))
    (.seq
      (.block 1
        (.seq
          (.region false [⟨some 12, (.mv (.t 0)), 23, none, 0⟩, ⟨some 13, (.mv (.t 5)), 3, none, 0⟩, ⟨some 14, (.iaddr 23 (.t 12) (.t 13)), 0, none, 0⟩, ⟨some 15, (.load 22 (.t 14)), 22, none, 0⟩, ⟨some 16, (.mv (.t 1)), 3, none, 0⟩, ⟨some 17, (.call (.f 28) [(.t 15), (.t 16)]), 3, none, 3⟩, ⟨some 1, (.mv (.t 17)), 3, none, 0⟩] (some [0, 1, 5]))
          (.seq
            (.region false [⟨some 18, (.mv (.t 1)), 3, none, 0⟩, ⟨some 19, (.bin .lss 3 (.t 18) (.c (.int .i64 0))), 4, none, 0⟩] (some [0, 1, 5, 19]))
            (.cond (.t 19)
              (.seq
                (.region false [⟨some 4, (.mv (.c (.int .i64 (-1)))), 3, none, 0⟩] (some [4]))
                .ret)
              .skip))))
      (.region false [⟨some 10, (.mv (.t 5)), 3, none, 0⟩, ⟨some 11, (.bin .add 3 (.t 10) (.c (.int .i64 1))), 3, none, 0⟩, ⟨some 5, (.mv (.t 11)), 3, none, 0⟩] (some [0, 1, 5]))))
def fa_43 : FnA := ⟨21, [.t 4],
  (.seq
    (.region false [⟨some 4, (.mv (.c (.int .i64 0))), 3, none, 0⟩] (some [0, 1]))
    (.seq
      (.seq
        (.region false [⟨some 5, (.mv (.c (.int .i64 0))), 3, none, 0⟩] (some [0, 1, 5]))
        (.block 0
          (.loop [0, 1, 5] [] lb_43_2)))
      (.seq
        (.region false [⟨some 20, (.mv (.t 1)), 3, none, 0⟩, ⟨some 4, (.mv (.t 20)), 3, none, 0⟩] (some [4]))
        .ret)))⟩
theorem fok_43 : FnOk Try.prog 43 fa_43 an_43 := ⟨Try.f43, _, Try.func43, rfl, by kernel_rfl, rfl, rfl, by decide, by kernel_rfl⟩
/-- spec.isNucleus -/
def an_85 : Ann := ⟨[(7, 6, 3), (12, 7, 3), (17, 4, 3), (17, 16, 3), (17, 47, 3)], [(0, [1, 2]), (1, [1, 2, 5]), (2, [1, 2, 5, 15]), (3, [4]), (4, [1, 2, 5, 6]), (5, [1, 2, 5, 6, 18]), (7, [1, 2, 5, 6, 28]), (8, [4]), (6, [1, 2, 5, 6]), (9, [1, 2, 5, 7]), (10, [1, 2, 5, 7, 31]), (12, [1, 2, 5, 7, 56]), (13, [4]), (14, [1, 2, 5, 7, 8]), (15, [1, 2, 5, 7, 8, 59]), (17, [1, 2, 5, 7, 8, 111]), (18, [4]), (16, [1, 2, 5, 7, 8]), (11, [1, 2, 5, 7]), (19, [4])], [(5, [1, 2, 5, 6], []), (10, [1, 2, 5, 7], []), (15, [1, 2, 5, 7, 8], [])], []⟩
def lb_85_5 : AC :=
  (.seq
    (.seq
      (.region false [⟨some 16, (.mv (.t 6)), 3, none, 0⟩, ⟨some 17, (.mv (.t 5)), 3, none, 0⟩, ⟨some 18, (.bin .lss 3 (.t 16) (.t 17)), 4, none, 0⟩] (some [1, 2, 5, 6, 18]))
      (.cond (.t 18)
        .skip
        (.exit 0)))
    (.seq
      (.block 1
        (.seq
          (.region false [⟨some 21, (.mv (.t 1)), 22, none, 0⟩, ⟨some 22, (.mv (.t 6)), 3, none, 0⟩, ⟨some 23, (.iaddr 22 (.t 21) (.t 22)), 0, none, 0⟩, ⟨some 24, (.load 3 (.t 23)), 3, none, 0⟩, ⟨some 25, (.mv (.t 5)), 3, none, 0⟩, ⟨some 26, (.bin .sub 3 (.t 25) (.c (.int .i64 1))), 3, none, 0⟩, ⟨some 27, (.call (.f 78) [(.t 24), (.c (.int .i64 0)), (.t 26)]), 4, none, 3⟩, ⟨some 28, (.un .not (.t 27)), 4, none, 0⟩] (some [1, 2, 5, 6, 28]))
          (.cond (.t 28)
            (.seq
              (.region false [⟨some 4, (.mv (.c (.bool false))), 4, none, 0⟩] (some [4]))
              .ret)
            .skip)))
      (.region false [⟨some 19, (.mv (.t 6)), 3, none, 0⟩, ⟨some 20, (.bin .add 3 (.t 19) (.c (.int .i64 1))), 3, none, 0⟩, ⟨some 6, (.mv (.t 20)), 3, none, 0⟩] (some [1, 2, 5, 6]))))
def lb_85_15 : AC :=
  (.seq
    (.seq
      (.region false [⟨some 57, (.mv (.t 8)), 3, none, 0⟩, ⟨some 58, (.mv (.t 5)), 3, none, 0⟩, ⟨some 59, (.bin .lss 3 (.t 57) (.t 58)), 4, none, 0⟩] (some [1, 2, 5, 7, 8, 59]))
      (.cond (.t 59)
        .skip
        (.exit 4)))
    (.seq
      (.block 5
        (.seq
          (.region true (gops (seg [1, 2, 5, 7, 8, 67, 69, 70, 71] [⟨some 62, (.faddr 28 (.t 2) 0), 0, none, 0⟩, ⟨some 63, (.load 22 (.t 62)), 22, none, 0⟩, ⟨some 64, (.mv (.t 7)), 3, none, 0⟩, ⟨some 65, (.mv (.t 8)), 3, none, 0⟩, ⟨some 66, (.call (.f 113) [(.t 63), (.t 64), (.t 65)]), 4, none, 3⟩, ⟨some 67, (.mv (.t 66)), 4, none, 0⟩, ⟨some 68, (.faddr 28 (.t 2) 0), 0, some (67, true), 0⟩, ⟨some 69, (.load 22 (.t 68)), 22, some (67, true), 0⟩, ⟨some 70, (.mv (.t 1)), 22, some (67, true), 0⟩, ⟨some 71, (.mv (.t 7)), 3, some (67, true), 0⟩]
          (seg [1, 2, 5, 7, 8, 81] [⟨some 72, (.iaddr 22 (.t 70) (.t 71)), 0, some (67, true), 0⟩, ⟨some 73, (.load 3 (.t 72)), 3, some (67, true), 0⟩, ⟨some 74, (.mv (.t 1)), 22, some (67, true), 0⟩, ⟨some 75, (.mv (.t 8)), 3, some (67, true), 0⟩, ⟨some 76, (.iaddr 22 (.t 74) (.t 75)), 0, some (67, true), 0⟩, ⟨some 77, (.load 3 (.t 76)), 3, some (67, true), 0⟩, ⟨some 78, (.call (.f 113) [(.t 69), (.t 73), (.t 77)]), 4, some (67, true), 3⟩, ⟨some 79, (.un .not (.t 78)), 4, some (67, true), 0⟩, ⟨some 80, (.pick (.t 67) (.t 79) (.c (.bool false))), 4, none, 0⟩, ⟨some 81, (.mv (.t 80)), 4, none, 0⟩]
          (seg [1, 2, 5, 7, 8, 81, 83, 91] [⟨some 82, (.faddr 28 (.t 2) 0), 0, some (81, false), 0⟩, ⟨some 83, (.load 22 (.t 82)), 22, some (81, false), 0⟩, ⟨some 84, (.faddr 28 (.t 2) 1), 0, some (81, false), 0⟩, ⟨some 85, (.load 23 (.t 84)), 23, some (81, false), 0⟩, ⟨some 86, (.mv (.t 1)), 22, some (81, false), 0⟩, ⟨some 87, (.mv (.t 7)), 3, some (81, false), 0⟩, ⟨some 88, (.iaddr 22 (.t 86) (.t 87)), 0, some (81, false), 0⟩, ⟨some 89, (.load 3 (.t 88)), 3, some (81, false), 0⟩, ⟨some 90, (.iaddr 23 (.t 85) (.t 89)), 0, some (81, false), 0⟩, ⟨some 91, (.load 22 (.t 90)), 22, some (81, false), 0⟩]
          (seg [1, 2, 5, 7, 8, 81, 83, 97, 98, 100, 101] [⟨some 92, (.mv (.t 1)), 22, some (81, false), 0⟩, ⟨some 93, (.mv (.t 8)), 3, some (81, false), 0⟩, ⟨some 94, (.iaddr 22 (.t 92) (.t 93)), 0, some (81, false), 0⟩, ⟨some 95, (.load 3 (.t 94)), 3, some (81, false), 0⟩, ⟨some 96, (.iaddr 22 (.t 91) (.t 95)), 0, some (81, false), 0⟩, ⟨some 97, (.load 3 (.t 96)), 3, some (81, false), 0⟩, ⟨some 98, (.mv (.t 1)), 22, some (81, false), 0⟩, ⟨some 99, (.faddr 28 (.t 2) 1), 0, some (81, false), 0⟩, ⟨some 100, (.load 23 (.t 99)), 23, some (81, false), 0⟩, ⟨some 101, (.mv (.t 7)), 3, some (81, false), 0⟩]
          [⟨some 102, (.iaddr 23 (.t 100) (.t 101)), 0, some (81, false), 0⟩, ⟨some 103, (.load 22 (.t 102)), 22, some (81, false), 0⟩, ⟨some 104, (.mv (.t 8)), 3, some (81, false), 0⟩, ⟨some 105, (.iaddr 22 (.t 103) (.t 104)), 0, some (81, false), 0⟩, ⟨some 106, (.load 3 (.t 105)), 3, some (81, false), 0⟩, ⟨some 107, (.iaddr 22 (.t 98) (.t 106)), 0, some (81, false), 0⟩, ⟨some 108, (.load 3 (.t 107)), 3, some (81, false), 0⟩, ⟨some 109, (.call (.f 113) [(.t 83), (.t 97), (.t 108)]), 4, some (81, false), 3⟩, ⟨some 110, (.un .not (.t 109)), 4, some (81, false), 0⟩, ⟨some 111, (.pick (.t 81) (.c (.bool true)) (.t 110)), 4, none, 0⟩] [1, 2, 5, 7, 8, 111] (by decide)) [1, 2, 5, 7, 8, 111] (by decide)) [1, 2, 5, 7, 8, 111] (by decide)) [1, 2, 5, 7, 8, 111] (by decide))) (some [1, 2, 5, 7, 8, 111]))
          (.cond (.t 111)
            (.seq
              (.region false [⟨some 4, (.mv (.c (.bool false))), 4, none, 0⟩] (some [4]))
              .ret)
            .skip)))
      (.region false [⟨some 60, (.mv (.t 8)), 3, none, 0⟩, ⟨some 61, (.bin .add 3 (.t 60) (.c (.int .i64 1))), 3, none, 0⟩, ⟨some 8, (.mv (.t 61)), 3, none, 0⟩] (some [1, 2, 5, 7, 8]))))
def lb_85_10 : AC :=
  (.seq
    (.seq
      (.region false [⟨some 29, (.mv (.t 7)), 3, none, 0⟩, ⟨some 30, (.mv (.t 5)), 3, none, 0⟩, ⟨some 31, (.bin .lss 3 (.t 29) (.t 30)), 4, none, 0⟩] (some [1, 2, 5, 7, 31]))
      (.cond (.t 31)
        .skip
        (.exit 2)))
    (.seq
      (.block 3
        (.seq
          (.seq
            (.region true (gops (seg [1, 2, 5, 7, 43] [⟨some 34, (.faddr 28 (.t 2) 0), 0, none, 0⟩, ⟨some 35, (.load 22 (.t 34)), 22, none, 0⟩, ⟨some 36, (.mv (.t 7)), 3, none, 0⟩, ⟨some 37, (.mv (.t 1)), 22, none, 0⟩, ⟨some 38, (.mv (.t 7)), 3, none, 0⟩, ⟨some 39, (.iaddr 22 (.t 37) (.t 38)), 0, none, 0⟩, ⟨some 40, (.load 3 (.t 39)), 3, none, 0⟩, ⟨some 41, (.call (.f 113) [(.t 35), (.t 36), (.t 40)]), 4, none, 3⟩, ⟨some 42, (.un .not (.t 41)), 4, none, 0⟩, ⟨some 43, (.mv (.t 42)), 4, none, 0⟩]
            [⟨some 44, (.mv (.t 1)), 22, some (43, false), 0⟩, ⟨some 45, (.mv (.t 1)), 22, some (43, false), 0⟩, ⟨some 46, (.mv (.t 7)), 3, some (43, false), 0⟩, ⟨some 47, (.iaddr 22 (.t 45) (.t 46)), 0, some (43, false), 0⟩, ⟨some 48, (.load 3 (.t 47)), 3, some (43, false), 0⟩, ⟨some 49, (.iaddr 22 (.t 44) (.t 48)), 0, some (43, false), 0⟩, ⟨some 50, (.load 3 (.t 49)), 3, some (43, false), 0⟩, ⟨some 51, (.mv (.t 1)), 22, some (43, false), 0⟩, ⟨some 52, (.mv (.t 7)), 3, some (43, false), 0⟩, ⟨some 53, (.iaddr 22 (.t 51) (.t 52)), 0, some (43, false), 0⟩, ⟨some 54, (.load 3 (.t 53)), 3, some (43, false), 0⟩, ⟨some 55, (.bin .neq 3 (.t 50) (.t 54)), 4, some (43, false), 0⟩, ⟨some 56, (.pick (.t 43) (.c (.bool true)) (.t 55)), 4, none, 0⟩] [1, 2, 5, 7, 56] (by decide))) (some [1, 2, 5, 7, 56]))
            (.cond (.t 56)
              (.seq
                (.region false [⟨some 4, (.mv (.c (.bool false))), 4, none, 0⟩] (some [4]))
                .ret)
              .skip))
          (.seq
            (.region false [⟨some 8, (.mv (.c (.int .i64 0))), 3, none, 0⟩] (some [1, 2, 5, 7, 8]))
            (.block 4
              (.loop [1, 2, 5, 7, 8] [] lb_85_15)))))
      (.region false [⟨some 32, (.mv (.t 7)), 3, none, 0⟩, ⟨some 33, (.bin .add 3 (.t 32) (.c (.int .i64 1))), 3, none, 0⟩, ⟨some 7, (.mv (.t 33)), 3, none, 0⟩] (some [1, 2, 5, 7]))))
def fa_85 : FnA := ⟨112, [.t 4],
  (.seq
    (.region false [⟨some 2, (.box 28 (.t 0)), 0, none, 0⟩, ⟨some 4, (.mv (.c (.bool false))), 4, none, 0⟩] (some [1, 2]))
    (.seq
      (.region false [⟨some 9, (.faddr 28 (.t 2) 0), 0, none, 0⟩, ⟨some 10, (.load 22 (.t 9)), 22, none, 0⟩, ⟨some 11, (.len 22 (.t 10)), 3, none, 0⟩, ⟨some 5, (.mv (.t 11)), 3, none, 0⟩] (some [1, 2, 5]))
      (.seq
        (.seq
          (.region false [⟨some 12, (.mv (.t 1)), 22, none, 0⟩, ⟨some 13, (.len 22 (.t 12)), 3, none, 0⟩, ⟨some 14, (.mv (.t 5)), 3, none, 0⟩, ⟨some 15, (.bin .neq 3 (.t 13) (.t 14)), 4, none, 0⟩] (some [1, 2, 5, 15]))
          (.cond (.t 15)
            (.seq
              (.region false [⟨some 4, (.mv (.c (.bool false))), 4, none, 0⟩] (some [4]))
              .ret)
            .skip))
        (.seq
          (.seq
            (.region false [⟨some 6, (.mv (.c (.int .i64 0))), 3, none, 0⟩] (some [1, 2, 5, 6]))
            (.block 0
              (.loop [1, 2, 5, 6] [] lb_85_5)))
          (.seq
            (.seq
              (.region false [⟨some 7, (.mv (.c (.int .i64 0))), 3, none, 0⟩] (some [1, 2, 5, 7]))
              (.block 2
                (.loop [1, 2, 5, 7] [] lb_85_10)))
            (.seq
              (.region false [⟨some 4, (.mv (.c (.bool true))), 4, none, 0⟩] (some [4]))
              .ret))))))⟩
theorem fok_85 : FnOk Try.prog 85 fa_85 an_85 := ⟨Try.f85, _, Try.func85, rfl, by kernel_rfl, rfl, rfl, by decide, by kernel_rfl⟩
/-- spec.nucleiFrom -/
def an_93 : Ann := ⟨[(3, 2, 3), (4, 0, 1), (4, 2, 2), (6, 0, 1), (10, 4, 3), (14, 4, 3), (14, 14, 3), (16, 2, 1), (16, 7, 2), (16, 8, 3), (17, 1, 2)], [(0, [1, 2]), (1, [1, 2, 5]), (2, [1, 2, 5, 16]), (3, [1, 19]), (4, [4]), (5, [4]), (6, [1, 2, 5, 6]), (7, [1, 2, 5, 6, 7]), (8, [1, 2, 5, 6, 7, 30]), (10, [1, 2, 5, 6, 7, 8]), (11, [1, 2, 5, 6, 7, 8, 9]), (12, [1, 2, 5, 6, 7, 8, 9, 43]), (14, [1, 2, 5, 6, 7, 8, 9]), (13, [1, 2, 5, 6, 7, 8, 9]), (15, [1, 2, 5, 6, 7, 62]), (16, [1, 2, 5, 6, 7]), (9, [1, 2, 5, 6, 7]), (17, [4])], [(8, [1, 2, 5, 6, 7], [200, 576]), (12, [1, 2, 5, 6, 7, 8, 9], [200, 576])], [(16, (.one 0 (.one 3 (.one 5 (.one 6 (.imm 1 (.alt 2 (.alt 4 (.alt 7 (.alt 8 (.alt 9 (.one 10 .fin) .stop) .stop) .stop) .stop) .stop)))))), [200, 576])]⟩
def lb_93_12 : AC :=
  (.seq
    (.seq
      (.region false (gops [⟨some 38, (.mv (.t 9)), 3, none, 0⟩, ⟨some 39, (.mv (.t 5)), 3, none, 0⟩, ⟨some 40, (.bin .lss 3 (.t 38) (.t 39)), 4, none, 0⟩, ⟨some 41, (.mv (.t 40)), 4, none, 0⟩, ⟨some 42, (.mv (.t 8)), 4, some (41, true), 0⟩, ⟨some 43, (.pick (.t 41) (.t 42) (.c (.bool false))), 4, none, 0⟩]) (some [1, 2, 5, 6, 7, 8, 9, 43]))
      (.cond (.t 43)
        .skip
        (.exit 2)))
    (.seq
      (.block 3
        (.region true (gops [⟨some 46, (.faddr 28 (.t 2) 0), 0, none, 0⟩, ⟨some 47, (.load 22 (.t 46)), 22, none, 0⟩, ⟨some 48, (.mv (.t 9)), 3, none, 0⟩, ⟨some 49, (.mv (.t 5)), 3, none, 0⟩, ⟨some 50, (.call (.f 113) [(.t 47), (.t 48), (.t 49)]), 4, none, 3⟩, ⟨some 51, (.un .not (.t 50)), 4, none, 0⟩, ⟨some 52, (.mv (.t 51)), 4, none, 0⟩, ⟨some 53, (.faddr 28 (.t 2) 0), 0, some (52, false), 0⟩, ⟨some 54, (.load 22 (.t 53)), 22, some (52, false), 0⟩, ⟨some 55, (.mv (.t 1)), 22, some (52, false), 0⟩, ⟨some 56, (.mv (.t 9)), 3, some (52, false), 0⟩, ⟨some 57, (.iaddr 22 (.t 55) (.t 56)), 0, some (52, false), 0⟩, ⟨some 58, (.load 3 (.t 57)), 3, some (52, false), 0⟩, ⟨some 59, (.mv (.t 7)), 3, some (52, false), 0⟩, ⟨some 60, (.call (.f 113) [(.t 54), (.t 58), (.t 59)]), 4, some (52, false), 3⟩, ⟨some 61, (.pick (.t 52) (.c (.bool true)) (.t 60)), 4, none, 0⟩, ⟨some 8, (.mv (.t 61)), 4, none, 0⟩]) (some [1, 2, 5, 6, 7, 8, 9])))
      (.region false [⟨some 44, (.mv (.t 9)), 3, none, 0⟩, ⟨some 45, (.bin .add 3 (.t 44) (.c (.int .i64 1))), 3, none, 0⟩, ⟨some 9, (.mv (.t 45)), 3, none, 0⟩] (some [1, 2, 5, 6, 7, 8, 9]))))
def lb_93_8 : AC :=
  (.seq
    (.seq
      (.region false [⟨some 26, (.mv (.t 7)), 3, none, 0⟩, ⟨some 27, (.faddr 28 (.t 2) 0), 0, none, 0⟩, ⟨some 28, (.load 22 (.t 27)), 22, none, 0⟩, ⟨some 29, (.len 22 (.t 28)), 3, none, 0⟩, ⟨some 30, (.bin .lss 3 (.t 26) (.t 29)), 4, none, 0⟩] (some [1, 2, 5, 6, 7, 30]))
      (.cond (.t 30)
        .skip
        (.exit 0)))
    (.seq
      (.block 1
        (.seq
          (.region false [⟨some 33, (.faddr 28 (.t 2) 0), 0, none, 0⟩, ⟨some 34, (.load 22 (.t 33)), 22, none, 0⟩, ⟨some 35, (.mv (.t 5)), 3, none, 0⟩, ⟨some 36, (.mv (.t 7)), 3, none, 0⟩, ⟨some 37, (.call (.f 113) [(.t 34), (.t 35), (.t 36)]), 4, none, 3⟩, ⟨some 8, (.mv (.t 37)), 4, none, 0⟩] (some [1, 2, 5, 6, 7, 8]))
          (.seq
            (.seq
              (.region false [⟨some 9, (.mv (.c (.int .i64 0))), 3, none, 0⟩] (some [1, 2, 5, 6, 7, 8, 9]))
              (.block 2
                (.loop [1, 2, 5, 6, 7, 8, 9] [200, 576] lb_93_12)))
            (.seq
              (.region false [⟨some 62, (.mv (.t 8)), 4, none, 0⟩] (some [1, 2, 5, 6, 7, 62]))
              (.cond (.t 62)
                (.expl [⟨some 63, (.mv (.t 6)), 23, none, 0⟩, ⟨some 64, (.load 28 (.t 2)), 28, none, 0⟩, ⟨some 65, (.bslice 22 0 []), 22, none, 1⟩, ⟨some 66, (.mv (.t 1)), 22, none, 0⟩, ⟨some 67, (.app 22 22 (.t 65) (.t 66)), 22, none, 0⟩, ⟨some 68, (.mv (.t 7)), 3, none, 0⟩, ⟨some 69, (.bslice 22 1 [(0, (.t 68))]), 22, none, 0⟩, ⟨some 70, (.app 22 22 (.t 67) (.t 69)), 22, none, 2⟩, ⟨some 71, (.call (.f 93) [(.t 64), (.t 70)]), 23, none, 3⟩, ⟨some 72, (.app 23 23 (.t 63) (.t 71)), 23, none, 0⟩, ⟨some 6, (.mv (.t 72)), 23, none, 0⟩] (.one 0 (.one 3 (.one 5 (.one 6 (.imm 1 (.alt 2 (.alt 4 (.alt 7 (.alt 8 (.alt 9 (.one 10 .fin) .stop) .stop) .stop) .stop) .stop)))))) [1, 2, 5, 6, 7] [200, 576])
                .skip)))))
      (.region false [⟨some 31, (.mv (.t 7)), 3, none, 0⟩, ⟨some 32, (.bin .add 3 (.t 31) (.c (.int .i64 1))), 3, none, 0⟩, ⟨some 7, (.mv (.t 32)), 3, none, 0⟩] (some [1, 2, 5, 6, 7]))))
def fa_93 : FnA := ⟨74, [.t 4],
  (.seq
    (.region false [⟨some 2, (.box 28 (.t 0)), 0, none, 0⟩, ⟨some 4, (.mv (.c .nil)), 23, none, 0⟩] (some [1, 2]))
    (.seq
      (.region false [⟨some 10, (.mv (.t 1)), 22, none, 0⟩, ⟨some 11, (.len 22 (.t 10)), 3, none, 0⟩, ⟨some 5, (.mv (.t 11)), 3, none, 0⟩] (some [1, 2, 5]))
      (.seq
        (.seq
          (.region false [⟨some 12, (.mv (.t 5)), 3, none, 0⟩, ⟨some 13, (.faddr 28 (.t 2) 0), 0, none, 0⟩, ⟨some 14, (.load 22 (.t 13)), 22, none, 0⟩, ⟨some 15, (.len 22 (.t 14)), 3, none, 0⟩, ⟨some 16, (.bin .eql 3 (.t 12) (.t 15)), 4, none, 0⟩] (some [1, 2, 5, 16]))
          (.cond (.t 16)
            (.seq
              (.seq
                (.region false [⟨some 17, (.load 28 (.t 2)), 28, none, 0⟩, ⟨some 18, (.mv (.t 1)), 22, none, 0⟩, ⟨some 19, (.call (.f 85) [(.t 17), (.t 18)]), 4, none, 3⟩] (some [1, 19]))
                (.cond (.t 19)
                  (.seq
                    (.region false [⟨some 20, (.bslice 22 0 []), 22, none, 1⟩, ⟨some 21, (.mv (.t 1)), 22, none, 0⟩, ⟨some 22, (.app 22 22 (.t 20) (.t 21)), 22, none, 2⟩, ⟨some 23, (.bslice 23 1 [(0, (.t 22))]), 23, none, 0⟩, ⟨some 4, (.mv (.t 23)), 23, none, 0⟩] (some [4]))
                    .ret)
                  .skip))
              (.seq
                (.region false [⟨some 24, (.bslice 23 0 []), 23, none, 0⟩, ⟨some 4, (.mv (.t 24)), 23, none, 0⟩] (some [4]))
                .ret))
            .skip))
        (.seq
          (.region false [⟨some 25, (.bslice 23 0 []), 23, none, 1⟩, ⟨some 6, (.mv (.t 25)), 23, none, 0⟩] (some [1, 2, 5, 6]))
          (.seq
            (.seq
              (.region false [⟨some 7, (.mv (.c (.int .i64 0))), 3, none, 0⟩] (some [1, 2, 5, 6, 7]))
              (.block 0
                (.loop [1, 2, 5, 6, 7] [200, 576] lb_93_8)))
            (.seq
              (.region false [⟨some 73, (.mv (.t 6)), 23, none, 0⟩, ⟨some 4, (.mv (.t 73)), 23, none, 2⟩] (some [4]))
              .ret))))))⟩
theorem fok_93 : FnOk Try.prog 93 fa_93 an_93 := ⟨Try.f93, _, Try.func93, rfl, by kernel_rfl, rfl, rfl, by decide, by kernel_rfl⟩
/-- spec.NucleiOf -/
def an_39 : Ann := ⟨[(1, 1, 3), (3, 2, 3)], [(0, [1]), (1, [1, 5]), (2, [2]), (3, [2])], [], []⟩
def fa_39 : FnA := ⟨9, [.t 2],
  (.seq
    (.region false [⟨some 1, (.box 28 (.t 0)), 0, none, 0⟩, ⟨some 2, (.mv (.c .nil)), 23, none, 0⟩] (some [1]))
    (.seq
      (.seq
        (.region false [⟨some 3, (.load 28 (.t 1)), 28, none, 0⟩, ⟨some 4, (.call (.f 62) [(.t 3)]), 4, none, 3⟩, ⟨some 5, (.un .not (.t 4)), 4, none, 0⟩] (some [1, 5]))
        (.cond (.t 5)
          (.seq
            (.region false [⟨some 2, (.mv (.c .nil)), 23, none, 0⟩] (some [2]))
            .ret)
          .skip))
      (.seq
        (.region false [⟨some 6, (.load 28 (.t 1)), 28, none, 0⟩, ⟨some 7, (.bslice 22 0 []), 22, none, 0⟩, ⟨some 8, (.call (.f 93) [(.t 6), (.t 7)]), 23, none, 3⟩, ⟨some 2, (.mv (.t 8)), 23, none, 0⟩] (some [2]))
        .ret)))⟩
theorem fok_39 : FnOk Try.prog 39 fa_39 an_39 := ⟨Try.f39, _, Try.func39, rfl, by kernel_rfl, rfl, rfl, by decide, by kernel_rfl⟩
/-- impl.isNucleus$1 -/
def an_146 : Ann := ⟨[(1, 4, 3)], [(0, [0, 1]), (1, [3])], [], []⟩
def fa_146 : FnA := ⟨10, [.t 3],
  (.seq
    (.region false [⟨some 3, (.mv (.c (.bool false))), 4, none, 0⟩] (some [0, 1]))
    (.seq
      (.region false [⟨some 4, (.mv (.t 0)), 3, none, 0⟩, ⟨some 5, (.load 22 (.t 1)), 22, none, 0⟩, ⟨some 6, (.len 22 (.t 5)), 3, none, 0⟩, ⟨some 7, (.bin .sub 3 (.t 6) (.c (.int .i64 1))), 3, none, 0⟩, ⟨some 8, (.call (.f 80) [(.t 4), (.c (.int .i64 0)), (.t 7)]), 4, none, 3⟩, ⟨some 9, (.un .not (.t 8)), 4, none, 0⟩, ⟨some 3, (.mv (.t 9)), 4, none, 0⟩] (some [3]))
      .ret))⟩
theorem fok_146 : FnOk Try.prog 146 fa_146 an_146 := ⟨Try.f146, _, Try.func146, rfl, by kernel_rfl, rfl, rfl, by decide, by kernel_rfl⟩
/-- impl.isNucleus -/
def an_97 : Ann := ⟨[(1, 9, 3), (6, 7, 3), (11, 4, 3), (11, 16, 3), (11, 47, 3)], [(0, [2, 3]), (1, [2, 3, 17]), (2, [4]), (3, [2, 3, 19, 20]), (4, [2, 3, 19, 20, 21]), (5, [2, 3, 5, 19, 20]), (6, [2, 3, 5, 19, 20, 45]), (7, [4]), (8, [2, 3, 5, 19, 20, 47, 48]), (9, [2, 3, 5, 19, 20, 47, 48, 49]), (10, [2, 3, 5, 6, 19, 20, 47, 48]), (11, [2, 3, 5, 19, 20, 47, 48, 100]), (12, [4]), (13, [2, 3, 5, 19, 20, 47, 48]), (14, [2, 3, 19, 20]), (15, [4])], [(4, [2, 3, 19, 20], []), (9, [2, 3, 5, 19, 20, 47, 48], [])], []⟩
def lb_97_9 : AC :=
  (.seq
    (.region false [⟨some 49, (.bin .lss 3 (.t 48) (.t 47)), 0, none, 0⟩] (some [2, 3, 5, 19, 20, 47, 48, 49]))
    (.seq
      (.cond (.t 49)
        .skip
        (.exit 2))
      (.seq
        (.block 3
          (.seq
            (.region false [⟨some 50, (.mv (.t 48)), 3, none, 0⟩, ⟨some 6, (.mv (.t 50)), 3, none, 0⟩] (some [2, 3, 5, 6, 19, 20, 47, 48]))
            (.seq
              (.region true (gops (seg [2, 3, 5, 6, 19, 20, 47, 48, 56, 58, 59, 60] [⟨some 51, (.faddr 28 (.t 2) 0), 0, none, 0⟩, ⟨some 52, (.load 22 (.t 51)), 22, none, 0⟩, ⟨some 53, (.mv (.t 5)), 3, none, 0⟩, ⟨some 54, (.mv (.t 6)), 3, none, 0⟩, ⟨some 55, (.call (.f 88) [(.t 52), (.t 53), (.t 54)]), 4, none, 3⟩, ⟨some 56, (.mv (.t 55)), 4, none, 0⟩, ⟨some 57, (.faddr 28 (.t 2) 0), 0, some (56, true), 0⟩, ⟨some 58, (.load 22 (.t 57)), 22, some (56, true), 0⟩, ⟨some 59, (.load 22 (.t 3)), 22, some (56, true), 0⟩, ⟨some 60, (.mv (.t 5)), 3, some (56, true), 0⟩]
              (seg [2, 3, 5, 6, 19, 20, 47, 48, 70] [⟨some 61, (.iaddr 22 (.t 59) (.t 60)), 0, some (56, true), 0⟩, ⟨some 62, (.load 3 (.t 61)), 3, some (56, true), 0⟩, ⟨some 63, (.load 22 (.t 3)), 22, some (56, true), 0⟩, ⟨some 64, (.mv (.t 6)), 3, some (56, true), 0⟩, ⟨some 65, (.iaddr 22 (.t 63) (.t 64)), 0, some (56, true), 0⟩, ⟨some 66, (.load 3 (.t 65)), 3, some (56, true), 0⟩, ⟨some 67, (.call (.f 88) [(.t 58), (.t 62), (.t 66)]), 4, some (56, true), 3⟩, ⟨some 68, (.un .not (.t 67)), 4, some (56, true), 0⟩, ⟨some 69, (.pick (.t 56) (.t 68) (.c (.bool false))), 4, none, 0⟩, ⟨some 70, (.mv (.t 69)), 4, none, 0⟩]
              (seg [2, 3, 5, 6, 19, 20, 47, 48, 70, 72, 80] [⟨some 71, (.faddr 28 (.t 2) 0), 0, some (70, false), 0⟩, ⟨some 72, (.load 22 (.t 71)), 22, some (70, false), 0⟩, ⟨some 73, (.faddr 28 (.t 2) 1), 0, some (70, false), 0⟩, ⟨some 74, (.load 23 (.t 73)), 23, some (70, false), 0⟩, ⟨some 75, (.load 22 (.t 3)), 22, some (70, false), 0⟩, ⟨some 76, (.mv (.t 5)), 3, some (70, false), 0⟩, ⟨some 77, (.iaddr 22 (.t 75) (.t 76)), 0, some (70, false), 0⟩, ⟨some 78, (.load 3 (.t 77)), 3, some (70, false), 0⟩, ⟨some 79, (.iaddr 23 (.t 74) (.t 78)), 0, some (70, false), 0⟩, ⟨some 80, (.load 22 (.t 79)), 22, some (70, false), 0⟩]
              (seg [2, 3, 5, 6, 19, 20, 47, 48, 70, 72, 86, 87, 89, 90] [⟨some 81, (.load 22 (.t 3)), 22, some (70, false), 0⟩, ⟨some 82, (.mv (.t 6)), 3, some (70, false), 0⟩, ⟨some 83, (.iaddr 22 (.t 81) (.t 82)), 0, some (70, false), 0⟩, ⟨some 84, (.load 3 (.t 83)), 3, some (70, false), 0⟩, ⟨some 85, (.iaddr 22 (.t 80) (.t 84)), 0, some (70, false), 0⟩, ⟨some 86, (.load 3 (.t 85)), 3, some (70, false), 0⟩, ⟨some 87, (.load 22 (.t 3)), 22, some (70, false), 0⟩, ⟨some 88, (.faddr 28 (.t 2) 1), 0, some (70, false), 0⟩, ⟨some 89, (.load 23 (.t 88)), 23, some (70, false), 0⟩, ⟨some 90, (.mv (.t 5)), 3, some (70, false), 0⟩]
              [⟨some 91, (.iaddr 23 (.t 89) (.t 90)), 0, some (70, false), 0⟩, ⟨some 92, (.load 22 (.t 91)), 22, some (70, false), 0⟩, ⟨some 93, (.mv (.t 6)), 3, some (70, false), 0⟩, ⟨some 94, (.iaddr 22 (.t 92) (.t 93)), 0, some (70, false), 0⟩, ⟨some 95, (.load 3 (.t 94)), 3, some (70, false), 0⟩, ⟨some 96, (.iaddr 22 (.t 87) (.t 95)), 0, some (70, false), 0⟩, ⟨some 97, (.load 3 (.t 96)), 3, some (70, false), 0⟩, ⟨some 98, (.call (.f 88) [(.t 72), (.t 86), (.t 97)]), 4, some (70, false), 3⟩, ⟨some 99, (.un .not (.t 98)), 4, some (70, false), 0⟩, ⟨some 100, (.pick (.t 70) (.c (.bool true)) (.t 99)), 4, none, 0⟩] [2, 3, 5, 19, 20, 47, 48, 100] (by decide)) [2, 3, 5, 19, 20, 47, 48, 100] (by decide)) [2, 3, 5, 19, 20, 47, 48, 100] (by decide)) [2, 3, 5, 19, 20, 47, 48, 100] (by decide))) (some [2, 3, 5, 19, 20, 47, 48, 100]))
              (.cond (.t 100)
                (.seq
                  (.region false [⟨some 4, (.mv (.c (.bool false))), 4, none, 0⟩] (some [4]))
                  .ret)
                .skip))))
        (.region false [⟨some 101, (.bin .add 3 (.t 48) (.c (.int .i64 1))), 3, none, 0⟩, ⟨some 48, (.mv (.t 101)), 3, none, 0⟩] (some [2, 3, 5, 19, 20, 47, 48])))))
def lb_97_4 : AC :=
  (.seq
    (.region false [⟨some 21, (.bin .lss 3 (.t 20) (.t 19)), 0, none, 0⟩] (some [2, 3, 19, 20, 21]))
    (.seq
      (.cond (.t 21)
        .skip
        (.exit 0))
      (.seq
        (.block 1
          (.seq
            (.region false [⟨some 22, (.mv (.t 20)), 3, none, 0⟩, ⟨some 5, (.mv (.t 22)), 3, none, 0⟩] (some [2, 3, 5, 19, 20]))
            (.seq
              (.seq
                (.region true (gops (seg [2, 3, 5, 19, 20, 32] [⟨some 23, (.faddr 28 (.t 2) 0), 0, none, 0⟩, ⟨some 24, (.load 22 (.t 23)), 22, none, 0⟩, ⟨some 25, (.mv (.t 5)), 3, none, 0⟩, ⟨some 26, (.load 22 (.t 3)), 22, none, 0⟩, ⟨some 27, (.mv (.t 5)), 3, none, 0⟩, ⟨some 28, (.iaddr 22 (.t 26) (.t 27)), 0, none, 0⟩, ⟨some 29, (.load 3 (.t 28)), 3, none, 0⟩, ⟨some 30, (.call (.f 88) [(.t 24), (.t 25), (.t 29)]), 4, none, 3⟩, ⟨some 31, (.un .not (.t 30)), 4, none, 0⟩, ⟨some 32, (.mv (.t 31)), 4, none, 0⟩]
                [⟨some 33, (.load 22 (.t 3)), 22, some (32, false), 0⟩, ⟨some 34, (.load 22 (.t 3)), 22, some (32, false), 0⟩, ⟨some 35, (.mv (.t 5)), 3, some (32, false), 0⟩, ⟨some 36, (.iaddr 22 (.t 34) (.t 35)), 0, some (32, false), 0⟩, ⟨some 37, (.load 3 (.t 36)), 3, some (32, false), 0⟩, ⟨some 38, (.iaddr 22 (.t 33) (.t 37)), 0, some (32, false), 0⟩, ⟨some 39, (.load 3 (.t 38)), 3, some (32, false), 0⟩, ⟨some 40, (.load 22 (.t 3)), 22, some (32, false), 0⟩, ⟨some 41, (.mv (.t 5)), 3, some (32, false), 0⟩, ⟨some 42, (.iaddr 22 (.t 40) (.t 41)), 0, some (32, false), 0⟩, ⟨some 43, (.load 3 (.t 42)), 3, some (32, false), 0⟩, ⟨some 44, (.bin .neq 3 (.t 39) (.t 43)), 4, some (32, false), 0⟩, ⟨some 45, (.pick (.t 32) (.c (.bool true)) (.t 44)), 4, none, 0⟩] [2, 3, 5, 19, 20, 45] (by decide))) (some [2, 3, 5, 19, 20, 45]))
                (.cond (.t 45)
                  (.seq
                    (.region false [⟨some 4, (.mv (.c (.bool false))), 4, none, 0⟩] (some [4]))
                    .ret)
                  .skip))
              (.seq
                (.region false [⟨some 46, (.load 22 (.t 3)), 22, none, 0⟩, ⟨some 47, (.len 22 (.t 46)), 3, none, 0⟩, ⟨some 48, (.mv (.c (.int .i64 0))), 3, none, 0⟩] (some [2, 3, 5, 19, 20, 47, 48]))
                (.block 2
                  (.loop [2, 3, 5, 19, 20, 47, 48] [] lb_97_9))))))
        (.region false [⟨some 102, (.bin .add 3 (.t 20) (.c (.int .i64 1))), 3, none, 0⟩, ⟨some 20, (.mv (.t 102)), 3, none, 0⟩] (some [2, 3, 19, 20])))))
def fa_97 : FnA := ⟨103, [.t 4],
  (.seq
    (.region false [⟨some 2, (.box 28 (.t 0)), 0, none, 0⟩, ⟨some 3, (.box 22 (.t 1)), 0, none, 0⟩, ⟨some 4, (.mv (.c (.bool false))), 4, none, 0⟩] (some [2, 3]))
    (.seq
      (.seq
        (.region false (gops [⟨some 7, (.load 22 (.t 3)), 22, none, 0⟩, ⟨some 8, (.len 22 (.t 7)), 3, none, 0⟩, ⟨some 9, (.faddr 28 (.t 2) 0), 0, none, 0⟩, ⟨some 10, (.load 22 (.t 9)), 22, none, 0⟩, ⟨some 11, (.len 22 (.t 10)), 3, none, 0⟩, ⟨some 12, (.bin .neq 3 (.t 8) (.t 11)), 4, none, 0⟩, ⟨some 13, (.mv (.t 12)), 4, none, 0⟩, ⟨some 14, (.load 22 (.t 3)), 22, some (13, false), 0⟩, ⟨some 15, (.mkfn 146 [(.t 3)]), 42, some (13, false), 0⟩, ⟨some 16, (.call (.f 129) [(.t 14), (.t 15)]), 4, some (13, false), 3⟩, ⟨some 17, (.pick (.t 13) (.c (.bool true)) (.t 16)), 4, none, 0⟩]) (some [2, 3, 17]))
        (.cond (.t 17)
          (.seq
            (.region false [⟨some 4, (.mv (.c (.bool false))), 4, none, 0⟩] (some [4]))
            .ret)
          .skip))
      (.seq
        (.seq
          (.region false [⟨some 18, (.load 22 (.t 3)), 22, none, 0⟩, ⟨some 19, (.len 22 (.t 18)), 3, none, 0⟩, ⟨some 20, (.mv (.c (.int .i64 0))), 3, none, 0⟩] (some [2, 3, 19, 20]))
          (.block 0
            (.loop [2, 3, 19, 20] [] lb_97_4)))
        (.seq
          (.region false [⟨some 4, (.mv (.c (.bool true))), 4, none, 0⟩] (some [4]))
          .ret))))⟩
theorem fok_97 : FnOk Try.prog 97 fa_97 an_97 := ⟨Try.f97, _, Try.func97, rfl, by kernel_rfl, rfl, rfl, by decide, by kernel_rfl⟩
/-- impl.NucleiOf$1 -/
def an_96 : Ann := ⟨[(0, 2, 3), (1, 2, 1), (1, 3, 2)], [(0, [0, 2, 6]), (1, [])], [], [(1, (.one 1 (.alt 0 (.alt 2 (.one 3 (.alt 4 (.alt 5 .fin .stop) .stop)) .stop) (.alt 2 (.one 3 (.alt 0 (.alt 4 (.alt 5 .fin .stop) .stop) .stop)) .stop))), [4064, 24, 56])]⟩
def fa_96 : FnA := ⟨12, [],
  (.seq
    (.region false [⟨some 4, (.load 28 (.t 1)), 28, none, 0⟩, ⟨some 5, (.mv (.t 0)), 22, none, 0⟩, ⟨some 6, (.call (.f 97) [(.t 4), (.t 5)]), 4, none, 3⟩] (some [0, 2, 6]))
    (.cond (.t 6)
      (.expl [⟨some 7, (.load 23 (.t 2)), 23, none, 0⟩, ⟨some 8, (.mv (.t 0)), 22, none, 0⟩, ⟨some 9, (.call (.f 98) [(.t 8)]), 22, none, 1⟩, ⟨some 10, (.bslice 23 1 [(0, (.t 9))]), 23, none, 2⟩, ⟨some 11, (.app 23 23 (.t 7) (.t 10)), 23, none, 0⟩, ⟨none, (.store 23 (.t 2) (.t 11)), 0, none, 0⟩] (.one 1 (.alt 0 (.alt 2 (.one 3 (.alt 4 (.alt 5 .fin .stop) .stop)) .stop) (.alt 2 (.one 3 (.alt 0 (.alt 4 (.alt 5 .fin .stop) .stop) .stop)) .stop))) [] [4064, 24, 56])
      .skip))⟩
theorem fok_96 : FnOk Try.prog 96 fa_96 an_96 := ⟨Try.f96, _, Try.func96, rfl, by kernel_rfl, rfl, rfl, by decide, by kernel_rfl⟩
/-- impl.NucleiOf -/
def an_40 : Ann := ⟨[(1, 1, 3), (3, 0, 1), (4, 8, 3), (4, 10, 16)], [(0, [1]), (1, [1, 6]), (2, [2]), (3, [1, 3]), (4, [3]), (5, [2])], [], []⟩
def fa_40 : FnA := ⟨20, [.t 2],
  (.seq
    (.region false [⟨some 1, (.box 28 (.t 0)), 0, none, 0⟩, ⟨some 2, (.mv (.c .nil)), 23, none, 0⟩] (some [1]))
    (.seq
      (.seq
        (.region false [⟨some 4, (.load 28 (.t 1)), 28, none, 0⟩, ⟨some 5, (.call (.f 72) [(.t 4)]), 4, none, 3⟩, ⟨some 6, (.un .not (.t 5)), 4, none, 0⟩] (some [1, 6]))
        (.cond (.t 6)
          (.seq
            (.region false [⟨some 2, (.mv (.c .nil)), 23, none, 0⟩] (some [2]))
            .ret)
          .skip))
      (.seq
        (.region false [⟨some 7, (.bslice 23 0 []), 23, none, 1⟩, ⟨some 3, (.alloc 23), 0, none, 0⟩, ⟨none, (.store 23 (.t 3) (.t 7)), 0, none, 0⟩] (some [1, 3]))
        (.seq
          (.region false [⟨some 8, (.faddr 28 (.t 1) 0), 0, none, 0⟩, ⟨some 9, (.load 22 (.t 8)), 22, none, 0⟩, ⟨some 10, (.len 22 (.t 9)), 3, none, 0⟩, ⟨some 11, (.bin .sub 3 (.t 10) (.c (.int .i64 1))), 3, none, 0⟩, ⟨some 12, (.bslice 22 1 [(0, (.t 11))]), 22, none, 0⟩, ⟨some 13, (.faddr 28 (.t 1) 0), 0, none, 0⟩, ⟨some 14, (.load 22 (.t 13)), 22, none, 0⟩, ⟨some 15, (.len 22 (.t 14)), 3, none, 0⟩, ⟨some 16, (.call (.f 95) [(.t 12), (.t 15)]), 22, none, 3⟩, ⟨some 17, (.mkfn 96 [(.t 1), (.t 3)]), 86, none, 0⟩, ⟨some 18, (.call (.f 94) [(.t 16), (.t 17)]), 0, none, 16⟩] (some [3]))
          (.seq
            (.region false [⟨some 19, (.load 23 (.t 3)), 23, none, 0⟩, ⟨some 2, (.mv (.t 19)), 23, none, 0⟩] (some [2]))
            .ret)))))⟩
theorem fok_40 : FnOk Try.prog 40 fa_40 an_40 := ⟨Try.f40, _, Try.func40, rfl, by kernel_rfl, rfl, rfl, by decide, by kernel_rfl⟩
/-- laws.FnExactNucleiOf -/
def an_8 : Ann := ⟨[(2, 2, 3), (5, 1, 3), (5, 2, 3), (6, 1, 1), (7, 1, 1), (8, 2, 3), (10, 2, 3), (10, 3, 3), (13, 2, 16), (14, 5, 3), (17, 2, 16), (19, 2, 3), (24, 1, 3), (24, 2, 3), (25, 2, 3), (28, 2, 3)], [(0, [1]), (1, [1, 3]), (2, [1, 3]), (3, [1, 15]), (4, [2]), (5, [1, 4]), (6, [1, 4, 5]), (7, [1, 4, 5, 6]), (8, [1, 4, 5, 6, 26]), (9, [2]), (10, [1, 4, 5, 6, 31]), (11, [2]), (12, [1, 4, 5, 6, 7]), (13, [1, 4, 6, 7]), (14, [1, 4, 6, 42]), (15, [2]), (16, [1, 4, 6, 8]), (17, [1, 4, 6, 8]), (18, [1, 4, 6, 8, 9]), (19, [1, 4, 6, 8, 9]), (20, [1, 4, 6, 8, 9, 50]), (21, [2]), (22, [1, 4, 6, 8, 53]), (23, [2]), (24, [4, 6, 8, 10]), (25, [6, 8, 60]), (26, [2]), (27, [6, 8, 9]), (28, [8, 9]), (29, [8, 9, 65]), (30, [2]), (31, [68]), (32, [2]), (33, [2])], [], []⟩
def fa_8 : FnA := ⟨69, [.t 2],
  (.seq
    (.region false [⟨some 1, (.box 25 (.t 0)), 0, none, 0⟩, ⟨some 2, (.mv (.c (.bool false))), 4, none, 0⟩] (some [1]))
    (.seq
      (.region false [⟨some 3, (.mv (.c (.int .i64 1048576))), 3, none, 0⟩] (some [1, 3]))
      (.seq
        (.region false [⟨some 11, (.load 25 (.t 1)), 25, none, 0⟩, ⟨some 12, (.mv (.t 3)), 3, none, 0⟩, ⟨some 13, (.call (.f 17) [(.t 11), (.t 12)]), 3, none, 3⟩, ⟨some 3, (.mv (.t 13)), 3, none, 0⟩] (some [1, 3]))
        (.seq
          (.seq
            (.region false [⟨some 14, (.mv (.t 3)), 3, none, 0⟩, ⟨some 15, (.bin .lss 3 (.t 14) (.c (.int .i64 0))), 4, none, 0⟩] (some [1, 15]))
            (.cond (.t 15)
              (.seq
                (.region false [⟨some 2, (.mv (.c (.bool true))), 4, none, 0⟩] (some [2]))
                .ret)
              .skip))
          (.seq
            (.region false [⟨some 16, (.load 25 (.t 1)), 25, none, 0⟩, ⟨some 17, (.call (.f 19) [(.t 16)]), 28, none, 3⟩, ⟨some 18, (.call (.f 39) [(.t 17)]), 23, none, 3⟩, ⟨some 4, (.mv (.t 18)), 23, none, 0⟩] (some [1, 4]))
            (.seq
              (.region false [⟨some 19, (.load 25 (.t 1)), 25, none, 0⟩, ⟨some 20, (.call (.f 19) [(.t 19)]), 28, none, 1⟩, ⟨some 5, (.alloc 28), 0, none, 0⟩, ⟨none, (.store 28 (.t 5) (.t 20)), 0, none, 0⟩] (some [1, 4, 5]))
              (.seq
                (.region false [⟨some 21, (.load 28 (.t 5)), 28, none, 0⟩, ⟨some 22, (.call (.f 40) [(.t 21)]), 23, none, 1⟩, ⟨some 6, (.mv (.t 22)), 23, none, 0⟩] (some [1, 4, 5, 6]))
                (.seq
                  (.seq
                    (.region false [⟨some 23, (.mv (.t 6)), 23, none, 0⟩, ⟨some 24, (.mv (.t 4)), 23, none, 0⟩, ⟨some 25, (.call (.f 41) [(.t 23), (.t 24)]), 4, none, 3⟩, ⟨some 26, (.un .not (.t 25)), 4, none, 0⟩] (some [1, 4, 5, 6, 26]))
                    (.cond (.t 26)
                      (.seq
                        (.region false [⟨some 2, (.mv (.c (.bool false))), 4, none, 0⟩] (some [2]))
                        .ret)
                      .skip))
                  (.seq
                    (.seq
                      (.region true [⟨some 27, (.load 28 (.t 5)), 28, none, 0⟩, ⟨some 28, (.load 25 (.t 1)), 25, none, 0⟩, ⟨some 29, (.call (.f 19) [(.t 28)]), 28, none, 3⟩, ⟨some 30, (.call (.f 22) [(.t 27), (.t 29)]), 4, none, 3⟩, ⟨some 31, (.un .not (.t 30)), 4, none, 0⟩] (some [1, 4, 5, 6, 31]))
                      (.cond (.t 31)
                        (.seq
                          (.region false [⟨some 2, (.mv (.c (.bool false))), 4, none, 0⟩] (some [2]))
                          .ret)
                        .skip))
                    (.seq
                      (.region false [⟨some 7, (.mv (.c (.int .i64 1))), 3, none, 0⟩] (some [1, 4, 5, 6, 7]))
                      (.seq
                        (.region false [⟨some 32, (.load 28 (.t 5)), 28, none, 0⟩, ⟨some 33, (.mv (.t 7)), 3, none, 0⟩, ⟨some 34, (.call (.f 26) [(.t 32), (.t 33)]), 3, none, 16⟩, ⟨some 7, (.mv (.t 34)), 3, none, 0⟩] (some [1, 4, 6, 7]))
                        (.seq
                          (.seq
                            (.region false (gops [⟨some 35, (.mv (.t 7)), 3, none, 0⟩, ⟨some 36, (.bin .lss 3 (.t 35) (.c (.int .i64 0))), 4, none, 0⟩, ⟨some 37, (.mv (.t 36)), 4, none, 0⟩, ⟨some 38, (.mv (.t 6)), 23, some (37, false), 0⟩, ⟨some 39, (.mv (.t 4)), 23, some (37, false), 0⟩, ⟨some 40, (.call (.f 41) [(.t 38), (.t 39)]), 4, some (37, false), 3⟩, ⟨some 41, (.un .not (.t 40)), 4, some (37, false), 0⟩, ⟨some 42, (.pick (.t 37) (.c (.bool true)) (.t 41)), 4, none, 0⟩]) (some [1, 4, 6, 42]))
                            (.cond (.t 42)
                              (.seq
                                (.region false [⟨some 2, (.mv (.c (.bool false))), 4, none, 0⟩] (some [2]))
                                .ret)
                              .skip))
                          (.seq
                            (.region false [⟨some 8, (.mv (.c (.int .i64 1))), 3, none, 0⟩] (some [1, 4, 6, 8]))
                            (.seq
                              (.region false [⟨some 43, (.mv (.t 6)), 23, none, 0⟩, ⟨some 44, (.mv (.t 8)), 3, none, 0⟩, ⟨some 45, (.call (.f 42) [(.t 43), (.t 44)]), 3, none, 16⟩, ⟨some 8, (.mv (.t 45)), 3, none, 0⟩] (some [1, 4, 6, 8]))
                              (.seq
                                (.region false [⟨some 9, (.mv (.c (.int .i64 1))), 3, none, 0⟩] (some [1, 4, 6, 8, 9]))
                                (.seq
                                  (.region false [⟨some 46, (.mv (.t 6)), 23, none, 0⟩, ⟨some 47, (.mv (.t 9)), 3, none, 0⟩, ⟨some 48, (.call (.f 43) [(.t 46), (.t 47)]), 3, none, 3⟩, ⟨some 9, (.mv (.t 48)), 3, none, 0⟩] (some [1, 4, 6, 8, 9]))
                                  (.seq
                                    (.seq
                                      (.region false [⟨some 49, (.mv (.t 9)), 3, none, 0⟩, ⟨some 50, (.bin .lss 3 (.t 49) (.c (.int .i64 0))), 4, none, 0⟩] (some [1, 4, 6, 8, 9, 50]))
                                      (.cond (.t 50)
                                        (.seq
                                          (.region false [⟨some 2, (.mv (.c (.bool false))), 4, none, 0⟩] (some [2]))
                                          .ret)
                                        .skip))
                                    (.seq
                                      (.seq
                                        (.region false [⟨some 51, (.mv (.t 9)), 3, none, 0⟩, ⟨some 52, (.mv (.t 8)), 3, none, 0⟩, ⟨some 53, (.bin .neq 3 (.t 51) (.t 52)), 4, none, 0⟩] (some [1, 4, 6, 8, 53]))
                                        (.cond (.t 53)
                                          (.seq
                                            (.region false [⟨some 2, (.mv (.c (.bool false))), 4, none, 0⟩] (some [2]))
                                            .ret)
                                          .skip))
                                      (.seq
                                        (.region false [⟨some 54, (.load 25 (.t 1)), 25, none, 0⟩, ⟨some 55, (.call (.f 19) [(.t 54)]), 28, none, 3⟩, ⟨some 56, (.call (.f 40) [(.t 55)]), 23, none, 3⟩, ⟨some 10, (.mv (.t 56)), 23, none, 0⟩] (some [4, 6, 8, 10]))
                                        (.seq
                                          (.seq
                                            (.region false [⟨some 57, (.mv (.t 10)), 23, none, 0⟩, ⟨some 58, (.mv (.t 4)), 23, none, 0⟩, ⟨some 59, (.call (.f 41) [(.t 57), (.t 58)]), 4, none, 3⟩, ⟨some 60, (.un .not (.t 59)), 4, none, 0⟩] (some [6, 8, 60]))
                                            (.cond (.t 60)
                                              (.seq
                                                (.region false [⟨some 2, (.mv (.c (.bool false))), 4, none, 0⟩] (some [2]))
                                                .ret)
                                              .skip))
                                          (.seq
                                            (.region false [⟨some 9, (.mv (.c (.int .i64 1))), 3, none, 0⟩] (some [6, 8, 9]))
                                            (.seq
                                              (.region false [⟨some 61, (.mv (.t 6)), 23, none, 0⟩, ⟨some 62, (.mv (.t 9)), 3, none, 0⟩, ⟨some 63, (.call (.f 43) [(.t 61), (.t 62)]), 3, none, 3⟩, ⟨some 9, (.mv (.t 63)), 3, none, 0⟩] (some [8, 9]))
                                              (.seq
                                                (.seq
                                                  (.region false [⟨some 64, (.mv (.t 9)), 3, none, 0⟩, ⟨some 65, (.bin .lss 3 (.t 64) (.c (.int .i64 0))), 4, none, 0⟩] (some [8, 9, 65]))
                                                  (.cond (.t 65)
                                                    (.seq
                                                      (.region false [⟨some 2, (.mv (.c (.bool false))), 4, none, 0⟩] (some [2]))
                                                      .ret)
                                                    .skip))
                                                (.seq
                                                  (.seq
                                                    (.region false [⟨some 66, (.mv (.t 9)), 3, none, 0⟩, ⟨some 67, (.mv (.t 8)), 3, none, 0⟩, ⟨some 68, (.bin .neq 3 (.t 66) (.t 67)), 4, none, 0⟩] (some [68]))
                                                    (.cond (.t 68)
                                                      (.seq
                                                        (.region false [⟨some 2, (.mv (.c (.bool false))), 4, none, 0⟩] (some [2]))
                                                        .ret)
                                                      .skip))
                                                  (.seq
                                                    (.region false [⟨some 2, (.mv (.c (.bool true))), 4, none, 0⟩] (some [2]))
                                                    .ret)))))))))))))))))))))))))⟩
theorem fok_8 : FnOk Try.prog 8 fa_8 an_8 := ⟨Try.f8, _, Try.func8, rfl, by kernel_rfl, rfl, rfl, by decide, by kernel_rfl⟩
end Go.PS
end

section
-- Lists of lists, cut early; nuclei: what the functions compute, in plain Lean.
set_option linter.unusedVariables false
set_option linter.unusedSimpArgs false
namespace Go.PS

/-- All lists that begin with one, with so many more elements. -/
def ext (n : Nat) : Nat → List Int → List (List Int)
  | 0, h => [h]
  | k + 1, h => (List.range n).flatMap fun (y : Nat) => ext n k (h ++ [(y : Int)])
theorem ext_nxt (n : Nat) : ∀ k h, ext n (k + 1) h = nxt n (ext n k h)
  | 0, h => by
    simp only [ext, nxt, List.flatMap_cons, List.flatMap_nil, List.append_nil]
    induction List.range n with
    | nil => rfl
    | cons a l ih => simp only [List.flatMap_cons, List.map_cons, List.singleton_append, ih]
  | k + 1, h => by
    have e : ext n (k + 2) h = (List.range n).flatMap fun (y : Nat) => nxt n (ext n k (h ++ [(y : Int)])) := by
      show (List.range n).flatMap (fun (y : Nat) => ext n (k + 1) (h ++ [(y : Int)])) = _
      congr 1
      funext y
      exact ext_nxt n k _
    rw [e]
    show _ = nxt n ((List.range n).flatMap fun (y : Nat) => ext n k (h ++ [(y : Int)]))
    unfold nxt
    rw [List.flatMap_assoc]
theorem ext_asgK (n : Nat) : ∀ m, ext n m [] = asgK n m
  | 0 => rfl
  | m + 1 => by rw [ext_nxt, ext_asgK n m]; rfl
theorem asgK_dig {n : Nat} (hn : 1 ≤ n) (m : Nat) : asgK n m = (List.range (n ^ m)).map (dig n m) := by
  apply List.ext_getElem?
  intro i
  by_cases h : i < n ^ m
  · have := gr_asgK hn m i h
    have hl : i < (asgK n m).length := by rw [asgK_length]; exact h
    rw [List.getElem?_eq_getElem hl]
    simp only [gr, List.getElem?_eq_getElem hl, Option.getD_some] at this
    rw [this]
    simp [h]
  · rw [List.getElem?_eq_none (by rw [asgK_length]; omega), List.getElem?_eq_none (by simp; omega)]
theorem mem_ext {n : Nat} : ∀ {k : Nat} {h l : List Int}, l ∈ ext n k h → ∃ w, l = h ++ w ∧ w.length = k
  | 0, h, l, hl => by simp [ext] at hl; exact ⟨[], by simp [hl], rfl⟩
  | k + 1, h, l, hl => by
    simp only [ext, List.mem_flatMap] at hl
    obtain ⟨y, _, hl⟩ := hl
    obtain ⟨w, rfl, hw⟩ := mem_ext hl
    exact ⟨(y : Int) :: w, by simp, by simp [hw]⟩

/-- The same, cut where 'ok' fails, of those that are good. -/
def prn (n : Nat) (ok : List Int → Nat → Bool) (good : List Int → Bool) : Nat → List Int → List (List Int)
  | 0, h => if good h = true then [h] else []
  | k + 1, h => (List.range n).flatMap fun (y : Nat) => if ok h y = true then prn n ok good k (h ++ [(y : Int)]) else []
theorem prn_eq {n : Nat} {ok : List Int → Nat → Bool} {good : List Int → Bool} (H : ∀ k h y l, y < n → l ∈ ext n k (h ++ [(y : Int)]) → good l = true → ok h y = true) : ∀ k h, prn n ok good k h = (ext n k h).filter good
  | 0, h => by
    simp only [prn, ext, List.filter_cons, List.filter_nil]
  | k + 1, h => by
    simp only [prn, ext, List.filter_flatMap]
    rw [List.flatMap_def, List.flatMap_def]
    congr 1
    apply List.map_congr_left
    intro y hy
    have hy : y < n := by simpa using hy
    split
    · exact prn_eq H k _
    · rename_i hok
      symm
      rw [List.filter_eq_nil_iff]
      intro l hl hg
      exact hok (H k h y l hy hl hg)

structure NU (u : List Int) (t : List (List Int)) (j : List Int) : Prop where
  len : j.length = u.length
  rng : ∀ x, x < u.length → 0 ≤ gi j x ∧ gi j x < u.length
  up : ∀ x, x < u.length → tb u x (gi j x).toNat = true ∧ gi j (gi j x).toNat = gi j x
  pr : ∀ x, x < u.length → ∀ y, y < u.length → (tb u x y = true → tb u (gi j x).toNat (gi j y).toNat = true) ∧ tb u (tn t (gi j x).toNat (gi j y).toNat) (gi j (tn t x y)).toNat = true
noncomputable instance (u : List Int) (t : List (List Int)) (j : List Int) : Decidable (NU u t j) := Classical.propDecidable _

/-- What the reference asks of one more element. -/
def nok (u : List Int) (h : List Int) (y : Nat) : Bool := tb u h.length y && (List.range h.length).all fun z => !tb u z h.length || tb u (gi h z).toNat y
noncomputable def nucM (u : List Int) (t : List (List Int)) : List (List Int) := ((List.range (u.length ^ u.length)).map (dig u.length u.length)).filter fun j => decide (NU u t j)

theorem gi_append_left {a b : List Int} {i : Nat} (h : i < a.length) : gi (a ++ b) i = gi a i := by simp [gi, List.getElem?_append_left h]
theorem gi_append_at {a b : List Int} {y : Int} : gi (a ++ y :: b) a.length = y := by simp [gi]

theorem nuc_prn {u : List Int} {t : List (List Int)} (hp : 1 ≤ u.length) : prn u.length (nok u) (fun j => decide (NU u t j)) u.length [] = nucM u t := by
  rw [prn_eq, ext_asgK, asgK_dig hp, nucM]
  intro k h y l hy hl hg
  have v : NU u t l := of_decide_eq_true hg
  obtain ⟨w, rfl, hw⟩ := mem_ext hl
  have hlen := v.len
  simp only [List.length_append, List.length_cons, List.length_nil] at hlen
  have hx : h.length < u.length := by omega
  have e1 : gi (h ++ [(y : Int)] ++ w) h.length = y := by rw [List.append_assoc]; exact gi_append_at
  have h1 := (v.up h.length hx).1
  rw [e1] at h1
  simp only [nok, Bool.and_eq_true, List.all_eq_true, List.mem_range, Bool.or_eq_true, Bool.not_eq_true']
  refine ⟨by simpa using h1, fun z hz => ?_⟩
  have h2 := (v.pr z (by omega) h.length hx).1
  rw [e1] at h2
  have e2 : gi (h ++ [(y : Int)] ++ w) z = gi h z := by rw [List.append_assoc]; exact gi_append_left hz
  rw [e2] at h2
  cases hb : tb u z h.length with
  | false => exact .inl rfl
  | true => exact .inr (by simpa using h2 hb)
end Go.PS
end

section
-- Contracts: nuclei.
set_option maxRecDepth 100000
set_option linter.unusedVariables false
set_option linter.unusedSimpArgs false
namespace Go.PS
open Go.Proofs

set_option maxHeartbeats 2000000 in
theorem isNucS_pc (u : List Int) (t : List (List Int)) (j : List Int) (f : TF u t) (hj : Big j.length) : PC Try.prog 85 [AL u t, IL j] none true (fun r _ => r = .bool (decide (NU u t j))) := by
  have v := f.lat
  have hl := v.sm.le
  refine pcT [fm_inRange, fm_belowS] fok_85 ?_
  simp [fa_85]
  refine ⟨fun h w => h (by have := w.len; omega), fun hlen => ?_⟩
  have hlen : j.length = u.length := by omega
  have ew := wrap64 (n := (u.length : Int) - 1) (by omega) (by omega)
  refine loopA (tabK_mono _) u.length (fun i => [(6, I64 i)]) (fun _ => []) (fun x => 0 ≤ gi j x ∧ gi j x < u.length) (by simp) (by simp) (fun x g hx hP => ?_)
  simp [lb_85_5, wrap_succ hx hl, hlen, ew]
  refine ⟨fun h => ⟨h, fun h2 w => ?_, fun h2 h3 => ⟨h, h2, by omega⟩⟩, fun h => ?_⟩
  · have := w.rng x h
    omega
  have hr : ∀ x, x < u.length → 0 ≤ gi j x ∧ gi j x < u.length := fun x hx => hP x (by omega)
  have hrN : ∀ x, x < u.length → (gi j x).toNat < u.length := fun x hx => by have := hr x hx; omega
  clear hP hx h x
  refine loopA (tabK_mono _) u.length (fun i => [(7, I64 i)]) (fun _ => []) (fun x => (tb u x (gi j x).toNat = true ∧ gi j (gi j x).toNat = gi j x) ∧ ∀ y, y < u.length → (tb u x y = true → tb u (gi j x).toNat (gi j y).toNat = true) ∧ tb u (tn t (gi j x).toNat (gi j y).toNat) (gi j (tn t x y)).toNat = true) (by simp) (by simp) (fun x g hx hP => ?_)
  simp [lb_85_10, wrap_succ hx hl]
  refine ⟨fun h => ?_, fun h => ⟨hlen, hr, fun x hx => (hP x (by omega)).1, fun x hx => (hP x (by omega)).2⟩⟩
  refine cutWc (tabK_mono _) [(56, .bool (!tb u x (gi j x).toNat || decide (gi j (gi j x).toNat ≠ gi j x)))] (by cases hb1 : tb u x (gi j x).toNat <;> simp [hb1, hlen, h, hr, hrN, v.sm]) ?_
  simp
  refine ⟨fun h2 w => by have := w.up x h; grind, fun h2 h3 => ?_⟩
  refine loopA (tabK_mono _) u.length (fun i => [(8, I64 i)]) (fun _ => []) (fun y => (tb u x y = true → tb u (gi j x).toNat (gi j y).toNat = true) ∧ tb u (tn t (gi j x).toNat (gi j y).toNat) (gi j (tn t x y)).toNat = true) (by simp) (by simp) (fun y g hy hQ => ?_)
  simp [lb_85_15, wrap_succ hx hl, wrap_succ hy hl]
  refine ⟨fun h4 => ?_, fun h4 => ⟨h, ⟨h2, h3⟩, fun y hy => hQ y (by omega)⟩⟩
  have q1 := hr x h
  have q2 := hr y h4
  have q3 := hrN x h
  have q4 := hrN y h4
  have q5 := hr _ (f.ltN x y h h4)
  refine cutWc (tabK_mono _) [(111, .bool ((tb u x y && !tb u (gi j x).toNat (gi j y).toNat) || !tb u (tn t (gi j x).toNat (gi j y).toNat) (gi j (tn t x y)).toNat))] (by cases hb1 : tb u x y <;> cases hb2 : tb u (gi j x).toNat (gi j y).toNat <;> cases hb3 : tb u (tn t (gi j x).toNat (gi j y).toNat) (gi j (tn t x y)).toNat <;> simp (maxSteps := 2000000) [hb1, hb2, hb3, hlen, f.len, f.rows, h, h4, q1, q2, q3, q4, q5, f.nn, f.lt, f.ltN, v.sm]) ?_
  simp [wrap_succ hy hl]
  refine ⟨fun h7 w => ?_, fun h7 h8 => ⟨h4, h7, h8⟩⟩
  have := w.pr x h y h4
  grind
noncomputable def fm_isNucS : Fam Try.prog := mkFam (X := List Int × List (List Int) × List Int) 85 true (fun (u, t, j) => [AL u t, IL j]) (fun (u, t, j) => (TF u t) ∧ (Big j.length)) (fun (u, t, j) => .bool (decide (NU u t j))) (by
  rintro ⟨u, t, j⟩ ⟨f, hj⟩
  exact isNucS_pc u t j f hj)
@[simp] theorem fm_isNucS_id : fm_isNucS.id = 85 := rfl
@[simp] theorem fm_isNucS_fresh : fm_isNucS.fresh = true := rfl
@[simp] theorem fm_isNucS_look (u : List Int) (t : List (List Int)) (j : List Int) (f : TF u t) (hj : Big j.length) : fm_isNucS.look [AL u t, IL j] = some (.bool (decide (NU u t j))) :=
  lookF_of (X := List Int × List (List Int) × List Int) (args := fun (u, t, j) => [AL u t, IL j]) (pre := fun (u, t, j) => (TF u t) ∧ (Big j.length)) (val := fun (u, t, j) => .bool (decide (NU u t j))) (by
  rintro ⟨u, t, j⟩ ⟨u', t', j'⟩ h
  simp at h
  try simp only [and_assoc] at h
  obtain ⟨rfl, rfl, rfl⟩ := h
  rfl) (u, t, j) ⟨f, hj⟩
attribute [irreducible] fm_isNucS

theorem nuC_pc (x : Int) (j : List Int) (h2 : Big j.length) : PC Try.prog 146 [I64 x, .iptr (IL j)] none true (fun r _ => r = .bool (outR j.length x)) := by
  have h2 := h2.le
  refine pcT [fm_within] fok_146 ?_
  simp [fa_146, outR, wrap64 (n := (j.length : Int) - 1) (by omega) (by omega)]
noncomputable def fm_nuC : Fam Try.prog := mkFam (X := Int × List Int) 146 true (fun (x, j) => [I64 x, .iptr (IL j)]) (fun (x, j) => (Big j.length)) (fun (x, j) => .bool (outR j.length x)) (by
  rintro ⟨x, j⟩ h2
  exact nuC_pc x j h2)
@[simp] theorem fm_nuC_id : fm_nuC.id = 146 := rfl
@[simp] theorem fm_nuC_fresh : fm_nuC.fresh = true := rfl
@[simp] theorem fm_nuC_look (x : Int) (j : List Int) (h2 : Big j.length) : fm_nuC.look [I64 x, .iptr (IL j)] = some (.bool (outR j.length x)) :=
  lookF_of (X := Int × List Int) (args := fun (x, j) => [I64 x, .iptr (IL j)]) (pre := fun (x, j) => (Big j.length)) (val := fun (x, j) => .bool (outR j.length x)) (by
  rintro ⟨x, j⟩ ⟨x', j'⟩ h
  simp at h
  try simp only [and_assoc] at h
  obtain ⟨rfl, rfl⟩ := h
  rfl) (x, j) h2
attribute [irreducible] fm_nuC

theorem contNu_pc (xs : List Int) (j : List Int) (hl : Big xs.length) (h2 : Big j.length) : PC Try.prog 129 [IL xs, .fn 146 [.iptr (IL j)]] none true (fun r _ => r = .bool (xs.any (outR j.length))) := by
  exact containsFunc_pc hl (by simp) (by simp) (outR j.length) (fun x hx => nuC_pc x j h2)
noncomputable def fm_contNu : Fam Try.prog := mkFam (X := List Int × List Int) 129 true (fun (xs, j) => [IL xs, .fn 146 [.iptr (IL j)]]) (fun (xs, j) => (Big xs.length) ∧ (Big j.length)) (fun (xs, j) => .bool (xs.any (outR j.length))) (by
  rintro ⟨xs, j⟩ ⟨hl, h2⟩
  exact contNu_pc xs j hl h2)
@[simp] theorem fm_contNu_id : fm_contNu.id = 129 := rfl
@[simp] theorem fm_contNu_fresh : fm_contNu.fresh = true := rfl
@[simp] theorem fm_contNu_look (xs : List Int) (j : List Int) (hl : Big xs.length) (h2 : Big j.length) : fm_contNu.look [IL xs, .fn 146 [.iptr (IL j)]] = some (.bool (xs.any (outR j.length))) :=
  lookF_of (X := List Int × List Int) (args := fun (xs, j) => [IL xs, .fn 146 [.iptr (IL j)]]) (pre := fun (xs, j) => (Big xs.length) ∧ (Big j.length)) (val := fun (xs, j) => .bool (xs.any (outR j.length))) (by
  rintro ⟨xs, j⟩ ⟨xs', j'⟩ h
  simp at h
  try simp only [and_assoc] at h
  obtain ⟨rfl, rfl⟩ := h
  rfl) (xs, j) ⟨hl, h2⟩
attribute [irreducible] fm_contNu

set_option maxHeartbeats 2000000 in
theorem isNucI_pc (u : List Int) (t : List (List Int)) (j : List Int) (f : TF u t) (hj : Big j.length) : PC Try.prog 97 [AL u t, IL j] none true (fun r _ => r = .bool (decide (NU u t j))) := by
  have v := f.lat
  have hl := v.sm.le
  have h6 := v.six
  refine pcT [fm_contNu, fm_belowI] fok_97 ?_
  simp [fa_97]
  refine cutW (tabK_mono _) [(17, .bool (decide ((j.length : Int) ≠ u.length) || j.any (outR j.length)))] (by simp [hj]; grind) ?_
  simp
  refine ⟨fun h w => ?_, fun hlen hany => ?_⟩
  · have hlen := w.len
    obtain ⟨z, hz, h4⟩ := h.resolve_left (fun q => q (by omega))
    obtain ⟨y, hy, rfl⟩ := List.mem_iff_getElem.1 hz
    have h5 := w.rng y (by omega)
    rw [gi, List.getElem?_eq_getElem hy] at h5
    simp [outR] at h4
    simp at h5
    omega
  have hlen : j.length = u.length := by omega
  have hr : ∀ x, x < u.length → 0 ≤ gi j x ∧ gi j x < u.length := fun x hx => by
    have := any_outR (xs := j) (n := j.length) (by rw [List.any_eq_false]; intro z hz; simpa using hany z hz) x (by omega)
    omega
  have hrN : ∀ x, x < u.length → (gi j x).toNat < u.length := fun x hx => by have := hr x hx; omega
  clear hany
  refine loopA (tabK_mono _) u.length (fun i => [(20, I64 i)]) (fun _ => []) (fun x => (tb u x (gi j x).toNat = true ∧ gi j (gi j x).toNat = gi j x) ∧ ∀ y, y < u.length → (tb u x y = true → tb u (gi j x).toNat (gi j y).toNat = true) ∧ tb u (tn t (gi j x).toNat (gi j y).toNat) (gi j (tn t x y)).toNat = true) (by simp) (by simp) (fun x g hx hP => ?_)
  simp [lb_97_4, wrap_succ hx hl, hlen]
  refine ⟨fun h => ?_, fun h => ⟨hlen, hr, fun x hx => (hP x (by omega)).1, fun x hx => (hP x (by omega)).2⟩⟩
  refine cutWc (tabK_mono _) [(45, .bool (!tb u x (gi j x).toNat || decide (gi j (gi j x).toNat ≠ gi j x)))] (by cases hb1 : tb u x (gi j x).toNat <;> simp [hb1, hlen, h, hr, hrN, h6]) ?_
  simp [hlen]
  refine ⟨fun h2 w => by have := w.up x h; grind, fun h2 h3 => ?_⟩
  refine loopA (tabK_mono _) u.length (fun i => [(48, I64 i)]) (fun _ => []) (fun y => (tb u x y = true → tb u (gi j x).toNat (gi j y).toNat = true) ∧ tb u (tn t (gi j x).toNat (gi j y).toNat) (gi j (tn t x y)).toNat = true) (by simp) (by simp) (fun y g hy hQ => ?_)
  simp [lb_97_9, wrap_succ hx hl, wrap_succ hy hl]
  refine ⟨fun h4 => ?_, fun h4 => ⟨h, ⟨h2, h3⟩, fun y hy => hQ y (by omega)⟩⟩
  have q1 := hr x h
  have q2 := hr y h4
  have q3 := hrN x h
  have q4 := hrN y h4
  have q5 := hr _ (f.ltN x y h h4)
  refine cutWc (tabK_mono _) [(100, .bool ((tb u x y && !tb u (gi j x).toNat (gi j y).toNat) || !tb u (tn t (gi j x).toNat (gi j y).toNat) (gi j (tn t x y)).toNat))] (by cases hb1 : tb u x y <;> cases hb2 : tb u (gi j x).toNat (gi j y).toNat <;> cases hb3 : tb u (tn t (gi j x).toNat (gi j y).toNat) (gi j (tn t x y)).toNat <;> simp (maxSteps := 2000000) [hb1, hb2, hb3, hlen, f.len, f.rows, h, h4, q1, q2, q3, q4, q5, f.nn, f.lt, f.ltN, h6]) ?_
  simp [wrap_succ hy hl]
  refine ⟨fun h7 w => ?_, fun h7 h8 => ⟨h4, h7, h8⟩⟩
  have := w.pr x h y h4
  grind
noncomputable def fm_isNucI : Fam Try.prog := mkFam (X := List Int × List (List Int) × List Int) 97 true (fun (u, t, j) => [AL u t, IL j]) (fun (u, t, j) => (TF u t) ∧ (Big j.length)) (fun (u, t, j) => .bool (decide (NU u t j))) (by
  rintro ⟨u, t, j⟩ ⟨f, hj⟩
  exact isNucI_pc u t j f hj)
@[simp] theorem fm_isNucI_id : fm_isNucI.id = 97 := rfl
@[simp] theorem fm_isNucI_fresh : fm_isNucI.fresh = true := rfl
@[simp] theorem fm_isNucI_look (u : List Int) (t : List (List Int)) (j : List Int) (f : TF u t) (hj : Big j.length) : fm_isNucI.look [AL u t, IL j] = some (.bool (decide (NU u t j))) :=
  lookF_of (X := List Int × List (List Int) × List Int) (args := fun (u, t, j) => [AL u t, IL j]) (pre := fun (u, t, j) => (TF u t) ∧ (Big j.length)) (val := fun (u, t, j) => .bool (decide (NU u t j))) (by
  rintro ⟨u, t, j⟩ ⟨u', t', j'⟩ h
  simp at h
  try simp only [and_assoc] at h
  obtain ⟨rfl, rfl, rfl⟩ := h
  rfl) (u, t, j) ⟨f, hj⟩
attribute [irreducible] fm_isNucI
end Go.PS
end

section
-- Contracts: all nuclei.
set_option maxRecDepth 100000
set_option linter.unusedVariables false
set_option linter.unusedSimpArgs false
namespace Go.PS
open Go.Proofs

/-- What is held of marks in rows. -/
noncomputable def hdR (r : List (List Int)) (k : Int) : Int := by
  classical
  exact if ∀ j, j < r.length → gr r j = mk (mkK k r j) (gr r j).length then k + (tot r : Nat) else -1
theorem heldIntSS_pc (a : List (List Int)) (k : Int) (hr : BigR a) (hk0 : 0 ≤ k) (hk1 : k + tot a ≤ 4611686018427387904) : PC Try.prog 43 [RL a, I64 k] none true (fun r _ => r = I64 (hdR a k)) := by
  have hr' := hr.1.le
  refine pcT [fm_heldIntS] fok_43 ?_
  simp [fa_43]
  refine loopA (tabK_mono _) a.length (fun i => [(1, I64 (mkK k a i)), (5, I64 i)]) (fun _ => []) (fun j => gr a j = mk (mkK k a j) (gr a j).length) (by simp [mkK, tot]) (by simp) (fun i g hi hP => ?_)
  simp [lb_43_2, wrap_succ hi hr']
  refine ⟨fun h => ?_, fun h => ?_⟩
  · have hb := hr.row h
    have h2 := mkK_le (k := k) h
    have h3 := mkK_succ (k := k) h
    by_cases e : gr a i = mk (mkK k a i) (gr a i).length
    · have hh : hdI (gr a i) (mkK k a i) = mkK k a (i + 1) := by unfold hdI; rw [if_pos e]; omega
      simp [h, hb, show 0 ≤ mkK k a i by omega, show mkK k a i ≤ 4611686018427387904 by omega, hh, wrap_succ hi hr', show ¬ mkK k a (i + 1) < 0 by omega]
      exact e
    · have hh : hdI (gr a i) (mkK k a i) = -1 := by unfold hdI; rw [if_neg e]
      have : hdR a k = -1 := by unfold hdR; rw [if_neg (fun w => e (w i h))]
      simp [h, hb, show 0 ≤ mkK k a i by omega, show mkK k a i ≤ 4611686018427387904 by omega, hh, this]
  · obtain rfl : i = a.length := by omega
    have : hdR a k = mkK k a a.length := by
      unfold hdR
      rw [if_pos (fun j hj => hP j hj)]
      simp [mkK]
    rw [this]
noncomputable def fm_heldIntSS : Fam Try.prog := mkFam (X := List (List Int) × Int) 43 true (fun (a, k) => [RL a, I64 k]) (fun (a, k) => (BigR a) ∧ (0 ≤ k) ∧ (k + tot a ≤ 4611686018427387904)) (fun (a, k) => I64 (hdR a k)) (by
  rintro ⟨a, k⟩ ⟨hr, hk0, hk1⟩
  exact heldIntSS_pc a k hr hk0 hk1)
@[simp] theorem fm_heldIntSS_id : fm_heldIntSS.id = 43 := rfl
@[simp] theorem fm_heldIntSS_fresh : fm_heldIntSS.fresh = true := rfl
@[simp] theorem fm_heldIntSS_look (a : List (List Int)) (k : Int) (hr : BigR a) (hk0 : 0 ≤ k) (hk1 : k + tot a ≤ 4611686018427387904) : fm_heldIntSS.look [RL a, I64 k] = some (I64 (hdR a k)) :=
  lookF_of (X := List (List Int) × Int) (args := fun (a, k) => [RL a, I64 k]) (pre := fun (a, k) => (BigR a) ∧ (0 ≤ k) ∧ (k + tot a ≤ 4611686018427387904)) (val := fun (a, k) => I64 (hdR a k)) (by
  rintro ⟨a, k⟩ ⟨a', k'⟩ h
  simp at h
  try simp only [and_assoc] at h
  obtain ⟨rfl, rfl⟩ := h
  rfl) (a, k) ⟨hr, hk0, hk1⟩
attribute [irreducible] fm_heldIntSS

def okp (u h : List Int) (y i : Nat) : Bool := tb u h.length y && (List.range i).all fun z => !tb u z h.length || tb u (gi h z).toNat y
theorem okp_succ {u h : List Int} {y i : Nat} : okp u h y (i + 1) = (okp u h y i && (!tb u i h.length || tb u (gi h i).toNat y)) := by
  unfold okp
  rw [all_succ, Bool.and_assoc]
theorem okp_mono {u h : List Int} {y i j : Nat} (hij : i ≤ j) (h0 : okp u h y i = false) : okp u h y j = false := by
  cases hj : okp u h y j with
  | false => rfl
  | true =>
    unfold okp at h0 hj
    simp only [Bool.and_eq_true, List.all_eq_true, List.mem_range] at hj
    have : (List.range i).all (fun z => !tb u z h.length || tb u (gi h z).toNat y) = true := by
      rw [List.all_eq_true]
      intro z hz
      exact hj.2 z (by have := List.mem_range.1 hz; omega)
    rw [hj.1, this] at h0
    cases h0

noncomputable def accN (u : List Int) (t : List (List Int)) (k : Nat) (h : List Int) (y : Nat) : List (List Int) := (List.range y).flatMap fun (y : Nat) => if nok u h y = true then prn u.length (nok u) (fun j => decide (NU u t j)) k (h ++ [(y : Int)]) else []
theorem accN_succ {u : List Int} {t : List (List Int)} {k : Nat} {h : List Int} {y : Nat} : accN u t k h (y + 1) = accN u t k h y ++ if nok u h y = true then prn u.length (nok u) (fun j => decide (NU u t j)) k (h ++ [(y : Int)]) else [] := by
  unfold accN
  rw [List.range_succ, List.flatMap_append]
  simp

theorem flatMap_len {α β : Type} {f : α → List β} {b : Nat} : ∀ (l : List α), (∀ x ∈ l, (f x).length ≤ b) → (l.flatMap f).length ≤ l.length * b
  | [], _ => by simp
  | x :: l, h => by
    rw [List.flatMap_cons, List.length_append, List.length_cons, Nat.succ_mul]
    have h1 := h x (by simp)
    have h2 := flatMap_len l (fun y hy => h y (by simp [hy]))
    omega
theorem prn_len {n : Nat} {ok : List Int → Nat → Bool} {good : List Int → Bool} : ∀ k h, (prn n ok good k h).length ≤ n ^ k
  | 0, h => by
    unfold prn
    split <;> simp
  | k + 1, h => by
    have := flatMap_len (f := fun (y : Nat) => if ok h y = true then prn n ok good k (h ++ [(y : Int)]) else []) (b := n ^ k) (List.range n) (fun y _ => by
      split
      · exact prn_len k _
      · simp)
    rw [List.length_range] at this
    rw [Nat.pow_succ, Nat.mul_comm]
    exact this
theorem accN_len {u : List Int} {t : List (List Int)} {k : Nat} {h : List Int} {y : Nat} : (accN u t k h y).length ≤ y * u.length ^ k := by
  have := flatMap_len (f := fun (y : Nat) => if nok u h y = true then prn u.length (nok u) (fun j => decide (NU u t j)) k (h ++ [(y : Int)]) else []) (b := u.length ^ k) (List.range y) (fun y _ => by
    split
    · exact prn_len k _
    · simp)
  rwa [List.length_range] at this
theorem pow6 {n k : Nat} (hn : n ≤ 6) (hk : k ≤ 6) : n ^ k ≤ 46656 := by
  have h1 := Nat.pow_le_pow_left hn k
  have h2 : 6 ^ k ≤ 6 ^ 6 := Nat.pow_le_pow_right (by omega) hk
  omega

theorem nucleiFromS_aux {u : List Int} {t : List (List Int)} (f : TF u t) : ∀ (k : Nat) (h : List Int), h.length + k = u.length → (∀ z, z < h.length → 0 ≤ gi h z ∧ gi h z < u.length) →
    PC Try.prog 93 [AL u t, IL h] none false (fun r _ => r = RL (prn u.length (nok u) (fun j => decide (NU u t j)) k h))
  | 0, h, hk, hh => by
    have h6 := f.lat.six
    have hb : Big h.length := by unfold Big; omega
    refine pcT [fm_isNucS] fok_93 ?_
    have hb2 : Big u.length := by unfold Big; omega
    cases hN : decide (NU u t h) <;> simp [fa_93, show h.length = u.length by omega, f, hb2, hN, prn, show u.length ≤ big from hb2] <;> simp [rowsD]
  | k + 1, h, hk, hh => by
    have h6 := f.lat.six
    have hsm := f.lat.sm
    have hb : Big h.length := by unfold Big; omega
    obtain ⟨fm, hid, hfr, hlk'⟩ := famE (P := Try.prog) (X := Nat) 93 false (fun y => [AL u t, IL (h ++ [(y : Int)])]) (fun y => y < u.length) (fun y => RL (prn u.length (nok u) (fun j => decide (NU u t j)) k (h ++ [(y : Int)]))) (by
      intro x y e
      simp at e
      have : x = y := by omega
      rw [this]) (fun y hy => nucleiFromS_aux f k _ (by simp; omega) (fun z hz => by
        simp only [List.length_append, List.length_cons, List.length_nil] at hz
        rcases Nat.lt_or_ge z h.length with c | c
        · rw [gi_append_left c]; exact hh z c
        · obtain rfl : z = h.length := by omega
          rw [gi_append_at]
          omega))
    have hlk : ∀ y : Nat, y < u.length → fm.look [AL u t, IL (h ++ [(y : Int)])] = some (RL (prn u.length (nok u) (fun j => decide (NU u t j)) k (h ++ [(y : Int)]))) := fun y hy => hlk' y hy
    refine pcT [fm, fm_belowS] fok_93 ?_
    simp [fa_93, show ¬ ((h.length : Int) = u.length) by omega]
    refine loopX (tabK_mono _) u.length (fun y γ => [(6, .arr 200 γ), (7, I64 y)]) (fun y γ => [⟨200, γ, .arr 1 (rowsD (accN u t k h y))⟩]) (fun _ _ => True) 1 (by simp) (by simp [accN, rowsD]) trivial (fun y γ g hy _ => ?_)
    simp [lb_93_8, wrap_succ hy (by omega), hid]
    refine ⟨fun h2 => ?_, fun h2 => by rw [show y = u.length by omega]; rfl⟩
    simp [hsm, h2, show h.length < u.length by omega]
    refine loopA (tabK_mono _) h.length (fun i => [(8, .bool (okp u h y i)), (9, I64 i)]) (fun _ => [⟨200, γ, .arr 1 (rowsD (accN u t k h y))⟩]) (fun _ => True) (by simp [okp]) (by simp) (fun i g2 hi _ => ?_)
    simp [lb_93_12, hid]
    refine cutW (tabK_mono _) [(43, .bool (decide (i < h.length) && okp u h y i))] (by cases hb1 : okp u h y i <;> simp [hb1]) ?_
    simp
    refine ⟨fun h3 h4 => ?_, fun h3 => ?_⟩
    · have q := hh i h3
      refine cutWc (tabK_mono _) [(8, .bool (okp u h y (i + 1)))] (by
        rw [okp_succ, h4]
        cases hb1 : tb u i h.length <;> simp [hid, hsm, h2, hb1, h3, q, show i < u.length by omega, show h.length < u.length by omega, show (gi h i).toNat < u.length by omega]) ?_
      simp [wrap_succ hi (by omega), hid]
      exact h3
    · have en : okp u h y i = nok u h y := by
        cases c : okp u h y i with
        | false => exact (okp_mono hi c).symm
        | true =>
          have : i = h.length := by
            rcases Nat.lt_or_ge i h.length with d | d
            · rw [h3 d] at c; cases c
            · omega
          rw [← c, this]; rfl
      rw [en]
      refine ⟨fun h4 => ?_, fun h4 => ⟨h2, γ, ⟨rfl, wrap_succ hy (by omega)⟩, rfl, by rw [accN_succ]; simp [h4]⟩⟩
      have l1 := hlk y h2
      refine cutE (α := Nat) (fun x => [(1, IL h), (2, (AL u t).iptr), (5, I64 h.length), (6, .arr 200 x), (7, I64 y)]) (fun x => [⟨200, x, .arr 1 (rowsD (accN u t k h (y + 1)))⟩]) (by
        simp [hid, hfr, l1]
        have e1 : (accN u t k h y).length ≤ 6 * 46656 := Nat.le_trans accN_len (Nat.mul_le_mul (by omega) (pow6 h6 (by omega)))
        have e2 : (prn u.length (nok u) (fun j => decide (NU u t j)) k (h ++ [(y : Int)])).length ≤ 46656 := Nat.le_trans (prn_len _ _) (pow6 h6 (by omega))
        have e4 : big = 1048576 * 1048576 := rfl
        refine ⟨by omega, by omega, by omega, ?_⟩
        rw [accN_succ, h4]
        simp [rowsD]) (fun x g0 => ?_)
      simp [wrap_succ hy (by omega)]
      exact h2

theorem nucleiFromS_pc (u : List Int) (t : List (List Int)) (f : TF u t) : PC Try.prog 93 [AL u t, IL []] none false (fun r _ => r = RL (nucM u t)) := by
  rw [← nuc_prn f.lat.pos]
  exact nucleiFromS_aux f u.length [] (by simp) (by simp)
noncomputable def fm_nucleiFromS : Fam Try.prog := mkFam (X := List Int × List (List Int)) 93 false (fun (u, t) => [AL u t, IL []]) (fun (u, t) => (TF u t)) (fun (u, t) => RL (nucM u t)) (by
  rintro ⟨u, t⟩ f
  exact nucleiFromS_pc u t f)
@[simp] theorem fm_nucleiFromS_id : fm_nucleiFromS.id = 93 := rfl
@[simp] theorem fm_nucleiFromS_fresh : fm_nucleiFromS.fresh = false := rfl
@[simp] theorem fm_nucleiFromS_look (u : List Int) (t : List (List Int)) (f : TF u t) : fm_nucleiFromS.look [AL u t, IL []] = some (RL (nucM u t)) :=
  lookF_of (X := List Int × List (List Int)) (args := fun (u, t) => [AL u t, IL []]) (pre := fun (u, t) => (TF u t)) (val := fun (u, t) => RL (nucM u t)) (by
  rintro ⟨u, t⟩ ⟨u', t'⟩ h
  simp at h
  try simp only [and_assoc] at h
  obtain ⟨rfl, rfl⟩ := h
  rfl) (u, t) f
attribute [irreducible] fm_nucleiFromS

noncomputable def nucR (u : List Int) (t : List (List Int)) : List (List Int) := if VA u t then nucM u t else []
theorem nucleiS_pc (u : List Int) (t : List (List Int)) (hu : Big u.length) (ht : BigR t) : PC Try.prog 39 [AL u t] none false (fun r _ => r = RL (nucR u t)) := by
  refine pcT [fm_validAlgebraS, fm_nucleiFromS] fok_39 ?_
  simp [fa_39, hu, ht]
  refine ⟨fun h => ?_, fun h => ?_⟩
  · simp [nucR, h, rowsD]
  · have l1 : fm_nucleiFromS.look [AL u t, .list 1 []] = some (RL (nucM u t)) := fm_nucleiFromS_look u t h.tf
    simp [nucR, h, l1]
noncomputable def fm_nucleiS : Fam Try.prog := mkFam (X := List Int × List (List Int)) 39 false (fun (u, t) => [AL u t]) (fun (u, t) => (Big u.length) ∧ (BigR t)) (fun (u, t) => RL (nucR u t)) (by
  rintro ⟨u, t⟩ ⟨hu, ht⟩
  exact nucleiS_pc u t hu ht)
@[simp] theorem fm_nucleiS_id : fm_nucleiS.id = 39 := rfl
@[simp] theorem fm_nucleiS_fresh : fm_nucleiS.fresh = false := rfl
@[simp] theorem fm_nucleiS_look (u : List Int) (t : List (List Int)) (hu : Big u.length) (ht : BigR t) : fm_nucleiS.look [AL u t] = some (RL (nucR u t)) :=
  lookF_of (X := List Int × List (List Int)) (args := fun (u, t) => [AL u t]) (pre := fun (u, t) => (Big u.length) ∧ (BigR t)) (val := fun (u, t) => RL (nucR u t)) (by
  rintro ⟨u, t⟩ ⟨u', t'⟩ h
  simp at h
  try simp only [and_assoc] at h
  obtain ⟨rfl, rfl⟩ := h
  rfl) (u, t) ⟨hu, ht⟩
attribute [irreducible] fm_nucleiS

noncomputable def nucP (u : List Int) (t : List (List Int)) (i : Nat) : List (List Int) := ((List.range i).map (dig u.length u.length)).filter fun j => decide (NU u t j)
theorem nucP_succ {u : List Int} {t : List (List Int)} {i : Nat} : nucP u t (i + 1) = nucP u t i ++ if NU u t (dig u.length u.length i) then [dig u.length u.length i] else [] := by
  unfold nucP
  rw [List.range_succ, List.map_append, List.filter_append]
  congr 1
  simp [List.filter_cons]

def inlN (id : Nat) : Option FnA := if id = 94 then some fa_94 else if id = 96 then some fa_96 else none
theorem inlN_ok (id : Nat) (fa : FnA) (h : inlN id = some fa) : ∃ A, FnOk Try.prog id fa A := by
  unfold inlN at h
  split at h
  · rename_i e; subst e; injection h with h; subst h; exact ⟨_, fok_94⟩
  split at h
  · rename_i e; subst e; injection h with h; subst h; exact ⟨_, fok_96⟩
  · cases h

set_option maxHeartbeats 4000000 in
theorem nucleiI_pc (u : List Int) (t : List (List Int)) (hu : Big u.length) (ht : BigR t) : PC Try.prog 40 [AL u t] none true (fun r _ => r = RO (nucR u t)) := by
  have hul := hu.le
  refine pcI inlN inlN_ok [fm_validAlgebraI, fm_repeatI, fm_isNucI] 3 fok_40 ?_
  simp [fa_40, callO3T, inlN, hu, ht]
  refine ⟨fun h => ?_, fun a => ?_⟩
  · simp [nucR, h, orowsD]
  have f := a.tf
  have h6 := f.lat.six
  have h1 := f.lat.pos
  have lr : fm_repeatI.look [D.list 1 [D.int .i64 ((u.length : Int) - 1)], D.int .i64 u.length] = some (IO1 (List.replicate u.length ((u.length : Int) - 1))) := fm_repeatI_look ((u.length : Int) - 1) u.length (by omega) (by omega)
  simp [lr, callO3T, inlN, wrap64 (n := (u.length : Int) - 1) (by omega) (by omega), callO16 (C := CI inlN) (id := 94) (fa := fa_94) rfl]
  refine eachList_run (α := Nat × Nat) (n := u.length) (m := u.length) h1 h6 h6 (fun x l => [⟨4064, 3, .arr 1 (ints l)⟩, ⟨24, 2, .cells [.arr 56 x.2]⟩, ⟨56, x.2, .arr 1 (orowsD (nucP u t x.1))⟩])
    (fun i x => x.1 = i) (0, 1) (by simp [KL, nucP, orowsD]) (by simp) (by simp) (by simp [KL]) (by simp) (fun i x tt g Q hi hP hQ => ?_) (fun x g hP => ?_)
  · obtain ⟨j, γ⟩ := x
    obtain rfl : j = i := hP
    have hl : (dig u.length u.length j).length = u.length := dig_length _ _ _
    have hb : Big (dig u.length u.length j).length := by rw [hl]; exact hu
    have hne : dig u.length u.length j ≠ [] := fun h => by rw [h] at hl; simp at hl; omega
    simp [callO16 (C := CI inlN) (id := 96) (fa := fa_96) rfl, fa_96, callO3T, callDO3T, inlN, f, hb]
    refine ⟨fun h => ?_, fun h => ?_⟩
    · refine cutE (α := Nat) (fun x => []) (fun x => [⟨4064, 3, .arr 1 (ints (dig u.length u.length j))⟩, ⟨24, 2, .cells [.arr 56 x]⟩, ⟨56, x, .arr 1 (orowsD (nucP u t (j + 1)))⟩]) ?_ (fun x g0 => ?_)
      · have hn : (nucP u t j).length ≤ 46656 := by
          have h2 : (nucP u t j).length ≤ j := by
            unfold nucP
            exact Nat.le_trans (List.length_filter_le _ _) (by simp)
          have h3 := pow6 h6 h6
          omega
        have e4 : big = 1048576 * 1048576 := rfl
        have lc := fm_cloneI_look (dig u.length u.length j) hb hne
        simp
        refine ⟨callDO1 fm_cloneI (by simp) (by simp) (v := IO1 (dig u.length u.length j)) (by simp; exact lc) ?_, callDO1 fm_cloneI (by simp) (by simp) (v := IO1 (dig u.length u.length j)) (by simp; exact lc) ?_⟩
        all_goals
          simp
          exact ⟨by omega, by rw [nucP_succ, if_pos h]⟩
      · simp
        refine hQ (j + 1, x) _ _ _ rfl (by simp) (by simp [KL])
    · refine hQ (j + 1, γ) _ _ _ rfl (by simp) ?_
      simp [KL, nucP_succ, h]
  · obtain ⟨j, γ⟩ := x
    obtain rfl : j = u.length ^ u.length := hP
    have e : nucR u t = nucP u t (u.length ^ u.length) := by simp [nucR, a]; rfl
    rw [e]
    simp
noncomputable def fm_nucleiI : Fam Try.prog := mkFam (X := List Int × List (List Int)) 40 true (fun (u, t) => [AL u t]) (fun (u, t) => (Big u.length) ∧ (BigR t)) (fun (u, t) => RO (nucR u t)) (by
  rintro ⟨u, t⟩ ⟨hu, ht⟩
  exact nucleiI_pc u t hu ht)
@[simp] theorem fm_nucleiI_id : fm_nucleiI.id = 40 := rfl
@[simp] theorem fm_nucleiI_fresh : fm_nucleiI.fresh = true := rfl
@[simp] theorem fm_nucleiI_look (u : List Int) (t : List (List Int)) (hu : Big u.length) (ht : BigR t) : fm_nucleiI.look [AL u t] = some (RO (nucR u t)) :=
  lookF_of (X := List Int × List (List Int)) (args := fun (u, t) => [AL u t]) (pre := fun (u, t) => (Big u.length) ∧ (BigR t)) (val := fun (u, t) => RO (nucR u t)) (by
  rintro ⟨u, t⟩ ⟨u', t'⟩ h
  simp at h
  try simp only [and_assoc] at h
  obtain ⟨rfl, rfl⟩ := h
  rfl) (u, t) ⟨hu, ht⟩
attribute [irreducible] fm_nucleiI

theorem mkR_lens {k : Int} {r : List (List Int)} : ∀ i, (mkR k r i).map List.length = r.map List.length
  | 0 => rfl
  | i + 1 => by
    simp only [mkR, List.map_set, mkR_lens i]
    apply List.ext_getElem?
    intro j
    rw [List.getElem?_set]
    split
    · rename_i e
      subst e
      split
      · rename_i h
        simp at h
        simp [gr, List.getElem?_eq_getElem h]
      · rename_i h
        rw [List.getElem?_eq_none (by omega)]
    · rfl
theorem mkR_at {k : Int} {r : List (List Int)} {j : Nat} : ∀ n, j < n → j < r.length → gr (mkR k r n) j = mk (mkK k r j) (gr r j).length
  | 0, h, _ => by omega
  | n + 1, h, h2 => by
    unfold gr
    simp only [mkR]
    rw [List.getElem?_set]
    by_cases e : n = j
    · subst e
      simp [mkR_length, h2, gr]
    · rw [if_neg e]
      exact mkR_at n (by omega) h2
theorem mkK_mkR {k k2 : Int} {r : List (List Int)} {n j : Nat} : mkK k (mkR k2 r n) j = mkK k r j := by
  unfold mkK tot
  rw [List.map_take, List.map_take, mkR_lens]
theorem hdR_mkR {k : Int} {r : List (List Int)} : hdR (mkR k r r.length) k = k + (tot r : Nat) := by
  have e : tot (mkR k r r.length) = tot r := by unfold tot; rw [mkR_lens]
  unfold hdR
  rw [if_pos, e]
  intro j hj
  rw [mkR_length] at hj
  rw [mkR_at r.length hj hj, mkK_mkR]
  simp
theorem mkR_big {k : Int} {r : List (List Int)} (h : BigR r) : BigR (mkR k r r.length) := by
  refine ⟨by rw [mkR_length]; exact h.1, fun x hx => ?_⟩
  obtain ⟨j, hj, rfl⟩ := List.getElem_of_mem hx
  have h2 := hj
  rw [mkR_length] at h2
  have := mkR_at (k := k) r.length h2 h2
  have e : gr (mkR k r r.length) j = (mkR k r r.length)[j] := by simp [gr, List.getElem?_eq_getElem hj]
  rw [← e, this, mk_length]
  exact h.row h2
theorem nucM_row {u : List Int} {t : List (List Int)} {x : List Int} (h : x ∈ nucM u t) : x.length = u.length := by
  unfold nucM at h
  have := (List.mem_filter.1 h).1
  obtain ⟨i, _, rfl⟩ := List.mem_map.1 this
  exact dig_length _ _ _
theorem sum_le {l : List Nat} {b : Nat} (h : ∀ x ∈ l, x ≤ b) : l.sum ≤ l.length * b := by
  induction l with
  | nil => simp
  | cons a l ih =>
    have h1 := h a (by simp)
    have h2 := ih (fun x hx => h x (by simp [hx]))
    rw [List.sum_cons, List.length_cons, Nat.succ_mul]
    omega
theorem nucR_big {u : List Int} {t : List (List Int)} : BigR (nucR u t) ∧ tot (nucR u t) ≤ 46656 * 6 := by
  unfold nucR
  split
  · rename_i a
    have h6 := a.tf.lat.six
    have hl : (nucM u t).length ≤ 46656 := by
      refine Nat.le_trans (List.length_filter_le _ _) ?_
      simpa using pow6 h6 h6
    have hr : ∀ x ∈ nucM u t, x.length ≤ 6 := fun x hx => by rw [nucM_row hx]; exact h6
    refine ⟨⟨by unfold Big; omega, fun x hx => by have := hr x hx; unfold Big; omega⟩, ?_⟩
    have h2 := sum_le (l := (nucM u t).map List.length) (b := 6) (fun x hx => by
      obtain ⟨y, hy, rfl⟩ := List.mem_map.1 hx
      exact hr y hy)
    rw [List.length_map] at h2
    unfold tot
    exact Nat.le_trans h2 (Nat.mul_le_mul_right 6 hl)
  · exact ⟨⟨by unfold Big; simp, fun x hx => by cases hx⟩, by simp [tot]⟩
end Go.PS
end

section
-- The law of all nuclei.
set_option maxRecDepth 100000
set_option linter.unusedVariables false
set_option linter.unusedSimpArgs false
namespace Go.PS
open Go.Proofs

theorem FnExactNucleiOf_pc (u : List Int) (t : List (List Int)) (hu : Hu u.length) (ht : HuR t) : PC Try.prog 8 [AL u t] none true (fun r _ => r = .bool true) := by
  refine pcI inlM inlM_ok [fm_szAlgebra, fm_toAlgebra, fm_nucleiS, fm_nucleiI, fm_eqAlgebra, fm_eqIntSS, fm_heldIntSS] 3 fok_8 ?_
  simp [fa_8, callO3T, inlM, hu, ht]
  intro h3
  have hb := sz_ok h3
  have hs := sz_tot h3
  obtain ⟨hrl, hrt⟩ := nucR_big (u := u) (t := t)
  have hm := mkR_big (k := 1) hrl
  have hd := hdR_mkR (k := 1) (r := nucR u t)
  have l1 := fm_nucleiS_look u t hb.1 hb.2
  have l2 := fm_nucleiI_look u t hb.1 hb.2
  generalize nucR u t = r at *
  simp [hb.1, hb.2, l1]
  refine callO1 fm_toAlgebra (by simp) (by simp) (v := .agg [IO1 u, RO t]) (by simp [hb.1, hb.2]) ?_
  simp
  refine callO1 fm_nucleiI (by simp) (by simp) (v := RO r) (by simp; exact l2) ?_
  simp [callO3T, callDO3T, inlM, hrl, hb.1, hb.2, callO16 (C := CI inlM) (id := 26) (fa := fa_26) rfl]
  refine markA_run rfl rfl hb.1 hb.2 (by omega) (by omega) (by omega) (by omega) (by omega) (by simp) (by simp) (fun g1 => ?_)
  simp
  refine cutW (inlT_mono _ _ _ _) [(42, .bool false)] (by
    simp [callO3T, inlM, hrl]
    omega) ?_
  simp [callO16 (C := CI inlM) (id := 42) (fa := fa_42) rfl]
  refine markSS_run rfl hrl (by omega) (by omega) (by simp) (fun g3 => ?_)
  have ht2 : tot (mkR 1 r r.length) = tot r := by unfold tot; rw [mkR_lens]
  have lh : fm_heldIntSS.look [.list 1 (rowsD (mkR 1 r r.length)), I64 1] = some (I64 (1 + tot r)) := by rw [← hd]; exact fm_heldIntSS_look _ 1 hm (by omega) (by omega)
  simp [callO3T, inlM, lh, l2, hb.1, hb.2, hrl, show ¬ (1 + (tot r : Int) < 0) by omega]
end Go.PS
end
