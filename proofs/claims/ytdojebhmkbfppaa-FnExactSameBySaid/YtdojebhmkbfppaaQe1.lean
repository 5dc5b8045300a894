/- Part 1 of what the last text proves: The program's MapsOf returns what the reference's returns, for all arguments. -/
import Derived.Test.YtdojebhmkbfppaaQd1
section
-- PRINTED by gen.py: clean texts of functions, and their tie to the program.
set_option maxRecDepth 100000
namespace Go.PS
open Go.Proofs
/-- spec.isMap -/
def an_147 : Ann := ⟨[(7, 8, 3), (17, 31, 3), (17, 43, 3), (17, 52, 3), (17, 65, 3), (17, 74, 3), (17, 87, 3)], [(0, [2, 3, 4]), (1, [2, 3, 4, 7]), (2, [2, 3, 4, 7, 17]), (3, [6]), (4, [2, 3, 4, 7, 8]), (5, [2, 3, 4, 7, 8, 20]), (7, [2, 3, 4, 7, 8, 32]), (8, [6]), (6, [2, 3, 4, 7, 8]), (9, [2, 3, 4, 7, 48]), (10, [6]), (11, [2, 3, 4, 7, 9]), (12, [2, 3, 4, 7, 9, 51]), (14, [2, 3, 4, 7, 9, 10]), (15, [2, 3, 4, 7, 9, 10, 56]), (17, [2, 3, 4, 7, 9, 10, 148]), (18, [6]), (16, [2, 3, 4, 7, 9, 10]), (13, [2, 3, 4, 7, 9]), (19, [6])], [(5, [2, 3, 4, 7, 8], []), (12, [2, 3, 4, 7, 9], []), (15, [2, 3, 4, 7, 9, 10], [])], []⟩
def lb_147_5 : AC :=
  (.seq
    (.seq
      (.region false [⟨some 18, (.mv (.t 8)), 3, none, 0⟩, ⟨some 19, (.mv (.t 7)), 3, none, 0⟩, ⟨some 20, (.bin .lss 3 (.t 18) (.t 19)), 4, none, 0⟩] (some [2, 3, 4, 7, 8, 20]))
      (.cond (.t 20)
        .skip
        (.exit 0)))
    (.seq
      (.block 1
        (.seq
          (.region true [⟨some 23, (.mv (.t 2)), 22, none, 0⟩, ⟨some 24, (.mv (.t 8)), 3, none, 0⟩, ⟨some 25, (.iaddr 22 (.t 23) (.t 24)), 0, none, 0⟩, ⟨some 26, (.load 3 (.t 25)), 3, none, 0⟩, ⟨some 27, (.faddr 28 (.t 4) 0), 0, none, 0⟩, ⟨some 28, (.load 22 (.t 27)), 22, none, 0⟩, ⟨some 29, (.len 22 (.t 28)), 3, none, 0⟩, ⟨some 30, (.bin .sub 3 (.t 29) (.c (.int .i64 1))), 3, none, 0⟩, ⟨some 31, (.call (.f 78) [(.t 26), (.c (.int .i64 0)), (.t 30)]), 4, none, 3⟩, ⟨some 32, (.un .not (.t 31)), 4, none, 0⟩] (some [2, 3, 4, 7, 8, 32]))
          (.cond (.t 32)
            (.seq
              (.region false [⟨some 6, (.mv (.c (.bool false))), 4, none, 0⟩] (some [6]))
              .ret)
            .skip)))
      (.region false [⟨some 21, (.mv (.t 8)), 3, none, 0⟩, ⟨some 22, (.bin .add 3 (.t 21) (.c (.int .i64 1))), 3, none, 0⟩, ⟨some 8, (.mv (.t 22)), 3, none, 0⟩] (some [2, 3, 4, 7, 8]))))
def lb_147_15 : AC :=
  (.seq
    (.seq
      (.region false [⟨some 54, (.mv (.t 10)), 3, none, 0⟩, ⟨some 55, (.mv (.t 7)), 3, none, 0⟩, ⟨some 56, (.bin .lss 3 (.t 54) (.t 55)), 4, none, 0⟩] (some [2, 3, 4, 7, 9, 10, 56]))
      (.cond (.t 56)
        .skip
        (.exit 4)))
    (.seq
      (.block 5
        (.seq
          (.region true (gops (seg [2, 3, 4, 7, 9, 10, 68] [⟨some 59, (.mv (.t 2)), 22, none, 0⟩, ⟨some 60, (.faddr 28 (.t 3) 1), 0, none, 0⟩, ⟨some 61, (.load 23 (.t 60)), 23, none, 0⟩, ⟨some 62, (.mv (.t 9)), 3, none, 0⟩, ⟨some 63, (.iaddr 23 (.t 61) (.t 62)), 0, none, 0⟩, ⟨some 64, (.load 22 (.t 63)), 22, none, 0⟩, ⟨some 65, (.mv (.t 10)), 3, none, 0⟩, ⟨some 66, (.iaddr 22 (.t 64) (.t 65)), 0, none, 0⟩, ⟨some 67, (.load 3 (.t 66)), 3, none, 0⟩, ⟨some 68, (.iaddr 22 (.t 59) (.t 67)), 0, none, 0⟩]
          (seg [2, 3, 4, 7, 9, 10, 69, 77, 78] [⟨some 69, (.load 3 (.t 68)), 3, none, 0⟩, ⟨some 70, (.faddr 28 (.t 4) 1), 0, none, 0⟩, ⟨some 71, (.load 23 (.t 70)), 23, none, 0⟩, ⟨some 72, (.mv (.t 2)), 22, none, 0⟩, ⟨some 73, (.mv (.t 9)), 3, none, 0⟩, ⟨some 74, (.iaddr 22 (.t 72) (.t 73)), 0, none, 0⟩, ⟨some 75, (.load 3 (.t 74)), 3, none, 0⟩, ⟨some 76, (.iaddr 23 (.t 71) (.t 75)), 0, none, 0⟩, ⟨some 77, (.load 22 (.t 76)), 22, none, 0⟩, ⟨some 78, (.mv (.t 2)), 22, none, 0⟩]
          (seg [2, 3, 4, 7, 9, 10, 85, 86, 87, 88] [⟨some 79, (.mv (.t 10)), 3, none, 0⟩, ⟨some 80, (.iaddr 22 (.t 78) (.t 79)), 0, none, 0⟩, ⟨some 81, (.load 3 (.t 80)), 3, none, 0⟩, ⟨some 82, (.iaddr 22 (.t 77) (.t 81)), 0, none, 0⟩, ⟨some 83, (.load 3 (.t 82)), 3, none, 0⟩, ⟨some 84, (.bin .neq 3 (.t 69) (.t 83)), 4, none, 0⟩, ⟨some 85, (.mv (.t 84)), 4, none, 0⟩, ⟨some 86, (.mv (.t 2)), 22, some (85, false), 0⟩, ⟨some 87, (.load 28 (.t 3)), 28, some (85, false), 0⟩, ⟨some 88, (.mv (.t 9)), 3, some (85, false), 0⟩]
          (seg [2, 3, 4, 7, 9, 10, 85, 92, 93, 97, 98] [⟨some 89, (.mv (.t 10)), 3, some (85, false), 0⟩, ⟨some 90, (.call (.f 126) [(.t 87), (.t 88), (.t 89)]), 3, some (85, false), 3⟩, ⟨some 91, (.iaddr 22 (.t 86) (.t 90)), 0, some (85, false), 0⟩, ⟨some 92, (.load 3 (.t 91)), 3, some (85, false), 0⟩, ⟨some 93, (.load 28 (.t 4)), 28, some (85, false), 0⟩, ⟨some 94, (.mv (.t 2)), 22, some (85, false), 0⟩, ⟨some 95, (.mv (.t 9)), 3, some (85, false), 0⟩, ⟨some 96, (.iaddr 22 (.t 94) (.t 95)), 0, some (85, false), 0⟩, ⟨some 97, (.load 3 (.t 96)), 3, some (85, false), 0⟩, ⟨some 98, (.mv (.t 2)), 22, some (85, false), 0⟩]
          (seg [2, 3, 4, 7, 9, 10, 105, 106, 108] [⟨some 99, (.mv (.t 10)), 3, some (85, false), 0⟩, ⟨some 100, (.iaddr 22 (.t 98) (.t 99)), 0, some (85, false), 0⟩, ⟨some 101, (.load 3 (.t 100)), 3, some (85, false), 0⟩, ⟨some 102, (.call (.f 126) [(.t 93), (.t 97), (.t 101)]), 3, some (85, false), 3⟩, ⟨some 103, (.bin .neq 3 (.t 92) (.t 102)), 4, some (85, false), 0⟩, ⟨some 104, (.pick (.t 85) (.c (.bool true)) (.t 103)), 4, none, 0⟩, ⟨some 105, (.mv (.t 104)), 4, none, 0⟩, ⟨some 106, (.mv (.t 2)), 22, some (105, false), 0⟩, ⟨some 107, (.faddr 28 (.t 3) 0), 0, some (105, false), 0⟩, ⟨some 108, (.load 22 (.t 107)), 22, some (105, false), 0⟩]
          (seg [2, 3, 4, 7, 9, 10, 105, 113, 115, 118] [⟨some 109, (.mv (.t 9)), 3, some (105, false), 0⟩, ⟨some 110, (.mv (.t 10)), 3, some (105, false), 0⟩, ⟨some 111, (.call (.f 127) [(.t 108), (.t 109), (.t 110)]), 3, some (105, false), 3⟩, ⟨some 112, (.iaddr 22 (.t 106) (.t 111)), 0, some (105, false), 0⟩, ⟨some 113, (.load 3 (.t 112)), 3, some (105, false), 0⟩, ⟨some 114, (.faddr 28 (.t 4) 0), 0, some (105, false), 0⟩, ⟨some 115, (.load 22 (.t 114)), 22, some (105, false), 0⟩, ⟨some 116, (.mv (.t 2)), 22, some (105, false), 0⟩, ⟨some 117, (.mv (.t 9)), 3, some (105, false), 0⟩, ⟨some 118, (.iaddr 22 (.t 116) (.t 117)), 0, some (105, false), 0⟩]
          (seg [2, 3, 4, 7, 9, 10, 127, 128] [⟨some 119, (.load 3 (.t 118)), 3, some (105, false), 0⟩, ⟨some 120, (.mv (.t 2)), 22, some (105, false), 0⟩, ⟨some 121, (.mv (.t 10)), 3, some (105, false), 0⟩, ⟨some 122, (.iaddr 22 (.t 120) (.t 121)), 0, some (105, false), 0⟩, ⟨some 123, (.load 3 (.t 122)), 3, some (105, false), 0⟩, ⟨some 124, (.call (.f 127) [(.t 115), (.t 119), (.t 123)]), 3, some (105, false), 3⟩, ⟨some 125, (.bin .neq 3 (.t 113) (.t 124)), 4, some (105, false), 0⟩, ⟨some 126, (.pick (.t 105) (.c (.bool true)) (.t 125)), 4, none, 0⟩, ⟨some 127, (.mv (.t 126)), 4, none, 0⟩, ⟨some 128, (.mv (.t 2)), 22, some (127, false), 0⟩]
          (seg [2, 3, 4, 7, 9, 10, 127, 135, 137, 138] [⟨some 129, (.faddr 28 (.t 3) 0), 0, some (127, false), 0⟩, ⟨some 130, (.load 22 (.t 129)), 22, some (127, false), 0⟩, ⟨some 131, (.mv (.t 9)), 3, some (127, false), 0⟩, ⟨some 132, (.mv (.t 10)), 3, some (127, false), 0⟩, ⟨some 133, (.call (.f 124) [(.t 130), (.t 131), (.t 132)]), 3, some (127, false), 3⟩, ⟨some 134, (.iaddr 22 (.t 128) (.t 133)), 0, some (127, false), 0⟩, ⟨some 135, (.load 3 (.t 134)), 3, some (127, false), 0⟩, ⟨some 136, (.faddr 28 (.t 4) 0), 0, some (127, false), 0⟩, ⟨some 137, (.load 22 (.t 136)), 22, some (127, false), 0⟩, ⟨some 138, (.mv (.t 2)), 22, some (127, false), 0⟩]
          [⟨some 139, (.mv (.t 9)), 3, some (127, false), 0⟩, ⟨some 140, (.iaddr 22 (.t 138) (.t 139)), 0, some (127, false), 0⟩, ⟨some 141, (.load 3 (.t 140)), 3, some (127, false), 0⟩, ⟨some 142, (.mv (.t 2)), 22, some (127, false), 0⟩, ⟨some 143, (.mv (.t 10)), 3, some (127, false), 0⟩, ⟨some 144, (.iaddr 22 (.t 142) (.t 143)), 0, some (127, false), 0⟩, ⟨some 145, (.load 3 (.t 144)), 3, some (127, false), 0⟩, ⟨some 146, (.call (.f 124) [(.t 137), (.t 141), (.t 145)]), 3, some (127, false), 3⟩, ⟨some 147, (.bin .neq 3 (.t 135) (.t 146)), 4, some (127, false), 0⟩, ⟨some 148, (.pick (.t 127) (.c (.bool true)) (.t 147)), 4, none, 0⟩] [2, 3, 4, 7, 9, 10, 148] (by decide)) [2, 3, 4, 7, 9, 10, 148] (by decide)) [2, 3, 4, 7, 9, 10, 148] (by decide)) [2, 3, 4, 7, 9, 10, 148] (by decide)) [2, 3, 4, 7, 9, 10, 148] (by decide)) [2, 3, 4, 7, 9, 10, 148] (by decide)) [2, 3, 4, 7, 9, 10, 148] (by decide)) [2, 3, 4, 7, 9, 10, 148] (by decide))) (some [2, 3, 4, 7, 9, 10, 148]))
          (.cond (.t 148)
            (.seq
              (.region false [⟨some 6, (.mv (.c (.bool false))), 4, none, 0⟩] (some [6]))
              .ret)
            .skip)))
      (.region false [⟨some 57, (.mv (.t 10)), 3, none, 0⟩, ⟨some 58, (.bin .add 3 (.t 57) (.c (.int .i64 1))), 3, none, 0⟩, ⟨some 10, (.mv (.t 58)), 3, none, 0⟩] (some [2, 3, 4, 7, 9, 10]))))
def lb_147_12 : AC :=
  (.seq
    (.seq
      (.region false [⟨some 49, (.mv (.t 9)), 3, none, 0⟩, ⟨some 50, (.mv (.t 7)), 3, none, 0⟩, ⟨some 51, (.bin .lss 3 (.t 49) (.t 50)), 4, none, 0⟩] (some [2, 3, 4, 7, 9, 51]))
      (.cond (.t 51)
        .skip
        (.exit 2)))
    (.seq
      (.block 3
        (.seq
          (.region false [⟨some 10, (.mv (.c (.int .i64 0))), 3, none, 0⟩] (some [2, 3, 4, 7, 9, 10]))
          (.block 4
            (.loop [2, 3, 4, 7, 9, 10] [] lb_147_15))))
      (.region false [⟨some 52, (.mv (.t 9)), 3, none, 0⟩, ⟨some 53, (.bin .add 3 (.t 52) (.c (.int .i64 1))), 3, none, 0⟩, ⟨some 9, (.mv (.t 53)), 3, none, 0⟩] (some [2, 3, 4, 7, 9]))))
def fa_147 : FnA := ⟨149, [.t 6],
  (.seq
    (.region false [⟨some 3, (.box 28 (.t 0)), 0, none, 0⟩, ⟨some 4, (.box 28 (.t 1)), 0, none, 0⟩, ⟨some 6, (.mv (.c (.bool false))), 4, none, 0⟩] (some [2, 3, 4]))
    (.seq
      (.region false [⟨some 11, (.faddr 28 (.t 3) 0), 0, none, 0⟩, ⟨some 12, (.load 22 (.t 11)), 22, none, 0⟩, ⟨some 13, (.len 22 (.t 12)), 3, none, 0⟩, ⟨some 7, (.mv (.t 13)), 3, none, 0⟩] (some [2, 3, 4, 7]))
      (.seq
        (.seq
          (.region false [⟨some 14, (.mv (.t 2)), 22, none, 0⟩, ⟨some 15, (.len 22 (.t 14)), 3, none, 0⟩, ⟨some 16, (.mv (.t 7)), 3, none, 0⟩, ⟨some 17, (.bin .neq 3 (.t 15) (.t 16)), 4, none, 0⟩] (some [2, 3, 4, 7, 17]))
          (.cond (.t 17)
            (.seq
              (.region false [⟨some 6, (.mv (.c (.bool false))), 4, none, 0⟩] (some [6]))
              .ret)
            .skip))
        (.seq
          (.seq
            (.region false [⟨some 8, (.mv (.c (.int .i64 0))), 3, none, 0⟩] (some [2, 3, 4, 7, 8]))
            (.block 0
              (.loop [2, 3, 4, 7, 8] [] lb_147_5)))
          (.seq
            (.seq
              (.region true (gops [⟨some 33, (.mv (.t 2)), 22, none, 0⟩, ⟨some 34, (.iaddr 22 (.t 33) (.c (.int .i64 0))), 0, none, 0⟩, ⟨some 35, (.load 3 (.t 34)), 3, none, 0⟩, ⟨some 36, (.bin .neq 3 (.t 35) (.c (.int .i64 0))), 4, none, 0⟩, ⟨some 37, (.mv (.t 36)), 4, none, 0⟩, ⟨some 38, (.mv (.t 2)), 22, some (37, false), 0⟩, ⟨some 39, (.mv (.t 7)), 3, some (37, false), 0⟩, ⟨some 40, (.bin .sub 3 (.t 39) (.c (.int .i64 1))), 3, some (37, false), 0⟩, ⟨some 41, (.iaddr 22 (.t 38) (.t 40)), 0, some (37, false), 0⟩, ⟨some 42, (.load 3 (.t 41)), 3, some (37, false), 0⟩, ⟨some 43, (.faddr 28 (.t 4) 0), 0, some (37, false), 0⟩, ⟨some 44, (.load 22 (.t 43)), 22, some (37, false), 0⟩, ⟨some 45, (.len 22 (.t 44)), 3, some (37, false), 0⟩, ⟨some 46, (.bin .sub 3 (.t 45) (.c (.int .i64 1))), 3, some (37, false), 0⟩, ⟨some 47, (.bin .neq 3 (.t 42) (.t 46)), 4, some (37, false), 0⟩, ⟨some 48, (.pick (.t 37) (.c (.bool true)) (.t 47)), 4, none, 0⟩]) (some [2, 3, 4, 7, 48]))
              (.cond (.t 48)
                (.seq
                  (.region false [⟨some 6, (.mv (.c (.bool false))), 4, none, 0⟩] (some [6]))
                  .ret)
                .skip))
            (.seq
              (.seq
                (.region false [⟨some 9, (.mv (.c (.int .i64 0))), 3, none, 0⟩] (some [2, 3, 4, 7, 9]))
                (.block 2
                  (.loop [2, 3, 4, 7, 9] [] lb_147_12)))
              (.seq
                (.region false [⟨some 6, (.mv (.c (.bool true))), 4, none, 0⟩] (some [6]))
                .ret)))))))⟩
theorem fok_147 : FnOk Try.prog 147 fa_147 an_147 := ⟨Try.f147, _, Try.func147, rfl, by kernel_rfl, rfl, rfl, by decide, by kernel_rfl⟩
/-- spec.fits -/
def an_148 : Ann := ⟨[(5, 47, 3), (5, 60, 3), (5, 70, 3), (5, 83, 3)], [(0, [2, 3, 4]), (1, [2, 3, 4, 7]), (2, [2, 3, 4, 7, 8]), (3, [2, 3, 4, 7, 8, 13]), (5, [2, 3, 4, 7, 8, 102]), (6, [6]), (4, [2, 3, 4, 7, 8]), (7, [6])], [(3, [2, 3, 4, 7, 8], [])], []⟩
def lb_148_3 : AC :=
  (.seq
    (.seq
      (.region false [⟨some 11, (.mv (.t 8)), 3, none, 0⟩, ⟨some 12, (.mv (.t 7)), 3, none, 0⟩, ⟨some 13, (.bin .lss 3 (.t 11) (.t 12)), 4, none, 0⟩] (some [2, 3, 4, 7, 8, 13]))
      (.cond (.t 13)
        .skip
        (.exit 0)))
    (.seq
      (.block 1
        (.seq
          (.region true (gops (seg [2, 3, 4, 7, 8, 24, 25] [⟨some 16, (.faddr 28 (.t 3) 1), 0, none, 0⟩, ⟨some 17, (.load 23 (.t 16)), 23, none, 0⟩, ⟨some 18, (.mv (.t 8)), 3, none, 0⟩, ⟨some 19, (.iaddr 23 (.t 17) (.t 18)), 0, none, 0⟩, ⟨some 20, (.load 22 (.t 19)), 22, none, 0⟩, ⟨some 21, (.mv (.t 7)), 3, none, 0⟩, ⟨some 22, (.bin .sub 3 (.t 21) (.c (.int .i64 1))), 3, none, 0⟩, ⟨some 23, (.iaddr 22 (.t 20) (.t 22)), 0, none, 0⟩, ⟨some 24, (.load 3 (.t 23)), 3, none, 0⟩, ⟨some 25, (.mv (.t 7)), 3, none, 0⟩]
          (seg [2, 3, 4, 7, 8, 27, 28, 33, 35] [⟨some 26, (.bin .lss 3 (.t 24) (.t 25)), 4, none, 0⟩, ⟨some 27, (.mv (.t 26)), 4, none, 0⟩, ⟨some 28, (.mv (.t 2)), 22, some (27, true), 0⟩, ⟨some 29, (.faddr 28 (.t 3) 1), 0, some (27, true), 0⟩, ⟨some 30, (.load 23 (.t 29)), 23, some (27, true), 0⟩, ⟨some 31, (.mv (.t 8)), 3, some (27, true), 0⟩, ⟨some 32, (.iaddr 23 (.t 30) (.t 31)), 0, some (27, true), 0⟩, ⟨some 33, (.load 22 (.t 32)), 22, some (27, true), 0⟩, ⟨some 34, (.mv (.t 7)), 3, some (27, true), 0⟩, ⟨some 35, (.bin .sub 3 (.t 34) (.c (.int .i64 1))), 3, some (27, true), 0⟩]
          (seg [2, 3, 4, 7, 8, 27, 39, 41, 45] [⟨some 36, (.iaddr 22 (.t 33) (.t 35)), 0, some (27, true), 0⟩, ⟨some 37, (.load 3 (.t 36)), 3, some (27, true), 0⟩, ⟨some 38, (.iaddr 22 (.t 28) (.t 37)), 0, some (27, true), 0⟩, ⟨some 39, (.load 3 (.t 38)), 3, some (27, true), 0⟩, ⟨some 40, (.faddr 28 (.t 4) 1), 0, some (27, true), 0⟩, ⟨some 41, (.load 23 (.t 40)), 23, some (27, true), 0⟩, ⟨some 42, (.mv (.t 2)), 22, some (27, true), 0⟩, ⟨some 43, (.mv (.t 8)), 3, some (27, true), 0⟩, ⟨some 44, (.iaddr 22 (.t 42) (.t 43)), 0, some (27, true), 0⟩, ⟨some 45, (.load 3 (.t 44)), 3, some (27, true), 0⟩]
          (seg [2, 3, 4, 7, 8, 27, 55] [⟨some 46, (.iaddr 23 (.t 41) (.t 45)), 0, some (27, true), 0⟩, ⟨some 47, (.load 22 (.t 46)), 22, some (27, true), 0⟩, ⟨some 48, (.mv (.t 2)), 22, some (27, true), 0⟩, ⟨some 49, (.mv (.t 7)), 3, some (27, true), 0⟩, ⟨some 50, (.bin .sub 3 (.t 49) (.c (.int .i64 1))), 3, some (27, true), 0⟩, ⟨some 51, (.iaddr 22 (.t 48) (.t 50)), 0, some (27, true), 0⟩, ⟨some 52, (.load 3 (.t 51)), 3, some (27, true), 0⟩, ⟨some 53, (.iaddr 22 (.t 47) (.t 52)), 0, some (27, true), 0⟩, ⟨some 54, (.load 3 (.t 53)), 3, some (27, true), 0⟩, ⟨some 55, (.bin .neq 3 (.t 39) (.t 54)), 4, some (27, true), 0⟩]
          (seg [2, 3, 4, 7, 8, 57, 64, 65] [⟨some 56, (.pick (.t 27) (.t 55) (.c (.bool false))), 4, none, 0⟩, ⟨some 57, (.mv (.t 56)), 4, none, 0⟩, ⟨some 58, (.faddr 28 (.t 3) 0), 0, some (57, false), 0⟩, ⟨some 59, (.load 22 (.t 58)), 22, some (57, false), 0⟩, ⟨some 60, (.mv (.t 8)), 3, some (57, false), 0⟩, ⟨some 61, (.mv (.t 7)), 3, some (57, false), 0⟩, ⟨some 62, (.bin .sub 3 (.t 61) (.c (.int .i64 1))), 3, some (57, false), 0⟩, ⟨some 63, (.call (.f 113) [(.t 59), (.t 60), (.t 62)]), 4, some (57, false), 3⟩, ⟨some 64, (.mv (.t 63)), 4, some (57, false), 0⟩, ⟨some 65, (.faddr 28 (.t 4) 0), 0, some (64, true), 0⟩]
          (seg [2, 3, 4, 7, 8, 57, 64, 66, 70, 75] [⟨some 66, (.load 22 (.t 65)), 22, some (64, true), 0⟩, ⟨some 67, (.mv (.t 2)), 22, some (64, true), 0⟩, ⟨some 68, (.mv (.t 8)), 3, some (64, true), 0⟩, ⟨some 69, (.iaddr 22 (.t 67) (.t 68)), 0, some (64, true), 0⟩, ⟨some 70, (.load 3 (.t 69)), 3, some (64, true), 0⟩, ⟨some 71, (.mv (.t 2)), 22, some (64, true), 0⟩, ⟨some 72, (.mv (.t 7)), 3, some (64, true), 0⟩, ⟨some 73, (.bin .sub 3 (.t 72) (.c (.int .i64 1))), 3, some (64, true), 0⟩, ⟨some 74, (.iaddr 22 (.t 71) (.t 73)), 0, some (64, true), 0⟩, ⟨some 75, (.load 3 (.t 74)), 3, some (64, true), 0⟩]
          (seg [2, 3, 4, 7, 8, 80, 82, 84, 85] [⟨some 76, (.call (.f 113) [(.t 66), (.t 70), (.t 75)]), 4, some (64, true), 3⟩, ⟨some 77, (.un .not (.t 76)), 4, some (64, true), 0⟩, ⟨some 78, (.pick (.t 64) (.t 77) (.c (.bool false))), 4, some (57, false), 0⟩, ⟨some 79, (.pick (.t 57) (.c (.bool true)) (.t 78)), 4, none, 0⟩, ⟨some 80, (.mv (.t 79)), 4, none, 0⟩, ⟨some 81, (.faddr 28 (.t 3) 0), 0, some (80, false), 0⟩, ⟨some 82, (.load 22 (.t 81)), 22, some (80, false), 0⟩, ⟨some 83, (.mv (.t 7)), 3, some (80, false), 0⟩, ⟨some 84, (.bin .sub 3 (.t 83) (.c (.int .i64 1))), 3, some (80, false), 0⟩, ⟨some 85, (.mv (.t 8)), 3, some (80, false), 0⟩]
          (seg [2, 3, 4, 7, 8, 80, 87, 89, 94, 95] [⟨some 86, (.call (.f 113) [(.t 82), (.t 84), (.t 85)]), 4, some (80, false), 3⟩, ⟨some 87, (.mv (.t 86)), 4, some (80, false), 0⟩, ⟨some 88, (.faddr 28 (.t 4) 0), 0, some (87, true), 0⟩, ⟨some 89, (.load 22 (.t 88)), 22, some (87, true), 0⟩, ⟨some 90, (.mv (.t 2)), 22, some (87, true), 0⟩, ⟨some 91, (.mv (.t 7)), 3, some (87, true), 0⟩, ⟨some 92, (.bin .sub 3 (.t 91) (.c (.int .i64 1))), 3, some (87, true), 0⟩, ⟨some 93, (.iaddr 22 (.t 90) (.t 92)), 0, some (87, true), 0⟩, ⟨some 94, (.load 3 (.t 93)), 3, some (87, true), 0⟩, ⟨some 95, (.mv (.t 2)), 22, some (87, true), 0⟩]
          [⟨some 96, (.mv (.t 8)), 3, some (87, true), 0⟩, ⟨some 97, (.iaddr 22 (.t 95) (.t 96)), 0, some (87, true), 0⟩, ⟨some 98, (.load 3 (.t 97)), 3, some (87, true), 0⟩, ⟨some 99, (.call (.f 113) [(.t 89), (.t 94), (.t 98)]), 4, some (87, true), 3⟩, ⟨some 100, (.un .not (.t 99)), 4, some (87, true), 0⟩, ⟨some 101, (.pick (.t 87) (.t 100) (.c (.bool false))), 4, some (80, false), 0⟩, ⟨some 102, (.pick (.t 80) (.c (.bool true)) (.t 101)), 4, none, 0⟩] [2, 3, 4, 7, 8, 102] (by decide)) [2, 3, 4, 7, 8, 102] (by decide)) [2, 3, 4, 7, 8, 102] (by decide)) [2, 3, 4, 7, 8, 102] (by decide)) [2, 3, 4, 7, 8, 102] (by decide)) [2, 3, 4, 7, 8, 102] (by decide)) [2, 3, 4, 7, 8, 102] (by decide)) [2, 3, 4, 7, 8, 102] (by decide))) (some [2, 3, 4, 7, 8, 102]))
          (.cond (.t 102)
            (.seq
              (.region false [⟨some 6, (.mv (.c (.bool false))), 4, none, 0⟩] (some [6]))
              .ret)
            .skip)))
      (.region false [⟨some 14, (.mv (.t 8)), 3, none, 0⟩, ⟨some 15, (.bin .add 3 (.t 14) (.c (.int .i64 1))), 3, none, 0⟩, ⟨some 8, (.mv (.t 15)), 3, none, 0⟩] (some [2, 3, 4, 7, 8]))))
def fa_148 : FnA := ⟨103, [.t 6],
  (.seq
    (.region false [⟨some 3, (.box 28 (.t 0)), 0, none, 0⟩, ⟨some 4, (.box 28 (.t 1)), 0, none, 0⟩, ⟨some 6, (.mv (.c (.bool false))), 4, none, 0⟩] (some [2, 3, 4]))
    (.seq
      (.region false [⟨some 9, (.mv (.t 2)), 22, none, 0⟩, ⟨some 10, (.len 22 (.t 9)), 3, none, 0⟩, ⟨some 7, (.mv (.t 10)), 3, none, 0⟩] (some [2, 3, 4, 7]))
      (.seq
        (.seq
          (.region false [⟨some 8, (.mv (.c (.int .i64 0))), 3, none, 0⟩] (some [2, 3, 4, 7, 8]))
          (.block 0
            (.loop [2, 3, 4, 7, 8] [] lb_148_3)))
        (.seq
          (.region false [⟨some 6, (.mv (.c (.bool true))), 4, none, 0⟩] (some [6]))
          .ret))))⟩
theorem fok_148 : FnOk Try.prog 148 fa_148 an_148 := ⟨Try.f148, _, Try.func148, rfl, by kernel_rfl, rfl, rfl, by decide, by kernel_rfl⟩
/-- spec.mapsFrom -/
def an_99 : Ann := ⟨[(2, 3, 3), (3, 0, 1), (3, 2, 2), (5, 0, 1), (9, 0, 1), (9, 5, 2), (10, 3, 3), (11, 4, 3), (12, 1, 2)], [(0, [2, 3, 4]), (1, [2, 3, 4, 15]), (2, [2, 19]), (3, [6]), (4, [6]), (5, [2, 3, 4, 7]), (6, [2, 3, 4, 7, 8]), (7, [2, 3, 4, 7, 8, 30]), (9, [2, 3, 4, 7, 8, 9]), (10, [2, 3, 4, 7, 8, 9, 42]), (11, [2, 3, 4, 7, 8]), (8, [2, 3, 4, 7, 8]), (12, [6])], [(7, [2, 3, 4, 7, 8], [200, 384])], []⟩
def lb_99_7 : AC :=
  (.seq
    (.seq
      (.region false [⟨some 26, (.mv (.t 8)), 3, none, 0⟩, ⟨some 27, (.faddr 28 (.t 4) 0), 0, none, 0⟩, ⟨some 28, (.load 22 (.t 27)), 22, none, 0⟩, ⟨some 29, (.len 22 (.t 28)), 3, none, 0⟩, ⟨some 30, (.bin .lss 3 (.t 26) (.t 29)), 4, none, 0⟩] (some [2, 3, 4, 7, 8, 30]))
      (.cond (.t 30)
        .skip
        (.exit 0)))
    (.seq
      (.block 1
        (.seq
          (.region false [⟨some 33, (.bslice 22 0 []), 22, none, 1⟩, ⟨some 34, (.mv (.t 2)), 22, none, 0⟩, ⟨some 35, (.app 22 22 (.t 33) (.t 34)), 22, none, 0⟩, ⟨some 36, (.mv (.t 8)), 3, none, 0⟩, ⟨some 37, (.bslice 22 1 [(0, (.t 36))]), 22, none, 0⟩, ⟨some 38, (.app 22 22 (.t 35) (.t 37)), 22, none, 2⟩, ⟨some 9, (.mv (.t 38)), 22, none, 0⟩] (some [2, 3, 4, 7, 8, 9]))
          (.seq
            (.region false [⟨some 39, (.load 28 (.t 3)), 28, none, 0⟩, ⟨some 40, (.load 28 (.t 4)), 28, none, 0⟩, ⟨some 41, (.mv (.t 9)), 22, none, 0⟩, ⟨some 42, (.call (.f 148) [(.t 39), (.t 40), (.t 41)]), 4, none, 3⟩] (some [2, 3, 4, 7, 8, 9, 42]))
            (.cond (.t 42)
              (.region false [⟨some 43, (.mv (.t 7)), 23, none, 0⟩, ⟨some 44, (.load 28 (.t 3)), 28, none, 0⟩, ⟨some 45, (.load 28 (.t 4)), 28, none, 0⟩, ⟨some 46, (.mv (.t 9)), 22, none, 0⟩, ⟨some 47, (.call (.f 99) [(.t 44), (.t 45), (.t 46)]), 23, none, 3⟩, ⟨some 48, (.app 23 23 (.t 43) (.t 47)), 23, none, 0⟩, ⟨some 7, (.mv (.t 48)), 23, none, 0⟩] (some [2, 3, 4, 7, 8]))
              .skip))))
      (.region false [⟨some 31, (.mv (.t 8)), 3, none, 0⟩, ⟨some 32, (.bin .add 3 (.t 31) (.c (.int .i64 1))), 3, none, 0⟩, ⟨some 8, (.mv (.t 32)), 3, none, 0⟩] (some [2, 3, 4, 7, 8]))))
def fa_99 : FnA := ⟨50, [.t 6],
  (.seq
    (.region false [⟨some 3, (.box 28 (.t 0)), 0, none, 0⟩, ⟨some 4, (.box 28 (.t 1)), 0, none, 0⟩, ⟨some 6, (.mv (.c .nil)), 23, none, 0⟩] (some [2, 3, 4]))
    (.seq
      (.seq
        (.region false [⟨some 10, (.mv (.t 2)), 22, none, 0⟩, ⟨some 11, (.len 22 (.t 10)), 3, none, 0⟩, ⟨some 12, (.faddr 28 (.t 3) 0), 0, none, 0⟩, ⟨some 13, (.load 22 (.t 12)), 22, none, 0⟩, ⟨some 14, (.len 22 (.t 13)), 3, none, 0⟩, ⟨some 15, (.bin .eql 3 (.t 11) (.t 14)), 4, none, 0⟩] (some [2, 3, 4, 15]))
        (.cond (.t 15)
          (.seq
            (.seq
              (.region false [⟨some 16, (.load 28 (.t 3)), 28, none, 0⟩, ⟨some 17, (.load 28 (.t 4)), 28, none, 0⟩, ⟨some 18, (.mv (.t 2)), 22, none, 0⟩, ⟨some 19, (.call (.f 147) [(.t 16), (.t 17), (.t 18)]), 4, none, 3⟩] (some [2, 19]))
              (.cond (.t 19)
                (.seq
                  (.region false [⟨some 20, (.bslice 22 0 []), 22, none, 1⟩, ⟨some 21, (.mv (.t 2)), 22, none, 0⟩, ⟨some 22, (.app 22 22 (.t 20) (.t 21)), 22, none, 2⟩, ⟨some 23, (.bslice 23 1 [(0, (.t 22))]), 23, none, 0⟩, ⟨some 6, (.mv (.t 23)), 23, none, 0⟩] (some [6]))
                  .ret)
                .skip))
            (.seq
              (.region false [⟨some 24, (.bslice 23 0 []), 23, none, 0⟩, ⟨some 6, (.mv (.t 24)), 23, none, 0⟩] (some [6]))
              .ret))
          .skip))
      (.seq
        (.region false [⟨some 25, (.bslice 23 0 []), 23, none, 1⟩, ⟨some 7, (.mv (.t 25)), 23, none, 0⟩] (some [2, 3, 4, 7]))
        (.seq
          (.seq
            (.region false [⟨some 8, (.mv (.c (.int .i64 0))), 3, none, 0⟩] (some [2, 3, 4, 7, 8]))
            (.block 0
              (.loop [2, 3, 4, 7, 8] [200, 384] lb_99_7)))
          (.seq
            (.region false [⟨some 49, (.mv (.t 7)), 23, none, 0⟩, ⟨some 6, (.mv (.t 49)), 23, none, 2⟩] (some [6]))
            .ret)))))⟩
theorem fok_99 : FnOk Try.prog 99 fa_99 an_99 := ⟨Try.f99, _, Try.func99, rfl, by kernel_rfl, rfl, rfl, by decide, by kernel_rfl⟩
/-- spec.MapsOf -/
def an_44 : Ann := ⟨[(1, 1, 3), (1, 5, 3), (3, 3, 3)], [(0, [2, 3]), (1, [2, 3, 12]), (2, [4]), (3, [4])], [], []⟩
def fa_44 : FnA := ⟨17, [.t 4],
  (.seq
    (.region false [⟨some 2, (.box 28 (.t 0)), 0, none, 0⟩, ⟨some 3, (.box 28 (.t 1)), 0, none, 0⟩, ⟨some 4, (.mv (.c .nil)), 23, none, 0⟩] (some [2, 3]))
    (.seq
      (.seq
        (.region false (gops [⟨some 5, (.load 28 (.t 2)), 28, none, 0⟩, ⟨some 6, (.call (.f 62) [(.t 5)]), 4, none, 3⟩, ⟨some 7, (.un .not (.t 6)), 4, none, 0⟩, ⟨some 8, (.mv (.t 7)), 4, none, 0⟩, ⟨some 9, (.load 28 (.t 3)), 28, some (8, false), 0⟩, ⟨some 10, (.call (.f 62) [(.t 9)]), 4, some (8, false), 3⟩, ⟨some 11, (.un .not (.t 10)), 4, some (8, false), 0⟩, ⟨some 12, (.pick (.t 8) (.c (.bool true)) (.t 11)), 4, none, 0⟩]) (some [2, 3, 12]))
        (.cond (.t 12)
          (.seq
            (.region false [⟨some 4, (.mv (.c .nil)), 23, none, 0⟩] (some [4]))
            .ret)
          .skip))
      (.seq
        (.region false [⟨some 13, (.load 28 (.t 2)), 28, none, 0⟩, ⟨some 14, (.load 28 (.t 3)), 28, none, 0⟩, ⟨some 15, (.bslice 22 0 []), 22, none, 0⟩, ⟨some 16, (.call (.f 99) [(.t 13), (.t 14), (.t 15)]), 23, none, 3⟩, ⟨some 4, (.mv (.t 16)), 23, none, 0⟩] (some [4]))
        .ret)))⟩
theorem fok_44 : FnOk Try.prog 44 fa_44 an_44 := ⟨Try.f44, _, Try.func44, rfl, by kernel_rfl, rfl, rfl, by decide, by kernel_rfl⟩
/-- impl.isMap$1 -/
def an_169 : Ann := ⟨[(1, 5, 3)], [(0, [0, 1]), (1, [3])], [], []⟩
def fa_169 : FnA := ⟨11, [.t 3],
  (.seq
    (.region false [⟨some 3, (.mv (.c (.bool false))), 4, none, 0⟩] (some [0, 1]))
    (.seq
      (.region false [⟨some 4, (.mv (.t 0)), 3, none, 0⟩, ⟨some 5, (.faddr 28 (.t 1) 0), 0, none, 0⟩, ⟨some 6, (.load 22 (.t 5)), 22, none, 0⟩, ⟨some 7, (.len 22 (.t 6)), 3, none, 0⟩, ⟨some 8, (.bin .sub 3 (.t 7) (.c (.int .i64 1))), 3, none, 0⟩, ⟨some 9, (.call (.f 80) [(.t 4), (.c (.int .i64 0)), (.t 8)]), 4, none, 3⟩, ⟨some 10, (.un .not (.t 9)), 4, none, 0⟩, ⟨some 3, (.mv (.t 10)), 4, none, 0⟩] (some [3]))
      .ret))⟩
theorem fok_169 : FnOk Try.prog 169 fa_169 an_169 := ⟨Try.f169, _, Try.func169, rfl, by kernel_rfl, rfl, rfl, by decide, by kernel_rfl⟩
/-- impl.isMap -/
def an_150 : Ann := ⟨[(1, 9, 3), (11, 31, 3), (11, 43, 3), (11, 52, 3), (11, 65, 3), (11, 74, 3), (11, 87, 3)], [(0, [2, 3, 4]), (1, [2, 3, 4, 19]), (2, [6]), (3, [2, 3, 4, 36]), (4, [6]), (5, [2, 3, 4, 38, 39]), (6, [2, 3, 4, 38, 39, 40]), (7, [2, 3, 4, 7, 38, 39]), (8, [2, 3, 4, 7, 38, 39, 43, 44]), (9, [2, 3, 4, 7, 38, 39, 43, 44, 45]), (10, [2, 3, 4, 7, 8, 38, 39, 43, 44]), (11, [2, 3, 4, 7, 38, 39, 43, 44, 136]), (12, [6]), (13, [2, 3, 4, 7, 38, 39, 43, 44]), (14, [2, 3, 4, 38, 39]), (15, [6])], [(6, [2, 3, 4, 38, 39], []), (9, [2, 3, 4, 7, 38, 39, 43, 44], [])], []⟩
def lb_150_9 : AC :=
  (.seq
    (.region false [⟨some 45, (.bin .lss 3 (.t 44) (.t 43)), 0, none, 0⟩] (some [2, 3, 4, 7, 38, 39, 43, 44, 45]))
    (.seq
      (.cond (.t 45)
        .skip
        (.exit 2))
      (.seq
        (.block 3
          (.seq
            (.region false [⟨some 46, (.mv (.t 44)), 3, none, 0⟩, ⟨some 8, (.mv (.t 46)), 3, none, 0⟩] (some [2, 3, 4, 7, 8, 38, 39, 43, 44]))
            (.seq
              (.region true (gops (seg [2, 3, 4, 7, 8, 38, 39, 43, 44, 56] [⟨some 47, (.mv (.t 2)), 22, none, 0⟩, ⟨some 48, (.faddr 28 (.t 3) 1), 0, none, 0⟩, ⟨some 49, (.load 23 (.t 48)), 23, none, 0⟩, ⟨some 50, (.mv (.t 7)), 3, none, 0⟩, ⟨some 51, (.iaddr 23 (.t 49) (.t 50)), 0, none, 0⟩, ⟨some 52, (.load 22 (.t 51)), 22, none, 0⟩, ⟨some 53, (.mv (.t 8)), 3, none, 0⟩, ⟨some 54, (.iaddr 22 (.t 52) (.t 53)), 0, none, 0⟩, ⟨some 55, (.load 3 (.t 54)), 3, none, 0⟩, ⟨some 56, (.iaddr 22 (.t 47) (.t 55)), 0, none, 0⟩]
              (seg [2, 3, 4, 7, 8, 38, 39, 43, 44, 57, 65, 66] [⟨some 57, (.load 3 (.t 56)), 3, none, 0⟩, ⟨some 58, (.faddr 28 (.t 4) 1), 0, none, 0⟩, ⟨some 59, (.load 23 (.t 58)), 23, none, 0⟩, ⟨some 60, (.mv (.t 2)), 22, none, 0⟩, ⟨some 61, (.mv (.t 7)), 3, none, 0⟩, ⟨some 62, (.iaddr 22 (.t 60) (.t 61)), 0, none, 0⟩, ⟨some 63, (.load 3 (.t 62)), 3, none, 0⟩, ⟨some 64, (.iaddr 23 (.t 59) (.t 63)), 0, none, 0⟩, ⟨some 65, (.load 22 (.t 64)), 22, none, 0⟩, ⟨some 66, (.mv (.t 2)), 22, none, 0⟩]
              (seg [2, 3, 4, 7, 8, 38, 39, 43, 44, 73, 74, 75, 76] [⟨some 67, (.mv (.t 8)), 3, none, 0⟩, ⟨some 68, (.iaddr 22 (.t 66) (.t 67)), 0, none, 0⟩, ⟨some 69, (.load 3 (.t 68)), 3, none, 0⟩, ⟨some 70, (.iaddr 22 (.t 65) (.t 69)), 0, none, 0⟩, ⟨some 71, (.load 3 (.t 70)), 3, none, 0⟩, ⟨some 72, (.bin .neq 3 (.t 57) (.t 71)), 4, none, 0⟩, ⟨some 73, (.mv (.t 72)), 4, none, 0⟩, ⟨some 74, (.mv (.t 2)), 22, some (73, false), 0⟩, ⟨some 75, (.load 28 (.t 3)), 28, some (73, false), 0⟩, ⟨some 76, (.mv (.t 7)), 3, some (73, false), 0⟩]
              (seg [2, 3, 4, 7, 8, 38, 39, 43, 44, 73, 80, 81, 85, 86] [⟨some 77, (.mv (.t 8)), 3, some (73, false), 0⟩, ⟨some 78, (.call (.f 111) [(.t 75), (.t 76), (.t 77)]), 3, some (73, false), 3⟩, ⟨some 79, (.iaddr 22 (.t 74) (.t 78)), 0, some (73, false), 0⟩, ⟨some 80, (.load 3 (.t 79)), 3, some (73, false), 0⟩, ⟨some 81, (.load 28 (.t 4)), 28, some (73, false), 0⟩, ⟨some 82, (.mv (.t 2)), 22, some (73, false), 0⟩, ⟨some 83, (.mv (.t 7)), 3, some (73, false), 0⟩, ⟨some 84, (.iaddr 22 (.t 82) (.t 83)), 0, some (73, false), 0⟩, ⟨some 85, (.load 3 (.t 84)), 3, some (73, false), 0⟩, ⟨some 86, (.mv (.t 2)), 22, some (73, false), 0⟩]
              (seg [2, 3, 4, 7, 8, 38, 39, 43, 44, 93, 94, 96] [⟨some 87, (.mv (.t 8)), 3, some (73, false), 0⟩, ⟨some 88, (.iaddr 22 (.t 86) (.t 87)), 0, some (73, false), 0⟩, ⟨some 89, (.load 3 (.t 88)), 3, some (73, false), 0⟩, ⟨some 90, (.call (.f 111) [(.t 81), (.t 85), (.t 89)]), 3, some (73, false), 3⟩, ⟨some 91, (.bin .neq 3 (.t 80) (.t 90)), 4, some (73, false), 0⟩, ⟨some 92, (.pick (.t 73) (.c (.bool true)) (.t 91)), 4, none, 0⟩, ⟨some 93, (.mv (.t 92)), 4, none, 0⟩, ⟨some 94, (.mv (.t 2)), 22, some (93, false), 0⟩, ⟨some 95, (.faddr 28 (.t 3) 0), 0, some (93, false), 0⟩, ⟨some 96, (.load 22 (.t 95)), 22, some (93, false), 0⟩]
              (seg [2, 3, 4, 7, 8, 38, 39, 43, 44, 93, 101, 103, 106] [⟨some 97, (.mv (.t 7)), 3, some (93, false), 0⟩, ⟨some 98, (.mv (.t 8)), 3, some (93, false), 0⟩, ⟨some 99, (.call (.f 162) [(.t 96), (.t 97), (.t 98)]), 3, some (93, false), 3⟩, ⟨some 100, (.iaddr 22 (.t 94) (.t 99)), 0, some (93, false), 0⟩, ⟨some 101, (.load 3 (.t 100)), 3, some (93, false), 0⟩, ⟨some 102, (.faddr 28 (.t 4) 0), 0, some (93, false), 0⟩, ⟨some 103, (.load 22 (.t 102)), 22, some (93, false), 0⟩, ⟨some 104, (.mv (.t 2)), 22, some (93, false), 0⟩, ⟨some 105, (.mv (.t 7)), 3, some (93, false), 0⟩, ⟨some 106, (.iaddr 22 (.t 104) (.t 105)), 0, some (93, false), 0⟩]
              (seg [2, 3, 4, 7, 8, 38, 39, 43, 44, 115, 116] [⟨some 107, (.load 3 (.t 106)), 3, some (93, false), 0⟩, ⟨some 108, (.mv (.t 2)), 22, some (93, false), 0⟩, ⟨some 109, (.mv (.t 8)), 3, some (93, false), 0⟩, ⟨some 110, (.iaddr 22 (.t 108) (.t 109)), 0, some (93, false), 0⟩, ⟨some 111, (.load 3 (.t 110)), 3, some (93, false), 0⟩, ⟨some 112, (.call (.f 162) [(.t 103), (.t 107), (.t 111)]), 3, some (93, false), 3⟩, ⟨some 113, (.bin .neq 3 (.t 101) (.t 112)), 4, some (93, false), 0⟩, ⟨some 114, (.pick (.t 93) (.c (.bool true)) (.t 113)), 4, none, 0⟩, ⟨some 115, (.mv (.t 114)), 4, none, 0⟩, ⟨some 116, (.mv (.t 2)), 22, some (115, false), 0⟩]
              (seg [2, 3, 4, 7, 8, 38, 39, 43, 44, 115, 123, 125, 126] [⟨some 117, (.faddr 28 (.t 3) 0), 0, some (115, false), 0⟩, ⟨some 118, (.load 22 (.t 117)), 22, some (115, false), 0⟩, ⟨some 119, (.mv (.t 7)), 3, some (115, false), 0⟩, ⟨some 120, (.mv (.t 8)), 3, some (115, false), 0⟩, ⟨some 121, (.call (.f 77) [(.t 118), (.t 119), (.t 120)]), 3, some (115, false), 3⟩, ⟨some 122, (.iaddr 22 (.t 116) (.t 121)), 0, some (115, false), 0⟩, ⟨some 123, (.load 3 (.t 122)), 3, some (115, false), 0⟩, ⟨some 124, (.faddr 28 (.t 4) 0), 0, some (115, false), 0⟩, ⟨some 125, (.load 22 (.t 124)), 22, some (115, false), 0⟩, ⟨some 126, (.mv (.t 2)), 22, some (115, false), 0⟩]
              [⟨some 127, (.mv (.t 7)), 3, some (115, false), 0⟩, ⟨some 128, (.iaddr 22 (.t 126) (.t 127)), 0, some (115, false), 0⟩, ⟨some 129, (.load 3 (.t 128)), 3, some (115, false), 0⟩, ⟨some 130, (.mv (.t 2)), 22, some (115, false), 0⟩, ⟨some 131, (.mv (.t 8)), 3, some (115, false), 0⟩, ⟨some 132, (.iaddr 22 (.t 130) (.t 131)), 0, some (115, false), 0⟩, ⟨some 133, (.load 3 (.t 132)), 3, some (115, false), 0⟩, ⟨some 134, (.call (.f 77) [(.t 125), (.t 129), (.t 133)]), 3, some (115, false), 3⟩, ⟨some 135, (.bin .neq 3 (.t 123) (.t 134)), 4, some (115, false), 0⟩, ⟨some 136, (.pick (.t 115) (.c (.bool true)) (.t 135)), 4, none, 0⟩] [2, 3, 4, 7, 38, 39, 43, 44, 136] (by decide)) [2, 3, 4, 7, 38, 39, 43, 44, 136] (by decide)) [2, 3, 4, 7, 38, 39, 43, 44, 136] (by decide)) [2, 3, 4, 7, 38, 39, 43, 44, 136] (by decide)) [2, 3, 4, 7, 38, 39, 43, 44, 136] (by decide)) [2, 3, 4, 7, 38, 39, 43, 44, 136] (by decide)) [2, 3, 4, 7, 38, 39, 43, 44, 136] (by decide)) [2, 3, 4, 7, 38, 39, 43, 44, 136] (by decide))) (some [2, 3, 4, 7, 38, 39, 43, 44, 136]))
              (.cond (.t 136)
                (.seq
                  (.region false [⟨some 6, (.mv (.c (.bool false))), 4, none, 0⟩] (some [6]))
                  .ret)
                .skip))))
        (.region false [⟨some 137, (.bin .add 3 (.t 44) (.c (.int .i64 1))), 3, none, 0⟩, ⟨some 44, (.mv (.t 137)), 3, none, 0⟩] (some [2, 3, 4, 7, 38, 39, 43, 44])))))
def lb_150_6 : AC :=
  (.seq
    (.region false [⟨some 40, (.bin .lss 3 (.t 39) (.t 38)), 0, none, 0⟩] (some [2, 3, 4, 38, 39, 40]))
    (.seq
      (.cond (.t 40)
        .skip
        (.exit 0))
      (.seq
        (.block 1
          (.seq
            (.region false [⟨some 41, (.mv (.t 39)), 3, none, 0⟩, ⟨some 7, (.mv (.t 41)), 3, none, 0⟩] (some [2, 3, 4, 7, 38, 39]))
            (.seq
              (.region false [⟨some 42, (.mv (.t 2)), 22, none, 0⟩, ⟨some 43, (.len 22 (.t 42)), 3, none, 0⟩, ⟨some 44, (.mv (.c (.int .i64 0))), 3, none, 0⟩] (some [2, 3, 4, 7, 38, 39, 43, 44]))
              (.block 2
                (.loop [2, 3, 4, 7, 38, 39, 43, 44] [] lb_150_9)))))
        (.region false [⟨some 138, (.bin .add 3 (.t 39) (.c (.int .i64 1))), 3, none, 0⟩, ⟨some 39, (.mv (.t 138)), 3, none, 0⟩] (some [2, 3, 4, 38, 39])))))
def fa_150 : FnA := ⟨139, [.t 6],
  (.seq
    (.region false [⟨some 3, (.box 28 (.t 0)), 0, none, 0⟩, ⟨some 4, (.box 28 (.t 1)), 0, none, 0⟩, ⟨some 6, (.mv (.c (.bool false))), 4, none, 0⟩] (some [2, 3, 4]))
    (.seq
      (.seq
        (.region false (gops [⟨some 9, (.mv (.t 2)), 22, none, 0⟩, ⟨some 10, (.len 22 (.t 9)), 3, none, 0⟩, ⟨some 11, (.faddr 28 (.t 3) 0), 0, none, 0⟩, ⟨some 12, (.load 22 (.t 11)), 22, none, 0⟩, ⟨some 13, (.len 22 (.t 12)), 3, none, 0⟩, ⟨some 14, (.bin .neq 3 (.t 10) (.t 13)), 4, none, 0⟩, ⟨some 15, (.mv (.t 14)), 4, none, 0⟩, ⟨some 16, (.mv (.t 2)), 22, some (15, false), 0⟩, ⟨some 17, (.mkfn 169 [(.t 4)]), 42, some (15, false), 0⟩, ⟨some 18, (.call (.f 129) [(.t 16), (.t 17)]), 4, some (15, false), 3⟩, ⟨some 19, (.pick (.t 15) (.c (.bool true)) (.t 18)), 4, none, 0⟩]) (some [2, 3, 4, 19]))
        (.cond (.t 19)
          (.seq
            (.region false [⟨some 6, (.mv (.c (.bool false))), 4, none, 0⟩] (some [6]))
            .ret)
          .skip))
      (.seq
        (.seq
          (.region true (gops [⟨some 20, (.mv (.t 2)), 22, none, 0⟩, ⟨some 21, (.iaddr 22 (.t 20) (.c (.int .i64 0))), 0, none, 0⟩, ⟨some 22, (.load 3 (.t 21)), 3, none, 0⟩, ⟨some 23, (.bin .neq 3 (.t 22) (.c (.int .i64 0))), 4, none, 0⟩, ⟨some 24, (.mv (.t 23)), 4, none, 0⟩, ⟨some 25, (.mv (.t 2)), 22, some (24, false), 0⟩, ⟨some 26, (.mv (.t 2)), 22, some (24, false), 0⟩, ⟨some 27, (.len 22 (.t 26)), 3, some (24, false), 0⟩, ⟨some 28, (.bin .sub 3 (.t 27) (.c (.int .i64 1))), 3, some (24, false), 0⟩, ⟨some 29, (.iaddr 22 (.t 25) (.t 28)), 0, some (24, false), 0⟩, ⟨some 30, (.load 3 (.t 29)), 3, some (24, false), 0⟩, ⟨some 31, (.faddr 28 (.t 4) 0), 0, some (24, false), 0⟩, ⟨some 32, (.load 22 (.t 31)), 22, some (24, false), 0⟩, ⟨some 33, (.len 22 (.t 32)), 3, some (24, false), 0⟩, ⟨some 34, (.bin .sub 3 (.t 33) (.c (.int .i64 1))), 3, some (24, false), 0⟩, ⟨some 35, (.bin .neq 3 (.t 30) (.t 34)), 4, some (24, false), 0⟩, ⟨some 36, (.pick (.t 24) (.c (.bool true)) (.t 35)), 4, none, 0⟩]) (some [2, 3, 4, 36]))
          (.cond (.t 36)
            (.seq
              (.region false [⟨some 6, (.mv (.c (.bool false))), 4, none, 0⟩] (some [6]))
              .ret)
            .skip))
        (.seq
          (.seq
            (.region false [⟨some 37, (.mv (.t 2)), 22, none, 0⟩, ⟨some 38, (.len 22 (.t 37)), 3, none, 0⟩, ⟨some 39, (.mv (.c (.int .i64 0))), 3, none, 0⟩] (some [2, 3, 4, 38, 39]))
            (.block 0
              (.loop [2, 3, 4, 38, 39] [] lb_150_6)))
          (.seq
            (.region false [⟨some 6, (.mv (.c (.bool true))), 4, none, 0⟩] (some [6]))
            .ret)))))⟩
theorem fok_150 : FnOk Try.prog 150 fa_150 an_150 := ⟨Try.f150, _, Try.func150, rfl, by kernel_rfl, rfl, rfl, by decide, by kernel_rfl⟩
/-- impl.maps$1 -/
def an_149 : Ann := ⟨[(0, 0, 1), (3, 3, 3), (4, 2, 2)], [(0, [1, 2, 3, 4, 6]), (1, [1, 2, 3, 4, 6, 13]), (2, [1, 3, 4, 6]), (3, [4, 6, 21]), (4, [])], [], []⟩
def fa_149 : FnA := ⟨26, [],
  (.seq
    (.region false [⟨some 7, (.bslice 22 1 [(0, (.c (.int .i64 0)))]), 22, none, 1⟩, ⟨some 8, (.mv (.t 0)), 22, none, 0⟩, ⟨some 9, (.app 22 22 (.t 7) (.t 8)), 22, none, 0⟩, ⟨some 6, (.mv (.t 9)), 22, none, 0⟩] (some [1, 2, 3, 4, 6]))
    (.seq
      (.seq
        (.region false [⟨some 10, (.faddr 28 (.t 1) 0), 0, none, 0⟩, ⟨some 11, (.load 22 (.t 10)), 22, none, 0⟩, ⟨some 12, (.len 22 (.t 11)), 3, none, 0⟩, ⟨some 13, (.bin .gtr 3 (.t 12) (.c (.int .i64 1))), 4, none, 0⟩] (some [1, 2, 3, 4, 6, 13]))
        (.cond (.t 13)
          (.region false [⟨some 14, (.mv (.t 6)), 22, none, 0⟩, ⟨some 15, (.load 3 (.t 2)), 3, none, 0⟩, ⟨some 16, (.bslice 22 1 [(0, (.t 15))]), 22, none, 0⟩, ⟨some 17, (.app 22 22 (.t 14) (.t 16)), 22, none, 0⟩, ⟨some 6, (.mv (.t 17)), 22, none, 0⟩] (some [1, 3, 4, 6]))
          .skip))
      (.seq
        (.region false [⟨some 18, (.load 28 (.t 1)), 28, none, 0⟩, ⟨some 19, (.load 28 (.t 3)), 28, none, 0⟩, ⟨some 20, (.mv (.t 6)), 22, none, 0⟩, ⟨some 21, (.call (.f 150) [(.t 18), (.t 19), (.t 20)]), 4, none, 3⟩] (some [4, 6, 21]))
        (.cond (.t 21)
          (.region false [⟨some 22, (.load 23 (.t 4)), 23, none, 0⟩, ⟨some 23, (.mv (.t 6)), 22, none, 0⟩, ⟨some 24, (.bslice 23 1 [(0, (.t 23))]), 23, none, 2⟩, ⟨some 25, (.app 23 23 (.t 22) (.t 24)), 23, none, 0⟩, ⟨none, (.store 23 (.t 4) (.t 25)), 0, none, 0⟩] (some []))
          .skip))))⟩
theorem fok_149 : FnOk Try.prog 149 fa_149 an_149 := ⟨Try.f149, _, Try.func149, rfl, by kernel_rfl, rfl, rfl, by decide, by kernel_rfl⟩
/-- impl.maps -/
def an_100 : Ann := ⟨[(1, 0, 1), (2, 7, 3), (3, 2, 16)], [(0, [2, 3]), (1, [2, 3, 5, 6]), (2, [2, 3, 5, 6, 7]), (3, [5]), (4, [4])], [], [(1, (.imm 1 (.imm 2 (.imm 3 (.one 4 (.alt 0 (.alt 5 (.alt 6 (.alt 7 (.alt 8 .fin .stop) .stop) .stop) (.alt 6 (.alt 5 (.alt 7 (.alt 8 .fin .stop) .stop) .stop) .stop)) (.alt 5 (.alt 0 (.alt 6 (.alt 7 (.alt 8 .fin .stop) .stop) .stop) (.alt 6 (.alt 0 (.alt 7 (.alt 8 .fin .stop) .stop) .stop) .stop)) (.alt 6 (.alt 0 (.alt 5 (.alt 7 (.alt 8 .fin .stop) .stop) .stop) (.alt 5 (.alt 0 (.alt 7 (.alt 8 .fin .stop) .stop) .stop) .stop)) .stop))))))), [40, 48, 64])]⟩
def fa_100 : FnA := ⟨25, [.t 4],
  (.seq
    (.region false [⟨some 2, (.box 28 (.t 0)), 0, none, 0⟩, ⟨some 3, (.box 28 (.t 1)), 0, none, 0⟩, ⟨some 4, (.mv (.c .nil)), 23, none, 0⟩] (some [2, 3]))
    (.seq
      (.expl [⟨some 8, (.bslice 23 0 []), 23, none, 1⟩, ⟨some 9, (.faddr 28 (.t 3) 0), 0, none, 0⟩, ⟨some 10, (.load 22 (.t 9)), 22, none, 0⟩, ⟨some 11, (.len 22 (.t 10)), 3, none, 0⟩, ⟨some 12, (.bin .sub 3 (.t 11) (.c (.int .i64 1))), 3, none, 0⟩, ⟨some 5, (.alloc 23), 0, none, 0⟩, ⟨some 6, (.alloc 3), 0, none, 0⟩, ⟨none, (.store 23 (.t 5) (.t 8)), 0, none, 0⟩, ⟨none, (.store 3 (.t 6) (.t 12)), 0, none, 0⟩] (.imm 1 (.imm 2 (.imm 3 (.one 4 (.alt 0 (.alt 5 (.alt 6 (.alt 7 (.alt 8 .fin .stop) .stop) .stop) (.alt 6 (.alt 5 (.alt 7 (.alt 8 .fin .stop) .stop) .stop) .stop)) (.alt 5 (.alt 0 (.alt 6 (.alt 7 (.alt 8 .fin .stop) .stop) .stop) (.alt 6 (.alt 0 (.alt 7 (.alt 8 .fin .stop) .stop) .stop) .stop)) (.alt 6 (.alt 0 (.alt 5 (.alt 7 (.alt 8 .fin .stop) .stop) .stop) (.alt 5 (.alt 0 (.alt 7 (.alt 8 .fin .stop) .stop) .stop) .stop)) .stop))))))) [2, 3, 5, 6] [40, 48, 64])
      (.seq
        (.region false [⟨some 13, (.load 3 (.t 6)), 3, none, 0⟩, ⟨some 14, (.bslice 22 1 [(0, (.t 13))]), 22, none, 0⟩, ⟨some 15, (.faddr 28 (.t 2) 0), 0, none, 0⟩, ⟨some 16, (.load 22 (.t 15)), 22, none, 0⟩, ⟨some 17, (.len 22 (.t 16)), 3, none, 0⟩, ⟨some 18, (.bin .sub 3 (.t 17) (.c (.int .i64 2))), 3, none, 0⟩, ⟨some 19, (.max (.c (.int .i64 0)) (.t 18)), 3, none, 0⟩, ⟨some 20, (.call (.f 95) [(.t 14), (.t 19)]), 22, none, 3⟩, ⟨some 7, (.mv (.t 20)), 22, none, 0⟩] (some [2, 3, 5, 6, 7]))
        (.seq
          (.region false [⟨some 21, (.mv (.t 7)), 22, none, 0⟩, ⟨some 22, (.mkfn 149 [(.t 2), (.t 6), (.t 3), (.t 5)]), 86, none, 0⟩, ⟨some 23, (.call (.f 94) [(.t 21), (.t 22)]), 0, none, 16⟩] (some [5]))
          (.seq
            (.region false [⟨some 24, (.load 23 (.t 5)), 23, none, 0⟩, ⟨some 4, (.mv (.t 24)), 23, none, 0⟩] (some [4]))
            .ret)))))⟩
theorem fok_100 : FnOk Try.prog 100 fa_100 an_100 := ⟨Try.f100, _, Try.func100, rfl, by kernel_rfl, rfl, rfl, by decide, by kernel_rfl⟩
/-- impl.MapsOf -/
def an_45 : Ann := ⟨[(1, 1, 3), (1, 5, 3), (3, 2, 1)], [(0, [2, 3]), (1, [2, 3, 12]), (2, [4]), (3, [4])], [], []⟩
def fa_45 : FnA := ⟨16, [.t 4],
  (.seq
    (.region false [⟨some 2, (.box 28 (.t 0)), 0, none, 0⟩, ⟨some 3, (.box 28 (.t 1)), 0, none, 0⟩, ⟨some 4, (.mv (.c .nil)), 23, none, 0⟩] (some [2, 3]))
    (.seq
      (.seq
        (.region false (gops [⟨some 5, (.load 28 (.t 2)), 28, none, 0⟩, ⟨some 6, (.call (.f 72) [(.t 5)]), 4, none, 3⟩, ⟨some 7, (.un .not (.t 6)), 4, none, 0⟩, ⟨some 8, (.mv (.t 7)), 4, none, 0⟩, ⟨some 9, (.load 28 (.t 3)), 28, some (8, false), 0⟩, ⟨some 10, (.call (.f 72) [(.t 9)]), 4, some (8, false), 3⟩, ⟨some 11, (.un .not (.t 10)), 4, some (8, false), 0⟩, ⟨some 12, (.pick (.t 8) (.c (.bool true)) (.t 11)), 4, none, 0⟩]) (some [2, 3, 12]))
        (.cond (.t 12)
          (.seq
            (.region false [⟨some 4, (.mv (.c .nil)), 23, none, 0⟩] (some [4]))
            .ret)
          .skip))
      (.seq
        (.region false [⟨some 13, (.load 28 (.t 2)), 28, none, 0⟩, ⟨some 14, (.load 28 (.t 3)), 28, none, 0⟩, ⟨some 15, (.call (.f 100) [(.t 13), (.t 14)]), 23, none, 1⟩, ⟨some 4, (.mv (.t 15)), 23, none, 0⟩] (some [4]))
        .ret)))⟩
theorem fok_45 : FnOk Try.prog 45 fa_45 an_45 := ⟨Try.f45, _, Try.func45, rfl, by kernel_rfl, rfl, rfl, by decide, by kernel_rfl⟩
/-- laws.FnExactMapsOf -/
def an_9 : Ann := ⟨[(2, 2, 3), (5, 2, 3), (8, 1, 3), (8, 3, 3), (8, 4, 3), (9, 1, 1), (10, 1, 1), (11, 2, 1), (12, 2, 3), (14, 2, 3), (14, 3, 3), (16, 2, 3), (16, 3, 3), (19, 2, 16), (20, 2, 16), (21, 5, 3), (24, 2, 16), (26, 2, 3), (31, 1, 3), (31, 3, 3), (31, 4, 3), (32, 2, 3), (35, 2, 3)], [(0, [2, 3]), (1, [2, 3, 5]), (2, [2, 3, 5]), (3, [2, 3, 5, 18]), (4, [4]), (5, [2, 3, 5]), (6, [2, 3, 23]), (7, [4]), (8, [2, 3, 6]), (9, [2, 3, 6, 7]), (10, [2, 3, 6, 7, 8]), (11, [2, 3, 6, 7, 8, 9]), (12, [2, 3, 6, 7, 8, 9, 39]), (13, [4]), (14, [2, 3, 6, 7, 8, 9, 44]), (15, [4]), (16, [2, 3, 6, 7, 8, 9, 49]), (17, [4]), (18, [2, 3, 6, 7, 8, 9, 10]), (19, [2, 3, 6, 8, 9, 10]), (20, [2, 3, 6, 9, 10]), (21, [2, 3, 6, 9, 63]), (22, [4]), (23, [2, 3, 6, 9, 11]), (24, [2, 3, 6, 9, 11]), (25, [2, 3, 6, 9, 11, 12]), (26, [2, 3, 6, 9, 11, 12]), (27, [2, 3, 6, 9, 11, 12, 71]), (28, [4]), (29, [2, 3, 6, 9, 11, 74]), (30, [4]), (31, [6, 9, 11, 13]), (32, [9, 11, 83]), (33, [4]), (34, [9, 11, 12]), (35, [11, 12]), (36, [11, 12, 88]), (37, [4]), (38, [91]), (39, [4]), (40, [4])], [], []⟩
def fa_9 : FnA := ⟨92, [.t 4],
  (.seq
    (.region false [⟨some 2, (.box 25 (.t 0)), 0, none, 0⟩, ⟨some 3, (.box 25 (.t 1)), 0, none, 0⟩, ⟨some 4, (.mv (.c (.bool false))), 4, none, 0⟩] (some [2, 3]))
    (.seq
      (.region false [⟨some 5, (.mv (.c (.int .i64 1048576))), 3, none, 0⟩] (some [2, 3, 5]))
      (.seq
        (.region false [⟨some 14, (.load 25 (.t 2)), 25, none, 0⟩, ⟨some 15, (.mv (.t 5)), 3, none, 0⟩, ⟨some 16, (.call (.f 17) [(.t 14), (.t 15)]), 3, none, 3⟩, ⟨some 5, (.mv (.t 16)), 3, none, 0⟩] (some [2, 3, 5]))
        (.seq
          (.seq
            (.region false [⟨some 17, (.mv (.t 5)), 3, none, 0⟩, ⟨some 18, (.bin .lss 3 (.t 17) (.c (.int .i64 0))), 4, none, 0⟩] (some [2, 3, 5, 18]))
            (.cond (.t 18)
              (.seq
                (.region false [⟨some 4, (.mv (.c (.bool true))), 4, none, 0⟩] (some [4]))
                .ret)
              .skip))
          (.seq
            (.region false [⟨some 19, (.load 25 (.t 3)), 25, none, 0⟩, ⟨some 20, (.mv (.t 5)), 3, none, 0⟩, ⟨some 21, (.call (.f 17) [(.t 19), (.t 20)]), 3, none, 3⟩, ⟨some 5, (.mv (.t 21)), 3, none, 0⟩] (some [2, 3, 5]))
            (.seq
              (.seq
                (.region false [⟨some 22, (.mv (.t 5)), 3, none, 0⟩, ⟨some 23, (.bin .lss 3 (.t 22) (.c (.int .i64 0))), 4, none, 0⟩] (some [2, 3, 23]))
                (.cond (.t 23)
                  (.seq
                    (.region false [⟨some 4, (.mv (.c (.bool true))), 4, none, 0⟩] (some [4]))
                    .ret)
                  .skip))
              (.seq
                (.region true [⟨some 24, (.load 25 (.t 2)), 25, none, 0⟩, ⟨some 25, (.call (.f 19) [(.t 24)]), 28, none, 3⟩, ⟨some 26, (.load 25 (.t 3)), 25, none, 0⟩, ⟨some 27, (.call (.f 19) [(.t 26)]), 28, none, 3⟩, ⟨some 28, (.call (.f 44) [(.t 25), (.t 27)]), 23, none, 3⟩, ⟨some 6, (.mv (.t 28)), 23, none, 0⟩] (some [2, 3, 6]))
                (.seq
                  (.region false [⟨some 29, (.load 25 (.t 2)), 25, none, 0⟩, ⟨some 30, (.call (.f 19) [(.t 29)]), 28, none, 1⟩, ⟨some 7, (.alloc 28), 0, none, 0⟩, ⟨none, (.store 28 (.t 7) (.t 30)), 0, none, 0⟩] (some [2, 3, 6, 7]))
                  (.seq
                    (.region false [⟨some 31, (.load 25 (.t 3)), 25, none, 0⟩, ⟨some 32, (.call (.f 19) [(.t 31)]), 28, none, 1⟩, ⟨some 8, (.alloc 28), 0, none, 0⟩, ⟨none, (.store 28 (.t 8) (.t 32)), 0, none, 0⟩] (some [2, 3, 6, 7, 8]))
                    (.seq
                      (.region false [⟨some 33, (.load 28 (.t 7)), 28, none, 0⟩, ⟨some 34, (.load 28 (.t 8)), 28, none, 0⟩, ⟨some 35, (.call (.f 45) [(.t 33), (.t 34)]), 23, none, 1⟩, ⟨some 9, (.mv (.t 35)), 23, none, 0⟩] (some [2, 3, 6, 7, 8, 9]))
                      (.seq
                        (.seq
                          (.region false [⟨some 36, (.mv (.t 9)), 23, none, 0⟩, ⟨some 37, (.mv (.t 6)), 23, none, 0⟩, ⟨some 38, (.call (.f 41) [(.t 36), (.t 37)]), 4, none, 3⟩, ⟨some 39, (.un .not (.t 38)), 4, none, 0⟩] (some [2, 3, 6, 7, 8, 9, 39]))
                          (.cond (.t 39)
                            (.seq
                              (.region false [⟨some 4, (.mv (.c (.bool false))), 4, none, 0⟩] (some [4]))
                              .ret)
                            .skip))
                        (.seq
                          (.seq
                            (.region true [⟨some 40, (.load 28 (.t 7)), 28, none, 0⟩, ⟨some 41, (.load 25 (.t 2)), 25, none, 0⟩, ⟨some 42, (.call (.f 19) [(.t 41)]), 28, none, 3⟩, ⟨some 43, (.call (.f 22) [(.t 40), (.t 42)]), 4, none, 3⟩, ⟨some 44, (.un .not (.t 43)), 4, none, 0⟩] (some [2, 3, 6, 7, 8, 9, 44]))
                            (.cond (.t 44)
                              (.seq
                                (.region false [⟨some 4, (.mv (.c (.bool false))), 4, none, 0⟩] (some [4]))
                                .ret)
                              .skip))
                          (.seq
                            (.seq
                              (.region true [⟨some 45, (.load 28 (.t 8)), 28, none, 0⟩, ⟨some 46, (.load 25 (.t 3)), 25, none, 0⟩, ⟨some 47, (.call (.f 19) [(.t 46)]), 28, none, 3⟩, ⟨some 48, (.call (.f 22) [(.t 45), (.t 47)]), 4, none, 3⟩, ⟨some 49, (.un .not (.t 48)), 4, none, 0⟩] (some [2, 3, 6, 7, 8, 9, 49]))
                              (.cond (.t 49)
                                (.seq
                                  (.region false [⟨some 4, (.mv (.c (.bool false))), 4, none, 0⟩] (some [4]))
                                  .ret)
                                .skip))
                            (.seq
                              (.region false [⟨some 10, (.mv (.c (.int .i64 1))), 3, none, 0⟩] (some [2, 3, 6, 7, 8, 9, 10]))
                              (.seq
                                (.region false [⟨some 50, (.load 28 (.t 7)), 28, none, 0⟩, ⟨some 51, (.mv (.t 10)), 3, none, 0⟩, ⟨some 52, (.call (.f 26) [(.t 50), (.t 51)]), 3, none, 16⟩, ⟨some 10, (.mv (.t 52)), 3, none, 0⟩] (some [2, 3, 6, 8, 9, 10]))
                                (.seq
                                  (.region false [⟨some 53, (.load 28 (.t 8)), 28, none, 0⟩, ⟨some 54, (.mv (.t 10)), 3, none, 0⟩, ⟨some 55, (.call (.f 26) [(.t 53), (.t 54)]), 3, none, 16⟩, ⟨some 10, (.mv (.t 55)), 3, none, 0⟩] (some [2, 3, 6, 9, 10]))
                                  (.seq
                                    (.seq
                                      (.region false (gops [⟨some 56, (.mv (.t 10)), 3, none, 0⟩, ⟨some 57, (.bin .lss 3 (.t 56) (.c (.int .i64 0))), 4, none, 0⟩, ⟨some 58, (.mv (.t 57)), 4, none, 0⟩, ⟨some 59, (.mv (.t 9)), 23, some (58, false), 0⟩, ⟨some 60, (.mv (.t 6)), 23, some (58, false), 0⟩, ⟨some 61, (.call (.f 41) [(.t 59), (.t 60)]), 4, some (58, false), 3⟩, ⟨some 62, (.un .not (.t 61)), 4, some (58, false), 0⟩, ⟨some 63, (.pick (.t 58) (.c (.bool true)) (.t 62)), 4, none, 0⟩]) (some [2, 3, 6, 9, 63]))
                                      (.cond (.t 63)
                                        (.seq
                                          (.region false [⟨some 4, (.mv (.c (.bool false))), 4, none, 0⟩] (some [4]))
                                          .ret)
                                        .skip))
                                    (.seq
                                      (.region false [⟨some 11, (.mv (.c (.int .i64 1))), 3, none, 0⟩] (some [2, 3, 6, 9, 11]))
                                      (.seq
                                        (.region false [⟨some 64, (.mv (.t 9)), 23, none, 0⟩, ⟨some 65, (.mv (.t 11)), 3, none, 0⟩, ⟨some 66, (.call (.f 42) [(.t 64), (.t 65)]), 3, none, 16⟩, ⟨some 11, (.mv (.t 66)), 3, none, 0⟩] (some [2, 3, 6, 9, 11]))
                                        (.seq
                                          (.region false [⟨some 12, (.mv (.c (.int .i64 1))), 3, none, 0⟩] (some [2, 3, 6, 9, 11, 12]))
                                          (.seq
                                            (.region false [⟨some 67, (.mv (.t 9)), 23, none, 0⟩, ⟨some 68, (.mv (.t 12)), 3, none, 0⟩, ⟨some 69, (.call (.f 43) [(.t 67), (.t 68)]), 3, none, 3⟩, ⟨some 12, (.mv (.t 69)), 3, none, 0⟩] (some [2, 3, 6, 9, 11, 12]))
                                            (.seq
                                              (.seq
                                                (.region false [⟨some 70, (.mv (.t 12)), 3, none, 0⟩, ⟨some 71, (.bin .lss 3 (.t 70) (.c (.int .i64 0))), 4, none, 0⟩] (some [2, 3, 6, 9, 11, 12, 71]))
                                                (.cond (.t 71)
                                                  (.seq
                                                    (.region false [⟨some 4, (.mv (.c (.bool false))), 4, none, 0⟩] (some [4]))
                                                    .ret)
                                                  .skip))
                                              (.seq
                                                (.seq
                                                  (.region false [⟨some 72, (.mv (.t 12)), 3, none, 0⟩, ⟨some 73, (.mv (.t 11)), 3, none, 0⟩, ⟨some 74, (.bin .neq 3 (.t 72) (.t 73)), 4, none, 0⟩] (some [2, 3, 6, 9, 11, 74]))
                                                  (.cond (.t 74)
                                                    (.seq
                                                      (.region false [⟨some 4, (.mv (.c (.bool false))), 4, none, 0⟩] (some [4]))
                                                      .ret)
                                                    .skip))
                                                (.seq
                                                  (.region true [⟨some 75, (.load 25 (.t 2)), 25, none, 0⟩, ⟨some 76, (.call (.f 19) [(.t 75)]), 28, none, 3⟩, ⟨some 77, (.load 25 (.t 3)), 25, none, 0⟩, ⟨some 78, (.call (.f 19) [(.t 77)]), 28, none, 3⟩, ⟨some 79, (.call (.f 45) [(.t 76), (.t 78)]), 23, none, 3⟩, ⟨some 13, (.mv (.t 79)), 23, none, 0⟩] (some [6, 9, 11, 13]))
                                                  (.seq
                                                    (.seq
                                                      (.region false [⟨some 80, (.mv (.t 13)), 23, none, 0⟩, ⟨some 81, (.mv (.t 6)), 23, none, 0⟩, ⟨some 82, (.call (.f 41) [(.t 80), (.t 81)]), 4, none, 3⟩, ⟨some 83, (.un .not (.t 82)), 4, none, 0⟩] (some [9, 11, 83]))
                                                      (.cond (.t 83)
                                                        (.seq
                                                          (.region false [⟨some 4, (.mv (.c (.bool false))), 4, none, 0⟩] (some [4]))
                                                          .ret)
                                                        .skip))
                                                    (.seq
                                                      (.region false [⟨some 12, (.mv (.c (.int .i64 1))), 3, none, 0⟩] (some [9, 11, 12]))
                                                      (.seq
                                                        (.region false [⟨some 84, (.mv (.t 9)), 23, none, 0⟩, ⟨some 85, (.mv (.t 12)), 3, none, 0⟩, ⟨some 86, (.call (.f 43) [(.t 84), (.t 85)]), 3, none, 3⟩, ⟨some 12, (.mv (.t 86)), 3, none, 0⟩] (some [11, 12]))
                                                        (.seq
                                                          (.seq
                                                            (.region false [⟨some 87, (.mv (.t 12)), 3, none, 0⟩, ⟨some 88, (.bin .lss 3 (.t 87) (.c (.int .i64 0))), 4, none, 0⟩] (some [11, 12, 88]))
                                                            (.cond (.t 88)
                                                              (.seq
                                                                (.region false [⟨some 4, (.mv (.c (.bool false))), 4, none, 0⟩] (some [4]))
                                                                .ret)
                                                              .skip))
                                                          (.seq
                                                            (.seq
                                                              (.region false [⟨some 89, (.mv (.t 12)), 3, none, 0⟩, ⟨some 90, (.mv (.t 11)), 3, none, 0⟩, ⟨some 91, (.bin .neq 3 (.t 89) (.t 90)), 4, none, 0⟩] (some [91]))
                                                              (.cond (.t 91)
                                                                (.seq
                                                                  (.region false [⟨some 4, (.mv (.c (.bool false))), 4, none, 0⟩] (some [4]))
                                                                  .ret)
                                                                .skip))
                                                            (.seq
                                                              (.region false [⟨some 4, (.mv (.c (.bool true))), 4, none, 0⟩] (some [4]))
                                                              .ret))))))))))))))))))))))))))))))⟩
theorem fok_9 : FnOk Try.prog 9 fa_9 an_9 := ⟨Try.f9, _, Try.func9, rfl, by kernel_rfl, rfl, rfl, by decide, by kernel_rfl⟩
end Go.PS
end

section
-- What a map is.
set_option maxRecDepth 100000
set_option linter.unusedVariables false
set_option linter.unusedSimpArgs false
namespace Go.PS
open Go.Proofs

theorem tq_3 : C0.tt 3 = ⟨(.int .i64), 1, 8, (some (.int .i64 0))⟩ := of_eq_true (eq_true tt_3)
theorem tp_3 {f : Nat → Option FnA} : (CI f).tt 3 = ⟨(.int .i64), 1, 8, (some (.int .i64 0))⟩ := of_eq_true (eq_true tt_3)
theorem tq_4 : C0.tt 4 = ⟨.bool, 1, 1, (some (.bool false))⟩ := of_eq_true (eq_true tt_4)
theorem tp_4 {f : Nat → Option FnA} : (CI f).tt 4 = ⟨.bool, 1, 1, (some (.bool false))⟩ := of_eq_true (eq_true tt_4)
theorem tq_22 : C0.tt 22 = ⟨(.slice 3), 1, 24, (some .nil)⟩ := of_eq_true (eq_true tt_22)
theorem tp_22 {f : Nat → Option FnA} : (CI f).tt 22 = ⟨(.slice 3), 1, 24, (some .nil)⟩ := of_eq_true (eq_true tt_22)
theorem tq_23 : C0.tt 23 = ⟨(.slice 22), 1, 24, (some .nil)⟩ := of_eq_true (eq_true tt_23)
theorem tp_23 {f : Nat → Option FnA} : (CI f).tt 23 = ⟨(.slice 22), 1, 24, (some .nil)⟩ := of_eq_true (eq_true tt_23)
theorem tq_28 : C0.tt 28 = ⟨(.struct [(0, 22), (1, 23)]), 2, 48, (some (.agg [.nil, .nil]))⟩ := of_eq_true (eq_true tt_28)
theorem tp_28 {f : Nat → Option FnA} : (CI f).tt 28 = ⟨(.struct [(0, 22), (1, 23)]), 2, 48, (some (.agg [.nil, .nil]))⟩ := of_eq_true (eq_true tt_28)
theorem eq_22 : esz C0.tt 22 = some 1 := by simp
theorem ep_22 {f : Nat → Option FnA} : esz (CI f).tt 22 = some 1 := by simp
theorem eq_23 : esz C0.tt 23 = some 1 := by simp
theorem ep_23 {f : Nat → Option FnA} : esz (CI f).tt 23 = some 1 := by simp

def mpE (u : List Int) (t : List (List Int)) (v : List Int) (s : List (List Int)) (j : List Int) (x y : Nat) : Bool :=
  decide (gi j (tm t x y).toNat = tm s (gi j x).toNat (gi j y).toNat) && decide (gi j (implyM u t x y).toNat = implyM v s (gi j x).toNat (gi j y).toNat) && decide (gi j (meetM u x y).toNat = meetM v (gi j x).toNat (gi j y).toNat) && decide (gi j (joinM u x y).toNat = joinM v (gi j x).toNat (gi j y).toNat)
structure MP (u : List Int) (t : List (List Int)) (v : List Int) (s : List (List Int)) (j : List Int) : Prop where
  len : j.length = u.length
  rng : ∀ x, x < u.length → 0 ≤ gi j x ∧ gi j x < v.length
  fst : gi j 0 = 0
  lst : gi j (u.length - 1) = (v.length : Int) - 1
  pr : ∀ x, x < u.length → ∀ y, y < u.length → mpE u t v s j x y = true
noncomputable instance (u : List Int) (t : List (List Int)) (v : List Int) (s : List (List Int)) (j : List Int) : Decidable (MP u t v s j) := Classical.propDecidable _

end Go.PS
end

section
-- A region with guards, in parts.
set_option linter.unusedVariables false
set_option linter.unusedSimpArgs false
namespace Go.PS
section
variable {C : Ctx} {kb : Nat} {i : Nat → List D → List Ent → Nat → (D → List Ent → Nat → Prop) → Prop}
theorem midWc {ops : List AOper} {KS : List Nat} {ws : List (Nat × D)} {σ σ0 : St} (n : Nat) (ks : List Nat) (w1 : List (Nat × D)) (ok : segOk ks (ops.drop n) KS = true)
    (h1 : opsKc C kb i (ops.take n) σ (cutQ ks w1 σ)) (h2 : opsKc C kb i (ops.drop n) ⟨updL w1 (keepT ks σ.t), σ.h, σ.g⟩ (cutQ KS ws σ0)) : opsKc C kb i ops σ (cutQ KS ws σ0) := by
  have hin : ∀ n' ∈ liveS (ops.drop n) KS, n' ∈ ks := by simpa [segOk] using ok
  rw [← List.take_append_drop n ops, opsKc_append]
  refine opsKc_mono _ (fun σ' hs => ?_) h1
  obtain ⟨e1, e2, e3⟩ := hs
  rw [← e1, ← e2, ← e3] at h2
  exact opsKc_agree cutQ_dep _ (keepT ks σ'.t) σ'.t σ'.h σ'.g (fun n hn => getT_keep (hin n hn)) h2
end
end Go.PS
end

section
-- Contracts: maps.
set_option maxRecDepth 100000
set_option linter.unusedVariables false
set_option linter.unusedSimpArgs false
namespace Go.PS
open Go.Proofs

set_option maxHeartbeats 4000000 in
theorem isMapS_pc (u : List Int) (t : List (List Int)) (v : List Int) (s : List (List Int)) (j : List Int) (f : TF u t) (f2 : TF v s) (hj : Big j.length) : PC Try.prog 147 [AL u t, AL v s, IL j] none true (fun r _ => r = .bool (decide (MP u t v s j))) := by
  have vl := f.lat
  have vl2 := f2.lat
  have hl := vl.sm.le
  have hl2 := vl2.sm.le
  have hp := vl.pos
  refine pcT [fm_inRange, fm_implyS, fm_meetS, fm_joinS] fok_147 ?_
  simp [fa_147]
  refine ⟨fun h w => h (by have := w.len; omega), fun hlen => ?_⟩
  have hlen : j.length = u.length := by omega
  have ew := wrap64 (n := (v.length : Int) - 1) (by omega) (by omega)
  have ew2 := wrap64 (n := (u.length : Int) - 1) (by omega) (by omega)
  refine loopA (tabK_mono _) u.length (fun i => [(8, I64 i)]) (fun _ => []) (fun x => 0 ≤ gi j x ∧ gi j x < v.length) (by simp) (by simp) (fun x g hx hP => ?_)
  simp [lb_147_5, wrap_succ hx hl, hlen, ew]
  refine ⟨fun h => ⟨h, fun h2 w => ?_, fun h2 h3 => ⟨h, h2, by omega⟩⟩, fun h => ?_⟩
  · have := w.rng x h
    omega
  have hr : ∀ x, x < u.length → 0 ≤ gi j x ∧ gi j x < v.length := fun x hx => hP x (by omega)
  have hrN : ∀ x, x < u.length → (gi j x).toNat < v.length := fun x hx => by have := hr x hx; omega
  have en : ((u.length : Int) - 1).toNat = u.length - 1 := by omega
  refine cutWc (tabK_mono _) [(48, .bool (decide (gi j 0 ≠ 0) || decide (gi j (u.length - 1) ≠ (v.length : Int) - 1)))] (by
    by_cases e1 : gi j 0 = 0
    · simp [e1, hlen, hp, ew, ew2, en]
      omega
    · simp [e1, hlen, hp]) ?_
  simp
  refine ⟨fun h2 w => ?_, fun h2 h3 => ?_⟩
  · rcases h2 with h2 | h2
    · exact h2 w.fst
    · exact h2 w.lst
  refine loopA (tabK_mono _) u.length (fun i => [(9, I64 i)]) (fun _ => []) (fun x => ∀ y, y < u.length → mpE u t v s j x y = true) (by simp) (by simp) (fun x g hx hP => ?_)
  simp [lb_147_12, wrap_succ hx hl]
  refine ⟨fun h => ?_, fun h => ⟨hlen, hr, h2, h3, fun x hx => hP x (by omega)⟩⟩
  refine loopA (tabK_mono _) u.length (fun i => [(10, I64 i)]) (fun _ => []) (fun y => mpE u t v s j x y = true) (by simp) (by simp) (fun y g hy hQ => ?_)
  simp [lb_147_15, wrap_succ hx hl, wrap_succ hy hl]
  refine ⟨fun h4 => ?_, fun h4 => ⟨h, fun y hy => hQ y (by omega)⟩⟩
  have q1 := hr x h
  have q2 := hr y h4
  have q3 := hrN x h
  have q4 := hrN y h4
  have q5 := hr _ (f.ltN x y h h4)
  have i1 := vl.imply_rng (t := t) (x := x) (y := y)
  have i2 := vl.meet_rng h h4
  have i3 := vl.join_rng h h4
  have i1' : (implyM u t x y).toNat < u.length := by omega
  have i2' : (meetM u x y).toNat < u.length := by omega
  have i3' : (joinM u x y).toNat < u.length := by omega
  refine cutWc (tabK_mono _) [(148, .bool (!mpE u t v s j x y))] ?_ ?_
  · unfold mpE
    simp only [seg, List.cons_append, List.nil_append]
    refine midWc 27 [2, 3, 4, 7, 9, 10, 85] [(85, .bool (!decide (gi j (tm t x y).toNat = tm s (gi j x).toNat (gi j y).toNat)))] rfl (by simp [hlen, f.len, f.rows, f2.len, f2.rows, h, h4, q1, q2, q3, q4, q5, f.nn, f.lt, f.ltN]) ?_
    refine midWc 20 [2, 3, 4, 7, 9, 10, 105] [(105, .bool (!decide (gi j (tm t x y).toNat = tm s (gi j x).toNat (gi j y).toNat) || !decide (gi j (implyM u t x y).toNat = implyM v s (gi j x).toNat (gi j y).toNat)))] rfl (by
      cases hb : decide (gi j (tm t x y).toNat = tm s (gi j x).toNat (gi j y).toNat)
      · simp [hb]
      · simp [hb, f, f2, hlen, f.len, f.rows, f2.len, f2.rows, h, h4, q1, q2, q3, q4, q5, f.nn, f.lt, f.ltN, i1, i1']) ?_
    generalize (decide (gi j (tm t x y).toNat = tm s (gi j x).toNat (gi j y).toNat)) = d1
    refine midWc 22 [2, 3, 4, 7, 9, 10, 127] [(127, .bool (!d1 || !decide (gi j (implyM u t x y).toNat = implyM v s (gi j x).toNat (gi j y).toNat) || !decide (gi j (meetM u x y).toNat = meetM v (gi j x).toNat (gi j y).toNat)))] rfl (by
      cases hb : (!d1 || !decide (gi j (implyM u t x y).toNat = implyM v s (gi j x).toNat (gi j y).toNat))
      · simp [hb, vl.sm, vl2.sm, hlen, f.len, f.rows, f2.len, f2.rows, h, h4, q1, q2, q3, q4, q5, f.nn, f.lt, f.ltN, i2, i2']
      · simp [hb]) ?_
    generalize (decide (gi j (implyM u t x y).toNat = implyM v s (gi j x).toNat (gi j y).toNat)) = d2
    cases hb : (!d1 || !d2 || !decide (gi j (meetM u x y).toNat = meetM v (gi j x).toNat (gi j y).toNat))
    · simp [hb, vl.sm, vl2.sm, hlen, f.len, f.rows, f2.len, f2.rows, h, h4, q1, q2, q3, q4, q5, f.nn, f.lt, f.ltN, i3, i3']
    · simp [hb]
  simp [wrap_succ hy hl]
  refine ⟨fun h7 w => ?_, fun h7 => ⟨h4, h7⟩⟩
  have := w.pr x h y h4
  rw [h7] at this
  cases this
noncomputable def fm_isMapS : Fam Try.prog := mkFam (X := List Int × List (List Int) × List Int × List (List Int) × List Int) 147 true (fun (u, t, v, s, j) => [AL u t, AL v s, IL j]) (fun (u, t, v, s, j) => (TF u t) ∧ (TF v s) ∧ (Big j.length)) (fun (u, t, v, s, j) => .bool (decide (MP u t v s j))) (by
  rintro ⟨u, t, v, s, j⟩ ⟨f, f2, hj⟩
  exact isMapS_pc u t v s j f f2 hj)
@[simp] theorem fm_isMapS_id : fm_isMapS.id = 147 := rfl
@[simp] theorem fm_isMapS_fresh : fm_isMapS.fresh = true := rfl
@[simp] theorem fm_isMapS_look (u : List Int) (t : List (List Int)) (v : List Int) (s : List (List Int)) (j : List Int) (f : TF u t) (f2 : TF v s) (hj : Big j.length) : fm_isMapS.look [AL u t, AL v s, IL j] = some (.bool (decide (MP u t v s j))) :=
  lookF_of (X := List Int × List (List Int) × List Int × List (List Int) × List Int) (args := fun (u, t, v, s, j) => [AL u t, AL v s, IL j]) (pre := fun (u, t, v, s, j) => (TF u t) ∧ (TF v s) ∧ (Big j.length)) (val := fun (u, t, v, s, j) => .bool (decide (MP u t v s j))) (by
  rintro ⟨u, t, v, s, j⟩ ⟨u', t', v', s', j'⟩ h
  simp at h
  try simp only [and_assoc] at h
  obtain ⟨rfl, rfl, rfl, rfl, rfl⟩ := h
  rfl) (u, t, v, s, j) ⟨f, f2, hj⟩
attribute [irreducible] fm_isMapS
end Go.PS
end

section
-- Contracts: all maps, the reference's.
set_option maxRecDepth 100000
set_option linter.unusedVariables false
set_option linter.unusedSimpArgs false
namespace Go.PS
open Go.Proofs

/-- What the reference asks of the elements on the way, at the last one. -/
def fitA (t : List (List Int)) (s : List (List Int)) (l : List Int) (m x : Nat) : Bool := decide (tm t x m < l.length) && decide (gi l (tm t x m).toNat ≠ tm s (gi l x).toNat (gi l m).toNat)
def fitE (u : List Int) (t : List (List Int)) (v : List Int) (s : List (List Int)) (l : List Int) (m x : Nat) : Bool :=
  !(fitA t s l m x || (tb u x m && !tb v (gi l x).toNat (gi l m).toNat) || (tb u m x && !tb v (gi l m).toNat (gi l x).toNat))
def fitB (u : List Int) (t : List (List Int)) (v : List Int) (s : List (List Int)) (l : List Int) : Bool := (List.range l.length).all (fitE u t v s l (l.length - 1))

set_option maxHeartbeats 4000000 in
theorem fitsS_pc (u : List Int) (t : List (List Int)) (v : List Int) (s : List (List Int)) (l : List Int) (f : TF u t) (f2 : TF v s) (h0 : 0 < l.length) (h1 : l.length ≤ u.length) (hr : ∀ z, z < l.length → 0 ≤ gi l z ∧ gi l z < v.length) : PC Try.prog 148 [AL u t, AL v s, IL l] none true (fun r _ => r = .bool (fitB u t v s l)) := by
  have vl := f.lat
  have vl2 := f2.lat
  have h6 := vl.six
  have hsm := vl.sm
  have hsm2 := vl2.sm
  refine pcT [fm_belowS] fok_148 ?_
  simp [fa_148]
  unfold fitB
  obtain ⟨m, hm⟩ : ∃ m, l.length = m + 1 := ⟨l.length - 1, by omega⟩
  have em : l.length - 1 = m := by omega
  have ew : IntKind.i64.wrap ((l.length : Int) - 1) = (m : Int) := by rw [wrap64 (by omega) (by omega)]; omega
  rw [em]
  refine loopA (tabK_mono _) l.length (fun i => [(8, I64 i)]) (fun _ => []) (fun x => fitE u t v s l m x = true) (by simp) (by simp) (fun x g hx hP => ?_)
  simp [lb_148_3, wrap_succ hx (by omega)]
  refine ⟨fun h => ?_, fun h => fun x hx => hP x (by omega)⟩
  have hxu : x < u.length := by omega
  have hmu : m < u.length := by omega
  have hml : m < l.length := by omega
  have q1 := hr x h
  have q2 := hr m hml
  have q3 : (gi l x).toNat < v.length := by omega
  have q4 : (gi l m).toNat < v.length := by omega
  have t1 := f.nn x m hxu hmu
  have t2 : (tm t x m).toNat < u.length := f.ltN x m hxu hmu
  refine cutWc (tabK_mono _) [(102, .bool (!fitE u t v s l m x))] ?_ ?_
  · unfold fitE
    simp only [seg, List.cons_append, List.nil_append]
    refine midWc 42 [2, 3, 4, 7, 8, 57] [(57, .bool (fitA t s l m x))] rfl (by
      unfold fitA
      by_cases e1 : tm t x m < l.length
      · have e1' : (tm t x m).toNat < l.length := by omega
        have q5 := hr _ e1'
        simp [e1, e1', q5, ew, h, hml, hxu, hmu, q1, q2, q3, q4, t1, t2, f.len, f.rows, f2.len, f2.rows]
      · simp [e1, ew, h, hml, hxu, hmu, q1, q2, q3, q4, t1, t2, f.len, f.rows]) ?_
    generalize fitA t s l m x = a1
    refine midWc 23 [2, 3, 4, 7, 8, 80] [(80, .bool (a1 || (tb u x m && !tb v (gi l x).toNat (gi l m).toNat)))] rfl (by
      cases a1
      · cases hb1 : tb u x m
        · simp [hb1, ew, hsm, hsm2, h, hml, hxu, hmu, q1, q2, q3, q4]
        · simp [hb1, ew, hsm, hsm2, h, hml, hxu, hmu, q1, q2, q3, q4]
      · simp) ?_
    generalize (a1 || (tb u x m && !tb v (gi l x).toNat (gi l m).toNat)) = a2
    cases a2
    · cases hb1 : tb u m x
      · simp [hb1, ew, hsm, hsm2, h, hml, hxu, hmu, q1, q2, q3, q4]
      · simp [hb1, ew, hsm, hsm2, h, hml, hxu, hmu, q1, q2, q3, q4]
    · simp
  simp [wrap_succ hx (by omega)]
  exact ⟨fun h2 => ⟨x, h, h2⟩, fun h2 => ⟨h, h2⟩⟩
noncomputable def fm_fitsS : Fam Try.prog := mkFam (X := List Int × List (List Int) × List Int × List (List Int) × List Int) 148 true (fun (u, t, v, s, l) => [AL u t, AL v s, IL l]) (fun (u, t, v, s, l) => (TF u t) ∧ (TF v s) ∧ (0 < l.length) ∧ (l.length ≤ u.length) ∧ (∀ z, z < l.length → 0 ≤ gi l z ∧ gi l z < v.length)) (fun (u, t, v, s, l) => .bool (fitB u t v s l)) (by
  rintro ⟨u, t, v, s, l⟩ ⟨f, f2, h0, h1, hr⟩
  exact fitsS_pc u t v s l f f2 h0 h1 hr)
@[simp] theorem fm_fitsS_id : fm_fitsS.id = 148 := rfl
@[simp] theorem fm_fitsS_fresh : fm_fitsS.fresh = true := rfl
@[simp] theorem fm_fitsS_look (u : List Int) (t : List (List Int)) (v : List Int) (s : List (List Int)) (l : List Int) (f : TF u t) (f2 : TF v s) (h0 : 0 < l.length) (h1 : l.length ≤ u.length) (hr : ∀ z, z < l.length → 0 ≤ gi l z ∧ gi l z < v.length) : fm_fitsS.look [AL u t, AL v s, IL l] = some (.bool (fitB u t v s l)) :=
  lookF_of (X := List Int × List (List Int) × List Int × List (List Int) × List Int) (args := fun (u, t, v, s, l) => [AL u t, AL v s, IL l]) (pre := fun (u, t, v, s, l) => (TF u t) ∧ (TF v s) ∧ (0 < l.length) ∧ (l.length ≤ u.length) ∧ (∀ z, z < l.length → 0 ≤ gi l z ∧ gi l z < v.length)) (val := fun (u, t, v, s, l) => .bool (fitB u t v s l)) (by
  rintro ⟨u, t, v, s, l⟩ ⟨u', t', v', s', l'⟩ h
  simp at h
  try simp only [and_assoc] at h
  obtain ⟨rfl, rfl, rfl, rfl, rfl⟩ := h
  rfl) (u, t, v, s, l) ⟨f, f2, h0, h1, hr⟩
attribute [irreducible] fm_fitsS
end Go.PS
end

section
-- Contracts: maps, the program's.
set_option maxRecDepth 100000
set_option linter.unusedVariables false
set_option linter.unusedSimpArgs false
namespace Go.PS
open Go.Proofs

theorem ismC_pc (x : Int) (v : List Int) (s : List (List Int)) (h2 : Big v.length) : PC Try.prog 169 [I64 x, .iptr (AL v s)] none true (fun r _ => r = .bool (outR v.length x)) := by
  have h2 := h2.le
  refine pcT [fm_within] fok_169 ?_
  simp [fa_169, outR, wrap64 (n := (v.length : Int) - 1) (by omega) (by omega)]
noncomputable def fm_ismC : Fam Try.prog := mkFam (X := Int × List Int × List (List Int)) 169 true (fun (x, v, s) => [I64 x, .iptr (AL v s)]) (fun (x, v, s) => (Big v.length)) (fun (x, v, s) => .bool (outR v.length x)) (by
  rintro ⟨x, v, s⟩ h2
  exact ismC_pc x v s h2)
@[simp] theorem fm_ismC_id : fm_ismC.id = 169 := rfl
@[simp] theorem fm_ismC_fresh : fm_ismC.fresh = true := rfl
@[simp] theorem fm_ismC_look (x : Int) (v : List Int) (s : List (List Int)) (h2 : Big v.length) : fm_ismC.look [I64 x, .iptr (AL v s)] = some (.bool (outR v.length x)) :=
  lookF_of (X := Int × List Int × List (List Int)) (args := fun (x, v, s) => [I64 x, .iptr (AL v s)]) (pre := fun (x, v, s) => (Big v.length)) (val := fun (x, v, s) => .bool (outR v.length x)) (by
  rintro ⟨x, v, s⟩ ⟨x', v', s'⟩ h
  simp at h
  try simp only [and_assoc] at h
  obtain ⟨rfl, rfl, rfl⟩ := h
  rfl) (x, v, s) h2
attribute [irreducible] fm_ismC

theorem contIsm_pc (xs : List Int) (v : List Int) (s : List (List Int)) (hl : Big xs.length) (h2 : Big v.length) : PC Try.prog 129 [IL xs, .fn 169 [.iptr (AL v s)]] none true (fun r _ => r = .bool (xs.any (outR v.length))) := by
  exact containsFunc_pc hl (by simp) (by simp) (outR v.length) (fun x hx => ismC_pc x v s h2)
noncomputable def fm_contIsm : Fam Try.prog := mkFam (X := List Int × List Int × List (List Int)) 129 true (fun (xs, v, s) => [IL xs, .fn 169 [.iptr (AL v s)]]) (fun (xs, v, s) => (Big xs.length) ∧ (Big v.length)) (fun (xs, v, s) => .bool (xs.any (outR v.length))) (by
  rintro ⟨xs, v, s⟩ ⟨hl, h2⟩
  exact contIsm_pc xs v s hl h2)
@[simp] theorem fm_contIsm_id : fm_contIsm.id = 129 := rfl
@[simp] theorem fm_contIsm_fresh : fm_contIsm.fresh = true := rfl
@[simp] theorem fm_contIsm_look (xs : List Int) (v : List Int) (s : List (List Int)) (hl : Big xs.length) (h2 : Big v.length) : fm_contIsm.look [IL xs, .fn 169 [.iptr (AL v s)]] = some (.bool (xs.any (outR v.length))) :=
  lookF_of (X := List Int × List Int × List (List Int)) (args := fun (xs, v, s) => [IL xs, .fn 169 [.iptr (AL v s)]]) (pre := fun (xs, v, s) => (Big xs.length) ∧ (Big v.length)) (val := fun (xs, v, s) => .bool (xs.any (outR v.length))) (by
  rintro ⟨xs, v, s⟩ ⟨xs', v', s'⟩ h
  simp at h
  try simp only [and_assoc] at h
  obtain ⟨rfl, rfl, rfl⟩ := h
  rfl) (xs, v, s) ⟨hl, h2⟩
attribute [irreducible] fm_contIsm

set_option maxHeartbeats 4000000 in
theorem isMapI_pc (u : List Int) (t : List (List Int)) (v : List Int) (s : List (List Int)) (j : List Int) (f : TF u t) (f2 : TF v s) (hj : Big j.length) : PC Try.prog 150 [AL u t, AL v s, IL j] none true (fun r _ => r = .bool (decide (MP u t v s j))) := by
  have vl := f.lat
  have vl2 := f2.lat
  have hl := vl.sm.le
  have hl2 := vl2.sm.le
  have h6 := vl.six
  have h62 := vl2.six
  have hp := vl.pos
  have hbv : Big v.length := by unfold Big; omega
  have hbu : Big u.length := by unfold Big; omega
  refine pcT [fm_contIsm, fm_implyI, fm_meetI, fm_joinI] fok_150 ?_
  simp [fa_150]
  refine cutW (tabK_mono _) [(19, .bool (decide ((j.length : Int) ≠ u.length) || j.any (outR v.length)))] (by
    by_cases e : j.length = u.length
    · simp [hbu, hbv, e]
    · simp [hj, hbv, show ¬ ((j.length : Int) = u.length) by omega]) ?_
  simp
  refine ⟨fun h w => ?_, fun hlen hany => ?_⟩
  · have hlen := w.len
    obtain ⟨z, hz, h4⟩ := h.resolve_left (fun q => q (by omega))
    obtain ⟨y, hy, rfl⟩ := List.mem_iff_getElem.1 hz
    have h5 := w.rng y (by omega)
    rw [gi, List.getElem?_eq_getElem hy] at h5
    simp [outR] at h4
    simp at h5
    omega
  have hlen : j.length = u.length := by omega
  have hr : ∀ x, x < u.length → 0 ≤ gi j x ∧ gi j x < v.length := fun x hx => any_outR (xs := j) (n := v.length) (by rw [List.any_eq_false]; intro z hz; simpa using hany z hz) x (by omega)
  have hrN : ∀ x, x < u.length → (gi j x).toNat < v.length := fun x hx => by have := hr x hx; omega
  clear hany
  have ew := wrap64 (n := (v.length : Int) - 1) (by omega) (by omega)
  have ew2 := wrap64 (n := (u.length : Int) - 1) (by omega) (by omega)
  have en : ((u.length : Int) - 1).toNat = u.length - 1 := by omega
  refine cutWc (tabK_mono _) [(36, .bool (decide (gi j 0 ≠ 0) || decide (gi j (u.length - 1) ≠ (v.length : Int) - 1)))] (by
    by_cases e1 : gi j 0 = 0
    · simp [e1, hlen, hp, ew, ew2, en]
      omega
    · simp [e1, hlen, hp]) ?_
  simp
  refine ⟨fun h2 w => ?_, fun h2 h3 => ?_⟩
  · rcases h2 with h2 | h2
    · exact h2 w.fst
    · exact h2 w.lst
  simp [hlen]
  refine loopA (tabK_mono _) u.length (fun i => [(39, I64 i)]) (fun _ => []) (fun x => ∀ y, y < u.length → mpE u t v s j x y = true) (by simp) (by simp) (fun x g hx hP => ?_)
  simp [lb_150_6, wrap_succ hx hl, hlen]
  refine ⟨fun h => ?_, fun h => ⟨hlen, hr, h2, h3, fun x hx => hP x (by omega)⟩⟩
  refine loopA (tabK_mono _) u.length (fun i => [(44, I64 i)]) (fun _ => []) (fun y => mpE u t v s j x y = true) (by simp) (by simp) (fun y g hy hQ => ?_)
  simp [lb_150_9, wrap_succ hx hl, wrap_succ hy hl]
  refine ⟨fun h4 => ?_, fun h4 => ⟨h, fun y hy => hQ y (by omega)⟩⟩
  have q1 := hr x h
  have q2 := hr y h4
  have q3 := hrN x h
  have q4 := hrN y h4
  have q5 := hr _ (f.ltN x y h h4)
  have i1 := vl.imply_rng (t := t) (x := x) (y := y)
  have i2 := vl.meet_rng h h4
  have i3 := vl.join_rng h h4
  have i1' : (implyM u t x y).toNat < u.length := by omega
  have i2' : (meetM u x y).toNat < u.length := by omega
  have i3' : (joinM u x y).toNat < u.length := by omega
  refine cutWc (tabK_mono _) [(136, .bool (!mpE u t v s j x y))] ?_ ?_
  · unfold mpE
    simp only [seg, List.cons_append, List.nil_append]
    refine midWc 27 [2, 3, 4, 7, 8, 38, 39, 43, 44, 73] [(73, .bool (!decide (gi j (tm t x y).toNat = tm s (gi j x).toNat (gi j y).toNat)))] rfl (by simp [hlen, f.len, f.rows, f2.len, f2.rows, h, h4, q1, q2, q3, q4, q5, f.nn, f.lt, f.ltN]) ?_
    refine midWc 20 [2, 3, 4, 7, 8, 38, 39, 43, 44, 93] [(93, .bool (!decide (gi j (tm t x y).toNat = tm s (gi j x).toNat (gi j y).toNat) || !decide (gi j (implyM u t x y).toNat = implyM v s (gi j x).toNat (gi j y).toNat)))] rfl (by
      cases hb : decide (gi j (tm t x y).toNat = tm s (gi j x).toNat (gi j y).toNat)
      · simp [hb]
      · simp [hb, f, f2, hlen, f.len, f.rows, f2.len, f2.rows, h, h4, q1, q2, q3, q4, q5, f.nn, f.lt, f.ltN, i1, i1']) ?_
    generalize (decide (gi j (tm t x y).toNat = tm s (gi j x).toNat (gi j y).toNat)) = d1
    refine midWc 22 [2, 3, 4, 7, 8, 38, 39, 43, 44, 115] [(115, .bool (!d1 || !decide (gi j (implyM u t x y).toNat = implyM v s (gi j x).toNat (gi j y).toNat) || !decide (gi j (meetM u x y).toNat = meetM v (gi j x).toNat (gi j y).toNat)))] rfl (by
      cases hb : (!d1 || !decide (gi j (implyM u t x y).toNat = implyM v s (gi j x).toNat (gi j y).toNat))
      · simp [hb, vl.sm, vl2.sm, h6, h62, hlen, f.len, f.rows, f2.len, f2.rows, h, h4, q1, q2, q3, q4, q5, f.nn, f.lt, f.ltN, i2, i2']
      · simp [hb]) ?_
    generalize (decide (gi j (implyM u t x y).toNat = implyM v s (gi j x).toNat (gi j y).toNat)) = d2
    cases hb : (!d1 || !d2 || !decide (gi j (meetM u x y).toNat = meetM v (gi j x).toNat (gi j y).toNat))
    · simp [hb, vl.sm, vl2.sm, h6, h62, hlen, f.len, f.rows, f2.len, f2.rows, h, h4, q1, q2, q3, q4, q5, f.nn, f.lt, f.ltN, i3, i3']
    · simp [hb]
  simp [wrap_succ hy hl]
  refine ⟨fun h7 w => ?_, fun h7 => ⟨h4, h7⟩⟩
  have := w.pr x h y h4
  rw [h7] at this
  cases this
noncomputable def fm_isMapI : Fam Try.prog := mkFam (X := List Int × List (List Int) × List Int × List (List Int) × List Int) 150 true (fun (u, t, v, s, j) => [AL u t, AL v s, IL j]) (fun (u, t, v, s, j) => (TF u t) ∧ (TF v s) ∧ (Big j.length)) (fun (u, t, v, s, j) => .bool (decide (MP u t v s j))) (by
  rintro ⟨u, t, v, s, j⟩ ⟨f, f2, hj⟩
  exact isMapI_pc u t v s j f f2 hj)
@[simp] theorem fm_isMapI_id : fm_isMapI.id = 150 := rfl
@[simp] theorem fm_isMapI_fresh : fm_isMapI.fresh = true := rfl
@[simp] theorem fm_isMapI_look (u : List Int) (t : List (List Int)) (v : List Int) (s : List (List Int)) (j : List Int) (f : TF u t) (f2 : TF v s) (hj : Big j.length) : fm_isMapI.look [AL u t, AL v s, IL j] = some (.bool (decide (MP u t v s j))) :=
  lookF_of (X := List Int × List (List Int) × List Int × List (List Int) × List Int) (args := fun (u, t, v, s, j) => [AL u t, AL v s, IL j]) (pre := fun (u, t, v, s, j) => (TF u t) ∧ (TF v s) ∧ (Big j.length)) (val := fun (u, t, v, s, j) => .bool (decide (MP u t v s j))) (by
  rintro ⟨u, t, v, s, j⟩ ⟨u', t', v', s', j'⟩ h
  simp at h
  try simp only [and_assoc] at h
  obtain ⟨rfl, rfl, rfl, rfl, rfl⟩ := h
  rfl) (u, t, v, s, j) ⟨f, f2, hj⟩
attribute [irreducible] fm_isMapI
end Go.PS
end

section
-- Contracts: all maps.
set_option maxRecDepth 100000
set_option linter.unusedVariables false
set_option linter.unusedSimpArgs false
namespace Go.PS
open Go.Proofs

def mok (u : List Int) (t : List (List Int)) (v : List Int) (s : List (List Int)) (h : List Int) (y : Nat) : Bool := fitB u t v s (h ++ [(y : Int)])
noncomputable def mprn (u : List Int) (t : List (List Int)) (v : List Int) (s : List (List Int)) (k : Nat) (h : List Int) : List (List Int) := prn v.length (mok u t v s) (fun j => decide (MP u t v s j)) k h
noncomputable def accM (u : List Int) (t : List (List Int)) (v : List Int) (s : List (List Int)) (k : Nat) (h : List Int) (y : Nat) : List (List Int) := (List.range y).flatMap fun (y : Nat) => if mok u t v s h y = true then mprn u t v s k (h ++ [(y : Int)]) else []
theorem accM_succ {u : List Int} {t : List (List Int)} {v : List Int} {s : List (List Int)} {k : Nat} {h : List Int} {y : Nat} : accM u t v s k h (y + 1) = accM u t v s k h y ++ if mok u t v s h y = true then mprn u t v s k (h ++ [(y : Int)]) else [] := by
  unfold accM
  rw [List.range_succ, List.flatMap_append]
  simp
theorem accM_len {u : List Int} {t : List (List Int)} {v : List Int} {s : List (List Int)} {k : Nat} {h : List Int} {y : Nat} : (accM u t v s k h y).length ≤ y * v.length ^ k := by
  have := flatMap_len (f := fun (y : Nat) => if mok u t v s h y = true then mprn u t v s k (h ++ [(y : Int)]) else []) (b := v.length ^ k) (List.range y) (fun y _ => by
    split
    · exact prn_len k _
    · simp)
  rwa [List.length_range] at this

theorem mapsFromS_aux {u : List Int} {t : List (List Int)} {v : List Int} {s : List (List Int)} (f : TF u t) (f2 : TF v s) : ∀ (k : Nat) (h : List Int), h.length + k = u.length → (∀ z, z < h.length → 0 ≤ gi h z ∧ gi h z < v.length) →
    PC Try.prog 99 [AL u t, AL v s, IL h] none false (fun r _ => r = RL (mprn u t v s k h))
  | 0, h, hk, hh => by
    have h6 := f.lat.six
    have hb : Big h.length := by unfold Big; omega
    have hb2 : Big u.length := by unfold Big; omega
    refine pcT [fm_isMapS] fok_99 ?_
    cases hN : decide (MP u t v s h) <;> simp [fa_99, show h.length = u.length by omega, f, f2, hb2, hN, mprn, prn, show u.length ≤ big from hb2] <;> simp [rowsD]
  | k + 1, h, hk, hh => by
    have h6 := f.lat.six
    have h62 := f2.lat.six
    have hb : Big h.length := by unfold Big; omega
    have hx : ∀ y : Nat, y < v.length → ∀ z, z < (h ++ [(y : Int)]).length → 0 ≤ gi (h ++ [(y : Int)]) z ∧ gi (h ++ [(y : Int)]) z < v.length := fun y hy z hz => by
      simp only [List.length_append, List.length_cons, List.length_nil] at hz
      rcases Nat.lt_or_ge z h.length with c | c
      · rw [gi_append_left c]; exact hh z c
      · obtain rfl : z = h.length := by omega
        rw [gi_append_at]
        omega
    obtain ⟨fm, hid, hfr, hlk'⟩ := famE (P := Try.prog) (X := Nat) 99 false (fun y => [AL u t, AL v s, IL (h ++ [(y : Int)])]) (fun y => y < v.length) (fun y => RL (mprn u t v s k (h ++ [(y : Int)]))) (by
      intro x y e
      simp at e
      have : x = y := by omega
      rw [this]) (fun y hy => mapsFromS_aux f f2 k _ (by simp; omega) (hx y hy))
    have hlk : ∀ y : Nat, y < v.length → fm.look [AL u t, AL v s, IL (h ++ [(y : Int)])] = some (RL (mprn u t v s k (h ++ [(y : Int)]))) := fun y hy => hlk' y hy
    have hft : ∀ y : Nat, y < v.length → fm_fitsS.look [AL u t, AL v s, IL (h ++ [(y : Int)])] = some (.bool (mok u t v s h y)) := fun y hy => fm_fitsS_look u t v s _ f f2 (by simp) (by simp; omega) (hx y hy)
    refine pcT [fm, fm_fitsS] fok_99 ?_
    simp [fa_99, show ¬ ((h.length : Int) = u.length) by omega]
    refine loopX (tabK_mono _) v.length (fun y γ => [(7, .arr 200 γ), (8, I64 y)]) (fun y γ => [⟨200, γ, .arr 1 (rowsD (accM u t v s k h y))⟩]) (fun _ _ => True) 1 (by simp) (by simp [accM, rowsD]) trivial (fun y γ g hy _ => ?_)
    simp [lb_99_7, wrap_succ hy (by omega), hid]
    refine ⟨fun h2 => ?_, fun h2 => by rw [show y = v.length by omega]; rfl⟩
    have e4 : big = 1048576 * 1048576 := rfl
    have e1 : (accM u t v s k h y).length ≤ 6 * 46656 := Nat.le_trans accM_len (Nat.mul_le_mul (by omega) (pow6 h62 (by omega)))
    have e2 : (mprn u t v s k (h ++ [(y : Int)])).length ≤ 46656 := Nat.le_trans (prn_len _ _) (pow6 h62 (by omega))
    have l1 := hlk y h2
    have l2 := hft y h2
    cases hm : mok u t v s h y with
    | false =>
      rw [hm] at l2
      simp [l2, hid, wrap_succ hy (by omega), show h.length ≤ big by omega, show h.length + 1 ≤ big by omega]
      exact ⟨h2, by rw [accM_succ, hm]; simp⟩
    | true =>
      rw [hm] at l2
      simp [l1, l2, hid, hfr, wrap_succ hy (by omega), show h.length ≤ big by omega, show h.length + 1 ≤ big by omega]
      exact ⟨by omega, h2, by rw [accM_succ, hm]; simp [rowsD]⟩

theorem mapsFromS_pc (u : List Int) (t : List (List Int)) (v : List Int) (s : List (List Int)) (f : TF u t) (f2 : TF v s) : PC Try.prog 99 [AL u t, AL v s, IL []] none false (fun r _ => r = RL (mprn u t v s u.length [])) := by
  exact mapsFromS_aux f f2 u.length [] (by simp) (by simp)
noncomputable def fm_mapsFromS : Fam Try.prog := mkFam (X := List Int × List (List Int) × List Int × List (List Int)) 99 false (fun (u, t, v, s) => [AL u t, AL v s, IL []]) (fun (u, t, v, s) => (TF u t) ∧ (TF v s)) (fun (u, t, v, s) => RL (mprn u t v s u.length [])) (by
  rintro ⟨u, t, v, s⟩ ⟨f, f2⟩
  exact mapsFromS_pc u t v s f f2)
@[simp] theorem fm_mapsFromS_id : fm_mapsFromS.id = 99 := rfl
@[simp] theorem fm_mapsFromS_fresh : fm_mapsFromS.fresh = false := rfl
@[simp] theorem fm_mapsFromS_look (u : List Int) (t : List (List Int)) (v : List Int) (s : List (List Int)) (f : TF u t) (f2 : TF v s) : fm_mapsFromS.look [AL u t, AL v s, IL []] = some (RL (mprn u t v s u.length [])) :=
  lookF_of (X := List Int × List (List Int) × List Int × List (List Int)) (args := fun (u, t, v, s) => [AL u t, AL v s, IL []]) (pre := fun (u, t, v, s) => (TF u t) ∧ (TF v s)) (val := fun (u, t, v, s) => RL (mprn u t v s u.length [])) (by
  rintro ⟨u, t, v, s⟩ ⟨u', t', v', s'⟩ h
  simp at h
  try simp only [and_assoc] at h
  obtain ⟨rfl, rfl, rfl, rfl⟩ := h
  rfl) (u, t, v, s) ⟨f, f2⟩
attribute [irreducible] fm_mapsFromS

noncomputable def mapsR (u : List Int) (t : List (List Int)) (v : List Int) (s : List (List Int)) : List (List Int) := if VA u t ∧ VA v s then mprn u t v s u.length [] else []
theorem mapsS_pc (u : List Int) (t : List (List Int)) (v : List Int) (s : List (List Int)) (hu : Big u.length) (ht : BigR t) (hv : Big v.length) (hs : BigR s) : PC Try.prog 44 [AL u t, AL v s] none false (fun r _ => r = RL (mapsR u t v s)) := by
  refine pcT [fm_validAlgebraS, fm_mapsFromS] fok_44 ?_
  simp [fa_44]
  refine cutW (tabK_mono _) [(12, .bool (!(decide (VA u t) && decide (VA v s))))] (by cases hb : decide (VA u t) <;> simp [hu, ht, hv, hs, hb]) ?_
  simp
  refine ⟨fun h => ?_, fun h h2 => ?_⟩
  · have : ¬ (VA u t ∧ VA v s) := fun w => h.elim (fun q => q w.1) (fun q => q w.2)
    simp [mapsR, this, rowsD]
  · have l1 : fm_mapsFromS.look [AL u t, AL v s, .list 1 []] = some (RL (mprn u t v s u.length [])) := fm_mapsFromS_look u t v s h.tf h2.tf
    simp [mapsR, h, h2, l1]
noncomputable def fm_mapsS : Fam Try.prog := mkFam (X := List Int × List (List Int) × List Int × List (List Int)) 44 false (fun (u, t, v, s) => [AL u t, AL v s]) (fun (u, t, v, s) => (Big u.length) ∧ (BigR t) ∧ (Big v.length) ∧ (BigR s)) (fun (u, t, v, s) => RL (mapsR u t v s)) (by
  rintro ⟨u, t, v, s⟩ ⟨hu, ht, hv, hs⟩
  exact mapsS_pc u t v s hu ht hv hs)
@[simp] theorem fm_mapsS_id : fm_mapsS.id = 44 := rfl
@[simp] theorem fm_mapsS_fresh : fm_mapsS.fresh = false := rfl
@[simp] theorem fm_mapsS_look (u : List Int) (t : List (List Int)) (v : List Int) (s : List (List Int)) (hu : Big u.length) (ht : BigR t) (hv : Big v.length) (hs : BigR s) : fm_mapsS.look [AL u t, AL v s] = some (RL (mapsR u t v s)) :=
  lookF_of (X := List Int × List (List Int) × List Int × List (List Int)) (args := fun (u, t, v, s) => [AL u t, AL v s]) (pre := fun (u, t, v, s) => (Big u.length) ∧ (BigR t) ∧ (Big v.length) ∧ (BigR s)) (val := fun (u, t, v, s) => RL (mapsR u t v s)) (by
  rintro ⟨u, t, v, s⟩ ⟨u', t', v', s'⟩ h
  simp at h
  try simp only [and_assoc] at h
  obtain ⟨rfl, rfl, rfl, rfl⟩ := h
  rfl) (u, t, v, s) ⟨hu, ht, hv, hs⟩
attribute [irreducible] fm_mapsS
end Go.PS
end

section
-- All maps: the ones cut early are those that the program goes through, in plain Lean.
set_option linter.unusedVariables false
set_option linter.unusedSimpArgs false
namespace Go.PS

theorem join_of_le {u : List Int} (v : VL u) {x y : Nat} (hx : x < u.length) (hy : y < u.length) (h : tb u x y = true) : joinM u x y = y := by
  obtain ⟨hJ, hlt⟩ := v.join_spec hx hy
  have h1 := isJ_ub hJ
  have h2 := (v.mj x hx y hy).2
  have h3 : tb u (joinM u x y).toNat y = true := by
    simp only [isJ, Bool.and_eq_true, List.all_eq_true, List.mem_range, Bool.or_eq_true, Bool.not_eq_true'] at hJ
    have := hJ.2 y hy
    rw [h, (v.ord.row y hy).1] at this
    simpa using this
  rcases Nat.lt_trichotomy (joinM u x y).toNat y with c | c | c
  · have := v.ord.anti _ hlt y hy (by omega) h3
    rw [h1.2] at this; cases this
  · omega
  · have := v.ord.anti _ hlt y hy (by omega) h3
    rw [h1.2] at this; cases this

theorem MP.mono {u : List Int} {t : List (List Int)} {v : List Int} {s : List (List Int)} {j : List Int} (f : TF u t) (f2 : TF v s) (M : MP u t v s j) {x y : Nat} (hx : x < u.length) (hy : y < u.length) (h : tb u x y = true) : tb v (gi j x).toNat (gi j y).toNat = true := by
  have h1 := M.pr x hx y hy
  simp only [mpE, Bool.and_eq_true, decide_eq_true_eq] at h1
  have h2 := h1.2
  rw [join_of_le f.lat hx hy h, Int.toNat_natCast] at h2
  have rx := M.rng x hx
  have ry := M.rng y hy
  have h3 := isJ_ub (f2.lat.join_spec (x := (gi j x).toNat) (y := (gi j y).toNat) (by omega) (by omega)).1
  rw [← h2] at h3
  exact h3.1

theorem mok_of {u : List Int} {t : List (List Int)} {v : List Int} {s : List (List Int)} (f : TF u t) (f2 : TF v s) {k : Nat} {h l : List Int} {y : Nat} (hl : l ∈ ext v.length k (h ++ [(y : Int)])) (M : MP u t v s l) : mok u t v s h y = true := by
  obtain ⟨w, rfl, hw⟩ := mem_ext hl
  have hlen := M.len
  unfold mok fitB
  have hL0 : 0 < (h ++ [(y : Int)]).length := by simp
  generalize h ++ [(y : Int)] = L at *
  rw [List.length_append] at hlen
  have e : ∀ z, z < L.length → gi (L ++ w) z = gi L z := fun z hz => gi_append_left hz
  rw [List.all_eq_true]
  intro x hx
  have hx := List.mem_range.1 hx
  have hm : L.length - 1 < L.length := by omega
  generalize L.length - 1 = m at *
  have hxu : x < u.length := by omega
  have hmu : m < u.length := by omega
  have p1 := M.pr x hxu m hmu
  simp only [mpE, Bool.and_eq_true, decide_eq_true_eq] at p1
  have p2 := p1.1.1.1
  have p3 := M.mono f f2 hxu hmu
  have p4 := M.mono f f2 hmu hxu
  have t1 := f.nn x m hxu hmu
  rw [e x hx, e m hm] at p2 p3
  rw [e x hx, e m hm] at p4
  have a1 : fitA t s L m x = false := by
    unfold fitA
    by_cases c : tm t x m < L.length
    · rw [e _ (by omega)] at p2
      simp [p2]
    · simp [c]
  unfold fitE
  rw [a1]
  cases c1 : tb u x m <;> cases c2 : tb u m x <;> simp_all

theorem ext_front (n : Nat) (a : List Int) : ∀ k h, ext n k (a ++ h) = (ext n k h).map (a ++ ·)
  | 0, h => by simp [ext]
  | k + 1, h => by
    simp only [ext]
    rw [List.map_flatMap]
    congr 1
    funext y
    rw [List.append_assoc, ext_front n a k]

/-- The map of a number. -/
def mpl (m n i : Nat) : List Int := (0 : Int) :: dig n (m - 2) i ++ if 1 < m then [(n : Int) - 1] else []
noncomputable def mapsP (u : List Int) (t : List (List Int)) (v : List Int) (s : List (List Int)) (N : Nat) : List (List Int) := ((List.range N).map (mpl u.length v.length)).filter fun j => decide (MP u t v s j)

theorem filter_nil_of {α : Type} {p : α → Bool} {l : List α} (h : ∀ x ∈ l, p x = false) : l.filter p = [] := by
  rw [List.filter_eq_nil_iff]
  intro x hx
  simp [h x hx]

theorem flatMap_one {α β : Type} {f : α → List β} {a b : List α} {x : α} (ha : ∀ z ∈ a, f z = []) (hb : ∀ z ∈ b, f z = []) : (a ++ x :: b).flatMap f = f x := by
  have e : ∀ (l : List α), (∀ z ∈ l, f z = []) → l.flatMap f = [] := fun l h => List.flatMap_eq_nil_iff.2 h
  rw [List.flatMap_append, List.flatMap_cons, e a ha, e b hb]
  simp

theorem maps_eq {u : List Int} {t : List (List Int)} {v : List Int} {s : List (List Int)} (f : TF u t) (f2 : TF v s) : mprn u t v s u.length [] = mapsP u t v s (v.length ^ (u.length - 2)) := by
  have hu := f.lat.pos
  have hv := f2.lat.pos
  have hfst : ∀ l, MP u t v s l → gi l 0 = 0 := fun l M => M.fst
  have hlst : ∀ l, MP u t v s l → gi l (u.length - 1) = (v.length : Int) - 1 := fun l M => M.lst
  unfold mprn
  rw [prn_eq (fun k h y l hy hl hg => mok_of f f2 hl (of_decide_eq_true hg))]
  unfold mapsP
  have hlen : ∀ l, MP u t v s l → l.length = u.length := fun l M => M.len
  generalize hg : (fun j => decide (MP u t v s j)) = good
  have hg0 : ∀ l, good l = true → gi l 0 = 0 := fun l h => hfst l (by rw [← hg] at h; exact of_decide_eq_true h)
  have hg1 : ∀ l, good l = true → gi l (u.length - 1) = (v.length : Int) - 1 := fun l h => hlst l (by rw [← hg] at h; exact of_decide_eq_true h)
  clear hg hfst hlst hlen
  obtain ⟨m, hm⟩ : ∃ m, u.length = m + 1 := ⟨u.length - 1, by omega⟩
  obtain ⟨n, hn⟩ : ∃ n, v.length = n + 1 := ⟨v.length - 1, by omega⟩
  rw [hm, hn]
  rw [hm, hn] at hg1
  have s1 : (ext (n + 1) (m + 1) []).filter good = (ext (n + 1) m [(0 : Int)]).filter good := by
    show ((List.range (n + 1)).flatMap fun (y : Nat) => ext (n + 1) m ([] ++ [(y : Int)])).filter good = _
    rw [List.filter_flatMap, List.range_succ_eq_map]
    have := flatMap_one (f := fun (y : Nat) => (ext (n + 1) m ([] ++ [(y : Int)])).filter good) (a := []) (x := 0) (b := (List.range n).map Nat.succ) (by simp) (fun z hz => by
      refine filter_nil_of (fun l hl => ?_)
      obtain ⟨w, rfl, _⟩ := mem_ext hl
      cases hgd : good ([] ++ [(z : Int)] ++ w) with
      | false => rfl
      | true =>
        have := hg0 _ hgd
        obtain ⟨q, _, rfl⟩ := List.mem_map.1 hz
        simp [gi] at this
        omega)
    exact this
  rw [s1]
  cases m with
  | zero =>
    simp [ext, mpl, dig]
  | succ k =>
    rw [ext_nxt]
    unfold nxt
    rw [List.filter_flatMap]
    have s2 : ∀ l ∈ ext (n + 1) k [(0 : Int)], ((List.range (n + 1)).map fun (y : Nat) => l ++ [(y : Int)]).filter good = [l ++ [(n : Int)]].filter good := fun l hl => by
      obtain ⟨w, rfl, hw⟩ := mem_ext hl
      rw [List.range_succ, List.map_append, List.filter_append, filter_nil_of (l := (List.range n).map _) (fun z hz => by
        obtain ⟨q, hq, rfl⟩ := List.mem_map.1 hz
        have hq := List.mem_range.1 hq
        cases hgd : good ([(0 : Int)] ++ w ++ [(q : Int)]) with
        | false => rfl
        | true =>
          have h1 := hg1 _ hgd
          have h2 : k + 1 + 1 - 1 = ([(0 : Int)] ++ w).length := by simp; omega
          rw [h2, gi_append_at] at h1
          omega)]
      simp
    rw [List.flatMap_def, List.map_congr_left s2, ← List.flatMap_def, ← List.filter_flatMap]
    congr 1
    have e1 : ext (n + 1) k [(0 : Int)] = (ext (n + 1) k []).map ([(0 : Int)] ++ ·) := ext_front (n + 1) [(0 : Int)] k []
    rw [e1, ext_asgK, asgK_dig (by omega)]
    simp [List.flatMap_def, Function.comp_def]
    generalize List.range ((n + 1) ^ k) = l
    induction l with
    | nil => rfl
    | cons a l ih => simp [ih, mpl]
end Go.PS
end

section
-- Contracts: all maps, the program's.
set_option maxRecDepth 100000
set_option linter.unusedVariables false
set_option linter.unusedSimpArgs false
namespace Go.PS
open Go.Proofs

theorem mapsP_succ {u : List Int} {t : List (List Int)} {v : List Int} {s : List (List Int)} {i : Nat} : mapsP u t v s (i + 1) = mapsP u t v s i ++ if MP u t v s (mpl u.length v.length i) then [mpl u.length v.length i] else [] := by
  unfold mapsP
  rw [List.range_succ, List.map_append, List.filter_append]
  congr 1
  simp [List.filter_cons]

def inlP (id : Nat) : Option FnA := if id = 94 then some fa_94 else if id = 149 then some fa_149 else none
theorem inlP_ok (id : Nat) (fa : FnA) (h : inlP id = some fa) : ∃ A, FnOk Try.prog id fa A := by
  unfold inlP at h
  split at h
  · rename_i e; subst e; injection h with h; subst h; exact ⟨_, fok_94⟩
  split at h
  · rename_i e; subst e; injection h with h; subst h; exact ⟨_, fok_149⟩
  · cases h

set_option maxHeartbeats 4000000 in
theorem mapsI_pc (u : List Int) (t : List (List Int)) (v : List Int) (s : List (List Int)) (f : TF u t) (f2 : TF v s) : PC Try.prog 100 [AL u t, AL v s] none true (fun r _ => r = RO (mprn u t v s u.length [])) := by
  have h6 := f.lat.six
  have h1 := f.lat.pos
  have h62 := f2.lat.six
  have h12 := f2.lat.pos
  rw [maps_eq f f2]
  refine pcI inlP inlP_ok [fm_repeatI, fm_isMapI] 3 fok_100 ?_
  simp [fa_100]
  refine cutE (α := Nat × Nat × Nat) (fun x => [(2, .iptr (AL u t)), (3, .iptr (AL v s)), (5, .ptr 40 x.1 0), (6, .ptr 48 x.2.1 0)]) (fun x => [⟨40, x.1, .cells [.arr 64 x.2.2]⟩, ⟨48, x.2.1, .cells [I64 ((v.length : Int) - 1)]⟩, ⟨64, x.2.2, .arr 1 []⟩]) (by simp [wrap64 (n := (v.length : Int) - 1) (by omega) (by omega)]) (fun x g0 => ?_)
  obtain ⟨c1, c2, c3⟩ := x
  have ec : (if 2 < (u.length : Int) then (u.length : Int) - 2 else 0) = ((u.length - 2 : Nat) : Int) := by split <;> omega
  have lr : fm_repeatI.look [D.list 1 [I64 ((v.length : Int) - 1)], D.int .i64 (if 2 < (u.length : Int) then (u.length : Int) - 2 else 0)] = some (IO1 (List.replicate (u.length - 2) ((v.length : Int) - 1))) := by
    rw [ec]; exact fm_repeatI_look ((v.length : Int) - 1) ((u.length - 2 : Nat) : Int) (by omega) (by omega)
  simp [lr, callO3T, inlP, wrap64 (n := (u.length : Int) - 2) (by omega) (by omega), callO16 (C := CI inlP) (id := 94) (fa := fa_94) rfl]
  refine eachList_run (α := Nat × Nat) (n := v.length) (m := u.length - 2) h12 h62 (by omega) (fun x l => [⟨4064, g0, .arr 1 (ints l)⟩, ⟨40, c1, .cells [.arr 64 x.2]⟩, ⟨48, c2, .cells [I64 ((v.length : Int) - 1)]⟩, ⟨64, x.2, .arr 1 (orowsD (mapsP u t v s x.1))⟩])
    (fun i x => x.1 = i) (0, c3) (by simp [KL, mapsP, orowsD]) (by simp) (by simp) (by simp [KL]) (by simp) (fun i x tt g Q hi hP hQ => ?_) (fun x g hP => ?_)
  · obtain ⟨j, γ⟩ := x
    obtain rfl : j = i := hP
    have hl : (dig v.length (u.length - 2) j).length = u.length - 2 := dig_length _ _ _
    simp [callO16 (C := CI inlP) (id := 149) (fa := fa_149) rfl, fa_149, callO3T, callDO3T, inlP, f, f2, hl]
    have hints : ∀ d, d ∈ ints (dig v.length (u.length - 2) j) → (match d with | .bool b => true | .int k n => true | .str s => true | x => false) = true := fun d hd => by
      obtain ⟨z, _, rfl⟩ := List.mem_map.1 hd
      rfl
    have hn : (mapsP u t v s j).length ≤ 46656 := by
      have h2 : (mapsP u t v s j).length ≤ j := by
        unfold mapsP
        exact Nat.le_trans (List.length_filter_le _ _) (by simp)
      have h3 := pow6 (k := u.length - 2) h62 (by omega)
      omega
    have e4 : big = 1048576 * 1048576 := rfl
    refine ⟨hints, by omega, fun c => ⟨by omega, ?_⟩, fun c => ?_⟩
    · have em : mpl u.length v.length j = (0 : Int) :: (dig v.length (u.length - 2) j ++ [(v.length : Int) - 1]) := by
        simp [mpl, show 1 < u.length by omega]
      have hb : Big (mpl u.length v.length j).length := by rw [em]; simp [hl]; unfold Big; omega
      have l1 := fm_isMapI_look u t v s (mpl u.length v.length j) f f2 hb
      have hsc := mapsP_succ (u := u) (t := t) (v := v) (s := s) (i := j)
      rw [em] at l1 hsc
      have l2 : fm_isMapI.look [.agg [.list 1 (ints u), .list 1 (rowsD t)], .agg [.list 1 (ints v), .list 1 (rowsD s)], .list 1 (D.int .i64 0 :: ints (dig v.length (u.length - 2) j ++ [(v.length : Int) - 1]))] = some (.bool (decide (MP u t v s ((0 : Int) :: (dig v.length (u.length - 2) j ++ [(v.length : Int) - 1]))))) := l1
      rw [l2]
      cases hM : decide (MP u t v s ((0 : Int) :: (dig v.length (u.length - 2) j ++ [(v.length : Int) - 1])))
      · simp only [decide_eq_false_iff_not] at hM
        rw [if_neg hM, List.append_nil] at hsc
        simp
        exact hQ (j + 1, γ) _ _ _ rfl (by simp) (by simp [KL, hsc])
      · simp only [decide_eq_true_eq] at hM
        rw [if_pos hM] at hsc
        have ho : orowsD (mapsP u t v s (j + 1)) = orowsD (mapsP u t v s j) ++ [D.olist 1 (D.int .i64 0 :: ints (dig v.length (u.length - 2) j ++ [(v.length : Int) - 1]))] := by
          rw [hsc]; simp [orowsD]; rfl
        simp
        exact ⟨by omega, hQ (j + 1, g + 1 + 1 + 1) _ _ _ rfl (by simp) (by simp [KL, ho])⟩
    · have em : mpl u.length v.length j = (0 : Int) :: dig v.length (u.length - 2) j := by
        simp [mpl, show ¬ (1 < u.length) by omega]
      have hb : Big (mpl u.length v.length j).length := by rw [em]; simp [hl]; unfold Big; omega
      have l1 := fm_isMapI_look u t v s (mpl u.length v.length j) f f2 hb
      have hsc := mapsP_succ (u := u) (t := t) (v := v) (s := s) (i := j)
      rw [em] at l1 hsc
      have l2 : fm_isMapI.look [.agg [.list 1 (ints u), .list 1 (rowsD t)], .agg [.list 1 (ints v), .list 1 (rowsD s)], .list 1 (D.int .i64 0 :: ints (dig v.length (u.length - 2) j))] = some (.bool (decide (MP u t v s ((0 : Int) :: dig v.length (u.length - 2) j)))) := l1
      rw [l2]
      cases hM : decide (MP u t v s ((0 : Int) :: dig v.length (u.length - 2) j))
      · simp only [decide_eq_false_iff_not] at hM
        rw [if_neg hM, List.append_nil] at hsc
        simp
        exact hQ (j + 1, γ) _ _ _ rfl (by simp) (by simp [KL, hsc])
      · simp only [decide_eq_true_eq] at hM
        rw [if_pos hM] at hsc
        have ho : orowsD (mapsP u t v s (j + 1)) = orowsD (mapsP u t v s j) ++ [D.olist 1 (D.int .i64 0 :: ints (dig v.length (u.length - 2) j))] := by
          rw [hsc]; simp [orowsD]; rfl
        simp
        exact ⟨by omega, hQ (j + 1, g + 1 + 1) _ _ _ rfl (by simp) (by simp [KL, ho])⟩
  · obtain ⟨j, γ⟩ := x
    obtain rfl : j = v.length ^ (u.length - 2) := hP
    simp
noncomputable def fm_mapsI : Fam Try.prog := mkFam (X := List Int × List (List Int) × List Int × List (List Int)) 100 true (fun (u, t, v, s) => [AL u t, AL v s]) (fun (u, t, v, s) => (TF u t) ∧ (TF v s)) (fun (u, t, v, s) => RO (mprn u t v s u.length [])) (by
  rintro ⟨u, t, v, s⟩ ⟨f, f2⟩
  exact mapsI_pc u t v s f f2)
@[simp] theorem fm_mapsI_id : fm_mapsI.id = 100 := rfl
@[simp] theorem fm_mapsI_fresh : fm_mapsI.fresh = true := rfl
@[simp] theorem fm_mapsI_look (u : List Int) (t : List (List Int)) (v : List Int) (s : List (List Int)) (f : TF u t) (f2 : TF v s) : fm_mapsI.look [AL u t, AL v s] = some (RO (mprn u t v s u.length [])) :=
  lookF_of (X := List Int × List (List Int) × List Int × List (List Int)) (args := fun (u, t, v, s) => [AL u t, AL v s]) (pre := fun (u, t, v, s) => (TF u t) ∧ (TF v s)) (val := fun (u, t, v, s) => RO (mprn u t v s u.length [])) (by
  rintro ⟨u, t, v, s⟩ ⟨u', t', v', s'⟩ h
  simp at h
  try simp only [and_assoc] at h
  obtain ⟨rfl, rfl, rfl, rfl⟩ := h
  rfl) (u, t, v, s) ⟨f, f2⟩
attribute [irreducible] fm_mapsI

theorem MapsI_pc (u : List Int) (t : List (List Int)) (v : List Int) (s : List (List Int)) (hu : Big u.length) (ht : BigR t) (hv : Big v.length) (hs : BigR s) : PC Try.prog 45 [AL u t, AL v s] none true (fun r _ => r = RO (mapsR u t v s)) := by
  refine pcT [fm_validAlgebraI, fm_mapsI] fok_45 ?_
  simp [fa_45]
  refine cutW (tabK_mono _) [(12, .bool (!(decide (VA u t) && decide (VA v s))))] (by cases hb : decide (VA u t) <;> simp [hu, ht, hv, hs, hb]) ?_
  simp
  refine ⟨fun h => ?_, fun h h2 => ?_⟩
  · have : ¬ (VA u t ∧ VA v s) := fun w => h.elim (fun q => q w.1) (fun q => q w.2)
    simp [mapsR, this, orowsD]
  · have l1 := fm_mapsI_look u t v s h.tf h2.tf
    refine callO1 fm_mapsI (by simp) (by simp) (v := RO (mprn u t v s u.length [])) (by simp; exact l1) ?_
    simp [mapsR, h, h2]
noncomputable def fm_MapsI : Fam Try.prog := mkFam (X := List Int × List (List Int) × List Int × List (List Int)) 45 true (fun (u, t, v, s) => [AL u t, AL v s]) (fun (u, t, v, s) => (Big u.length) ∧ (BigR t) ∧ (Big v.length) ∧ (BigR s)) (fun (u, t, v, s) => RO (mapsR u t v s)) (by
  rintro ⟨u, t, v, s⟩ ⟨hu, ht, hv, hs⟩
  exact MapsI_pc u t v s hu ht hv hs)
@[simp] theorem fm_MapsI_id : fm_MapsI.id = 45 := rfl
@[simp] theorem fm_MapsI_fresh : fm_MapsI.fresh = true := rfl
@[simp] theorem fm_MapsI_look (u : List Int) (t : List (List Int)) (v : List Int) (s : List (List Int)) (hu : Big u.length) (ht : BigR t) (hv : Big v.length) (hs : BigR s) : fm_MapsI.look [AL u t, AL v s] = some (RO (mapsR u t v s)) :=
  lookF_of (X := List Int × List (List Int) × List Int × List (List Int)) (args := fun (u, t, v, s) => [AL u t, AL v s]) (pre := fun (u, t, v, s) => (Big u.length) ∧ (BigR t) ∧ (Big v.length) ∧ (BigR s)) (val := fun (u, t, v, s) => RO (mapsR u t v s)) (by
  rintro ⟨u, t, v, s⟩ ⟨u', t', v', s'⟩ h
  simp at h
  try simp only [and_assoc] at h
  obtain ⟨rfl, rfl, rfl, rfl⟩ := h
  rfl) (u, t, v, s) ⟨hu, ht, hv, hs⟩
attribute [irreducible] fm_MapsI
end Go.PS
end

section
-- The law of all maps.
set_option maxRecDepth 100000
set_option linter.unusedVariables false
set_option linter.unusedSimpArgs false
namespace Go.PS
open Go.Proofs

theorem szR_sub : ∀ (a : List (List Int)) (n : Int), 0 ≤ szR a n → szR a n = n - tot a
  | [], n, h => by simp [szR, tot]
  | x :: a, n, h => by
    simp only [szR] at h ⊢
    split at h
    · omega
    · rename_i hx
      rw [if_neg hx]
      obtain ⟨h1, h2⟩ := szI_eq (Int.not_lt.1 hx)
      rw [szR_sub a _ h, h1]
      have : tot (x :: a) = x.length + tot a := by simp [tot]
      omega
theorem szA_sub {u : List Int} {t : List (List Int)} {n : Int} (h : 0 ≤ szA u t n) : szA u t n = n - u.length - t.length - tot t ∧ (u.length : Int) + t.length + tot t ≤ n := by
  unfold szA at h ⊢
  split at h
  · omega
  · rename_i h1
    rw [if_neg h1]
    obtain ⟨h2, h3⟩ := szI_eq (Int.not_lt.1 h1)
    unfold szII at h ⊢
    split at h
    · omega
    · rename_i h4
      rw [if_neg h4]
      have h5 := szR_sub _ _ h
      omega
theorem row_tot {r : List Int} : ∀ {t : List (List Int)}, r ∈ t → r.length ≤ tot t
  | x :: t, h => by
    have e : tot (x :: t) = x.length + tot t := by simp [tot]
    rcases List.mem_cons.1 h with rfl | h
    · omega
    · have := row_tot h; omega
theorem szA_big {u : List Int} {t : List (List Int)} {n : Int} (hn : n ≤ 1048576) (h : 0 ≤ szA u t n) : Big u.length ∧ BigR t := by
  have h1 := (szA_sub h).2
  exact ⟨by unfold Big; omega, by unfold Big; omega, fun r hr => by have := row_tot hr; unfold Big; omega⟩
theorem ext_len {n : Nat} : ∀ {k : Nat} {h l : List Int}, l ∈ ext n k h → l.length = h.length + k := fun hl => by
  obtain ⟨w, rfl, hw⟩ := mem_ext hl
  simp [hw]
theorem mapsR_big {u : List Int} {t : List (List Int)} {v : List Int} {s : List (List Int)} : BigR (mapsR u t v s) ∧ tot (mapsR u t v s) ≤ 46656 * 6 := by
  unfold mapsR
  split
  · rename_i a
    have h6 := a.1.tf.lat.six
    have h62 := a.2.tf.lat.six
    have hl : (mprn u t v s u.length []).length ≤ 46656 := Nat.le_trans (prn_len _ _) (pow6 h62 h6)
    have hr : ∀ x ∈ mprn u t v s u.length [], x.length ≤ 6 := fun x hx => by
      rw [mprn, prn_eq (fun k h y l hy hl hg => mok_of a.1.tf a.2.tf hl (of_decide_eq_true hg))] at hx
      have := ext_len (List.mem_filter.1 hx).1
      simp at this
      omega
    refine ⟨⟨by unfold Big; omega, fun x hx => by have := hr x hx; unfold Big; omega⟩, ?_⟩
    have h2 := sum_le (l := (mprn u t v s u.length []).map List.length) (b := 6) (fun x hx => by
      obtain ⟨y, hy, rfl⟩ := List.mem_map.1 hx
      exact hr y hy)
    rw [List.length_map] at h2
    unfold tot
    exact Nat.le_trans h2 (Nat.mul_le_mul_right 6 hl)
  · exact ⟨⟨by unfold Big; simp, fun x hx => by cases hx⟩, by simp [tot]⟩

theorem FnExactMapsOf_pc (u : List Int) (t : List (List Int)) (v : List Int) (s : List (List Int)) (hu : Hu u.length) (ht : HuR t) (hv : Hu v.length) (hs : HuR s) : PC Try.prog 9 [AL u t, AL v s] none true (fun r _ => r = .bool true) := by
  refine pcI inlM inlM_ok [fm_szAlgebra, fm_toAlgebra, fm_mapsS, fm_MapsI, fm_eqAlgebra, fm_eqIntSS, fm_heldIntSS] 3 fok_9 ?_
  simp [fa_9, callO3T, inlM, hu, ht, hv, hs]
  intro h3
  have hs1 := szA_sub h3
  have hb := szA_big (by omega) h3
  have hN : szA u t 1048576 ≤ 1048576 := by omega
  simp [callO3T, inlM, hv, hs, hN, show -1 ≤ szA u t 1048576 by omega]
  intro h4
  have hs2 := szA_sub h4
  have hb2 := szA_big hN h4
  obtain ⟨hrl, hrt⟩ := mapsR_big (u := u) (t := t) (v := v) (s := s)
  have hm := mkR_big (k := 1) hrl
  have hd := hdR_mkR (k := 1) (r := mapsR u t v s)
  have l1 := fm_mapsS_look u t v s hb.1 hb.2 hb2.1 hb2.2
  have l2 := fm_MapsI_look u t v s hb.1 hb.2 hb2.1 hb2.2
  generalize mapsR u t v s = r at *
  simp [callO3T, callDO3T, inlM, hb.1, hb.2, hb2.1, hb2.2, l1]
  refine callO1 fm_toAlgebra (by simp) (by simp) (v := .agg [IO1 u, RO t]) (by simp [hb.1, hb.2]) ?_
  simp
  refine callO1 fm_toAlgebra (by simp) (by simp) (v := .agg [IO1 v, RO s]) (by simp [hb2.1, hb2.2]) ?_
  simp
  refine callO1 fm_MapsI (by simp) (by simp) (v := RO r) (by simp; exact l2) ?_
  simp [callO3T, callDO3T, inlM, hrl, hb.1, hb.2, hb2.1, hb2.2, callO16 (C := CI inlM) (id := 26) (fa := fa_26) rfl]
  refine markA_run rfl rfl hb.1 hb.2 (by omega) (by omega) (by omega) (by omega) (by omega) (by simp) (by simp) (fun g1 => ?_)
  simp [callO16 (C := CI inlM) (id := 26) (fa := fa_26) rfl]
  refine markA_run rfl rfl hb2.1 hb2.2 (by omega) (by omega) (by omega) (by omega) (by omega) (by simp) (by simp) (fun g2 => ?_)
  simp
  refine cutW (inlT_mono _ _ _ _) [(63, .bool false)] (by
    simp [callO3T, inlM, hrl]
    omega) ?_
  simp [callO16 (C := CI inlM) (id := 42) (fa := fa_42) rfl]
  refine markSS_run rfl hrl (by omega) (by omega) (by simp) (fun g3 => ?_)
  have ht2 : tot (mkR 1 r r.length) = tot r := by unfold tot; rw [mkR_lens]
  have lh : fm_heldIntSS.look [.list 1 (rowsD (mkR 1 r r.length)), I64 1] = some (I64 (1 + tot r)) := by rw [← hd]; exact fm_heldIntSS_look _ 1 hm (by omega) (by omega)
  simp [callO3T, callDO3T, inlM, lh, l2, hb.1, hb.2, hb2.1, hb2.2, hrl, show ¬ (1 + (tot r : Int) < 0) by omega]
end Go.PS
end
