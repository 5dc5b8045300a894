/- PRINTED by gen.py: clean texts of functions, and their tie to the program. -/
import Derived.Test.YtdojebhmkbfppaaCi
set_option maxRecDepth 100000
namespace Go.PS
open Go.Proofs
/-- spec.assignments -/
def an_101 : Ann := ⟨[(5, 0, 1), (12, 1, 1), (12, 10, 2), (13, 1, 2)], [(0, [0]), (1, [0, 3]), (2, [0, 3, 4]), (3, [0, 3, 4, 11]), (5, [0, 3, 4, 5]), (6, [0, 3, 4, 5, 6]), (7, [0, 3, 4, 5, 6, 18]), (9, [0, 3, 4, 5, 6, 7]), (10, [0, 3, 4, 5, 6, 7, 23]), (12, [0, 3, 4, 5, 6, 7]), (11, [0, 3, 4, 5, 6, 7]), (8, [0, 3, 4, 5, 6]), (13, [0, 3, 4]), (4, [0, 3, 4]), (14, [2])], [(3, [0, 3, 4], [112, 296]), (7, [0, 3, 4, 5, 6], [112, 296]), (10, [0, 3, 4, 5, 6, 7], [112, 296])]⟩
def lb_101_10 : AC :=
  (.seq
    (.seq
      (.region false [⟨some 21, (.mv (.t 7)), 3, none, 0⟩, ⟨some 22, (.mv (.t 0)), 3, none, 0⟩, ⟨some 23, (.bin .lss 3 (.t 21) (.t 22)), 4, none, 0⟩] (some [0, 3, 4, 5, 6, 7, 23]))
      (.cond (.t 23)
        .skip
        (.exit 4)))
    (.seq
      (.block 5
        (.region false [⟨some 26, (.mv (.t 5)), 23, none, 0⟩, ⟨some 27, (.bslice 22 0 []), 22, none, 1⟩, ⟨some 28, (.mv (.t 3)), 23, none, 0⟩, ⟨some 29, (.mv (.t 6)), 3, none, 0⟩, ⟨some 30, (.iaddr 23 (.t 28) (.t 29)), 0, none, 0⟩, ⟨some 31, (.load 22 (.t 30)), 22, none, 0⟩, ⟨some 32, (.app 22 22 (.t 27) (.t 31)), 22, none, 0⟩, ⟨some 33, (.mv (.t 7)), 3, none, 0⟩, ⟨some 34, (.bslice 22 1 [(0, (.t 33))]), 22, none, 0⟩, ⟨some 35, (.app 22 22 (.t 32) (.t 34)), 22, none, 0⟩, ⟨some 36, (.bslice 23 1 [(0, (.t 35))]), 23, none, 2⟩, ⟨some 37, (.app 23 23 (.t 26) (.t 36)), 23, none, 0⟩, ⟨some 5, (.mv (.t 37)), 23, none, 0⟩] (some [0, 3, 4, 5, 6, 7])))
      (.region false [⟨some 24, (.mv (.t 7)), 3, none, 0⟩, ⟨some 25, (.bin .add 3 (.t 24) (.c (.int .i64 1))), 3, none, 0⟩, ⟨some 7, (.mv (.t 25)), 3, none, 0⟩] (some [0, 3, 4, 5, 6, 7]))))
def lb_101_7 : AC :=
  (.seq
    (.seq
      (.region false [⟨some 15, (.mv (.t 6)), 3, none, 0⟩, ⟨some 16, (.mv (.t 3)), 23, none, 0⟩, ⟨some 17, (.len 23 (.t 16)), 3, none, 0⟩, ⟨some 18, (.bin .lss 3 (.t 15) (.t 17)), 4, none, 0⟩] (some [0, 3, 4, 5, 6, 18]))
      (.cond (.t 18)
        .skip
        (.exit 2)))
    (.seq
      (.block 3
        (.seq
          (.region false [⟨some 7, (.mv (.c (.int .i64 0))), 3, none, 0⟩] (some [0, 3, 4, 5, 6, 7]))
          (.block 4
            (.loop [0, 3, 4, 5, 6, 7] [112, 296] lb_101_10))))
      (.region false [⟨some 19, (.mv (.t 6)), 3, none, 0⟩, ⟨some 20, (.bin .add 3 (.t 19) (.c (.int .i64 1))), 3, none, 0⟩, ⟨some 6, (.mv (.t 20)), 3, none, 0⟩] (some [0, 3, 4, 5, 6]))))
def lb_101_3 : AC :=
  (.seq
    (.seq
      (.region false [⟨some 10, (.mv (.t 4)), 3, none, 0⟩, ⟨some 11, (.bin .lss 3 (.t 10) (.c (.int .i64 3))), 4, none, 0⟩] (some [0, 3, 4, 11]))
      (.cond (.t 11)
        .skip
        (.exit 0)))
    (.seq
      (.block 1
        (.seq
          (.region false [⟨some 14, (.bslice 23 0 []), 23, none, 1⟩, ⟨some 5, (.mv (.t 14)), 23, none, 0⟩] (some [0, 3, 4, 5]))
          (.seq
            (.seq
              (.region false [⟨some 6, (.mv (.c (.int .i64 0))), 3, none, 0⟩] (some [0, 3, 4, 5, 6]))
              (.block 2
                (.loop [0, 3, 4, 5, 6] [112, 296] lb_101_7)))
            (.region false [⟨some 38, (.mv (.t 5)), 23, none, 0⟩, ⟨some 3, (.mv (.t 38)), 23, none, 2⟩] (some [0, 3, 4])))))
      (.region false [⟨some 12, (.mv (.t 4)), 3, none, 0⟩, ⟨some 13, (.bin .add 3 (.t 12) (.c (.int .i64 1))), 3, none, 0⟩, ⟨some 4, (.mv (.t 13)), 3, none, 0⟩] (some [0, 3, 4]))))
def fa_101 : FnA := ⟨40, [.t 2],
  (.seq
    (.region false [⟨some 2, (.mv (.c .nil)), 23, none, 0⟩] (some [0]))
    (.seq
      (.region false [⟨some 8, (.bslice 22 0 []), 22, none, 0⟩, ⟨some 9, (.bslice 23 1 [(0, (.t 8))]), 23, none, 0⟩, ⟨some 3, (.mv (.t 9)), 23, none, 0⟩] (some [0, 3]))
      (.seq
        (.seq
          (.region false [⟨some 4, (.mv (.c (.int .i64 0))), 3, none, 0⟩] (some [0, 3, 4]))
          (.block 0
            (.loop [0, 3, 4] [112, 296] lb_101_3)))
        (.seq
          (.region false [⟨some 39, (.mv (.t 3)), 23, none, 0⟩, ⟨some 2, (.mv (.t 39)), 23, none, 0⟩] (some [2]))
          .ret))))⟩
theorem fok_101 : FnOk Try.prog 101 fa_101 an_101 := ⟨Try.f101, _, Try.func101, rfl, by kernel_rfl, rfl, rfl, by decide, by kernel_rfl⟩
/-- spec.pow -/
def an_114 : Ann := ⟨[], [(0, [1, 2, 3]), (1, [1, 2, 3, 7]), (2, [1, 2, 3, 7, 13]), (4, [1, 2, 3, 7]), (3, [1, 2, 3, 7]), (5, [6])], [(2, [1, 2, 3, 7], [])]⟩
def lb_114_2 : AC :=
  (.seq
    (.seq
      (.region false [⟨some 12, (.mv (.t 2)), 3, none, 0⟩, ⟨some 13, (.bin .gtr 3 (.t 12) (.c (.int .i64 0))), 4, none, 0⟩] (some [1, 2, 3, 7, 13]))
      (.cond (.t 13)
        .skip
        (.exit 0)))
    (.seq
      (.block 1
        (.region false [⟨some 16, (.faddr 28 (.t 3) 1), 0, none, 0⟩, ⟨some 17, (.load 23 (.t 16)), 23, none, 0⟩, ⟨some 18, (.mv (.t 7)), 3, none, 0⟩, ⟨some 19, (.iaddr 23 (.t 17) (.t 18)), 0, none, 0⟩, ⟨some 20, (.load 22 (.t 19)), 22, none, 0⟩, ⟨some 21, (.mv (.t 1)), 3, none, 0⟩, ⟨some 22, (.iaddr 22 (.t 20) (.t 21)), 0, none, 0⟩, ⟨some 23, (.load 3 (.t 22)), 3, none, 0⟩, ⟨some 7, (.mv (.t 23)), 3, none, 0⟩] (some [1, 2, 3, 7])))
      (.region false [⟨some 14, (.mv (.t 2)), 3, none, 0⟩, ⟨some 15, (.bin .sub 3 (.t 14) (.c (.int .i64 1))), 3, none, 0⟩, ⟨some 2, (.mv (.t 15)), 3, none, 0⟩] (some [1, 2, 3, 7]))))
def fa_114 : FnA := ⟨25, [.t 6],
  (.seq
    (.region false [⟨some 3, (.box 28 (.t 0)), 0, none, 0⟩, ⟨some 6, (.mv (.c (.int .i64 0))), 3, none, 0⟩] (some [1, 2, 3]))
    (.seq
      (.region false [⟨some 8, (.faddr 28 (.t 3) 0), 0, none, 0⟩, ⟨some 9, (.load 22 (.t 8)), 22, none, 0⟩, ⟨some 10, (.len 22 (.t 9)), 3, none, 0⟩, ⟨some 11, (.bin .sub 3 (.t 10) (.c (.int .i64 1))), 3, none, 0⟩, ⟨some 7, (.mv (.t 11)), 3, none, 0⟩] (some [1, 2, 3, 7]))
      (.seq
        (.block 0
          (.loop [1, 2, 3, 7] [] lb_114_2))
        (.seq
          (.region false [⟨some 24, (.mv (.t 7)), 3, none, 0⟩, ⟨some 6, (.mv (.t 24)), 3, none, 0⟩] (some [6]))
          .ret))))⟩
theorem fok_114 : FnOk Try.prog 114 fa_114 an_114 := ⟨Try.f114, _, Try.func114, rfl, by kernel_rfl, rfl, rfl, by decide, by kernel_rfl⟩
/-- spec.LeastPower -/
def an_52 : Ann := ⟨[(1, 1, 3), (1, 5, 3), (1, 10, 3), (3, 3, 3), (8, 6, 3), (9, 6, 3), (10, 5, 3), (10, 7, 3)], [(0, [1, 2, 3]), (1, [1, 2, 3, 25]), (2, [6, 7]), (3, [1, 2, 3, 8]), (4, [1, 2, 3, 8, 9]), (5, [1, 2, 3, 8, 9, 10]), (6, [1, 2, 3, 8, 9, 10, 33]), (8, [1, 2, 3, 8, 9, 10, 11]), (9, [1, 2, 3, 8, 9, 10, 11, 12]), (10, [1, 2, 3, 8, 9, 10, 11, 12, 58]), (11, [1, 2, 3, 8, 9, 10, 11, 12]), (12, [1, 2, 3, 8, 9, 10, 11, 12, 62]), (13, [6, 7]), (7, [1, 2, 3, 8, 9, 10]), (14, [6, 7])], [(6, [1, 2, 3, 8, 9, 10], []), (10, [1, 2, 3, 8, 9, 10, 11, 12], [])]⟩
def lb_52_10 : AC :=
  (.seq
    (.seq
      (.region true [⟨some 50, (.faddr 28 (.t 3) 0), 0, none, 0⟩, ⟨some 51, (.load 22 (.t 50)), 22, none, 0⟩, ⟨some 52, (.load 28 (.t 3)), 28, none, 0⟩, ⟨some 53, (.mv (.t 11)), 3, none, 0⟩, ⟨some 54, (.mv (.t 9)), 3, none, 0⟩, ⟨some 55, (.call (.f 114) [(.t 52), (.t 53), (.t 54)]), 3, none, 3⟩, ⟨some 56, (.mv (.t 12)), 3, none, 0⟩, ⟨some 57, (.call (.f 113) [(.t 51), (.t 55), (.t 56)]), 4, none, 3⟩, ⟨some 58, (.un .not (.t 57)), 4, none, 0⟩] (some [1, 2, 3, 8, 9, 10, 11, 12, 58]))
      (.cond (.t 58)
        .skip
        (.exit 2)))
    (.block 3
      (.seq
        (.region false [⟨some 59, (.mv (.t 9)), 3, none, 0⟩, ⟨some 60, (.bin .add 3 (.t 59) (.c (.int .i64 1))), 3, none, 0⟩, ⟨some 9, (.mv (.t 60)), 3, none, 0⟩] (some [1, 2, 3, 8, 9, 10, 11, 12]))
        (.seq
          (.region false [⟨some 61, (.mv (.t 9)), 3, none, 0⟩, ⟨some 62, (.bin .gtr 3 (.t 61) (.c (.int .i64 20))), 4, none, 0⟩] (some [1, 2, 3, 8, 9, 10, 11, 12, 62]))
          (.cond (.t 62)
            (.seq
              (.region false [⟨some 6, (.mv (.c (.int .i64 0))), 3, none, 0⟩, ⟨some 7, (.mv (.c (.bool false))), 4, none, 0⟩] (some [6, 7]))
              .ret)
            .skip)))))
def lb_52_6 : AC :=
  (.seq
    (.seq
      (.region false [⟨some 30, (.mv (.t 10)), 3, none, 0⟩, ⟨some 31, (.mv (.t 8)), 23, none, 0⟩, ⟨some 32, (.len 23 (.t 31)), 3, none, 0⟩, ⟨some 33, (.bin .lss 3 (.t 30) (.t 32)), 4, none, 0⟩] (some [1, 2, 3, 8, 9, 10, 33]))
      (.cond (.t 33)
        .skip
        (.exit 0)))
    (.seq
      (.block 1
        (.seq
          (.region true [⟨some 36, (.load 28 (.t 3)), 28, none, 0⟩, ⟨some 37, (.mv (.t 1)), 22, none, 0⟩, ⟨some 38, (.mv (.t 8)), 23, none, 0⟩, ⟨some 39, (.mv (.t 10)), 3, none, 0⟩, ⟨some 40, (.iaddr 23 (.t 38) (.t 39)), 0, none, 0⟩, ⟨some 41, (.load 22 (.t 40)), 22, none, 0⟩, ⟨some 42, (.call (.f 65) [(.t 36), (.t 37), (.c (.int .i64 0)), (.t 41)]), 3, none, 3⟩, ⟨some 11, (.mv (.t 42)), 3, none, 0⟩] (some [1, 2, 3, 8, 9, 10, 11]))
          (.seq
            (.region true [⟨some 43, (.load 28 (.t 3)), 28, none, 0⟩, ⟨some 44, (.mv (.t 2)), 22, none, 0⟩, ⟨some 45, (.mv (.t 8)), 23, none, 0⟩, ⟨some 46, (.mv (.t 10)), 3, none, 0⟩, ⟨some 47, (.iaddr 23 (.t 45) (.t 46)), 0, none, 0⟩, ⟨some 48, (.load 22 (.t 47)), 22, none, 0⟩, ⟨some 49, (.call (.f 65) [(.t 43), (.t 44), (.c (.int .i64 0)), (.t 48)]), 3, none, 3⟩, ⟨some 12, (.mv (.t 49)), 3, none, 0⟩] (some [1, 2, 3, 8, 9, 10, 11, 12]))
            (.block 2
              (.loop [1, 2, 3, 8, 9, 10, 11, 12] [] lb_52_10)))))
      (.region false [⟨some 34, (.mv (.t 10)), 3, none, 0⟩, ⟨some 35, (.bin .add 3 (.t 34) (.c (.int .i64 1))), 3, none, 0⟩, ⟨some 10, (.mv (.t 35)), 3, none, 0⟩] (some [1, 2, 3, 8, 9, 10]))))
def fa_52 : FnA := ⟨64, [.t 6, .t 7],
  (.seq
    (.region false [⟨some 3, (.box 28 (.t 0)), 0, none, 0⟩, ⟨some 6, (.mv (.c (.int .i64 0))), 3, none, 0⟩, ⟨some 7, (.mv (.c (.bool false))), 4, none, 0⟩] (some [1, 2, 3]))
    (.seq
      (.seq
        (.region false (gops [⟨some 13, (.load 28 (.t 3)), 28, none, 0⟩, ⟨some 14, (.call (.f 62) [(.t 13)]), 4, none, 3⟩, ⟨some 15, (.un .not (.t 14)), 4, none, 0⟩, ⟨some 16, (.mv (.t 15)), 4, none, 0⟩, ⟨some 17, (.mv (.t 1)), 22, some (16, false), 0⟩, ⟨some 18, (.call (.f 63) [(.t 17)]), 4, some (16, false), 3⟩, ⟨some 19, (.un .not (.t 18)), 4, some (16, false), 0⟩, ⟨some 20, (.pick (.t 16) (.c (.bool true)) (.t 19)), 4, none, 0⟩, ⟨some 21, (.mv (.t 20)), 4, none, 0⟩, ⟨some 22, (.mv (.t 2)), 22, some (21, false), 0⟩, ⟨some 23, (.call (.f 63) [(.t 22)]), 4, some (21, false), 3⟩, ⟨some 24, (.un .not (.t 23)), 4, some (21, false), 0⟩, ⟨some 25, (.pick (.t 21) (.c (.bool true)) (.t 24)), 4, none, 0⟩]) (some [1, 2, 3, 25]))
        (.cond (.t 25)
          (.seq
            (.region false [⟨some 6, (.mv (.c (.int .i64 0))), 3, none, 0⟩, ⟨some 7, (.mv (.c (.bool false))), 4, none, 0⟩] (some [6, 7]))
            .ret)
          .skip))
      (.seq
        (.region false [⟨some 26, (.faddr 28 (.t 3) 0), 0, none, 0⟩, ⟨some 27, (.load 22 (.t 26)), 22, none, 0⟩, ⟨some 28, (.len 22 (.t 27)), 3, none, 0⟩, ⟨some 29, (.call (.f 101) [(.t 28)]), 23, none, 3⟩, ⟨some 8, (.mv (.t 29)), 23, none, 0⟩] (some [1, 2, 3, 8]))
        (.seq
          (.region false [⟨some 9, (.mv (.c (.int .i64 0))), 3, none, 0⟩] (some [1, 2, 3, 8, 9]))
          (.seq
            (.seq
              (.region false [⟨some 10, (.mv (.c (.int .i64 0))), 3, none, 0⟩] (some [1, 2, 3, 8, 9, 10]))
              (.block 0
                (.loop [1, 2, 3, 8, 9, 10] [] lb_52_6)))
            (.seq
              (.region false [⟨some 63, (.mv (.t 9)), 3, none, 0⟩, ⟨some 6, (.mv (.t 63)), 3, none, 0⟩, ⟨some 7, (.mv (.c (.bool true))), 4, none, 0⟩] (some [6, 7]))
              .ret))))))⟩
theorem fok_52 : FnOk Try.prog 52 fa_52 an_52 := ⟨Try.f52, _, Try.func52, rfl, by kernel_rfl, rfl, rfl, by decide, by kernel_rfl⟩
/-- impl.power -/
def an_116 : Ann := ⟨[], [(0, [1, 2, 3]), (1, [1, 2, 3, 7]), (2, [1, 2, 3, 7, 13]), (4, [1, 2, 3, 7]), (3, [1, 2, 3, 7]), (5, [6])], [(2, [1, 2, 3, 7], [])]⟩
def lb_116_2 : AC :=
  (.seq
    (.seq
      (.region false [⟨some 12, (.mv (.t 2)), 3, none, 0⟩, ⟨some 13, (.bin .gtr 3 (.t 12) (.c (.int .i64 0))), 4, none, 0⟩] (some [1, 2, 3, 7, 13]))
      (.cond (.t 13)
        .skip
        (.exit 0)))
    (.seq
      (.block 1
        (.region false [⟨some 16, (.faddr 28 (.t 3) 1), 0, none, 0⟩, ⟨some 17, (.load 23 (.t 16)), 23, none, 0⟩, ⟨some 18, (.mv (.t 7)), 3, none, 0⟩, ⟨some 19, (.iaddr 23 (.t 17) (.t 18)), 0, none, 0⟩, ⟨some 20, (.load 22 (.t 19)), 22, none, 0⟩, ⟨some 21, (.mv (.t 1)), 3, none, 0⟩, ⟨some 22, (.iaddr 22 (.t 20) (.t 21)), 0, none, 0⟩, ⟨some 23, (.load 3 (.t 22)), 3, none, 0⟩, ⟨some 7, (.mv (.t 23)), 3, none, 0⟩] (some [1, 2, 3, 7])))
      (.region false [⟨some 14, (.mv (.t 2)), 3, none, 0⟩, ⟨some 15, (.bin .sub 3 (.t 14) (.c (.int .i64 1))), 3, none, 0⟩, ⟨some 2, (.mv (.t 15)), 3, none, 0⟩] (some [1, 2, 3, 7]))))
def fa_116 : FnA := ⟨25, [.t 6],
  (.seq
    (.region false [⟨some 3, (.box 28 (.t 0)), 0, none, 0⟩, ⟨some 6, (.mv (.c (.int .i64 0))), 3, none, 0⟩] (some [1, 2, 3]))
    (.seq
      (.region false [⟨some 8, (.faddr 28 (.t 3) 0), 0, none, 0⟩, ⟨some 9, (.load 22 (.t 8)), 22, none, 0⟩, ⟨some 10, (.len 22 (.t 9)), 3, none, 0⟩, ⟨some 11, (.bin .sub 3 (.t 10) (.c (.int .i64 1))), 3, none, 0⟩, ⟨some 7, (.mv (.t 11)), 3, none, 0⟩] (some [1, 2, 3, 7]))
      (.seq
        (.block 0
          (.loop [1, 2, 3, 7] [] lb_116_2))
        (.seq
          (.region false [⟨some 24, (.mv (.t 7)), 3, none, 0⟩, ⟨some 6, (.mv (.t 24)), 3, none, 0⟩] (some [6]))
          .ret))))⟩
theorem fok_116 : FnOk Try.prog 116 fa_116 an_116 := ⟨Try.f116, _, Try.func116, rfl, by kernel_rfl, rfl, rfl, by decide, by kernel_rfl⟩
/-- impl.LeastPower$1 -/
def an_115 : Ann := ⟨[(0, 8, 3), (0, 10, 3), (0, 14, 3), (0, 15, 3)], [(0, [])], []⟩
def fa_115 : FnA := ⟨24, [],
  (.region true (gops [⟨some 7, (.load 4 (.t 1)), 4, none, 0⟩, ⟨some 8, (.mv (.t 7)), 4, none, 0⟩, ⟨some 9, (.faddr 28 (.t 2) 0), 0, some (8, true), 0⟩, ⟨some 10, (.load 22 (.t 9)), 22, some (8, true), 0⟩, ⟨some 11, (.load 28 (.t 2)), 28, some (8, true), 0⟩, ⟨some 12, (.load 28 (.t 2)), 28, some (8, true), 0⟩, ⟨some 13, (.load 22 (.t 3)), 22, some (8, true), 0⟩, ⟨some 14, (.mv (.t 0)), 22, some (8, true), 0⟩, ⟨some 15, (.call (.f 69) [(.t 12), (.t 13), (.t 14)]), 3, some (8, true), 3⟩, ⟨some 16, (.load 3 (.t 4)), 3, some (8, true), 0⟩, ⟨some 17, (.call (.f 116) [(.t 11), (.t 15), (.t 16)]), 3, some (8, true), 3⟩, ⟨some 18, (.load 28 (.t 2)), 28, some (8, true), 0⟩, ⟨some 19, (.load 22 (.t 5)), 22, some (8, true), 0⟩, ⟨some 20, (.mv (.t 0)), 22, some (8, true), 0⟩, ⟨some 21, (.call (.f 69) [(.t 18), (.t 19), (.t 20)]), 3, some (8, true), 3⟩, ⟨some 22, (.call (.f 88) [(.t 10), (.t 17), (.t 21)]), 4, some (8, true), 3⟩, ⟨some 23, (.pick (.t 8) (.t 22) (.c (.bool false))), 4, none, 0⟩, ⟨none, (.store 4 (.t 1) (.t 23)), 0, none, 0⟩]) (some []))⟩
theorem fok_115 : FnOk Try.prog 115 fa_115 an_115 := ⟨Try.f115, _, Try.func115, rfl, by kernel_rfl, rfl, rfl, by decide, by kernel_rfl⟩
/-- impl.eachList -/
def an_94 : Ann := ⟨[(1, 2, 16)], [(0, [0, 1, 4]), (1, [0, 1, 4]), (2, [0, 1, 4, 5]), (3, [0, 1, 4, 5, 27]), (4, [0, 1, 4, 5]), (5, [0, 1, 4, 5]), (6, [0, 1, 4, 5, 34]), (7, [0, 1, 4])], [(1, [0, 1, 4], [8064, 8, 16, 24, 32, 40, 48, 56, 64, 72, 80, 88, 96, 104, 112, 120, 128]), (3, [0, 1, 4, 5], [8064, 8, 16, 24, 32, 40, 48, 56, 64, 72, 80, 88, 96, 104, 112, 120, 128])]⟩
def lb_94_3 : AC :=
  (.seq
    (.seq
      (.region true (gops [⟨some 15, (.mv (.t 5)), 3, none, 0⟩, ⟨some 16, (.bin .geq 3 (.t 15) (.c (.int .i64 0))), 4, none, 0⟩, ⟨some 17, (.mv (.t 16)), 4, none, 0⟩, ⟨some 18, (.mv (.t 4)), 22, some (17, true), 0⟩, ⟨some 19, (.mv (.t 5)), 3, some (17, true), 0⟩, ⟨some 20, (.iaddr 22 (.t 18) (.t 19)), 0, some (17, true), 0⟩, ⟨some 21, (.load 3 (.t 20)), 3, some (17, true), 0⟩, ⟨some 22, (.mv (.t 0)), 22, some (17, true), 0⟩, ⟨some 23, (.mv (.t 5)), 3, some (17, true), 0⟩, ⟨some 24, (.iaddr 22 (.t 22) (.t 23)), 0, some (17, true), 0⟩, ⟨some 25, (.load 3 (.t 24)), 3, some (17, true), 0⟩, ⟨some 26, (.bin .eql 3 (.t 21) (.t 25)), 4, some (17, true), 0⟩, ⟨some 27, (.pick (.t 17) (.t 26) (.c (.bool false))), 4, none, 0⟩]) (some [0, 1, 4, 5, 27]))
      (.cond (.t 27)
        .skip
        (.exit 2)))
    (.block 3
      (.seq
        (.region false [⟨some 28, (.mv (.t 4)), 22, none, 0⟩, ⟨some 29, (.mv (.t 5)), 3, none, 0⟩, ⟨some 30, (.iaddr 22 (.t 28) (.t 29)), 0, none, 0⟩, ⟨none, (.store 3 (.t 30) (.c (.int .i64 0))), 0, none, 0⟩] (some [0, 1, 4, 5]))
        (.region false [⟨some 31, (.mv (.t 5)), 3, none, 0⟩, ⟨some 32, (.bin .sub 3 (.t 31) (.c (.int .i64 1))), 3, none, 0⟩, ⟨some 5, (.mv (.t 32)), 3, none, 0⟩] (some [0, 1, 4, 5])))))
def lb_94_1 : AC :=
  (.block 1
    (.seq
      (.region false [⟨some 9, (.mv (.t 1)), 86, none, 0⟩, ⟨some 10, (.mv (.t 4)), 22, none, 0⟩, ⟨some 11, (.call (.t 9) [(.t 10)]), 0, none, 16⟩] (some [0, 1, 4]))
      (.seq
        (.region false [⟨some 12, (.mv (.t 4)), 22, none, 0⟩, ⟨some 13, (.len 22 (.t 12)), 3, none, 0⟩, ⟨some 14, (.bin .sub 3 (.t 13) (.c (.int .i64 1))), 3, none, 0⟩, ⟨some 5, (.mv (.t 14)), 3, none, 0⟩] (some [0, 1, 4, 5]))
        (.seq
          (.block 2
            (.loop [0, 1, 4, 5] [8064, 8, 16, 24, 32, 40, 48, 56, 64, 72, 80, 88, 96, 104, 112, 120, 128] lb_94_3))
          (.seq
            (.seq
              (.region false [⟨some 33, (.mv (.t 5)), 3, none, 0⟩, ⟨some 34, (.bin .lss 3 (.t 33) (.c (.int .i64 0))), 4, none, 0⟩] (some [0, 1, 4, 5, 34]))
              (.cond (.t 34)
                .ret
                .skip))
            (.region false [⟨some 35, (.mv (.t 4)), 22, none, 0⟩, ⟨some 36, (.mv (.t 5)), 3, none, 0⟩, ⟨some 37, (.iaddr 22 (.t 35) (.t 36)), 0, none, 0⟩, ⟨some 38, (.load 3 (.t 37)), 3, none, 0⟩, ⟨some 39, (.bin .add 3 (.t 38) (.c (.int .i64 1))), 3, none, 0⟩, ⟨some 40, (.iaddr 22 (.t 35) (.t 36)), 0, none, 0⟩, ⟨none, (.store 3 (.t 40) (.t 39)), 0, none, 0⟩] (some [0, 1, 4])))))))
def fa_94 : FnA := ⟨41, [],
  (.seq
    (.region false [⟨some 6, (.mv (.t 0)), 22, none, 0⟩, ⟨some 7, (.len 22 (.t 6)), 3, none, 0⟩, ⟨some 8, (.make 22 (.t 7) (.t 7)), 22, none, 0⟩, ⟨some 4, (.mv (.t 8)), 22, none, 0⟩] (some [0, 1, 4]))
    (.block 0
      (.loop [0, 1, 4] [8064, 8, 16, 24, 32, 40, 48, 56, 64, 72, 80, 88, 96, 104, 112, 120, 128] lb_94_1)))⟩
theorem fok_94 : FnOk Try.prog 94 fa_94 an_94 := ⟨Try.f94, _, Try.func94, rfl, by kernel_rfl, rfl, rfl, by decide, by kernel_rfl⟩
/-- impl.eachNames -/
def an_102 : Ann := ⟨[(1, 5, 3), (1, 7, 16)], [(0, [1, 2]), (1, [])], []⟩
def fa_102 : FnA := ⟨12, [],
  (.seq
    (.region false [⟨some 2, (.box 28 (.t 0)), 0, none, 0⟩] (some [1, 2]))
    (.region false [⟨some 4, (.faddr 28 (.t 2) 0), 0, none, 0⟩, ⟨some 5, (.load 22 (.t 4)), 22, none, 0⟩, ⟨some 6, (.len 22 (.t 5)), 3, none, 0⟩, ⟨some 7, (.bin .sub 3 (.t 6) (.c (.int .i64 1))), 3, none, 0⟩, ⟨some 8, (.bslice 22 1 [(0, (.t 7))]), 22, none, 0⟩, ⟨some 9, (.call (.f 95) [(.t 8), (.c (.int .i64 3))]), 22, none, 3⟩, ⟨some 10, (.mv (.t 1)), 86, none, 0⟩, ⟨some 11, (.call (.f 94) [(.t 9), (.t 10)]), 0, none, 16⟩] (some [])))⟩
theorem fok_102 : FnOk Try.prog 102 fa_102 an_102 := ⟨Try.f102, _, Try.func102, rfl, by kernel_rfl, rfl, rfl, by decide, by kernel_rfl⟩
/-- impl.LeastPower -/
def an_53 : Ann := ⟨[(1, 1, 3), (1, 5, 3), (1, 10, 3), (7, 2, 16)], [(0, [3, 4, 5]), (1, [3, 4, 5, 22]), (2, [6, 7]), (3, [3, 4, 5, 8]), (4, [3, 4, 5, 8, 24]), (6, [3, 4, 5, 8, 9]), (7, [3, 4, 5, 8, 9]), (8, [3, 4, 5, 8, 30]), (9, [6, 7]), (10, [3, 4, 5, 32]), (11, [3, 4, 5, 8]), (5, [3, 4, 5, 8]), (12, [6, 7])], [(4, [3, 4, 5, 8], [64])]⟩
def lb_53_4 : AC :=
  (.seq
    (.seq
      (.region false [⟨some 23, (.load 3 (.t 8)), 3, none, 0⟩, ⟨some 24, (.bin .leq 3 (.t 23) (.c (.int .i64 20))), 4, none, 0⟩] (some [3, 4, 5, 8, 24]))
      (.cond (.t 24)
        .skip
        (.exit 0)))
    (.seq
      (.block 1
        (.seq
          (.region false [⟨some 9, (.alloc 4), 0, none, 0⟩, ⟨none, (.store 4 (.t 9) (.c (.bool true))), 0, none, 0⟩] (some [3, 4, 5, 8, 9]))
          (.seq
            (.region false [⟨some 27, (.load 28 (.t 3)), 28, none, 0⟩, ⟨some 28, (.mkfn 115 [(.t 9), (.t 3), (.t 4), (.t 8), (.t 5)]), 86, none, 0⟩, ⟨some 29, (.call (.f 102) [(.t 27), (.t 28)]), 0, none, 16⟩] (some [3, 4, 5, 8, 9]))
            (.seq
              (.region false [⟨some 30, (.load 4 (.t 9)), 4, none, 0⟩] (some [3, 4, 5, 8, 30]))
              (.cond (.t 30)
                (.seq
                  (.region false [⟨some 31, (.load 3 (.t 8)), 3, none, 0⟩, ⟨some 6, (.mv (.t 31)), 3, none, 0⟩, ⟨some 7, (.mv (.c (.bool true))), 4, none, 0⟩] (some [6, 7]))
                  .ret)
                .skip)))))
      (.seq
        (.seq
          (.region false [⟨some 32, (.load 3 (.t 8)), 3, none, 0⟩] (some [3, 4, 5, 32]))
          (.region false [⟨some 8, (.alloc 3), 0, none, 0⟩, ⟨none, (.store 3 (.t 8) (.t 32)), 0, none, 0⟩] (some [3, 4, 5, 8])))
        (.region false [⟨some 25, (.load 3 (.t 8)), 3, none, 0⟩, ⟨some 26, (.bin .add 3 (.t 25) (.c (.int .i64 1))), 3, none, 0⟩, ⟨none, (.store 3 (.t 8) (.t 26)), 0, none, 0⟩] (some [3, 4, 5, 8])))))
def fa_53 : FnA := ⟨33, [.t 6, .t 7],
  (.seq
    (.region false [⟨some 3, (.box 28 (.t 0)), 0, none, 0⟩, ⟨some 4, (.box 22 (.t 1)), 0, none, 0⟩, ⟨some 5, (.box 22 (.t 2)), 0, none, 0⟩, ⟨some 6, (.mv (.c (.int .i64 0))), 3, none, 0⟩, ⟨some 7, (.mv (.c (.bool false))), 4, none, 0⟩] (some [3, 4, 5]))
    (.seq
      (.seq
        (.region false (gops [⟨some 10, (.load 28 (.t 3)), 28, none, 0⟩, ⟨some 11, (.call (.f 72) [(.t 10)]), 4, none, 3⟩, ⟨some 12, (.un .not (.t 11)), 4, none, 0⟩, ⟨some 13, (.mv (.t 12)), 4, none, 0⟩, ⟨some 14, (.load 22 (.t 4)), 22, some (13, false), 0⟩, ⟨some 15, (.call (.f 67) [(.t 14)]), 4, some (13, false), 3⟩, ⟨some 16, (.un .not (.t 15)), 4, some (13, false), 0⟩, ⟨some 17, (.pick (.t 13) (.c (.bool true)) (.t 16)), 4, none, 0⟩, ⟨some 18, (.mv (.t 17)), 4, none, 0⟩, ⟨some 19, (.load 22 (.t 5)), 22, some (18, false), 0⟩, ⟨some 20, (.call (.f 67) [(.t 19)]), 4, some (18, false), 3⟩, ⟨some 21, (.un .not (.t 20)), 4, some (18, false), 0⟩, ⟨some 22, (.pick (.t 18) (.c (.bool true)) (.t 21)), 4, none, 0⟩]) (some [3, 4, 5, 22]))
        (.cond (.t 22)
          (.seq
            (.region false [⟨some 6, (.mv (.c (.int .i64 0))), 3, none, 0⟩, ⟨some 7, (.mv (.c (.bool false))), 4, none, 0⟩] (some [6, 7]))
            .ret)
          .skip))
      (.seq
        (.seq
          (.region false [⟨some 8, (.alloc 3), 0, none, 0⟩, ⟨none, (.store 3 (.t 8) (.c (.int .i64 0))), 0, none, 0⟩] (some [3, 4, 5, 8]))
          (.block 0
            (.loop [3, 4, 5, 8] [64] lb_53_4)))
        (.seq
          (.region false [⟨some 6, (.mv (.c (.int .i64 0))), 3, none, 0⟩, ⟨some 7, (.mv (.c (.bool false))), 4, none, 0⟩] (some [6, 7]))
          .ret))))⟩
theorem fok_53 : FnOk Try.prog 53 fa_53 an_53 := ⟨Try.f53, _, Try.func53, rfl, by kernel_rfl, rfl, rfl, by decide, by kernel_rfl⟩
/-- laws.FnExactLeastPower -/
def an_13 : Ann := ⟨[(6, 2, 3), (9, 1, 3), (9, 3, 3), (9, 5, 3), (9, 6, 3), (10, 1, 3), (11, 1, 3), (12, 1, 3), (13, 3, 3), (16, 2, 3), (16, 3, 3), (18, 2, 3), (18, 3, 3), (20, 2, 3), (20, 3, 3)], [(0, [1, 2, 3]), (1, [1, 2, 3, 17]), (2, [6]), (3, [1, 2, 3, 20]), (4, [6]), (5, [1, 2, 3, 7]), (6, [1, 2, 3, 7]), (7, [1, 2, 3, 25]), (8, [6]), (9, [1, 2, 3, 8, 9]), (10, [1, 2, 3, 8, 9, 10]), (11, [1, 2, 3, 8, 9, 10, 11]), (12, [1, 2, 3, 8, 9, 10, 11, 12]), (13, [1, 2, 3, 8, 9, 10, 11, 12, 13, 14]), (14, [1, 2, 3, 10, 11, 12, 56]), (15, [6]), (16, [1, 2, 11, 12, 61]), (17, [6]), (18, [2, 12, 66]), (19, [6]), (20, [71]), (21, [6]), (22, [6])], []⟩
def fa_13 : FnA := ⟨72, [.t 6],
  (.seq
    (.region false [⟨some 3, (.box 25 (.t 0)), 0, none, 0⟩, ⟨some 6, (.mv (.c (.bool false))), 4, none, 0⟩] (some [1, 2, 3]))
    (.seq
      (.seq
        (.region false [⟨some 15, (.mv (.t 1)), 22, none, 0⟩, ⟨some 16, (.len 22 (.t 15)), 3, none, 0⟩, ⟨some 17, (.bin .gtr 3 (.t 16) (.c (.int .i64 1048576))), 4, none, 0⟩] (some [1, 2, 3, 17]))
        (.cond (.t 17)
          (.seq
            (.region false [⟨some 6, (.mv (.c (.bool true))), 4, none, 0⟩] (some [6]))
            .ret)
          .skip))
      (.seq
        (.seq
          (.region false [⟨some 18, (.mv (.t 2)), 22, none, 0⟩, ⟨some 19, (.len 22 (.t 18)), 3, none, 0⟩, ⟨some 20, (.bin .gtr 3 (.t 19) (.c (.int .i64 1048576))), 4, none, 0⟩] (some [1, 2, 3, 20]))
          (.cond (.t 20)
            (.seq
              (.region false [⟨some 6, (.mv (.c (.bool true))), 4, none, 0⟩] (some [6]))
              .ret)
            .skip))
        (.seq
          (.region false [⟨some 7, (.mv (.c (.int .i64 1048576))), 3, none, 0⟩] (some [1, 2, 3, 7]))
          (.seq
            (.region false [⟨some 21, (.load 25 (.t 3)), 25, none, 0⟩, ⟨some 22, (.mv (.t 7)), 3, none, 0⟩, ⟨some 23, (.call (.f 17) [(.t 21), (.t 22)]), 3, none, 3⟩, ⟨some 7, (.mv (.t 23)), 3, none, 0⟩] (some [1, 2, 3, 7]))
            (.seq
              (.seq
                (.region false [⟨some 24, (.mv (.t 7)), 3, none, 0⟩, ⟨some 25, (.bin .lss 3 (.t 24) (.c (.int .i64 0))), 4, none, 0⟩] (some [1, 2, 3, 25]))
                (.cond (.t 25)
                  (.seq
                    (.region false [⟨some 6, (.mv (.c (.bool true))), 4, none, 0⟩] (some [6]))
                    .ret)
                  .skip))
              (.seq
                (.region false [⟨some 27, (.load 25 (.t 3)), 25, none, 0⟩, ⟨some 28, (.call (.f 19) [(.t 27)]), 28, none, 3⟩, ⟨some 29, (.mv (.t 1)), 22, none, 0⟩, ⟨some 30, (.call (.f 20) [(.t 29)]), 22, none, 3⟩, ⟨some 31, (.mv (.t 2)), 22, none, 0⟩, ⟨some 32, (.call (.f 20) [(.t 31)]), 22, none, 3⟩, ⟨some 33, (.call (.f 52) [(.t 28), (.t 30), (.t 32)]), 59, none, 3⟩, ⟨some 26, (.mv (.t 33)), 59, none, 0⟩, ⟨some 34, (.ext (.t 26) 0), 3, none, 0⟩, ⟨some 35, (.ext (.t 26) 1), 4, none, 0⟩, ⟨some 8, (.mv (.t 34)), 3, none, 0⟩, ⟨some 9, (.mv (.t 35)), 4, none, 0⟩] (some [1, 2, 3, 8, 9]))
                (.seq
                  (.region false [⟨some 36, (.load 25 (.t 3)), 25, none, 0⟩, ⟨some 37, (.call (.f 19) [(.t 36)]), 28, none, 3⟩, ⟨some 10, (.alloc 28), 0, none, 0⟩, ⟨none, (.store 28 (.t 10) (.t 37)), 0, none, 0⟩] (some [1, 2, 3, 8, 9, 10]))
                  (.seq
                    (.region false [⟨some 38, (.mv (.t 1)), 22, none, 0⟩, ⟨some 39, (.call (.f 20) [(.t 38)]), 22, none, 3⟩, ⟨some 11, (.mv (.t 39)), 22, none, 0⟩] (some [1, 2, 3, 8, 9, 10, 11]))
                    (.seq
                      (.region false [⟨some 40, (.mv (.t 2)), 22, none, 0⟩, ⟨some 41, (.call (.f 20) [(.t 40)]), 22, none, 3⟩, ⟨some 12, (.mv (.t 41)), 22, none, 0⟩] (some [1, 2, 3, 8, 9, 10, 11, 12]))
                      (.seq
                        (.region false [⟨some 43, (.load 28 (.t 10)), 28, none, 0⟩, ⟨some 44, (.mv (.t 11)), 22, none, 0⟩, ⟨some 45, (.mv (.t 12)), 22, none, 0⟩, ⟨some 46, (.call (.f 53) [(.t 43), (.t 44), (.t 45)]), 59, none, 3⟩, ⟨some 42, (.mv (.t 46)), 59, none, 0⟩, ⟨some 47, (.ext (.t 42) 0), 3, none, 0⟩, ⟨some 48, (.ext (.t 42) 1), 4, none, 0⟩, ⟨some 13, (.mv (.t 47)), 3, none, 0⟩, ⟨some 14, (.mv (.t 48)), 4, none, 0⟩] (some [1, 2, 3, 8, 9, 10, 11, 12, 13, 14]))
                        (.seq
                          (.seq
                            (.region false (gops [⟨some 49, (.mv (.t 13)), 3, none, 0⟩, ⟨some 50, (.mv (.t 8)), 3, none, 0⟩, ⟨some 51, (.bin .neq 3 (.t 49) (.t 50)), 4, none, 0⟩, ⟨some 52, (.mv (.t 51)), 4, none, 0⟩, ⟨some 53, (.mv (.t 14)), 4, some (52, false), 0⟩, ⟨some 54, (.mv (.t 9)), 4, some (52, false), 0⟩, ⟨some 55, (.bin .neq 4 (.t 53) (.t 54)), 4, some (52, false), 0⟩, ⟨some 56, (.pick (.t 52) (.c (.bool true)) (.t 55)), 4, none, 0⟩]) (some [1, 2, 3, 10, 11, 12, 56]))
                            (.cond (.t 56)
                              (.seq
                                (.region false [⟨some 6, (.mv (.c (.bool false))), 4, none, 0⟩] (some [6]))
                                .ret)
                              .skip))
                          (.seq
                            (.seq
                              (.region true [⟨some 57, (.load 28 (.t 10)), 28, none, 0⟩, ⟨some 58, (.load 25 (.t 3)), 25, none, 0⟩, ⟨some 59, (.call (.f 19) [(.t 58)]), 28, none, 3⟩, ⟨some 60, (.call (.f 22) [(.t 57), (.t 59)]), 4, none, 3⟩, ⟨some 61, (.un .not (.t 60)), 4, none, 0⟩] (some [1, 2, 11, 12, 61]))
                              (.cond (.t 61)
                                (.seq
                                  (.region false [⟨some 6, (.mv (.c (.bool false))), 4, none, 0⟩] (some [6]))
                                  .ret)
                                .skip))
                            (.seq
                              (.seq
                                (.region false [⟨some 62, (.mv (.t 11)), 22, none, 0⟩, ⟨some 63, (.mv (.t 1)), 22, none, 0⟩, ⟨some 64, (.call (.f 20) [(.t 63)]), 22, none, 3⟩, ⟨some 65, (.call (.f 23) [(.t 62), (.t 64)]), 4, none, 3⟩, ⟨some 66, (.un .not (.t 65)), 4, none, 0⟩] (some [2, 12, 66]))
                                (.cond (.t 66)
                                  (.seq
                                    (.region false [⟨some 6, (.mv (.c (.bool false))), 4, none, 0⟩] (some [6]))
                                    .ret)
                                  .skip))
                              (.seq
                                (.seq
                                  (.region false [⟨some 67, (.mv (.t 12)), 22, none, 0⟩, ⟨some 68, (.mv (.t 2)), 22, none, 0⟩, ⟨some 69, (.call (.f 20) [(.t 68)]), 22, none, 3⟩, ⟨some 70, (.call (.f 23) [(.t 67), (.t 69)]), 4, none, 3⟩, ⟨some 71, (.un .not (.t 70)), 4, none, 0⟩] (some [71]))
                                  (.cond (.t 71)
                                    (.seq
                                      (.region false [⟨some 6, (.mv (.c (.bool false))), 4, none, 0⟩] (some [6]))
                                      .ret)
                                    .skip))
                                (.seq
                                  (.region false [⟨some 6, (.mv (.c (.bool true))), 4, none, 0⟩] (some [6]))
                                  .ret))))))))))))))))⟩
theorem fok_13 : FnOk Try.prog 13 fa_13 an_13 := ⟨Try.f13, _, Try.func13, rfl, by kernel_rfl, rfl, rfl, by decide, by kernel_rfl⟩
theorem tt_4 : tyOf Try.prog 4 = ⟨.bool, 1, 1, (some (.bool false))⟩ := by kernel_rfl
attribute [simp] tt_4 
end Go.PS
