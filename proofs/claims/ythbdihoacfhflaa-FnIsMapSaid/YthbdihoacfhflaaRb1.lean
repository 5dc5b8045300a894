/- Part 1 of what the last text proves: Maps keep opposites: the law holds at every input. -/
import Derived.Test.YthbdihoacfhflaaQo3
import Derived.Test.YthbdihoacfhflaaChecked
section
-- PRINTED by gen.py: clean texts of functions, and their tie to the program.
set_option maxRecDepth 100000
namespace Go.PS
open Go.Proofs
/-- spec.inRange -/
def an_128 : Ann := ⟨[], [(0, [0, 1, 2]), (1, [6])], [], []⟩
def fa_128 : FnA := ⟨15, [.t 6],
  (.seq
    (.region false [⟨some 6, (.mv (.c (.bool false))), 4, none, 0⟩] (some [0, 1, 2]))
    (.seq
      (.region false (gops [⟨some 7, (.mv (.t 1)), 3, none, 0⟩, ⟨some 8, (.mv (.t 0)), 3, none, 0⟩, ⟨some 9, (.bin .leq 3 (.t 7) (.t 8)), 4, none, 0⟩, ⟨some 10, (.mv (.t 9)), 4, none, 0⟩, ⟨some 11, (.mv (.t 0)), 3, some (10, true), 0⟩, ⟨some 12, (.mv (.t 2)), 3, some (10, true), 0⟩, ⟨some 13, (.bin .leq 3 (.t 11) (.t 12)), 4, some (10, true), 0⟩, ⟨some 14, (.pick (.t 10) (.t 13) (.c (.bool false))), 4, none, 0⟩, ⟨some 6, (.mv (.t 14)), 4, none, 0⟩]) (some [6]))
      .ret))⟩
theorem fok_128 : FnOk Try.prog 128 fa_128 an_128 := ⟨Try.f128, _, Try.func128, rfl, by kernel_rfl, rfl, rfl, by decide, by kernel_rfl⟩
/-- spec.power -/
def an_121 : Ann := ⟨[], [(0, [0]), (1, [0, 3]), (2, [0, 3, 5]), (4, [0, 3]), (3, [0, 3]), (5, [2])], [(2, [0, 3], [])], []⟩
def lb_121_2 : AC :=
  (.seq
    (.seq
      (.region false [⟨some 4, (.mv (.t 0)), 3, none, 0⟩, ⟨some 5, (.bin .gtr 3 (.t 4) (.c (.int .i64 0))), 4, none, 0⟩] (some [0, 3, 5]))
      (.cond (.t 5)
        .skip
        (.exit 0)))
    (.seq
      (.block 1
        (.region false [⟨some 8, (.mv (.t 3)), 3, none, 0⟩, ⟨some 9, (.bin .mul 3 (.c (.int .i64 2)) (.t 8)), 3, none, 0⟩, ⟨some 3, (.mv (.t 9)), 3, none, 0⟩] (some [0, 3])))
      (.region false [⟨some 6, (.mv (.t 0)), 3, none, 0⟩, ⟨some 7, (.bin .sub 3 (.t 6) (.c (.int .i64 1))), 3, none, 0⟩, ⟨some 0, (.mv (.t 7)), 3, none, 0⟩] (some [0, 3]))))
def fa_121 : FnA := ⟨11, [.t 2],
  (.seq
    (.region false [⟨some 2, (.mv (.c (.int .i64 0))), 3, none, 0⟩] (some [0]))
    (.seq
      (.region false [⟨some 3, (.mv (.c (.int .i64 1))), 3, none, 0⟩] (some [0, 3]))
      (.seq
        (.block 0
          (.loop [0, 3] [] lb_121_2))
        (.seq
          (.region false [⟨some 10, (.mv (.t 3)), 3, none, 0⟩, ⟨some 2, (.mv (.t 10)), 3, none, 0⟩] (some [2]))
          .ret))))⟩
theorem fok_121 : FnOk Try.prog 121 fa_121 an_121 := ⟨Try.f121, _, Try.func121, rfl, by kernel_rfl, rfl, rfl, by decide, by kernel_rfl⟩
/-- spec.bit -/
def an_171 : Ann := ⟨[(1, 2, 3)], [(0, [0, 1]), (1, [4])], [], []⟩
def fa_171 : FnA := ⟨10, [.t 4],
  (.seq
    (.region false [⟨some 4, (.mv (.c (.int .i64 0))), 3, none, 0⟩] (some [0, 1]))
    (.seq
      (.region false [⟨some 5, (.mv (.t 0)), 3, none, 0⟩, ⟨some 6, (.mv (.t 1)), 3, none, 0⟩, ⟨some 7, (.call (.f 121) [(.t 6)]), 3, none, 3⟩, ⟨some 8, (.bin .quo 3 (.t 5) (.t 7)), 3, none, 0⟩, ⟨some 9, (.bin .rem 3 (.t 8) (.c (.int .i64 2))), 3, none, 0⟩, ⟨some 4, (.mv (.t 9)), 3, none, 0⟩] (some [4]))
      .ret))⟩
theorem fok_171 : FnOk Try.prog 171 fa_171 an_171 := ⟨Try.f171, _, Try.func171, rfl, by kernel_rfl, rfl, rfl, by decide, by kernel_rfl⟩
/-- spec.below -/
def an_156 : Ann := ⟨[(1, 5, 3)], [(0, [0, 1, 2]), (1, [6])], [], []⟩
def fa_156 : FnA := ⟨14, [.t 6],
  (.seq
    (.region false [⟨some 6, (.mv (.c (.bool false))), 4, none, 0⟩] (some [0, 1, 2]))
    (.seq
      (.region false [⟨some 7, (.mv (.t 0)), 23, none, 0⟩, ⟨some 8, (.mv (.t 1)), 3, none, 0⟩, ⟨some 9, (.iaddr 23 (.t 7) (.t 8)), 0, none, 0⟩, ⟨some 10, (.load 3 (.t 9)), 3, none, 0⟩, ⟨some 11, (.mv (.t 2)), 3, none, 0⟩, ⟨some 12, (.call (.f 171) [(.t 10), (.t 11)]), 3, none, 3⟩, ⟨some 13, (.bin .eql 3 (.t 12) (.c (.int .i64 1))), 4, none, 0⟩, ⟨some 6, (.mv (.t 13)), 4, none, 0⟩] (some [6]))
      .ret))⟩
theorem fok_156 : FnOk Try.prog 156 fa_156 an_156 := ⟨Try.f156, _, Try.func156, rfl, by kernel_rfl, rfl, rfl, by decide, by kernel_rfl⟩
/-- spec.validOrder -/
def an_164 : Ann := ⟨[(2, 1, 3), (7, 5, 3), (7, 7, 3), (12, 3, 3), (12, 8, 3), (12, 16, 3), (17, 7, 3), (17, 13, 3), (22, 3, 3), (22, 8, 3), (22, 14, 3)], [(0, [0]), (1, [0, 3]), (2, [0, 3, 12]), (3, [2]), (4, [0, 3, 4]), (5, [0, 3, 4, 15]), (7, [0, 3, 4, 26]), (8, [2]), (6, [0, 3, 4]), (9, [0, 3, 5]), (10, [0, 3, 5, 29]), (12, [0, 3, 5, 50]), (13, [2]), (14, [0, 3, 5, 6]), (15, [0, 3, 5, 6, 53]), (17, [0, 3, 5, 6, 70]), (18, [2]), (19, [0, 3, 5, 6, 7]), (20, [0, 3, 5, 6, 7, 73]), (22, [0, 3, 5, 6, 7, 92]), (23, [2]), (21, [0, 3, 5, 6, 7]), (16, [0, 3, 5, 6]), (11, [0, 3, 5]), (24, [2])], [(5, [0, 3, 4], []), (10, [0, 3, 5], []), (15, [0, 3, 5, 6], []), (20, [0, 3, 5, 6, 7], [])], []⟩
def lb_164_5 : AC :=
  (.seq
    (.seq
      (.region false [⟨some 13, (.mv (.t 4)), 3, none, 0⟩, ⟨some 14, (.mv (.t 3)), 3, none, 0⟩, ⟨some 15, (.bin .lss 3 (.t 13) (.t 14)), 4, none, 0⟩] (some [0, 3, 4, 15]))
      (.cond (.t 15)
        .skip
        (.exit 0)))
    (.seq
      (.block 1
        (.seq
          (.region true [⟨some 18, (.mv (.t 0)), 23, none, 0⟩, ⟨some 19, (.mv (.t 4)), 3, none, 0⟩, ⟨some 20, (.iaddr 23 (.t 18) (.t 19)), 0, none, 0⟩, ⟨some 21, (.load 3 (.t 20)), 3, none, 0⟩, ⟨some 22, (.mv (.t 3)), 3, none, 0⟩, ⟨some 23, (.call (.f 121) [(.t 22)]), 3, none, 3⟩, ⟨some 24, (.bin .sub 3 (.t 23) (.c (.int .i64 1))), 3, none, 0⟩, ⟨some 25, (.call (.f 128) [(.t 21), (.c (.int .i64 0)), (.t 24)]), 4, none, 3⟩, ⟨some 26, (.un .not (.t 25)), 4, none, 0⟩] (some [0, 3, 4, 26]))
          (.cond (.t 26)
            (.seq
              (.region false [⟨some 2, (.mv (.c (.bool false))), 4, none, 0⟩] (some [2]))
              .ret)
            .skip)))
      (.region false [⟨some 16, (.mv (.t 4)), 3, none, 0⟩, ⟨some 17, (.bin .add 3 (.t 16) (.c (.int .i64 1))), 3, none, 0⟩, ⟨some 4, (.mv (.t 17)), 3, none, 0⟩] (some [0, 3, 4]))))
def lb_164_20 : AC :=
  (.seq
    (.seq
      (.region false [⟨some 71, (.mv (.t 7)), 3, none, 0⟩, ⟨some 72, (.mv (.t 3)), 3, none, 0⟩, ⟨some 73, (.bin .lss 3 (.t 71) (.t 72)), 4, none, 0⟩] (some [0, 3, 5, 6, 7, 73]))
      (.cond (.t 73)
        .skip
        (.exit 6)))
    (.seq
      (.block 7
        (.seq
          (.region false (gops [⟨some 76, (.mv (.t 0)), 23, none, 0⟩, ⟨some 77, (.mv (.t 5)), 3, none, 0⟩, ⟨some 78, (.mv (.t 6)), 3, none, 0⟩, ⟨some 79, (.call (.f 156) [(.t 76), (.t 77), (.t 78)]), 4, none, 3⟩, ⟨some 80, (.mv (.t 79)), 4, none, 0⟩, ⟨some 81, (.mv (.t 0)), 23, some (80, true), 0⟩, ⟨some 82, (.mv (.t 6)), 3, some (80, true), 0⟩, ⟨some 83, (.mv (.t 7)), 3, some (80, true), 0⟩, ⟨some 84, (.call (.f 156) [(.t 81), (.t 82), (.t 83)]), 4, some (80, true), 3⟩, ⟨some 85, (.pick (.t 80) (.t 84) (.c (.bool false))), 4, none, 0⟩, ⟨some 86, (.mv (.t 85)), 4, none, 0⟩, ⟨some 87, (.mv (.t 0)), 23, some (86, true), 0⟩, ⟨some 88, (.mv (.t 5)), 3, some (86, true), 0⟩, ⟨some 89, (.mv (.t 7)), 3, some (86, true), 0⟩, ⟨some 90, (.call (.f 156) [(.t 87), (.t 88), (.t 89)]), 4, some (86, true), 3⟩, ⟨some 91, (.un .not (.t 90)), 4, some (86, true), 0⟩, ⟨some 92, (.pick (.t 86) (.t 91) (.c (.bool false))), 4, none, 0⟩]) (some [0, 3, 5, 6, 7, 92]))
          (.cond (.t 92)
            (.seq
              (.region false [⟨some 2, (.mv (.c (.bool false))), 4, none, 0⟩] (some [2]))
              .ret)
            .skip)))
      (.region false [⟨some 74, (.mv (.t 7)), 3, none, 0⟩, ⟨some 75, (.bin .add 3 (.t 74) (.c (.int .i64 1))), 3, none, 0⟩, ⟨some 7, (.mv (.t 75)), 3, none, 0⟩] (some [0, 3, 5, 6, 7]))))
def lb_164_15 : AC :=
  (.seq
    (.seq
      (.region false [⟨some 51, (.mv (.t 6)), 3, none, 0⟩, ⟨some 52, (.mv (.t 3)), 3, none, 0⟩, ⟨some 53, (.bin .lss 3 (.t 51) (.t 52)), 4, none, 0⟩] (some [0, 3, 5, 6, 53]))
      (.cond (.t 53)
        .skip
        (.exit 4)))
    (.seq
      (.block 5
        (.seq
          (.seq
            (.region false (gops [⟨some 56, (.mv (.t 5)), 3, none, 0⟩, ⟨some 57, (.mv (.t 6)), 3, none, 0⟩, ⟨some 58, (.bin .neq 3 (.t 56) (.t 57)), 4, none, 0⟩, ⟨some 59, (.mv (.t 58)), 4, none, 0⟩, ⟨some 60, (.mv (.t 0)), 23, some (59, true), 0⟩, ⟨some 61, (.mv (.t 5)), 3, some (59, true), 0⟩, ⟨some 62, (.mv (.t 6)), 3, some (59, true), 0⟩, ⟨some 63, (.call (.f 156) [(.t 60), (.t 61), (.t 62)]), 4, some (59, true), 3⟩, ⟨some 64, (.pick (.t 59) (.t 63) (.c (.bool false))), 4, none, 0⟩, ⟨some 65, (.mv (.t 64)), 4, none, 0⟩, ⟨some 66, (.mv (.t 0)), 23, some (65, true), 0⟩, ⟨some 67, (.mv (.t 6)), 3, some (65, true), 0⟩, ⟨some 68, (.mv (.t 5)), 3, some (65, true), 0⟩, ⟨some 69, (.call (.f 156) [(.t 66), (.t 67), (.t 68)]), 4, some (65, true), 3⟩, ⟨some 70, (.pick (.t 65) (.t 69) (.c (.bool false))), 4, none, 0⟩]) (some [0, 3, 5, 6, 70]))
            (.cond (.t 70)
              (.seq
                (.region false [⟨some 2, (.mv (.c (.bool false))), 4, none, 0⟩] (some [2]))
                .ret)
              .skip))
          (.seq
            (.region false [⟨some 7, (.mv (.c (.int .i64 0))), 3, none, 0⟩] (some [0, 3, 5, 6, 7]))
            (.block 6
              (.loop [0, 3, 5, 6, 7] [] lb_164_20)))))
      (.region false [⟨some 54, (.mv (.t 6)), 3, none, 0⟩, ⟨some 55, (.bin .add 3 (.t 54) (.c (.int .i64 1))), 3, none, 0⟩, ⟨some 6, (.mv (.t 55)), 3, none, 0⟩] (some [0, 3, 5, 6]))))
def lb_164_10 : AC :=
  (.seq
    (.seq
      (.region false [⟨some 27, (.mv (.t 5)), 3, none, 0⟩, ⟨some 28, (.mv (.t 3)), 3, none, 0⟩, ⟨some 29, (.bin .lss 3 (.t 27) (.t 28)), 4, none, 0⟩] (some [0, 3, 5, 29]))
      (.cond (.t 29)
        .skip
        (.exit 2)))
    (.seq
      (.block 3
        (.seq
          (.seq
            (.region false (gops (seg [0, 3, 5, 37, 41] [⟨some 32, (.mv (.t 0)), 23, none, 0⟩, ⟨some 33, (.mv (.t 5)), 3, none, 0⟩, ⟨some 34, (.mv (.t 5)), 3, none, 0⟩, ⟨some 35, (.call (.f 156) [(.t 32), (.t 33), (.t 34)]), 4, none, 3⟩, ⟨some 36, (.un .not (.t 35)), 4, none, 0⟩, ⟨some 37, (.mv (.t 36)), 4, none, 0⟩, ⟨some 38, (.mv (.t 0)), 23, some (37, false), 0⟩, ⟨some 39, (.mv (.t 5)), 3, some (37, false), 0⟩, ⟨some 40, (.call (.f 156) [(.t 38), (.c (.int .i64 0)), (.t 39)]), 4, some (37, false), 3⟩, ⟨some 41, (.un .not (.t 40)), 4, some (37, false), 0⟩]
            [⟨some 42, (.pick (.t 37) (.c (.bool true)) (.t 41)), 4, none, 0⟩, ⟨some 43, (.mv (.t 42)), 4, none, 0⟩, ⟨some 44, (.mv (.t 0)), 23, some (43, false), 0⟩, ⟨some 45, (.mv (.t 5)), 3, some (43, false), 0⟩, ⟨some 46, (.mv (.t 3)), 3, some (43, false), 0⟩, ⟨some 47, (.bin .sub 3 (.t 46) (.c (.int .i64 1))), 3, some (43, false), 0⟩, ⟨some 48, (.call (.f 156) [(.t 44), (.t 45), (.t 47)]), 4, some (43, false), 3⟩, ⟨some 49, (.un .not (.t 48)), 4, some (43, false), 0⟩, ⟨some 50, (.pick (.t 43) (.c (.bool true)) (.t 49)), 4, none, 0⟩] [0, 3, 5, 50] (by decide))) (some [0, 3, 5, 50]))
            (.cond (.t 50)
              (.seq
                (.region false [⟨some 2, (.mv (.c (.bool false))), 4, none, 0⟩] (some [2]))
                .ret)
              .skip))
          (.seq
            (.region false [⟨some 6, (.mv (.c (.int .i64 0))), 3, none, 0⟩] (some [0, 3, 5, 6]))
            (.block 4
              (.loop [0, 3, 5, 6] [] lb_164_15)))))
      (.region false [⟨some 30, (.mv (.t 5)), 3, none, 0⟩, ⟨some 31, (.bin .add 3 (.t 30) (.c (.int .i64 1))), 3, none, 0⟩, ⟨some 5, (.mv (.t 31)), 3, none, 0⟩] (some [0, 3, 5]))))
def fa_164 : FnA := ⟨93, [.t 2],
  (.seq
    (.region false [⟨some 2, (.mv (.c (.bool false))), 4, none, 0⟩] (some [0]))
    (.seq
      (.region false [⟨some 8, (.mv (.t 0)), 23, none, 0⟩, ⟨some 9, (.len 23 (.t 8)), 3, none, 0⟩, ⟨some 3, (.mv (.t 9)), 3, none, 0⟩] (some [0, 3]))
      (.seq
        (.seq
          (.region false [⟨some 10, (.mv (.t 3)), 3, none, 0⟩, ⟨some 11, (.call (.f 128) [(.t 10), (.c (.int .i64 1)), (.c (.int .i64 6))]), 4, none, 3⟩, ⟨some 12, (.un .not (.t 11)), 4, none, 0⟩] (some [0, 3, 12]))
          (.cond (.t 12)
            (.seq
              (.region false [⟨some 2, (.mv (.c (.bool false))), 4, none, 0⟩] (some [2]))
              .ret)
            .skip))
        (.seq
          (.seq
            (.region false [⟨some 4, (.mv (.c (.int .i64 0))), 3, none, 0⟩] (some [0, 3, 4]))
            (.block 0
              (.loop [0, 3, 4] [] lb_164_5)))
          (.seq
            (.seq
              (.region false [⟨some 5, (.mv (.c (.int .i64 0))), 3, none, 0⟩] (some [0, 3, 5]))
              (.block 2
                (.loop [0, 3, 5] [] lb_164_10)))
            (.seq
              (.region false [⟨some 2, (.mv (.c (.bool true))), 4, none, 0⟩] (some [2]))
              .ret))))))⟩
theorem fok_164 : FnOk Try.prog 164 fa_164 an_164 := ⟨Try.f164, _, Try.func164, rfl, by kernel_rfl, rfl, rfl, by decide, by kernel_rfl⟩
/-- spec.meet -/
def an_165 : Ann := ⟨[(4, 3, 3), (4, 8, 3), (8, 3, 3), (8, 9, 3), (8, 16, 3)], [(0, [0, 1, 2]), (1, [0, 1, 2, 7]), (2, [0, 1, 2, 7, 13]), (4, [0, 1, 2, 7, 8]), (5, [0, 1, 2, 7, 8, 9]), (6, [0, 1, 2, 7, 8, 9, 32]), (8, [0, 1, 2, 7, 8, 9]), (7, [0, 1, 2, 7, 8, 9]), (9, [0, 1, 2, 7, 53]), (10, [6]), (3, [0, 1, 2, 7]), (11, [6])], [(2, [0, 1, 2, 7], []), (6, [0, 1, 2, 7, 8, 9], [])], []⟩
def lb_165_6 : AC :=
  (.seq
    (.seq
      (.region false (gops [⟨some 26, (.mv (.t 9)), 3, none, 0⟩, ⟨some 27, (.mv (.t 0)), 23, none, 0⟩, ⟨some 28, (.len 23 (.t 27)), 3, none, 0⟩, ⟨some 29, (.bin .lss 3 (.t 26) (.t 28)), 4, none, 0⟩, ⟨some 30, (.mv (.t 29)), 4, none, 0⟩, ⟨some 31, (.mv (.t 8)), 4, some (30, true), 0⟩, ⟨some 32, (.pick (.t 30) (.t 31) (.c (.bool false))), 4, none, 0⟩]) (some [0, 1, 2, 7, 8, 9, 32]))
      (.cond (.t 32)
        .skip
        (.exit 2)))
    (.seq
      (.block 3
        (.region false (gops (seg [0, 1, 2, 7, 9, 40, 44] [⟨some 35, (.mv (.t 0)), 23, none, 0⟩, ⟨some 36, (.mv (.t 9)), 3, none, 0⟩, ⟨some 37, (.mv (.t 1)), 3, none, 0⟩, ⟨some 38, (.call (.f 156) [(.t 35), (.t 36), (.t 37)]), 4, none, 3⟩, ⟨some 39, (.un .not (.t 38)), 4, none, 0⟩, ⟨some 40, (.mv (.t 39)), 4, none, 0⟩, ⟨some 41, (.mv (.t 0)), 23, some (40, false), 0⟩, ⟨some 42, (.mv (.t 9)), 3, some (40, false), 0⟩, ⟨some 43, (.mv (.t 2)), 3, some (40, false), 0⟩, ⟨some 44, (.call (.f 156) [(.t 41), (.t 42), (.t 43)]), 4, some (40, false), 3⟩]
        [⟨some 45, (.un .not (.t 44)), 4, some (40, false), 0⟩, ⟨some 46, (.pick (.t 40) (.c (.bool true)) (.t 45)), 4, none, 0⟩, ⟨some 47, (.mv (.t 46)), 4, none, 0⟩, ⟨some 48, (.mv (.t 0)), 23, some (47, false), 0⟩, ⟨some 49, (.mv (.t 9)), 3, some (47, false), 0⟩, ⟨some 50, (.mv (.t 7)), 3, some (47, false), 0⟩, ⟨some 51, (.call (.f 156) [(.t 48), (.t 49), (.t 50)]), 4, some (47, false), 3⟩, ⟨some 52, (.pick (.t 47) (.c (.bool true)) (.t 51)), 4, none, 0⟩, ⟨some 8, (.mv (.t 52)), 4, none, 0⟩] [0, 1, 2, 7, 8, 9] (by decide))) (some [0, 1, 2, 7, 8, 9])))
      (.region false [⟨some 33, (.mv (.t 9)), 3, none, 0⟩, ⟨some 34, (.bin .add 3 (.t 33) (.c (.int .i64 1))), 3, none, 0⟩, ⟨some 9, (.mv (.t 34)), 3, none, 0⟩] (some [0, 1, 2, 7, 8, 9]))))
def lb_165_2 : AC :=
  (.seq
    (.seq
      (.region false [⟨some 10, (.mv (.t 7)), 3, none, 0⟩, ⟨some 11, (.mv (.t 0)), 23, none, 0⟩, ⟨some 12, (.len 23 (.t 11)), 3, none, 0⟩, ⟨some 13, (.bin .lss 3 (.t 10) (.t 12)), 4, none, 0⟩] (some [0, 1, 2, 7, 13]))
      (.cond (.t 13)
        .skip
        (.exit 0)))
    (.seq
      (.block 1
        (.seq
          (.region false (gops [⟨some 16, (.mv (.t 0)), 23, none, 0⟩, ⟨some 17, (.mv (.t 7)), 3, none, 0⟩, ⟨some 18, (.mv (.t 1)), 3, none, 0⟩, ⟨some 19, (.call (.f 156) [(.t 16), (.t 17), (.t 18)]), 4, none, 3⟩, ⟨some 20, (.mv (.t 19)), 4, none, 0⟩, ⟨some 21, (.mv (.t 0)), 23, some (20, true), 0⟩, ⟨some 22, (.mv (.t 7)), 3, some (20, true), 0⟩, ⟨some 23, (.mv (.t 2)), 3, some (20, true), 0⟩, ⟨some 24, (.call (.f 156) [(.t 21), (.t 22), (.t 23)]), 4, some (20, true), 3⟩, ⟨some 25, (.pick (.t 20) (.t 24) (.c (.bool false))), 4, none, 0⟩, ⟨some 8, (.mv (.t 25)), 4, none, 0⟩]) (some [0, 1, 2, 7, 8]))
          (.seq
            (.seq
              (.region false [⟨some 9, (.mv (.c (.int .i64 0))), 3, none, 0⟩] (some [0, 1, 2, 7, 8, 9]))
              (.block 2
                (.loop [0, 1, 2, 7, 8, 9] [] lb_165_6)))
            (.seq
              (.region false [⟨some 53, (.mv (.t 8)), 4, none, 0⟩] (some [0, 1, 2, 7, 53]))
              (.cond (.t 53)
                (.seq
                  (.region false [⟨some 54, (.mv (.t 7)), 3, none, 0⟩, ⟨some 6, (.mv (.t 54)), 3, none, 0⟩] (some [6]))
                  .ret)
                .skip)))))
      (.region false [⟨some 14, (.mv (.t 7)), 3, none, 0⟩, ⟨some 15, (.bin .add 3 (.t 14) (.c (.int .i64 1))), 3, none, 0⟩, ⟨some 7, (.mv (.t 15)), 3, none, 0⟩] (some [0, 1, 2, 7]))))
def fa_165 : FnA := ⟨55, [.t 6],
  (.seq
    (.region false [⟨some 6, (.mv (.c (.int .i64 0))), 3, none, 0⟩] (some [0, 1, 2]))
    (.seq
      (.seq
        (.region false [⟨some 7, (.mv (.c (.int .i64 0))), 3, none, 0⟩] (some [0, 1, 2, 7]))
        (.block 0
          (.loop [0, 1, 2, 7] [] lb_165_2)))
      (.seq
        (.region false [⟨some 6, (.mv (.c (.int .i64 (-1)))), 3, none, 0⟩] (some [6]))
        .ret)))⟩
theorem fok_165 : FnOk Try.prog 165 fa_165 an_165 := ⟨Try.f165, _, Try.func165, rfl, by kernel_rfl, rfl, rfl, by decide, by kernel_rfl⟩
/-- spec.join -/
def an_136 : Ann := ⟨[(4, 3, 3), (4, 8, 3), (8, 3, 3), (8, 9, 3), (8, 16, 3)], [(0, [0, 1, 2]), (1, [0, 1, 2, 7]), (2, [0, 1, 2, 7, 13]), (4, [0, 1, 2, 7, 8]), (5, [0, 1, 2, 7, 8, 9]), (6, [0, 1, 2, 7, 8, 9, 32]), (8, [0, 1, 2, 7, 8, 9]), (7, [0, 1, 2, 7, 8, 9]), (9, [0, 1, 2, 7, 53]), (10, [6]), (3, [0, 1, 2, 7]), (11, [6])], [(2, [0, 1, 2, 7], []), (6, [0, 1, 2, 7, 8, 9], [])], []⟩
def lb_136_6 : AC :=
  (.seq
    (.seq
      (.region false (gops [⟨some 26, (.mv (.t 9)), 3, none, 0⟩, ⟨some 27, (.mv (.t 0)), 23, none, 0⟩, ⟨some 28, (.len 23 (.t 27)), 3, none, 0⟩, ⟨some 29, (.bin .lss 3 (.t 26) (.t 28)), 4, none, 0⟩, ⟨some 30, (.mv (.t 29)), 4, none, 0⟩, ⟨some 31, (.mv (.t 8)), 4, some (30, true), 0⟩, ⟨some 32, (.pick (.t 30) (.t 31) (.c (.bool false))), 4, none, 0⟩]) (some [0, 1, 2, 7, 8, 9, 32]))
      (.cond (.t 32)
        .skip
        (.exit 2)))
    (.seq
      (.block 3
        (.region false (gops (seg [0, 1, 2, 7, 9, 40, 44] [⟨some 35, (.mv (.t 0)), 23, none, 0⟩, ⟨some 36, (.mv (.t 1)), 3, none, 0⟩, ⟨some 37, (.mv (.t 9)), 3, none, 0⟩, ⟨some 38, (.call (.f 156) [(.t 35), (.t 36), (.t 37)]), 4, none, 3⟩, ⟨some 39, (.un .not (.t 38)), 4, none, 0⟩, ⟨some 40, (.mv (.t 39)), 4, none, 0⟩, ⟨some 41, (.mv (.t 0)), 23, some (40, false), 0⟩, ⟨some 42, (.mv (.t 2)), 3, some (40, false), 0⟩, ⟨some 43, (.mv (.t 9)), 3, some (40, false), 0⟩, ⟨some 44, (.call (.f 156) [(.t 41), (.t 42), (.t 43)]), 4, some (40, false), 3⟩]
        [⟨some 45, (.un .not (.t 44)), 4, some (40, false), 0⟩, ⟨some 46, (.pick (.t 40) (.c (.bool true)) (.t 45)), 4, none, 0⟩, ⟨some 47, (.mv (.t 46)), 4, none, 0⟩, ⟨some 48, (.mv (.t 0)), 23, some (47, false), 0⟩, ⟨some 49, (.mv (.t 7)), 3, some (47, false), 0⟩, ⟨some 50, (.mv (.t 9)), 3, some (47, false), 0⟩, ⟨some 51, (.call (.f 156) [(.t 48), (.t 49), (.t 50)]), 4, some (47, false), 3⟩, ⟨some 52, (.pick (.t 47) (.c (.bool true)) (.t 51)), 4, none, 0⟩, ⟨some 8, (.mv (.t 52)), 4, none, 0⟩] [0, 1, 2, 7, 8, 9] (by decide))) (some [0, 1, 2, 7, 8, 9])))
      (.region false [⟨some 33, (.mv (.t 9)), 3, none, 0⟩, ⟨some 34, (.bin .add 3 (.t 33) (.c (.int .i64 1))), 3, none, 0⟩, ⟨some 9, (.mv (.t 34)), 3, none, 0⟩] (some [0, 1, 2, 7, 8, 9]))))
def lb_136_2 : AC :=
  (.seq
    (.seq
      (.region false [⟨some 10, (.mv (.t 7)), 3, none, 0⟩, ⟨some 11, (.mv (.t 0)), 23, none, 0⟩, ⟨some 12, (.len 23 (.t 11)), 3, none, 0⟩, ⟨some 13, (.bin .lss 3 (.t 10) (.t 12)), 4, none, 0⟩] (some [0, 1, 2, 7, 13]))
      (.cond (.t 13)
        .skip
        (.exit 0)))
    (.seq
      (.block 1
        (.seq
          (.region false (gops [⟨some 16, (.mv (.t 0)), 23, none, 0⟩, ⟨some 17, (.mv (.t 1)), 3, none, 0⟩, ⟨some 18, (.mv (.t 7)), 3, none, 0⟩, ⟨some 19, (.call (.f 156) [(.t 16), (.t 17), (.t 18)]), 4, none, 3⟩, ⟨some 20, (.mv (.t 19)), 4, none, 0⟩, ⟨some 21, (.mv (.t 0)), 23, some (20, true), 0⟩, ⟨some 22, (.mv (.t 2)), 3, some (20, true), 0⟩, ⟨some 23, (.mv (.t 7)), 3, some (20, true), 0⟩, ⟨some 24, (.call (.f 156) [(.t 21), (.t 22), (.t 23)]), 4, some (20, true), 3⟩, ⟨some 25, (.pick (.t 20) (.t 24) (.c (.bool false))), 4, none, 0⟩, ⟨some 8, (.mv (.t 25)), 4, none, 0⟩]) (some [0, 1, 2, 7, 8]))
          (.seq
            (.seq
              (.region false [⟨some 9, (.mv (.c (.int .i64 0))), 3, none, 0⟩] (some [0, 1, 2, 7, 8, 9]))
              (.block 2
                (.loop [0, 1, 2, 7, 8, 9] [] lb_136_6)))
            (.seq
              (.region false [⟨some 53, (.mv (.t 8)), 4, none, 0⟩] (some [0, 1, 2, 7, 53]))
              (.cond (.t 53)
                (.seq
                  (.region false [⟨some 54, (.mv (.t 7)), 3, none, 0⟩, ⟨some 6, (.mv (.t 54)), 3, none, 0⟩] (some [6]))
                  .ret)
                .skip)))))
      (.region false [⟨some 14, (.mv (.t 7)), 3, none, 0⟩, ⟨some 15, (.bin .add 3 (.t 14) (.c (.int .i64 1))), 3, none, 0⟩, ⟨some 7, (.mv (.t 15)), 3, none, 0⟩] (some [0, 1, 2, 7]))))
def fa_136 : FnA := ⟨55, [.t 6],
  (.seq
    (.region false [⟨some 6, (.mv (.c (.int .i64 0))), 3, none, 0⟩] (some [0, 1, 2]))
    (.seq
      (.seq
        (.region false [⟨some 7, (.mv (.c (.int .i64 0))), 3, none, 0⟩] (some [0, 1, 2, 7]))
        (.block 0
          (.loop [0, 1, 2, 7] [] lb_136_2)))
      (.seq
        (.region false [⟨some 6, (.mv (.c (.int .i64 (-1)))), 3, none, 0⟩] (some [6]))
        .ret)))⟩
theorem fok_136 : FnOk Try.prog 136 fa_136 an_136 := ⟨Try.f136, _, Try.func136, rfl, by kernel_rfl, rfl, rfl, by decide, by kernel_rfl⟩
/-- spec.validLattice -/
def an_96 : Ann := ⟨[(1, 1, 3), (9, 3, 3), (9, 9, 3)], [(0, [0]), (1, [0, 7]), (2, [2]), (3, [0, 3]), (4, [0, 3, 11]), (6, [0, 3, 4]), (7, [0, 3, 4, 17]), (9, [0, 3, 4, 31]), (10, [2]), (8, [0, 3, 4]), (5, [0, 3]), (11, [2])], [(4, [0, 3], []), (7, [0, 3, 4], [])], []⟩
def lb_96_7 : AC :=
  (.seq
    (.seq
      (.region false [⟨some 14, (.mv (.t 4)), 3, none, 0⟩, ⟨some 15, (.mv (.t 0)), 23, none, 0⟩, ⟨some 16, (.len 23 (.t 15)), 3, none, 0⟩, ⟨some 17, (.bin .lss 3 (.t 14) (.t 16)), 4, none, 0⟩] (some [0, 3, 4, 17]))
      (.cond (.t 17)
        .skip
        (.exit 2)))
    (.seq
      (.block 3
        (.seq
          (.region false (gops [⟨some 20, (.mv (.t 0)), 23, none, 0⟩, ⟨some 21, (.mv (.t 3)), 3, none, 0⟩, ⟨some 22, (.mv (.t 4)), 3, none, 0⟩, ⟨some 23, (.call (.f 165) [(.t 20), (.t 21), (.t 22)]), 3, none, 3⟩, ⟨some 24, (.bin .lss 3 (.t 23) (.c (.int .i64 0))), 4, none, 0⟩, ⟨some 25, (.mv (.t 24)), 4, none, 0⟩, ⟨some 26, (.mv (.t 0)), 23, some (25, false), 0⟩, ⟨some 27, (.mv (.t 3)), 3, some (25, false), 0⟩, ⟨some 28, (.mv (.t 4)), 3, some (25, false), 0⟩, ⟨some 29, (.call (.f 136) [(.t 26), (.t 27), (.t 28)]), 3, some (25, false), 3⟩, ⟨some 30, (.bin .lss 3 (.t 29) (.c (.int .i64 0))), 4, some (25, false), 0⟩, ⟨some 31, (.pick (.t 25) (.c (.bool true)) (.t 30)), 4, none, 0⟩]) (some [0, 3, 4, 31]))
          (.cond (.t 31)
            (.seq
              (.region false [⟨some 2, (.mv (.c (.bool false))), 4, none, 0⟩] (some [2]))
              .ret)
            .skip)))
      (.region false [⟨some 18, (.mv (.t 4)), 3, none, 0⟩, ⟨some 19, (.bin .add 3 (.t 18) (.c (.int .i64 1))), 3, none, 0⟩, ⟨some 4, (.mv (.t 19)), 3, none, 0⟩] (some [0, 3, 4]))))
def lb_96_4 : AC :=
  (.seq
    (.seq
      (.region false [⟨some 8, (.mv (.t 3)), 3, none, 0⟩, ⟨some 9, (.mv (.t 0)), 23, none, 0⟩, ⟨some 10, (.len 23 (.t 9)), 3, none, 0⟩, ⟨some 11, (.bin .lss 3 (.t 8) (.t 10)), 4, none, 0⟩] (some [0, 3, 11]))
      (.cond (.t 11)
        .skip
        (.exit 0)))
    (.seq
      (.block 1
        (.seq
          (.region false [⟨some 4, (.mv (.c (.int .i64 0))), 3, none, 0⟩] (some [0, 3, 4]))
          (.block 2
            (.loop [0, 3, 4] [] lb_96_7))))
      (.region false [⟨some 12, (.mv (.t 3)), 3, none, 0⟩, ⟨some 13, (.bin .add 3 (.t 12) (.c (.int .i64 1))), 3, none, 0⟩, ⟨some 3, (.mv (.t 13)), 3, none, 0⟩] (some [0, 3]))))
def fa_96 : FnA := ⟨32, [.t 2],
  (.seq
    (.region false [⟨some 2, (.mv (.c (.bool false))), 4, none, 0⟩] (some [0]))
    (.seq
      (.seq
        (.region false [⟨some 5, (.mv (.t 0)), 23, none, 0⟩, ⟨some 6, (.call (.f 164) [(.t 5)]), 4, none, 3⟩, ⟨some 7, (.un .not (.t 6)), 4, none, 0⟩] (some [0, 7]))
        (.cond (.t 7)
          (.seq
            (.region false [⟨some 2, (.mv (.c (.bool false))), 4, none, 0⟩] (some [2]))
            .ret)
          .skip))
      (.seq
        (.seq
          (.region false [⟨some 3, (.mv (.c (.int .i64 0))), 3, none, 0⟩] (some [0, 3]))
          (.block 0
            (.loop [0, 3] [] lb_96_4)))
        (.seq
          (.region false [⟨some 2, (.mv (.c (.bool true))), 4, none, 0⟩] (some [2]))
          .ret))))⟩
theorem fok_96 : FnOk Try.prog 96 fa_96 an_96 := ⟨Try.f96, _, Try.func96, rfl, by kernel_rfl, rfl, rfl, by decide, by kernel_rfl⟩
/-- spec.validAlgebra -/
def an_111 : Ann := ⟨[(2, 2, 3), (12, 10, 3), (27, 41, 3), (27, 62, 3)], [(0, [1]), (1, [1, 3]), (2, [1, 3, 22]), (3, [2]), (4, [1, 3, 4]), (5, [1, 3, 4, 25]), (7, [1, 3, 4, 35]), (8, [2]), (9, [1, 3, 4, 5]), (10, [1, 3, 4, 5, 38]), (12, [1, 3, 4, 5, 52]), (13, [2]), (11, [1, 3, 4, 5]), (6, [1, 3, 4]), (14, [1, 3, 6]), (15, [1, 3, 6, 55]), (17, [1, 3, 6, 78]), (18, [2]), (19, [1, 3, 6, 7]), (20, [1, 3, 6, 7, 81]), (22, [1, 3, 6, 7, 100]), (23, [2]), (24, [1, 3, 6, 7, 8]), (25, [1, 3, 6, 7, 8, 103]), (27, [1, 3, 6, 7, 8, 170]), (28, [2]), (26, [1, 3, 6, 7, 8]), (21, [1, 3, 6, 7]), (16, [1, 3, 6]), (29, [2])], [(5, [1, 3, 4], []), (10, [1, 3, 4, 5], []), (15, [1, 3, 6], []), (20, [1, 3, 6, 7], []), (25, [1, 3, 6, 7, 8], [])], []⟩
def lb_111_10 : AC :=
  (.seq
    (.seq
      (.region false [⟨some 36, (.mv (.t 5)), 3, none, 0⟩, ⟨some 37, (.mv (.t 3)), 3, none, 0⟩, ⟨some 38, (.bin .lss 3 (.t 36) (.t 37)), 4, none, 0⟩] (some [1, 3, 4, 5, 38]))
      (.cond (.t 38)
        .skip
        (.exit 2)))
    (.seq
      (.block 3
        (.seq
          (.region false [⟨some 41, (.faddr 27 (.t 1) 1), 0, none, 0⟩, ⟨some 42, (.load 25 (.t 41)), 25, none, 0⟩, ⟨some 43, (.mv (.t 4)), 3, none, 0⟩, ⟨some 44, (.iaddr 25 (.t 42) (.t 43)), 0, none, 0⟩, ⟨some 45, (.load 23 (.t 44)), 23, none, 0⟩, ⟨some 46, (.mv (.t 5)), 3, none, 0⟩, ⟨some 47, (.iaddr 23 (.t 45) (.t 46)), 0, none, 0⟩, ⟨some 48, (.load 3 (.t 47)), 3, none, 0⟩, ⟨some 49, (.mv (.t 3)), 3, none, 0⟩, ⟨some 50, (.bin .sub 3 (.t 49) (.c (.int .i64 1))), 3, none, 0⟩, ⟨some 51, (.call (.f 128) [(.t 48), (.c (.int .i64 0)), (.t 50)]), 4, none, 3⟩, ⟨some 52, (.un .not (.t 51)), 4, none, 0⟩] (some [1, 3, 4, 5, 52]))
          (.cond (.t 52)
            (.seq
              (.region false [⟨some 2, (.mv (.c (.bool false))), 4, none, 0⟩] (some [2]))
              .ret)
            .skip)))
      (.region false [⟨some 39, (.mv (.t 5)), 3, none, 0⟩, ⟨some 40, (.bin .add 3 (.t 39) (.c (.int .i64 1))), 3, none, 0⟩, ⟨some 5, (.mv (.t 40)), 3, none, 0⟩] (some [1, 3, 4, 5]))))
def lb_111_5 : AC :=
  (.seq
    (.seq
      (.region false [⟨some 23, (.mv (.t 4)), 3, none, 0⟩, ⟨some 24, (.mv (.t 3)), 3, none, 0⟩, ⟨some 25, (.bin .lss 3 (.t 23) (.t 24)), 4, none, 0⟩] (some [1, 3, 4, 25]))
      (.cond (.t 25)
        .skip
        (.exit 0)))
    (.seq
      (.block 1
        (.seq
          (.seq
            (.region false [⟨some 28, (.faddr 27 (.t 1) 1), 0, none, 0⟩, ⟨some 29, (.load 25 (.t 28)), 25, none, 0⟩, ⟨some 30, (.mv (.t 4)), 3, none, 0⟩, ⟨some 31, (.iaddr 25 (.t 29) (.t 30)), 0, none, 0⟩, ⟨some 32, (.load 23 (.t 31)), 23, none, 0⟩, ⟨some 33, (.len 23 (.t 32)), 3, none, 0⟩, ⟨some 34, (.mv (.t 3)), 3, none, 0⟩, ⟨some 35, (.bin .neq 3 (.t 33) (.t 34)), 4, none, 0⟩] (some [1, 3, 4, 35]))
            (.cond (.t 35)
              (.seq
                (.region false [⟨some 2, (.mv (.c (.bool false))), 4, none, 0⟩] (some [2]))
                .ret)
              .skip))
          (.seq
            (.region false [⟨some 5, (.mv (.c (.int .i64 0))), 3, none, 0⟩] (some [1, 3, 4, 5]))
            (.block 2
              (.loop [1, 3, 4, 5] [] lb_111_10)))))
      (.region false [⟨some 26, (.mv (.t 4)), 3, none, 0⟩, ⟨some 27, (.bin .add 3 (.t 26) (.c (.int .i64 1))), 3, none, 0⟩, ⟨some 4, (.mv (.t 27)), 3, none, 0⟩] (some [1, 3, 4]))))
def lb_111_25 : AC :=
  (.seq
    (.seq
      (.region false [⟨some 101, (.mv (.t 8)), 3, none, 0⟩, ⟨some 102, (.mv (.t 3)), 3, none, 0⟩, ⟨some 103, (.bin .lss 3 (.t 101) (.t 102)), 4, none, 0⟩] (some [1, 3, 6, 7, 8, 103]))
      (.cond (.t 103)
        .skip
        (.exit 8)))
    (.seq
      (.block 9
        (.seq
          (.region true (gops (seg [1, 3, 6, 7, 8, 107, 115] [⟨some 106, (.faddr 27 (.t 1) 1), 0, none, 0⟩, ⟨some 107, (.load 25 (.t 106)), 25, none, 0⟩, ⟨some 108, (.faddr 27 (.t 1) 1), 0, none, 0⟩, ⟨some 109, (.load 25 (.t 108)), 25, none, 0⟩, ⟨some 110, (.mv (.t 6)), 3, none, 0⟩, ⟨some 111, (.iaddr 25 (.t 109) (.t 110)), 0, none, 0⟩, ⟨some 112, (.load 23 (.t 111)), 23, none, 0⟩, ⟨some 113, (.mv (.t 7)), 3, none, 0⟩, ⟨some 114, (.iaddr 23 (.t 112) (.t 113)), 0, none, 0⟩, ⟨some 115, (.load 3 (.t 114)), 3, none, 0⟩]
          (seg [1, 3, 6, 7, 8, 120, 125] [⟨some 116, (.iaddr 25 (.t 107) (.t 115)), 0, none, 0⟩, ⟨some 117, (.load 23 (.t 116)), 23, none, 0⟩, ⟨some 118, (.mv (.t 8)), 3, none, 0⟩, ⟨some 119, (.iaddr 23 (.t 117) (.t 118)), 0, none, 0⟩, ⟨some 120, (.load 3 (.t 119)), 3, none, 0⟩, ⟨some 121, (.faddr 27 (.t 1) 1), 0, none, 0⟩, ⟨some 122, (.load 25 (.t 121)), 25, none, 0⟩, ⟨some 123, (.mv (.t 6)), 3, none, 0⟩, ⟨some 124, (.iaddr 25 (.t 122) (.t 123)), 0, none, 0⟩, ⟨some 125, (.load 23 (.t 124)), 23, none, 0⟩]
          (seg [1, 3, 6, 7, 8, 120, 135] [⟨some 126, (.faddr 27 (.t 1) 1), 0, none, 0⟩, ⟨some 127, (.load 25 (.t 126)), 25, none, 0⟩, ⟨some 128, (.mv (.t 7)), 3, none, 0⟩, ⟨some 129, (.iaddr 25 (.t 127) (.t 128)), 0, none, 0⟩, ⟨some 130, (.load 23 (.t 129)), 23, none, 0⟩, ⟨some 131, (.mv (.t 8)), 3, none, 0⟩, ⟨some 132, (.iaddr 23 (.t 130) (.t 131)), 0, none, 0⟩, ⟨some 133, (.load 3 (.t 132)), 3, none, 0⟩, ⟨some 134, (.iaddr 23 (.t 125) (.t 133)), 0, none, 0⟩, ⟨some 135, (.load 3 (.t 134)), 3, none, 0⟩]
          (seg [1, 3, 6, 7, 8, 137, 142, 144, 145] [⟨some 136, (.bin .neq 3 (.t 120) (.t 135)), 4, none, 0⟩, ⟨some 137, (.mv (.t 136)), 4, none, 0⟩, ⟨some 138, (.faddr 27 (.t 1) 1), 0, some (137, false), 0⟩, ⟨some 139, (.load 25 (.t 138)), 25, some (137, false), 0⟩, ⟨some 140, (.mv (.t 6)), 3, some (137, false), 0⟩, ⟨some 141, (.iaddr 25 (.t 139) (.t 140)), 0, some (137, false), 0⟩, ⟨some 142, (.load 23 (.t 141)), 23, some (137, false), 0⟩, ⟨some 143, (.faddr 27 (.t 1) 0), 0, some (137, false), 0⟩, ⟨some 144, (.load 23 (.t 143)), 23, some (137, false), 0⟩, ⟨some 145, (.mv (.t 7)), 3, some (137, false), 0⟩]
          (seg [1, 3, 6, 7, 8, 137, 149, 151, 155] [⟨some 146, (.mv (.t 8)), 3, some (137, false), 0⟩, ⟨some 147, (.call (.f 136) [(.t 144), (.t 145), (.t 146)]), 3, some (137, false), 3⟩, ⟨some 148, (.iaddr 23 (.t 142) (.t 147)), 0, some (137, false), 0⟩, ⟨some 149, (.load 3 (.t 148)), 3, some (137, false), 0⟩, ⟨some 150, (.faddr 27 (.t 1) 0), 0, some (137, false), 0⟩, ⟨some 151, (.load 23 (.t 150)), 23, some (137, false), 0⟩, ⟨some 152, (.faddr 27 (.t 1) 1), 0, some (137, false), 0⟩, ⟨some 153, (.load 25 (.t 152)), 25, some (137, false), 0⟩, ⟨some 154, (.mv (.t 6)), 3, some (137, false), 0⟩, ⟨some 155, (.iaddr 25 (.t 153) (.t 154)), 0, some (137, false), 0⟩]
          (seg [1, 3, 6, 7, 8, 137, 149, 151, 159, 164, 165] [⟨some 156, (.load 23 (.t 155)), 23, some (137, false), 0⟩, ⟨some 157, (.mv (.t 7)), 3, some (137, false), 0⟩, ⟨some 158, (.iaddr 23 (.t 156) (.t 157)), 0, some (137, false), 0⟩, ⟨some 159, (.load 3 (.t 158)), 3, some (137, false), 0⟩, ⟨some 160, (.faddr 27 (.t 1) 1), 0, some (137, false), 0⟩, ⟨some 161, (.load 25 (.t 160)), 25, some (137, false), 0⟩, ⟨some 162, (.mv (.t 6)), 3, some (137, false), 0⟩, ⟨some 163, (.iaddr 25 (.t 161) (.t 162)), 0, some (137, false), 0⟩, ⟨some 164, (.load 23 (.t 163)), 23, some (137, false), 0⟩, ⟨some 165, (.mv (.t 8)), 3, some (137, false), 0⟩]
          [⟨some 166, (.iaddr 23 (.t 164) (.t 165)), 0, some (137, false), 0⟩, ⟨some 167, (.load 3 (.t 166)), 3, some (137, false), 0⟩, ⟨some 168, (.call (.f 136) [(.t 151), (.t 159), (.t 167)]), 3, some (137, false), 3⟩, ⟨some 169, (.bin .neq 3 (.t 149) (.t 168)), 4, some (137, false), 0⟩, ⟨some 170, (.pick (.t 137) (.c (.bool true)) (.t 169)), 4, none, 0⟩] [1, 3, 6, 7, 8, 170] (by decide)) [1, 3, 6, 7, 8, 170] (by decide)) [1, 3, 6, 7, 8, 170] (by decide)) [1, 3, 6, 7, 8, 170] (by decide)) [1, 3, 6, 7, 8, 170] (by decide)) [1, 3, 6, 7, 8, 170] (by decide))) (some [1, 3, 6, 7, 8, 170]))
          (.cond (.t 170)
            (.seq
              (.region false [⟨some 2, (.mv (.c (.bool false))), 4, none, 0⟩] (some [2]))
              .ret)
            .skip)))
      (.region false [⟨some 104, (.mv (.t 8)), 3, none, 0⟩, ⟨some 105, (.bin .add 3 (.t 104) (.c (.int .i64 1))), 3, none, 0⟩, ⟨some 8, (.mv (.t 105)), 3, none, 0⟩] (some [1, 3, 6, 7, 8]))))
def lb_111_20 : AC :=
  (.seq
    (.seq
      (.region false [⟨some 79, (.mv (.t 7)), 3, none, 0⟩, ⟨some 80, (.mv (.t 3)), 3, none, 0⟩, ⟨some 81, (.bin .lss 3 (.t 79) (.t 80)), 4, none, 0⟩] (some [1, 3, 6, 7, 81]))
      (.cond (.t 81)
        .skip
        (.exit 6)))
    (.seq
      (.block 7
        (.seq
          (.seq
            (.region true [⟨some 84, (.faddr 27 (.t 1) 1), 0, none, 0⟩, ⟨some 85, (.load 25 (.t 84)), 25, none, 0⟩, ⟨some 86, (.mv (.t 6)), 3, none, 0⟩, ⟨some 87, (.iaddr 25 (.t 85) (.t 86)), 0, none, 0⟩, ⟨some 88, (.load 23 (.t 87)), 23, none, 0⟩, ⟨some 89, (.mv (.t 7)), 3, none, 0⟩, ⟨some 90, (.iaddr 23 (.t 88) (.t 89)), 0, none, 0⟩, ⟨some 91, (.load 3 (.t 90)), 3, none, 0⟩, ⟨some 92, (.faddr 27 (.t 1) 1), 0, none, 0⟩, ⟨some 93, (.load 25 (.t 92)), 25, none, 0⟩, ⟨some 94, (.mv (.t 7)), 3, none, 0⟩, ⟨some 95, (.iaddr 25 (.t 93) (.t 94)), 0, none, 0⟩, ⟨some 96, (.load 23 (.t 95)), 23, none, 0⟩, ⟨some 97, (.mv (.t 6)), 3, none, 0⟩, ⟨some 98, (.iaddr 23 (.t 96) (.t 97)), 0, none, 0⟩, ⟨some 99, (.load 3 (.t 98)), 3, none, 0⟩, ⟨some 100, (.bin .neq 3 (.t 91) (.t 99)), 4, none, 0⟩] (some [1, 3, 6, 7, 100]))
            (.cond (.t 100)
              (.seq
                (.region false [⟨some 2, (.mv (.c (.bool false))), 4, none, 0⟩] (some [2]))
                .ret)
              .skip))
          (.seq
            (.region false [⟨some 8, (.mv (.c (.int .i64 0))), 3, none, 0⟩] (some [1, 3, 6, 7, 8]))
            (.block 8
              (.loop [1, 3, 6, 7, 8] [] lb_111_25)))))
      (.region false [⟨some 82, (.mv (.t 7)), 3, none, 0⟩, ⟨some 83, (.bin .add 3 (.t 82) (.c (.int .i64 1))), 3, none, 0⟩, ⟨some 7, (.mv (.t 83)), 3, none, 0⟩] (some [1, 3, 6, 7]))))
def lb_111_15 : AC :=
  (.seq
    (.seq
      (.region false [⟨some 53, (.mv (.t 6)), 3, none, 0⟩, ⟨some 54, (.mv (.t 3)), 3, none, 0⟩, ⟨some 55, (.bin .lss 3 (.t 53) (.t 54)), 4, none, 0⟩] (some [1, 3, 6, 55]))
      (.cond (.t 55)
        .skip
        (.exit 4)))
    (.seq
      (.block 5
        (.seq
          (.seq
            (.region false (gops (seg [1, 3, 6, 66, 67] [⟨some 58, (.faddr 27 (.t 1) 1), 0, none, 0⟩, ⟨some 59, (.load 25 (.t 58)), 25, none, 0⟩, ⟨some 60, (.mv (.t 6)), 3, none, 0⟩, ⟨some 61, (.iaddr 25 (.t 59) (.t 60)), 0, none, 0⟩, ⟨some 62, (.load 23 (.t 61)), 23, none, 0⟩, ⟨some 63, (.mv (.t 3)), 3, none, 0⟩, ⟨some 64, (.bin .sub 3 (.t 63) (.c (.int .i64 1))), 3, none, 0⟩, ⟨some 65, (.iaddr 23 (.t 62) (.t 64)), 0, none, 0⟩, ⟨some 66, (.load 3 (.t 65)), 3, none, 0⟩, ⟨some 67, (.mv (.t 6)), 3, none, 0⟩]
            [⟨some 68, (.bin .neq 3 (.t 66) (.t 67)), 4, none, 0⟩, ⟨some 69, (.mv (.t 68)), 4, none, 0⟩, ⟨some 70, (.faddr 27 (.t 1) 1), 0, some (69, false), 0⟩, ⟨some 71, (.load 25 (.t 70)), 25, some (69, false), 0⟩, ⟨some 72, (.mv (.t 6)), 3, some (69, false), 0⟩, ⟨some 73, (.iaddr 25 (.t 71) (.t 72)), 0, some (69, false), 0⟩, ⟨some 74, (.load 23 (.t 73)), 23, some (69, false), 0⟩, ⟨some 75, (.iaddr 23 (.t 74) (.c (.int .i64 0))), 0, some (69, false), 0⟩, ⟨some 76, (.load 3 (.t 75)), 3, some (69, false), 0⟩, ⟨some 77, (.bin .neq 3 (.t 76) (.c (.int .i64 0))), 4, some (69, false), 0⟩, ⟨some 78, (.pick (.t 69) (.c (.bool true)) (.t 77)), 4, none, 0⟩] [1, 3, 6, 78] (by decide))) (some [1, 3, 6, 78]))
            (.cond (.t 78)
              (.seq
                (.region false [⟨some 2, (.mv (.c (.bool false))), 4, none, 0⟩] (some [2]))
                .ret)
              .skip))
          (.seq
            (.region false [⟨some 7, (.mv (.c (.int .i64 0))), 3, none, 0⟩] (some [1, 3, 6, 7]))
            (.block 6
              (.loop [1, 3, 6, 7] [] lb_111_20)))))
      (.region false [⟨some 56, (.mv (.t 6)), 3, none, 0⟩, ⟨some 57, (.bin .add 3 (.t 56) (.c (.int .i64 1))), 3, none, 0⟩, ⟨some 6, (.mv (.t 57)), 3, none, 0⟩] (some [1, 3, 6]))))
def fa_111 : FnA := ⟨171, [.t 2],
  (.seq
    (.region false [⟨some 1, (.box 27 (.t 0)), 0, none, 0⟩, ⟨some 2, (.mv (.c (.bool false))), 4, none, 0⟩] (some [1]))
    (.seq
      (.region false [⟨some 9, (.faddr 27 (.t 1) 0), 0, none, 0⟩, ⟨some 10, (.load 23 (.t 9)), 23, none, 0⟩, ⟨some 11, (.len 23 (.t 10)), 3, none, 0⟩, ⟨some 3, (.mv (.t 11)), 3, none, 0⟩] (some [1, 3]))
      (.seq
        (.seq
          (.region false (gops [⟨some 12, (.faddr 27 (.t 1) 0), 0, none, 0⟩, ⟨some 13, (.load 23 (.t 12)), 23, none, 0⟩, ⟨some 14, (.call (.f 96) [(.t 13)]), 4, none, 3⟩, ⟨some 15, (.un .not (.t 14)), 4, none, 0⟩, ⟨some 16, (.mv (.t 15)), 4, none, 0⟩, ⟨some 17, (.faddr 27 (.t 1) 1), 0, some (16, false), 0⟩, ⟨some 18, (.load 25 (.t 17)), 25, some (16, false), 0⟩, ⟨some 19, (.len 25 (.t 18)), 3, some (16, false), 0⟩, ⟨some 20, (.mv (.t 3)), 3, some (16, false), 0⟩, ⟨some 21, (.bin .neq 3 (.t 19) (.t 20)), 4, some (16, false), 0⟩, ⟨some 22, (.pick (.t 16) (.c (.bool true)) (.t 21)), 4, none, 0⟩]) (some [1, 3, 22]))
          (.cond (.t 22)
            (.seq
              (.region false [⟨some 2, (.mv (.c (.bool false))), 4, none, 0⟩] (some [2]))
              .ret)
            .skip))
        (.seq
          (.seq
            (.region false [⟨some 4, (.mv (.c (.int .i64 0))), 3, none, 0⟩] (some [1, 3, 4]))
            (.block 0
              (.loop [1, 3, 4] [] lb_111_5)))
          (.seq
            (.seq
              (.region false [⟨some 6, (.mv (.c (.int .i64 0))), 3, none, 0⟩] (some [1, 3, 6]))
              (.block 4
                (.loop [1, 3, 6] [] lb_111_15)))
            (.seq
              (.region false [⟨some 2, (.mv (.c (.bool true))), 4, none, 0⟩] (some [2]))
              .ret))))))⟩
theorem fok_111 : FnOk Try.prog 111 fa_111 an_111 := ⟨Try.f111, _, Try.func111, rfl, by kernel_rfl, rfl, rfl, by decide, by kernel_rfl⟩
/-- spec.imply -/
def an_137 : Ann := ⟨[(5, 11, 3), (6, 4, 3)], [(0, [1, 2, 3]), (1, [1, 2, 3, 7]), (2, [1, 2, 3, 7, 8]), (3, [1, 2, 3, 7, 8, 13]), (5, [1, 2, 3, 7, 8, 27]), (6, [1, 2, 3, 7, 8]), (4, [1, 2, 3, 7, 8]), (7, [6])], [(3, [1, 2, 3, 7, 8], [])], []⟩
def lb_137_3 : AC :=
  (.seq
    (.seq
      (.region false [⟨some 9, (.mv (.t 8)), 3, none, 0⟩, ⟨some 10, (.faddr 27 (.t 3) 0), 0, none, 0⟩, ⟨some 11, (.load 23 (.t 10)), 23, none, 0⟩, ⟨some 12, (.len 23 (.t 11)), 3, none, 0⟩, ⟨some 13, (.bin .lss 3 (.t 9) (.t 12)), 4, none, 0⟩] (some [1, 2, 3, 7, 8, 13]))
      (.cond (.t 13)
        .skip
        (.exit 0)))
    (.seq
      (.block 1
        (.seq
          (.region true [⟨some 16, (.faddr 27 (.t 3) 0), 0, none, 0⟩, ⟨some 17, (.load 23 (.t 16)), 23, none, 0⟩, ⟨some 18, (.faddr 27 (.t 3) 1), 0, none, 0⟩, ⟨some 19, (.load 25 (.t 18)), 25, none, 0⟩, ⟨some 20, (.mv (.t 1)), 3, none, 0⟩, ⟨some 21, (.iaddr 25 (.t 19) (.t 20)), 0, none, 0⟩, ⟨some 22, (.load 23 (.t 21)), 23, none, 0⟩, ⟨some 23, (.mv (.t 8)), 3, none, 0⟩, ⟨some 24, (.iaddr 23 (.t 22) (.t 23)), 0, none, 0⟩, ⟨some 25, (.load 3 (.t 24)), 3, none, 0⟩, ⟨some 26, (.mv (.t 2)), 3, none, 0⟩, ⟨some 27, (.call (.f 156) [(.t 17), (.t 25), (.t 26)]), 4, none, 3⟩] (some [1, 2, 3, 7, 8, 27]))
          (.cond (.t 27)
            (.region false [⟨some 28, (.faddr 27 (.t 3) 0), 0, none, 0⟩, ⟨some 29, (.load 23 (.t 28)), 23, none, 0⟩, ⟨some 30, (.mv (.t 7)), 3, none, 0⟩, ⟨some 31, (.mv (.t 8)), 3, none, 0⟩, ⟨some 32, (.call (.f 136) [(.t 29), (.t 30), (.t 31)]), 3, none, 3⟩, ⟨some 7, (.mv (.t 32)), 3, none, 0⟩] (some [1, 2, 3, 7, 8]))
            .skip)))
      (.region false [⟨some 14, (.mv (.t 8)), 3, none, 0⟩, ⟨some 15, (.bin .add 3 (.t 14) (.c (.int .i64 1))), 3, none, 0⟩, ⟨some 8, (.mv (.t 15)), 3, none, 0⟩] (some [1, 2, 3, 7, 8]))))
def fa_137 : FnA := ⟨34, [.t 6],
  (.seq
    (.region false [⟨some 3, (.box 27 (.t 0)), 0, none, 0⟩, ⟨some 6, (.mv (.c (.int .i64 0))), 3, none, 0⟩] (some [1, 2, 3]))
    (.seq
      (.region false [⟨some 7, (.mv (.c (.int .i64 0))), 3, none, 0⟩] (some [1, 2, 3, 7]))
      (.seq
        (.seq
          (.region false [⟨some 8, (.mv (.c (.int .i64 0))), 3, none, 0⟩] (some [1, 2, 3, 7, 8]))
          (.block 0
            (.loop [1, 2, 3, 7, 8] [] lb_137_3)))
        (.seq
          (.region false [⟨some 33, (.mv (.t 7)), 3, none, 0⟩, ⟨some 6, (.mv (.t 33)), 3, none, 0⟩] (some [6]))
          .ret))))⟩
theorem fok_137 : FnOk Try.prog 137 fa_137 an_137 := ⟨Try.f137, _, Try.func137, rfl, by kernel_rfl, rfl, rfl, by decide, by kernel_rfl⟩
/-- impl.within -/
def an_101 : Ann := ⟨[], [(0, [0, 1, 2]), (1, [6])], [], []⟩
def fa_101 : FnA := ⟨15, [.t 6],
  (.seq
    (.region false [⟨some 6, (.mv (.c (.bool false))), 4, none, 0⟩] (some [0, 1, 2]))
    (.seq
      (.region false (gops [⟨some 7, (.mv (.t 0)), 3, none, 0⟩, ⟨some 8, (.mv (.t 1)), 3, none, 0⟩, ⟨some 9, (.bin .geq 3 (.t 7) (.t 8)), 4, none, 0⟩, ⟨some 10, (.mv (.t 9)), 4, none, 0⟩, ⟨some 11, (.mv (.t 0)), 3, some (10, true), 0⟩, ⟨some 12, (.mv (.t 2)), 3, some (10, true), 0⟩, ⟨some 13, (.bin .leq 3 (.t 11) (.t 12)), 4, some (10, true), 0⟩, ⟨some 14, (.pick (.t 10) (.t 13) (.c (.bool false))), 4, none, 0⟩, ⟨some 6, (.mv (.t 14)), 4, none, 0⟩]) (some [6]))
      .ret))⟩
theorem fok_101 : FnOk Try.prog 101 fa_101 an_101 := ⟨Try.f101, _, Try.func101, rfl, by kernel_rfl, rfl, rfl, by decide, by kernel_rfl⟩
/-- impl.below -/
def an_131 : Ann := ⟨[], [(0, [0, 1, 2]), (1, [6])], [], []⟩
def fa_131 : FnA := ⟨15, [.t 6],
  (.seq
    (.region false [⟨some 6, (.mv (.c (.bool false))), 4, none, 0⟩] (some [0, 1, 2]))
    (.seq
      (.region false [⟨some 7, (.mv (.t 0)), 23, none, 0⟩, ⟨some 8, (.mv (.t 1)), 3, none, 0⟩, ⟨some 9, (.iaddr 23 (.t 7) (.t 8)), 0, none, 0⟩, ⟨some 10, (.load 3 (.t 9)), 3, none, 0⟩, ⟨some 11, (.mv (.t 2)), 3, none, 0⟩, ⟨some 12, (.bin .shr 3 (.t 10) (.t 11)), 3, none, 0⟩, ⟨some 13, (.bin .rem 3 (.t 12) (.c (.int .i64 2))), 3, none, 0⟩, ⟨some 14, (.bin .eql 3 (.t 13) (.c (.int .i64 1))), 4, none, 0⟩, ⟨some 6, (.mv (.t 14)), 4, none, 0⟩] (some [6]))
      .ret))⟩
theorem fok_131 : FnOk Try.prog 131 fa_131 an_131 := ⟨Try.f131, _, Try.func131, rfl, by kernel_rfl, rfl, rfl, by decide, by kernel_rfl⟩
/-- impl.meet -/
def an_95 : Ann := ⟨[(4, 3, 3), (4, 9, 3), (9, 5, 3), (9, 11, 3), (9, 18, 3)], [(0, [0, 1, 2]), (1, [0, 1, 2, 11, 12]), (2, [0, 1, 2, 11, 12, 13]), (3, [0, 1, 2, 7, 11, 12]), (4, [0, 1, 2, 7, 11, 12, 26]), (5, [0, 1, 2, 7, 8, 11, 12]), (6, [0, 1, 2, 7, 8, 11, 12, 28, 29]), (7, [0, 1, 2, 7, 8, 11, 12, 28, 29, 30]), (8, [0, 1, 2, 7, 8, 9, 11, 12, 28, 29]), (9, [0, 1, 2, 7, 8, 11, 12, 28, 29]), (10, [0, 1, 2, 7, 8, 11, 12, 28, 29]), (11, [0, 1, 2, 7, 11, 12, 54]), (12, [6]), (13, [0, 1, 2, 11, 12]), (14, [6])], [(2, [0, 1, 2, 11, 12], []), (7, [0, 1, 2, 7, 8, 11, 12, 28, 29], [])], []⟩
def lb_95_7 : AC :=
  (.seq
    (.region false [⟨some 30, (.bin .lss 3 (.t 29) (.t 28)), 0, none, 0⟩] (some [0, 1, 2, 7, 8, 11, 12, 28, 29, 30]))
    (.seq
      (.cond (.t 30)
        .skip
        (.exit 2))
      (.seq
        (.block 3
          (.seq
            (.region false [⟨some 31, (.mv (.t 29)), 3, none, 0⟩, ⟨some 9, (.mv (.t 31)), 3, none, 0⟩] (some [0, 1, 2, 7, 8, 9, 11, 12, 28, 29]))
            (.region false (gops (seg [0, 1, 2, 7, 9, 11, 12, 28, 29, 33, 39, 40, 41] [⟨some 32, (.mv (.t 8)), 4, none, 0⟩, ⟨some 33, (.mv (.t 32)), 4, none, 0⟩, ⟨some 34, (.mv (.t 0)), 23, some (33, true), 0⟩, ⟨some 35, (.mv (.t 9)), 3, some (33, true), 0⟩, ⟨some 36, (.mv (.t 1)), 3, some (33, true), 0⟩, ⟨some 37, (.call (.f 131) [(.t 34), (.t 35), (.t 36)]), 4, some (33, true), 3⟩, ⟨some 38, (.un .not (.t 37)), 4, some (33, true), 0⟩, ⟨some 39, (.mv (.t 38)), 4, some (33, true), 0⟩, ⟨some 40, (.mv (.t 0)), 23, some (39, false), 0⟩, ⟨some 41, (.mv (.t 9)), 3, some (39, false), 0⟩]
            [⟨some 42, (.mv (.t 2)), 3, some (39, false), 0⟩, ⟨some 43, (.call (.f 131) [(.t 40), (.t 41), (.t 42)]), 4, some (39, false), 3⟩, ⟨some 44, (.un .not (.t 43)), 4, some (39, false), 0⟩, ⟨some 45, (.pick (.t 39) (.c (.bool true)) (.t 44)), 4, some (33, true), 0⟩, ⟨some 46, (.mv (.t 45)), 4, some (33, true), 0⟩, ⟨some 47, (.mv (.t 0)), 23, some (46, false), 0⟩, ⟨some 48, (.mv (.t 9)), 3, some (46, false), 0⟩, ⟨some 49, (.mv (.t 7)), 3, some (46, false), 0⟩, ⟨some 50, (.call (.f 131) [(.t 47), (.t 48), (.t 49)]), 4, some (46, false), 3⟩, ⟨some 51, (.pick (.t 46) (.c (.bool true)) (.t 50)), 4, some (33, true), 0⟩, ⟨some 52, (.pick (.t 33) (.t 51) (.c (.bool false))), 4, none, 0⟩, ⟨some 8, (.mv (.t 52)), 4, none, 0⟩] [0, 1, 2, 7, 8, 11, 12, 28, 29] (by decide))) (some [0, 1, 2, 7, 8, 11, 12, 28, 29]))))
        (.region false [⟨some 53, (.bin .add 3 (.t 29) (.c (.int .i64 1))), 3, none, 0⟩, ⟨some 29, (.mv (.t 53)), 3, none, 0⟩] (some [0, 1, 2, 7, 8, 11, 12, 28, 29])))))
def lb_95_2 : AC :=
  (.seq
    (.region false [⟨some 13, (.bin .lss 3 (.t 12) (.t 11)), 0, none, 0⟩] (some [0, 1, 2, 11, 12, 13]))
    (.seq
      (.cond (.t 13)
        .skip
        (.exit 0))
      (.seq
        (.block 1
          (.seq
            (.region false [⟨some 14, (.mv (.t 12)), 3, none, 0⟩, ⟨some 7, (.mv (.t 14)), 3, none, 0⟩] (some [0, 1, 2, 7, 11, 12]))
            (.seq
              (.seq
                (.region false (gops [⟨some 15, (.mv (.t 0)), 23, none, 0⟩, ⟨some 16, (.mv (.t 7)), 3, none, 0⟩, ⟨some 17, (.mv (.t 1)), 3, none, 0⟩, ⟨some 18, (.call (.f 131) [(.t 15), (.t 16), (.t 17)]), 4, none, 3⟩, ⟨some 19, (.un .not (.t 18)), 4, none, 0⟩, ⟨some 20, (.mv (.t 19)), 4, none, 0⟩, ⟨some 21, (.mv (.t 0)), 23, some (20, false), 0⟩, ⟨some 22, (.mv (.t 7)), 3, some (20, false), 0⟩, ⟨some 23, (.mv (.t 2)), 3, some (20, false), 0⟩, ⟨some 24, (.call (.f 131) [(.t 21), (.t 22), (.t 23)]), 4, some (20, false), 3⟩, ⟨some 25, (.un .not (.t 24)), 4, some (20, false), 0⟩, ⟨some 26, (.pick (.t 20) (.c (.bool true)) (.t 25)), 4, none, 0⟩]) (some [0, 1, 2, 7, 11, 12, 26]))
                (.cond (.t 26)
                  (.exit 1)
                  .skip))
              (.seq
                (.region false [⟨some 8, (.mv (.c (.bool true))), 4, none, 0⟩] (some [0, 1, 2, 7, 8, 11, 12]))
                (.seq
                  (.seq
                    (.region false [⟨some 27, (.mv (.t 0)), 23, none, 0⟩, ⟨some 28, (.len 23 (.t 27)), 3, none, 0⟩, ⟨some 29, (.mv (.c (.int .i64 0))), 3, none, 0⟩] (some [0, 1, 2, 7, 8, 11, 12, 28, 29]))
                    (.block 2
                      (.loop [0, 1, 2, 7, 8, 11, 12, 28, 29] [] lb_95_7)))
                  (.seq
                    (.region false [⟨some 54, (.mv (.t 8)), 4, none, 0⟩] (some [0, 1, 2, 7, 11, 12, 54]))
                    (.cond (.t 54)
                      (.seq
                        (.region false [⟨some 55, (.mv (.t 7)), 3, none, 0⟩, ⟨some 6, (.mv (.t 55)), 3, none, 0⟩] (some [6]))
                        .ret)
                      .skip)))))))
        (.region false [⟨some 56, (.bin .add 3 (.t 12) (.c (.int .i64 1))), 3, none, 0⟩, ⟨some 12, (.mv (.t 56)), 3, none, 0⟩] (some [0, 1, 2, 11, 12])))))
def fa_95 : FnA := ⟨57, [.t 6],
  (.seq
    (.region false [⟨some 6, (.mv (.c (.int .i64 0))), 3, none, 0⟩] (some [0, 1, 2]))
    (.seq
      (.seq
        (.region false [⟨some 10, (.mv (.t 0)), 23, none, 0⟩, ⟨some 11, (.len 23 (.t 10)), 3, none, 0⟩, ⟨some 12, (.mv (.c (.int .i64 0))), 3, none, 0⟩] (some [0, 1, 2, 11, 12]))
        (.block 0
          (.loop [0, 1, 2, 11, 12] [] lb_95_2)))
      (.seq
        (.region false [⟨some 6, (.mv (.c (.int .i64 (-1)))), 3, none, 0⟩] (some [6]))
        .ret)))⟩
theorem fok_95 : FnOk Try.prog 95 fa_95 an_95 := ⟨Try.f95, _, Try.func95, rfl, by kernel_rfl, rfl, rfl, by decide, by kernel_rfl⟩
/-- impl.join -/
def an_102 : Ann := ⟨[], [(0, [0, 1, 2]), (1, [0, 7]), (2, [0, 7, 19, 20]), (3, [0, 7, 19, 20, 21]), (4, [0, 7, 8, 19, 20]), (5, [0, 7, 8, 19, 20, 36]), (6, [6]), (7, [0, 7, 19, 20]), (8, [6])], [(3, [0, 7, 19, 20], [])], []⟩
def lb_102_3 : AC :=
  (.seq
    (.region false [⟨some 21, (.bin .lss 3 (.t 20) (.t 19)), 0, none, 0⟩] (some [0, 7, 19, 20, 21]))
    (.seq
      (.cond (.t 21)
        .skip
        (.exit 0))
      (.seq
        (.block 1
          (.seq
            (.region false [⟨some 22, (.mv (.t 20)), 3, none, 0⟩, ⟨some 8, (.mv (.t 22)), 3, none, 0⟩] (some [0, 7, 8, 19, 20]))
            (.seq
              (.region false (gops [⟨some 23, (.mv (.t 7)), 3, none, 0⟩, ⟨some 24, (.mv (.t 8)), 3, none, 0⟩, ⟨some 25, (.bin .shr 3 (.t 23) (.t 24)), 3, none, 0⟩, ⟨some 26, (.bin .rem 3 (.t 25) (.c (.int .i64 2))), 3, none, 0⟩, ⟨some 27, (.bin .eql 3 (.t 26) (.c (.int .i64 1))), 4, none, 0⟩, ⟨some 28, (.mv (.t 27)), 4, none, 0⟩, ⟨some 29, (.mv (.t 7)), 3, some (28, true), 0⟩, ⟨some 30, (.mv (.t 0)), 23, some (28, true), 0⟩, ⟨some 31, (.mv (.t 8)), 3, some (28, true), 0⟩, ⟨some 32, (.iaddr 23 (.t 30) (.t 31)), 0, some (28, true), 0⟩, ⟨some 33, (.load 3 (.t 32)), 3, some (28, true), 0⟩, ⟨some 34, (.bin .andNot 3 (.t 29) (.t 33)), 3, some (28, true), 0⟩, ⟨some 35, (.bin .eql 3 (.t 34) (.c (.int .i64 0))), 4, some (28, true), 0⟩, ⟨some 36, (.pick (.t 28) (.t 35) (.c (.bool false))), 4, none, 0⟩]) (some [0, 7, 8, 19, 20, 36]))
              (.cond (.t 36)
                (.seq
                  (.region false [⟨some 37, (.mv (.t 8)), 3, none, 0⟩, ⟨some 6, (.mv (.t 37)), 3, none, 0⟩] (some [6]))
                  .ret)
                .skip))))
        (.region false [⟨some 38, (.bin .add 3 (.t 20) (.c (.int .i64 1))), 3, none, 0⟩, ⟨some 20, (.mv (.t 38)), 3, none, 0⟩] (some [0, 7, 19, 20])))))
def fa_102 : FnA := ⟨39, [.t 6],
  (.seq
    (.region false [⟨some 6, (.mv (.c (.int .i64 0))), 3, none, 0⟩] (some [0, 1, 2]))
    (.seq
      (.region true [⟨some 9, (.mv (.t 0)), 23, none, 0⟩, ⟨some 10, (.mv (.t 1)), 3, none, 0⟩, ⟨some 11, (.iaddr 23 (.t 9) (.t 10)), 0, none, 0⟩, ⟨some 12, (.load 3 (.t 11)), 3, none, 0⟩, ⟨some 13, (.mv (.t 0)), 23, none, 0⟩, ⟨some 14, (.mv (.t 2)), 3, none, 0⟩, ⟨some 15, (.iaddr 23 (.t 13) (.t 14)), 0, none, 0⟩, ⟨some 16, (.load 3 (.t 15)), 3, none, 0⟩, ⟨some 17, (.bin .and 3 (.t 12) (.t 16)), 3, none, 0⟩, ⟨some 7, (.mv (.t 17)), 3, none, 0⟩] (some [0, 7]))
      (.seq
        (.seq
          (.region false [⟨some 18, (.mv (.t 0)), 23, none, 0⟩, ⟨some 19, (.len 23 (.t 18)), 3, none, 0⟩, ⟨some 20, (.mv (.c (.int .i64 0))), 3, none, 0⟩] (some [0, 7, 19, 20]))
          (.block 0
            (.loop [0, 7, 19, 20] [] lb_102_3)))
        (.seq
          (.region false [⟨some 6, (.mv (.c (.int .i64 (-1)))), 3, none, 0⟩] (some [6]))
          .ret))))⟩
theorem fok_102 : FnOk Try.prog 102 fa_102 an_102 := ⟨Try.f102, _, Try.func102, rfl, by kernel_rfl, rfl, rfl, by decide, by kernel_rfl⟩
/-- impl.ValidLattice -/
def an_91 : Ann := ⟨[(2, 1, 3), (7, 4, 3), (7, 10, 3), (7, 18, 3), (7, 24, 3), (12, 3, 3), (12, 12, 3), (22, 3, 3), (22, 9, 3)], [(0, [0]), (1, [0, 3]), (2, [0, 3, 13]), (3, [2]), (4, [0, 3, 14, 15, 16]), (5, [0, 3, 14, 15, 16, 17]), (6, [0, 3, 4, 5, 14, 15, 16]), (7, [0, 3, 4, 5, 14, 15, 16, 47]), (8, [2]), (9, [0, 3, 4, 5, 14, 15, 16, 49, 50]), (10, [0, 3, 4, 5, 14, 15, 16, 49, 50, 51]), (11, [0, 3, 4, 5, 6, 14, 15, 16, 49, 50]), (12, [0, 3, 4, 5, 14, 15, 16, 49, 50, 76]), (13, [2]), (14, [0, 3, 4, 5, 14, 15, 16, 49, 50]), (15, [0, 3, 14, 15, 16]), (16, [0, 80, 81]), (17, [0, 80, 81, 82]), (18, [0, 7, 80, 81]), (19, [0, 7, 80, 81, 85, 86]), (20, [0, 7, 80, 81, 85, 86, 87]), (21, [0, 7, 8, 80, 81, 85, 86]), (22, [0, 7, 80, 81, 85, 86, 100]), (23, [2]), (24, [0, 7, 80, 81, 85, 86]), (25, [0, 80, 81]), (26, [2])], [(5, [0, 3, 14, 15, 16], []), (10, [0, 3, 4, 5, 14, 15, 16, 49, 50], []), (17, [0, 80, 81], []), (20, [0, 7, 80, 81, 85, 86], [])], []⟩
def lb_91_10 : AC :=
  (.seq
    (.region false [⟨some 51, (.bin .lss 3 (.t 50) (.t 49)), 0, none, 0⟩] (some [0, 3, 4, 5, 14, 15, 16, 49, 50, 51]))
    (.seq
      (.cond (.t 51)
        .skip
        (.exit 2))
      (.seq
        (.block 3
          (.seq
            (.region false [⟨some 52, (.mv (.t 50)), 3, none, 0⟩, ⟨some 6, (.mv (.t 52)), 3, none, 0⟩] (some [0, 3, 4, 5, 6, 14, 15, 16, 49, 50]))
            (.seq
              (.region false (gops (seg [0, 3, 4, 5, 6, 14, 15, 16, 49, 50, 57, 61, 62] [⟨some 53, (.mv (.t 0)), 23, none, 0⟩, ⟨some 54, (.mv (.t 4)), 3, none, 0⟩, ⟨some 55, (.mv (.t 6)), 3, none, 0⟩, ⟨some 56, (.call (.f 131) [(.t 53), (.t 54), (.t 55)]), 4, none, 3⟩, ⟨some 57, (.mv (.t 56)), 4, none, 0⟩, ⟨some 58, (.mv (.t 6)), 3, some (57, true), 0⟩, ⟨some 59, (.mv (.t 4)), 3, some (57, true), 0⟩, ⟨some 60, (.bin .neq 3 (.t 58) (.t 59)), 4, some (57, true), 0⟩, ⟨some 61, (.mv (.t 60)), 4, some (57, true), 0⟩, ⟨some 62, (.mv (.t 0)), 23, some (61, true), 0⟩]
              (seg [0, 3, 4, 5, 14, 15, 16, 49, 50, 57, 67, 71, 72] [⟨some 63, (.mv (.t 6)), 3, some (61, true), 0⟩, ⟨some 64, (.mv (.t 4)), 3, some (61, true), 0⟩, ⟨some 65, (.call (.f 131) [(.t 62), (.t 63), (.t 64)]), 4, some (61, true), 3⟩, ⟨some 66, (.pick (.t 61) (.t 65) (.c (.bool false))), 4, some (57, true), 0⟩, ⟨some 67, (.mv (.t 66)), 4, some (57, true), 0⟩, ⟨some 68, (.mv (.t 0)), 23, some (67, false), 0⟩, ⟨some 69, (.mv (.t 6)), 3, some (67, false), 0⟩, ⟨some 70, (.iaddr 23 (.t 68) (.t 69)), 0, some (67, false), 0⟩, ⟨some 71, (.load 3 (.t 70)), 3, some (67, false), 0⟩, ⟨some 72, (.mv (.t 5)), 3, some (67, false), 0⟩]
              [⟨some 73, (.bin .andNot 3 (.t 71) (.t 72)), 3, some (67, false), 0⟩, ⟨some 74, (.bin .neq 3 (.t 73) (.c (.int .i64 0))), 4, some (67, false), 0⟩, ⟨some 75, (.pick (.t 67) (.c (.bool true)) (.t 74)), 4, some (57, true), 0⟩, ⟨some 76, (.pick (.t 57) (.t 75) (.c (.bool false))), 4, none, 0⟩] [0, 3, 4, 5, 14, 15, 16, 49, 50, 76] (by decide)) [0, 3, 4, 5, 14, 15, 16, 49, 50, 76] (by decide))) (some [0, 3, 4, 5, 14, 15, 16, 49, 50, 76]))
              (.cond (.t 76)
                (.seq
                  (.region false [⟨some 2, (.mv (.c (.bool false))), 4, none, 0⟩] (some [2]))
                  .ret)
                .skip))))
        (.region false [⟨some 77, (.bin .add 3 (.t 50) (.c (.int .i64 1))), 3, none, 0⟩, ⟨some 50, (.mv (.t 77)), 3, none, 0⟩] (some [0, 3, 4, 5, 14, 15, 16, 49, 50])))))
def lb_91_5 : AC :=
  (.seq
    (.region false [⟨some 17, (.bin .lss 3 (.t 16) (.t 15)), 0, none, 0⟩] (some [0, 3, 14, 15, 16, 17]))
    (.seq
      (.cond (.t 17)
        .skip
        (.exit 0))
      (.seq
        (.block 1
          (.seq
            (.region false [⟨some 18, (.mv (.t 16)), 3, none, 0⟩, ⟨some 19, (.iaddr 23 (.t 14) (.t 16)), 0, none, 0⟩, ⟨some 20, (.load 3 (.t 19)), 3, none, 0⟩, ⟨some 4, (.mv (.t 18)), 3, none, 0⟩, ⟨some 5, (.mv (.t 20)), 3, none, 0⟩] (some [0, 3, 4, 5, 14, 15, 16]))
            (.seq
              (.seq
                (.region false (gops (seg [0, 3, 4, 5, 14, 15, 16, 27, 28, 29, 30] [⟨some 21, (.mv (.t 5)), 3, none, 0⟩, ⟨some 22, (.mv (.t 3)), 3, none, 0⟩, ⟨some 23, (.bin .shl 3 (.c (.int .i64 1)) (.t 22)), 3, none, 0⟩, ⟨some 24, (.bin .sub 3 (.t 23) (.c (.int .i64 1))), 3, none, 0⟩, ⟨some 25, (.call (.f 101) [(.t 21), (.c (.int .i64 0)), (.t 24)]), 4, none, 3⟩, ⟨some 26, (.un .not (.t 25)), 4, none, 0⟩, ⟨some 27, (.mv (.t 26)), 4, none, 0⟩, ⟨some 28, (.mv (.t 0)), 23, some (27, false), 0⟩, ⟨some 29, (.mv (.t 4)), 3, some (27, false), 0⟩, ⟨some 30, (.mv (.t 4)), 3, some (27, false), 0⟩]
                (seg [0, 3, 4, 5, 14, 15, 16, 34, 40] [⟨some 31, (.call (.f 131) [(.t 28), (.t 29), (.t 30)]), 4, some (27, false), 3⟩, ⟨some 32, (.un .not (.t 31)), 4, some (27, false), 0⟩, ⟨some 33, (.pick (.t 27) (.c (.bool true)) (.t 32)), 4, none, 0⟩, ⟨some 34, (.mv (.t 33)), 4, none, 0⟩, ⟨some 35, (.mv (.t 0)), 23, some (34, false), 0⟩, ⟨some 36, (.mv (.t 4)), 3, some (34, false), 0⟩, ⟨some 37, (.mv (.t 3)), 3, some (34, false), 0⟩, ⟨some 38, (.bin .sub 3 (.t 37) (.c (.int .i64 1))), 3, some (34, false), 0⟩, ⟨some 39, (.call (.f 131) [(.t 35), (.t 36), (.t 38)]), 4, some (34, false), 3⟩, ⟨some 40, (.un .not (.t 39)), 4, some (34, false), 0⟩]
                [⟨some 41, (.pick (.t 34) (.c (.bool true)) (.t 40)), 4, none, 0⟩, ⟨some 42, (.mv (.t 41)), 4, none, 0⟩, ⟨some 43, (.mv (.t 0)), 23, some (42, false), 0⟩, ⟨some 44, (.mv (.t 4)), 3, some (42, false), 0⟩, ⟨some 45, (.call (.f 131) [(.t 43), (.c (.int .i64 0)), (.t 44)]), 4, some (42, false), 3⟩, ⟨some 46, (.un .not (.t 45)), 4, some (42, false), 0⟩, ⟨some 47, (.pick (.t 42) (.c (.bool true)) (.t 46)), 4, none, 0⟩] [0, 3, 4, 5, 14, 15, 16, 47] (by decide)) [0, 3, 4, 5, 14, 15, 16, 47] (by decide))) (some [0, 3, 4, 5, 14, 15, 16, 47]))
                (.cond (.t 47)
                  (.seq
                    (.region false [⟨some 2, (.mv (.c (.bool false))), 4, none, 0⟩] (some [2]))
                    .ret)
                  .skip))
              (.seq
                (.region false [⟨some 48, (.mv (.t 0)), 23, none, 0⟩, ⟨some 49, (.len 23 (.t 48)), 3, none, 0⟩, ⟨some 50, (.mv (.c (.int .i64 0))), 3, none, 0⟩] (some [0, 3, 4, 5, 14, 15, 16, 49, 50]))
                (.block 2
                  (.loop [0, 3, 4, 5, 14, 15, 16, 49, 50] [] lb_91_10))))))
        (.region false [⟨some 78, (.bin .add 3 (.t 16) (.c (.int .i64 1))), 3, none, 0⟩, ⟨some 16, (.mv (.t 78)), 3, none, 0⟩] (some [0, 3, 14, 15, 16])))))
def lb_91_20 : AC :=
  (.seq
    (.region false [⟨some 87, (.bin .lss 3 (.t 86) (.t 85)), 0, none, 0⟩] (some [0, 7, 80, 81, 85, 86, 87]))
    (.seq
      (.cond (.t 87)
        .skip
        (.exit 6))
      (.seq
        (.block 7
          (.seq
            (.region false [⟨some 88, (.mv (.t 86)), 3, none, 0⟩, ⟨some 8, (.mv (.t 88)), 3, none, 0⟩] (some [0, 7, 8, 80, 81, 85, 86]))
            (.seq
              (.region false (gops [⟨some 89, (.mv (.t 0)), 23, none, 0⟩, ⟨some 90, (.mv (.t 7)), 3, none, 0⟩, ⟨some 91, (.mv (.t 8)), 3, none, 0⟩, ⟨some 92, (.call (.f 95) [(.t 89), (.t 90), (.t 91)]), 3, none, 3⟩, ⟨some 93, (.bin .lss 3 (.t 92) (.c (.int .i64 0))), 4, none, 0⟩, ⟨some 94, (.mv (.t 93)), 4, none, 0⟩, ⟨some 95, (.mv (.t 0)), 23, some (94, false), 0⟩, ⟨some 96, (.mv (.t 7)), 3, some (94, false), 0⟩, ⟨some 97, (.mv (.t 8)), 3, some (94, false), 0⟩, ⟨some 98, (.call (.f 102) [(.t 95), (.t 96), (.t 97)]), 3, some (94, false), 3⟩, ⟨some 99, (.bin .lss 3 (.t 98) (.c (.int .i64 0))), 4, some (94, false), 0⟩, ⟨some 100, (.pick (.t 94) (.c (.bool true)) (.t 99)), 4, none, 0⟩]) (some [0, 7, 80, 81, 85, 86, 100]))
              (.cond (.t 100)
                (.seq
                  (.region false [⟨some 2, (.mv (.c (.bool false))), 4, none, 0⟩] (some [2]))
                  .ret)
                .skip))))
        (.region false [⟨some 101, (.bin .add 3 (.t 86) (.c (.int .i64 1))), 3, none, 0⟩, ⟨some 86, (.mv (.t 101)), 3, none, 0⟩] (some [0, 7, 80, 81, 85, 86])))))
def lb_91_17 : AC :=
  (.seq
    (.region false [⟨some 82, (.bin .lss 3 (.t 81) (.t 80)), 0, none, 0⟩] (some [0, 80, 81, 82]))
    (.seq
      (.cond (.t 82)
        .skip
        (.exit 4))
      (.seq
        (.block 5
          (.seq
            (.region false [⟨some 83, (.mv (.t 81)), 3, none, 0⟩, ⟨some 7, (.mv (.t 83)), 3, none, 0⟩] (some [0, 7, 80, 81]))
            (.seq
              (.region false [⟨some 84, (.mv (.t 0)), 23, none, 0⟩, ⟨some 85, (.len 23 (.t 84)), 3, none, 0⟩, ⟨some 86, (.mv (.c (.int .i64 0))), 3, none, 0⟩] (some [0, 7, 80, 81, 85, 86]))
              (.block 6
                (.loop [0, 7, 80, 81, 85, 86] [] lb_91_20)))))
        (.region false [⟨some 102, (.bin .add 3 (.t 81) (.c (.int .i64 1))), 3, none, 0⟩, ⟨some 81, (.mv (.t 102)), 3, none, 0⟩] (some [0, 80, 81])))))
def fa_91 : FnA := ⟨103, [.t 2],
  (.seq
    (.region false [⟨some 2, (.mv (.c (.bool false))), 4, none, 0⟩] (some [0]))
    (.seq
      (.region false [⟨some 9, (.mv (.t 0)), 23, none, 0⟩, ⟨some 10, (.len 23 (.t 9)), 3, none, 0⟩, ⟨some 3, (.mv (.t 10)), 3, none, 0⟩] (some [0, 3]))
      (.seq
        (.seq
          (.region false [⟨some 11, (.mv (.t 3)), 3, none, 0⟩, ⟨some 12, (.call (.f 101) [(.t 11), (.c (.int .i64 1)), (.c (.int .i64 6))]), 4, none, 3⟩, ⟨some 13, (.un .not (.t 12)), 4, none, 0⟩] (some [0, 3, 13]))
          (.cond (.t 13)
            (.seq
              (.region false [⟨some 2, (.mv (.c (.bool false))), 4, none, 0⟩] (some [2]))
              .ret)
            .skip))
        (.seq
          (.seq
            (.region false [⟨some 14, (.mv (.t 0)), 23, none, 0⟩, ⟨some 15, (.len 23 (.t 14)), 3, none, 0⟩, ⟨some 16, (.mv (.c (.int .i64 0))), 3, none, 0⟩] (some [0, 3, 14, 15, 16]))
            (.block 0
              (.loop [0, 3, 14, 15, 16] [] lb_91_5)))
          (.seq
            (.seq
              (.region false [⟨some 79, (.mv (.t 0)), 23, none, 0⟩, ⟨some 80, (.len 23 (.t 79)), 3, none, 0⟩, ⟨some 81, (.mv (.c (.int .i64 0))), 3, none, 0⟩] (some [0, 80, 81]))
              (.block 4
                (.loop [0, 80, 81] [] lb_91_17)))
            (.seq
              (.region false [⟨some 2, (.mv (.c (.bool true))), 4, none, 0⟩] (some [2]))
              .ret))))))⟩
theorem fok_91 : FnOk Try.prog 91 fa_91 an_91 := ⟨Try.f91, _, Try.func91, rfl, by kernel_rfl, rfl, rfl, by decide, by kernel_rfl⟩
/-- impl.ValidAlgebra$1 -/
def an_100 : Ann := ⟨[(1, 3, 3)], [(0, [0, 1]), (1, [3])], [], []⟩
def fa_100 : FnA := ⟨9, [.t 3],
  (.seq
    (.region false [⟨some 3, (.mv (.c (.bool false))), 4, none, 0⟩] (some [0, 1]))
    (.seq
      (.region false [⟨some 4, (.mv (.t 0)), 3, none, 0⟩, ⟨some 5, (.load 3 (.t 1)), 3, none, 0⟩, ⟨some 6, (.bin .sub 3 (.t 5) (.c (.int .i64 1))), 3, none, 0⟩, ⟨some 7, (.call (.f 101) [(.t 4), (.c (.int .i64 0)), (.t 6)]), 4, none, 3⟩, ⟨some 8, (.un .not (.t 7)), 4, none, 0⟩, ⟨some 3, (.mv (.t 8)), 4, none, 0⟩] (some [3]))
      .ret))⟩
theorem fok_100 : FnOk Try.prog 100 fa_100 an_100 := ⟨Try.f100, _, Try.func100, rfl, by kernel_rfl, rfl, rfl, by decide, by kernel_rfl⟩
/-- slices.IndexFunc(()int,int) -/
def an_166 : Ann := ⟨[(4, 5, 3)], [(0, [0, 1]), (1, [0, 1, 7, 8]), (2, [0, 1, 7, 8, 9]), (3, [0, 1, 5, 7, 8]), (4, [0, 1, 5, 7, 8, 16]), (5, [4]), (6, [0, 1, 7, 8]), (7, [4])], [(2, [0, 1, 7, 8], [])], []⟩
def lb_166_2 : AC :=
  (.seq
    (.region false [⟨some 9, (.bin .lss 3 (.t 8) (.t 7)), 0, none, 0⟩] (some [0, 1, 7, 8, 9]))
    (.seq
      (.cond (.t 9)
        .skip
        (.exit 0))
      (.seq
        (.block 1
          (.seq
            (.region false [⟨some 10, (.mv (.t 8)), 3, none, 0⟩, ⟨some 5, (.mv (.t 10)), 3, none, 0⟩] (some [0, 1, 5, 7, 8]))
            (.seq
              (.region false [⟨some 11, (.mv (.t 1)), 80, none, 0⟩, ⟨some 12, (.mv (.t 0)), 23, none, 0⟩, ⟨some 13, (.mv (.t 5)), 3, none, 0⟩, ⟨some 14, (.iaddr 23 (.t 12) (.t 13)), 0, none, 0⟩, ⟨some 15, (.load 3 (.t 14)), 3, none, 0⟩, ⟨some 16, (.call (.t 11) [(.t 15)]), 4, none, 3⟩] (some [0, 1, 5, 7, 8, 16]))
              (.cond (.t 16)
                (.seq
                  (.region false [⟨some 17, (.mv (.t 5)), 3, none, 0⟩, ⟨some 4, (.mv (.t 17)), 3, none, 0⟩] (some [4]))
                  .ret)
                .skip))))
        (.region false [⟨some 18, (.bin .add 3 (.t 8) (.c (.int .i64 1))), 3, none, 0⟩, ⟨some 8, (.mv (.t 18)), 3, none, 0⟩] (some [0, 1, 7, 8])))))
def fa_166 : FnA := ⟨19, [.t 4],
  (.seq
    (.region false [⟨some 4, (.mv (.c (.int .i64 0))), 3, none, 0⟩] (some [0, 1]))
    (.seq
      (.seq
        (.region false [⟨some 6, (.mv (.t 0)), 23, none, 0⟩, ⟨some 7, (.len 23 (.t 6)), 3, none, 0⟩, ⟨some 8, (.mv (.c (.int .i64 0))), 3, none, 0⟩] (some [0, 1, 7, 8]))
        (.block 0
          (.loop [0, 1, 7, 8] [] lb_166_2)))
      (.seq
        (.region false [⟨some 4, (.mv (.c (.int .i64 (-1)))), 3, none, 0⟩] (some [4]))
        .ret)))⟩
theorem fok_166 : FnOk Try.prog 166 fa_166 an_166 := ⟨Try.f166, _, Try.func166, rfl, by kernel_rfl, rfl, rfl, by decide, by kernel_rfl⟩
/-- slices.ContainsFunc(()int,int) -/
def an_99 : Ann := ⟨[(1, 2, 3)], [(0, [0, 1]), (1, [4])], [], []⟩
def fa_99 : FnA := ⟨9, [.t 4],
  (.seq
    (.region false [⟨some 4, (.mv (.c (.bool false))), 4, none, 0⟩] (some [0, 1]))
    (.seq
      (.region false [⟨some 5, (.mv (.t 0)), 23, none, 0⟩, ⟨some 6, (.mv (.t 1)), 80, none, 0⟩, ⟨some 7, (.call (.f 166) [(.t 5), (.t 6)]), 3, none, 3⟩, ⟨some 8, (.bin .geq 3 (.t 7) (.c (.int .i64 0))), 4, none, 0⟩, ⟨some 4, (.mv (.t 8)), 4, none, 0⟩] (some [4]))
      .ret))⟩
theorem fok_99 : FnOk Try.prog 99 fa_99 an_99 := ⟨Try.f99, _, Try.func99, rfl, by kernel_rfl, rfl, rfl, by decide, by kernel_rfl⟩
/-- impl.ValidAlgebra -/
def an_23 : Ann := ⟨[(2, 2, 3), (7, 7, 3), (23, 41, 3), (23, 62, 3)], [(0, [1]), (1, [1, 3]), (2, [1, 3, 22]), (3, [2]), (4, [1, 3, 24, 25, 26]), (5, [1, 3, 24, 25, 26, 27]), (6, [1, 3, 5, 24, 25, 26]), (7, [1, 3, 24, 25, 26, 38]), (8, [2]), (9, [1, 3, 24, 25, 26]), (10, [1, 3, 42, 43]), (11, [1, 3, 42, 43, 44]), (12, [1, 3, 6, 42, 43]), (13, [1, 3, 6, 42, 43, 66]), (14, [2]), (15, [1, 3, 6, 42, 43, 69, 70]), (16, [1, 3, 6, 42, 43, 69, 70, 71]), (17, [1, 3, 6, 7, 42, 43, 69, 70]), (18, [1, 3, 6, 7, 42, 43, 69, 70, 89]), (19, [2]), (20, [1, 3, 6, 7, 42, 43, 69, 70, 92, 93]), (21, [1, 3, 6, 7, 42, 43, 69, 70, 92, 93, 94]), (22, [1, 3, 6, 7, 8, 42, 43, 69, 70, 92, 93]), (23, [1, 3, 6, 7, 42, 43, 69, 70, 92, 93, 160]), (24, [2]), (25, [1, 3, 6, 7, 42, 43, 69, 70, 92, 93]), (26, [1, 3, 6, 42, 43, 69, 70]), (27, [1, 3, 42, 43]), (28, [2])], [(5, [1, 3, 24, 25, 26], [24]), (11, [1, 3, 42, 43], [24]), (16, [1, 3, 6, 42, 43, 69, 70], [24]), (21, [1, 3, 6, 7, 42, 43, 69, 70, 92, 93], [24])], []⟩
def lb_23_5 : AC :=
  (.seq
    (.region false [⟨some 27, (.bin .lss 3 (.t 26) (.t 25)), 0, none, 0⟩] (some [1, 3, 24, 25, 26, 27]))
    (.seq
      (.cond (.t 27)
        .skip
        (.exit 0))
      (.seq
        (.block 1
          (.seq
            (.region false [⟨some 28, (.iaddr 25 (.t 24) (.t 26)), 0, none, 0⟩, ⟨some 29, (.load 23 (.t 28)), 23, none, 0⟩, ⟨some 5, (.mv (.t 29)), 23, none, 0⟩] (some [1, 3, 5, 24, 25, 26]))
            (.seq
              (.region false (gops [⟨some 30, (.mv (.t 5)), 23, none, 0⟩, ⟨some 31, (.len 23 (.t 30)), 3, none, 0⟩, ⟨some 32, (.load 3 (.t 3)), 3, none, 0⟩, ⟨some 33, (.bin .neq 3 (.t 31) (.t 32)), 4, none, 0⟩, ⟨some 34, (.mv (.t 33)), 4, none, 0⟩, ⟨some 35, (.mv (.t 5)), 23, some (34, false), 0⟩, ⟨some 36, (.mkfn 100 [(.t 3)]), 80, some (34, false), 0⟩, ⟨some 37, (.call (.f 99) [(.t 35), (.t 36)]), 4, some (34, false), 3⟩, ⟨some 38, (.pick (.t 34) (.c (.bool true)) (.t 37)), 4, none, 0⟩]) (some [1, 3, 24, 25, 26, 38]))
              (.cond (.t 38)
                (.seq
                  (.region false [⟨some 2, (.mv (.c (.bool false))), 4, none, 0⟩] (some [2]))
                  .ret)
                .skip))))
        (.region false [⟨some 39, (.bin .add 3 (.t 26) (.c (.int .i64 1))), 3, none, 0⟩, ⟨some 26, (.mv (.t 39)), 3, none, 0⟩] (some [1, 3, 24, 25, 26])))))
def lb_23_21 : AC :=
  (.seq
    (.region false [⟨some 94, (.bin .lss 3 (.t 93) (.t 92)), 0, none, 0⟩] (some [1, 3, 6, 7, 42, 43, 69, 70, 92, 93, 94]))
    (.seq
      (.cond (.t 94)
        .skip
        (.exit 6))
      (.seq
        (.block 7
          (.seq
            (.region false [⟨some 95, (.mv (.t 93)), 3, none, 0⟩, ⟨some 8, (.mv (.t 95)), 3, none, 0⟩] (some [1, 3, 6, 7, 8, 42, 43, 69, 70, 92, 93]))
            (.seq
              (.region true (gops (seg [1, 3, 6, 7, 8, 42, 43, 69, 70, 92, 93, 97, 105] [⟨some 96, (.faddr 27 (.t 1) 1), 0, none, 0⟩, ⟨some 97, (.load 25 (.t 96)), 25, none, 0⟩, ⟨some 98, (.faddr 27 (.t 1) 1), 0, none, 0⟩, ⟨some 99, (.load 25 (.t 98)), 25, none, 0⟩, ⟨some 100, (.mv (.t 6)), 3, none, 0⟩, ⟨some 101, (.iaddr 25 (.t 99) (.t 100)), 0, none, 0⟩, ⟨some 102, (.load 23 (.t 101)), 23, none, 0⟩, ⟨some 103, (.mv (.t 7)), 3, none, 0⟩, ⟨some 104, (.iaddr 23 (.t 102) (.t 103)), 0, none, 0⟩, ⟨some 105, (.load 3 (.t 104)), 3, none, 0⟩]
              (seg [1, 3, 6, 7, 8, 42, 43, 69, 70, 92, 93, 110, 115] [⟨some 106, (.iaddr 25 (.t 97) (.t 105)), 0, none, 0⟩, ⟨some 107, (.load 23 (.t 106)), 23, none, 0⟩, ⟨some 108, (.mv (.t 8)), 3, none, 0⟩, ⟨some 109, (.iaddr 23 (.t 107) (.t 108)), 0, none, 0⟩, ⟨some 110, (.load 3 (.t 109)), 3, none, 0⟩, ⟨some 111, (.faddr 27 (.t 1) 1), 0, none, 0⟩, ⟨some 112, (.load 25 (.t 111)), 25, none, 0⟩, ⟨some 113, (.mv (.t 6)), 3, none, 0⟩, ⟨some 114, (.iaddr 25 (.t 112) (.t 113)), 0, none, 0⟩, ⟨some 115, (.load 23 (.t 114)), 23, none, 0⟩]
              (seg [1, 3, 6, 7, 8, 42, 43, 69, 70, 92, 93, 110, 125] [⟨some 116, (.faddr 27 (.t 1) 1), 0, none, 0⟩, ⟨some 117, (.load 25 (.t 116)), 25, none, 0⟩, ⟨some 118, (.mv (.t 7)), 3, none, 0⟩, ⟨some 119, (.iaddr 25 (.t 117) (.t 118)), 0, none, 0⟩, ⟨some 120, (.load 23 (.t 119)), 23, none, 0⟩, ⟨some 121, (.mv (.t 8)), 3, none, 0⟩, ⟨some 122, (.iaddr 23 (.t 120) (.t 121)), 0, none, 0⟩, ⟨some 123, (.load 3 (.t 122)), 3, none, 0⟩, ⟨some 124, (.iaddr 23 (.t 115) (.t 123)), 0, none, 0⟩, ⟨some 125, (.load 3 (.t 124)), 3, none, 0⟩]
              (seg [1, 3, 6, 7, 8, 42, 43, 69, 70, 92, 93, 127, 132, 134, 135] [⟨some 126, (.bin .neq 3 (.t 110) (.t 125)), 4, none, 0⟩, ⟨some 127, (.mv (.t 126)), 4, none, 0⟩, ⟨some 128, (.faddr 27 (.t 1) 1), 0, some (127, false), 0⟩, ⟨some 129, (.load 25 (.t 128)), 25, some (127, false), 0⟩, ⟨some 130, (.mv (.t 6)), 3, some (127, false), 0⟩, ⟨some 131, (.iaddr 25 (.t 129) (.t 130)), 0, some (127, false), 0⟩, ⟨some 132, (.load 23 (.t 131)), 23, some (127, false), 0⟩, ⟨some 133, (.faddr 27 (.t 1) 0), 0, some (127, false), 0⟩, ⟨some 134, (.load 23 (.t 133)), 23, some (127, false), 0⟩, ⟨some 135, (.mv (.t 7)), 3, some (127, false), 0⟩]
              (seg [1, 3, 6, 7, 8, 42, 43, 69, 70, 92, 93, 127, 139, 141, 145] [⟨some 136, (.mv (.t 8)), 3, some (127, false), 0⟩, ⟨some 137, (.call (.f 102) [(.t 134), (.t 135), (.t 136)]), 3, some (127, false), 3⟩, ⟨some 138, (.iaddr 23 (.t 132) (.t 137)), 0, some (127, false), 0⟩, ⟨some 139, (.load 3 (.t 138)), 3, some (127, false), 0⟩, ⟨some 140, (.faddr 27 (.t 1) 0), 0, some (127, false), 0⟩, ⟨some 141, (.load 23 (.t 140)), 23, some (127, false), 0⟩, ⟨some 142, (.faddr 27 (.t 1) 1), 0, some (127, false), 0⟩, ⟨some 143, (.load 25 (.t 142)), 25, some (127, false), 0⟩, ⟨some 144, (.mv (.t 6)), 3, some (127, false), 0⟩, ⟨some 145, (.iaddr 25 (.t 143) (.t 144)), 0, some (127, false), 0⟩]
              (seg [1, 3, 6, 7, 42, 43, 69, 70, 92, 93, 127, 139, 141, 149, 154, 155] [⟨some 146, (.load 23 (.t 145)), 23, some (127, false), 0⟩, ⟨some 147, (.mv (.t 7)), 3, some (127, false), 0⟩, ⟨some 148, (.iaddr 23 (.t 146) (.t 147)), 0, some (127, false), 0⟩, ⟨some 149, (.load 3 (.t 148)), 3, some (127, false), 0⟩, ⟨some 150, (.faddr 27 (.t 1) 1), 0, some (127, false), 0⟩, ⟨some 151, (.load 25 (.t 150)), 25, some (127, false), 0⟩, ⟨some 152, (.mv (.t 6)), 3, some (127, false), 0⟩, ⟨some 153, (.iaddr 25 (.t 151) (.t 152)), 0, some (127, false), 0⟩, ⟨some 154, (.load 23 (.t 153)), 23, some (127, false), 0⟩, ⟨some 155, (.mv (.t 8)), 3, some (127, false), 0⟩]
              [⟨some 156, (.iaddr 23 (.t 154) (.t 155)), 0, some (127, false), 0⟩, ⟨some 157, (.load 3 (.t 156)), 3, some (127, false), 0⟩, ⟨some 158, (.call (.f 102) [(.t 141), (.t 149), (.t 157)]), 3, some (127, false), 3⟩, ⟨some 159, (.bin .neq 3 (.t 139) (.t 158)), 4, some (127, false), 0⟩, ⟨some 160, (.pick (.t 127) (.c (.bool true)) (.t 159)), 4, none, 0⟩] [1, 3, 6, 7, 42, 43, 69, 70, 92, 93, 160] (by decide)) [1, 3, 6, 7, 42, 43, 69, 70, 92, 93, 160] (by decide)) [1, 3, 6, 7, 42, 43, 69, 70, 92, 93, 160] (by decide)) [1, 3, 6, 7, 42, 43, 69, 70, 92, 93, 160] (by decide)) [1, 3, 6, 7, 42, 43, 69, 70, 92, 93, 160] (by decide)) [1, 3, 6, 7, 42, 43, 69, 70, 92, 93, 160] (by decide))) (some [1, 3, 6, 7, 42, 43, 69, 70, 92, 93, 160]))
              (.cond (.t 160)
                (.seq
                  (.region false [⟨some 2, (.mv (.c (.bool false))), 4, none, 0⟩] (some [2]))
                  .ret)
                .skip))))
        (.region false [⟨some 161, (.bin .add 3 (.t 93) (.c (.int .i64 1))), 3, none, 0⟩, ⟨some 93, (.mv (.t 161)), 3, none, 0⟩] (some [1, 3, 6, 7, 42, 43, 69, 70, 92, 93])))))
def lb_23_16 : AC :=
  (.seq
    (.region false [⟨some 71, (.bin .lss 3 (.t 70) (.t 69)), 0, none, 0⟩] (some [1, 3, 6, 42, 43, 69, 70, 71]))
    (.seq
      (.cond (.t 71)
        .skip
        (.exit 4))
      (.seq
        (.block 5
          (.seq
            (.region false [⟨some 72, (.mv (.t 70)), 3, none, 0⟩, ⟨some 7, (.mv (.t 72)), 3, none, 0⟩] (some [1, 3, 6, 7, 42, 43, 69, 70]))
            (.seq
              (.seq
                (.region true [⟨some 73, (.faddr 27 (.t 1) 1), 0, none, 0⟩, ⟨some 74, (.load 25 (.t 73)), 25, none, 0⟩, ⟨some 75, (.mv (.t 6)), 3, none, 0⟩, ⟨some 76, (.iaddr 25 (.t 74) (.t 75)), 0, none, 0⟩, ⟨some 77, (.load 23 (.t 76)), 23, none, 0⟩, ⟨some 78, (.mv (.t 7)), 3, none, 0⟩, ⟨some 79, (.iaddr 23 (.t 77) (.t 78)), 0, none, 0⟩, ⟨some 80, (.load 3 (.t 79)), 3, none, 0⟩, ⟨some 81, (.faddr 27 (.t 1) 1), 0, none, 0⟩, ⟨some 82, (.load 25 (.t 81)), 25, none, 0⟩, ⟨some 83, (.mv (.t 7)), 3, none, 0⟩, ⟨some 84, (.iaddr 25 (.t 82) (.t 83)), 0, none, 0⟩, ⟨some 85, (.load 23 (.t 84)), 23, none, 0⟩, ⟨some 86, (.mv (.t 6)), 3, none, 0⟩, ⟨some 87, (.iaddr 23 (.t 85) (.t 86)), 0, none, 0⟩, ⟨some 88, (.load 3 (.t 87)), 3, none, 0⟩, ⟨some 89, (.bin .neq 3 (.t 80) (.t 88)), 4, none, 0⟩] (some [1, 3, 6, 7, 42, 43, 69, 70, 89]))
                (.cond (.t 89)
                  (.seq
                    (.region false [⟨some 2, (.mv (.c (.bool false))), 4, none, 0⟩] (some [2]))
                    .ret)
                  .skip))
              (.seq
                (.region false [⟨some 90, (.faddr 27 (.t 1) 0), 0, none, 0⟩, ⟨some 91, (.load 23 (.t 90)), 23, none, 0⟩, ⟨some 92, (.len 23 (.t 91)), 3, none, 0⟩, ⟨some 93, (.mv (.c (.int .i64 0))), 3, none, 0⟩] (some [1, 3, 6, 7, 42, 43, 69, 70, 92, 93]))
                (.block 6
                  (.loop [1, 3, 6, 7, 42, 43, 69, 70, 92, 93] [24] lb_23_21))))))
        (.region false [⟨some 162, (.bin .add 3 (.t 70) (.c (.int .i64 1))), 3, none, 0⟩, ⟨some 70, (.mv (.t 162)), 3, none, 0⟩] (some [1, 3, 6, 42, 43, 69, 70])))))
def lb_23_11 : AC :=
  (.seq
    (.region false [⟨some 44, (.bin .lss 3 (.t 43) (.t 42)), 0, none, 0⟩] (some [1, 3, 42, 43, 44]))
    (.seq
      (.cond (.t 44)
        .skip
        (.exit 2))
      (.seq
        (.block 3
          (.seq
            (.region false [⟨some 45, (.mv (.t 43)), 3, none, 0⟩, ⟨some 6, (.mv (.t 45)), 3, none, 0⟩] (some [1, 3, 6, 42, 43]))
            (.seq
              (.seq
                (.region true (gops (seg [1, 3, 6, 42, 43, 54, 55] [⟨some 46, (.faddr 27 (.t 1) 1), 0, none, 0⟩, ⟨some 47, (.load 25 (.t 46)), 25, none, 0⟩, ⟨some 48, (.mv (.t 6)), 3, none, 0⟩, ⟨some 49, (.iaddr 25 (.t 47) (.t 48)), 0, none, 0⟩, ⟨some 50, (.load 23 (.t 49)), 23, none, 0⟩, ⟨some 51, (.load 3 (.t 3)), 3, none, 0⟩, ⟨some 52, (.bin .sub 3 (.t 51) (.c (.int .i64 1))), 3, none, 0⟩, ⟨some 53, (.iaddr 23 (.t 50) (.t 52)), 0, none, 0⟩, ⟨some 54, (.load 3 (.t 53)), 3, none, 0⟩, ⟨some 55, (.mv (.t 6)), 3, none, 0⟩]
                [⟨some 56, (.bin .neq 3 (.t 54) (.t 55)), 4, none, 0⟩, ⟨some 57, (.mv (.t 56)), 4, none, 0⟩, ⟨some 58, (.faddr 27 (.t 1) 1), 0, some (57, false), 0⟩, ⟨some 59, (.load 25 (.t 58)), 25, some (57, false), 0⟩, ⟨some 60, (.mv (.t 6)), 3, some (57, false), 0⟩, ⟨some 61, (.iaddr 25 (.t 59) (.t 60)), 0, some (57, false), 0⟩, ⟨some 62, (.load 23 (.t 61)), 23, some (57, false), 0⟩, ⟨some 63, (.iaddr 23 (.t 62) (.c (.int .i64 0))), 0, some (57, false), 0⟩, ⟨some 64, (.load 3 (.t 63)), 3, some (57, false), 0⟩, ⟨some 65, (.bin .neq 3 (.t 64) (.c (.int .i64 0))), 4, some (57, false), 0⟩, ⟨some 66, (.pick (.t 57) (.c (.bool true)) (.t 65)), 4, none, 0⟩] [1, 3, 6, 42, 43, 66] (by decide))) (some [1, 3, 6, 42, 43, 66]))
                (.cond (.t 66)
                  (.seq
                    (.region false [⟨some 2, (.mv (.c (.bool false))), 4, none, 0⟩] (some [2]))
                    .ret)
                  .skip))
              (.seq
                (.region false [⟨some 67, (.faddr 27 (.t 1) 0), 0, none, 0⟩, ⟨some 68, (.load 23 (.t 67)), 23, none, 0⟩, ⟨some 69, (.len 23 (.t 68)), 3, none, 0⟩, ⟨some 70, (.mv (.c (.int .i64 0))), 3, none, 0⟩] (some [1, 3, 6, 42, 43, 69, 70]))
                (.block 4
                  (.loop [1, 3, 6, 42, 43, 69, 70] [24] lb_23_16))))))
        (.region false [⟨some 163, (.bin .add 3 (.t 43) (.c (.int .i64 1))), 3, none, 0⟩, ⟨some 43, (.mv (.t 163)), 3, none, 0⟩] (some [1, 3, 42, 43])))))
def fa_23 : FnA := ⟨164, [.t 2],
  (.seq
    (.region false [⟨some 1, (.box 27 (.t 0)), 0, none, 0⟩, ⟨some 2, (.mv (.c (.bool false))), 4, none, 0⟩] (some [1]))
    (.seq
      (.region false [⟨some 9, (.faddr 27 (.t 1) 0), 0, none, 0⟩, ⟨some 10, (.load 23 (.t 9)), 23, none, 0⟩, ⟨some 11, (.len 23 (.t 10)), 3, none, 0⟩, ⟨some 3, (.alloc 3), 0, none, 0⟩, ⟨none, (.store 3 (.t 3) (.t 11)), 0, none, 0⟩] (some [1, 3]))
      (.seq
        (.seq
          (.region false (gops [⟨some 12, (.faddr 27 (.t 1) 0), 0, none, 0⟩, ⟨some 13, (.load 23 (.t 12)), 23, none, 0⟩, ⟨some 14, (.call (.f 91) [(.t 13)]), 4, none, 3⟩, ⟨some 15, (.un .not (.t 14)), 4, none, 0⟩, ⟨some 16, (.mv (.t 15)), 4, none, 0⟩, ⟨some 17, (.faddr 27 (.t 1) 1), 0, some (16, false), 0⟩, ⟨some 18, (.load 25 (.t 17)), 25, some (16, false), 0⟩, ⟨some 19, (.len 25 (.t 18)), 3, some (16, false), 0⟩, ⟨some 20, (.load 3 (.t 3)), 3, some (16, false), 0⟩, ⟨some 21, (.bin .neq 3 (.t 19) (.t 20)), 4, some (16, false), 0⟩, ⟨some 22, (.pick (.t 16) (.c (.bool true)) (.t 21)), 4, none, 0⟩]) (some [1, 3, 22]))
          (.cond (.t 22)
            (.seq
              (.region false [⟨some 2, (.mv (.c (.bool false))), 4, none, 0⟩] (some [2]))
              .ret)
            .skip))
        (.seq
          (.seq
            (.region false [⟨some 23, (.faddr 27 (.t 1) 1), 0, none, 0⟩, ⟨some 24, (.load 25 (.t 23)), 25, none, 0⟩, ⟨some 25, (.len 25 (.t 24)), 3, none, 0⟩, ⟨some 26, (.mv (.c (.int .i64 0))), 3, none, 0⟩] (some [1, 3, 24, 25, 26]))
            (.block 0
              (.loop [1, 3, 24, 25, 26] [24] lb_23_5)))
          (.seq
            (.seq
              (.region false [⟨some 40, (.faddr 27 (.t 1) 0), 0, none, 0⟩, ⟨some 41, (.load 23 (.t 40)), 23, none, 0⟩, ⟨some 42, (.len 23 (.t 41)), 3, none, 0⟩, ⟨some 43, (.mv (.c (.int .i64 0))), 3, none, 0⟩] (some [1, 3, 42, 43]))
              (.block 2
                (.loop [1, 3, 42, 43] [24] lb_23_11)))
            (.seq
              (.region false [⟨some 2, (.mv (.c (.bool true))), 4, none, 0⟩] (some [2]))
              .ret))))))⟩
theorem fok_23 : FnOk Try.prog 23 fa_23 an_23 := ⟨Try.f23, _, Try.func23, rfl, by kernel_rfl, rfl, rfl, by decide, by kernel_rfl⟩
/-- impl.at$1 -/
def an_174 : Ann := ⟨[(1, 5, 3)], [(0, [0, 1]), (1, [3])], [], []⟩
def fa_174 : FnA := ⟨11, [.t 3],
  (.seq
    (.region false [⟨some 3, (.mv (.c (.bool false))), 4, none, 0⟩] (some [0, 1]))
    (.seq
      (.region false [⟨some 4, (.mv (.t 0)), 3, none, 0⟩, ⟨some 5, (.faddr 27 (.t 1) 0), 0, none, 0⟩, ⟨some 6, (.load 23 (.t 5)), 23, none, 0⟩, ⟨some 7, (.len 23 (.t 6)), 3, none, 0⟩, ⟨some 8, (.bin .sub 3 (.t 7) (.c (.int .i64 1))), 3, none, 0⟩, ⟨some 9, (.call (.f 101) [(.t 4), (.c (.int .i64 0)), (.t 8)]), 4, none, 3⟩, ⟨some 10, (.un .not (.t 9)), 4, none, 0⟩, ⟨some 3, (.mv (.t 10)), 4, none, 0⟩] (some [3]))
      .ret))⟩
theorem fok_174 : FnOk Try.prog 174 fa_174 an_174 := ⟨Try.f174, _, Try.func174, rfl, by kernel_rfl, rfl, rfl, by decide, by kernel_rfl⟩
/-- impl.at -/
def an_117 : Ann := ⟨[(1, 1, 3), (1, 5, 3)], [(0, [1, 2]), (1, [4])], [], []⟩
def fa_117 : FnA := ⟨13, [.t 4],
  (.seq
    (.region false [⟨some 2, (.box 27 (.t 0)), 0, none, 0⟩, ⟨some 4, (.mv (.c (.bool false))), 4, none, 0⟩] (some [1, 2]))
    (.seq
      (.region false (gops [⟨some 5, (.load 27 (.t 2)), 27, none, 0⟩, ⟨some 6, (.call (.f 23) [(.t 5)]), 4, none, 3⟩, ⟨some 7, (.mv (.t 6)), 4, none, 0⟩, ⟨some 8, (.mv (.t 1)), 23, some (7, true), 0⟩, ⟨some 9, (.mkfn 174 [(.t 2)]), 80, some (7, true), 0⟩, ⟨some 10, (.call (.f 99) [(.t 8), (.t 9)]), 4, some (7, true), 3⟩, ⟨some 11, (.un .not (.t 10)), 4, some (7, true), 0⟩, ⟨some 12, (.pick (.t 7) (.t 11) (.c (.bool false))), 4, none, 0⟩, ⟨some 4, (.mv (.t 12)), 4, none, 0⟩]) (some [4]))
      .ret))⟩
theorem fok_117 : FnOk Try.prog 117 fa_117 an_117 := ⟨Try.f117, _, Try.func117, rfl, by kernel_rfl, rfl, rfl, by decide, by kernel_rfl⟩
/-- impl.imply -/
def an_118 : Ann := ⟨[(5, 11, 3), (6, 4, 3)], [(0, [1, 2, 3]), (1, [1, 2, 3, 7]), (2, [1, 2, 3, 7, 11, 12]), (3, [1, 2, 3, 7, 11, 12, 13]), (4, [1, 2, 3, 7, 8, 11, 12]), (5, [1, 2, 3, 7, 8, 11, 12, 26]), (6, [1, 2, 3, 7, 11, 12]), (7, [1, 2, 3, 7, 11, 12]), (8, [6])], [(3, [1, 2, 3, 7, 11, 12], [])], []⟩
def lb_118_3 : AC :=
  (.seq
    (.region false [⟨some 13, (.bin .lss 3 (.t 12) (.t 11)), 0, none, 0⟩] (some [1, 2, 3, 7, 11, 12, 13]))
    (.seq
      (.cond (.t 13)
        .skip
        (.exit 0))
      (.seq
        (.block 1
          (.seq
            (.region false [⟨some 14, (.mv (.t 12)), 3, none, 0⟩, ⟨some 8, (.mv (.t 14)), 3, none, 0⟩] (some [1, 2, 3, 7, 8, 11, 12]))
            (.seq
              (.region true [⟨some 15, (.faddr 27 (.t 3) 0), 0, none, 0⟩, ⟨some 16, (.load 23 (.t 15)), 23, none, 0⟩, ⟨some 17, (.faddr 27 (.t 3) 1), 0, none, 0⟩, ⟨some 18, (.load 25 (.t 17)), 25, none, 0⟩, ⟨some 19, (.mv (.t 1)), 3, none, 0⟩, ⟨some 20, (.iaddr 25 (.t 18) (.t 19)), 0, none, 0⟩, ⟨some 21, (.load 23 (.t 20)), 23, none, 0⟩, ⟨some 22, (.mv (.t 8)), 3, none, 0⟩, ⟨some 23, (.iaddr 23 (.t 21) (.t 22)), 0, none, 0⟩, ⟨some 24, (.load 3 (.t 23)), 3, none, 0⟩, ⟨some 25, (.mv (.t 2)), 3, none, 0⟩, ⟨some 26, (.call (.f 131) [(.t 16), (.t 24), (.t 25)]), 4, none, 3⟩] (some [1, 2, 3, 7, 8, 11, 12, 26]))
              (.cond (.t 26)
                (.region false [⟨some 27, (.faddr 27 (.t 3) 0), 0, none, 0⟩, ⟨some 28, (.load 23 (.t 27)), 23, none, 0⟩, ⟨some 29, (.mv (.t 7)), 3, none, 0⟩, ⟨some 30, (.mv (.t 8)), 3, none, 0⟩, ⟨some 31, (.call (.f 102) [(.t 28), (.t 29), (.t 30)]), 3, none, 3⟩, ⟨some 7, (.mv (.t 31)), 3, none, 0⟩] (some [1, 2, 3, 7, 11, 12]))
                .skip))))
        (.region false [⟨some 32, (.bin .add 3 (.t 12) (.c (.int .i64 1))), 3, none, 0⟩, ⟨some 12, (.mv (.t 32)), 3, none, 0⟩] (some [1, 2, 3, 7, 11, 12])))))
def fa_118 : FnA := ⟨34, [.t 6],
  (.seq
    (.region false [⟨some 3, (.box 27 (.t 0)), 0, none, 0⟩, ⟨some 6, (.mv (.c (.int .i64 0))), 3, none, 0⟩] (some [1, 2, 3]))
    (.seq
      (.region false [⟨some 7, (.mv (.c (.int .i64 0))), 3, none, 0⟩] (some [1, 2, 3, 7]))
      (.seq
        (.seq
          (.region false [⟨some 9, (.faddr 27 (.t 3) 0), 0, none, 0⟩, ⟨some 10, (.load 23 (.t 9)), 23, none, 0⟩, ⟨some 11, (.len 23 (.t 10)), 3, none, 0⟩, ⟨some 12, (.mv (.c (.int .i64 0))), 3, none, 0⟩] (some [1, 2, 3, 7, 11, 12]))
          (.block 0
            (.loop [1, 2, 3, 7, 11, 12] [] lb_118_3)))
        (.seq
          (.region false [⟨some 33, (.mv (.t 7)), 3, none, 0⟩, ⟨some 6, (.mv (.t 33)), 3, none, 0⟩] (some [6]))
          .ret))))⟩
theorem fok_118 : FnOk Try.prog 118 fa_118 an_118 := ⟨Try.f118, _, Try.func118, rfl, by kernel_rfl, rfl, rfl, by decide, by kernel_rfl⟩
/-- impl.not -/
def an_127 : Ann := ⟨[(1, 2, 3)], [(0, [1, 2]), (1, [4])], [], []⟩
def fa_127 : FnA := ⟨8, [.t 4],
  (.seq
    (.region false [⟨some 2, (.box 27 (.t 0)), 0, none, 0⟩, ⟨some 4, (.mv (.c (.int .i64 0))), 3, none, 0⟩] (some [1, 2]))
    (.seq
      (.region false [⟨some 5, (.load 27 (.t 2)), 27, none, 0⟩, ⟨some 6, (.mv (.t 1)), 3, none, 0⟩, ⟨some 7, (.call (.f 118) [(.t 5), (.t 6), (.c (.int .i64 0))]), 3, none, 3⟩, ⟨some 4, (.mv (.t 7)), 3, none, 0⟩] (some [4]))
      .ret))⟩
theorem fok_127 : FnOk Try.prog 127 fa_127 an_127 := ⟨Try.f127, _, Try.func127, rfl, by kernel_rfl, rfl, rfl, by decide, by kernel_rfl⟩
theorem tt_3 : tyOf Try.prog 3 = ⟨(.int .i64), 1, 8, (some (.int .i64 0))⟩ := by kernel_rfl
theorem tt_23 : tyOf Try.prog 23 = ⟨(.slice 3), 1, 24, (some .nil)⟩ := by kernel_rfl
theorem tt_25 : tyOf Try.prog 25 = ⟨(.slice 23), 1, 24, (some .nil)⟩ := by kernel_rfl
theorem tt_27 : tyOf Try.prog 27 = ⟨(.struct [(0, 23), (1, 25)]), 2, 48, (some (.agg [.nil, .nil]))⟩ := by kernel_rfl
noncomputable def C0 : Ctx := ⟨Try.prog, tyOf Try.prog, fun _ => none⟩
@[simp] theorem C0_P : C0.P = Try.prog := rfl
@[simp] theorem C0_tt (T : Nat) : C0.tt T = tyOf Try.prog T := rfl
theorem hty0 : TyOk C0.P C0.tt := tyOf_ok _
theorem pcT (T : List (Fam Try.prog)) {f : Nat} {fa : FnA} {A : Ann} (hf : FnOk Try.prog f fa A) {ds : List D} {fresh : Bool} {R : D → List D → Prop} (h : run C0 0 (tabK T) fa.ac (retQ C0.tt fresh fa.res R false) ⟨args0 0 ds, [], 1⟩) : PC Try.prog f ds none fresh R :=
  pc_of_run (C := C0) (kb := 0) (io := none) hty0 Try.checked.mixed (tabK_ok (C := C0) T) hf h
attribute [simp] tt_3 tt_23 tt_25 tt_27 
theorem tt_4 : tyOf Try.prog 4 = ⟨.bool, 1, 1, (some (.bool false))⟩ := by kernel_rfl
theorem tt_5 : tyOf Try.prog 5 = ⟨(.int .u8), 1, 1, (some (.int .u8 0))⟩ := by kernel_rfl
theorem tt_9 : tyOf Try.prog 9 = ⟨.str, 1, 16, (some (.str []))⟩ := by kernel_rfl
theorem tt_22 : tyOf Try.prog 22 = ⟨(.slice 5), 1, 24, (some .nil)⟩ := by kernel_rfl
theorem tt_101 : tyOf Try.prog 101 = ⟨(.struct [(0, 22), (1, 3)]), 2, 32, (some (.agg [.nil, (.int .i64 0)]))⟩ := by kernel_rfl
theorem tt_105 : tyOf Try.prog 105 = ⟨(.slice 9), 1, 24, (some .nil)⟩ := by kernel_rfl
theorem tt_128 : tyOf Try.prog 128 = ⟨(.slice 27), 1, 24, (some .nil)⟩ := by kernel_rfl
theorem tt_134 : tyOf Try.prog 134 = ⟨(.slice 25), 1, 24, (some .nil)⟩ := by kernel_rfl
attribute [simp] tt_4 tt_5 tt_9 tt_22 tt_101 tt_105 tt_128 tt_134
end Go.PS
end

section
-- Contracts of the laws' helpers.
set_option maxRecDepth 10000
set_option linter.unusedVariables false
set_option linter.unusedSimpArgs false
namespace Go.PS
open Go.Proofs

/-- Of a size that the machine holds. -/
def Big (n : Nat) : Prop := n ≤ 1099511627776
theorem Big.le {n : Nat} (h : Big n) : n ≤ 1099511627776 := h
def BigR (t : List (List Int)) : Prop := Big t.length ∧ ∀ r ∈ t, Big r.length
/-- Of any size. -/
def Hu (n : Nat) : Prop := n ≤ 9223372036854775807
theorem Hu.le {n : Nat} (h : Hu n) : n ≤ 9223372036854775807 := h
def HuR (t : List (List Int)) : Prop := Hu t.length ∧ ∀ r ∈ t, Hu r.length
theorem HuR.row {t : List (List Int)} (h : HuR t) {i : Nat} (hi : i < t.length) : Hu (gr t i).length := h.2 _ (gr_mem hi)
theorem BigR.row {t : List (List Int)} (h : BigR t) {i : Nat} (hi : i < t.length) : Big (gr t i).length := h.2 _ (gr_mem hi)



abbrev AL (u : List Int) (t : List (List Int)) : D := .agg [IL u, RL t]
end Go.PS
end

section
-- Lattices by rows of bits: what the functions compute, in plain Lean.
set_option linter.unusedVariables false
set_option linter.unusedSimpArgs false
namespace Go.PS

/-- Is 'y' at least 'x'? -/
def tb (up : List Int) (x y : Nat) : Bool := (gi up x).toNat.testBit y

theorem bit_math {v : Int} (h0 : 0 ≤ v) (y : Nat) : ((v.tdiv (2 ^ y)).tmod 2 = 1) ↔ v.toNat.testBit y = true := by
  obtain ⟨n, rfl⟩ := Int.eq_ofNat_of_zero_le h0
  have e : ((n : Int).tdiv (2 ^ y)).tmod 2 = ((n / 2 ^ y % 2 : Nat) : Int) := by
    have : (2 : Int) ^ y = ((2 ^ y : Nat) : Int) := by push_cast; rfl
    rw [this]
    rw [Int.tdiv_eq_ediv_of_nonneg (by omega), ← Int.natCast_ediv, Int.tmod_eq_emod_of_nonneg (Int.natCast_nonneg _)]
    rfl
  rw [e, Nat.testBit_eq_decide_div_mod_eq, decide_eq_true_eq, Int.toNat_natCast]
  generalize n / 2 ^ y % 2 = m
  omega

/-- 'v>>y%2 == 1', whatever the number. -/
theorem shr_bit (v : Int) {y : Nat} (hy : y ≤ 63) : ((bShr .i64 v y).tmod 2 = 1) ↔ v.toNat.testBit y = true := by
  have e : bShr .i64 v y = v.fdiv (2 ^ y) := by
    unfold bShr
    rw [show min (y : Int).toNat IntKind.i64.bits = y from by simp [IntKind.bits]; omega]
  rw [e]
  have hp : (0 : Int) < 2 ^ y := Int.pow_pos (by omega)
  rcases Int.le_total 0 v with h | h
  · rw [← bit_math h, Int.fdiv_eq_ediv_of_nonneg _ (by omega), Int.tdiv_eq_ediv_of_nonneg h]
  · rcases Int.lt_or_eq_of_le h with h | h
    · have h1 : v.fdiv (2 ^ y) < 0 := by
        rw [Int.fdiv_eq_ediv_of_nonneg _ (by omega)]
        exact Int.ediv_neg_of_neg_of_pos h hp
      have h2 : v.toNat = 0 := by omega
      rw [h2, Nat.zero_testBit]
      have : (v.fdiv (2 ^ y)).tmod 2 ≤ 0 := by
        have h3 := Int.tmod_nonneg (a := -(v.fdiv (2 ^ y))) 2 (by omega)
        rw [Int.neg_tmod] at h3
        omega
      constructor
      · intro h; omega
      · intro h; cases h
    · subst h; simp

theorem ofInt_nat {v : Int} (h0 : 0 ≤ v) (h1 : v < 9223372036854775808) : (BitVec.ofInt 64 v).toNat = v.toNat := by
  rw [BitVec.toNat_ofInt]; omega

theorem bAnd_nat {a b : Int} (ha : 0 ≤ a) (ha1 : a < 9223372036854775808) (hb : 0 ≤ b) (hb1 : b < 9223372036854775808) : bAnd .i64 a b = ((a.toNat &&& b.toNat : Nat) : Int) := by
  show IntKind.i64.wrap (((BitVec.ofInt 64 a &&& BitVec.ofInt 64 b).toNat : Nat) : Int) = _
  rw [BitVec.toNat_and, ofInt_nat ha ha1, ofInt_nat hb hb1]
  have : a.toNat &&& b.toNat ≤ a.toNat := Nat.and_le_left
  exact wrap64 (by omega) (by omega)

theorem bAndNot_zero {a b : Int} (ha : 0 ≤ a) (ha1 : a < 9223372036854775808) (hb : 0 ≤ b) (hb1 : b < 9223372036854775808) : bAndNot .i64 a b = 0 ↔ ∀ z, a.toNat.testBit z = true → b.toNat.testBit z = true := by
  have e : (BitVec.ofInt 64 a &&& ~~~(BitVec.ofInt 64 b)).toNat ≤ a.toNat := by
    rw [BitVec.toNat_and, ofInt_nat ha ha1]; exact Nat.and_le_left
  have e2 : bAndNot .i64 a b = (((BitVec.ofInt 64 a &&& ~~~(BitVec.ofInt 64 b)).toNat : Nat) : Int) := by
    show IntKind.i64.wrap (((BitVec.ofInt 64 a &&& ~~~(BitVec.ofInt 64 b)).toNat : Nat) : Int) = _
    exact wrap64 (by omega) (by omega)
  rw [e2]
  have e3 : (((BitVec.ofInt 64 a &&& ~~~(BitVec.ofInt 64 b)).toNat : Nat) : Int) = 0 ↔ (BitVec.ofInt 64 a &&& ~~~(BitVec.ofInt 64 b)) = 0#64 := by
    rw [BitVec.toNat_eq]; simp
  rw [e3]
  constructor
  · intro h z hz
    have hz64 : z < 64 := by
      rcases Nat.lt_or_ge z 64 with h | h
      · exact h
      · have : a.toNat.testBit z = false := Nat.testBit_lt_two_pow (Nat.lt_of_lt_of_le (show a.toNat < 2 ^ 63 by omega) (Nat.pow_le_pow_right (by omega) (by omega)))
        rw [this] at hz; cases hz
    have := congrArg (fun v => v.getLsbD z) h
    simp only [BitVec.getLsbD_and, BitVec.getLsbD_not, BitVec.getLsbD_zero, hz64, decide_true, Bool.true_and] at this
    rw [← BitVec.testBit_toNat, ← BitVec.testBit_toNat, ofInt_nat ha ha1, ofInt_nat hb hb1, hz] at this
    simpa using this
  · intro h
    apply BitVec.eq_of_getLsbD_eq
    intro z hz
    have := h z
    simp only [BitVec.getLsbD_and, BitVec.getLsbD_not, BitVec.getLsbD_zero, hz, decide_true, Bool.true_and]
    rw [← BitVec.testBit_toNat, ← BitVec.testBit_toNat, ofInt_nat ha ha1, ofInt_nat hb hb1]
    cases h1 : a.toNat.testBit z
    · rfl
    · rw [this h1]; rfl

structure VO (up : List Int) : Prop where
  one : 1 ≤ up.length
  six : up.length ≤ 6
  rng : ∀ x, x < up.length → 0 ≤ gi up x ∧ gi up x < 2 ^ up.length
  row : ∀ x, x < up.length → tb up x x = true ∧ tb up 0 x = true ∧ tb up x (up.length - 1) = true
  anti : ∀ x, x < up.length → ∀ y, y < up.length → x ≠ y → tb up x y = true → tb up y x = false
  trans : ∀ x, x < up.length → ∀ y, y < up.length → ∀ z, z < up.length → tb up x y = true → tb up y z = true → tb up x z = true

noncomputable instance (up : List Int) : Decidable (VO up) := Classical.propDecidable _

/-- Rows of few bits. -/
structure Sm (up : List Int) : Prop where
  six : up.length ≤ 6
  rng : ∀ x, x < up.length → 0 ≤ gi up x ∧ gi up x < 2 ^ up.length

theorem VO.sm {up : List Int} (v : VO up) : Sm up := ⟨v.six, v.rng⟩

theorem Sm.lt {up : List Int} (s : Sm up) {x : Nat} (h : x < up.length) : 0 ≤ gi up x ∧ gi up x < 64 := by
  have h1 := s.rng x h
  have hp : (2 : Int) ^ up.length ≤ 64 := by
    have := Nat.pow_le_pow_right (n := 2) (by omega) s.six
    exact_mod_cast this
  omega

theorem Sm.bit {up : List Int} (s : Sm up) {x z : Nat} (h : x < up.length) (hz : tb up x z = true) : z < up.length := by
  rcases Nat.lt_or_ge z up.length with q | q
  · exact q
  · have h1 := s.rng x h
    have h2 : (gi up x).toNat < 2 ^ up.length := by
      have : ((gi up x).toNat : Int) < ((2 ^ up.length : Nat) : Int) := by push_cast; omega
      exact_mod_cast this
    have : tb up x z = false := Nat.testBit_lt_two_pow (Nat.lt_of_lt_of_le h2 (Nat.pow_le_pow_right (by omega) q))
    rw [this] at hz; cases hz

/-- The first of the numbers below 'n' with 'p', -1 if there is none. -/
def firstI (n : Nat) (p : Nat → Bool) : Int := match (List.range n).find? p with | some z => z | none => -1

theorem firstI_some {n z : Nat} {p : Nat → Bool} (hz : z < n) (h : p z = true) (hj : ∀ j, j < z → p j = false) : firstI n p = z := by
  have : (List.range n).find? p = some z := by
    rw [List.find?_range_eq_some]
    exact ⟨h, by simpa using hz, fun j hj' => by simp [hj j hj']⟩
  simp [firstI, this]
theorem firstI_none {n : Nat} {p : Nat → Bool} (hj : ∀ j, j < n → p j = false) : firstI n p = -1 := by
  have : (List.range n).find? p = none := by
    rw [List.find?_eq_none]
    intro x hx
    simp [hj x (by simpa using hx)]
  simp [firstI, this]
theorem firstI_range {n : Nat} {p : Nat → Bool} : firstI n p = -1 ∨ ∃ z, z < n ∧ p z = true ∧ firstI n p = z := by
  unfold firstI
  split
  · rename_i z h
    rw [List.find?_range_eq_some] at h
    exact .inr ⟨z, by simpa using h.2.1, h.1, rfl⟩
  · exact .inl rfl

/-- Is 'z' the meet of 'x' and 'y'? -/
def isM (up : List Int) (x y z : Nat) : Bool := tb up z x && tb up z y && (List.range up.length).all fun w => !tb up w x || !tb up w y || tb up w z
def isJ (up : List Int) (x y z : Nat) : Bool := tb up x z && tb up y z && (List.range up.length).all fun w => !tb up x w || !tb up y w || tb up z w
def meetM (up : List Int) (x y : Nat) : Int := firstI up.length (isM up x y)
def joinM (up : List Int) (x y : Nat) : Int := firstI up.length (isJ up x y)

theorem bAnd_bit {up : List Int} (s : Sm up) {x y : Nat} (hx : x < up.length) (hy : y < up.length) (z : Nat) : (bAnd .i64 (gi up x) (gi up y)).toNat.testBit z = (tb up x z && tb up y z) := by
  have h1 := s.lt hx
  have h2 := s.lt hy
  rw [bAnd_nat h1.1 (by omega) h2.1 (by omega), Int.toNat_natCast, Nat.testBit_and]
  rfl

theorem bAnd_rng {up : List Int} (s : Sm up) {x y : Nat} (hx : x < up.length) (hy : y < up.length) : 0 ≤ bAnd .i64 (gi up x) (gi up y) ∧ bAnd .i64 (gi up x) (gi up y) < 9223372036854775808 := by
  have h1 := s.lt hx
  have h2 := s.lt hy
  rw [bAnd_nat h1.1 (by omega) h2.1 (by omega)]
  have : (gi up x).toNat &&& (gi up y).toNat ≤ (gi up x).toNat := Nat.and_le_left
  omega

/-- The program's join by bits. -/
theorem isJ_bits {up : List Int} (s : Sm up) {x y z : Nat} (hx : x < up.length) (hy : y < up.length) (hz : z < up.length) :
    (decide ((bShr .i64 (bAnd .i64 (gi up x) (gi up y)) z).tmod 2 = 1) && decide (bAndNot .i64 (bAnd .i64 (gi up x) (gi up y)) (gi up z) = 0)) = isJ up x y z := by
  have h6 := s.six
  have hr := bAnd_rng s hx hy
  have h3 := s.lt hz
  rw [Bool.eq_iff_iff]
  simp only [Bool.and_eq_true, decide_eq_true_eq, isJ, List.all_eq_true, List.mem_range]
  rw [shr_bit _ (by omega), bAnd_bit s hx hy, bAndNot_zero hr.1 hr.2 h3.1 (by omega), Bool.and_eq_true]
  refine and_congr_right (fun _ => ?_)
  constructor
  · intro h w hw
    have := h w
    rw [bAnd_bit s hx hy] at this
    cases h1 : tb up x w
    · rfl
    · cases h2 : tb up y w
      · rfl
      · rw [h1, h2] at this
        simpa [tb] using this rfl
  · intro h w hw
    rw [bAnd_bit s hx hy, Bool.and_eq_true] at hw
    have := h w (s.bit hx hw.1)
    rw [hw.1, hw.2] at this
    simpa [tb] using this

/-- The program's looks at one row, and at one pair. -/
def okRow (up : List Int) (x : Nat) : Bool := decide (0 ≤ gi up x) && decide (gi up x ≤ 2 ^ up.length - 1) && tb up x x && tb up x (up.length - 1) && tb up 0 x
def okPair (up : List Int) (x y : Nat) : Bool := !(tb up x y && ((decide (y ≠ x) && tb up y x) || decide (bAndNot .i64 (gi up y) (gi up x) ≠ 0)))

theorem vo_of_ok {up : List Int} (h1 : 1 ≤ up.length) (h6 : up.length ≤ 6) (h : ∀ x, x < up.length → okRow up x = true ∧ ∀ y, y < up.length → okPair up x y = true) : VO up := by
  have hr : ∀ x, x < up.length → 0 ≤ gi up x ∧ gi up x < 2 ^ up.length := fun x hx => by
    have := (h x hx).1
    simp only [okRow, Bool.and_eq_true, decide_eq_true_eq] at this
    omega
  have s : Sm up := ⟨h6, hr⟩
  refine ⟨h1, h6, hr, fun x hx => ?_, fun x hx y hy hne hxy => ?_, fun x hx y hy z hz hxy hyz => ?_⟩
  · have := (h x hx).1
    simp only [okRow, Bool.and_eq_true, decide_eq_true_eq] at this
    exact ⟨this.1.1.2, this.2, this.1.2⟩
  · have := (h x hx).2 y hy
    simp only [okPair, hxy, Bool.true_and] at this
    cases hyx : tb up y x
    · rfl
    · simp [hyx, Ne.symm hne] at this
  · have := (h x hx).2 y hy
    have l1 := s.lt hx
    have l2 := s.lt hy
    have e : bAndNot .i64 (gi up y) (gi up x) = 0 := by
      simp only [okPair, hxy, Bool.true_and] at this
      cases hyx : decide (bAndNot .i64 (gi up y) (gi up x) ≠ 0)
      · simpa using hyx
      · simp [hyx] at this
    exact (bAndNot_zero l2.1 (by omega) l1.1 (by omega)).1 e z hyz

theorem ok_of_vo {up : List Int} (v : VO up) {x : Nat} (hx : x < up.length) : okRow up x = true ∧ ∀ y, y < up.length → okPair up x y = true := by
  have s := v.sm
  constructor
  · have := v.rng x hx
    have h2 := v.row x hx
    simp only [okRow, Bool.and_eq_true, decide_eq_true_eq]
    exact ⟨⟨⟨⟨this.1, by omega⟩, h2.1⟩, h2.2.2⟩, h2.2.1⟩
  · intro y hy
    have l1 := s.lt hx
    have l2 := s.lt hy
    cases hxy : tb up x y
    · simp [okPair, hxy]
    · have e : bAndNot .i64 (gi up y) (gi up x) = 0 := (bAndNot_zero l2.1 (by omega) l1.1 (by omega)).2 fun z hz => v.trans x hx y hy z (s.bit hy hz) hxy hz
      by_cases hne : y = x
      · simp [okPair, hne, show bAndNot .i64 (gi up x) (gi up x) = 0 by rw [← hne] at e ⊢; exact e]
      · simp [okPair, e, v.anti x hx y hy (Ne.symm hne) hxy]

/-- A lattice. -/
structure VL (up : List Int) : Prop where
  ord : VO up
  mj : ∀ x, x < up.length → ∀ y, y < up.length → 0 ≤ meetM up x y ∧ 0 ≤ joinM up x y

noncomputable instance (up : List Int) : Decidable (VL up) := Classical.propDecidable _

end Go.PS
end

section
-- Contracts of the reference's lattices.
set_option maxRecDepth 100000
set_option linter.unusedVariables false
set_option linter.unusedSimpArgs false
namespace Go.PS
open Go.Proofs

theorem inRange_pc (n lo hi : Int)  : PC Try.prog 128 [I64 n, I64 lo, I64 hi] none true (fun r _ => r = .bool (decide (lo ≤ n) && decide (n ≤ hi))) := by
  refine pcT [] fok_128 ?_
  simp [fa_128, gops]
  omega
noncomputable def fm_inRange : Fam Try.prog := mkFam (X := Int × Int × Int) 128 true (fun (n, lo, hi) => [I64 n, I64 lo, I64 hi]) (fun (n, lo, hi) => True) (fun (n, lo, hi) => .bool (decide (lo ≤ n) && decide (n ≤ hi))) (by
  rintro ⟨n, lo, hi⟩ _
  exact inRange_pc n lo hi)
@[simp] theorem fm_inRange_id : fm_inRange.id = 128 := rfl
@[simp] theorem fm_inRange_fresh : fm_inRange.fresh = true := rfl
@[simp] theorem fm_inRange_look (n lo hi : Int)  : fm_inRange.look [I64 n, I64 lo, I64 hi] = some (.bool (decide (lo ≤ n) && decide (n ≤ hi))) :=
  lookF_of (X := Int × Int × Int) (args := fun (n, lo, hi) => [I64 n, I64 lo, I64 hi]) (pre := fun (n, lo, hi) => True) (val := fun (n, lo, hi) => .bool (decide (lo ≤ n) && decide (n ≤ hi))) (by
  rintro ⟨n, lo, hi⟩ ⟨n', lo', hi'⟩ h
  simp at h
  try simp only [and_assoc] at h
  obtain ⟨rfl, rfl, rfl⟩ := h
  rfl) (n, lo, hi) trivial
attribute [irreducible] fm_inRange

theorem power_pc (n : Int) (h0 : 0 ≤ n) (h1 : n ≤ 61) : PC Try.prog 121 [I64 n] none true (fun r _ => r = I64 (2 ^ n.toNat)) := by
  obtain ⟨k, rfl⟩ := Int.eq_ofNat_of_zero_le h0
  refine pcT [] fok_121 ?_
  simp [fa_121]
  refine loopA (tabK_mono _) k (fun i => [(0, I64 ((k : Int) - i)), (3, I64 (2 ^ i))]) (fun _ => []) (fun _ => True) (by simp) (by simp) (fun i g hi _ => ?_)
  have h1 : (2 : Int) ^ i ≤ 2 ^ 61 := by
    have := Nat.pow_le_pow_right (n := 2) (by omega) (show i ≤ 61 by omega)
    exact_mod_cast this
  have h2 : (0 : Int) < 2 ^ i := Int.pow_pos (by omega)
  simp [lb_121_2, wrap64 (n := 2 * 2 ^ i) (by omega) (by omega), wrap64 (n := (k : Int) - i - 1) (by omega) (by omega)]
  refine ⟨fun h => ⟨by omega, by omega, ?_⟩, fun h => ?_⟩
  · rw [Int.pow_succ]; omega
  · rw [show i = k by omega]
noncomputable def fm_power : Fam Try.prog := mkFam (X := Int) 121 true (fun n => [I64 n]) (fun n => (0 ≤ n) ∧ (n ≤ 61)) (fun n => I64 (2 ^ n.toNat)) (by
  rintro n ⟨h0, h1⟩
  exact power_pc n h0 h1)
@[simp] theorem fm_power_id : fm_power.id = 121 := rfl
@[simp] theorem fm_power_fresh : fm_power.fresh = true := rfl
@[simp] theorem fm_power_look (n : Int) (h0 : 0 ≤ n) (h1 : n ≤ 61) : fm_power.look [I64 n] = some (I64 (2 ^ n.toNat)) :=
  lookF_of (X := Int) (args := fun n => [I64 n]) (pre := fun n => (0 ≤ n) ∧ (n ≤ 61)) (val := fun n => I64 (2 ^ n.toNat)) (by
  intro n n' h
  simp at h
  subst h
  rfl) n ⟨h0, h1⟩
attribute [irreducible] fm_power

theorem bit_pc (x j : Int) (h0 : 0 ≤ x) (h1 : x < 64) (h2 : 0 ≤ j) (h3 : j ≤ 61) : PC Try.prog 171 [I64 x, I64 j] none true (fun r _ => r = I64 ((x.tdiv (2 ^ j.toNat)).tmod 2)) := by
  refine pcT [fm_power] fok_171 ?_
  have h4 : (0 : Int) < 2 ^ j.toNat := Int.pow_pos (by omega)
  have h5 : x.tdiv (2 ^ j.toNat) ≤ x := by
    rw [Int.tdiv_eq_ediv_of_nonneg h0]; exact Int.ediv_le_self _ h0
  have h6 : 0 ≤ x.tdiv (2 ^ j.toNat) := Int.tdiv_nonneg h0 (by omega)
  simp [fa_171, h2, h3, wrap64 (n := x.tdiv (2 ^ j.toNat)) (by omega) (by omega)]
  omega
noncomputable def fm_bit : Fam Try.prog := mkFam (X := Int × Int) 171 true (fun (x, j) => [I64 x, I64 j]) (fun (x, j) => (0 ≤ x) ∧ (x < 64) ∧ (0 ≤ j) ∧ (j ≤ 61)) (fun (x, j) => I64 ((x.tdiv (2 ^ j.toNat)).tmod 2)) (by
  rintro ⟨x, j⟩ ⟨h0, h1, h2, h3⟩
  exact bit_pc x j h0 h1 h2 h3)
@[simp] theorem fm_bit_id : fm_bit.id = 171 := rfl
@[simp] theorem fm_bit_fresh : fm_bit.fresh = true := rfl
@[simp] theorem fm_bit_look (x j : Int) (h0 : 0 ≤ x) (h1 : x < 64) (h2 : 0 ≤ j) (h3 : j ≤ 61) : fm_bit.look [I64 x, I64 j] = some (I64 ((x.tdiv (2 ^ j.toNat)).tmod 2)) :=
  lookF_of (X := Int × Int) (args := fun (x, j) => [I64 x, I64 j]) (pre := fun (x, j) => (0 ≤ x) ∧ (x < 64) ∧ (0 ≤ j) ∧ (j ≤ 61)) (val := fun (x, j) => I64 ((x.tdiv (2 ^ j.toNat)).tmod 2)) (by
  rintro ⟨x, j⟩ ⟨x', j'⟩ h
  simp at h
  try simp only [and_assoc] at h
  obtain ⟨rfl, rfl⟩ := h
  rfl) (x, j) ⟨h0, h1, h2, h3⟩
attribute [irreducible] fm_bit

theorem belowS_pc (up : List Int) (x y : Int) (s : Sm up) (hx0 : 0 ≤ x) (hx : x.toNat < up.length) (hy0 : 0 ≤ y) (hy : y.toNat < up.length) : PC Try.prog 156 [IL up, I64 x, I64 y] none true (fun r _ => r = .bool (tb up x.toNat y.toNat)) := by
  obtain ⟨x, rfl⟩ := Int.eq_ofNat_of_zero_le hx0
  obtain ⟨y, rfl⟩ := Int.eq_ofNat_of_zero_le hy0
  simp at hx hy
  have h1 := s.lt hx
  have h6 := s.six
  refine pcT [fm_bit] fok_156 ?_
  simp [fa_156, h1.1, h1.2, hx, show (y : Int) ≤ 61 by omega]
  rw [Bool.eq_iff_iff]
  simp [bit_math h1.1, tb]
noncomputable def fm_belowS : Fam Try.prog := mkFam (X := List Int × Int × Int) 156 true (fun (up, x, y) => [IL up, I64 x, I64 y]) (fun (up, x, y) => (Sm up) ∧ (0 ≤ x) ∧ (x.toNat < up.length) ∧ (0 ≤ y) ∧ (y.toNat < up.length)) (fun (up, x, y) => .bool (tb up x.toNat y.toNat)) (by
  rintro ⟨up, x, y⟩ ⟨s, hx0, hx, hy0, hy⟩
  exact belowS_pc up x y s hx0 hx hy0 hy)
@[simp] theorem fm_belowS_id : fm_belowS.id = 156 := rfl
@[simp] theorem fm_belowS_fresh : fm_belowS.fresh = true := rfl
@[simp] theorem fm_belowS_look (up : List Int) (x y : Int) (s : Sm up) (hx0 : 0 ≤ x) (hx : x.toNat < up.length) (hy0 : 0 ≤ y) (hy : y.toNat < up.length) : fm_belowS.look [IL up, I64 x, I64 y] = some (.bool (tb up x.toNat y.toNat)) :=
  lookF_of (X := List Int × Int × Int) (args := fun (up, x, y) => [IL up, I64 x, I64 y]) (pre := fun (up, x, y) => (Sm up) ∧ (0 ≤ x) ∧ (x.toNat < up.length) ∧ (0 ≤ y) ∧ (y.toNat < up.length)) (val := fun (up, x, y) => .bool (tb up x.toNat y.toNat)) (by
  rintro ⟨up, x, y⟩ ⟨up', x', y'⟩ h
  simp at h
  try simp only [and_assoc] at h
  obtain ⟨rfl, rfl, rfl⟩ := h
  rfl) (up, x, y) ⟨s, hx0, hx, hy0, hy⟩
attribute [irreducible] fm_belowS

theorem validOrder_pc (up : List Int) (hl : up.length ≤ 1099511627776) : PC Try.prog 164 [IL up] none true (fun r _ => r = .bool (decide (VO up))) := by
  refine pcT [fm_inRange, fm_power, fm_belowS] fok_164 ?_
  simp [fa_164]
  refine ⟨fun h v => ?_, fun h1 h6 => ?_⟩
  · have := v.one; have := v.six; omega
  have hN : up.length ≤ 6 := by omega
  have hp : (2 : Int) ^ up.length ≤ 64 := by
    have := Nat.pow_le_pow_right (n := 2) (by omega) hN
    exact_mod_cast this
  have hp0 : (0 : Int) < 2 ^ up.length := Int.pow_pos (by omega)
  refine loopA (tabK_mono _) up.length (fun i => [(4, I64 i)]) (fun _ => []) (fun x => 0 ≤ gi up x ∧ gi up x < 2 ^ up.length) (by simp) (by simp) (fun i g hi hP => ?_)
  simp [lb_164_5, wrap_succ hi hl, show (up.length : Int) ≤ 61 by omega, wrap64 (n := 2 ^ up.length - 1) (by omega) (by omega)]
  refine ⟨fun h => ⟨h, ?_⟩, fun h => ?_⟩
  · refine ⟨fun h2 v => ?_, fun h2 h3 => ⟨h, h2, by omega⟩⟩
    have := v.rng i h
    omega
  have s : Sm up := ⟨hN, fun x hx => hP x (by omega)⟩
  clear hP hi h i
  obtain ⟨m, hm, el⟩ : ∃ m : Nat, m + 1 = up.length ∧ IntKind.i64.wrap ((up.length : Int) - 1) = (m : Int) := ⟨up.length - 1, by omega, by rw [wrap64 (by omega) (by omega)]; omega⟩
  have hml : m < up.length := by omega
  have h0l : 0 < up.length := by omega
  have em : up.length - 1 = m := by omega
  refine loopA (tabK_mono _) up.length (fun i => [(5, I64 i)]) (fun _ => []) (fun x => (tb up x x = true ∧ tb up 0 x = true ∧ tb up x m = true) ∧ ∀ y, y < up.length → (x ≠ y → tb up x y = true → tb up y x = false) ∧ ∀ z, z < up.length → tb up x y = true → tb up y z = true → tb up x z = true) (by simp) (by simp) (fun i g hi hP => ?_)
  simp [lb_164_10, wrap_succ hi hl, el]
  refine ⟨fun h => ?_, fun h => ?_⟩
  · refine cutW (tabK_mono _) [(50, .bool (!tb up i i || !tb up 0 i || !tb up i m))] (by simp [el, s, h, h0l, hml]; grind) ?_
    simp
    refine ⟨fun q v => ?_, fun q1 q2 q3 => ?_⟩
    · have := v.row i h; rw [em] at this; grind
    refine loopA (tabK_mono _) up.length (fun i => [(6, I64 i)]) (fun _ => []) (fun y => (i ≠ y → tb up i y = true → tb up y i = false) ∧ ∀ z, z < up.length → tb up i y = true → tb up y z = true → tb up i z = true) (by simp) (by simp) (fun j g hj hQ => ?_)
    simp [lb_164_15, wrap_succ hi hl, wrap_succ hj hl]
    refine ⟨fun h2 => ?_, fun h2 => ⟨h, ⟨q1, q2, q3⟩, fun y hy => hQ y (by omega)⟩⟩
    refine cutW (tabK_mono _) [(70, .bool (decide (i ≠ j) && tb up i j && tb up j i))] (by simp [s, h, h2]; grind) ?_
    simp
    refine ⟨fun r1 r2 r3 v => ?_, fun r => ?_⟩
    · have := v.anti i h j h2 r1 r2; rw [r3] at this; cases this
    refine loopA (tabK_mono _) up.length (fun i => [(7, I64 i)]) (fun _ => []) (fun z => tb up i j = true → tb up j z = true → tb up i z = true) (by simp) (by simp) (fun k g hk hR => ?_)
    simp [lb_164_20, wrap_succ hj hl, wrap_succ hk hl]
    refine ⟨fun h3 => ?_, fun h3 => ⟨h2, by grind, fun z hz => hR z (by omega)⟩⟩
    refine cutW (tabK_mono _) [(92, .bool (tb up i j && tb up j k && !tb up i k))] (by simp [s, h, h2, h3]; grind) ?_
    simp [wrap_succ hk hl]
    refine ⟨fun r1 r2 r3 v => ?_, fun r => ⟨h3, by grind⟩⟩
    have := v.trans i h j h2 k h3 r1 r2; rw [r3] at this; cases this
  · exact ⟨by omega, hN, s.rng, fun x hx => em ▸ (hP x (by omega)).1, fun x hx y hy hne => ((hP x (by omega)).2 y hy).1 hne, fun x hx y hy z hz => ((hP x (by omega)).2 y hy).2 z hz⟩
noncomputable def fm_validOrder : Fam Try.prog := mkFam (X := List Int) 164 true (fun up => [IL up]) (fun up => (up.length ≤ 1099511627776)) (fun up => .bool (decide (VO up))) (by
  rintro up hl
  exact validOrder_pc up hl)
@[simp] theorem fm_validOrder_id : fm_validOrder.id = 164 := rfl
@[simp] theorem fm_validOrder_fresh : fm_validOrder.fresh = true := rfl
@[simp] theorem fm_validOrder_look (up : List Int) (hl : up.length ≤ 1099511627776) : fm_validOrder.look [IL up] = some (.bool (decide (VO up))) :=
  lookF_of (X := List Int) (args := fun up => [IL up]) (pre := fun up => (up.length ≤ 1099511627776)) (val := fun up => .bool (decide (VO up))) (by
  intro up up' h
  simp at h
  subst h
  rfl) up hl
attribute [irreducible] fm_validOrder
end Go.PS
end

section
-- Contracts of both lattices.
set_option maxRecDepth 100000
set_option linter.unusedVariables false
set_option linter.unusedSimpArgs false
namespace Go.PS
open Go.Proofs

theorem Sm.le {up : List Int} (s : Sm up) : up.length ≤ 1099511627776 := by have := s.six; omega

theorem all_succ {i : Nat} {f : Nat → Bool} : (List.range (i + 1)).all f = ((List.range i).all f && f i) := by
  simp [List.range_succ]

theorem meetS_pc (up : List Int) (x y : Int) (s : Sm up) (hx0 : 0 ≤ x) (hx : x.toNat < up.length) (hy0 : 0 ≤ y) (hy : y.toNat < up.length) : PC Try.prog 165 [IL up, I64 x, I64 y] none true (fun r _ => r = I64 (meetM up x.toNat y.toNat)) := by
  obtain ⟨x, rfl⟩ := Int.eq_ofNat_of_zero_le hx0
  obtain ⟨y, rfl⟩ := Int.eq_ofNat_of_zero_le hy0
  simp at hx hy
  refine pcT [fm_belowS] fok_165 ?_
  simp [fa_165]
  refine loopA (tabK_mono _) up.length (fun i => [(7, I64 i)]) (fun _ => []) (fun z => isM up x y z = false) (by simp) (by simp) (fun z g hz hP => ?_)
  simp [lb_165_2, wrap_succ hz s.le]
  refine ⟨fun h => ?_, fun h => by rw [meetM, firstI_none (fun j hj => hP j (by omega))]⟩
  refine cutW (tabK_mono _) [(8, .bool (tb up z x && tb up z y))] (by simp [s, h, hx, hy]; grind) ?_
  simp
  refine loopA (tabK_mono _) up.length (fun i => [(8, .bool (tb up z x && tb up z y && (List.range i).all fun w => !tb up w x || !tb up w y || tb up w z)), (9, I64 i)]) (fun _ => []) (fun _ => True) (by simp) (by simp) (fun w g hw _ => ?_)
  generalize ha : (tb up z x && tb up z y && (List.range w).all fun w => !tb up w x || !tb up w y || tb up w z) = acc
  simp [lb_165_6, wrap_succ hw s.le]
  refine cutW (tabK_mono _) [(32, .bool (decide (w < up.length) && acc))] (by simp; grind) ?_
  simp
  refine ⟨fun h2 h3 => ?_, fun h2 => ?_⟩
  · refine cutW (tabK_mono _) [(8, .bool (!tb up w x || !tb up w y || tb up w z))] (by simp [s, h, h2, hx, hy]; grind) ?_
    simp [wrap_succ hw s.le, all_succ, h2]
    grind
  · have e : acc = isM up x y z := by
      by_cases h3 : w < up.length
      · rw [h2 h3] at ha ⊢
        rw [Bool.eq_false_iff] at ha
        symm; rw [Bool.eq_false_iff]; intro h4; apply ha
        simp only [isM, Bool.and_eq_true, List.all_eq_true, List.mem_range] at h4 ⊢
        exact ⟨h4.1, fun v hv => h4.2 v (by omega)⟩
      · obtain rfl : w = up.length := by omega
        exact ha.symm
    simp [e, wrap_succ hz s.le]
    exact ⟨fun h4 => (firstI_some h h4 hP).symm, fun h4 => ⟨h, h4⟩⟩
noncomputable def fm_meetS : Fam Try.prog := mkFam (X := List Int × Int × Int) 165 true (fun (up, x, y) => [IL up, I64 x, I64 y]) (fun (up, x, y) => (Sm up) ∧ (0 ≤ x) ∧ (x.toNat < up.length) ∧ (0 ≤ y) ∧ (y.toNat < up.length)) (fun (up, x, y) => I64 (meetM up x.toNat y.toNat)) (by
  rintro ⟨up, x, y⟩ ⟨s, hx0, hx, hy0, hy⟩
  exact meetS_pc up x y s hx0 hx hy0 hy)
@[simp] theorem fm_meetS_id : fm_meetS.id = 165 := rfl
@[simp] theorem fm_meetS_fresh : fm_meetS.fresh = true := rfl
@[simp] theorem fm_meetS_look (up : List Int) (x y : Int) (s : Sm up) (hx0 : 0 ≤ x) (hx : x.toNat < up.length) (hy0 : 0 ≤ y) (hy : y.toNat < up.length) : fm_meetS.look [IL up, I64 x, I64 y] = some (I64 (meetM up x.toNat y.toNat)) :=
  lookF_of (X := List Int × Int × Int) (args := fun (up, x, y) => [IL up, I64 x, I64 y]) (pre := fun (up, x, y) => (Sm up) ∧ (0 ≤ x) ∧ (x.toNat < up.length) ∧ (0 ≤ y) ∧ (y.toNat < up.length)) (val := fun (up, x, y) => I64 (meetM up x.toNat y.toNat)) (by
  rintro ⟨up, x, y⟩ ⟨up', x', y'⟩ h
  simp at h
  try simp only [and_assoc] at h
  obtain ⟨rfl, rfl, rfl⟩ := h
  rfl) (up, x, y) ⟨s, hx0, hx, hy0, hy⟩
attribute [irreducible] fm_meetS

theorem joinS_pc (up : List Int) (x y : Int) (s : Sm up) (hx0 : 0 ≤ x) (hx : x.toNat < up.length) (hy0 : 0 ≤ y) (hy : y.toNat < up.length) : PC Try.prog 136 [IL up, I64 x, I64 y] none true (fun r _ => r = I64 (joinM up x.toNat y.toNat)) := by
  obtain ⟨x, rfl⟩ := Int.eq_ofNat_of_zero_le hx0
  obtain ⟨y, rfl⟩ := Int.eq_ofNat_of_zero_le hy0
  simp at hx hy
  refine pcT [fm_belowS] fok_136 ?_
  simp [fa_136]
  refine loopA (tabK_mono _) up.length (fun i => [(7, I64 i)]) (fun _ => []) (fun z => isJ up x y z = false) (by simp) (by simp) (fun z g hz hP => ?_)
  simp [lb_136_2, wrap_succ hz s.le]
  refine ⟨fun h => ?_, fun h => by rw [joinM, firstI_none (fun j hj => hP j (by omega))]⟩
  refine cutW (tabK_mono _) [(8, .bool (tb up x z && tb up y z))] (by simp [s, h, hx, hy]; grind) ?_
  simp
  refine loopA (tabK_mono _) up.length (fun i => [(8, .bool (tb up x z && tb up y z && (List.range i).all fun w => !tb up x w || !tb up y w || tb up z w)), (9, I64 i)]) (fun _ => []) (fun _ => True) (by simp) (by simp) (fun w g hw _ => ?_)
  generalize ha : (tb up x z && tb up y z && (List.range w).all fun w => !tb up x w || !tb up y w || tb up z w) = acc
  simp [lb_136_6, wrap_succ hw s.le]
  refine cutW (tabK_mono _) [(32, .bool (decide (w < up.length) && acc))] (by simp; grind) ?_
  simp
  refine ⟨fun h2 h3 => ?_, fun h2 => ?_⟩
  · refine cutW (tabK_mono _) [(8, .bool (!tb up x w || !tb up y w || tb up z w))] (by simp [s, h, h2, hx, hy]; grind) ?_
    simp [wrap_succ hw s.le, all_succ, h2]
    grind
  · have e : acc = isJ up x y z := by
      by_cases h3 : w < up.length
      · rw [h2 h3] at ha ⊢
        rw [Bool.eq_false_iff] at ha
        symm; rw [Bool.eq_false_iff]; intro h4; apply ha
        simp only [isJ, Bool.and_eq_true, List.all_eq_true, List.mem_range] at h4 ⊢
        exact ⟨h4.1, fun v hv => h4.2 v (by omega)⟩
      · obtain rfl : w = up.length := by omega
        exact ha.symm
    simp [e, wrap_succ hz s.le]
    exact ⟨fun h4 => (firstI_some h h4 hP).symm, fun h4 => ⟨h, h4⟩⟩
noncomputable def fm_joinS : Fam Try.prog := mkFam (X := List Int × Int × Int) 136 true (fun (up, x, y) => [IL up, I64 x, I64 y]) (fun (up, x, y) => (Sm up) ∧ (0 ≤ x) ∧ (x.toNat < up.length) ∧ (0 ≤ y) ∧ (y.toNat < up.length)) (fun (up, x, y) => I64 (joinM up x.toNat y.toNat)) (by
  rintro ⟨up, x, y⟩ ⟨s, hx0, hx, hy0, hy⟩
  exact joinS_pc up x y s hx0 hx hy0 hy)
@[simp] theorem fm_joinS_id : fm_joinS.id = 136 := rfl
@[simp] theorem fm_joinS_fresh : fm_joinS.fresh = true := rfl
@[simp] theorem fm_joinS_look (up : List Int) (x y : Int) (s : Sm up) (hx0 : 0 ≤ x) (hx : x.toNat < up.length) (hy0 : 0 ≤ y) (hy : y.toNat < up.length) : fm_joinS.look [IL up, I64 x, I64 y] = some (I64 (joinM up x.toNat y.toNat)) :=
  lookF_of (X := List Int × Int × Int) (args := fun (up, x, y) => [IL up, I64 x, I64 y]) (pre := fun (up, x, y) => (Sm up) ∧ (0 ≤ x) ∧ (x.toNat < up.length) ∧ (0 ≤ y) ∧ (y.toNat < up.length)) (val := fun (up, x, y) => I64 (joinM up x.toNat y.toNat)) (by
  rintro ⟨up, x, y⟩ ⟨up', x', y'⟩ h
  simp at h
  try simp only [and_assoc] at h
  obtain ⟨rfl, rfl, rfl⟩ := h
  rfl) (up, x, y) ⟨s, hx0, hx, hy0, hy⟩
attribute [irreducible] fm_joinS

theorem validLatticeS_pc (up : List Int) (hl : Big up.length) : PC Try.prog 96 [IL up] none true (fun r _ => r = .bool (decide (VL up))) := by
  have hl := hl.le
  refine pcT [fm_validOrder, fm_meetS, fm_joinS] fok_96 ?_
  simp [fa_96, hl]
  refine ⟨fun h v => h v.ord, fun v => ?_⟩
  have s := v.sm
  refine loopA (tabK_mono _) up.length (fun i => [(3, I64 i)]) (fun _ => []) (fun x => ∀ y, y < up.length → 0 ≤ meetM up x y ∧ 0 ≤ joinM up x y) (by simp) (by simp) (fun x g hx hP => ?_)
  simp [lb_96_4, wrap_succ hx hl]
  refine ⟨fun h => ?_, fun h => ⟨v, fun x hx => hP x (by omega)⟩⟩
  refine loopA (tabK_mono _) up.length (fun i => [(4, I64 i)]) (fun _ => []) (fun y => 0 ≤ meetM up x y ∧ 0 ≤ joinM up x y) (by simp) (by simp) (fun y g hy hQ => ?_)
  simp [lb_96_7, wrap_succ hx hl, wrap_succ hy hl]
  refine ⟨fun h2 => ?_, fun h2 => ⟨h, fun y hy => hQ y (by omega)⟩⟩
  refine cutW (tabK_mono _) [(31, .bool (decide (meetM up x y < 0) || decide (joinM up x y < 0)))] (by simp [s, h, h2]; grind) ?_
  simp [wrap_succ hy hl]
  refine ⟨fun h3 w => ?_, fun h3 h4 => ⟨h2, h3, h4⟩⟩
  have := w.mj x h y h2
  omega
noncomputable def fm_validLatticeS : Fam Try.prog := mkFam (X := List Int) 96 true (fun up => [IL up]) (fun up => (Big up.length)) (fun up => .bool (decide (VL up))) (by
  rintro up hl
  exact validLatticeS_pc up hl)
@[simp] theorem fm_validLatticeS_id : fm_validLatticeS.id = 96 := rfl
@[simp] theorem fm_validLatticeS_fresh : fm_validLatticeS.fresh = true := rfl
@[simp] theorem fm_validLatticeS_look (up : List Int) (hl : Big up.length) : fm_validLatticeS.look [IL up] = some (.bool (decide (VL up))) :=
  lookF_of (X := List Int) (args := fun up => [IL up]) (pre := fun up => (Big up.length)) (val := fun up => .bool (decide (VL up))) (by
  intro up up' h
  simp at h
  subst h
  rfl) up hl
attribute [irreducible] fm_validLatticeS

theorem within_pc (n lo hi : Int)  : PC Try.prog 101 [I64 n, I64 lo, I64 hi] none true (fun r _ => r = .bool (decide (lo ≤ n) && decide (n ≤ hi))) := by
  refine pcT [] fok_101 ?_
  simp [fa_101, gops]
  omega
noncomputable def fm_within : Fam Try.prog := mkFam (X := Int × Int × Int) 101 true (fun (n, lo, hi) => [I64 n, I64 lo, I64 hi]) (fun (n, lo, hi) => True) (fun (n, lo, hi) => .bool (decide (lo ≤ n) && decide (n ≤ hi))) (by
  rintro ⟨n, lo, hi⟩ _
  exact within_pc n lo hi)
@[simp] theorem fm_within_id : fm_within.id = 101 := rfl
@[simp] theorem fm_within_fresh : fm_within.fresh = true := rfl
@[simp] theorem fm_within_look (n lo hi : Int)  : fm_within.look [I64 n, I64 lo, I64 hi] = some (.bool (decide (lo ≤ n) && decide (n ≤ hi))) :=
  lookF_of (X := Int × Int × Int) (args := fun (n, lo, hi) => [I64 n, I64 lo, I64 hi]) (pre := fun (n, lo, hi) => True) (val := fun (n, lo, hi) => .bool (decide (lo ≤ n) && decide (n ≤ hi))) (by
  rintro ⟨n, lo, hi⟩ ⟨n', lo', hi'⟩ h
  simp at h
  try simp only [and_assoc] at h
  obtain ⟨rfl, rfl, rfl⟩ := h
  rfl) (n, lo, hi) trivial
attribute [irreducible] fm_within

theorem belowI_pc (up : List Int) (x y : Int) (h6 : up.length ≤ 6) (hx0 : 0 ≤ x) (hx : x.toNat < up.length) (hy0 : 0 ≤ y) (hy : y.toNat < up.length) : PC Try.prog 131 [IL up, I64 x, I64 y] none true (fun r _ => r = .bool (tb up x.toNat y.toNat)) := by
  obtain ⟨x, rfl⟩ := Int.eq_ofNat_of_zero_le hx0
  obtain ⟨y, rfl⟩ := Int.eq_ofNat_of_zero_le hy0
  simp at hx hy
  refine pcT [] fok_131 ?_
  simp [fa_131, hx]
  rw [Bool.eq_iff_iff]
  simp [shr_bit _ (show y ≤ 63 by omega), tb]
noncomputable def fm_belowI : Fam Try.prog := mkFam (X := List Int × Int × Int) 131 true (fun (up, x, y) => [IL up, I64 x, I64 y]) (fun (up, x, y) => (up.length ≤ 6) ∧ (0 ≤ x) ∧ (x.toNat < up.length) ∧ (0 ≤ y) ∧ (y.toNat < up.length)) (fun (up, x, y) => .bool (tb up x.toNat y.toNat)) (by
  rintro ⟨up, x, y⟩ ⟨h6, hx0, hx, hy0, hy⟩
  exact belowI_pc up x y h6 hx0 hx hy0 hy)
@[simp] theorem fm_belowI_id : fm_belowI.id = 131 := rfl
@[simp] theorem fm_belowI_fresh : fm_belowI.fresh = true := rfl
@[simp] theorem fm_belowI_look (up : List Int) (x y : Int) (h6 : up.length ≤ 6) (hx0 : 0 ≤ x) (hx : x.toNat < up.length) (hy0 : 0 ≤ y) (hy : y.toNat < up.length) : fm_belowI.look [IL up, I64 x, I64 y] = some (.bool (tb up x.toNat y.toNat)) :=
  lookF_of (X := List Int × Int × Int) (args := fun (up, x, y) => [IL up, I64 x, I64 y]) (pre := fun (up, x, y) => (up.length ≤ 6) ∧ (0 ≤ x) ∧ (x.toNat < up.length) ∧ (0 ≤ y) ∧ (y.toNat < up.length)) (val := fun (up, x, y) => .bool (tb up x.toNat y.toNat)) (by
  rintro ⟨up, x, y⟩ ⟨up', x', y'⟩ h
  simp at h
  try simp only [and_assoc] at h
  obtain ⟨rfl, rfl, rfl⟩ := h
  rfl) (up, x, y) ⟨h6, hx0, hx, hy0, hy⟩
attribute [irreducible] fm_belowI

end Go.PS
end

section
-- Contracts of the program's lattices.
set_option maxRecDepth 100000
set_option linter.unusedVariables false
set_option linter.unusedSimpArgs false
namespace Go.PS
open Go.Proofs

theorem meetI_pc (up : List Int) (x y : Int) (h6 : up.length ≤ 6) (hx0 : 0 ≤ x) (hx : x.toNat < up.length) (hy0 : 0 ≤ y) (hy : y.toNat < up.length) : PC Try.prog 95 [IL up, I64 x, I64 y] none true (fun r _ => r = I64 (meetM up x.toNat y.toNat)) := by
  obtain ⟨x, rfl⟩ := Int.eq_ofNat_of_zero_le hx0
  obtain ⟨y, rfl⟩ := Int.eq_ofNat_of_zero_le hy0
  simp at hx hy
  have hl : up.length ≤ 1099511627776 := by omega
  refine pcT [fm_belowI] fok_95 ?_
  simp [fa_95]
  refine loopA (tabK_mono _) up.length (fun i => [(12, I64 i)]) (fun _ => []) (fun z => isM up x y z = false) (by simp) (by simp) (fun z g hz hP => ?_)
  simp [lb_95_2, wrap_succ hz hl]
  refine ⟨fun h => ?_, fun h => by rw [meetM, firstI_none (fun j hj => hP j (by omega))]⟩
  refine cutW (tabK_mono _) [(26, .bool (!tb up z x || !tb up z y))] (by simp [h6, h, hx, hy]; grind) ?_
  simp [wrap_succ hz hl]
  refine ⟨fun h2 => ⟨h, by simp only [isM]; grind⟩, fun h2 h3 => ?_⟩
  refine loopA (tabK_mono _) up.length (fun i => [(8, .bool ((List.range i).all fun w => !tb up w x || !tb up w y || tb up w z)), (29, I64 i)]) (fun _ => []) (fun _ => True) (by simp) (by simp) (fun w g hw _ => ?_)
  generalize ha : ((List.range w).all fun w => !tb up w x || !tb up w y || tb up w z) = acc
  simp [lb_95_7, wrap_succ hw hl, wrap_succ hz hl]
  refine ⟨fun h4 => ?_, fun h4 => ?_⟩
  · refine cutW (tabK_mono _) [(8, .bool (acc && (!tb up w x || !tb up w y || tb up w z)))] (by simp [h6, h, h4, hx, hy]; grind) ?_
    simp [wrap_succ hw hl, all_succ, h4, ha]
  · obtain rfl : w = up.length := by omega
    have e : acc = isM up x y z := by simp only [isM, h2, h3, ha, Bool.true_and]
    simp [e, wrap_succ hz hl]
    exact ⟨fun h5 => (firstI_some h h5 hP).symm, fun h5 => ⟨h, h5⟩⟩
noncomputable def fm_meetI : Fam Try.prog := mkFam (X := List Int × Int × Int) 95 true (fun (up, x, y) => [IL up, I64 x, I64 y]) (fun (up, x, y) => (up.length ≤ 6) ∧ (0 ≤ x) ∧ (x.toNat < up.length) ∧ (0 ≤ y) ∧ (y.toNat < up.length)) (fun (up, x, y) => I64 (meetM up x.toNat y.toNat)) (by
  rintro ⟨up, x, y⟩ ⟨h6, hx0, hx, hy0, hy⟩
  exact meetI_pc up x y h6 hx0 hx hy0 hy)
@[simp] theorem fm_meetI_id : fm_meetI.id = 95 := rfl
@[simp] theorem fm_meetI_fresh : fm_meetI.fresh = true := rfl
@[simp] theorem fm_meetI_look (up : List Int) (x y : Int) (h6 : up.length ≤ 6) (hx0 : 0 ≤ x) (hx : x.toNat < up.length) (hy0 : 0 ≤ y) (hy : y.toNat < up.length) : fm_meetI.look [IL up, I64 x, I64 y] = some (I64 (meetM up x.toNat y.toNat)) :=
  lookF_of (X := List Int × Int × Int) (args := fun (up, x, y) => [IL up, I64 x, I64 y]) (pre := fun (up, x, y) => (up.length ≤ 6) ∧ (0 ≤ x) ∧ (x.toNat < up.length) ∧ (0 ≤ y) ∧ (y.toNat < up.length)) (val := fun (up, x, y) => I64 (meetM up x.toNat y.toNat)) (by
  rintro ⟨up, x, y⟩ ⟨up', x', y'⟩ h
  simp at h
  try simp only [and_assoc] at h
  obtain ⟨rfl, rfl, rfl⟩ := h
  rfl) (up, x, y) ⟨h6, hx0, hx, hy0, hy⟩
attribute [irreducible] fm_meetI

theorem joinI_pc (up : List Int) (x y : Int) (s : Sm up) (hx0 : 0 ≤ x) (hx : x.toNat < up.length) (hy0 : 0 ≤ y) (hy : y.toNat < up.length) : PC Try.prog 102 [IL up, I64 x, I64 y] none true (fun r _ => r = I64 (joinM up x.toNat y.toNat)) := by
  obtain ⟨x, rfl⟩ := Int.eq_ofNat_of_zero_le hx0
  obtain ⟨y, rfl⟩ := Int.eq_ofNat_of_zero_le hy0
  simp at hx hy
  have hl := s.le
  refine pcT [] fok_102 ?_
  simp [fa_102, hx, hy]
  refine loopA (tabK_mono _) up.length (fun i => [(20, I64 i)]) (fun _ => []) (fun z => isJ up x y z = false) (by simp) (by simp) (fun z g hz hP => ?_)
  simp [lb_102_3, wrap_succ hz hl]
  refine ⟨fun h => ?_, fun h => by rw [joinM, firstI_none (fun j hj => hP j (by omega))]⟩
  refine cutW (tabK_mono _) [(36, .bool (isJ up x y z))] (by rw [← isJ_bits s hx hy h]; simp [h]; grind) ?_
  simp [wrap_succ hz hl]
  exact ⟨fun h4 => (firstI_some h h4 hP).symm, fun h4 => ⟨h, h4⟩⟩
noncomputable def fm_joinI : Fam Try.prog := mkFam (X := List Int × Int × Int) 102 true (fun (up, x, y) => [IL up, I64 x, I64 y]) (fun (up, x, y) => (Sm up) ∧ (0 ≤ x) ∧ (x.toNat < up.length) ∧ (0 ≤ y) ∧ (y.toNat < up.length)) (fun (up, x, y) => I64 (joinM up x.toNat y.toNat)) (by
  rintro ⟨up, x, y⟩ ⟨s, hx0, hx, hy0, hy⟩
  exact joinI_pc up x y s hx0 hx hy0 hy)
@[simp] theorem fm_joinI_id : fm_joinI.id = 102 := rfl
@[simp] theorem fm_joinI_fresh : fm_joinI.fresh = true := rfl
@[simp] theorem fm_joinI_look (up : List Int) (x y : Int) (s : Sm up) (hx0 : 0 ≤ x) (hx : x.toNat < up.length) (hy0 : 0 ≤ y) (hy : y.toNat < up.length) : fm_joinI.look [IL up, I64 x, I64 y] = some (I64 (joinM up x.toNat y.toNat)) :=
  lookF_of (X := List Int × Int × Int) (args := fun (up, x, y) => [IL up, I64 x, I64 y]) (pre := fun (up, x, y) => (Sm up) ∧ (0 ≤ x) ∧ (x.toNat < up.length) ∧ (0 ≤ y) ∧ (y.toNat < up.length)) (val := fun (up, x, y) => I64 (joinM up x.toNat y.toNat)) (by
  rintro ⟨up, x, y⟩ ⟨up', x', y'⟩ h
  simp at h
  try simp only [and_assoc] at h
  obtain ⟨rfl, rfl, rfl⟩ := h
  rfl) (up, x, y) ⟨s, hx0, hx, hy0, hy⟩
attribute [irreducible] fm_joinI

theorem shl1 {n : Nat} (h : n ≤ 6) : IntKind.i64.wrap (bShl .i64 1 (n : Int) - 1) = 2 ^ n - 1 := by
  have hp : (2 : Int) ^ n ≤ 64 := by
    have := Nat.pow_le_pow_right (n := 2) (by omega) h
    exact_mod_cast this
  have hp0 : (0 : Int) < 2 ^ n := Int.pow_pos (by omega)
  have e : bShl .i64 1 (n : Int) = 2 ^ n := by
    unfold bShl
    rw [show min (n : Int).toNat IntKind.i64.bits = n from by simp [IntKind.bits]; omega, wrap64 (by omega) (by omega)]
    omega
  rw [e, wrap64 (by omega) (by omega)]

theorem validLatticeI_pc (up : List Int) (hl : Big up.length) : PC Try.prog 91 [IL up] none true (fun r _ => r = .bool (decide (VL up))) := by
  have hl := hl.le
  refine pcT [fm_within, fm_belowI, fm_meetI, fm_joinI] fok_91 ?_
  simp [fa_91]
  refine ⟨fun h v => ?_, fun h1 h6 => ?_⟩
  · have := v.ord.one; have := v.ord.six; omega
  have hN : up.length ≤ 6 := by omega
  obtain ⟨m, hm, el⟩ : ∃ m : Nat, m + 1 = up.length ∧ IntKind.i64.wrap ((up.length : Int) - 1) = (m : Int) := ⟨up.length - 1, by omega, by rw [wrap64 (by omega) (by omega)]; omega⟩
  have hml : m < up.length := by omega
  have h0l : 0 < up.length := by omega
  have em : up.length - 1 = m := by omega
  refine loopA (tabK_mono _) up.length (fun i => [(16, I64 i)]) (fun _ => []) (fun x => okRow up x = true ∧ ∀ y, y < up.length → okPair up x y = true) (by simp) (by simp) (fun x g hx hP => ?_)
  simp [lb_91_5, wrap_succ hx hl]
  refine ⟨fun h => ⟨h, ?_⟩, fun h => ?_⟩
  · refine cutW (tabK_mono _) [(47, .bool (!okRow up x))] (by simp [hN, h, el, h0l, hml, shl1 hN, okRow, em]; grind) ?_
    simp
    refine ⟨fun h2 v => (by rw [(ok_of_vo v.ord h).1] at h2; cases h2), fun h2 => ?_⟩
    refine loopA (tabK_mono _) up.length (fun i => [(50, I64 i)]) (fun _ => []) (fun y => okPair up x y = true) (by simp) (by simp) (fun y g hy hQ => ?_)
    simp [lb_91_10, wrap_succ hx hl, wrap_succ hy hl]
    refine ⟨fun h3 => ?_, fun h3 => ⟨h, h2, fun y hy => hQ y (by omega)⟩⟩
    refine cutW (tabK_mono _) [(76, .bool (!okPair up x y))] (by simp [hN, h, h3, okPair]; grind) ?_
    simp [wrap_succ hy hl]
    exact ⟨fun h4 v => (by rw [(ok_of_vo v.ord h).2 y h3] at h4; cases h4), fun h4 => ⟨h3, h4⟩⟩
  have v : VO up := vo_of_ok (by omega) hN (fun x hx => hP x (by omega))
  have s := v.sm
  clear hP hx h x
  refine loopA (tabK_mono _) up.length (fun i => [(81, I64 i)]) (fun _ => []) (fun x => ∀ y, y < up.length → 0 ≤ meetM up x y ∧ 0 ≤ joinM up x y) (by simp) (by simp) (fun x g hx hP => ?_)
  simp [lb_91_17, wrap_succ hx hl]
  refine ⟨fun h => ?_, fun h => ⟨v, fun x hx => hP x (by omega)⟩⟩
  refine loopA (tabK_mono _) up.length (fun i => [(86, I64 i)]) (fun _ => []) (fun y => 0 ≤ meetM up x y ∧ 0 ≤ joinM up x y) (by simp) (by simp) (fun y g hy hQ => ?_)
  simp [lb_91_20, wrap_succ hx hl, wrap_succ hy hl]
  refine ⟨fun h2 => ?_, fun h2 => ⟨h, fun y hy => hQ y (by omega)⟩⟩
  refine cutW (tabK_mono _) [(100, .bool (decide (meetM up x y < 0) || decide (joinM up x y < 0)))] (by simp [s, hN, h, h2]; grind) ?_
  simp [wrap_succ hy hl]
  refine ⟨fun h3 w => ?_, fun h3 h4 => ⟨h2, h3, h4⟩⟩
  have := w.mj x h y h2
  omega
noncomputable def fm_validLatticeI : Fam Try.prog := mkFam (X := List Int) 91 true (fun up => [IL up]) (fun up => (Big up.length)) (fun up => .bool (decide (VL up))) (by
  rintro up hl
  exact validLatticeI_pc up hl)
@[simp] theorem fm_validLatticeI_id : fm_validLatticeI.id = 91 := rfl
@[simp] theorem fm_validLatticeI_fresh : fm_validLatticeI.fresh = true := rfl
@[simp] theorem fm_validLatticeI_look (up : List Int) (hl : Big up.length) : fm_validLatticeI.look [IL up] = some (.bool (decide (VL up))) :=
  lookF_of (X := List Int) (args := fun up => [IL up]) (pre := fun up => (Big up.length)) (val := fun up => .bool (decide (VL up))) (by
  intro up up' h
  simp at h
  subst h
  rfl) up hl
attribute [irreducible] fm_validLatticeI

end Go.PS
end

section
-- Algebras and terms: what the functions compute, in plain Lean.
set_option linter.unusedVariables false
set_option linter.unusedSimpArgs false
namespace Go.PS

/-- A product by the table. -/
def tm (t : List (List Int)) (x y : Nat) : Int := gi (gr t x) y
abbrev tn (t : List (List Int)) (x y : Nat) : Nat := (tm t x y).toNat

structure VA (u : List Int) (t : List (List Int)) : Prop where
  lat : VL u
  len : t.length = u.length
  rows : ∀ x, x < u.length → (gr t x).length = u.length
  rng : ∀ x, x < u.length → ∀ y, y < u.length → 0 ≤ tm t x y ∧ tm t x y < u.length
  top : ∀ x, x < u.length → tm t x (u.length - 1) = x ∧ tm t x 0 = 0
  comm : ∀ x, x < u.length → ∀ y, y < u.length → tm t x y = tm t y x
  assoc : ∀ x, x < u.length → ∀ y, y < u.length → ∀ z, z < u.length → tm t (tn t x y) z = tm t x (tn t y z)
  dist : ∀ x, x < u.length → ∀ y, y < u.length → ∀ z, z < u.length → tm t x (joinM u y z).toNat = joinM u (tn t x y) (tn t x z)

noncomputable instance (u : List Int) (t : List (List Int)) : Decidable (VA u t) := Classical.propDecidable _

def impAcc (u : List Int) (t : List (List Int)) (x y i : Nat) : Int := (List.range i).foldl (fun o z => if tb u (tn t x z) y then joinM u o.toNat z else o) 0
def implyM (u : List Int) (t : List (List Int)) (x y : Nat) : Int := impAcc u t x y u.length
theorem impAcc_zero {u : List Int} {t : List (List Int)} {x y : Nat} : impAcc u t x y 0 = 0 := rfl
theorem impAcc_succ {u : List Int} {t : List (List Int)} {x y i : Nat} : impAcc u t x y (i + 1) = if tb u (tn t x i) y then joinM u (impAcc u t x y i).toNat i else impAcc u t x y i := by
  simp [impAcc, List.range_succ, List.foldl_append]

theorem VL.join_rng {u : List Int} (v : VL u) {x y : Nat} (hx : x < u.length) (hy : y < u.length) : 0 ≤ joinM u x y ∧ joinM u x y < u.length := by
  have h := (v.mj x hx y hy).2
  rcases firstI_range (n := u.length) (p := isJ u x y) with h1 | ⟨z, hz, _, h1⟩
  · rw [joinM, h1] at h; omega
  · rw [joinM, h1]; omega
theorem VL.meet_rng {u : List Int} (v : VL u) {x y : Nat} (hx : x < u.length) (hy : y < u.length) : 0 ≤ meetM u x y ∧ meetM u x y < u.length := by
  have h := (v.mj x hx y hy).1
  rcases firstI_range (n := u.length) (p := isM u x y) with h1 | ⟨z, hz, _, h1⟩
  · rw [meetM, h1] at h; omega
  · rw [meetM, h1]; omega
theorem VL.impAcc_rng {u : List Int} {t : List (List Int)} (v : VL u) {x y : Nat} : ∀ i, i ≤ u.length → 0 ≤ impAcc u t x y i ∧ impAcc u t x y i < u.length
  | 0, _ => by have := v.ord.one; rw [impAcc_zero]; omega
  | i + 1, h => by
    have ih := VL.impAcc_rng (t := t) (x := x) (y := y) v i (by omega)
    rw [impAcc_succ]
    split
    · exact v.join_rng (by omega) (by omega)
    · exact ih
theorem VL.imply_rng {u : List Int} {t : List (List Int)} (v : VL u) {x y : Nat} : 0 ≤ implyM u t x y ∧ implyM u t x y < u.length := v.impAcc_rng _ (Nat.le_refl _)

-- terms

def isBin (x : Int) : Prop := x = 13 ∨ x = 14 ∨ x = 15 ∨ x = 16
def isLeaf (x : Int) : Prop := (0 ≤ x ∧ x ≤ 2) ∨ x = 10 ∨ x = 11
instance (x : Int) : Decidable (isBin x) := by unfold isBin; infer_instance
instance (x : Int) : Decidable (isLeaf x) := by unfold isLeaf; infer_instance
def arity (x : Int) : Option Nat := if x = 12 then some 1 else if isBin x then some 2 else if isLeaf x then some 0 else none

/-- What is behind so many terms. -/
def sk : List Int → Nat → Option (List Int)
  | l, 0 => some l
  | [], _ + 1 => none
  | x :: l, k + 1 => match arity x with
    | none => none
    | some a => sk l (k + a)

def validT (t : List Int) : Prop := t.length ≤ 15 ∧ sk t 1 = some []
instance (t : List Int) : Decidable (validT t) := by unfold validT; infer_instance

end Go.PS
end

section
-- Contracts of algebras: the reference.
set_option maxRecDepth 100000
set_option linter.unusedVariables false
set_option linter.unusedSimpArgs false
namespace Go.PS
open Go.Proofs

@[simp] theorem tm_fold {t : List (List Int)} {x y : Nat} : gi (gr t x) y = tm t x y := rfl

/-- A table of elements over a lattice. -/
structure TF (u : List Int) (t : List (List Int)) : Prop where
  lat : VL u
  len : t.length = u.length
  rows : ∀ x, x < u.length → (gr t x).length = u.length
  nn : ∀ x y, x < u.length → y < u.length → 0 ≤ tm t x y
  lt : ∀ x y, x < u.length → y < u.length → tm t x y < u.length

theorem TF.ltN {u : List Int} {t : List (List Int)} (f : TF u t) (x y : Nat) (hx : x < u.length) (hy : y < u.length) : (tm t x y).toNat < u.length := by
  have := f.nn x y hx hy; have := f.lt x y hx hy; omega
theorem VA.tf {u : List Int} {t : List (List Int)} (a : VA u t) : TF u t := ⟨a.lat, a.len, a.rows, fun x y hx hy => (a.rng x hx y hy).1, fun x y hx hy => (a.rng x hx y hy).2⟩
theorem VL.sm {u : List Int} (v : VL u) : Sm u := v.ord.sm
theorem VL.six {u : List Int} (v : VL u) : u.length ≤ 6 := v.ord.six
theorem VL.pos {u : List Int} (v : VL u) : 0 < u.length := v.ord.one
theorem VL.jn {u : List Int} (v : VL u) (x y : Nat) (hx : x < u.length) (hy : y < u.length) : 0 ≤ joinM u x y := (v.join_rng hx hy).1
theorem VL.jl {u : List Int} (v : VL u) (x y : Nat) (hx : x < u.length) (hy : y < u.length) : joinM u x y < u.length := (v.join_rng hx hy).2
theorem VL.jN {u : List Int} (v : VL u) (x y : Nat) (hx : x < u.length) (hy : y < u.length) : (joinM u x y).toNat < u.length := by have := v.join_rng hx hy; omega
theorem VL.ml {u : List Int} (v : VL u) (x y : Nat) (hx : x < u.length) (hy : y < u.length) : meetM u x y < u.length := (v.meet_rng hx hy).2
/-- The number of the greatest element. -/
theorem top_ex {n : Nat} (h1 : 1 ≤ n) (h2 : n ≤ 1099511627776) : ∃ m : Nat, m + 1 = n ∧ IntKind.i64.wrap ((n : Int) - 1) = (m : Int) := ⟨n - 1, by omega, by rw [wrap64 (by omega) (by omega)]; omega⟩

set_option maxHeartbeats 2000000 in
theorem validAlgebraS_pc (u : List Int) (t : List (List Int)) (hu : Big u.length) (ht : BigR t) : PC Try.prog 111 [AL u t] none true (fun r _ => r = .bool (decide (VA u t))) := by
  have hl := hu.le
  refine pcT [fm_validLatticeS, fm_inRange, fm_joinS] fok_111 ?_
  simp [fa_111]
  refine cutW (tabK_mono _) [(22, .bool (!decide (VL u) || decide ((t.length : Int) ≠ u.length)))] (by simp [hu]; grind) ?_
  simp
  refine ⟨fun h w => (by have := w.lat; have := w.len; grind), fun v hlen => ?_⟩
  have hlen : t.length = u.length := by omega
  obtain ⟨m, hm, el⟩ := top_ex v.ord.one hl
  have hml : m < u.length := by omega
  have h0l := v.pos
  have em : u.length - 1 = m := by omega
  refine loopA (tabK_mono _) u.length (fun i => [(4, I64 i)]) (fun _ => []) (fun x => (gr t x).length = u.length ∧ ∀ y, y < u.length → 0 ≤ tm t x y ∧ tm t x y ≤ m) (by simp) (by simp) (fun x g hx hP => ?_)
  simp [lb_111_5, wrap_succ hx hl, hlen]
  refine ⟨fun h => ⟨h, fun h2 w => h2 (by exact_mod_cast w.rows x h), fun h2 => ?_⟩, fun h => ?_⟩
  · have h2 : (gr t x).length = u.length := by omega
    refine loopA (tabK_mono _) u.length (fun i => [(5, I64 i)]) (fun _ => []) (fun y => 0 ≤ tm t x y ∧ tm t x y ≤ m) (by simp) (by simp) (fun y g hy hQ => ?_)
    simp [lb_111_10, wrap_succ hx hl, wrap_succ hy hl, hlen, h, h2, el]
    refine ⟨fun h3 => ⟨h3, fun h4 w => ?_, fun h4 h5 => ⟨h3, h4, h5⟩⟩, fun h3 y hy => hQ y (by omega)⟩
    have := w.rng x h y h3
    omega
  have f : TF u t := ⟨v, hlen, fun x hx => (hP x (by omega)).1, fun x y hx hy => ((hP x (by omega)).2 y hy).1, fun x y hx hy => by have := ((hP x (by omega)).2 y hy).2; omega⟩
  clear hP hx h x
  refine loopA (tabK_mono _) u.length (fun i => [(6, I64 i)]) (fun _ => []) (fun x => (tm t x m = x ∧ tm t x 0 = 0) ∧ ∀ y, y < u.length → tm t x y = tm t y x ∧ ∀ z, z < u.length → tm t (tn t x y) z = tm t x (tn t y z) ∧ tm t x (joinM u y z).toNat = joinM u (tn t x y) (tn t x z)) (by simp) (by simp) (fun x g hx hP => ?_)
  simp [lb_111_15, wrap_succ hx hl]
  refine ⟨fun h => ?_, fun h => ?_⟩
  · refine cutW (tabK_mono _) [(78, .bool (decide (tm t x m ≠ x) || decide (tm t x 0 ≠ 0)))] (by simp [hlen, h, el, f.rows, h0l, hml]; grind) ?_
    simp
    refine ⟨fun h2 w => (by have := w.top x h; rw [em] at this; grind), fun h2 h3 => ?_⟩
    refine loopA (tabK_mono _) u.length (fun i => [(7, I64 i)]) (fun _ => []) (fun y => tm t x y = tm t y x ∧ ∀ z, z < u.length → tm t (tn t x y) z = tm t x (tn t y z) ∧ tm t x (joinM u y z).toNat = joinM u (tn t x y) (tn t x z)) (by simp) (by simp) (fun y g hy hQ => ?_)
    simp [lb_111_20, wrap_succ hx hl, wrap_succ hy hl]
    refine ⟨fun h4 => ?_, fun h4 => ⟨h, ⟨h2, h3⟩, fun y hy => hQ y (by omega)⟩⟩
    simp [hlen, h, h4, f.rows]
    refine ⟨fun h5 w => h5 (w.comm x h y h4), fun h5 => ?_⟩
    refine loopA (tabK_mono _) u.length (fun i => [(8, I64 i)]) (fun _ => []) (fun z => tm t (tn t x y) z = tm t x (tn t y z) ∧ tm t x (joinM u y z).toNat = joinM u (tn t x y) (tn t x z)) (by simp) (by simp) (fun z g hz hR => ?_)
    simp [lb_111_25, wrap_succ hy hl, wrap_succ hz hl]
    refine ⟨fun h6 => ?_, fun h6 => ⟨h4, h5, fun z hz => hR z (by omega)⟩⟩
    refine cutWc (tabK_mono _) [(170, .bool (decide (tm t (tn t x y) z ≠ tm t x (tn t y z)) || decide (tm t x (joinM u y z).toNat ≠ joinM u (tn t x y) (tn t x z))))] (by simp (maxSteps := 2000000) [hlen, h, h4, h6, f.rows, f.nn, f.lt, f.ltN, v.jn, v.jl, v.jN, v.sm]; grind) ?_
    simp [wrap_succ hz hl]
    refine ⟨fun h7 w => ?_, fun h7 h8 => ⟨h6, h7, h8⟩⟩
    have := w.dist x h y h4 z h6; have := w.assoc x h y h4 z h6; grind
  · exact ⟨v, hlen, f.rows, fun x hx y hy => ⟨f.nn x y hx hy, f.lt x y hx hy⟩, fun x hx => em ▸ (hP x (by omega)).1, fun x hx y hy => ((hP x (by omega)).2 y hy).1, fun x hx y hy z hz => (((hP x (by omega)).2 y hy).2 z hz).1, fun x hx y hy z hz => (((hP x (by omega)).2 y hy).2 z hz).2⟩
noncomputable def fm_validAlgebraS : Fam Try.prog := mkFam (X := List Int × List (List Int)) 111 true (fun (u, t) => [AL u t]) (fun (u, t) => (Big u.length) ∧ (BigR t)) (fun (u, t) => .bool (decide (VA u t))) (by
  rintro ⟨u, t⟩ ⟨hu, ht⟩
  exact validAlgebraS_pc u t hu ht)
@[simp] theorem fm_validAlgebraS_id : fm_validAlgebraS.id = 111 := rfl
@[simp] theorem fm_validAlgebraS_fresh : fm_validAlgebraS.fresh = true := rfl
@[simp] theorem fm_validAlgebraS_look (u : List Int) (t : List (List Int)) (hu : Big u.length) (ht : BigR t) : fm_validAlgebraS.look [AL u t] = some (.bool (decide (VA u t))) :=
  lookF_of (X := List Int × List (List Int)) (args := fun (u, t) => [AL u t]) (pre := fun (u, t) => (Big u.length) ∧ (BigR t)) (val := fun (u, t) => .bool (decide (VA u t))) (by
  rintro ⟨u, t⟩ ⟨u', t'⟩ h
  simp at h
  try simp only [and_assoc] at h
  obtain ⟨rfl, rfl⟩ := h
  rfl) (u, t) ⟨hu, ht⟩
attribute [irreducible] fm_validAlgebraS

theorem implyS_pc (u : List Int) (t : List (List Int)) (x y : Int) (f : TF u t) (hx0 : 0 ≤ x) (hx : x.toNat < u.length) (hy0 : 0 ≤ y) (hy : y.toNat < u.length) : PC Try.prog 137 [AL u t, I64 x, I64 y] none true (fun r _ => r = I64 (implyM u t x.toNat y.toNat)) := by
  obtain ⟨x, rfl⟩ := Int.eq_ofNat_of_zero_le hx0
  obtain ⟨y, rfl⟩ := Int.eq_ofNat_of_zero_le hy0
  simp at hx hy
  have v := f.lat
  refine pcT [fm_belowS, fm_joinS] fok_137 ?_
  simp [fa_137]
  refine loopA (tabK_mono _) u.length (fun i => [(7, I64 (impAcc u t x y i)), (8, I64 i)]) (fun _ => []) (fun _ => True) (by simp [impAcc_zero]) (by simp) (fun z g hz _ => ?_)
  have hA := v.impAcc_rng (t := t) (x := x) (y := y) z hz
  simp [lb_137_3, wrap_succ hz v.sm.le, impAcc_succ]
  refine ⟨fun h => ?_, fun h => by rw [implyM, show z = u.length by omega]⟩
  simp [f.len, hx, hy, h, f.rows, f.nn, f.lt, f.ltN, v.sm, hA, show (impAcc u t x y z).toNat < u.length by omega, wrap_succ hz v.sm.le, impAcc_succ]
  grind
noncomputable def fm_implyS : Fam Try.prog := mkFam (X := List Int × List (List Int) × Int × Int) 137 true (fun (u, t, x, y) => [AL u t, I64 x, I64 y]) (fun (u, t, x, y) => (TF u t) ∧ (0 ≤ x) ∧ (x.toNat < u.length) ∧ (0 ≤ y) ∧ (y.toNat < u.length)) (fun (u, t, x, y) => I64 (implyM u t x.toNat y.toNat)) (by
  rintro ⟨u, t, x, y⟩ ⟨f, hx0, hx, hy0, hy⟩
  exact implyS_pc u t x y f hx0 hx hy0 hy)
@[simp] theorem fm_implyS_id : fm_implyS.id = 137 := rfl
@[simp] theorem fm_implyS_fresh : fm_implyS.fresh = true := rfl
@[simp] theorem fm_implyS_look (u : List Int) (t : List (List Int)) (x y : Int) (f : TF u t) (hx0 : 0 ≤ x) (hx : x.toNat < u.length) (hy0 : 0 ≤ y) (hy : y.toNat < u.length) : fm_implyS.look [AL u t, I64 x, I64 y] = some (I64 (implyM u t x.toNat y.toNat)) :=
  lookF_of (X := List Int × List (List Int) × Int × Int) (args := fun (u, t, x, y) => [AL u t, I64 x, I64 y]) (pre := fun (u, t, x, y) => (TF u t) ∧ (0 ≤ x) ∧ (x.toNat < u.length) ∧ (0 ≤ y) ∧ (y.toNat < u.length)) (val := fun (u, t, x, y) => I64 (implyM u t x.toNat y.toNat)) (by
  rintro ⟨u, t, x, y⟩ ⟨u', t', x', y'⟩ h
  simp at h
  try simp only [and_assoc] at h
  obtain ⟨rfl, rfl, rfl, rfl⟩ := h
  rfl) (u, t, x, y) ⟨f, hx0, hx, hy0, hy⟩
attribute [irreducible] fm_implyS

end Go.PS
end

section
-- Contracts of algebras: the program.
set_option maxRecDepth 100000
set_option linter.unusedVariables false
set_option linter.unusedSimpArgs false
namespace Go.PS
open Go.Proofs

/-- The place of the first with 'p', -1 if there is none. -/
def findI (p : Int → Bool) (xs : List Int) : Int := firstI xs.length fun i => p (gi xs i)
theorem findI_any {p : Int → Bool} {xs : List Int} : decide (0 ≤ findI p xs) = xs.any p := by
  rw [Bool.eq_iff_iff, decide_eq_true_eq, List.any_eq_true]
  constructor
  · intro h
    rcases firstI_range (n := xs.length) (p := fun i => p (gi xs i)) with h1 | ⟨z, hz, hp, h1⟩
    · rw [findI, h1] at h; omega
    · exact ⟨gi xs z, gi_mem hz, hp⟩
  · rintro ⟨x, hx, hp⟩
    obtain ⟨i, hi, rfl⟩ := List.mem_iff_getElem.1 hx
    rcases firstI_range (n := xs.length) (p := fun i => p (gi xs i)) with h1 | ⟨z, hz, hp, h1⟩
    · exfalso
      have : ∀ j, j < xs.length → p (gi xs j) = false := by
        intro j hj
        cases h2 : p (gi xs j)
        · rfl
        · exfalso
          have h3 : (List.range xs.length).find? (fun i => p (gi xs i)) = none := by
            unfold firstI at h1; split at h1
            · omega
            · assumption
          rw [List.find?_eq_none] at h3
          exact h3 j (by simpa using hj) h2
      have := this i hi
      rw [gi, List.getElem?_eq_getElem hi] at this
      simp [hp] at this
    · rw [findI, h1]; omega

theorem indexFunc_pc {xs : List Int} (hl : Big xs.length) {cid : Nat} {caps : List D} (hc : ∀ h, caps.map (der h 5) = caps) (p : Int → Bool)
    (hp : ∀ x, x ∈ xs → PC Try.prog cid (I64 x :: caps) none true (fun r _ => r = .bool (p x))) : PC Try.prog 166 [IL xs, .fn cid caps] none true (fun r _ => r = I64 (findI p xs)) := by
  have hl := hl.le
  obtain ⟨fm, hid, hfr, hlk⟩ := famE (P := Try.prog) (X := Int) cid true (fun x => I64 x :: caps) (fun x => x ∈ xs) (fun x => .bool (p x)) (by
    intro x y h
    simp at h
    simp [h]) (fun x hx => hp x hx)
  refine pcT [fm] fok_166 ?_
  simp [fa_166]
  refine loopA (tabK_mono _) xs.length (fun i => [(8, I64 i)]) (fun _ => []) (fun i => p (gi xs i) = false) (by simp) (by simp) (fun i g hi hP => ?_)
  simp [lb_166_2, wrap_succ hi hl]
  refine ⟨fun h => ?_, fun h => by rw [findI, firstI_none (fun j hj => hP j (by omega))]⟩
  simp [h, hid, hfr, hc, hlk _ (gi_mem h), wrap_succ hi hl]
  exact fun h2 => (firstI_some (p := fun i => p (gi xs i)) h h2 hP).symm

theorem containsFunc_pc {xs : List Int} (hl : Big xs.length) {cid : Nat} {caps : List D} (hc : ∀ h, caps.map (der h 4) = caps) (hc5 : ∀ h, caps.map (der h 5) = caps) (p : Int → Bool)
    (hp : ∀ x, x ∈ xs → PC Try.prog cid (I64 x :: caps) none true (fun r _ => r = .bool (p x))) : PC Try.prog 99 [IL xs, .fn cid caps] none true (fun r _ => r = .bool (xs.any p)) := by
  obtain ⟨fm, hid, hfr, hlk⟩ := famE (P := Try.prog) (X := Unit) 166 true (fun _ => [IL xs, .fn cid caps]) (fun _ => True) (fun _ => I64 (findI p xs)) (fun _ _ _ => rfl) (fun _ _ => indexFunc_pc hl hc5 p hp)
  have hlk := hlk () trivial
  refine pcT [fm] fok_99 ?_
  simp [fa_99, hid, hfr, hc, hlk]
  exact findI_any

/-- Outside a range. -/
def outR (n : Int) (x : Int) : Bool := !(decide (0 ≤ x) && decide (x ≤ n - 1))

theorem vaC_pc (x n : Int) (h1 : 0 ≤ n) (h2 : n ≤ 1099511627776) : PC Try.prog 100 [I64 x, .iptr (I64 n)] none true (fun r _ => r = .bool (outR n x)) := by
  refine pcT [fm_within] fok_100 ?_
  simp [fa_100, outR, wrap64 (n := n - 1) (by omega) (by omega)]
theorem contVA_pc (xs : List Int) (n : Int) (hl : Big xs.length) (h1 : 0 ≤ n) (h2 : n ≤ 1099511627776) : PC Try.prog 99 [IL xs, .fn 100 [.iptr (I64 n)]] none true (fun r _ => r = .bool (xs.any (outR n))) := by
  exact containsFunc_pc hl (by simp) (by simp) (outR n) (fun x hx => vaC_pc x n h1 h2)
noncomputable def fm_contVA : Fam Try.prog := mkFam (X := List Int × Int) 99 true (fun (xs, n) => [IL xs, .fn 100 [.iptr (I64 n)]]) (fun (xs, n) => (Big xs.length) ∧ (0 ≤ n) ∧ (n ≤ 1099511627776)) (fun (xs, n) => .bool (xs.any (outR n))) (by
  rintro ⟨xs, n⟩ ⟨hl, h1, h2⟩
  exact contVA_pc xs n hl h1 h2)
@[simp] theorem fm_contVA_id : fm_contVA.id = 99 := rfl
@[simp] theorem fm_contVA_fresh : fm_contVA.fresh = true := rfl
@[simp] theorem fm_contVA_look (xs : List Int) (n : Int) (hl : Big xs.length) (h1 : 0 ≤ n) (h2 : n ≤ 1099511627776) : fm_contVA.look [IL xs, .fn 100 [.iptr (I64 n)]] = some (.bool (xs.any (outR n))) :=
  lookF_of (X := List Int × Int) (args := fun (xs, n) => [IL xs, .fn 100 [.iptr (I64 n)]]) (pre := fun (xs, n) => (Big xs.length) ∧ (0 ≤ n) ∧ (n ≤ 1099511627776)) (val := fun (xs, n) => .bool (xs.any (outR n))) (by
  rintro ⟨xs, n⟩ ⟨xs', n'⟩ h
  simp at h
  try simp only [and_assoc] at h
  obtain ⟨rfl, rfl⟩ := h
  rfl) (xs, n) ⟨hl, h1, h2⟩
attribute [irreducible] fm_contVA

theorem atC_pc (x : Int) (u : List Int) (t : List (List Int)) (h2 : Big u.length) : PC Try.prog 174 [I64 x, .iptr (AL u t)] none true (fun r _ => r = .bool (outR u.length x)) := by
  have h2 := h2.le
  refine pcT [fm_within] fok_174 ?_
  simp [fa_174, outR, wrap64 (n := (u.length : Int) - 1) (by omega) (by omega)]
theorem contAt_pc (xs : List Int) (u : List Int) (t : List (List Int)) (hl : Big xs.length) (h2 : Big u.length) : PC Try.prog 99 [IL xs, .fn 174 [.iptr (AL u t)]] none true (fun r _ => r = .bool (xs.any (outR u.length))) := by
  exact containsFunc_pc hl (by simp) (by simp) (outR u.length) (fun x hx => atC_pc x u t h2)
noncomputable def fm_contAt : Fam Try.prog := mkFam (X := List Int × List Int × List (List Int)) 99 true (fun (xs, u, t) => [IL xs, .fn 174 [.iptr (AL u t)]]) (fun (xs, u, t) => (Big xs.length) ∧ (Big u.length)) (fun (xs, u, t) => .bool (xs.any (outR u.length))) (by
  rintro ⟨xs, u, t⟩ ⟨hl, h2⟩
  exact contAt_pc xs u t hl h2)
@[simp] theorem fm_contAt_id : fm_contAt.id = 99 := rfl
@[simp] theorem fm_contAt_fresh : fm_contAt.fresh = true := rfl
@[simp] theorem fm_contAt_look (xs : List Int) (u : List Int) (t : List (List Int)) (hl : Big xs.length) (h2 : Big u.length) : fm_contAt.look [IL xs, .fn 174 [.iptr (AL u t)]] = some (.bool (xs.any (outR u.length))) :=
  lookF_of (X := List Int × List Int × List (List Int)) (args := fun (xs, u, t) => [IL xs, .fn 174 [.iptr (AL u t)]]) (pre := fun (xs, u, t) => (Big xs.length) ∧ (Big u.length)) (val := fun (xs, u, t) => .bool (xs.any (outR u.length))) (by
  rintro ⟨xs, u, t⟩ ⟨xs', u', t'⟩ h
  simp at h
  try simp only [and_assoc] at h
  obtain ⟨rfl, rfl, rfl⟩ := h
  rfl) (xs, u, t) ⟨hl, h2⟩
attribute [irreducible] fm_contAt

theorem any_outR {xs : List Int} {n : Nat} (h : xs.any (outR n) = false) : ∀ y, y < xs.length → 0 ≤ gi xs y ∧ gi xs y < n := by
  intro y hy
  rw [List.any_eq_false] at h
  have := h _ (gi_mem hy)
  simp [outR] at this
  omega

set_option maxHeartbeats 2000000 in
theorem validAlgebraI_pc (u : List Int) (t : List (List Int)) (hu : Big u.length) (ht : BigR t) : PC Try.prog 23 [AL u t] none true (fun r _ => r = .bool (decide (VA u t))) := by
  have hl := hu.le
  refine pcT [fm_validLatticeI, fm_contVA, fm_joinI] fok_23 ?_
  simp [fa_23]
  refine cutW (tabK_mono _) [(22, .bool (!decide (VL u) || decide ((t.length : Int) ≠ u.length)))] (by simp [hu]; grind) ?_
  simp
  refine ⟨fun h w => (by have := w.lat; have := w.len; grind), fun v hlen => ?_⟩
  have hlen : t.length = u.length := by omega
  obtain ⟨m, hm, el⟩ := top_ex v.ord.one hl
  have hml : m < u.length := by omega
  have h0l := v.pos
  have em : u.length - 1 = m := by omega
  refine loopA (tabK_mono _) u.length (fun i => [(26, I64 i)]) (fun _ => [⟨24, 1, .cells [I64 u.length]⟩]) (fun x => (gr t x).length = u.length ∧ ∀ y, y < u.length → 0 ≤ tm t x y ∧ tm t x y < u.length) (by simp) (by simp) (fun x g hx hP => ?_)
  simp [lb_23_5, wrap_succ hx hl, hlen]
  refine ⟨fun h => ⟨h, ?_⟩, fun h => ?_⟩
  · refine cutW (tabK_mono _) [(38, .bool (decide ((gr t x).length ≠ u.length) || (gr t x).any (outR u.length)))] (by simp [show Big (gr t x).length from ht.row (by omega), show (u.length : Int) ≤ 1099511627776 by omega]; grind) ?_
    simp [wrap_succ hx hl]
    refine ⟨fun h2 w => ?_, fun h2 h3 => ⟨h, by omega, fun y hy => ?_⟩⟩
    · have h3 := h2.resolve_left (fun q => q (w.rows x h))
      obtain ⟨z, hz, h4⟩ := h3
      obtain ⟨y, hy, rfl⟩ := List.mem_iff_getElem.1 hz
      have h5 := w.rng x h y (by rw [← w.rows x h]; exact hy)
      rw [show (gr t x)[y] = tm t x y from by rw [tm, gi, List.getElem?_eq_getElem hy]; rfl] at h4
      simp [outR] at h4
      omega
    · have h4 := any_outR (xs := gr t x) (n := u.length) (by rw [List.any_eq_false]; intro z hz; simpa using h3 z hz) y (by omega)
      exact h4
  have f : TF u t := ⟨v, hlen, fun x hx => (hP x (by omega)).1, fun x y hx hy => ((hP x (by omega)).2 y hy).1, fun x y hx hy => ((hP x (by omega)).2 y hy).2⟩
  clear hP hx h x
  refine loopA (tabK_mono _) u.length (fun i => [(43, I64 i)]) (fun _ => [⟨24, 1, .cells [I64 u.length]⟩]) (fun x => (tm t x m = x ∧ tm t x 0 = 0) ∧ ∀ y, y < u.length → tm t x y = tm t y x ∧ ∀ z, z < u.length → tm t (tn t x y) z = tm t x (tn t y z) ∧ tm t x (joinM u y z).toNat = joinM u (tn t x y) (tn t x z)) (by simp) (by simp) (fun x g hx hP => ?_)
  simp [lb_23_11, wrap_succ hx hl]
  refine ⟨fun h => ?_, fun h => ?_⟩
  · refine cutWc (tabK_mono _) [(66, .bool (decide (tm t x m ≠ x) || decide (tm t x 0 ≠ 0)))] (by simp [hlen, h, el, f.rows, h0l, hml]; grind) ?_
    simp
    refine ⟨fun h2 w => (by have := w.top x h; rw [em] at this; grind), fun h2 h3 => ?_⟩
    refine loopA (tabK_mono _) u.length (fun i => [(70, I64 i)]) (fun _ => [⟨24, 1, .cells [I64 u.length]⟩]) (fun y => tm t x y = tm t y x ∧ ∀ z, z < u.length → tm t (tn t x y) z = tm t x (tn t y z) ∧ tm t x (joinM u y z).toNat = joinM u (tn t x y) (tn t x z)) (by simp) (by simp) (fun y g hy hQ => ?_)
    simp [lb_23_16, wrap_succ hx hl, wrap_succ hy hl]
    refine ⟨fun h4 => ?_, fun h4 => ⟨h, ⟨h2, h3⟩, fun y hy => hQ y (by omega)⟩⟩
    simp [hlen, h, h4, f.rows]
    refine ⟨fun h5 w => h5 (w.comm x h y h4), fun h5 => ?_⟩
    refine loopA (tabK_mono _) u.length (fun i => [(93, I64 i)]) (fun _ => [⟨24, 1, .cells [I64 u.length]⟩]) (fun z => tm t (tn t x y) z = tm t x (tn t y z) ∧ tm t x (joinM u y z).toNat = joinM u (tn t x y) (tn t x z)) (by simp) (by simp) (fun z g hz hR => ?_)
    simp [lb_23_21, wrap_succ hy hl, wrap_succ hz hl]
    refine ⟨fun h6 => ?_, fun h6 => ⟨h4, h5, fun z hz => hR z (by omega)⟩⟩
    refine cutWc (tabK_mono _) [(160, .bool (decide (tm t (tn t x y) z ≠ tm t x (tn t y z)) || decide (tm t x (joinM u y z).toNat ≠ joinM u (tn t x y) (tn t x z))))] (by simp (maxSteps := 2000000) [hlen, h, h4, h6, f.rows, f.nn, f.lt, f.ltN, v.jn, v.jl, v.jN, v.sm]; grind) ?_
    simp [wrap_succ hz hl]
    refine ⟨fun h7 w => ?_, fun h7 h8 => ⟨h6, h7, h8⟩⟩
    have := w.dist x h y h4 z h6; have := w.assoc x h y h4 z h6; grind
  · exact ⟨v, hlen, f.rows, fun x hx y hy => ⟨f.nn x y hx hy, f.lt x y hx hy⟩, fun x hx => em ▸ (hP x (by omega)).1, fun x hx y hy => ((hP x (by omega)).2 y hy).1, fun x hx y hy z hz => (((hP x (by omega)).2 y hy).2 z hz).1, fun x hx y hy z hz => (((hP x (by omega)).2 y hy).2 z hz).2⟩
noncomputable def fm_validAlgebraI : Fam Try.prog := mkFam (X := List Int × List (List Int)) 23 true (fun (u, t) => [AL u t]) (fun (u, t) => (Big u.length) ∧ (BigR t)) (fun (u, t) => .bool (decide (VA u t))) (by
  rintro ⟨u, t⟩ ⟨hu, ht⟩
  exact validAlgebraI_pc u t hu ht)
@[simp] theorem fm_validAlgebraI_id : fm_validAlgebraI.id = 23 := rfl
@[simp] theorem fm_validAlgebraI_fresh : fm_validAlgebraI.fresh = true := rfl
@[simp] theorem fm_validAlgebraI_look (u : List Int) (t : List (List Int)) (hu : Big u.length) (ht : BigR t) : fm_validAlgebraI.look [AL u t] = some (.bool (decide (VA u t))) :=
  lookF_of (X := List Int × List (List Int)) (args := fun (u, t) => [AL u t]) (pre := fun (u, t) => (Big u.length) ∧ (BigR t)) (val := fun (u, t) => .bool (decide (VA u t))) (by
  rintro ⟨u, t⟩ ⟨u', t'⟩ h
  simp at h
  try simp only [and_assoc] at h
  obtain ⟨rfl, rfl⟩ := h
  rfl) (u, t) ⟨hu, ht⟩
attribute [irreducible] fm_validAlgebraI

/-- Elements all. -/
def allE (xs : List Int) (n : Nat) : Prop := ∀ x ∈ xs, 0 ≤ x ∧ x < n
instance (xs : List Int) (n : Nat) : Decidable (allE xs n) := by unfold allE; infer_instance
theorem allE_any {xs : List Int} {n : Nat} : (!xs.any (outR n)) = decide (allE xs n) := by
  rw [Bool.eq_iff_iff, decide_eq_true_eq]
  simp [allE, outR]
  refine forall_congr' fun x => forall_congr' fun _ => ?_
  omega

theorem atI_pc (u : List Int) (t : List (List Int)) (xs : List Int) (hu : Big u.length) (ht : BigR t) (hx : Big xs.length) : PC Try.prog 117 [AL u t, IL xs] none true (fun r _ => r = .bool (decide (VA u t) && decide (allE xs u.length))) := by
  refine pcT [fm_validAlgebraI, fm_contAt] fok_117 ?_
  simp [fa_117]
  refine cutW (tabK_mono _) [(4, .bool (decide (VA u t) && decide (allE xs u.length)))] (by rw [← allE_any]; simp [hu, ht, hx]; grind) ?_
  simp
noncomputable def fm_atI : Fam Try.prog := mkFam (X := List Int × List (List Int) × List Int) 117 true (fun (u, t, xs) => [AL u t, IL xs]) (fun (u, t, xs) => (Big u.length) ∧ (BigR t) ∧ (Big xs.length)) (fun (u, t, xs) => .bool (decide (VA u t) && decide (allE xs u.length))) (by
  rintro ⟨u, t, xs⟩ ⟨hu, ht, hx⟩
  exact atI_pc u t xs hu ht hx)
@[simp] theorem fm_atI_id : fm_atI.id = 117 := rfl
@[simp] theorem fm_atI_fresh : fm_atI.fresh = true := rfl
@[simp] theorem fm_atI_look (u : List Int) (t : List (List Int)) (xs : List Int) (hu : Big u.length) (ht : BigR t) (hx : Big xs.length) : fm_atI.look [AL u t, IL xs] = some (.bool (decide (VA u t) && decide (allE xs u.length))) :=
  lookF_of (X := List Int × List (List Int) × List Int) (args := fun (u, t, xs) => [AL u t, IL xs]) (pre := fun (u, t, xs) => (Big u.length) ∧ (BigR t) ∧ (Big xs.length)) (val := fun (u, t, xs) => .bool (decide (VA u t) && decide (allE xs u.length))) (by
  rintro ⟨u, t, xs⟩ ⟨u', t', xs'⟩ h
  simp at h
  try simp only [and_assoc] at h
  obtain ⟨rfl, rfl, rfl⟩ := h
  rfl) (u, t, xs) ⟨hu, ht, hx⟩
attribute [irreducible] fm_atI

theorem implyI_pc (u : List Int) (t : List (List Int)) (x y : Int) (f : TF u t) (hx0 : 0 ≤ x) (hx : x.toNat < u.length) (hy0 : 0 ≤ y) (hy : y.toNat < u.length) : PC Try.prog 118 [AL u t, I64 x, I64 y] none true (fun r _ => r = I64 (implyM u t x.toNat y.toNat)) := by
  obtain ⟨x, rfl⟩ := Int.eq_ofNat_of_zero_le hx0
  obtain ⟨y, rfl⟩ := Int.eq_ofNat_of_zero_le hy0
  simp at hx hy
  have v := f.lat
  refine pcT [fm_belowI, fm_joinI] fok_118 ?_
  simp [fa_118]
  refine loopA (tabK_mono _) u.length (fun i => [(7, I64 (impAcc u t x y i)), (12, I64 i)]) (fun _ => []) (fun _ => True) (by simp [impAcc_zero]) (by simp) (fun z g hz _ => ?_)
  have hA := v.impAcc_rng (t := t) (x := x) (y := y) z hz
  simp [lb_118_3, wrap_succ hz v.sm.le, impAcc_succ]
  refine ⟨fun h => ?_, fun h => by rw [implyM, show z = u.length by omega]⟩
  simp [f.len, hx, hy, h, f.rows, f.nn, f.lt, f.ltN, v.sm, v.six, hA, show (impAcc u t x y z).toNat < u.length by omega, wrap_succ hz v.sm.le, impAcc_succ]
  grind
noncomputable def fm_implyI : Fam Try.prog := mkFam (X := List Int × List (List Int) × Int × Int) 118 true (fun (u, t, x, y) => [AL u t, I64 x, I64 y]) (fun (u, t, x, y) => (TF u t) ∧ (0 ≤ x) ∧ (x.toNat < u.length) ∧ (0 ≤ y) ∧ (y.toNat < u.length)) (fun (u, t, x, y) => I64 (implyM u t x.toNat y.toNat)) (by
  rintro ⟨u, t, x, y⟩ ⟨f, hx0, hx, hy0, hy⟩
  exact implyI_pc u t x y f hx0 hx hy0 hy)
@[simp] theorem fm_implyI_id : fm_implyI.id = 118 := rfl
@[simp] theorem fm_implyI_fresh : fm_implyI.fresh = true := rfl
@[simp] theorem fm_implyI_look (u : List Int) (t : List (List Int)) (x y : Int) (f : TF u t) (hx0 : 0 ≤ x) (hx : x.toNat < u.length) (hy0 : 0 ≤ y) (hy : y.toNat < u.length) : fm_implyI.look [AL u t, I64 x, I64 y] = some (I64 (implyM u t x.toNat y.toNat)) :=
  lookF_of (X := List Int × List (List Int) × Int × Int) (args := fun (u, t, x, y) => [AL u t, I64 x, I64 y]) (pre := fun (u, t, x, y) => (TF u t) ∧ (0 ≤ x) ∧ (x.toNat < u.length) ∧ (0 ≤ y) ∧ (y.toNat < u.length)) (val := fun (u, t, x, y) => I64 (implyM u t x.toNat y.toNat)) (by
  rintro ⟨u, t, x, y⟩ ⟨u', t', x', y'⟩ h
  simp at h
  try simp only [and_assoc] at h
  obtain ⟨rfl, rfl, rfl, rfl⟩ := h
  rfl) (u, t, x, y) ⟨f, hx0, hx, hy0, hy⟩
attribute [irreducible] fm_implyI

theorem notI_pc (u : List Int) (t : List (List Int)) (x : Int) (f : TF u t) (hx0 : 0 ≤ x) (hx : x.toNat < u.length) : PC Try.prog 127 [AL u t, I64 x] none true (fun r _ => r = I64 (implyM u t x.toNat 0)) := by
  refine pcT [fm_implyI] fok_127 ?_
  simp [fa_127, f, hx0, hx, f.lat.pos]
noncomputable def fm_notI : Fam Try.prog := mkFam (X := List Int × List (List Int) × Int) 127 true (fun (u, t, x) => [AL u t, I64 x]) (fun (u, t, x) => (TF u t) ∧ (0 ≤ x) ∧ (x.toNat < u.length)) (fun (u, t, x) => I64 (implyM u t x.toNat 0)) (by
  rintro ⟨u, t, x⟩ ⟨f, hx0, hx⟩
  exact notI_pc u t x f hx0 hx)
@[simp] theorem fm_notI_id : fm_notI.id = 127 := rfl
@[simp] theorem fm_notI_fresh : fm_notI.fresh = true := rfl
@[simp] theorem fm_notI_look (u : List Int) (t : List (List Int)) (x : Int) (f : TF u t) (hx0 : 0 ≤ x) (hx : x.toNat < u.length) : fm_notI.look [AL u t, I64 x] = some (I64 (implyM u t x.toNat 0)) :=
  lookF_of (X := List Int × List (List Int) × Int) (args := fun (u, t, x) => [AL u t, I64 x]) (pre := fun (u, t, x) => (TF u t) ∧ (0 ≤ x) ∧ (x.toNat < u.length)) (val := fun (u, t, x) => I64 (implyM u t x.toNat 0)) (by
  rintro ⟨u, t, x⟩ ⟨u', t', x'⟩ h
  simp at h
  try simp only [and_assoc] at h
  obtain ⟨rfl, rfl, rfl⟩ := h
  rfl) (u, t, x) ⟨f, hx0, hx⟩
attribute [irreducible] fm_notI

end Go.PS
end

section
-- Contracts of terms.
set_option maxRecDepth 100000
set_option linter.unusedVariables false
set_option linter.unusedSimpArgs false
namespace Go.PS
open Go.Proofs

end Go.PS
end

section
-- Contracts of values of terms.
set_option maxRecDepth 100000
set_option linter.unusedVariables false
set_option linter.unusedSimpArgs false
namespace Go.PS
open Go.Proofs

-- the value of the first term

section
variable {u : List Int} {t : List (List Int)} {nm : List Int}
end

/-- Elements for the names. -/
structure NmOk (nm : List Int) (n : Nat) : Prop where
  three : nm.length = 3
  all : allE nm n

end Go.PS
end

section
-- Contracts of values of terms.
set_option maxRecDepth 100000
set_option linter.unusedVariables false
set_option linter.unusedSimpArgs false
namespace Go.PS
open Go.Proofs

theorem isSome_of {α : Type} {o : Option α} {r : α} (h : o = some r) : o.isSome = true := by rw [h]; rfl

theorem validT.some {l : List Int} (h : validT l) : (sk l 1).isSome = true := isSome_of h.2

end Go.PS
end

section
-- Powers, and lists of elements for the names, in plain Lean.
set_option linter.unusedVariables false
set_option linter.unusedSimpArgs false
namespace Go.PS

/-- What a join is. -/
theorem VL.join_spec {u : List Int} (v : VL u) {x y : Nat} (hx : x < u.length) (hy : y < u.length) : isJ u x y (joinM u x y).toNat = true ∧ (joinM u x y).toNat < u.length := by
  have h := (v.mj x hx y hy).2
  rcases firstI_range (n := u.length) (p := isJ u x y) with h1 | ⟨z, hz, hp, h1⟩
  · rw [joinM, h1] at h; omega
  · rw [joinM, h1, Int.toNat_natCast]; exact ⟨hp, hz⟩
theorem isJ_ub {u : List Int} {x y z : Nat} (h : isJ u x y z = true) : tb u x z = true ∧ tb u y z = true := by
  simp only [isJ, Bool.and_eq_true] at h; exact h.1
theorem VA.le {u : List Int} {t : List (List Int)} (a : VA u t) {x y : Nat} (hx : x < u.length) (hy : y < u.length) : tb u (tn t x y) x = true := by
  have v := a.lat
  have hp := v.pos
  have htop : u.length - 1 < u.length := by omega
  have j1 := v.join_spec hy htop
  have e1 : (joinM u y (u.length - 1)).toNat = u.length - 1 := by
    have b := isJ_ub j1.1
    have hz := j1.2
    generalize (joinM u y (u.length - 1)).toNat = z at *
    by_cases h : z = u.length - 1
    · exact h
    · have := v.ord.anti z hz (u.length - 1) htop h (v.ord.row z hz).2.2
      rw [b.2] at this; cases this
  have d := a.dist x hx y hy (u.length - 1) htop
  rw [e1, (a.top x hx).1] at d
  have e2 : tn t x (u.length - 1) = x := by rw [tn, (a.top x hx).1]; simp
  rw [e2] at d
  have hxy := a.tf.ltN x y hx hy
  have j2 := v.join_spec hxy hx
  rw [← d, Int.toNat_natCast] at j2
  exact (isJ_ub j2.1).1

end Go.PS
end

section
-- Algebras of fuzzy truth: what follows from their being so, in plain Lean.
set_option linter.unusedVariables false
set_option linter.unusedSimpArgs false
namespace Go.PS

abbrev jo (u : List Int) (x y : Nat) : Nat := (joinM u x y).toNat
abbrev mt (u : List Int) (x y : Nat) : Nat := (meetM u x y).toNat
abbrev im (u : List Int) (t : List (List Int)) (x y : Nat) : Nat := (implyM u t x y).toNat

section
variable {u : List Int} {t : List (List Int)} {x y z w : Nat}

theorem VL.rf (v : VL u) (hx : x < u.length) : tb u x x = true := (v.ord.row x hx).1
theorem VL.bot (v : VL u) (hx : x < u.length) : tb u 0 x = true := (v.ord.row x hx).2.1
theorem VL.topl (v : VL u) (hx : x < u.length) : tb u x (u.length - 1) = true := (v.ord.row x hx).2.2
theorem VL.tr (v : VL u) (hx : x < u.length) (hy : y < u.length) (hz : z < u.length) (h : tb u x y = true) (h2 : tb u y z = true) : tb u x z = true := v.ord.trans x hx y hy z hz h h2
theorem VL.eq (v : VL u) (hx : x < u.length) (hy : y < u.length) (h : tb u x y = true) (h2 : tb u y x = true) : x = y := by
  by_cases e : x = y
  · exact e
  · have := v.ord.anti x hx y hy e h
    rw [h2] at this; cases this
theorem VL.eq_top (v : VL u) (hx : x < u.length) (h : tb u (u.length - 1) x = true) : x = u.length - 1 := v.eq hx (by omega) (v.topl hx) h

theorem VL.meet_spec (v : VL u) (hx : x < u.length) (hy : y < u.length) : isM u x y (mt u x y) = true ∧ mt u x y < u.length := by
  have h := (v.mj x hx y hy).1
  rcases firstI_range (n := u.length) (p := isM u x y) with h1 | ⟨z, hz, hp, h1⟩
  · rw [meetM, h1] at h; omega
  · rw [mt, meetM, h1, Int.toNat_natCast]; exact ⟨hp, hz⟩
theorem isM_spec (h : isM u x y z = true) : (tb u z x = true ∧ tb u z y = true) ∧ ∀ w, w < u.length → tb u w x = true → tb u w y = true → tb u w z = true := by
  simp only [isM, Bool.and_eq_true, List.all_eq_true, List.mem_range] at h
  refine ⟨h.1, fun w hw h1 h2 => ?_⟩
  have := h.2 w hw
  simpa [h1, h2] using this
theorem isJ_spec (h : isJ u x y z = true) : (tb u x z = true ∧ tb u y z = true) ∧ ∀ w, w < u.length → tb u x w = true → tb u y w = true → tb u z w = true := by
  simp only [isJ, Bool.and_eq_true, List.all_eq_true, List.mem_range] at h
  refine ⟨h.1, fun w hw h1 h2 => ?_⟩
  have := h.2 w hw
  simpa [h1, h2] using this
theorem VL.jo_lt (v : VL u) (hx : x < u.length) (hy : y < u.length) : jo u x y < u.length := (v.join_spec hx hy).2
theorem VL.mt_lt (v : VL u) (hx : x < u.length) (hy : y < u.length) : mt u x y < u.length := (v.meet_spec hx hy).2
theorem VL.jo_l (v : VL u) (hx : x < u.length) (hy : y < u.length) : tb u x (jo u x y) = true := (isJ_spec (v.join_spec hx hy).1).1.1
theorem VL.jo_r (v : VL u) (hx : x < u.length) (hy : y < u.length) : tb u y (jo u x y) = true := (isJ_spec (v.join_spec hx hy).1).1.2
theorem VL.jo_le (v : VL u) (hx : x < u.length) (hy : y < u.length) (hz : z < u.length) (h : tb u x z = true) (h2 : tb u y z = true) : tb u (jo u x y) z = true := (isJ_spec (v.join_spec hx hy).1).2 z hz h h2
theorem VL.mt_l (v : VL u) (hx : x < u.length) (hy : y < u.length) : tb u (mt u x y) x = true := (isM_spec (v.meet_spec hx hy).1).1.1
theorem VL.mt_r (v : VL u) (hx : x < u.length) (hy : y < u.length) : tb u (mt u x y) y = true := (isM_spec (v.meet_spec hx hy).1).1.2
theorem VL.le_mt (v : VL u) (hx : x < u.length) (hy : y < u.length) (hz : z < u.length) (h : tb u z x = true) (h2 : tb u z y = true) : tb u z (mt u x y) = true := (isM_spec (v.meet_spec hx hy).1).2 z hz h h2
theorem VL.jo_eq (v : VL u) (hx : x < u.length) (hy : y < u.length) (h : tb u x y = true) : jo u x y = y := v.eq (v.jo_lt hx hy) hy (v.jo_le hx hy hy h (v.rf hy)) (v.jo_r hx hy)
theorem VL.jo_comm (v : VL u) (hx : x < u.length) (hy : y < u.length) : jo u x y = jo u y x :=
  v.eq (v.jo_lt hx hy) (v.jo_lt hy hx) (v.jo_le hx hy (v.jo_lt hy hx) (v.jo_r hy hx) (v.jo_l hy hx)) (v.jo_le hy hx (v.jo_lt hx hy) (v.jo_r hx hy) (v.jo_l hx hy))
theorem VL.jo_int (v : VL u) (hx : x < u.length) (hy : y < u.length) : joinM u x y = (jo u x y : Nat) := (Int.toNat_of_nonneg (v.jn x y hx hy)).symm
theorem VA.tn_lt (a : VA u t) (hx : x < u.length) (hy : y < u.length) : tn t x y < u.length := a.tf.ltN x y hx hy
theorem VA.tn_int (a : VA u t) (hx : x < u.length) (hy : y < u.length) : tm t x y = (tn t x y : Nat) := (Int.toNat_of_nonneg (a.tf.nn x y hx hy)).symm
theorem VA.tn_comm (a : VA u t) (hx : x < u.length) (hy : y < u.length) : tn t x y = tn t y x := by rw [tn, a.comm x hx y hy]
theorem VA.tn_assoc (a : VA u t) (hx : x < u.length) (hy : y < u.length) (hz : z < u.length) : tn t (tn t x y) z = tn t x (tn t y z) := congrArg Int.toNat (a.assoc x hx y hy z hz)
theorem VA.tn_top (a : VA u t) (hx : x < u.length) : tn t x (u.length - 1) = x := by rw [tn, (a.top x hx).1]; simp
theorem VA.tn_topl (a : VA u t) (hx : x < u.length) : tn t (u.length - 1) x = x := by rw [a.tn_comm (by omega) hx, a.tn_top hx]
theorem VA.tn_bot (a : VA u t) (hx : x < u.length) : tn t x 0 = 0 := by rw [tn, (a.top x hx).2]; simp
theorem VA.tn_jo (a : VA u t) (hx : x < u.length) (hy : y < u.length) (hz : z < u.length) : tn t x (jo u y z) = jo u (tn t x y) (tn t x z) := congrArg Int.toNat (a.dist x hx y hy z hz)
theorem VA.jo_tn (a : VA u t) (hx : x < u.length) (hy : y < u.length) (hz : z < u.length) : tn t (jo u y z) x = jo u (tn t y x) (tn t z x) := by
  rw [a.tn_comm (a.lat.jo_lt hy hz) hx, a.tn_jo hx hy hz, a.tn_comm hx hy, a.tn_comm hx hz]
theorem VA.mono (a : VA u t) (hx : x < u.length) (hy : y < u.length) (hz : z < u.length) (h : tb u y z = true) : tb u (tn t x y) (tn t x z) = true := by
  have e := a.tn_jo hx hy hz
  rw [a.lat.jo_eq hy hz h] at e
  rw [e]
  exact a.lat.jo_l (a.tn_lt hx hy) (a.tn_lt hx hz)
theorem VA.monol (a : VA u t) (hx : x < u.length) (hy : y < u.length) (hz : z < u.length) (h : tb u y z = true) : tb u (tn t y x) (tn t z x) = true := by
  rw [a.tn_comm hy hx, a.tn_comm hz hx]; exact a.mono hx hy hz h
theorem VA.mono2 (a : VA u t) (hx : x < u.length) (hy : y < u.length) (hz : z < u.length) (hw : w < u.length) (h : tb u x y = true) (h2 : tb u z w = true) : tb u (tn t x z) (tn t y w) = true :=
  a.lat.tr (a.tn_lt hx hz) (a.tn_lt hx hw) (a.tn_lt hy hw) (a.mono hx hz hw h2) (a.monol hw hx hy h)
theorem VA.le_l (a : VA u t) (hx : x < u.length) (hy : y < u.length) : tb u (tn t x y) x = true := a.le hx hy
theorem VA.le_r (a : VA u t) (hx : x < u.length) (hy : y < u.length) : tb u (tn t x y) y = true := by rw [a.tn_comm hx hy]; exact a.le hy hx

theorem VA.im_lt (a : VA u t) : im u t x y < u.length := by
  have := a.lat.imply_rng (t := t) (x := x) (y := y)
  show (implyM u t x y).toNat < _
  omega
theorem VA.im_int (a : VA u t) : implyM u t x y = (im u t x y : Nat) := (Int.toNat_of_nonneg (a.lat.imply_rng (t := t) (x := x) (y := y)).1).symm
theorem VA.acc (a : VA u t) (hx : x < u.length) (hy : y < u.length) : ∀ i, i ≤ u.length → tb u (tn t x (impAcc u t x y i).toNat) y = true ∧ ∀ z, z < i → tb u (tn t x z) y = true → tb u z (impAcc u t x y i).toNat = true
  | 0, _ => by
    rw [impAcc_zero]
    refine ⟨?_, fun z hz => by omega⟩
    show tb u (tn t x 0) y = true
    rw [a.tn_bot hx]
    exact a.lat.bot hy
  | i + 1, h => by
    have ih := VA.acc a hx hy i (by omega)
    have hr := a.lat.impAcc_rng (t := t) (x := x) (y := y) i (by omega)
    rw [impAcc_succ]
    generalize impAcc u t x y i = k at *
    have hk : k.toNat < u.length := by omega
    have hi : i < u.length := by omega
    split
    · rename_i hc
      constructor
      · show tb u (tn t x (jo u k.toNat i)) y = true
        rw [a.tn_jo hx hk hi]
        exact a.lat.jo_le (a.tn_lt hx hk) (a.tn_lt hx hi) hy ih.1 hc
      · intro z hz hz2
        by_cases e : z = i
        · subst e; exact a.lat.jo_r hk hi
        · exact a.lat.tr (by omega) hk (a.lat.jo_lt hk hi) (ih.2 z (by omega) hz2) (a.lat.jo_l hk hi)
    · rename_i hc
      refine ⟨ih.1, fun z hz hz2 => ?_⟩
      by_cases e : z = i
      · subst e; exact absurd hz2 hc
      · exact ih.2 z (by omega) hz2
/-- Products and implications are neighbours. -/
theorem VA.res (a : VA u t) (hx : x < u.length) (hy : y < u.length) (hz : z < u.length) : tb u (tn t x z) y = tb u z (im u t x y) := by
  have h := a.acc hx hy u.length (Nat.le_refl _)
  have hi := a.im_lt (x := x) (y := y)
  rw [Bool.eq_iff_iff]
  refine ⟨h.2 z hz, fun hle => ?_⟩
  exact a.lat.tr (a.tn_lt hx hz) (a.tn_lt hx hi) hy (a.mono hx hz hi hle) h.1
theorem VA.mp (a : VA u t) (hx : x < u.length) (hy : y < u.length) : tb u (tn t x (im u t x y)) y = true := (a.acc hx hy u.length (Nat.le_refl _)).1
theorem VA.im_top (a : VA u t) (hx : x < u.length) (hy : y < u.length) : im u t x y = u.length - 1 ↔ tb u x y = true := by
  have h := a.res hx hy (z := u.length - 1) (by omega)
  rw [a.tn_top hx] at h
  constructor
  · intro e
    rw [h, e]; exact a.lat.rf (by omega)
  · intro e
    rw [h] at e
    exact a.lat.eq_top a.im_lt e
-- opposites
-- nearness
abbrev nr (u : List Int) (t : List (List Int)) (x y : Nat) : Nat := tn t (im u t x y) (im u t y x)
theorem VA.nr_lt (a : VA u t) : nr u t x y < u.length := a.tn_lt a.im_lt a.im_lt
theorem VA.nr_comm (a : VA u t) : nr u t x y = nr u t y x := a.tn_comm a.im_lt a.im_lt
theorem VA.im_tr (a : VA u t) (hx : x < u.length) (hy : y < u.length) (hz : z < u.length) : tb u (tn t (im u t x y) (im u t y z)) (im u t x z) = true := by
  have h1 := a.im_lt (x := x) (y := y)
  have h2 := a.im_lt (x := y) (y := z)
  rw [← a.res hx hz (a.tn_lt h1 h2), ← a.tn_assoc hx h1 h2]
  exact a.lat.tr (a.tn_lt (a.tn_lt hx h1) h2) (a.tn_lt hy h2) hz (a.monol h2 (a.tn_lt hx h1) hy (a.mp hx hy)) (a.mp hy hz)
theorem VA.mid4 (a : VA u t) {p q r s : Nat} (hp : p < u.length) (hq : q < u.length) (hr : r < u.length) (hs : s < u.length) : tn t (tn t p q) (tn t r s) = tn t (tn t p r) (tn t s q) := by
  rw [a.tn_assoc hp hq (a.tn_lt hr hs), a.tn_assoc hp hr (a.tn_lt hs hq), a.tn_comm hq (a.tn_lt hr hs), a.tn_assoc hr hs hq]
theorem VA.nr_tr (a : VA u t) (hx : x < u.length) (hy : y < u.length) (hz : z < u.length) : tb u (tn t (nr u t x y) (nr u t y z)) (nr u t x z) = true := by
  rw [a.mid4 a.im_lt a.im_lt a.im_lt a.im_lt]
  exact a.mono2 (a.tn_lt a.im_lt a.im_lt) a.im_lt (a.tn_lt a.im_lt a.im_lt) a.im_lt (a.im_tr hx hy hz) (a.im_tr hz hy hx)
theorem VA.nr_top (a : VA u t) (hx : x < u.length) (hy : y < u.length) : nr u t x y = u.length - 1 ↔ x = y := by
  constructor
  · intro e
    have h1 := a.le_l (x := im u t x y) (y := im u t y x) a.im_lt a.im_lt
    have h2 := a.le_r (x := im u t x y) (y := im u t y x) a.im_lt a.im_lt
    rw [show tn t (im u t x y) (im u t y x) = u.length - 1 from e] at h1 h2
    exact a.lat.eq hx hy ((a.im_top hx hy).1 (a.lat.eq_top a.im_lt h1)) ((a.im_top hy hx).1 (a.lat.eq_top a.im_lt h2))
  · rintro rfl
    have := (a.im_top hx hx).2 (a.lat.rf hx)
    show tn t (im u t x x) (im u t x x) = _
    rw [this, a.tn_top (by omega)]

-- fixed elements
-- properties
end
end Go.PS
end
