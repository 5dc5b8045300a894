/- Part 7 of what the last text proves: The filters told by IsFilter are filters: the law holds at every input. -/
import Derived.Test.YthbdihoacfhflaaQo6
section
-- PRINTED by gen.py: clean texts of functions, and their tie to the program.
set_option maxRecDepth 100000
namespace Go.PS
open Go.Proofs
/-- spec.isFilter -/
def an_112 : Ann := ⟨[(2, 2, 3), (2, 4, 3), (2, 10, 3), (10, 2, 3), (10, 9, 3), (10, 13, 3), (10, 19, 3), (10, 31, 3)], [(0, [1, 2]), (1, [1, 2, 5]), (2, [1, 2, 5, 23]), (3, [4]), (4, [1, 2, 5, 6]), (5, [1, 2, 5, 6, 26]), (7, [1, 2, 5, 6, 7]), (8, [1, 2, 5, 6, 7, 31]), (10, [1, 2, 5, 6, 7, 69]), (11, [4]), (9, [1, 2, 5, 6, 7]), (6, [1, 2, 5, 6]), (12, [4])], [(5, [1, 2, 5, 6], []), (8, [1, 2, 5, 6, 7], [])], []⟩
def lb_112_8 : AC :=
  (.seq
    (.seq
      (.region false [⟨some 29, (.mv (.t 7)), 3, none, 0⟩, ⟨some 30, (.mv (.t 5)), 3, none, 0⟩, ⟨some 31, (.bin .lss 3 (.t 29) (.t 30)), 4, none, 0⟩] (some [1, 2, 5, 6, 7, 31]))
      (.cond (.t 31)
        .skip
        (.exit 2)))
    (.seq
      (.block 3
        (.seq
          (.region false (gops (seg [1, 2, 5, 6, 7, 38, 43] [⟨some 34, (.mv (.t 1)), 3, none, 0⟩, ⟨some 35, (.mv (.t 6)), 3, none, 0⟩, ⟨some 36, (.call (.f 171) [(.t 34), (.t 35)]), 3, none, 3⟩, ⟨some 37, (.bin .eql 3 (.t 36) (.c (.int .i64 1))), 4, none, 0⟩, ⟨some 38, (.mv (.t 37)), 4, none, 0⟩, ⟨some 39, (.faddr 27 (.t 2) 0), 0, some (38, true), 0⟩, ⟨some 40, (.load 23 (.t 39)), 23, some (38, true), 0⟩, ⟨some 41, (.mv (.t 6)), 3, some (38, true), 0⟩, ⟨some 42, (.mv (.t 7)), 3, some (38, true), 0⟩, ⟨some 43, (.call (.f 156) [(.t 40), (.t 41), (.t 42)]), 4, some (38, true), 3⟩]
          (seg [1, 2, 5, 6, 7, 38, 50, 53] [⟨some 44, (.mv (.t 43)), 4, some (38, true), 0⟩, ⟨some 45, (.mv (.t 1)), 3, some (44, true), 0⟩, ⟨some 46, (.mv (.t 7)), 3, some (44, true), 0⟩, ⟨some 47, (.call (.f 171) [(.t 45), (.t 46)]), 3, some (44, true), 3⟩, ⟨some 48, (.bin .eql 3 (.t 47) (.c (.int .i64 0))), 4, some (44, true), 0⟩, ⟨some 49, (.pick (.t 44) (.t 48) (.c (.bool false))), 4, some (38, true), 0⟩, ⟨some 50, (.mv (.t 49)), 4, some (38, true), 0⟩, ⟨some 51, (.mv (.t 1)), 3, some (50, false), 0⟩, ⟨some 52, (.mv (.t 7)), 3, some (50, false), 0⟩, ⟨some 53, (.call (.f 171) [(.t 51), (.t 52)]), 3, some (50, false), 3⟩]
          (seg [1, 2, 5, 6, 7, 38, 50, 55, 56, 63] [⟨some 54, (.bin .eql 3 (.t 53) (.c (.int .i64 1))), 4, some (50, false), 0⟩, ⟨some 55, (.mv (.t 54)), 4, some (50, false), 0⟩, ⟨some 56, (.mv (.t 1)), 3, some (55, true), 0⟩, ⟨some 57, (.faddr 27 (.t 2) 1), 0, some (55, true), 0⟩, ⟨some 58, (.load 25 (.t 57)), 25, some (55, true), 0⟩, ⟨some 59, (.mv (.t 6)), 3, some (55, true), 0⟩, ⟨some 60, (.iaddr 25 (.t 58) (.t 59)), 0, some (55, true), 0⟩, ⟨some 61, (.load 23 (.t 60)), 23, some (55, true), 0⟩, ⟨some 62, (.mv (.t 7)), 3, some (55, true), 0⟩, ⟨some 63, (.iaddr 23 (.t 61) (.t 62)), 0, some (55, true), 0⟩]
          [⟨some 64, (.load 3 (.t 63)), 3, some (55, true), 0⟩, ⟨some 65, (.call (.f 171) [(.t 56), (.t 64)]), 3, some (55, true), 3⟩, ⟨some 66, (.bin .eql 3 (.t 65) (.c (.int .i64 0))), 4, some (55, true), 0⟩, ⟨some 67, (.pick (.t 55) (.t 66) (.c (.bool false))), 4, some (50, false), 0⟩, ⟨some 68, (.pick (.t 50) (.c (.bool true)) (.t 67)), 4, some (38, true), 0⟩, ⟨some 69, (.pick (.t 38) (.t 68) (.c (.bool false))), 4, none, 0⟩] [1, 2, 5, 6, 7, 69] (by decide)) [1, 2, 5, 6, 7, 69] (by decide)) [1, 2, 5, 6, 7, 69] (by decide))) (some [1, 2, 5, 6, 7, 69]))
          (.cond (.t 69)
            (.seq
              (.region false [⟨some 4, (.mv (.c (.bool false))), 4, none, 0⟩] (some [4]))
              .ret)
            .skip)))
      (.region false [⟨some 32, (.mv (.t 7)), 3, none, 0⟩, ⟨some 33, (.bin .add 3 (.t 32) (.c (.int .i64 1))), 3, none, 0⟩, ⟨some 7, (.mv (.t 33)), 3, none, 0⟩] (some [1, 2, 5, 6, 7]))))
def lb_112_5 : AC :=
  (.seq
    (.seq
      (.region false [⟨some 24, (.mv (.t 6)), 3, none, 0⟩, ⟨some 25, (.mv (.t 5)), 3, none, 0⟩, ⟨some 26, (.bin .lss 3 (.t 24) (.t 25)), 4, none, 0⟩] (some [1, 2, 5, 6, 26]))
      (.cond (.t 26)
        .skip
        (.exit 0)))
    (.seq
      (.block 1
        (.seq
          (.region false [⟨some 7, (.mv (.c (.int .i64 0))), 3, none, 0⟩] (some [1, 2, 5, 6, 7]))
          (.block 2
            (.loop [1, 2, 5, 6, 7] [] lb_112_8))))
      (.region false [⟨some 27, (.mv (.t 6)), 3, none, 0⟩, ⟨some 28, (.bin .add 3 (.t 27) (.c (.int .i64 1))), 3, none, 0⟩, ⟨some 6, (.mv (.t 28)), 3, none, 0⟩] (some [1, 2, 5, 6]))))
def fa_112 : FnA := ⟨70, [.t 4],
  (.seq
    (.region false [⟨some 2, (.box 27 (.t 0)), 0, none, 0⟩, ⟨some 4, (.mv (.c (.bool false))), 4, none, 0⟩] (some [1, 2]))
    (.seq
      (.region false [⟨some 8, (.faddr 27 (.t 2) 0), 0, none, 0⟩, ⟨some 9, (.load 23 (.t 8)), 23, none, 0⟩, ⟨some 10, (.len 23 (.t 9)), 3, none, 0⟩, ⟨some 5, (.mv (.t 10)), 3, none, 0⟩] (some [1, 2, 5]))
      (.seq
        (.seq
          (.region false (gops [⟨some 11, (.mv (.t 1)), 3, none, 0⟩, ⟨some 12, (.mv (.t 5)), 3, none, 0⟩, ⟨some 13, (.call (.f 121) [(.t 12)]), 3, none, 3⟩, ⟨some 14, (.bin .sub 3 (.t 13) (.c (.int .i64 1))), 3, none, 0⟩, ⟨some 15, (.call (.f 128) [(.t 11), (.c (.int .i64 0)), (.t 14)]), 4, none, 3⟩, ⟨some 16, (.un .not (.t 15)), 4, none, 0⟩, ⟨some 17, (.mv (.t 16)), 4, none, 0⟩, ⟨some 18, (.mv (.t 1)), 3, some (17, false), 0⟩, ⟨some 19, (.mv (.t 5)), 3, some (17, false), 0⟩, ⟨some 20, (.bin .sub 3 (.t 19) (.c (.int .i64 1))), 3, some (17, false), 0⟩, ⟨some 21, (.call (.f 171) [(.t 18), (.t 20)]), 3, some (17, false), 3⟩, ⟨some 22, (.bin .eql 3 (.t 21) (.c (.int .i64 0))), 4, some (17, false), 0⟩, ⟨some 23, (.pick (.t 17) (.c (.bool true)) (.t 22)), 4, none, 0⟩]) (some [1, 2, 5, 23]))
          (.cond (.t 23)
            (.seq
              (.region false [⟨some 4, (.mv (.c (.bool false))), 4, none, 0⟩] (some [4]))
              .ret)
            .skip))
        (.seq
          (.seq
            (.region false [⟨some 6, (.mv (.c (.int .i64 0))), 3, none, 0⟩] (some [1, 2, 5, 6]))
            (.block 0
              (.loop [1, 2, 5, 6] [] lb_112_5)))
          (.seq
            (.region false [⟨some 4, (.mv (.c (.bool true))), 4, none, 0⟩] (some [4]))
            .ret)))))⟩
theorem fok_112 : FnOk Try.prog 112 fa_112 an_112 := ⟨Try.f112, _, Try.func112, rfl, by kernel_rfl, rfl, rfl, by decide, by kernel_rfl⟩
/-- spec.IsFilter -/
def an_28 : Ann := ⟨[(1, 1, 3), (1, 5, 3)], [(0, [1, 2]), (1, [4])], [], []⟩
def fa_28 : FnA := ⟨12, [.t 4],
  (.seq
    (.region false [⟨some 2, (.box 27 (.t 0)), 0, none, 0⟩, ⟨some 4, (.mv (.c (.bool false))), 4, none, 0⟩] (some [1, 2]))
    (.seq
      (.region false (gops [⟨some 5, (.load 27 (.t 2)), 27, none, 0⟩, ⟨some 6, (.call (.f 111) [(.t 5)]), 4, none, 3⟩, ⟨some 7, (.mv (.t 6)), 4, none, 0⟩, ⟨some 8, (.load 27 (.t 2)), 27, some (7, true), 0⟩, ⟨some 9, (.mv (.t 1)), 3, some (7, true), 0⟩, ⟨some 10, (.call (.f 112) [(.t 8), (.t 9)]), 4, some (7, true), 3⟩, ⟨some 11, (.pick (.t 7) (.t 10) (.c (.bool false))), 4, none, 0⟩, ⟨some 4, (.mv (.t 11)), 4, none, 0⟩]) (some [4]))
      .ret))⟩
theorem fok_28 : FnOk Try.prog 28 fa_28 an_28 := ⟨Try.f28, _, Try.func28, rfl, by kernel_rfl, rfl, rfl, by decide, by kernel_rfl⟩
/-- spec.filters -/
def an_119 : Ann := ⟨[(1, 0, 1), (3, 4, 3), (5, 2, 3)], [(0, [1]), (1, [1, 3]), (2, [1, 3, 4]), (3, [1, 3, 4, 11]), (5, [1, 3, 4, 16]), (6, [1, 3, 4]), (4, [1, 3, 4]), (7, [2])], [(3, [1, 3, 4], [40, 160])], []⟩
def lb_119_3 : AC :=
  (.seq
    (.seq
      (.region false [⟨some 6, (.mv (.t 4)), 3, none, 0⟩, ⟨some 7, (.faddr 27 (.t 1) 0), 0, none, 0⟩, ⟨some 8, (.load 23 (.t 7)), 23, none, 0⟩, ⟨some 9, (.len 23 (.t 8)), 3, none, 0⟩, ⟨some 10, (.call (.f 121) [(.t 9)]), 3, none, 3⟩, ⟨some 11, (.bin .lss 3 (.t 6) (.t 10)), 4, none, 0⟩] (some [1, 3, 4, 11]))
      (.cond (.t 11)
        .skip
        (.exit 0)))
    (.seq
      (.block 1
        (.seq
          (.region false [⟨some 14, (.load 27 (.t 1)), 27, none, 0⟩, ⟨some 15, (.mv (.t 4)), 3, none, 0⟩, ⟨some 16, (.call (.f 112) [(.t 14), (.t 15)]), 4, none, 3⟩] (some [1, 3, 4, 16]))
          (.cond (.t 16)
            (.region false [⟨some 17, (.mv (.t 3)), 23, none, 0⟩, ⟨some 18, (.mv (.t 4)), 3, none, 0⟩, ⟨some 19, (.bslice 23 1 [(0, (.t 18))]), 23, none, 0⟩, ⟨some 20, (.app 23 23 (.t 17) (.t 19)), 23, none, 0⟩, ⟨some 3, (.mv (.t 20)), 23, none, 0⟩] (some [1, 3, 4]))
            .skip)))
      (.region false [⟨some 12, (.mv (.t 4)), 3, none, 0⟩, ⟨some 13, (.bin .add 3 (.t 12) (.c (.int .i64 1))), 3, none, 0⟩, ⟨some 4, (.mv (.t 13)), 3, none, 0⟩] (some [1, 3, 4]))))
def fa_119 : FnA := ⟨22, [.t 2],
  (.seq
    (.region false [⟨some 1, (.box 27 (.t 0)), 0, none, 0⟩, ⟨some 2, (.mv (.c .nil)), 23, none, 0⟩] (some [1]))
    (.seq
      (.region false [⟨some 5, (.bslice 23 0 []), 23, none, 1⟩, ⟨some 3, (.mv (.t 5)), 23, none, 0⟩] (some [1, 3]))
      (.seq
        (.seq
          (.region false [⟨some 4, (.mv (.c (.int .i64 0))), 3, none, 0⟩] (some [1, 3, 4]))
          (.block 0
            (.loop [1, 3, 4] [40, 160] lb_119_3)))
        (.seq
          (.region false [⟨some 21, (.mv (.t 3)), 23, none, 0⟩, ⟨some 2, (.mv (.t 21)), 23, none, 0⟩] (some [2]))
          .ret))))⟩
theorem fok_119 : FnOk Try.prog 119 fa_119 an_119 := ⟨Try.f119, _, Try.func119, rfl, by kernel_rfl, rfl, rfl, by decide, by kernel_rfl⟩
/-- spec.FiltersOf -/
def an_36 : Ann := ⟨[(1, 1, 3), (3, 1, 3)], [(0, [1]), (1, [1, 5]), (2, [2]), (3, [2])], [], []⟩
def fa_36 : FnA := ⟨8, [.t 2],
  (.seq
    (.region false [⟨some 1, (.box 27 (.t 0)), 0, none, 0⟩, ⟨some 2, (.mv (.c .nil)), 23, none, 0⟩] (some [1]))
    (.seq
      (.seq
        (.region false [⟨some 3, (.load 27 (.t 1)), 27, none, 0⟩, ⟨some 4, (.call (.f 111) [(.t 3)]), 4, none, 3⟩, ⟨some 5, (.un .not (.t 4)), 4, none, 0⟩] (some [1, 5]))
        (.cond (.t 5)
          (.seq
            (.region false [⟨some 2, (.mv (.c .nil)), 23, none, 0⟩] (some [2]))
            .ret)
          .skip))
      (.seq
        (.region false [⟨some 6, (.load 27 (.t 1)), 27, none, 0⟩, ⟨some 7, (.call (.f 119) [(.t 6)]), 23, none, 3⟩, ⟨some 2, (.mv (.t 7)), 23, none, 0⟩] (some [2]))
        .ret)))⟩
theorem fok_36 : FnOk Try.prog 36 fa_36 an_36 := ⟨Try.f36, _, Try.func36, rfl, by kernel_rfl, rfl, rfl, by decide, by kernel_rfl⟩
/-- spec.generate -/
def an_129 : Ann := ⟨[(1, 3, 3), (2, 1, 3)], [(0, [1, 2]), (1, [1, 2, 5]), (2, [1, 5, 6]), (3, [1, 5, 6, 7]), (4, [1, 5, 6, 7, 18]), (6, [1, 5, 6, 7, 28]), (7, [1, 5, 6, 7]), (5, [1, 5, 6, 7]), (8, [4])], [(4, [1, 5, 6, 7], [])], []⟩
def lb_129_4 : AC :=
  (.seq
    (.seq
      (.region false [⟨some 15, (.mv (.t 7)), 3, none, 0⟩, ⟨some 16, (.mv (.t 6)), 23, none, 0⟩, ⟨some 17, (.len 23 (.t 16)), 3, none, 0⟩, ⟨some 18, (.bin .lss 3 (.t 15) (.t 17)), 4, none, 0⟩] (some [1, 5, 6, 7, 18]))
      (.cond (.t 18)
        .skip
        (.exit 0)))
    (.seq
      (.block 1
        (.seq
          (.region false [⟨some 21, (.mv (.t 6)), 23, none, 0⟩, ⟨some 22, (.mv (.t 7)), 3, none, 0⟩, ⟨some 23, (.iaddr 23 (.t 21) (.t 22)), 0, none, 0⟩, ⟨some 24, (.load 3 (.t 23)), 3, none, 0⟩, ⟨some 25, (.mv (.t 1)), 3, none, 0⟩, ⟨some 26, (.bin .and 3 (.t 24) (.t 25)), 3, none, 0⟩, ⟨some 27, (.mv (.t 1)), 3, none, 0⟩, ⟨some 28, (.bin .eql 3 (.t 26) (.t 27)), 4, none, 0⟩] (some [1, 5, 6, 7, 28]))
          (.cond (.t 28)
            (.region false [⟨some 29, (.mv (.t 5)), 3, none, 0⟩, ⟨some 30, (.mv (.t 6)), 23, none, 0⟩, ⟨some 31, (.mv (.t 7)), 3, none, 0⟩, ⟨some 32, (.iaddr 23 (.t 30) (.t 31)), 0, none, 0⟩, ⟨some 33, (.load 3 (.t 32)), 3, none, 0⟩, ⟨some 34, (.bin .and 3 (.t 29) (.t 33)), 3, none, 0⟩, ⟨some 5, (.mv (.t 34)), 3, none, 0⟩] (some [1, 5, 6, 7]))
            .skip)))
      (.region false [⟨some 19, (.mv (.t 7)), 3, none, 0⟩, ⟨some 20, (.bin .add 3 (.t 19) (.c (.int .i64 1))), 3, none, 0⟩, ⟨some 7, (.mv (.t 20)), 3, none, 0⟩] (some [1, 5, 6, 7]))))
def fa_129 : FnA := ⟨36, [.t 4],
  (.seq
    (.region false [⟨some 2, (.box 27 (.t 0)), 0, none, 0⟩, ⟨some 4, (.mv (.c (.int .i64 0))), 3, none, 0⟩] (some [1, 2]))
    (.seq
      (.region false [⟨some 8, (.faddr 27 (.t 2) 0), 0, none, 0⟩, ⟨some 9, (.load 23 (.t 8)), 23, none, 0⟩, ⟨some 10, (.len 23 (.t 9)), 3, none, 0⟩, ⟨some 11, (.call (.f 121) [(.t 10)]), 3, none, 3⟩, ⟨some 12, (.bin .sub 3 (.t 11) (.c (.int .i64 1))), 3, none, 0⟩, ⟨some 5, (.mv (.t 12)), 3, none, 0⟩] (some [1, 2, 5]))
      (.seq
        (.region false [⟨some 13, (.load 27 (.t 2)), 27, none, 0⟩, ⟨some 14, (.call (.f 119) [(.t 13)]), 23, none, 3⟩, ⟨some 6, (.mv (.t 14)), 23, none, 0⟩] (some [1, 5, 6]))
        (.seq
          (.seq
            (.region false [⟨some 7, (.mv (.c (.int .i64 0))), 3, none, 0⟩] (some [1, 5, 6, 7]))
            (.block 0
              (.loop [1, 5, 6, 7] [] lb_129_4)))
          (.seq
            (.region false [⟨some 35, (.mv (.t 5)), 3, none, 0⟩, ⟨some 4, (.mv (.t 35)), 3, none, 0⟩] (some [4]))
            .ret)))))⟩
theorem fok_129 : FnOk Try.prog 129 fa_129 an_129 := ⟨Try.f129, _, Try.func129, rfl, by kernel_rfl, rfl, rfl, by decide, by kernel_rfl⟩
/-- spec.FilterBy -/
def an_50 : Ann := ⟨[(1, 1, 3), (1, 8, 3), (1, 10, 3), (3, 2, 3)], [(0, [1, 2]), (1, [1, 2, 17]), (2, [4]), (3, [4])], [], []⟩
def fa_50 : FnA := ⟨21, [.t 4],
  (.seq
    (.region false [⟨some 2, (.box 27 (.t 0)), 0, none, 0⟩, ⟨some 4, (.mv (.c (.int .i64 0))), 3, none, 0⟩] (some [1, 2]))
    (.seq
      (.seq
        (.region false (gops [⟨some 5, (.load 27 (.t 2)), 27, none, 0⟩, ⟨some 6, (.call (.f 111) [(.t 5)]), 4, none, 3⟩, ⟨some 7, (.un .not (.t 6)), 4, none, 0⟩, ⟨some 8, (.mv (.t 7)), 4, none, 0⟩, ⟨some 9, (.mv (.t 1)), 3, some (8, false), 0⟩, ⟨some 10, (.faddr 27 (.t 2) 0), 0, some (8, false), 0⟩, ⟨some 11, (.load 23 (.t 10)), 23, some (8, false), 0⟩, ⟨some 12, (.len 23 (.t 11)), 3, some (8, false), 0⟩, ⟨some 13, (.call (.f 121) [(.t 12)]), 3, some (8, false), 3⟩, ⟨some 14, (.bin .sub 3 (.t 13) (.c (.int .i64 1))), 3, some (8, false), 0⟩, ⟨some 15, (.call (.f 128) [(.t 9), (.c (.int .i64 0)), (.t 14)]), 4, some (8, false), 3⟩, ⟨some 16, (.un .not (.t 15)), 4, some (8, false), 0⟩, ⟨some 17, (.pick (.t 8) (.c (.bool true)) (.t 16)), 4, none, 0⟩]) (some [1, 2, 17]))
        (.cond (.t 17)
          (.seq
            (.region false [⟨some 4, (.mv (.c (.int .i64 (-1)))), 3, none, 0⟩] (some [4]))
            .ret)
          .skip))
      (.seq
        (.region false [⟨some 18, (.load 27 (.t 2)), 27, none, 0⟩, ⟨some 19, (.mv (.t 1)), 3, none, 0⟩, ⟨some 20, (.call (.f 129) [(.t 18), (.t 19)]), 3, none, 3⟩, ⟨some 4, (.mv (.t 20)), 3, none, 0⟩] (some [4]))
        .ret)))⟩
theorem fok_50 : FnOk Try.prog 50 fa_50 an_50 := ⟨Try.f50, _, Try.func50, rfl, by kernel_rfl, rfl, rfl, by decide, by kernel_rfl⟩
/-- impl.has -/
def an_170 : Ann := ⟨[], [(0, [0, 1]), (1, [4])], [], []⟩
def fa_170 : FnA := ⟨10, [.t 4],
  (.seq
    (.region false [⟨some 4, (.mv (.c (.bool false))), 4, none, 0⟩] (some [0, 1]))
    (.seq
      (.region false [⟨some 5, (.mv (.t 0)), 3, none, 0⟩, ⟨some 6, (.mv (.t 1)), 3, none, 0⟩, ⟨some 7, (.bin .shr 3 (.t 5) (.t 6)), 3, none, 0⟩, ⟨some 8, (.bin .rem 3 (.t 7) (.c (.int .i64 2))), 3, none, 0⟩, ⟨some 9, (.bin .eql 3 (.t 8) (.c (.int .i64 1))), 4, none, 0⟩, ⟨some 4, (.mv (.t 9)), 4, none, 0⟩] (some [4]))
      .ret))⟩
theorem fok_170 : FnOk Try.prog 170 fa_170 an_170 := ⟨Try.f170, _, Try.func170, rfl, by kernel_rfl, rfl, rfl, by decide, by kernel_rfl⟩
/-- impl.isFilter -/
def an_110 : Ann := ⟨[(1, 5, 3), (6, 2, 3), (12, 2, 3), (12, 13, 3)], [(0, [1, 2]), (1, [1, 2, 14]), (2, [4]), (3, [1, 2, 16, 17, 18]), (4, [1, 2, 16, 17, 18, 19]), (5, [1, 2, 5, 6, 16, 17, 18]), (6, [1, 2, 5, 6, 16, 17, 18, 26]), (7, [1, 2, 5, 16, 17, 18, 30]), (8, [4]), (9, [1, 2, 5, 16, 17, 18, 33, 34]), (10, [1, 2, 5, 16, 17, 18, 33, 34, 35]), (11, [1, 2, 5, 7, 16, 17, 18, 33, 34]), (12, [1, 2, 5, 16, 17, 18, 33, 34, 52]), (13, [4]), (14, [1, 2, 5, 16, 17, 18, 33, 34]), (15, [1, 2, 16, 17, 18]), (16, [4])], [(4, [1, 2, 16, 17, 18], []), (10, [1, 2, 5, 16, 17, 18, 33, 34], [])], []⟩
def lb_110_10 : AC :=
  (.seq
    (.region false [⟨some 35, (.bin .lss 3 (.t 34) (.t 33)), 0, none, 0⟩] (some [1, 2, 5, 16, 17, 18, 33, 34, 35]))
    (.seq
      (.cond (.t 35)
        .skip
        (.exit 2))
      (.seq
        (.block 3
          (.seq
            (.region false [⟨some 36, (.mv (.t 34)), 3, none, 0⟩, ⟨some 7, (.mv (.t 36)), 3, none, 0⟩] (some [1, 2, 5, 7, 16, 17, 18, 33, 34]))
            (.seq
              (.region false (gops [⟨some 37, (.mv (.t 1)), 3, none, 0⟩, ⟨some 38, (.mv (.t 7)), 3, none, 0⟩, ⟨some 39, (.call (.f 170) [(.t 37), (.t 38)]), 4, none, 3⟩, ⟨some 40, (.mv (.t 39)), 4, none, 0⟩, ⟨some 41, (.mv (.t 1)), 3, some (40, true), 0⟩, ⟨some 42, (.faddr 27 (.t 2) 1), 0, some (40, true), 0⟩, ⟨some 43, (.load 25 (.t 42)), 25, some (40, true), 0⟩, ⟨some 44, (.mv (.t 5)), 3, some (40, true), 0⟩, ⟨some 45, (.iaddr 25 (.t 43) (.t 44)), 0, some (40, true), 0⟩, ⟨some 46, (.load 23 (.t 45)), 23, some (40, true), 0⟩, ⟨some 47, (.mv (.t 7)), 3, some (40, true), 0⟩, ⟨some 48, (.iaddr 23 (.t 46) (.t 47)), 0, some (40, true), 0⟩, ⟨some 49, (.load 3 (.t 48)), 3, some (40, true), 0⟩, ⟨some 50, (.call (.f 170) [(.t 41), (.t 49)]), 4, some (40, true), 3⟩, ⟨some 51, (.un .not (.t 50)), 4, some (40, true), 0⟩, ⟨some 52, (.pick (.t 40) (.t 51) (.c (.bool false))), 4, none, 0⟩]) (some [1, 2, 5, 16, 17, 18, 33, 34, 52]))
              (.cond (.t 52)
                (.seq
                  (.region false [⟨some 4, (.mv (.c (.bool false))), 4, none, 0⟩] (some [4]))
                  .ret)
                .skip))))
        (.region false [⟨some 53, (.bin .add 3 (.t 34) (.c (.int .i64 1))), 3, none, 0⟩, ⟨some 34, (.mv (.t 53)), 3, none, 0⟩] (some [1, 2, 5, 16, 17, 18, 33, 34])))))
def lb_110_4 : AC :=
  (.seq
    (.region false [⟨some 19, (.bin .lss 3 (.t 18) (.t 17)), 0, none, 0⟩] (some [1, 2, 16, 17, 18, 19]))
    (.seq
      (.cond (.t 19)
        .skip
        (.exit 0))
      (.seq
        (.block 1
          (.seq
            (.region false [⟨some 20, (.mv (.t 18)), 3, none, 0⟩, ⟨some 21, (.iaddr 23 (.t 16) (.t 18)), 0, none, 0⟩, ⟨some 22, (.load 3 (.t 21)), 3, none, 0⟩, ⟨some 5, (.mv (.t 20)), 3, none, 0⟩, ⟨some 6, (.mv (.t 22)), 3, none, 0⟩] (some [1, 2, 5, 6, 16, 17, 18]))
            (.seq
              (.seq
                (.region false [⟨some 23, (.mv (.t 1)), 3, none, 0⟩, ⟨some 24, (.mv (.t 5)), 3, none, 0⟩, ⟨some 25, (.call (.f 170) [(.t 23), (.t 24)]), 4, none, 3⟩, ⟨some 26, (.un .not (.t 25)), 4, none, 0⟩] (some [1, 2, 5, 6, 16, 17, 18, 26]))
                (.cond (.t 26)
                  (.exit 1)
                  .skip))
              (.seq
                (.seq
                  (.region false [⟨some 27, (.mv (.t 6)), 3, none, 0⟩, ⟨some 28, (.mv (.t 1)), 3, none, 0⟩, ⟨some 29, (.bin .andNot 3 (.t 27) (.t 28)), 3, none, 0⟩, ⟨some 30, (.bin .neq 3 (.t 29) (.c (.int .i64 0))), 4, none, 0⟩] (some [1, 2, 5, 16, 17, 18, 30]))
                  (.cond (.t 30)
                    (.seq
                      (.region false [⟨some 4, (.mv (.c (.bool false))), 4, none, 0⟩] (some [4]))
                      .ret)
                    .skip))
                (.seq
                  (.region false [⟨some 31, (.faddr 27 (.t 2) 0), 0, none, 0⟩, ⟨some 32, (.load 23 (.t 31)), 23, none, 0⟩, ⟨some 33, (.len 23 (.t 32)), 3, none, 0⟩, ⟨some 34, (.mv (.c (.int .i64 0))), 3, none, 0⟩] (some [1, 2, 5, 16, 17, 18, 33, 34]))
                  (.block 2
                    (.loop [1, 2, 5, 16, 17, 18, 33, 34] [] lb_110_10)))))))
        (.region false [⟨some 54, (.bin .add 3 (.t 18) (.c (.int .i64 1))), 3, none, 0⟩, ⟨some 18, (.mv (.t 54)), 3, none, 0⟩] (some [1, 2, 16, 17, 18])))))
def fa_110 : FnA := ⟨55, [.t 4],
  (.seq
    (.region false [⟨some 2, (.box 27 (.t 0)), 0, none, 0⟩, ⟨some 4, (.mv (.c (.bool false))), 4, none, 0⟩] (some [1, 2]))
    (.seq
      (.seq
        (.region false [⟨some 8, (.mv (.t 1)), 3, none, 0⟩, ⟨some 9, (.faddr 27 (.t 2) 0), 0, none, 0⟩, ⟨some 10, (.load 23 (.t 9)), 23, none, 0⟩, ⟨some 11, (.len 23 (.t 10)), 3, none, 0⟩, ⟨some 12, (.bin .sub 3 (.t 11) (.c (.int .i64 1))), 3, none, 0⟩, ⟨some 13, (.call (.f 170) [(.t 8), (.t 12)]), 4, none, 3⟩, ⟨some 14, (.un .not (.t 13)), 4, none, 0⟩] (some [1, 2, 14]))
        (.cond (.t 14)
          (.seq
            (.region false [⟨some 4, (.mv (.c (.bool false))), 4, none, 0⟩] (some [4]))
            .ret)
          .skip))
      (.seq
        (.seq
          (.region false [⟨some 15, (.faddr 27 (.t 2) 0), 0, none, 0⟩, ⟨some 16, (.load 23 (.t 15)), 23, none, 0⟩, ⟨some 17, (.len 23 (.t 16)), 3, none, 0⟩, ⟨some 18, (.mv (.c (.int .i64 0))), 3, none, 0⟩] (some [1, 2, 16, 17, 18]))
          (.block 0
            (.loop [1, 2, 16, 17, 18] [] lb_110_4)))
        (.seq
          (.region false [⟨some 4, (.mv (.c (.bool true))), 4, none, 0⟩] (some [4]))
          .ret))))⟩
theorem fok_110 : FnOk Try.prog 110 fa_110 an_110 := ⟨Try.f110, _, Try.func110, rfl, by kernel_rfl, rfl, rfl, by decide, by kernel_rfl⟩
/-- impl.setIn -/
def an_109 : Ann := ⟨[(1, 1, 3), (1, 9, 3)], [(0, [1, 2]), (1, [4])], [], []⟩
def fa_109 : FnA := ⟨16, [.t 4],
  (.seq
    (.region false [⟨some 2, (.box 27 (.t 0)), 0, none, 0⟩, ⟨some 4, (.mv (.c (.bool false))), 4, none, 0⟩] (some [1, 2]))
    (.seq
      (.region false (gops [⟨some 5, (.load 27 (.t 2)), 27, none, 0⟩, ⟨some 6, (.call (.f 23) [(.t 5)]), 4, none, 3⟩, ⟨some 7, (.mv (.t 6)), 4, none, 0⟩, ⟨some 8, (.mv (.t 1)), 3, some (7, true), 0⟩, ⟨some 9, (.faddr 27 (.t 2) 0), 0, some (7, true), 0⟩, ⟨some 10, (.load 23 (.t 9)), 23, some (7, true), 0⟩, ⟨some 11, (.len 23 (.t 10)), 3, some (7, true), 0⟩, ⟨some 12, (.bin .shl 3 (.c (.int .i64 1)) (.t 11)), 3, some (7, true), 0⟩, ⟨some 13, (.bin .sub 3 (.t 12) (.c (.int .i64 1))), 3, some (7, true), 0⟩, ⟨some 14, (.call (.f 101) [(.t 8), (.c (.int .i64 0)), (.t 13)]), 4, some (7, true), 3⟩, ⟨some 15, (.pick (.t 7) (.t 14) (.c (.bool false))), 4, none, 0⟩, ⟨some 4, (.mv (.t 15)), 4, none, 0⟩]) (some [4]))
      .ret))⟩
theorem fok_109 : FnOk Try.prog 109 fa_109 an_109 := ⟨Try.f109, _, Try.func109, rfl, by kernel_rfl, rfl, rfl, by decide, by kernel_rfl⟩
/-- impl.IsFilter -/
def an_27 : Ann := ⟨[(1, 2, 3), (1, 6, 3)], [(0, [1, 2]), (1, [4])], [], []⟩
def fa_27 : FnA := ⟨13, [.t 4],
  (.seq
    (.region false [⟨some 2, (.box 27 (.t 0)), 0, none, 0⟩, ⟨some 4, (.mv (.c (.bool false))), 4, none, 0⟩] (some [1, 2]))
    (.seq
      (.region false (gops [⟨some 5, (.load 27 (.t 2)), 27, none, 0⟩, ⟨some 6, (.mv (.t 1)), 3, none, 0⟩, ⟨some 7, (.call (.f 109) [(.t 5), (.t 6)]), 4, none, 3⟩, ⟨some 8, (.mv (.t 7)), 4, none, 0⟩, ⟨some 9, (.load 27 (.t 2)), 27, some (8, true), 0⟩, ⟨some 10, (.mv (.t 1)), 3, some (8, true), 0⟩, ⟨some 11, (.call (.f 110) [(.t 9), (.t 10)]), 4, some (8, true), 3⟩, ⟨some 12, (.pick (.t 8) (.t 11) (.c (.bool false))), 4, none, 0⟩, ⟨some 4, (.mv (.t 12)), 4, none, 0⟩]) (some [4]))
      .ret))⟩
theorem fok_27 : FnOk Try.prog 27 fa_27 an_27 := ⟨Try.f27, _, Try.func27, rfl, by kernel_rfl, rfl, rfl, by decide, by kernel_rfl⟩
/-- impl.filters -/
def an_113 : Ann := ⟨[(1, 0, 1), (5, 2, 3)], [(0, [1]), (1, [1, 3]), (2, [1, 3, 4]), (3, [1, 3, 4, 11]), (5, [1, 3, 4, 16]), (6, [1, 3, 4]), (4, [1, 3, 4]), (7, [2])], [(3, [1, 3, 4], [40, 160])], []⟩
def lb_113_3 : AC :=
  (.seq
    (.seq
      (.region false [⟨some 6, (.mv (.t 4)), 3, none, 0⟩, ⟨some 7, (.faddr 27 (.t 1) 0), 0, none, 0⟩, ⟨some 8, (.load 23 (.t 7)), 23, none, 0⟩, ⟨some 9, (.len 23 (.t 8)), 3, none, 0⟩, ⟨some 10, (.bin .shl 3 (.c (.int .i64 1)) (.t 9)), 3, none, 0⟩, ⟨some 11, (.bin .lss 3 (.t 6) (.t 10)), 4, none, 0⟩] (some [1, 3, 4, 11]))
      (.cond (.t 11)
        .skip
        (.exit 0)))
    (.seq
      (.block 1
        (.seq
          (.region false [⟨some 14, (.load 27 (.t 1)), 27, none, 0⟩, ⟨some 15, (.mv (.t 4)), 3, none, 0⟩, ⟨some 16, (.call (.f 110) [(.t 14), (.t 15)]), 4, none, 3⟩] (some [1, 3, 4, 16]))
          (.cond (.t 16)
            (.region false [⟨some 17, (.mv (.t 3)), 23, none, 0⟩, ⟨some 18, (.mv (.t 4)), 3, none, 0⟩, ⟨some 19, (.bslice 23 1 [(0, (.t 18))]), 23, none, 0⟩, ⟨some 20, (.app 23 23 (.t 17) (.t 19)), 23, none, 0⟩, ⟨some 3, (.mv (.t 20)), 23, none, 0⟩] (some [1, 3, 4]))
            .skip)))
      (.region false [⟨some 12, (.mv (.t 4)), 3, none, 0⟩, ⟨some 13, (.bin .add 3 (.t 12) (.c (.int .i64 1))), 3, none, 0⟩, ⟨some 4, (.mv (.t 13)), 3, none, 0⟩] (some [1, 3, 4]))))
def fa_113 : FnA := ⟨22, [.t 2],
  (.seq
    (.region false [⟨some 1, (.box 27 (.t 0)), 0, none, 0⟩, ⟨some 2, (.mv (.c .nil)), 23, none, 0⟩] (some [1]))
    (.seq
      (.region false [⟨some 5, (.bslice 23 0 []), 23, none, 1⟩, ⟨some 3, (.mv (.t 5)), 23, none, 0⟩] (some [1, 3]))
      (.seq
        (.seq
          (.region false [⟨some 4, (.mv (.c (.int .i64 0))), 3, none, 0⟩] (some [1, 3, 4]))
          (.block 0
            (.loop [1, 3, 4] [40, 160] lb_113_3)))
        (.seq
          (.region false [⟨some 21, (.mv (.t 3)), 23, none, 0⟩, ⟨some 2, (.mv (.t 21)), 23, none, 0⟩] (some [2]))
          .ret))))⟩
theorem fok_113 : FnOk Try.prog 113 fa_113 an_113 := ⟨Try.f113, _, Try.func113, rfl, by kernel_rfl, rfl, rfl, by decide, by kernel_rfl⟩
/-- impl.FiltersOf -/
def an_35 : Ann := ⟨[(1, 1, 3), (3, 1, 3)], [(0, [1]), (1, [1, 5]), (2, [2]), (3, [2])], [], []⟩
def fa_35 : FnA := ⟨8, [.t 2],
  (.seq
    (.region false [⟨some 1, (.box 27 (.t 0)), 0, none, 0⟩, ⟨some 2, (.mv (.c .nil)), 23, none, 0⟩] (some [1]))
    (.seq
      (.seq
        (.region false [⟨some 3, (.load 27 (.t 1)), 27, none, 0⟩, ⟨some 4, (.call (.f 23) [(.t 3)]), 4, none, 3⟩, ⟨some 5, (.un .not (.t 4)), 4, none, 0⟩] (some [1, 5]))
        (.cond (.t 5)
          (.seq
            (.region false [⟨some 2, (.mv (.c .nil)), 23, none, 0⟩] (some [2]))
            .ret)
          .skip))
      (.seq
        (.region false [⟨some 6, (.load 27 (.t 1)), 27, none, 0⟩, ⟨some 7, (.call (.f 113) [(.t 6)]), 23, none, 3⟩, ⟨some 2, (.mv (.t 7)), 23, none, 0⟩] (some [2]))
        .ret)))⟩
theorem fok_35 : FnOk Try.prog 35 fa_35 an_35 := ⟨Try.f35, _, Try.func35, rfl, by kernel_rfl, rfl, rfl, by decide, by kernel_rfl⟩
/-- impl.FilterBy -/
def an_29 : Ann := ⟨[(1, 2, 3), (4, 1, 3)], [(0, [1, 2]), (1, [1, 2, 11]), (2, [4]), (3, [1, 2, 5]), (4, [1, 5, 18, 19, 20]), (5, [1, 5, 18, 19, 20, 21]), (6, [1, 5, 7, 18, 19, 20]), (7, [1, 5, 7, 18, 19, 20, 27]), (8, [1, 5, 18, 19, 20]), (9, [1, 5, 18, 19, 20]), (10, [4])], [(5, [1, 5, 18, 19, 20], [])], []⟩
def lb_29_5 : AC :=
  (.seq
    (.region false [⟨some 21, (.bin .lss 3 (.t 20) (.t 19)), 0, none, 0⟩] (some [1, 5, 18, 19, 20, 21]))
    (.seq
      (.cond (.t 21)
        .skip
        (.exit 0))
      (.seq
        (.block 1
          (.seq
            (.region false [⟨some 22, (.iaddr 23 (.t 18) (.t 20)), 0, none, 0⟩, ⟨some 23, (.load 3 (.t 22)), 3, none, 0⟩, ⟨some 7, (.mv (.t 23)), 3, none, 0⟩] (some [1, 5, 7, 18, 19, 20]))
            (.seq
              (.region false [⟨some 24, (.mv (.t 1)), 3, none, 0⟩, ⟨some 25, (.mv (.t 7)), 3, none, 0⟩, ⟨some 26, (.bin .andNot 3 (.t 24) (.t 25)), 3, none, 0⟩, ⟨some 27, (.bin .eql 3 (.t 26) (.c (.int .i64 0))), 4, none, 0⟩] (some [1, 5, 7, 18, 19, 20, 27]))
              (.cond (.t 27)
                (.region false [⟨some 28, (.mv (.t 5)), 3, none, 0⟩, ⟨some 29, (.mv (.t 7)), 3, none, 0⟩, ⟨some 30, (.bin .and 3 (.t 28) (.t 29)), 3, none, 0⟩, ⟨some 5, (.mv (.t 30)), 3, none, 0⟩] (some [1, 5, 18, 19, 20]))
                .skip))))
        (.region false [⟨some 31, (.bin .add 3 (.t 20) (.c (.int .i64 1))), 3, none, 0⟩, ⟨some 20, (.mv (.t 31)), 3, none, 0⟩] (some [1, 5, 18, 19, 20])))))
def fa_29 : FnA := ⟨33, [.t 4],
  (.seq
    (.region false [⟨some 2, (.box 27 (.t 0)), 0, none, 0⟩, ⟨some 4, (.mv (.c (.int .i64 0))), 3, none, 0⟩] (some [1, 2]))
    (.seq
      (.seq
        (.region false [⟨some 8, (.load 27 (.t 2)), 27, none, 0⟩, ⟨some 9, (.mv (.t 1)), 3, none, 0⟩, ⟨some 10, (.call (.f 109) [(.t 8), (.t 9)]), 4, none, 3⟩, ⟨some 11, (.un .not (.t 10)), 4, none, 0⟩] (some [1, 2, 11]))
        (.cond (.t 11)
          (.seq
            (.region false [⟨some 4, (.mv (.c (.int .i64 (-1)))), 3, none, 0⟩] (some [4]))
            .ret)
          .skip))
      (.seq
        (.region false [⟨some 12, (.faddr 27 (.t 2) 0), 0, none, 0⟩, ⟨some 13, (.load 23 (.t 12)), 23, none, 0⟩, ⟨some 14, (.len 23 (.t 13)), 3, none, 0⟩, ⟨some 15, (.bin .shl 3 (.c (.int .i64 1)) (.t 14)), 3, none, 0⟩, ⟨some 16, (.bin .sub 3 (.t 15) (.c (.int .i64 1))), 3, none, 0⟩, ⟨some 5, (.mv (.t 16)), 3, none, 0⟩] (some [1, 2, 5]))
        (.seq
          (.seq
            (.region false [⟨some 17, (.load 27 (.t 2)), 27, none, 0⟩, ⟨some 18, (.call (.f 113) [(.t 17)]), 23, none, 3⟩, ⟨some 19, (.len 23 (.t 18)), 3, none, 0⟩, ⟨some 20, (.mv (.c (.int .i64 0))), 3, none, 0⟩] (some [1, 5, 18, 19, 20]))
            (.block 0
              (.loop [1, 5, 18, 19, 20] [] lb_29_5)))
          (.seq
            (.region false [⟨some 32, (.mv (.t 5)), 3, none, 0⟩, ⟨some 4, (.mv (.t 32)), 3, none, 0⟩] (some [4]))
            .ret)))))⟩
theorem fok_29 : FnOk Try.prog 29 fa_29 an_29 := ⟨Try.f29, _, Try.func29, rfl, by kernel_rfl, rfl, rfl, by decide, by kernel_rfl⟩
/-- laws.ascends -/
def an_38 : Ann := ⟨[], [(0, [0]), (1, [0, 3]), (2, [0, 3, 7]), (4, [0, 3, 19]), (5, [2]), (3, [0, 3]), (6, [2])], [(2, [0, 3], [])], []⟩
def lb_38_2 : AC :=
  (.seq
    (.seq
      (.region false [⟨some 4, (.mv (.t 3)), 3, none, 0⟩, ⟨some 5, (.mv (.t 0)), 23, none, 0⟩, ⟨some 6, (.len 23 (.t 5)), 3, none, 0⟩, ⟨some 7, (.bin .lss 3 (.t 4) (.t 6)), 4, none, 0⟩] (some [0, 3, 7]))
      (.cond (.t 7)
        .skip
        (.exit 0)))
    (.seq
      (.block 1
        (.seq
          (.region true [⟨some 10, (.mv (.t 0)), 23, none, 0⟩, ⟨some 11, (.mv (.t 3)), 3, none, 0⟩, ⟨some 12, (.iaddr 23 (.t 10) (.t 11)), 0, none, 0⟩, ⟨some 13, (.load 3 (.t 12)), 3, none, 0⟩, ⟨some 14, (.mv (.t 0)), 23, none, 0⟩, ⟨some 15, (.mv (.t 3)), 3, none, 0⟩, ⟨some 16, (.bin .sub 3 (.t 15) (.c (.int .i64 1))), 3, none, 0⟩, ⟨some 17, (.iaddr 23 (.t 14) (.t 16)), 0, none, 0⟩, ⟨some 18, (.load 3 (.t 17)), 3, none, 0⟩, ⟨some 19, (.bin .leq 3 (.t 13) (.t 18)), 4, none, 0⟩] (some [0, 3, 19]))
          (.cond (.t 19)
            (.seq
              (.region false [⟨some 2, (.mv (.c (.bool false))), 4, none, 0⟩] (some [2]))
              .ret)
            .skip)))
      (.region false [⟨some 8, (.mv (.t 3)), 3, none, 0⟩, ⟨some 9, (.bin .add 3 (.t 8) (.c (.int .i64 1))), 3, none, 0⟩, ⟨some 3, (.mv (.t 9)), 3, none, 0⟩] (some [0, 3]))))
def fa_38 : FnA := ⟨20, [.t 2],
  (.seq
    (.region false [⟨some 2, (.mv (.c (.bool false))), 4, none, 0⟩] (some [0]))
    (.seq
      (.seq
        (.region false [⟨some 3, (.mv (.c (.int .i64 1))), 3, none, 0⟩] (some [0, 3]))
        (.block 0
          (.loop [0, 3] [] lb_38_2)))
      (.seq
        (.region false [⟨some 2, (.mv (.c (.bool true))), 4, none, 0⟩] (some [2]))
        .ret)))⟩
theorem fok_38 : FnOk Try.prog 38 fa_38 an_38 := ⟨Try.f38, _, Try.func38, rfl, by kernel_rfl, rfl, rfl, by decide, by kernel_rfl⟩
/-- laws.power -/
def an_39 : Ann := ⟨[], [(0, [0]), (1, [0, 3]), (2, [0, 3, 5]), (4, [0, 3]), (3, [0, 3]), (5, [2])], [(2, [0, 3], [])], []⟩
def lb_39_2 : AC :=
  (.seq
    (.seq
      (.region false [⟨some 4, (.mv (.t 0)), 3, none, 0⟩, ⟨some 5, (.bin .gtr 3 (.t 4) (.c (.int .i64 0))), 4, none, 0⟩] (some [0, 3, 5]))
      (.cond (.t 5)
        .skip
        (.exit 0)))
    (.seq
      (.block 1
        (.region false [⟨some 8, (.mv (.t 3)), 3, none, 0⟩, ⟨some 9, (.bin .mul 3 (.c (.int .i64 2)) (.t 8)), 3, none, 0⟩, ⟨some 3, (.mv (.t 9)), 3, none, 0⟩] (some [0, 3])))
      (.region false [⟨some 6, (.mv (.t 0)), 3, none, 0⟩, ⟨some 7, (.bin .sub 3 (.t 6) (.c (.int .i64 1))), 3, none, 0⟩, ⟨some 0, (.mv (.t 7)), 3, none, 0⟩] (some [0, 3]))))
def fa_39 : FnA := ⟨11, [.t 2],
  (.seq
    (.region false [⟨some 2, (.mv (.c (.int .i64 0))), 3, none, 0⟩] (some [0]))
    (.seq
      (.region false [⟨some 3, (.mv (.c (.int .i64 1))), 3, none, 0⟩] (some [0, 3]))
      (.seq
        (.block 0
          (.loop [0, 3] [] lb_39_2))
        (.seq
          (.region false [⟨some 10, (.mv (.t 3)), 3, none, 0⟩, ⟨some 2, (.mv (.t 10)), 3, none, 0⟩] (some [2]))
          .ret))))⟩
theorem fok_39 : FnOk Try.prog 39 fa_39 an_39 := ⟨Try.f39, _, Try.func39, rfl, by kernel_rfl, rfl, rfl, by decide, by kernel_rfl⟩
/-- laws.bit -/
def an_47 : Ann := ⟨[(1, 2, 3)], [(0, [0, 1]), (1, [4])], [], []⟩
def fa_47 : FnA := ⟨10, [.t 4],
  (.seq
    (.region false [⟨some 4, (.mv (.c (.int .i64 0))), 3, none, 0⟩] (some [0, 1]))
    (.seq
      (.region false [⟨some 5, (.mv (.t 0)), 3, none, 0⟩, ⟨some 6, (.mv (.t 1)), 3, none, 0⟩, ⟨some 7, (.call (.f 39) [(.t 6)]), 3, none, 3⟩, ⟨some 8, (.bin .quo 3 (.t 5) (.t 7)), 3, none, 0⟩, ⟨some 9, (.bin .rem 3 (.t 8) (.c (.int .i64 2))), 3, none, 0⟩, ⟨some 4, (.mv (.t 9)), 3, none, 0⟩] (some [4]))
      .ret))⟩
theorem fok_47 : FnOk Try.prog 47 fa_47 an_47 := ⟨Try.f47, _, Try.func47, rfl, by kernel_rfl, rfl, rfl, by decide, by kernel_rfl⟩
/-- laws.weight -/
def an_51 : Ann := ⟨[], [(0, [0]), (1, [0, 3]), (2, [0, 3, 5]), (4, [0, 3]), (3, [0, 3]), (5, [2])], [(2, [0, 3], [])], []⟩
def lb_51_2 : AC :=
  (.seq
    (.seq
      (.region false [⟨some 4, (.mv (.t 0)), 3, none, 0⟩, ⟨some 5, (.bin .gtr 3 (.t 4) (.c (.int .i64 0))), 4, none, 0⟩] (some [0, 3, 5]))
      (.cond (.t 5)
        .skip
        (.exit 0)))
    (.seq
      (.block 1
        (.region false [⟨some 8, (.mv (.t 3)), 3, none, 0⟩, ⟨some 9, (.mv (.t 0)), 3, none, 0⟩, ⟨some 10, (.bin .rem 3 (.t 9) (.c (.int .i64 2))), 3, none, 0⟩, ⟨some 11, (.bin .add 3 (.t 8) (.t 10)), 3, none, 0⟩, ⟨some 3, (.mv (.t 11)), 3, none, 0⟩] (some [0, 3])))
      (.region false [⟨some 6, (.mv (.t 0)), 3, none, 0⟩, ⟨some 7, (.bin .quo 3 (.t 6) (.c (.int .i64 2))), 3, none, 0⟩, ⟨some 0, (.mv (.t 7)), 3, none, 0⟩] (some [0, 3]))))
def fa_51 : FnA := ⟨13, [.t 2],
  (.seq
    (.region false [⟨some 2, (.mv (.c (.int .i64 0))), 3, none, 0⟩] (some [0]))
    (.seq
      (.region false [⟨some 3, (.mv (.c (.int .i64 0))), 3, none, 0⟩] (some [0, 3]))
      (.seq
        (.block 0
          (.loop [0, 3] [] lb_51_2))
        (.seq
          (.region false [⟨some 12, (.mv (.t 3)), 3, none, 0⟩, ⟨some 2, (.mv (.t 12)), 3, none, 0⟩] (some [2]))
          .ret))))⟩
theorem fok_51 : FnOk Try.prog 51 fa_51 an_51 := ⟨Try.f51, _, Try.func51, rfl, by kernel_rfl, rfl, rfl, by decide, by kernel_rfl⟩
end Go.PS
end

section
-- Sets of elements by bits; filters, in plain Lean.
set_option linter.unusedVariables false
set_option linter.unusedSimpArgs false
namespace Go.PS

-- sets by bits

/-- Has a set all that another one has? -/
theorem sub_iff {s f : Nat} : s &&& f = s ↔ ∀ x, s.testBit x = true → f.testBit x = true := by
  constructor
  · intro h x hx
    have := congrArg (fun n => n.testBit x) h
    simp only [Nat.testBit_and, hx, Bool.true_and] at this
    exact this
  · intro h
    apply Nat.eq_of_testBit_eq
    intro x
    rw [Nat.testBit_and]
    cases hx : s.testBit x
    · rfl
    · rw [h x hx]; rfl
/-- The set of the numbers below 'n' with 'p'. -/
def mskN (n : Nat) (p : Nat → Bool) : Nat := (List.range n).foldl (fun o i => if p i then o ||| 2 ^ i else o) 0
theorem mskN_succ {n : Nat} {p : Nat → Bool} : mskN (n + 1) p = if p n then mskN n p ||| 2 ^ n else mskN n p := by
  simp [mskN, List.range_succ]
theorem mskN_bit {p : Nat → Bool} {x : Nat} : ∀ n : Nat, (mskN n p).testBit x = (decide (x < n) && p x)
  | 0 => by simp [mskN]
  | n + 1 => by
    have ih := mskN_bit (p := p) (x := x) n
    rw [mskN_succ]
    by_cases e : x = n
    · subst e
      split
      · rename_i h
        simp [Nat.testBit_or, Nat.testBit_two_pow, h]
      · rename_i h
        rw [ih]
        simp [h]
    · have e2 : (decide (x < n + 1)) = decide (x < n) := by rw [Bool.eq_iff_iff]; simp; omega
      rw [e2]
      split
      · rw [Nat.testBit_or, ih, Nat.testBit_two_pow, show decide (n = x) = false by simp; omega, Bool.or_false]
      · exact ih
theorem lt_of_bits {n f : Nat} (h : ∀ x, f.testBit x = true → x < n) : f < 2 ^ n :=
  Nat.lt_pow_two_of_testBit f (fun i hi => by
    cases hb : f.testBit i
    · rfl
    · have := h i hb; omega)
theorem bit_lt {n f x : Nat} (h : f < 2 ^ n) (hx : f.testBit x = true) : x < n := by
  rcases Nat.lt_or_ge x n with q | q
  · exact q
  · have : f.testBit x = false := Nat.testBit_lt_two_pow (Nat.lt_of_lt_of_le h (Nat.pow_le_pow_right (by omega) q))
    rw [this] at hx; cases hx
theorem mskN_lt {n : Nat} {p : Nat → Bool} : mskN n p < 2 ^ n := lt_of_bits fun x hx => by rw [mskN_bit] at hx; simp at hx; exact hx.1
theorem full_bit {n x : Nat} : (2 ^ n - 1).testBit x = decide (x < n) := Nat.testBit_two_pow_sub_one n x

section
variable {u : List Int} {t : List (List Int)} {x y z w : Nat}

structure FI (u : List Int) (t : List (List Int)) (f : Nat) : Prop where
  lt : f < 2 ^ u.length
  top : f.testBit (u.length - 1) = true
  up : ∀ x, x < u.length → ∀ y, y < u.length → f.testBit x = true → tb u x y = true → f.testBit y = true
  mul : ∀ x, x < u.length → ∀ y, y < u.length → f.testBit x = true → f.testBit y = true → f.testBit (tn t x y) = true
noncomputable instance (u : List Int) (t : List (List Int)) (f : Nat) : Decidable (FI u t f) := Classical.propDecidable _

noncomputable def filN (u : List Int) (t : List (List Int)) (m : Nat) : List Nat := (List.range m).filter fun f => decide (FI u t f)
theorem mem_fil {f : Nat} : f ∈ filN u t (2 ^ u.length) ↔ FI u t f := by
  simp only [filN, List.mem_filter, List.mem_range, decide_eq_true_eq]
  exact ⟨fun h => h.2, fun h => ⟨h.lt, h⟩⟩
theorem filN_zero : filN u t 0 = [] := rfl
theorem filN_succ {m : Nat} : filN u t (m + 1) = filN u t m ++ (if FI u t m then [m] else []) := by
  simp only [filN, List.range_succ, List.filter_append, List.filter_cons, List.filter_nil, decide_eq_true_eq]
theorem filN_len {m : Nat} : (filN u t m).length ≤ m := by
  have := List.length_filter_le (fun f => decide (FI u t f)) (List.range m)
  unfold filN
  simpa using this

/-- What all sets of a list have, that have a set. -/
def genL (n s : Nat) (l : List Nat) : Nat := l.foldl (fun o f => if s &&& f = s then o &&& f else o) (2 ^ n - 1)
theorem genL_snoc {n s f : Nat} {l : List Nat} : genL n s (l ++ [f]) = if s &&& f = s then genL n s l &&& f else genL n s l := by
  simp [genL, List.foldl_append]
theorem genL_bit0 {s x : Nat} : ∀ (l : List Nat) (o : Nat), (l.foldl (fun o f => if s &&& f = s then o &&& f else o) o).testBit x = (o.testBit x && l.all fun f => !decide (s &&& f = s) || f.testBit x)
  | [], o => by simp
  | f :: l, o => by
    rw [List.foldl_cons, genL_bit0 l, List.all_cons]
    by_cases h : s &&& f = s
    · simp [h, Nat.testBit_and, Bool.and_assoc]
    · simp [h]
theorem genL_bit {n s x : Nat} {l : List Nat} : (genL n s l).testBit x = true ↔ x < n ∧ ∀ f ∈ l, s &&& f = s → f.testBit x = true := by
  unfold genL
  rw [genL_bit0, full_bit]
  simp only [Bool.and_eq_true, decide_eq_true_eq, List.all_eq_true, Bool.or_eq_true, Bool.not_eq_true', decide_eq_false_iff_not]
  refine and_congr_right fun _ => ⟨fun h f hf hs => (h f hf).resolve_left (fun q => q hs), fun h f hf => ?_⟩
  by_cases hs : s &&& f = s
  · exact .inr (h f hf hs)
  · exact .inl hs
theorem genL_lt {n s : Nat} {l : List Nat} : genL n s l < 2 ^ n := lt_of_bits fun x hx => (genL_bit.1 hx).1
/-- The filter by a set. -/
noncomputable def genN (u : List Int) (t : List (List Int)) (s : Nat) : Nat := genL u.length s (filN u t (2 ^ u.length))
theorem gen_bit {s : Nat} : (genN u t s).testBit x = true ↔ x < u.length ∧ ∀ f, FI u t f → s &&& f = s → f.testBit x = true := by
  unfold genN
  rw [genL_bit]
  exact and_congr_right fun _ => ⟨fun h f hf hs => h f (mem_fil.2 hf) hs, fun h f hf hs => h f (mem_fil.1 hf) hs⟩
theorem gen_fi (a : VA u t) {s : Nat} : FI u t (genN u t s) := by
  have hp := a.lat.pos
  refine ⟨genL_lt, ?_, fun x hx y hy h1 h2 => ?_, fun x hx y hy h1 h2 => ?_⟩
  · exact gen_bit.2 ⟨by omega, fun f hf _ => hf.top⟩
  · rw [gen_bit] at h1 ⊢
    exact ⟨hy, fun f hf hs => hf.up x hx y hy (h1.2 f hf hs) h2⟩
  · rw [gen_bit] at h1 h2 ⊢
    exact ⟨a.tn_lt hx hy, fun f hf hs => hf.mul x hx y hy (h1.2 f hf hs) (h2.2 f hf hs)⟩
theorem gen_sup {s : Nat} (h : s < 2 ^ u.length) : s &&& genN u t s = s := sub_iff.2 fun x hx => gen_bit.2 ⟨bit_lt h hx, fun f hf hs => sub_iff.1 hs x hx⟩
theorem gen_le {s g : Nat} (hg : FI u t g) (h : s &&& g = s) : genN u t s &&& g = genN u t s := sub_iff.2 fun x hx => (gen_bit.1 hx).2 g hg h
theorem sub_anti {f g : Nat} (h : f &&& g = f) (h2 : g &&& f = g) : f = g := by rw [← h, Nat.and_comm, h2]
theorem gen_self {f : Nat} (h : FI u t f) : genN u t f = f := sub_anti (gen_le h (Nat.and_self f)) (gen_sup h.lt)
theorem gen_iff (a : VA u t) {f : Nat} : genN u t f = f ↔ FI u t f := ⟨fun h => h ▸ gen_fi a, gen_self⟩
theorem FI.and {f g : Nat} (a : VA u t) (hf : FI u t f) (hg : FI u t g) : FI u t (f &&& g) := by
  refine ⟨Nat.lt_of_le_of_lt Nat.and_le_left hf.lt, ?_, fun x hx y hy h1 h2 => ?_, fun x hx y hy h1 h2 => ?_⟩
  · rw [Nat.testBit_and, hf.top, hg.top]; rfl
  · rw [Nat.testBit_and, Bool.and_eq_true] at h1 ⊢
    exact ⟨hf.up x hx y hy h1.1 h2, hg.up x hx y hy h1.2 h2⟩
  · rw [Nat.testBit_and, Bool.and_eq_true] at h1 h2 ⊢
    exact ⟨hf.mul x hx y hy h1.1 h2.1, hg.mul x hx y hy h1.2 h2.2⟩
theorem fi_top (a : VA u t) : FI u t (2 ^ (u.length - 1)) := by
  have hp := a.lat.pos
  refine ⟨Nat.pow_lt_pow_right (by omega) (by omega), by simp [Nat.testBit_two_pow], fun x hx y hy h1 h2 => ?_, fun x hx y hy h1 h2 => ?_⟩
  · rw [Nat.testBit_two_pow, decide_eq_true_eq] at h1 ⊢
    subst h1
    exact (a.lat.eq_top hy h2).symm
  · rw [Nat.testBit_two_pow, decide_eq_true_eq] at h1 h2 ⊢
    rw [← h1, a.tn_topl hy]; exact h2
theorem fi_all (a : VA u t) : FI u t (2 ^ u.length - 1) := by
  have hp := a.lat.pos
  have h2 : 0 < 2 ^ u.length := Nat.pow_pos (by omega)
  refine ⟨by omega, by rw [full_bit]; simp; omega, fun x hx y hy _ _ => by rw [full_bit]; simpa using hy, fun x hx y hy _ _ => by rw [full_bit]; simpa using a.tn_lt hx hy⟩
theorem fil_pw {m : Nat} : (filN u t m).Pairwise (· < ·) := List.Pairwise.filter _ List.pairwise_lt_range

-- powers
abbrev pw (u : List Int) (t : List (List Int)) (x k : Nat) : Nat := (powM u t x k).toNat
theorem VA.pw_lt (a : VA u t) (hx : x < u.length) {k : Nat} : pw u t x k < u.length := by
  have := powM_rng a.tf hx k
  show (powM u t x k).toNat < _
  omega
theorem VA.pw_int (a : VA u t) (hx : x < u.length) {k : Nat} : powM u t x k = (pw u t x k : Nat) := (Int.toNat_of_nonneg (powM_rng a.tf hx k).1).symm
theorem VA.pw_zero (a : VA u t) : pw u t x 0 = u.length - 1 := by
  have := a.lat.pos
  show ((u.length : Int) - 1).toNat = _
  omega
theorem VA.pw_succ (a : VA u t) {k : Nat} : pw u t x (k + 1) = tn t (pw u t x k) x := rfl
theorem VA.pw_one (a : VA u t) (hx : x < u.length) : pw u t x 1 = x := by rw [a.pw_succ, a.pw_zero, a.tn_topl hx]
theorem VA.pw_add (a : VA u t) (hx : x < u.length) {k : Nat} : ∀ m, pw u t x (k + m) = tn t (pw u t x k) (pw u t x m)
  | 0 => by rw [Nat.add_zero, a.pw_zero, a.tn_top (a.pw_lt hx)]
  | m + 1 => by rw [← Nat.add_assoc, a.pw_succ, a.pw_add hx m, a.tn_assoc (a.pw_lt hx) (a.pw_lt hx) hx]; rfl
theorem VA.pw_dec (a : VA u t) (hx : x < u.length) {k : Nat} : tb u (pw u t x (k + 1)) (pw u t x k) = true := a.le_l (a.pw_lt hx) hx
theorem VA.pw_mono (a : VA u t) (hx : x < u.length) {k m : Nat} (h : k ≤ m) : tb u (pw u t x m) (pw u t x k) = true := by
  obtain ⟨e, rfl⟩ := Nat.exists_eq_add_of_le h
  rw [a.pw_add hx]; exact a.le_l (a.pw_lt hx) (a.pw_lt hx)
theorem countP_lt {p q : Nat → Bool} {z : Nat} (h1 : q z = true) (h2 : p z = false) : ∀ {l : List Nat}, (∀ x ∈ l, p x = true → q x = true) → z ∈ l → l.countP p < l.countP q
  | [], _, hz => by cases hz
  | x :: l, h, hz => by
    have hm := List.countP_mono_left (l := l) (p := p) (q := q) (fun y hy => h y (by simp [hy]))
    simp only [List.countP_cons]
    rcases List.mem_cons.1 hz with e | e
    · subst e
      simp [h1, h2]; omega
    · have ih := countP_lt h1 h2 (l := l) (fun y hy => h y (by simp [hy])) e
      have hx := h x (by simp)
      cases hp : p x
      · simp; omega
      · simp [hx hp]; omega
/-- Powers end: from one equal to the next one on they are the same. -/
theorem VA.pw_const (a : VA u t) (hx : x < u.length) {k : Nat} (h : pw u t x (k + 1) = pw u t x k) : ∀ m, pw u t x (k + m) = pw u t x k
  | 0 => rfl
  | m + 1 => by rw [← Nat.add_assoc, a.pw_succ, a.pw_const hx h m, ← a.pw_succ, h]
theorem VA.pw_cnt (a : VA u t) (hx : x < u.length) : ∀ k, (∃ i, i < k ∧ pw u t x (i + 1) = pw u t x i) ∨ (List.range u.length).countP (fun z => tb u z (pw u t x k)) + k ≤ u.length
  | 0 => .inr (by
    have := List.countP_le_length (p := fun z => tb u z (pw u t x 0)) (l := List.range u.length)
    simpa using this)
  | k + 1 => by
    rcases a.pw_cnt hx k with ⟨i, hi, e⟩ | h
    · exact .inl ⟨i, by omega, e⟩
    · by_cases e : pw u t x (k + 1) = pw u t x k
      · exact .inl ⟨k, by omega, e⟩
      · right
        have h1 := a.pw_lt hx (k := k)
        have h2 := a.pw_lt hx (k := k + 1)
        have := countP_lt (p := fun z => tb u z (pw u t x (k + 1))) (q := fun z => tb u z (pw u t x k)) (z := pw u t x k) (l := List.range u.length) (a.lat.rf h1) (by
          cases hb : tb u (pw u t x k) (pw u t x (k + 1))
          · rfl
          · exact absurd (a.lat.eq h2 h1 (a.pw_dec hx) hb) e) (fun z hz h => a.lat.tr (by simpa using hz) h2 h1 h (a.pw_dec hx)) (by simpa using h1)
        omega
theorem VA.pw_end (a : VA u t) (hx : x < u.length) (m : Nat) : pw u t x (u.length + m) = pw u t x u.length := by
  have hp := a.lat.pos
  rcases a.pw_cnt hx u.length with ⟨i, hi, e⟩ | h
  · have e1 := a.pw_const hx e (u.length - i)
    have e2 := a.pw_const hx e (u.length - i + m)
    rw [show i + (u.length - i) = u.length by omega] at e1
    rw [show i + (u.length - i + m) = u.length + m by omega] at e2
    rw [e1, e2]
  · exfalso
    have : 0 < (List.range u.length).countP (fun z => tb u z (pw u t x u.length)) := by
      rw [List.countP_pos_iff]
      exact ⟨0, by simpa using hp, a.lat.bot (a.pw_lt hx)⟩
    omega
theorem VA.pw_idem (a : VA u t) (hx : x < u.length) : tn t (pw u t x u.length) (pw u t x u.length) = pw u t x u.length := by
  rw [← a.pw_add hx, a.pw_end hx]
theorem FI.pw (a : VA u t) {f : Nat} (hf : FI u t f) (hx : x < u.length) (h : f.testBit x = true) : ∀ k, f.testBit (pw u t x k) = true
  | 0 => by rw [a.pw_zero]; exact hf.top
  | k + 1 => by rw [a.pw_succ]; exact hf.mul _ (a.pw_lt hx) _ hx (hf.pw a hx h k) h
/-- The filter by one element: what is at least its powers. -/
theorem gen_one (a : VA u t) (hx : x < u.length) (hy : y < u.length) : (genN u t (2 ^ x)).testBit y = tb u (pw u t x u.length) y := by
  have hn := a.pw_lt hx (k := u.length)
  have hp := a.lat.pos
  have hs : ∀ f : Nat, 2 ^ x &&& f = 2 ^ x ↔ f.testBit x = true := fun f => by
    rw [sub_iff]
    refine ⟨fun h => h x (by simp [Nat.testBit_two_pow]), fun h z hz => ?_⟩
    rw [Nat.testBit_two_pow, decide_eq_true_eq] at hz
    rw [← hz]; exact h
  rw [Bool.eq_iff_iff]
  constructor
  · intro h
    have hg : FI u t (mskN u.length fun z => tb u (pw u t x u.length) z) := by
      refine ⟨mskN_lt, ?_, fun p hp q hq h1 h2 => ?_, fun p hp q hq h1 h2 => ?_⟩
      · rw [mskN_bit, a.lat.topl hn]; simp; omega
      · rw [mskN_bit, Bool.and_eq_true] at h1 ⊢
        exact ⟨by simpa using hq, a.lat.tr hn hp hq h1.2 h2⟩
      · rw [mskN_bit, Bool.and_eq_true] at h1 h2 ⊢
        refine ⟨by simpa using a.tn_lt hp hq, ?_⟩
        have := a.mono2 hn hp hn hq h1.2 h2.2
        rw [a.pw_idem hx] at this; exact this
    have hxg : tb u (pw u t x u.length) x = true := by
      have := a.pw_mono hx (k := 1) (m := u.length) (by omega)
      rw [a.pw_one hx] at this; exact this
    have := (gen_bit.1 h).2 _ hg ((hs _).2 (by rw [mskN_bit, hxg]; simpa using hx))
    rw [mskN_bit, Bool.and_eq_true] at this
    exact this.2
  · intro h
    refine gen_bit.2 ⟨hy, fun f hf h2 => ?_⟩
    exact hf.up _ hn _ hy (hf.pw a hx ((hs f).1 h2) _) h

/-- The first power that is the least element, among so many. -/
def depM (u : List Int) (t : List (List Int)) (x m : Nat) : Int := firstI (m + 1) fun k => decide (powM u t x k = 0)
theorem VA.dep_bit (a : VA u t) (hx : x < u.length) {m : Nat} (hm : u.length ≤ m) : (0 ≤ depM u t x m) ↔ tb u (pw u t x u.length) 0 = true := by
  have hp := a.lat.pos
  have hn := a.pw_lt hx (k := u.length)
  unfold depM
  constructor
  · intro h
    rcases firstI_range (n := m + 1) (p := fun k => decide (powM u t x k = 0)) with e | ⟨k, hk, hz, e⟩
    · rw [e] at h; omega
    · have hz : powM u t x k = 0 := of_decide_eq_true hz
      have hz2 : pw u t x k = 0 := by show (powM u t x k).toNat = 0; rw [hz]; rfl
      have h1 := a.pw_mono hx (k := k) (m := u.length + k) (by omega)
      rw [a.pw_end hx, hz2] at h1; exact h1
  · intro h
    have e := a.lat.eq_bot hn h
    have e2 : powM u t x u.length = 0 := by rw [a.pw_int hx, e]; rfl
    rcases firstI_range (n := m + 1) (p := fun k => decide (powM u t x k = 0)) with e1 | ⟨k, hk, hz, e1⟩
    · exfalso
      unfold firstI at e1
      split at e1
      · omega
      · rename_i hnone
        rw [List.find?_eq_none] at hnone
        have := hnone u.length (by simp; omega)
        simp [e2] at this
    · rw [e1]; omega
theorem firstI_least {n : Nat} {p : Nat → Bool} {z : Nat} (h : firstI n p = z) : z < n ∧ p z = true ∧ ∀ j, j < z → p j = false := by
  unfold firstI at h
  split at h
  · rename_i k hk
    rw [List.find?_range_eq_some] at hk
    have : k = z := by omega
    subst this
    exact ⟨by simpa using hk.2.1, hk.1, fun j hj => by simpa using hk.2.2 j hj⟩
  · omega
theorem VA.dep_eq (a : VA u t) (hx : x < u.length) {m : Nat} (hm : u.length ≤ m) : depM u t x m = depM u t x u.length := by
  have h1 := a.dep_bit hx hm
  have h2 := a.dep_bit hx (Nat.le_refl u.length)
  by_cases h : 0 ≤ depM u t x u.length
  · obtain ⟨k, hk⟩ := Int.eq_ofNat_of_zero_le h
    have q := firstI_least hk
    rw [hk]
    exact firstI_some (by omega) q.2.1 q.2.2
  · have h3 : ¬ 0 ≤ depM u t x m := fun c => h (h2.2 (h1.1 c))
    have r : ∀ m, ¬ 0 ≤ depM u t x m → depM u t x m = -1 := fun m hm => by
      rcases firstI_range (n := m + 1) (p := fun k => decide (powM u t x k = 0)) with e | ⟨k, _, _, e⟩
      · exact e
      · exfalso; apply hm; unfold depM; rw [e]; omega
    rw [r _ h, r _ h3]

-- classes
theorem VA.im_topl (a : VA u t) (hx : x < u.length) : im u t (u.length - 1) x = x := by
  have hp := a.lat.pos
  have h1 := a.im_lt (x := u.length - 1) (y := x)
  have k1 := a.res (x := u.length - 1) (y := x) (z := im u t (u.length - 1) x) (by omega) hx h1
  rw [a.tn_topl h1, a.lat.rf h1] at k1
  have k2 := a.res (x := u.length - 1) (y := x) (z := x) (by omega) hx hx
  rw [a.tn_topl hx, a.lat.rf hx] at k2
  exact a.lat.eq h1 hx k1 k2.symm
theorem VA.im_topr (a : VA u t) (hx : x < u.length) : im u t x (u.length - 1) = u.length - 1 := (a.im_top hx (by omega)).2 (a.lat.topl hx)
theorem VA.nr_topr (a : VA u t) (hx : x < u.length) : nr u t x (u.length - 1) = x := by
  show tn t (im u t x (u.length - 1)) (im u t (u.length - 1) x) = x
  rw [a.im_topr hx, a.im_topl hx, a.tn_topl hx]
def clsI (u : List Int) (t : List (List Int)) (f x : Nat) : Int := firstI u.length fun y => f.testBit (nr u t x y)
theorem FI.nr_self {f : Nat} (a : VA u t) (hf : FI u t f) (hx : x < u.length) : f.testBit (nr u t x x) = true := by
  rw [(a.nr_top hx hx).2 rfl]; exact hf.top
theorem FI.nr_tr {f : Nat} (a : VA u t) (hf : FI u t f) (hx : x < u.length) (hy : y < u.length) (hz : z < u.length) (h : f.testBit (nr u t x y) = true) (h2 : f.testBit (nr u t y z) = true) : f.testBit (nr u t x z) = true :=
  hf.up _ (a.tn_lt a.nr_lt a.nr_lt) _ a.nr_lt (hf.mul _ a.nr_lt _ a.nr_lt h h2) (a.nr_tr hx hy hz)
theorem cls_spec {f : Nat} (a : VA u t) (hf : FI u t f) (hx : x < u.length) : ∃ k : Nat, clsI u t f x = k ∧ k ≤ x ∧ f.testBit (nr u t x k) = true ∧ ∀ j, j < k → f.testBit (nr u t x j) = false := by
  rcases firstI_range (n := u.length) (p := fun y => f.testBit (nr u t x y)) with e | ⟨k, hk, hz, e⟩
  · exfalso
    unfold firstI at e
    split at e
    · omega
    · rename_i hn
      rw [List.find?_eq_none] at hn
      have := hn x (by simpa using hx)
      rw [hf.nr_self a hx] at this
      exact this rfl
  · have q := firstI_least e
    refine ⟨k, e, ?_, q.2.1, q.2.2⟩
    rcases Nat.lt_or_ge x k with c | c
    · have := q.2.2 x c
      rw [hf.nr_self a hx] at this; cases this
    · exact c
theorem cls_same {f : Nat} (a : VA u t) (hf : FI u t f) (hx : x < u.length) (hy : y < u.length) : clsI u t f x = clsI u t f y ↔ f.testBit (nr u t x y) = true := by
  constructor
  · intro e
    obtain ⟨k, e1, l1, h1, _⟩ := cls_spec a hf hx
    obtain ⟨m, e2, l2, h2, _⟩ := cls_spec a hf hy
    have : k = m := by omega
    subst this
    rw [a.nr_comm] at h2
    exact hf.nr_tr a hx (by omega) hy h1 h2
  · intro h
    unfold clsI firstI
    have : ∀ z, z < u.length → f.testBit (nr u t x z) = f.testBit (nr u t y z) := fun z hz => by
      rw [Bool.eq_iff_iff]
      constructor
      · intro h2
        rw [a.nr_comm] at h
        exact hf.nr_tr a hy hx hz h h2
      · intro h2
        exact hf.nr_tr a hx hy hz h h2
    have e : (List.range u.length).find? (fun z => f.testBit (nr u t x z)) = (List.range u.length).find? (fun z => f.testBit (nr u t y z)) := by
      have key : ∀ l : List Nat, (∀ z ∈ l, z < u.length) → l.find? (fun z => f.testBit (nr u t x z)) = l.find? (fun z => f.testBit (nr u t y z)) := by
        intro l
        induction l with
        | nil => intro _; rfl
        | cons z l ih =>
          intro hl
          simp only [List.find?_cons, this z (hl z (by simp)), ih (fun w hw => hl w (by simp [hw]))]
      exact key _ (fun z hz => by simpa using hz)
    rw [e]
theorem cls_top {f : Nat} (a : VA u t) (hf : FI u t f) (hx : x < u.length) : clsI u t f x = clsI u t f (u.length - 1) ↔ f.testBit x = true := by
  rw [cls_same a hf hx (by omega), a.nr_topr hx]
end
end Go.PS
end

section
-- Contracts: sets by bits; filters of the reference.
set_option maxRecDepth 100000
set_option linter.unusedVariables false
set_option linter.unusedSimpArgs false
namespace Go.PS
open Go.Proofs

/-- A bit, 0 or 1. -/
def bitI (x : Int) (j : Nat) : Int := if x.toNat.testBit j then 1 else 0
@[simp] theorem bitI_one {x : Int} {j : Nat} : bitI x j = 1 ↔ x.toNat.testBit j = true := by unfold bitI; split <;> simp_all
@[simp] theorem bitI_zero {x : Int} {j : Nat} : bitI x j = 0 ↔ x.toNat.testBit j = false := by unfold bitI; split <;> simp_all
theorem bitI_eq {x : Int} (h0 : 0 ≤ x) (j : Nat) : (x.tdiv (2 ^ j)).tmod 2 = bitI x j := by
  have h := bit_math h0 j
  unfold bitI
  split
  · rename_i hb; exact h.2 hb
  · rename_i hb
    have h1 : ¬ (x.tdiv (2 ^ j)).tmod 2 = 1 := fun e => hb (h.1 e)
    have hp : (0 : Int) < 2 ^ j := Int.pow_pos (by omega)
    have h2 : 0 ≤ x.tdiv (2 ^ j) := Int.tdiv_nonneg h0 (by omega)
    have h3 := Int.tmod_nonneg (a := x.tdiv (2 ^ j)) 2 h2
    have h4 := Int.tmod_lt_of_pos (x.tdiv (2 ^ j)) (b := 2) (by omega)
    omega
theorem p2w {n : Nat} (h : n ≤ 6) : IntKind.i64.wrap ((2 : Int) ^ n - 1) = 2 ^ n - 1 := by
  have : n = 0 ∨ n = 1 ∨ n = 2 ∨ n = 3 ∨ n = 4 ∨ n = 5 ∨ n = 6 := by omega
  rcases this with rfl | rfl | rfl | rfl | rfl | rfl | rfl <;> rfl
theorem p2le {n : Nat} (h : n ≤ 6) : 0 < 2 ^ n ∧ 2 ^ n ≤ 64 := ⟨Nat.pow_pos (by omega), Nat.pow_le_pow_right (n := 2) (by omega) h⟩
theorem p2i {n : Nat} : (2 : Int) ^ n = ((2 ^ n : Nat) : Int) := by push_cast; rfl
theorem bitS_pc (x j : Int) (h0 : 0 ≤ x) (h1 : x < 64) (h2 : 0 ≤ j) (h3 : j ≤ 61) : PC Try.prog 171 [I64 x, I64 j] none true (fun r _ => r = I64 (bitI x j.toNat)) := by
  rw [← bitI_eq h0]
  exact bit_pc x j h0 h1 h2 h3
noncomputable def fm_bitS : Fam Try.prog := mkFam (X := Int × Int) 171 true (fun (x, j) => [I64 x, I64 j]) (fun (x, j) => (0 ≤ x) ∧ (x < 64) ∧ (0 ≤ j) ∧ (j ≤ 61)) (fun (x, j) => I64 (bitI x j.toNat)) (by
  rintro ⟨x, j⟩ ⟨h0, h1, h2, h3⟩
  exact bitS_pc x j h0 h1 h2 h3)
@[simp] theorem fm_bitS_id : fm_bitS.id = 171 := rfl
@[simp] theorem fm_bitS_fresh : fm_bitS.fresh = true := rfl
@[simp] theorem fm_bitS_look (x j : Int) (h0 : 0 ≤ x) (h1 : x < 64) (h2 : 0 ≤ j) (h3 : j ≤ 61) : fm_bitS.look [I64 x, I64 j] = some (I64 (bitI x j.toNat)) :=
  lookF_of (X := Int × Int) (args := fun (x, j) => [I64 x, I64 j]) (pre := fun (x, j) => (0 ≤ x) ∧ (x < 64) ∧ (0 ≤ j) ∧ (j ≤ 61)) (val := fun (x, j) => I64 (bitI x j.toNat)) (by
  rintro ⟨x, j⟩ ⟨x', j'⟩ h
  simp at h
  try simp only [and_assoc] at h
  obtain ⟨rfl, rfl⟩ := h
  rfl) (x, j) ⟨h0, h1, h2, h3⟩
attribute [irreducible] fm_bitS
theorem powerL_pc (n : Int) (h0 : 0 ≤ n) (h1 : n ≤ 61) : PC Try.prog 39 [I64 n] none true (fun r _ => r = I64 (2 ^ n.toNat)) := by
  obtain ⟨k, rfl⟩ := Int.eq_ofNat_of_zero_le h0
  refine pcT [] fok_39 ?_
  simp [fa_39]
  refine loopA (tabK_mono _) k (fun i => [(0, I64 ((k : Int) - i)), (3, I64 (2 ^ i))]) (fun _ => []) (fun _ => True) (by simp) (by simp) (fun i g hi _ => ?_)
  have h1 : (2 : Int) ^ i ≤ 2 ^ 61 := by
    have := Nat.pow_le_pow_right (n := 2) (by omega) (show i ≤ 61 by omega)
    exact_mod_cast this
  have h2 : (0 : Int) < 2 ^ i := Int.pow_pos (by omega)
  simp [lb_39_2, wrap64 (n := 2 * 2 ^ i) (by omega) (by omega), wrap64 (n := (k : Int) - i - 1) (by omega) (by omega)]
  refine ⟨fun h => ⟨by omega, by omega, ?_⟩, fun h => ?_⟩
  · rw [Int.pow_succ]; omega
  · rw [show i = k by omega]
noncomputable def fm_powerL : Fam Try.prog := mkFam (X := Int) 39 true (fun n => [I64 n]) (fun n => (0 ≤ n) ∧ (n ≤ 61)) (fun n => I64 (2 ^ n.toNat)) (by
  rintro n ⟨h0, h1⟩
  exact powerL_pc n h0 h1)
@[simp] theorem fm_powerL_id : fm_powerL.id = 39 := rfl
@[simp] theorem fm_powerL_fresh : fm_powerL.fresh = true := rfl
@[simp] theorem fm_powerL_look (n : Int) (h0 : 0 ≤ n) (h1 : n ≤ 61) : fm_powerL.look [I64 n] = some (I64 (2 ^ n.toNat)) :=
  lookF_of (X := Int) (args := fun n => [I64 n]) (pre := fun n => (0 ≤ n) ∧ (n ≤ 61)) (val := fun n => I64 (2 ^ n.toNat)) (by
  intro n n' h
  simp at h
  subst h
  rfl) n ⟨h0, h1⟩
attribute [irreducible] fm_powerL
theorem bitL_pc (x j : Int) (h0 : 0 ≤ x) (h1 : x < 64) (h2 : 0 ≤ j) (h3 : j ≤ 61) : PC Try.prog 47 [I64 x, I64 j] none true (fun r _ => r = I64 (bitI x j.toNat)) := by
  rw [← bitI_eq h0]
  refine pcT [fm_powerL] fok_47 ?_
  have h4 : (0 : Int) < 2 ^ j.toNat := Int.pow_pos (by omega)
  have h5 : x.tdiv (2 ^ j.toNat) ≤ x := by
    rw [Int.tdiv_eq_ediv_of_nonneg h0]; exact Int.ediv_le_self _ h0
  have h6 : 0 ≤ x.tdiv (2 ^ j.toNat) := Int.tdiv_nonneg h0 (by omega)
  simp [fa_47, h2, h3, wrap64 (n := x.tdiv (2 ^ j.toNat)) (by omega) (by omega)]
  omega
noncomputable def fm_bitL : Fam Try.prog := mkFam (X := Int × Int) 47 true (fun (x, j) => [I64 x, I64 j]) (fun (x, j) => (0 ≤ x) ∧ (x < 64) ∧ (0 ≤ j) ∧ (j ≤ 61)) (fun (x, j) => I64 (bitI x j.toNat)) (by
  rintro ⟨x, j⟩ ⟨h0, h1, h2, h3⟩
  exact bitL_pc x j h0 h1 h2 h3)
@[simp] theorem fm_bitL_id : fm_bitL.id = 47 := rfl
@[simp] theorem fm_bitL_fresh : fm_bitL.fresh = true := rfl
@[simp] theorem fm_bitL_look (x j : Int) (h0 : 0 ≤ x) (h1 : x < 64) (h2 : 0 ≤ j) (h3 : j ≤ 61) : fm_bitL.look [I64 x, I64 j] = some (I64 (bitI x j.toNat)) :=
  lookF_of (X := Int × Int) (args := fun (x, j) => [I64 x, I64 j]) (pre := fun (x, j) => (0 ≤ x) ∧ (x < 64) ∧ (0 ≤ j) ∧ (j ≤ 61)) (val := fun (x, j) => I64 (bitI x j.toNat)) (by
  rintro ⟨x, j⟩ ⟨x', j'⟩ h
  simp at h
  try simp only [and_assoc] at h
  obtain ⟨rfl, rfl⟩ := h
  rfl) (x, j) ⟨h0, h1, h2, h3⟩
attribute [irreducible] fm_bitL

/-- Is a number a set of so many elements? -/
def inS (n : Nat) (f : Int) : Bool := decide (0 ≤ f) && decide (f ≤ 2 ^ n - 1)
theorem inS_ex {n : Nat} {f : Int} (h : inS n f = true) : ∃ k : Nat, f = k ∧ k < 2 ^ n := by
  simp only [inS, Bool.and_eq_true, decide_eq_true_eq, p2i] at h
  exact ⟨f.toNat, by omega, by omega⟩
theorem inS_nat {n k : Nat} (h : k < 2 ^ n) : inS n (k : Int) = true := by
  simp only [inS, Bool.and_eq_true, decide_eq_true_eq, p2i]
  omega
set_option maxHeartbeats 1000000 in
theorem isFilS_pc (u : List Int) (t : List (List Int)) (f : Int) (a : VA u t) : PC Try.prog 112 [AL u t, I64 f] none true (fun r _ => r = .bool (inS u.length f && decide (FI u t f.toNat))) := by
  have v := a.lat
  have hp := v.pos
  have h6 := v.six
  have hul : u.length ≤ 1099511627776 := by omega
  have hw := p2w h6
  have h64 := p2le h6
  have w1 : IntKind.i64.wrap ((u.length : Int) - 1) = ((u.length - 1 : Nat) : Int) := by rw [wrap64 (by omega) (by omega)]; omega
  refine pcT [fm_power, fm_inRange, fm_bitS, fm_belowS] fok_112 ?_
  simp [fa_112]
  cases hb : inS u.length f
  · refine cutW (tabK_mono _) [(23, .bool true)] (by
      simp only [inS] at hb
      simp [hw, hb, show (u.length : Int) ≤ 61 by omega]) ?_
    simp
  obtain ⟨f, rfl, hf⟩ := inS_ex hb
  simp only [Int.toNat_natCast]
  have hf2 : (f : Int) ≤ 2 ^ u.length - 1 := by rw [p2i]; omega
  have f64 : (f : Int) < 64 := by omega
  refine cutW (tabK_mono _) [(23, .bool (!f.testBit (u.length - 1)))] (by
    simp [hw, hf2, f64, w1, show (u.length : Int) ≤ 61 by omega, show ((u.length - 1 : Nat) : Int) ≤ 61 by omega]) ?_
  simp
  refine ⟨fun h F => ?_, fun ht => ?_⟩
  · rw [F.top] at h; cases h
  refine loopA (tabK_mono _) u.length (fun i => [(6, I64 i)]) (fun _ => []) (fun x => ∀ y, y < u.length → f.testBit x = true → (tb u x y = true → f.testBit y = true) ∧ (f.testBit y = true → f.testBit (tn t x y) = true)) (by simp) (by simp) (fun x g hx hP => ?_)
  simp [lb_112_5, wrap_succ hx hul]
  refine ⟨fun h2 => ?_, fun h2 => ?_⟩
  · refine loopA (tabK_mono _) u.length (fun i => [(7, I64 i)]) (fun _ => []) (fun y => f.testBit x = true → (tb u x y = true → f.testBit y = true) ∧ (f.testBit y = true → f.testBit (tn t x y) = true)) (by simp) (by simp) (fun y g2 hy hQ => ?_)
    simp [lb_112_8, wrap_succ hy hul]
    refine ⟨fun h3 => ?_, fun h3 => ?_⟩
    · have s1 := a.tn_int h2 h3
      have s2 := a.tn_lt h2 h3
      have hlen := a.len
      have hrow := a.rows x h2
      refine cutW (tabK_mono _) [(69, .bool (f.testBit x && (tb u x y && !f.testBit y || f.testBit y && !f.testBit (tn t x y))))] (by
        generalize tn t x y = w at *
        cases b1 : f.testBit x
        · simp [b1, f64, show (x : Int) ≤ 61 by omega]
        · cases b2 : tb u x y <;> cases b3 : f.testBit y <;> simp [b1, b2, b3, v.sm, h2, h3, s1, hlen, hrow, f64, show (x : Int) ≤ 61 by omega, show (y : Int) ≤ 61 by omega, show (w : Int) ≤ 61 by omega]) ?_
      simp
      refine ⟨fun b1 b2 F => ?_, fun b => ⟨h3, wrap_succ hy hul, b⟩⟩
      rcases b2 with ⟨c1, c2⟩ | ⟨c1, c2⟩
      · rw [F.up x h2 y h3 b1 c1] at c2; cases c2
      · rw [F.mul x h2 y h3 b1 c1] at c2; cases c2
    · exact ⟨h2, wrap_succ hx hul, fun y hy => hQ y (by omega)⟩
  · exact ⟨hf, ht, fun x hx y hy b1 b2 => (hP x (by omega) y hy b1).1 b2, fun x hx y hy b1 b2 => (hP x (by omega) y hy b1).2 b2⟩
noncomputable def fm_isFilS : Fam Try.prog := mkFam (X := List Int × List (List Int) × Int) 112 true (fun (u, t, f) => [AL u t, I64 f]) (fun (u, t, f) => (VA u t)) (fun (u, t, f) => .bool (inS u.length f && decide (FI u t f.toNat))) (by
  rintro ⟨u, t, f⟩ a
  exact isFilS_pc u t f a)
@[simp] theorem fm_isFilS_id : fm_isFilS.id = 112 := rfl
@[simp] theorem fm_isFilS_fresh : fm_isFilS.fresh = true := rfl
@[simp] theorem fm_isFilS_look (u : List Int) (t : List (List Int)) (f : Int) (a : VA u t) : fm_isFilS.look [AL u t, I64 f] = some (.bool (inS u.length f && decide (FI u t f.toNat))) :=
  lookF_of (X := List Int × List (List Int) × Int) (args := fun (u, t, f) => [AL u t, I64 f]) (pre := fun (u, t, f) => (VA u t)) (val := fun (u, t, f) => .bool (inS u.length f && decide (FI u t f.toNat))) (by
  rintro ⟨u, t, f⟩ ⟨u', t', f'⟩ h
  simp at h
  try simp only [and_assoc] at h
  obtain ⟨rfl, rfl, rfl⟩ := h
  rfl) (u, t, f) a
attribute [irreducible] fm_isFilS
theorem leBig {n : Nat} (h : n ≤ 1099511627776) : n ≤ big := h
/-- Numbers as a list of the program's. -/
abbrev natL (l : List Nat) : List Int := l.map fun (x : Nat) => (x : Int)
theorem natL_snoc {l : List Nat} {n : Nat} : natL (l ++ [n]) = natL l ++ [(n : Int)] := by simp
theorem gi_natL {l : List Nat} {i : Nat} (h : i < l.length) : gi (natL l) i = ((l[i] : Nat) : Int) := by simp [gi, h]
theorem mem_natL {l : List Nat} {v : Int} : v ∈ natL l ↔ ∃ x, x ∈ l ∧ v = (x : Int) := by
  simp only [natL, List.mem_map]
  constructor
  · rintro ⟨x, h, rfl⟩; exact ⟨x, h, rfl⟩
  · rintro ⟨x, h, rfl⟩; exact ⟨x, h, rfl⟩
theorem mem_natL_nat {l : List Nat} {x : Nat} : (x : Int) ∈ natL l ↔ x ∈ l := by
  rw [mem_natL]
  constructor
  · rintro ⟨y, h, e⟩
    have : x = y := by omega
    rw [this]; exact h
  · exact fun h => ⟨x, h, rfl⟩
theorem filS_pc (u : List Int) (t : List (List Int)) (a : VA u t) : PC Try.prog 119 [AL u t] none true (fun r _ => r = IO1 (natL (filN u t (2 ^ u.length)))) := by
  have v := a.lat
  have h6 := v.six
  have h64 := p2le h6
  have hp2 : (2 : Int) ^ u.length = ((2 ^ u.length : Nat) : Int) := p2i
  refine pcT [fm_power, fm_isFilS] fok_119 ?_
  simp [fa_119]
  refine loopX (tabK_mono _) (2 ^ u.length) (fun i γ => [(3, .arr 40 γ), (4, I64 i)]) (fun i γ => [⟨40, γ, .arr 1 (ints (natL (filN u t i)))⟩]) (fun _ _ => True) 1 (by simp) (by simp [filN_zero, ints_nil]) trivial (fun i γ g hi _ => ?_)
  have hcond : ((i : Int) < 2 ^ u.length) ↔ i < 2 ^ u.length := by rw [hp2]; omega
  simp [lb_119_3, show (u.length : Int) ≤ 61 by omega, hcond, wrap_succ hi (show 2 ^ u.length ≤ 1099511627776 by omega)]
  refine ⟨fun h => ?_, fun h => ?_⟩
  · have hle := filN_len (u := u) (t := t) (m := i)
    have hs := filN_succ (u := u) (t := t) (m := i)
    have hin := inS_nat h
    generalize filN u t i = l0 at *
    simp [a, hin, wrap_succ hi (show 2 ^ u.length ≤ 1099511627776 by omega)]
    refine ⟨fun F => ?_, fun F => ?_⟩
    · rw [if_pos F] at hs
      simp [hs]
      exact ⟨leBig (by omega), h⟩
    · rw [if_neg F] at hs
      simp [hs]
      exact h
  · obtain rfl : i = 2 ^ u.length := by omega
    rfl
noncomputable def fm_filS : Fam Try.prog := mkFam (X := List Int × List (List Int)) 119 true (fun (u, t) => [AL u t]) (fun (u, t) => (VA u t)) (fun (u, t) => IO1 (natL (filN u t (2 ^ u.length)))) (by
  rintro ⟨u, t⟩ a
  exact filS_pc u t a)
@[simp] theorem fm_filS_id : fm_filS.id = 119 := rfl
@[simp] theorem fm_filS_fresh : fm_filS.fresh = true := rfl
@[simp] theorem fm_filS_look (u : List Int) (t : List (List Int)) (a : VA u t) : fm_filS.look [AL u t] = some (IO1 (natL (filN u t (2 ^ u.length)))) :=
  lookF_of (X := List Int × List (List Int)) (args := fun (u, t) => [AL u t]) (pre := fun (u, t) => (VA u t)) (val := fun (u, t) => IO1 (natL (filN u t (2 ^ u.length)))) (by
  rintro ⟨u, t⟩ ⟨u', t'⟩ h
  simp at h
  try simp only [and_assoc] at h
  obtain ⟨rfl, rfl⟩ := h
  rfl) (u, t) a
attribute [irreducible] fm_filS
noncomputable def filR (u : List Int) (t : List (List Int)) : List Int := if VA u t then natL (filN u t (2 ^ u.length)) else []
theorem FilS_pc (u : List Int) (t : List (List Int)) (hu : Big u.length) (ht : BigR t) : PC Try.prog 36 [AL u t] none false (fun r _ => r = IL (filR u t)) := by
  refine pcT [fm_validAlgebraS, fm_filS] fok_36 ?_
  unfold filR
  by_cases a : VA u t
  · simp [fa_36, hu, ht, a]
  · simp [fa_36, hu, ht, a, ints_nil]
noncomputable def fm_FilS : Fam Try.prog := mkFam (X := List Int × List (List Int)) 36 false (fun (u, t) => [AL u t]) (fun (u, t) => (Big u.length) ∧ (BigR t)) (fun (u, t) => IL (filR u t)) (by
  rintro ⟨u, t⟩ ⟨hu, ht⟩
  exact FilS_pc u t hu ht)
@[simp] theorem fm_FilS_id : fm_FilS.id = 36 := rfl
@[simp] theorem fm_FilS_fresh : fm_FilS.fresh = false := rfl
@[simp] theorem fm_FilS_look (u : List Int) (t : List (List Int)) (hu : Big u.length) (ht : BigR t) : fm_FilS.look [AL u t] = some (IL (filR u t)) :=
  lookF_of (X := List Int × List (List Int)) (args := fun (u, t) => [AL u t]) (pre := fun (u, t) => (Big u.length) ∧ (BigR t)) (val := fun (u, t) => IL (filR u t)) (by
  rintro ⟨u, t⟩ ⟨u', t'⟩ h
  simp at h
  try simp only [and_assoc] at h
  obtain ⟨rfl, rfl⟩ := h
  rfl) (u, t) ⟨hu, ht⟩
attribute [irreducible] fm_FilS
noncomputable def ifM (u : List Int) (t : List (List Int)) (f : Int) : Bool := decide (VA u t) && inS u.length f && decide (FI u t f.toNat)
theorem IsFilS_pc (u : List Int) (t : List (List Int)) (f : Int) (hu : Big u.length) (ht : BigR t) : PC Try.prog 28 [AL u t, I64 f] none true (fun r _ => r = .bool (ifM u t f)) := by
  refine pcT [fm_validAlgebraS, fm_isFilS] fok_28 ?_
  unfold ifM
  by_cases a : VA u t
  · simp [gops, fa_28, hu, ht, a]
  · simp [gops, fa_28, hu, ht, a]
noncomputable def fm_IsFilS : Fam Try.prog := mkFam (X := List Int × List (List Int) × Int) 28 true (fun (u, t, f) => [AL u t, I64 f]) (fun (u, t, f) => (Big u.length) ∧ (BigR t)) (fun (u, t, f) => .bool (ifM u t f)) (by
  rintro ⟨u, t, f⟩ ⟨hu, ht⟩
  exact IsFilS_pc u t f hu ht)
@[simp] theorem fm_IsFilS_id : fm_IsFilS.id = 28 := rfl
@[simp] theorem fm_IsFilS_fresh : fm_IsFilS.fresh = true := rfl
@[simp] theorem fm_IsFilS_look (u : List Int) (t : List (List Int)) (f : Int) (hu : Big u.length) (ht : BigR t) : fm_IsFilS.look [AL u t, I64 f] = some (.bool (ifM u t f)) :=
  lookF_of (X := List Int × List (List Int) × Int) (args := fun (u, t, f) => [AL u t, I64 f]) (pre := fun (u, t, f) => (Big u.length) ∧ (BigR t)) (val := fun (u, t, f) => .bool (ifM u t f)) (by
  rintro ⟨u, t, f⟩ ⟨u', t', f'⟩ h
  simp at h
  try simp only [and_assoc] at h
  obtain ⟨rfl, rfl, rfl⟩ := h
  rfl) (u, t, f) ⟨hu, ht⟩
attribute [irreducible] fm_IsFilS
noncomputable def fbM (u : List Int) (t : List (List Int)) (s : Int) : Int := if decide (VA u t) && inS u.length s then (genN u t s.toNat : Nat) else -1
theorem and_nat {a b : Nat} (ha : a < 64) (hb : b < 64) : bAnd .i64 (a : Int) (b : Int) = ((a &&& b : Nat) : Int) := by
  rw [bAnd_nat (by omega) (by omega) (by omega) (by omega)]
  simp
theorem fil_lt {u : List Int} {t : List (List Int)} {i : Nat} (h : i < (filN u t (2 ^ u.length)).length) : (filN u t (2 ^ u.length))[i] < 2 ^ u.length := (mem_fil.1 (List.getElem_mem h)).lt
theorem genS_pc (u : List Int) (t : List (List Int)) (s : Int) (a : VA u t) (hs : inS u.length s = true) : PC Try.prog 129 [AL u t, I64 s] none true (fun r _ => r = I64 (genN u t s.toNat)) := by
  obtain ⟨s, rfl, hs⟩ := inS_ex hs
  have v := a.lat
  have h6 := v.six
  have h64 := p2le h6
  have hw := p2w h6
  have hle := filN_len (u := u) (t := t) (m := 2 ^ u.length)
  have hlt := fun i (h : i < (filN u t (2 ^ u.length)).length) => fil_lt h
  refine pcT [fm_power, fm_filS] fok_129 ?_
  simp [fa_129, show (u.length : Int) ≤ 61 by omega, a, hw]
  unfold genN
  generalize filN u t (2 ^ u.length) = l at *
  have e0 : (2 : Int) ^ u.length - 1 = ((genL u.length s (l.take 0) : Nat) : Int) := by
    simp only [List.take_zero, genL, List.foldl_nil]
    rw [p2i]; omega
  refine loopA (tabK_mono _) l.length (fun i => [(5, I64 (genL u.length s (l.take i) : Nat)), (7, I64 i)]) (fun _ => []) (fun _ => True) (by simp; exact e0) (by simp) (fun i g hi _ => ?_)
  simp [lb_129_4, wrap_succ hi (show l.length ≤ 1099511627776 by omega)]
  refine ⟨fun h => ?_, fun h => ?_⟩
  · have h1 := hlt i h
    have h2 := genL_lt (n := u.length) (s := s) (l := l.take i)
    have e1 := gi_natL h
    have e2 : genL u.length s (l.take (i + 1)) = if s &&& l[i] = s then genL u.length s (l.take i) &&& l[i] else genL u.length s (l.take i) := by
      rw [List.take_succ_eq_append_getElem h, genL_snoc]
    generalize genL u.length s (l.take i) = o at *
    generalize l[i] = f at *
    simp [h, e1, and_nat (a := f) (b := s) (by omega) (by omega), and_nat (a := o) (b := f) (by omega) (by omega)]
    have e3 : (((f &&& s : Nat) : Int) = (s : Int)) ↔ (s &&& f = s) := by rw [Nat.and_comm f s]; omega
    refine ⟨fun c => ?_, fun c => ?_⟩
    · rw [if_pos (e3.1 c)] at e2
      simp [e2, wrap_succ hi (show l.length ≤ 1099511627776 by omega), h]
    · rw [if_neg (fun c2 => c (e3.2 c2))] at e2
      simp [e2, wrap_succ hi (show l.length ≤ 1099511627776 by omega), h]
  · obtain rfl : i = l.length := by omega
    rw [List.take_length]
noncomputable def fm_genS : Fam Try.prog := mkFam (X := List Int × List (List Int) × Int) 129 true (fun (u, t, s) => [AL u t, I64 s]) (fun (u, t, s) => (VA u t) ∧ (inS u.length s = true)) (fun (u, t, s) => I64 (genN u t s.toNat)) (by
  rintro ⟨u, t, s⟩ ⟨a, hs⟩
  exact genS_pc u t s a hs)
@[simp] theorem fm_genS_id : fm_genS.id = 129 := rfl
@[simp] theorem fm_genS_fresh : fm_genS.fresh = true := rfl
@[simp] theorem fm_genS_look (u : List Int) (t : List (List Int)) (s : Int) (a : VA u t) (hs : inS u.length s = true) : fm_genS.look [AL u t, I64 s] = some (I64 (genN u t s.toNat)) :=
  lookF_of (X := List Int × List (List Int) × Int) (args := fun (u, t, s) => [AL u t, I64 s]) (pre := fun (u, t, s) => (VA u t) ∧ (inS u.length s = true)) (val := fun (u, t, s) => I64 (genN u t s.toNat)) (by
  rintro ⟨u, t, s⟩ ⟨u', t', s'⟩ h
  simp at h
  try simp only [and_assoc] at h
  obtain ⟨rfl, rfl, rfl⟩ := h
  rfl) (u, t, s) ⟨a, hs⟩
attribute [irreducible] fm_genS
theorem FiByS_pc (u : List Int) (t : List (List Int)) (s : Int) (hu : Big u.length) (ht : BigR t) : PC Try.prog 50 [AL u t, I64 s] none true (fun r _ => r = I64 (fbM u t s)) := by
  refine pcT [fm_validAlgebraS, fm_power, fm_inRange, fm_genS] fok_50 ?_
  simp [fa_50]
  unfold fbM
  by_cases a : VA u t
  · have h6 := a.lat.six
    have hw := p2w h6
    refine cutW (tabK_mono _) [(17, .bool (!inS u.length s))] (by simp [inS, hu, ht, a, hw, show (u.length : Int) ≤ 61 by omega]) ?_
    cases hb : inS u.length s
    · simp [a]
    · simp [a, hb]
  · refine cutW (tabK_mono _) [(17, .bool true)] (by simp [hu, ht, a]) ?_
    simp [a]
noncomputable def fm_FiByS : Fam Try.prog := mkFam (X := List Int × List (List Int) × Int) 50 true (fun (u, t, s) => [AL u t, I64 s]) (fun (u, t, s) => (Big u.length) ∧ (BigR t)) (fun (u, t, s) => I64 (fbM u t s)) (by
  rintro ⟨u, t, s⟩ ⟨hu, ht⟩
  exact FiByS_pc u t s hu ht)
@[simp] theorem fm_FiByS_id : fm_FiByS.id = 50 := rfl
@[simp] theorem fm_FiByS_fresh : fm_FiByS.fresh = true := rfl
@[simp] theorem fm_FiByS_look (u : List Int) (t : List (List Int)) (s : Int) (hu : Big u.length) (ht : BigR t) : fm_FiByS.look [AL u t, I64 s] = some (I64 (fbM u t s)) :=
  lookF_of (X := List Int × List (List Int) × Int) (args := fun (u, t, s) => [AL u t, I64 s]) (pre := fun (u, t, s) => (Big u.length) ∧ (BigR t)) (val := fun (u, t, s) => I64 (fbM u t s)) (by
  rintro ⟨u, t, s⟩ ⟨u', t', s'⟩ h
  simp at h
  try simp only [and_assoc] at h
  obtain ⟨rfl, rfl, rfl⟩ := h
  rfl) (u, t, s) ⟨hu, ht⟩
attribute [irreducible] fm_FiByS
end Go.PS
end

section
-- Counting: what goes into a list without repeats is no more than the list.
set_option linter.unusedVariables false
set_option linter.unusedSimpArgs false
namespace Go.PS
theorem inj_len {α β : Type} [DecidableEq β] {f : α → β} : ∀ (l1 : List α) (l2 : List β), l1.Pairwise (fun a b => f a ≠ f b) → (∀ a ∈ l1, f a ∈ l2) → l1.length ≤ l2.length
  | [], _, _, _ => Nat.zero_le _
  | a :: l1, l2, hp, hm => by
    have ha := hm a (by simp)
    rw [List.pairwise_cons] at hp
    have h1 := inj_len l1 (l2.erase (f a)) hp.2 (fun b hb => (List.mem_erase_of_ne (Ne.symm (hp.1 b hb))).2 (hm b (by simp [hb])))
    have h2 := List.length_erase_of_mem ha
    have h3 := List.length_pos_of_mem ha
    rw [List.length_cons]
    omega
/-- The number of elements of a set. -/
def wtN (n s : Nat) : Nat := (List.range n).countP fun x => s.testBit x
theorem wtN_zero {s : Nat} : wtN 0 s = 0 := rfl
theorem wtN_succ {n s : Nat} : wtN (n + 1) s = wtN n s + (if s.testBit n then 1 else 0) := by
  simp [wtN, List.range_succ, List.countP_append, List.countP_cons]
/-- A weight bit by bit from below. -/
theorem wtN_half {n s : Nat} : wtN (n + 1) s = s % 2 + wtN n (s / 2) := by
  induction n with
  | zero =>
    simp [wtN_succ, wtN_zero, Nat.testBit_zero]
    split <;> omega
  | succ n ih =>
    rw [wtN_succ, ih, wtN_succ, Nat.testBit_div_two]
    omega
end Go.PS
end

section
-- Contracts: filters of the program; lists and weights of the laws.
set_option maxRecDepth 100000
set_option linter.unusedVariables false
set_option linter.unusedSimpArgs false
namespace Go.PS
open Go.Proofs

theorem hasI_pc (f x : Int) (h0 : 0 ≤ x) (h1 : x ≤ 63) : PC Try.prog 170 [I64 f, I64 x] none true (fun r _ => r = .bool (f.toNat.testBit x.toNat)) := by
  obtain ⟨x, rfl⟩ := Int.eq_ofNat_of_zero_le h0
  have h := shr_bit f (y := x) (by omega)
  refine pcT [] fok_170 ?_
  simp [fa_170, h]
noncomputable def fm_hasI : Fam Try.prog := mkFam (X := Int × Int) 170 true (fun (f, x) => [I64 f, I64 x]) (fun (f, x) => (0 ≤ x) ∧ (x ≤ 63)) (fun (f, x) => .bool (f.toNat.testBit x.toNat)) (by
  rintro ⟨f, x⟩ ⟨h0, h1⟩
  exact hasI_pc f x h0 h1)
@[simp] theorem fm_hasI_id : fm_hasI.id = 170 := rfl
@[simp] theorem fm_hasI_fresh : fm_hasI.fresh = true := rfl
@[simp] theorem fm_hasI_look (f x : Int) (h0 : 0 ≤ x) (h1 : x ≤ 63) : fm_hasI.look [I64 f, I64 x] = some (.bool (f.toNat.testBit x.toNat)) :=
  lookF_of (X := Int × Int) (args := fun (f, x) => [I64 f, I64 x]) (pre := fun (f, x) => (0 ≤ x) ∧ (x ≤ 63)) (val := fun (f, x) => .bool (f.toNat.testBit x.toNat)) (by
  rintro ⟨f, x⟩ ⟨f', x'⟩ h
  simp at h
  try simp only [and_assoc] at h
  obtain ⟨rfl, rfl⟩ := h
  rfl) (f, x) ⟨h0, h1⟩
attribute [irreducible] fm_hasI
theorem shl2w {n : Nat} (h : n ≤ 6) : bShl .i64 1 (n : Int) = 2 ^ n ∧ IntKind.i64.wrap ((2 : Int) ^ n - 1) = 2 ^ n - 1 := by
  have : n = 0 ∨ n = 1 ∨ n = 2 ∨ n = 3 ∨ n = 4 ∨ n = 5 ∨ n = 6 := by omega
  rcases this with rfl | rfl | rfl | rfl | rfl | rfl | rfl <;> exact ⟨rfl, rfl⟩
theorem setInI_pc (u : List Int) (t : List (List Int)) (f : Int) (hu : Big u.length) (ht : BigR t) : PC Try.prog 109 [AL u t, I64 f] none true (fun r _ => r = .bool (decide (VA u t) && inS u.length f)) := by
  refine pcT [fm_validAlgebraI, fm_within] fok_109 ?_
  by_cases a : VA u t
  · have hw := shl2w a.lat.six
    simp [gops, fa_109, hu, ht, a, hw, inS]
  · simp [gops, fa_109, hu, ht, a]
noncomputable def fm_setInI : Fam Try.prog := mkFam (X := List Int × List (List Int) × Int) 109 true (fun (u, t, f) => [AL u t, I64 f]) (fun (u, t, f) => (Big u.length) ∧ (BigR t)) (fun (u, t, f) => .bool (decide (VA u t) && inS u.length f)) (by
  rintro ⟨u, t, f⟩ ⟨hu, ht⟩
  exact setInI_pc u t f hu ht)
@[simp] theorem fm_setInI_id : fm_setInI.id = 109 := rfl
@[simp] theorem fm_setInI_fresh : fm_setInI.fresh = true := rfl
@[simp] theorem fm_setInI_look (u : List Int) (t : List (List Int)) (f : Int) (hu : Big u.length) (ht : BigR t) : fm_setInI.look [AL u t, I64 f] = some (.bool (decide (VA u t) && inS u.length f)) :=
  lookF_of (X := List Int × List (List Int) × Int) (args := fun (u, t, f) => [AL u t, I64 f]) (pre := fun (u, t, f) => (Big u.length) ∧ (BigR t)) (val := fun (u, t, f) => .bool (decide (VA u t) && inS u.length f)) (by
  rintro ⟨u, t, f⟩ ⟨u', t', f'⟩ h
  simp at h
  try simp only [and_assoc] at h
  obtain ⟨rfl, rfl, rfl⟩ := h
  rfl) (u, t, f) ⟨hu, ht⟩
attribute [irreducible] fm_setInI
set_option maxHeartbeats 1000000 in
theorem isFilI_pc (u : List Int) (t : List (List Int)) (f : Int) (a : VA u t) (hf : inS u.length f = true) : PC Try.prog 110 [AL u t, I64 f] none true (fun r _ => r = .bool (decide (FI u t f.toNat))) := by
  obtain ⟨f, rfl, hf2⟩ := inS_ex hf
  simp only [Int.toNat_natCast]
  have v := a.lat
  have hp := v.pos
  have h6 := v.six
  have hul : u.length ≤ 1099511627776 := by omega
  have h64 := p2le h6
  have w1 : IntKind.i64.wrap ((u.length : Int) - 1) = ((u.length - 1 : Nat) : Int) := by rw [wrap64 (by omega) (by omega)]; omega
  refine pcT [fm_hasI] fok_110 ?_
  simp [fa_110, w1, show ((u.length - 1 : Nat) : Int) ≤ 63 by omega]
  refine ⟨fun h F => ?_, fun ht => ?_⟩
  · rw [F.top] at h; cases h
  refine loopA (tabK_mono _) u.length (fun i => [(18, I64 i)]) (fun _ => []) (fun x => f.testBit x = true → (∀ y, y < u.length → tb u x y = true → f.testBit y = true) ∧ ∀ y, y < u.length → f.testBit y = true → f.testBit (tn t x y) = true) (by simp) (by simp) (fun x g hx hP => ?_)
  simp [lb_110_4, wrap_succ hx hul]
  refine ⟨fun h2 => ?_, fun h2 => ?_⟩
  · have hr := v.sm.lt h2
    have hz := bAndNot_zero (a := gi u x) (b := (f : Int)) hr.1 (by omega) (by omega) (by omega)
    have hz2 : bAndNot .i64 (gi u x) f = 0 ↔ ∀ y, y < u.length → tb u x y = true → f.testBit y = true := by
      rw [hz]
      simp only [Int.toNat_natCast]
      exact ⟨fun h y _ hy => h y hy, fun h y hy => h y (v.sm.bit h2 hy) hy⟩
    simp [h2, show (x : Int) ≤ 63 by omega, wrap_succ hx hul, hz2]
    refine ⟨fun b1 b2 => (by rw [b1] at b2; cases b2), fun b1 => ?_⟩
    refine ⟨fun y hy c1 c2 F => ?_, fun hup => ?_⟩
    · rw [F.up x h2 y hy b1 c1] at c2; cases c2
    refine loopA (tabK_mono _) u.length (fun i => [(34, I64 i)]) (fun _ => []) (fun y => f.testBit y = true → f.testBit (tn t x y) = true) (by simp) (by simp) (fun y g2 hy hQ => ?_)
    simp [lb_110_10, wrap_succ hy hul]
    refine ⟨fun h3 => ?_, fun h3 => ?_⟩
    · have s1 := a.tn_int h2 h3
      have s2 := a.tn_lt h2 h3
      have hlen := a.len
      have hrow := a.rows x h2
      refine cutW (tabK_mono _) [(52, .bool (f.testBit y && !f.testBit (tn t x y)))] (by
        generalize tn t x y = w at *
        cases b2 : f.testBit y <;> simp [b2, h2, h3, s1, hlen, hrow, show (y : Int) ≤ 63 by omega, show (w : Int) ≤ 63 by omega]) ?_
      simp [wrap_succ hy hul]
      refine ⟨fun c1 c2 F => ?_, fun b => ⟨h3, b⟩⟩
      rw [F.mul x h2 y h3 b1 c1] at c2; cases c2
    · simp [wrap_succ hx hul]
      exact ⟨h2, fun _ => ⟨hup, fun y hy => hQ y (by omega)⟩⟩
  · exact ⟨hf2, ht, fun x hx y hy b1 b2 => (hP x (by omega) b1).1 y hy b2, fun x hx y hy b1 b2 => (hP x (by omega) b1).2 y hy b2⟩
noncomputable def fm_isFilI : Fam Try.prog := mkFam (X := List Int × List (List Int) × Int) 110 true (fun (u, t, f) => [AL u t, I64 f]) (fun (u, t, f) => (VA u t) ∧ (inS u.length f = true)) (fun (u, t, f) => .bool (decide (FI u t f.toNat))) (by
  rintro ⟨u, t, f⟩ ⟨a, hf⟩
  exact isFilI_pc u t f a hf)
@[simp] theorem fm_isFilI_id : fm_isFilI.id = 110 := rfl
@[simp] theorem fm_isFilI_fresh : fm_isFilI.fresh = true := rfl
@[simp] theorem fm_isFilI_look (u : List Int) (t : List (List Int)) (f : Int) (a : VA u t) (hf : inS u.length f = true) : fm_isFilI.look [AL u t, I64 f] = some (.bool (decide (FI u t f.toNat))) :=
  lookF_of (X := List Int × List (List Int) × Int) (args := fun (u, t, f) => [AL u t, I64 f]) (pre := fun (u, t, f) => (VA u t) ∧ (inS u.length f = true)) (val := fun (u, t, f) => .bool (decide (FI u t f.toNat))) (by
  rintro ⟨u, t, f⟩ ⟨u', t', f'⟩ h
  simp at h
  try simp only [and_assoc] at h
  obtain ⟨rfl, rfl, rfl⟩ := h
  rfl) (u, t, f) ⟨a, hf⟩
attribute [irreducible] fm_isFilI
theorem IsFilI_pc (u : List Int) (t : List (List Int)) (f : Int) (hu : Big u.length) (ht : BigR t) : PC Try.prog 27 [AL u t, I64 f] none true (fun r _ => r = .bool (ifM u t f)) := by
  refine pcT [fm_setInI, fm_isFilI] fok_27 ?_
  unfold ifM
  cases hb : (decide (VA u t) && inS u.length f)
  · simp [gops, fa_27, hu, ht, hb]
  · have h := hb
    simp only [Bool.and_eq_true, decide_eq_true_eq] at h
    simp [gops, fa_27, hu, ht, hb, h.1, h.2]
noncomputable def fm_IsFilI : Fam Try.prog := mkFam (X := List Int × List (List Int) × Int) 27 true (fun (u, t, f) => [AL u t, I64 f]) (fun (u, t, f) => (Big u.length) ∧ (BigR t)) (fun (u, t, f) => .bool (ifM u t f)) (by
  rintro ⟨u, t, f⟩ ⟨hu, ht⟩
  exact IsFilI_pc u t f hu ht)
@[simp] theorem fm_IsFilI_id : fm_IsFilI.id = 27 := rfl
@[simp] theorem fm_IsFilI_fresh : fm_IsFilI.fresh = true := rfl
@[simp] theorem fm_IsFilI_look (u : List Int) (t : List (List Int)) (f : Int) (hu : Big u.length) (ht : BigR t) : fm_IsFilI.look [AL u t, I64 f] = some (.bool (ifM u t f)) :=
  lookF_of (X := List Int × List (List Int) × Int) (args := fun (u, t, f) => [AL u t, I64 f]) (pre := fun (u, t, f) => (Big u.length) ∧ (BigR t)) (val := fun (u, t, f) => .bool (ifM u t f)) (by
  rintro ⟨u, t, f⟩ ⟨u', t', f'⟩ h
  simp at h
  try simp only [and_assoc] at h
  obtain ⟨rfl, rfl, rfl⟩ := h
  rfl) (u, t, f) ⟨hu, ht⟩
attribute [irreducible] fm_IsFilI
theorem filI_pc (u : List Int) (t : List (List Int)) (a : VA u t) : PC Try.prog 113 [AL u t] none true (fun r _ => r = IO1 (natL (filN u t (2 ^ u.length)))) := by
  have v := a.lat
  have h6 := v.six
  have h64 := p2le h6
  have hw := shl2w h6
  have hp2 : (2 : Int) ^ u.length = ((2 ^ u.length : Nat) : Int) := p2i
  refine pcT [fm_isFilI] fok_113 ?_
  simp [fa_113]
  refine loopX (tabK_mono _) (2 ^ u.length) (fun i γ => [(3, .arr 40 γ), (4, I64 i)]) (fun i γ => [⟨40, γ, .arr 1 (ints (natL (filN u t i)))⟩]) (fun _ _ => True) 1 (by simp) (by simp [filN_zero, ints_nil]) trivial (fun i γ g hi _ => ?_)
  have hcond : ((i : Int) < 2 ^ u.length) ↔ i < 2 ^ u.length := by rw [hp2]; omega
  simp [lb_113_3, hw, hcond, wrap_succ hi (show 2 ^ u.length ≤ 1099511627776 by omega)]
  refine ⟨fun h => ?_, fun h => ?_⟩
  · have hle := filN_len (u := u) (t := t) (m := i)
    have hs := filN_succ (u := u) (t := t) (m := i)
    have hin := inS_nat h
    generalize filN u t i = l0 at *
    simp [a, hin, wrap_succ hi (show 2 ^ u.length ≤ 1099511627776 by omega)]
    refine ⟨fun F => ?_, fun F => ?_⟩
    · rw [if_pos F] at hs
      simp [hs]
      exact ⟨leBig (by omega), h⟩
    · rw [if_neg F] at hs
      simp [hs]
      exact h
  · obtain rfl : i = 2 ^ u.length := by omega
    rfl
noncomputable def fm_filI : Fam Try.prog := mkFam (X := List Int × List (List Int)) 113 true (fun (u, t) => [AL u t]) (fun (u, t) => (VA u t)) (fun (u, t) => IO1 (natL (filN u t (2 ^ u.length)))) (by
  rintro ⟨u, t⟩ a
  exact filI_pc u t a)
@[simp] theorem fm_filI_id : fm_filI.id = 113 := rfl
@[simp] theorem fm_filI_fresh : fm_filI.fresh = true := rfl
@[simp] theorem fm_filI_look (u : List Int) (t : List (List Int)) (a : VA u t) : fm_filI.look [AL u t] = some (IO1 (natL (filN u t (2 ^ u.length)))) :=
  lookF_of (X := List Int × List (List Int)) (args := fun (u, t) => [AL u t]) (pre := fun (u, t) => (VA u t)) (val := fun (u, t) => IO1 (natL (filN u t (2 ^ u.length)))) (by
  rintro ⟨u, t⟩ ⟨u', t'⟩ h
  simp at h
  try simp only [and_assoc] at h
  obtain ⟨rfl, rfl⟩ := h
  rfl) (u, t) a
attribute [irreducible] fm_filI
theorem FilI_pc (u : List Int) (t : List (List Int)) (hu : Big u.length) (ht : BigR t) : PC Try.prog 35 [AL u t] none false (fun r _ => r = IL (filR u t)) := by
  refine pcT [fm_validAlgebraI, fm_filI] fok_35 ?_
  unfold filR
  by_cases a : VA u t
  · simp [fa_35, hu, ht, a]
  · simp [fa_35, hu, ht, a, ints_nil]
noncomputable def fm_FilI : Fam Try.prog := mkFam (X := List Int × List (List Int)) 35 false (fun (u, t) => [AL u t]) (fun (u, t) => (Big u.length) ∧ (BigR t)) (fun (u, t) => IL (filR u t)) (by
  rintro ⟨u, t⟩ ⟨hu, ht⟩
  exact FilI_pc u t hu ht)
@[simp] theorem fm_FilI_id : fm_FilI.id = 35 := rfl
@[simp] theorem fm_FilI_fresh : fm_FilI.fresh = false := rfl
@[simp] theorem fm_FilI_look (u : List Int) (t : List (List Int)) (hu : Big u.length) (ht : BigR t) : fm_FilI.look [AL u t] = some (IL (filR u t)) :=
  lookF_of (X := List Int × List (List Int)) (args := fun (u, t) => [AL u t]) (pre := fun (u, t) => (Big u.length) ∧ (BigR t)) (val := fun (u, t) => IL (filR u t)) (by
  rintro ⟨u, t⟩ ⟨u', t'⟩ h
  simp at h
  try simp only [and_assoc] at h
  obtain ⟨rfl, rfl⟩ := h
  rfl) (u, t) ⟨hu, ht⟩
attribute [irreducible] fm_FilI
theorem andNot_nat {a b : Nat} (ha : a < 64) (hb : b < 64) : bAndNot .i64 (a : Int) (b : Int) = 0 ↔ a &&& b = a := by
  rw [bAndNot_zero (by omega) (by omega) (by omega) (by omega), sub_iff]
  simp
theorem FiByI_pc (u : List Int) (t : List (List Int)) (s : Int) (hu : Big u.length) (ht : BigR t) : PC Try.prog 29 [AL u t, I64 s] none true (fun r _ => r = I64 (fbM u t s)) := by
  refine pcT [fm_setInI, fm_filI] fok_29 ?_
  unfold fbM
  cases hb : (decide (VA u t) && inS u.length s)
  · simp [fa_29, hu, ht, hb]
  · have h := hb
    simp only [Bool.and_eq_true, decide_eq_true_eq] at h
    obtain ⟨a, hs⟩ := h
    obtain ⟨s, rfl, hs2⟩ := inS_ex hs
    have v := a.lat
    have h6 := v.six
    have h64 := p2le h6
    have hw := shl2w h6
    have hle := filN_len (u := u) (t := t) (m := 2 ^ u.length)
    have hlt := fun i (h : i < (filN u t (2 ^ u.length)).length) => fil_lt h
    simp [fa_29, hu, ht, hb, a, hs, hw]
    unfold genN
    generalize filN u t (2 ^ u.length) = l at *
    have e0 : (2 : Int) ^ u.length - 1 = ((genL u.length s (l.take 0) : Nat) : Int) := by
      simp only [List.take_zero, genL, List.foldl_nil]
      rw [p2i]; omega
    refine loopA (tabK_mono _) l.length (fun i => [(5, I64 (genL u.length s (l.take i) : Nat)), (20, I64 i)]) (fun _ => []) (fun _ => True) (by simp; exact e0) (by simp) (fun i g hi _ => ?_)
    simp [lb_29_5, wrap_succ hi (show l.length ≤ 1099511627776 by omega)]
    refine ⟨fun h => ?_, fun h => ?_⟩
    · have h1 := hlt i h
      have h2 := genL_lt (n := u.length) (s := s) (l := l.take i)
      have e1 := gi_natL h
      have e2 : genL u.length s (l.take (i + 1)) = if s &&& l[i] = s then genL u.length s (l.take i) &&& l[i] else genL u.length s (l.take i) := by
        rw [List.take_succ_eq_append_getElem h, genL_snoc]
      generalize genL u.length s (l.take i) = o at *
      generalize l[i] = f at *
      have e3 := andNot_nat (a := s) (b := f) (by omega) (by omega)
      simp [h, e1, e3, and_nat (a := o) (b := f) (by omega) (by omega)]
      refine ⟨fun c => ?_, fun c => ?_⟩
      · rw [if_pos c] at e2
        simp [e2, wrap_succ hi (show l.length ≤ 1099511627776 by omega), h]
      · rw [if_neg c] at e2
        simp [e2, wrap_succ hi (show l.length ≤ 1099511627776 by omega), h]
    · obtain rfl : i = l.length := by omega
      rw [List.take_length]
noncomputable def fm_FiByI : Fam Try.prog := mkFam (X := List Int × List (List Int) × Int) 29 true (fun (u, t, s) => [AL u t, I64 s]) (fun (u, t, s) => (Big u.length) ∧ (BigR t)) (fun (u, t, s) => I64 (fbM u t s)) (by
  rintro ⟨u, t, s⟩ ⟨hu, ht⟩
  exact FiByI_pc u t s hu ht)
@[simp] theorem fm_FiByI_id : fm_FiByI.id = 29 := rfl
@[simp] theorem fm_FiByI_fresh : fm_FiByI.fresh = true := rfl
@[simp] theorem fm_FiByI_look (u : List Int) (t : List (List Int)) (s : Int) (hu : Big u.length) (ht : BigR t) : fm_FiByI.look [AL u t, I64 s] = some (I64 (fbM u t s)) :=
  lookF_of (X := List Int × List (List Int) × Int) (args := fun (u, t, s) => [AL u t, I64 s]) (pre := fun (u, t, s) => (Big u.length) ∧ (BigR t)) (val := fun (u, t, s) => I64 (fbM u t s)) (by
  rintro ⟨u, t, s⟩ ⟨u', t', s'⟩ h
  simp at h
  try simp only [and_assoc] at h
  obtain ⟨rfl, rfl, rfl⟩ := h
  rfl) (u, t, s) ⟨hu, ht⟩
attribute [irreducible] fm_FiByI

-- lists of the laws
def ascB (l : List Int) : Bool := (List.range (l.length - 1)).all fun i => decide (gi l i < gi l (i + 1))
theorem ascB_pw {l : List Nat} (h : l.Pairwise (· < ·)) : ascB (natL l) = true := by
  unfold ascB
  rw [List.all_eq_true]
  intro i hi
  rw [List.mem_range, List.length_map] at hi
  have h1 := List.pairwise_iff_getElem.1 h i (i + 1) (by omega) (by omega) (by omega)
  rw [decide_eq_true_eq, gi_natL (by omega), gi_natL (by omega)]
  omega
theorem ascL_pc (l : List Int) (hl : Big l.length) : PC Try.prog 38 [IL l] none true (fun r _ => r = .bool (ascB l)) := by
  have hl := hl.le
  refine pcT [] fok_38 ?_
  simp [fa_38]
  refine loopA (tabK_mono _) (l.length - 1) (fun i => [(3, I64 ((i : Int) + 1))]) (fun _ => []) (fun i => gi l i < gi l (i + 1)) (by simp) (by simp) (fun i g hi hP => ?_)
  simp [lb_38_2]
  refine ⟨fun h => ?_, fun h => ?_⟩
  · have h2 : i + 1 < l.length := by omega
    have e1 : ((i : Int) + 1).toNat = i + 1 := by omega
    have e2 : IntKind.i64.wrap (i : Int) = i := wrap64 (by omega) (by omega)
    have e3 : IntKind.i64.wrap ((i : Int) + 1 + 1) = (i : Int) + 1 + 1 := wrap64 (by omega) (by omega)
    simp [h2, e1, e2, e3, show (0 : Int) ≤ (i : Int) + 1 by omega, show (i : Int) + 1 < l.length by omega, show i < l.length by omega]
    refine ⟨fun c => ?_, fun c => ⟨by omega, c⟩⟩
    unfold ascB
    rw [List.all_eq_false]
    exact ⟨i, by rw [List.mem_range]; omega, by simp; omega⟩
  · unfold ascB
    rw [List.all_eq_true]
    intro j hj
    rw [List.mem_range] at hj
    exact decide_eq_true (hP j (by omega))
noncomputable def fm_ascL : Fam Try.prog := mkFam (X := List Int) 38 true (fun l => [IL l]) (fun l => (Big l.length)) (fun l => .bool (ascB l)) (by
  rintro l hl
  exact ascL_pc l hl)
@[simp] theorem fm_ascL_id : fm_ascL.id = 38 := rfl
@[simp] theorem fm_ascL_fresh : fm_ascL.fresh = true := rfl
@[simp] theorem fm_ascL_look (l : List Int) (hl : Big l.length) : fm_ascL.look [IL l] = some (.bool (ascB l)) :=
  lookF_of (X := List Int) (args := fun l => [IL l]) (pre := fun l => (Big l.length)) (val := fun l => .bool (ascB l)) (by
  intro l l' h
  simp at h
  subst h
  rfl) l hl
attribute [irreducible] fm_ascL
def hvN (s i : Nat) : Nat := s / 2 ^ i
theorem wtL_pc (x : Int) (h0 : 0 ≤ x) (h1 : x < 64) : PC Try.prog 51 [I64 x] none true (fun r _ => r = I64 (wtN 6 x.toNat : Nat)) := by
  obtain ⟨s, rfl⟩ := Int.eq_ofNat_of_zero_le h0
  have hs : s < 64 := by omega
  simp only [Int.toNat_natCast]
  refine pcT [] fok_51 ?_
  simp [fa_51]
  refine loopA (tabK_mono _) 6 (fun i => [(0, I64 ((hvN s i : Nat) : Int)), (3, I64 (wtN i s : Nat))]) (fun _ => []) (fun _ => True) (by simp [wtN_zero, hvN]) (by simp) (fun i g hi _ => ?_)
  have hle : wtN i s ≤ i := by
    unfold wtN
    have := List.countP_le_length (p := fun x => s.testBit x) (l := List.range i)
    simpa using this
  have hdl : hvN s i ≤ s := Nat.div_le_self _ _
  have hss := wtN_succ (n := i) (s := s)
  have hd : hvN s (i + 1) = hvN s i / 2 := by unfold hvN; rw [Nat.pow_succ, Nat.div_div_eq_div_mul]
  have hb : s.testBit i = decide (hvN s i % 2 = 1) := Nat.testBit_eq_decide_div_mod_eq
  have hend : hvN s i = 0 → wtN 6 s = wtN i s := fun h => by
    have : ∀ m, wtN (i + m) s = wtN i s := fun m => by
      induction m with
      | zero => rfl
      | succ m ih =>
        rw [← Nat.add_assoc, wtN_succ, ih]
        have hz : s.testBit (i + m) = false := by
          have h1 : s < 2 ^ i := by
            unfold hvN at h
            exact Nat.lt_of_div_eq_zero (Nat.pow_pos (by omega)) h
          exact Nat.testBit_lt_two_pow (Nat.lt_of_lt_of_le h1 (Nat.pow_le_pow_right (by omega) (by omega)))
        simp [hz]
    have := this (6 - i)
    rw [show i + (6 - i) = 6 by omega] at this
    exact this
  have h6 : i = 6 → hvN s i = 0 := fun e => by subst e; unfold hvN; exact Nat.div_eq_of_lt hs
  rw [hb] at hss
  have e1 : ((hvN s i : Nat) : Int).tdiv 2 = ((hvN s i / 2 : Nat) : Int) := (Int.ofNat_tdiv _ _).symm
  have e2 : ((hvN s i : Nat) : Int).tmod 2 = ((hvN s i % 2 : Nat) : Int) := (Int.ofNat_tmod _ _).symm
  simp [lb_51_2, e1, e2]
  refine ⟨fun h => ⟨by omega, ?_, ?_⟩, fun h => by rw [hend h]⟩
  · rw [wrap64 (by omega) (by omega), hd]; rfl
  · simp only [decide_eq_true_eq] at hss
    rw [hss, wrap64 (by omega) (by omega)]
    split <;> omega
noncomputable def fm_wtL : Fam Try.prog := mkFam (X := Int) 51 true (fun x => [I64 x]) (fun x => (0 ≤ x) ∧ (x < 64)) (fun x => I64 (wtN 6 x.toNat : Nat)) (by
  rintro x ⟨h0, h1⟩
  exact wtL_pc x h0 h1)
@[simp] theorem fm_wtL_id : fm_wtL.id = 51 := rfl
@[simp] theorem fm_wtL_fresh : fm_wtL.fresh = true := rfl
@[simp] theorem fm_wtL_look (x : Int) (h0 : 0 ≤ x) (h1 : x < 64) : fm_wtL.look [I64 x] = some (I64 (wtN 6 x.toNat : Nat)) :=
  lookF_of (X := Int) (args := fun x => [I64 x]) (pre := fun x => (0 ≤ x) ∧ (x < 64)) (val := fun x => I64 (wtN 6 x.toNat : Nat)) (by
  intro x x' h
  simp at h
  subst h
  rfl) x ⟨h0, h1⟩
attribute [irreducible] fm_wtL
end Go.PS
end
