/- Part 1 of what the last text proves: Classes of a filter: the law holds at every input. -/
import Derived.Test.YthbdihoacfhflaaQo6
section
-- PRINTED by gen.py: clean texts of functions, and their tie to the program.
set_option maxRecDepth 100000
namespace Go.PS
open Go.Proofs
/-- spec.isFilter -/
def an_112 : Ann := ⟨[(2, 2, 3), (2, 4, 3), (2, 10, 3), (10, 2, 3), (10, 9, 3), (10, 13, 3), (10, 19, 3), (10, 31, 3)], [(0, [1, 2]), (1, [1, 2, 5]), (2, [1, 2, 5, 23]), (3, [4]), (4, [1, 2, 5, 6]), (5, [1, 2, 5, 6, 26]), (7, [1, 2, 5, 6, 7]), (8, [1, 2, 5, 6, 7, 31]), (10, [1, 2, 5, 6, 7, 69]), (11, [4]), (9, [1, 2, 5, 6, 7]), (6, [1, 2, 5, 6]), (12, [4])], [(5, [1, 2, 5, 6], []), (8, [1, 2, 5, 6, 7], [])], []⟩
def lb_112_8 : AC :=
  (.seq
    (.seq
      (.region false [⟨some 29, (.mv (.t 7)), 3, none, 0⟩, ⟨some 30, (.mv (.t 5)), 3, none, 0⟩, ⟨some 31, (.bin .lss 3 (.t 29) (.t 30)), 4, none, 0⟩] (some [1, 2, 5, 6, 7, 31]))
      (.cond (.t 31)
        .skip
        (.exit 2)))
    (.seq
      (.block 3
        (.seq
          (.region false (gops (seg [1, 2, 5, 6, 7, 38, 43] [⟨some 34, (.mv (.t 1)), 3, none, 0⟩, ⟨some 35, (.mv (.t 6)), 3, none, 0⟩, ⟨some 36, (.call (.f 171) [(.t 34), (.t 35)]), 3, none, 3⟩, ⟨some 37, (.bin .eql 3 (.t 36) (.c (.int .i64 1))), 4, none, 0⟩, ⟨some 38, (.mv (.t 37)), 4, none, 0⟩, ⟨some 39, (.faddr 27 (.t 2) 0), 0, some (38, true), 0⟩, ⟨some 40, (.load 23 (.t 39)), 23, some (38, true), 0⟩, ⟨some 41, (.mv (.t 6)), 3, some (38, true), 0⟩, ⟨some 42, (.mv (.t 7)), 3, some (38, true), 0⟩, ⟨some 43, (.call (.f 156) [(.t 40), (.t 41), (.t 42)]), 4, some (38, true), 3⟩]
          (seg [1, 2, 5, 6, 7, 38, 50, 53] [⟨some 44, (.mv (.t 43)), 4, some (38, true), 0⟩, ⟨some 45, (.mv (.t 1)), 3, some (44, true), 0⟩, ⟨some 46, (.mv (.t 7)), 3, some (44, true), 0⟩, ⟨some 47, (.call (.f 171) [(.t 45), (.t 46)]), 3, some (44, true), 3⟩, ⟨some 48, (.bin .eql 3 (.t 47) (.c (.int .i64 0))), 4, some (44, true), 0⟩, ⟨some 49, (.pick (.t 44) (.t 48) (.c (.bool false))), 4, some (38, true), 0⟩, ⟨some 50, (.mv (.t 49)), 4, some (38, true), 0⟩, ⟨some 51, (.mv (.t 1)), 3, some (50, false), 0⟩, ⟨some 52, (.mv (.t 7)), 3, some (50, false), 0⟩, ⟨some 53, (.call (.f 171) [(.t 51), (.t 52)]), 3, some (50, false), 3⟩]
          (seg [1, 2, 5, 6, 7, 38, 50, 55, 56, 63] [⟨some 54, (.bin .eql 3 (.t 53) (.c (.int .i64 1))), 4, some (50, false), 0⟩, ⟨some 55, (.mv (.t 54)), 4, some (50, false), 0⟩, ⟨some 56, (.mv (.t 1)), 3, some (55, true), 0⟩, ⟨some 57, (.faddr 27 (.t 2) 1), 0, some (55, true), 0⟩, ⟨some 58, (.load 25 (.t 57)), 25, some (55, true), 0⟩, ⟨some 59, (.mv (.t 6)), 3, some (55, true), 0⟩, ⟨some 60, (.iaddr 25 (.t 58) (.t 59)), 0, some (55, true), 0⟩, ⟨some 61, (.load 23 (.t 60)), 23, some (55, true), 0⟩, ⟨some 62, (.mv (.t 7)), 3, some (55, true), 0⟩, ⟨some 63, (.iaddr 23 (.t 61) (.t 62)), 0, some (55, true), 0⟩]
          [⟨some 64, (.load 3 (.t 63)), 3, some (55, true), 0⟩, ⟨some 65, (.call (.f 171) [(.t 56), (.t 64)]), 3, some (55, true), 3⟩, ⟨some 66, (.bin .eql 3 (.t 65) (.c (.int .i64 0))), 4, some (55, true), 0⟩, ⟨some 67, (.pick (.t 55) (.t 66) (.c (.bool false))), 4, some (50, false), 0⟩, ⟨some 68, (.pick (.t 50) (.c (.bool true)) (.t 67)), 4, some (38, true), 0⟩, ⟨some 69, (.pick (.t 38) (.t 68) (.c (.bool false))), 4, none, 0⟩] [1, 2, 5, 6, 7, 69] (by decide)) [1, 2, 5, 6, 7, 69] (by decide)) [1, 2, 5, 6, 7, 69] (by decide))) (some [1, 2, 5, 6, 7, 69]))
          (.cond (.t 69)
            (.seq
              (.region false [⟨some 4, (.mv (.c (.bool false))), 4, none, 0⟩] (some [4]))
              .ret)
            .skip)))
      (.region false [⟨some 32, (.mv (.t 7)), 3, none, 0⟩, ⟨some 33, (.bin .add 3 (.t 32) (.c (.int .i64 1))), 3, none, 0⟩, ⟨some 7, (.mv (.t 33)), 3, none, 0⟩] (some [1, 2, 5, 6, 7]))))
def lb_112_5 : AC :=
  (.seq
    (.seq
      (.region false [⟨some 24, (.mv (.t 6)), 3, none, 0⟩, ⟨some 25, (.mv (.t 5)), 3, none, 0⟩, ⟨some 26, (.bin .lss 3 (.t 24) (.t 25)), 4, none, 0⟩] (some [1, 2, 5, 6, 26]))
      (.cond (.t 26)
        .skip
        (.exit 0)))
    (.seq
      (.block 1
        (.seq
          (.region false [⟨some 7, (.mv (.c (.int .i64 0))), 3, none, 0⟩] (some [1, 2, 5, 6, 7]))
          (.block 2
            (.loop [1, 2, 5, 6, 7] [] lb_112_8))))
      (.region false [⟨some 27, (.mv (.t 6)), 3, none, 0⟩, ⟨some 28, (.bin .add 3 (.t 27) (.c (.int .i64 1))), 3, none, 0⟩, ⟨some 6, (.mv (.t 28)), 3, none, 0⟩] (some [1, 2, 5, 6]))))
def fa_112 : FnA := ⟨70, [.t 4],
  (.seq
    (.region false [⟨some 2, (.box 27 (.t 0)), 0, none, 0⟩, ⟨some 4, (.mv (.c (.bool false))), 4, none, 0⟩] (some [1, 2]))
    (.seq
      (.region false [⟨some 8, (.faddr 27 (.t 2) 0), 0, none, 0⟩, ⟨some 9, (.load 23 (.t 8)), 23, none, 0⟩, ⟨some 10, (.len 23 (.t 9)), 3, none, 0⟩, ⟨some 5, (.mv (.t 10)), 3, none, 0⟩] (some [1, 2, 5]))
      (.seq
        (.seq
          (.region false (gops [⟨some 11, (.mv (.t 1)), 3, none, 0⟩, ⟨some 12, (.mv (.t 5)), 3, none, 0⟩, ⟨some 13, (.call (.f 121) [(.t 12)]), 3, none, 3⟩, ⟨some 14, (.bin .sub 3 (.t 13) (.c (.int .i64 1))), 3, none, 0⟩, ⟨some 15, (.call (.f 128) [(.t 11), (.c (.int .i64 0)), (.t 14)]), 4, none, 3⟩, ⟨some 16, (.un .not (.t 15)), 4, none, 0⟩, ⟨some 17, (.mv (.t 16)), 4, none, 0⟩, ⟨some 18, (.mv (.t 1)), 3, some (17, false), 0⟩, ⟨some 19, (.mv (.t 5)), 3, some (17, false), 0⟩, ⟨some 20, (.bin .sub 3 (.t 19) (.c (.int .i64 1))), 3, some (17, false), 0⟩, ⟨some 21, (.call (.f 171) [(.t 18), (.t 20)]), 3, some (17, false), 3⟩, ⟨some 22, (.bin .eql 3 (.t 21) (.c (.int .i64 0))), 4, some (17, false), 0⟩, ⟨some 23, (.pick (.t 17) (.c (.bool true)) (.t 22)), 4, none, 0⟩]) (some [1, 2, 5, 23]))
          (.cond (.t 23)
            (.seq
              (.region false [⟨some 4, (.mv (.c (.bool false))), 4, none, 0⟩] (some [4]))
              .ret)
            .skip))
        (.seq
          (.seq
            (.region false [⟨some 6, (.mv (.c (.int .i64 0))), 3, none, 0⟩] (some [1, 2, 5, 6]))
            (.block 0
              (.loop [1, 2, 5, 6] [] lb_112_5)))
          (.seq
            (.region false [⟨some 4, (.mv (.c (.bool true))), 4, none, 0⟩] (some [4]))
            .ret)))))⟩
theorem fok_112 : FnOk Try.prog 112 fa_112 an_112 := ⟨Try.f112, _, Try.func112, rfl, by kernel_rfl, rfl, rfl, by decide, by kernel_rfl⟩
/-- spec.filters -/
def an_119 : Ann := ⟨[(1, 0, 1), (3, 4, 3), (5, 2, 3)], [(0, [1]), (1, [1, 3]), (2, [1, 3, 4]), (3, [1, 3, 4, 11]), (5, [1, 3, 4, 16]), (6, [1, 3, 4]), (4, [1, 3, 4]), (7, [2])], [(3, [1, 3, 4], [40, 160])], []⟩
def lb_119_3 : AC :=
  (.seq
    (.seq
      (.region false [⟨some 6, (.mv (.t 4)), 3, none, 0⟩, ⟨some 7, (.faddr 27 (.t 1) 0), 0, none, 0⟩, ⟨some 8, (.load 23 (.t 7)), 23, none, 0⟩, ⟨some 9, (.len 23 (.t 8)), 3, none, 0⟩, ⟨some 10, (.call (.f 121) [(.t 9)]), 3, none, 3⟩, ⟨some 11, (.bin .lss 3 (.t 6) (.t 10)), 4, none, 0⟩] (some [1, 3, 4, 11]))
      (.cond (.t 11)
        .skip
        (.exit 0)))
    (.seq
      (.block 1
        (.seq
          (.region false [⟨some 14, (.load 27 (.t 1)), 27, none, 0⟩, ⟨some 15, (.mv (.t 4)), 3, none, 0⟩, ⟨some 16, (.call (.f 112) [(.t 14), (.t 15)]), 4, none, 3⟩] (some [1, 3, 4, 16]))
          (.cond (.t 16)
            (.region false [⟨some 17, (.mv (.t 3)), 23, none, 0⟩, ⟨some 18, (.mv (.t 4)), 3, none, 0⟩, ⟨some 19, (.bslice 23 1 [(0, (.t 18))]), 23, none, 0⟩, ⟨some 20, (.app 23 23 (.t 17) (.t 19)), 23, none, 0⟩, ⟨some 3, (.mv (.t 20)), 23, none, 0⟩] (some [1, 3, 4]))
            .skip)))
      (.region false [⟨some 12, (.mv (.t 4)), 3, none, 0⟩, ⟨some 13, (.bin .add 3 (.t 12) (.c (.int .i64 1))), 3, none, 0⟩, ⟨some 4, (.mv (.t 13)), 3, none, 0⟩] (some [1, 3, 4]))))
def fa_119 : FnA := ⟨22, [.t 2],
  (.seq
    (.region false [⟨some 1, (.box 27 (.t 0)), 0, none, 0⟩, ⟨some 2, (.mv (.c .nil)), 23, none, 0⟩] (some [1]))
    (.seq
      (.region false [⟨some 5, (.bslice 23 0 []), 23, none, 1⟩, ⟨some 3, (.mv (.t 5)), 23, none, 0⟩] (some [1, 3]))
      (.seq
        (.seq
          (.region false [⟨some 4, (.mv (.c (.int .i64 0))), 3, none, 0⟩] (some [1, 3, 4]))
          (.block 0
            (.loop [1, 3, 4] [40, 160] lb_119_3)))
        (.seq
          (.region false [⟨some 21, (.mv (.t 3)), 23, none, 0⟩, ⟨some 2, (.mv (.t 21)), 23, none, 0⟩] (some [2]))
          .ret))))⟩
theorem fok_119 : FnOk Try.prog 119 fa_119 an_119 := ⟨Try.f119, _, Try.func119, rfl, by kernel_rfl, rfl, rfl, by decide, by kernel_rfl⟩
/-- impl.has -/
def an_170 : Ann := ⟨[], [(0, [0, 1]), (1, [4])], [], []⟩
def fa_170 : FnA := ⟨10, [.t 4],
  (.seq
    (.region false [⟨some 4, (.mv (.c (.bool false))), 4, none, 0⟩] (some [0, 1]))
    (.seq
      (.region false [⟨some 5, (.mv (.t 0)), 3, none, 0⟩, ⟨some 6, (.mv (.t 1)), 3, none, 0⟩, ⟨some 7, (.bin .shr 3 (.t 5) (.t 6)), 3, none, 0⟩, ⟨some 8, (.bin .rem 3 (.t 7) (.c (.int .i64 2))), 3, none, 0⟩, ⟨some 9, (.bin .eql 3 (.t 8) (.c (.int .i64 1))), 4, none, 0⟩, ⟨some 4, (.mv (.t 9)), 4, none, 0⟩] (some [4]))
      .ret))⟩
theorem fok_170 : FnOk Try.prog 170 fa_170 an_170 := ⟨Try.f170, _, Try.func170, rfl, by kernel_rfl, rfl, rfl, by decide, by kernel_rfl⟩
/-- impl.isFilter -/
def an_110 : Ann := ⟨[(1, 5, 3), (6, 2, 3), (12, 2, 3), (12, 13, 3)], [(0, [1, 2]), (1, [1, 2, 14]), (2, [4]), (3, [1, 2, 16, 17, 18]), (4, [1, 2, 16, 17, 18, 19]), (5, [1, 2, 5, 6, 16, 17, 18]), (6, [1, 2, 5, 6, 16, 17, 18, 26]), (7, [1, 2, 5, 16, 17, 18, 30]), (8, [4]), (9, [1, 2, 5, 16, 17, 18, 33, 34]), (10, [1, 2, 5, 16, 17, 18, 33, 34, 35]), (11, [1, 2, 5, 7, 16, 17, 18, 33, 34]), (12, [1, 2, 5, 16, 17, 18, 33, 34, 52]), (13, [4]), (14, [1, 2, 5, 16, 17, 18, 33, 34]), (15, [1, 2, 16, 17, 18]), (16, [4])], [(4, [1, 2, 16, 17, 18], []), (10, [1, 2, 5, 16, 17, 18, 33, 34], [])], []⟩
def lb_110_10 : AC :=
  (.seq
    (.region false [⟨some 35, (.bin .lss 3 (.t 34) (.t 33)), 0, none, 0⟩] (some [1, 2, 5, 16, 17, 18, 33, 34, 35]))
    (.seq
      (.cond (.t 35)
        .skip
        (.exit 2))
      (.seq
        (.block 3
          (.seq
            (.region false [⟨some 36, (.mv (.t 34)), 3, none, 0⟩, ⟨some 7, (.mv (.t 36)), 3, none, 0⟩] (some [1, 2, 5, 7, 16, 17, 18, 33, 34]))
            (.seq
              (.region false (gops [⟨some 37, (.mv (.t 1)), 3, none, 0⟩, ⟨some 38, (.mv (.t 7)), 3, none, 0⟩, ⟨some 39, (.call (.f 170) [(.t 37), (.t 38)]), 4, none, 3⟩, ⟨some 40, (.mv (.t 39)), 4, none, 0⟩, ⟨some 41, (.mv (.t 1)), 3, some (40, true), 0⟩, ⟨some 42, (.faddr 27 (.t 2) 1), 0, some (40, true), 0⟩, ⟨some 43, (.load 25 (.t 42)), 25, some (40, true), 0⟩, ⟨some 44, (.mv (.t 5)), 3, some (40, true), 0⟩, ⟨some 45, (.iaddr 25 (.t 43) (.t 44)), 0, some (40, true), 0⟩, ⟨some 46, (.load 23 (.t 45)), 23, some (40, true), 0⟩, ⟨some 47, (.mv (.t 7)), 3, some (40, true), 0⟩, ⟨some 48, (.iaddr 23 (.t 46) (.t 47)), 0, some (40, true), 0⟩, ⟨some 49, (.load 3 (.t 48)), 3, some (40, true), 0⟩, ⟨some 50, (.call (.f 170) [(.t 41), (.t 49)]), 4, some (40, true), 3⟩, ⟨some 51, (.un .not (.t 50)), 4, some (40, true), 0⟩, ⟨some 52, (.pick (.t 40) (.t 51) (.c (.bool false))), 4, none, 0⟩]) (some [1, 2, 5, 16, 17, 18, 33, 34, 52]))
              (.cond (.t 52)
                (.seq
                  (.region false [⟨some 4, (.mv (.c (.bool false))), 4, none, 0⟩] (some [4]))
                  .ret)
                .skip))))
        (.region false [⟨some 53, (.bin .add 3 (.t 34) (.c (.int .i64 1))), 3, none, 0⟩, ⟨some 34, (.mv (.t 53)), 3, none, 0⟩] (some [1, 2, 5, 16, 17, 18, 33, 34])))))
def lb_110_4 : AC :=
  (.seq
    (.region false [⟨some 19, (.bin .lss 3 (.t 18) (.t 17)), 0, none, 0⟩] (some [1, 2, 16, 17, 18, 19]))
    (.seq
      (.cond (.t 19)
        .skip
        (.exit 0))
      (.seq
        (.block 1
          (.seq
            (.region false [⟨some 20, (.mv (.t 18)), 3, none, 0⟩, ⟨some 21, (.iaddr 23 (.t 16) (.t 18)), 0, none, 0⟩, ⟨some 22, (.load 3 (.t 21)), 3, none, 0⟩, ⟨some 5, (.mv (.t 20)), 3, none, 0⟩, ⟨some 6, (.mv (.t 22)), 3, none, 0⟩] (some [1, 2, 5, 6, 16, 17, 18]))
            (.seq
              (.seq
                (.region false [⟨some 23, (.mv (.t 1)), 3, none, 0⟩, ⟨some 24, (.mv (.t 5)), 3, none, 0⟩, ⟨some 25, (.call (.f 170) [(.t 23), (.t 24)]), 4, none, 3⟩, ⟨some 26, (.un .not (.t 25)), 4, none, 0⟩] (some [1, 2, 5, 6, 16, 17, 18, 26]))
                (.cond (.t 26)
                  (.exit 1)
                  .skip))
              (.seq
                (.seq
                  (.region false [⟨some 27, (.mv (.t 6)), 3, none, 0⟩, ⟨some 28, (.mv (.t 1)), 3, none, 0⟩, ⟨some 29, (.bin .andNot 3 (.t 27) (.t 28)), 3, none, 0⟩, ⟨some 30, (.bin .neq 3 (.t 29) (.c (.int .i64 0))), 4, none, 0⟩] (some [1, 2, 5, 16, 17, 18, 30]))
                  (.cond (.t 30)
                    (.seq
                      (.region false [⟨some 4, (.mv (.c (.bool false))), 4, none, 0⟩] (some [4]))
                      .ret)
                    .skip))
                (.seq
                  (.region false [⟨some 31, (.faddr 27 (.t 2) 0), 0, none, 0⟩, ⟨some 32, (.load 23 (.t 31)), 23, none, 0⟩, ⟨some 33, (.len 23 (.t 32)), 3, none, 0⟩, ⟨some 34, (.mv (.c (.int .i64 0))), 3, none, 0⟩] (some [1, 2, 5, 16, 17, 18, 33, 34]))
                  (.block 2
                    (.loop [1, 2, 5, 16, 17, 18, 33, 34] [] lb_110_10)))))))
        (.region false [⟨some 54, (.bin .add 3 (.t 18) (.c (.int .i64 1))), 3, none, 0⟩, ⟨some 18, (.mv (.t 54)), 3, none, 0⟩] (some [1, 2, 16, 17, 18])))))
def fa_110 : FnA := ⟨55, [.t 4],
  (.seq
    (.region false [⟨some 2, (.box 27 (.t 0)), 0, none, 0⟩, ⟨some 4, (.mv (.c (.bool false))), 4, none, 0⟩] (some [1, 2]))
    (.seq
      (.seq
        (.region false [⟨some 8, (.mv (.t 1)), 3, none, 0⟩, ⟨some 9, (.faddr 27 (.t 2) 0), 0, none, 0⟩, ⟨some 10, (.load 23 (.t 9)), 23, none, 0⟩, ⟨some 11, (.len 23 (.t 10)), 3, none, 0⟩, ⟨some 12, (.bin .sub 3 (.t 11) (.c (.int .i64 1))), 3, none, 0⟩, ⟨some 13, (.call (.f 170) [(.t 8), (.t 12)]), 4, none, 3⟩, ⟨some 14, (.un .not (.t 13)), 4, none, 0⟩] (some [1, 2, 14]))
        (.cond (.t 14)
          (.seq
            (.region false [⟨some 4, (.mv (.c (.bool false))), 4, none, 0⟩] (some [4]))
            .ret)
          .skip))
      (.seq
        (.seq
          (.region false [⟨some 15, (.faddr 27 (.t 2) 0), 0, none, 0⟩, ⟨some 16, (.load 23 (.t 15)), 23, none, 0⟩, ⟨some 17, (.len 23 (.t 16)), 3, none, 0⟩, ⟨some 18, (.mv (.c (.int .i64 0))), 3, none, 0⟩] (some [1, 2, 16, 17, 18]))
          (.block 0
            (.loop [1, 2, 16, 17, 18] [] lb_110_4)))
        (.seq
          (.region false [⟨some 4, (.mv (.c (.bool true))), 4, none, 0⟩] (some [4]))
          .ret))))⟩
theorem fok_110 : FnOk Try.prog 110 fa_110 an_110 := ⟨Try.f110, _, Try.func110, rfl, by kernel_rfl, rfl, rfl, by decide, by kernel_rfl⟩
/-- impl.setIn -/
def an_109 : Ann := ⟨[(1, 1, 3), (1, 9, 3)], [(0, [1, 2]), (1, [4])], [], []⟩
def fa_109 : FnA := ⟨16, [.t 4],
  (.seq
    (.region false [⟨some 2, (.box 27 (.t 0)), 0, none, 0⟩, ⟨some 4, (.mv (.c (.bool false))), 4, none, 0⟩] (some [1, 2]))
    (.seq
      (.region false (gops [⟨some 5, (.load 27 (.t 2)), 27, none, 0⟩, ⟨some 6, (.call (.f 23) [(.t 5)]), 4, none, 3⟩, ⟨some 7, (.mv (.t 6)), 4, none, 0⟩, ⟨some 8, (.mv (.t 1)), 3, some (7, true), 0⟩, ⟨some 9, (.faddr 27 (.t 2) 0), 0, some (7, true), 0⟩, ⟨some 10, (.load 23 (.t 9)), 23, some (7, true), 0⟩, ⟨some 11, (.len 23 (.t 10)), 3, some (7, true), 0⟩, ⟨some 12, (.bin .shl 3 (.c (.int .i64 1)) (.t 11)), 3, some (7, true), 0⟩, ⟨some 13, (.bin .sub 3 (.t 12) (.c (.int .i64 1))), 3, some (7, true), 0⟩, ⟨some 14, (.call (.f 101) [(.t 8), (.c (.int .i64 0)), (.t 13)]), 4, some (7, true), 3⟩, ⟨some 15, (.pick (.t 7) (.t 14) (.c (.bool false))), 4, none, 0⟩, ⟨some 4, (.mv (.t 15)), 4, none, 0⟩]) (some [4]))
      .ret))⟩
theorem fok_109 : FnOk Try.prog 109 fa_109 an_109 := ⟨Try.f109, _, Try.func109, rfl, by kernel_rfl, rfl, rfl, by decide, by kernel_rfl⟩
/-- impl.IsFilter -/
def an_27 : Ann := ⟨[(1, 2, 3), (1, 6, 3)], [(0, [1, 2]), (1, [4])], [], []⟩
def fa_27 : FnA := ⟨13, [.t 4],
  (.seq
    (.region false [⟨some 2, (.box 27 (.t 0)), 0, none, 0⟩, ⟨some 4, (.mv (.c (.bool false))), 4, none, 0⟩] (some [1, 2]))
    (.seq
      (.region false (gops [⟨some 5, (.load 27 (.t 2)), 27, none, 0⟩, ⟨some 6, (.mv (.t 1)), 3, none, 0⟩, ⟨some 7, (.call (.f 109) [(.t 5), (.t 6)]), 4, none, 3⟩, ⟨some 8, (.mv (.t 7)), 4, none, 0⟩, ⟨some 9, (.load 27 (.t 2)), 27, some (8, true), 0⟩, ⟨some 10, (.mv (.t 1)), 3, some (8, true), 0⟩, ⟨some 11, (.call (.f 110) [(.t 9), (.t 10)]), 4, some (8, true), 3⟩, ⟨some 12, (.pick (.t 8) (.t 11) (.c (.bool false))), 4, none, 0⟩, ⟨some 4, (.mv (.t 12)), 4, none, 0⟩]) (some [4]))
      .ret))⟩
theorem fok_27 : FnOk Try.prog 27 fa_27 an_27 := ⟨Try.f27, _, Try.func27, rfl, by kernel_rfl, rfl, rfl, by decide, by kernel_rfl⟩
/-- laws.power -/
def an_39 : Ann := ⟨[], [(0, [0]), (1, [0, 3]), (2, [0, 3, 5]), (4, [0, 3]), (3, [0, 3]), (5, [2])], [(2, [0, 3], [])], []⟩
def lb_39_2 : AC :=
  (.seq
    (.seq
      (.region false [⟨some 4, (.mv (.t 0)), 3, none, 0⟩, ⟨some 5, (.bin .gtr 3 (.t 4) (.c (.int .i64 0))), 4, none, 0⟩] (some [0, 3, 5]))
      (.cond (.t 5)
        .skip
        (.exit 0)))
    (.seq
      (.block 1
        (.region false [⟨some 8, (.mv (.t 3)), 3, none, 0⟩, ⟨some 9, (.bin .mul 3 (.c (.int .i64 2)) (.t 8)), 3, none, 0⟩, ⟨some 3, (.mv (.t 9)), 3, none, 0⟩] (some [0, 3])))
      (.region false [⟨some 6, (.mv (.t 0)), 3, none, 0⟩, ⟨some 7, (.bin .sub 3 (.t 6) (.c (.int .i64 1))), 3, none, 0⟩, ⟨some 0, (.mv (.t 7)), 3, none, 0⟩] (some [0, 3]))))
def fa_39 : FnA := ⟨11, [.t 2],
  (.seq
    (.region false [⟨some 2, (.mv (.c (.int .i64 0))), 3, none, 0⟩] (some [0]))
    (.seq
      (.region false [⟨some 3, (.mv (.c (.int .i64 1))), 3, none, 0⟩] (some [0, 3]))
      (.seq
        (.block 0
          (.loop [0, 3] [] lb_39_2))
        (.seq
          (.region false [⟨some 10, (.mv (.t 3)), 3, none, 0⟩, ⟨some 2, (.mv (.t 10)), 3, none, 0⟩] (some [2]))
          .ret))))⟩
theorem fok_39 : FnOk Try.prog 39 fa_39 an_39 := ⟨Try.f39, _, Try.func39, rfl, by kernel_rfl, rfl, rfl, by decide, by kernel_rfl⟩
/-- laws.bit -/
def an_47 : Ann := ⟨[(1, 2, 3)], [(0, [0, 1]), (1, [4])], [], []⟩
def fa_47 : FnA := ⟨10, [.t 4],
  (.seq
    (.region false [⟨some 4, (.mv (.c (.int .i64 0))), 3, none, 0⟩] (some [0, 1]))
    (.seq
      (.region false [⟨some 5, (.mv (.t 0)), 3, none, 0⟩, ⟨some 6, (.mv (.t 1)), 3, none, 0⟩, ⟨some 7, (.call (.f 39) [(.t 6)]), 3, none, 3⟩, ⟨some 8, (.bin .quo 3 (.t 5) (.t 7)), 3, none, 0⟩, ⟨some 9, (.bin .rem 3 (.t 8) (.c (.int .i64 2))), 3, none, 0⟩, ⟨some 4, (.mv (.t 9)), 3, none, 0⟩] (some [4]))
      .ret))⟩
theorem fok_47 : FnOk Try.prog 47 fa_47 an_47 := ⟨Try.f47, _, Try.func47, rfl, by kernel_rfl, rfl, rfl, by decide, by kernel_rfl⟩
end Go.PS
end

section
-- Sets of elements by bits; filters, in plain Lean.
set_option linter.unusedVariables false
set_option linter.unusedSimpArgs false
namespace Go.PS

-- sets by bits

theorem full_bit {n x : Nat} : (2 ^ n - 1).testBit x = decide (x < n) := Nat.testBit_two_pow_sub_one n x

section
variable {u : List Int} {t : List (List Int)} {x y z w : Nat}

structure FI (u : List Int) (t : List (List Int)) (f : Nat) : Prop where
  lt : f < 2 ^ u.length
  top : f.testBit (u.length - 1) = true
  up : ∀ x, x < u.length → ∀ y, y < u.length → f.testBit x = true → tb u x y = true → f.testBit y = true
  mul : ∀ x, x < u.length → ∀ y, y < u.length → f.testBit x = true → f.testBit y = true → f.testBit (tn t x y) = true
noncomputable instance (u : List Int) (t : List (List Int)) (f : Nat) : Decidable (FI u t f) := Classical.propDecidable _

noncomputable def filN (u : List Int) (t : List (List Int)) (m : Nat) : List Nat := (List.range m).filter fun f => decide (FI u t f)
theorem mem_fil {f : Nat} : f ∈ filN u t (2 ^ u.length) ↔ FI u t f := by
  simp only [filN, List.mem_filter, List.mem_range, decide_eq_true_eq]
  exact ⟨fun h => h.2, fun h => ⟨h.lt, h⟩⟩
theorem filN_zero : filN u t 0 = [] := rfl
theorem filN_succ {m : Nat} : filN u t (m + 1) = filN u t m ++ (if FI u t m then [m] else []) := by
  simp only [filN, List.range_succ, List.filter_append, List.filter_cons, List.filter_nil, decide_eq_true_eq]
theorem filN_len {m : Nat} : (filN u t m).length ≤ m := by
  have := List.length_filter_le (fun f => decide (FI u t f)) (List.range m)
  unfold filN
  simpa using this

theorem FI.and {f g : Nat} (a : VA u t) (hf : FI u t f) (hg : FI u t g) : FI u t (f &&& g) := by
  refine ⟨Nat.lt_of_le_of_lt Nat.and_le_left hf.lt, ?_, fun x hx y hy h1 h2 => ?_, fun x hx y hy h1 h2 => ?_⟩
  · rw [Nat.testBit_and, hf.top, hg.top]; rfl
  · rw [Nat.testBit_and, Bool.and_eq_true] at h1 ⊢
    exact ⟨hf.up x hx y hy h1.1 h2, hg.up x hx y hy h1.2 h2⟩
  · rw [Nat.testBit_and, Bool.and_eq_true] at h1 h2 ⊢
    exact ⟨hf.mul x hx y hy h1.1 h2.1, hg.mul x hx y hy h1.2 h2.2⟩
theorem fi_all (a : VA u t) : FI u t (2 ^ u.length - 1) := by
  have hp := a.lat.pos
  have h2 : 0 < 2 ^ u.length := Nat.pow_pos (by omega)
  refine ⟨by omega, by rw [full_bit]; simp; omega, fun x hx y hy _ _ => by rw [full_bit]; simpa using hy, fun x hx y hy _ _ => by rw [full_bit]; simpa using a.tn_lt hx hy⟩
-- powers
theorem firstI_least {n : Nat} {p : Nat → Bool} {z : Nat} (h : firstI n p = z) : z < n ∧ p z = true ∧ ∀ j, j < z → p j = false := by
  unfold firstI at h
  split at h
  · rename_i k hk
    rw [List.find?_range_eq_some] at hk
    have : k = z := by omega
    subst this
    exact ⟨by simpa using hk.2.1, hk.1, fun j hj => by simpa using hk.2.2 j hj⟩
  · omega
-- classes
theorem VA.im_topl (a : VA u t) (hx : x < u.length) : im u t (u.length - 1) x = x := by
  have hp := a.lat.pos
  have h1 := a.im_lt (x := u.length - 1) (y := x)
  have k1 := a.res (x := u.length - 1) (y := x) (z := im u t (u.length - 1) x) (by omega) hx h1
  rw [a.tn_topl h1, a.lat.rf h1] at k1
  have k2 := a.res (x := u.length - 1) (y := x) (z := x) (by omega) hx hx
  rw [a.tn_topl hx, a.lat.rf hx] at k2
  exact a.lat.eq h1 hx k1 k2.symm
theorem VA.im_topr (a : VA u t) (hx : x < u.length) : im u t x (u.length - 1) = u.length - 1 := (a.im_top hx (by omega)).2 (a.lat.topl hx)
theorem VA.nr_topr (a : VA u t) (hx : x < u.length) : nr u t x (u.length - 1) = x := by
  show tn t (im u t x (u.length - 1)) (im u t (u.length - 1) x) = x
  rw [a.im_topr hx, a.im_topl hx, a.tn_topl hx]
def clsI (u : List Int) (t : List (List Int)) (f x : Nat) : Int := firstI u.length fun y => f.testBit (nr u t x y)
theorem FI.nr_self {f : Nat} (a : VA u t) (hf : FI u t f) (hx : x < u.length) : f.testBit (nr u t x x) = true := by
  rw [(a.nr_top hx hx).2 rfl]; exact hf.top
theorem FI.nr_tr {f : Nat} (a : VA u t) (hf : FI u t f) (hx : x < u.length) (hy : y < u.length) (hz : z < u.length) (h : f.testBit (nr u t x y) = true) (h2 : f.testBit (nr u t y z) = true) : f.testBit (nr u t x z) = true :=
  hf.up _ (a.tn_lt a.nr_lt a.nr_lt) _ a.nr_lt (hf.mul _ a.nr_lt _ a.nr_lt h h2) (a.nr_tr hx hy hz)
theorem cls_spec {f : Nat} (a : VA u t) (hf : FI u t f) (hx : x < u.length) : ∃ k : Nat, clsI u t f x = k ∧ k ≤ x ∧ f.testBit (nr u t x k) = true ∧ ∀ j, j < k → f.testBit (nr u t x j) = false := by
  rcases firstI_range (n := u.length) (p := fun y => f.testBit (nr u t x y)) with e | ⟨k, hk, hz, e⟩
  · exfalso
    unfold firstI at e
    split at e
    · omega
    · rename_i hn
      rw [List.find?_eq_none] at hn
      have := hn x (by simpa using hx)
      rw [hf.nr_self a hx] at this
      exact this rfl
  · have q := firstI_least e
    refine ⟨k, e, ?_, q.2.1, q.2.2⟩
    rcases Nat.lt_or_ge x k with c | c
    · have := q.2.2 x c
      rw [hf.nr_self a hx] at this; cases this
    · exact c
theorem cls_same {f : Nat} (a : VA u t) (hf : FI u t f) (hx : x < u.length) (hy : y < u.length) : clsI u t f x = clsI u t f y ↔ f.testBit (nr u t x y) = true := by
  constructor
  · intro e
    obtain ⟨k, e1, l1, h1, _⟩ := cls_spec a hf hx
    obtain ⟨m, e2, l2, h2, _⟩ := cls_spec a hf hy
    have : k = m := by omega
    subst this
    rw [a.nr_comm] at h2
    exact hf.nr_tr a hx (by omega) hy h1 h2
  · intro h
    unfold clsI firstI
    have : ∀ z, z < u.length → f.testBit (nr u t x z) = f.testBit (nr u t y z) := fun z hz => by
      rw [Bool.eq_iff_iff]
      constructor
      · intro h2
        rw [a.nr_comm] at h
        exact hf.nr_tr a hy hx hz h h2
      · intro h2
        exact hf.nr_tr a hx hy hz h h2
    have e : (List.range u.length).find? (fun z => f.testBit (nr u t x z)) = (List.range u.length).find? (fun z => f.testBit (nr u t y z)) := by
      have key : ∀ l : List Nat, (∀ z ∈ l, z < u.length) → l.find? (fun z => f.testBit (nr u t x z)) = l.find? (fun z => f.testBit (nr u t y z)) := by
        intro l
        induction l with
        | nil => intro _; rfl
        | cons z l ih =>
          intro hl
          simp only [List.find?_cons, this z (hl z (by simp)), ih (fun w hw => hl w (by simp [hw]))]
      exact key _ (fun z hz => by simpa using hz)
    rw [e]
end
end Go.PS
end

section
-- Contracts: sets by bits; filters of the reference.
set_option maxRecDepth 100000
set_option linter.unusedVariables false
set_option linter.unusedSimpArgs false
namespace Go.PS
open Go.Proofs

/-- A bit, 0 or 1. -/
def bitI (x : Int) (j : Nat) : Int := if x.toNat.testBit j then 1 else 0
@[simp] theorem bitI_one {x : Int} {j : Nat} : bitI x j = 1 ↔ x.toNat.testBit j = true := by unfold bitI; split <;> simp_all
@[simp] theorem bitI_zero {x : Int} {j : Nat} : bitI x j = 0 ↔ x.toNat.testBit j = false := by unfold bitI; split <;> simp_all
theorem bitI_eq {x : Int} (h0 : 0 ≤ x) (j : Nat) : (x.tdiv (2 ^ j)).tmod 2 = bitI x j := by
  have h := bit_math h0 j
  unfold bitI
  split
  · rename_i hb; exact h.2 hb
  · rename_i hb
    have h1 : ¬ (x.tdiv (2 ^ j)).tmod 2 = 1 := fun e => hb (h.1 e)
    have hp : (0 : Int) < 2 ^ j := Int.pow_pos (by omega)
    have h2 : 0 ≤ x.tdiv (2 ^ j) := Int.tdiv_nonneg h0 (by omega)
    have h3 := Int.tmod_nonneg (a := x.tdiv (2 ^ j)) 2 h2
    have h4 := Int.tmod_lt_of_pos (x.tdiv (2 ^ j)) (b := 2) (by omega)
    omega
theorem p2w {n : Nat} (h : n ≤ 6) : IntKind.i64.wrap ((2 : Int) ^ n - 1) = 2 ^ n - 1 := by
  have : n = 0 ∨ n = 1 ∨ n = 2 ∨ n = 3 ∨ n = 4 ∨ n = 5 ∨ n = 6 := by omega
  rcases this with rfl | rfl | rfl | rfl | rfl | rfl | rfl <;> rfl
theorem p2le {n : Nat} (h : n ≤ 6) : 0 < 2 ^ n ∧ 2 ^ n ≤ 64 := ⟨Nat.pow_pos (by omega), Nat.pow_le_pow_right (n := 2) (by omega) h⟩
theorem p2i {n : Nat} : (2 : Int) ^ n = ((2 ^ n : Nat) : Int) := by push_cast; rfl
theorem bitS_pc (x j : Int) (h0 : 0 ≤ x) (h1 : x < 64) (h2 : 0 ≤ j) (h3 : j ≤ 61) : PC Try.prog 171 [I64 x, I64 j] none true (fun r _ => r = I64 (bitI x j.toNat)) := by
  rw [← bitI_eq h0]
  exact bit_pc x j h0 h1 h2 h3
noncomputable def fm_bitS : Fam Try.prog := mkFam (X := Int × Int) 171 true (fun (x, j) => [I64 x, I64 j]) (fun (x, j) => (0 ≤ x) ∧ (x < 64) ∧ (0 ≤ j) ∧ (j ≤ 61)) (fun (x, j) => I64 (bitI x j.toNat)) (by
  rintro ⟨x, j⟩ ⟨h0, h1, h2, h3⟩
  exact bitS_pc x j h0 h1 h2 h3)
@[simp] theorem fm_bitS_id : fm_bitS.id = 171 := rfl
@[simp] theorem fm_bitS_fresh : fm_bitS.fresh = true := rfl
@[simp] theorem fm_bitS_look (x j : Int) (h0 : 0 ≤ x) (h1 : x < 64) (h2 : 0 ≤ j) (h3 : j ≤ 61) : fm_bitS.look [I64 x, I64 j] = some (I64 (bitI x j.toNat)) :=
  lookF_of (X := Int × Int) (args := fun (x, j) => [I64 x, I64 j]) (pre := fun (x, j) => (0 ≤ x) ∧ (x < 64) ∧ (0 ≤ j) ∧ (j ≤ 61)) (val := fun (x, j) => I64 (bitI x j.toNat)) (by
  rintro ⟨x, j⟩ ⟨x', j'⟩ h
  simp at h
  try simp only [and_assoc] at h
  obtain ⟨rfl, rfl⟩ := h
  rfl) (x, j) ⟨h0, h1, h2, h3⟩
attribute [irreducible] fm_bitS
theorem powerL_pc (n : Int) (h0 : 0 ≤ n) (h1 : n ≤ 61) : PC Try.prog 39 [I64 n] none true (fun r _ => r = I64 (2 ^ n.toNat)) := by
  obtain ⟨k, rfl⟩ := Int.eq_ofNat_of_zero_le h0
  refine pcT [] fok_39 ?_
  simp [fa_39]
  refine loopA (tabK_mono _) k (fun i => [(0, I64 ((k : Int) - i)), (3, I64 (2 ^ i))]) (fun _ => []) (fun _ => True) (by simp) (by simp) (fun i g hi _ => ?_)
  have h1 : (2 : Int) ^ i ≤ 2 ^ 61 := by
    have := Nat.pow_le_pow_right (n := 2) (by omega) (show i ≤ 61 by omega)
    exact_mod_cast this
  have h2 : (0 : Int) < 2 ^ i := Int.pow_pos (by omega)
  simp [lb_39_2, wrap64 (n := 2 * 2 ^ i) (by omega) (by omega), wrap64 (n := (k : Int) - i - 1) (by omega) (by omega)]
  refine ⟨fun h => ⟨by omega, by omega, ?_⟩, fun h => ?_⟩
  · rw [Int.pow_succ]; omega
  · rw [show i = k by omega]
noncomputable def fm_powerL : Fam Try.prog := mkFam (X := Int) 39 true (fun n => [I64 n]) (fun n => (0 ≤ n) ∧ (n ≤ 61)) (fun n => I64 (2 ^ n.toNat)) (by
  rintro n ⟨h0, h1⟩
  exact powerL_pc n h0 h1)
@[simp] theorem fm_powerL_id : fm_powerL.id = 39 := rfl
@[simp] theorem fm_powerL_fresh : fm_powerL.fresh = true := rfl
@[simp] theorem fm_powerL_look (n : Int) (h0 : 0 ≤ n) (h1 : n ≤ 61) : fm_powerL.look [I64 n] = some (I64 (2 ^ n.toNat)) :=
  lookF_of (X := Int) (args := fun n => [I64 n]) (pre := fun n => (0 ≤ n) ∧ (n ≤ 61)) (val := fun n => I64 (2 ^ n.toNat)) (by
  intro n n' h
  simp at h
  subst h
  rfl) n ⟨h0, h1⟩
attribute [irreducible] fm_powerL
theorem bitL_pc (x j : Int) (h0 : 0 ≤ x) (h1 : x < 64) (h2 : 0 ≤ j) (h3 : j ≤ 61) : PC Try.prog 47 [I64 x, I64 j] none true (fun r _ => r = I64 (bitI x j.toNat)) := by
  rw [← bitI_eq h0]
  refine pcT [fm_powerL] fok_47 ?_
  have h4 : (0 : Int) < 2 ^ j.toNat := Int.pow_pos (by omega)
  have h5 : x.tdiv (2 ^ j.toNat) ≤ x := by
    rw [Int.tdiv_eq_ediv_of_nonneg h0]; exact Int.ediv_le_self _ h0
  have h6 : 0 ≤ x.tdiv (2 ^ j.toNat) := Int.tdiv_nonneg h0 (by omega)
  simp [fa_47, h2, h3, wrap64 (n := x.tdiv (2 ^ j.toNat)) (by omega) (by omega)]
  omega
noncomputable def fm_bitL : Fam Try.prog := mkFam (X := Int × Int) 47 true (fun (x, j) => [I64 x, I64 j]) (fun (x, j) => (0 ≤ x) ∧ (x < 64) ∧ (0 ≤ j) ∧ (j ≤ 61)) (fun (x, j) => I64 (bitI x j.toNat)) (by
  rintro ⟨x, j⟩ ⟨h0, h1, h2, h3⟩
  exact bitL_pc x j h0 h1 h2 h3)
@[simp] theorem fm_bitL_id : fm_bitL.id = 47 := rfl
@[simp] theorem fm_bitL_fresh : fm_bitL.fresh = true := rfl
@[simp] theorem fm_bitL_look (x j : Int) (h0 : 0 ≤ x) (h1 : x < 64) (h2 : 0 ≤ j) (h3 : j ≤ 61) : fm_bitL.look [I64 x, I64 j] = some (I64 (bitI x j.toNat)) :=
  lookF_of (X := Int × Int) (args := fun (x, j) => [I64 x, I64 j]) (pre := fun (x, j) => (0 ≤ x) ∧ (x < 64) ∧ (0 ≤ j) ∧ (j ≤ 61)) (val := fun (x, j) => I64 (bitI x j.toNat)) (by
  rintro ⟨x, j⟩ ⟨x', j'⟩ h
  simp at h
  try simp only [and_assoc] at h
  obtain ⟨rfl, rfl⟩ := h
  rfl) (x, j) ⟨h0, h1, h2, h3⟩
attribute [irreducible] fm_bitL

/-- Is a number a set of so many elements? -/
def inS (n : Nat) (f : Int) : Bool := decide (0 ≤ f) && decide (f ≤ 2 ^ n - 1)
theorem inS_ex {n : Nat} {f : Int} (h : inS n f = true) : ∃ k : Nat, f = k ∧ k < 2 ^ n := by
  simp only [inS, Bool.and_eq_true, decide_eq_true_eq, p2i] at h
  exact ⟨f.toNat, by omega, by omega⟩
theorem inS_nat {n k : Nat} (h : k < 2 ^ n) : inS n (k : Int) = true := by
  simp only [inS, Bool.and_eq_true, decide_eq_true_eq, p2i]
  omega
set_option maxHeartbeats 1000000 in
theorem isFilS_pc (u : List Int) (t : List (List Int)) (f : Int) (a : VA u t) : PC Try.prog 112 [AL u t, I64 f] none true (fun r _ => r = .bool (inS u.length f && decide (FI u t f.toNat))) := by
  have v := a.lat
  have hp := v.pos
  have h6 := v.six
  have hul : u.length ≤ 1099511627776 := by omega
  have hw := p2w h6
  have h64 := p2le h6
  have w1 : IntKind.i64.wrap ((u.length : Int) - 1) = ((u.length - 1 : Nat) : Int) := by rw [wrap64 (by omega) (by omega)]; omega
  refine pcT [fm_power, fm_inRange, fm_bitS, fm_belowS] fok_112 ?_
  simp [fa_112]
  cases hb : inS u.length f
  · refine cutW (tabK_mono _) [(23, .bool true)] (by
      simp only [inS] at hb
      simp [hw, hb, show (u.length : Int) ≤ 61 by omega]) ?_
    simp
  obtain ⟨f, rfl, hf⟩ := inS_ex hb
  simp only [Int.toNat_natCast]
  have hf2 : (f : Int) ≤ 2 ^ u.length - 1 := by rw [p2i]; omega
  have f64 : (f : Int) < 64 := by omega
  refine cutW (tabK_mono _) [(23, .bool (!f.testBit (u.length - 1)))] (by
    simp [hw, hf2, f64, w1, show (u.length : Int) ≤ 61 by omega, show ((u.length - 1 : Nat) : Int) ≤ 61 by omega]) ?_
  simp
  refine ⟨fun h F => ?_, fun ht => ?_⟩
  · rw [F.top] at h; cases h
  refine loopA (tabK_mono _) u.length (fun i => [(6, I64 i)]) (fun _ => []) (fun x => ∀ y, y < u.length → f.testBit x = true → (tb u x y = true → f.testBit y = true) ∧ (f.testBit y = true → f.testBit (tn t x y) = true)) (by simp) (by simp) (fun x g hx hP => ?_)
  simp [lb_112_5, wrap_succ hx hul]
  refine ⟨fun h2 => ?_, fun h2 => ?_⟩
  · refine loopA (tabK_mono _) u.length (fun i => [(7, I64 i)]) (fun _ => []) (fun y => f.testBit x = true → (tb u x y = true → f.testBit y = true) ∧ (f.testBit y = true → f.testBit (tn t x y) = true)) (by simp) (by simp) (fun y g2 hy hQ => ?_)
    simp [lb_112_8, wrap_succ hy hul]
    refine ⟨fun h3 => ?_, fun h3 => ?_⟩
    · have s1 := a.tn_int h2 h3
      have s2 := a.tn_lt h2 h3
      have hlen := a.len
      have hrow := a.rows x h2
      refine cutW (tabK_mono _) [(69, .bool (f.testBit x && (tb u x y && !f.testBit y || f.testBit y && !f.testBit (tn t x y))))] (by
        generalize tn t x y = w at *
        cases b1 : f.testBit x
        · simp [b1, f64, show (x : Int) ≤ 61 by omega]
        · cases b2 : tb u x y <;> cases b3 : f.testBit y <;> simp [b1, b2, b3, v.sm, h2, h3, s1, hlen, hrow, f64, show (x : Int) ≤ 61 by omega, show (y : Int) ≤ 61 by omega, show (w : Int) ≤ 61 by omega]) ?_
      simp
      refine ⟨fun b1 b2 F => ?_, fun b => ⟨h3, wrap_succ hy hul, b⟩⟩
      rcases b2 with ⟨c1, c2⟩ | ⟨c1, c2⟩
      · rw [F.up x h2 y h3 b1 c1] at c2; cases c2
      · rw [F.mul x h2 y h3 b1 c1] at c2; cases c2
    · exact ⟨h2, wrap_succ hx hul, fun y hy => hQ y (by omega)⟩
  · exact ⟨hf, ht, fun x hx y hy b1 b2 => (hP x (by omega) y hy b1).1 b2, fun x hx y hy b1 b2 => (hP x (by omega) y hy b1).2 b2⟩
noncomputable def fm_isFilS : Fam Try.prog := mkFam (X := List Int × List (List Int) × Int) 112 true (fun (u, t, f) => [AL u t, I64 f]) (fun (u, t, f) => (VA u t)) (fun (u, t, f) => .bool (inS u.length f && decide (FI u t f.toNat))) (by
  rintro ⟨u, t, f⟩ a
  exact isFilS_pc u t f a)
@[simp] theorem fm_isFilS_id : fm_isFilS.id = 112 := rfl
@[simp] theorem fm_isFilS_fresh : fm_isFilS.fresh = true := rfl
@[simp] theorem fm_isFilS_look (u : List Int) (t : List (List Int)) (f : Int) (a : VA u t) : fm_isFilS.look [AL u t, I64 f] = some (.bool (inS u.length f && decide (FI u t f.toNat))) :=
  lookF_of (X := List Int × List (List Int) × Int) (args := fun (u, t, f) => [AL u t, I64 f]) (pre := fun (u, t, f) => (VA u t)) (val := fun (u, t, f) => .bool (inS u.length f && decide (FI u t f.toNat))) (by
  rintro ⟨u, t, f⟩ ⟨u', t', f'⟩ h
  simp at h
  try simp only [and_assoc] at h
  obtain ⟨rfl, rfl, rfl⟩ := h
  rfl) (u, t, f) a
attribute [irreducible] fm_isFilS
theorem leBig {n : Nat} (h : n ≤ 1099511627776) : n ≤ big := h
/-- Numbers as a list of the program's. -/
abbrev natL (l : List Nat) : List Int := l.map fun (x : Nat) => (x : Int)
theorem filS_pc (u : List Int) (t : List (List Int)) (a : VA u t) : PC Try.prog 119 [AL u t] none true (fun r _ => r = IO1 (natL (filN u t (2 ^ u.length)))) := by
  have v := a.lat
  have h6 := v.six
  have h64 := p2le h6
  have hp2 : (2 : Int) ^ u.length = ((2 ^ u.length : Nat) : Int) := p2i
  refine pcT [fm_power, fm_isFilS] fok_119 ?_
  simp [fa_119]
  refine loopX (tabK_mono _) (2 ^ u.length) (fun i γ => [(3, .arr 40 γ), (4, I64 i)]) (fun i γ => [⟨40, γ, .arr 1 (ints (natL (filN u t i)))⟩]) (fun _ _ => True) 1 (by simp) (by simp [filN_zero, ints_nil]) trivial (fun i γ g hi _ => ?_)
  have hcond : ((i : Int) < 2 ^ u.length) ↔ i < 2 ^ u.length := by rw [hp2]; omega
  simp [lb_119_3, show (u.length : Int) ≤ 61 by omega, hcond, wrap_succ hi (show 2 ^ u.length ≤ 1099511627776 by omega)]
  refine ⟨fun h => ?_, fun h => ?_⟩
  · have hle := filN_len (u := u) (t := t) (m := i)
    have hs := filN_succ (u := u) (t := t) (m := i)
    have hin := inS_nat h
    generalize filN u t i = l0 at *
    simp [a, hin, wrap_succ hi (show 2 ^ u.length ≤ 1099511627776 by omega)]
    refine ⟨fun F => ?_, fun F => ?_⟩
    · rw [if_pos F] at hs
      simp [hs]
      exact ⟨leBig (by omega), h⟩
    · rw [if_neg F] at hs
      simp [hs]
      exact h
  · obtain rfl : i = 2 ^ u.length := by omega
    rfl
noncomputable def fm_filS : Fam Try.prog := mkFam (X := List Int × List (List Int)) 119 true (fun (u, t) => [AL u t]) (fun (u, t) => (VA u t)) (fun (u, t) => IO1 (natL (filN u t (2 ^ u.length)))) (by
  rintro ⟨u, t⟩ a
  exact filS_pc u t a)
@[simp] theorem fm_filS_id : fm_filS.id = 119 := rfl
@[simp] theorem fm_filS_fresh : fm_filS.fresh = true := rfl
@[simp] theorem fm_filS_look (u : List Int) (t : List (List Int)) (a : VA u t) : fm_filS.look [AL u t] = some (IO1 (natL (filN u t (2 ^ u.length)))) :=
  lookF_of (X := List Int × List (List Int)) (args := fun (u, t) => [AL u t]) (pre := fun (u, t) => (VA u t)) (val := fun (u, t) => IO1 (natL (filN u t (2 ^ u.length)))) (by
  rintro ⟨u, t⟩ ⟨u', t'⟩ h
  simp at h
  try simp only [and_assoc] at h
  obtain ⟨rfl, rfl⟩ := h
  rfl) (u, t) a
attribute [irreducible] fm_filS
noncomputable def ifM (u : List Int) (t : List (List Int)) (f : Int) : Bool := decide (VA u t) && inS u.length f && decide (FI u t f.toNat)
end Go.PS
end

section
-- Counting: what goes into a list without repeats is no more than the list.
set_option linter.unusedVariables false
set_option linter.unusedSimpArgs false
namespace Go.PS
end Go.PS
end

section
-- Contracts: filters of the program; lists and weights of the laws.
set_option maxRecDepth 100000
set_option linter.unusedVariables false
set_option linter.unusedSimpArgs false
namespace Go.PS
open Go.Proofs

theorem hasI_pc (f x : Int) (h0 : 0 ≤ x) (h1 : x ≤ 63) : PC Try.prog 170 [I64 f, I64 x] none true (fun r _ => r = .bool (f.toNat.testBit x.toNat)) := by
  obtain ⟨x, rfl⟩ := Int.eq_ofNat_of_zero_le h0
  have h := shr_bit f (y := x) (by omega)
  refine pcT [] fok_170 ?_
  simp [fa_170, h]
noncomputable def fm_hasI : Fam Try.prog := mkFam (X := Int × Int) 170 true (fun (f, x) => [I64 f, I64 x]) (fun (f, x) => (0 ≤ x) ∧ (x ≤ 63)) (fun (f, x) => .bool (f.toNat.testBit x.toNat)) (by
  rintro ⟨f, x⟩ ⟨h0, h1⟩
  exact hasI_pc f x h0 h1)
@[simp] theorem fm_hasI_id : fm_hasI.id = 170 := rfl
@[simp] theorem fm_hasI_fresh : fm_hasI.fresh = true := rfl
@[simp] theorem fm_hasI_look (f x : Int) (h0 : 0 ≤ x) (h1 : x ≤ 63) : fm_hasI.look [I64 f, I64 x] = some (.bool (f.toNat.testBit x.toNat)) :=
  lookF_of (X := Int × Int) (args := fun (f, x) => [I64 f, I64 x]) (pre := fun (f, x) => (0 ≤ x) ∧ (x ≤ 63)) (val := fun (f, x) => .bool (f.toNat.testBit x.toNat)) (by
  rintro ⟨f, x⟩ ⟨f', x'⟩ h
  simp at h
  try simp only [and_assoc] at h
  obtain ⟨rfl, rfl⟩ := h
  rfl) (f, x) ⟨h0, h1⟩
attribute [irreducible] fm_hasI
theorem shl2w {n : Nat} (h : n ≤ 6) : bShl .i64 1 (n : Int) = 2 ^ n ∧ IntKind.i64.wrap ((2 : Int) ^ n - 1) = 2 ^ n - 1 := by
  have : n = 0 ∨ n = 1 ∨ n = 2 ∨ n = 3 ∨ n = 4 ∨ n = 5 ∨ n = 6 := by omega
  rcases this with rfl | rfl | rfl | rfl | rfl | rfl | rfl <;> exact ⟨rfl, rfl⟩
theorem setInI_pc (u : List Int) (t : List (List Int)) (f : Int) (hu : Big u.length) (ht : BigR t) : PC Try.prog 109 [AL u t, I64 f] none true (fun r _ => r = .bool (decide (VA u t) && inS u.length f)) := by
  refine pcT [fm_validAlgebraI, fm_within] fok_109 ?_
  by_cases a : VA u t
  · have hw := shl2w a.lat.six
    simp [gops, fa_109, hu, ht, a, hw, inS]
  · simp [gops, fa_109, hu, ht, a]
noncomputable def fm_setInI : Fam Try.prog := mkFam (X := List Int × List (List Int) × Int) 109 true (fun (u, t, f) => [AL u t, I64 f]) (fun (u, t, f) => (Big u.length) ∧ (BigR t)) (fun (u, t, f) => .bool (decide (VA u t) && inS u.length f)) (by
  rintro ⟨u, t, f⟩ ⟨hu, ht⟩
  exact setInI_pc u t f hu ht)
@[simp] theorem fm_setInI_id : fm_setInI.id = 109 := rfl
@[simp] theorem fm_setInI_fresh : fm_setInI.fresh = true := rfl
@[simp] theorem fm_setInI_look (u : List Int) (t : List (List Int)) (f : Int) (hu : Big u.length) (ht : BigR t) : fm_setInI.look [AL u t, I64 f] = some (.bool (decide (VA u t) && inS u.length f)) :=
  lookF_of (X := List Int × List (List Int) × Int) (args := fun (u, t, f) => [AL u t, I64 f]) (pre := fun (u, t, f) => (Big u.length) ∧ (BigR t)) (val := fun (u, t, f) => .bool (decide (VA u t) && inS u.length f)) (by
  rintro ⟨u, t, f⟩ ⟨u', t', f'⟩ h
  simp at h
  try simp only [and_assoc] at h
  obtain ⟨rfl, rfl, rfl⟩ := h
  rfl) (u, t, f) ⟨hu, ht⟩
attribute [irreducible] fm_setInI
set_option maxHeartbeats 1000000 in
theorem isFilI_pc (u : List Int) (t : List (List Int)) (f : Int) (a : VA u t) (hf : inS u.length f = true) : PC Try.prog 110 [AL u t, I64 f] none true (fun r _ => r = .bool (decide (FI u t f.toNat))) := by
  obtain ⟨f, rfl, hf2⟩ := inS_ex hf
  simp only [Int.toNat_natCast]
  have v := a.lat
  have hp := v.pos
  have h6 := v.six
  have hul : u.length ≤ 1099511627776 := by omega
  have h64 := p2le h6
  have w1 : IntKind.i64.wrap ((u.length : Int) - 1) = ((u.length - 1 : Nat) : Int) := by rw [wrap64 (by omega) (by omega)]; omega
  refine pcT [fm_hasI] fok_110 ?_
  simp [fa_110, w1, show ((u.length - 1 : Nat) : Int) ≤ 63 by omega]
  refine ⟨fun h F => ?_, fun ht => ?_⟩
  · rw [F.top] at h; cases h
  refine loopA (tabK_mono _) u.length (fun i => [(18, I64 i)]) (fun _ => []) (fun x => f.testBit x = true → (∀ y, y < u.length → tb u x y = true → f.testBit y = true) ∧ ∀ y, y < u.length → f.testBit y = true → f.testBit (tn t x y) = true) (by simp) (by simp) (fun x g hx hP => ?_)
  simp [lb_110_4, wrap_succ hx hul]
  refine ⟨fun h2 => ?_, fun h2 => ?_⟩
  · have hr := v.sm.lt h2
    have hz := bAndNot_zero (a := gi u x) (b := (f : Int)) hr.1 (by omega) (by omega) (by omega)
    have hz2 : bAndNot .i64 (gi u x) f = 0 ↔ ∀ y, y < u.length → tb u x y = true → f.testBit y = true := by
      rw [hz]
      simp only [Int.toNat_natCast]
      exact ⟨fun h y _ hy => h y hy, fun h y hy => h y (v.sm.bit h2 hy) hy⟩
    simp [h2, show (x : Int) ≤ 63 by omega, wrap_succ hx hul, hz2]
    refine ⟨fun b1 b2 => (by rw [b1] at b2; cases b2), fun b1 => ?_⟩
    refine ⟨fun y hy c1 c2 F => ?_, fun hup => ?_⟩
    · rw [F.up x h2 y hy b1 c1] at c2; cases c2
    refine loopA (tabK_mono _) u.length (fun i => [(34, I64 i)]) (fun _ => []) (fun y => f.testBit y = true → f.testBit (tn t x y) = true) (by simp) (by simp) (fun y g2 hy hQ => ?_)
    simp [lb_110_10, wrap_succ hy hul]
    refine ⟨fun h3 => ?_, fun h3 => ?_⟩
    · have s1 := a.tn_int h2 h3
      have s2 := a.tn_lt h2 h3
      have hlen := a.len
      have hrow := a.rows x h2
      refine cutW (tabK_mono _) [(52, .bool (f.testBit y && !f.testBit (tn t x y)))] (by
        generalize tn t x y = w at *
        cases b2 : f.testBit y <;> simp [b2, h2, h3, s1, hlen, hrow, show (y : Int) ≤ 63 by omega, show (w : Int) ≤ 63 by omega]) ?_
      simp [wrap_succ hy hul]
      refine ⟨fun c1 c2 F => ?_, fun b => ⟨h3, b⟩⟩
      rw [F.mul x h2 y h3 b1 c1] at c2; cases c2
    · simp [wrap_succ hx hul]
      exact ⟨h2, fun _ => ⟨hup, fun y hy => hQ y (by omega)⟩⟩
  · exact ⟨hf2, ht, fun x hx y hy b1 b2 => (hP x (by omega) b1).1 y hy b2, fun x hx y hy b1 b2 => (hP x (by omega) b1).2 y hy b2⟩
noncomputable def fm_isFilI : Fam Try.prog := mkFam (X := List Int × List (List Int) × Int) 110 true (fun (u, t, f) => [AL u t, I64 f]) (fun (u, t, f) => (VA u t) ∧ (inS u.length f = true)) (fun (u, t, f) => .bool (decide (FI u t f.toNat))) (by
  rintro ⟨u, t, f⟩ ⟨a, hf⟩
  exact isFilI_pc u t f a hf)
@[simp] theorem fm_isFilI_id : fm_isFilI.id = 110 := rfl
@[simp] theorem fm_isFilI_fresh : fm_isFilI.fresh = true := rfl
@[simp] theorem fm_isFilI_look (u : List Int) (t : List (List Int)) (f : Int) (a : VA u t) (hf : inS u.length f = true) : fm_isFilI.look [AL u t, I64 f] = some (.bool (decide (FI u t f.toNat))) :=
  lookF_of (X := List Int × List (List Int) × Int) (args := fun (u, t, f) => [AL u t, I64 f]) (pre := fun (u, t, f) => (VA u t) ∧ (inS u.length f = true)) (val := fun (u, t, f) => .bool (decide (FI u t f.toNat))) (by
  rintro ⟨u, t, f⟩ ⟨u', t', f'⟩ h
  simp at h
  try simp only [and_assoc] at h
  obtain ⟨rfl, rfl, rfl⟩ := h
  rfl) (u, t, f) ⟨a, hf⟩
attribute [irreducible] fm_isFilI
theorem IsFilI_pc (u : List Int) (t : List (List Int)) (f : Int) (hu : Big u.length) (ht : BigR t) : PC Try.prog 27 [AL u t, I64 f] none true (fun r _ => r = .bool (ifM u t f)) := by
  refine pcT [fm_setInI, fm_isFilI] fok_27 ?_
  unfold ifM
  cases hb : (decide (VA u t) && inS u.length f)
  · simp [gops, fa_27, hu, ht, hb]
  · have h := hb
    simp only [Bool.and_eq_true, decide_eq_true_eq] at h
    simp [gops, fa_27, hu, ht, hb, h.1, h.2]
noncomputable def fm_IsFilI : Fam Try.prog := mkFam (X := List Int × List (List Int) × Int) 27 true (fun (u, t, f) => [AL u t, I64 f]) (fun (u, t, f) => (Big u.length) ∧ (BigR t)) (fun (u, t, f) => .bool (ifM u t f)) (by
  rintro ⟨u, t, f⟩ ⟨hu, ht⟩
  exact IsFilI_pc u t f hu ht)
@[simp] theorem fm_IsFilI_id : fm_IsFilI.id = 27 := rfl
@[simp] theorem fm_IsFilI_fresh : fm_IsFilI.fresh = true := rfl
@[simp] theorem fm_IsFilI_look (u : List Int) (t : List (List Int)) (f : Int) (hu : Big u.length) (ht : BigR t) : fm_IsFilI.look [AL u t, I64 f] = some (.bool (ifM u t f)) :=
  lookF_of (X := List Int × List (List Int) × Int) (args := fun (u, t, f) => [AL u t, I64 f]) (pre := fun (u, t, f) => (Big u.length) ∧ (BigR t)) (val := fun (u, t, f) => .bool (ifM u t f)) (by
  rintro ⟨u, t, f⟩ ⟨u', t', f'⟩ h
  simp at h
  try simp only [and_assoc] at h
  obtain ⟨rfl, rfl, rfl⟩ := h
  rfl) (u, t, f) ⟨hu, ht⟩
attribute [irreducible] fm_IsFilI
-- lists of the laws
end Go.PS
end

section
-- PRINTED by gen.py: clean texts of functions, and their tie to the program.
set_option maxRecDepth 100000
namespace Go.PS
open Go.Proofs
/-- spec.has -/
def an_125 : Ann := ⟨[(1, 1, 3), (1, 8, 3), (1, 16, 3)], [(0, [1, 2, 3]), (1, [6])], [], []⟩
def fa_125 : FnA := ⟨25, [.t 6],
  (.seq
    (.region false [⟨some 3, (.box 27 (.t 0)), 0, none, 0⟩, ⟨some 6, (.mv (.c (.bool false))), 4, none, 0⟩] (some [1, 2, 3]))
    (.seq
      (.region false (gops (seg [2, 3, 16] [⟨some 7, (.load 27 (.t 3)), 27, none, 0⟩, ⟨some 8, (.call (.f 111) [(.t 7)]), 4, none, 3⟩, ⟨some 9, (.mv (.t 8)), 4, none, 0⟩, ⟨some 10, (.mv (.t 1)), 3, some (9, true), 0⟩, ⟨some 11, (.faddr 27 (.t 3) 0), 0, some (9, true), 0⟩, ⟨some 12, (.load 23 (.t 11)), 23, some (9, true), 0⟩, ⟨some 13, (.len 23 (.t 12)), 3, some (9, true), 0⟩, ⟨some 14, (.bin .sub 3 (.t 13) (.c (.int .i64 1))), 3, some (9, true), 0⟩, ⟨some 15, (.call (.f 128) [(.t 10), (.c (.int .i64 0)), (.t 14)]), 4, some (9, true), 3⟩, ⟨some 16, (.pick (.t 9) (.t 15) (.c (.bool false))), 4, none, 0⟩]
      [⟨some 17, (.mv (.t 16)), 4, none, 0⟩, ⟨some 18, (.mv (.t 2)), 3, some (17, true), 0⟩, ⟨some 19, (.faddr 27 (.t 3) 0), 0, some (17, true), 0⟩, ⟨some 20, (.load 23 (.t 19)), 23, some (17, true), 0⟩, ⟨some 21, (.len 23 (.t 20)), 3, some (17, true), 0⟩, ⟨some 22, (.bin .sub 3 (.t 21) (.c (.int .i64 1))), 3, some (17, true), 0⟩, ⟨some 23, (.call (.f 128) [(.t 18), (.c (.int .i64 0)), (.t 22)]), 4, some (17, true), 3⟩, ⟨some 24, (.pick (.t 17) (.t 23) (.c (.bool false))), 4, none, 0⟩, ⟨some 6, (.mv (.t 24)), 4, none, 0⟩] [6] (by decide))) (some [6]))
      .ret))⟩
theorem fok_125 : FnOk Try.prog 125 fa_125 an_125 := ⟨Try.f125, _, Try.func125, rfl, by kernel_rfl, rfl, rfl, by decide, by kernel_rfl⟩
/-- spec.near -/
def an_176 : Ann := ⟨[(1, 5, 3), (1, 11, 3)], [(0, [1, 2, 3]), (1, [6])], [], []⟩
def fa_176 : FnA := ⟨21, [.t 6],
  (.seq
    (.region false [⟨some 3, (.box 27 (.t 0)), 0, none, 0⟩, ⟨some 6, (.mv (.c (.int .i64 0))), 3, none, 0⟩] (some [1, 2, 3]))
    (.seq
      (.region true [⟨some 7, (.faddr 27 (.t 3) 1), 0, none, 0⟩, ⟨some 8, (.load 25 (.t 7)), 25, none, 0⟩, ⟨some 9, (.load 27 (.t 3)), 27, none, 0⟩, ⟨some 10, (.mv (.t 1)), 3, none, 0⟩, ⟨some 11, (.mv (.t 2)), 3, none, 0⟩, ⟨some 12, (.call (.f 137) [(.t 9), (.t 10), (.t 11)]), 3, none, 3⟩, ⟨some 13, (.iaddr 25 (.t 8) (.t 12)), 0, none, 0⟩, ⟨some 14, (.load 23 (.t 13)), 23, none, 0⟩, ⟨some 15, (.load 27 (.t 3)), 27, none, 0⟩, ⟨some 16, (.mv (.t 2)), 3, none, 0⟩, ⟨some 17, (.mv (.t 1)), 3, none, 0⟩, ⟨some 18, (.call (.f 137) [(.t 15), (.t 16), (.t 17)]), 3, none, 3⟩, ⟨some 19, (.iaddr 23 (.t 14) (.t 18)), 0, none, 0⟩, ⟨some 20, (.load 3 (.t 19)), 3, none, 0⟩, ⟨some 6, (.mv (.t 20)), 3, none, 0⟩] (some [6]))
      .ret))⟩
theorem fok_176 : FnOk Try.prog 176 fa_176 an_176 := ⟨Try.f176, _, Try.func176, rfl, by kernel_rfl, rfl, rfl, by decide, by kernel_rfl⟩
/-- impl.near -/
def an_134 : Ann := ⟨[(1, 5, 3), (1, 11, 3)], [(0, [1, 2, 3]), (1, [6])], [], []⟩
def fa_134 : FnA := ⟨21, [.t 6],
  (.seq
    (.region false [⟨some 3, (.box 27 (.t 0)), 0, none, 0⟩, ⟨some 6, (.mv (.c (.int .i64 0))), 3, none, 0⟩] (some [1, 2, 3]))
    (.seq
      (.region true [⟨some 7, (.faddr 27 (.t 3) 1), 0, none, 0⟩, ⟨some 8, (.load 25 (.t 7)), 25, none, 0⟩, ⟨some 9, (.load 27 (.t 3)), 27, none, 0⟩, ⟨some 10, (.mv (.t 1)), 3, none, 0⟩, ⟨some 11, (.mv (.t 2)), 3, none, 0⟩, ⟨some 12, (.call (.f 118) [(.t 9), (.t 10), (.t 11)]), 3, none, 3⟩, ⟨some 13, (.iaddr 25 (.t 8) (.t 12)), 0, none, 0⟩, ⟨some 14, (.load 23 (.t 13)), 23, none, 0⟩, ⟨some 15, (.load 27 (.t 3)), 27, none, 0⟩, ⟨some 16, (.mv (.t 2)), 3, none, 0⟩, ⟨some 17, (.mv (.t 1)), 3, none, 0⟩, ⟨some 18, (.call (.f 118) [(.t 15), (.t 16), (.t 17)]), 3, none, 3⟩, ⟨some 19, (.iaddr 23 (.t 14) (.t 18)), 0, none, 0⟩, ⟨some 20, (.load 3 (.t 19)), 3, none, 0⟩, ⟨some 6, (.mv (.t 20)), 3, none, 0⟩] (some [6]))
      .ret))⟩
theorem fok_134 : FnOk Try.prog 134 fa_134 an_134 := ⟨Try.f134, _, Try.func134, rfl, by kernel_rfl, rfl, rfl, by decide, by kernel_rfl⟩
/-- impl.NearOf -/
def an_56 : Ann := ⟨[(1, 4, 3), (3, 3, 3)], [(0, [1, 2, 3]), (1, [1, 2, 3, 12]), (2, [6]), (3, [6])], [], []⟩
def fa_56 : FnA := ⟨17, [.t 6],
  (.seq
    (.region false [⟨some 3, (.box 27 (.t 0)), 0, none, 0⟩, ⟨some 6, (.mv (.c (.int .i64 0))), 3, none, 0⟩] (some [1, 2, 3]))
    (.seq
      (.seq
        (.region false [⟨some 7, (.load 27 (.t 3)), 27, none, 0⟩, ⟨some 8, (.mv (.t 1)), 3, none, 0⟩, ⟨some 9, (.mv (.t 2)), 3, none, 0⟩, ⟨some 10, (.bslice 23 2 [(0, (.t 8)), (1, (.t 9))]), 23, none, 0⟩, ⟨some 11, (.call (.f 117) [(.t 7), (.t 10)]), 4, none, 3⟩, ⟨some 12, (.un .not (.t 11)), 4, none, 0⟩] (some [1, 2, 3, 12]))
        (.cond (.t 12)
          (.seq
            (.region false [⟨some 6, (.mv (.c (.int .i64 (-1)))), 3, none, 0⟩] (some [6]))
            .ret)
          .skip))
      (.seq
        (.region false [⟨some 13, (.load 27 (.t 3)), 27, none, 0⟩, ⟨some 14, (.mv (.t 1)), 3, none, 0⟩, ⟨some 15, (.mv (.t 2)), 3, none, 0⟩, ⟨some 16, (.call (.f 134) [(.t 13), (.t 14), (.t 15)]), 3, none, 3⟩, ⟨some 6, (.mv (.t 16)), 3, none, 0⟩] (some [6]))
        .ret)))⟩
theorem fok_56 : FnOk Try.prog 56 fa_56 an_56 := ⟨Try.f56, _, Try.func56, rfl, by kernel_rfl, rfl, rfl, by decide, by kernel_rfl⟩
end Go.PS
end

section
-- PRINTED by gen.py: clean texts of functions, and their tie to the program.
set_option maxRecDepth 100000
namespace Go.PS
open Go.Proofs
end Go.PS
end

section
-- Contracts: lists of elements for the names, powers, the least power of the reference.
set_option maxRecDepth 100000
set_option linter.unusedVariables false
set_option linter.unusedSimpArgs false
namespace Go.PS
open Go.Proofs

end Go.PS
end

section
-- Contracts: implications, nearness, powers; orders, meets and joins, of any numbers.
set_option maxRecDepth 100000
set_option linter.unusedVariables false
set_option linter.unusedSimpArgs false
namespace Go.PS
open Go.Proofs

/-- Is a number an element? -/
def inE (n : Nat) (x : Int) : Bool := decide (0 ≤ x ∧ x < n)
theorem inE_iff {n : Nat} {x : Int} : inE n x = true ↔ 0 ≤ x ∧ x.toNat < n := by simp [inE]; omega
theorem inE_rng {n : Nat} {x : Int} : (decide (0 ≤ x) && decide (x ≤ (n : Int) - 1)) = inE n x := by
  rw [Bool.eq_iff_iff]; simp [inE]; omega
theorem allE_two {n : Nat} {x y : Int} : decide (allE [x, y] n) = (inE n x && inE n y) := by
  rw [Bool.eq_iff_iff]; simp [allE, inE]
theorem hasS_pc (u : List Int) (t : List (List Int)) (x y : Int) (hu : Big u.length) (ht : BigR t) : PC Try.prog 125 [AL u t, I64 x, I64 y] none true (fun r _ => r = .bool (decide (VA u t) && (inE u.length x && inE u.length y))) := by
  have hl := hu.le
  have w1 : IntKind.i64.wrap ((u.length : Int) - 1) = u.length - 1 := wrap64 (by omega) (by omega)
  refine pcT [fm_validAlgebraS, fm_inRange] fok_125 ?_
  simp [fa_125]
  refine cutW (tabK_mono _) [(6, .bool (decide (VA u t) && (inE u.length x && inE u.length y)))] (by
    rw [← inE_rng, ← inE_rng]
    cases hb : decide (VA u t)
    · simp [hu, ht, hb]
    · cases hb2 : (decide (0 ≤ x) && decide (x ≤ (u.length : Int) - 1))
      · simp [hu, ht, hb, w1, hb2]
      · simp [hu, ht, hb, w1, hb2]) ?_
  simp
noncomputable def fm_hasS : Fam Try.prog := mkFam (X := List Int × List (List Int) × Int × Int) 125 true (fun (u, t, x, y) => [AL u t, I64 x, I64 y]) (fun (u, t, x, y) => (Big u.length) ∧ (BigR t)) (fun (u, t, x, y) => .bool (decide (VA u t) && (inE u.length x && inE u.length y))) (by
  rintro ⟨u, t, x, y⟩ ⟨hu, ht⟩
  exact hasS_pc u t x y hu ht)
@[simp] theorem fm_hasS_id : fm_hasS.id = 125 := rfl
@[simp] theorem fm_hasS_fresh : fm_hasS.fresh = true := rfl
@[simp] theorem fm_hasS_look (u : List Int) (t : List (List Int)) (x y : Int) (hu : Big u.length) (ht : BigR t) : fm_hasS.look [AL u t, I64 x, I64 y] = some (.bool (decide (VA u t) && (inE u.length x && inE u.length y))) :=
  lookF_of (X := List Int × List (List Int) × Int × Int) (args := fun (u, t, x, y) => [AL u t, I64 x, I64 y]) (pre := fun (u, t, x, y) => (Big u.length) ∧ (BigR t)) (val := fun (u, t, x, y) => .bool (decide (VA u t) && (inE u.length x && inE u.length y))) (by
  rintro ⟨u, t, x, y⟩ ⟨u', t', x', y'⟩ h
  simp at h
  try simp only [and_assoc] at h
  obtain ⟨rfl, rfl, rfl, rfl⟩ := h
  rfl) (u, t, x, y) ⟨hu, ht⟩
attribute [irreducible] fm_hasS

theorem nearS_pc (u : List Int) (t : List (List Int)) (x y : Int) (f : TF u t) (hx0 : 0 ≤ x) (hx : x.toNat < u.length) (hy0 : 0 ≤ y) (hy : y.toNat < u.length) : PC Try.prog 176 [AL u t, I64 x, I64 y] none true (fun r _ => r = I64 (tm t (implyM u t x.toNat y.toNat).toNat (implyM u t y.toNat x.toNat).toNat)) := by
  have v := f.lat
  have r1 := v.imply_rng (t := t) (x := x.toNat) (y := y.toNat)
  have r2 := v.imply_rng (t := t) (x := y.toNat) (y := x.toNat)
  refine pcT [fm_implyS] fok_176 ?_
  simp [fa_176, f, hx0, hx, hy0, hy, r1, r2, f.len, f.rows, show (implyM u t x.toNat y.toNat).toNat < u.length by omega]
noncomputable def fm_nearS : Fam Try.prog := mkFam (X := List Int × List (List Int) × Int × Int) 176 true (fun (u, t, x, y) => [AL u t, I64 x, I64 y]) (fun (u, t, x, y) => (TF u t) ∧ (0 ≤ x) ∧ (x.toNat < u.length) ∧ (0 ≤ y) ∧ (y.toNat < u.length)) (fun (u, t, x, y) => I64 (tm t (implyM u t x.toNat y.toNat).toNat (implyM u t y.toNat x.toNat).toNat)) (by
  rintro ⟨u, t, x, y⟩ ⟨f, hx0, hx, hy0, hy⟩
  exact nearS_pc u t x y f hx0 hx hy0 hy)
@[simp] theorem fm_nearS_id : fm_nearS.id = 176 := rfl
@[simp] theorem fm_nearS_fresh : fm_nearS.fresh = true := rfl
@[simp] theorem fm_nearS_look (u : List Int) (t : List (List Int)) (x y : Int) (f : TF u t) (hx0 : 0 ≤ x) (hx : x.toNat < u.length) (hy0 : 0 ≤ y) (hy : y.toNat < u.length) : fm_nearS.look [AL u t, I64 x, I64 y] = some (I64 (tm t (implyM u t x.toNat y.toNat).toNat (implyM u t y.toNat x.toNat).toNat)) :=
  lookF_of (X := List Int × List (List Int) × Int × Int) (args := fun (u, t, x, y) => [AL u t, I64 x, I64 y]) (pre := fun (u, t, x, y) => (TF u t) ∧ (0 ≤ x) ∧ (x.toNat < u.length) ∧ (0 ≤ y) ∧ (y.toNat < u.length)) (val := fun (u, t, x, y) => I64 (tm t (implyM u t x.toNat y.toNat).toNat (implyM u t y.toNat x.toNat).toNat)) (by
  rintro ⟨u, t, x, y⟩ ⟨u', t', x', y'⟩ h
  simp at h
  try simp only [and_assoc] at h
  obtain ⟨rfl, rfl, rfl, rfl⟩ := h
  rfl) (u, t, x, y) ⟨f, hx0, hx, hy0, hy⟩
attribute [irreducible] fm_nearS
theorem nearI_pc (u : List Int) (t : List (List Int)) (x y : Int) (f : TF u t) (hx0 : 0 ≤ x) (hx : x.toNat < u.length) (hy0 : 0 ≤ y) (hy : y.toNat < u.length) : PC Try.prog 134 [AL u t, I64 x, I64 y] none true (fun r _ => r = I64 (tm t (implyM u t x.toNat y.toNat).toNat (implyM u t y.toNat x.toNat).toNat)) := by
  have v := f.lat
  have r1 := v.imply_rng (t := t) (x := x.toNat) (y := y.toNat)
  have r2 := v.imply_rng (t := t) (x := y.toNat) (y := x.toNat)
  refine pcT [fm_implyI] fok_134 ?_
  simp [fa_134, f, hx0, hx, hy0, hy, r1, r2, f.len, f.rows, show (implyM u t x.toNat y.toNat).toNat < u.length by omega]
noncomputable def fm_nearI : Fam Try.prog := mkFam (X := List Int × List (List Int) × Int × Int) 134 true (fun (u, t, x, y) => [AL u t, I64 x, I64 y]) (fun (u, t, x, y) => (TF u t) ∧ (0 ≤ x) ∧ (x.toNat < u.length) ∧ (0 ≤ y) ∧ (y.toNat < u.length)) (fun (u, t, x, y) => I64 (tm t (implyM u t x.toNat y.toNat).toNat (implyM u t y.toNat x.toNat).toNat)) (by
  rintro ⟨u, t, x, y⟩ ⟨f, hx0, hx, hy0, hy⟩
  exact nearI_pc u t x y f hx0 hx hy0 hy)
@[simp] theorem fm_nearI_id : fm_nearI.id = 134 := rfl
@[simp] theorem fm_nearI_fresh : fm_nearI.fresh = true := rfl
@[simp] theorem fm_nearI_look (u : List Int) (t : List (List Int)) (x y : Int) (f : TF u t) (hx0 : 0 ≤ x) (hx : x.toNat < u.length) (hy0 : 0 ≤ y) (hy : y.toNat < u.length) : fm_nearI.look [AL u t, I64 x, I64 y] = some (I64 (tm t (implyM u t x.toNat y.toNat).toNat (implyM u t y.toNat x.toNat).toNat)) :=
  lookF_of (X := List Int × List (List Int) × Int × Int) (args := fun (u, t, x, y) => [AL u t, I64 x, I64 y]) (pre := fun (u, t, x, y) => (TF u t) ∧ (0 ≤ x) ∧ (x.toNat < u.length) ∧ (0 ≤ y) ∧ (y.toNat < u.length)) (val := fun (u, t, x, y) => I64 (tm t (implyM u t x.toNat y.toNat).toNat (implyM u t y.toNat x.toNat).toNat)) (by
  rintro ⟨u, t, x, y⟩ ⟨u', t', x', y'⟩ h
  simp at h
  try simp only [and_assoc] at h
  obtain ⟨rfl, rfl, rfl, rfl⟩ := h
  rfl) (u, t, x, y) ⟨f, hx0, hx, hy0, hy⟩
attribute [irreducible] fm_nearI

noncomputable def NeM (u : List Int) (t : List (List Int)) (x y : Int) : Int := if decide (VA u t) && (inE u.length x && inE u.length y) then tm t (implyM u t x.toNat y.toNat).toNat (implyM u t y.toNat x.toNat).toNat else -1
theorem NearI_pc (u : List Int) (t : List (List Int)) (x y : Int) (hu : Big u.length) (ht : BigR t) : PC Try.prog 56 [AL u t, I64 x, I64 y] none true (fun r _ => r = I64 (NeM u t x y)) := by
  have l1 : fm_atI.look [AL u t, .list 1 [.int .i64 x, .int .i64 y]] = some (.bool (decide (VA u t) && decide (allE [x, y] u.length))) := fm_atI_look u t [x, y] hu ht (by unfold Big; simp)
  rw [allE_two] at l1
  refine pcT [fm_atI, fm_nearI] fok_56 ?_
  unfold NeM
  cases hb : (decide (VA u t) && (inE u.length x && inE u.length y))
  · rw [hb] at l1
    simp [fa_56, l1, show List.range 2 = [0, 1] from rfl]
  · have h := hb
    rw [hb] at l1
    simp only [Bool.and_eq_true, decide_eq_true_eq, inE_iff] at h
    simp [fa_56, l1, h.1.tf, h.2, show List.range 2 = [0, 1] from rfl]
noncomputable def fm_NearI : Fam Try.prog := mkFam (X := List Int × List (List Int) × Int × Int) 56 true (fun (u, t, x, y) => [AL u t, I64 x, I64 y]) (fun (u, t, x, y) => (Big u.length) ∧ (BigR t)) (fun (u, t, x, y) => I64 (NeM u t x y)) (by
  rintro ⟨u, t, x, y⟩ ⟨hu, ht⟩
  exact NearI_pc u t x y hu ht)
@[simp] theorem fm_NearI_id : fm_NearI.id = 56 := rfl
@[simp] theorem fm_NearI_fresh : fm_NearI.fresh = true := rfl
@[simp] theorem fm_NearI_look (u : List Int) (t : List (List Int)) (x y : Int) (hu : Big u.length) (ht : BigR t) : fm_NearI.look [AL u t, I64 x, I64 y] = some (I64 (NeM u t x y)) :=
  lookF_of (X := List Int × List (List Int) × Int × Int) (args := fun (u, t, x, y) => [AL u t, I64 x, I64 y]) (pre := fun (u, t, x, y) => (Big u.length) ∧ (BigR t)) (val := fun (u, t, x, y) => I64 (NeM u t x y)) (by
  rintro ⟨u, t, x, y⟩ ⟨u', t', x', y'⟩ h
  simp at h
  try simp only [and_assoc] at h
  obtain ⟨rfl, rfl, rfl, rfl⟩ := h
  rfl) (u, t, x, y) ⟨hu, ht⟩
attribute [irreducible] fm_NearI
end Go.PS
end

section
-- PRINTED by gen.py: clean texts of functions, and their tie to the program.
set_option maxRecDepth 100000
namespace Go.PS
open Go.Proofs
/-- spec.setOf -/
def an_107 : Ann := ⟨[(1, 1, 16), (2, 2, 3), (2, 4, 16), (3, 2, 3), (3, 3, 16)], [(0, [0, 1]), (1, [0, 1, 7]), (2, [4]), (3, [4])], [], []⟩
def fa_107 : FnA := ⟨17, [.t 4],
  (.seq
    (.region false [⟨some 4, (.mv (.c (.int .i64 0))), 3, none, 0⟩] (some [0, 1]))
    (.seq
      (.seq
        (.region false [⟨some 5, (.mv (.t 0)), 72, none, 0⟩, ⟨some 6, (.call (.f 106) [(.t 5), (.c (.int .i64 24))]), 3, none, 16⟩, ⟨some 7, (.bin .eql 3 (.t 6) (.c (.int .i64 0))), 4, none, 0⟩] (some [0, 1, 7]))
        (.cond (.t 7)
          (.seq
            (.region false [⟨some 8, (.mv (.t 0)), 72, none, 0⟩, ⟨some 9, (.mv (.t 1)), 3, none, 0⟩, ⟨some 10, (.call (.f 121) [(.t 9)]), 3, none, 3⟩, ⟨some 11, (.bslice 23 3 [(0, (.c (.int .i64 (-1)))), (1, (.t 10)), (2, (.c (.int .i64 0)))]), 23, none, 0⟩, ⟨some 12, (.call (.f 161) [(.t 8), (.t 11)]), 3, none, 16⟩, ⟨some 4, (.mv (.t 12)), 3, none, 0⟩] (some [4]))
            .ret)
          .skip))
      (.seq
        (.region false [⟨some 13, (.mv (.t 0)), 72, none, 0⟩, ⟨some 14, (.mv (.t 1)), 3, none, 0⟩, ⟨some 15, (.call (.f 121) [(.t 14)]), 3, none, 3⟩, ⟨some 16, (.call (.f 106) [(.t 13), (.t 15)]), 3, none, 16⟩, ⟨some 4, (.mv (.t 16)), 3, none, 0⟩] (some [4]))
        .ret)))⟩
theorem fok_107 : FnOk Try.prog 107 fa_107 an_107 := ⟨Try.f107, _, Try.func107, rfl, by kernel_rfl, rfl, rfl, by decide, by kernel_rfl⟩
/-- spec.filterOf -/
def an_108 : Ann := ⟨[(1, 1, 3), (1, 5, 16), (2, 5, 16), (3, 1, 3), (4, 4, 16)], [(0, [0, 3]), (1, [0, 3, 13]), (2, [4]), (3, [0, 5]), (4, [4])], [], []⟩
def fa_108 : FnA := ⟨29, [.t 4],
  (.seq
    (.region false [⟨some 3, (.box 27 (.t 1)), 0, none, 0⟩, ⟨some 4, (.mv (.c (.int .i64 0))), 3, none, 0⟩] (some [0, 3]))
    (.seq
      (.seq
        (.region false (gops [⟨some 6, (.load 27 (.t 3)), 27, none, 0⟩, ⟨some 7, (.call (.f 111) [(.t 6)]), 4, none, 3⟩, ⟨some 8, (.un .not (.t 7)), 4, none, 0⟩, ⟨some 9, (.mv (.t 8)), 4, none, 0⟩, ⟨some 10, (.mv (.t 0)), 72, some (9, false), 0⟩, ⟨some 11, (.call (.f 106) [(.t 10), (.c (.int .i64 12))]), 3, some (9, false), 16⟩, ⟨some 12, (.bin .eql 3 (.t 11) (.c (.int .i64 0))), 4, some (9, false), 0⟩, ⟨some 13, (.pick (.t 9) (.c (.bool true)) (.t 12)), 4, none, 0⟩]) (some [0, 3, 13]))
        (.cond (.t 13)
          (.seq
            (.region false [⟨some 14, (.mv (.t 0)), 72, none, 0⟩, ⟨some 15, (.faddr 27 (.t 3) 0), 0, none, 0⟩, ⟨some 16, (.load 23 (.t 15)), 23, none, 0⟩, ⟨some 17, (.len 23 (.t 16)), 3, none, 0⟩, ⟨some 18, (.min (.t 17) (.c (.int .i64 6))), 3, none, 0⟩, ⟨some 19, (.call (.f 107) [(.t 14), (.t 18)]), 3, none, 16⟩, ⟨some 4, (.mv (.t 19)), 3, none, 0⟩] (some [4]))
            .ret)
          .skip))
      (.seq
        (.region false [⟨some 20, (.load 27 (.t 3)), 27, none, 0⟩, ⟨some 21, (.call (.f 119) [(.t 20)]), 23, none, 3⟩, ⟨some 5, (.mv (.t 21)), 23, none, 0⟩] (some [0, 5]))
        (.seq
          (.region false [⟨some 22, (.mv (.t 5)), 23, none, 0⟩, ⟨some 23, (.mv (.t 0)), 72, none, 0⟩, ⟨some 24, (.mv (.t 5)), 23, none, 0⟩, ⟨some 25, (.len 23 (.t 24)), 3, none, 0⟩, ⟨some 26, (.call (.f 106) [(.t 23), (.t 25)]), 3, none, 16⟩, ⟨some 27, (.iaddr 23 (.t 22) (.t 26)), 0, none, 0⟩, ⟨some 28, (.load 3 (.t 27)), 3, none, 0⟩, ⟨some 4, (.mv (.t 28)), 3, none, 0⟩] (some [4]))
          .ret))))⟩
theorem fok_108 : FnOk Try.prog 108 fa_108 an_108 := ⟨Try.f108, _, Try.func108, rfl, by kernel_rfl, rfl, rfl, by decide, by kernel_rfl⟩
end Go.PS
end

section
-- PRINTED by gen.py: clean texts of functions, and their tie to the program.
set_option maxRecDepth 100000
namespace Go.PS
open Go.Proofs
/-- spec.classes -/
def an_133 : Ann := ⟨[(1, 0, 1), (9, 4, 3), (9, 5, 3)], [(0, [1, 2]), (1, [1, 2, 5]), (2, [1, 2, 5, 6]), (3, [1, 2, 5, 6, 14]), (5, [1, 2, 5, 6, 7]), (6, [1, 2, 5, 6, 7, 8]), (7, [1, 2, 5, 6, 7, 8, 21]), (9, [1, 2, 5, 6, 7, 8, 30]), (10, [1, 2, 5, 6, 7, 8]), (8, [1, 2, 5, 6, 7, 8]), (11, [1, 2, 5, 6]), (4, [1, 2, 5, 6]), (12, [4])], [(3, [1, 2, 5, 6], [72, 280]), (7, [1, 2, 5, 6, 7, 8], [72, 280])], []⟩
def lb_133_7 : AC :=
  (.seq
    (.seq
      (.region false [⟨some 20, (.mv (.t 8)), 3, none, 0⟩, ⟨some 21, (.bin .geq 3 (.t 20) (.c (.int .i64 0))), 4, none, 0⟩] (some [1, 2, 5, 6, 7, 8, 21]))
      (.cond (.t 21)
        .skip
        (.exit 2)))
    (.seq
      (.block 3
        (.seq
          (.region false [⟨some 24, (.mv (.t 1)), 3, none, 0⟩, ⟨some 25, (.load 27 (.t 2)), 27, none, 0⟩, ⟨some 26, (.mv (.t 6)), 3, none, 0⟩, ⟨some 27, (.mv (.t 8)), 3, none, 0⟩, ⟨some 28, (.call (.f 176) [(.t 25), (.t 26), (.t 27)]), 3, none, 3⟩, ⟨some 29, (.call (.f 171) [(.t 24), (.t 28)]), 3, none, 3⟩, ⟨some 30, (.bin .eql 3 (.t 29) (.c (.int .i64 1))), 4, none, 0⟩] (some [1, 2, 5, 6, 7, 8, 30]))
          (.cond (.t 30)
            (.region false [⟨some 31, (.mv (.t 8)), 3, none, 0⟩, ⟨some 7, (.mv (.t 31)), 3, none, 0⟩] (some [1, 2, 5, 6, 7, 8]))
            .skip)))
      (.region false [⟨some 22, (.mv (.t 8)), 3, none, 0⟩, ⟨some 23, (.bin .sub 3 (.t 22) (.c (.int .i64 1))), 3, none, 0⟩, ⟨some 8, (.mv (.t 23)), 3, none, 0⟩] (some [1, 2, 5, 6, 7, 8]))))
def lb_133_3 : AC :=
  (.seq
    (.seq
      (.region false [⟨some 10, (.mv (.t 6)), 3, none, 0⟩, ⟨some 11, (.faddr 27 (.t 2) 0), 0, none, 0⟩, ⟨some 12, (.load 23 (.t 11)), 23, none, 0⟩, ⟨some 13, (.len 23 (.t 12)), 3, none, 0⟩, ⟨some 14, (.bin .lss 3 (.t 10) (.t 13)), 4, none, 0⟩] (some [1, 2, 5, 6, 14]))
      (.cond (.t 14)
        .skip
        (.exit 0)))
    (.seq
      (.block 1
        (.seq
          (.region false [⟨some 17, (.mv (.t 6)), 3, none, 0⟩, ⟨some 7, (.mv (.t 17)), 3, none, 0⟩] (some [1, 2, 5, 6, 7]))
          (.seq
            (.seq
              (.region false [⟨some 18, (.mv (.t 6)), 3, none, 0⟩, ⟨some 19, (.bin .sub 3 (.t 18) (.c (.int .i64 1))), 3, none, 0⟩, ⟨some 8, (.mv (.t 19)), 3, none, 0⟩] (some [1, 2, 5, 6, 7, 8]))
              (.block 2
                (.loop [1, 2, 5, 6, 7, 8] [72, 280] lb_133_7)))
            (.region false [⟨some 32, (.mv (.t 5)), 23, none, 0⟩, ⟨some 33, (.mv (.t 7)), 3, none, 0⟩, ⟨some 34, (.bslice 23 1 [(0, (.t 33))]), 23, none, 0⟩, ⟨some 35, (.app 23 23 (.t 32) (.t 34)), 23, none, 0⟩, ⟨some 5, (.mv (.t 35)), 23, none, 0⟩] (some [1, 2, 5, 6])))))
      (.region false [⟨some 15, (.mv (.t 6)), 3, none, 0⟩, ⟨some 16, (.bin .add 3 (.t 15) (.c (.int .i64 1))), 3, none, 0⟩, ⟨some 6, (.mv (.t 16)), 3, none, 0⟩] (some [1, 2, 5, 6]))))
def fa_133 : FnA := ⟨37, [.t 4],
  (.seq
    (.region false [⟨some 2, (.box 27 (.t 0)), 0, none, 0⟩, ⟨some 4, (.mv (.c .nil)), 23, none, 0⟩] (some [1, 2]))
    (.seq
      (.region false [⟨some 9, (.bslice 23 0 []), 23, none, 1⟩, ⟨some 5, (.mv (.t 9)), 23, none, 0⟩] (some [1, 2, 5]))
      (.seq
        (.seq
          (.region false [⟨some 6, (.mv (.c (.int .i64 0))), 3, none, 0⟩] (some [1, 2, 5, 6]))
          (.block 0
            (.loop [1, 2, 5, 6] [72, 280] lb_133_3)))
        (.seq
          (.region false [⟨some 36, (.mv (.t 5)), 23, none, 0⟩, ⟨some 4, (.mv (.t 36)), 23, none, 0⟩] (some [4]))
          .ret))))⟩
theorem fok_133 : FnOk Try.prog 133 fa_133 an_133 := ⟨Try.f133, _, Try.func133, rfl, by kernel_rfl, rfl, rfl, by decide, by kernel_rfl⟩
/-- spec.ClassesOf -/
def an_55 : Ann := ⟨[(1, 1, 3), (1, 6, 3), (3, 2, 3)], [(0, [1, 2]), (1, [1, 2, 13]), (2, [4]), (3, [4])], [], []⟩
def fa_55 : FnA := ⟨17, [.t 4],
  (.seq
    (.region false [⟨some 2, (.box 27 (.t 0)), 0, none, 0⟩, ⟨some 4, (.mv (.c .nil)), 23, none, 0⟩] (some [1, 2]))
    (.seq
      (.seq
        (.region false (gops [⟨some 5, (.load 27 (.t 2)), 27, none, 0⟩, ⟨some 6, (.call (.f 111) [(.t 5)]), 4, none, 3⟩, ⟨some 7, (.un .not (.t 6)), 4, none, 0⟩, ⟨some 8, (.mv (.t 7)), 4, none, 0⟩, ⟨some 9, (.load 27 (.t 2)), 27, some (8, false), 0⟩, ⟨some 10, (.mv (.t 1)), 3, some (8, false), 0⟩, ⟨some 11, (.call (.f 112) [(.t 9), (.t 10)]), 4, some (8, false), 3⟩, ⟨some 12, (.un .not (.t 11)), 4, some (8, false), 0⟩, ⟨some 13, (.pick (.t 8) (.c (.bool true)) (.t 12)), 4, none, 0⟩]) (some [1, 2, 13]))
        (.cond (.t 13)
          (.seq
            (.region false [⟨some 4, (.mv (.c .nil)), 23, none, 0⟩] (some [4]))
            .ret)
          .skip))
      (.seq
        (.region false [⟨some 14, (.load 27 (.t 2)), 27, none, 0⟩, ⟨some 15, (.mv (.t 1)), 3, none, 0⟩, ⟨some 16, (.call (.f 133) [(.t 14), (.t 15)]), 23, none, 3⟩, ⟨some 4, (.mv (.t 16)), 23, none, 0⟩] (some [4]))
        .ret)))⟩
theorem fok_55 : FnOk Try.prog 55 fa_55 an_55 := ⟨Try.f55, _, Try.func55, rfl, by kernel_rfl, rfl, rfl, by decide, by kernel_rfl⟩
/-- impl.classes -/
def an_132 : Ann := ⟨[(1, 0, 1), (6, 4, 3), (6, 5, 3)], [(0, [1, 2]), (1, [1, 2, 5]), (2, [1, 2, 5, 11, 12]), (3, [1, 2, 5, 11, 12, 13]), (4, [1, 2, 5, 6, 11, 12]), (5, [1, 2, 5, 6, 7, 11, 12]), (6, [1, 2, 5, 6, 7, 11, 12, 21]), (7, [1, 2, 5, 6, 7, 11, 12]), (8, [1, 2, 5, 11, 12]), (9, [1, 2, 5, 11, 12]), (10, [4])], [(3, [1, 2, 5, 11, 12], [64, 216]), (6, [1, 2, 5, 6, 7, 11, 12], [64, 216])], []⟩
def lb_132_6 : AC :=
  (.seq
    (.seq
      (.region false [⟨some 15, (.mv (.t 1)), 3, none, 0⟩, ⟨some 16, (.load 27 (.t 2)), 27, none, 0⟩, ⟨some 17, (.mv (.t 6)), 3, none, 0⟩, ⟨some 18, (.mv (.t 7)), 3, none, 0⟩, ⟨some 19, (.call (.f 134) [(.t 16), (.t 17), (.t 18)]), 3, none, 3⟩, ⟨some 20, (.call (.f 170) [(.t 15), (.t 19)]), 4, none, 3⟩, ⟨some 21, (.un .not (.t 20)), 4, none, 0⟩] (some [1, 2, 5, 6, 7, 11, 12, 21]))
      (.cond (.t 21)
        .skip
        (.exit 2)))
    (.block 3
      (.region false [⟨some 22, (.mv (.t 7)), 3, none, 0⟩, ⟨some 23, (.bin .add 3 (.t 22) (.c (.int .i64 1))), 3, none, 0⟩, ⟨some 7, (.mv (.t 23)), 3, none, 0⟩] (some [1, 2, 5, 6, 7, 11, 12]))))
def lb_132_3 : AC :=
  (.seq
    (.region false [⟨some 13, (.bin .lss 3 (.t 12) (.t 11)), 0, none, 0⟩] (some [1, 2, 5, 11, 12, 13]))
    (.seq
      (.cond (.t 13)
        .skip
        (.exit 0))
      (.seq
        (.block 1
          (.seq
            (.region false [⟨some 14, (.mv (.t 12)), 3, none, 0⟩, ⟨some 6, (.mv (.t 14)), 3, none, 0⟩] (some [1, 2, 5, 6, 11, 12]))
            (.seq
              (.region false [⟨some 7, (.mv (.c (.int .i64 0))), 3, none, 0⟩] (some [1, 2, 5, 6, 7, 11, 12]))
              (.seq
                (.block 2
                  (.loop [1, 2, 5, 6, 7, 11, 12] [64, 216] lb_132_6))
                (.region false [⟨some 24, (.mv (.t 5)), 23, none, 0⟩, ⟨some 25, (.mv (.t 7)), 3, none, 0⟩, ⟨some 26, (.bslice 23 1 [(0, (.t 25))]), 23, none, 0⟩, ⟨some 27, (.app 23 23 (.t 24) (.t 26)), 23, none, 0⟩, ⟨some 5, (.mv (.t 27)), 23, none, 0⟩] (some [1, 2, 5, 11, 12]))))))
        (.region false [⟨some 28, (.bin .add 3 (.t 12) (.c (.int .i64 1))), 3, none, 0⟩, ⟨some 12, (.mv (.t 28)), 3, none, 0⟩] (some [1, 2, 5, 11, 12])))))
def fa_132 : FnA := ⟨30, [.t 4],
  (.seq
    (.region false [⟨some 2, (.box 27 (.t 0)), 0, none, 0⟩, ⟨some 4, (.mv (.c .nil)), 23, none, 0⟩] (some [1, 2]))
    (.seq
      (.region false [⟨some 8, (.bslice 23 0 []), 23, none, 1⟩, ⟨some 5, (.mv (.t 8)), 23, none, 0⟩] (some [1, 2, 5]))
      (.seq
        (.seq
          (.region false [⟨some 9, (.faddr 27 (.t 2) 0), 0, none, 0⟩, ⟨some 10, (.load 23 (.t 9)), 23, none, 0⟩, ⟨some 11, (.len 23 (.t 10)), 3, none, 0⟩, ⟨some 12, (.mv (.c (.int .i64 0))), 3, none, 0⟩] (some [1, 2, 5, 11, 12]))
          (.block 0
            (.loop [1, 2, 5, 11, 12] [64, 216] lb_132_3)))
        (.seq
          (.region false [⟨some 29, (.mv (.t 5)), 23, none, 0⟩, ⟨some 4, (.mv (.t 29)), 23, none, 0⟩] (some [4]))
          .ret))))⟩
theorem fok_132 : FnOk Try.prog 132 fa_132 an_132 := ⟨Try.f132, _, Try.func132, rfl, by kernel_rfl, rfl, rfl, by decide, by kernel_rfl⟩
/-- impl.ClassesOf -/
def an_54 : Ann := ⟨[(1, 2, 3), (3, 2, 3)], [(0, [1, 2]), (1, [1, 2, 8]), (2, [4]), (3, [4])], [], []⟩
def fa_54 : FnA := ⟨12, [.t 4],
  (.seq
    (.region false [⟨some 2, (.box 27 (.t 0)), 0, none, 0⟩, ⟨some 4, (.mv (.c .nil)), 23, none, 0⟩] (some [1, 2]))
    (.seq
      (.seq
        (.region false [⟨some 5, (.load 27 (.t 2)), 27, none, 0⟩, ⟨some 6, (.mv (.t 1)), 3, none, 0⟩, ⟨some 7, (.call (.f 27) [(.t 5), (.t 6)]), 4, none, 3⟩, ⟨some 8, (.un .not (.t 7)), 4, none, 0⟩] (some [1, 2, 8]))
        (.cond (.t 8)
          (.seq
            (.region false [⟨some 4, (.mv (.c .nil)), 23, none, 0⟩] (some [4]))
            .ret)
          .skip))
      (.seq
        (.region false [⟨some 9, (.load 27 (.t 2)), 27, none, 0⟩, ⟨some 10, (.mv (.t 1)), 3, none, 0⟩, ⟨some 11, (.call (.f 132) [(.t 9), (.t 10)]), 23, none, 3⟩, ⟨some 4, (.mv (.t 11)), 23, none, 0⟩] (some [4]))
        .ret)))⟩
theorem fok_54 : FnOk Try.prog 54 fa_54 an_54 := ⟨Try.f54, _, Try.func54, rfl, by kernel_rfl, rfl, rfl, by decide, by kernel_rfl⟩
/-- spec.DrawClassesOf -/
def ex_53_3_63 : Ex := .fin
def ex_53_3_31 : Ex := .one 5 ex_53_3_63
def ex_53_3_15 : Ex := (.alt 4 ex_53_3_31 .stop)
def ex_53_3_14 : Ex := (.alt 0 ex_53_3_15 .stop)
def ex_53_3_7 : Ex := (.alt 3 ex_53_3_15 .stop)
def ex_53_3_6 : Ex := (.alt 0 ex_53_3_7 (.alt 3 ex_53_3_14 .stop))
def ex_53_3_3 : Ex := (.alt 2 ex_53_3_7 .stop)
def ex_53_3_2 : Ex := (.alt 0 ex_53_3_3 (.alt 2 ex_53_3_6 .stop))
def ex_53_3_0 : Ex := .one 1 ex_53_3_2
def ro_53_3 : List AOper := [⟨some 10, (.load 27 (.t 5)), 27, none, 0⟩, ⟨some 11, (.mv (.t 4)), 72, none, 0⟩, ⟨some 12, (.load 27 (.t 5)), 27, none, 0⟩, ⟨some 13, (.call (.f 108) [(.t 11), (.t 12)]), 3, none, 16⟩, ⟨none, (.store 27 (.t 2) (.t 10)), 0, none, 0⟩, ⟨some 3, (.mv (.t 13)), 3, none, 0⟩]
theorem ro_53_3_0 : ro_53_3[0]? = some ⟨some 10, (.load 27 (.t 5)), 27, none, 0⟩ := (rfl)
theorem ro_53_3_1 : ro_53_3[1]? = some ⟨some 11, (.mv (.t 4)), 72, none, 0⟩ := (rfl)
theorem ro_53_3_2 : ro_53_3[2]? = some ⟨some 12, (.load 27 (.t 5)), 27, none, 0⟩ := (rfl)
theorem ro_53_3_3 : ro_53_3[3]? = some ⟨some 13, (.call (.f 108) [(.t 11), (.t 12)]), 3, none, 16⟩ := (rfl)
theorem ro_53_3_4 : ro_53_3[4]? = some ⟨none, (.store 27 (.t 2) (.t 10)), 0, none, 0⟩ := (rfl)
theorem ro_53_3_5 : ro_53_3[5]? = some ⟨some 3, (.mv (.t 13)), 3, none, 0⟩ := (rfl)
def an_53 : Ann := ⟨[(1, 1, 16), (2, 1, 16), (3, 3, 16)], [(0, [0, 2]), (1, [2, 4]), (2, [2, 4, 5]), (3, [2, 3])], [], [(3, ex_53_3_0, [16, 72, 104])]⟩
def fa_53 : FnA := ⟨14, [.c 2 27, .t 3],
  (.seq
    (.region false [⟨some 2, (.alloc 27), 0, none, 0⟩, ⟨some 3, (.mv (.c (.int .i64 0))), 3, none, 0⟩] (some [0, 2]))
    (.seq
      (.region false [⟨some 6, (.mv (.t 0)), 22, none, 0⟩, ⟨some 7, (.call (.f 90) [(.t 6)]), 72, none, 16⟩, ⟨some 4, (.mv (.t 7)), 72, none, 0⟩] (some [2, 4]))
      (.seq
        (.region false [⟨some 8, (.mv (.t 4)), 72, none, 0⟩, ⟨some 9, (.call (.f 105) [(.t 8)]), 27, none, 16⟩, ⟨some 5, (.alloc 27), 0, none, 0⟩, ⟨none, (.store 27 (.t 5) (.t 9)), 0, none, 0⟩] (some [2, 4, 5]))
        (.seq
          (.expl ro_53_3 ex_53_3_0 [2, 3] [16, 72, 104])
          .ret))))⟩
theorem fok_53 : FnOk Try.prog 53 fa_53 an_53 := ⟨Try.f53, _, Try.func53, rfl, by kernel_rfl, rfl, rfl, by decide, by kernel_rfl⟩
/-- laws.FnClassesOf -/
def an_10 : Ann := ⟨[(3, 1, 3), (4, 2, 3), (5, 3, 3), (5, 4, 3), (6, 3, 3), (6, 4, 3), (14, 13, 3), (14, 14, 3), (16, 12, 3)], [(0, [0]), (1, [0, 11]), (2, [2]), (3, [3, 4]), (4, [3, 4, 5]), (5, [3, 4, 5, 30]), (6, [2]), (7, [3, 4, 5, 6]), (8, [3, 4, 5, 6, 7]), (9, [3, 4, 5, 6, 7, 41]), (11, [3, 4, 5, 6, 7, 8]), (12, [3, 4, 5, 6, 7, 8, 46]), (14, [3, 4, 5, 6, 7, 8, 65]), (15, [2]), (13, [3, 4, 5, 6, 7, 8]), (16, [3, 4, 5, 6, 7, 88]), (17, [2]), (10, [3, 4, 5, 6, 7]), (18, [2])], [(9, [3, 4, 5, 6, 7], [24]), (12, [3, 4, 5, 6, 7, 8], [24])], []⟩
def lb_10_12 : AC :=
  (.seq
    (.seq
      (.region false [⟨some 44, (.mv (.t 8)), 3, none, 0⟩, ⟨some 45, (.mv (.t 6)), 3, none, 0⟩, ⟨some 46, (.bin .lss 3 (.t 44) (.t 45)), 4, none, 0⟩] (some [3, 4, 5, 6, 7, 8, 46]))
      (.cond (.t 46)
        .skip
        (.exit 2)))
    (.seq
      (.block 3
        (.seq
          (.region true [⟨some 49, (.mv (.t 5)), 23, none, 0⟩, ⟨some 50, (.mv (.t 7)), 3, none, 0⟩, ⟨some 51, (.iaddr 23 (.t 49) (.t 50)), 0, none, 0⟩, ⟨some 52, (.load 3 (.t 51)), 3, none, 0⟩, ⟨some 53, (.mv (.t 5)), 23, none, 0⟩, ⟨some 54, (.mv (.t 8)), 3, none, 0⟩, ⟨some 55, (.iaddr 23 (.t 53) (.t 54)), 0, none, 0⟩, ⟨some 56, (.load 3 (.t 55)), 3, none, 0⟩, ⟨some 57, (.bin .eql 3 (.t 52) (.t 56)), 4, none, 0⟩, ⟨some 58, (.mv (.t 4)), 3, none, 0⟩, ⟨some 59, (.load 27 (.t 3)), 27, none, 0⟩, ⟨some 60, (.mv (.t 7)), 3, none, 0⟩, ⟨some 61, (.mv (.t 8)), 3, none, 0⟩, ⟨some 62, (.call (.f 56) [(.t 59), (.t 60), (.t 61)]), 3, none, 3⟩, ⟨some 63, (.call (.f 47) [(.t 58), (.t 62)]), 3, none, 3⟩, ⟨some 64, (.bin .eql 3 (.t 63) (.c (.int .i64 1))), 4, none, 0⟩, ⟨some 65, (.bin .neq 4 (.t 57) (.t 64)), 4, none, 0⟩] (some [3, 4, 5, 6, 7, 8, 65]))
          (.cond (.t 65)
            (.seq
              (.region false [⟨some 2, (.mv (.c (.bool false))), 4, none, 0⟩] (some [2]))
              .ret)
            .skip)))
      (.region false [⟨some 47, (.mv (.t 8)), 3, none, 0⟩, ⟨some 48, (.bin .add 3 (.t 47) (.c (.int .i64 1))), 3, none, 0⟩, ⟨some 8, (.mv (.t 48)), 3, none, 0⟩] (some [3, 4, 5, 6, 7, 8]))))
def lb_10_9 : AC :=
  (.seq
    (.seq
      (.region false [⟨some 39, (.mv (.t 7)), 3, none, 0⟩, ⟨some 40, (.mv (.t 6)), 3, none, 0⟩, ⟨some 41, (.bin .lss 3 (.t 39) (.t 40)), 4, none, 0⟩] (some [3, 4, 5, 6, 7, 41]))
      (.cond (.t 41)
        .skip
        (.exit 0)))
    (.seq
      (.block 1
        (.seq
          (.seq
            (.region false [⟨some 8, (.mv (.c (.int .i64 0))), 3, none, 0⟩] (some [3, 4, 5, 6, 7, 8]))
            (.block 2
              (.loop [3, 4, 5, 6, 7, 8] [24] lb_10_12)))
          (.seq
            (.region true (gops (seg [3, 4, 5, 6, 7, 75] [⟨some 66, (.mv (.t 5)), 23, none, 0⟩, ⟨some 67, (.mv (.t 7)), 3, none, 0⟩, ⟨some 68, (.iaddr 23 (.t 66) (.t 67)), 0, none, 0⟩, ⟨some 69, (.load 3 (.t 68)), 3, none, 0⟩, ⟨some 70, (.mv (.t 5)), 23, none, 0⟩, ⟨some 71, (.mv (.t 6)), 3, none, 0⟩, ⟨some 72, (.bin .sub 3 (.t 71) (.c (.int .i64 1))), 3, none, 0⟩, ⟨some 73, (.iaddr 23 (.t 70) (.t 72)), 0, none, 0⟩, ⟨some 74, (.load 3 (.t 73)), 3, none, 0⟩, ⟨some 75, (.bin .eql 3 (.t 69) (.t 74)), 4, none, 0⟩]
            [⟨some 76, (.mv (.t 4)), 3, none, 0⟩, ⟨some 77, (.mv (.t 7)), 3, none, 0⟩, ⟨some 78, (.call (.f 47) [(.t 76), (.t 77)]), 3, none, 3⟩, ⟨some 79, (.bin .eql 3 (.t 78) (.c (.int .i64 1))), 4, none, 0⟩, ⟨some 80, (.bin .neq 4 (.t 75) (.t 79)), 4, none, 0⟩, ⟨some 81, (.mv (.t 80)), 4, none, 0⟩, ⟨some 82, (.mv (.t 5)), 23, some (81, false), 0⟩, ⟨some 83, (.mv (.t 7)), 3, some (81, false), 0⟩, ⟨some 84, (.iaddr 23 (.t 82) (.t 83)), 0, some (81, false), 0⟩, ⟨some 85, (.load 3 (.t 84)), 3, some (81, false), 0⟩, ⟨some 86, (.mv (.t 7)), 3, some (81, false), 0⟩, ⟨some 87, (.bin .gtr 3 (.t 85) (.t 86)), 4, some (81, false), 0⟩, ⟨some 88, (.pick (.t 81) (.c (.bool true)) (.t 87)), 4, none, 0⟩] [3, 4, 5, 6, 7, 88] (by decide))) (some [3, 4, 5, 6, 7, 88]))
            (.cond (.t 88)
              (.seq
                (.region false [⟨some 2, (.mv (.c (.bool false))), 4, none, 0⟩] (some [2]))
                .ret)
              .skip))))
      (.region false [⟨some 42, (.mv (.t 7)), 3, none, 0⟩, ⟨some 43, (.bin .add 3 (.t 42) (.c (.int .i64 1))), 3, none, 0⟩, ⟨some 7, (.mv (.t 43)), 3, none, 0⟩] (some [3, 4, 5, 6, 7]))))
def fa_10 : FnA := ⟨89, [.t 2],
  (.seq
    (.region false [⟨some 2, (.mv (.c (.bool false))), 4, none, 0⟩] (some [0]))
    (.seq
      (.seq
        (.region false [⟨some 9, (.mv (.t 0)), 22, none, 0⟩, ⟨some 10, (.len 22 (.t 9)), 3, none, 0⟩, ⟨some 11, (.bin .gtr 3 (.t 10) (.c (.int .i64 1048576))), 4, none, 0⟩] (some [0, 11]))
        (.cond (.t 11)
          (.seq
            (.region false [⟨some 2, (.mv (.c (.bool true))), 4, none, 0⟩] (some [2]))
            .ret)
          .skip))
      (.seq
        (.region false [⟨some 13, (.mv (.t 0)), 22, none, 0⟩, ⟨some 14, (.call (.f 53) [(.t 13)]), 35, none, 3⟩, ⟨some 12, (.mv (.t 14)), 35, none, 0⟩, ⟨some 15, (.ext (.t 12) 0), 27, none, 0⟩, ⟨some 16, (.ext (.t 12) 1), 3, none, 0⟩, ⟨some 3, (.alloc 27), 0, none, 0⟩, ⟨none, (.store 27 (.t 3) (.t 15)), 0, none, 0⟩, ⟨some 4, (.mv (.t 16)), 3, none, 0⟩] (some [3, 4]))
        (.seq
          (.region false [⟨some 17, (.load 27 (.t 3)), 27, none, 0⟩, ⟨some 18, (.mv (.t 4)), 3, none, 0⟩, ⟨some 19, (.call (.f 54) [(.t 17), (.t 18)]), 23, none, 3⟩, ⟨some 5, (.mv (.t 19)), 23, none, 0⟩] (some [3, 4, 5]))
          (.seq
            (.seq
              (.region false (gops [⟨some 20, (.mv (.t 5)), 23, none, 0⟩, ⟨some 21, (.load 27 (.t 3)), 27, none, 0⟩, ⟨some 22, (.mv (.t 4)), 3, none, 0⟩, ⟨some 23, (.call (.f 55) [(.t 21), (.t 22)]), 23, none, 3⟩, ⟨some 24, (.call (.f 25) [(.t 20), (.t 23)]), 4, none, 3⟩, ⟨some 25, (.un .not (.t 24)), 4, none, 0⟩, ⟨some 26, (.mv (.t 25)), 4, none, 0⟩, ⟨some 27, (.mv (.t 5)), 23, some (26, false), 0⟩, ⟨some 28, (.len 23 (.t 27)), 3, some (26, false), 0⟩, ⟨some 29, (.bin .eql 3 (.t 28) (.c (.int .i64 0))), 4, some (26, false), 0⟩, ⟨some 30, (.pick (.t 26) (.c (.bool true)) (.t 29)), 4, none, 0⟩]) (some [3, 4, 5, 30]))
              (.cond (.t 30)
                (.seq
                  (.region false [⟨some 31, (.mv (.t 5)), 23, none, 0⟩, ⟨some 32, (.load 27 (.t 3)), 27, none, 0⟩, ⟨some 33, (.mv (.t 4)), 3, none, 0⟩, ⟨some 34, (.call (.f 55) [(.t 32), (.t 33)]), 23, none, 3⟩, ⟨some 35, (.call (.f 25) [(.t 31), (.t 34)]), 4, none, 3⟩, ⟨some 2, (.mv (.t 35)), 4, none, 0⟩] (some [2]))
                  .ret)
                .skip))
            (.seq
              (.region false [⟨some 36, (.faddr 27 (.t 3) 0), 0, none, 0⟩, ⟨some 37, (.load 23 (.t 36)), 23, none, 0⟩, ⟨some 38, (.len 23 (.t 37)), 3, none, 0⟩, ⟨some 6, (.mv (.t 38)), 3, none, 0⟩] (some [3, 4, 5, 6]))
              (.seq
                (.seq
                  (.region false [⟨some 7, (.mv (.c (.int .i64 0))), 3, none, 0⟩] (some [3, 4, 5, 6, 7]))
                  (.block 0
                    (.loop [3, 4, 5, 6, 7] [24] lb_10_9)))
                (.seq
                  (.region false [⟨some 2, (.mv (.c (.bool true))), 4, none, 0⟩] (some [2]))
                  .ret))))))))⟩
theorem fok_10 : FnOk Try.prog 10 fa_10 an_10 := ⟨Try.f10, _, Try.func10, rfl, by kernel_rfl, rfl, rfl, by decide, by kernel_rfl⟩
end Go.PS
end

section
-- Contracts: classes by a filter.
set_option maxRecDepth 100000
set_option linter.unusedVariables false
set_option linter.unusedSimpArgs false
namespace Go.PS
open Go.Proofs

theorem near_nr {u : List Int} {t : List (List Int)} {x y : Nat} (a : VA u t) : tm t (implyM u t x y).toNat (implyM u t y x).toNat = (nr u t x y : Nat) := a.tn_int a.im_lt a.im_lt
theorem cls_int {u : List Int} {t : List (List Int)} {f x k : Nat} (hk : k < u.length) (h : f.testBit (nr u t x k) = true) (hj : ∀ j, j < k → f.testBit (nr u t x j) = false) : clsI u t f x = k := firstI_some hk h hj
theorem clsS_pc (u : List Int) (t : List (List Int)) (f : Int) (a : VA u t) (hf : FI u t f.toNat) (h0 : 0 ≤ f) : PC Try.prog 133 [AL u t, I64 f] none true (fun r _ => r = IO1 (tl u.length (clsI u t f.toNat))) := by
  obtain ⟨f, rfl⟩ := Int.eq_ofNat_of_zero_le h0
  simp only [Int.toNat_natCast] at hf ⊢
  have v := a.lat
  have tf := a.tf
  have h6 := v.six
  have h64 := p2le h6
  have hul : u.length ≤ 1099511627776 := by omega
  have hlt := hf.lt
  refine pcT [fm_nearS, fm_bitS] fok_133 ?_
  simp [fa_133]
  refine loopX (tabK_mono _) u.length (fun i γ => [(5, .arr 72 γ), (6, I64 i)]) (fun i γ => [⟨72, γ, .arr 1 (ints (tl i (clsI u t f)))⟩]) (fun _ _ => True) 1 (by simp) (by simp [tl_zero, ints_nil]) trivial (fun x γ g hx _ => ?_)
  simp [lb_133_3, wrap_succ hx hul]
  refine ⟨fun h => ?_, fun h => ?_⟩
  · refine loopX (tabK_mono _) x (fun i c => [(7, I64 ((c : Nat) : Int)), (8, I64 ((x : Int) - 1 - i))]) (fun _ _ => [⟨72, γ, .arr 1 (ints (tl x (clsI u t f)))⟩]) (fun i c => c ≤ x ∧ f.testBit (nr u t x c) = true ∧ ∀ j, x - i ≤ j → j < c → f.testBit (nr u t x j) = false) x (by simp [wrap64 (n := (x : Int) - 1) (by omega) (by omega)]) (by simp) ⟨Nat.le_refl _, hf.nr_self a h, fun j h1 h2 => by omega⟩ (fun i c g2 hi hP => ?_)
    simp [lb_133_7]
    refine ⟨fun h2 => ?_, fun h2 => ?_⟩
    · obtain ⟨y, hy⟩ : ∃ y : Nat, y + i + 1 = x := ⟨x - 1 - i, by omega⟩
      have ey : (x : Int) - 1 - i = y := by omega
      have l1 := fm_nearS_look u t x y tf (by omega) (by omega) (by omega) (by omega)
      simp only [Int.toNat_natCast] at l1
      rw [near_nr a] at l1
      have hn := a.nr_lt (x := x) (y := y)
      have w1 : IntKind.i64.wrap ((y : Int) - 1) = (x : Int) - 1 - (i + 1 : Nat) := by rw [wrap64 (by omega) (by omega)]; omega
      have hcase : ∀ w, w = nr u t x y → f.testBit w = f.testBit (nr u t x y) := fun w e => by rw [e]
      generalize hw : nr u t x y = w at l1 hn
      simp only [ey]
      simp [l1, w1, show (f : Int) < 64 by omega, show (w : Int) ≤ 61 by omega]
      refine ⟨fun hb => ?_, fun hb => ?_⟩
      · refine ⟨by omega, y, rfl, by omega, by rw [hw]; exact hb, fun j h1 h2 => by omega⟩
      · refine ⟨by omega, c, rfl, hP.1, hP.2.1, fun j h1 h2 => ?_⟩
        by_cases e : j = y
        · rw [e, hw]; exact hb
        · exact hP.2.2 j (by omega) h2
    · obtain rfl : i = x := by omega
      have e := cls_int (t := t) (f := f) (x := i) (k := c) (by omega) hP.2.1 (fun j hj => hP.2.2 j (by omega) hj)
      have hl : (tl i (clsI u t f)).length = i := tl_length
      simp [wrap_succ hx hul, tl_succ, e, h]
      exact leBig (by omega)
  · obtain rfl : x = u.length := by omega
    simp
noncomputable def fm_clsS : Fam Try.prog := mkFam (X := List Int × List (List Int) × Int) 133 true (fun (u, t, f) => [AL u t, I64 f]) (fun (u, t, f) => (VA u t) ∧ (FI u t f.toNat) ∧ (0 ≤ f)) (fun (u, t, f) => IO1 (tl u.length (clsI u t f.toNat))) (by
  rintro ⟨u, t, f⟩ ⟨a, hf, h0⟩
  exact clsS_pc u t f a hf h0)
@[simp] theorem fm_clsS_id : fm_clsS.id = 133 := rfl
@[simp] theorem fm_clsS_fresh : fm_clsS.fresh = true := rfl
@[simp] theorem fm_clsS_look (u : List Int) (t : List (List Int)) (f : Int) (a : VA u t) (hf : FI u t f.toNat) (h0 : 0 ≤ f) : fm_clsS.look [AL u t, I64 f] = some (IO1 (tl u.length (clsI u t f.toNat))) :=
  lookF_of (X := List Int × List (List Int) × Int) (args := fun (u, t, f) => [AL u t, I64 f]) (pre := fun (u, t, f) => (VA u t) ∧ (FI u t f.toNat) ∧ (0 ≤ f)) (val := fun (u, t, f) => IO1 (tl u.length (clsI u t f.toNat))) (by
  rintro ⟨u, t, f⟩ ⟨u', t', f'⟩ h
  simp at h
  try simp only [and_assoc] at h
  obtain ⟨rfl, rfl, rfl⟩ := h
  rfl) (u, t, f) ⟨a, hf, h0⟩
attribute [irreducible] fm_clsS
theorem clsII_pc (u : List Int) (t : List (List Int)) (f : Int) (a : VA u t) (hf : FI u t f.toNat) (h0 : 0 ≤ f) : PC Try.prog 132 [AL u t, I64 f] none true (fun r _ => r = IO1 (tl u.length (clsI u t f.toNat))) := by
  obtain ⟨f, rfl⟩ := Int.eq_ofNat_of_zero_le h0
  simp only [Int.toNat_natCast] at hf ⊢
  have v := a.lat
  have tf := a.tf
  have h6 := v.six
  have h64 := p2le h6
  have hul : u.length ≤ 1099511627776 := by omega
  have hlt := hf.lt
  refine pcT [fm_nearI, fm_hasI] fok_132 ?_
  simp [fa_132]
  refine loopX (tabK_mono _) u.length (fun i γ => [(5, .arr 64 γ), (12, I64 i)]) (fun i γ => [⟨64, γ, .arr 1 (ints (tl i (clsI u t f)))⟩]) (fun _ _ => True) 1 (by simp) (by simp [tl_zero, ints_nil]) trivial (fun x γ g hx _ => ?_)
  simp [lb_132_3, wrap_succ hx hul]
  refine ⟨fun h => ?_, fun h => ?_⟩
  · have hself := hf.nr_self a h
    refine loopA (tabK_mono _) x (fun i => [(7, I64 i)]) (fun _ => [⟨64, γ, .arr 1 (ints (tl x (clsI u t f)))⟩]) (fun j => f.testBit (nr u t x j) = false) (by simp) (by simp) (fun y g2 hy hP => ?_)
    have l1 := fm_nearI_look u t x y tf (by omega) (by omega) (by omega) (by omega)
    simp only [Int.toNat_natCast] at l1
    rw [near_nr a] at l1
    have hn := a.nr_lt (x := x) (y := y)
    have e := cls_int (u := u) (t := t) (f := f) (x := x) (k := y) (by omega)
    have hne : f.testBit (nr u t x y) = false → y < x := fun hb => by
      rcases Nat.lt_or_ge y x with c | c
      · exact c
      · have : y = x := by omega
        rw [this, hself] at hb; cases hb
    generalize hw : nr u t x y = w at l1 hn e hne
    simp [lb_132_6, l1, show (w : Int) ≤ 63 by omega, wrap_succ hy (show x ≤ 1099511627776 by omega)]
    have hl : (tl x (clsI u t f)).length = x := tl_length
    refine ⟨fun hb => ⟨hne hb, by rw [hw]; exact hb⟩, fun hb => ?_⟩
    have e := e hb hP
    simp [wrap_succ hx hul, tl_succ, e, h]
    exact leBig (by omega)
  · obtain rfl : x = u.length := by omega
    simp
noncomputable def fm_clsII : Fam Try.prog := mkFam (X := List Int × List (List Int) × Int) 132 true (fun (u, t, f) => [AL u t, I64 f]) (fun (u, t, f) => (VA u t) ∧ (FI u t f.toNat) ∧ (0 ≤ f)) (fun (u, t, f) => IO1 (tl u.length (clsI u t f.toNat))) (by
  rintro ⟨u, t, f⟩ ⟨a, hf, h0⟩
  exact clsII_pc u t f a hf h0)
@[simp] theorem fm_clsII_id : fm_clsII.id = 132 := rfl
@[simp] theorem fm_clsII_fresh : fm_clsII.fresh = true := rfl
@[simp] theorem fm_clsII_look (u : List Int) (t : List (List Int)) (f : Int) (a : VA u t) (hf : FI u t f.toNat) (h0 : 0 ≤ f) : fm_clsII.look [AL u t, I64 f] = some (IO1 (tl u.length (clsI u t f.toNat))) :=
  lookF_of (X := List Int × List (List Int) × Int) (args := fun (u, t, f) => [AL u t, I64 f]) (pre := fun (u, t, f) => (VA u t) ∧ (FI u t f.toNat) ∧ (0 ≤ f)) (val := fun (u, t, f) => IO1 (tl u.length (clsI u t f.toNat))) (by
  rintro ⟨u, t, f⟩ ⟨u', t', f'⟩ h
  simp at h
  try simp only [and_assoc] at h
  obtain ⟨rfl, rfl, rfl⟩ := h
  rfl) (u, t, f) ⟨a, hf, h0⟩
attribute [irreducible] fm_clsII
noncomputable def clM (u : List Int) (t : List (List Int)) (f : Int) : List Int := if ifM u t f then tl u.length (clsI u t f.toNat) else []
theorem ifM_ex {u : List Int} {t : List (List Int)} {f : Int} (h : ifM u t f = true) : ∃ k : Nat, f = k ∧ VA u t ∧ FI u t k ∧ inS u.length f = true := by
  unfold ifM at h
  simp only [Bool.and_eq_true, decide_eq_true_eq] at h
  obtain ⟨k, rfl, _⟩ := inS_ex h.1.2
  exact ⟨k, rfl, h.1.1, h.2, h.1.2⟩
theorem ClsS_pc (u : List Int) (t : List (List Int)) (f : Int) (hu : Big u.length) (ht : BigR t) : PC Try.prog 55 [AL u t, I64 f] none false (fun r _ => r = IL (clM u t f)) := by
  refine pcT [fm_validAlgebraS, fm_isFilS, fm_clsS] fok_55 ?_
  simp [fa_55]
  refine cutW (tabK_mono _) [(13, .bool (!ifM u t f))] (by
    unfold ifM
    by_cases a : VA u t
    · simp [hu, ht, a]
    · simp [hu, ht, a]) ?_
  unfold clM
  cases hb : ifM u t f
  · simp [ints_nil]
  · obtain ⟨k, rfl, a, F, _⟩ := ifM_ex hb
    simp [a, F]
noncomputable def fm_ClsS : Fam Try.prog := mkFam (X := List Int × List (List Int) × Int) 55 false (fun (u, t, f) => [AL u t, I64 f]) (fun (u, t, f) => (Big u.length) ∧ (BigR t)) (fun (u, t, f) => IL (clM u t f)) (by
  rintro ⟨u, t, f⟩ ⟨hu, ht⟩
  exact ClsS_pc u t f hu ht)
@[simp] theorem fm_ClsS_id : fm_ClsS.id = 55 := rfl
@[simp] theorem fm_ClsS_fresh : fm_ClsS.fresh = false := rfl
@[simp] theorem fm_ClsS_look (u : List Int) (t : List (List Int)) (f : Int) (hu : Big u.length) (ht : BigR t) : fm_ClsS.look [AL u t, I64 f] = some (IL (clM u t f)) :=
  lookF_of (X := List Int × List (List Int) × Int) (args := fun (u, t, f) => [AL u t, I64 f]) (pre := fun (u, t, f) => (Big u.length) ∧ (BigR t)) (val := fun (u, t, f) => IL (clM u t f)) (by
  rintro ⟨u, t, f⟩ ⟨u', t', f'⟩ h
  simp at h
  try simp only [and_assoc] at h
  obtain ⟨rfl, rfl, rfl⟩ := h
  rfl) (u, t, f) ⟨hu, ht⟩
attribute [irreducible] fm_ClsS
theorem ClsI_pc (u : List Int) (t : List (List Int)) (f : Int) (hu : Big u.length) (ht : BigR t) : PC Try.prog 54 [AL u t, I64 f] none false (fun r _ => r = IL (clM u t f)) := by
  refine pcT [fm_IsFilI, fm_clsII] fok_54 ?_
  unfold clM
  cases hb : ifM u t f
  · simp [fa_54, hu, ht, hb, ints_nil]
  · have hb2 := hb
    obtain ⟨k, rfl, a, F, _⟩ := ifM_ex hb2
    simp [fa_54, hu, ht, hb, a, F]
noncomputable def fm_ClsI : Fam Try.prog := mkFam (X := List Int × List (List Int) × Int) 54 false (fun (u, t, f) => [AL u t, I64 f]) (fun (u, t, f) => (Big u.length) ∧ (BigR t)) (fun (u, t, f) => IL (clM u t f)) (by
  rintro ⟨u, t, f⟩ ⟨hu, ht⟩
  exact ClsI_pc u t f hu ht)
@[simp] theorem fm_ClsI_id : fm_ClsI.id = 54 := rfl
@[simp] theorem fm_ClsI_fresh : fm_ClsI.fresh = false := rfl
@[simp] theorem fm_ClsI_look (u : List Int) (t : List (List Int)) (f : Int) (hu : Big u.length) (ht : BigR t) : fm_ClsI.look [AL u t, I64 f] = some (IL (clM u t f)) :=
  lookF_of (X := List Int × List (List Int) × Int) (args := fun (u, t, f) => [AL u t, I64 f]) (pre := fun (u, t, f) => (Big u.length) ∧ (BigR t)) (val := fun (u, t, f) => IL (clM u t f)) (by
  rintro ⟨u, t, f⟩ ⟨u', t', f'⟩ h
  simp at h
  try simp only [and_assoc] at h
  obtain ⟨rfl, rfl, rfl⟩ := h
  rfl) (u, t, f) ⟨hu, ht⟩
attribute [irreducible] fm_ClsI
end Go.PS
end

section
-- Contracts: sets and filters that are drawn.
set_option maxRecDepth 100000
set_option linter.unusedVariables false
set_option linter.unusedSimpArgs false
namespace Go.PS
open Go.Proofs

/-- A set of elements, most often. -/
def soM (b : List Int) (p : Nat) (n : Nat) : Int := if pkM b p 24 = 0 then gi [-1, 2 ^ n, 0] (pkM b (p + 1) 3).toNat else pkM b (p + 1) (2 ^ n)
theorem setOf_pc (b : List Int) (p : Nat) (n : Int) (hb : BB b) (hp : p ≤ 1000000) (h0 : 0 ≤ n) (h6 : n ≤ 6) (hp2 : p ≤ 999000) : PC Try.prog 107 (.ptr 0 0 0 :: [I64 n]) (some (RS b p)) false (fun r c => imm 5 r = imm 5 (I64 (soM b p n.toNat)) ∧ c = (RS b (p + 2))) := by
  obtain ⟨n, rfl⟩ := Int.eq_ofNat_of_zero_le h0
  have h6 : n ≤ 6 := by omega
  have h64 := p2le h6
  have hp2' : (2 : Int) ^ n ≤ 1099511627776 := by rw [p2i]; omega
  have l1 : fw_one.look [.ptr 0 0 0, .list 1 [.int .i64 (-1), .int .i64 (2 ^ n), .int .i64 0]] (RS b (p + 1)) = some (I64 (gi [-1, 2 ^ n, 0] (pkM b (p + 1) 3).toNat), RS b (p + 2)) := fw_one_look b (p + 1) [-1, 2 ^ n, 0] hb (by omega) (by unfold Big; simp) (by simp)
  refine pcW [fm_power] [fw_pick, fw_one] fok_107 ?_
  simp [fa_107, callOW, callOT, hb, hp, h6, l1, rg3, hp2', show (n : Int) ≤ 61 by omega, show p + 1 ≤ 1000000 by omega]
  exact ⟨fun h => by simp [soM, h], fun h => by simp [soM, h]⟩
noncomputable def fw_setOf : FamW Try.prog := mkFamW (X := List Int × Nat × Int) 107 (fun (b, p, n) => (.ptr 0 0 0 :: [I64 n])) (fun (b, p, n) => (RS b p)) (fun (b, p, n) => (BB b) ∧ (p ≤ 1000000) ∧ (0 ≤ n) ∧ (n ≤ 6) ∧ (p ≤ 999000)) (fun (b, p, n) => I64 (soM b p n.toNat)) (fun (b, p, n) => (RS b (p + 2))) (by
  rintro ⟨b, p, n⟩ ⟨hb, hp, h0, h6, hp2⟩
  exact setOf_pc b p n hb hp h0 h6 hp2)
@[simp] theorem fw_setOf_id : fw_setOf.id = 107 := rfl
@[simp] theorem fw_setOf_look (b : List Int) (p : Nat) (n : Int) (hb : BB b) (hp : p ≤ 1000000) (h0 : 0 ≤ n) (h6 : n ≤ 6) (hp2 : p ≤ 999000) : fw_setOf.look (.ptr 0 0 0 :: [I64 n]) (RS b p) = some (I64 (soM b p n.toNat), (RS b (p + 2))) :=
  lookG_of (X := List Int × Nat × Int) (args := fun (b, p, n) => (.ptr 0 0 0 :: [I64 n])) (cell := fun (b, p, n) => (RS b p)) (pre := fun (b, p, n) => (BB b) ∧ (p ≤ 1000000) ∧ (0 ≤ n) ∧ (n ≤ 6) ∧ (p ≤ 999000)) (val := fun (b, p, n) => I64 (soM b p n.toNat)) (cell' := fun (b, p, n) => (RS b (p + 2))) (by
  rintro ⟨b, p, n⟩ ⟨b', p', n'⟩ h h2
  simp at h h2
  try simp only [and_assoc] at h
  obtain ⟨rfl, rfl⟩ := h2
  subst h
  exact ⟨rfl, rfl⟩) (b, p, n) ⟨hb, hp, h0, h6, hp2⟩
attribute [irreducible] fw_setOf
/-- The least of a number and 6. -/
abbrev mn6 (n : Nat) : Nat := if 6 < n then 6 else n
theorem mn6_le {n : Nat} : mn6 n ≤ 6 := by unfold mn6; split <;> omega
theorem mn6_int {n : Nat} : (if (6 : Int) < n then (6 : Int) else n) = (mn6 n : Nat) := by unfold mn6; split <;> split <;> omega
/-- A filter, most often, and how many numbers have been drawn. -/
noncomputable def foM (b : List Int) (p : Nat) (u : List Int) (t : List (List Int)) : Int × Nat :=
  if VA u t then (if pkM b p 12 = 0 then (soM b (p + 1) (mn6 u.length), p + 3) else (gi (natL (filN u t (2 ^ u.length))) (pkM b (p + 1) (filN u t (2 ^ u.length)).length).toNat, p + 2)) else (soM b p (mn6 u.length), p + 2)
theorem filterOf_pc (b : List Int) (p : Nat) (u : List Int) (t : List (List Int)) (hb : BB b) (hp : p ≤ 1000000) (hu : Big u.length) (ht : BigR t) (hp2 : p ≤ 990000) : PC Try.prog 108 (.ptr 0 0 0 :: [AL u t]) (some (RS b p)) false (fun r c => imm 5 r = imm 5 (I64 (foM b p u t).1) ∧ c = (RS b ((foM b p u t).2))) := by
  have hm := mn6_le (n := u.length)
  have hm2 := mn6_int (n := u.length)
  refine pcW [fm_validAlgebraS, fm_filS] [fw_pick, fw_setOf] fok_108 ?_
  generalize hme : mn6 u.length = m at *
  by_cases a : VA u t
  · have h6 := a.lat.six
    have h64 := p2le h6
    have hn := filN_len (u := u) (t := t) (m := 2 ^ u.length)
    have hpos : 0 < (filN u t (2 ^ u.length)).length := List.length_pos_of_mem (mem_fil.2 (fi_all a))
    have hr := pkM_rng hb (p := p + 1) (by omega) (n := (filN u t (2 ^ u.length)).length) (by omega)
    by_cases c : pkM b p 12 = 0
    · simp [gops, fa_108, foM, callOW, callOT, hb, hp, hu, ht, show (m : Int) ≤ 6 by omega, hm2, a, c, hme, show p + 1 ≤ 999000 by omega, show p + 1 ≤ 1000000 by omega]
    · generalize hL : filN u t (2 ^ u.length) = l at *
      simp [gops, fa_108, foM, callOW, callOT, hb, hp, hu, ht, a, c, hL, hr, show p + 1 ≤ 1000000 by omega, show (l.length : Int) ≤ 1099511627776 by omega]
  · simp [gops, fa_108, foM, callOW, callOT, hb, hp, hu, ht, show (m : Int) ≤ 6 by omega, hm2, a, hme, show p ≤ 999000 by omega]
noncomputable def fw_filterOf : FamW Try.prog := mkFamW (X := List Int × Nat × List Int × List (List Int)) 108 (fun (b, p, u, t) => (.ptr 0 0 0 :: [AL u t])) (fun (b, p, u, t) => (RS b p)) (fun (b, p, u, t) => (BB b) ∧ (p ≤ 1000000) ∧ (Big u.length) ∧ (BigR t) ∧ (p ≤ 990000)) (fun (b, p, u, t) => I64 (foM b p u t).1) (fun (b, p, u, t) => (RS b ((foM b p u t).2))) (by
  rintro ⟨b, p, u, t⟩ ⟨hb, hp, hu, ht, hp2⟩
  exact filterOf_pc b p u t hb hp hu ht hp2)
@[simp] theorem fw_filterOf_id : fw_filterOf.id = 108 := rfl
@[simp] theorem fw_filterOf_look (b : List Int) (p : Nat) (u : List Int) (t : List (List Int)) (hb : BB b) (hp : p ≤ 1000000) (hu : Big u.length) (ht : BigR t) (hp2 : p ≤ 990000) : fw_filterOf.look (.ptr 0 0 0 :: [AL u t]) (RS b p) = some (I64 (foM b p u t).1, (RS b ((foM b p u t).2))) :=
  lookG_of (X := List Int × Nat × List Int × List (List Int)) (args := fun (b, p, u, t) => (.ptr 0 0 0 :: [AL u t])) (cell := fun (b, p, u, t) => (RS b p)) (pre := fun (b, p, u, t) => (BB b) ∧ (p ≤ 1000000) ∧ (Big u.length) ∧ (BigR t) ∧ (p ≤ 990000)) (val := fun (b, p, u, t) => I64 (foM b p u t).1) (cell' := fun (b, p, u, t) => (RS b ((foM b p u t).2))) (by
  rintro ⟨b, p, u, t⟩ ⟨b', p', u', t'⟩ h h2
  simp at h h2
  try simp only [and_assoc] at h
  obtain ⟨rfl, rfl⟩ := h2
  obtain ⟨rfl, rfl⟩ := h
  exact ⟨rfl, rfl⟩) (b, p, u, t) ⟨hb, hp, hu, ht, hp2⟩
attribute [irreducible] fw_filterOf
end Go.PS
end

section
-- PRINTED by mkdraw2.py: draws.
set_option maxRecDepth 100000
set_option linter.unusedVariables false
set_option linter.unusedSimpArgs false
namespace Go.PS
open Go.Proofs
set_option maxHeartbeats 4000000 in
theorem cls_dag {Q : St → Prop} {b : List Int} {p p2 : Nat} {u : List Int} {t : List (List Int)} {y : Int} (l0 : fw_filterOf.look [.ptr 0 0 0, AL u t] (RS b p) = some (I64 y, RS b p2))
    (hQ : ∀ tb g, getT tb 2 = .ptr 16 1 0 → getT tb 3 = I64 y → Q ⟨tb, [⟨40, 3, .cells [IL u, RL t]⟩, ⟨4080, 2, .cells (RS b (p2))⟩, ⟨16, 1, .cells [IL u, RL t]⟩], g⟩) : ∀ tb g, getT tb 2 = .ptr 16 1 0 → getT tb 4 = .ptr 4080 2 0 → getT tb 5 = .ptr 40 3 0 → exT (CI inlR) 0 (inlW (CI inlR) [] [fw_someAlg, fw_filterOf] 1 0) ro_53_3 Q ex_53_3_0 ⟨tb, [⟨40, 3, .cells [IL u, RL t]⟩, ⟨4080, 2, .cells (RS b (p))⟩, ⟨16, 1, .cells [.nil, .nil]⟩], g⟩ := by
  have n63 : ∀ tb g, getT tb 2 = .ptr 16 1 0 → getT tb 4 = .ptr 4080 2 0 → getT tb 5 = .ptr 40 3 0 → getT tb 10 = AL u t → getT tb 11 = .ptr 4080 2 0 → getT tb 12 = AL u t → getT tb 13 = I64 y → getT tb 3 = I64 y → exT (CI inlR) 0 (inlW (CI inlR) [] [fw_someAlg, fw_filterOf] 1 0) ro_53_3 Q ex_53_3_63 ⟨tb, [⟨40, 3, .cells [IL u, RL t]⟩, ⟨4080, 2, .cells (RS b (p2))⟩, ⟨16, 1, .cells [IL u, RL t]⟩], g⟩ := by
    intro tb g e2 e4 e5 e10 e11 e12 e13 e3
    unfold ex_53_3_63
    exact hQ tb g e2 e3
  have n31 : ∀ tb g, getT tb 2 = .ptr 16 1 0 → getT tb 4 = .ptr 4080 2 0 → getT tb 5 = .ptr 40 3 0 → getT tb 10 = AL u t → getT tb 11 = .ptr 4080 2 0 → getT tb 12 = AL u t → getT tb 13 = I64 y → exT (CI inlR) 0 (inlW (CI inlR) [] [fw_someAlg, fw_filterOf] 1 0) ro_53_3 Q ex_53_3_31 ⟨tb, [⟨40, 3, .cells [IL u, RL t]⟩, ⟨4080, 2, .cells (RS b (p2))⟩, ⟨16, 1, .cells [IL u, RL t]⟩], g⟩ := by
    intro tb g e2 e4 e5 e10 e11 e12 e13
    unfold ex_53_3_31
    simp only [exT_alt, exT_one, exT_stop, and_true]
    rw [ro_53_3_5]
    simp [callDOWR, l0, e2, e4, e5, e10, e11, e12, e13]
    refine n63 _ _ ?_ ?_ ?_ ?_ ?_ ?_ ?_ ?_ <;> simp [getT, e2, e4, e5, e10, e11, e12, e13]
  have n15 : ∀ tb g, getT tb 2 = .ptr 16 1 0 → getT tb 4 = .ptr 4080 2 0 → getT tb 5 = .ptr 40 3 0 → getT tb 10 = AL u t → getT tb 11 = .ptr 4080 2 0 → getT tb 12 = AL u t → getT tb 13 = I64 y → exT (CI inlR) 0 (inlW (CI inlR) [] [fw_someAlg, fw_filterOf] 1 0) ro_53_3 Q ex_53_3_15 ⟨tb, [⟨40, 3, .cells [IL u, RL t]⟩, ⟨4080, 2, .cells (RS b (p2))⟩, ⟨16, 1, .cells [.nil, .nil]⟩], g⟩ := by
    intro tb g e2 e4 e5 e10 e11 e12 e13
    unfold ex_53_3_15
    simp only [exT_alt, exT_one, exT_stop, and_true]
    rw [ro_53_3_4]
    simp [callDOWR, l0, e2, e4, e5, e10, e11, e12, e13]
    refine n31 _ _ ?_ ?_ ?_ ?_ ?_ ?_ ?_ <;> simp [getT, e2, e4, e5, e10, e11, e12, e13]
  have n14 : ∀ tb g, getT tb 2 = .ptr 16 1 0 → getT tb 4 = .ptr 4080 2 0 → getT tb 5 = .ptr 40 3 0 → getT tb 11 = .ptr 4080 2 0 → getT tb 12 = AL u t → getT tb 13 = I64 y → exT (CI inlR) 0 (inlW (CI inlR) [] [fw_someAlg, fw_filterOf] 1 0) ro_53_3 Q ex_53_3_14 ⟨tb, [⟨40, 3, .cells [IL u, RL t]⟩, ⟨4080, 2, .cells (RS b (p2))⟩, ⟨16, 1, .cells [.nil, .nil]⟩], g⟩ := by
    intro tb g e2 e4 e5 e11 e12 e13
    unfold ex_53_3_14
    simp only [exT_alt, exT_one, exT_stop, and_true]
    rw [ro_53_3_0]
    simp [callDOWR, l0, e2, e4, e5, e11, e12, e13]
    refine n15 _ _ ?_ ?_ ?_ ?_ ?_ ?_ ?_ <;> simp [getT, e2, e4, e5, e11, e12, e13]
  have n7 : ∀ tb g, getT tb 2 = .ptr 16 1 0 → getT tb 4 = .ptr 4080 2 0 → getT tb 5 = .ptr 40 3 0 → getT tb 10 = AL u t → getT tb 11 = .ptr 4080 2 0 → getT tb 12 = AL u t → exT (CI inlR) 0 (inlW (CI inlR) [] [fw_someAlg, fw_filterOf] 1 0) ro_53_3 Q ex_53_3_7 ⟨tb, [⟨40, 3, .cells [IL u, RL t]⟩, ⟨4080, 2, .cells (RS b (p))⟩, ⟨16, 1, .cells [.nil, .nil]⟩], g⟩ := by
    intro tb g e2 e4 e5 e10 e11 e12
    unfold ex_53_3_7
    simp only [exT_alt, exT_one, exT_stop, and_true]
    rw [ro_53_3_3]
    simp [callDOWR, l0, e2, e4, e5, e10, e11, e12]
    refine n15 _ _ ?_ ?_ ?_ ?_ ?_ ?_ ?_ <;> simp [getT, e2, e4, e5, e10, e11, e12]
  have n6 : ∀ tb g, getT tb 2 = .ptr 16 1 0 → getT tb 4 = .ptr 4080 2 0 → getT tb 5 = .ptr 40 3 0 → getT tb 11 = .ptr 4080 2 0 → getT tb 12 = AL u t → exT (CI inlR) 0 (inlW (CI inlR) [] [fw_someAlg, fw_filterOf] 1 0) ro_53_3 Q ex_53_3_6 ⟨tb, [⟨40, 3, .cells [IL u, RL t]⟩, ⟨4080, 2, .cells (RS b (p))⟩, ⟨16, 1, .cells [.nil, .nil]⟩], g⟩ := by
    intro tb g e2 e4 e5 e11 e12
    unfold ex_53_3_6
    simp only [exT_alt, exT_one, exT_stop, and_true]
    refine ⟨?_, ?_⟩
    · rw [ro_53_3_0]
      simp [callDOWR, l0, e2, e4, e5, e11, e12]
      refine n7 _ _ ?_ ?_ ?_ ?_ ?_ ?_ <;> simp [getT, e2, e4, e5, e11, e12]
    · rw [ro_53_3_3]
      simp [callDOWR, l0, e2, e4, e5, e11, e12]
      refine n14 _ _ ?_ ?_ ?_ ?_ ?_ ?_ <;> simp [getT, e2, e4, e5, e11, e12]
  have n3 : ∀ tb g, getT tb 2 = .ptr 16 1 0 → getT tb 4 = .ptr 4080 2 0 → getT tb 5 = .ptr 40 3 0 → getT tb 10 = AL u t → getT tb 11 = .ptr 4080 2 0 → exT (CI inlR) 0 (inlW (CI inlR) [] [fw_someAlg, fw_filterOf] 1 0) ro_53_3 Q ex_53_3_3 ⟨tb, [⟨40, 3, .cells [IL u, RL t]⟩, ⟨4080, 2, .cells (RS b (p))⟩, ⟨16, 1, .cells [.nil, .nil]⟩], g⟩ := by
    intro tb g e2 e4 e5 e10 e11
    unfold ex_53_3_3
    simp only [exT_alt, exT_one, exT_stop, and_true]
    rw [ro_53_3_2]
    simp [callDOWR, l0, e2, e4, e5, e10, e11]
    refine n7 _ _ ?_ ?_ ?_ ?_ ?_ ?_ <;> simp [getT, e2, e4, e5, e10, e11]
  have n2 : ∀ tb g, getT tb 2 = .ptr 16 1 0 → getT tb 4 = .ptr 4080 2 0 → getT tb 5 = .ptr 40 3 0 → getT tb 11 = .ptr 4080 2 0 → exT (CI inlR) 0 (inlW (CI inlR) [] [fw_someAlg, fw_filterOf] 1 0) ro_53_3 Q ex_53_3_2 ⟨tb, [⟨40, 3, .cells [IL u, RL t]⟩, ⟨4080, 2, .cells (RS b (p))⟩, ⟨16, 1, .cells [.nil, .nil]⟩], g⟩ := by
    intro tb g e2 e4 e5 e11
    unfold ex_53_3_2
    simp only [exT_alt, exT_one, exT_stop, and_true]
    refine ⟨?_, ?_⟩
    · rw [ro_53_3_0]
      simp [callDOWR, l0, e2, e4, e5, e11]
      refine n3 _ _ ?_ ?_ ?_ ?_ ?_ <;> simp [getT, e2, e4, e5, e11]
    · rw [ro_53_3_2]
      simp [callDOWR, l0, e2, e4, e5, e11]
      refine n6 _ _ ?_ ?_ ?_ ?_ ?_ <;> simp [getT, e2, e4, e5, e11]
  have n0 : ∀ tb g, getT tb 2 = .ptr 16 1 0 → getT tb 4 = .ptr 4080 2 0 → getT tb 5 = .ptr 40 3 0 → exT (CI inlR) 0 (inlW (CI inlR) [] [fw_someAlg, fw_filterOf] 1 0) ro_53_3 Q ex_53_3_0 ⟨tb, [⟨40, 3, .cells [IL u, RL t]⟩, ⟨4080, 2, .cells (RS b (p))⟩, ⟨16, 1, .cells [.nil, .nil]⟩], g⟩ := by
    intro tb g e2 e4 e5
    unfold ex_53_3_0
    simp only [exT_alt, exT_one, exT_stop, and_true]
    rw [ro_53_3_1]
    simp [callDOWR, l0, e2, e4, e5]
    refine n2 _ _ ?_ ?_ ?_ ?_ <;> simp [getT, e2, e4, e5]
  exact n0

theorem drCls_pc (c : List Int) (hc : Byt c) (hl : Big c.length) : PC Try.prog 53 [BL c] none false (fun r _ => r = .tup [AL (saM (rdB c) 0).1.1 (saM (rdB c) 0).1.2, I64 (foM (rdB c) (saM (rdB c) 0).2 (saM (rdB c) 0).1.1 (saM (rdB c) 0).1.2).1]) := by
  have hl := hl.le
  have hb := rdB_ok hc
  have l1 := fw_someAlg_look (rdB c) 0 hb (by omega) (by omega)
  obtain ⟨g, q⟩ := saM_few hb (p := 0) (by omega)
  have hu := g.big
  have ht := g.bigR
  refine pcR [] [fw_someAlg, fw_filterOf] fok_53 ?_
  generalize saM (rdB c) 0 = A at *
  obtain ⟨⟨u, t⟩, p1⟩ := A
  dsimp only at *
  have l3 := fw_filterOf_look (rdB c) p1 u t hb (by omega) hu ht (by omega)
  generalize foM (rdB c) p1 u t = z at *
  obtain ⟨z, p2⟩ := z
  dsimp only at *
  simp [fa_53]
  refine newR hl ?_
  simp [callOWR, l1]
  refine cutE (α := Unit) (fun _ => [(2, .ptr 16 1 0), (3, I64 z)]) (fun _ => [⟨16, 1, .cells [IL u, RL t]⟩]) ?_ (fun _ g0 => ?_)
  · refine cls_dag (p := p1) l3 (fun tb g q2 q3 => ?_) _ _ (by simp) (by simp) (by simp)
    simp [q2, q3]
  · simp
noncomputable def fm_drCls : Fam Try.prog := mkFam (X := List Int) 53 false (fun c => [BL c]) (fun c => (Byt c) ∧ (Big c.length)) (fun c => .tup [AL (saM (rdB c) 0).1.1 (saM (rdB c) 0).1.2, I64 (foM (rdB c) (saM (rdB c) 0).2 (saM (rdB c) 0).1.1 (saM (rdB c) 0).1.2).1]) (by
  rintro c ⟨hc, hl⟩
  exact drCls_pc c hc hl)
@[simp] theorem fm_drCls_id : fm_drCls.id = 53 := rfl
@[simp] theorem fm_drCls_fresh : fm_drCls.fresh = false := rfl
@[simp] theorem fm_drCls_look (c : List Int) (hc : Byt c) (hl : Big c.length) : fm_drCls.look [BL c] = some (.tup [AL (saM (rdB c) 0).1.1 (saM (rdB c) 0).1.2, I64 (foM (rdB c) (saM (rdB c) 0).2 (saM (rdB c) 0).1.1 (saM (rdB c) 0).1.2).1]) :=
  lookF_of (X := List Int) (args := fun c => [BL c]) (pre := fun c => (Byt c) ∧ (Big c.length)) (val := fun c => .tup [AL (saM (rdB c) 0).1.1 (saM (rdB c) 0).1.2, I64 (foM (rdB c) (saM (rdB c) 0).2 (saM (rdB c) 0).1.1 (saM (rdB c) 0).1.2).1]) (by
  intro c c' h
  simp at h
  subst h
  rfl) c ⟨hc, hl⟩
attribute [irreducible] fm_drCls
end Go.PS
end

section
-- PRINTED by gen.py: clean texts of functions, and their tie to the program.
set_option maxRecDepth 100000
namespace Go.PS
open Go.Proofs
/-- laws.equalInts -/
def an_25 : Ann := ⟨[], [(0, [0, 1]), (1, [0, 1, 10]), (2, [4]), (3, [0, 1, 5]), (4, [0, 1, 5, 14]), (6, [0, 1, 5, 25]), (7, [4]), (5, [0, 1, 5]), (8, [4])], [(4, [0, 1, 5], [])], []⟩
def lb_25_4 : AC :=
  (.seq
    (.seq
      (.region false [⟨some 11, (.mv (.t 5)), 3, none, 0⟩, ⟨some 12, (.mv (.t 0)), 23, none, 0⟩, ⟨some 13, (.len 23 (.t 12)), 3, none, 0⟩, ⟨some 14, (.bin .lss 3 (.t 11) (.t 13)), 4, none, 0⟩] (some [0, 1, 5, 14]))
      (.cond (.t 14)
        .skip
        (.exit 0)))
    (.seq
      (.block 1
        (.seq
          (.region true [⟨some 17, (.mv (.t 0)), 23, none, 0⟩, ⟨some 18, (.mv (.t 5)), 3, none, 0⟩, ⟨some 19, (.iaddr 23 (.t 17) (.t 18)), 0, none, 0⟩, ⟨some 20, (.load 3 (.t 19)), 3, none, 0⟩, ⟨some 21, (.mv (.t 1)), 23, none, 0⟩, ⟨some 22, (.mv (.t 5)), 3, none, 0⟩, ⟨some 23, (.iaddr 23 (.t 21) (.t 22)), 0, none, 0⟩, ⟨some 24, (.load 3 (.t 23)), 3, none, 0⟩, ⟨some 25, (.bin .neq 3 (.t 20) (.t 24)), 4, none, 0⟩] (some [0, 1, 5, 25]))
          (.cond (.t 25)
            (.seq
              (.region false [⟨some 4, (.mv (.c (.bool false))), 4, none, 0⟩] (some [4]))
              .ret)
            .skip)))
      (.region false [⟨some 15, (.mv (.t 5)), 3, none, 0⟩, ⟨some 16, (.bin .add 3 (.t 15) (.c (.int .i64 1))), 3, none, 0⟩, ⟨some 5, (.mv (.t 16)), 3, none, 0⟩] (some [0, 1, 5]))))
def fa_25 : FnA := ⟨26, [.t 4],
  (.seq
    (.region false [⟨some 4, (.mv (.c (.bool false))), 4, none, 0⟩] (some [0, 1]))
    (.seq
      (.seq
        (.region false [⟨some 6, (.mv (.t 0)), 23, none, 0⟩, ⟨some 7, (.len 23 (.t 6)), 3, none, 0⟩, ⟨some 8, (.mv (.t 1)), 23, none, 0⟩, ⟨some 9, (.len 23 (.t 8)), 3, none, 0⟩, ⟨some 10, (.bin .neq 3 (.t 7) (.t 9)), 4, none, 0⟩] (some [0, 1, 10]))
        (.cond (.t 10)
          (.seq
            (.region false [⟨some 4, (.mv (.c (.bool false))), 4, none, 0⟩] (some [4]))
            .ret)
          .skip))
      (.seq
        (.seq
          (.region false [⟨some 5, (.mv (.c (.int .i64 0))), 3, none, 0⟩] (some [0, 1, 5]))
          (.block 0
            (.loop [0, 1, 5] [] lb_25_4)))
        (.seq
          (.region false [⟨some 4, (.mv (.c (.bool true))), 4, none, 0⟩] (some [4]))
          .ret))))⟩
theorem fok_25 : FnOk Try.prog 25 fa_25 an_25 := ⟨Try.f25, _, Try.func25, rfl, by kernel_rfl, rfl, rfl, by decide, by kernel_rfl⟩
end Go.PS
end

section
-- Contracts: lists of the laws.
set_option maxRecDepth 100000
set_option linter.unusedVariables false
set_option linter.unusedSimpArgs false
namespace Go.PS
open Go.Proofs

theorem eqInts_pc (a b : List Int) (ha : Big a.length) : PC Try.prog 25 [IL a, IL b] none true (fun r _ => r = .bool (decide (a = b))) := by
  refine pcT [] fok_25 ?_
  simp [fa_25]
  refine ⟨fun h e => h (by rw [e]), fun hl => ?_⟩
  refine loopA (tabK_mono _) a.length (fun i => [(5, I64 i)]) (fun _ => []) (fun j => gi a j = gi b j) (by simp) (by simp) (fun i g hi hP => ?_)
  simp [lb_25_4, wrap_succ hi ha]
  refine ⟨by grind, fun h => gi_ext (by omega) (fun j hj => hP j (by omega))⟩
noncomputable def fm_eqInts : Fam Try.prog := mkFam (X := List Int × List Int) 25 true (fun (a, b) => [IL a, IL b]) (fun (a, b) => (Big a.length)) (fun (a, b) => .bool (decide (a = b))) (by
  rintro ⟨a, b⟩ ha
  exact eqInts_pc a b ha)
@[simp] theorem fm_eqInts_id : fm_eqInts.id = 25 := rfl
@[simp] theorem fm_eqInts_fresh : fm_eqInts.fresh = true := rfl
@[simp] theorem fm_eqInts_look (a b : List Int) (ha : Big a.length) : fm_eqInts.look [IL a, IL b] = some (.bool (decide (a = b))) :=
  lookF_of (X := List Int × List Int) (args := fun (a, b) => [IL a, IL b]) (pre := fun (a, b) => (Big a.length)) (val := fun (a, b) => .bool (decide (a = b))) (by
  rintro ⟨a, b⟩ ⟨a', b'⟩ h
  simp at h
  try simp only [and_assoc] at h
  obtain ⟨rfl, rfl⟩ := h
  rfl) (a, b) ha
attribute [irreducible] fm_eqInts
end Go.PS
end

section
-- How a lattice, and an algebra, is shown to be one, in plain Lean.
set_option linter.unusedVariables false
set_option linter.unusedSimpArgs false
namespace Go.PS

/-- An order with meets and joins. -/
structure LO (n : Nat) (le : Nat → Nat → Bool) (J M : Nat → Nat → Nat) : Prop where
  one : 1 ≤ n
  six : n ≤ 6
  rf : ∀ x, x < n → le x x = true
  bot : ∀ x, x < n → le 0 x = true
  top : ∀ x, x < n → le x (n - 1) = true
  anti : ∀ x, x < n → ∀ y, y < n → le x y = true → le y x = true → x = y
  trans : ∀ x, x < n → ∀ y, y < n → ∀ z, z < n → le x y = true → le y z = true → le x z = true
  jlt : ∀ x, x < n → ∀ y, y < n → J x y < n
  mlt : ∀ x, x < n → ∀ y, y < n → M x y < n
  jub : ∀ x, x < n → ∀ y, y < n → le x (J x y) = true ∧ le y (J x y) = true
  mlb : ∀ x, x < n → ∀ y, y < n → le (M x y) x = true ∧ le (M x y) y = true
  jle : ∀ x, x < n → ∀ y, y < n → ∀ z, z < n → le x z = true → le y z = true → le (J x y) z = true
  mle : ∀ x, x < n → ∀ y, y < n → ∀ z, z < n → le z x = true → le z y = true → le z (M x y) = true

section
variable {u : List Int} {t : List (List Int)} {x y z w : Nat}
/-- An algebra by its order and its products. -/
structure PO (n : Nat) (J P : Nat → Nat → Nat) : Prop where
  lt : ∀ x, x < n → ∀ y, y < n → P x y < n
  top : ∀ x, x < n → P x (n - 1) = x
  bot : ∀ x, x < n → P x 0 = 0
  comm : ∀ x, x < n → ∀ y, y < n → P x y = P y x
  assoc : ∀ x, x < n → ∀ y, y < n → ∀ z, z < n → P (P x y) z = P x (P y z)
  dist : ∀ x, x < n → ∀ y, y < n → ∀ z, z < n → P x (J y z) = J (P x y) (P x z)
end
end Go.PS
end

section
-- Classes by a filter are an algebra, in plain Lean.
set_option linter.unusedVariables false
set_option linter.unusedSimpArgs false
namespace Go.PS

section
variable {u : List Int} {t : List (List Int)} {f x y z w : Nat}

abbrev cl (u : List Int) (t : List (List Int)) (f x : Nat) : Nat := (clsI u t f x).toNat
theorem cl_spec (a : VA u t) (hf : FI u t f) (hx : x < u.length) : cl u t f x ≤ x ∧ f.testBit (nr u t x (cl u t f x)) = true ∧ clsI u t f x = (cl u t f x : Nat) := by
  obtain ⟨k, e, h1, h2, _⟩ := cls_spec a hf hx
  have : cl u t f x = k := by show (clsI u t f x).toNat = k; rw [e]; rfl
  rw [this]
  exact ⟨h1, h2, e⟩
theorem cl_eq (a : VA u t) (hf : FI u t f) (hx : x < u.length) (hy : y < u.length) : cl u t f x = cl u t f y ↔ f.testBit (nr u t x y) = true := by
  rw [← cls_same a hf hx hy, (cl_spec a hf hx).2.2, (cl_spec a hf hy).2.2]
  omega
-- the numbers of the classes
-- the algebra of the classes
end
end Go.PS
end

section
-- Draws of one algebra.
set_option maxRecDepth 100000
set_option linter.unusedVariables false
set_option linter.unusedSimpArgs false
namespace Go.PS
open Go.Proofs


end Go.PS
end

section
-- What the laws of elements have in common; the law of products.
set_option maxRecDepth 100000
set_option linter.unusedVariables false
set_option linter.unusedSimpArgs false
namespace Go.PS
open Go.Proofs

section
variable {u : List Int} {t : List (List Int)} {x y z : Nat}
theorem inE_nat (h : x < u.length) : inE u.length (x : Int) = true := by simp [inE, h]
theorem NeM_nat (a : VA u t) (hx : x < u.length) (hy : y < u.length) : NeM u t x y = (nr u t x y : Nat) := by
  have h1 : (nr u t x y : Int) = tm t (im u t x y) (im u t y x) := (a.tn_int a.im_lt a.im_lt).symm
  simp only [NeM, a, inE_nat hx, inE_nat hy, decide_true, Bool.and_self, if_true, Int.toNat_natCast, h1]
end
end Go.PS
end

section
-- The law of classes.
set_option maxRecDepth 100000
set_option linter.unusedVariables false
set_option linter.unusedSimpArgs false
namespace Go.PS
open Go.Proofs

theorem neqB {a b : Int} {c : Bool} (h : (a = b) ↔ c = true) : decide (a = b) = c := by rw [Bool.eq_iff_iff, decide_eq_true_eq]; exact h
set_option maxHeartbeats 2000000 in
theorem FnClassesOf_pc (c : List Int) (hl : Hu c.length) (hc : Byt c) : PC Try.prog 10 [BL c] none true (fun r _ => r = .bool true) := by
  have hl' := hl.le
  refine pcT [fm_drCls, fm_ClsI, fm_ClsS, fm_eqInts, fm_NearI, fm_bitL] fok_10 ?_
  rcases Nat.lt_or_ge 1048576 c.length with q | q
  · simp [fa_10, show ((1048576 : Int) < c.length) by omega]
  · have hbig : Big c.length := by unfold Big; omega
    have l1 := fm_drCls_look c hc hbig
    obtain ⟨g, _⟩ := saM_few (rdB_ok hc) (p := 0) (by omega)
    have hu := g.big
    have ht := g.bigR
    generalize saM (rdB c) 0 = A at *
    obtain ⟨⟨u, t⟩, p1⟩ := A
    dsimp only at *
    generalize (foM (rdB c) p1 u t).1 = f at *
    have hul := hu.le
    have hlb : Big (clM u t f).length := by
      unfold clM Big; split
      · rw [tl_length]; exact hul
      · simp
    simp [fa_10, show ¬ ((1048576 : Int) < c.length) by omega, show ((c.length : Int) ≤ 1048576) by omega, l1, hu, ht]
    refine cutW (tabK_mono _) [(30, .bool (decide ((clM u t f).length = 0)))] (by simp [hu, ht, hlb]) ?_
    simp [hu, ht, hlb]
    intro hne
    have hif : ifM u t f = true := by
      cases hb : ifM u t f
      · exfalso; apply hne; unfold clM; simp [hb]
      · rfl
    have ecl : clM u t f = tl u.length (clsI u t f.toNat) := by unfold clM; rw [if_pos hif]
    obtain ⟨f, rfl, a, F, _⟩ := ifM_ex hif
    simp only [Int.toNat_natCast] at ecl
    have v := a.lat
    have hp := v.pos
    have h6 := v.six
    have h64 := p2le h6
    have hfl := F.lt
    have hlen : (clM u t f).length = u.length := by rw [ecl, tl_length]
    have hgi : ∀ x, x < u.length → gi (clM u t f) x = (cl u t f x : Nat) := fun x hx => by
      rw [ecl, gi_tl hx]; exact (cl_spec a F hx).2.2
    have hle : ∀ x, x < u.length → cl u t f x ≤ x := fun x hx => (cl_spec a F hx).1
    have hsame : ∀ x y, x < u.length → y < u.length → (((cl u t f x : Nat) : Int) = (cl u t f y : Nat) ↔ f.testBit (nr u t x y) = true) := fun x y hx hy => by
      rw [← cl_eq a F hx hy]; omega
    have htop : ∀ x, x < u.length → (((cl u t f x : Nat) : Int) = (cl u t f (u.length - 1) : Nat) ↔ f.testBit x = true) := fun x hx => by
      rw [hsame x _ hx (by omega), a.nr_topr hx]
    have w1 : IntKind.i64.wrap ((u.length : Int) - 1) = ((u.length - 1 : Nat) : Int) := by rw [wrap64 (by omega) (by omega)]; omega
    generalize clM u t f = l at *
    refine loopA (tabK_mono _) u.length (fun i => [(7, I64 i)]) (fun _ => [⟨24, 1, .cells [IL u, RL t]⟩]) (fun _ => True) (by simp) (by simp) (fun x g hx _ => ?_)
    simp [lb_10_9, wrap_succ hx hul]
    intro h2
    refine loopA (tabK_mono _) u.length (fun i => [(8, I64 i)]) (fun _ => [⟨24, 1, .cells [IL u, RL t]⟩]) (fun _ => True) (by simp) (by simp) (fun y g2 hy _ => ?_)
    simp [lb_10_12, wrap_succ hy hul]
    refine ⟨fun h3 => ?_, fun h3 => ?_⟩
    · have e1 := hgi x h2
      have e2 := hgi y h3
      have e3 := neqB (hsame x y h2 h3)
      have hn := a.nr_lt (x := x) (y := y)
      have m1 := fm_NearI_look u t x y hu ht
      rw [NeM_nat a h2 h3] at m1
      generalize cl u t f x = cx at *
      generalize cl u t f y = cy at *
      generalize nr u t x y = w at *
      simp [hlen, h2, h3, e1, e2, m1, show (f : Int) < 64 by omega, show (w : Int) ≤ 61 by omega, wrap_succ hy hul]
      exact e3
    · have e1 := hgi x h2
      have e2 := hgi (u.length - 1) (by omega)
      have e3 := neqB (htop x h2)
      have hx2 := hle x h2
      generalize cl u t f x = cx at *
      generalize cl u t f (u.length - 1) = cy at *
      refine cutWc (tabK_mono _) [(88, .bool false)] (by
        simp [hlen, h2, w1, hp, e1, e2, show (f : Int) < 64 by omega, show (x : Int) ≤ 61 by omega, show u.length - 1 < u.length by omega]
        exact ⟨fun _ => hx2, e3⟩) ?_
      simp [h2, wrap_succ hx hul]
end Go.PS
end
