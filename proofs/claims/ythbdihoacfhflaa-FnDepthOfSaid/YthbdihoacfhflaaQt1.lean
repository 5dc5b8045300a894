/- Part 1 of what the last text proves: Depths: the law holds at every input. -/
import Derived.Test.YthbdihoacfhflaaQo6
section
-- PRINTED by gen.py: clean texts of functions, and their tie to the program.
set_option maxRecDepth 100000
namespace Go.PS
open Go.Proofs
/-- impl.has -/
def an_170 : Ann := ⟨[], [(0, [0, 1]), (1, [4])], [], []⟩
def fa_170 : FnA := ⟨10, [.t 4],
  (.seq
    (.region false [⟨some 4, (.mv (.c (.bool false))), 4, none, 0⟩] (some [0, 1]))
    (.seq
      (.region false [⟨some 5, (.mv (.t 0)), 3, none, 0⟩, ⟨some 6, (.mv (.t 1)), 3, none, 0⟩, ⟨some 7, (.bin .shr 3 (.t 5) (.t 6)), 3, none, 0⟩, ⟨some 8, (.bin .rem 3 (.t 7) (.c (.int .i64 2))), 3, none, 0⟩, ⟨some 9, (.bin .eql 3 (.t 8) (.c (.int .i64 1))), 4, none, 0⟩, ⟨some 4, (.mv (.t 9)), 4, none, 0⟩] (some [4]))
      .ret))⟩
theorem fok_170 : FnOk Try.prog 170 fa_170 an_170 := ⟨Try.f170, _, Try.func170, rfl, by kernel_rfl, rfl, rfl, by decide, by kernel_rfl⟩
/-- impl.isFilter -/
def an_110 : Ann := ⟨[(1, 5, 3), (6, 2, 3), (12, 2, 3), (12, 13, 3)], [(0, [1, 2]), (1, [1, 2, 14]), (2, [4]), (3, [1, 2, 16, 17, 18]), (4, [1, 2, 16, 17, 18, 19]), (5, [1, 2, 5, 6, 16, 17, 18]), (6, [1, 2, 5, 6, 16, 17, 18, 26]), (7, [1, 2, 5, 16, 17, 18, 30]), (8, [4]), (9, [1, 2, 5, 16, 17, 18, 33, 34]), (10, [1, 2, 5, 16, 17, 18, 33, 34, 35]), (11, [1, 2, 5, 7, 16, 17, 18, 33, 34]), (12, [1, 2, 5, 16, 17, 18, 33, 34, 52]), (13, [4]), (14, [1, 2, 5, 16, 17, 18, 33, 34]), (15, [1, 2, 16, 17, 18]), (16, [4])], [(4, [1, 2, 16, 17, 18], []), (10, [1, 2, 5, 16, 17, 18, 33, 34], [])], []⟩
def lb_110_10 : AC :=
  (.seq
    (.region false [⟨some 35, (.bin .lss 3 (.t 34) (.t 33)), 0, none, 0⟩] (some [1, 2, 5, 16, 17, 18, 33, 34, 35]))
    (.seq
      (.cond (.t 35)
        .skip
        (.exit 2))
      (.seq
        (.block 3
          (.seq
            (.region false [⟨some 36, (.mv (.t 34)), 3, none, 0⟩, ⟨some 7, (.mv (.t 36)), 3, none, 0⟩] (some [1, 2, 5, 7, 16, 17, 18, 33, 34]))
            (.seq
              (.region false (gops [⟨some 37, (.mv (.t 1)), 3, none, 0⟩, ⟨some 38, (.mv (.t 7)), 3, none, 0⟩, ⟨some 39, (.call (.f 170) [(.t 37), (.t 38)]), 4, none, 3⟩, ⟨some 40, (.mv (.t 39)), 4, none, 0⟩, ⟨some 41, (.mv (.t 1)), 3, some (40, true), 0⟩, ⟨some 42, (.faddr 27 (.t 2) 1), 0, some (40, true), 0⟩, ⟨some 43, (.load 25 (.t 42)), 25, some (40, true), 0⟩, ⟨some 44, (.mv (.t 5)), 3, some (40, true), 0⟩, ⟨some 45, (.iaddr 25 (.t 43) (.t 44)), 0, some (40, true), 0⟩, ⟨some 46, (.load 23 (.t 45)), 23, some (40, true), 0⟩, ⟨some 47, (.mv (.t 7)), 3, some (40, true), 0⟩, ⟨some 48, (.iaddr 23 (.t 46) (.t 47)), 0, some (40, true), 0⟩, ⟨some 49, (.load 3 (.t 48)), 3, some (40, true), 0⟩, ⟨some 50, (.call (.f 170) [(.t 41), (.t 49)]), 4, some (40, true), 3⟩, ⟨some 51, (.un .not (.t 50)), 4, some (40, true), 0⟩, ⟨some 52, (.pick (.t 40) (.t 51) (.c (.bool false))), 4, none, 0⟩]) (some [1, 2, 5, 16, 17, 18, 33, 34, 52]))
              (.cond (.t 52)
                (.seq
                  (.region false [⟨some 4, (.mv (.c (.bool false))), 4, none, 0⟩] (some [4]))
                  .ret)
                .skip))))
        (.region false [⟨some 53, (.bin .add 3 (.t 34) (.c (.int .i64 1))), 3, none, 0⟩, ⟨some 34, (.mv (.t 53)), 3, none, 0⟩] (some [1, 2, 5, 16, 17, 18, 33, 34])))))
def lb_110_4 : AC :=
  (.seq
    (.region false [⟨some 19, (.bin .lss 3 (.t 18) (.t 17)), 0, none, 0⟩] (some [1, 2, 16, 17, 18, 19]))
    (.seq
      (.cond (.t 19)
        .skip
        (.exit 0))
      (.seq
        (.block 1
          (.seq
            (.region false [⟨some 20, (.mv (.t 18)), 3, none, 0⟩, ⟨some 21, (.iaddr 23 (.t 16) (.t 18)), 0, none, 0⟩, ⟨some 22, (.load 3 (.t 21)), 3, none, 0⟩, ⟨some 5, (.mv (.t 20)), 3, none, 0⟩, ⟨some 6, (.mv (.t 22)), 3, none, 0⟩] (some [1, 2, 5, 6, 16, 17, 18]))
            (.seq
              (.seq
                (.region false [⟨some 23, (.mv (.t 1)), 3, none, 0⟩, ⟨some 24, (.mv (.t 5)), 3, none, 0⟩, ⟨some 25, (.call (.f 170) [(.t 23), (.t 24)]), 4, none, 3⟩, ⟨some 26, (.un .not (.t 25)), 4, none, 0⟩] (some [1, 2, 5, 6, 16, 17, 18, 26]))
                (.cond (.t 26)
                  (.exit 1)
                  .skip))
              (.seq
                (.seq
                  (.region false [⟨some 27, (.mv (.t 6)), 3, none, 0⟩, ⟨some 28, (.mv (.t 1)), 3, none, 0⟩, ⟨some 29, (.bin .andNot 3 (.t 27) (.t 28)), 3, none, 0⟩, ⟨some 30, (.bin .neq 3 (.t 29) (.c (.int .i64 0))), 4, none, 0⟩] (some [1, 2, 5, 16, 17, 18, 30]))
                  (.cond (.t 30)
                    (.seq
                      (.region false [⟨some 4, (.mv (.c (.bool false))), 4, none, 0⟩] (some [4]))
                      .ret)
                    .skip))
                (.seq
                  (.region false [⟨some 31, (.faddr 27 (.t 2) 0), 0, none, 0⟩, ⟨some 32, (.load 23 (.t 31)), 23, none, 0⟩, ⟨some 33, (.len 23 (.t 32)), 3, none, 0⟩, ⟨some 34, (.mv (.c (.int .i64 0))), 3, none, 0⟩] (some [1, 2, 5, 16, 17, 18, 33, 34]))
                  (.block 2
                    (.loop [1, 2, 5, 16, 17, 18, 33, 34] [] lb_110_10)))))))
        (.region false [⟨some 54, (.bin .add 3 (.t 18) (.c (.int .i64 1))), 3, none, 0⟩, ⟨some 18, (.mv (.t 54)), 3, none, 0⟩] (some [1, 2, 16, 17, 18])))))
def fa_110 : FnA := ⟨55, [.t 4],
  (.seq
    (.region false [⟨some 2, (.box 27 (.t 0)), 0, none, 0⟩, ⟨some 4, (.mv (.c (.bool false))), 4, none, 0⟩] (some [1, 2]))
    (.seq
      (.seq
        (.region false [⟨some 8, (.mv (.t 1)), 3, none, 0⟩, ⟨some 9, (.faddr 27 (.t 2) 0), 0, none, 0⟩, ⟨some 10, (.load 23 (.t 9)), 23, none, 0⟩, ⟨some 11, (.len 23 (.t 10)), 3, none, 0⟩, ⟨some 12, (.bin .sub 3 (.t 11) (.c (.int .i64 1))), 3, none, 0⟩, ⟨some 13, (.call (.f 170) [(.t 8), (.t 12)]), 4, none, 3⟩, ⟨some 14, (.un .not (.t 13)), 4, none, 0⟩] (some [1, 2, 14]))
        (.cond (.t 14)
          (.seq
            (.region false [⟨some 4, (.mv (.c (.bool false))), 4, none, 0⟩] (some [4]))
            .ret)
          .skip))
      (.seq
        (.seq
          (.region false [⟨some 15, (.faddr 27 (.t 2) 0), 0, none, 0⟩, ⟨some 16, (.load 23 (.t 15)), 23, none, 0⟩, ⟨some 17, (.len 23 (.t 16)), 3, none, 0⟩, ⟨some 18, (.mv (.c (.int .i64 0))), 3, none, 0⟩] (some [1, 2, 16, 17, 18]))
          (.block 0
            (.loop [1, 2, 16, 17, 18] [] lb_110_4)))
        (.seq
          (.region false [⟨some 4, (.mv (.c (.bool true))), 4, none, 0⟩] (some [4]))
          .ret))))⟩
theorem fok_110 : FnOk Try.prog 110 fa_110 an_110 := ⟨Try.f110, _, Try.func110, rfl, by kernel_rfl, rfl, rfl, by decide, by kernel_rfl⟩
/-- impl.setIn -/
def an_109 : Ann := ⟨[(1, 1, 3), (1, 9, 3)], [(0, [1, 2]), (1, [4])], [], []⟩
def fa_109 : FnA := ⟨16, [.t 4],
  (.seq
    (.region false [⟨some 2, (.box 27 (.t 0)), 0, none, 0⟩, ⟨some 4, (.mv (.c (.bool false))), 4, none, 0⟩] (some [1, 2]))
    (.seq
      (.region false (gops [⟨some 5, (.load 27 (.t 2)), 27, none, 0⟩, ⟨some 6, (.call (.f 23) [(.t 5)]), 4, none, 3⟩, ⟨some 7, (.mv (.t 6)), 4, none, 0⟩, ⟨some 8, (.mv (.t 1)), 3, some (7, true), 0⟩, ⟨some 9, (.faddr 27 (.t 2) 0), 0, some (7, true), 0⟩, ⟨some 10, (.load 23 (.t 9)), 23, some (7, true), 0⟩, ⟨some 11, (.len 23 (.t 10)), 3, some (7, true), 0⟩, ⟨some 12, (.bin .shl 3 (.c (.int .i64 1)) (.t 11)), 3, some (7, true), 0⟩, ⟨some 13, (.bin .sub 3 (.t 12) (.c (.int .i64 1))), 3, some (7, true), 0⟩, ⟨some 14, (.call (.f 101) [(.t 8), (.c (.int .i64 0)), (.t 13)]), 4, some (7, true), 3⟩, ⟨some 15, (.pick (.t 7) (.t 14) (.c (.bool false))), 4, none, 0⟩, ⟨some 4, (.mv (.t 15)), 4, none, 0⟩]) (some [4]))
      .ret))⟩
theorem fok_109 : FnOk Try.prog 109 fa_109 an_109 := ⟨Try.f109, _, Try.func109, rfl, by kernel_rfl, rfl, rfl, by decide, by kernel_rfl⟩
/-- impl.filters -/
def an_113 : Ann := ⟨[(1, 0, 1), (5, 2, 3)], [(0, [1]), (1, [1, 3]), (2, [1, 3, 4]), (3, [1, 3, 4, 11]), (5, [1, 3, 4, 16]), (6, [1, 3, 4]), (4, [1, 3, 4]), (7, [2])], [(3, [1, 3, 4], [40, 160])], []⟩
def lb_113_3 : AC :=
  (.seq
    (.seq
      (.region false [⟨some 6, (.mv (.t 4)), 3, none, 0⟩, ⟨some 7, (.faddr 27 (.t 1) 0), 0, none, 0⟩, ⟨some 8, (.load 23 (.t 7)), 23, none, 0⟩, ⟨some 9, (.len 23 (.t 8)), 3, none, 0⟩, ⟨some 10, (.bin .shl 3 (.c (.int .i64 1)) (.t 9)), 3, none, 0⟩, ⟨some 11, (.bin .lss 3 (.t 6) (.t 10)), 4, none, 0⟩] (some [1, 3, 4, 11]))
      (.cond (.t 11)
        .skip
        (.exit 0)))
    (.seq
      (.block 1
        (.seq
          (.region false [⟨some 14, (.load 27 (.t 1)), 27, none, 0⟩, ⟨some 15, (.mv (.t 4)), 3, none, 0⟩, ⟨some 16, (.call (.f 110) [(.t 14), (.t 15)]), 4, none, 3⟩] (some [1, 3, 4, 16]))
          (.cond (.t 16)
            (.region false [⟨some 17, (.mv (.t 3)), 23, none, 0⟩, ⟨some 18, (.mv (.t 4)), 3, none, 0⟩, ⟨some 19, (.bslice 23 1 [(0, (.t 18))]), 23, none, 0⟩, ⟨some 20, (.app 23 23 (.t 17) (.t 19)), 23, none, 0⟩, ⟨some 3, (.mv (.t 20)), 23, none, 0⟩] (some [1, 3, 4]))
            .skip)))
      (.region false [⟨some 12, (.mv (.t 4)), 3, none, 0⟩, ⟨some 13, (.bin .add 3 (.t 12) (.c (.int .i64 1))), 3, none, 0⟩, ⟨some 4, (.mv (.t 13)), 3, none, 0⟩] (some [1, 3, 4]))))
def fa_113 : FnA := ⟨22, [.t 2],
  (.seq
    (.region false [⟨some 1, (.box 27 (.t 0)), 0, none, 0⟩, ⟨some 2, (.mv (.c .nil)), 23, none, 0⟩] (some [1]))
    (.seq
      (.region false [⟨some 5, (.bslice 23 0 []), 23, none, 1⟩, ⟨some 3, (.mv (.t 5)), 23, none, 0⟩] (some [1, 3]))
      (.seq
        (.seq
          (.region false [⟨some 4, (.mv (.c (.int .i64 0))), 3, none, 0⟩] (some [1, 3, 4]))
          (.block 0
            (.loop [1, 3, 4] [40, 160] lb_113_3)))
        (.seq
          (.region false [⟨some 21, (.mv (.t 3)), 23, none, 0⟩, ⟨some 2, (.mv (.t 21)), 23, none, 0⟩] (some [2]))
          .ret))))⟩
theorem fok_113 : FnOk Try.prog 113 fa_113 an_113 := ⟨Try.f113, _, Try.func113, rfl, by kernel_rfl, rfl, rfl, by decide, by kernel_rfl⟩
/-- impl.FilterBy -/
def an_29 : Ann := ⟨[(1, 2, 3), (4, 1, 3)], [(0, [1, 2]), (1, [1, 2, 11]), (2, [4]), (3, [1, 2, 5]), (4, [1, 5, 18, 19, 20]), (5, [1, 5, 18, 19, 20, 21]), (6, [1, 5, 7, 18, 19, 20]), (7, [1, 5, 7, 18, 19, 20, 27]), (8, [1, 5, 18, 19, 20]), (9, [1, 5, 18, 19, 20]), (10, [4])], [(5, [1, 5, 18, 19, 20], [])], []⟩
def lb_29_5 : AC :=
  (.seq
    (.region false [⟨some 21, (.bin .lss 3 (.t 20) (.t 19)), 0, none, 0⟩] (some [1, 5, 18, 19, 20, 21]))
    (.seq
      (.cond (.t 21)
        .skip
        (.exit 0))
      (.seq
        (.block 1
          (.seq
            (.region false [⟨some 22, (.iaddr 23 (.t 18) (.t 20)), 0, none, 0⟩, ⟨some 23, (.load 3 (.t 22)), 3, none, 0⟩, ⟨some 7, (.mv (.t 23)), 3, none, 0⟩] (some [1, 5, 7, 18, 19, 20]))
            (.seq
              (.region false [⟨some 24, (.mv (.t 1)), 3, none, 0⟩, ⟨some 25, (.mv (.t 7)), 3, none, 0⟩, ⟨some 26, (.bin .andNot 3 (.t 24) (.t 25)), 3, none, 0⟩, ⟨some 27, (.bin .eql 3 (.t 26) (.c (.int .i64 0))), 4, none, 0⟩] (some [1, 5, 7, 18, 19, 20, 27]))
              (.cond (.t 27)
                (.region false [⟨some 28, (.mv (.t 5)), 3, none, 0⟩, ⟨some 29, (.mv (.t 7)), 3, none, 0⟩, ⟨some 30, (.bin .and 3 (.t 28) (.t 29)), 3, none, 0⟩, ⟨some 5, (.mv (.t 30)), 3, none, 0⟩] (some [1, 5, 18, 19, 20]))
                .skip))))
        (.region false [⟨some 31, (.bin .add 3 (.t 20) (.c (.int .i64 1))), 3, none, 0⟩, ⟨some 20, (.mv (.t 31)), 3, none, 0⟩] (some [1, 5, 18, 19, 20])))))
def fa_29 : FnA := ⟨33, [.t 4],
  (.seq
    (.region false [⟨some 2, (.box 27 (.t 0)), 0, none, 0⟩, ⟨some 4, (.mv (.c (.int .i64 0))), 3, none, 0⟩] (some [1, 2]))
    (.seq
      (.seq
        (.region false [⟨some 8, (.load 27 (.t 2)), 27, none, 0⟩, ⟨some 9, (.mv (.t 1)), 3, none, 0⟩, ⟨some 10, (.call (.f 109) [(.t 8), (.t 9)]), 4, none, 3⟩, ⟨some 11, (.un .not (.t 10)), 4, none, 0⟩] (some [1, 2, 11]))
        (.cond (.t 11)
          (.seq
            (.region false [⟨some 4, (.mv (.c (.int .i64 (-1)))), 3, none, 0⟩] (some [4]))
            .ret)
          .skip))
      (.seq
        (.region false [⟨some 12, (.faddr 27 (.t 2) 0), 0, none, 0⟩, ⟨some 13, (.load 23 (.t 12)), 23, none, 0⟩, ⟨some 14, (.len 23 (.t 13)), 3, none, 0⟩, ⟨some 15, (.bin .shl 3 (.c (.int .i64 1)) (.t 14)), 3, none, 0⟩, ⟨some 16, (.bin .sub 3 (.t 15) (.c (.int .i64 1))), 3, none, 0⟩, ⟨some 5, (.mv (.t 16)), 3, none, 0⟩] (some [1, 2, 5]))
        (.seq
          (.seq
            (.region false [⟨some 17, (.load 27 (.t 2)), 27, none, 0⟩, ⟨some 18, (.call (.f 113) [(.t 17)]), 23, none, 3⟩, ⟨some 19, (.len 23 (.t 18)), 3, none, 0⟩, ⟨some 20, (.mv (.c (.int .i64 0))), 3, none, 0⟩] (some [1, 5, 18, 19, 20]))
            (.block 0
              (.loop [1, 5, 18, 19, 20] [] lb_29_5)))
          (.seq
            (.region false [⟨some 32, (.mv (.t 5)), 3, none, 0⟩, ⟨some 4, (.mv (.t 32)), 3, none, 0⟩] (some [4]))
            .ret)))))⟩
theorem fok_29 : FnOk Try.prog 29 fa_29 an_29 := ⟨Try.f29, _, Try.func29, rfl, by kernel_rfl, rfl, rfl, by decide, by kernel_rfl⟩
/-- laws.power -/
def an_39 : Ann := ⟨[], [(0, [0]), (1, [0, 3]), (2, [0, 3, 5]), (4, [0, 3]), (3, [0, 3]), (5, [2])], [(2, [0, 3], [])], []⟩
def lb_39_2 : AC :=
  (.seq
    (.seq
      (.region false [⟨some 4, (.mv (.t 0)), 3, none, 0⟩, ⟨some 5, (.bin .gtr 3 (.t 4) (.c (.int .i64 0))), 4, none, 0⟩] (some [0, 3, 5]))
      (.cond (.t 5)
        .skip
        (.exit 0)))
    (.seq
      (.block 1
        (.region false [⟨some 8, (.mv (.t 3)), 3, none, 0⟩, ⟨some 9, (.bin .mul 3 (.c (.int .i64 2)) (.t 8)), 3, none, 0⟩, ⟨some 3, (.mv (.t 9)), 3, none, 0⟩] (some [0, 3])))
      (.region false [⟨some 6, (.mv (.t 0)), 3, none, 0⟩, ⟨some 7, (.bin .sub 3 (.t 6) (.c (.int .i64 1))), 3, none, 0⟩, ⟨some 0, (.mv (.t 7)), 3, none, 0⟩] (some [0, 3]))))
def fa_39 : FnA := ⟨11, [.t 2],
  (.seq
    (.region false [⟨some 2, (.mv (.c (.int .i64 0))), 3, none, 0⟩] (some [0]))
    (.seq
      (.region false [⟨some 3, (.mv (.c (.int .i64 1))), 3, none, 0⟩] (some [0, 3]))
      (.seq
        (.block 0
          (.loop [0, 3] [] lb_39_2))
        (.seq
          (.region false [⟨some 10, (.mv (.t 3)), 3, none, 0⟩, ⟨some 2, (.mv (.t 10)), 3, none, 0⟩] (some [2]))
          .ret))))⟩
theorem fok_39 : FnOk Try.prog 39 fa_39 an_39 := ⟨Try.f39, _, Try.func39, rfl, by kernel_rfl, rfl, rfl, by decide, by kernel_rfl⟩
/-- laws.bit -/
def an_47 : Ann := ⟨[(1, 2, 3)], [(0, [0, 1]), (1, [4])], [], []⟩
def fa_47 : FnA := ⟨10, [.t 4],
  (.seq
    (.region false [⟨some 4, (.mv (.c (.int .i64 0))), 3, none, 0⟩] (some [0, 1]))
    (.seq
      (.region false [⟨some 5, (.mv (.t 0)), 3, none, 0⟩, ⟨some 6, (.mv (.t 1)), 3, none, 0⟩, ⟨some 7, (.call (.f 39) [(.t 6)]), 3, none, 3⟩, ⟨some 8, (.bin .quo 3 (.t 5) (.t 7)), 3, none, 0⟩, ⟨some 9, (.bin .rem 3 (.t 8) (.c (.int .i64 2))), 3, none, 0⟩, ⟨some 4, (.mv (.t 9)), 3, none, 0⟩] (some [4]))
      .ret))⟩
theorem fok_47 : FnOk Try.prog 47 fa_47 an_47 := ⟨Try.f47, _, Try.func47, rfl, by kernel_rfl, rfl, rfl, by decide, by kernel_rfl⟩
end Go.PS
end

section
-- PRINTED by gen.py: clean texts of functions, and their tie to the program.
set_option maxRecDepth 100000
namespace Go.PS
open Go.Proofs
/-- impl.DepthOf -/
def an_44 : Ann := ⟨[(1, 3, 3), (6, 3, 3)], [(0, [1, 2]), (1, [1, 2, 11]), (2, [4, 5]), (3, [1, 2, 6]), (4, [1, 2, 6, 13]), (6, [1, 2, 6, 20]), (7, [4, 5]), (5, [1, 2, 6]), (8, [4, 5])], [(4, [1, 2, 6], [])], []⟩
def lb_44_4 : AC :=
  (.seq
    (.seq
      (.region false [⟨some 12, (.mv (.t 6)), 3, none, 0⟩, ⟨some 13, (.bin .leq 3 (.t 12) (.c (.int .i64 20))), 4, none, 0⟩] (some [1, 2, 6, 13]))
      (.cond (.t 13)
        .skip
        (.exit 0)))
    (.seq
      (.block 1
        (.seq
          (.region false [⟨some 16, (.load 27 (.t 2)), 27, none, 0⟩, ⟨some 17, (.mv (.t 1)), 3, none, 0⟩, ⟨some 18, (.mv (.t 6)), 3, none, 0⟩, ⟨some 19, (.call (.f 124) [(.t 16), (.t 17), (.t 18)]), 3, none, 3⟩, ⟨some 20, (.bin .eql 3 (.t 19) (.c (.int .i64 0))), 4, none, 0⟩] (some [1, 2, 6, 20]))
          (.cond (.t 20)
            (.seq
              (.region false [⟨some 21, (.mv (.t 6)), 3, none, 0⟩, ⟨some 4, (.mv (.t 21)), 3, none, 0⟩, ⟨some 5, (.mv (.c (.bool true))), 4, none, 0⟩] (some [4, 5]))
              .ret)
            .skip)))
      (.region false [⟨some 14, (.mv (.t 6)), 3, none, 0⟩, ⟨some 15, (.bin .add 3 (.t 14) (.c (.int .i64 1))), 3, none, 0⟩, ⟨some 6, (.mv (.t 15)), 3, none, 0⟩] (some [1, 2, 6]))))
def fa_44 : FnA := ⟨22, [.t 4, .t 5],
  (.seq
    (.region false [⟨some 2, (.box 27 (.t 0)), 0, none, 0⟩, ⟨some 4, (.mv (.c (.int .i64 0))), 3, none, 0⟩, ⟨some 5, (.mv (.c (.bool false))), 4, none, 0⟩] (some [1, 2]))
    (.seq
      (.seq
        (.region false [⟨some 7, (.load 27 (.t 2)), 27, none, 0⟩, ⟨some 8, (.mv (.t 1)), 3, none, 0⟩, ⟨some 9, (.bslice 23 1 [(0, (.t 8))]), 23, none, 0⟩, ⟨some 10, (.call (.f 117) [(.t 7), (.t 9)]), 4, none, 3⟩, ⟨some 11, (.un .not (.t 10)), 4, none, 0⟩] (some [1, 2, 11]))
        (.cond (.t 11)
          (.seq
            (.region false [⟨some 4, (.mv (.c (.int .i64 0))), 3, none, 0⟩, ⟨some 5, (.mv (.c (.bool false))), 4, none, 0⟩] (some [4, 5]))
            .ret)
          .skip))
      (.seq
        (.seq
          (.region false [⟨some 6, (.mv (.c (.int .i64 0))), 3, none, 0⟩] (some [1, 2, 6]))
          (.block 0
            (.loop [1, 2, 6] [] lb_44_4)))
        (.seq
          (.region false [⟨some 4, (.mv (.c (.int .i64 0))), 3, none, 0⟩, ⟨some 5, (.mv (.c (.bool false))), 4, none, 0⟩] (some [4, 5]))
          .ret))))⟩
theorem fok_44 : FnOk Try.prog 44 fa_44 an_44 := ⟨Try.f44, _, Try.func44, rfl, by kernel_rfl, rfl, rfl, by decide, by kernel_rfl⟩
/-- spec.DepthOf -/
def an_45 : Ann := ⟨[(1, 3, 3), (6, 3, 3)], [(0, [1, 2]), (1, [1, 2, 11]), (2, [4, 5]), (3, [1, 2, 6]), (4, [1, 2, 6, 16]), (6, [1, 2, 6, 23]), (7, [4, 5]), (5, [1, 2, 6]), (8, [4, 5])], [(4, [1, 2, 6], [])], []⟩
def lb_45_4 : AC :=
  (.seq
    (.seq
      (.region false [⟨some 12, (.mv (.t 6)), 3, none, 0⟩, ⟨some 13, (.faddr 27 (.t 2) 0), 0, none, 0⟩, ⟨some 14, (.load 23 (.t 13)), 23, none, 0⟩, ⟨some 15, (.len 23 (.t 14)), 3, none, 0⟩, ⟨some 16, (.bin .leq 3 (.t 12) (.t 15)), 4, none, 0⟩] (some [1, 2, 6, 16]))
      (.cond (.t 16)
        .skip
        (.exit 0)))
    (.seq
      (.block 1
        (.seq
          (.region false [⟨some 19, (.load 27 (.t 2)), 27, none, 0⟩, ⟨some 20, (.mv (.t 1)), 3, none, 0⟩, ⟨some 21, (.mv (.t 6)), 3, none, 0⟩, ⟨some 22, (.call (.f 126) [(.t 19), (.t 20), (.t 21)]), 3, none, 3⟩, ⟨some 23, (.bin .eql 3 (.t 22) (.c (.int .i64 0))), 4, none, 0⟩] (some [1, 2, 6, 23]))
          (.cond (.t 23)
            (.seq
              (.region false [⟨some 24, (.mv (.t 6)), 3, none, 0⟩, ⟨some 4, (.mv (.t 24)), 3, none, 0⟩, ⟨some 5, (.mv (.c (.bool true))), 4, none, 0⟩] (some [4, 5]))
              .ret)
            .skip)))
      (.region false [⟨some 17, (.mv (.t 6)), 3, none, 0⟩, ⟨some 18, (.bin .add 3 (.t 17) (.c (.int .i64 1))), 3, none, 0⟩, ⟨some 6, (.mv (.t 18)), 3, none, 0⟩] (some [1, 2, 6]))))
def fa_45 : FnA := ⟨25, [.t 4, .t 5],
  (.seq
    (.region false [⟨some 2, (.box 27 (.t 0)), 0, none, 0⟩, ⟨some 4, (.mv (.c (.int .i64 0))), 3, none, 0⟩, ⟨some 5, (.mv (.c (.bool false))), 4, none, 0⟩] (some [1, 2]))
    (.seq
      (.seq
        (.region false [⟨some 7, (.load 27 (.t 2)), 27, none, 0⟩, ⟨some 8, (.mv (.t 1)), 3, none, 0⟩, ⟨some 9, (.mv (.t 1)), 3, none, 0⟩, ⟨some 10, (.call (.f 125) [(.t 7), (.t 8), (.t 9)]), 4, none, 3⟩, ⟨some 11, (.un .not (.t 10)), 4, none, 0⟩] (some [1, 2, 11]))
        (.cond (.t 11)
          (.seq
            (.region false [⟨some 4, (.mv (.c (.int .i64 0))), 3, none, 0⟩, ⟨some 5, (.mv (.c (.bool false))), 4, none, 0⟩] (some [4, 5]))
            .ret)
          .skip))
      (.seq
        (.seq
          (.region false [⟨some 6, (.mv (.c (.int .i64 0))), 3, none, 0⟩] (some [1, 2, 6]))
          (.block 0
            (.loop [1, 2, 6] [] lb_45_4)))
        (.seq
          (.region false [⟨some 4, (.mv (.c (.int .i64 0))), 3, none, 0⟩, ⟨some 5, (.mv (.c (.bool false))), 4, none, 0⟩] (some [4, 5]))
          .ret))))⟩
theorem fok_45 : FnOk Try.prog 45 fa_45 an_45 := ⟨Try.f45, _, Try.func45, rfl, by kernel_rfl, rfl, rfl, by decide, by kernel_rfl⟩
/-- spec.DrawDepthOf -/
def ex_43_3_255 : Ex := .fin
def ex_43_3_127 : Ex := .one 7 ex_43_3_255
def ex_43_3_63 : Ex := (.alt 6 ex_43_3_127 .stop)
def ex_43_3_62 : Ex := (.alt 0 ex_43_3_63 .stop)
def ex_43_3_31 : Ex := (.alt 5 ex_43_3_63 .stop)
def ex_43_3_30 : Ex := (.alt 0 ex_43_3_31 (.alt 5 ex_43_3_62 .stop))
def ex_43_3_15 : Ex := (.alt 4 ex_43_3_31 .stop)
def ex_43_3_14 : Ex := (.alt 0 ex_43_3_15 (.alt 4 ex_43_3_30 .stop))
def ex_43_3_7 : Ex := (.alt 3 ex_43_3_15 .stop)
def ex_43_3_6 : Ex := (.alt 0 ex_43_3_7 (.alt 3 ex_43_3_14 .stop))
def ex_43_3_3 : Ex := (.alt 2 ex_43_3_7 .stop)
def ex_43_3_2 : Ex := (.alt 0 ex_43_3_3 (.alt 2 ex_43_3_6 .stop))
def ex_43_3_0 : Ex := .one 1 ex_43_3_2
def ro_43_3 : List AOper := [⟨some 10, (.load 27 (.t 5)), 27, none, 0⟩, ⟨some 11, (.mv (.t 4)), 72, none, 0⟩, ⟨some 12, (.faddr 27 (.t 5) 0), 0, none, 0⟩, ⟨some 13, (.load 23 (.t 12)), 23, none, 0⟩, ⟨some 14, (.len 23 (.t 13)), 3, none, 0⟩, ⟨some 15, (.call (.f 123) [(.t 11), (.t 14)]), 3, none, 16⟩, ⟨none, (.store 27 (.t 2) (.t 10)), 0, none, 0⟩, ⟨some 3, (.mv (.t 15)), 3, none, 0⟩]
theorem ro_43_3_0 : ro_43_3[0]? = some ⟨some 10, (.load 27 (.t 5)), 27, none, 0⟩ := (rfl)
theorem ro_43_3_1 : ro_43_3[1]? = some ⟨some 11, (.mv (.t 4)), 72, none, 0⟩ := (rfl)
theorem ro_43_3_2 : ro_43_3[2]? = some ⟨some 12, (.faddr 27 (.t 5) 0), 0, none, 0⟩ := (rfl)
theorem ro_43_3_3 : ro_43_3[3]? = some ⟨some 13, (.load 23 (.t 12)), 23, none, 0⟩ := (rfl)
theorem ro_43_3_4 : ro_43_3[4]? = some ⟨some 14, (.len 23 (.t 13)), 3, none, 0⟩ := (rfl)
theorem ro_43_3_5 : ro_43_3[5]? = some ⟨some 15, (.call (.f 123) [(.t 11), (.t 14)]), 3, none, 16⟩ := (rfl)
theorem ro_43_3_6 : ro_43_3[6]? = some ⟨none, (.store 27 (.t 2) (.t 10)), 0, none, 0⟩ := (rfl)
theorem ro_43_3_7 : ro_43_3[7]? = some ⟨some 3, (.mv (.t 15)), 3, none, 0⟩ := (rfl)
def an_43 : Ann := ⟨[(1, 1, 16), (2, 1, 16), (3, 5, 16)], [(0, [0, 2]), (1, [2, 4]), (2, [2, 4, 5]), (3, [2, 3])], [], [(3, ex_43_3_0, [16, 72, 120])]⟩
def fa_43 : FnA := ⟨16, [.c 2 27, .t 3],
  (.seq
    (.region false [⟨some 2, (.alloc 27), 0, none, 0⟩, ⟨some 3, (.mv (.c (.int .i64 0))), 3, none, 0⟩] (some [0, 2]))
    (.seq
      (.region false [⟨some 6, (.mv (.t 0)), 22, none, 0⟩, ⟨some 7, (.call (.f 90) [(.t 6)]), 72, none, 16⟩, ⟨some 4, (.mv (.t 7)), 72, none, 0⟩] (some [2, 4]))
      (.seq
        (.region false [⟨some 8, (.mv (.t 4)), 72, none, 0⟩, ⟨some 9, (.call (.f 105) [(.t 8)]), 27, none, 16⟩, ⟨some 5, (.alloc 27), 0, none, 0⟩, ⟨none, (.store 27 (.t 5) (.t 9)), 0, none, 0⟩] (some [2, 4, 5]))
        (.seq
          (.expl ro_43_3 ex_43_3_0 [2, 3] [16, 72, 120])
          .ret))))⟩
theorem fok_43 : FnOk Try.prog 43 fa_43 an_43 := ⟨Try.f43, _, Try.func43, rfl, by kernel_rfl, rfl, rfl, by decide, by kernel_rfl⟩
/-- laws.FnDepthOf -/
def an_8 : Ann := ⟨[(3, 1, 3), (4, 2, 3), (5, 2, 3), (6, 11, 3), (8, 3, 3), (8, 4, 3), (8, 5, 3), (8, 15, 3), (8, 25, 3)], [(0, [0]), (1, [0, 11]), (2, [2]), (3, [3, 4]), (4, [3, 4, 5, 6]), (5, [3, 4, 5, 6, 7, 8]), (6, [3, 4, 5, 6, 7, 8, 42]), (7, [2]), (8, [2])], [], []⟩
def fa_8 : FnA := ⟨82, [.t 2],
  (.seq
    (.region false [⟨some 2, (.mv (.c (.bool false))), 4, none, 0⟩] (some [0]))
    (.seq
      (.seq
        (.region false [⟨some 9, (.mv (.t 0)), 22, none, 0⟩, ⟨some 10, (.len 22 (.t 9)), 3, none, 0⟩, ⟨some 11, (.bin .gtr 3 (.t 10) (.c (.int .i64 1048576))), 4, none, 0⟩] (some [0, 11]))
        (.cond (.t 11)
          (.seq
            (.region false [⟨some 2, (.mv (.c (.bool true))), 4, none, 0⟩] (some [2]))
            .ret)
          .skip))
      (.seq
        (.region false [⟨some 13, (.mv (.t 0)), 22, none, 0⟩, ⟨some 14, (.call (.f 43) [(.t 13)]), 35, none, 3⟩, ⟨some 12, (.mv (.t 14)), 35, none, 0⟩, ⟨some 15, (.ext (.t 12) 0), 27, none, 0⟩, ⟨some 16, (.ext (.t 12) 1), 3, none, 0⟩, ⟨some 3, (.alloc 27), 0, none, 0⟩, ⟨none, (.store 27 (.t 3) (.t 15)), 0, none, 0⟩, ⟨some 4, (.mv (.t 16)), 3, none, 0⟩] (some [3, 4]))
        (.seq
          (.region false [⟨some 18, (.load 27 (.t 3)), 27, none, 0⟩, ⟨some 19, (.mv (.t 4)), 3, none, 0⟩, ⟨some 20, (.call (.f 44) [(.t 18), (.t 19)]), 48, none, 3⟩, ⟨some 17, (.mv (.t 20)), 48, none, 0⟩, ⟨some 21, (.ext (.t 17) 0), 3, none, 0⟩, ⟨some 22, (.ext (.t 17) 1), 4, none, 0⟩, ⟨some 5, (.mv (.t 21)), 3, none, 0⟩, ⟨some 6, (.mv (.t 22)), 4, none, 0⟩] (some [3, 4, 5, 6]))
          (.seq
            (.region false [⟨some 24, (.load 27 (.t 3)), 27, none, 0⟩, ⟨some 25, (.mv (.t 4)), 3, none, 0⟩, ⟨some 26, (.call (.f 45) [(.t 24), (.t 25)]), 48, none, 3⟩, ⟨some 23, (.mv (.t 26)), 48, none, 0⟩, ⟨some 27, (.ext (.t 23) 0), 3, none, 0⟩, ⟨some 28, (.ext (.t 23) 1), 4, none, 0⟩, ⟨some 7, (.mv (.t 27)), 3, none, 0⟩, ⟨some 8, (.mv (.t 28)), 4, none, 0⟩] (some [3, 4, 5, 6, 7, 8]))
            (.seq
              (.seq
                (.region false (gops [⟨some 29, (.mv (.t 5)), 3, none, 0⟩, ⟨some 30, (.mv (.t 7)), 3, none, 0⟩, ⟨some 31, (.bin .neq 3 (.t 29) (.t 30)), 4, none, 0⟩, ⟨some 32, (.mv (.t 31)), 4, none, 0⟩, ⟨some 33, (.mv (.t 6)), 4, some (32, false), 0⟩, ⟨some 34, (.mv (.t 8)), 4, some (32, false), 0⟩, ⟨some 35, (.bin .neq 4 (.t 33) (.t 34)), 4, some (32, false), 0⟩, ⟨some 36, (.pick (.t 32) (.c (.bool true)) (.t 35)), 4, none, 0⟩, ⟨some 37, (.mv (.t 36)), 4, none, 0⟩, ⟨some 38, (.load 27 (.t 3)), 27, some (37, false), 0⟩, ⟨some 39, (.mv (.t 4)), 3, some (37, false), 0⟩, ⟨some 40, (.call (.f 46) [(.t 38), (.t 39)]), 3, some (37, false), 3⟩, ⟨some 41, (.bin .lss 3 (.t 40) (.c (.int .i64 0))), 4, some (37, false), 0⟩, ⟨some 42, (.pick (.t 37) (.c (.bool true)) (.t 41)), 4, none, 0⟩]) (some [3, 4, 5, 6, 7, 8, 42]))
                (.cond (.t 42)
                  (.seq
                    (.region false (gops [⟨some 43, (.mv (.t 5)), 3, none, 0⟩, ⟨some 44, (.mv (.t 7)), 3, none, 0⟩, ⟨some 45, (.bin .eql 3 (.t 43) (.t 44)), 4, none, 0⟩, ⟨some 46, (.mv (.t 45)), 4, none, 0⟩, ⟨some 47, (.mv (.t 6)), 4, some (46, true), 0⟩, ⟨some 48, (.mv (.t 8)), 4, some (46, true), 0⟩, ⟨some 49, (.bin .eql 4 (.t 47) (.t 48)), 4, some (46, true), 0⟩, ⟨some 50, (.pick (.t 46) (.t 49) (.c (.bool false))), 4, none, 0⟩, ⟨some 2, (.mv (.t 50)), 4, none, 0⟩]) (some [2]))
                    .ret)
                  .skip))
              (.seq
                (.region true (gops (seg [3, 4, 5, 59, 60] [⟨some 51, (.mv (.t 6)), 4, none, 0⟩, ⟨some 52, (.load 27 (.t 3)), 27, none, 0⟩, ⟨some 53, (.mv (.t 4)), 3, none, 0⟩, ⟨some 54, (.call (.f 39) [(.t 53)]), 3, none, 3⟩, ⟨some 55, (.call (.f 29) [(.t 52), (.t 54)]), 3, none, 3⟩, ⟨some 56, (.call (.f 47) [(.t 55), (.c (.int .i64 0))]), 3, none, 3⟩, ⟨some 57, (.bin .eql 3 (.t 56) (.c (.int .i64 1))), 4, none, 0⟩, ⟨some 58, (.bin .eql 4 (.t 51) (.t 57)), 4, none, 0⟩, ⟨some 59, (.mv (.t 58)), 4, none, 0⟩, ⟨some 60, (.mv (.t 6)), 4, some (59, true), 0⟩]
                (seg [3, 4, 5, 59, 62, 68, 70] [⟨some 61, (.un .not (.t 60)), 4, some (59, true), 0⟩, ⟨some 62, (.mv (.t 61)), 4, some (59, true), 0⟩, ⟨some 63, (.load 27 (.t 3)), 27, some (62, false), 0⟩, ⟨some 64, (.mv (.t 4)), 3, some (62, false), 0⟩, ⟨some 65, (.mv (.t 5)), 3, some (62, false), 0⟩, ⟨some 66, (.call (.f 48) [(.t 63), (.t 64), (.t 65)]), 3, some (62, false), 3⟩, ⟨some 67, (.bin .eql 3 (.t 66) (.c (.int .i64 0))), 4, some (62, false), 0⟩, ⟨some 68, (.mv (.t 67)), 4, some (62, false), 0⟩, ⟨some 69, (.mv (.t 5)), 3, some (68, true), 0⟩, ⟨some 70, (.bin .eql 3 (.t 69) (.c (.int .i64 0))), 4, some (68, true), 0⟩]
                [⟨some 71, (.mv (.t 70)), 4, some (68, true), 0⟩, ⟨some 72, (.load 27 (.t 3)), 27, some (71, false), 0⟩, ⟨some 73, (.mv (.t 4)), 3, some (71, false), 0⟩, ⟨some 74, (.mv (.t 5)), 3, some (71, false), 0⟩, ⟨some 75, (.bin .sub 3 (.t 74) (.c (.int .i64 1))), 3, some (71, false), 0⟩, ⟨some 76, (.call (.f 48) [(.t 72), (.t 73), (.t 75)]), 3, some (71, false), 3⟩, ⟨some 77, (.bin .neq 3 (.t 76) (.c (.int .i64 0))), 4, some (71, false), 0⟩, ⟨some 78, (.pick (.t 71) (.c (.bool true)) (.t 77)), 4, some (68, true), 0⟩, ⟨some 79, (.pick (.t 68) (.t 78) (.c (.bool false))), 4, some (62, false), 0⟩, ⟨some 80, (.pick (.t 62) (.c (.bool true)) (.t 79)), 4, some (59, true), 0⟩, ⟨some 81, (.pick (.t 59) (.t 80) (.c (.bool false))), 4, none, 0⟩, ⟨some 2, (.mv (.t 81)), 4, none, 0⟩] [2] (by decide)) [2] (by decide))) (some [2]))
                .ret)))))))⟩
theorem fok_8 : FnOk Try.prog 8 fa_8 an_8 := ⟨Try.f8, _, Try.func8, rfl, by kernel_rfl, rfl, rfl, by decide, by kernel_rfl⟩
end Go.PS
end

section
-- PRINTED by mkdraw2.py: draws.
set_option maxRecDepth 100000
set_option linter.unusedVariables false
set_option linter.unusedSimpArgs false
namespace Go.PS
open Go.Proofs
set_option maxHeartbeats 4000000 in
theorem dep_dag {Q : St → Prop} {b : List Int} {p : Nat} {u : List Int} {t : List (List Int)} {y : Int} (l0 : fw_element.look [.ptr 0 0 0, I64 u.length] (RS b p) = some (I64 y, RS b (p + 2)))
    (hQ : ∀ tb g, getT tb 2 = .ptr 16 1 0 → getT tb 3 = I64 y → Q ⟨tb, [⟨40, 3, .cells [IL u, RL t]⟩, ⟨4080, 2, .cells (RS b (p + 2))⟩, ⟨16, 1, .cells [IL u, RL t]⟩], g⟩) : ∀ tb g, getT tb 2 = .ptr 16 1 0 → getT tb 4 = .ptr 4080 2 0 → getT tb 5 = .ptr 40 3 0 → exT (CI inlR) 0 (inlW (CI inlR) [] [fw_someAlg, fw_element] 1 0) ro_43_3 Q ex_43_3_0 ⟨tb, [⟨40, 3, .cells [IL u, RL t]⟩, ⟨4080, 2, .cells (RS b (p))⟩, ⟨16, 1, .cells [.nil, .nil]⟩], g⟩ := by
  have n255 : ∀ tb g, getT tb 2 = .ptr 16 1 0 → getT tb 4 = .ptr 4080 2 0 → getT tb 5 = .ptr 40 3 0 → getT tb 10 = AL u t → getT tb 11 = .ptr 4080 2 0 → getT tb 12 = .ptr 40 3 0 → getT tb 13 = IL u → getT tb 14 = I64 (u.length : Int) → getT tb 15 = I64 y → getT tb 3 = I64 y → exT (CI inlR) 0 (inlW (CI inlR) [] [fw_someAlg, fw_element] 1 0) ro_43_3 Q ex_43_3_255 ⟨tb, [⟨40, 3, .cells [IL u, RL t]⟩, ⟨4080, 2, .cells (RS b (p + 2))⟩, ⟨16, 1, .cells [IL u, RL t]⟩], g⟩ := by
    intro tb g e2 e4 e5 e10 e11 e12 e13 e14 e15 e3
    unfold ex_43_3_255
    exact hQ tb g e2 e3
  have n127 : ∀ tb g, getT tb 2 = .ptr 16 1 0 → getT tb 4 = .ptr 4080 2 0 → getT tb 5 = .ptr 40 3 0 → getT tb 10 = AL u t → getT tb 11 = .ptr 4080 2 0 → getT tb 12 = .ptr 40 3 0 → getT tb 13 = IL u → getT tb 14 = I64 (u.length : Int) → getT tb 15 = I64 y → exT (CI inlR) 0 (inlW (CI inlR) [] [fw_someAlg, fw_element] 1 0) ro_43_3 Q ex_43_3_127 ⟨tb, [⟨40, 3, .cells [IL u, RL t]⟩, ⟨4080, 2, .cells (RS b (p + 2))⟩, ⟨16, 1, .cells [IL u, RL t]⟩], g⟩ := by
    intro tb g e2 e4 e5 e10 e11 e12 e13 e14 e15
    unfold ex_43_3_127
    simp only [exT_alt, exT_one, exT_stop, and_true]
    rw [ro_43_3_7]
    simp [callDOWR, l0, e2, e4, e5, e10, e11, e12, e13, e14, e15]
    refine n255 _ _ ?_ ?_ ?_ ?_ ?_ ?_ ?_ ?_ ?_ ?_ <;> simp [getT, e2, e4, e5, e10, e11, e12, e13, e14, e15]
  have n63 : ∀ tb g, getT tb 2 = .ptr 16 1 0 → getT tb 4 = .ptr 4080 2 0 → getT tb 5 = .ptr 40 3 0 → getT tb 10 = AL u t → getT tb 11 = .ptr 4080 2 0 → getT tb 12 = .ptr 40 3 0 → getT tb 13 = IL u → getT tb 14 = I64 (u.length : Int) → getT tb 15 = I64 y → exT (CI inlR) 0 (inlW (CI inlR) [] [fw_someAlg, fw_element] 1 0) ro_43_3 Q ex_43_3_63 ⟨tb, [⟨40, 3, .cells [IL u, RL t]⟩, ⟨4080, 2, .cells (RS b (p + 2))⟩, ⟨16, 1, .cells [.nil, .nil]⟩], g⟩ := by
    intro tb g e2 e4 e5 e10 e11 e12 e13 e14 e15
    unfold ex_43_3_63
    simp only [exT_alt, exT_one, exT_stop, and_true]
    rw [ro_43_3_6]
    simp [callDOWR, l0, e2, e4, e5, e10, e11, e12, e13, e14, e15]
    refine n127 _ _ ?_ ?_ ?_ ?_ ?_ ?_ ?_ ?_ ?_ <;> simp [getT, e2, e4, e5, e10, e11, e12, e13, e14, e15]
  have n62 : ∀ tb g, getT tb 2 = .ptr 16 1 0 → getT tb 4 = .ptr 4080 2 0 → getT tb 5 = .ptr 40 3 0 → getT tb 11 = .ptr 4080 2 0 → getT tb 12 = .ptr 40 3 0 → getT tb 13 = IL u → getT tb 14 = I64 (u.length : Int) → getT tb 15 = I64 y → exT (CI inlR) 0 (inlW (CI inlR) [] [fw_someAlg, fw_element] 1 0) ro_43_3 Q ex_43_3_62 ⟨tb, [⟨40, 3, .cells [IL u, RL t]⟩, ⟨4080, 2, .cells (RS b (p + 2))⟩, ⟨16, 1, .cells [.nil, .nil]⟩], g⟩ := by
    intro tb g e2 e4 e5 e11 e12 e13 e14 e15
    unfold ex_43_3_62
    simp only [exT_alt, exT_one, exT_stop, and_true]
    rw [ro_43_3_0]
    simp [callDOWR, l0, e2, e4, e5, e11, e12, e13, e14, e15]
    refine n63 _ _ ?_ ?_ ?_ ?_ ?_ ?_ ?_ ?_ ?_ <;> simp [getT, e2, e4, e5, e11, e12, e13, e14, e15]
  have n31 : ∀ tb g, getT tb 2 = .ptr 16 1 0 → getT tb 4 = .ptr 4080 2 0 → getT tb 5 = .ptr 40 3 0 → getT tb 10 = AL u t → getT tb 11 = .ptr 4080 2 0 → getT tb 12 = .ptr 40 3 0 → getT tb 13 = IL u → getT tb 14 = I64 (u.length : Int) → exT (CI inlR) 0 (inlW (CI inlR) [] [fw_someAlg, fw_element] 1 0) ro_43_3 Q ex_43_3_31 ⟨tb, [⟨40, 3, .cells [IL u, RL t]⟩, ⟨4080, 2, .cells (RS b (p))⟩, ⟨16, 1, .cells [.nil, .nil]⟩], g⟩ := by
    intro tb g e2 e4 e5 e10 e11 e12 e13 e14
    unfold ex_43_3_31
    simp only [exT_alt, exT_one, exT_stop, and_true]
    rw [ro_43_3_5]
    simp [callDOWR, l0, e2, e4, e5, e10, e11, e12, e13, e14]
    refine n63 _ _ ?_ ?_ ?_ ?_ ?_ ?_ ?_ ?_ ?_ <;> simp [getT, e2, e4, e5, e10, e11, e12, e13, e14]
  have n30 : ∀ tb g, getT tb 2 = .ptr 16 1 0 → getT tb 4 = .ptr 4080 2 0 → getT tb 5 = .ptr 40 3 0 → getT tb 11 = .ptr 4080 2 0 → getT tb 12 = .ptr 40 3 0 → getT tb 13 = IL u → getT tb 14 = I64 (u.length : Int) → exT (CI inlR) 0 (inlW (CI inlR) [] [fw_someAlg, fw_element] 1 0) ro_43_3 Q ex_43_3_30 ⟨tb, [⟨40, 3, .cells [IL u, RL t]⟩, ⟨4080, 2, .cells (RS b (p))⟩, ⟨16, 1, .cells [.nil, .nil]⟩], g⟩ := by
    intro tb g e2 e4 e5 e11 e12 e13 e14
    unfold ex_43_3_30
    simp only [exT_alt, exT_one, exT_stop, and_true]
    refine ⟨?_, ?_⟩
    · rw [ro_43_3_0]
      simp [callDOWR, l0, e2, e4, e5, e11, e12, e13, e14]
      refine n31 _ _ ?_ ?_ ?_ ?_ ?_ ?_ ?_ ?_ <;> simp [getT, e2, e4, e5, e11, e12, e13, e14]
    · rw [ro_43_3_5]
      simp [callDOWR, l0, e2, e4, e5, e11, e12, e13, e14]
      refine n62 _ _ ?_ ?_ ?_ ?_ ?_ ?_ ?_ ?_ <;> simp [getT, e2, e4, e5, e11, e12, e13, e14]
  have n15 : ∀ tb g, getT tb 2 = .ptr 16 1 0 → getT tb 4 = .ptr 4080 2 0 → getT tb 5 = .ptr 40 3 0 → getT tb 10 = AL u t → getT tb 11 = .ptr 4080 2 0 → getT tb 12 = .ptr 40 3 0 → getT tb 13 = IL u → exT (CI inlR) 0 (inlW (CI inlR) [] [fw_someAlg, fw_element] 1 0) ro_43_3 Q ex_43_3_15 ⟨tb, [⟨40, 3, .cells [IL u, RL t]⟩, ⟨4080, 2, .cells (RS b (p))⟩, ⟨16, 1, .cells [.nil, .nil]⟩], g⟩ := by
    intro tb g e2 e4 e5 e10 e11 e12 e13
    unfold ex_43_3_15
    simp only [exT_alt, exT_one, exT_stop, and_true]
    rw [ro_43_3_4]
    simp [callDOWR, l0, e2, e4, e5, e10, e11, e12, e13]
    refine n31 _ _ ?_ ?_ ?_ ?_ ?_ ?_ ?_ ?_ <;> simp [getT, e2, e4, e5, e10, e11, e12, e13]
  have n14 : ∀ tb g, getT tb 2 = .ptr 16 1 0 → getT tb 4 = .ptr 4080 2 0 → getT tb 5 = .ptr 40 3 0 → getT tb 11 = .ptr 4080 2 0 → getT tb 12 = .ptr 40 3 0 → getT tb 13 = IL u → exT (CI inlR) 0 (inlW (CI inlR) [] [fw_someAlg, fw_element] 1 0) ro_43_3 Q ex_43_3_14 ⟨tb, [⟨40, 3, .cells [IL u, RL t]⟩, ⟨4080, 2, .cells (RS b (p))⟩, ⟨16, 1, .cells [.nil, .nil]⟩], g⟩ := by
    intro tb g e2 e4 e5 e11 e12 e13
    unfold ex_43_3_14
    simp only [exT_alt, exT_one, exT_stop, and_true]
    refine ⟨?_, ?_⟩
    · rw [ro_43_3_0]
      simp [callDOWR, l0, e2, e4, e5, e11, e12, e13]
      refine n15 _ _ ?_ ?_ ?_ ?_ ?_ ?_ ?_ <;> simp [getT, e2, e4, e5, e11, e12, e13]
    · rw [ro_43_3_4]
      simp [callDOWR, l0, e2, e4, e5, e11, e12, e13]
      refine n30 _ _ ?_ ?_ ?_ ?_ ?_ ?_ ?_ <;> simp [getT, e2, e4, e5, e11, e12, e13]
  have n7 : ∀ tb g, getT tb 2 = .ptr 16 1 0 → getT tb 4 = .ptr 4080 2 0 → getT tb 5 = .ptr 40 3 0 → getT tb 10 = AL u t → getT tb 11 = .ptr 4080 2 0 → getT tb 12 = .ptr 40 3 0 → exT (CI inlR) 0 (inlW (CI inlR) [] [fw_someAlg, fw_element] 1 0) ro_43_3 Q ex_43_3_7 ⟨tb, [⟨40, 3, .cells [IL u, RL t]⟩, ⟨4080, 2, .cells (RS b (p))⟩, ⟨16, 1, .cells [.nil, .nil]⟩], g⟩ := by
    intro tb g e2 e4 e5 e10 e11 e12
    unfold ex_43_3_7
    simp only [exT_alt, exT_one, exT_stop, and_true]
    rw [ro_43_3_3]
    simp [callDOWR, l0, e2, e4, e5, e10, e11, e12]
    refine n15 _ _ ?_ ?_ ?_ ?_ ?_ ?_ ?_ <;> simp [getT, e2, e4, e5, e10, e11, e12]
  have n6 : ∀ tb g, getT tb 2 = .ptr 16 1 0 → getT tb 4 = .ptr 4080 2 0 → getT tb 5 = .ptr 40 3 0 → getT tb 11 = .ptr 4080 2 0 → getT tb 12 = .ptr 40 3 0 → exT (CI inlR) 0 (inlW (CI inlR) [] [fw_someAlg, fw_element] 1 0) ro_43_3 Q ex_43_3_6 ⟨tb, [⟨40, 3, .cells [IL u, RL t]⟩, ⟨4080, 2, .cells (RS b (p))⟩, ⟨16, 1, .cells [.nil, .nil]⟩], g⟩ := by
    intro tb g e2 e4 e5 e11 e12
    unfold ex_43_3_6
    simp only [exT_alt, exT_one, exT_stop, and_true]
    refine ⟨?_, ?_⟩
    · rw [ro_43_3_0]
      simp [callDOWR, l0, e2, e4, e5, e11, e12]
      refine n7 _ _ ?_ ?_ ?_ ?_ ?_ ?_ <;> simp [getT, e2, e4, e5, e11, e12]
    · rw [ro_43_3_3]
      simp [callDOWR, l0, e2, e4, e5, e11, e12]
      refine n14 _ _ ?_ ?_ ?_ ?_ ?_ ?_ <;> simp [getT, e2, e4, e5, e11, e12]
  have n3 : ∀ tb g, getT tb 2 = .ptr 16 1 0 → getT tb 4 = .ptr 4080 2 0 → getT tb 5 = .ptr 40 3 0 → getT tb 10 = AL u t → getT tb 11 = .ptr 4080 2 0 → exT (CI inlR) 0 (inlW (CI inlR) [] [fw_someAlg, fw_element] 1 0) ro_43_3 Q ex_43_3_3 ⟨tb, [⟨40, 3, .cells [IL u, RL t]⟩, ⟨4080, 2, .cells (RS b (p))⟩, ⟨16, 1, .cells [.nil, .nil]⟩], g⟩ := by
    intro tb g e2 e4 e5 e10 e11
    unfold ex_43_3_3
    simp only [exT_alt, exT_one, exT_stop, and_true]
    rw [ro_43_3_2]
    simp [callDOWR, l0, e2, e4, e5, e10, e11]
    refine n7 _ _ ?_ ?_ ?_ ?_ ?_ ?_ <;> simp [getT, e2, e4, e5, e10, e11]
  have n2 : ∀ tb g, getT tb 2 = .ptr 16 1 0 → getT tb 4 = .ptr 4080 2 0 → getT tb 5 = .ptr 40 3 0 → getT tb 11 = .ptr 4080 2 0 → exT (CI inlR) 0 (inlW (CI inlR) [] [fw_someAlg, fw_element] 1 0) ro_43_3 Q ex_43_3_2 ⟨tb, [⟨40, 3, .cells [IL u, RL t]⟩, ⟨4080, 2, .cells (RS b (p))⟩, ⟨16, 1, .cells [.nil, .nil]⟩], g⟩ := by
    intro tb g e2 e4 e5 e11
    unfold ex_43_3_2
    simp only [exT_alt, exT_one, exT_stop, and_true]
    refine ⟨?_, ?_⟩
    · rw [ro_43_3_0]
      simp [callDOWR, l0, e2, e4, e5, e11]
      refine n3 _ _ ?_ ?_ ?_ ?_ ?_ <;> simp [getT, e2, e4, e5, e11]
    · rw [ro_43_3_2]
      simp [callDOWR, l0, e2, e4, e5, e11]
      refine n6 _ _ ?_ ?_ ?_ ?_ ?_ <;> simp [getT, e2, e4, e5, e11]
  have n0 : ∀ tb g, getT tb 2 = .ptr 16 1 0 → getT tb 4 = .ptr 4080 2 0 → getT tb 5 = .ptr 40 3 0 → exT (CI inlR) 0 (inlW (CI inlR) [] [fw_someAlg, fw_element] 1 0) ro_43_3 Q ex_43_3_0 ⟨tb, [⟨40, 3, .cells [IL u, RL t]⟩, ⟨4080, 2, .cells (RS b (p))⟩, ⟨16, 1, .cells [.nil, .nil]⟩], g⟩ := by
    intro tb g e2 e4 e5
    unfold ex_43_3_0
    simp only [exT_alt, exT_one, exT_stop, and_true]
    rw [ro_43_3_1]
    simp [callDOWR, l0, e2, e4, e5]
    refine n2 _ _ ?_ ?_ ?_ ?_ <;> simp [getT, e2, e4, e5]
  exact n0

theorem drDep_pc (c : List Int) (hc : Byt c) (hl : Big c.length) : PC Try.prog 43 [BL c] none false (fun r _ => r = .tup [AL (saM (rdB c) 0).1.1 (saM (rdB c) 0).1.2, I64 (elM (rdB c) (saM (rdB c) 0).2 (saM (rdB c) 0).1.1.length)]) := by
  have hl := hl.le
  have hb := rdB_ok hc
  have l1 := fw_someAlg_look (rdB c) 0 hb (by omega) (by omega)
  obtain ⟨g, q⟩ := saM_few hb (p := 0) (by omega)
  have hu := g.u
  have l2 := fw_element_look (rdB c) (saM (rdB c) 0).2 (saM (rdB c) 0).1.1.length hb (by omega) (by omega) (by omega)
  refine pcR [] [fw_someAlg, fw_element] fok_43 ?_
  generalize saM (rdB c) 0 = A at *
  obtain ⟨⟨u, t⟩, p1⟩ := A
  dsimp only at *
  generalize elM (rdB c) p1 u.length = y at *
  simp [fa_43]
  refine newR hl ?_
  simp [callOWR, l1]
  refine cutE (α := Unit) (fun _ => [(2, .ptr 16 1 0), (3, I64 y)]) (fun _ => [⟨16, 1, .cells [IL u, RL t]⟩]) ?_ (fun _ g0 => ?_)
  · refine dep_dag l2 (fun tb g q2 q3 => ?_) _ _ (by simp) (by simp) (by simp)
    simp [q2, q3]
  · simp
noncomputable def fm_drDep : Fam Try.prog := mkFam (X := List Int) 43 false (fun c => [BL c]) (fun c => (Byt c) ∧ (Big c.length)) (fun c => .tup [AL (saM (rdB c) 0).1.1 (saM (rdB c) 0).1.2, I64 (elM (rdB c) (saM (rdB c) 0).2 (saM (rdB c) 0).1.1.length)]) (by
  rintro c ⟨hc, hl⟩
  exact drDep_pc c hc hl)
@[simp] theorem fm_drDep_id : fm_drDep.id = 43 := rfl
@[simp] theorem fm_drDep_fresh : fm_drDep.fresh = false := rfl
@[simp] theorem fm_drDep_look (c : List Int) (hc : Byt c) (hl : Big c.length) : fm_drDep.look [BL c] = some (.tup [AL (saM (rdB c) 0).1.1 (saM (rdB c) 0).1.2, I64 (elM (rdB c) (saM (rdB c) 0).2 (saM (rdB c) 0).1.1.length)]) :=
  lookF_of (X := List Int) (args := fun c => [BL c]) (pre := fun c => (Byt c) ∧ (Big c.length)) (val := fun c => .tup [AL (saM (rdB c) 0).1.1 (saM (rdB c) 0).1.2, I64 (elM (rdB c) (saM (rdB c) 0).2 (saM (rdB c) 0).1.1.length)]) (by
  intro c c' h
  simp at h
  subst h
  rfl) c ⟨hc, hl⟩
attribute [irreducible] fm_drDep
end Go.PS
end

section
-- Sets of elements by bits; filters, in plain Lean.
set_option linter.unusedVariables false
set_option linter.unusedSimpArgs false
namespace Go.PS

-- sets by bits

/-- Has a set all that another one has? -/
theorem sub_iff {s f : Nat} : s &&& f = s ↔ ∀ x, s.testBit x = true → f.testBit x = true := by
  constructor
  · intro h x hx
    have := congrArg (fun n => n.testBit x) h
    simp only [Nat.testBit_and, hx, Bool.true_and] at this
    exact this
  · intro h
    apply Nat.eq_of_testBit_eq
    intro x
    rw [Nat.testBit_and]
    cases hx : s.testBit x
    · rfl
    · rw [h x hx]; rfl
/-- The set of the numbers below 'n' with 'p'. -/
def mskN (n : Nat) (p : Nat → Bool) : Nat := (List.range n).foldl (fun o i => if p i then o ||| 2 ^ i else o) 0
theorem mskN_succ {n : Nat} {p : Nat → Bool} : mskN (n + 1) p = if p n then mskN n p ||| 2 ^ n else mskN n p := by
  simp [mskN, List.range_succ]
theorem mskN_bit {p : Nat → Bool} {x : Nat} : ∀ n : Nat, (mskN n p).testBit x = (decide (x < n) && p x)
  | 0 => by simp [mskN]
  | n + 1 => by
    have ih := mskN_bit (p := p) (x := x) n
    rw [mskN_succ]
    by_cases e : x = n
    · subst e
      split
      · rename_i h
        simp [Nat.testBit_or, Nat.testBit_two_pow, h]
      · rename_i h
        rw [ih]
        simp [h]
    · have e2 : (decide (x < n + 1)) = decide (x < n) := by rw [Bool.eq_iff_iff]; simp; omega
      rw [e2]
      split
      · rw [Nat.testBit_or, ih, Nat.testBit_two_pow, show decide (n = x) = false by simp; omega, Bool.or_false]
      · exact ih
theorem lt_of_bits {n f : Nat} (h : ∀ x, f.testBit x = true → x < n) : f < 2 ^ n :=
  Nat.lt_pow_two_of_testBit f (fun i hi => by
    cases hb : f.testBit i
    · rfl
    · have := h i hb; omega)
theorem mskN_lt {n : Nat} {p : Nat → Bool} : mskN n p < 2 ^ n := lt_of_bits fun x hx => by rw [mskN_bit] at hx; simp at hx; exact hx.1
theorem full_bit {n x : Nat} : (2 ^ n - 1).testBit x = decide (x < n) := Nat.testBit_two_pow_sub_one n x

section
variable {u : List Int} {t : List (List Int)} {x y z w : Nat}

structure FI (u : List Int) (t : List (List Int)) (f : Nat) : Prop where
  lt : f < 2 ^ u.length
  top : f.testBit (u.length - 1) = true
  up : ∀ x, x < u.length → ∀ y, y < u.length → f.testBit x = true → tb u x y = true → f.testBit y = true
  mul : ∀ x, x < u.length → ∀ y, y < u.length → f.testBit x = true → f.testBit y = true → f.testBit (tn t x y) = true
noncomputable instance (u : List Int) (t : List (List Int)) (f : Nat) : Decidable (FI u t f) := Classical.propDecidable _

noncomputable def filN (u : List Int) (t : List (List Int)) (m : Nat) : List Nat := (List.range m).filter fun f => decide (FI u t f)
theorem mem_fil {f : Nat} : f ∈ filN u t (2 ^ u.length) ↔ FI u t f := by
  simp only [filN, List.mem_filter, List.mem_range, decide_eq_true_eq]
  exact ⟨fun h => h.2, fun h => ⟨h.lt, h⟩⟩
theorem filN_zero : filN u t 0 = [] := rfl
theorem filN_succ {m : Nat} : filN u t (m + 1) = filN u t m ++ (if FI u t m then [m] else []) := by
  simp only [filN, List.range_succ, List.filter_append, List.filter_cons, List.filter_nil, decide_eq_true_eq]
theorem filN_len {m : Nat} : (filN u t m).length ≤ m := by
  have := List.length_filter_le (fun f => decide (FI u t f)) (List.range m)
  unfold filN
  simpa using this

/-- What all sets of a list have, that have a set. -/
def genL (n s : Nat) (l : List Nat) : Nat := l.foldl (fun o f => if s &&& f = s then o &&& f else o) (2 ^ n - 1)
theorem genL_snoc {n s f : Nat} {l : List Nat} : genL n s (l ++ [f]) = if s &&& f = s then genL n s l &&& f else genL n s l := by
  simp [genL, List.foldl_append]
theorem genL_bit0 {s x : Nat} : ∀ (l : List Nat) (o : Nat), (l.foldl (fun o f => if s &&& f = s then o &&& f else o) o).testBit x = (o.testBit x && l.all fun f => !decide (s &&& f = s) || f.testBit x)
  | [], o => by simp
  | f :: l, o => by
    rw [List.foldl_cons, genL_bit0 l, List.all_cons]
    by_cases h : s &&& f = s
    · simp [h, Nat.testBit_and, Bool.and_assoc]
    · simp [h]
theorem genL_bit {n s x : Nat} {l : List Nat} : (genL n s l).testBit x = true ↔ x < n ∧ ∀ f ∈ l, s &&& f = s → f.testBit x = true := by
  unfold genL
  rw [genL_bit0, full_bit]
  simp only [Bool.and_eq_true, decide_eq_true_eq, List.all_eq_true, Bool.or_eq_true, Bool.not_eq_true', decide_eq_false_iff_not]
  refine and_congr_right fun _ => ⟨fun h f hf hs => (h f hf).resolve_left (fun q => q hs), fun h f hf => ?_⟩
  by_cases hs : s &&& f = s
  · exact .inr (h f hf hs)
  · exact .inl hs
theorem genL_lt {n s : Nat} {l : List Nat} : genL n s l < 2 ^ n := lt_of_bits fun x hx => (genL_bit.1 hx).1
/-- The filter by a set. -/
noncomputable def genN (u : List Int) (t : List (List Int)) (s : Nat) : Nat := genL u.length s (filN u t (2 ^ u.length))
theorem gen_bit {s : Nat} : (genN u t s).testBit x = true ↔ x < u.length ∧ ∀ f, FI u t f → s &&& f = s → f.testBit x = true := by
  unfold genN
  rw [genL_bit]
  exact and_congr_right fun _ => ⟨fun h f hf hs => h f (mem_fil.2 hf) hs, fun h f hf hs => h f (mem_fil.1 hf) hs⟩
theorem gen_fi (a : VA u t) {s : Nat} : FI u t (genN u t s) := by
  have hp := a.lat.pos
  refine ⟨genL_lt, ?_, fun x hx y hy h1 h2 => ?_, fun x hx y hy h1 h2 => ?_⟩
  · exact gen_bit.2 ⟨by omega, fun f hf _ => hf.top⟩
  · rw [gen_bit] at h1 ⊢
    exact ⟨hy, fun f hf hs => hf.up x hx y hy (h1.2 f hf hs) h2⟩
  · rw [gen_bit] at h1 h2 ⊢
    exact ⟨a.tn_lt hx hy, fun f hf hs => hf.mul x hx y hy (h1.2 f hf hs) (h2.2 f hf hs)⟩
theorem FI.and {f g : Nat} (a : VA u t) (hf : FI u t f) (hg : FI u t g) : FI u t (f &&& g) := by
  refine ⟨Nat.lt_of_le_of_lt Nat.and_le_left hf.lt, ?_, fun x hx y hy h1 h2 => ?_, fun x hx y hy h1 h2 => ?_⟩
  · rw [Nat.testBit_and, hf.top, hg.top]; rfl
  · rw [Nat.testBit_and, Bool.and_eq_true] at h1 ⊢
    exact ⟨hf.up x hx y hy h1.1 h2, hg.up x hx y hy h1.2 h2⟩
  · rw [Nat.testBit_and, Bool.and_eq_true] at h1 h2 ⊢
    exact ⟨hf.mul x hx y hy h1.1 h2.1, hg.mul x hx y hy h1.2 h2.2⟩
-- powers
abbrev pw (u : List Int) (t : List (List Int)) (x k : Nat) : Nat := (powM u t x k).toNat
theorem VA.pw_lt (a : VA u t) (hx : x < u.length) {k : Nat} : pw u t x k < u.length := by
  have := powM_rng a.tf hx k
  show (powM u t x k).toNat < _
  omega
theorem VA.pw_int (a : VA u t) (hx : x < u.length) {k : Nat} : powM u t x k = (pw u t x k : Nat) := (Int.toNat_of_nonneg (powM_rng a.tf hx k).1).symm
theorem VA.pw_zero (a : VA u t) : pw u t x 0 = u.length - 1 := by
  have := a.lat.pos
  show ((u.length : Int) - 1).toNat = _
  omega
theorem VA.pw_succ (a : VA u t) {k : Nat} : pw u t x (k + 1) = tn t (pw u t x k) x := rfl
theorem VA.pw_one (a : VA u t) (hx : x < u.length) : pw u t x 1 = x := by rw [a.pw_succ, a.pw_zero, a.tn_topl hx]
theorem VA.pw_add (a : VA u t) (hx : x < u.length) {k : Nat} : ∀ m, pw u t x (k + m) = tn t (pw u t x k) (pw u t x m)
  | 0 => by rw [Nat.add_zero, a.pw_zero, a.tn_top (a.pw_lt hx)]
  | m + 1 => by rw [← Nat.add_assoc, a.pw_succ, a.pw_add hx m, a.tn_assoc (a.pw_lt hx) (a.pw_lt hx) hx]; rfl
theorem VA.pw_dec (a : VA u t) (hx : x < u.length) {k : Nat} : tb u (pw u t x (k + 1)) (pw u t x k) = true := a.le_l (a.pw_lt hx) hx
theorem VA.pw_mono (a : VA u t) (hx : x < u.length) {k m : Nat} (h : k ≤ m) : tb u (pw u t x m) (pw u t x k) = true := by
  obtain ⟨e, rfl⟩ := Nat.exists_eq_add_of_le h
  rw [a.pw_add hx]; exact a.le_l (a.pw_lt hx) (a.pw_lt hx)
theorem countP_lt {p q : Nat → Bool} {z : Nat} (h1 : q z = true) (h2 : p z = false) : ∀ {l : List Nat}, (∀ x ∈ l, p x = true → q x = true) → z ∈ l → l.countP p < l.countP q
  | [], _, hz => by cases hz
  | x :: l, h, hz => by
    have hm := List.countP_mono_left (l := l) (p := p) (q := q) (fun y hy => h y (by simp [hy]))
    simp only [List.countP_cons]
    rcases List.mem_cons.1 hz with e | e
    · subst e
      simp [h1, h2]; omega
    · have ih := countP_lt h1 h2 (l := l) (fun y hy => h y (by simp [hy])) e
      have hx := h x (by simp)
      cases hp : p x
      · simp; omega
      · simp [hx hp]; omega
/-- Powers end: from one equal to the next one on they are the same. -/
theorem VA.pw_const (a : VA u t) (hx : x < u.length) {k : Nat} (h : pw u t x (k + 1) = pw u t x k) : ∀ m, pw u t x (k + m) = pw u t x k
  | 0 => rfl
  | m + 1 => by rw [← Nat.add_assoc, a.pw_succ, a.pw_const hx h m, ← a.pw_succ, h]
theorem VA.pw_cnt (a : VA u t) (hx : x < u.length) : ∀ k, (∃ i, i < k ∧ pw u t x (i + 1) = pw u t x i) ∨ (List.range u.length).countP (fun z => tb u z (pw u t x k)) + k ≤ u.length
  | 0 => .inr (by
    have := List.countP_le_length (p := fun z => tb u z (pw u t x 0)) (l := List.range u.length)
    simpa using this)
  | k + 1 => by
    rcases a.pw_cnt hx k with ⟨i, hi, e⟩ | h
    · exact .inl ⟨i, by omega, e⟩
    · by_cases e : pw u t x (k + 1) = pw u t x k
      · exact .inl ⟨k, by omega, e⟩
      · right
        have h1 := a.pw_lt hx (k := k)
        have h2 := a.pw_lt hx (k := k + 1)
        have := countP_lt (p := fun z => tb u z (pw u t x (k + 1))) (q := fun z => tb u z (pw u t x k)) (z := pw u t x k) (l := List.range u.length) (a.lat.rf h1) (by
          cases hb : tb u (pw u t x k) (pw u t x (k + 1))
          · rfl
          · exact absurd (a.lat.eq h2 h1 (a.pw_dec hx) hb) e) (fun z hz h => a.lat.tr (by simpa using hz) h2 h1 h (a.pw_dec hx)) (by simpa using h1)
        omega
theorem VA.pw_end (a : VA u t) (hx : x < u.length) (m : Nat) : pw u t x (u.length + m) = pw u t x u.length := by
  have hp := a.lat.pos
  rcases a.pw_cnt hx u.length with ⟨i, hi, e⟩ | h
  · have e1 := a.pw_const hx e (u.length - i)
    have e2 := a.pw_const hx e (u.length - i + m)
    rw [show i + (u.length - i) = u.length by omega] at e1
    rw [show i + (u.length - i + m) = u.length + m by omega] at e2
    rw [e1, e2]
  · exfalso
    have : 0 < (List.range u.length).countP (fun z => tb u z (pw u t x u.length)) := by
      rw [List.countP_pos_iff]
      exact ⟨0, by simpa using hp, a.lat.bot (a.pw_lt hx)⟩
    omega
theorem VA.pw_idem (a : VA u t) (hx : x < u.length) : tn t (pw u t x u.length) (pw u t x u.length) = pw u t x u.length := by
  rw [← a.pw_add hx, a.pw_end hx]
theorem FI.pw (a : VA u t) {f : Nat} (hf : FI u t f) (hx : x < u.length) (h : f.testBit x = true) : ∀ k, f.testBit (pw u t x k) = true
  | 0 => by rw [a.pw_zero]; exact hf.top
  | k + 1 => by rw [a.pw_succ]; exact hf.mul _ (a.pw_lt hx) _ hx (hf.pw a hx h k) h
/-- The filter by one element: what is at least its powers. -/
theorem gen_one (a : VA u t) (hx : x < u.length) (hy : y < u.length) : (genN u t (2 ^ x)).testBit y = tb u (pw u t x u.length) y := by
  have hn := a.pw_lt hx (k := u.length)
  have hp := a.lat.pos
  have hs : ∀ f : Nat, 2 ^ x &&& f = 2 ^ x ↔ f.testBit x = true := fun f => by
    rw [sub_iff]
    refine ⟨fun h => h x (by simp [Nat.testBit_two_pow]), fun h z hz => ?_⟩
    rw [Nat.testBit_two_pow, decide_eq_true_eq] at hz
    rw [← hz]; exact h
  rw [Bool.eq_iff_iff]
  constructor
  · intro h
    have hg : FI u t (mskN u.length fun z => tb u (pw u t x u.length) z) := by
      refine ⟨mskN_lt, ?_, fun p hp q hq h1 h2 => ?_, fun p hp q hq h1 h2 => ?_⟩
      · rw [mskN_bit, a.lat.topl hn]; simp; omega
      · rw [mskN_bit, Bool.and_eq_true] at h1 ⊢
        exact ⟨by simpa using hq, a.lat.tr hn hp hq h1.2 h2⟩
      · rw [mskN_bit, Bool.and_eq_true] at h1 h2 ⊢
        refine ⟨by simpa using a.tn_lt hp hq, ?_⟩
        have := a.mono2 hn hp hn hq h1.2 h2.2
        rw [a.pw_idem hx] at this; exact this
    have hxg : tb u (pw u t x u.length) x = true := by
      have := a.pw_mono hx (k := 1) (m := u.length) (by omega)
      rw [a.pw_one hx] at this; exact this
    have := (gen_bit.1 h).2 _ hg ((hs _).2 (by rw [mskN_bit, hxg]; simpa using hx))
    rw [mskN_bit, Bool.and_eq_true] at this
    exact this.2
  · intro h
    refine gen_bit.2 ⟨hy, fun f hf h2 => ?_⟩
    exact hf.up _ hn _ hy (hf.pw a hx ((hs f).1 h2) _) h

/-- The first power that is the least element, among so many. -/
def depM (u : List Int) (t : List (List Int)) (x m : Nat) : Int := firstI (m + 1) fun k => decide (powM u t x k = 0)
theorem VA.dep_bit (a : VA u t) (hx : x < u.length) {m : Nat} (hm : u.length ≤ m) : (0 ≤ depM u t x m) ↔ tb u (pw u t x u.length) 0 = true := by
  have hp := a.lat.pos
  have hn := a.pw_lt hx (k := u.length)
  unfold depM
  constructor
  · intro h
    rcases firstI_range (n := m + 1) (p := fun k => decide (powM u t x k = 0)) with e | ⟨k, hk, hz, e⟩
    · rw [e] at h; omega
    · have hz : powM u t x k = 0 := of_decide_eq_true hz
      have hz2 : pw u t x k = 0 := by show (powM u t x k).toNat = 0; rw [hz]; rfl
      have h1 := a.pw_mono hx (k := k) (m := u.length + k) (by omega)
      rw [a.pw_end hx, hz2] at h1; exact h1
  · intro h
    have e := a.lat.eq_bot hn h
    have e2 : powM u t x u.length = 0 := by rw [a.pw_int hx, e]; rfl
    rcases firstI_range (n := m + 1) (p := fun k => decide (powM u t x k = 0)) with e1 | ⟨k, hk, hz, e1⟩
    · exfalso
      unfold firstI at e1
      split at e1
      · omega
      · rename_i hnone
        rw [List.find?_eq_none] at hnone
        have := hnone u.length (by simp; omega)
        simp [e2] at this
    · rw [e1]; omega
theorem firstI_least {n : Nat} {p : Nat → Bool} {z : Nat} (h : firstI n p = z) : z < n ∧ p z = true ∧ ∀ j, j < z → p j = false := by
  unfold firstI at h
  split at h
  · rename_i k hk
    rw [List.find?_range_eq_some] at hk
    have : k = z := by omega
    subst this
    exact ⟨by simpa using hk.2.1, hk.1, fun j hj => by simpa using hk.2.2 j hj⟩
  · omega
theorem VA.dep_eq (a : VA u t) (hx : x < u.length) {m : Nat} (hm : u.length ≤ m) : depM u t x m = depM u t x u.length := by
  have h1 := a.dep_bit hx hm
  have h2 := a.dep_bit hx (Nat.le_refl u.length)
  by_cases h : 0 ≤ depM u t x u.length
  · obtain ⟨k, hk⟩ := Int.eq_ofNat_of_zero_le h
    have q := firstI_least hk
    rw [hk]
    exact firstI_some (by omega) q.2.1 q.2.2
  · have h3 : ¬ 0 ≤ depM u t x m := fun c => h (h2.2 (h1.1 c))
    have r : ∀ m, ¬ 0 ≤ depM u t x m → depM u t x m = -1 := fun m hm => by
      rcases firstI_range (n := m + 1) (p := fun k => decide (powM u t x k = 0)) with e | ⟨k, _, _, e⟩
      · exact e
      · exfalso; apply hm; unfold depM; rw [e]; omega
    rw [r _ h, r _ h3]

-- classes
end
end Go.PS
end

section
-- Contracts: sets by bits; filters of the reference.
set_option maxRecDepth 100000
set_option linter.unusedVariables false
set_option linter.unusedSimpArgs false
namespace Go.PS
open Go.Proofs

/-- A bit, 0 or 1. -/
def bitI (x : Int) (j : Nat) : Int := if x.toNat.testBit j then 1 else 0
@[simp] theorem bitI_one {x : Int} {j : Nat} : bitI x j = 1 ↔ x.toNat.testBit j = true := by unfold bitI; split <;> simp_all
@[simp] theorem bitI_zero {x : Int} {j : Nat} : bitI x j = 0 ↔ x.toNat.testBit j = false := by unfold bitI; split <;> simp_all
theorem bitI_eq {x : Int} (h0 : 0 ≤ x) (j : Nat) : (x.tdiv (2 ^ j)).tmod 2 = bitI x j := by
  have h := bit_math h0 j
  unfold bitI
  split
  · rename_i hb; exact h.2 hb
  · rename_i hb
    have h1 : ¬ (x.tdiv (2 ^ j)).tmod 2 = 1 := fun e => hb (h.1 e)
    have hp : (0 : Int) < 2 ^ j := Int.pow_pos (by omega)
    have h2 : 0 ≤ x.tdiv (2 ^ j) := Int.tdiv_nonneg h0 (by omega)
    have h3 := Int.tmod_nonneg (a := x.tdiv (2 ^ j)) 2 h2
    have h4 := Int.tmod_lt_of_pos (x.tdiv (2 ^ j)) (b := 2) (by omega)
    omega
theorem p2le {n : Nat} (h : n ≤ 6) : 0 < 2 ^ n ∧ 2 ^ n ≤ 64 := ⟨Nat.pow_pos (by omega), Nat.pow_le_pow_right (n := 2) (by omega) h⟩
theorem p2i {n : Nat} : (2 : Int) ^ n = ((2 ^ n : Nat) : Int) := by push_cast; rfl
theorem bitS_pc (x j : Int) (h0 : 0 ≤ x) (h1 : x < 64) (h2 : 0 ≤ j) (h3 : j ≤ 61) : PC Try.prog 171 [I64 x, I64 j] none true (fun r _ => r = I64 (bitI x j.toNat)) := by
  rw [← bitI_eq h0]
  exact bit_pc x j h0 h1 h2 h3
noncomputable def fm_bitS : Fam Try.prog := mkFam (X := Int × Int) 171 true (fun (x, j) => [I64 x, I64 j]) (fun (x, j) => (0 ≤ x) ∧ (x < 64) ∧ (0 ≤ j) ∧ (j ≤ 61)) (fun (x, j) => I64 (bitI x j.toNat)) (by
  rintro ⟨x, j⟩ ⟨h0, h1, h2, h3⟩
  exact bitS_pc x j h0 h1 h2 h3)
@[simp] theorem fm_bitS_id : fm_bitS.id = 171 := rfl
@[simp] theorem fm_bitS_fresh : fm_bitS.fresh = true := rfl
@[simp] theorem fm_bitS_look (x j : Int) (h0 : 0 ≤ x) (h1 : x < 64) (h2 : 0 ≤ j) (h3 : j ≤ 61) : fm_bitS.look [I64 x, I64 j] = some (I64 (bitI x j.toNat)) :=
  lookF_of (X := Int × Int) (args := fun (x, j) => [I64 x, I64 j]) (pre := fun (x, j) => (0 ≤ x) ∧ (x < 64) ∧ (0 ≤ j) ∧ (j ≤ 61)) (val := fun (x, j) => I64 (bitI x j.toNat)) (by
  rintro ⟨x, j⟩ ⟨x', j'⟩ h
  simp at h
  try simp only [and_assoc] at h
  obtain ⟨rfl, rfl⟩ := h
  rfl) (x, j) ⟨h0, h1, h2, h3⟩
attribute [irreducible] fm_bitS
theorem powerL_pc (n : Int) (h0 : 0 ≤ n) (h1 : n ≤ 61) : PC Try.prog 39 [I64 n] none true (fun r _ => r = I64 (2 ^ n.toNat)) := by
  obtain ⟨k, rfl⟩ := Int.eq_ofNat_of_zero_le h0
  refine pcT [] fok_39 ?_
  simp [fa_39]
  refine loopA (tabK_mono _) k (fun i => [(0, I64 ((k : Int) - i)), (3, I64 (2 ^ i))]) (fun _ => []) (fun _ => True) (by simp) (by simp) (fun i g hi _ => ?_)
  have h1 : (2 : Int) ^ i ≤ 2 ^ 61 := by
    have := Nat.pow_le_pow_right (n := 2) (by omega) (show i ≤ 61 by omega)
    exact_mod_cast this
  have h2 : (0 : Int) < 2 ^ i := Int.pow_pos (by omega)
  simp [lb_39_2, wrap64 (n := 2 * 2 ^ i) (by omega) (by omega), wrap64 (n := (k : Int) - i - 1) (by omega) (by omega)]
  refine ⟨fun h => ⟨by omega, by omega, ?_⟩, fun h => ?_⟩
  · rw [Int.pow_succ]; omega
  · rw [show i = k by omega]
noncomputable def fm_powerL : Fam Try.prog := mkFam (X := Int) 39 true (fun n => [I64 n]) (fun n => (0 ≤ n) ∧ (n ≤ 61)) (fun n => I64 (2 ^ n.toNat)) (by
  rintro n ⟨h0, h1⟩
  exact powerL_pc n h0 h1)
@[simp] theorem fm_powerL_id : fm_powerL.id = 39 := rfl
@[simp] theorem fm_powerL_fresh : fm_powerL.fresh = true := rfl
@[simp] theorem fm_powerL_look (n : Int) (h0 : 0 ≤ n) (h1 : n ≤ 61) : fm_powerL.look [I64 n] = some (I64 (2 ^ n.toNat)) :=
  lookF_of (X := Int) (args := fun n => [I64 n]) (pre := fun n => (0 ≤ n) ∧ (n ≤ 61)) (val := fun n => I64 (2 ^ n.toNat)) (by
  intro n n' h
  simp at h
  subst h
  rfl) n ⟨h0, h1⟩
attribute [irreducible] fm_powerL
theorem bitL_pc (x j : Int) (h0 : 0 ≤ x) (h1 : x < 64) (h2 : 0 ≤ j) (h3 : j ≤ 61) : PC Try.prog 47 [I64 x, I64 j] none true (fun r _ => r = I64 (bitI x j.toNat)) := by
  rw [← bitI_eq h0]
  refine pcT [fm_powerL] fok_47 ?_
  have h4 : (0 : Int) < 2 ^ j.toNat := Int.pow_pos (by omega)
  have h5 : x.tdiv (2 ^ j.toNat) ≤ x := by
    rw [Int.tdiv_eq_ediv_of_nonneg h0]; exact Int.ediv_le_self _ h0
  have h6 : 0 ≤ x.tdiv (2 ^ j.toNat) := Int.tdiv_nonneg h0 (by omega)
  simp [fa_47, h2, h3, wrap64 (n := x.tdiv (2 ^ j.toNat)) (by omega) (by omega)]
  omega
noncomputable def fm_bitL : Fam Try.prog := mkFam (X := Int × Int) 47 true (fun (x, j) => [I64 x, I64 j]) (fun (x, j) => (0 ≤ x) ∧ (x < 64) ∧ (0 ≤ j) ∧ (j ≤ 61)) (fun (x, j) => I64 (bitI x j.toNat)) (by
  rintro ⟨x, j⟩ ⟨h0, h1, h2, h3⟩
  exact bitL_pc x j h0 h1 h2 h3)
@[simp] theorem fm_bitL_id : fm_bitL.id = 47 := rfl
@[simp] theorem fm_bitL_fresh : fm_bitL.fresh = true := rfl
@[simp] theorem fm_bitL_look (x j : Int) (h0 : 0 ≤ x) (h1 : x < 64) (h2 : 0 ≤ j) (h3 : j ≤ 61) : fm_bitL.look [I64 x, I64 j] = some (I64 (bitI x j.toNat)) :=
  lookF_of (X := Int × Int) (args := fun (x, j) => [I64 x, I64 j]) (pre := fun (x, j) => (0 ≤ x) ∧ (x < 64) ∧ (0 ≤ j) ∧ (j ≤ 61)) (val := fun (x, j) => I64 (bitI x j.toNat)) (by
  rintro ⟨x, j⟩ ⟨x', j'⟩ h
  simp at h
  try simp only [and_assoc] at h
  obtain ⟨rfl, rfl⟩ := h
  rfl) (x, j) ⟨h0, h1, h2, h3⟩
attribute [irreducible] fm_bitL

/-- Is a number a set of so many elements? -/
def inS (n : Nat) (f : Int) : Bool := decide (0 ≤ f) && decide (f ≤ 2 ^ n - 1)
theorem inS_ex {n : Nat} {f : Int} (h : inS n f = true) : ∃ k : Nat, f = k ∧ k < 2 ^ n := by
  simp only [inS, Bool.and_eq_true, decide_eq_true_eq, p2i] at h
  exact ⟨f.toNat, by omega, by omega⟩
theorem inS_nat {n k : Nat} (h : k < 2 ^ n) : inS n (k : Int) = true := by
  simp only [inS, Bool.and_eq_true, decide_eq_true_eq, p2i]
  omega
theorem leBig {n : Nat} (h : n ≤ 1099511627776) : n ≤ big := h
/-- Numbers as a list of the program's. -/
abbrev natL (l : List Nat) : List Int := l.map fun (x : Nat) => (x : Int)
theorem gi_natL {l : List Nat} {i : Nat} (h : i < l.length) : gi (natL l) i = ((l[i] : Nat) : Int) := by simp [gi, h]
noncomputable def fbM (u : List Int) (t : List (List Int)) (s : Int) : Int := if decide (VA u t) && inS u.length s then (genN u t s.toNat : Nat) else -1
theorem and_nat {a b : Nat} (ha : a < 64) (hb : b < 64) : bAnd .i64 (a : Int) (b : Int) = ((a &&& b : Nat) : Int) := by
  rw [bAnd_nat (by omega) (by omega) (by omega) (by omega)]
  simp
theorem fil_lt {u : List Int} {t : List (List Int)} {i : Nat} (h : i < (filN u t (2 ^ u.length)).length) : (filN u t (2 ^ u.length))[i] < 2 ^ u.length := (mem_fil.1 (List.getElem_mem h)).lt
end Go.PS
end

section
-- Counting: what goes into a list without repeats is no more than the list.
set_option linter.unusedVariables false
set_option linter.unusedSimpArgs false
namespace Go.PS
end Go.PS
end

section
-- Contracts: filters of the program; lists and weights of the laws.
set_option maxRecDepth 100000
set_option linter.unusedVariables false
set_option linter.unusedSimpArgs false
namespace Go.PS
open Go.Proofs

theorem hasI_pc (f x : Int) (h0 : 0 ≤ x) (h1 : x ≤ 63) : PC Try.prog 170 [I64 f, I64 x] none true (fun r _ => r = .bool (f.toNat.testBit x.toNat)) := by
  obtain ⟨x, rfl⟩ := Int.eq_ofNat_of_zero_le h0
  have h := shr_bit f (y := x) (by omega)
  refine pcT [] fok_170 ?_
  simp [fa_170, h]
noncomputable def fm_hasI : Fam Try.prog := mkFam (X := Int × Int) 170 true (fun (f, x) => [I64 f, I64 x]) (fun (f, x) => (0 ≤ x) ∧ (x ≤ 63)) (fun (f, x) => .bool (f.toNat.testBit x.toNat)) (by
  rintro ⟨f, x⟩ ⟨h0, h1⟩
  exact hasI_pc f x h0 h1)
@[simp] theorem fm_hasI_id : fm_hasI.id = 170 := rfl
@[simp] theorem fm_hasI_fresh : fm_hasI.fresh = true := rfl
@[simp] theorem fm_hasI_look (f x : Int) (h0 : 0 ≤ x) (h1 : x ≤ 63) : fm_hasI.look [I64 f, I64 x] = some (.bool (f.toNat.testBit x.toNat)) :=
  lookF_of (X := Int × Int) (args := fun (f, x) => [I64 f, I64 x]) (pre := fun (f, x) => (0 ≤ x) ∧ (x ≤ 63)) (val := fun (f, x) => .bool (f.toNat.testBit x.toNat)) (by
  rintro ⟨f, x⟩ ⟨f', x'⟩ h
  simp at h
  try simp only [and_assoc] at h
  obtain ⟨rfl, rfl⟩ := h
  rfl) (f, x) ⟨h0, h1⟩
attribute [irreducible] fm_hasI
theorem shl2w {n : Nat} (h : n ≤ 6) : bShl .i64 1 (n : Int) = 2 ^ n ∧ IntKind.i64.wrap ((2 : Int) ^ n - 1) = 2 ^ n - 1 := by
  have : n = 0 ∨ n = 1 ∨ n = 2 ∨ n = 3 ∨ n = 4 ∨ n = 5 ∨ n = 6 := by omega
  rcases this with rfl | rfl | rfl | rfl | rfl | rfl | rfl <;> exact ⟨rfl, rfl⟩
theorem setInI_pc (u : List Int) (t : List (List Int)) (f : Int) (hu : Big u.length) (ht : BigR t) : PC Try.prog 109 [AL u t, I64 f] none true (fun r _ => r = .bool (decide (VA u t) && inS u.length f)) := by
  refine pcT [fm_validAlgebraI, fm_within] fok_109 ?_
  by_cases a : VA u t
  · have hw := shl2w a.lat.six
    simp [gops, fa_109, hu, ht, a, hw, inS]
  · simp [gops, fa_109, hu, ht, a]
noncomputable def fm_setInI : Fam Try.prog := mkFam (X := List Int × List (List Int) × Int) 109 true (fun (u, t, f) => [AL u t, I64 f]) (fun (u, t, f) => (Big u.length) ∧ (BigR t)) (fun (u, t, f) => .bool (decide (VA u t) && inS u.length f)) (by
  rintro ⟨u, t, f⟩ ⟨hu, ht⟩
  exact setInI_pc u t f hu ht)
@[simp] theorem fm_setInI_id : fm_setInI.id = 109 := rfl
@[simp] theorem fm_setInI_fresh : fm_setInI.fresh = true := rfl
@[simp] theorem fm_setInI_look (u : List Int) (t : List (List Int)) (f : Int) (hu : Big u.length) (ht : BigR t) : fm_setInI.look [AL u t, I64 f] = some (.bool (decide (VA u t) && inS u.length f)) :=
  lookF_of (X := List Int × List (List Int) × Int) (args := fun (u, t, f) => [AL u t, I64 f]) (pre := fun (u, t, f) => (Big u.length) ∧ (BigR t)) (val := fun (u, t, f) => .bool (decide (VA u t) && inS u.length f)) (by
  rintro ⟨u, t, f⟩ ⟨u', t', f'⟩ h
  simp at h
  try simp only [and_assoc] at h
  obtain ⟨rfl, rfl, rfl⟩ := h
  rfl) (u, t, f) ⟨hu, ht⟩
attribute [irreducible] fm_setInI
set_option maxHeartbeats 1000000 in
theorem isFilI_pc (u : List Int) (t : List (List Int)) (f : Int) (a : VA u t) (hf : inS u.length f = true) : PC Try.prog 110 [AL u t, I64 f] none true (fun r _ => r = .bool (decide (FI u t f.toNat))) := by
  obtain ⟨f, rfl, hf2⟩ := inS_ex hf
  simp only [Int.toNat_natCast]
  have v := a.lat
  have hp := v.pos
  have h6 := v.six
  have hul : u.length ≤ 1099511627776 := by omega
  have h64 := p2le h6
  have w1 : IntKind.i64.wrap ((u.length : Int) - 1) = ((u.length - 1 : Nat) : Int) := by rw [wrap64 (by omega) (by omega)]; omega
  refine pcT [fm_hasI] fok_110 ?_
  simp [fa_110, w1, show ((u.length - 1 : Nat) : Int) ≤ 63 by omega]
  refine ⟨fun h F => ?_, fun ht => ?_⟩
  · rw [F.top] at h; cases h
  refine loopA (tabK_mono _) u.length (fun i => [(18, I64 i)]) (fun _ => []) (fun x => f.testBit x = true → (∀ y, y < u.length → tb u x y = true → f.testBit y = true) ∧ ∀ y, y < u.length → f.testBit y = true → f.testBit (tn t x y) = true) (by simp) (by simp) (fun x g hx hP => ?_)
  simp [lb_110_4, wrap_succ hx hul]
  refine ⟨fun h2 => ?_, fun h2 => ?_⟩
  · have hr := v.sm.lt h2
    have hz := bAndNot_zero (a := gi u x) (b := (f : Int)) hr.1 (by omega) (by omega) (by omega)
    have hz2 : bAndNot .i64 (gi u x) f = 0 ↔ ∀ y, y < u.length → tb u x y = true → f.testBit y = true := by
      rw [hz]
      simp only [Int.toNat_natCast]
      exact ⟨fun h y _ hy => h y hy, fun h y hy => h y (v.sm.bit h2 hy) hy⟩
    simp [h2, show (x : Int) ≤ 63 by omega, wrap_succ hx hul, hz2]
    refine ⟨fun b1 b2 => (by rw [b1] at b2; cases b2), fun b1 => ?_⟩
    refine ⟨fun y hy c1 c2 F => ?_, fun hup => ?_⟩
    · rw [F.up x h2 y hy b1 c1] at c2; cases c2
    refine loopA (tabK_mono _) u.length (fun i => [(34, I64 i)]) (fun _ => []) (fun y => f.testBit y = true → f.testBit (tn t x y) = true) (by simp) (by simp) (fun y g2 hy hQ => ?_)
    simp [lb_110_10, wrap_succ hy hul]
    refine ⟨fun h3 => ?_, fun h3 => ?_⟩
    · have s1 := a.tn_int h2 h3
      have s2 := a.tn_lt h2 h3
      have hlen := a.len
      have hrow := a.rows x h2
      refine cutW (tabK_mono _) [(52, .bool (f.testBit y && !f.testBit (tn t x y)))] (by
        generalize tn t x y = w at *
        cases b2 : f.testBit y <;> simp [b2, h2, h3, s1, hlen, hrow, show (y : Int) ≤ 63 by omega, show (w : Int) ≤ 63 by omega]) ?_
      simp [wrap_succ hy hul]
      refine ⟨fun c1 c2 F => ?_, fun b => ⟨h3, b⟩⟩
      rw [F.mul x h2 y h3 b1 c1] at c2; cases c2
    · simp [wrap_succ hx hul]
      exact ⟨h2, fun _ => ⟨hup, fun y hy => hQ y (by omega)⟩⟩
  · exact ⟨hf2, ht, fun x hx y hy b1 b2 => (hP x (by omega) b1).1 y hy b2, fun x hx y hy b1 b2 => (hP x (by omega) b1).2 y hy b2⟩
noncomputable def fm_isFilI : Fam Try.prog := mkFam (X := List Int × List (List Int) × Int) 110 true (fun (u, t, f) => [AL u t, I64 f]) (fun (u, t, f) => (VA u t) ∧ (inS u.length f = true)) (fun (u, t, f) => .bool (decide (FI u t f.toNat))) (by
  rintro ⟨u, t, f⟩ ⟨a, hf⟩
  exact isFilI_pc u t f a hf)
@[simp] theorem fm_isFilI_id : fm_isFilI.id = 110 := rfl
@[simp] theorem fm_isFilI_fresh : fm_isFilI.fresh = true := rfl
@[simp] theorem fm_isFilI_look (u : List Int) (t : List (List Int)) (f : Int) (a : VA u t) (hf : inS u.length f = true) : fm_isFilI.look [AL u t, I64 f] = some (.bool (decide (FI u t f.toNat))) :=
  lookF_of (X := List Int × List (List Int) × Int) (args := fun (u, t, f) => [AL u t, I64 f]) (pre := fun (u, t, f) => (VA u t) ∧ (inS u.length f = true)) (val := fun (u, t, f) => .bool (decide (FI u t f.toNat))) (by
  rintro ⟨u, t, f⟩ ⟨u', t', f'⟩ h
  simp at h
  try simp only [and_assoc] at h
  obtain ⟨rfl, rfl, rfl⟩ := h
  rfl) (u, t, f) ⟨a, hf⟩
attribute [irreducible] fm_isFilI
theorem filI_pc (u : List Int) (t : List (List Int)) (a : VA u t) : PC Try.prog 113 [AL u t] none true (fun r _ => r = IO1 (natL (filN u t (2 ^ u.length)))) := by
  have v := a.lat
  have h6 := v.six
  have h64 := p2le h6
  have hw := shl2w h6
  have hp2 : (2 : Int) ^ u.length = ((2 ^ u.length : Nat) : Int) := p2i
  refine pcT [fm_isFilI] fok_113 ?_
  simp [fa_113]
  refine loopX (tabK_mono _) (2 ^ u.length) (fun i γ => [(3, .arr 40 γ), (4, I64 i)]) (fun i γ => [⟨40, γ, .arr 1 (ints (natL (filN u t i)))⟩]) (fun _ _ => True) 1 (by simp) (by simp [filN_zero, ints_nil]) trivial (fun i γ g hi _ => ?_)
  have hcond : ((i : Int) < 2 ^ u.length) ↔ i < 2 ^ u.length := by rw [hp2]; omega
  simp [lb_113_3, hw, hcond, wrap_succ hi (show 2 ^ u.length ≤ 1099511627776 by omega)]
  refine ⟨fun h => ?_, fun h => ?_⟩
  · have hle := filN_len (u := u) (t := t) (m := i)
    have hs := filN_succ (u := u) (t := t) (m := i)
    have hin := inS_nat h
    generalize filN u t i = l0 at *
    simp [a, hin, wrap_succ hi (show 2 ^ u.length ≤ 1099511627776 by omega)]
    refine ⟨fun F => ?_, fun F => ?_⟩
    · rw [if_pos F] at hs
      simp [hs]
      exact ⟨leBig (by omega), h⟩
    · rw [if_neg F] at hs
      simp [hs]
      exact h
  · obtain rfl : i = 2 ^ u.length := by omega
    rfl
noncomputable def fm_filI : Fam Try.prog := mkFam (X := List Int × List (List Int)) 113 true (fun (u, t) => [AL u t]) (fun (u, t) => (VA u t)) (fun (u, t) => IO1 (natL (filN u t (2 ^ u.length)))) (by
  rintro ⟨u, t⟩ a
  exact filI_pc u t a)
@[simp] theorem fm_filI_id : fm_filI.id = 113 := rfl
@[simp] theorem fm_filI_fresh : fm_filI.fresh = true := rfl
@[simp] theorem fm_filI_look (u : List Int) (t : List (List Int)) (a : VA u t) : fm_filI.look [AL u t] = some (IO1 (natL (filN u t (2 ^ u.length)))) :=
  lookF_of (X := List Int × List (List Int)) (args := fun (u, t) => [AL u t]) (pre := fun (u, t) => (VA u t)) (val := fun (u, t) => IO1 (natL (filN u t (2 ^ u.length)))) (by
  rintro ⟨u, t⟩ ⟨u', t'⟩ h
  simp at h
  try simp only [and_assoc] at h
  obtain ⟨rfl, rfl⟩ := h
  rfl) (u, t) a
attribute [irreducible] fm_filI
theorem andNot_nat {a b : Nat} (ha : a < 64) (hb : b < 64) : bAndNot .i64 (a : Int) (b : Int) = 0 ↔ a &&& b = a := by
  rw [bAndNot_zero (by omega) (by omega) (by omega) (by omega), sub_iff]
  simp
theorem FiByI_pc (u : List Int) (t : List (List Int)) (s : Int) (hu : Big u.length) (ht : BigR t) : PC Try.prog 29 [AL u t, I64 s] none true (fun r _ => r = I64 (fbM u t s)) := by
  refine pcT [fm_setInI, fm_filI] fok_29 ?_
  unfold fbM
  cases hb : (decide (VA u t) && inS u.length s)
  · simp [fa_29, hu, ht, hb]
  · have h := hb
    simp only [Bool.and_eq_true, decide_eq_true_eq] at h
    obtain ⟨a, hs⟩ := h
    obtain ⟨s, rfl, hs2⟩ := inS_ex hs
    have v := a.lat
    have h6 := v.six
    have h64 := p2le h6
    have hw := shl2w h6
    have hle := filN_len (u := u) (t := t) (m := 2 ^ u.length)
    have hlt := fun i (h : i < (filN u t (2 ^ u.length)).length) => fil_lt h
    simp [fa_29, hu, ht, hb, a, hs, hw]
    unfold genN
    generalize filN u t (2 ^ u.length) = l at *
    have e0 : (2 : Int) ^ u.length - 1 = ((genL u.length s (l.take 0) : Nat) : Int) := by
      simp only [List.take_zero, genL, List.foldl_nil]
      rw [p2i]; omega
    refine loopA (tabK_mono _) l.length (fun i => [(5, I64 (genL u.length s (l.take i) : Nat)), (20, I64 i)]) (fun _ => []) (fun _ => True) (by simp; exact e0) (by simp) (fun i g hi _ => ?_)
    simp [lb_29_5, wrap_succ hi (show l.length ≤ 1099511627776 by omega)]
    refine ⟨fun h => ?_, fun h => ?_⟩
    · have h1 := hlt i h
      have h2 := genL_lt (n := u.length) (s := s) (l := l.take i)
      have e1 := gi_natL h
      have e2 : genL u.length s (l.take (i + 1)) = if s &&& l[i] = s then genL u.length s (l.take i) &&& l[i] else genL u.length s (l.take i) := by
        rw [List.take_succ_eq_append_getElem h, genL_snoc]
      generalize genL u.length s (l.take i) = o at *
      generalize l[i] = f at *
      have e3 := andNot_nat (a := s) (b := f) (by omega) (by omega)
      simp [h, e1, e3, and_nat (a := o) (b := f) (by omega) (by omega)]
      refine ⟨fun c => ?_, fun c => ?_⟩
      · rw [if_pos c] at e2
        simp [e2, wrap_succ hi (show l.length ≤ 1099511627776 by omega), h]
      · rw [if_neg c] at e2
        simp [e2, wrap_succ hi (show l.length ≤ 1099511627776 by omega), h]
    · obtain rfl : i = l.length := by omega
      rw [List.take_length]
noncomputable def fm_FiByI : Fam Try.prog := mkFam (X := List Int × List (List Int) × Int) 29 true (fun (u, t, s) => [AL u t, I64 s]) (fun (u, t, s) => (Big u.length) ∧ (BigR t)) (fun (u, t, s) => I64 (fbM u t s)) (by
  rintro ⟨u, t, s⟩ ⟨hu, ht⟩
  exact FiByI_pc u t s hu ht)
@[simp] theorem fm_FiByI_id : fm_FiByI.id = 29 := rfl
@[simp] theorem fm_FiByI_fresh : fm_FiByI.fresh = true := rfl
@[simp] theorem fm_FiByI_look (u : List Int) (t : List (List Int)) (s : Int) (hu : Big u.length) (ht : BigR t) : fm_FiByI.look [AL u t, I64 s] = some (I64 (fbM u t s)) :=
  lookF_of (X := List Int × List (List Int) × Int) (args := fun (u, t, s) => [AL u t, I64 s]) (pre := fun (u, t, s) => (Big u.length) ∧ (BigR t)) (val := fun (u, t, s) => I64 (fbM u t s)) (by
  rintro ⟨u, t, s⟩ ⟨u', t', s'⟩ h
  simp at h
  try simp only [and_assoc] at h
  obtain ⟨rfl, rfl, rfl⟩ := h
  rfl) (u, t, s) ⟨hu, ht⟩
attribute [irreducible] fm_FiByI

-- lists of the laws
end Go.PS
end

section
-- PRINTED by gen.py: clean texts of functions, and their tie to the program.
set_option maxRecDepth 100000
namespace Go.PS
open Go.Proofs
/-- spec.has -/
def an_125 : Ann := ⟨[(1, 1, 3), (1, 8, 3), (1, 16, 3)], [(0, [1, 2, 3]), (1, [6])], [], []⟩
def fa_125 : FnA := ⟨25, [.t 6],
  (.seq
    (.region false [⟨some 3, (.box 27 (.t 0)), 0, none, 0⟩, ⟨some 6, (.mv (.c (.bool false))), 4, none, 0⟩] (some [1, 2, 3]))
    (.seq
      (.region false (gops (seg [2, 3, 16] [⟨some 7, (.load 27 (.t 3)), 27, none, 0⟩, ⟨some 8, (.call (.f 111) [(.t 7)]), 4, none, 3⟩, ⟨some 9, (.mv (.t 8)), 4, none, 0⟩, ⟨some 10, (.mv (.t 1)), 3, some (9, true), 0⟩, ⟨some 11, (.faddr 27 (.t 3) 0), 0, some (9, true), 0⟩, ⟨some 12, (.load 23 (.t 11)), 23, some (9, true), 0⟩, ⟨some 13, (.len 23 (.t 12)), 3, some (9, true), 0⟩, ⟨some 14, (.bin .sub 3 (.t 13) (.c (.int .i64 1))), 3, some (9, true), 0⟩, ⟨some 15, (.call (.f 128) [(.t 10), (.c (.int .i64 0)), (.t 14)]), 4, some (9, true), 3⟩, ⟨some 16, (.pick (.t 9) (.t 15) (.c (.bool false))), 4, none, 0⟩]
      [⟨some 17, (.mv (.t 16)), 4, none, 0⟩, ⟨some 18, (.mv (.t 2)), 3, some (17, true), 0⟩, ⟨some 19, (.faddr 27 (.t 3) 0), 0, some (17, true), 0⟩, ⟨some 20, (.load 23 (.t 19)), 23, some (17, true), 0⟩, ⟨some 21, (.len 23 (.t 20)), 3, some (17, true), 0⟩, ⟨some 22, (.bin .sub 3 (.t 21) (.c (.int .i64 1))), 3, some (17, true), 0⟩, ⟨some 23, (.call (.f 128) [(.t 18), (.c (.int .i64 0)), (.t 22)]), 4, some (17, true), 3⟩, ⟨some 24, (.pick (.t 17) (.t 23) (.c (.bool false))), 4, none, 0⟩, ⟨some 6, (.mv (.t 24)), 4, none, 0⟩] [6] (by decide))) (some [6]))
      .ret))⟩
theorem fok_125 : FnOk Try.prog 125 fa_125 an_125 := ⟨Try.f125, _, Try.func125, rfl, by kernel_rfl, rfl, rfl, by decide, by kernel_rfl⟩
/-- impl.NotOf -/
def an_46 : Ann := ⟨[(1, 3, 3), (3, 2, 3)], [(0, [1, 2]), (1, [1, 2, 9]), (2, [4]), (3, [4])], [], []⟩
def fa_46 : FnA := ⟨13, [.t 4],
  (.seq
    (.region false [⟨some 2, (.box 27 (.t 0)), 0, none, 0⟩, ⟨some 4, (.mv (.c (.int .i64 0))), 3, none, 0⟩] (some [1, 2]))
    (.seq
      (.seq
        (.region false [⟨some 5, (.load 27 (.t 2)), 27, none, 0⟩, ⟨some 6, (.mv (.t 1)), 3, none, 0⟩, ⟨some 7, (.bslice 23 1 [(0, (.t 6))]), 23, none, 0⟩, ⟨some 8, (.call (.f 117) [(.t 5), (.t 7)]), 4, none, 3⟩, ⟨some 9, (.un .not (.t 8)), 4, none, 0⟩] (some [1, 2, 9]))
        (.cond (.t 9)
          (.seq
            (.region false [⟨some 4, (.mv (.c (.int .i64 (-1)))), 3, none, 0⟩] (some [4]))
            .ret)
          .skip))
      (.seq
        (.region false [⟨some 10, (.load 27 (.t 2)), 27, none, 0⟩, ⟨some 11, (.mv (.t 1)), 3, none, 0⟩, ⟨some 12, (.call (.f 127) [(.t 10), (.t 11)]), 3, none, 3⟩, ⟨some 4, (.mv (.t 12)), 3, none, 0⟩] (some [4]))
        .ret)))⟩
theorem fok_46 : FnOk Try.prog 46 fa_46 an_46 := ⟨Try.f46, _, Try.func46, rfl, by kernel_rfl, rfl, rfl, by decide, by kernel_rfl⟩
/-- impl.PowerOf -/
def an_48 : Ann := ⟨[(1, 3, 3), (1, 7, 3), (3, 3, 3)], [(0, [1, 2, 3]), (1, [1, 2, 3, 16]), (2, [6]), (3, [6])], [], []⟩
def fa_48 : FnA := ⟨21, [.t 6],
  (.seq
    (.region false [⟨some 3, (.box 27 (.t 0)), 0, none, 0⟩, ⟨some 6, (.mv (.c (.int .i64 0))), 3, none, 0⟩] (some [1, 2, 3]))
    (.seq
      (.seq
        (.region false (gops [⟨some 7, (.load 27 (.t 3)), 27, none, 0⟩, ⟨some 8, (.mv (.t 1)), 3, none, 0⟩, ⟨some 9, (.bslice 23 1 [(0, (.t 8))]), 23, none, 0⟩, ⟨some 10, (.call (.f 117) [(.t 7), (.t 9)]), 4, none, 3⟩, ⟨some 11, (.un .not (.t 10)), 4, none, 0⟩, ⟨some 12, (.mv (.t 11)), 4, none, 0⟩, ⟨some 13, (.mv (.t 2)), 3, some (12, false), 0⟩, ⟨some 14, (.call (.f 101) [(.t 13), (.c (.int .i64 0)), (.c (.int .i64 20))]), 4, some (12, false), 3⟩, ⟨some 15, (.un .not (.t 14)), 4, some (12, false), 0⟩, ⟨some 16, (.pick (.t 12) (.c (.bool true)) (.t 15)), 4, none, 0⟩]) (some [1, 2, 3, 16]))
        (.cond (.t 16)
          (.seq
            (.region false [⟨some 6, (.mv (.c (.int .i64 (-1)))), 3, none, 0⟩] (some [6]))
            .ret)
          .skip))
      (.seq
        (.region false [⟨some 17, (.load 27 (.t 3)), 27, none, 0⟩, ⟨some 18, (.mv (.t 1)), 3, none, 0⟩, ⟨some 19, (.mv (.t 2)), 3, none, 0⟩, ⟨some 20, (.call (.f 124) [(.t 17), (.t 18), (.t 19)]), 3, none, 3⟩, ⟨some 6, (.mv (.t 20)), 3, none, 0⟩] (some [6]))
        .ret)))⟩
theorem fok_48 : FnOk Try.prog 48 fa_48 an_48 := ⟨Try.f48, _, Try.func48, rfl, by kernel_rfl, rfl, rfl, by decide, by kernel_rfl⟩
end Go.PS
end

section
-- PRINTED by gen.py: clean texts of functions, and their tie to the program.
set_option maxRecDepth 100000
namespace Go.PS
open Go.Proofs
/-- spec.pow -/
def an_126 : Ann := ⟨[], [(0, [1, 2, 3]), (1, [1, 2, 3, 7]), (2, [1, 2, 3, 7, 13]), (4, [1, 2, 3, 7]), (3, [1, 2, 3, 7]), (5, [6])], [(2, [1, 2, 3, 7], [])], []⟩
def lb_126_2 : AC :=
  (.seq
    (.seq
      (.region false [⟨some 12, (.mv (.t 2)), 3, none, 0⟩, ⟨some 13, (.bin .gtr 3 (.t 12) (.c (.int .i64 0))), 4, none, 0⟩] (some [1, 2, 3, 7, 13]))
      (.cond (.t 13)
        .skip
        (.exit 0)))
    (.seq
      (.block 1
        (.region false [⟨some 16, (.faddr 27 (.t 3) 1), 0, none, 0⟩, ⟨some 17, (.load 25 (.t 16)), 25, none, 0⟩, ⟨some 18, (.mv (.t 7)), 3, none, 0⟩, ⟨some 19, (.iaddr 25 (.t 17) (.t 18)), 0, none, 0⟩, ⟨some 20, (.load 23 (.t 19)), 23, none, 0⟩, ⟨some 21, (.mv (.t 1)), 3, none, 0⟩, ⟨some 22, (.iaddr 23 (.t 20) (.t 21)), 0, none, 0⟩, ⟨some 23, (.load 3 (.t 22)), 3, none, 0⟩, ⟨some 7, (.mv (.t 23)), 3, none, 0⟩] (some [1, 2, 3, 7])))
      (.region false [⟨some 14, (.mv (.t 2)), 3, none, 0⟩, ⟨some 15, (.bin .sub 3 (.t 14) (.c (.int .i64 1))), 3, none, 0⟩, ⟨some 2, (.mv (.t 15)), 3, none, 0⟩] (some [1, 2, 3, 7]))))
def fa_126 : FnA := ⟨25, [.t 6],
  (.seq
    (.region false [⟨some 3, (.box 27 (.t 0)), 0, none, 0⟩, ⟨some 6, (.mv (.c (.int .i64 0))), 3, none, 0⟩] (some [1, 2, 3]))
    (.seq
      (.region false [⟨some 8, (.faddr 27 (.t 3) 0), 0, none, 0⟩, ⟨some 9, (.load 23 (.t 8)), 23, none, 0⟩, ⟨some 10, (.len 23 (.t 9)), 3, none, 0⟩, ⟨some 11, (.bin .sub 3 (.t 10) (.c (.int .i64 1))), 3, none, 0⟩, ⟨some 7, (.mv (.t 11)), 3, none, 0⟩] (some [1, 2, 3, 7]))
      (.seq
        (.block 0
          (.loop [1, 2, 3, 7] [] lb_126_2))
        (.seq
          (.region false [⟨some 24, (.mv (.t 7)), 3, none, 0⟩, ⟨some 6, (.mv (.t 24)), 3, none, 0⟩] (some [6]))
          .ret))))⟩
theorem fok_126 : FnOk Try.prog 126 fa_126 an_126 := ⟨Try.f126, _, Try.func126, rfl, by kernel_rfl, rfl, rfl, by decide, by kernel_rfl⟩
/-- impl.power -/
def an_124 : Ann := ⟨[], [(0, [1, 2, 3]), (1, [1, 2, 3, 7]), (2, [1, 2, 3, 7, 13]), (4, [1, 2, 3, 7]), (3, [1, 2, 3, 7]), (5, [6])], [(2, [1, 2, 3, 7], [])], []⟩
def lb_124_2 : AC :=
  (.seq
    (.seq
      (.region false [⟨some 12, (.mv (.t 2)), 3, none, 0⟩, ⟨some 13, (.bin .gtr 3 (.t 12) (.c (.int .i64 0))), 4, none, 0⟩] (some [1, 2, 3, 7, 13]))
      (.cond (.t 13)
        .skip
        (.exit 0)))
    (.seq
      (.block 1
        (.region false [⟨some 16, (.faddr 27 (.t 3) 1), 0, none, 0⟩, ⟨some 17, (.load 25 (.t 16)), 25, none, 0⟩, ⟨some 18, (.mv (.t 7)), 3, none, 0⟩, ⟨some 19, (.iaddr 25 (.t 17) (.t 18)), 0, none, 0⟩, ⟨some 20, (.load 23 (.t 19)), 23, none, 0⟩, ⟨some 21, (.mv (.t 1)), 3, none, 0⟩, ⟨some 22, (.iaddr 23 (.t 20) (.t 21)), 0, none, 0⟩, ⟨some 23, (.load 3 (.t 22)), 3, none, 0⟩, ⟨some 7, (.mv (.t 23)), 3, none, 0⟩] (some [1, 2, 3, 7])))
      (.region false [⟨some 14, (.mv (.t 2)), 3, none, 0⟩, ⟨some 15, (.bin .sub 3 (.t 14) (.c (.int .i64 1))), 3, none, 0⟩, ⟨some 2, (.mv (.t 15)), 3, none, 0⟩] (some [1, 2, 3, 7]))))
def fa_124 : FnA := ⟨25, [.t 6],
  (.seq
    (.region false [⟨some 3, (.box 27 (.t 0)), 0, none, 0⟩, ⟨some 6, (.mv (.c (.int .i64 0))), 3, none, 0⟩] (some [1, 2, 3]))
    (.seq
      (.region false [⟨some 8, (.faddr 27 (.t 3) 0), 0, none, 0⟩, ⟨some 9, (.load 23 (.t 8)), 23, none, 0⟩, ⟨some 10, (.len 23 (.t 9)), 3, none, 0⟩, ⟨some 11, (.bin .sub 3 (.t 10) (.c (.int .i64 1))), 3, none, 0⟩, ⟨some 7, (.mv (.t 11)), 3, none, 0⟩] (some [1, 2, 3, 7]))
      (.seq
        (.block 0
          (.loop [1, 2, 3, 7] [] lb_124_2))
        (.seq
          (.region false [⟨some 24, (.mv (.t 7)), 3, none, 0⟩, ⟨some 6, (.mv (.t 24)), 3, none, 0⟩] (some [6]))
          .ret))))⟩
theorem fok_124 : FnOk Try.prog 124 fa_124 an_124 := ⟨Try.f124, _, Try.func124, rfl, by kernel_rfl, rfl, rfl, by decide, by kernel_rfl⟩
end Go.PS
end

section
-- Contracts: lists of elements for the names, powers, the least power of the reference.
set_option maxRecDepth 100000
set_option linter.unusedVariables false
set_option linter.unusedSimpArgs false
namespace Go.PS
open Go.Proofs

theorem powS_pc (u : List Int) (t : List (List Int)) (x k : Int) (f : TF u t) (hx0 : 0 ≤ x) (hx : x.toNat < u.length) (hk0 : 0 ≤ k) (hk : k ≤ 1000000) : PC Try.prog 126 [AL u t, I64 x, I64 k] none true (fun r _ => r = I64 (powM u t x.toNat k.toNat)) := by
  obtain ⟨x, rfl⟩ := Int.eq_ofNat_of_zero_le hx0
  obtain ⟨k, rfl⟩ := Int.eq_ofNat_of_zero_le hk0
  simp at hx
  have h6 := f.lat.six
  refine pcT [] fok_126 ?_
  simp [fa_126, wrap64 (n := (u.length : Int) - 1) (by omega) (by omega)]
  refine loopA (tabK_mono _) k (fun i => [(2, I64 ((k : Int) - i)), (7, I64 (powM u t x i))]) (fun _ => []) (fun _ => True) (by simp [powM]) (by simp) (fun i g hi _ => ?_)
  have hr := powM_rng f hx i
  simp [lb_126_2, f.len, f.rows, hr, hx, show (powM u t x i).toNat < u.length by omega, wrap64 (n := (k : Int) - i - 1) (by omega) (by omega), powM]
  refine ⟨fun h => ⟨by omega, by omega⟩, fun h => by rw [show i = k by omega]⟩
noncomputable def fm_powS : Fam Try.prog := mkFam (X := List Int × List (List Int) × Int × Int) 126 true (fun (u, t, x, k) => [AL u t, I64 x, I64 k]) (fun (u, t, x, k) => (TF u t) ∧ (0 ≤ x) ∧ (x.toNat < u.length) ∧ (0 ≤ k) ∧ (k ≤ 1000000)) (fun (u, t, x, k) => I64 (powM u t x.toNat k.toNat)) (by
  rintro ⟨u, t, x, k⟩ ⟨f, hx0, hx, hk0, hk⟩
  exact powS_pc u t x k f hx0 hx hk0 hk)
@[simp] theorem fm_powS_id : fm_powS.id = 126 := rfl
@[simp] theorem fm_powS_fresh : fm_powS.fresh = true := rfl
@[simp] theorem fm_powS_look (u : List Int) (t : List (List Int)) (x k : Int) (f : TF u t) (hx0 : 0 ≤ x) (hx : x.toNat < u.length) (hk0 : 0 ≤ k) (hk : k ≤ 1000000) : fm_powS.look [AL u t, I64 x, I64 k] = some (I64 (powM u t x.toNat k.toNat)) :=
  lookF_of (X := List Int × List (List Int) × Int × Int) (args := fun (u, t, x, k) => [AL u t, I64 x, I64 k]) (pre := fun (u, t, x, k) => (TF u t) ∧ (0 ≤ x) ∧ (x.toNat < u.length) ∧ (0 ≤ k) ∧ (k ≤ 1000000)) (val := fun (u, t, x, k) => I64 (powM u t x.toNat k.toNat)) (by
  rintro ⟨u, t, x, k⟩ ⟨u', t', x', k'⟩ h
  simp at h
  try simp only [and_assoc] at h
  obtain ⟨rfl, rfl, rfl, rfl⟩ := h
  rfl) (u, t, x, k) ⟨f, hx0, hx, hk0, hk⟩
attribute [irreducible] fm_powS

theorem powI_pc (u : List Int) (t : List (List Int)) (x k : Int) (f : TF u t) (hx0 : 0 ≤ x) (hx : x.toNat < u.length) (hk0 : 0 ≤ k) (hk : k ≤ 1000000) : PC Try.prog 124 [AL u t, I64 x, I64 k] none true (fun r _ => r = I64 (powM u t x.toNat k.toNat)) := by
  obtain ⟨x, rfl⟩ := Int.eq_ofNat_of_zero_le hx0
  obtain ⟨k, rfl⟩ := Int.eq_ofNat_of_zero_le hk0
  simp at hx
  have h6 := f.lat.six
  refine pcT [] fok_124 ?_
  simp [fa_124, wrap64 (n := (u.length : Int) - 1) (by omega) (by omega)]
  refine loopA (tabK_mono _) k (fun i => [(2, I64 ((k : Int) - i)), (7, I64 (powM u t x i))]) (fun _ => []) (fun _ => True) (by simp [powM]) (by simp) (fun i g hi _ => ?_)
  have hr := powM_rng f hx i
  simp [lb_124_2, f.len, f.rows, hr, hx, show (powM u t x i).toNat < u.length by omega, wrap64 (n := (k : Int) - i - 1) (by omega) (by omega), powM]
  refine ⟨fun h => ⟨by omega, by omega⟩, fun h => by rw [show i = k by omega]⟩
noncomputable def fm_powI : Fam Try.prog := mkFam (X := List Int × List (List Int) × Int × Int) 124 true (fun (u, t, x, k) => [AL u t, I64 x, I64 k]) (fun (u, t, x, k) => (TF u t) ∧ (0 ≤ x) ∧ (x.toNat < u.length) ∧ (0 ≤ k) ∧ (k ≤ 1000000)) (fun (u, t, x, k) => I64 (powM u t x.toNat k.toNat)) (by
  rintro ⟨u, t, x, k⟩ ⟨f, hx0, hx, hk0, hk⟩
  exact powI_pc u t x k f hx0 hx hk0 hk)
@[simp] theorem fm_powI_id : fm_powI.id = 124 := rfl
@[simp] theorem fm_powI_fresh : fm_powI.fresh = true := rfl
@[simp] theorem fm_powI_look (u : List Int) (t : List (List Int)) (x k : Int) (f : TF u t) (hx0 : 0 ≤ x) (hx : x.toNat < u.length) (hk0 : 0 ≤ k) (hk : k ≤ 1000000) : fm_powI.look [AL u t, I64 x, I64 k] = some (I64 (powM u t x.toNat k.toNat)) :=
  lookF_of (X := List Int × List (List Int) × Int × Int) (args := fun (u, t, x, k) => [AL u t, I64 x, I64 k]) (pre := fun (u, t, x, k) => (TF u t) ∧ (0 ≤ x) ∧ (x.toNat < u.length) ∧ (0 ≤ k) ∧ (k ≤ 1000000)) (val := fun (u, t, x, k) => I64 (powM u t x.toNat k.toNat)) (by
  rintro ⟨u, t, x, k⟩ ⟨u', t', x', k'⟩ h
  simp at h
  try simp only [and_assoc] at h
  obtain ⟨rfl, rfl, rfl, rfl⟩ := h
  rfl) (u, t, x, k) ⟨f, hx0, hx, hk0, hk⟩
attribute [irreducible] fm_powI

end Go.PS
end

section
-- Contracts: implications, nearness, powers; orders, meets and joins, of any numbers.
set_option maxRecDepth 100000
set_option linter.unusedVariables false
set_option linter.unusedSimpArgs false
namespace Go.PS
open Go.Proofs

/-- Is a number an element? -/
def inE (n : Nat) (x : Int) : Bool := decide (0 ≤ x ∧ x < n)
theorem inE_iff {n : Nat} {x : Int} : inE n x = true ↔ 0 ≤ x ∧ x.toNat < n := by simp [inE]; omega
theorem inE_rng {n : Nat} {x : Int} : (decide (0 ≤ x) && decide (x ≤ (n : Int) - 1)) = inE n x := by
  rw [Bool.eq_iff_iff]; simp [inE]; omega
theorem allE_one {n : Nat} {x : Int} : decide (allE [x] n) = inE n x := by
  rw [Bool.eq_iff_iff]; simp [allE, inE]

theorem hasS_pc (u : List Int) (t : List (List Int)) (x y : Int) (hu : Big u.length) (ht : BigR t) : PC Try.prog 125 [AL u t, I64 x, I64 y] none true (fun r _ => r = .bool (decide (VA u t) && (inE u.length x && inE u.length y))) := by
  have hl := hu.le
  have w1 : IntKind.i64.wrap ((u.length : Int) - 1) = u.length - 1 := wrap64 (by omega) (by omega)
  refine pcT [fm_validAlgebraS, fm_inRange] fok_125 ?_
  simp [fa_125]
  refine cutW (tabK_mono _) [(6, .bool (decide (VA u t) && (inE u.length x && inE u.length y)))] (by
    rw [← inE_rng, ← inE_rng]
    cases hb : decide (VA u t)
    · simp [hu, ht, hb]
    · cases hb2 : (decide (0 ≤ x) && decide (x ≤ (u.length : Int) - 1))
      · simp [hu, ht, hb, w1, hb2]
      · simp [hu, ht, hb, w1, hb2]) ?_
  simp
noncomputable def fm_hasS : Fam Try.prog := mkFam (X := List Int × List (List Int) × Int × Int) 125 true (fun (u, t, x, y) => [AL u t, I64 x, I64 y]) (fun (u, t, x, y) => (Big u.length) ∧ (BigR t)) (fun (u, t, x, y) => .bool (decide (VA u t) && (inE u.length x && inE u.length y))) (by
  rintro ⟨u, t, x, y⟩ ⟨hu, ht⟩
  exact hasS_pc u t x y hu ht)
@[simp] theorem fm_hasS_id : fm_hasS.id = 125 := rfl
@[simp] theorem fm_hasS_fresh : fm_hasS.fresh = true := rfl
@[simp] theorem fm_hasS_look (u : List Int) (t : List (List Int)) (x y : Int) (hu : Big u.length) (ht : BigR t) : fm_hasS.look [AL u t, I64 x, I64 y] = some (.bool (decide (VA u t) && (inE u.length x && inE u.length y))) :=
  lookF_of (X := List Int × List (List Int) × Int × Int) (args := fun (u, t, x, y) => [AL u t, I64 x, I64 y]) (pre := fun (u, t, x, y) => (Big u.length) ∧ (BigR t)) (val := fun (u, t, x, y) => .bool (decide (VA u t) && (inE u.length x && inE u.length y))) (by
  rintro ⟨u, t, x, y⟩ ⟨u', t', x', y'⟩ h
  simp at h
  try simp only [and_assoc] at h
  obtain ⟨rfl, rfl, rfl, rfl⟩ := h
  rfl) (u, t, x, y) ⟨hu, ht⟩
attribute [irreducible] fm_hasS

noncomputable def NoM (u : List Int) (t : List (List Int)) (x : Int) : Int := if decide (VA u t) && inE u.length x then implyM u t x.toNat 0 else -1
noncomputable def PoM (u : List Int) (t : List (List Int)) (x k : Int) : Int := if decide (VA u t) && inE u.length x && (decide (0 ≤ k) && decide (k ≤ 20)) then powM u t x.toNat k.toNat else -1

theorem NotI_pc (u : List Int) (t : List (List Int)) (x : Int) (hu : Big u.length) (ht : BigR t) : PC Try.prog 46 [AL u t, I64 x] none true (fun r _ => r = I64 (NoM u t x)) := by
  have l1 : fm_atI.look [AL u t, .list 1 [.int .i64 x]] = some (.bool (decide (VA u t) && decide (allE [x] u.length))) := fm_atI_look u t [x] hu ht (by unfold Big; simp)
  rw [allE_one] at l1
  refine pcT [fm_atI, fm_notI] fok_46 ?_
  unfold NoM
  cases hb : (decide (VA u t) && inE u.length x)
  · rw [hb] at l1
    simp [fa_46, l1, show List.range 1 = [0] from rfl]
  · have h := hb
    rw [hb] at l1
    simp only [Bool.and_eq_true, decide_eq_true_eq, inE_iff] at h
    simp [fa_46, l1, h.1.tf, h.2, show List.range 1 = [0] from rfl]
noncomputable def fm_NotI : Fam Try.prog := mkFam (X := List Int × List (List Int) × Int) 46 true (fun (u, t, x) => [AL u t, I64 x]) (fun (u, t, x) => (Big u.length) ∧ (BigR t)) (fun (u, t, x) => I64 (NoM u t x)) (by
  rintro ⟨u, t, x⟩ ⟨hu, ht⟩
  exact NotI_pc u t x hu ht)
@[simp] theorem fm_NotI_id : fm_NotI.id = 46 := rfl
@[simp] theorem fm_NotI_fresh : fm_NotI.fresh = true := rfl
@[simp] theorem fm_NotI_look (u : List Int) (t : List (List Int)) (x : Int) (hu : Big u.length) (ht : BigR t) : fm_NotI.look [AL u t, I64 x] = some (I64 (NoM u t x)) :=
  lookF_of (X := List Int × List (List Int) × Int) (args := fun (u, t, x) => [AL u t, I64 x]) (pre := fun (u, t, x) => (Big u.length) ∧ (BigR t)) (val := fun (u, t, x) => I64 (NoM u t x)) (by
  rintro ⟨u, t, x⟩ ⟨u', t', x'⟩ h
  simp at h
  try simp only [and_assoc] at h
  obtain ⟨rfl, rfl, rfl⟩ := h
  rfl) (u, t, x) ⟨hu, ht⟩
attribute [irreducible] fm_NotI
theorem PowerI_pc (u : List Int) (t : List (List Int)) (x k : Int) (hu : Big u.length) (ht : BigR t) : PC Try.prog 48 [AL u t, I64 x, I64 k] none true (fun r _ => r = I64 (PoM u t x k)) := by
  have l1 : fm_atI.look [AL u t, .list 1 [.int .i64 x]] = some (.bool (decide (VA u t) && decide (allE [x] u.length))) := fm_atI_look u t [x] hu ht (by unfold Big; simp)
  rw [allE_one] at l1
  refine pcT [fm_atI, fm_powI, fm_within] fok_48 ?_
  simp [fa_48]
  refine cutW (tabK_mono _) [(16, .bool (!(decide (VA u t) && inE u.length x && (decide (0 ≤ k) && decide (k ≤ 20)))))] (by
    cases hb : (decide (VA u t) && inE u.length x)
    · rw [hb] at l1
      simp [l1, show List.range 1 = [0] from rfl]
    · rw [hb] at l1
      simp [l1, show List.range 1 = [0] from rfl]) ?_
  unfold PoM
  cases hb : (decide (VA u t) && inE u.length x && (decide (0 ≤ k) && decide (k ≤ 20)))
  · simp
  · have h := hb
    simp only [Bool.and_eq_true, decide_eq_true_eq, inE_iff] at h
    simp [h.1.1.tf, h.1.2, h.2, show k ≤ 1000000 by omega]
noncomputable def fm_PowerI : Fam Try.prog := mkFam (X := List Int × List (List Int) × Int × Int) 48 true (fun (u, t, x, k) => [AL u t, I64 x, I64 k]) (fun (u, t, x, k) => (Big u.length) ∧ (BigR t)) (fun (u, t, x, k) => I64 (PoM u t x k)) (by
  rintro ⟨u, t, x, k⟩ ⟨hu, ht⟩
  exact PowerI_pc u t x k hu ht)
@[simp] theorem fm_PowerI_id : fm_PowerI.id = 48 := rfl
@[simp] theorem fm_PowerI_fresh : fm_PowerI.fresh = true := rfl
@[simp] theorem fm_PowerI_look (u : List Int) (t : List (List Int)) (x k : Int) (hu : Big u.length) (ht : BigR t) : fm_PowerI.look [AL u t, I64 x, I64 k] = some (I64 (PoM u t x k)) :=
  lookF_of (X := List Int × List (List Int) × Int × Int) (args := fun (u, t, x, k) => [AL u t, I64 x, I64 k]) (pre := fun (u, t, x, k) => (Big u.length) ∧ (BigR t)) (val := fun (u, t, x, k) => I64 (PoM u t x k)) (by
  rintro ⟨u, t, x, k⟩ ⟨u', t', x', k'⟩ h
  simp at h
  try simp only [and_assoc] at h
  obtain ⟨rfl, rfl, rfl, rfl⟩ := h
  rfl) (u, t, x, k) ⟨hu, ht⟩
attribute [irreducible] fm_PowerI

end Go.PS
end

section
-- PRINTED by gen.py: clean texts of functions, and their tie to the program.
set_option maxRecDepth 100000
namespace Go.PS
open Go.Proofs
end Go.PS
end

section
-- Contracts: sets and filters that are drawn.
set_option maxRecDepth 100000
set_option linter.unusedVariables false
set_option linter.unusedSimpArgs false
namespace Go.PS
open Go.Proofs

end Go.PS
end

section
-- PRINTED by gen.py: clean texts of functions, and their tie to the program.
set_option maxRecDepth 100000
namespace Go.PS
open Go.Proofs
end Go.PS
end

section
-- PRINTED by mkdraw2.py: draws.
set_option maxRecDepth 100000
set_option linter.unusedVariables false
set_option linter.unusedSimpArgs false
namespace Go.PS
open Go.Proofs
end Go.PS
end

section
-- Draws of one algebra.
set_option maxRecDepth 100000
set_option linter.unusedVariables false
set_option linter.unusedSimpArgs false
namespace Go.PS
open Go.Proofs


end Go.PS
end

section
-- What the laws of elements have in common; the law of products.
set_option maxRecDepth 100000
set_option linter.unusedVariables false
set_option linter.unusedSimpArgs false
namespace Go.PS
open Go.Proofs

section
variable {u : List Int} {t : List (List Int)} {x y z : Nat}
theorem inE_nat (h : x < u.length) : inE u.length (x : Int) = true := by simp [inE, h]
end
theorem inE_ex {n : Nat} {x : Int} (h : inE n x = true) : ∃ k : Nat, x = k ∧ k < n := by
  rw [inE_iff] at h
  exact ⟨x.toNat, by omega, h.2⟩
theorem NoM_ex {u : List Int} {t : List (List Int)} {x : Int} (h : ¬ NoM u t x < 0) : ∃ (i : Nat), x = i ∧ i < u.length ∧ VA u t := by
  unfold NoM at h
  split at h
  · rename_i hb
    simp only [Bool.and_eq_true, decide_eq_true_eq] at hb
    obtain ⟨i, rfl, hi⟩ := inE_ex hb.2
    exact ⟨i, rfl, hi, hb.1⟩
  · exact absurd (by decide) h
theorem PoM_nat {u : List Int} {t : List (List Int)} {x e : Nat} (a : VA u t) (hx : x < u.length) (he : e ≤ 20) : PoM u t x e = powM u t x e := by
  simp [PoM, a, inE_nat hx]; omega


end Go.PS
end

section
-- The law of filters of one element.
set_option maxRecDepth 100000
set_option linter.unusedVariables false
set_option linter.unusedSimpArgs false
namespace Go.PS
open Go.Proofs

theorem fbM_lt {u : List Int} {t : List (List Int)} {s : Nat} (h : s < 2 ^ u.length) (a : VA u t) : fbM u t s = (genN u t s : Nat) := by
  unfold fbM
  rw [if_pos (by simp [a, inS_nat h])]
  simp
end Go.PS
end
