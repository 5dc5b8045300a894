/- PRINTED by gen.py: clean texts of functions, and their tie to the program. -/
import Derived.Test.YtdojebhmkbfppaaPta
import Derived.Test.YtdojebhmkbfppaaChecked
set_option maxRecDepth 100000
namespace Go.PS
open Go.Proofs
/-- laws.szIntS -/
def an_60 : Ann := ⟨[], [(0, [0, 1]), (1, [1]), (2, [1, 10]), (3, [4]), (4, [4])], []⟩
def fa_60 : FnA := ⟨12, [.t 4],
  (.seq
    (.region false [⟨some 4, (.mv (.c (.int .i64 0))), 3, none, 0⟩] (some [0, 1]))
    (.seq
      (.region false [⟨some 5, (.mv (.t 1)), 3, none, 0⟩, ⟨some 6, (.mv (.t 0)), 22, none, 0⟩, ⟨some 7, (.len 22 (.t 6)), 3, none, 0⟩, ⟨some 8, (.bin .sub 3 (.t 5) (.t 7)), 3, none, 0⟩, ⟨some 1, (.mv (.t 8)), 3, none, 0⟩] (some [1]))
      (.seq
        (.seq
          (.region false [⟨some 9, (.mv (.t 1)), 3, none, 0⟩, ⟨some 10, (.bin .lss 3 (.t 9) (.c (.int .i64 0))), 4, none, 0⟩] (some [1, 10]))
          (.cond (.t 10)
            (.seq
              (.region false [⟨some 4, (.mv (.c (.int .i64 (-1)))), 3, none, 0⟩] (some [4]))
              .ret)
            .skip))
        (.seq
          (.region false [⟨some 11, (.mv (.t 1)), 3, none, 0⟩, ⟨some 4, (.mv (.t 11)), 3, none, 0⟩] (some [4]))
          .ret))))⟩
theorem fok_60 : FnOk Try.prog 60 fa_60 an_60 := ⟨Try.f60, _, Try.func60, rfl, by kernel_rfl, rfl, rfl, by decide, by kernel_rfl⟩
/-- laws.szIntSS -/
def an_61 : Ann := ⟨[(7, 5, 3)], [(0, [0, 1]), (1, [0, 1]), (2, [0, 1, 11]), (3, [4]), (4, [0, 1, 5]), (5, [0, 1, 5, 15]), (7, [0, 1, 5]), (8, [0, 1, 5, 25]), (9, [4]), (6, [0, 1, 5]), (10, [4])], [(5, [0, 1, 5], [])]⟩
def lb_61_5 : AC :=
  (.seq
    (.seq
      (.region false [⟨some 12, (.mv (.t 5)), 3, none, 0⟩, ⟨some 13, (.mv (.t 0)), 23, none, 0⟩, ⟨some 14, (.len 23 (.t 13)), 3, none, 0⟩, ⟨some 15, (.bin .lss 3 (.t 12) (.t 14)), 4, none, 0⟩] (some [0, 1, 5, 15]))
      (.cond (.t 15)
        .skip
        (.exit 0)))
    (.seq
      (.block 1
        (.seq
          (.region false [⟨some 18, (.mv (.t 0)), 23, none, 0⟩, ⟨some 19, (.mv (.t 5)), 3, none, 0⟩, ⟨some 20, (.iaddr 23 (.t 18) (.t 19)), 0, none, 0⟩, ⟨some 21, (.load 22 (.t 20)), 22, none, 0⟩, ⟨some 22, (.mv (.t 1)), 3, none, 0⟩, ⟨some 23, (.call (.f 60) [(.t 21), (.t 22)]), 3, none, 3⟩, ⟨some 1, (.mv (.t 23)), 3, none, 0⟩] (some [0, 1, 5]))
          (.seq
            (.region false [⟨some 24, (.mv (.t 1)), 3, none, 0⟩, ⟨some 25, (.bin .lss 3 (.t 24) (.c (.int .i64 0))), 4, none, 0⟩] (some [0, 1, 5, 25]))
            (.cond (.t 25)
              (.seq
                (.region false [⟨some 4, (.mv (.c (.int .i64 (-1)))), 3, none, 0⟩] (some [4]))
                .ret)
              .skip))))
      (.region false [⟨some 16, (.mv (.t 5)), 3, none, 0⟩, ⟨some 17, (.bin .add 3 (.t 16) (.c (.int .i64 1))), 3, none, 0⟩, ⟨some 5, (.mv (.t 17)), 3, none, 0⟩] (some [0, 1, 5]))))
def fa_61 : FnA := ⟨27, [.t 4],
  (.seq
    (.region false [⟨some 4, (.mv (.c (.int .i64 0))), 3, none, 0⟩] (some [0, 1]))
    (.seq
      (.region false [⟨some 6, (.mv (.t 1)), 3, none, 0⟩, ⟨some 7, (.mv (.t 0)), 23, none, 0⟩, ⟨some 8, (.len 23 (.t 7)), 3, none, 0⟩, ⟨some 9, (.bin .sub 3 (.t 6) (.t 8)), 3, none, 0⟩, ⟨some 1, (.mv (.t 9)), 3, none, 0⟩] (some [0, 1]))
      (.seq
        (.seq
          (.region false [⟨some 10, (.mv (.t 1)), 3, none, 0⟩, ⟨some 11, (.bin .lss 3 (.t 10) (.c (.int .i64 0))), 4, none, 0⟩] (some [0, 1, 11]))
          (.cond (.t 11)
            (.seq
              (.region false [⟨some 4, (.mv (.c (.int .i64 (-1)))), 3, none, 0⟩] (some [4]))
              .ret)
            .skip))
        (.seq
          (.seq
            (.region false [⟨some 5, (.mv (.c (.int .i64 0))), 3, none, 0⟩] (some [0, 1, 5]))
            (.block 0
              (.loop [0, 1, 5] [] lb_61_5)))
          (.seq
            (.region false [⟨some 26, (.mv (.t 1)), 3, none, 0⟩, ⟨some 4, (.mv (.t 26)), 3, none, 0⟩] (some [4]))
            .ret)))))⟩
theorem fok_61 : FnOk Try.prog 61 fa_61 an_61 := ⟨Try.f61, _, Try.func61, rfl, by kernel_rfl, rfl, rfl, by decide, by kernel_rfl⟩
/-- laws.szAlgebra -/
def an_17 : Ann := ⟨[(1, 3, 3), (4, 3, 3)], [(0, [1, 2]), (1, [1, 2]), (2, [1, 2, 10]), (3, [4]), (4, [1]), (5, [1, 16]), (6, [4]), (7, [4])], []⟩
def fa_17 : FnA := ⟨18, [.t 4],
  (.seq
    (.region false [⟨some 2, (.box 25 (.t 0)), 0, none, 0⟩, ⟨some 4, (.mv (.c (.int .i64 0))), 3, none, 0⟩] (some [1, 2]))
    (.seq
      (.region false [⟨some 5, (.faddr 25 (.t 2) 0), 0, none, 0⟩, ⟨some 6, (.load 22 (.t 5)), 22, none, 0⟩, ⟨some 7, (.mv (.t 1)), 3, none, 0⟩, ⟨some 8, (.call (.f 60) [(.t 6), (.t 7)]), 3, none, 3⟩, ⟨some 1, (.mv (.t 8)), 3, none, 0⟩] (some [1, 2]))
      (.seq
        (.seq
          (.region false [⟨some 9, (.mv (.t 1)), 3, none, 0⟩, ⟨some 10, (.bin .lss 3 (.t 9) (.c (.int .i64 0))), 4, none, 0⟩] (some [1, 2, 10]))
          (.cond (.t 10)
            (.seq
              (.region false [⟨some 4, (.mv (.c (.int .i64 (-1)))), 3, none, 0⟩] (some [4]))
              .ret)
            .skip))
        (.seq
          (.region false [⟨some 11, (.faddr 25 (.t 2) 1), 0, none, 0⟩, ⟨some 12, (.load 23 (.t 11)), 23, none, 0⟩, ⟨some 13, (.mv (.t 1)), 3, none, 0⟩, ⟨some 14, (.call (.f 61) [(.t 12), (.t 13)]), 3, none, 3⟩, ⟨some 1, (.mv (.t 14)), 3, none, 0⟩] (some [1]))
          (.seq
            (.seq
              (.region false [⟨some 15, (.mv (.t 1)), 3, none, 0⟩, ⟨some 16, (.bin .lss 3 (.t 15) (.c (.int .i64 0))), 4, none, 0⟩] (some [1, 16]))
              (.cond (.t 16)
                (.seq
                  (.region false [⟨some 4, (.mv (.c (.int .i64 (-1)))), 3, none, 0⟩] (some [4]))
                  .ret)
                .skip))
            (.seq
              (.region false [⟨some 17, (.mv (.t 1)), 3, none, 0⟩, ⟨some 4, (.mv (.t 17)), 3, none, 0⟩] (some [4]))
              .ret))))))⟩
theorem fok_17 : FnOk Try.prog 17 fa_17 an_17 := ⟨Try.f17, _, Try.func17, rfl, by kernel_rfl, rfl, rfl, by decide, by kernel_rfl⟩
/-- laws.toIntS -/
def an_20 : Ann := ⟨[], [(0, [0]), (1, [0, 3]), (2, [0, 3, 4]), (3, [0, 3, 4, 11]), (5, [0, 3, 4]), (4, [0, 3, 4]), (6, [2])], [(3, [0, 3, 4], [56])]⟩
def lb_20_3 : AC :=
  (.seq
    (.seq
      (.region false [⟨some 8, (.mv (.t 4)), 3, none, 0⟩, ⟨some 9, (.mv (.t 0)), 22, none, 0⟩, ⟨some 10, (.len 22 (.t 9)), 3, none, 0⟩, ⟨some 11, (.bin .lss 3 (.t 8) (.t 10)), 4, none, 0⟩] (some [0, 3, 4, 11]))
      (.cond (.t 11)
        .skip
        (.exit 0)))
    (.seq
      (.block 1
        (.region false [⟨some 14, (.mv (.t 3)), 22, none, 0⟩, ⟨some 15, (.mv (.t 4)), 3, none, 0⟩, ⟨some 16, (.mv (.t 0)), 22, none, 0⟩, ⟨some 17, (.mv (.t 4)), 3, none, 0⟩, ⟨some 18, (.iaddr 22 (.t 16) (.t 17)), 0, none, 0⟩, ⟨some 19, (.load 3 (.t 18)), 3, none, 0⟩, ⟨some 20, (.iaddr 22 (.t 14) (.t 15)), 0, none, 0⟩, ⟨none, (.store 3 (.t 20) (.t 19)), 0, none, 0⟩] (some [0, 3, 4])))
      (.region false [⟨some 12, (.mv (.t 4)), 3, none, 0⟩, ⟨some 13, (.bin .add 3 (.t 12) (.c (.int .i64 1))), 3, none, 0⟩, ⟨some 4, (.mv (.t 13)), 3, none, 0⟩] (some [0, 3, 4]))))
def fa_20 : FnA := ⟨22, [.t 2],
  (.seq
    (.region false [⟨some 2, (.mv (.c .nil)), 22, none, 0⟩] (some [0]))
    (.seq
      (.region false [⟨some 5, (.mv (.t 0)), 22, none, 0⟩, ⟨some 6, (.len 22 (.t 5)), 3, none, 0⟩, ⟨some 7, (.make 22 (.t 6) (.t 6)), 22, none, 0⟩, ⟨some 3, (.mv (.t 7)), 22, none, 0⟩] (some [0, 3]))
      (.seq
        (.seq
          (.region false [⟨some 4, (.mv (.c (.int .i64 0))), 3, none, 0⟩] (some [0, 3, 4]))
          (.block 0
            (.loop [0, 3, 4] [56] lb_20_3)))
        (.seq
          (.region false [⟨some 21, (.mv (.t 3)), 22, none, 0⟩, ⟨some 2, (.mv (.t 21)), 22, none, 0⟩] (some [2]))
          .ret))))⟩
theorem fok_20 : FnOk Try.prog 20 fa_20 an_20 := ⟨Try.f20, _, Try.func20, rfl, by kernel_rfl, rfl, rfl, by decide, by kernel_rfl⟩
/-- laws.toIntSS -/
def an_66 : Ann := ⟨[(5, 6, 3), (6, 0, 2)], [(0, [0]), (1, [0, 3]), (2, [0, 3, 4]), (3, [0, 3, 4, 11]), (5, [0, 3, 4]), (4, [0, 3, 4]), (6, [2])], [(3, [0, 3, 4], [56])]⟩
def lb_66_3 : AC :=
  (.seq
    (.seq
      (.region false [⟨some 8, (.mv (.t 4)), 3, none, 0⟩, ⟨some 9, (.mv (.t 0)), 23, none, 0⟩, ⟨some 10, (.len 23 (.t 9)), 3, none, 0⟩, ⟨some 11, (.bin .lss 3 (.t 8) (.t 10)), 4, none, 0⟩] (some [0, 3, 4, 11]))
      (.cond (.t 11)
        .skip
        (.exit 0)))
    (.seq
      (.block 1
        (.region false [⟨some 14, (.mv (.t 3)), 23, none, 0⟩, ⟨some 15, (.mv (.t 4)), 3, none, 0⟩, ⟨some 16, (.mv (.t 0)), 23, none, 0⟩, ⟨some 17, (.mv (.t 4)), 3, none, 0⟩, ⟨some 18, (.iaddr 23 (.t 16) (.t 17)), 0, none, 0⟩, ⟨some 19, (.load 22 (.t 18)), 22, none, 0⟩, ⟨some 20, (.call (.f 20) [(.t 19)]), 22, none, 3⟩, ⟨some 21, (.iaddr 23 (.t 14) (.t 15)), 0, none, 0⟩, ⟨none, (.store 22 (.t 21) (.t 20)), 0, none, 0⟩] (some [0, 3, 4])))
      (.region false [⟨some 12, (.mv (.t 4)), 3, none, 0⟩, ⟨some 13, (.bin .add 3 (.t 12) (.c (.int .i64 1))), 3, none, 0⟩, ⟨some 4, (.mv (.t 13)), 3, none, 0⟩] (some [0, 3, 4]))))
def fa_66 : FnA := ⟨23, [.t 2],
  (.seq
    (.region false [⟨some 2, (.mv (.c .nil)), 23, none, 0⟩] (some [0]))
    (.seq
      (.region false [⟨some 5, (.mv (.t 0)), 23, none, 0⟩, ⟨some 6, (.len 23 (.t 5)), 3, none, 0⟩, ⟨some 7, (.make 23 (.t 6) (.t 6)), 23, none, 0⟩, ⟨some 3, (.mv (.t 7)), 23, none, 0⟩] (some [0, 3]))
      (.seq
        (.seq
          (.region false [⟨some 4, (.mv (.c (.int .i64 0))), 3, none, 0⟩] (some [0, 3, 4]))
          (.block 0
            (.loop [0, 3, 4] [56] lb_66_3)))
        (.seq
          (.region false [⟨some 22, (.mv (.t 3)), 23, none, 2⟩, ⟨some 2, (.mv (.t 22)), 23, none, 0⟩] (some [2]))
          .ret))))⟩
theorem fok_66 : FnOk Try.prog 66 fa_66 an_66 := ⟨Try.f66, _, Try.func66, rfl, by kernel_rfl, rfl, rfl, by decide, by kernel_rfl⟩
/-- laws.toAlgebra -/
def an_19 : Ann := ⟨[(2, 2, 3), (3, 2, 3)], [(0, [1, 2]), (1, [1, 2, 3]), (2, [1, 2, 3]), (3, [2, 3]), (4, [2])], []⟩
def fa_19 : FnA := ⟨13, [.c 2 28],
  (.seq
    (.region false [⟨some 1, (.box 25 (.t 0)), 0, none, 0⟩, ⟨some 2, (.alloc 28), 0, none, 0⟩] (some [1, 2]))
    (.seq
      (.region false [⟨some 3, (.alloc 28), 0, none, 0⟩] (some [1, 2, 3]))
      (.seq
        (.region false [⟨some 4, (.faddr 25 (.t 1) 0), 0, none, 0⟩, ⟨some 5, (.load 22 (.t 4)), 22, none, 0⟩, ⟨some 6, (.call (.f 20) [(.t 5)]), 22, none, 3⟩, ⟨some 7, (.faddr 28 (.t 3) 0), 0, none, 0⟩, ⟨none, (.store 22 (.t 7) (.t 6)), 0, none, 0⟩] (some [1, 2, 3]))
        (.seq
          (.region false [⟨some 8, (.faddr 25 (.t 1) 1), 0, none, 0⟩, ⟨some 9, (.load 23 (.t 8)), 23, none, 0⟩, ⟨some 10, (.call (.f 66) [(.t 9)]), 23, none, 3⟩, ⟨some 11, (.faddr 28 (.t 3) 1), 0, none, 0⟩, ⟨none, (.store 23 (.t 11) (.t 10)), 0, none, 0⟩] (some [2, 3]))
          (.seq
            (.region false [⟨some 12, (.load 28 (.t 3)), 28, none, 0⟩, ⟨none, (.store 28 (.t 2) (.t 12)), 0, none, 0⟩] (some [2]))
            .ret)))))⟩
theorem fok_19 : FnOk Try.prog 19 fa_19 an_19 := ⟨Try.f19, _, Try.func19, rfl, by kernel_rfl, rfl, rfl, by decide, by kernel_rfl⟩
/-- spec.inRange -/
def an_78 : Ann := ⟨[], [(0, [0, 1, 2]), (1, [6])], []⟩
def fa_78 : FnA := ⟨15, [.t 6],
  (.seq
    (.region false [⟨some 6, (.mv (.c (.bool false))), 4, none, 0⟩] (some [0, 1, 2]))
    (.seq
      (.region false (gops [⟨some 7, (.mv (.t 1)), 3, none, 0⟩, ⟨some 8, (.mv (.t 0)), 3, none, 0⟩, ⟨some 9, (.bin .leq 3 (.t 7) (.t 8)), 4, none, 0⟩, ⟨some 10, (.mv (.t 9)), 4, none, 0⟩, ⟨some 11, (.mv (.t 0)), 3, some (10, true), 0⟩, ⟨some 12, (.mv (.t 2)), 3, some (10, true), 0⟩, ⟨some 13, (.bin .leq 3 (.t 11) (.t 12)), 4, some (10, true), 0⟩, ⟨some 14, (.pick (.t 10) (.t 13) (.c (.bool false))), 4, none, 0⟩, ⟨some 6, (.mv (.t 14)), 4, none, 0⟩]) (some [6]))
      .ret))⟩
theorem fok_78 : FnOk Try.prog 78 fa_78 an_78 := ⟨Try.f78, _, Try.func78, rfl, by kernel_rfl, rfl, rfl, by decide, by kernel_rfl⟩
/-- spec.power -/
def an_105 : Ann := ⟨[], [(0, [0]), (1, [0, 3]), (2, [0, 3, 5]), (4, [0, 3]), (3, [0, 3]), (5, [2])], [(2, [0, 3], [])]⟩
def lb_105_2 : AC :=
  (.seq
    (.seq
      (.region false [⟨some 4, (.mv (.t 0)), 3, none, 0⟩, ⟨some 5, (.bin .gtr 3 (.t 4) (.c (.int .i64 0))), 4, none, 0⟩] (some [0, 3, 5]))
      (.cond (.t 5)
        .skip
        (.exit 0)))
    (.seq
      (.block 1
        (.region false [⟨some 8, (.mv (.t 3)), 3, none, 0⟩, ⟨some 9, (.bin .mul 3 (.c (.int .i64 2)) (.t 8)), 3, none, 0⟩, ⟨some 3, (.mv (.t 9)), 3, none, 0⟩] (some [0, 3])))
      (.region false [⟨some 6, (.mv (.t 0)), 3, none, 0⟩, ⟨some 7, (.bin .sub 3 (.t 6) (.c (.int .i64 1))), 3, none, 0⟩, ⟨some 0, (.mv (.t 7)), 3, none, 0⟩] (some [0, 3]))))
def fa_105 : FnA := ⟨11, [.t 2],
  (.seq
    (.region false [⟨some 2, (.mv (.c (.int .i64 0))), 3, none, 0⟩] (some [0]))
    (.seq
      (.region false [⟨some 3, (.mv (.c (.int .i64 1))), 3, none, 0⟩] (some [0, 3]))
      (.seq
        (.block 0
          (.loop [0, 3] [] lb_105_2))
        (.seq
          (.region false [⟨some 10, (.mv (.t 3)), 3, none, 0⟩, ⟨some 2, (.mv (.t 10)), 3, none, 0⟩] (some [2]))
          .ret))))⟩
theorem fok_105 : FnOk Try.prog 105 fa_105 an_105 := ⟨Try.f105, _, Try.func105, rfl, by kernel_rfl, rfl, rfl, by decide, by kernel_rfl⟩
/-- spec.bit -/
def an_132 : Ann := ⟨[(1, 2, 3)], [(0, [0, 1]), (1, [4])], []⟩
def fa_132 : FnA := ⟨10, [.t 4],
  (.seq
    (.region false [⟨some 4, (.mv (.c (.int .i64 0))), 3, none, 0⟩] (some [0, 1]))
    (.seq
      (.region false [⟨some 5, (.mv (.t 0)), 3, none, 0⟩, ⟨some 6, (.mv (.t 1)), 3, none, 0⟩, ⟨some 7, (.call (.f 105) [(.t 6)]), 3, none, 3⟩, ⟨some 8, (.bin .quo 3 (.t 5) (.t 7)), 3, none, 0⟩, ⟨some 9, (.bin .rem 3 (.t 8) (.c (.int .i64 2))), 3, none, 0⟩, ⟨some 4, (.mv (.t 9)), 3, none, 0⟩] (some [4]))
      .ret))⟩
theorem fok_132 : FnOk Try.prog 132 fa_132 an_132 := ⟨Try.f132, _, Try.func132, rfl, by kernel_rfl, rfl, rfl, by decide, by kernel_rfl⟩
/-- spec.below -/
def an_113 : Ann := ⟨[(1, 5, 3)], [(0, [0, 1, 2]), (1, [6])], []⟩
def fa_113 : FnA := ⟨14, [.t 6],
  (.seq
    (.region false [⟨some 6, (.mv (.c (.bool false))), 4, none, 0⟩] (some [0, 1, 2]))
    (.seq
      (.region false [⟨some 7, (.mv (.t 0)), 22, none, 0⟩, ⟨some 8, (.mv (.t 1)), 3, none, 0⟩, ⟨some 9, (.iaddr 22 (.t 7) (.t 8)), 0, none, 0⟩, ⟨some 10, (.load 3 (.t 9)), 3, none, 0⟩, ⟨some 11, (.mv (.t 2)), 3, none, 0⟩, ⟨some 12, (.call (.f 132) [(.t 10), (.t 11)]), 3, none, 3⟩, ⟨some 13, (.bin .eql 3 (.t 12) (.c (.int .i64 1))), 4, none, 0⟩, ⟨some 6, (.mv (.t 13)), 4, none, 0⟩] (some [6]))
      .ret))⟩
theorem fok_113 : FnOk Try.prog 113 fa_113 an_113 := ⟨Try.f113, _, Try.func113, rfl, by kernel_rfl, rfl, rfl, by decide, by kernel_rfl⟩
/-- spec.validOrder -/
def an_160 : Ann := ⟨[(2, 1, 3), (7, 5, 3), (7, 7, 3), (12, 3, 3), (12, 8, 3), (12, 16, 3), (17, 7, 3), (17, 13, 3), (22, 3, 3), (22, 8, 3), (22, 14, 3)], [(0, [0]), (1, [0, 3]), (2, [0, 3, 12]), (3, [2]), (4, [0, 3, 4]), (5, [0, 3, 4, 15]), (7, [0, 3, 4, 26]), (8, [2]), (6, [0, 3, 4]), (9, [0, 3, 5]), (10, [0, 3, 5, 29]), (12, [0, 3, 5, 50]), (13, [2]), (14, [0, 3, 5, 6]), (15, [0, 3, 5, 6, 53]), (17, [0, 3, 5, 6, 70]), (18, [2]), (19, [0, 3, 5, 6, 7]), (20, [0, 3, 5, 6, 7, 73]), (22, [0, 3, 5, 6, 7, 92]), (23, [2]), (21, [0, 3, 5, 6, 7]), (16, [0, 3, 5, 6]), (11, [0, 3, 5]), (24, [2])], [(5, [0, 3, 4], []), (10, [0, 3, 5], []), (15, [0, 3, 5, 6], []), (20, [0, 3, 5, 6, 7], [])]⟩
def lb_160_5 : AC :=
  (.seq
    (.seq
      (.region false [⟨some 13, (.mv (.t 4)), 3, none, 0⟩, ⟨some 14, (.mv (.t 3)), 3, none, 0⟩, ⟨some 15, (.bin .lss 3 (.t 13) (.t 14)), 4, none, 0⟩] (some [0, 3, 4, 15]))
      (.cond (.t 15)
        .skip
        (.exit 0)))
    (.seq
      (.block 1
        (.seq
          (.region true [⟨some 18, (.mv (.t 0)), 22, none, 0⟩, ⟨some 19, (.mv (.t 4)), 3, none, 0⟩, ⟨some 20, (.iaddr 22 (.t 18) (.t 19)), 0, none, 0⟩, ⟨some 21, (.load 3 (.t 20)), 3, none, 0⟩, ⟨some 22, (.mv (.t 3)), 3, none, 0⟩, ⟨some 23, (.call (.f 105) [(.t 22)]), 3, none, 3⟩, ⟨some 24, (.bin .sub 3 (.t 23) (.c (.int .i64 1))), 3, none, 0⟩, ⟨some 25, (.call (.f 78) [(.t 21), (.c (.int .i64 0)), (.t 24)]), 4, none, 3⟩, ⟨some 26, (.un .not (.t 25)), 4, none, 0⟩] (some [0, 3, 4, 26]))
          (.cond (.t 26)
            (.seq
              (.region false [⟨some 2, (.mv (.c (.bool false))), 4, none, 0⟩] (some [2]))
              .ret)
            .skip)))
      (.region false [⟨some 16, (.mv (.t 4)), 3, none, 0⟩, ⟨some 17, (.bin .add 3 (.t 16) (.c (.int .i64 1))), 3, none, 0⟩, ⟨some 4, (.mv (.t 17)), 3, none, 0⟩] (some [0, 3, 4]))))
def lb_160_20 : AC :=
  (.seq
    (.seq
      (.region false [⟨some 71, (.mv (.t 7)), 3, none, 0⟩, ⟨some 72, (.mv (.t 3)), 3, none, 0⟩, ⟨some 73, (.bin .lss 3 (.t 71) (.t 72)), 4, none, 0⟩] (some [0, 3, 5, 6, 7, 73]))
      (.cond (.t 73)
        .skip
        (.exit 6)))
    (.seq
      (.block 7
        (.seq
          (.region false (gops [⟨some 76, (.mv (.t 0)), 22, none, 0⟩, ⟨some 77, (.mv (.t 5)), 3, none, 0⟩, ⟨some 78, (.mv (.t 6)), 3, none, 0⟩, ⟨some 79, (.call (.f 113) [(.t 76), (.t 77), (.t 78)]), 4, none, 3⟩, ⟨some 80, (.mv (.t 79)), 4, none, 0⟩, ⟨some 81, (.mv (.t 0)), 22, some (80, true), 0⟩, ⟨some 82, (.mv (.t 6)), 3, some (80, true), 0⟩, ⟨some 83, (.mv (.t 7)), 3, some (80, true), 0⟩, ⟨some 84, (.call (.f 113) [(.t 81), (.t 82), (.t 83)]), 4, some (80, true), 3⟩, ⟨some 85, (.pick (.t 80) (.t 84) (.c (.bool false))), 4, none, 0⟩, ⟨some 86, (.mv (.t 85)), 4, none, 0⟩, ⟨some 87, (.mv (.t 0)), 22, some (86, true), 0⟩, ⟨some 88, (.mv (.t 5)), 3, some (86, true), 0⟩, ⟨some 89, (.mv (.t 7)), 3, some (86, true), 0⟩, ⟨some 90, (.call (.f 113) [(.t 87), (.t 88), (.t 89)]), 4, some (86, true), 3⟩, ⟨some 91, (.un .not (.t 90)), 4, some (86, true), 0⟩, ⟨some 92, (.pick (.t 86) (.t 91) (.c (.bool false))), 4, none, 0⟩]) (some [0, 3, 5, 6, 7, 92]))
          (.cond (.t 92)
            (.seq
              (.region false [⟨some 2, (.mv (.c (.bool false))), 4, none, 0⟩] (some [2]))
              .ret)
            .skip)))
      (.region false [⟨some 74, (.mv (.t 7)), 3, none, 0⟩, ⟨some 75, (.bin .add 3 (.t 74) (.c (.int .i64 1))), 3, none, 0⟩, ⟨some 7, (.mv (.t 75)), 3, none, 0⟩] (some [0, 3, 5, 6, 7]))))
def lb_160_15 : AC :=
  (.seq
    (.seq
      (.region false [⟨some 51, (.mv (.t 6)), 3, none, 0⟩, ⟨some 52, (.mv (.t 3)), 3, none, 0⟩, ⟨some 53, (.bin .lss 3 (.t 51) (.t 52)), 4, none, 0⟩] (some [0, 3, 5, 6, 53]))
      (.cond (.t 53)
        .skip
        (.exit 4)))
    (.seq
      (.block 5
        (.seq
          (.seq
            (.region false (gops [⟨some 56, (.mv (.t 5)), 3, none, 0⟩, ⟨some 57, (.mv (.t 6)), 3, none, 0⟩, ⟨some 58, (.bin .neq 3 (.t 56) (.t 57)), 4, none, 0⟩, ⟨some 59, (.mv (.t 58)), 4, none, 0⟩, ⟨some 60, (.mv (.t 0)), 22, some (59, true), 0⟩, ⟨some 61, (.mv (.t 5)), 3, some (59, true), 0⟩, ⟨some 62, (.mv (.t 6)), 3, some (59, true), 0⟩, ⟨some 63, (.call (.f 113) [(.t 60), (.t 61), (.t 62)]), 4, some (59, true), 3⟩, ⟨some 64, (.pick (.t 59) (.t 63) (.c (.bool false))), 4, none, 0⟩, ⟨some 65, (.mv (.t 64)), 4, none, 0⟩, ⟨some 66, (.mv (.t 0)), 22, some (65, true), 0⟩, ⟨some 67, (.mv (.t 6)), 3, some (65, true), 0⟩, ⟨some 68, (.mv (.t 5)), 3, some (65, true), 0⟩, ⟨some 69, (.call (.f 113) [(.t 66), (.t 67), (.t 68)]), 4, some (65, true), 3⟩, ⟨some 70, (.pick (.t 65) (.t 69) (.c (.bool false))), 4, none, 0⟩]) (some [0, 3, 5, 6, 70]))
            (.cond (.t 70)
              (.seq
                (.region false [⟨some 2, (.mv (.c (.bool false))), 4, none, 0⟩] (some [2]))
                .ret)
              .skip))
          (.seq
            (.region false [⟨some 7, (.mv (.c (.int .i64 0))), 3, none, 0⟩] (some [0, 3, 5, 6, 7]))
            (.block 6
              (.loop [0, 3, 5, 6, 7] [] lb_160_20)))))
      (.region false [⟨some 54, (.mv (.t 6)), 3, none, 0⟩, ⟨some 55, (.bin .add 3 (.t 54) (.c (.int .i64 1))), 3, none, 0⟩, ⟨some 6, (.mv (.t 55)), 3, none, 0⟩] (some [0, 3, 5, 6]))))
def lb_160_10 : AC :=
  (.seq
    (.seq
      (.region false [⟨some 27, (.mv (.t 5)), 3, none, 0⟩, ⟨some 28, (.mv (.t 3)), 3, none, 0⟩, ⟨some 29, (.bin .lss 3 (.t 27) (.t 28)), 4, none, 0⟩] (some [0, 3, 5, 29]))
      (.cond (.t 29)
        .skip
        (.exit 2)))
    (.seq
      (.block 3
        (.seq
          (.seq
            (.region false (gops (seg [0, 3, 5, 37, 41] [⟨some 32, (.mv (.t 0)), 22, none, 0⟩, ⟨some 33, (.mv (.t 5)), 3, none, 0⟩, ⟨some 34, (.mv (.t 5)), 3, none, 0⟩, ⟨some 35, (.call (.f 113) [(.t 32), (.t 33), (.t 34)]), 4, none, 3⟩, ⟨some 36, (.un .not (.t 35)), 4, none, 0⟩, ⟨some 37, (.mv (.t 36)), 4, none, 0⟩, ⟨some 38, (.mv (.t 0)), 22, some (37, false), 0⟩, ⟨some 39, (.mv (.t 5)), 3, some (37, false), 0⟩, ⟨some 40, (.call (.f 113) [(.t 38), (.c (.int .i64 0)), (.t 39)]), 4, some (37, false), 3⟩, ⟨some 41, (.un .not (.t 40)), 4, some (37, false), 0⟩]
            [⟨some 42, (.pick (.t 37) (.c (.bool true)) (.t 41)), 4, none, 0⟩, ⟨some 43, (.mv (.t 42)), 4, none, 0⟩, ⟨some 44, (.mv (.t 0)), 22, some (43, false), 0⟩, ⟨some 45, (.mv (.t 5)), 3, some (43, false), 0⟩, ⟨some 46, (.mv (.t 3)), 3, some (43, false), 0⟩, ⟨some 47, (.bin .sub 3 (.t 46) (.c (.int .i64 1))), 3, some (43, false), 0⟩, ⟨some 48, (.call (.f 113) [(.t 44), (.t 45), (.t 47)]), 4, some (43, false), 3⟩, ⟨some 49, (.un .not (.t 48)), 4, some (43, false), 0⟩, ⟨some 50, (.pick (.t 43) (.c (.bool true)) (.t 49)), 4, none, 0⟩] [0, 3, 5, 50] (by decide))) (some [0, 3, 5, 50]))
            (.cond (.t 50)
              (.seq
                (.region false [⟨some 2, (.mv (.c (.bool false))), 4, none, 0⟩] (some [2]))
                .ret)
              .skip))
          (.seq
            (.region false [⟨some 6, (.mv (.c (.int .i64 0))), 3, none, 0⟩] (some [0, 3, 5, 6]))
            (.block 4
              (.loop [0, 3, 5, 6] [] lb_160_15)))))
      (.region false [⟨some 30, (.mv (.t 5)), 3, none, 0⟩, ⟨some 31, (.bin .add 3 (.t 30) (.c (.int .i64 1))), 3, none, 0⟩, ⟨some 5, (.mv (.t 31)), 3, none, 0⟩] (some [0, 3, 5]))))
def fa_160 : FnA := ⟨93, [.t 2],
  (.seq
    (.region false [⟨some 2, (.mv (.c (.bool false))), 4, none, 0⟩] (some [0]))
    (.seq
      (.region false [⟨some 8, (.mv (.t 0)), 22, none, 0⟩, ⟨some 9, (.len 22 (.t 8)), 3, none, 0⟩, ⟨some 3, (.mv (.t 9)), 3, none, 0⟩] (some [0, 3]))
      (.seq
        (.seq
          (.region false [⟨some 10, (.mv (.t 3)), 3, none, 0⟩, ⟨some 11, (.call (.f 78) [(.t 10), (.c (.int .i64 1)), (.c (.int .i64 6))]), 4, none, 3⟩, ⟨some 12, (.un .not (.t 11)), 4, none, 0⟩] (some [0, 3, 12]))
          (.cond (.t 12)
            (.seq
              (.region false [⟨some 2, (.mv (.c (.bool false))), 4, none, 0⟩] (some [2]))
              .ret)
            .skip))
        (.seq
          (.seq
            (.region false [⟨some 4, (.mv (.c (.int .i64 0))), 3, none, 0⟩] (some [0, 3, 4]))
            (.block 0
              (.loop [0, 3, 4] [] lb_160_5)))
          (.seq
            (.seq
              (.region false [⟨some 5, (.mv (.c (.int .i64 0))), 3, none, 0⟩] (some [0, 3, 5]))
              (.block 2
                (.loop [0, 3, 5] [] lb_160_10)))
            (.seq
              (.region false [⟨some 2, (.mv (.c (.bool true))), 4, none, 0⟩] (some [2]))
              .ret))))))⟩
theorem fok_160 : FnOk Try.prog 160 fa_160 an_160 := ⟨Try.f160, _, Try.func160, rfl, by kernel_rfl, rfl, rfl, by decide, by kernel_rfl⟩
/-- spec.meet -/
def an_127 : Ann := ⟨[(4, 3, 3), (4, 8, 3), (8, 3, 3), (8, 9, 3), (8, 16, 3)], [(0, [0, 1, 2]), (1, [0, 1, 2, 7]), (2, [0, 1, 2, 7, 13]), (4, [0, 1, 2, 7, 8]), (5, [0, 1, 2, 7, 8, 9]), (6, [0, 1, 2, 7, 8, 9, 32]), (8, [0, 1, 2, 7, 8, 9]), (7, [0, 1, 2, 7, 8, 9]), (9, [0, 1, 2, 7, 53]), (10, [6]), (3, [0, 1, 2, 7]), (11, [6])], [(2, [0, 1, 2, 7], []), (6, [0, 1, 2, 7, 8, 9], [])]⟩
def lb_127_6 : AC :=
  (.seq
    (.seq
      (.region false (gops [⟨some 26, (.mv (.t 9)), 3, none, 0⟩, ⟨some 27, (.mv (.t 0)), 22, none, 0⟩, ⟨some 28, (.len 22 (.t 27)), 3, none, 0⟩, ⟨some 29, (.bin .lss 3 (.t 26) (.t 28)), 4, none, 0⟩, ⟨some 30, (.mv (.t 29)), 4, none, 0⟩, ⟨some 31, (.mv (.t 8)), 4, some (30, true), 0⟩, ⟨some 32, (.pick (.t 30) (.t 31) (.c (.bool false))), 4, none, 0⟩]) (some [0, 1, 2, 7, 8, 9, 32]))
      (.cond (.t 32)
        .skip
        (.exit 2)))
    (.seq
      (.block 3
        (.region false (gops (seg [0, 1, 2, 7, 9, 40, 44] [⟨some 35, (.mv (.t 0)), 22, none, 0⟩, ⟨some 36, (.mv (.t 9)), 3, none, 0⟩, ⟨some 37, (.mv (.t 1)), 3, none, 0⟩, ⟨some 38, (.call (.f 113) [(.t 35), (.t 36), (.t 37)]), 4, none, 3⟩, ⟨some 39, (.un .not (.t 38)), 4, none, 0⟩, ⟨some 40, (.mv (.t 39)), 4, none, 0⟩, ⟨some 41, (.mv (.t 0)), 22, some (40, false), 0⟩, ⟨some 42, (.mv (.t 9)), 3, some (40, false), 0⟩, ⟨some 43, (.mv (.t 2)), 3, some (40, false), 0⟩, ⟨some 44, (.call (.f 113) [(.t 41), (.t 42), (.t 43)]), 4, some (40, false), 3⟩]
        [⟨some 45, (.un .not (.t 44)), 4, some (40, false), 0⟩, ⟨some 46, (.pick (.t 40) (.c (.bool true)) (.t 45)), 4, none, 0⟩, ⟨some 47, (.mv (.t 46)), 4, none, 0⟩, ⟨some 48, (.mv (.t 0)), 22, some (47, false), 0⟩, ⟨some 49, (.mv (.t 9)), 3, some (47, false), 0⟩, ⟨some 50, (.mv (.t 7)), 3, some (47, false), 0⟩, ⟨some 51, (.call (.f 113) [(.t 48), (.t 49), (.t 50)]), 4, some (47, false), 3⟩, ⟨some 52, (.pick (.t 47) (.c (.bool true)) (.t 51)), 4, none, 0⟩, ⟨some 8, (.mv (.t 52)), 4, none, 0⟩] [0, 1, 2, 7, 8, 9] (by decide))) (some [0, 1, 2, 7, 8, 9])))
      (.region false [⟨some 33, (.mv (.t 9)), 3, none, 0⟩, ⟨some 34, (.bin .add 3 (.t 33) (.c (.int .i64 1))), 3, none, 0⟩, ⟨some 9, (.mv (.t 34)), 3, none, 0⟩] (some [0, 1, 2, 7, 8, 9]))))
def lb_127_2 : AC :=
  (.seq
    (.seq
      (.region false [⟨some 10, (.mv (.t 7)), 3, none, 0⟩, ⟨some 11, (.mv (.t 0)), 22, none, 0⟩, ⟨some 12, (.len 22 (.t 11)), 3, none, 0⟩, ⟨some 13, (.bin .lss 3 (.t 10) (.t 12)), 4, none, 0⟩] (some [0, 1, 2, 7, 13]))
      (.cond (.t 13)
        .skip
        (.exit 0)))
    (.seq
      (.block 1
        (.seq
          (.region false (gops [⟨some 16, (.mv (.t 0)), 22, none, 0⟩, ⟨some 17, (.mv (.t 7)), 3, none, 0⟩, ⟨some 18, (.mv (.t 1)), 3, none, 0⟩, ⟨some 19, (.call (.f 113) [(.t 16), (.t 17), (.t 18)]), 4, none, 3⟩, ⟨some 20, (.mv (.t 19)), 4, none, 0⟩, ⟨some 21, (.mv (.t 0)), 22, some (20, true), 0⟩, ⟨some 22, (.mv (.t 7)), 3, some (20, true), 0⟩, ⟨some 23, (.mv (.t 2)), 3, some (20, true), 0⟩, ⟨some 24, (.call (.f 113) [(.t 21), (.t 22), (.t 23)]), 4, some (20, true), 3⟩, ⟨some 25, (.pick (.t 20) (.t 24) (.c (.bool false))), 4, none, 0⟩, ⟨some 8, (.mv (.t 25)), 4, none, 0⟩]) (some [0, 1, 2, 7, 8]))
          (.seq
            (.seq
              (.region false [⟨some 9, (.mv (.c (.int .i64 0))), 3, none, 0⟩] (some [0, 1, 2, 7, 8, 9]))
              (.block 2
                (.loop [0, 1, 2, 7, 8, 9] [] lb_127_6)))
            (.seq
              (.region false [⟨some 53, (.mv (.t 8)), 4, none, 0⟩] (some [0, 1, 2, 7, 53]))
              (.cond (.t 53)
                (.seq
                  (.region false [⟨some 54, (.mv (.t 7)), 3, none, 0⟩, ⟨some 6, (.mv (.t 54)), 3, none, 0⟩] (some [6]))
                  .ret)
                .skip)))))
      (.region false [⟨some 14, (.mv (.t 7)), 3, none, 0⟩, ⟨some 15, (.bin .add 3 (.t 14) (.c (.int .i64 1))), 3, none, 0⟩, ⟨some 7, (.mv (.t 15)), 3, none, 0⟩] (some [0, 1, 2, 7]))))
def fa_127 : FnA := ⟨55, [.t 6],
  (.seq
    (.region false [⟨some 6, (.mv (.c (.int .i64 0))), 3, none, 0⟩] (some [0, 1, 2]))
    (.seq
      (.seq
        (.region false [⟨some 7, (.mv (.c (.int .i64 0))), 3, none, 0⟩] (some [0, 1, 2, 7]))
        (.block 0
          (.loop [0, 1, 2, 7] [] lb_127_2)))
      (.seq
        (.region false [⟨some 6, (.mv (.c (.int .i64 (-1)))), 3, none, 0⟩] (some [6]))
        .ret)))⟩
theorem fok_127 : FnOk Try.prog 127 fa_127 an_127 := ⟨Try.f127, _, Try.func127, rfl, by kernel_rfl, rfl, rfl, by decide, by kernel_rfl⟩
/-- spec.join -/
def an_124 : Ann := ⟨[(4, 3, 3), (4, 8, 3), (8, 3, 3), (8, 9, 3), (8, 16, 3)], [(0, [0, 1, 2]), (1, [0, 1, 2, 7]), (2, [0, 1, 2, 7, 13]), (4, [0, 1, 2, 7, 8]), (5, [0, 1, 2, 7, 8, 9]), (6, [0, 1, 2, 7, 8, 9, 32]), (8, [0, 1, 2, 7, 8, 9]), (7, [0, 1, 2, 7, 8, 9]), (9, [0, 1, 2, 7, 53]), (10, [6]), (3, [0, 1, 2, 7]), (11, [6])], [(2, [0, 1, 2, 7], []), (6, [0, 1, 2, 7, 8, 9], [])]⟩
def lb_124_6 : AC :=
  (.seq
    (.seq
      (.region false (gops [⟨some 26, (.mv (.t 9)), 3, none, 0⟩, ⟨some 27, (.mv (.t 0)), 22, none, 0⟩, ⟨some 28, (.len 22 (.t 27)), 3, none, 0⟩, ⟨some 29, (.bin .lss 3 (.t 26) (.t 28)), 4, none, 0⟩, ⟨some 30, (.mv (.t 29)), 4, none, 0⟩, ⟨some 31, (.mv (.t 8)), 4, some (30, true), 0⟩, ⟨some 32, (.pick (.t 30) (.t 31) (.c (.bool false))), 4, none, 0⟩]) (some [0, 1, 2, 7, 8, 9, 32]))
      (.cond (.t 32)
        .skip
        (.exit 2)))
    (.seq
      (.block 3
        (.region false (gops (seg [0, 1, 2, 7, 9, 40, 44] [⟨some 35, (.mv (.t 0)), 22, none, 0⟩, ⟨some 36, (.mv (.t 1)), 3, none, 0⟩, ⟨some 37, (.mv (.t 9)), 3, none, 0⟩, ⟨some 38, (.call (.f 113) [(.t 35), (.t 36), (.t 37)]), 4, none, 3⟩, ⟨some 39, (.un .not (.t 38)), 4, none, 0⟩, ⟨some 40, (.mv (.t 39)), 4, none, 0⟩, ⟨some 41, (.mv (.t 0)), 22, some (40, false), 0⟩, ⟨some 42, (.mv (.t 2)), 3, some (40, false), 0⟩, ⟨some 43, (.mv (.t 9)), 3, some (40, false), 0⟩, ⟨some 44, (.call (.f 113) [(.t 41), (.t 42), (.t 43)]), 4, some (40, false), 3⟩]
        [⟨some 45, (.un .not (.t 44)), 4, some (40, false), 0⟩, ⟨some 46, (.pick (.t 40) (.c (.bool true)) (.t 45)), 4, none, 0⟩, ⟨some 47, (.mv (.t 46)), 4, none, 0⟩, ⟨some 48, (.mv (.t 0)), 22, some (47, false), 0⟩, ⟨some 49, (.mv (.t 7)), 3, some (47, false), 0⟩, ⟨some 50, (.mv (.t 9)), 3, some (47, false), 0⟩, ⟨some 51, (.call (.f 113) [(.t 48), (.t 49), (.t 50)]), 4, some (47, false), 3⟩, ⟨some 52, (.pick (.t 47) (.c (.bool true)) (.t 51)), 4, none, 0⟩, ⟨some 8, (.mv (.t 52)), 4, none, 0⟩] [0, 1, 2, 7, 8, 9] (by decide))) (some [0, 1, 2, 7, 8, 9])))
      (.region false [⟨some 33, (.mv (.t 9)), 3, none, 0⟩, ⟨some 34, (.bin .add 3 (.t 33) (.c (.int .i64 1))), 3, none, 0⟩, ⟨some 9, (.mv (.t 34)), 3, none, 0⟩] (some [0, 1, 2, 7, 8, 9]))))
def lb_124_2 : AC :=
  (.seq
    (.seq
      (.region false [⟨some 10, (.mv (.t 7)), 3, none, 0⟩, ⟨some 11, (.mv (.t 0)), 22, none, 0⟩, ⟨some 12, (.len 22 (.t 11)), 3, none, 0⟩, ⟨some 13, (.bin .lss 3 (.t 10) (.t 12)), 4, none, 0⟩] (some [0, 1, 2, 7, 13]))
      (.cond (.t 13)
        .skip
        (.exit 0)))
    (.seq
      (.block 1
        (.seq
          (.region false (gops [⟨some 16, (.mv (.t 0)), 22, none, 0⟩, ⟨some 17, (.mv (.t 1)), 3, none, 0⟩, ⟨some 18, (.mv (.t 7)), 3, none, 0⟩, ⟨some 19, (.call (.f 113) [(.t 16), (.t 17), (.t 18)]), 4, none, 3⟩, ⟨some 20, (.mv (.t 19)), 4, none, 0⟩, ⟨some 21, (.mv (.t 0)), 22, some (20, true), 0⟩, ⟨some 22, (.mv (.t 2)), 3, some (20, true), 0⟩, ⟨some 23, (.mv (.t 7)), 3, some (20, true), 0⟩, ⟨some 24, (.call (.f 113) [(.t 21), (.t 22), (.t 23)]), 4, some (20, true), 3⟩, ⟨some 25, (.pick (.t 20) (.t 24) (.c (.bool false))), 4, none, 0⟩, ⟨some 8, (.mv (.t 25)), 4, none, 0⟩]) (some [0, 1, 2, 7, 8]))
          (.seq
            (.seq
              (.region false [⟨some 9, (.mv (.c (.int .i64 0))), 3, none, 0⟩] (some [0, 1, 2, 7, 8, 9]))
              (.block 2
                (.loop [0, 1, 2, 7, 8, 9] [] lb_124_6)))
            (.seq
              (.region false [⟨some 53, (.mv (.t 8)), 4, none, 0⟩] (some [0, 1, 2, 7, 53]))
              (.cond (.t 53)
                (.seq
                  (.region false [⟨some 54, (.mv (.t 7)), 3, none, 0⟩, ⟨some 6, (.mv (.t 54)), 3, none, 0⟩] (some [6]))
                  .ret)
                .skip)))))
      (.region false [⟨some 14, (.mv (.t 7)), 3, none, 0⟩, ⟨some 15, (.bin .add 3 (.t 14) (.c (.int .i64 1))), 3, none, 0⟩, ⟨some 7, (.mv (.t 15)), 3, none, 0⟩] (some [0, 1, 2, 7]))))
def fa_124 : FnA := ⟨55, [.t 6],
  (.seq
    (.region false [⟨some 6, (.mv (.c (.int .i64 0))), 3, none, 0⟩] (some [0, 1, 2]))
    (.seq
      (.seq
        (.region false [⟨some 7, (.mv (.c (.int .i64 0))), 3, none, 0⟩] (some [0, 1, 2, 7]))
        (.block 0
          (.loop [0, 1, 2, 7] [] lb_124_2)))
      (.seq
        (.region false [⟨some 6, (.mv (.c (.int .i64 (-1)))), 3, none, 0⟩] (some [6]))
        .ret)))⟩
theorem fok_124 : FnOk Try.prog 124 fa_124 an_124 := ⟨Try.f124, _, Try.func124, rfl, by kernel_rfl, rfl, rfl, by decide, by kernel_rfl⟩
/-- spec.validLattice -/
def an_123 : Ann := ⟨[(1, 1, 3), (9, 3, 3), (9, 9, 3)], [(0, [0]), (1, [0, 7]), (2, [2]), (3, [0, 3]), (4, [0, 3, 11]), (6, [0, 3, 4]), (7, [0, 3, 4, 17]), (9, [0, 3, 4, 31]), (10, [2]), (8, [0, 3, 4]), (5, [0, 3]), (11, [2])], [(4, [0, 3], []), (7, [0, 3, 4], [])]⟩
def lb_123_7 : AC :=
  (.seq
    (.seq
      (.region false [⟨some 14, (.mv (.t 4)), 3, none, 0⟩, ⟨some 15, (.mv (.t 0)), 22, none, 0⟩, ⟨some 16, (.len 22 (.t 15)), 3, none, 0⟩, ⟨some 17, (.bin .lss 3 (.t 14) (.t 16)), 4, none, 0⟩] (some [0, 3, 4, 17]))
      (.cond (.t 17)
        .skip
        (.exit 2)))
    (.seq
      (.block 3
        (.seq
          (.region false (gops [⟨some 20, (.mv (.t 0)), 22, none, 0⟩, ⟨some 21, (.mv (.t 3)), 3, none, 0⟩, ⟨some 22, (.mv (.t 4)), 3, none, 0⟩, ⟨some 23, (.call (.f 127) [(.t 20), (.t 21), (.t 22)]), 3, none, 3⟩, ⟨some 24, (.bin .lss 3 (.t 23) (.c (.int .i64 0))), 4, none, 0⟩, ⟨some 25, (.mv (.t 24)), 4, none, 0⟩, ⟨some 26, (.mv (.t 0)), 22, some (25, false), 0⟩, ⟨some 27, (.mv (.t 3)), 3, some (25, false), 0⟩, ⟨some 28, (.mv (.t 4)), 3, some (25, false), 0⟩, ⟨some 29, (.call (.f 124) [(.t 26), (.t 27), (.t 28)]), 3, some (25, false), 3⟩, ⟨some 30, (.bin .lss 3 (.t 29) (.c (.int .i64 0))), 4, some (25, false), 0⟩, ⟨some 31, (.pick (.t 25) (.c (.bool true)) (.t 30)), 4, none, 0⟩]) (some [0, 3, 4, 31]))
          (.cond (.t 31)
            (.seq
              (.region false [⟨some 2, (.mv (.c (.bool false))), 4, none, 0⟩] (some [2]))
              .ret)
            .skip)))
      (.region false [⟨some 18, (.mv (.t 4)), 3, none, 0⟩, ⟨some 19, (.bin .add 3 (.t 18) (.c (.int .i64 1))), 3, none, 0⟩, ⟨some 4, (.mv (.t 19)), 3, none, 0⟩] (some [0, 3, 4]))))
def lb_123_4 : AC :=
  (.seq
    (.seq
      (.region false [⟨some 8, (.mv (.t 3)), 3, none, 0⟩, ⟨some 9, (.mv (.t 0)), 22, none, 0⟩, ⟨some 10, (.len 22 (.t 9)), 3, none, 0⟩, ⟨some 11, (.bin .lss 3 (.t 8) (.t 10)), 4, none, 0⟩] (some [0, 3, 11]))
      (.cond (.t 11)
        .skip
        (.exit 0)))
    (.seq
      (.block 1
        (.seq
          (.region false [⟨some 4, (.mv (.c (.int .i64 0))), 3, none, 0⟩] (some [0, 3, 4]))
          (.block 2
            (.loop [0, 3, 4] [] lb_123_7))))
      (.region false [⟨some 12, (.mv (.t 3)), 3, none, 0⟩, ⟨some 13, (.bin .add 3 (.t 12) (.c (.int .i64 1))), 3, none, 0⟩, ⟨some 3, (.mv (.t 13)), 3, none, 0⟩] (some [0, 3]))))
def fa_123 : FnA := ⟨32, [.t 2],
  (.seq
    (.region false [⟨some 2, (.mv (.c (.bool false))), 4, none, 0⟩] (some [0]))
    (.seq
      (.seq
        (.region false [⟨some 5, (.mv (.t 0)), 22, none, 0⟩, ⟨some 6, (.call (.f 160) [(.t 5)]), 4, none, 3⟩, ⟨some 7, (.un .not (.t 6)), 4, none, 0⟩] (some [0, 7]))
        (.cond (.t 7)
          (.seq
            (.region false [⟨some 2, (.mv (.c (.bool false))), 4, none, 0⟩] (some [2]))
            .ret)
          .skip))
      (.seq
        (.seq
          (.region false [⟨some 3, (.mv (.c (.int .i64 0))), 3, none, 0⟩] (some [0, 3]))
          (.block 0
            (.loop [0, 3] [] lb_123_4)))
        (.seq
          (.region false [⟨some 2, (.mv (.c (.bool true))), 4, none, 0⟩] (some [2]))
          .ret))))⟩
theorem fok_123 : FnOk Try.prog 123 fa_123 an_123 := ⟨Try.f123, _, Try.func123, rfl, by kernel_rfl, rfl, rfl, by decide, by kernel_rfl⟩
/-- spec.validAlgebra -/
def an_62 : Ann := ⟨[(2, 2, 3), (12, 10, 3), (27, 41, 3), (27, 62, 3)], [(0, [1]), (1, [1, 3]), (2, [1, 3, 22]), (3, [2]), (4, [1, 3, 4]), (5, [1, 3, 4, 25]), (7, [1, 3, 4, 35]), (8, [2]), (9, [1, 3, 4, 5]), (10, [1, 3, 4, 5, 38]), (12, [1, 3, 4, 5, 52]), (13, [2]), (11, [1, 3, 4, 5]), (6, [1, 3, 4]), (14, [1, 3, 6]), (15, [1, 3, 6, 55]), (17, [1, 3, 6, 78]), (18, [2]), (19, [1, 3, 6, 7]), (20, [1, 3, 6, 7, 81]), (22, [1, 3, 6, 7, 100]), (23, [2]), (24, [1, 3, 6, 7, 8]), (25, [1, 3, 6, 7, 8, 103]), (27, [1, 3, 6, 7, 8, 170]), (28, [2]), (26, [1, 3, 6, 7, 8]), (21, [1, 3, 6, 7]), (16, [1, 3, 6]), (29, [2])], [(5, [1, 3, 4], []), (10, [1, 3, 4, 5], []), (15, [1, 3, 6], []), (20, [1, 3, 6, 7], []), (25, [1, 3, 6, 7, 8], [])]⟩
def lb_62_10 : AC :=
  (.seq
    (.seq
      (.region false [⟨some 36, (.mv (.t 5)), 3, none, 0⟩, ⟨some 37, (.mv (.t 3)), 3, none, 0⟩, ⟨some 38, (.bin .lss 3 (.t 36) (.t 37)), 4, none, 0⟩] (some [1, 3, 4, 5, 38]))
      (.cond (.t 38)
        .skip
        (.exit 2)))
    (.seq
      (.block 3
        (.seq
          (.region false [⟨some 41, (.faddr 28 (.t 1) 1), 0, none, 0⟩, ⟨some 42, (.load 23 (.t 41)), 23, none, 0⟩, ⟨some 43, (.mv (.t 4)), 3, none, 0⟩, ⟨some 44, (.iaddr 23 (.t 42) (.t 43)), 0, none, 0⟩, ⟨some 45, (.load 22 (.t 44)), 22, none, 0⟩, ⟨some 46, (.mv (.t 5)), 3, none, 0⟩, ⟨some 47, (.iaddr 22 (.t 45) (.t 46)), 0, none, 0⟩, ⟨some 48, (.load 3 (.t 47)), 3, none, 0⟩, ⟨some 49, (.mv (.t 3)), 3, none, 0⟩, ⟨some 50, (.bin .sub 3 (.t 49) (.c (.int .i64 1))), 3, none, 0⟩, ⟨some 51, (.call (.f 78) [(.t 48), (.c (.int .i64 0)), (.t 50)]), 4, none, 3⟩, ⟨some 52, (.un .not (.t 51)), 4, none, 0⟩] (some [1, 3, 4, 5, 52]))
          (.cond (.t 52)
            (.seq
              (.region false [⟨some 2, (.mv (.c (.bool false))), 4, none, 0⟩] (some [2]))
              .ret)
            .skip)))
      (.region false [⟨some 39, (.mv (.t 5)), 3, none, 0⟩, ⟨some 40, (.bin .add 3 (.t 39) (.c (.int .i64 1))), 3, none, 0⟩, ⟨some 5, (.mv (.t 40)), 3, none, 0⟩] (some [1, 3, 4, 5]))))
def lb_62_5 : AC :=
  (.seq
    (.seq
      (.region false [⟨some 23, (.mv (.t 4)), 3, none, 0⟩, ⟨some 24, (.mv (.t 3)), 3, none, 0⟩, ⟨some 25, (.bin .lss 3 (.t 23) (.t 24)), 4, none, 0⟩] (some [1, 3, 4, 25]))
      (.cond (.t 25)
        .skip
        (.exit 0)))
    (.seq
      (.block 1
        (.seq
          (.seq
            (.region false [⟨some 28, (.faddr 28 (.t 1) 1), 0, none, 0⟩, ⟨some 29, (.load 23 (.t 28)), 23, none, 0⟩, ⟨some 30, (.mv (.t 4)), 3, none, 0⟩, ⟨some 31, (.iaddr 23 (.t 29) (.t 30)), 0, none, 0⟩, ⟨some 32, (.load 22 (.t 31)), 22, none, 0⟩, ⟨some 33, (.len 22 (.t 32)), 3, none, 0⟩, ⟨some 34, (.mv (.t 3)), 3, none, 0⟩, ⟨some 35, (.bin .neq 3 (.t 33) (.t 34)), 4, none, 0⟩] (some [1, 3, 4, 35]))
            (.cond (.t 35)
              (.seq
                (.region false [⟨some 2, (.mv (.c (.bool false))), 4, none, 0⟩] (some [2]))
                .ret)
              .skip))
          (.seq
            (.region false [⟨some 5, (.mv (.c (.int .i64 0))), 3, none, 0⟩] (some [1, 3, 4, 5]))
            (.block 2
              (.loop [1, 3, 4, 5] [] lb_62_10)))))
      (.region false [⟨some 26, (.mv (.t 4)), 3, none, 0⟩, ⟨some 27, (.bin .add 3 (.t 26) (.c (.int .i64 1))), 3, none, 0⟩, ⟨some 4, (.mv (.t 27)), 3, none, 0⟩] (some [1, 3, 4]))))
def lb_62_25 : AC :=
  (.seq
    (.seq
      (.region false [⟨some 101, (.mv (.t 8)), 3, none, 0⟩, ⟨some 102, (.mv (.t 3)), 3, none, 0⟩, ⟨some 103, (.bin .lss 3 (.t 101) (.t 102)), 4, none, 0⟩] (some [1, 3, 6, 7, 8, 103]))
      (.cond (.t 103)
        .skip
        (.exit 8)))
    (.seq
      (.block 9
        (.seq
          (.region true (gops (seg [1, 3, 6, 7, 8, 107, 115] [⟨some 106, (.faddr 28 (.t 1) 1), 0, none, 0⟩, ⟨some 107, (.load 23 (.t 106)), 23, none, 0⟩, ⟨some 108, (.faddr 28 (.t 1) 1), 0, none, 0⟩, ⟨some 109, (.load 23 (.t 108)), 23, none, 0⟩, ⟨some 110, (.mv (.t 6)), 3, none, 0⟩, ⟨some 111, (.iaddr 23 (.t 109) (.t 110)), 0, none, 0⟩, ⟨some 112, (.load 22 (.t 111)), 22, none, 0⟩, ⟨some 113, (.mv (.t 7)), 3, none, 0⟩, ⟨some 114, (.iaddr 22 (.t 112) (.t 113)), 0, none, 0⟩, ⟨some 115, (.load 3 (.t 114)), 3, none, 0⟩]
          (seg [1, 3, 6, 7, 8, 120, 125] [⟨some 116, (.iaddr 23 (.t 107) (.t 115)), 0, none, 0⟩, ⟨some 117, (.load 22 (.t 116)), 22, none, 0⟩, ⟨some 118, (.mv (.t 8)), 3, none, 0⟩, ⟨some 119, (.iaddr 22 (.t 117) (.t 118)), 0, none, 0⟩, ⟨some 120, (.load 3 (.t 119)), 3, none, 0⟩, ⟨some 121, (.faddr 28 (.t 1) 1), 0, none, 0⟩, ⟨some 122, (.load 23 (.t 121)), 23, none, 0⟩, ⟨some 123, (.mv (.t 6)), 3, none, 0⟩, ⟨some 124, (.iaddr 23 (.t 122) (.t 123)), 0, none, 0⟩, ⟨some 125, (.load 22 (.t 124)), 22, none, 0⟩]
          (seg [1, 3, 6, 7, 8, 120, 135] [⟨some 126, (.faddr 28 (.t 1) 1), 0, none, 0⟩, ⟨some 127, (.load 23 (.t 126)), 23, none, 0⟩, ⟨some 128, (.mv (.t 7)), 3, none, 0⟩, ⟨some 129, (.iaddr 23 (.t 127) (.t 128)), 0, none, 0⟩, ⟨some 130, (.load 22 (.t 129)), 22, none, 0⟩, ⟨some 131, (.mv (.t 8)), 3, none, 0⟩, ⟨some 132, (.iaddr 22 (.t 130) (.t 131)), 0, none, 0⟩, ⟨some 133, (.load 3 (.t 132)), 3, none, 0⟩, ⟨some 134, (.iaddr 22 (.t 125) (.t 133)), 0, none, 0⟩, ⟨some 135, (.load 3 (.t 134)), 3, none, 0⟩]
          (seg [1, 3, 6, 7, 8, 137, 142, 144, 145] [⟨some 136, (.bin .neq 3 (.t 120) (.t 135)), 4, none, 0⟩, ⟨some 137, (.mv (.t 136)), 4, none, 0⟩, ⟨some 138, (.faddr 28 (.t 1) 1), 0, some (137, false), 0⟩, ⟨some 139, (.load 23 (.t 138)), 23, some (137, false), 0⟩, ⟨some 140, (.mv (.t 6)), 3, some (137, false), 0⟩, ⟨some 141, (.iaddr 23 (.t 139) (.t 140)), 0, some (137, false), 0⟩, ⟨some 142, (.load 22 (.t 141)), 22, some (137, false), 0⟩, ⟨some 143, (.faddr 28 (.t 1) 0), 0, some (137, false), 0⟩, ⟨some 144, (.load 22 (.t 143)), 22, some (137, false), 0⟩, ⟨some 145, (.mv (.t 7)), 3, some (137, false), 0⟩]
          (seg [1, 3, 6, 7, 8, 137, 149, 151, 155] [⟨some 146, (.mv (.t 8)), 3, some (137, false), 0⟩, ⟨some 147, (.call (.f 124) [(.t 144), (.t 145), (.t 146)]), 3, some (137, false), 3⟩, ⟨some 148, (.iaddr 22 (.t 142) (.t 147)), 0, some (137, false), 0⟩, ⟨some 149, (.load 3 (.t 148)), 3, some (137, false), 0⟩, ⟨some 150, (.faddr 28 (.t 1) 0), 0, some (137, false), 0⟩, ⟨some 151, (.load 22 (.t 150)), 22, some (137, false), 0⟩, ⟨some 152, (.faddr 28 (.t 1) 1), 0, some (137, false), 0⟩, ⟨some 153, (.load 23 (.t 152)), 23, some (137, false), 0⟩, ⟨some 154, (.mv (.t 6)), 3, some (137, false), 0⟩, ⟨some 155, (.iaddr 23 (.t 153) (.t 154)), 0, some (137, false), 0⟩]
          (seg [1, 3, 6, 7, 8, 137, 149, 151, 159, 164, 165] [⟨some 156, (.load 22 (.t 155)), 22, some (137, false), 0⟩, ⟨some 157, (.mv (.t 7)), 3, some (137, false), 0⟩, ⟨some 158, (.iaddr 22 (.t 156) (.t 157)), 0, some (137, false), 0⟩, ⟨some 159, (.load 3 (.t 158)), 3, some (137, false), 0⟩, ⟨some 160, (.faddr 28 (.t 1) 1), 0, some (137, false), 0⟩, ⟨some 161, (.load 23 (.t 160)), 23, some (137, false), 0⟩, ⟨some 162, (.mv (.t 6)), 3, some (137, false), 0⟩, ⟨some 163, (.iaddr 23 (.t 161) (.t 162)), 0, some (137, false), 0⟩, ⟨some 164, (.load 22 (.t 163)), 22, some (137, false), 0⟩, ⟨some 165, (.mv (.t 8)), 3, some (137, false), 0⟩]
          [⟨some 166, (.iaddr 22 (.t 164) (.t 165)), 0, some (137, false), 0⟩, ⟨some 167, (.load 3 (.t 166)), 3, some (137, false), 0⟩, ⟨some 168, (.call (.f 124) [(.t 151), (.t 159), (.t 167)]), 3, some (137, false), 3⟩, ⟨some 169, (.bin .neq 3 (.t 149) (.t 168)), 4, some (137, false), 0⟩, ⟨some 170, (.pick (.t 137) (.c (.bool true)) (.t 169)), 4, none, 0⟩] [1, 3, 6, 7, 8, 170] (by decide)) [1, 3, 6, 7, 8, 170] (by decide)) [1, 3, 6, 7, 8, 170] (by decide)) [1, 3, 6, 7, 8, 170] (by decide)) [1, 3, 6, 7, 8, 170] (by decide)) [1, 3, 6, 7, 8, 170] (by decide))) (some [1, 3, 6, 7, 8, 170]))
          (.cond (.t 170)
            (.seq
              (.region false [⟨some 2, (.mv (.c (.bool false))), 4, none, 0⟩] (some [2]))
              .ret)
            .skip)))
      (.region false [⟨some 104, (.mv (.t 8)), 3, none, 0⟩, ⟨some 105, (.bin .add 3 (.t 104) (.c (.int .i64 1))), 3, none, 0⟩, ⟨some 8, (.mv (.t 105)), 3, none, 0⟩] (some [1, 3, 6, 7, 8]))))
def lb_62_20 : AC :=
  (.seq
    (.seq
      (.region false [⟨some 79, (.mv (.t 7)), 3, none, 0⟩, ⟨some 80, (.mv (.t 3)), 3, none, 0⟩, ⟨some 81, (.bin .lss 3 (.t 79) (.t 80)), 4, none, 0⟩] (some [1, 3, 6, 7, 81]))
      (.cond (.t 81)
        .skip
        (.exit 6)))
    (.seq
      (.block 7
        (.seq
          (.seq
            (.region true [⟨some 84, (.faddr 28 (.t 1) 1), 0, none, 0⟩, ⟨some 85, (.load 23 (.t 84)), 23, none, 0⟩, ⟨some 86, (.mv (.t 6)), 3, none, 0⟩, ⟨some 87, (.iaddr 23 (.t 85) (.t 86)), 0, none, 0⟩, ⟨some 88, (.load 22 (.t 87)), 22, none, 0⟩, ⟨some 89, (.mv (.t 7)), 3, none, 0⟩, ⟨some 90, (.iaddr 22 (.t 88) (.t 89)), 0, none, 0⟩, ⟨some 91, (.load 3 (.t 90)), 3, none, 0⟩, ⟨some 92, (.faddr 28 (.t 1) 1), 0, none, 0⟩, ⟨some 93, (.load 23 (.t 92)), 23, none, 0⟩, ⟨some 94, (.mv (.t 7)), 3, none, 0⟩, ⟨some 95, (.iaddr 23 (.t 93) (.t 94)), 0, none, 0⟩, ⟨some 96, (.load 22 (.t 95)), 22, none, 0⟩, ⟨some 97, (.mv (.t 6)), 3, none, 0⟩, ⟨some 98, (.iaddr 22 (.t 96) (.t 97)), 0, none, 0⟩, ⟨some 99, (.load 3 (.t 98)), 3, none, 0⟩, ⟨some 100, (.bin .neq 3 (.t 91) (.t 99)), 4, none, 0⟩] (some [1, 3, 6, 7, 100]))
            (.cond (.t 100)
              (.seq
                (.region false [⟨some 2, (.mv (.c (.bool false))), 4, none, 0⟩] (some [2]))
                .ret)
              .skip))
          (.seq
            (.region false [⟨some 8, (.mv (.c (.int .i64 0))), 3, none, 0⟩] (some [1, 3, 6, 7, 8]))
            (.block 8
              (.loop [1, 3, 6, 7, 8] [] lb_62_25)))))
      (.region false [⟨some 82, (.mv (.t 7)), 3, none, 0⟩, ⟨some 83, (.bin .add 3 (.t 82) (.c (.int .i64 1))), 3, none, 0⟩, ⟨some 7, (.mv (.t 83)), 3, none, 0⟩] (some [1, 3, 6, 7]))))
def lb_62_15 : AC :=
  (.seq
    (.seq
      (.region false [⟨some 53, (.mv (.t 6)), 3, none, 0⟩, ⟨some 54, (.mv (.t 3)), 3, none, 0⟩, ⟨some 55, (.bin .lss 3 (.t 53) (.t 54)), 4, none, 0⟩] (some [1, 3, 6, 55]))
      (.cond (.t 55)
        .skip
        (.exit 4)))
    (.seq
      (.block 5
        (.seq
          (.seq
            (.region false (gops (seg [1, 3, 6, 66, 67] [⟨some 58, (.faddr 28 (.t 1) 1), 0, none, 0⟩, ⟨some 59, (.load 23 (.t 58)), 23, none, 0⟩, ⟨some 60, (.mv (.t 6)), 3, none, 0⟩, ⟨some 61, (.iaddr 23 (.t 59) (.t 60)), 0, none, 0⟩, ⟨some 62, (.load 22 (.t 61)), 22, none, 0⟩, ⟨some 63, (.mv (.t 3)), 3, none, 0⟩, ⟨some 64, (.bin .sub 3 (.t 63) (.c (.int .i64 1))), 3, none, 0⟩, ⟨some 65, (.iaddr 22 (.t 62) (.t 64)), 0, none, 0⟩, ⟨some 66, (.load 3 (.t 65)), 3, none, 0⟩, ⟨some 67, (.mv (.t 6)), 3, none, 0⟩]
            [⟨some 68, (.bin .neq 3 (.t 66) (.t 67)), 4, none, 0⟩, ⟨some 69, (.mv (.t 68)), 4, none, 0⟩, ⟨some 70, (.faddr 28 (.t 1) 1), 0, some (69, false), 0⟩, ⟨some 71, (.load 23 (.t 70)), 23, some (69, false), 0⟩, ⟨some 72, (.mv (.t 6)), 3, some (69, false), 0⟩, ⟨some 73, (.iaddr 23 (.t 71) (.t 72)), 0, some (69, false), 0⟩, ⟨some 74, (.load 22 (.t 73)), 22, some (69, false), 0⟩, ⟨some 75, (.iaddr 22 (.t 74) (.c (.int .i64 0))), 0, some (69, false), 0⟩, ⟨some 76, (.load 3 (.t 75)), 3, some (69, false), 0⟩, ⟨some 77, (.bin .neq 3 (.t 76) (.c (.int .i64 0))), 4, some (69, false), 0⟩, ⟨some 78, (.pick (.t 69) (.c (.bool true)) (.t 77)), 4, none, 0⟩] [1, 3, 6, 78] (by decide))) (some [1, 3, 6, 78]))
            (.cond (.t 78)
              (.seq
                (.region false [⟨some 2, (.mv (.c (.bool false))), 4, none, 0⟩] (some [2]))
                .ret)
              .skip))
          (.seq
            (.region false [⟨some 7, (.mv (.c (.int .i64 0))), 3, none, 0⟩] (some [1, 3, 6, 7]))
            (.block 6
              (.loop [1, 3, 6, 7] [] lb_62_20)))))
      (.region false [⟨some 56, (.mv (.t 6)), 3, none, 0⟩, ⟨some 57, (.bin .add 3 (.t 56) (.c (.int .i64 1))), 3, none, 0⟩, ⟨some 6, (.mv (.t 57)), 3, none, 0⟩] (some [1, 3, 6]))))
def fa_62 : FnA := ⟨171, [.t 2],
  (.seq
    (.region false [⟨some 1, (.box 28 (.t 0)), 0, none, 0⟩, ⟨some 2, (.mv (.c (.bool false))), 4, none, 0⟩] (some [1]))
    (.seq
      (.region false [⟨some 9, (.faddr 28 (.t 1) 0), 0, none, 0⟩, ⟨some 10, (.load 22 (.t 9)), 22, none, 0⟩, ⟨some 11, (.len 22 (.t 10)), 3, none, 0⟩, ⟨some 3, (.mv (.t 11)), 3, none, 0⟩] (some [1, 3]))
      (.seq
        (.seq
          (.region false (gops [⟨some 12, (.faddr 28 (.t 1) 0), 0, none, 0⟩, ⟨some 13, (.load 22 (.t 12)), 22, none, 0⟩, ⟨some 14, (.call (.f 123) [(.t 13)]), 4, none, 3⟩, ⟨some 15, (.un .not (.t 14)), 4, none, 0⟩, ⟨some 16, (.mv (.t 15)), 4, none, 0⟩, ⟨some 17, (.faddr 28 (.t 1) 1), 0, some (16, false), 0⟩, ⟨some 18, (.load 23 (.t 17)), 23, some (16, false), 0⟩, ⟨some 19, (.len 23 (.t 18)), 3, some (16, false), 0⟩, ⟨some 20, (.mv (.t 3)), 3, some (16, false), 0⟩, ⟨some 21, (.bin .neq 3 (.t 19) (.t 20)), 4, some (16, false), 0⟩, ⟨some 22, (.pick (.t 16) (.c (.bool true)) (.t 21)), 4, none, 0⟩]) (some [1, 3, 22]))
          (.cond (.t 22)
            (.seq
              (.region false [⟨some 2, (.mv (.c (.bool false))), 4, none, 0⟩] (some [2]))
              .ret)
            .skip))
        (.seq
          (.seq
            (.region false [⟨some 4, (.mv (.c (.int .i64 0))), 3, none, 0⟩] (some [1, 3, 4]))
            (.block 0
              (.loop [1, 3, 4] [] lb_62_5)))
          (.seq
            (.seq
              (.region false [⟨some 6, (.mv (.c (.int .i64 0))), 3, none, 0⟩] (some [1, 3, 6]))
              (.block 4
                (.loop [1, 3, 6] [] lb_62_15)))
            (.seq
              (.region false [⟨some 2, (.mv (.c (.bool true))), 4, none, 0⟩] (some [2]))
              .ret))))))⟩
theorem fok_62 : FnOk Try.prog 62 fa_62 an_62 := ⟨Try.f62, _, Try.func62, rfl, by kernel_rfl, rfl, rfl, by decide, by kernel_rfl⟩
/-- spec.end -/
def an_125 : Ann := ⟨[(5, 3, 3), (10, 4, 3), (10, 5, 3), (11, 4, 3)], [(0, [0, 1]), (1, [0, 1, 12]), (2, [4]), (3, [0, 1, 16]), (4, [0, 1, 16, 17]), (5, [4]), (6, [0, 1, 16, 23]), (7, [0, 1, 16, 23]), (8, [0, 1, 16, 23]), (9, [0, 1, 23]), (10, [4]), (11, [1, 52]), (12, [4]), (13, [4])], []⟩
def fa_125 : FnA := ⟨55, [.t 4],
  (.seq
    (.region false [⟨some 4, (.mv (.c (.int .i64 0))), 3, none, 0⟩] (some [0, 1]))
    (.seq
      (.seq
        (.region false (gops [⟨some 5, (.mv (.t 1)), 3, none, 0⟩, ⟨some 6, (.bin .lss 3 (.t 5) (.c (.int .i64 0))), 4, none, 0⟩, ⟨some 7, (.mv (.t 6)), 4, none, 0⟩, ⟨some 8, (.mv (.t 1)), 3, some (7, false), 0⟩, ⟨some 9, (.mv (.t 0)), 22, some (7, false), 0⟩, ⟨some 10, (.len 22 (.t 9)), 3, some (7, false), 0⟩, ⟨some 11, (.bin .geq 3 (.t 8) (.t 10)), 4, some (7, false), 0⟩, ⟨some 12, (.pick (.t 7) (.c (.bool true)) (.t 11)), 4, none, 0⟩]) (some [0, 1, 12]))
        (.cond (.t 12)
          (.seq
            (.region false [⟨some 4, (.mv (.c (.int .i64 (-1)))), 3, none, 0⟩] (some [4]))
            .ret)
          .skip))
      (.seq
        (.seq
          (.region false [⟨some 13, (.mv (.t 0)), 22, none, 0⟩, ⟨some 14, (.mv (.t 1)), 3, none, 0⟩, ⟨some 15, (.iaddr 22 (.t 13) (.t 14)), 0, none, 0⟩, ⟨some 16, (.load 3 (.t 15)), 3, none, 0⟩] (some [0, 1, 16]))
          (.block 0
            (.seq
              (.region false [⟨some 18, (.bin .eql 3 (.t 16) (.c (.int .i64 12))), 4, none, 0⟩, ⟨some 17, (.mv (.t 18)), 4, none, 0⟩] (some [0, 1, 16, 17]))
              (.cond (.t 17)
                (.seq
                  (.region false [⟨some 19, (.mv (.t 0)), 22, none, 0⟩, ⟨some 20, (.mv (.t 1)), 3, none, 0⟩, ⟨some 21, (.bin .add 3 (.t 20) (.c (.int .i64 1))), 3, none, 0⟩, ⟨some 22, (.call (.f 125) [(.t 19), (.t 21)]), 3, none, 3⟩, ⟨some 4, (.mv (.t 22)), 3, none, 0⟩] (some [4]))
                  .ret)
                (.seq
                  (.seq
                    (.region false [⟨some 24, (.bin .eql 3 (.t 16) (.c (.int .i64 13))), 4, none, 0⟩, ⟨some 23, (.mv (.t 24)), 4, none, 0⟩] (some [0, 1, 16, 23]))
                    (.cond (.t 23)
                      .skip
                      (.seq
                        (.region false [⟨some 25, (.bin .eql 3 (.t 16) (.c (.int .i64 14))), 4, none, 0⟩, ⟨some 23, (.mv (.t 25)), 4, none, 0⟩] (some [0, 1, 16, 23]))
                        (.cond (.t 23)
                          .skip
                          (.seq
                            (.region false [⟨some 26, (.bin .eql 3 (.t 16) (.c (.int .i64 15))), 4, none, 0⟩, ⟨some 23, (.mv (.t 26)), 4, none, 0⟩] (some [0, 1, 16, 23]))
                            (.cond (.t 23)
                              .skip
                              (.region false [⟨some 27, (.bin .eql 3 (.t 16) (.c (.int .i64 16))), 4, none, 0⟩, ⟨some 23, (.mv (.t 27)), 4, none, 0⟩] (some [0, 1, 23]))))))))
                  (.cond (.t 23)
                    (.seq
                      (.region false [⟨some 28, (.mv (.t 0)), 22, none, 0⟩, ⟨some 29, (.mv (.t 0)), 22, none, 0⟩, ⟨some 30, (.mv (.t 1)), 3, none, 0⟩, ⟨some 31, (.bin .add 3 (.t 30) (.c (.int .i64 1))), 3, none, 0⟩, ⟨some 32, (.call (.f 125) [(.t 29), (.t 31)]), 3, none, 3⟩, ⟨some 33, (.call (.f 125) [(.t 28), (.t 32)]), 3, none, 3⟩, ⟨some 4, (.mv (.t 33)), 3, none, 0⟩] (some [4]))
                      .ret)
                    .skip))))))
        (.seq
          (.seq
            (.region false (gops (seg [0, 1, 39, 43] [⟨some 34, (.mv (.t 0)), 22, none, 0⟩, ⟨some 35, (.mv (.t 1)), 3, none, 0⟩, ⟨some 36, (.iaddr 22 (.t 34) (.t 35)), 0, none, 0⟩, ⟨some 37, (.load 3 (.t 36)), 3, none, 0⟩, ⟨some 38, (.call (.f 78) [(.t 37), (.c (.int .i64 0)), (.c (.int .i64 2))]), 4, none, 3⟩, ⟨some 39, (.mv (.t 38)), 4, none, 0⟩, ⟨some 40, (.mv (.t 0)), 22, some (39, false), 0⟩, ⟨some 41, (.mv (.t 1)), 3, some (39, false), 0⟩, ⟨some 42, (.iaddr 22 (.t 40) (.t 41)), 0, some (39, false), 0⟩, ⟨some 43, (.load 3 (.t 42)), 3, some (39, false), 0⟩]
            [⟨some 44, (.bin .eql 3 (.t 43) (.c (.int .i64 10))), 4, some (39, false), 0⟩, ⟨some 45, (.pick (.t 39) (.c (.bool true)) (.t 44)), 4, none, 0⟩, ⟨some 46, (.mv (.t 45)), 4, none, 0⟩, ⟨some 47, (.mv (.t 0)), 22, some (46, false), 0⟩, ⟨some 48, (.mv (.t 1)), 3, some (46, false), 0⟩, ⟨some 49, (.iaddr 22 (.t 47) (.t 48)), 0, some (46, false), 0⟩, ⟨some 50, (.load 3 (.t 49)), 3, some (46, false), 0⟩, ⟨some 51, (.bin .eql 3 (.t 50) (.c (.int .i64 11))), 4, some (46, false), 0⟩, ⟨some 52, (.pick (.t 46) (.c (.bool true)) (.t 51)), 4, none, 0⟩] [1, 52] (by decide))) (some [1, 52]))
            (.cond (.t 52)
              (.seq
                (.region false [⟨some 53, (.mv (.t 1)), 3, none, 0⟩, ⟨some 54, (.bin .add 3 (.t 53) (.c (.int .i64 1))), 3, none, 0⟩, ⟨some 4, (.mv (.t 54)), 3, none, 0⟩] (some [4]))
                .ret)
              .skip))
          (.seq
            (.region false [⟨some 4, (.mv (.c (.int .i64 (-1)))), 3, none, 0⟩] (some [4]))
            .ret)))))⟩
theorem fok_125 : FnOk Try.prog 125 fa_125 an_125 := ⟨Try.f125, _, Try.func125, rfl, by kernel_rfl, rfl, rfl, by decide, by kernel_rfl⟩
/-- spec.validTerm -/
def an_63 : Ann := ⟨[(1, 2, 3), (1, 5, 3)], [(0, [0]), (1, [2])], []⟩
def fa_63 : FnA := ⟨13, [.t 2],
  (.seq
    (.region false [⟨some 2, (.mv (.c (.bool false))), 4, none, 0⟩] (some [0]))
    (.seq
      (.region false (gops [⟨some 3, (.mv (.t 0)), 22, none, 0⟩, ⟨some 4, (.len 22 (.t 3)), 3, none, 0⟩, ⟨some 5, (.call (.f 78) [(.t 4), (.c (.int .i64 1)), (.c (.int .i64 15))]), 4, none, 3⟩, ⟨some 6, (.mv (.t 5)), 4, none, 0⟩, ⟨some 7, (.mv (.t 0)), 22, some (6, true), 0⟩, ⟨some 8, (.call (.f 125) [(.t 7), (.c (.int .i64 0))]), 3, some (6, true), 3⟩, ⟨some 9, (.mv (.t 0)), 22, some (6, true), 0⟩, ⟨some 10, (.len 22 (.t 9)), 3, some (6, true), 0⟩, ⟨some 11, (.bin .eql 3 (.t 8) (.t 10)), 4, some (6, true), 0⟩, ⟨some 12, (.pick (.t 6) (.t 11) (.c (.bool false))), 4, none, 0⟩, ⟨some 2, (.mv (.t 12)), 4, none, 0⟩]) (some [2]))
      .ret))⟩
theorem fok_63 : FnOk Try.prog 63 fa_63 an_63 := ⟨Try.f63, _, Try.func63, rfl, by kernel_rfl, rfl, rfl, by decide, by kernel_rfl⟩
/-- spec.validNames -/
def an_64 : Ann := ⟨[(4, 8, 3)], [(0, [1, 2]), (1, [1, 2, 5]), (2, [1, 2, 5, 9]), (4, [1, 2, 5, 21]), (5, [4]), (3, [1, 2, 5]), (6, [4])], [(2, [1, 2, 5], [])]⟩
def lb_64_2 : AC :=
  (.seq
    (.seq
      (.region false [⟨some 6, (.mv (.t 5)), 3, none, 0⟩, ⟨some 7, (.mv (.t 1)), 22, none, 0⟩, ⟨some 8, (.len 22 (.t 7)), 3, none, 0⟩, ⟨some 9, (.bin .lss 3 (.t 6) (.t 8)), 4, none, 0⟩] (some [1, 2, 5, 9]))
      (.cond (.t 9)
        .skip
        (.exit 0)))
    (.seq
      (.block 1
        (.seq
          (.region true [⟨some 12, (.mv (.t 1)), 22, none, 0⟩, ⟨some 13, (.mv (.t 5)), 3, none, 0⟩, ⟨some 14, (.iaddr 22 (.t 12) (.t 13)), 0, none, 0⟩, ⟨some 15, (.load 3 (.t 14)), 3, none, 0⟩, ⟨some 16, (.faddr 28 (.t 2) 0), 0, none, 0⟩, ⟨some 17, (.load 22 (.t 16)), 22, none, 0⟩, ⟨some 18, (.len 22 (.t 17)), 3, none, 0⟩, ⟨some 19, (.bin .sub 3 (.t 18) (.c (.int .i64 1))), 3, none, 0⟩, ⟨some 20, (.call (.f 78) [(.t 15), (.c (.int .i64 0)), (.t 19)]), 4, none, 3⟩, ⟨some 21, (.un .not (.t 20)), 4, none, 0⟩] (some [1, 2, 5, 21]))
          (.cond (.t 21)
            (.seq
              (.region false [⟨some 4, (.mv (.c (.bool false))), 4, none, 0⟩] (some [4]))
              .ret)
            .skip)))
      (.region false [⟨some 10, (.mv (.t 5)), 3, none, 0⟩, ⟨some 11, (.bin .add 3 (.t 10) (.c (.int .i64 1))), 3, none, 0⟩, ⟨some 5, (.mv (.t 11)), 3, none, 0⟩] (some [1, 2, 5]))))
def fa_64 : FnA := ⟨25, [.t 4],
  (.seq
    (.region false [⟨some 2, (.box 28 (.t 0)), 0, none, 0⟩, ⟨some 4, (.mv (.c (.bool false))), 4, none, 0⟩] (some [1, 2]))
    (.seq
      (.seq
        (.region false [⟨some 5, (.mv (.c (.int .i64 0))), 3, none, 0⟩] (some [1, 2, 5]))
        (.block 0
          (.loop [1, 2, 5] [] lb_64_2)))
      (.seq
        (.region false [⟨some 22, (.mv (.t 1)), 22, none, 0⟩, ⟨some 23, (.len 22 (.t 22)), 3, none, 0⟩, ⟨some 24, (.bin .eql 3 (.t 23) (.c (.int .i64 3))), 4, none, 0⟩, ⟨some 4, (.mv (.t 24)), 4, none, 0⟩] (some [4]))
        .ret)))⟩
theorem fok_64 : FnOk Try.prog 64 fa_64 an_64 := ⟨Try.f64, _, Try.func64, rfl, by kernel_rfl, rfl, rfl, by decide, by kernel_rfl⟩
/-- spec.imply -/
def an_126 : Ann := ⟨[(5, 11, 3), (6, 4, 3)], [(0, [1, 2, 3]), (1, [1, 2, 3, 7]), (2, [1, 2, 3, 7, 8]), (3, [1, 2, 3, 7, 8, 13]), (5, [1, 2, 3, 7, 8, 27]), (6, [1, 2, 3, 7, 8]), (4, [1, 2, 3, 7, 8]), (7, [6])], [(3, [1, 2, 3, 7, 8], [])]⟩
def lb_126_3 : AC :=
  (.seq
    (.seq
      (.region false [⟨some 9, (.mv (.t 8)), 3, none, 0⟩, ⟨some 10, (.faddr 28 (.t 3) 0), 0, none, 0⟩, ⟨some 11, (.load 22 (.t 10)), 22, none, 0⟩, ⟨some 12, (.len 22 (.t 11)), 3, none, 0⟩, ⟨some 13, (.bin .lss 3 (.t 9) (.t 12)), 4, none, 0⟩] (some [1, 2, 3, 7, 8, 13]))
      (.cond (.t 13)
        .skip
        (.exit 0)))
    (.seq
      (.block 1
        (.seq
          (.region true [⟨some 16, (.faddr 28 (.t 3) 0), 0, none, 0⟩, ⟨some 17, (.load 22 (.t 16)), 22, none, 0⟩, ⟨some 18, (.faddr 28 (.t 3) 1), 0, none, 0⟩, ⟨some 19, (.load 23 (.t 18)), 23, none, 0⟩, ⟨some 20, (.mv (.t 1)), 3, none, 0⟩, ⟨some 21, (.iaddr 23 (.t 19) (.t 20)), 0, none, 0⟩, ⟨some 22, (.load 22 (.t 21)), 22, none, 0⟩, ⟨some 23, (.mv (.t 8)), 3, none, 0⟩, ⟨some 24, (.iaddr 22 (.t 22) (.t 23)), 0, none, 0⟩, ⟨some 25, (.load 3 (.t 24)), 3, none, 0⟩, ⟨some 26, (.mv (.t 2)), 3, none, 0⟩, ⟨some 27, (.call (.f 113) [(.t 17), (.t 25), (.t 26)]), 4, none, 3⟩] (some [1, 2, 3, 7, 8, 27]))
          (.cond (.t 27)
            (.region false [⟨some 28, (.faddr 28 (.t 3) 0), 0, none, 0⟩, ⟨some 29, (.load 22 (.t 28)), 22, none, 0⟩, ⟨some 30, (.mv (.t 7)), 3, none, 0⟩, ⟨some 31, (.mv (.t 8)), 3, none, 0⟩, ⟨some 32, (.call (.f 124) [(.t 29), (.t 30), (.t 31)]), 3, none, 3⟩, ⟨some 7, (.mv (.t 32)), 3, none, 0⟩] (some [1, 2, 3, 7, 8]))
            .skip)))
      (.region false [⟨some 14, (.mv (.t 8)), 3, none, 0⟩, ⟨some 15, (.bin .add 3 (.t 14) (.c (.int .i64 1))), 3, none, 0⟩, ⟨some 8, (.mv (.t 15)), 3, none, 0⟩] (some [1, 2, 3, 7, 8]))))
def fa_126 : FnA := ⟨34, [.t 6],
  (.seq
    (.region false [⟨some 3, (.box 28 (.t 0)), 0, none, 0⟩, ⟨some 6, (.mv (.c (.int .i64 0))), 3, none, 0⟩] (some [1, 2, 3]))
    (.seq
      (.region false [⟨some 7, (.mv (.c (.int .i64 0))), 3, none, 0⟩] (some [1, 2, 3, 7]))
      (.seq
        (.seq
          (.region false [⟨some 8, (.mv (.c (.int .i64 0))), 3, none, 0⟩] (some [1, 2, 3, 7, 8]))
          (.block 0
            (.loop [1, 2, 3, 7, 8] [] lb_126_3)))
        (.seq
          (.region false [⟨some 33, (.mv (.t 7)), 3, none, 0⟩, ⟨some 6, (.mv (.t 33)), 3, none, 0⟩] (some [6]))
          .ret))))⟩
theorem fok_126 : FnOk Try.prog 126 fa_126 an_126 := ⟨Try.f126, _, Try.func126, rfl, by kernel_rfl, rfl, rfl, by decide, by kernel_rfl⟩
/-- spec.value -/
def an_65 : Ann := ⟨[(7, 6, 3), (7, 7, 3), (10, 5, 3), (11, 5, 3), (11, 7, 3), (14, 4, 3), (16, 4, 3), (19, 3, 3)], [(0, [1, 2, 3, 4]), (1, [1, 2, 3, 4, 14]), (2, [1, 2, 3, 4, 14, 15]), (3, [8]), (4, [1, 2, 3, 4, 14, 17]), (5, [8]), (6, [1, 2, 3, 4, 23]), (7, [8]), (8, [1, 2, 3, 4, 37]), (9, [8]), (10, [1, 2, 3, 4, 9]), (11, [1, 2, 4, 9, 10]), (12, [4, 9, 10, 62]), (13, [4, 9, 10, 62, 63]), (14, [8]), (15, [4, 9, 10, 62, 70]), (16, [8]), (17, [4, 9, 10, 77]), (18, [8]), (19, [8])], []⟩
def fa_65 : FnA := ⟨91, [.t 8],
  (.seq
    (.region false [⟨some 4, (.box 28 (.t 0)), 0, none, 0⟩, ⟨some 8, (.mv (.c (.int .i64 0))), 3, none, 0⟩] (some [1, 2, 3, 4]))
    (.seq
      (.seq
        (.region false [⟨some 11, (.mv (.t 1)), 22, none, 0⟩, ⟨some 12, (.mv (.t 2)), 3, none, 0⟩, ⟨some 13, (.iaddr 22 (.t 11) (.t 12)), 0, none, 0⟩, ⟨some 14, (.load 3 (.t 13)), 3, none, 0⟩] (some [1, 2, 3, 4, 14]))
        (.block 0
          (.seq
            (.region false [⟨some 16, (.bin .eql 3 (.t 14) (.c (.int .i64 10))), 4, none, 0⟩, ⟨some 15, (.mv (.t 16)), 4, none, 0⟩] (some [1, 2, 3, 4, 14, 15]))
            (.cond (.t 15)
              (.seq
                (.region false [⟨some 8, (.mv (.c (.int .i64 0))), 3, none, 0⟩] (some [8]))
                .ret)
              (.seq
                (.region false [⟨some 18, (.bin .eql 3 (.t 14) (.c (.int .i64 11))), 4, none, 0⟩, ⟨some 17, (.mv (.t 18)), 4, none, 0⟩] (some [1, 2, 3, 4, 14, 17]))
                (.cond (.t 17)
                  (.seq
                    (.region false [⟨some 19, (.faddr 28 (.t 4) 0), 0, none, 0⟩, ⟨some 20, (.load 22 (.t 19)), 22, none, 0⟩, ⟨some 21, (.len 22 (.t 20)), 3, none, 0⟩, ⟨some 22, (.bin .sub 3 (.t 21) (.c (.int .i64 1))), 3, none, 0⟩, ⟨some 8, (.mv (.t 22)), 3, none, 0⟩] (some [8]))
                    .ret)
                  (.seq
                    (.region false [⟨some 24, (.bin .eql 3 (.t 14) (.c (.int .i64 12))), 4, none, 0⟩, ⟨some 23, (.mv (.t 24)), 4, none, 0⟩] (some [1, 2, 3, 4, 23]))
                    (.cond (.t 23)
                      (.seq
                        (.region true [⟨some 25, (.load 28 (.t 4)), 28, none, 0⟩, ⟨some 26, (.load 28 (.t 4)), 28, none, 0⟩, ⟨some 27, (.mv (.t 1)), 22, none, 0⟩, ⟨some 28, (.mv (.t 2)), 3, none, 0⟩, ⟨some 29, (.bin .add 3 (.t 28) (.c (.int .i64 1))), 3, none, 0⟩, ⟨some 30, (.mv (.t 3)), 22, none, 0⟩, ⟨some 31, (.call (.f 65) [(.t 26), (.t 27), (.t 29), (.t 30)]), 3, none, 3⟩, ⟨some 32, (.call (.f 126) [(.t 25), (.t 31), (.c (.int .i64 0))]), 3, none, 3⟩, ⟨some 8, (.mv (.t 32)), 3, none, 0⟩] (some [8]))
                        .ret)
                      .skip))))))))
      (.seq
        (.seq
          (.region false [⟨some 33, (.mv (.t 1)), 22, none, 0⟩, ⟨some 34, (.mv (.t 2)), 3, none, 0⟩, ⟨some 35, (.iaddr 22 (.t 33) (.t 34)), 0, none, 0⟩, ⟨some 36, (.load 3 (.t 35)), 3, none, 0⟩, ⟨some 37, (.bin .lss 3 (.t 36) (.c (.int .i64 3))), 4, none, 0⟩] (some [1, 2, 3, 4, 37]))
          (.cond (.t 37)
            (.seq
              (.region false [⟨some 38, (.mv (.t 3)), 22, none, 0⟩, ⟨some 39, (.mv (.t 1)), 22, none, 0⟩, ⟨some 40, (.mv (.t 2)), 3, none, 0⟩, ⟨some 41, (.iaddr 22 (.t 39) (.t 40)), 0, none, 0⟩, ⟨some 42, (.load 3 (.t 41)), 3, none, 0⟩, ⟨some 43, (.iaddr 22 (.t 38) (.t 42)), 0, none, 0⟩, ⟨some 44, (.load 3 (.t 43)), 3, none, 0⟩, ⟨some 8, (.mv (.t 44)), 3, none, 0⟩] (some [8]))
              .ret)
            .skip))
        (.seq
          (.region false [⟨some 45, (.load 28 (.t 4)), 28, none, 0⟩, ⟨some 46, (.mv (.t 1)), 22, none, 0⟩, ⟨some 47, (.mv (.t 2)), 3, none, 0⟩, ⟨some 48, (.bin .add 3 (.t 47) (.c (.int .i64 1))), 3, none, 0⟩, ⟨some 49, (.mv (.t 3)), 22, none, 0⟩, ⟨some 50, (.call (.f 65) [(.t 45), (.t 46), (.t 48), (.t 49)]), 3, none, 3⟩, ⟨some 9, (.mv (.t 50)), 3, none, 0⟩] (some [1, 2, 3, 4, 9]))
          (.seq
            (.region true [⟨some 51, (.load 28 (.t 4)), 28, none, 0⟩, ⟨some 52, (.mv (.t 1)), 22, none, 0⟩, ⟨some 53, (.mv (.t 1)), 22, none, 0⟩, ⟨some 54, (.mv (.t 2)), 3, none, 0⟩, ⟨some 55, (.bin .add 3 (.t 54) (.c (.int .i64 1))), 3, none, 0⟩, ⟨some 56, (.call (.f 125) [(.t 53), (.t 55)]), 3, none, 3⟩, ⟨some 57, (.mv (.t 3)), 22, none, 0⟩, ⟨some 58, (.call (.f 65) [(.t 51), (.t 52), (.t 56), (.t 57)]), 3, none, 3⟩, ⟨some 10, (.mv (.t 58)), 3, none, 0⟩] (some [1, 2, 4, 9, 10]))
            (.seq
              (.seq
                (.region false [⟨some 59, (.mv (.t 1)), 22, none, 0⟩, ⟨some 60, (.mv (.t 2)), 3, none, 0⟩, ⟨some 61, (.iaddr 22 (.t 59) (.t 60)), 0, none, 0⟩, ⟨some 62, (.load 3 (.t 61)), 3, none, 0⟩] (some [4, 9, 10, 62]))
                (.block 1
                  (.seq
                    (.region false [⟨some 64, (.bin .eql 3 (.t 62) (.c (.int .i64 13))), 4, none, 0⟩, ⟨some 63, (.mv (.t 64)), 4, none, 0⟩] (some [4, 9, 10, 62, 63]))
                    (.cond (.t 63)
                      (.seq
                        (.region false [⟨some 65, (.faddr 28 (.t 4) 0), 0, none, 0⟩, ⟨some 66, (.load 22 (.t 65)), 22, none, 0⟩, ⟨some 67, (.mv (.t 9)), 3, none, 0⟩, ⟨some 68, (.mv (.t 10)), 3, none, 0⟩, ⟨some 69, (.call (.f 127) [(.t 66), (.t 67), (.t 68)]), 3, none, 3⟩, ⟨some 8, (.mv (.t 69)), 3, none, 0⟩] (some [8]))
                        .ret)
                      (.seq
                        (.region false [⟨some 71, (.bin .eql 3 (.t 62) (.c (.int .i64 14))), 4, none, 0⟩, ⟨some 70, (.mv (.t 71)), 4, none, 0⟩] (some [4, 9, 10, 62, 70]))
                        (.cond (.t 70)
                          (.seq
                            (.region false [⟨some 72, (.faddr 28 (.t 4) 0), 0, none, 0⟩, ⟨some 73, (.load 22 (.t 72)), 22, none, 0⟩, ⟨some 74, (.mv (.t 9)), 3, none, 0⟩, ⟨some 75, (.mv (.t 10)), 3, none, 0⟩, ⟨some 76, (.call (.f 124) [(.t 73), (.t 74), (.t 75)]), 3, none, 3⟩, ⟨some 8, (.mv (.t 76)), 3, none, 0⟩] (some [8]))
                            .ret)
                          (.seq
                            (.region false [⟨some 78, (.bin .eql 3 (.t 62) (.c (.int .i64 15))), 4, none, 0⟩, ⟨some 77, (.mv (.t 78)), 4, none, 0⟩] (some [4, 9, 10, 77]))
                            (.cond (.t 77)
                              (.seq
                                (.region false [⟨some 79, (.faddr 28 (.t 4) 1), 0, none, 0⟩, ⟨some 80, (.load 23 (.t 79)), 23, none, 0⟩, ⟨some 81, (.mv (.t 9)), 3, none, 0⟩, ⟨some 82, (.iaddr 23 (.t 80) (.t 81)), 0, none, 0⟩, ⟨some 83, (.load 22 (.t 82)), 22, none, 0⟩, ⟨some 84, (.mv (.t 10)), 3, none, 0⟩, ⟨some 85, (.iaddr 22 (.t 83) (.t 84)), 0, none, 0⟩, ⟨some 86, (.load 3 (.t 85)), 3, none, 0⟩, ⟨some 8, (.mv (.t 86)), 3, none, 0⟩] (some [8]))
                                .ret)
                              .skip))))))))
              (.seq
                (.region false [⟨some 87, (.load 28 (.t 4)), 28, none, 0⟩, ⟨some 88, (.mv (.t 9)), 3, none, 0⟩, ⟨some 89, (.mv (.t 10)), 3, none, 0⟩, ⟨some 90, (.call (.f 126) [(.t 87), (.t 88), (.t 89)]), 3, none, 3⟩, ⟨some 8, (.mv (.t 90)), 3, none, 0⟩] (some [8]))
                .ret)))))))⟩
theorem fok_65 : FnOk Try.prog 65 fa_65 an_65 := ⟨Try.f65, _, Try.func65, rfl, by kernel_rfl, rfl, rfl, by decide, by kernel_rfl⟩
/-- spec.ValueOf -/
def an_18 : Ann := ⟨[(1, 1, 3), (1, 5, 3), (1, 11, 3), (3, 3, 3)], [(0, [1, 2, 3]), (1, [1, 2, 3, 20]), (2, [6]), (3, [6])], []⟩
def fa_18 : FnA := ⟨25, [.t 6],
  (.seq
    (.region false [⟨some 3, (.box 28 (.t 0)), 0, none, 0⟩, ⟨some 6, (.mv (.c (.int .i64 0))), 3, none, 0⟩] (some [1, 2, 3]))
    (.seq
      (.seq
        (.region false (gops [⟨some 7, (.load 28 (.t 3)), 28, none, 0⟩, ⟨some 8, (.call (.f 62) [(.t 7)]), 4, none, 3⟩, ⟨some 9, (.un .not (.t 8)), 4, none, 0⟩, ⟨some 10, (.mv (.t 9)), 4, none, 0⟩, ⟨some 11, (.mv (.t 1)), 22, some (10, false), 0⟩, ⟨some 12, (.call (.f 63) [(.t 11)]), 4, some (10, false), 3⟩, ⟨some 13, (.un .not (.t 12)), 4, some (10, false), 0⟩, ⟨some 14, (.pick (.t 10) (.c (.bool true)) (.t 13)), 4, none, 0⟩, ⟨some 15, (.mv (.t 14)), 4, none, 0⟩, ⟨some 16, (.load 28 (.t 3)), 28, some (15, false), 0⟩, ⟨some 17, (.mv (.t 2)), 22, some (15, false), 0⟩, ⟨some 18, (.call (.f 64) [(.t 16), (.t 17)]), 4, some (15, false), 3⟩, ⟨some 19, (.un .not (.t 18)), 4, some (15, false), 0⟩, ⟨some 20, (.pick (.t 15) (.c (.bool true)) (.t 19)), 4, none, 0⟩]) (some [1, 2, 3, 20]))
        (.cond (.t 20)
          (.seq
            (.region false [⟨some 6, (.mv (.c (.int .i64 (-1)))), 3, none, 0⟩] (some [6]))
            .ret)
          .skip))
      (.seq
        (.region false [⟨some 21, (.load 28 (.t 3)), 28, none, 0⟩, ⟨some 22, (.mv (.t 1)), 22, none, 0⟩, ⟨some 23, (.mv (.t 2)), 22, none, 0⟩, ⟨some 24, (.call (.f 65) [(.t 21), (.t 22), (.c (.int .i64 0)), (.t 23)]), 3, none, 3⟩, ⟨some 6, (.mv (.t 24)), 3, none, 0⟩] (some [6]))
        .ret)))⟩
theorem fok_18 : FnOk Try.prog 18 fa_18 an_18 := ⟨Try.f18, _, Try.func18, rfl, by kernel_rfl, rfl, rfl, by decide, by kernel_rfl⟩
/-- impl.within -/
def an_80 : Ann := ⟨[], [(0, [0, 1, 2]), (1, [6])], []⟩
def fa_80 : FnA := ⟨15, [.t 6],
  (.seq
    (.region false [⟨some 6, (.mv (.c (.bool false))), 4, none, 0⟩] (some [0, 1, 2]))
    (.seq
      (.region false (gops [⟨some 7, (.mv (.t 0)), 3, none, 0⟩, ⟨some 8, (.mv (.t 1)), 3, none, 0⟩, ⟨some 9, (.bin .geq 3 (.t 7) (.t 8)), 4, none, 0⟩, ⟨some 10, (.mv (.t 9)), 4, none, 0⟩, ⟨some 11, (.mv (.t 0)), 3, some (10, true), 0⟩, ⟨some 12, (.mv (.t 2)), 3, some (10, true), 0⟩, ⟨some 13, (.bin .leq 3 (.t 11) (.t 12)), 4, some (10, true), 0⟩, ⟨some 14, (.pick (.t 10) (.t 13) (.c (.bool false))), 4, none, 0⟩, ⟨some 6, (.mv (.t 14)), 4, none, 0⟩]) (some [6]))
      .ret))⟩
theorem fok_80 : FnOk Try.prog 80 fa_80 an_80 := ⟨Try.f80, _, Try.func80, rfl, by kernel_rfl, rfl, rfl, by decide, by kernel_rfl⟩
/-- impl.takes -/
def an_128 : Ann := ⟨[(1, 1, 3)], [(0, [0]), (1, [0, 3]), (2, [0, 3]), (3, [0, 3]), (4, [2]), (5, [0, 10]), (6, [2]), (7, [0, 13]), (8, [0, 13]), (9, [0, 13]), (10, [13]), (11, [2]), (12, [2])], []⟩
def fa_128 : FnA := ⟨22, [.t 2],
  (.seq
    (.region false [⟨some 2, (.mv (.c (.int .i64 0))), 3, none, 0⟩] (some [0]))
    (.seq
      (.block 0
        (.seq
          (.seq
            (.region false [⟨some 4, (.mv (.t 0)), 3, none, 0⟩, ⟨some 5, (.call (.f 80) [(.t 4), (.c (.int .i64 0)), (.c (.int .i64 2))]), 4, none, 3⟩, ⟨some 3, (.mv (.t 5)), 4, none, 0⟩] (some [0, 3]))
            (.cond (.t 3)
              .skip
              (.seq
                (.region false [⟨some 6, (.mv (.t 0)), 3, none, 0⟩, ⟨some 7, (.bin .eql 3 (.t 6) (.c (.int .i64 10))), 4, none, 0⟩, ⟨some 3, (.mv (.t 7)), 4, none, 0⟩] (some [0, 3]))
                (.cond (.t 3)
                  .skip
                  (.region false [⟨some 8, (.mv (.t 0)), 3, none, 0⟩, ⟨some 9, (.bin .eql 3 (.t 8) (.c (.int .i64 11))), 4, none, 0⟩, ⟨some 3, (.mv (.t 9)), 4, none, 0⟩] (some [0, 3]))))))
          (.cond (.t 3)
            (.seq
              (.region false [⟨some 2, (.mv (.c (.int .i64 0))), 3, none, 0⟩] (some [2]))
              .ret)
            (.seq
              (.region false [⟨some 11, (.mv (.t 0)), 3, none, 0⟩, ⟨some 12, (.bin .eql 3 (.t 11) (.c (.int .i64 12))), 4, none, 0⟩, ⟨some 10, (.mv (.t 12)), 4, none, 0⟩] (some [0, 10]))
              (.cond (.t 10)
                (.seq
                  (.region false [⟨some 2, (.mv (.c (.int .i64 1))), 3, none, 0⟩] (some [2]))
                  .ret)
                (.seq
                  (.seq
                    (.region false [⟨some 14, (.mv (.t 0)), 3, none, 0⟩, ⟨some 15, (.bin .eql 3 (.t 14) (.c (.int .i64 13))), 4, none, 0⟩, ⟨some 13, (.mv (.t 15)), 4, none, 0⟩] (some [0, 13]))
                    (.cond (.t 13)
                      .skip
                      (.seq
                        (.region false [⟨some 16, (.mv (.t 0)), 3, none, 0⟩, ⟨some 17, (.bin .eql 3 (.t 16) (.c (.int .i64 14))), 4, none, 0⟩, ⟨some 13, (.mv (.t 17)), 4, none, 0⟩] (some [0, 13]))
                        (.cond (.t 13)
                          .skip
                          (.seq
                            (.region false [⟨some 18, (.mv (.t 0)), 3, none, 0⟩, ⟨some 19, (.bin .eql 3 (.t 18) (.c (.int .i64 15))), 4, none, 0⟩, ⟨some 13, (.mv (.t 19)), 4, none, 0⟩] (some [0, 13]))
                            (.cond (.t 13)
                              .skip
                              (.region false [⟨some 20, (.mv (.t 0)), 3, none, 0⟩, ⟨some 21, (.bin .eql 3 (.t 20) (.c (.int .i64 16))), 4, none, 0⟩, ⟨some 13, (.mv (.t 21)), 4, none, 0⟩] (some [13]))))))))
                  (.cond (.t 13)
                    (.seq
                      (.region false [⟨some 2, (.mv (.c (.int .i64 2))), 3, none, 0⟩] (some [2]))
                      .ret)
                    .skip)))))))
      (.seq
        (.region false [⟨some 2, (.mv (.c (.int .i64 (-1)))), 3, none, 0⟩] (some [2]))
        .ret)))⟩
theorem fok_128 : FnOk Try.prog 128 fa_128 an_128 := ⟨Try.f128, _, Try.func128, rfl, by kernel_rfl, rfl, rfl, by decide, by kernel_rfl⟩
/-- impl.ValidTerm -/
def an_67 : Ann := ⟨[(5, 1, 3)], [(0, [0]), (1, [0, 3]), (2, [0, 3, 7, 8, 9]), (3, [0, 3, 7, 8, 9, 10]), (4, [0, 3, 5, 7, 8, 9]), (5, [0, 3, 6, 7, 8, 9]), (6, [0, 3, 6, 7, 8, 9, 20]), (7, [2]), (8, [0, 3, 7, 8, 9]), (9, [0, 3, 7, 8, 9]), (10, [2])], [(3, [0, 3, 7, 8, 9], [])]⟩
def lb_67_3 : AC :=
  (.seq
    (.region false [⟨some 10, (.bin .lss 3 (.t 9) (.t 8)), 0, none, 0⟩] (some [0, 3, 7, 8, 9, 10]))
    (.seq
      (.cond (.t 10)
        .skip
        (.exit 0))
      (.seq
        (.block 1
          (.seq
            (.region false [⟨some 11, (.iaddr 22 (.t 7) (.t 9)), 0, none, 0⟩, ⟨some 12, (.load 3 (.t 11)), 3, none, 0⟩, ⟨some 5, (.mv (.t 12)), 3, none, 0⟩] (some [0, 3, 5, 7, 8, 9]))
            (.seq
              (.region false [⟨some 13, (.mv (.t 5)), 3, none, 0⟩, ⟨some 14, (.call (.f 128) [(.t 13)]), 3, none, 3⟩, ⟨some 6, (.mv (.t 14)), 3, none, 0⟩] (some [0, 3, 6, 7, 8, 9]))
              (.seq
                (.seq
                  (.region false (gops [⟨some 15, (.mv (.t 3)), 3, none, 0⟩, ⟨some 16, (.bin .eql 3 (.t 15) (.c (.int .i64 0))), 4, none, 0⟩, ⟨some 17, (.mv (.t 16)), 4, none, 0⟩, ⟨some 18, (.mv (.t 6)), 3, some (17, false), 0⟩, ⟨some 19, (.bin .lss 3 (.t 18) (.c (.int .i64 0))), 4, some (17, false), 0⟩, ⟨some 20, (.pick (.t 17) (.c (.bool true)) (.t 19)), 4, none, 0⟩]) (some [0, 3, 6, 7, 8, 9, 20]))
                  (.cond (.t 20)
                    (.seq
                      (.region false [⟨some 2, (.mv (.c (.bool false))), 4, none, 0⟩] (some [2]))
                      .ret)
                    .skip))
                (.region false [⟨some 21, (.mv (.t 3)), 3, none, 0⟩, ⟨some 22, (.mv (.t 6)), 3, none, 0⟩, ⟨some 23, (.bin .sub 3 (.t 22) (.c (.int .i64 1))), 3, none, 0⟩, ⟨some 24, (.bin .add 3 (.t 21) (.t 23)), 3, none, 0⟩, ⟨some 3, (.mv (.t 24)), 3, none, 0⟩] (some [0, 3, 7, 8, 9]))))))
        (.region false [⟨some 25, (.bin .add 3 (.t 9) (.c (.int .i64 1))), 3, none, 0⟩, ⟨some 9, (.mv (.t 25)), 3, none, 0⟩] (some [0, 3, 7, 8, 9])))))
def fa_67 : FnA := ⟨33, [.t 2],
  (.seq
    (.region false [⟨some 2, (.mv (.c (.bool false))), 4, none, 0⟩] (some [0]))
    (.seq
      (.region false [⟨some 3, (.mv (.c (.int .i64 1))), 3, none, 0⟩] (some [0, 3]))
      (.seq
        (.seq
          (.region false [⟨some 7, (.mv (.t 0)), 22, none, 0⟩, ⟨some 8, (.len 22 (.t 7)), 3, none, 0⟩, ⟨some 9, (.mv (.c (.int .i64 0))), 3, none, 0⟩] (some [0, 3, 7, 8, 9]))
          (.block 0
            (.loop [0, 3, 7, 8, 9] [] lb_67_3)))
        (.seq
          (.region false (gops [⟨some 26, (.mv (.t 3)), 3, none, 0⟩, ⟨some 27, (.bin .eql 3 (.t 26) (.c (.int .i64 0))), 4, none, 0⟩, ⟨some 28, (.mv (.t 27)), 4, none, 0⟩, ⟨some 29, (.mv (.t 0)), 22, some (28, true), 0⟩, ⟨some 30, (.len 22 (.t 29)), 3, some (28, true), 0⟩, ⟨some 31, (.bin .leq 3 (.t 30) (.c (.int .i64 15))), 4, some (28, true), 0⟩, ⟨some 32, (.pick (.t 28) (.t 31) (.c (.bool false))), 4, none, 0⟩, ⟨some 2, (.mv (.t 32)), 4, none, 0⟩]) (some [2]))
          .ret))))⟩
theorem fok_67 : FnOk Try.prog 67 fa_67 an_67 := ⟨Try.f67, _, Try.func67, rfl, by kernel_rfl, rfl, rfl, by decide, by kernel_rfl⟩
/-- impl.below -/
def an_88 : Ann := ⟨[], [(0, [0, 1, 2]), (1, [6])], []⟩
def fa_88 : FnA := ⟨15, [.t 6],
  (.seq
    (.region false [⟨some 6, (.mv (.c (.bool false))), 4, none, 0⟩] (some [0, 1, 2]))
    (.seq
      (.region false [⟨some 7, (.mv (.t 0)), 22, none, 0⟩, ⟨some 8, (.mv (.t 1)), 3, none, 0⟩, ⟨some 9, (.iaddr 22 (.t 7) (.t 8)), 0, none, 0⟩, ⟨some 10, (.load 3 (.t 9)), 3, none, 0⟩, ⟨some 11, (.mv (.t 2)), 3, none, 0⟩, ⟨some 12, (.bin .shr 3 (.t 10) (.t 11)), 3, none, 0⟩, ⟨some 13, (.bin .rem 3 (.t 12) (.c (.int .i64 2))), 3, none, 0⟩, ⟨some 14, (.bin .eql 3 (.t 13) (.c (.int .i64 1))), 4, none, 0⟩, ⟨some 6, (.mv (.t 14)), 4, none, 0⟩] (some [6]))
      .ret))⟩
theorem fok_88 : FnOk Try.prog 88 fa_88 an_88 := ⟨Try.f88, _, Try.func88, rfl, by kernel_rfl, rfl, rfl, by decide, by kernel_rfl⟩
/-- impl.meet -/
def an_162 : Ann := ⟨[(4, 3, 3), (4, 9, 3), (9, 5, 3), (9, 11, 3), (9, 18, 3)], [(0, [0, 1, 2]), (1, [0, 1, 2, 11, 12]), (2, [0, 1, 2, 11, 12, 13]), (3, [0, 1, 2, 7, 11, 12]), (4, [0, 1, 2, 7, 11, 12, 26]), (5, [0, 1, 2, 7, 8, 11, 12]), (6, [0, 1, 2, 7, 8, 11, 12, 28, 29]), (7, [0, 1, 2, 7, 8, 11, 12, 28, 29, 30]), (8, [0, 1, 2, 7, 8, 9, 11, 12, 28, 29]), (9, [0, 1, 2, 7, 8, 11, 12, 28, 29]), (10, [0, 1, 2, 7, 8, 11, 12, 28, 29]), (11, [0, 1, 2, 7, 11, 12, 54]), (12, [6]), (13, [0, 1, 2, 11, 12]), (14, [6])], [(2, [0, 1, 2, 11, 12], []), (7, [0, 1, 2, 7, 8, 11, 12, 28, 29], [])]⟩
def lb_162_7 : AC :=
  (.seq
    (.region false [⟨some 30, (.bin .lss 3 (.t 29) (.t 28)), 0, none, 0⟩] (some [0, 1, 2, 7, 8, 11, 12, 28, 29, 30]))
    (.seq
      (.cond (.t 30)
        .skip
        (.exit 2))
      (.seq
        (.block 3
          (.seq
            (.region false [⟨some 31, (.mv (.t 29)), 3, none, 0⟩, ⟨some 9, (.mv (.t 31)), 3, none, 0⟩] (some [0, 1, 2, 7, 8, 9, 11, 12, 28, 29]))
            (.region false (gops (seg [0, 1, 2, 7, 9, 11, 12, 28, 29, 33, 39, 40, 41] [⟨some 32, (.mv (.t 8)), 4, none, 0⟩, ⟨some 33, (.mv (.t 32)), 4, none, 0⟩, ⟨some 34, (.mv (.t 0)), 22, some (33, true), 0⟩, ⟨some 35, (.mv (.t 9)), 3, some (33, true), 0⟩, ⟨some 36, (.mv (.t 1)), 3, some (33, true), 0⟩, ⟨some 37, (.call (.f 88) [(.t 34), (.t 35), (.t 36)]), 4, some (33, true), 3⟩, ⟨some 38, (.un .not (.t 37)), 4, some (33, true), 0⟩, ⟨some 39, (.mv (.t 38)), 4, some (33, true), 0⟩, ⟨some 40, (.mv (.t 0)), 22, some (39, false), 0⟩, ⟨some 41, (.mv (.t 9)), 3, some (39, false), 0⟩]
            [⟨some 42, (.mv (.t 2)), 3, some (39, false), 0⟩, ⟨some 43, (.call (.f 88) [(.t 40), (.t 41), (.t 42)]), 4, some (39, false), 3⟩, ⟨some 44, (.un .not (.t 43)), 4, some (39, false), 0⟩, ⟨some 45, (.pick (.t 39) (.c (.bool true)) (.t 44)), 4, some (33, true), 0⟩, ⟨some 46, (.mv (.t 45)), 4, some (33, true), 0⟩, ⟨some 47, (.mv (.t 0)), 22, some (46, false), 0⟩, ⟨some 48, (.mv (.t 9)), 3, some (46, false), 0⟩, ⟨some 49, (.mv (.t 7)), 3, some (46, false), 0⟩, ⟨some 50, (.call (.f 88) [(.t 47), (.t 48), (.t 49)]), 4, some (46, false), 3⟩, ⟨some 51, (.pick (.t 46) (.c (.bool true)) (.t 50)), 4, some (33, true), 0⟩, ⟨some 52, (.pick (.t 33) (.t 51) (.c (.bool false))), 4, none, 0⟩, ⟨some 8, (.mv (.t 52)), 4, none, 0⟩] [0, 1, 2, 7, 8, 11, 12, 28, 29] (by decide))) (some [0, 1, 2, 7, 8, 11, 12, 28, 29]))))
        (.region false [⟨some 53, (.bin .add 3 (.t 29) (.c (.int .i64 1))), 3, none, 0⟩, ⟨some 29, (.mv (.t 53)), 3, none, 0⟩] (some [0, 1, 2, 7, 8, 11, 12, 28, 29])))))
def lb_162_2 : AC :=
  (.seq
    (.region false [⟨some 13, (.bin .lss 3 (.t 12) (.t 11)), 0, none, 0⟩] (some [0, 1, 2, 11, 12, 13]))
    (.seq
      (.cond (.t 13)
        .skip
        (.exit 0))
      (.seq
        (.block 1
          (.seq
            (.region false [⟨some 14, (.mv (.t 12)), 3, none, 0⟩, ⟨some 7, (.mv (.t 14)), 3, none, 0⟩] (some [0, 1, 2, 7, 11, 12]))
            (.seq
              (.seq
                (.region false (gops [⟨some 15, (.mv (.t 0)), 22, none, 0⟩, ⟨some 16, (.mv (.t 7)), 3, none, 0⟩, ⟨some 17, (.mv (.t 1)), 3, none, 0⟩, ⟨some 18, (.call (.f 88) [(.t 15), (.t 16), (.t 17)]), 4, none, 3⟩, ⟨some 19, (.un .not (.t 18)), 4, none, 0⟩, ⟨some 20, (.mv (.t 19)), 4, none, 0⟩, ⟨some 21, (.mv (.t 0)), 22, some (20, false), 0⟩, ⟨some 22, (.mv (.t 7)), 3, some (20, false), 0⟩, ⟨some 23, (.mv (.t 2)), 3, some (20, false), 0⟩, ⟨some 24, (.call (.f 88) [(.t 21), (.t 22), (.t 23)]), 4, some (20, false), 3⟩, ⟨some 25, (.un .not (.t 24)), 4, some (20, false), 0⟩, ⟨some 26, (.pick (.t 20) (.c (.bool true)) (.t 25)), 4, none, 0⟩]) (some [0, 1, 2, 7, 11, 12, 26]))
                (.cond (.t 26)
                  (.exit 1)
                  .skip))
              (.seq
                (.region false [⟨some 8, (.mv (.c (.bool true))), 4, none, 0⟩] (some [0, 1, 2, 7, 8, 11, 12]))
                (.seq
                  (.seq
                    (.region false [⟨some 27, (.mv (.t 0)), 22, none, 0⟩, ⟨some 28, (.len 22 (.t 27)), 3, none, 0⟩, ⟨some 29, (.mv (.c (.int .i64 0))), 3, none, 0⟩] (some [0, 1, 2, 7, 8, 11, 12, 28, 29]))
                    (.block 2
                      (.loop [0, 1, 2, 7, 8, 11, 12, 28, 29] [] lb_162_7)))
                  (.seq
                    (.region false [⟨some 54, (.mv (.t 8)), 4, none, 0⟩] (some [0, 1, 2, 7, 11, 12, 54]))
                    (.cond (.t 54)
                      (.seq
                        (.region false [⟨some 55, (.mv (.t 7)), 3, none, 0⟩, ⟨some 6, (.mv (.t 55)), 3, none, 0⟩] (some [6]))
                        .ret)
                      .skip)))))))
        (.region false [⟨some 56, (.bin .add 3 (.t 12) (.c (.int .i64 1))), 3, none, 0⟩, ⟨some 12, (.mv (.t 56)), 3, none, 0⟩] (some [0, 1, 2, 11, 12])))))
def fa_162 : FnA := ⟨57, [.t 6],
  (.seq
    (.region false [⟨some 6, (.mv (.c (.int .i64 0))), 3, none, 0⟩] (some [0, 1, 2]))
    (.seq
      (.seq
        (.region false [⟨some 10, (.mv (.t 0)), 22, none, 0⟩, ⟨some 11, (.len 22 (.t 10)), 3, none, 0⟩, ⟨some 12, (.mv (.c (.int .i64 0))), 3, none, 0⟩] (some [0, 1, 2, 11, 12]))
        (.block 0
          (.loop [0, 1, 2, 11, 12] [] lb_162_2)))
      (.seq
        (.region false [⟨some 6, (.mv (.c (.int .i64 (-1)))), 3, none, 0⟩] (some [6]))
        .ret)))⟩
theorem fok_162 : FnOk Try.prog 162 fa_162 an_162 := ⟨Try.f162, _, Try.func162, rfl, by kernel_rfl, rfl, rfl, by decide, by kernel_rfl⟩
/-- impl.join -/
def an_77 : Ann := ⟨[], [(0, [0, 1, 2]), (1, [0, 7]), (2, [0, 7, 19, 20]), (3, [0, 7, 19, 20, 21]), (4, [0, 7, 8, 19, 20]), (5, [0, 7, 8, 19, 20, 36]), (6, [6]), (7, [0, 7, 19, 20]), (8, [6])], [(3, [0, 7, 19, 20], [])]⟩
def lb_77_3 : AC :=
  (.seq
    (.region false [⟨some 21, (.bin .lss 3 (.t 20) (.t 19)), 0, none, 0⟩] (some [0, 7, 19, 20, 21]))
    (.seq
      (.cond (.t 21)
        .skip
        (.exit 0))
      (.seq
        (.block 1
          (.seq
            (.region false [⟨some 22, (.mv (.t 20)), 3, none, 0⟩, ⟨some 8, (.mv (.t 22)), 3, none, 0⟩] (some [0, 7, 8, 19, 20]))
            (.seq
              (.region false (gops [⟨some 23, (.mv (.t 7)), 3, none, 0⟩, ⟨some 24, (.mv (.t 8)), 3, none, 0⟩, ⟨some 25, (.bin .shr 3 (.t 23) (.t 24)), 3, none, 0⟩, ⟨some 26, (.bin .rem 3 (.t 25) (.c (.int .i64 2))), 3, none, 0⟩, ⟨some 27, (.bin .eql 3 (.t 26) (.c (.int .i64 1))), 4, none, 0⟩, ⟨some 28, (.mv (.t 27)), 4, none, 0⟩, ⟨some 29, (.mv (.t 7)), 3, some (28, true), 0⟩, ⟨some 30, (.mv (.t 0)), 22, some (28, true), 0⟩, ⟨some 31, (.mv (.t 8)), 3, some (28, true), 0⟩, ⟨some 32, (.iaddr 22 (.t 30) (.t 31)), 0, some (28, true), 0⟩, ⟨some 33, (.load 3 (.t 32)), 3, some (28, true), 0⟩, ⟨some 34, (.bin .andNot 3 (.t 29) (.t 33)), 3, some (28, true), 0⟩, ⟨some 35, (.bin .eql 3 (.t 34) (.c (.int .i64 0))), 4, some (28, true), 0⟩, ⟨some 36, (.pick (.t 28) (.t 35) (.c (.bool false))), 4, none, 0⟩]) (some [0, 7, 8, 19, 20, 36]))
              (.cond (.t 36)
                (.seq
                  (.region false [⟨some 37, (.mv (.t 8)), 3, none, 0⟩, ⟨some 6, (.mv (.t 37)), 3, none, 0⟩] (some [6]))
                  .ret)
                .skip))))
        (.region false [⟨some 38, (.bin .add 3 (.t 20) (.c (.int .i64 1))), 3, none, 0⟩, ⟨some 20, (.mv (.t 38)), 3, none, 0⟩] (some [0, 7, 19, 20])))))
def fa_77 : FnA := ⟨39, [.t 6],
  (.seq
    (.region false [⟨some 6, (.mv (.c (.int .i64 0))), 3, none, 0⟩] (some [0, 1, 2]))
    (.seq
      (.region true [⟨some 9, (.mv (.t 0)), 22, none, 0⟩, ⟨some 10, (.mv (.t 1)), 3, none, 0⟩, ⟨some 11, (.iaddr 22 (.t 9) (.t 10)), 0, none, 0⟩, ⟨some 12, (.load 3 (.t 11)), 3, none, 0⟩, ⟨some 13, (.mv (.t 0)), 22, none, 0⟩, ⟨some 14, (.mv (.t 2)), 3, none, 0⟩, ⟨some 15, (.iaddr 22 (.t 13) (.t 14)), 0, none, 0⟩, ⟨some 16, (.load 3 (.t 15)), 3, none, 0⟩, ⟨some 17, (.bin .and 3 (.t 12) (.t 16)), 3, none, 0⟩, ⟨some 7, (.mv (.t 17)), 3, none, 0⟩] (some [0, 7]))
      (.seq
        (.seq
          (.region false [⟨some 18, (.mv (.t 0)), 22, none, 0⟩, ⟨some 19, (.len 22 (.t 18)), 3, none, 0⟩, ⟨some 20, (.mv (.c (.int .i64 0))), 3, none, 0⟩] (some [0, 7, 19, 20]))
          (.block 0
            (.loop [0, 7, 19, 20] [] lb_77_3)))
        (.seq
          (.region false [⟨some 6, (.mv (.c (.int .i64 (-1)))), 3, none, 0⟩] (some [6]))
          .ret))))⟩
theorem fok_77 : FnOk Try.prog 77 fa_77 an_77 := ⟨Try.f77, _, Try.func77, rfl, by kernel_rfl, rfl, rfl, by decide, by kernel_rfl⟩
/-- impl.ValidLattice -/
def an_133 : Ann := ⟨[(2, 1, 3), (7, 4, 3), (7, 10, 3), (7, 18, 3), (7, 24, 3), (12, 3, 3), (12, 12, 3), (22, 3, 3), (22, 9, 3)], [(0, [0]), (1, [0, 3]), (2, [0, 3, 13]), (3, [2]), (4, [0, 3, 14, 15, 16]), (5, [0, 3, 14, 15, 16, 17]), (6, [0, 3, 4, 5, 14, 15, 16]), (7, [0, 3, 4, 5, 14, 15, 16, 47]), (8, [2]), (9, [0, 3, 4, 5, 14, 15, 16, 49, 50]), (10, [0, 3, 4, 5, 14, 15, 16, 49, 50, 51]), (11, [0, 3, 4, 5, 6, 14, 15, 16, 49, 50]), (12, [0, 3, 4, 5, 14, 15, 16, 49, 50, 76]), (13, [2]), (14, [0, 3, 4, 5, 14, 15, 16, 49, 50]), (15, [0, 3, 14, 15, 16]), (16, [0, 80, 81]), (17, [0, 80, 81, 82]), (18, [0, 7, 80, 81]), (19, [0, 7, 80, 81, 85, 86]), (20, [0, 7, 80, 81, 85, 86, 87]), (21, [0, 7, 8, 80, 81, 85, 86]), (22, [0, 7, 80, 81, 85, 86, 100]), (23, [2]), (24, [0, 7, 80, 81, 85, 86]), (25, [0, 80, 81]), (26, [2])], [(5, [0, 3, 14, 15, 16], []), (10, [0, 3, 4, 5, 14, 15, 16, 49, 50], []), (17, [0, 80, 81], []), (20, [0, 7, 80, 81, 85, 86], [])]⟩
def lb_133_10 : AC :=
  (.seq
    (.region false [⟨some 51, (.bin .lss 3 (.t 50) (.t 49)), 0, none, 0⟩] (some [0, 3, 4, 5, 14, 15, 16, 49, 50, 51]))
    (.seq
      (.cond (.t 51)
        .skip
        (.exit 2))
      (.seq
        (.block 3
          (.seq
            (.region false [⟨some 52, (.mv (.t 50)), 3, none, 0⟩, ⟨some 6, (.mv (.t 52)), 3, none, 0⟩] (some [0, 3, 4, 5, 6, 14, 15, 16, 49, 50]))
            (.seq
              (.region false (gops (seg [0, 3, 4, 5, 6, 14, 15, 16, 49, 50, 57, 61, 62] [⟨some 53, (.mv (.t 0)), 22, none, 0⟩, ⟨some 54, (.mv (.t 4)), 3, none, 0⟩, ⟨some 55, (.mv (.t 6)), 3, none, 0⟩, ⟨some 56, (.call (.f 88) [(.t 53), (.t 54), (.t 55)]), 4, none, 3⟩, ⟨some 57, (.mv (.t 56)), 4, none, 0⟩, ⟨some 58, (.mv (.t 6)), 3, some (57, true), 0⟩, ⟨some 59, (.mv (.t 4)), 3, some (57, true), 0⟩, ⟨some 60, (.bin .neq 3 (.t 58) (.t 59)), 4, some (57, true), 0⟩, ⟨some 61, (.mv (.t 60)), 4, some (57, true), 0⟩, ⟨some 62, (.mv (.t 0)), 22, some (61, true), 0⟩]
              (seg [0, 3, 4, 5, 14, 15, 16, 49, 50, 57, 67, 71, 72] [⟨some 63, (.mv (.t 6)), 3, some (61, true), 0⟩, ⟨some 64, (.mv (.t 4)), 3, some (61, true), 0⟩, ⟨some 65, (.call (.f 88) [(.t 62), (.t 63), (.t 64)]), 4, some (61, true), 3⟩, ⟨some 66, (.pick (.t 61) (.t 65) (.c (.bool false))), 4, some (57, true), 0⟩, ⟨some 67, (.mv (.t 66)), 4, some (57, true), 0⟩, ⟨some 68, (.mv (.t 0)), 22, some (67, false), 0⟩, ⟨some 69, (.mv (.t 6)), 3, some (67, false), 0⟩, ⟨some 70, (.iaddr 22 (.t 68) (.t 69)), 0, some (67, false), 0⟩, ⟨some 71, (.load 3 (.t 70)), 3, some (67, false), 0⟩, ⟨some 72, (.mv (.t 5)), 3, some (67, false), 0⟩]
              [⟨some 73, (.bin .andNot 3 (.t 71) (.t 72)), 3, some (67, false), 0⟩, ⟨some 74, (.bin .neq 3 (.t 73) (.c (.int .i64 0))), 4, some (67, false), 0⟩, ⟨some 75, (.pick (.t 67) (.c (.bool true)) (.t 74)), 4, some (57, true), 0⟩, ⟨some 76, (.pick (.t 57) (.t 75) (.c (.bool false))), 4, none, 0⟩] [0, 3, 4, 5, 14, 15, 16, 49, 50, 76] (by decide)) [0, 3, 4, 5, 14, 15, 16, 49, 50, 76] (by decide))) (some [0, 3, 4, 5, 14, 15, 16, 49, 50, 76]))
              (.cond (.t 76)
                (.seq
                  (.region false [⟨some 2, (.mv (.c (.bool false))), 4, none, 0⟩] (some [2]))
                  .ret)
                .skip))))
        (.region false [⟨some 77, (.bin .add 3 (.t 50) (.c (.int .i64 1))), 3, none, 0⟩, ⟨some 50, (.mv (.t 77)), 3, none, 0⟩] (some [0, 3, 4, 5, 14, 15, 16, 49, 50])))))
def lb_133_5 : AC :=
  (.seq
    (.region false [⟨some 17, (.bin .lss 3 (.t 16) (.t 15)), 0, none, 0⟩] (some [0, 3, 14, 15, 16, 17]))
    (.seq
      (.cond (.t 17)
        .skip
        (.exit 0))
      (.seq
        (.block 1
          (.seq
            (.region false [⟨some 18, (.mv (.t 16)), 3, none, 0⟩, ⟨some 19, (.iaddr 22 (.t 14) (.t 16)), 0, none, 0⟩, ⟨some 20, (.load 3 (.t 19)), 3, none, 0⟩, ⟨some 4, (.mv (.t 18)), 3, none, 0⟩, ⟨some 5, (.mv (.t 20)), 3, none, 0⟩] (some [0, 3, 4, 5, 14, 15, 16]))
            (.seq
              (.seq
                (.region false (gops (seg [0, 3, 4, 5, 14, 15, 16, 27, 28, 29, 30] [⟨some 21, (.mv (.t 5)), 3, none, 0⟩, ⟨some 22, (.mv (.t 3)), 3, none, 0⟩, ⟨some 23, (.bin .shl 3 (.c (.int .i64 1)) (.t 22)), 3, none, 0⟩, ⟨some 24, (.bin .sub 3 (.t 23) (.c (.int .i64 1))), 3, none, 0⟩, ⟨some 25, (.call (.f 80) [(.t 21), (.c (.int .i64 0)), (.t 24)]), 4, none, 3⟩, ⟨some 26, (.un .not (.t 25)), 4, none, 0⟩, ⟨some 27, (.mv (.t 26)), 4, none, 0⟩, ⟨some 28, (.mv (.t 0)), 22, some (27, false), 0⟩, ⟨some 29, (.mv (.t 4)), 3, some (27, false), 0⟩, ⟨some 30, (.mv (.t 4)), 3, some (27, false), 0⟩]
                (seg [0, 3, 4, 5, 14, 15, 16, 34, 40] [⟨some 31, (.call (.f 88) [(.t 28), (.t 29), (.t 30)]), 4, some (27, false), 3⟩, ⟨some 32, (.un .not (.t 31)), 4, some (27, false), 0⟩, ⟨some 33, (.pick (.t 27) (.c (.bool true)) (.t 32)), 4, none, 0⟩, ⟨some 34, (.mv (.t 33)), 4, none, 0⟩, ⟨some 35, (.mv (.t 0)), 22, some (34, false), 0⟩, ⟨some 36, (.mv (.t 4)), 3, some (34, false), 0⟩, ⟨some 37, (.mv (.t 3)), 3, some (34, false), 0⟩, ⟨some 38, (.bin .sub 3 (.t 37) (.c (.int .i64 1))), 3, some (34, false), 0⟩, ⟨some 39, (.call (.f 88) [(.t 35), (.t 36), (.t 38)]), 4, some (34, false), 3⟩, ⟨some 40, (.un .not (.t 39)), 4, some (34, false), 0⟩]
                [⟨some 41, (.pick (.t 34) (.c (.bool true)) (.t 40)), 4, none, 0⟩, ⟨some 42, (.mv (.t 41)), 4, none, 0⟩, ⟨some 43, (.mv (.t 0)), 22, some (42, false), 0⟩, ⟨some 44, (.mv (.t 4)), 3, some (42, false), 0⟩, ⟨some 45, (.call (.f 88) [(.t 43), (.c (.int .i64 0)), (.t 44)]), 4, some (42, false), 3⟩, ⟨some 46, (.un .not (.t 45)), 4, some (42, false), 0⟩, ⟨some 47, (.pick (.t 42) (.c (.bool true)) (.t 46)), 4, none, 0⟩] [0, 3, 4, 5, 14, 15, 16, 47] (by decide)) [0, 3, 4, 5, 14, 15, 16, 47] (by decide))) (some [0, 3, 4, 5, 14, 15, 16, 47]))
                (.cond (.t 47)
                  (.seq
                    (.region false [⟨some 2, (.mv (.c (.bool false))), 4, none, 0⟩] (some [2]))
                    .ret)
                  .skip))
              (.seq
                (.region false [⟨some 48, (.mv (.t 0)), 22, none, 0⟩, ⟨some 49, (.len 22 (.t 48)), 3, none, 0⟩, ⟨some 50, (.mv (.c (.int .i64 0))), 3, none, 0⟩] (some [0, 3, 4, 5, 14, 15, 16, 49, 50]))
                (.block 2
                  (.loop [0, 3, 4, 5, 14, 15, 16, 49, 50] [] lb_133_10))))))
        (.region false [⟨some 78, (.bin .add 3 (.t 16) (.c (.int .i64 1))), 3, none, 0⟩, ⟨some 16, (.mv (.t 78)), 3, none, 0⟩] (some [0, 3, 14, 15, 16])))))
def lb_133_20 : AC :=
  (.seq
    (.region false [⟨some 87, (.bin .lss 3 (.t 86) (.t 85)), 0, none, 0⟩] (some [0, 7, 80, 81, 85, 86, 87]))
    (.seq
      (.cond (.t 87)
        .skip
        (.exit 6))
      (.seq
        (.block 7
          (.seq
            (.region false [⟨some 88, (.mv (.t 86)), 3, none, 0⟩, ⟨some 8, (.mv (.t 88)), 3, none, 0⟩] (some [0, 7, 8, 80, 81, 85, 86]))
            (.seq
              (.region false (gops [⟨some 89, (.mv (.t 0)), 22, none, 0⟩, ⟨some 90, (.mv (.t 7)), 3, none, 0⟩, ⟨some 91, (.mv (.t 8)), 3, none, 0⟩, ⟨some 92, (.call (.f 162) [(.t 89), (.t 90), (.t 91)]), 3, none, 3⟩, ⟨some 93, (.bin .lss 3 (.t 92) (.c (.int .i64 0))), 4, none, 0⟩, ⟨some 94, (.mv (.t 93)), 4, none, 0⟩, ⟨some 95, (.mv (.t 0)), 22, some (94, false), 0⟩, ⟨some 96, (.mv (.t 7)), 3, some (94, false), 0⟩, ⟨some 97, (.mv (.t 8)), 3, some (94, false), 0⟩, ⟨some 98, (.call (.f 77) [(.t 95), (.t 96), (.t 97)]), 3, some (94, false), 3⟩, ⟨some 99, (.bin .lss 3 (.t 98) (.c (.int .i64 0))), 4, some (94, false), 0⟩, ⟨some 100, (.pick (.t 94) (.c (.bool true)) (.t 99)), 4, none, 0⟩]) (some [0, 7, 80, 81, 85, 86, 100]))
              (.cond (.t 100)
                (.seq
                  (.region false [⟨some 2, (.mv (.c (.bool false))), 4, none, 0⟩] (some [2]))
                  .ret)
                .skip))))
        (.region false [⟨some 101, (.bin .add 3 (.t 86) (.c (.int .i64 1))), 3, none, 0⟩, ⟨some 86, (.mv (.t 101)), 3, none, 0⟩] (some [0, 7, 80, 81, 85, 86])))))
def lb_133_17 : AC :=
  (.seq
    (.region false [⟨some 82, (.bin .lss 3 (.t 81) (.t 80)), 0, none, 0⟩] (some [0, 80, 81, 82]))
    (.seq
      (.cond (.t 82)
        .skip
        (.exit 4))
      (.seq
        (.block 5
          (.seq
            (.region false [⟨some 83, (.mv (.t 81)), 3, none, 0⟩, ⟨some 7, (.mv (.t 83)), 3, none, 0⟩] (some [0, 7, 80, 81]))
            (.seq
              (.region false [⟨some 84, (.mv (.t 0)), 22, none, 0⟩, ⟨some 85, (.len 22 (.t 84)), 3, none, 0⟩, ⟨some 86, (.mv (.c (.int .i64 0))), 3, none, 0⟩] (some [0, 7, 80, 81, 85, 86]))
              (.block 6
                (.loop [0, 7, 80, 81, 85, 86] [] lb_133_20)))))
        (.region false [⟨some 102, (.bin .add 3 (.t 81) (.c (.int .i64 1))), 3, none, 0⟩, ⟨some 81, (.mv (.t 102)), 3, none, 0⟩] (some [0, 80, 81])))))
def fa_133 : FnA := ⟨103, [.t 2],
  (.seq
    (.region false [⟨some 2, (.mv (.c (.bool false))), 4, none, 0⟩] (some [0]))
    (.seq
      (.region false [⟨some 9, (.mv (.t 0)), 22, none, 0⟩, ⟨some 10, (.len 22 (.t 9)), 3, none, 0⟩, ⟨some 3, (.mv (.t 10)), 3, none, 0⟩] (some [0, 3]))
      (.seq
        (.seq
          (.region false [⟨some 11, (.mv (.t 3)), 3, none, 0⟩, ⟨some 12, (.call (.f 80) [(.t 11), (.c (.int .i64 1)), (.c (.int .i64 6))]), 4, none, 3⟩, ⟨some 13, (.un .not (.t 12)), 4, none, 0⟩] (some [0, 3, 13]))
          (.cond (.t 13)
            (.seq
              (.region false [⟨some 2, (.mv (.c (.bool false))), 4, none, 0⟩] (some [2]))
              .ret)
            .skip))
        (.seq
          (.seq
            (.region false [⟨some 14, (.mv (.t 0)), 22, none, 0⟩, ⟨some 15, (.len 22 (.t 14)), 3, none, 0⟩, ⟨some 16, (.mv (.c (.int .i64 0))), 3, none, 0⟩] (some [0, 3, 14, 15, 16]))
            (.block 0
              (.loop [0, 3, 14, 15, 16] [] lb_133_5)))
          (.seq
            (.seq
              (.region false [⟨some 79, (.mv (.t 0)), 22, none, 0⟩, ⟨some 80, (.len 22 (.t 79)), 3, none, 0⟩, ⟨some 81, (.mv (.c (.int .i64 0))), 3, none, 0⟩] (some [0, 80, 81]))
              (.block 4
                (.loop [0, 80, 81] [] lb_133_17)))
            (.seq
              (.region false [⟨some 2, (.mv (.c (.bool true))), 4, none, 0⟩] (some [2]))
              .ret))))))⟩
theorem fok_133 : FnOk Try.prog 133 fa_133 an_133 := ⟨Try.f133, _, Try.func133, rfl, by kernel_rfl, rfl, rfl, by decide, by kernel_rfl⟩
/-- impl.ValidAlgebra$1 -/
def an_134 : Ann := ⟨[(1, 3, 3)], [(0, [0, 1]), (1, [3])], []⟩
def fa_134 : FnA := ⟨9, [.t 3],
  (.seq
    (.region false [⟨some 3, (.mv (.c (.bool false))), 4, none, 0⟩] (some [0, 1]))
    (.seq
      (.region false [⟨some 4, (.mv (.t 0)), 3, none, 0⟩, ⟨some 5, (.load 3 (.t 1)), 3, none, 0⟩, ⟨some 6, (.bin .sub 3 (.t 5) (.c (.int .i64 1))), 3, none, 0⟩, ⟨some 7, (.call (.f 80) [(.t 4), (.c (.int .i64 0)), (.t 6)]), 4, none, 3⟩, ⟨some 8, (.un .not (.t 7)), 4, none, 0⟩, ⟨some 3, (.mv (.t 8)), 4, none, 0⟩] (some [3]))
      .ret))⟩
theorem fok_134 : FnOk Try.prog 134 fa_134 an_134 := ⟨Try.f134, _, Try.func134, rfl, by kernel_rfl, rfl, rfl, by decide, by kernel_rfl⟩
/-- slices.IndexFunc(()int,int) -/
def an_135 : Ann := ⟨[(4, 5, 3)], [(0, [0, 1]), (1, [0, 1, 7, 8]), (2, [0, 1, 7, 8, 9]), (3, [0, 1, 5, 7, 8]), (4, [0, 1, 5, 7, 8, 16]), (5, [4]), (6, [0, 1, 7, 8]), (7, [4])], [(2, [0, 1, 7, 8], [])]⟩
def lb_135_2 : AC :=
  (.seq
    (.region false [⟨some 9, (.bin .lss 3 (.t 8) (.t 7)), 0, none, 0⟩] (some [0, 1, 7, 8, 9]))
    (.seq
      (.cond (.t 9)
        .skip
        (.exit 0))
      (.seq
        (.block 1
          (.seq
            (.region false [⟨some 10, (.mv (.t 8)), 3, none, 0⟩, ⟨some 5, (.mv (.t 10)), 3, none, 0⟩] (some [0, 1, 5, 7, 8]))
            (.seq
              (.region false [⟨some 11, (.mv (.t 1)), 42, none, 0⟩, ⟨some 12, (.mv (.t 0)), 22, none, 0⟩, ⟨some 13, (.mv (.t 5)), 3, none, 0⟩, ⟨some 14, (.iaddr 22 (.t 12) (.t 13)), 0, none, 0⟩, ⟨some 15, (.load 3 (.t 14)), 3, none, 0⟩, ⟨some 16, (.call (.t 11) [(.t 15)]), 4, none, 3⟩] (some [0, 1, 5, 7, 8, 16]))
              (.cond (.t 16)
                (.seq
                  (.region false [⟨some 17, (.mv (.t 5)), 3, none, 0⟩, ⟨some 4, (.mv (.t 17)), 3, none, 0⟩] (some [4]))
                  .ret)
                .skip))))
        (.region false [⟨some 18, (.bin .add 3 (.t 8) (.c (.int .i64 1))), 3, none, 0⟩, ⟨some 8, (.mv (.t 18)), 3, none, 0⟩] (some [0, 1, 7, 8])))))
def fa_135 : FnA := ⟨19, [.t 4],
  (.seq
    (.region false [⟨some 4, (.mv (.c (.int .i64 0))), 3, none, 0⟩] (some [0, 1]))
    (.seq
      (.seq
        (.region false [⟨some 6, (.mv (.t 0)), 22, none, 0⟩, ⟨some 7, (.len 22 (.t 6)), 3, none, 0⟩, ⟨some 8, (.mv (.c (.int .i64 0))), 3, none, 0⟩] (some [0, 1, 7, 8]))
        (.block 0
          (.loop [0, 1, 7, 8] [] lb_135_2)))
      (.seq
        (.region false [⟨some 4, (.mv (.c (.int .i64 (-1)))), 3, none, 0⟩] (some [4]))
        .ret)))⟩
theorem fok_135 : FnOk Try.prog 135 fa_135 an_135 := ⟨Try.f135, _, Try.func135, rfl, by kernel_rfl, rfl, rfl, by decide, by kernel_rfl⟩
/-- slices.ContainsFunc(()int,int) -/
def an_129 : Ann := ⟨[(1, 2, 3)], [(0, [0, 1]), (1, [4])], []⟩
def fa_129 : FnA := ⟨9, [.t 4],
  (.seq
    (.region false [⟨some 4, (.mv (.c (.bool false))), 4, none, 0⟩] (some [0, 1]))
    (.seq
      (.region false [⟨some 5, (.mv (.t 0)), 22, none, 0⟩, ⟨some 6, (.mv (.t 1)), 42, none, 0⟩, ⟨some 7, (.call (.f 135) [(.t 5), (.t 6)]), 3, none, 3⟩, ⟨some 8, (.bin .geq 3 (.t 7) (.c (.int .i64 0))), 4, none, 0⟩, ⟨some 4, (.mv (.t 8)), 4, none, 0⟩] (some [4]))
      .ret))⟩
theorem fok_129 : FnOk Try.prog 129 fa_129 an_129 := ⟨Try.f129, _, Try.func129, rfl, by kernel_rfl, rfl, rfl, by decide, by kernel_rfl⟩
/-- impl.ValidAlgebra -/
def an_72 : Ann := ⟨[(2, 2, 3), (7, 7, 3), (23, 41, 3), (23, 62, 3)], [(0, [1]), (1, [1, 3]), (2, [1, 3, 22]), (3, [2]), (4, [1, 3, 24, 25, 26]), (5, [1, 3, 24, 25, 26, 27]), (6, [1, 3, 5, 24, 25, 26]), (7, [1, 3, 24, 25, 26, 38]), (8, [2]), (9, [1, 3, 24, 25, 26]), (10, [1, 3, 42, 43]), (11, [1, 3, 42, 43, 44]), (12, [1, 3, 6, 42, 43]), (13, [1, 3, 6, 42, 43, 66]), (14, [2]), (15, [1, 3, 6, 42, 43, 69, 70]), (16, [1, 3, 6, 42, 43, 69, 70, 71]), (17, [1, 3, 6, 7, 42, 43, 69, 70]), (18, [1, 3, 6, 7, 42, 43, 69, 70, 89]), (19, [2]), (20, [1, 3, 6, 7, 42, 43, 69, 70, 92, 93]), (21, [1, 3, 6, 7, 42, 43, 69, 70, 92, 93, 94]), (22, [1, 3, 6, 7, 8, 42, 43, 69, 70, 92, 93]), (23, [1, 3, 6, 7, 42, 43, 69, 70, 92, 93, 160]), (24, [2]), (25, [1, 3, 6, 7, 42, 43, 69, 70, 92, 93]), (26, [1, 3, 6, 42, 43, 69, 70]), (27, [1, 3, 42, 43]), (28, [2])], [(5, [1, 3, 24, 25, 26], [24]), (11, [1, 3, 42, 43], [24]), (16, [1, 3, 6, 42, 43, 69, 70], [24]), (21, [1, 3, 6, 7, 42, 43, 69, 70, 92, 93], [24])]⟩
def lb_72_5 : AC :=
  (.seq
    (.region false [⟨some 27, (.bin .lss 3 (.t 26) (.t 25)), 0, none, 0⟩] (some [1, 3, 24, 25, 26, 27]))
    (.seq
      (.cond (.t 27)
        .skip
        (.exit 0))
      (.seq
        (.block 1
          (.seq
            (.region false [⟨some 28, (.iaddr 23 (.t 24) (.t 26)), 0, none, 0⟩, ⟨some 29, (.load 22 (.t 28)), 22, none, 0⟩, ⟨some 5, (.mv (.t 29)), 22, none, 0⟩] (some [1, 3, 5, 24, 25, 26]))
            (.seq
              (.region false (gops [⟨some 30, (.mv (.t 5)), 22, none, 0⟩, ⟨some 31, (.len 22 (.t 30)), 3, none, 0⟩, ⟨some 32, (.load 3 (.t 3)), 3, none, 0⟩, ⟨some 33, (.bin .neq 3 (.t 31) (.t 32)), 4, none, 0⟩, ⟨some 34, (.mv (.t 33)), 4, none, 0⟩, ⟨some 35, (.mv (.t 5)), 22, some (34, false), 0⟩, ⟨some 36, (.mkfn 134 [(.t 3)]), 42, some (34, false), 0⟩, ⟨some 37, (.call (.f 129) [(.t 35), (.t 36)]), 4, some (34, false), 3⟩, ⟨some 38, (.pick (.t 34) (.c (.bool true)) (.t 37)), 4, none, 0⟩]) (some [1, 3, 24, 25, 26, 38]))
              (.cond (.t 38)
                (.seq
                  (.region false [⟨some 2, (.mv (.c (.bool false))), 4, none, 0⟩] (some [2]))
                  .ret)
                .skip))))
        (.region false [⟨some 39, (.bin .add 3 (.t 26) (.c (.int .i64 1))), 3, none, 0⟩, ⟨some 26, (.mv (.t 39)), 3, none, 0⟩] (some [1, 3, 24, 25, 26])))))
def lb_72_21 : AC :=
  (.seq
    (.region false [⟨some 94, (.bin .lss 3 (.t 93) (.t 92)), 0, none, 0⟩] (some [1, 3, 6, 7, 42, 43, 69, 70, 92, 93, 94]))
    (.seq
      (.cond (.t 94)
        .skip
        (.exit 6))
      (.seq
        (.block 7
          (.seq
            (.region false [⟨some 95, (.mv (.t 93)), 3, none, 0⟩, ⟨some 8, (.mv (.t 95)), 3, none, 0⟩] (some [1, 3, 6, 7, 8, 42, 43, 69, 70, 92, 93]))
            (.seq
              (.region true (gops (seg [1, 3, 6, 7, 8, 42, 43, 69, 70, 92, 93, 97, 105] [⟨some 96, (.faddr 28 (.t 1) 1), 0, none, 0⟩, ⟨some 97, (.load 23 (.t 96)), 23, none, 0⟩, ⟨some 98, (.faddr 28 (.t 1) 1), 0, none, 0⟩, ⟨some 99, (.load 23 (.t 98)), 23, none, 0⟩, ⟨some 100, (.mv (.t 6)), 3, none, 0⟩, ⟨some 101, (.iaddr 23 (.t 99) (.t 100)), 0, none, 0⟩, ⟨some 102, (.load 22 (.t 101)), 22, none, 0⟩, ⟨some 103, (.mv (.t 7)), 3, none, 0⟩, ⟨some 104, (.iaddr 22 (.t 102) (.t 103)), 0, none, 0⟩, ⟨some 105, (.load 3 (.t 104)), 3, none, 0⟩]
              (seg [1, 3, 6, 7, 8, 42, 43, 69, 70, 92, 93, 110, 115] [⟨some 106, (.iaddr 23 (.t 97) (.t 105)), 0, none, 0⟩, ⟨some 107, (.load 22 (.t 106)), 22, none, 0⟩, ⟨some 108, (.mv (.t 8)), 3, none, 0⟩, ⟨some 109, (.iaddr 22 (.t 107) (.t 108)), 0, none, 0⟩, ⟨some 110, (.load 3 (.t 109)), 3, none, 0⟩, ⟨some 111, (.faddr 28 (.t 1) 1), 0, none, 0⟩, ⟨some 112, (.load 23 (.t 111)), 23, none, 0⟩, ⟨some 113, (.mv (.t 6)), 3, none, 0⟩, ⟨some 114, (.iaddr 23 (.t 112) (.t 113)), 0, none, 0⟩, ⟨some 115, (.load 22 (.t 114)), 22, none, 0⟩]
              (seg [1, 3, 6, 7, 8, 42, 43, 69, 70, 92, 93, 110, 125] [⟨some 116, (.faddr 28 (.t 1) 1), 0, none, 0⟩, ⟨some 117, (.load 23 (.t 116)), 23, none, 0⟩, ⟨some 118, (.mv (.t 7)), 3, none, 0⟩, ⟨some 119, (.iaddr 23 (.t 117) (.t 118)), 0, none, 0⟩, ⟨some 120, (.load 22 (.t 119)), 22, none, 0⟩, ⟨some 121, (.mv (.t 8)), 3, none, 0⟩, ⟨some 122, (.iaddr 22 (.t 120) (.t 121)), 0, none, 0⟩, ⟨some 123, (.load 3 (.t 122)), 3, none, 0⟩, ⟨some 124, (.iaddr 22 (.t 115) (.t 123)), 0, none, 0⟩, ⟨some 125, (.load 3 (.t 124)), 3, none, 0⟩]
              (seg [1, 3, 6, 7, 8, 42, 43, 69, 70, 92, 93, 127, 132, 134, 135] [⟨some 126, (.bin .neq 3 (.t 110) (.t 125)), 4, none, 0⟩, ⟨some 127, (.mv (.t 126)), 4, none, 0⟩, ⟨some 128, (.faddr 28 (.t 1) 1), 0, some (127, false), 0⟩, ⟨some 129, (.load 23 (.t 128)), 23, some (127, false), 0⟩, ⟨some 130, (.mv (.t 6)), 3, some (127, false), 0⟩, ⟨some 131, (.iaddr 23 (.t 129) (.t 130)), 0, some (127, false), 0⟩, ⟨some 132, (.load 22 (.t 131)), 22, some (127, false), 0⟩, ⟨some 133, (.faddr 28 (.t 1) 0), 0, some (127, false), 0⟩, ⟨some 134, (.load 22 (.t 133)), 22, some (127, false), 0⟩, ⟨some 135, (.mv (.t 7)), 3, some (127, false), 0⟩]
              (seg [1, 3, 6, 7, 8, 42, 43, 69, 70, 92, 93, 127, 139, 141, 145] [⟨some 136, (.mv (.t 8)), 3, some (127, false), 0⟩, ⟨some 137, (.call (.f 77) [(.t 134), (.t 135), (.t 136)]), 3, some (127, false), 3⟩, ⟨some 138, (.iaddr 22 (.t 132) (.t 137)), 0, some (127, false), 0⟩, ⟨some 139, (.load 3 (.t 138)), 3, some (127, false), 0⟩, ⟨some 140, (.faddr 28 (.t 1) 0), 0, some (127, false), 0⟩, ⟨some 141, (.load 22 (.t 140)), 22, some (127, false), 0⟩, ⟨some 142, (.faddr 28 (.t 1) 1), 0, some (127, false), 0⟩, ⟨some 143, (.load 23 (.t 142)), 23, some (127, false), 0⟩, ⟨some 144, (.mv (.t 6)), 3, some (127, false), 0⟩, ⟨some 145, (.iaddr 23 (.t 143) (.t 144)), 0, some (127, false), 0⟩]
              (seg [1, 3, 6, 7, 42, 43, 69, 70, 92, 93, 127, 139, 141, 149, 154, 155] [⟨some 146, (.load 22 (.t 145)), 22, some (127, false), 0⟩, ⟨some 147, (.mv (.t 7)), 3, some (127, false), 0⟩, ⟨some 148, (.iaddr 22 (.t 146) (.t 147)), 0, some (127, false), 0⟩, ⟨some 149, (.load 3 (.t 148)), 3, some (127, false), 0⟩, ⟨some 150, (.faddr 28 (.t 1) 1), 0, some (127, false), 0⟩, ⟨some 151, (.load 23 (.t 150)), 23, some (127, false), 0⟩, ⟨some 152, (.mv (.t 6)), 3, some (127, false), 0⟩, ⟨some 153, (.iaddr 23 (.t 151) (.t 152)), 0, some (127, false), 0⟩, ⟨some 154, (.load 22 (.t 153)), 22, some (127, false), 0⟩, ⟨some 155, (.mv (.t 8)), 3, some (127, false), 0⟩]
              [⟨some 156, (.iaddr 22 (.t 154) (.t 155)), 0, some (127, false), 0⟩, ⟨some 157, (.load 3 (.t 156)), 3, some (127, false), 0⟩, ⟨some 158, (.call (.f 77) [(.t 141), (.t 149), (.t 157)]), 3, some (127, false), 3⟩, ⟨some 159, (.bin .neq 3 (.t 139) (.t 158)), 4, some (127, false), 0⟩, ⟨some 160, (.pick (.t 127) (.c (.bool true)) (.t 159)), 4, none, 0⟩] [1, 3, 6, 7, 42, 43, 69, 70, 92, 93, 160] (by decide)) [1, 3, 6, 7, 42, 43, 69, 70, 92, 93, 160] (by decide)) [1, 3, 6, 7, 42, 43, 69, 70, 92, 93, 160] (by decide)) [1, 3, 6, 7, 42, 43, 69, 70, 92, 93, 160] (by decide)) [1, 3, 6, 7, 42, 43, 69, 70, 92, 93, 160] (by decide)) [1, 3, 6, 7, 42, 43, 69, 70, 92, 93, 160] (by decide))) (some [1, 3, 6, 7, 42, 43, 69, 70, 92, 93, 160]))
              (.cond (.t 160)
                (.seq
                  (.region false [⟨some 2, (.mv (.c (.bool false))), 4, none, 0⟩] (some [2]))
                  .ret)
                .skip))))
        (.region false [⟨some 161, (.bin .add 3 (.t 93) (.c (.int .i64 1))), 3, none, 0⟩, ⟨some 93, (.mv (.t 161)), 3, none, 0⟩] (some [1, 3, 6, 7, 42, 43, 69, 70, 92, 93])))))
def lb_72_16 : AC :=
  (.seq
    (.region false [⟨some 71, (.bin .lss 3 (.t 70) (.t 69)), 0, none, 0⟩] (some [1, 3, 6, 42, 43, 69, 70, 71]))
    (.seq
      (.cond (.t 71)
        .skip
        (.exit 4))
      (.seq
        (.block 5
          (.seq
            (.region false [⟨some 72, (.mv (.t 70)), 3, none, 0⟩, ⟨some 7, (.mv (.t 72)), 3, none, 0⟩] (some [1, 3, 6, 7, 42, 43, 69, 70]))
            (.seq
              (.seq
                (.region true [⟨some 73, (.faddr 28 (.t 1) 1), 0, none, 0⟩, ⟨some 74, (.load 23 (.t 73)), 23, none, 0⟩, ⟨some 75, (.mv (.t 6)), 3, none, 0⟩, ⟨some 76, (.iaddr 23 (.t 74) (.t 75)), 0, none, 0⟩, ⟨some 77, (.load 22 (.t 76)), 22, none, 0⟩, ⟨some 78, (.mv (.t 7)), 3, none, 0⟩, ⟨some 79, (.iaddr 22 (.t 77) (.t 78)), 0, none, 0⟩, ⟨some 80, (.load 3 (.t 79)), 3, none, 0⟩, ⟨some 81, (.faddr 28 (.t 1) 1), 0, none, 0⟩, ⟨some 82, (.load 23 (.t 81)), 23, none, 0⟩, ⟨some 83, (.mv (.t 7)), 3, none, 0⟩, ⟨some 84, (.iaddr 23 (.t 82) (.t 83)), 0, none, 0⟩, ⟨some 85, (.load 22 (.t 84)), 22, none, 0⟩, ⟨some 86, (.mv (.t 6)), 3, none, 0⟩, ⟨some 87, (.iaddr 22 (.t 85) (.t 86)), 0, none, 0⟩, ⟨some 88, (.load 3 (.t 87)), 3, none, 0⟩, ⟨some 89, (.bin .neq 3 (.t 80) (.t 88)), 4, none, 0⟩] (some [1, 3, 6, 7, 42, 43, 69, 70, 89]))
                (.cond (.t 89)
                  (.seq
                    (.region false [⟨some 2, (.mv (.c (.bool false))), 4, none, 0⟩] (some [2]))
                    .ret)
                  .skip))
              (.seq
                (.region false [⟨some 90, (.faddr 28 (.t 1) 0), 0, none, 0⟩, ⟨some 91, (.load 22 (.t 90)), 22, none, 0⟩, ⟨some 92, (.len 22 (.t 91)), 3, none, 0⟩, ⟨some 93, (.mv (.c (.int .i64 0))), 3, none, 0⟩] (some [1, 3, 6, 7, 42, 43, 69, 70, 92, 93]))
                (.block 6
                  (.loop [1, 3, 6, 7, 42, 43, 69, 70, 92, 93] [24] lb_72_21))))))
        (.region false [⟨some 162, (.bin .add 3 (.t 70) (.c (.int .i64 1))), 3, none, 0⟩, ⟨some 70, (.mv (.t 162)), 3, none, 0⟩] (some [1, 3, 6, 42, 43, 69, 70])))))
def lb_72_11 : AC :=
  (.seq
    (.region false [⟨some 44, (.bin .lss 3 (.t 43) (.t 42)), 0, none, 0⟩] (some [1, 3, 42, 43, 44]))
    (.seq
      (.cond (.t 44)
        .skip
        (.exit 2))
      (.seq
        (.block 3
          (.seq
            (.region false [⟨some 45, (.mv (.t 43)), 3, none, 0⟩, ⟨some 6, (.mv (.t 45)), 3, none, 0⟩] (some [1, 3, 6, 42, 43]))
            (.seq
              (.seq
                (.region true (gops (seg [1, 3, 6, 42, 43, 54, 55] [⟨some 46, (.faddr 28 (.t 1) 1), 0, none, 0⟩, ⟨some 47, (.load 23 (.t 46)), 23, none, 0⟩, ⟨some 48, (.mv (.t 6)), 3, none, 0⟩, ⟨some 49, (.iaddr 23 (.t 47) (.t 48)), 0, none, 0⟩, ⟨some 50, (.load 22 (.t 49)), 22, none, 0⟩, ⟨some 51, (.load 3 (.t 3)), 3, none, 0⟩, ⟨some 52, (.bin .sub 3 (.t 51) (.c (.int .i64 1))), 3, none, 0⟩, ⟨some 53, (.iaddr 22 (.t 50) (.t 52)), 0, none, 0⟩, ⟨some 54, (.load 3 (.t 53)), 3, none, 0⟩, ⟨some 55, (.mv (.t 6)), 3, none, 0⟩]
                [⟨some 56, (.bin .neq 3 (.t 54) (.t 55)), 4, none, 0⟩, ⟨some 57, (.mv (.t 56)), 4, none, 0⟩, ⟨some 58, (.faddr 28 (.t 1) 1), 0, some (57, false), 0⟩, ⟨some 59, (.load 23 (.t 58)), 23, some (57, false), 0⟩, ⟨some 60, (.mv (.t 6)), 3, some (57, false), 0⟩, ⟨some 61, (.iaddr 23 (.t 59) (.t 60)), 0, some (57, false), 0⟩, ⟨some 62, (.load 22 (.t 61)), 22, some (57, false), 0⟩, ⟨some 63, (.iaddr 22 (.t 62) (.c (.int .i64 0))), 0, some (57, false), 0⟩, ⟨some 64, (.load 3 (.t 63)), 3, some (57, false), 0⟩, ⟨some 65, (.bin .neq 3 (.t 64) (.c (.int .i64 0))), 4, some (57, false), 0⟩, ⟨some 66, (.pick (.t 57) (.c (.bool true)) (.t 65)), 4, none, 0⟩] [1, 3, 6, 42, 43, 66] (by decide))) (some [1, 3, 6, 42, 43, 66]))
                (.cond (.t 66)
                  (.seq
                    (.region false [⟨some 2, (.mv (.c (.bool false))), 4, none, 0⟩] (some [2]))
                    .ret)
                  .skip))
              (.seq
                (.region false [⟨some 67, (.faddr 28 (.t 1) 0), 0, none, 0⟩, ⟨some 68, (.load 22 (.t 67)), 22, none, 0⟩, ⟨some 69, (.len 22 (.t 68)), 3, none, 0⟩, ⟨some 70, (.mv (.c (.int .i64 0))), 3, none, 0⟩] (some [1, 3, 6, 42, 43, 69, 70]))
                (.block 4
                  (.loop [1, 3, 6, 42, 43, 69, 70] [24] lb_72_16))))))
        (.region false [⟨some 163, (.bin .add 3 (.t 43) (.c (.int .i64 1))), 3, none, 0⟩, ⟨some 43, (.mv (.t 163)), 3, none, 0⟩] (some [1, 3, 42, 43])))))
def fa_72 : FnA := ⟨164, [.t 2],
  (.seq
    (.region false [⟨some 1, (.box 28 (.t 0)), 0, none, 0⟩, ⟨some 2, (.mv (.c (.bool false))), 4, none, 0⟩] (some [1]))
    (.seq
      (.region false [⟨some 9, (.faddr 28 (.t 1) 0), 0, none, 0⟩, ⟨some 10, (.load 22 (.t 9)), 22, none, 0⟩, ⟨some 11, (.len 22 (.t 10)), 3, none, 0⟩, ⟨some 3, (.alloc 3), 0, none, 0⟩, ⟨none, (.store 3 (.t 3) (.t 11)), 0, none, 0⟩] (some [1, 3]))
      (.seq
        (.seq
          (.region false (gops [⟨some 12, (.faddr 28 (.t 1) 0), 0, none, 0⟩, ⟨some 13, (.load 22 (.t 12)), 22, none, 0⟩, ⟨some 14, (.call (.f 133) [(.t 13)]), 4, none, 3⟩, ⟨some 15, (.un .not (.t 14)), 4, none, 0⟩, ⟨some 16, (.mv (.t 15)), 4, none, 0⟩, ⟨some 17, (.faddr 28 (.t 1) 1), 0, some (16, false), 0⟩, ⟨some 18, (.load 23 (.t 17)), 23, some (16, false), 0⟩, ⟨some 19, (.len 23 (.t 18)), 3, some (16, false), 0⟩, ⟨some 20, (.load 3 (.t 3)), 3, some (16, false), 0⟩, ⟨some 21, (.bin .neq 3 (.t 19) (.t 20)), 4, some (16, false), 0⟩, ⟨some 22, (.pick (.t 16) (.c (.bool true)) (.t 21)), 4, none, 0⟩]) (some [1, 3, 22]))
          (.cond (.t 22)
            (.seq
              (.region false [⟨some 2, (.mv (.c (.bool false))), 4, none, 0⟩] (some [2]))
              .ret)
            .skip))
        (.seq
          (.seq
            (.region false [⟨some 23, (.faddr 28 (.t 1) 1), 0, none, 0⟩, ⟨some 24, (.load 23 (.t 23)), 23, none, 0⟩, ⟨some 25, (.len 23 (.t 24)), 3, none, 0⟩, ⟨some 26, (.mv (.c (.int .i64 0))), 3, none, 0⟩] (some [1, 3, 24, 25, 26]))
            (.block 0
              (.loop [1, 3, 24, 25, 26] [24] lb_72_5)))
          (.seq
            (.seq
              (.region false [⟨some 40, (.faddr 28 (.t 1) 0), 0, none, 0⟩, ⟨some 41, (.load 22 (.t 40)), 22, none, 0⟩, ⟨some 42, (.len 22 (.t 41)), 3, none, 0⟩, ⟨some 43, (.mv (.c (.int .i64 0))), 3, none, 0⟩] (some [1, 3, 42, 43]))
              (.block 2
                (.loop [1, 3, 42, 43] [24] lb_72_11)))
            (.seq
              (.region false [⟨some 2, (.mv (.c (.bool true))), 4, none, 0⟩] (some [2]))
              .ret))))))⟩
theorem fok_72 : FnOk Try.prog 72 fa_72 an_72 := ⟨Try.f72, _, Try.func72, rfl, by kernel_rfl, rfl, rfl, by decide, by kernel_rfl⟩
/-- impl.at$1 -/
def an_130 : Ann := ⟨[(1, 5, 3)], [(0, [0, 1]), (1, [3])], []⟩
def fa_130 : FnA := ⟨11, [.t 3],
  (.seq
    (.region false [⟨some 3, (.mv (.c (.bool false))), 4, none, 0⟩] (some [0, 1]))
    (.seq
      (.region false [⟨some 4, (.mv (.t 0)), 3, none, 0⟩, ⟨some 5, (.faddr 28 (.t 1) 0), 0, none, 0⟩, ⟨some 6, (.load 22 (.t 5)), 22, none, 0⟩, ⟨some 7, (.len 22 (.t 6)), 3, none, 0⟩, ⟨some 8, (.bin .sub 3 (.t 7) (.c (.int .i64 1))), 3, none, 0⟩, ⟨some 9, (.call (.f 80) [(.t 4), (.c (.int .i64 0)), (.t 8)]), 4, none, 3⟩, ⟨some 10, (.un .not (.t 9)), 4, none, 0⟩, ⟨some 3, (.mv (.t 10)), 4, none, 0⟩] (some [3]))
      .ret))⟩
theorem fok_130 : FnOk Try.prog 130 fa_130 an_130 := ⟨Try.f130, _, Try.func130, rfl, by kernel_rfl, rfl, rfl, by decide, by kernel_rfl⟩
/-- impl.at -/
def an_68 : Ann := ⟨[(1, 1, 3), (1, 5, 3)], [(0, [1, 2]), (1, [4])], []⟩
def fa_68 : FnA := ⟨13, [.t 4],
  (.seq
    (.region false [⟨some 2, (.box 28 (.t 0)), 0, none, 0⟩, ⟨some 4, (.mv (.c (.bool false))), 4, none, 0⟩] (some [1, 2]))
    (.seq
      (.region false (gops [⟨some 5, (.load 28 (.t 2)), 28, none, 0⟩, ⟨some 6, (.call (.f 72) [(.t 5)]), 4, none, 3⟩, ⟨some 7, (.mv (.t 6)), 4, none, 0⟩, ⟨some 8, (.mv (.t 1)), 22, some (7, true), 0⟩, ⟨some 9, (.mkfn 130 [(.t 2)]), 42, some (7, true), 0⟩, ⟨some 10, (.call (.f 129) [(.t 8), (.t 9)]), 4, some (7, true), 3⟩, ⟨some 11, (.un .not (.t 10)), 4, some (7, true), 0⟩, ⟨some 12, (.pick (.t 7) (.t 11) (.c (.bool false))), 4, none, 0⟩, ⟨some 4, (.mv (.t 12)), 4, none, 0⟩]) (some [4]))
      .ret))⟩
theorem fok_68 : FnOk Try.prog 68 fa_68 an_68 := ⟨Try.f68, _, Try.func68, rfl, by kernel_rfl, rfl, rfl, by decide, by kernel_rfl⟩
/-- impl.imply -/
def an_111 : Ann := ⟨[(5, 11, 3), (6, 4, 3)], [(0, [1, 2, 3]), (1, [1, 2, 3, 7]), (2, [1, 2, 3, 7, 11, 12]), (3, [1, 2, 3, 7, 11, 12, 13]), (4, [1, 2, 3, 7, 8, 11, 12]), (5, [1, 2, 3, 7, 8, 11, 12, 26]), (6, [1, 2, 3, 7, 11, 12]), (7, [1, 2, 3, 7, 11, 12]), (8, [6])], [(3, [1, 2, 3, 7, 11, 12], [])]⟩
def lb_111_3 : AC :=
  (.seq
    (.region false [⟨some 13, (.bin .lss 3 (.t 12) (.t 11)), 0, none, 0⟩] (some [1, 2, 3, 7, 11, 12, 13]))
    (.seq
      (.cond (.t 13)
        .skip
        (.exit 0))
      (.seq
        (.block 1
          (.seq
            (.region false [⟨some 14, (.mv (.t 12)), 3, none, 0⟩, ⟨some 8, (.mv (.t 14)), 3, none, 0⟩] (some [1, 2, 3, 7, 8, 11, 12]))
            (.seq
              (.region true [⟨some 15, (.faddr 28 (.t 3) 0), 0, none, 0⟩, ⟨some 16, (.load 22 (.t 15)), 22, none, 0⟩, ⟨some 17, (.faddr 28 (.t 3) 1), 0, none, 0⟩, ⟨some 18, (.load 23 (.t 17)), 23, none, 0⟩, ⟨some 19, (.mv (.t 1)), 3, none, 0⟩, ⟨some 20, (.iaddr 23 (.t 18) (.t 19)), 0, none, 0⟩, ⟨some 21, (.load 22 (.t 20)), 22, none, 0⟩, ⟨some 22, (.mv (.t 8)), 3, none, 0⟩, ⟨some 23, (.iaddr 22 (.t 21) (.t 22)), 0, none, 0⟩, ⟨some 24, (.load 3 (.t 23)), 3, none, 0⟩, ⟨some 25, (.mv (.t 2)), 3, none, 0⟩, ⟨some 26, (.call (.f 88) [(.t 16), (.t 24), (.t 25)]), 4, none, 3⟩] (some [1, 2, 3, 7, 8, 11, 12, 26]))
              (.cond (.t 26)
                (.region false [⟨some 27, (.faddr 28 (.t 3) 0), 0, none, 0⟩, ⟨some 28, (.load 22 (.t 27)), 22, none, 0⟩, ⟨some 29, (.mv (.t 7)), 3, none, 0⟩, ⟨some 30, (.mv (.t 8)), 3, none, 0⟩, ⟨some 31, (.call (.f 77) [(.t 28), (.t 29), (.t 30)]), 3, none, 3⟩, ⟨some 7, (.mv (.t 31)), 3, none, 0⟩] (some [1, 2, 3, 7, 11, 12]))
                .skip))))
        (.region false [⟨some 32, (.bin .add 3 (.t 12) (.c (.int .i64 1))), 3, none, 0⟩, ⟨some 12, (.mv (.t 32)), 3, none, 0⟩] (some [1, 2, 3, 7, 11, 12])))))
def fa_111 : FnA := ⟨34, [.t 6],
  (.seq
    (.region false [⟨some 3, (.box 28 (.t 0)), 0, none, 0⟩, ⟨some 6, (.mv (.c (.int .i64 0))), 3, none, 0⟩] (some [1, 2, 3]))
    (.seq
      (.region false [⟨some 7, (.mv (.c (.int .i64 0))), 3, none, 0⟩] (some [1, 2, 3, 7]))
      (.seq
        (.seq
          (.region false [⟨some 9, (.faddr 28 (.t 3) 0), 0, none, 0⟩, ⟨some 10, (.load 22 (.t 9)), 22, none, 0⟩, ⟨some 11, (.len 22 (.t 10)), 3, none, 0⟩, ⟨some 12, (.mv (.c (.int .i64 0))), 3, none, 0⟩] (some [1, 2, 3, 7, 11, 12]))
          (.block 0
            (.loop [1, 2, 3, 7, 11, 12] [] lb_111_3)))
        (.seq
          (.region false [⟨some 33, (.mv (.t 7)), 3, none, 0⟩, ⟨some 6, (.mv (.t 33)), 3, none, 0⟩] (some [6]))
          .ret))))⟩
theorem fok_111 : FnOk Try.prog 111 fa_111 an_111 := ⟨Try.f111, _, Try.func111, rfl, by kernel_rfl, rfl, rfl, by decide, by kernel_rfl⟩
/-- impl.not -/
def an_161 : Ann := ⟨[(1, 2, 3)], [(0, [1, 2]), (1, [4])], []⟩
def fa_161 : FnA := ⟨8, [.t 4],
  (.seq
    (.region false [⟨some 2, (.box 28 (.t 0)), 0, none, 0⟩, ⟨some 4, (.mv (.c (.int .i64 0))), 3, none, 0⟩] (some [1, 2]))
    (.seq
      (.region false [⟨some 5, (.load 28 (.t 2)), 28, none, 0⟩, ⟨some 6, (.mv (.t 1)), 3, none, 0⟩, ⟨some 7, (.call (.f 111) [(.t 5), (.t 6), (.c (.int .i64 0))]), 3, none, 3⟩, ⟨some 4, (.mv (.t 7)), 3, none, 0⟩] (some [4]))
      .ret))⟩
theorem fok_161 : FnOk Try.prog 161 fa_161 an_161 := ⟨Try.f161, _, Try.func161, rfl, by kernel_rfl, rfl, rfl, by decide, by kernel_rfl⟩
/-- impl.value -/
def an_131 : Ann := ⟨[(8, 3, 3), (10, 2, 3), (11, 3, 3), (14, 4, 3), (16, 4, 3), (19, 3, 3)], [(0, [1, 2, 3]), (1, [2, 3, 8, 9]), (2, [2, 3, 8, 9, 17]), (3, [6, 7]), (4, [2, 3, 8, 9, 25]), (5, [6, 7]), (6, [2, 3, 8, 9, 29]), (7, [6, 7]), (8, [2, 3, 8, 9, 10]), (9, [2, 3, 8, 9, 10, 45]), (10, [6, 7]), (11, [3, 8, 9, 10, 11]), (12, [3, 9, 10, 11, 57]), (13, [3, 9, 10, 11, 57, 58]), (14, [6, 7]), (15, [3, 9, 10, 11, 57, 66]), (16, [6, 7]), (17, [3, 9, 10, 11, 74]), (18, [6, 7]), (19, [6, 7])], []⟩
def fa_131 : FnA := ⟨90, [.t 6, .t 7],
  (.seq
    (.region false [⟨some 3, (.box 28 (.t 0)), 0, none, 0⟩, ⟨some 6, (.mv (.c (.int .i64 0))), 3, none, 0⟩, ⟨some 7, (.mv (.c .nil)), 22, none, 0⟩] (some [1, 2, 3]))
    (.seq
      (.region true [⟨some 12, (.mv (.t 1)), 22, none, 0⟩, ⟨some 13, (.iaddr 22 (.t 12) (.c (.int .i64 0))), 0, none, 0⟩, ⟨some 14, (.load 3 (.t 13)), 3, none, 0⟩, ⟨some 15, (.mv (.t 1)), 22, none, 0⟩, ⟨some 16, (.slice 22 (.t 15) (some (.c (.int .i64 1))) none), 22, none, 0⟩, ⟨some 8, (.mv (.t 14)), 3, none, 0⟩, ⟨some 9, (.mv (.t 16)), 22, none, 0⟩] (some [2, 3, 8, 9]))
      (.seq
        (.block 0
          (.seq
            (.region false [⟨some 18, (.mv (.t 8)), 3, none, 0⟩, ⟨some 19, (.bin .lss 3 (.t 18) (.c (.int .i64 3))), 4, none, 0⟩, ⟨some 17, (.mv (.t 19)), 4, none, 0⟩] (some [2, 3, 8, 9, 17]))
            (.cond (.t 17)
              (.seq
                (.region false [⟨some 20, (.mv (.t 2)), 22, none, 0⟩, ⟨some 21, (.mv (.t 8)), 3, none, 0⟩, ⟨some 22, (.iaddr 22 (.t 20) (.t 21)), 0, none, 0⟩, ⟨some 23, (.load 3 (.t 22)), 3, none, 0⟩, ⟨some 24, (.mv (.t 9)), 22, none, 0⟩, ⟨some 6, (.mv (.t 23)), 3, none, 0⟩, ⟨some 7, (.mv (.t 24)), 22, none, 0⟩] (some [6, 7]))
                .ret)
              (.seq
                (.region false [⟨some 26, (.mv (.t 8)), 3, none, 0⟩, ⟨some 27, (.bin .eql 3 (.t 26) (.c (.int .i64 10))), 4, none, 0⟩, ⟨some 25, (.mv (.t 27)), 4, none, 0⟩] (some [2, 3, 8, 9, 25]))
                (.cond (.t 25)
                  (.seq
                    (.region false [⟨some 28, (.mv (.t 9)), 22, none, 0⟩, ⟨some 6, (.mv (.c (.int .i64 0))), 3, none, 0⟩, ⟨some 7, (.mv (.t 28)), 22, none, 0⟩] (some [6, 7]))
                    .ret)
                  (.seq
                    (.region false [⟨some 30, (.mv (.t 8)), 3, none, 0⟩, ⟨some 31, (.bin .eql 3 (.t 30) (.c (.int .i64 11))), 4, none, 0⟩, ⟨some 29, (.mv (.t 31)), 4, none, 0⟩] (some [2, 3, 8, 9, 29]))
                    (.cond (.t 29)
                      (.seq
                        (.region false [⟨some 32, (.faddr 28 (.t 3) 0), 0, none, 0⟩, ⟨some 33, (.load 22 (.t 32)), 22, none, 0⟩, ⟨some 34, (.len 22 (.t 33)), 3, none, 0⟩, ⟨some 35, (.bin .sub 3 (.t 34) (.c (.int .i64 1))), 3, none, 0⟩, ⟨some 36, (.mv (.t 9)), 22, none, 0⟩, ⟨some 6, (.mv (.t 35)), 3, none, 0⟩, ⟨some 7, (.mv (.t 36)), 22, none, 0⟩] (some [6, 7]))
                        .ret)
                      .skip)))))))
        (.seq
          (.region false [⟨some 38, (.load 28 (.t 3)), 28, none, 0⟩, ⟨some 39, (.mv (.t 9)), 22, none, 0⟩, ⟨some 40, (.mv (.t 2)), 22, none, 0⟩, ⟨some 41, (.call (.f 131) [(.t 38), (.t 39), (.t 40)]), 99, none, 3⟩, ⟨some 37, (.mv (.t 41)), 99, none, 0⟩, ⟨some 42, (.ext (.t 37) 0), 3, none, 0⟩, ⟨some 43, (.ext (.t 37) 1), 22, none, 0⟩, ⟨some 10, (.mv (.t 42)), 3, none, 0⟩, ⟨some 9, (.mv (.t 43)), 22, none, 0⟩] (some [2, 3, 8, 9, 10]))
          (.seq
            (.seq
              (.region false [⟨some 44, (.mv (.t 8)), 3, none, 0⟩, ⟨some 45, (.bin .eql 3 (.t 44) (.c (.int .i64 12))), 4, none, 0⟩] (some [2, 3, 8, 9, 10, 45]))
              (.cond (.t 45)
                (.seq
                  (.region false [⟨some 46, (.load 28 (.t 3)), 28, none, 0⟩, ⟨some 47, (.mv (.t 10)), 3, none, 0⟩, ⟨some 48, (.call (.f 161) [(.t 46), (.t 47)]), 3, none, 3⟩, ⟨some 49, (.mv (.t 9)), 22, none, 0⟩, ⟨some 6, (.mv (.t 48)), 3, none, 0⟩, ⟨some 7, (.mv (.t 49)), 22, none, 0⟩] (some [6, 7]))
                  .ret)
                .skip))
            (.seq
              (.region false [⟨some 51, (.load 28 (.t 3)), 28, none, 0⟩, ⟨some 52, (.mv (.t 9)), 22, none, 0⟩, ⟨some 53, (.mv (.t 2)), 22, none, 0⟩, ⟨some 54, (.call (.f 131) [(.t 51), (.t 52), (.t 53)]), 99, none, 3⟩, ⟨some 50, (.mv (.t 54)), 99, none, 0⟩, ⟨some 55, (.ext (.t 50) 0), 3, none, 0⟩, ⟨some 56, (.ext (.t 50) 1), 22, none, 0⟩, ⟨some 11, (.mv (.t 55)), 3, none, 0⟩, ⟨some 9, (.mv (.t 56)), 22, none, 0⟩] (some [3, 8, 9, 10, 11]))
              (.seq
                (.seq
                  (.region false [⟨some 57, (.mv (.t 8)), 3, none, 0⟩] (some [3, 9, 10, 11, 57]))
                  (.block 1
                    (.seq
                      (.region false [⟨some 59, (.bin .eql 3 (.t 57) (.c (.int .i64 13))), 4, none, 0⟩, ⟨some 58, (.mv (.t 59)), 4, none, 0⟩] (some [3, 9, 10, 11, 57, 58]))
                      (.cond (.t 58)
                        (.seq
                          (.region false [⟨some 60, (.faddr 28 (.t 3) 0), 0, none, 0⟩, ⟨some 61, (.load 22 (.t 60)), 22, none, 0⟩, ⟨some 62, (.mv (.t 10)), 3, none, 0⟩, ⟨some 63, (.mv (.t 11)), 3, none, 0⟩, ⟨some 64, (.call (.f 162) [(.t 61), (.t 62), (.t 63)]), 3, none, 3⟩, ⟨some 65, (.mv (.t 9)), 22, none, 0⟩, ⟨some 6, (.mv (.t 64)), 3, none, 0⟩, ⟨some 7, (.mv (.t 65)), 22, none, 0⟩] (some [6, 7]))
                          .ret)
                        (.seq
                          (.region false [⟨some 67, (.bin .eql 3 (.t 57) (.c (.int .i64 14))), 4, none, 0⟩, ⟨some 66, (.mv (.t 67)), 4, none, 0⟩] (some [3, 9, 10, 11, 57, 66]))
                          (.cond (.t 66)
                            (.seq
                              (.region false [⟨some 68, (.faddr 28 (.t 3) 0), 0, none, 0⟩, ⟨some 69, (.load 22 (.t 68)), 22, none, 0⟩, ⟨some 70, (.mv (.t 10)), 3, none, 0⟩, ⟨some 71, (.mv (.t 11)), 3, none, 0⟩, ⟨some 72, (.call (.f 77) [(.t 69), (.t 70), (.t 71)]), 3, none, 3⟩, ⟨some 73, (.mv (.t 9)), 22, none, 0⟩, ⟨some 6, (.mv (.t 72)), 3, none, 0⟩, ⟨some 7, (.mv (.t 73)), 22, none, 0⟩] (some [6, 7]))
                              .ret)
                            (.seq
                              (.region false [⟨some 75, (.bin .eql 3 (.t 57) (.c (.int .i64 15))), 4, none, 0⟩, ⟨some 74, (.mv (.t 75)), 4, none, 0⟩] (some [3, 9, 10, 11, 74]))
                              (.cond (.t 74)
                                (.seq
                                  (.region false [⟨some 76, (.faddr 28 (.t 3) 1), 0, none, 0⟩, ⟨some 77, (.load 23 (.t 76)), 23, none, 0⟩, ⟨some 78, (.mv (.t 10)), 3, none, 0⟩, ⟨some 79, (.iaddr 23 (.t 77) (.t 78)), 0, none, 0⟩, ⟨some 80, (.load 22 (.t 79)), 22, none, 0⟩, ⟨some 81, (.mv (.t 11)), 3, none, 0⟩, ⟨some 82, (.iaddr 22 (.t 80) (.t 81)), 0, none, 0⟩, ⟨some 83, (.load 3 (.t 82)), 3, none, 0⟩, ⟨some 84, (.mv (.t 9)), 22, none, 0⟩, ⟨some 6, (.mv (.t 83)), 3, none, 0⟩, ⟨some 7, (.mv (.t 84)), 22, none, 0⟩] (some [6, 7]))
                                  .ret)
                                .skip))))))))
                (.seq
                  (.region false [⟨some 85, (.load 28 (.t 3)), 28, none, 0⟩, ⟨some 86, (.mv (.t 10)), 3, none, 0⟩, ⟨some 87, (.mv (.t 11)), 3, none, 0⟩, ⟨some 88, (.call (.f 111) [(.t 85), (.t 86), (.t 87)]), 3, none, 3⟩, ⟨some 89, (.mv (.t 9)), 22, none, 0⟩, ⟨some 6, (.mv (.t 88)), 3, none, 0⟩, ⟨some 7, (.mv (.t 89)), 22, none, 0⟩] (some [6, 7]))
                  .ret))))))))⟩
theorem fok_131 : FnOk Try.prog 131 fa_131 an_131 := ⟨Try.f131, _, Try.func131, rfl, by kernel_rfl, rfl, rfl, by decide, by kernel_rfl⟩
/-- impl.valueOf -/
def an_69 : Ann := ⟨[(1, 3, 3)], [(0, [1, 2, 3]), (1, [7]), (2, [6])], []⟩
def fa_69 : FnA := ⟨17, [.t 6],
  (.seq
    (.region false [⟨some 3, (.box 28 (.t 0)), 0, none, 0⟩, ⟨some 6, (.mv (.c (.int .i64 0))), 3, none, 0⟩] (some [1, 2, 3]))
    (.seq
      (.region false [⟨some 10, (.load 28 (.t 3)), 28, none, 0⟩, ⟨some 11, (.mv (.t 1)), 22, none, 0⟩, ⟨some 12, (.mv (.t 2)), 22, none, 0⟩, ⟨some 13, (.call (.f 131) [(.t 10), (.t 11), (.t 12)]), 99, none, 3⟩, ⟨some 9, (.mv (.t 13)), 99, none, 0⟩, ⟨some 14, (.ext (.t 9) 0), 3, none, 0⟩, ⟨some 15, (.ext (.t 9) 1), 22, none, 0⟩, ⟨some 7, (.mv (.t 14)), 3, none, 0⟩, ⟨some 8, (.mv (.t 15)), 22, none, 0⟩] (some [7]))
      (.seq
        (.region false [⟨some 16, (.mv (.t 7)), 3, none, 0⟩, ⟨some 6, (.mv (.t 16)), 3, none, 0⟩] (some [6]))
        .ret)))⟩
theorem fok_69 : FnOk Try.prog 69 fa_69 an_69 := ⟨Try.f69, _, Try.func69, rfl, by kernel_rfl, rfl, rfl, by decide, by kernel_rfl⟩
/-- impl.ValueOf -/
def an_21 : Ann := ⟨[(1, 1, 3), (1, 11, 3), (3, 3, 3)], [(0, [1, 2, 3]), (1, [1, 2, 3, 20]), (2, [6]), (3, [6])], []⟩
def fa_21 : FnA := ⟨25, [.t 6],
  (.seq
    (.region false [⟨some 3, (.box 28 (.t 0)), 0, none, 0⟩, ⟨some 6, (.mv (.c (.int .i64 0))), 3, none, 0⟩] (some [1, 2, 3]))
    (.seq
      (.seq
        (.region false (gops [⟨some 7, (.mv (.t 1)), 22, none, 0⟩, ⟨some 8, (.call (.f 67) [(.t 7)]), 4, none, 3⟩, ⟨some 9, (.un .not (.t 8)), 4, none, 0⟩, ⟨some 10, (.mv (.t 9)), 4, none, 0⟩, ⟨some 11, (.mv (.t 2)), 22, some (10, false), 0⟩, ⟨some 12, (.len 22 (.t 11)), 3, some (10, false), 0⟩, ⟨some 13, (.bin .neq 3 (.t 12) (.c (.int .i64 3))), 4, some (10, false), 0⟩, ⟨some 14, (.pick (.t 10) (.c (.bool true)) (.t 13)), 4, none, 0⟩, ⟨some 15, (.mv (.t 14)), 4, none, 0⟩, ⟨some 16, (.load 28 (.t 3)), 28, some (15, false), 0⟩, ⟨some 17, (.mv (.t 2)), 22, some (15, false), 0⟩, ⟨some 18, (.call (.f 68) [(.t 16), (.t 17)]), 4, some (15, false), 3⟩, ⟨some 19, (.un .not (.t 18)), 4, some (15, false), 0⟩, ⟨some 20, (.pick (.t 15) (.c (.bool true)) (.t 19)), 4, none, 0⟩]) (some [1, 2, 3, 20]))
        (.cond (.t 20)
          (.seq
            (.region false [⟨some 6, (.mv (.c (.int .i64 (-1)))), 3, none, 0⟩] (some [6]))
            .ret)
          .skip))
      (.seq
        (.region false [⟨some 21, (.load 28 (.t 3)), 28, none, 0⟩, ⟨some 22, (.mv (.t 1)), 22, none, 0⟩, ⟨some 23, (.mv (.t 2)), 22, none, 0⟩, ⟨some 24, (.call (.f 69) [(.t 21), (.t 22), (.t 23)]), 3, none, 3⟩, ⟨some 6, (.mv (.t 24)), 3, none, 0⟩] (some [6]))
        .ret)))⟩
theorem fok_21 : FnOk Try.prog 21 fa_21 an_21 := ⟨Try.f21, _, Try.func21, rfl, by kernel_rfl, rfl, rfl, by decide, by kernel_rfl⟩
/-- laws.eqIntS -/
def an_23 : Ann := ⟨[], [(0, [0, 1]), (1, [0, 1, 10]), (2, [4]), (3, [0, 1, 5]), (4, [0, 1, 5, 14]), (6, [0, 1, 5, 25]), (7, [4]), (5, [0, 1, 5]), (8, [4])], [(4, [0, 1, 5], [])]⟩
def lb_23_4 : AC :=
  (.seq
    (.seq
      (.region false [⟨some 11, (.mv (.t 5)), 3, none, 0⟩, ⟨some 12, (.mv (.t 0)), 22, none, 0⟩, ⟨some 13, (.len 22 (.t 12)), 3, none, 0⟩, ⟨some 14, (.bin .lss 3 (.t 11) (.t 13)), 4, none, 0⟩] (some [0, 1, 5, 14]))
      (.cond (.t 14)
        .skip
        (.exit 0)))
    (.seq
      (.block 1
        (.seq
          (.region true [⟨some 17, (.mv (.t 0)), 22, none, 0⟩, ⟨some 18, (.mv (.t 5)), 3, none, 0⟩, ⟨some 19, (.iaddr 22 (.t 17) (.t 18)), 0, none, 0⟩, ⟨some 20, (.load 3 (.t 19)), 3, none, 0⟩, ⟨some 21, (.mv (.t 1)), 22, none, 0⟩, ⟨some 22, (.mv (.t 5)), 3, none, 0⟩, ⟨some 23, (.iaddr 22 (.t 21) (.t 22)), 0, none, 0⟩, ⟨some 24, (.load 3 (.t 23)), 3, none, 0⟩, ⟨some 25, (.bin .neq 3 (.t 20) (.t 24)), 4, none, 0⟩] (some [0, 1, 5, 25]))
          (.cond (.t 25)
            (.seq
              (.region false [⟨some 4, (.mv (.c (.bool false))), 4, none, 0⟩] (some [4]))
              .ret)
            .skip)))
      (.region false [⟨some 15, (.mv (.t 5)), 3, none, 0⟩, ⟨some 16, (.bin .add 3 (.t 15) (.c (.int .i64 1))), 3, none, 0⟩, ⟨some 5, (.mv (.t 16)), 3, none, 0⟩] (some [0, 1, 5]))))
def fa_23 : FnA := ⟨26, [.t 4],
  (.seq
    (.region false [⟨some 4, (.mv (.c (.bool false))), 4, none, 0⟩] (some [0, 1]))
    (.seq
      (.seq
        (.region false [⟨some 6, (.mv (.t 0)), 22, none, 0⟩, ⟨some 7, (.len 22 (.t 6)), 3, none, 0⟩, ⟨some 8, (.mv (.t 1)), 22, none, 0⟩, ⟨some 9, (.len 22 (.t 8)), 3, none, 0⟩, ⟨some 10, (.bin .neq 3 (.t 7) (.t 9)), 4, none, 0⟩] (some [0, 1, 10]))
        (.cond (.t 10)
          (.seq
            (.region false [⟨some 4, (.mv (.c (.bool false))), 4, none, 0⟩] (some [4]))
            .ret)
          .skip))
      (.seq
        (.seq
          (.region false [⟨some 5, (.mv (.c (.int .i64 0))), 3, none, 0⟩] (some [0, 1, 5]))
          (.block 0
            (.loop [0, 1, 5] [] lb_23_4)))
        (.seq
          (.region false [⟨some 4, (.mv (.c (.bool true))), 4, none, 0⟩] (some [4]))
          .ret))))⟩
theorem fok_23 : FnOk Try.prog 23 fa_23 an_23 := ⟨Try.f23, _, Try.func23, rfl, by kernel_rfl, rfl, rfl, by decide, by kernel_rfl⟩
/-- laws.eqIntSS -/
def an_41 : Ann := ⟨[(6, 8, 3)], [(0, [0, 1]), (1, [0, 1, 10]), (2, [4]), (3, [0, 1, 5]), (4, [0, 1, 5, 14]), (6, [0, 1, 5, 26]), (7, [4]), (5, [0, 1, 5]), (8, [4])], [(4, [0, 1, 5], [])]⟩
def lb_41_4 : AC :=
  (.seq
    (.seq
      (.region false [⟨some 11, (.mv (.t 5)), 3, none, 0⟩, ⟨some 12, (.mv (.t 0)), 23, none, 0⟩, ⟨some 13, (.len 23 (.t 12)), 3, none, 0⟩, ⟨some 14, (.bin .lss 3 (.t 11) (.t 13)), 4, none, 0⟩] (some [0, 1, 5, 14]))
      (.cond (.t 14)
        .skip
        (.exit 0)))
    (.seq
      (.block 1
        (.seq
          (.region true [⟨some 17, (.mv (.t 0)), 23, none, 0⟩, ⟨some 18, (.mv (.t 5)), 3, none, 0⟩, ⟨some 19, (.iaddr 23 (.t 17) (.t 18)), 0, none, 0⟩, ⟨some 20, (.load 22 (.t 19)), 22, none, 0⟩, ⟨some 21, (.mv (.t 1)), 23, none, 0⟩, ⟨some 22, (.mv (.t 5)), 3, none, 0⟩, ⟨some 23, (.iaddr 23 (.t 21) (.t 22)), 0, none, 0⟩, ⟨some 24, (.load 22 (.t 23)), 22, none, 0⟩, ⟨some 25, (.call (.f 23) [(.t 20), (.t 24)]), 4, none, 3⟩, ⟨some 26, (.un .not (.t 25)), 4, none, 0⟩] (some [0, 1, 5, 26]))
          (.cond (.t 26)
            (.seq
              (.region false [⟨some 4, (.mv (.c (.bool false))), 4, none, 0⟩] (some [4]))
              .ret)
            .skip)))
      (.region false [⟨some 15, (.mv (.t 5)), 3, none, 0⟩, ⟨some 16, (.bin .add 3 (.t 15) (.c (.int .i64 1))), 3, none, 0⟩, ⟨some 5, (.mv (.t 16)), 3, none, 0⟩] (some [0, 1, 5]))))
def fa_41 : FnA := ⟨27, [.t 4],
  (.seq
    (.region false [⟨some 4, (.mv (.c (.bool false))), 4, none, 0⟩] (some [0, 1]))
    (.seq
      (.seq
        (.region false [⟨some 6, (.mv (.t 0)), 23, none, 0⟩, ⟨some 7, (.len 23 (.t 6)), 3, none, 0⟩, ⟨some 8, (.mv (.t 1)), 23, none, 0⟩, ⟨some 9, (.len 23 (.t 8)), 3, none, 0⟩, ⟨some 10, (.bin .neq 3 (.t 7) (.t 9)), 4, none, 0⟩] (some [0, 1, 10]))
        (.cond (.t 10)
          (.seq
            (.region false [⟨some 4, (.mv (.c (.bool false))), 4, none, 0⟩] (some [4]))
            .ret)
          .skip))
      (.seq
        (.seq
          (.region false [⟨some 5, (.mv (.c (.int .i64 0))), 3, none, 0⟩] (some [0, 1, 5]))
          (.block 0
            (.loop [0, 1, 5] [] lb_41_4)))
        (.seq
          (.region false [⟨some 4, (.mv (.c (.bool true))), 4, none, 0⟩] (some [4]))
          .ret))))⟩
theorem fok_41 : FnOk Try.prog 41 fa_41 an_41 := ⟨Try.f41, _, Try.func41, rfl, by kernel_rfl, rfl, rfl, by decide, by kernel_rfl⟩
/-- laws.eqAlgebra -/
def an_22 : Ann := ⟨[(1, 4, 3), (3, 4, 3)], [(0, [2, 3]), (1, [2, 3, 10]), (2, [4]), (3, [16]), (4, [4]), (5, [4])], []⟩
def fa_22 : FnA := ⟨17, [.t 4],
  (.seq
    (.region false [⟨some 2, (.box 28 (.t 0)), 0, none, 0⟩, ⟨some 3, (.box 28 (.t 1)), 0, none, 0⟩, ⟨some 4, (.mv (.c (.bool false))), 4, none, 0⟩] (some [2, 3]))
    (.seq
      (.seq
        (.region false [⟨some 5, (.faddr 28 (.t 2) 0), 0, none, 0⟩, ⟨some 6, (.load 22 (.t 5)), 22, none, 0⟩, ⟨some 7, (.faddr 28 (.t 3) 0), 0, none, 0⟩, ⟨some 8, (.load 22 (.t 7)), 22, none, 0⟩, ⟨some 9, (.call (.f 23) [(.t 6), (.t 8)]), 4, none, 3⟩, ⟨some 10, (.un .not (.t 9)), 4, none, 0⟩] (some [2, 3, 10]))
        (.cond (.t 10)
          (.seq
            (.region false [⟨some 4, (.mv (.c (.bool false))), 4, none, 0⟩] (some [4]))
            .ret)
          .skip))
      (.seq
        (.seq
          (.region false [⟨some 11, (.faddr 28 (.t 2) 1), 0, none, 0⟩, ⟨some 12, (.load 23 (.t 11)), 23, none, 0⟩, ⟨some 13, (.faddr 28 (.t 3) 1), 0, none, 0⟩, ⟨some 14, (.load 23 (.t 13)), 23, none, 0⟩, ⟨some 15, (.call (.f 41) [(.t 12), (.t 14)]), 4, none, 3⟩, ⟨some 16, (.un .not (.t 15)), 4, none, 0⟩] (some [16]))
          (.cond (.t 16)
            (.seq
              (.region false [⟨some 4, (.mv (.c (.bool false))), 4, none, 0⟩] (some [4]))
              .ret)
            .skip))
        (.seq
          (.region false [⟨some 4, (.mv (.c (.bool true))), 4, none, 0⟩] (some [4]))
          .ret))))⟩
theorem fok_22 : FnOk Try.prog 22 fa_22 an_22 := ⟨Try.f22, _, Try.func22, rfl, by kernel_rfl, rfl, rfl, by decide, by kernel_rfl⟩
/-- laws.FnExactValueOf -/
def an_3 : Ann := ⟨[(6, 2, 3), (9, 1, 3), (9, 3, 3), (9, 5, 3), (9, 6, 3), (10, 1, 3), (11, 1, 3), (12, 1, 3), (13, 3, 3), (16, 2, 3), (16, 3, 3), (18, 2, 3), (18, 3, 3), (20, 2, 3), (20, 3, 3)], [(0, [1, 2, 3]), (1, [1, 2, 3, 15]), (2, [6]), (3, [1, 2, 3, 18]), (4, [6]), (5, [1, 2, 3, 7]), (6, [1, 2, 3, 7]), (7, [1, 2, 3, 23]), (8, [6]), (9, [1, 2, 3, 8]), (10, [1, 2, 3, 8, 9]), (11, [1, 2, 3, 8, 9, 10]), (12, [1, 2, 3, 8, 9, 10, 11]), (13, [1, 2, 3, 8, 9, 10, 11, 12]), (14, [1, 2, 3, 9, 10, 11, 43]), (15, [6]), (16, [1, 2, 10, 11, 48]), (17, [6]), (18, [2, 11, 53]), (19, [6]), (20, [58]), (21, [6]), (22, [6])], []⟩
def fa_3 : FnA := ⟨59, [.t 6],
  (.seq
    (.region false [⟨some 3, (.box 25 (.t 0)), 0, none, 0⟩, ⟨some 6, (.mv (.c (.bool false))), 4, none, 0⟩] (some [1, 2, 3]))
    (.seq
      (.seq
        (.region false [⟨some 13, (.mv (.t 1)), 22, none, 0⟩, ⟨some 14, (.len 22 (.t 13)), 3, none, 0⟩, ⟨some 15, (.bin .gtr 3 (.t 14) (.c (.int .i64 1048576))), 4, none, 0⟩] (some [1, 2, 3, 15]))
        (.cond (.t 15)
          (.seq
            (.region false [⟨some 6, (.mv (.c (.bool true))), 4, none, 0⟩] (some [6]))
            .ret)
          .skip))
      (.seq
        (.seq
          (.region false [⟨some 16, (.mv (.t 2)), 22, none, 0⟩, ⟨some 17, (.len 22 (.t 16)), 3, none, 0⟩, ⟨some 18, (.bin .gtr 3 (.t 17) (.c (.int .i64 1048576))), 4, none, 0⟩] (some [1, 2, 3, 18]))
          (.cond (.t 18)
            (.seq
              (.region false [⟨some 6, (.mv (.c (.bool true))), 4, none, 0⟩] (some [6]))
              .ret)
            .skip))
        (.seq
          (.region false [⟨some 7, (.mv (.c (.int .i64 1048576))), 3, none, 0⟩] (some [1, 2, 3, 7]))
          (.seq
            (.region false [⟨some 19, (.load 25 (.t 3)), 25, none, 0⟩, ⟨some 20, (.mv (.t 7)), 3, none, 0⟩, ⟨some 21, (.call (.f 17) [(.t 19), (.t 20)]), 3, none, 3⟩, ⟨some 7, (.mv (.t 21)), 3, none, 0⟩] (some [1, 2, 3, 7]))
            (.seq
              (.seq
                (.region false [⟨some 22, (.mv (.t 7)), 3, none, 0⟩, ⟨some 23, (.bin .lss 3 (.t 22) (.c (.int .i64 0))), 4, none, 0⟩] (some [1, 2, 3, 23]))
                (.cond (.t 23)
                  (.seq
                    (.region false [⟨some 6, (.mv (.c (.bool true))), 4, none, 0⟩] (some [6]))
                    .ret)
                  .skip))
              (.seq
                (.region false [⟨some 24, (.load 25 (.t 3)), 25, none, 0⟩, ⟨some 25, (.call (.f 19) [(.t 24)]), 28, none, 3⟩, ⟨some 26, (.mv (.t 1)), 22, none, 0⟩, ⟨some 27, (.call (.f 20) [(.t 26)]), 22, none, 3⟩, ⟨some 28, (.mv (.t 2)), 22, none, 0⟩, ⟨some 29, (.call (.f 20) [(.t 28)]), 22, none, 3⟩, ⟨some 30, (.call (.f 18) [(.t 25), (.t 27), (.t 29)]), 3, none, 3⟩, ⟨some 8, (.mv (.t 30)), 3, none, 0⟩] (some [1, 2, 3, 8]))
                (.seq
                  (.region false [⟨some 31, (.load 25 (.t 3)), 25, none, 0⟩, ⟨some 32, (.call (.f 19) [(.t 31)]), 28, none, 3⟩, ⟨some 9, (.alloc 28), 0, none, 0⟩, ⟨none, (.store 28 (.t 9) (.t 32)), 0, none, 0⟩] (some [1, 2, 3, 8, 9]))
                  (.seq
                    (.region false [⟨some 33, (.mv (.t 1)), 22, none, 0⟩, ⟨some 34, (.call (.f 20) [(.t 33)]), 22, none, 3⟩, ⟨some 10, (.mv (.t 34)), 22, none, 0⟩] (some [1, 2, 3, 8, 9, 10]))
                    (.seq
                      (.region false [⟨some 35, (.mv (.t 2)), 22, none, 0⟩, ⟨some 36, (.call (.f 20) [(.t 35)]), 22, none, 3⟩, ⟨some 11, (.mv (.t 36)), 22, none, 0⟩] (some [1, 2, 3, 8, 9, 10, 11]))
                      (.seq
                        (.region false [⟨some 37, (.load 28 (.t 9)), 28, none, 0⟩, ⟨some 38, (.mv (.t 10)), 22, none, 0⟩, ⟨some 39, (.mv (.t 11)), 22, none, 0⟩, ⟨some 40, (.call (.f 21) [(.t 37), (.t 38), (.t 39)]), 3, none, 3⟩, ⟨some 12, (.mv (.t 40)), 3, none, 0⟩] (some [1, 2, 3, 8, 9, 10, 11, 12]))
                        (.seq
                          (.seq
                            (.region false [⟨some 41, (.mv (.t 12)), 3, none, 0⟩, ⟨some 42, (.mv (.t 8)), 3, none, 0⟩, ⟨some 43, (.bin .neq 3 (.t 41) (.t 42)), 4, none, 0⟩] (some [1, 2, 3, 9, 10, 11, 43]))
                            (.cond (.t 43)
                              (.seq
                                (.region false [⟨some 6, (.mv (.c (.bool false))), 4, none, 0⟩] (some [6]))
                                .ret)
                              .skip))
                          (.seq
                            (.seq
                              (.region true [⟨some 44, (.load 28 (.t 9)), 28, none, 0⟩, ⟨some 45, (.load 25 (.t 3)), 25, none, 0⟩, ⟨some 46, (.call (.f 19) [(.t 45)]), 28, none, 3⟩, ⟨some 47, (.call (.f 22) [(.t 44), (.t 46)]), 4, none, 3⟩, ⟨some 48, (.un .not (.t 47)), 4, none, 0⟩] (some [1, 2, 10, 11, 48]))
                              (.cond (.t 48)
                                (.seq
                                  (.region false [⟨some 6, (.mv (.c (.bool false))), 4, none, 0⟩] (some [6]))
                                  .ret)
                                .skip))
                            (.seq
                              (.seq
                                (.region false [⟨some 49, (.mv (.t 10)), 22, none, 0⟩, ⟨some 50, (.mv (.t 1)), 22, none, 0⟩, ⟨some 51, (.call (.f 20) [(.t 50)]), 22, none, 3⟩, ⟨some 52, (.call (.f 23) [(.t 49), (.t 51)]), 4, none, 3⟩, ⟨some 53, (.un .not (.t 52)), 4, none, 0⟩] (some [2, 11, 53]))
                                (.cond (.t 53)
                                  (.seq
                                    (.region false [⟨some 6, (.mv (.c (.bool false))), 4, none, 0⟩] (some [6]))
                                    .ret)
                                  .skip))
                              (.seq
                                (.seq
                                  (.region false [⟨some 54, (.mv (.t 11)), 22, none, 0⟩, ⟨some 55, (.mv (.t 2)), 22, none, 0⟩, ⟨some 56, (.call (.f 20) [(.t 55)]), 22, none, 3⟩, ⟨some 57, (.call (.f 23) [(.t 54), (.t 56)]), 4, none, 3⟩, ⟨some 58, (.un .not (.t 57)), 4, none, 0⟩] (some [58]))
                                  (.cond (.t 58)
                                    (.seq
                                      (.region false [⟨some 6, (.mv (.c (.bool false))), 4, none, 0⟩] (some [6]))
                                      .ret)
                                    .skip))
                                (.seq
                                  (.region false [⟨some 6, (.mv (.c (.bool true))), 4, none, 0⟩] (some [6]))
                                  .ret))))))))))))))))⟩
theorem fok_3 : FnOk Try.prog 3 fa_3 an_3 := ⟨Try.f3, _, Try.func3, rfl, by kernel_rfl, rfl, rfl, by decide, by kernel_rfl⟩
theorem tt_3 : tyOf Try.prog 3 = ⟨(.int .i64), 1, 8, (some (.int .i64 0))⟩ := by kernel_rfl
theorem tt_22 : tyOf Try.prog 22 = ⟨(.slice 3), 1, 24, (some .nil)⟩ := by kernel_rfl
theorem tt_23 : tyOf Try.prog 23 = ⟨(.slice 22), 1, 24, (some .nil)⟩ := by kernel_rfl
theorem tt_25 : tyOf Try.prog 25 = ⟨(.struct [(0, 22), (1, 23)]), 2, 48, (some (.agg [.nil, .nil]))⟩ := by kernel_rfl
theorem tt_28 : tyOf Try.prog 28 = ⟨(.struct [(0, 22), (1, 23)]), 2, 48, (some (.agg [.nil, .nil]))⟩ := by kernel_rfl
noncomputable def C0 : Ctx := ⟨Try.prog, tyOf Try.prog, fun _ => none⟩
@[simp] theorem C0_P : C0.P = Try.prog := rfl
@[simp] theorem C0_tt (T : Nat) : C0.tt T = tyOf Try.prog T := rfl
theorem hty0 : TyOk C0.P C0.tt := tyOf_ok _
theorem hin0 (n kb : Nat) : InlOk C0 (inl C0 n kb) := inl_ok hty0 Try.checked.mixed (by intro f fa h; cases h) n kb
theorem pc0 {f : Nat} {fa : FnA} {A : Ann} (hf : FnOk Try.prog f fa A) {ds : List D} {fresh : Bool} {R : D → List D → Prop} (h : run C0 0 (inl C0 5 0) fa.ac (retQ C0.tt fresh fa.res R false) ⟨args0 0 ds, [], 1⟩) : PC Try.prog f ds none fresh R :=
  pc_of_run (C := C0) (kb := 0) (io := none) hty0 Try.checked.mixed (hin0 5 0) hf h
theorem pcT (T : List (Fam Try.prog)) {f : Nat} {fa : FnA} {A : Ann} (hf : FnOk Try.prog f fa A) {ds : List D} {fresh : Bool} {R : D → List D → Prop} (h : run C0 0 (tabK T) fa.ac (retQ C0.tt fresh fa.res R false) ⟨args0 0 ds, [], 1⟩) : PC Try.prog f ds none fresh R :=
  pc_of_run (C := C0) (kb := 0) (io := none) hty0 Try.checked.mixed (tabK_ok (C := C0) T) hf h
attribute [simp] tt_3 tt_22 tt_23 tt_25 tt_28 
end Go.PS
