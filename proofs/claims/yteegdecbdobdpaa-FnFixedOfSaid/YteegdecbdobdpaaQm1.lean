/- Part 1 of what the last text proves: Fixed elements are closed: the law holds at every input. -/
import Derived.Test.YteegdecbdobdpaaQg8
section
-- PRINTED by gen.py: clean texts of functions, and their tie to the program.
set_option maxRecDepth 100000
namespace Go.PS
open Go.Proofs
/-- impl.holds -/
def an_142 : Ann := ⟨[(4, 5, 3), (4, 9, 3), (4, 10, 3), (6, 8, 3), (6, 15, 3), (8, 3, 3), (8, 4, 3), (12, 5, 3), (12, 6, 3)], [(0, [0, 2, 3, 5]), (1, [0, 2, 3, 5, 9]), (2, [2, 3, 5, 9, 14]), (3, [2, 3, 5, 9, 14, 15]), (4, [8]), (5, [2, 3, 5, 9, 14, 30]), (6, [8]), (7, [2, 5, 9, 14, 49]), (8, [8]), (9, [2, 5, 9, 14, 58]), (10, [8]), (11, [2, 5, 9, 70]), (12, [8]), (13, [8])], [], []⟩
def fa_142 : FnA := ⟨81, [.t 8],
  (.seq
    (.region false [⟨some 5, (.box 28 (.t 1)), 0, none, 0⟩, ⟨some 8, (.mv (.c (.bool false))), 4, none, 0⟩] (some [0, 2, 3, 5]))
    (.seq
      (.region false [⟨some 10, (.faddr 28 (.t 5) 0), 0, none, 0⟩, ⟨some 11, (.load 22 (.t 10)), 22, none, 0⟩, ⟨some 12, (.len 22 (.t 11)), 3, none, 0⟩, ⟨some 13, (.bin .sub 3 (.t 12) (.c (.int .i64 1))), 3, none, 0⟩, ⟨some 9, (.mv (.t 13)), 3, none, 0⟩] (some [0, 2, 3, 5, 9]))
      (.seq
        (.seq
          (.region false [⟨some 14, (.mv (.t 0)), 9, none, 0⟩] (some [2, 3, 5, 9, 14]))
          (.block 0
            (.seq
              (.region false [⟨some 16, (.bin .eql 9 (.t 14) (.c (.str [112, 114, 101, 108, 105, 110, 101, 97, 114]))), 4, none, 0⟩, ⟨some 15, (.mv (.t 16)), 4, none, 0⟩] (some [2, 3, 5, 9, 14, 15]))
              (.cond (.t 15)
                (.seq
                  (.region true [⟨some 17, (.faddr 28 (.t 5) 0), 0, none, 0⟩, ⟨some 18, (.load 22 (.t 17)), 22, none, 0⟩, ⟨some 19, (.load 28 (.t 5)), 28, none, 0⟩, ⟨some 20, (.mv (.t 2)), 3, none, 0⟩, ⟨some 21, (.mv (.t 3)), 3, none, 0⟩, ⟨some 22, (.call (.f 125) [(.t 19), (.t 20), (.t 21)]), 3, none, 3⟩, ⟨some 23, (.load 28 (.t 5)), 28, none, 0⟩, ⟨some 24, (.mv (.t 3)), 3, none, 0⟩, ⟨some 25, (.mv (.t 2)), 3, none, 0⟩, ⟨some 26, (.call (.f 125) [(.t 23), (.t 24), (.t 25)]), 3, none, 3⟩, ⟨some 27, (.call (.f 96) [(.t 18), (.t 22), (.t 26)]), 3, none, 3⟩, ⟨some 28, (.mv (.t 9)), 3, none, 0⟩, ⟨some 29, (.bin .eql 3 (.t 27) (.t 28)), 4, none, 0⟩, ⟨some 8, (.mv (.t 29)), 4, none, 0⟩] (some [8]))
                  .ret)
                (.seq
                  (.region false [⟨some 31, (.bin .eql 9 (.t 14) (.c (.str [100, 105, 118, 105, 115, 105, 98, 108, 101]))), 4, none, 0⟩, ⟨some 30, (.mv (.t 31)), 4, none, 0⟩] (some [2, 3, 5, 9, 14, 30]))
                  (.cond (.t 30)
                    (.seq
                      (.region true [⟨some 32, (.faddr 28 (.t 5) 1), 0, none, 0⟩, ⟨some 33, (.load 23 (.t 32)), 23, none, 0⟩, ⟨some 34, (.mv (.t 2)), 3, none, 0⟩, ⟨some 35, (.iaddr 23 (.t 33) (.t 34)), 0, none, 0⟩, ⟨some 36, (.load 22 (.t 35)), 22, none, 0⟩, ⟨some 37, (.load 28 (.t 5)), 28, none, 0⟩, ⟨some 38, (.mv (.t 2)), 3, none, 0⟩, ⟨some 39, (.mv (.t 3)), 3, none, 0⟩, ⟨some 40, (.call (.f 125) [(.t 37), (.t 38), (.t 39)]), 3, none, 3⟩, ⟨some 41, (.iaddr 22 (.t 36) (.t 40)), 0, none, 0⟩, ⟨some 42, (.load 3 (.t 41)), 3, none, 0⟩, ⟨some 43, (.faddr 28 (.t 5) 0), 0, none, 0⟩, ⟨some 44, (.load 22 (.t 43)), 22, none, 0⟩, ⟨some 45, (.mv (.t 2)), 3, none, 0⟩, ⟨some 46, (.mv (.t 3)), 3, none, 0⟩, ⟨some 47, (.call (.f 112) [(.t 44), (.t 45), (.t 46)]), 3, none, 3⟩, ⟨some 48, (.bin .eql 3 (.t 42) (.t 47)), 4, none, 0⟩, ⟨some 8, (.mv (.t 48)), 4, none, 0⟩] (some [8]))
                      .ret)
                    (.seq
                      (.region false [⟨some 50, (.bin .eql 9 (.t 14) (.c (.str [105, 110, 118, 111, 108, 117, 116, 105, 118, 101]))), 4, none, 0⟩, ⟨some 49, (.mv (.t 50)), 4, none, 0⟩] (some [2, 5, 9, 14, 49]))
                      (.cond (.t 49)
                        (.seq
                          (.region true [⟨some 51, (.load 28 (.t 5)), 28, none, 0⟩, ⟨some 52, (.load 28 (.t 5)), 28, none, 0⟩, ⟨some 53, (.mv (.t 2)), 3, none, 0⟩, ⟨some 54, (.call (.f 129) [(.t 52), (.t 53)]), 3, none, 3⟩, ⟨some 55, (.call (.f 129) [(.t 51), (.t 54)]), 3, none, 3⟩, ⟨some 56, (.mv (.t 2)), 3, none, 0⟩, ⟨some 57, (.bin .eql 3 (.t 55) (.t 56)), 4, none, 0⟩, ⟨some 8, (.mv (.t 57)), 4, none, 0⟩] (some [8]))
                          .ret)
                        (.seq
                          (.region false [⟨some 59, (.bin .eql 9 (.t 14) (.c (.str [105, 100, 101, 109, 112, 111, 116, 101, 110, 116]))), 4, none, 0⟩, ⟨some 58, (.mv (.t 59)), 4, none, 0⟩] (some [2, 5, 9, 14, 58]))
                          (.cond (.t 58)
                            (.seq
                              (.region false [⟨some 60, (.faddr 28 (.t 5) 1), 0, none, 0⟩, ⟨some 61, (.load 23 (.t 60)), 23, none, 0⟩, ⟨some 62, (.mv (.t 2)), 3, none, 0⟩, ⟨some 63, (.iaddr 23 (.t 61) (.t 62)), 0, none, 0⟩, ⟨some 64, (.load 22 (.t 63)), 22, none, 0⟩, ⟨some 65, (.mv (.t 2)), 3, none, 0⟩, ⟨some 66, (.iaddr 22 (.t 64) (.t 65)), 0, none, 0⟩, ⟨some 67, (.load 3 (.t 66)), 3, none, 0⟩, ⟨some 68, (.mv (.t 2)), 3, none, 0⟩, ⟨some 69, (.bin .eql 3 (.t 67) (.t 68)), 4, none, 0⟩, ⟨some 8, (.mv (.t 69)), 4, none, 0⟩] (some [8]))
                              .ret)
                            (.seq
                              (.region false [⟨some 71, (.bin .eql 9 (.t 14) (.c (.str [98, 111, 111, 108, 101, 97, 110]))), 4, none, 0⟩, ⟨some 70, (.mv (.t 71)), 4, none, 0⟩] (some [2, 5, 9, 70]))
                              (.cond (.t 70)
                                (.seq
                                  (.region true [⟨some 72, (.faddr 28 (.t 5) 0), 0, none, 0⟩, ⟨some 73, (.load 22 (.t 72)), 22, none, 0⟩, ⟨some 74, (.mv (.t 2)), 3, none, 0⟩, ⟨some 75, (.load 28 (.t 5)), 28, none, 0⟩, ⟨some 76, (.mv (.t 2)), 3, none, 0⟩, ⟨some 77, (.call (.f 129) [(.t 75), (.t 76)]), 3, none, 3⟩, ⟨some 78, (.call (.f 96) [(.t 73), (.t 74), (.t 77)]), 3, none, 3⟩, ⟨some 79, (.mv (.t 9)), 3, none, 0⟩, ⟨some 80, (.bin .eql 3 (.t 78) (.t 79)), 4, none, 0⟩, ⟨some 8, (.mv (.t 80)), 4, none, 0⟩] (some [8]))
                                  .ret)
                                .skip))))))))))))
        (.seq
          (.region false [⟨some 8, (.mv (.c (.bool false))), 4, none, 0⟩] (some [8]))
          .ret))))⟩
theorem fok_142 : FnOk Try.prog 142 fa_142 an_142 := ⟨Try.f142, _, Try.func142, rfl, by kernel_rfl, rfl, rfl, by decide, by kernel_rfl⟩
/-- slices.Index(()string,string) -/
def an_199 : Ann := ⟨[], [(0, [0, 1]), (1, [0, 1, 7, 8]), (2, [0, 1, 7, 8, 9]), (3, [0, 1, 5, 7, 8]), (4, [0, 1, 5, 7, 8, 16]), (5, [4]), (6, [0, 1, 7, 8]), (7, [4])], [(2, [0, 1, 7, 8], [])], []⟩
def lb_199_2 : AC :=
  (.seq
    (.region false [⟨some 9, (.bin .lss 3 (.t 8) (.t 7)), 0, none, 0⟩] (some [0, 1, 7, 8, 9]))
    (.seq
      (.cond (.t 9)
        .skip
        (.exit 0))
      (.seq
        (.block 1
          (.seq
            (.region false [⟨some 10, (.mv (.t 8)), 3, none, 0⟩, ⟨some 5, (.mv (.t 10)), 3, none, 0⟩] (some [0, 1, 5, 7, 8]))
            (.seq
              (.region false [⟨some 11, (.mv (.t 1)), 9, none, 0⟩, ⟨some 12, (.mv (.t 0)), 123, none, 0⟩, ⟨some 13, (.mv (.t 5)), 3, none, 0⟩, ⟨some 14, (.iaddr 123 (.t 12) (.t 13)), 0, none, 0⟩, ⟨some 15, (.load 9 (.t 14)), 9, none, 0⟩, ⟨some 16, (.bin .eql 9 (.t 11) (.t 15)), 4, none, 0⟩] (some [0, 1, 5, 7, 8, 16]))
              (.cond (.t 16)
                (.seq
                  (.region false [⟨some 17, (.mv (.t 5)), 3, none, 0⟩, ⟨some 4, (.mv (.t 17)), 3, none, 0⟩] (some [4]))
                  .ret)
                .skip))))
        (.region false [⟨some 18, (.bin .add 3 (.t 8) (.c (.int .i64 1))), 3, none, 0⟩, ⟨some 8, (.mv (.t 18)), 3, none, 0⟩] (some [0, 1, 7, 8])))))
def fa_199 : FnA := ⟨19, [.t 4],
  (.seq
    (.region false [⟨some 4, (.mv (.c (.int .i64 0))), 3, none, 0⟩] (some [0, 1]))
    (.seq
      (.seq
        (.region false [⟨some 6, (.mv (.t 0)), 123, none, 0⟩, ⟨some 7, (.len 123 (.t 6)), 3, none, 0⟩, ⟨some 8, (.mv (.c (.int .i64 0))), 3, none, 0⟩] (some [0, 1, 7, 8]))
        (.block 0
          (.loop [0, 1, 7, 8] [] lb_199_2)))
      (.seq
        (.region false [⟨some 4, (.mv (.c (.int .i64 (-1)))), 3, none, 0⟩] (some [4]))
        .ret)))⟩
theorem fok_199 : FnOk Try.prog 199 fa_199 an_199 := ⟨Try.f199, _, Try.func199, rfl, by kernel_rfl, rfl, rfl, by decide, by kernel_rfl⟩
/-- slices.Contains(()string,string) -/
def an_173 : Ann := ⟨[(1, 2, 3)], [(0, [0, 1]), (1, [4])], [], []⟩
def fa_173 : FnA := ⟨9, [.t 4],
  (.seq
    (.region false [⟨some 4, (.mv (.c (.bool false))), 4, none, 0⟩] (some [0, 1]))
    (.seq
      (.region false [⟨some 5, (.mv (.t 0)), 123, none, 0⟩, ⟨some 6, (.mv (.t 1)), 9, none, 0⟩, ⟨some 7, (.call (.f 199) [(.t 5), (.t 6)]), 3, none, 3⟩, ⟨some 8, (.bin .geq 3 (.t 7) (.c (.int .i64 0))), 4, none, 0⟩, ⟨some 4, (.mv (.t 8)), 4, none, 0⟩] (some [4]))
      .ret))⟩
theorem fok_173 : FnOk Try.prog 173 fa_173 an_173 := ⟨Try.f173, _, Try.func173, rfl, by kernel_rfl, rfl, rfl, by decide, by kernel_rfl⟩
/-- impl.isProperty -/
def an_105 : Ann := ⟨[(1, 2, 3)], [(0, [0]), (1, [2])], [], []⟩
def fa_105 : FnA := ⟨6, [.t 2],
  (.seq
    (.region false [⟨some 2, (.mv (.c (.bool false))), 4, none, 0⟩] (some [0]))
    (.seq
      (.region false [⟨some 3, (.bslice 123 5 [(0, (.c (.str [112, 114, 101, 108, 105, 110, 101, 97, 114]))), (1, (.c (.str [100, 105, 118, 105, 115, 105, 98, 108, 101]))), (2, (.c (.str [105, 110, 118, 111, 108, 117, 116, 105, 118, 101]))), (3, (.c (.str [105, 100, 101, 109, 112, 111, 116, 101, 110, 116]))), (4, (.c (.str [98, 111, 111, 108, 101, 97, 110])))]), 123, none, 0⟩, ⟨some 4, (.mv (.t 0)), 9, none, 0⟩, ⟨some 5, (.call (.f 173) [(.t 3), (.t 4)]), 4, none, 3⟩, ⟨some 2, (.mv (.t 5)), 4, none, 0⟩] (some [2]))
      .ret))⟩
theorem fok_105 : FnOk Try.prog 105 fa_105 an_105 := ⟨Try.f105, _, Try.func105, rfl, by kernel_rfl, rfl, rfl, by decide, by kernel_rfl⟩
/-- impl.HasProperty -/
def an_67 : Ann := ⟨[(1, 1, 3), (1, 5, 3), (9, 4, 3)], [(0, [0, 3]), (1, [0, 3, 14]), (2, [4]), (3, [0, 3, 17, 18]), (4, [0, 3, 17, 18, 19]), (5, [0, 3, 5, 17, 18]), (6, [0, 3, 5, 17, 18, 23, 24]), (7, [0, 3, 5, 17, 18, 23, 24, 25]), (8, [0, 3, 5, 6, 17, 18, 23, 24]), (9, [0, 3, 5, 17, 18, 23, 24, 32]), (10, [4]), (11, [0, 3, 5, 17, 18, 23, 24]), (12, [0, 3, 17, 18]), (13, [4])], [(4, [0, 3, 17, 18], []), (7, [0, 3, 5, 17, 18, 23, 24], [])], []⟩
def lb_67_7 : AC :=
  (.seq
    (.region false [⟨some 25, (.bin .lss 3 (.t 24) (.t 23)), 0, none, 0⟩] (some [0, 3, 5, 17, 18, 23, 24, 25]))
    (.seq
      (.cond (.t 25)
        .skip
        (.exit 2))
      (.seq
        (.block 3
          (.seq
            (.region false [⟨some 26, (.mv (.t 24)), 3, none, 0⟩, ⟨some 6, (.mv (.t 26)), 3, none, 0⟩] (some [0, 3, 5, 6, 17, 18, 23, 24]))
            (.seq
              (.region false [⟨some 27, (.mv (.t 0)), 9, none, 0⟩, ⟨some 28, (.load 28 (.t 3)), 28, none, 0⟩, ⟨some 29, (.mv (.t 5)), 3, none, 0⟩, ⟨some 30, (.mv (.t 6)), 3, none, 0⟩, ⟨some 31, (.call (.f 142) [(.t 27), (.t 28), (.t 29), (.t 30)]), 4, none, 3⟩, ⟨some 32, (.un .not (.t 31)), 4, none, 0⟩] (some [0, 3, 5, 17, 18, 23, 24, 32]))
              (.cond (.t 32)
                (.seq
                  (.region false [⟨some 4, (.mv (.c (.bool false))), 4, none, 0⟩] (some [4]))
                  .ret)
                .skip))))
        (.region false [⟨some 33, (.bin .add 3 (.t 24) (.c (.int .i64 1))), 3, none, 0⟩, ⟨some 24, (.mv (.t 33)), 3, none, 0⟩] (some [0, 3, 5, 17, 18, 23, 24])))))
def lb_67_4 : AC :=
  (.seq
    (.region false [⟨some 19, (.bin .lss 3 (.t 18) (.t 17)), 0, none, 0⟩] (some [0, 3, 17, 18, 19]))
    (.seq
      (.cond (.t 19)
        .skip
        (.exit 0))
      (.seq
        (.block 1
          (.seq
            (.region false [⟨some 20, (.mv (.t 18)), 3, none, 0⟩, ⟨some 5, (.mv (.t 20)), 3, none, 0⟩] (some [0, 3, 5, 17, 18]))
            (.seq
              (.region false [⟨some 21, (.faddr 28 (.t 3) 0), 0, none, 0⟩, ⟨some 22, (.load 22 (.t 21)), 22, none, 0⟩, ⟨some 23, (.len 22 (.t 22)), 3, none, 0⟩, ⟨some 24, (.mv (.c (.int .i64 0))), 3, none, 0⟩] (some [0, 3, 5, 17, 18, 23, 24]))
              (.block 2
                (.loop [0, 3, 5, 17, 18, 23, 24] [] lb_67_7)))))
        (.region false [⟨some 34, (.bin .add 3 (.t 18) (.c (.int .i64 1))), 3, none, 0⟩, ⟨some 18, (.mv (.t 34)), 3, none, 0⟩] (some [0, 3, 17, 18])))))
def fa_67 : FnA := ⟨35, [.t 4],
  (.seq
    (.region false [⟨some 3, (.box 28 (.t 1)), 0, none, 0⟩, ⟨some 4, (.mv (.c (.bool false))), 4, none, 0⟩] (some [0, 3]))
    (.seq
      (.seq
        (.region false (gops [⟨some 7, (.mv (.t 0)), 9, none, 0⟩, ⟨some 8, (.call (.f 105) [(.t 7)]), 4, none, 3⟩, ⟨some 9, (.un .not (.t 8)), 4, none, 0⟩, ⟨some 10, (.mv (.t 9)), 4, none, 0⟩, ⟨some 11, (.load 28 (.t 3)), 28, some (10, false), 0⟩, ⟨some 12, (.call (.f 36) [(.t 11)]), 4, some (10, false), 3⟩, ⟨some 13, (.un .not (.t 12)), 4, some (10, false), 0⟩, ⟨some 14, (.pick (.t 10) (.c (.bool true)) (.t 13)), 4, none, 0⟩]) (some [0, 3, 14]))
        (.cond (.t 14)
          (.seq
            (.region false [⟨some 4, (.mv (.c (.bool false))), 4, none, 0⟩] (some [4]))
            .ret)
          .skip))
      (.seq
        (.seq
          (.region false [⟨some 15, (.faddr 28 (.t 3) 0), 0, none, 0⟩, ⟨some 16, (.load 22 (.t 15)), 22, none, 0⟩, ⟨some 17, (.len 22 (.t 16)), 3, none, 0⟩, ⟨some 18, (.mv (.c (.int .i64 0))), 3, none, 0⟩] (some [0, 3, 17, 18]))
          (.block 0
            (.loop [0, 3, 17, 18] [] lb_67_4)))
        (.seq
          (.region false [⟨some 4, (.mv (.c (.bool true))), 4, none, 0⟩] (some [4]))
          .ret))))⟩
theorem fok_67 : FnOk Try.prog 67 fa_67 an_67 := ⟨Try.f67, _, Try.func67, rfl, by kernel_rfl, rfl, rfl, by decide, by kernel_rfl⟩
end Go.PS
end

section
-- Contracts: a property at two elements.
set_option maxRecDepth 100000
set_option linter.unusedVariables false
set_option linter.unusedSimpArgs false
namespace Go.PS
open Go.Proofs

abbrev sPre : List UInt8 := [112, 114, 101, 108, 105, 110, 101, 97, 114]
abbrev sDiv : List UInt8 := [100, 105, 118, 105, 115, 105, 98, 108, 101]
abbrev sInv : List UInt8 := [105, 110, 118, 111, 108, 117, 116, 105, 118, 101]
abbrev sIde : List UInt8 := [105, 100, 101, 109, 112, 111, 116, 101, 110, 116]
abbrev sBoo : List UInt8 := [98, 111, 111, 108, 101, 97, 110]
/-- A property of two elements. -/
def hoM (u : List Int) (t : List (List Int)) (nm : List UInt8) (x y : Nat) : Bool :=
  if nm = sPre then decide (joinM u (implyM u t x y).toNat (implyM u t y x).toNat = (u.length : Int) - 1)
  else if nm = sDiv then decide (tm t x (implyM u t x y).toNat = meetM u x y)
  else if nm = sInv then decide (implyM u t (implyM u t x 0).toNat 0 = x)
  else if nm = sIde then decide (tm t x x = x)
  else if nm = sBoo then decide (joinM u x (implyM u t x 0).toNat = (u.length : Int) - 1)
  else false

set_option maxHeartbeats 2000000 in
theorem holdsI_pc (nm : List UInt8) (u : List Int) (t : List (List Int)) (x y : Int) (f : TF u t) (hx0 : 0 ≤ x) (hx : x.toNat < u.length) (hy0 : 0 ≤ y) (hy : y.toNat < u.length) : PC Try.prog 142 [.str nm, AL u t, I64 x, I64 y] none true (fun r _ => r = .bool (hoM u t nm x.toNat y.toNat)) := by
  obtain ⟨x, rfl⟩ := Int.eq_ofNat_of_zero_le hx0
  obtain ⟨y, rfl⟩ := Int.eq_ofNat_of_zero_le hy0
  simp only [Int.toNat_natCast] at hx hy ⊢
  have v := f.lat
  have h6 := v.six
  have r1 := v.imply_rng (t := t) (x := x) (y := y)
  have r2 := v.imply_rng (t := t) (x := y) (y := x)
  have r3 := v.imply_rng (t := t) (x := x) (y := 0)
  have w1 : IntKind.i64.wrap ((u.length : Int) - 1) = u.length - 1 := wrap64 (by omega) (by omega)
  refine pcT [fm_implyI, fm_joinI, fm_meetI, fm_notI] fok_142 ?_
  by_cases c1 : nm = sPre
  · subst c1
    simp [fa_142, hoM, f, hx, hy, w1, r1, r2, v.sm, show (implyM u t x y).toNat < u.length by omega, show (implyM u t y x).toNat < u.length by omega]
  · by_cases c2 : nm = sDiv
    · subst c2
      simp [fa_142, hoM, f, hx, hy, w1, r1, r2, h6, f.len, f.rows, show (implyM u t x y).toNat < u.length by omega]
    · by_cases c3 : nm = sInv
      · subst c3
        simp [fa_142, hoM, f, hx, hy, w1, r3, show (implyM u t x 0).toNat < u.length by omega]
      · by_cases c4 : nm = sIde
        · subst c4
          simp [fa_142, hoM, f, hx, hy, w1, f.len, f.rows]
        · by_cases c5 : nm = sBoo
          · subst c5
            simp [fa_142, hoM, f, hx, hy, w1, r3, v.sm, show (implyM u t x 0).toNat < u.length by omega]
          · simp [fa_142, hoM, w1, c1, c2, c3, c4, c5]
noncomputable def fm_holdsI : Fam Try.prog := mkFam (X := List UInt8 × List Int × List (List Int) × Int × Int) 142 true (fun (nm, u, t, x, y) => [.str nm, AL u t, I64 x, I64 y]) (fun (nm, u, t, x, y) => (TF u t) ∧ (0 ≤ x) ∧ (x.toNat < u.length) ∧ (0 ≤ y) ∧ (y.toNat < u.length)) (fun (nm, u, t, x, y) => .bool (hoM u t nm x.toNat y.toNat)) (by
  rintro ⟨nm, u, t, x, y⟩ ⟨f, hx0, hx, hy0, hy⟩
  exact holdsI_pc nm u t x y f hx0 hx hy0 hy)
@[simp] theorem fm_holdsI_id : fm_holdsI.id = 142 := rfl
@[simp] theorem fm_holdsI_fresh : fm_holdsI.fresh = true := rfl
@[simp] theorem fm_holdsI_look (nm : List UInt8) (u : List Int) (t : List (List Int)) (x y : Int) (f : TF u t) (hx0 : 0 ≤ x) (hx : x.toNat < u.length) (hy0 : 0 ≤ y) (hy : y.toNat < u.length) : fm_holdsI.look [.str nm, AL u t, I64 x, I64 y] = some (.bool (hoM u t nm x.toNat y.toNat)) :=
  lookF_of (X := List UInt8 × List Int × List (List Int) × Int × Int) (args := fun (nm, u, t, x, y) => [.str nm, AL u t, I64 x, I64 y]) (pre := fun (nm, u, t, x, y) => (TF u t) ∧ (0 ≤ x) ∧ (x.toNat < u.length) ∧ (0 ≤ y) ∧ (y.toNat < u.length)) (val := fun (nm, u, t, x, y) => .bool (hoM u t nm x.toNat y.toNat)) (by
  rintro ⟨nm, u, t, x, y⟩ ⟨nm', u', t', x', y'⟩ h
  simp at h
  try simp only [and_assoc] at h
  obtain ⟨rfl, rfl, rfl, rfl, rfl⟩ := h
  rfl) (nm, u, t, x, y) ⟨f, hx0, hx, hy0, hy⟩
attribute [irreducible] fm_holdsI
end Go.PS
end

section
-- Contracts: properties.
set_option maxRecDepth 100000
set_option linter.unusedVariables false
set_option linter.unusedSimpArgs false
namespace Go.PS
open Go.Proofs

def strsD (ss : List (List UInt8)) : List D := ss.map D.str
abbrev SL (ss : List (List UInt8)) : D := .list 1 (strsD ss)
def gs (ss : List (List UInt8)) (i : Nat) : List UInt8 := ss[i]?.getD []
@[simp] theorem strsD_length {ss : List (List UInt8)} : (strsD ss).length = ss.length := by simp [strsD]
@[simp] theorem idxK_strs {ss : List (List UInt8)} {n : Int} {K : D → Prop} : idxK (strsD ss) n K ↔ 0 ≤ n ∧ n < ss.length ∧ K (.str (gs ss n.toNat)) := by
  have e : gs ss n.toNat = ss.getD n.toNat default := by unfold gs; rw [List.getD_eq_getElem?_getD]; rfl
  rw [e]; exact idxK_map
@[simp] theorem strsD_inj {a b : List (List UInt8)} : strsD a = strsD b ↔ a = b := by
  constructor
  · intro h
    have := congrArg (List.map (fun d : D => match d with | .str s => s | _ => [])) h
    simpa [strsD, Function.comp_def] using this
  · rintro rfl; rfl

theorem idxStr_pc (ss : List (List UInt8)) (s : List UInt8) (hl : Big ss.length) : PC Try.prog 199 [SL ss, .str s] none true (fun r _ => r = I64 (firstI ss.length fun i => decide (s = gs ss i))) := by
  have hl := hl.le
  refine pcT [] fok_199 ?_
  simp [fa_199]
  refine loopA (tabK_mono _) ss.length (fun i => [(8, I64 i)]) (fun _ => []) (fun j => decide (s = gs ss j) = false) (by simp) (by simp) (fun i g hi hP => ?_)
  simp [lb_199_2, wrap_succ hi hl]
  refine ⟨fun h => ?_, fun h => ?_⟩
  · by_cases e : s = gs ss i
    · have er : firstI ss.length (fun i => decide (s = gs ss i)) = i := firstI_some h (by simp [e]) hP
      simp [h, e, er]
      simp [e] at er
      exact er.symm
    · simp [h, e, wrap_succ hi hl]
  · have er : firstI ss.length (fun i => decide (s = gs ss i)) = -1 := firstI_none (fun j hj => hP j (by omega))
    rw [er]
noncomputable def fm_idxStr : Fam Try.prog := mkFam (X := List (List UInt8) × List UInt8) 199 true (fun (ss, s) => [SL ss, .str s]) (fun (ss, s) => (Big ss.length)) (fun (ss, s) => I64 (firstI ss.length fun i => decide (s = gs ss i))) (by
  rintro ⟨ss, s⟩ hl
  exact idxStr_pc ss s hl)
@[simp] theorem fm_idxStr_id : fm_idxStr.id = 199 := rfl
@[simp] theorem fm_idxStr_fresh : fm_idxStr.fresh = true := rfl
@[simp] theorem fm_idxStr_look (ss : List (List UInt8)) (s : List UInt8) (hl : Big ss.length) : fm_idxStr.look [SL ss, .str s] = some (I64 (firstI ss.length fun i => decide (s = gs ss i))) :=
  lookF_of (X := List (List UInt8) × List UInt8) (args := fun (ss, s) => [SL ss, .str s]) (pre := fun (ss, s) => (Big ss.length)) (val := fun (ss, s) => I64 (firstI ss.length fun i => decide (s = gs ss i))) (by
  rintro ⟨ss, s⟩ ⟨ss', s'⟩ h
  simp at h
  try simp only [and_assoc] at h
  obtain ⟨rfl, rfl⟩ := h
  rfl) (ss, s) hl
attribute [irreducible] fm_idxStr
theorem contStr_pc (ss : List (List UInt8)) (s : List UInt8) (hl : Big ss.length) : PC Try.prog 173 [SL ss, .str s] none true (fun r _ => r = .bool (decide (s ∈ ss))) := by
  refine pcT [fm_idxStr] fok_173 ?_
  simp [fa_173, hl]
  constructor
  · intro h
    rcases firstI_range (n := ss.length) (p := fun i => decide (s = gs ss i)) with h1 | ⟨z, hz, hp, h1⟩
    · rw [h1] at h; omega
    · have e : s = gs ss z := of_decide_eq_true hp
      rw [e, gs, List.getElem?_eq_getElem hz]
      exact List.getElem_mem hz
  · intro h
    obtain ⟨i, hi, e⟩ := List.mem_iff_getElem.1 h
    rcases firstI_range (n := ss.length) (p := fun i => decide (s = gs ss i)) with h1 | ⟨z, hz, hp, h1⟩
    · exfalso
      unfold firstI at h1
      split at h1
      · omega
      · rename_i hn
        rw [List.find?_eq_none] at hn
        have := hn i (by simpa using hi)
        simp [gs, List.getElem?_eq_getElem hi, e] at this
    · rw [h1]; omega
noncomputable def fm_contStr : Fam Try.prog := mkFam (X := List (List UInt8) × List UInt8) 173 true (fun (ss, s) => [SL ss, .str s]) (fun (ss, s) => (Big ss.length)) (fun (ss, s) => .bool (decide (s ∈ ss))) (by
  rintro ⟨ss, s⟩ hl
  exact contStr_pc ss s hl)
@[simp] theorem fm_contStr_id : fm_contStr.id = 173 := rfl
@[simp] theorem fm_contStr_fresh : fm_contStr.fresh = true := rfl
@[simp] theorem fm_contStr_look (ss : List (List UInt8)) (s : List UInt8) (hl : Big ss.length) : fm_contStr.look [SL ss, .str s] = some (.bool (decide (s ∈ ss))) :=
  lookF_of (X := List (List UInt8) × List UInt8) (args := fun (ss, s) => [SL ss, .str s]) (pre := fun (ss, s) => (Big ss.length)) (val := fun (ss, s) => .bool (decide (s ∈ ss))) (by
  rintro ⟨ss, s⟩ ⟨ss', s'⟩ h
  simp at h
  try simp only [and_assoc] at h
  obtain ⟨rfl, rfl⟩ := h
  rfl) (ss, s) hl
attribute [irreducible] fm_contStr
def propM (nm : List UInt8) : Bool := decide (nm ∈ [sPre, sDiv, sInv, sIde, sBoo])
theorem isPropI_pc (nm : List UInt8)  : PC Try.prog 105 [.str nm] none true (fun r _ => r = .bool (propM nm)) := by
  have l1 : fm_contStr.look [.list 1 [.str sPre, .str sDiv, .str sInv, .str sIde, .str sBoo], .str nm] = some (.bool (propM nm)) := fm_contStr_look [sPre, sDiv, sInv, sIde, sBoo] nm (by unfold Big; simp)
  refine pcT [fm_contStr] fok_105 ?_
  simp [fa_105, l1, rg5]
noncomputable def fm_isPropI : Fam Try.prog := mkFam (X := List UInt8) 105 true (fun nm => [.str nm]) (fun nm => True) (fun nm => .bool (propM nm)) (by
  rintro nm _
  exact isPropI_pc nm)
@[simp] theorem fm_isPropI_id : fm_isPropI.id = 105 := rfl
@[simp] theorem fm_isPropI_fresh : fm_isPropI.fresh = true := rfl
@[simp] theorem fm_isPropI_look (nm : List UInt8)  : fm_isPropI.look [.str nm] = some (.bool (propM nm)) :=
  lookF_of (X := List UInt8) (args := fun nm => [.str nm]) (pre := fun nm => True) (val := fun nm => .bool (propM nm)) (by
  intro nm nm' h
  simp at h
  subst h
  rfl) nm trivial
attribute [irreducible] fm_isPropI

def hasA (u : List Int) (t : List (List Int)) (nm : List UInt8) : Bool := allR u.length fun x => allR u.length (hoM u t nm x)
noncomputable def hasM (u : List Int) (t : List (List Int)) (nm : List UInt8) : Bool := propM nm && decide (VA u t) && hasA u t nm

theorem HasI_pc (nm : List UInt8) (u : List Int) (t : List (List Int)) (hu : Big u.length) (ht : BigR t) : PC Try.prog 67 [.str nm, AL u t] none true (fun r _ => r = .bool (hasM u t nm)) := by
  have hul := hu.le
  refine pcT [fm_isPropI, fm_validAlgebraI, fm_holdsI] fok_67 ?_
  simp [fa_67]
  refine cutW (tabK_mono _) [(14, .bool (!(propM nm && decide (VA u t))))] (by
    cases hb : propM nm
    · simp [hb]
    · simp [hb, hu, ht]) ?_
  cases hb : (propM nm && decide (VA u t))
  · simp [hasM, hb]
  · have h := hb
    simp only [Bool.and_eq_true, decide_eq_true_eq] at h
    have f := h.2.tf
    have e : hasM u t nm = hasA u t nm := by simp [hasM, hb]
    rw [e]
    simp
    refine loopA (tabK_mono _) u.length (fun i => [(18, I64 i)]) (fun _ => []) (fun x => ∀ y, y < u.length → hoM u t nm x y = true) (by simp) (by simp) (fun x g hx hP => ?_)
    simp [lb_67_4, wrap_succ hx hul]
    refine ⟨fun h2 => ?_, fun h2 => ?_⟩
    · refine loopA (tabK_mono _) u.length (fun i => [(24, I64 i)]) (fun _ => []) (fun y => hoM u t nm x y = true) (by simp) (by simp) (fun y g2 hy hQ => ?_)
      simp [lb_67_7, wrap_succ hy hul]
      refine ⟨fun h3 => ?_, fun h3 => ?_⟩
      · cases hc : hoM u t nm x y
        · simp [f, h2, h3, hc]
          apply Bool.eq_false_iff.2
          intro hA
          unfold hasA at hA
          rw [allR_iff] at hA
          have := hA x h2
          rw [allR_iff] at this
          rw [this y h3] at hc
          cases hc
        · simp [f, h2, h3, hc, wrap_succ hy hul]
      · simp [wrap_succ hx hul, h2]
        exact fun y hy => hQ y (by omega)
    · show hasA u t nm = true
      unfold hasA
      rw [allR_iff]
      intro x hx
      rw [allR_iff]
      exact hP x (by omega)
noncomputable def fm_HasI : Fam Try.prog := mkFam (X := List UInt8 × List Int × List (List Int)) 67 true (fun (nm, u, t) => [.str nm, AL u t]) (fun (nm, u, t) => (Big u.length) ∧ (BigR t)) (fun (nm, u, t) => .bool (hasM u t nm)) (by
  rintro ⟨nm, u, t⟩ ⟨hu, ht⟩
  exact HasI_pc nm u t hu ht)
@[simp] theorem fm_HasI_id : fm_HasI.id = 67 := rfl
@[simp] theorem fm_HasI_fresh : fm_HasI.fresh = true := rfl
@[simp] theorem fm_HasI_look (nm : List UInt8) (u : List Int) (t : List (List Int)) (hu : Big u.length) (ht : BigR t) : fm_HasI.look [.str nm, AL u t] = some (.bool (hasM u t nm)) :=
  lookF_of (X := List UInt8 × List Int × List (List Int)) (args := fun (nm, u, t) => [.str nm, AL u t]) (pre := fun (nm, u, t) => (Big u.length) ∧ (BigR t)) (val := fun (nm, u, t) => .bool (hasM u t nm)) (by
  rintro ⟨nm, u, t⟩ ⟨nm', u', t'⟩ h
  simp at h
  try simp only [and_assoc] at h
  obtain ⟨rfl, rfl, rfl⟩ := h
  rfl) (nm, u, t) ⟨hu, ht⟩
attribute [irreducible] fm_HasI

section
variable {u : List Int} {t : List (List Int)}
theorem hasA_iff {nm : List UInt8} : hasA u t nm = true ↔ ∀ x, x < u.length → ∀ y, y < u.length → hoM u t nm x y = true := by
  unfold hasA; simp only [allR_iff]
theorem ho_id (a : VA u t) {x y : Nat} (hx : x < u.length) : hoM u t sIde x y = true ↔ ID t x := by
  have h := a.tn_int hx hx
  simp only [hoM, show ¬ (sIde = sPre) by decide, show ¬ (sIde = sDiv) by decide, show ¬ (sIde = sInv) by decide, if_false, if_true, decide_eq_true_eq]
  rw [h]
  unfold ID
  omega
end
end Go.PS
end

section
-- PRINTED by gen.py: clean texts of functions, and their tie to the program.
set_option maxRecDepth 100000
namespace Go.PS
open Go.Proofs
/-- spec.FixedOf -/
def an_64 : Ann := ⟨[(1, 1, 3), (3, 0, 1)], [(0, [1]), (1, [1, 7]), (2, [2]), (3, [1, 3]), (4, [1, 3, 4]), (5, [1, 3, 4, 13]), (7, [1, 3, 4, 25]), (8, [1, 3, 4]), (6, [1, 3, 4]), (9, [2])], [(5, [1, 3, 4], [64, 232])], []⟩
def lb_64_5 : AC :=
  (.seq
    (.seq
      (.region false [⟨some 9, (.mv (.t 4)), 3, none, 0⟩, ⟨some 10, (.faddr 28 (.t 1) 0), 0, none, 0⟩, ⟨some 11, (.load 22 (.t 10)), 22, none, 0⟩, ⟨some 12, (.len 22 (.t 11)), 3, none, 0⟩, ⟨some 13, (.bin .lss 3 (.t 9) (.t 12)), 4, none, 0⟩] (some [1, 3, 4, 13]))
      (.cond (.t 13)
        .skip
        (.exit 0)))
    (.seq
      (.block 1
        (.seq
          (.region false [⟨some 16, (.faddr 28 (.t 1) 1), 0, none, 0⟩, ⟨some 17, (.load 23 (.t 16)), 23, none, 0⟩, ⟨some 18, (.mv (.t 4)), 3, none, 0⟩, ⟨some 19, (.iaddr 23 (.t 17) (.t 18)), 0, none, 0⟩, ⟨some 20, (.load 22 (.t 19)), 22, none, 0⟩, ⟨some 21, (.mv (.t 4)), 3, none, 0⟩, ⟨some 22, (.iaddr 22 (.t 20) (.t 21)), 0, none, 0⟩, ⟨some 23, (.load 3 (.t 22)), 3, none, 0⟩, ⟨some 24, (.mv (.t 4)), 3, none, 0⟩, ⟨some 25, (.bin .eql 3 (.t 23) (.t 24)), 4, none, 0⟩] (some [1, 3, 4, 25]))
          (.cond (.t 25)
            (.region false [⟨some 26, (.mv (.t 3)), 22, none, 0⟩, ⟨some 27, (.mv (.t 4)), 3, none, 0⟩, ⟨some 28, (.bslice 22 1 [(0, (.t 27))]), 22, none, 0⟩, ⟨some 29, (.app 22 22 (.t 26) (.t 28)), 22, none, 0⟩, ⟨some 3, (.mv (.t 29)), 22, none, 0⟩] (some [1, 3, 4]))
            .skip)))
      (.region false [⟨some 14, (.mv (.t 4)), 3, none, 0⟩, ⟨some 15, (.bin .add 3 (.t 14) (.c (.int .i64 1))), 3, none, 0⟩, ⟨some 4, (.mv (.t 15)), 3, none, 0⟩] (some [1, 3, 4]))))
def fa_64 : FnA := ⟨31, [.t 2],
  (.seq
    (.region false [⟨some 1, (.box 28 (.t 0)), 0, none, 0⟩, ⟨some 2, (.mv (.c .nil)), 22, none, 0⟩] (some [1]))
    (.seq
      (.seq
        (.region false [⟨some 5, (.load 28 (.t 1)), 28, none, 0⟩, ⟨some 6, (.call (.f 88) [(.t 5)]), 4, none, 3⟩, ⟨some 7, (.un .not (.t 6)), 4, none, 0⟩] (some [1, 7]))
        (.cond (.t 7)
          (.seq
            (.region false [⟨some 2, (.mv (.c .nil)), 22, none, 0⟩] (some [2]))
            .ret)
          .skip))
      (.seq
        (.region false [⟨some 8, (.bslice 22 0 []), 22, none, 1⟩, ⟨some 3, (.mv (.t 8)), 22, none, 0⟩] (some [1, 3]))
        (.seq
          (.seq
            (.region false [⟨some 4, (.mv (.c (.int .i64 0))), 3, none, 0⟩] (some [1, 3, 4]))
            (.block 0
              (.loop [1, 3, 4] [64, 232] lb_64_5)))
          (.seq
            (.region false [⟨some 30, (.mv (.t 3)), 22, none, 0⟩, ⟨some 2, (.mv (.t 30)), 22, none, 0⟩] (some [2]))
            .ret)))))⟩
theorem fok_64 : FnOk Try.prog 64 fa_64 an_64 := ⟨Try.f64, _, Try.func64, rfl, by kernel_rfl, rfl, rfl, by decide, by kernel_rfl⟩
/-- impl.elementsWith -/
def an_141 : Ann := ⟨[(1, 1, 3), (3, 0, 1), (7, 4, 3)], [(0, [1, 2]), (1, [1, 2, 9]), (2, [4]), (3, [1, 2, 5]), (4, [1, 2, 5, 13, 14]), (5, [1, 2, 5, 13, 14, 15]), (6, [1, 2, 5, 6, 13, 14]), (7, [1, 2, 5, 6, 13, 14, 21]), (8, [1, 2, 5, 13, 14]), (9, [1, 2, 5, 13, 14]), (10, [4])], [(5, [1, 2, 5, 13, 14], [80, 200])], []⟩
def lb_141_5 : AC :=
  (.seq
    (.region false [⟨some 15, (.bin .lss 3 (.t 14) (.t 13)), 0, none, 0⟩] (some [1, 2, 5, 13, 14, 15]))
    (.seq
      (.cond (.t 15)
        .skip
        (.exit 0))
      (.seq
        (.block 1
          (.seq
            (.region false [⟨some 16, (.mv (.t 14)), 3, none, 0⟩, ⟨some 6, (.mv (.t 16)), 3, none, 0⟩] (some [1, 2, 5, 6, 13, 14]))
            (.seq
              (.region false [⟨some 17, (.mv (.t 1)), 9, none, 0⟩, ⟨some 18, (.load 28 (.t 2)), 28, none, 0⟩, ⟨some 19, (.mv (.t 6)), 3, none, 0⟩, ⟨some 20, (.mv (.t 6)), 3, none, 0⟩, ⟨some 21, (.call (.f 142) [(.t 17), (.t 18), (.t 19), (.t 20)]), 4, none, 3⟩] (some [1, 2, 5, 6, 13, 14, 21]))
              (.cond (.t 21)
                (.region false [⟨some 22, (.mv (.t 5)), 22, none, 0⟩, ⟨some 23, (.mv (.t 6)), 3, none, 0⟩, ⟨some 24, (.bslice 22 1 [(0, (.t 23))]), 22, none, 0⟩, ⟨some 25, (.app 22 22 (.t 22) (.t 24)), 22, none, 0⟩, ⟨some 5, (.mv (.t 25)), 22, none, 0⟩] (some [1, 2, 5, 13, 14]))
                .skip))))
        (.region false [⟨some 26, (.bin .add 3 (.t 14) (.c (.int .i64 1))), 3, none, 0⟩, ⟨some 14, (.mv (.t 26)), 3, none, 0⟩] (some [1, 2, 5, 13, 14])))))
def fa_141 : FnA := ⟨28, [.t 4],
  (.seq
    (.region false [⟨some 2, (.box 28 (.t 0)), 0, none, 0⟩, ⟨some 4, (.mv (.c .nil)), 22, none, 0⟩] (some [1, 2]))
    (.seq
      (.seq
        (.region false [⟨some 7, (.load 28 (.t 2)), 28, none, 0⟩, ⟨some 8, (.call (.f 36) [(.t 7)]), 4, none, 3⟩, ⟨some 9, (.un .not (.t 8)), 4, none, 0⟩] (some [1, 2, 9]))
        (.cond (.t 9)
          (.seq
            (.region false [⟨some 4, (.mv (.c .nil)), 22, none, 0⟩] (some [4]))
            .ret)
          .skip))
      (.seq
        (.region false [⟨some 10, (.bslice 22 0 []), 22, none, 1⟩, ⟨some 5, (.mv (.t 10)), 22, none, 0⟩] (some [1, 2, 5]))
        (.seq
          (.seq
            (.region false [⟨some 11, (.faddr 28 (.t 2) 0), 0, none, 0⟩, ⟨some 12, (.load 22 (.t 11)), 22, none, 0⟩, ⟨some 13, (.len 22 (.t 12)), 3, none, 0⟩, ⟨some 14, (.mv (.c (.int .i64 0))), 3, none, 0⟩] (some [1, 2, 5, 13, 14]))
            (.block 0
              (.loop [1, 2, 5, 13, 14] [80, 200] lb_141_5)))
          (.seq
            (.region false [⟨some 27, (.mv (.t 5)), 22, none, 0⟩, ⟨some 4, (.mv (.t 27)), 22, none, 0⟩] (some [4]))
            .ret)))))⟩
theorem fok_141 : FnOk Try.prog 141 fa_141 an_141 := ⟨Try.f141, _, Try.func141, rfl, by kernel_rfl, rfl, rfl, by decide, by kernel_rfl⟩
/-- impl.FixedOf -/
def an_62 : Ann := ⟨[(1, 1, 1)], [(0, [1]), (1, [2])], [], []⟩
def fa_62 : FnA := ⟨5, [.t 2],
  (.seq
    (.region false [⟨some 1, (.box 28 (.t 0)), 0, none, 0⟩, ⟨some 2, (.mv (.c .nil)), 22, none, 0⟩] (some [1]))
    (.seq
      (.region false [⟨some 3, (.load 28 (.t 1)), 28, none, 0⟩, ⟨some 4, (.call (.f 141) [(.t 3), (.c (.str [105, 100, 101, 109, 112, 111, 116, 101, 110, 116]))]), 22, none, 1⟩, ⟨some 2, (.mv (.t 4)), 22, none, 0⟩] (some [2]))
      .ret))⟩
theorem fok_62 : FnOk Try.prog 62 fa_62 an_62 := ⟨Try.f62, _, Try.func62, rfl, by kernel_rfl, rfl, rfl, by decide, by kernel_rfl⟩
/-- laws.isIn -/
def an_65 : Ann := ⟨[], [(0, [0, 1]), (1, [0, 1, 5]), (2, [0, 1, 5, 9]), (4, [0, 1, 5, 17]), (5, [4]), (3, [0, 1, 5]), (6, [4])], [(2, [0, 1, 5], [])], []⟩
def lb_65_2 : AC :=
  (.seq
    (.seq
      (.region false [⟨some 6, (.mv (.t 5)), 3, none, 0⟩, ⟨some 7, (.mv (.t 0)), 22, none, 0⟩, ⟨some 8, (.len 22 (.t 7)), 3, none, 0⟩, ⟨some 9, (.bin .lss 3 (.t 6) (.t 8)), 4, none, 0⟩] (some [0, 1, 5, 9]))
      (.cond (.t 9)
        .skip
        (.exit 0)))
    (.seq
      (.block 1
        (.seq
          (.region false [⟨some 12, (.mv (.t 0)), 22, none, 0⟩, ⟨some 13, (.mv (.t 5)), 3, none, 0⟩, ⟨some 14, (.iaddr 22 (.t 12) (.t 13)), 0, none, 0⟩, ⟨some 15, (.load 3 (.t 14)), 3, none, 0⟩, ⟨some 16, (.mv (.t 1)), 3, none, 0⟩, ⟨some 17, (.bin .eql 3 (.t 15) (.t 16)), 4, none, 0⟩] (some [0, 1, 5, 17]))
          (.cond (.t 17)
            (.seq
              (.region false [⟨some 4, (.mv (.c (.bool true))), 4, none, 0⟩] (some [4]))
              .ret)
            .skip)))
      (.region false [⟨some 10, (.mv (.t 5)), 3, none, 0⟩, ⟨some 11, (.bin .add 3 (.t 10) (.c (.int .i64 1))), 3, none, 0⟩, ⟨some 5, (.mv (.t 11)), 3, none, 0⟩] (some [0, 1, 5]))))
def fa_65 : FnA := ⟨18, [.t 4],
  (.seq
    (.region false [⟨some 4, (.mv (.c (.bool false))), 4, none, 0⟩] (some [0, 1]))
    (.seq
      (.seq
        (.region false [⟨some 5, (.mv (.c (.int .i64 0))), 3, none, 0⟩] (some [0, 1, 5]))
        (.block 0
          (.loop [0, 1, 5] [] lb_65_2)))
      (.seq
        (.region false [⟨some 4, (.mv (.c (.bool false))), 4, none, 0⟩] (some [4]))
        .ret)))⟩
theorem fok_65 : FnOk Try.prog 65 fa_65 an_65 := ⟨Try.f65, _, Try.func65, rfl, by kernel_rfl, rfl, rfl, by decide, by kernel_rfl⟩
/-- laws.equalInts -/
def an_63 : Ann := ⟨[], [(0, [0, 1]), (1, [0, 1, 10]), (2, [4]), (3, [0, 1, 5]), (4, [0, 1, 5, 14]), (6, [0, 1, 5, 25]), (7, [4]), (5, [0, 1, 5]), (8, [4])], [(4, [0, 1, 5], [])], []⟩
def lb_63_4 : AC :=
  (.seq
    (.seq
      (.region false [⟨some 11, (.mv (.t 5)), 3, none, 0⟩, ⟨some 12, (.mv (.t 0)), 22, none, 0⟩, ⟨some 13, (.len 22 (.t 12)), 3, none, 0⟩, ⟨some 14, (.bin .lss 3 (.t 11) (.t 13)), 4, none, 0⟩] (some [0, 1, 5, 14]))
      (.cond (.t 14)
        .skip
        (.exit 0)))
    (.seq
      (.block 1
        (.seq
          (.region true [⟨some 17, (.mv (.t 0)), 22, none, 0⟩, ⟨some 18, (.mv (.t 5)), 3, none, 0⟩, ⟨some 19, (.iaddr 22 (.t 17) (.t 18)), 0, none, 0⟩, ⟨some 20, (.load 3 (.t 19)), 3, none, 0⟩, ⟨some 21, (.mv (.t 1)), 22, none, 0⟩, ⟨some 22, (.mv (.t 5)), 3, none, 0⟩, ⟨some 23, (.iaddr 22 (.t 21) (.t 22)), 0, none, 0⟩, ⟨some 24, (.load 3 (.t 23)), 3, none, 0⟩, ⟨some 25, (.bin .neq 3 (.t 20) (.t 24)), 4, none, 0⟩] (some [0, 1, 5, 25]))
          (.cond (.t 25)
            (.seq
              (.region false [⟨some 4, (.mv (.c (.bool false))), 4, none, 0⟩] (some [4]))
              .ret)
            .skip)))
      (.region false [⟨some 15, (.mv (.t 5)), 3, none, 0⟩, ⟨some 16, (.bin .add 3 (.t 15) (.c (.int .i64 1))), 3, none, 0⟩, ⟨some 5, (.mv (.t 16)), 3, none, 0⟩] (some [0, 1, 5]))))
def fa_63 : FnA := ⟨26, [.t 4],
  (.seq
    (.region false [⟨some 4, (.mv (.c (.bool false))), 4, none, 0⟩] (some [0, 1]))
    (.seq
      (.seq
        (.region false [⟨some 6, (.mv (.t 0)), 22, none, 0⟩, ⟨some 7, (.len 22 (.t 6)), 3, none, 0⟩, ⟨some 8, (.mv (.t 1)), 22, none, 0⟩, ⟨some 9, (.len 22 (.t 8)), 3, none, 0⟩, ⟨some 10, (.bin .neq 3 (.t 7) (.t 9)), 4, none, 0⟩] (some [0, 1, 10]))
        (.cond (.t 10)
          (.seq
            (.region false [⟨some 4, (.mv (.c (.bool false))), 4, none, 0⟩] (some [4]))
            .ret)
          .skip))
      (.seq
        (.seq
          (.region false [⟨some 5, (.mv (.c (.int .i64 0))), 3, none, 0⟩] (some [0, 1, 5]))
          (.block 0
            (.loop [0, 1, 5] [] lb_63_4)))
        (.seq
          (.region false [⟨some 4, (.mv (.c (.bool true))), 4, none, 0⟩] (some [4]))
          .ret))))⟩
theorem fok_63 : FnOk Try.prog 63 fa_63 an_63 := ⟨Try.f63, _, Try.func63, rfl, by kernel_rfl, rfl, rfl, by decide, by kernel_rfl⟩
/-- laws.FnFixedOf -/
def an_14 : Ann := ⟨[(3, 1, 3), (4, 1, 3), (5, 2, 3), (5, 3, 3), (5, 7, 3), (6, 2, 3), (6, 3, 3), (13, 15, 3), (13, 29, 3), (13, 30, 3), (15, 7, 3)], [(0, [0]), (1, [0, 9]), (2, [2]), (3, [3]), (4, [3, 4]), (5, [3, 4, 23]), (6, [2]), (7, [3, 4, 5]), (8, [3, 4, 5, 31]), (10, [3, 4, 5, 6]), (11, [3, 4, 5, 6, 37]), (13, [3, 4, 5, 6, 72]), (14, [2]), (12, [3, 4, 5, 6]), (9, [3, 4, 5]), (15, [2])], [(8, [3, 4, 5], [24]), (11, [3, 4, 5, 6], [24])], []⟩
def lb_14_11 : AC :=
  (.seq
    (.seq
      (.region false [⟨some 34, (.mv (.t 6)), 3, none, 0⟩, ⟨some 35, (.mv (.t 4)), 22, none, 0⟩, ⟨some 36, (.len 22 (.t 35)), 3, none, 0⟩, ⟨some 37, (.bin .lss 3 (.t 34) (.t 36)), 4, none, 0⟩] (some [3, 4, 5, 6, 37]))
      (.cond (.t 37)
        .skip
        (.exit 2)))
    (.seq
      (.block 3
        (.seq
          (.region true (gops (seg [3, 4, 5, 6, 40, 48, 49] [⟨some 40, (.mv (.t 4)), 22, none, 0⟩, ⟨some 41, (.faddr 28 (.t 3) 1), 0, none, 0⟩, ⟨some 42, (.load 23 (.t 41)), 23, none, 0⟩, ⟨some 43, (.mv (.t 4)), 22, none, 0⟩, ⟨some 44, (.mv (.t 5)), 3, none, 0⟩, ⟨some 45, (.iaddr 22 (.t 43) (.t 44)), 0, none, 0⟩, ⟨some 46, (.load 3 (.t 45)), 3, none, 0⟩, ⟨some 47, (.iaddr 23 (.t 42) (.t 46)), 0, none, 0⟩, ⟨some 48, (.load 22 (.t 47)), 22, none, 0⟩, ⟨some 49, (.mv (.t 4)), 22, none, 0⟩]
          (seg [3, 4, 5, 6, 57, 58, 59] [⟨some 50, (.mv (.t 6)), 3, none, 0⟩, ⟨some 51, (.iaddr 22 (.t 49) (.t 50)), 0, none, 0⟩, ⟨some 52, (.load 3 (.t 51)), 3, none, 0⟩, ⟨some 53, (.iaddr 22 (.t 48) (.t 52)), 0, none, 0⟩, ⟨some 54, (.load 3 (.t 53)), 3, none, 0⟩, ⟨some 55, (.call (.f 65) [(.t 40), (.t 54)]), 4, none, 3⟩, ⟨some 56, (.un .not (.t 55)), 4, none, 0⟩, ⟨some 57, (.mv (.t 56)), 4, none, 0⟩, ⟨some 58, (.mv (.t 4)), 22, some (57, false), 0⟩, ⟨some 59, (.faddr 28 (.t 3) 0), 0, some (57, false), 0⟩]
          [⟨some 60, (.load 22 (.t 59)), 22, some (57, false), 0⟩, ⟨some 61, (.mv (.t 4)), 22, some (57, false), 0⟩, ⟨some 62, (.mv (.t 5)), 3, some (57, false), 0⟩, ⟨some 63, (.iaddr 22 (.t 61) (.t 62)), 0, some (57, false), 0⟩, ⟨some 64, (.load 3 (.t 63)), 3, some (57, false), 0⟩, ⟨some 65, (.mv (.t 4)), 22, some (57, false), 0⟩, ⟨some 66, (.mv (.t 6)), 3, some (57, false), 0⟩, ⟨some 67, (.iaddr 22 (.t 65) (.t 66)), 0, some (57, false), 0⟩, ⟨some 68, (.load 3 (.t 67)), 3, some (57, false), 0⟩, ⟨some 69, (.call (.f 66) [(.t 60), (.t 64), (.t 68)]), 3, some (57, false), 3⟩, ⟨some 70, (.call (.f 65) [(.t 58), (.t 69)]), 4, some (57, false), 3⟩, ⟨some 71, (.un .not (.t 70)), 4, some (57, false), 0⟩, ⟨some 72, (.pick (.t 57) (.c (.bool true)) (.t 71)), 4, none, 0⟩] [3, 4, 5, 6, 72] (by decide)) [3, 4, 5, 6, 72] (by decide))) (some [3, 4, 5, 6, 72]))
          (.cond (.t 72)
            (.seq
              (.region false [⟨some 2, (.mv (.c (.bool false))), 4, none, 0⟩] (some [2]))
              .ret)
            .skip)))
      (.region false [⟨some 38, (.mv (.t 6)), 3, none, 0⟩, ⟨some 39, (.bin .add 3 (.t 38) (.c (.int .i64 1))), 3, none, 0⟩, ⟨some 6, (.mv (.t 39)), 3, none, 0⟩] (some [3, 4, 5, 6]))))
def lb_14_8 : AC :=
  (.seq
    (.seq
      (.region false [⟨some 28, (.mv (.t 5)), 3, none, 0⟩, ⟨some 29, (.mv (.t 4)), 22, none, 0⟩, ⟨some 30, (.len 22 (.t 29)), 3, none, 0⟩, ⟨some 31, (.bin .lss 3 (.t 28) (.t 30)), 4, none, 0⟩] (some [3, 4, 5, 31]))
      (.cond (.t 31)
        .skip
        (.exit 0)))
    (.seq
      (.block 1
        (.seq
          (.region false [⟨some 6, (.mv (.c (.int .i64 0))), 3, none, 0⟩] (some [3, 4, 5, 6]))
          (.block 2
            (.loop [3, 4, 5, 6] [24] lb_14_11))))
      (.region false [⟨some 32, (.mv (.t 5)), 3, none, 0⟩, ⟨some 33, (.bin .add 3 (.t 32) (.c (.int .i64 1))), 3, none, 0⟩, ⟨some 5, (.mv (.t 33)), 3, none, 0⟩] (some [3, 4, 5]))))
def fa_14 : FnA := ⟨82, [.t 2],
  (.seq
    (.region false [⟨some 2, (.mv (.c (.bool false))), 4, none, 0⟩] (some [0]))
    (.seq
      (.seq
        (.region false [⟨some 7, (.mv (.t 0)), 42, none, 0⟩, ⟨some 8, (.len 42 (.t 7)), 3, none, 0⟩, ⟨some 9, (.bin .gtr 3 (.t 8) (.c (.int .i64 1048576))), 4, none, 0⟩] (some [0, 9]))
        (.cond (.t 9)
          (.seq
            (.region false [⟨some 2, (.mv (.c (.bool true))), 4, none, 0⟩] (some [2]))
            .ret)
          .skip))
      (.seq
        (.region false [⟨some 10, (.mv (.t 0)), 42, none, 0⟩, ⟨some 11, (.call (.f 61) [(.t 10)]), 28, none, 3⟩, ⟨some 3, (.alloc 28), 0, none, 0⟩, ⟨none, (.store 28 (.t 3) (.t 11)), 0, none, 0⟩] (some [3]))
        (.seq
          (.region false [⟨some 12, (.load 28 (.t 3)), 28, none, 0⟩, ⟨some 13, (.call (.f 62) [(.t 12)]), 22, none, 3⟩, ⟨some 4, (.mv (.t 13)), 22, none, 0⟩] (some [3, 4]))
          (.seq
            (.seq
              (.region false (gops [⟨some 14, (.mv (.t 4)), 22, none, 0⟩, ⟨some 15, (.load 28 (.t 3)), 28, none, 0⟩, ⟨some 16, (.call (.f 64) [(.t 15)]), 22, none, 3⟩, ⟨some 17, (.call (.f 63) [(.t 14), (.t 16)]), 4, none, 3⟩, ⟨some 18, (.un .not (.t 17)), 4, none, 0⟩, ⟨some 19, (.mv (.t 18)), 4, none, 0⟩, ⟨some 20, (.load 28 (.t 3)), 28, some (19, false), 0⟩, ⟨some 21, (.call (.f 36) [(.t 20)]), 4, some (19, false), 3⟩, ⟨some 22, (.un .not (.t 21)), 4, some (19, false), 0⟩, ⟨some 23, (.pick (.t 19) (.c (.bool true)) (.t 22)), 4, none, 0⟩]) (some [3, 4, 23]))
              (.cond (.t 23)
                (.seq
                  (.region false [⟨some 24, (.mv (.t 4)), 22, none, 0⟩, ⟨some 25, (.load 28 (.t 3)), 28, none, 0⟩, ⟨some 26, (.call (.f 64) [(.t 25)]), 22, none, 3⟩, ⟨some 27, (.call (.f 63) [(.t 24), (.t 26)]), 4, none, 3⟩, ⟨some 2, (.mv (.t 27)), 4, none, 0⟩] (some [2]))
                  .ret)
                .skip))
            (.seq
              (.seq
                (.region false [⟨some 5, (.mv (.c (.int .i64 0))), 3, none, 0⟩] (some [3, 4, 5]))
                (.block 0
                  (.loop [3, 4, 5] [24] lb_14_8)))
              (.seq
                (.region true [⟨some 73, (.mv (.t 4)), 22, none, 0⟩, ⟨some 74, (.len 22 (.t 73)), 3, none, 0⟩, ⟨some 75, (.faddr 28 (.t 3) 0), 0, none, 0⟩, ⟨some 76, (.load 22 (.t 75)), 22, none, 0⟩, ⟨some 77, (.len 22 (.t 76)), 3, none, 0⟩, ⟨some 78, (.bin .eql 3 (.t 74) (.t 77)), 4, none, 0⟩, ⟨some 79, (.load 28 (.t 3)), 28, none, 0⟩, ⟨some 80, (.call (.f 67) [(.c (.str [105, 100, 101, 109, 112, 111, 116, 101, 110, 116])), (.t 79)]), 4, none, 3⟩, ⟨some 81, (.bin .eql 4 (.t 78) (.t 80)), 4, none, 0⟩, ⟨some 2, (.mv (.t 81)), 4, none, 0⟩] (some [2]))
                .ret)))))))⟩
theorem fok_14 : FnOk Try.prog 14 fa_14 an_14 := ⟨Try.f14, _, Try.func14, rfl, by kernel_rfl, rfl, rfl, by decide, by kernel_rfl⟩
end Go.PS
end

section
-- Contracts: fixed elements; lists of the laws.
set_option maxRecDepth 100000
set_option linter.unusedVariables false
set_option linter.unusedSimpArgs false
namespace Go.PS
open Go.Proofs

/-- The elements with a property. -/
def elW (n : Nat) (p : Nat → Bool) : List Int := ((List.range n).filter p).map fun (x : Nat) => (x : Int)
theorem elW_succ {n : Nat} {p : Nat → Bool} : elW (n + 1) p = elW n p ++ (if p n then [(n : Int)] else []) := by
  unfold elW
  rw [List.range_succ, List.filter_append, List.map_append]
  cases h : p n <;> simp [h]
theorem elW_len {n : Nat} {p : Nat → Bool} : (elW n p).length ≤ n := by
  unfold elW
  rw [List.length_map]
  have := List.length_filter_le p (List.range n)
  simpa using this

theorem elemsI_pc (u : List Int) (t : List (List Int)) (nm : List UInt8) (hu : Big u.length) (ht : BigR t) : PC Try.prog 141 [AL u t, .str nm] none true (fun r _ => r = IO1 (if VA u t then elW u.length (fun x => hoM u t nm x x) else [])) := by
  have hul := hu.le
  refine pcT [fm_validAlgebraI, fm_holdsI] fok_141 ?_
  by_cases a : VA u t
  · have f := a.tf
    simp [fa_141, hu, ht, a]
    refine loopX (tabK_mono _) u.length (fun i γ => [(5, .arr 80 γ), (14, I64 i)]) (fun i γ => [⟨80, γ, .arr 1 (ints (elW i fun x => hoM u t nm x x))⟩]) (fun _ _ => True) 1 (by simp) (by simp [elW, ints_nil]) trivial (fun i γ g hi _ => ?_)
    simp [lb_141_5, wrap_succ hi hul]
    refine ⟨fun h => ?_, fun h => ?_⟩
    · have hs := elW_succ (n := i) (p := fun x => hoM u t nm x x)
      have hle := elW_len (n := i) (p := fun x => hoM u t nm x x)
      cases hb : hoM u t nm i i
      · rw [hb] at hs
        simp at hs
        simp [h, f, hb, hs, wrap_succ hi hul]
      · rw [hb] at hs
        simp at hs
        simp [h, f, hb, hs, wrap_succ hi hul]
        exact le_big (by omega)
    · obtain rfl : i = u.length := by omega
      simp
  · simp [fa_141, hu, ht, a, ints_nil]
noncomputable def fm_elemsI : Fam Try.prog := mkFam (X := List Int × List (List Int) × List UInt8) 141 true (fun (u, t, nm) => [AL u t, .str nm]) (fun (u, t, nm) => (Big u.length) ∧ (BigR t)) (fun (u, t, nm) => IO1 (if VA u t then elW u.length (fun x => hoM u t nm x x) else [])) (by
  rintro ⟨u, t, nm⟩ ⟨hu, ht⟩
  exact elemsI_pc u t nm hu ht)
@[simp] theorem fm_elemsI_id : fm_elemsI.id = 141 := rfl
@[simp] theorem fm_elemsI_fresh : fm_elemsI.fresh = true := rfl
@[simp] theorem fm_elemsI_look (u : List Int) (t : List (List Int)) (nm : List UInt8) (hu : Big u.length) (ht : BigR t) : fm_elemsI.look [AL u t, .str nm] = some (IO1 (if VA u t then elW u.length (fun x => hoM u t nm x x) else [])) :=
  lookF_of (X := List Int × List (List Int) × List UInt8) (args := fun (u, t, nm) => [AL u t, .str nm]) (pre := fun (u, t, nm) => (Big u.length) ∧ (BigR t)) (val := fun (u, t, nm) => IO1 (if VA u t then elW u.length (fun x => hoM u t nm x x) else [])) (by
  rintro ⟨u, t, nm⟩ ⟨u', t', nm'⟩ h
  simp at h
  try simp only [and_assoc] at h
  obtain ⟨rfl, rfl, rfl⟩ := h
  rfl) (u, t, nm) ⟨hu, ht⟩
attribute [irreducible] fm_elemsI
noncomputable def fixM (u : List Int) (t : List (List Int)) : List Int := if VA u t then elW u.length (fun x => decide (tm t x x = x)) else []
theorem FixedI_pc (u : List Int) (t : List (List Int)) (hu : Big u.length) (ht : BigR t) : PC Try.prog 62 [AL u t] none true (fun r _ => r = IO1 (fixM u t)) := by
  have l1 := fm_elemsI_look u t sIde hu ht
  have e : (fun x => hoM u t sIde x x) = fun x => decide (tm t x x = x) := by funext x; simp [hoM]
  rw [e] at l1
  refine pcT [fm_elemsI] fok_62 ?_
  simp [fa_62]
  refine callO1 fm_elemsI (by simp) (by simp) (v := IO1 (fixM u t)) (by simp; exact l1) ?_
  simp
noncomputable def fm_FixedI : Fam Try.prog := mkFam (X := List Int × List (List Int)) 62 true (fun (u, t) => [AL u t]) (fun (u, t) => (Big u.length) ∧ (BigR t)) (fun (u, t) => IO1 (fixM u t)) (by
  rintro ⟨u, t⟩ ⟨hu, ht⟩
  exact FixedI_pc u t hu ht)
@[simp] theorem fm_FixedI_id : fm_FixedI.id = 62 := rfl
@[simp] theorem fm_FixedI_fresh : fm_FixedI.fresh = true := rfl
@[simp] theorem fm_FixedI_look (u : List Int) (t : List (List Int)) (hu : Big u.length) (ht : BigR t) : fm_FixedI.look [AL u t] = some (IO1 (fixM u t)) :=
  lookF_of (X := List Int × List (List Int)) (args := fun (u, t) => [AL u t]) (pre := fun (u, t) => (Big u.length) ∧ (BigR t)) (val := fun (u, t) => IO1 (fixM u t)) (by
  rintro ⟨u, t⟩ ⟨u', t'⟩ h
  simp at h
  try simp only [and_assoc] at h
  obtain ⟨rfl, rfl⟩ := h
  rfl) (u, t) ⟨hu, ht⟩
attribute [irreducible] fm_FixedI
theorem FixedS_pc (u : List Int) (t : List (List Int)) (hu : Big u.length) (ht : BigR t) : PC Try.prog 64 [AL u t] none true (fun r _ => r = IO1 (fixM u t)) := by
  have hul := hu.le
  refine pcT [fm_validAlgebraS] fok_64 ?_
  unfold fixM
  by_cases a : VA u t
  · have f := a.tf
    simp [fa_64, hu, ht, a]
    refine loopX (tabK_mono _) u.length (fun i γ => [(3, .arr 64 γ), (4, I64 i)]) (fun i γ => [⟨64, γ, .arr 1 (ints (elW i fun x => decide (tm t x x = x)))⟩]) (fun _ _ => True) 1 (by simp) (by simp [elW, ints_nil]) trivial (fun i γ g hi _ => ?_)
    simp [lb_64_5, wrap_succ hi hul]
    refine ⟨fun h => ?_, fun h => ?_⟩
    · have hs := elW_succ (n := i) (p := fun x => decide (tm t x x = x))
      have hle := elW_len (n := i) (p := fun x => decide (tm t x x = x))
      by_cases hb : tm t i i = i
      · simp [hb] at hs
        simp [h, f.len, f.rows, hb, hs, wrap_succ hi hul]
        exact le_big (by omega)
      · simp [hb] at hs
        simp [h, f.len, f.rows, hb, hs, wrap_succ hi hul]
    · obtain rfl : i = u.length := by omega
      simp
  · simp [fa_64, hu, ht, a, ints_nil]
noncomputable def fm_FixedS : Fam Try.prog := mkFam (X := List Int × List (List Int)) 64 true (fun (u, t) => [AL u t]) (fun (u, t) => (Big u.length) ∧ (BigR t)) (fun (u, t) => IO1 (fixM u t)) (by
  rintro ⟨u, t⟩ ⟨hu, ht⟩
  exact FixedS_pc u t hu ht)
@[simp] theorem fm_FixedS_id : fm_FixedS.id = 64 := rfl
@[simp] theorem fm_FixedS_fresh : fm_FixedS.fresh = true := rfl
@[simp] theorem fm_FixedS_look (u : List Int) (t : List (List Int)) (hu : Big u.length) (ht : BigR t) : fm_FixedS.look [AL u t] = some (IO1 (fixM u t)) :=
  lookF_of (X := List Int × List (List Int)) (args := fun (u, t) => [AL u t]) (pre := fun (u, t) => (Big u.length) ∧ (BigR t)) (val := fun (u, t) => IO1 (fixM u t)) (by
  rintro ⟨u, t⟩ ⟨u', t'⟩ h
  simp at h
  try simp only [and_assoc] at h
  obtain ⟨rfl, rfl⟩ := h
  rfl) (u, t) ⟨hu, ht⟩
attribute [irreducible] fm_FixedS

theorem isInL_pc (l : List Int) (n : Int) (hl : Big l.length) : PC Try.prog 65 [IL l, I64 n] none true (fun r _ => r = .bool (decide (n ∈ l))) := by
  have hl := hl.le
  refine pcT [] fok_65 ?_
  simp [fa_65]
  refine loopA (tabK_mono _) l.length (fun i => [(5, I64 i)]) (fun _ => []) (fun j => ¬ gi l j = n) (by simp) (by simp) (fun i g hi hP => ?_)
  simp [lb_65_2, wrap_succ hi hl]
  refine ⟨fun h => ?_, fun h => ?_⟩
  · refine ⟨h, fun e => ?_, fun e => ?_⟩
    · rw [← e]; exact gi_mem h
    · exact ⟨h, e⟩
  · intro hx
    obtain ⟨j, hj, e⟩ := List.mem_iff_getElem.1 hx
    have := hP j (by omega)
    simp [gi, List.getElem?_eq_getElem hj] at this
    exact this e
noncomputable def fm_isInL : Fam Try.prog := mkFam (X := List Int × Int) 65 true (fun (l, n) => [IL l, I64 n]) (fun (l, n) => (Big l.length)) (fun (l, n) => .bool (decide (n ∈ l))) (by
  rintro ⟨l, n⟩ hl
  exact isInL_pc l n hl)
@[simp] theorem fm_isInL_id : fm_isInL.id = 65 := rfl
@[simp] theorem fm_isInL_fresh : fm_isInL.fresh = true := rfl
@[simp] theorem fm_isInL_look (l : List Int) (n : Int) (hl : Big l.length) : fm_isInL.look [IL l, I64 n] = some (.bool (decide (n ∈ l))) :=
  lookF_of (X := List Int × Int) (args := fun (l, n) => [IL l, I64 n]) (pre := fun (l, n) => (Big l.length)) (val := fun (l, n) => .bool (decide (n ∈ l))) (by
  rintro ⟨l, n⟩ ⟨l', n'⟩ h
  simp at h
  try simp only [and_assoc] at h
  obtain ⟨rfl, rfl⟩ := h
  rfl) (l, n) hl
attribute [irreducible] fm_isInL
theorem eqInts_pc (a b : List Int) (ha : Big a.length) : PC Try.prog 63 [IL a, IL b] none true (fun r _ => r = .bool (decide (a = b))) := by
  refine pcT [] fok_63 ?_
  simp [fa_63]
  refine ⟨fun h e => h (by rw [e]), fun hl => ?_⟩
  refine loopA (tabK_mono _) a.length (fun i => [(5, I64 i)]) (fun _ => []) (fun j => gi a j = gi b j) (by simp) (by simp) (fun i g hi hP => ?_)
  simp [lb_63_4, wrap_succ hi ha]
  refine ⟨by grind, fun h => gi_ext (by omega) (fun j hj => hP j (by omega))⟩
noncomputable def fm_eqInts : Fam Try.prog := mkFam (X := List Int × List Int) 63 true (fun (a, b) => [IL a, IL b]) (fun (a, b) => (Big a.length)) (fun (a, b) => .bool (decide (a = b))) (by
  rintro ⟨a, b⟩ ha
  exact eqInts_pc a b ha)
@[simp] theorem fm_eqInts_id : fm_eqInts.id = 63 := rfl
@[simp] theorem fm_eqInts_fresh : fm_eqInts.fresh = true := rfl
@[simp] theorem fm_eqInts_look (a b : List Int) (ha : Big a.length) : fm_eqInts.look [IL a, IL b] = some (.bool (decide (a = b))) :=
  lookF_of (X := List Int × List Int) (args := fun (a, b) => [IL a, IL b]) (pre := fun (a, b) => (Big a.length)) (val := fun (a, b) => .bool (decide (a = b))) (by
  rintro ⟨a, b⟩ ⟨a', b'⟩ h
  simp at h
  try simp only [and_assoc] at h
  obtain ⟨rfl, rfl⟩ := h
  rfl) (a, b) ha
attribute [irreducible] fm_eqInts
end Go.PS
end

section
-- The law of fixed elements.
set_option maxRecDepth 100000
set_option linter.unusedVariables false
set_option linter.unusedSimpArgs false
namespace Go.PS
open Go.Proofs

theorem mem_elW {n : Nat} {p : Nat → Bool} {v : Int} : v ∈ elW n p ↔ ∃ x, x < n ∧ p x = true ∧ v = (x : Int) := by
  simp only [elW, List.mem_map, List.mem_filter, List.mem_range]
  constructor
  · rintro ⟨x, ⟨h1, h2⟩, rfl⟩; exact ⟨x, h1, h2, rfl⟩
  · rintro ⟨x, h1, h2, rfl⟩; exact ⟨x, ⟨h1, h2⟩, rfl⟩
theorem elW_all {n : Nat} {p : Nat → Bool} : (elW n p).length = n ↔ ∀ x, x < n → p x = true := by
  unfold elW
  rw [List.length_map]
  have h := List.length_filter_eq_length_iff (l := List.range n) (p := p)
  rw [List.length_range] at h
  rw [h]
  simp

set_option maxHeartbeats 2000000 in
theorem FnFixedOf_pc (c : List Int) (hl : Hu c.length) (hc : Byt c) : PC Try.prog 14 [BL c] none true (fun r _ => r = .bool true) := by
  have hl' := hl.le
  refine pcT [fm_drFixed, fm_FixedI, fm_FixedS, fm_eqInts, fm_validAlgebraI, fm_isInL, fm_JoinI, fm_HasI] fok_14 ?_
  rcases Nat.lt_or_ge 1048576 c.length with q | q
  · simp [fa_14, show ((1048576 : Int) < c.length) by omega]
  · have hbig : Big c.length := by unfold Big; omega
    have l1 := fm_drFixed_look c hc hbig
    obtain ⟨g, _⟩ := saM_few (rdB_ok hc) (p := 0) (by omega)
    have hu := g.big
    have ht := g.bigR
    generalize saM (rdB c) 0 = A at *
    obtain ⟨⟨u, t⟩, p1⟩ := A
    dsimp only at *
    have hul := hu.le
    have hfl : (fixM u t).length ≤ u.length := by
      unfold fixM; split
      · exact elW_len
      · simp
    have hfb : Big (fixM u t).length := by unfold Big; omega
    simp [fa_14, show ¬ ((1048576 : Int) < c.length) by omega, show ((c.length : Int) ≤ 1048576) by omega, l1, hu, ht]
    refine cutW (tabK_mono _) [(23, .bool (!decide (VA u t)))] (by simp [hu, ht, hfb]) ?_
    simp [hu, ht, hfb]
    refine fun a => ?_
    have v := a.lat
    have eF : fixM u t = elW u.length (fun x => decide (tm t x x = x)) := by unfold fixM; rw [if_pos a]
    have hmem : ∀ {w : Int}, w ∈ fixM u t ↔ ∃ x, x < u.length ∧ tm t x x = x ∧ w = (x : Int) := fun {w} => by
      rw [eF, mem_elW]; simp
    have hlen : ((fixM u t).length = u.length) ↔ hasA u t sIde = true := by
      rw [eF, elW_all, hasA_iff]
      constructor
      · intro h x hx y hy
        exact (ho_id a hx).2 (by have := of_decide_eq_true (h x hx); unfold ID; rw [tn, this]; simp)
      · intro h x hx
        have := (ho_id a hx).1 (h x hx x hx)
        unfold ID at this
        rw [a.tn_int hx hx, this]; simp
    have hI : hasM u t sIde = hasA u t sIde := by simp [hasM, a, propM]
    generalize fixM u t = l at *
    refine loopA (tabK_mono _) l.length (fun i => [(5, I64 i)]) (fun _ => [⟨24, 1, .cells [IL u, RL t]⟩]) (fun _ => True) (by simp) (by simp) (fun i g hi _ => ?_)
    simp [lb_14_8, wrap_succ hi (show l.length ≤ 1099511627776 by omega)]
    refine ⟨fun h1 => ?_, fun h1 => ?_⟩
    · refine loopA (tabK_mono _) l.length (fun j => [(6, I64 j)]) (fun _ => [⟨24, 1, .cells [IL u, RL t]⟩]) (fun _ => True) (by simp) (by simp) (fun j g2 hj _ => ?_)
      simp [lb_14_11, wrap_succ hj (show l.length ≤ 1099511627776 by omega)]
      refine ⟨fun h2 => ?_, fun h2 => ?_⟩
      · obtain ⟨x, hx, fx, ex⟩ := hmem.1 (gi_mem h1)
        obtain ⟨y, hy, fy, ey⟩ := hmem.1 (gi_mem h2)
        have fx' : tn t x x = x := by rw [tn, fx]; simp
        have fy' : tn t y y = y := by rw [tn, fy]; simp
        have s1 := a.tn_int hx hy
        have s2 := a.tn_lt hx hy
        have s3 := v.jo_lt hx hy
        have k1 : ((tn t x y : Nat) : Int) ∈ l := hmem.2 ⟨tn t x y, s2, by rw [a.tn_int s2 s2, a.fix_mul hx hy fx' fy'], rfl⟩
        have k2 : ((jo u x y : Nat) : Int) ∈ l := hmem.2 ⟨jo u x y, s3, by rw [a.tn_int s3 s3, a.fix_jo hx hy fx' fy'], rfl⟩
        have m1 := fm_isInL_look l (tn t x y) hfb
        have m2 := fm_isInL_look l (jo u x y) hfb
        have m3 := fm_JoinI_look u x y hu
        rw [decide_eq_true k1] at m1
        rw [decide_eq_true k2] at m2
        rw [show JoM u x y = (jo u x y : Nat) by simp [JoM, v, inE_nat hx, inE_nat hy, ← v.jo_int hx hy]] at m3
        generalize jo u x y = z at *
        generalize tn t x y = w at *
        refine cutWc (tabK_mono _) [(72, .bool false)] (by simp [h1, h2, ex, ey, hx, hy, a.len, a.rows, s1, m1, m2, m3]) ?_
        simp [wrap_succ hj (show l.length ≤ 1099511627776 by omega), h2]
      · simp [wrap_succ hi (show l.length ≤ 1099511627776 by omega), h1]
    · have m1 := fm_HasI_look sIde u t hu ht
      rw [hI] at m1
      simp [m1]
      rw [Bool.eq_iff_iff, ← hlen]
      simp
      omega
end Go.PS
end
