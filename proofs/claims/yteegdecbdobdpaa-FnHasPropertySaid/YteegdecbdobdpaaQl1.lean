/- Part 1 of what the last text proves: Boolean is idempotent and involutive: the law holds at every input. -/
import Derived.Test.YteegdecbdobdpaaQg8
section
-- PRINTED by gen.py: clean texts of functions, and their tie to the program.
set_option maxRecDepth 100000
namespace Go.PS
open Go.Proofs
/-- impl.holds -/
def an_142 : Ann := ⟨[(4, 5, 3), (4, 9, 3), (4, 10, 3), (6, 8, 3), (6, 15, 3), (8, 3, 3), (8, 4, 3), (12, 5, 3), (12, 6, 3)], [(0, [0, 2, 3, 5]), (1, [0, 2, 3, 5, 9]), (2, [2, 3, 5, 9, 14]), (3, [2, 3, 5, 9, 14, 15]), (4, [8]), (5, [2, 3, 5, 9, 14, 30]), (6, [8]), (7, [2, 5, 9, 14, 49]), (8, [8]), (9, [2, 5, 9, 14, 58]), (10, [8]), (11, [2, 5, 9, 70]), (12, [8]), (13, [8])], [], []⟩
def fa_142 : FnA := ⟨81, [.t 8],
  (.seq
    (.region false [⟨some 5, (.box 28 (.t 1)), 0, none, 0⟩, ⟨some 8, (.mv (.c (.bool false))), 4, none, 0⟩] (some [0, 2, 3, 5]))
    (.seq
      (.region false [⟨some 10, (.faddr 28 (.t 5) 0), 0, none, 0⟩, ⟨some 11, (.load 22 (.t 10)), 22, none, 0⟩, ⟨some 12, (.len 22 (.t 11)), 3, none, 0⟩, ⟨some 13, (.bin .sub 3 (.t 12) (.c (.int .i64 1))), 3, none, 0⟩, ⟨some 9, (.mv (.t 13)), 3, none, 0⟩] (some [0, 2, 3, 5, 9]))
      (.seq
        (.seq
          (.region false [⟨some 14, (.mv (.t 0)), 9, none, 0⟩] (some [2, 3, 5, 9, 14]))
          (.block 0
            (.seq
              (.region false [⟨some 16, (.bin .eql 9 (.t 14) (.c (.str [112, 114, 101, 108, 105, 110, 101, 97, 114]))), 4, none, 0⟩, ⟨some 15, (.mv (.t 16)), 4, none, 0⟩] (some [2, 3, 5, 9, 14, 15]))
              (.cond (.t 15)
                (.seq
                  (.region true [⟨some 17, (.faddr 28 (.t 5) 0), 0, none, 0⟩, ⟨some 18, (.load 22 (.t 17)), 22, none, 0⟩, ⟨some 19, (.load 28 (.t 5)), 28, none, 0⟩, ⟨some 20, (.mv (.t 2)), 3, none, 0⟩, ⟨some 21, (.mv (.t 3)), 3, none, 0⟩, ⟨some 22, (.call (.f 125) [(.t 19), (.t 20), (.t 21)]), 3, none, 3⟩, ⟨some 23, (.load 28 (.t 5)), 28, none, 0⟩, ⟨some 24, (.mv (.t 3)), 3, none, 0⟩, ⟨some 25, (.mv (.t 2)), 3, none, 0⟩, ⟨some 26, (.call (.f 125) [(.t 23), (.t 24), (.t 25)]), 3, none, 3⟩, ⟨some 27, (.call (.f 96) [(.t 18), (.t 22), (.t 26)]), 3, none, 3⟩, ⟨some 28, (.mv (.t 9)), 3, none, 0⟩, ⟨some 29, (.bin .eql 3 (.t 27) (.t 28)), 4, none, 0⟩, ⟨some 8, (.mv (.t 29)), 4, none, 0⟩] (some [8]))
                  .ret)
                (.seq
                  (.region false [⟨some 31, (.bin .eql 9 (.t 14) (.c (.str [100, 105, 118, 105, 115, 105, 98, 108, 101]))), 4, none, 0⟩, ⟨some 30, (.mv (.t 31)), 4, none, 0⟩] (some [2, 3, 5, 9, 14, 30]))
                  (.cond (.t 30)
                    (.seq
                      (.region true [⟨some 32, (.faddr 28 (.t 5) 1), 0, none, 0⟩, ⟨some 33, (.load 23 (.t 32)), 23, none, 0⟩, ⟨some 34, (.mv (.t 2)), 3, none, 0⟩, ⟨some 35, (.iaddr 23 (.t 33) (.t 34)), 0, none, 0⟩, ⟨some 36, (.load 22 (.t 35)), 22, none, 0⟩, ⟨some 37, (.load 28 (.t 5)), 28, none, 0⟩, ⟨some 38, (.mv (.t 2)), 3, none, 0⟩, ⟨some 39, (.mv (.t 3)), 3, none, 0⟩, ⟨some 40, (.call (.f 125) [(.t 37), (.t 38), (.t 39)]), 3, none, 3⟩, ⟨some 41, (.iaddr 22 (.t 36) (.t 40)), 0, none, 0⟩, ⟨some 42, (.load 3 (.t 41)), 3, none, 0⟩, ⟨some 43, (.faddr 28 (.t 5) 0), 0, none, 0⟩, ⟨some 44, (.load 22 (.t 43)), 22, none, 0⟩, ⟨some 45, (.mv (.t 2)), 3, none, 0⟩, ⟨some 46, (.mv (.t 3)), 3, none, 0⟩, ⟨some 47, (.call (.f 112) [(.t 44), (.t 45), (.t 46)]), 3, none, 3⟩, ⟨some 48, (.bin .eql 3 (.t 42) (.t 47)), 4, none, 0⟩, ⟨some 8, (.mv (.t 48)), 4, none, 0⟩] (some [8]))
                      .ret)
                    (.seq
                      (.region false [⟨some 50, (.bin .eql 9 (.t 14) (.c (.str [105, 110, 118, 111, 108, 117, 116, 105, 118, 101]))), 4, none, 0⟩, ⟨some 49, (.mv (.t 50)), 4, none, 0⟩] (some [2, 5, 9, 14, 49]))
                      (.cond (.t 49)
                        (.seq
                          (.region true [⟨some 51, (.load 28 (.t 5)), 28, none, 0⟩, ⟨some 52, (.load 28 (.t 5)), 28, none, 0⟩, ⟨some 53, (.mv (.t 2)), 3, none, 0⟩, ⟨some 54, (.call (.f 129) [(.t 52), (.t 53)]), 3, none, 3⟩, ⟨some 55, (.call (.f 129) [(.t 51), (.t 54)]), 3, none, 3⟩, ⟨some 56, (.mv (.t 2)), 3, none, 0⟩, ⟨some 57, (.bin .eql 3 (.t 55) (.t 56)), 4, none, 0⟩, ⟨some 8, (.mv (.t 57)), 4, none, 0⟩] (some [8]))
                          .ret)
                        (.seq
                          (.region false [⟨some 59, (.bin .eql 9 (.t 14) (.c (.str [105, 100, 101, 109, 112, 111, 116, 101, 110, 116]))), 4, none, 0⟩, ⟨some 58, (.mv (.t 59)), 4, none, 0⟩] (some [2, 5, 9, 14, 58]))
                          (.cond (.t 58)
                            (.seq
                              (.region false [⟨some 60, (.faddr 28 (.t 5) 1), 0, none, 0⟩, ⟨some 61, (.load 23 (.t 60)), 23, none, 0⟩, ⟨some 62, (.mv (.t 2)), 3, none, 0⟩, ⟨some 63, (.iaddr 23 (.t 61) (.t 62)), 0, none, 0⟩, ⟨some 64, (.load 22 (.t 63)), 22, none, 0⟩, ⟨some 65, (.mv (.t 2)), 3, none, 0⟩, ⟨some 66, (.iaddr 22 (.t 64) (.t 65)), 0, none, 0⟩, ⟨some 67, (.load 3 (.t 66)), 3, none, 0⟩, ⟨some 68, (.mv (.t 2)), 3, none, 0⟩, ⟨some 69, (.bin .eql 3 (.t 67) (.t 68)), 4, none, 0⟩, ⟨some 8, (.mv (.t 69)), 4, none, 0⟩] (some [8]))
                              .ret)
                            (.seq
                              (.region false [⟨some 71, (.bin .eql 9 (.t 14) (.c (.str [98, 111, 111, 108, 101, 97, 110]))), 4, none, 0⟩, ⟨some 70, (.mv (.t 71)), 4, none, 0⟩] (some [2, 5, 9, 70]))
                              (.cond (.t 70)
                                (.seq
                                  (.region true [⟨some 72, (.faddr 28 (.t 5) 0), 0, none, 0⟩, ⟨some 73, (.load 22 (.t 72)), 22, none, 0⟩, ⟨some 74, (.mv (.t 2)), 3, none, 0⟩, ⟨some 75, (.load 28 (.t 5)), 28, none, 0⟩, ⟨some 76, (.mv (.t 2)), 3, none, 0⟩, ⟨some 77, (.call (.f 129) [(.t 75), (.t 76)]), 3, none, 3⟩, ⟨some 78, (.call (.f 96) [(.t 73), (.t 74), (.t 77)]), 3, none, 3⟩, ⟨some 79, (.mv (.t 9)), 3, none, 0⟩, ⟨some 80, (.bin .eql 3 (.t 78) (.t 79)), 4, none, 0⟩, ⟨some 8, (.mv (.t 80)), 4, none, 0⟩] (some [8]))
                                  .ret)
                                .skip))))))))))))
        (.seq
          (.region false [⟨some 8, (.mv (.c (.bool false))), 4, none, 0⟩] (some [8]))
          .ret))))⟩
theorem fok_142 : FnOk Try.prog 142 fa_142 an_142 := ⟨Try.f142, _, Try.func142, rfl, by kernel_rfl, rfl, rfl, by decide, by kernel_rfl⟩
/-- slices.Index(()string,string) -/
def an_199 : Ann := ⟨[], [(0, [0, 1]), (1, [0, 1, 7, 8]), (2, [0, 1, 7, 8, 9]), (3, [0, 1, 5, 7, 8]), (4, [0, 1, 5, 7, 8, 16]), (5, [4]), (6, [0, 1, 7, 8]), (7, [4])], [(2, [0, 1, 7, 8], [])], []⟩
def lb_199_2 : AC :=
  (.seq
    (.region false [⟨some 9, (.bin .lss 3 (.t 8) (.t 7)), 0, none, 0⟩] (some [0, 1, 7, 8, 9]))
    (.seq
      (.cond (.t 9)
        .skip
        (.exit 0))
      (.seq
        (.block 1
          (.seq
            (.region false [⟨some 10, (.mv (.t 8)), 3, none, 0⟩, ⟨some 5, (.mv (.t 10)), 3, none, 0⟩] (some [0, 1, 5, 7, 8]))
            (.seq
              (.region false [⟨some 11, (.mv (.t 1)), 9, none, 0⟩, ⟨some 12, (.mv (.t 0)), 123, none, 0⟩, ⟨some 13, (.mv (.t 5)), 3, none, 0⟩, ⟨some 14, (.iaddr 123 (.t 12) (.t 13)), 0, none, 0⟩, ⟨some 15, (.load 9 (.t 14)), 9, none, 0⟩, ⟨some 16, (.bin .eql 9 (.t 11) (.t 15)), 4, none, 0⟩] (some [0, 1, 5, 7, 8, 16]))
              (.cond (.t 16)
                (.seq
                  (.region false [⟨some 17, (.mv (.t 5)), 3, none, 0⟩, ⟨some 4, (.mv (.t 17)), 3, none, 0⟩] (some [4]))
                  .ret)
                .skip))))
        (.region false [⟨some 18, (.bin .add 3 (.t 8) (.c (.int .i64 1))), 3, none, 0⟩, ⟨some 8, (.mv (.t 18)), 3, none, 0⟩] (some [0, 1, 7, 8])))))
def fa_199 : FnA := ⟨19, [.t 4],
  (.seq
    (.region false [⟨some 4, (.mv (.c (.int .i64 0))), 3, none, 0⟩] (some [0, 1]))
    (.seq
      (.seq
        (.region false [⟨some 6, (.mv (.t 0)), 123, none, 0⟩, ⟨some 7, (.len 123 (.t 6)), 3, none, 0⟩, ⟨some 8, (.mv (.c (.int .i64 0))), 3, none, 0⟩] (some [0, 1, 7, 8]))
        (.block 0
          (.loop [0, 1, 7, 8] [] lb_199_2)))
      (.seq
        (.region false [⟨some 4, (.mv (.c (.int .i64 (-1)))), 3, none, 0⟩] (some [4]))
        .ret)))⟩
theorem fok_199 : FnOk Try.prog 199 fa_199 an_199 := ⟨Try.f199, _, Try.func199, rfl, by kernel_rfl, rfl, rfl, by decide, by kernel_rfl⟩
/-- slices.Contains(()string,string) -/
def an_173 : Ann := ⟨[(1, 2, 3)], [(0, [0, 1]), (1, [4])], [], []⟩
def fa_173 : FnA := ⟨9, [.t 4],
  (.seq
    (.region false [⟨some 4, (.mv (.c (.bool false))), 4, none, 0⟩] (some [0, 1]))
    (.seq
      (.region false [⟨some 5, (.mv (.t 0)), 123, none, 0⟩, ⟨some 6, (.mv (.t 1)), 9, none, 0⟩, ⟨some 7, (.call (.f 199) [(.t 5), (.t 6)]), 3, none, 3⟩, ⟨some 8, (.bin .geq 3 (.t 7) (.c (.int .i64 0))), 4, none, 0⟩, ⟨some 4, (.mv (.t 8)), 4, none, 0⟩] (some [4]))
      .ret))⟩
theorem fok_173 : FnOk Try.prog 173 fa_173 an_173 := ⟨Try.f173, _, Try.func173, rfl, by kernel_rfl, rfl, rfl, by decide, by kernel_rfl⟩
/-- impl.isProperty -/
def an_105 : Ann := ⟨[(1, 2, 3)], [(0, [0]), (1, [2])], [], []⟩
def fa_105 : FnA := ⟨6, [.t 2],
  (.seq
    (.region false [⟨some 2, (.mv (.c (.bool false))), 4, none, 0⟩] (some [0]))
    (.seq
      (.region false [⟨some 3, (.bslice 123 5 [(0, (.c (.str [112, 114, 101, 108, 105, 110, 101, 97, 114]))), (1, (.c (.str [100, 105, 118, 105, 115, 105, 98, 108, 101]))), (2, (.c (.str [105, 110, 118, 111, 108, 117, 116, 105, 118, 101]))), (3, (.c (.str [105, 100, 101, 109, 112, 111, 116, 101, 110, 116]))), (4, (.c (.str [98, 111, 111, 108, 101, 97, 110])))]), 123, none, 0⟩, ⟨some 4, (.mv (.t 0)), 9, none, 0⟩, ⟨some 5, (.call (.f 173) [(.t 3), (.t 4)]), 4, none, 3⟩, ⟨some 2, (.mv (.t 5)), 4, none, 0⟩] (some [2]))
      .ret))⟩
theorem fok_105 : FnOk Try.prog 105 fa_105 an_105 := ⟨Try.f105, _, Try.func105, rfl, by kernel_rfl, rfl, rfl, by decide, by kernel_rfl⟩
/-- impl.HasProperty -/
def an_67 : Ann := ⟨[(1, 1, 3), (1, 5, 3), (9, 4, 3)], [(0, [0, 3]), (1, [0, 3, 14]), (2, [4]), (3, [0, 3, 17, 18]), (4, [0, 3, 17, 18, 19]), (5, [0, 3, 5, 17, 18]), (6, [0, 3, 5, 17, 18, 23, 24]), (7, [0, 3, 5, 17, 18, 23, 24, 25]), (8, [0, 3, 5, 6, 17, 18, 23, 24]), (9, [0, 3, 5, 17, 18, 23, 24, 32]), (10, [4]), (11, [0, 3, 5, 17, 18, 23, 24]), (12, [0, 3, 17, 18]), (13, [4])], [(4, [0, 3, 17, 18], []), (7, [0, 3, 5, 17, 18, 23, 24], [])], []⟩
def lb_67_7 : AC :=
  (.seq
    (.region false [⟨some 25, (.bin .lss 3 (.t 24) (.t 23)), 0, none, 0⟩] (some [0, 3, 5, 17, 18, 23, 24, 25]))
    (.seq
      (.cond (.t 25)
        .skip
        (.exit 2))
      (.seq
        (.block 3
          (.seq
            (.region false [⟨some 26, (.mv (.t 24)), 3, none, 0⟩, ⟨some 6, (.mv (.t 26)), 3, none, 0⟩] (some [0, 3, 5, 6, 17, 18, 23, 24]))
            (.seq
              (.region false [⟨some 27, (.mv (.t 0)), 9, none, 0⟩, ⟨some 28, (.load 28 (.t 3)), 28, none, 0⟩, ⟨some 29, (.mv (.t 5)), 3, none, 0⟩, ⟨some 30, (.mv (.t 6)), 3, none, 0⟩, ⟨some 31, (.call (.f 142) [(.t 27), (.t 28), (.t 29), (.t 30)]), 4, none, 3⟩, ⟨some 32, (.un .not (.t 31)), 4, none, 0⟩] (some [0, 3, 5, 17, 18, 23, 24, 32]))
              (.cond (.t 32)
                (.seq
                  (.region false [⟨some 4, (.mv (.c (.bool false))), 4, none, 0⟩] (some [4]))
                  .ret)
                .skip))))
        (.region false [⟨some 33, (.bin .add 3 (.t 24) (.c (.int .i64 1))), 3, none, 0⟩, ⟨some 24, (.mv (.t 33)), 3, none, 0⟩] (some [0, 3, 5, 17, 18, 23, 24])))))
def lb_67_4 : AC :=
  (.seq
    (.region false [⟨some 19, (.bin .lss 3 (.t 18) (.t 17)), 0, none, 0⟩] (some [0, 3, 17, 18, 19]))
    (.seq
      (.cond (.t 19)
        .skip
        (.exit 0))
      (.seq
        (.block 1
          (.seq
            (.region false [⟨some 20, (.mv (.t 18)), 3, none, 0⟩, ⟨some 5, (.mv (.t 20)), 3, none, 0⟩] (some [0, 3, 5, 17, 18]))
            (.seq
              (.region false [⟨some 21, (.faddr 28 (.t 3) 0), 0, none, 0⟩, ⟨some 22, (.load 22 (.t 21)), 22, none, 0⟩, ⟨some 23, (.len 22 (.t 22)), 3, none, 0⟩, ⟨some 24, (.mv (.c (.int .i64 0))), 3, none, 0⟩] (some [0, 3, 5, 17, 18, 23, 24]))
              (.block 2
                (.loop [0, 3, 5, 17, 18, 23, 24] [] lb_67_7)))))
        (.region false [⟨some 34, (.bin .add 3 (.t 18) (.c (.int .i64 1))), 3, none, 0⟩, ⟨some 18, (.mv (.t 34)), 3, none, 0⟩] (some [0, 3, 17, 18])))))
def fa_67 : FnA := ⟨35, [.t 4],
  (.seq
    (.region false [⟨some 3, (.box 28 (.t 1)), 0, none, 0⟩, ⟨some 4, (.mv (.c (.bool false))), 4, none, 0⟩] (some [0, 3]))
    (.seq
      (.seq
        (.region false (gops [⟨some 7, (.mv (.t 0)), 9, none, 0⟩, ⟨some 8, (.call (.f 105) [(.t 7)]), 4, none, 3⟩, ⟨some 9, (.un .not (.t 8)), 4, none, 0⟩, ⟨some 10, (.mv (.t 9)), 4, none, 0⟩, ⟨some 11, (.load 28 (.t 3)), 28, some (10, false), 0⟩, ⟨some 12, (.call (.f 36) [(.t 11)]), 4, some (10, false), 3⟩, ⟨some 13, (.un .not (.t 12)), 4, some (10, false), 0⟩, ⟨some 14, (.pick (.t 10) (.c (.bool true)) (.t 13)), 4, none, 0⟩]) (some [0, 3, 14]))
        (.cond (.t 14)
          (.seq
            (.region false [⟨some 4, (.mv (.c (.bool false))), 4, none, 0⟩] (some [4]))
            .ret)
          .skip))
      (.seq
        (.seq
          (.region false [⟨some 15, (.faddr 28 (.t 3) 0), 0, none, 0⟩, ⟨some 16, (.load 22 (.t 15)), 22, none, 0⟩, ⟨some 17, (.len 22 (.t 16)), 3, none, 0⟩, ⟨some 18, (.mv (.c (.int .i64 0))), 3, none, 0⟩] (some [0, 3, 17, 18]))
          (.block 0
            (.loop [0, 3, 17, 18] [] lb_67_4)))
        (.seq
          (.region false [⟨some 4, (.mv (.c (.bool true))), 4, none, 0⟩] (some [4]))
          .ret))))⟩
theorem fok_67 : FnOk Try.prog 67 fa_67 an_67 := ⟨Try.f67, _, Try.func67, rfl, by kernel_rfl, rfl, rfl, by decide, by kernel_rfl⟩
end Go.PS
end

section
-- Contracts: a property at two elements.
set_option maxRecDepth 100000
set_option linter.unusedVariables false
set_option linter.unusedSimpArgs false
namespace Go.PS
open Go.Proofs

abbrev sPre : List UInt8 := [112, 114, 101, 108, 105, 110, 101, 97, 114]
abbrev sDiv : List UInt8 := [100, 105, 118, 105, 115, 105, 98, 108, 101]
abbrev sInv : List UInt8 := [105, 110, 118, 111, 108, 117, 116, 105, 118, 101]
abbrev sIde : List UInt8 := [105, 100, 101, 109, 112, 111, 116, 101, 110, 116]
abbrev sBoo : List UInt8 := [98, 111, 111, 108, 101, 97, 110]
/-- A property of two elements. -/
def hoM (u : List Int) (t : List (List Int)) (nm : List UInt8) (x y : Nat) : Bool :=
  if nm = sPre then decide (joinM u (implyM u t x y).toNat (implyM u t y x).toNat = (u.length : Int) - 1)
  else if nm = sDiv then decide (tm t x (implyM u t x y).toNat = meetM u x y)
  else if nm = sInv then decide (implyM u t (implyM u t x 0).toNat 0 = x)
  else if nm = sIde then decide (tm t x x = x)
  else if nm = sBoo then decide (joinM u x (implyM u t x 0).toNat = (u.length : Int) - 1)
  else false

set_option maxHeartbeats 2000000 in
theorem holdsI_pc (nm : List UInt8) (u : List Int) (t : List (List Int)) (x y : Int) (f : TF u t) (hx0 : 0 ≤ x) (hx : x.toNat < u.length) (hy0 : 0 ≤ y) (hy : y.toNat < u.length) : PC Try.prog 142 [.str nm, AL u t, I64 x, I64 y] none true (fun r _ => r = .bool (hoM u t nm x.toNat y.toNat)) := by
  obtain ⟨x, rfl⟩ := Int.eq_ofNat_of_zero_le hx0
  obtain ⟨y, rfl⟩ := Int.eq_ofNat_of_zero_le hy0
  simp only [Int.toNat_natCast] at hx hy ⊢
  have v := f.lat
  have h6 := v.six
  have r1 := v.imply_rng (t := t) (x := x) (y := y)
  have r2 := v.imply_rng (t := t) (x := y) (y := x)
  have r3 := v.imply_rng (t := t) (x := x) (y := 0)
  have w1 : IntKind.i64.wrap ((u.length : Int) - 1) = u.length - 1 := wrap64 (by omega) (by omega)
  refine pcT [fm_implyI, fm_joinI, fm_meetI, fm_notI] fok_142 ?_
  by_cases c1 : nm = sPre
  · subst c1
    simp [fa_142, hoM, f, hx, hy, w1, r1, r2, v.sm, show (implyM u t x y).toNat < u.length by omega, show (implyM u t y x).toNat < u.length by omega]
  · by_cases c2 : nm = sDiv
    · subst c2
      simp [fa_142, hoM, f, hx, hy, w1, r1, r2, h6, f.len, f.rows, show (implyM u t x y).toNat < u.length by omega]
    · by_cases c3 : nm = sInv
      · subst c3
        simp [fa_142, hoM, f, hx, hy, w1, r3, show (implyM u t x 0).toNat < u.length by omega]
      · by_cases c4 : nm = sIde
        · subst c4
          simp [fa_142, hoM, f, hx, hy, w1, f.len, f.rows]
        · by_cases c5 : nm = sBoo
          · subst c5
            simp [fa_142, hoM, f, hx, hy, w1, r3, v.sm, show (implyM u t x 0).toNat < u.length by omega]
          · simp [fa_142, hoM, w1, c1, c2, c3, c4, c5]
noncomputable def fm_holdsI : Fam Try.prog := mkFam (X := List UInt8 × List Int × List (List Int) × Int × Int) 142 true (fun (nm, u, t, x, y) => [.str nm, AL u t, I64 x, I64 y]) (fun (nm, u, t, x, y) => (TF u t) ∧ (0 ≤ x) ∧ (x.toNat < u.length) ∧ (0 ≤ y) ∧ (y.toNat < u.length)) (fun (nm, u, t, x, y) => .bool (hoM u t nm x.toNat y.toNat)) (by
  rintro ⟨nm, u, t, x, y⟩ ⟨f, hx0, hx, hy0, hy⟩
  exact holdsI_pc nm u t x y f hx0 hx hy0 hy)
@[simp] theorem fm_holdsI_id : fm_holdsI.id = 142 := rfl
@[simp] theorem fm_holdsI_fresh : fm_holdsI.fresh = true := rfl
@[simp] theorem fm_holdsI_look (nm : List UInt8) (u : List Int) (t : List (List Int)) (x y : Int) (f : TF u t) (hx0 : 0 ≤ x) (hx : x.toNat < u.length) (hy0 : 0 ≤ y) (hy : y.toNat < u.length) : fm_holdsI.look [.str nm, AL u t, I64 x, I64 y] = some (.bool (hoM u t nm x.toNat y.toNat)) :=
  lookF_of (X := List UInt8 × List Int × List (List Int) × Int × Int) (args := fun (nm, u, t, x, y) => [.str nm, AL u t, I64 x, I64 y]) (pre := fun (nm, u, t, x, y) => (TF u t) ∧ (0 ≤ x) ∧ (x.toNat < u.length) ∧ (0 ≤ y) ∧ (y.toNat < u.length)) (val := fun (nm, u, t, x, y) => .bool (hoM u t nm x.toNat y.toNat)) (by
  rintro ⟨nm, u, t, x, y⟩ ⟨nm', u', t', x', y'⟩ h
  simp at h
  try simp only [and_assoc] at h
  obtain ⟨rfl, rfl, rfl, rfl, rfl⟩ := h
  rfl) (nm, u, t, x, y) ⟨f, hx0, hx, hy0, hy⟩
attribute [irreducible] fm_holdsI
end Go.PS
end

section
-- Contracts: properties.
set_option maxRecDepth 100000
set_option linter.unusedVariables false
set_option linter.unusedSimpArgs false
namespace Go.PS
open Go.Proofs

def strsD (ss : List (List UInt8)) : List D := ss.map D.str
abbrev SL (ss : List (List UInt8)) : D := .list 1 (strsD ss)
def gs (ss : List (List UInt8)) (i : Nat) : List UInt8 := ss[i]?.getD []
@[simp] theorem strsD_length {ss : List (List UInt8)} : (strsD ss).length = ss.length := by simp [strsD]
@[simp] theorem idxK_strs {ss : List (List UInt8)} {n : Int} {K : D → Prop} : idxK (strsD ss) n K ↔ 0 ≤ n ∧ n < ss.length ∧ K (.str (gs ss n.toNat)) := by
  have e : gs ss n.toNat = ss.getD n.toNat default := by unfold gs; rw [List.getD_eq_getElem?_getD]; rfl
  rw [e]; exact idxK_map
@[simp] theorem strsD_inj {a b : List (List UInt8)} : strsD a = strsD b ↔ a = b := by
  constructor
  · intro h
    have := congrArg (List.map (fun d : D => match d with | .str s => s | _ => [])) h
    simpa [strsD, Function.comp_def] using this
  · rintro rfl; rfl

theorem idxStr_pc (ss : List (List UInt8)) (s : List UInt8) (hl : Big ss.length) : PC Try.prog 199 [SL ss, .str s] none true (fun r _ => r = I64 (firstI ss.length fun i => decide (s = gs ss i))) := by
  have hl := hl.le
  refine pcT [] fok_199 ?_
  simp [fa_199]
  refine loopA (tabK_mono _) ss.length (fun i => [(8, I64 i)]) (fun _ => []) (fun j => decide (s = gs ss j) = false) (by simp) (by simp) (fun i g hi hP => ?_)
  simp [lb_199_2, wrap_succ hi hl]
  refine ⟨fun h => ?_, fun h => ?_⟩
  · by_cases e : s = gs ss i
    · have er : firstI ss.length (fun i => decide (s = gs ss i)) = i := firstI_some h (by simp [e]) hP
      simp [h, e, er]
      simp [e] at er
      exact er.symm
    · simp [h, e, wrap_succ hi hl]
  · have er : firstI ss.length (fun i => decide (s = gs ss i)) = -1 := firstI_none (fun j hj => hP j (by omega))
    rw [er]
noncomputable def fm_idxStr : Fam Try.prog := mkFam (X := List (List UInt8) × List UInt8) 199 true (fun (ss, s) => [SL ss, .str s]) (fun (ss, s) => (Big ss.length)) (fun (ss, s) => I64 (firstI ss.length fun i => decide (s = gs ss i))) (by
  rintro ⟨ss, s⟩ hl
  exact idxStr_pc ss s hl)
@[simp] theorem fm_idxStr_id : fm_idxStr.id = 199 := rfl
@[simp] theorem fm_idxStr_fresh : fm_idxStr.fresh = true := rfl
@[simp] theorem fm_idxStr_look (ss : List (List UInt8)) (s : List UInt8) (hl : Big ss.length) : fm_idxStr.look [SL ss, .str s] = some (I64 (firstI ss.length fun i => decide (s = gs ss i))) :=
  lookF_of (X := List (List UInt8) × List UInt8) (args := fun (ss, s) => [SL ss, .str s]) (pre := fun (ss, s) => (Big ss.length)) (val := fun (ss, s) => I64 (firstI ss.length fun i => decide (s = gs ss i))) (by
  rintro ⟨ss, s⟩ ⟨ss', s'⟩ h
  simp at h
  try simp only [and_assoc] at h
  obtain ⟨rfl, rfl⟩ := h
  rfl) (ss, s) hl
attribute [irreducible] fm_idxStr
theorem contStr_pc (ss : List (List UInt8)) (s : List UInt8) (hl : Big ss.length) : PC Try.prog 173 [SL ss, .str s] none true (fun r _ => r = .bool (decide (s ∈ ss))) := by
  refine pcT [fm_idxStr] fok_173 ?_
  simp [fa_173, hl]
  constructor
  · intro h
    rcases firstI_range (n := ss.length) (p := fun i => decide (s = gs ss i)) with h1 | ⟨z, hz, hp, h1⟩
    · rw [h1] at h; omega
    · have e : s = gs ss z := of_decide_eq_true hp
      rw [e, gs, List.getElem?_eq_getElem hz]
      exact List.getElem_mem hz
  · intro h
    obtain ⟨i, hi, e⟩ := List.mem_iff_getElem.1 h
    rcases firstI_range (n := ss.length) (p := fun i => decide (s = gs ss i)) with h1 | ⟨z, hz, hp, h1⟩
    · exfalso
      unfold firstI at h1
      split at h1
      · omega
      · rename_i hn
        rw [List.find?_eq_none] at hn
        have := hn i (by simpa using hi)
        simp [gs, List.getElem?_eq_getElem hi, e] at this
    · rw [h1]; omega
noncomputable def fm_contStr : Fam Try.prog := mkFam (X := List (List UInt8) × List UInt8) 173 true (fun (ss, s) => [SL ss, .str s]) (fun (ss, s) => (Big ss.length)) (fun (ss, s) => .bool (decide (s ∈ ss))) (by
  rintro ⟨ss, s⟩ hl
  exact contStr_pc ss s hl)
@[simp] theorem fm_contStr_id : fm_contStr.id = 173 := rfl
@[simp] theorem fm_contStr_fresh : fm_contStr.fresh = true := rfl
@[simp] theorem fm_contStr_look (ss : List (List UInt8)) (s : List UInt8) (hl : Big ss.length) : fm_contStr.look [SL ss, .str s] = some (.bool (decide (s ∈ ss))) :=
  lookF_of (X := List (List UInt8) × List UInt8) (args := fun (ss, s) => [SL ss, .str s]) (pre := fun (ss, s) => (Big ss.length)) (val := fun (ss, s) => .bool (decide (s ∈ ss))) (by
  rintro ⟨ss, s⟩ ⟨ss', s'⟩ h
  simp at h
  try simp only [and_assoc] at h
  obtain ⟨rfl, rfl⟩ := h
  rfl) (ss, s) hl
attribute [irreducible] fm_contStr
def propM (nm : List UInt8) : Bool := decide (nm ∈ [sPre, sDiv, sInv, sIde, sBoo])
theorem isPropI_pc (nm : List UInt8)  : PC Try.prog 105 [.str nm] none true (fun r _ => r = .bool (propM nm)) := by
  have l1 : fm_contStr.look [.list 1 [.str sPre, .str sDiv, .str sInv, .str sIde, .str sBoo], .str nm] = some (.bool (propM nm)) := fm_contStr_look [sPre, sDiv, sInv, sIde, sBoo] nm (by unfold Big; simp)
  refine pcT [fm_contStr] fok_105 ?_
  simp [fa_105, l1, rg5]
noncomputable def fm_isPropI : Fam Try.prog := mkFam (X := List UInt8) 105 true (fun nm => [.str nm]) (fun nm => True) (fun nm => .bool (propM nm)) (by
  rintro nm _
  exact isPropI_pc nm)
@[simp] theorem fm_isPropI_id : fm_isPropI.id = 105 := rfl
@[simp] theorem fm_isPropI_fresh : fm_isPropI.fresh = true := rfl
@[simp] theorem fm_isPropI_look (nm : List UInt8)  : fm_isPropI.look [.str nm] = some (.bool (propM nm)) :=
  lookF_of (X := List UInt8) (args := fun nm => [.str nm]) (pre := fun nm => True) (val := fun nm => .bool (propM nm)) (by
  intro nm nm' h
  simp at h
  subst h
  rfl) nm trivial
attribute [irreducible] fm_isPropI

def hasA (u : List Int) (t : List (List Int)) (nm : List UInt8) : Bool := allR u.length fun x => allR u.length (hoM u t nm x)
noncomputable def hasM (u : List Int) (t : List (List Int)) (nm : List UInt8) : Bool := propM nm && decide (VA u t) && hasA u t nm

theorem HasI_pc (nm : List UInt8) (u : List Int) (t : List (List Int)) (hu : Big u.length) (ht : BigR t) : PC Try.prog 67 [.str nm, AL u t] none true (fun r _ => r = .bool (hasM u t nm)) := by
  have hul := hu.le
  refine pcT [fm_isPropI, fm_validAlgebraI, fm_holdsI] fok_67 ?_
  simp [fa_67]
  refine cutW (tabK_mono _) [(14, .bool (!(propM nm && decide (VA u t))))] (by
    cases hb : propM nm
    · simp [hb]
    · simp [hb, hu, ht]) ?_
  cases hb : (propM nm && decide (VA u t))
  · simp [hasM, hb]
  · have h := hb
    simp only [Bool.and_eq_true, decide_eq_true_eq] at h
    have f := h.2.tf
    have e : hasM u t nm = hasA u t nm := by simp [hasM, hb]
    rw [e]
    simp
    refine loopA (tabK_mono _) u.length (fun i => [(18, I64 i)]) (fun _ => []) (fun x => ∀ y, y < u.length → hoM u t nm x y = true) (by simp) (by simp) (fun x g hx hP => ?_)
    simp [lb_67_4, wrap_succ hx hul]
    refine ⟨fun h2 => ?_, fun h2 => ?_⟩
    · refine loopA (tabK_mono _) u.length (fun i => [(24, I64 i)]) (fun _ => []) (fun y => hoM u t nm x y = true) (by simp) (by simp) (fun y g2 hy hQ => ?_)
      simp [lb_67_7, wrap_succ hy hul]
      refine ⟨fun h3 => ?_, fun h3 => ?_⟩
      · cases hc : hoM u t nm x y
        · simp [f, h2, h3, hc]
          apply Bool.eq_false_iff.2
          intro hA
          unfold hasA at hA
          rw [allR_iff] at hA
          have := hA x h2
          rw [allR_iff] at this
          rw [this y h3] at hc
          cases hc
        · simp [f, h2, h3, hc, wrap_succ hy hul]
      · simp [wrap_succ hx hul, h2]
        exact fun y hy => hQ y (by omega)
    · show hasA u t nm = true
      unfold hasA
      rw [allR_iff]
      intro x hx
      rw [allR_iff]
      exact hP x (by omega)
noncomputable def fm_HasI : Fam Try.prog := mkFam (X := List UInt8 × List Int × List (List Int)) 67 true (fun (nm, u, t) => [.str nm, AL u t]) (fun (nm, u, t) => (Big u.length) ∧ (BigR t)) (fun (nm, u, t) => .bool (hasM u t nm)) (by
  rintro ⟨nm, u, t⟩ ⟨hu, ht⟩
  exact HasI_pc nm u t hu ht)
@[simp] theorem fm_HasI_id : fm_HasI.id = 67 := rfl
@[simp] theorem fm_HasI_fresh : fm_HasI.fresh = true := rfl
@[simp] theorem fm_HasI_look (nm : List UInt8) (u : List Int) (t : List (List Int)) (hu : Big u.length) (ht : BigR t) : fm_HasI.look [.str nm, AL u t] = some (.bool (hasM u t nm)) :=
  lookF_of (X := List UInt8 × List Int × List (List Int)) (args := fun (nm, u, t) => [.str nm, AL u t]) (pre := fun (nm, u, t) => (Big u.length) ∧ (BigR t)) (val := fun (nm, u, t) => .bool (hasM u t nm)) (by
  rintro ⟨nm, u, t⟩ ⟨nm', u', t'⟩ h
  simp at h
  try simp only [and_assoc] at h
  obtain ⟨rfl, rfl, rfl⟩ := h
  rfl) (nm, u, t) ⟨hu, ht⟩
attribute [irreducible] fm_HasI

section
variable {u : List Int} {t : List (List Int)}
theorem hasA_iff {nm : List UInt8} : hasA u t nm = true ↔ ∀ x, x < u.length → ∀ y, y < u.length → hoM u t nm x y = true := by
  unfold hasA; simp only [allR_iff]
theorem ho_id (a : VA u t) {x y : Nat} (hx : x < u.length) : hoM u t sIde x y = true ↔ ID t x := by
  have h := a.tn_int hx hx
  simp only [hoM, show ¬ (sIde = sPre) by decide, show ¬ (sIde = sDiv) by decide, show ¬ (sIde = sInv) by decide, if_false, if_true, decide_eq_true_eq]
  rw [h]
  unfold ID
  omega
end
end Go.PS
end

section
-- PRINTED by gen.py: clean texts of functions, and their tie to the program.
set_option maxRecDepth 100000
namespace Go.PS
open Go.Proofs
/-- spec.DrawHasProperty -/
def an_68 : Ann := ⟨[(1, 1, 16), (2, 1, 16), (2, 3, 16)], [(0, [0, 3]), (1, [3, 4]), (2, [2, 3])], [], []⟩
def fa_68 : FnA := ⟨11, [.t 2, .c 3 28],
  (.seq
    (.region false [⟨some 2, (.mv (.c (.str []))), 9, none, 0⟩, ⟨some 3, (.alloc 28), 0, none, 0⟩] (some [0, 3]))
    (.seq
      (.region false [⟨some 5, (.mv (.t 0)), 42, none, 0⟩, ⟨some 6, (.call (.f 107) [(.t 5)]), 88, none, 16⟩, ⟨some 4, (.mv (.t 6)), 88, none, 0⟩] (some [3, 4]))
      (.seq
        (.region false [⟨some 7, (.mv (.t 4)), 88, none, 0⟩, ⟨some 8, (.call (.f 143) [(.t 7)]), 9, none, 16⟩, ⟨some 9, (.mv (.t 4)), 88, none, 0⟩, ⟨some 10, (.call (.f 106) [(.t 9)]), 28, none, 16⟩, ⟨some 2, (.mv (.t 8)), 9, none, 0⟩, ⟨none, (.store 28 (.t 3) (.t 10)), 0, none, 0⟩] (some [2, 3]))
        .ret)))⟩
theorem fok_68 : FnOk Try.prog 68 fa_68 an_68 := ⟨Try.f68, _, Try.func68, rfl, by kernel_rfl, rfl, rfl, by decide, by kernel_rfl⟩
/-- spec.aProperty -/
def an_143 : Ann := ⟨[(1, 2, 16)], [(0, [0]), (1, [2])], [], []⟩
def fa_143 : FnA := ⟨6, [.t 2],
  (.seq
    (.region false [⟨some 2, (.mv (.c (.str []))), 9, none, 0⟩] (some [0]))
    (.seq
      (.region false [⟨some 3, (.mv (.t 0)), 88, none, 0⟩, ⟨some 4, (.bslice 123 8 [(0, (.c (.str [112, 114, 101, 108, 105, 110, 101, 97, 114]))), (1, (.c (.str [100, 105, 118, 105, 115, 105, 98, 108, 101]))), (2, (.c (.str [105, 110, 118, 111, 108, 117, 116, 105, 118, 101]))), (3, (.c (.str [105, 100, 101, 109, 112, 111, 116, 101, 110, 116]))), (4, (.c (.str [98, 111, 111, 108, 101, 97, 110]))), (5, (.c (.str [100, 105, 118, 105, 115, 105, 98, 108, 101]))), (6, (.c (.str [105, 110, 118, 111, 108, 117, 116, 105, 118, 101]))), (7, (.c (.str [])))]), 123, none, 0⟩, ⟨some 5, (.call (.f 187) [(.t 3), (.t 4)]), 9, none, 16⟩, ⟨some 2, (.mv (.t 5)), 9, none, 0⟩] (some [2]))
      .ret))⟩
theorem fok_143 : FnOk Try.prog 143 fa_143 an_143 := ⟨Try.f143, _, Try.func143, rfl, by kernel_rfl, rfl, rfl, by decide, by kernel_rfl⟩
/-- spec.is -/
def an_104 : Ann := ⟨[(12, 7, 3), (12, 11, 3), (12, 12, 3), (14, 10, 3), (14, 17, 3), (16, 5, 3), (16, 6, 3), (20, 7, 3), (20, 8, 3)], [(0, [0, 3]), (1, [0, 3, 6]), (2, [0, 3, 6, 7]), (3, [0, 3, 6, 7, 8]), (4, [0, 3, 6, 7, 8, 15]), (6, [0, 3, 6, 7, 8, 9]), (7, [0, 3, 6, 7, 8, 9, 20]), (9, [0, 3, 6, 7, 8, 9, 23]), (11, [0, 3, 6, 7, 8, 9, 23, 24]), (12, [0, 3, 6, 7, 8, 9]), (13, [0, 3, 6, 7, 8, 9, 23, 43]), (14, [0, 3, 6, 7, 8, 9]), (15, [0, 3, 6, 7, 8, 9, 23, 65]), (16, [0, 3, 6, 7, 8, 9]), (17, [0, 3, 6, 7, 8, 9, 23, 77]), (18, [0, 3, 6, 7, 8, 9]), (19, [0, 3, 6, 7, 8, 9, 92]), (20, [0, 3, 6, 7, 8, 9]), (10, [4, 5]), (8, [0, 3, 6, 7, 8, 9]), (5, [0, 3, 6, 7, 8]), (21, [4, 5])], [(4, [0, 3, 6, 7, 8], []), (7, [0, 3, 6, 7, 8, 9], [])], []⟩
def lb_104_7 : AC :=
  (.seq
    (.seq
      (.region false [⟨some 18, (.mv (.t 9)), 3, none, 0⟩, ⟨some 19, (.mv (.t 6)), 3, none, 0⟩, ⟨some 20, (.bin .lss 3 (.t 18) (.t 19)), 4, none, 0⟩] (some [0, 3, 6, 7, 8, 9, 20]))
      (.cond (.t 20)
        .skip
        (.exit 2)))
    (.seq
      (.block 3
        (.seq
          (.region false [⟨some 23, (.mv (.t 0)), 9, none, 0⟩] (some [0, 3, 6, 7, 8, 9, 23]))
          (.block 4
            (.seq
              (.region false [⟨some 25, (.bin .eql 9 (.t 23) (.c (.str [112, 114, 101, 108, 105, 110, 101, 97, 114]))), 4, none, 0⟩, ⟨some 24, (.mv (.t 25)), 4, none, 0⟩] (some [0, 3, 6, 7, 8, 9, 23, 24]))
              (.cond (.t 24)
                (.region true (gops [⟨some 26, (.mv (.t 7)), 4, none, 0⟩, ⟨some 27, (.mv (.t 26)), 4, none, 0⟩, ⟨some 28, (.faddr 28 (.t 3) 0), 0, some (27, true), 0⟩, ⟨some 29, (.load 22 (.t 28)), 22, some (27, true), 0⟩, ⟨some 30, (.load 28 (.t 3)), 28, some (27, true), 0⟩, ⟨some 31, (.mv (.t 8)), 3, some (27, true), 0⟩, ⟨some 32, (.mv (.t 9)), 3, some (27, true), 0⟩, ⟨some 33, (.call (.f 126) [(.t 30), (.t 31), (.t 32)]), 3, some (27, true), 3⟩, ⟨some 34, (.load 28 (.t 3)), 28, some (27, true), 0⟩, ⟨some 35, (.mv (.t 9)), 3, some (27, true), 0⟩, ⟨some 36, (.mv (.t 8)), 3, some (27, true), 0⟩, ⟨some 37, (.call (.f 126) [(.t 34), (.t 35), (.t 36)]), 3, some (27, true), 3⟩, ⟨some 38, (.call (.f 161) [(.t 29), (.t 33), (.t 37)]), 3, some (27, true), 3⟩, ⟨some 39, (.mv (.t 6)), 3, some (27, true), 0⟩, ⟨some 40, (.bin .sub 3 (.t 39) (.c (.int .i64 1))), 3, some (27, true), 0⟩, ⟨some 41, (.bin .eql 3 (.t 38) (.t 40)), 4, some (27, true), 0⟩, ⟨some 42, (.pick (.t 27) (.t 41) (.c (.bool false))), 4, none, 0⟩, ⟨some 7, (.mv (.t 42)), 4, none, 0⟩]) (some [0, 3, 6, 7, 8, 9]))
                (.seq
                  (.region false [⟨some 44, (.bin .eql 9 (.t 23) (.c (.str [100, 105, 118, 105, 115, 105, 98, 108, 101]))), 4, none, 0⟩, ⟨some 43, (.mv (.t 44)), 4, none, 0⟩] (some [0, 3, 6, 7, 8, 9, 23, 43]))
                  (.cond (.t 43)
                    (.region true (gops (seg [0, 3, 6, 8, 9, 46, 51, 52, 53, 54] [⟨some 45, (.mv (.t 7)), 4, none, 0⟩, ⟨some 46, (.mv (.t 45)), 4, none, 0⟩, ⟨some 47, (.faddr 28 (.t 3) 1), 0, some (46, true), 0⟩, ⟨some 48, (.load 23 (.t 47)), 23, some (46, true), 0⟩, ⟨some 49, (.mv (.t 8)), 3, some (46, true), 0⟩, ⟨some 50, (.iaddr 23 (.t 48) (.t 49)), 0, some (46, true), 0⟩, ⟨some 51, (.load 22 (.t 50)), 22, some (46, true), 0⟩, ⟨some 52, (.load 28 (.t 3)), 28, some (46, true), 0⟩, ⟨some 53, (.mv (.t 8)), 3, some (46, true), 0⟩, ⟨some 54, (.mv (.t 9)), 3, some (46, true), 0⟩]
                    [⟨some 55, (.call (.f 126) [(.t 52), (.t 53), (.t 54)]), 3, some (46, true), 3⟩, ⟨some 56, (.iaddr 22 (.t 51) (.t 55)), 0, some (46, true), 0⟩, ⟨some 57, (.load 3 (.t 56)), 3, some (46, true), 0⟩, ⟨some 58, (.faddr 28 (.t 3) 0), 0, some (46, true), 0⟩, ⟨some 59, (.load 22 (.t 58)), 22, some (46, true), 0⟩, ⟨some 60, (.mv (.t 8)), 3, some (46, true), 0⟩, ⟨some 61, (.mv (.t 9)), 3, some (46, true), 0⟩, ⟨some 62, (.call (.f 172) [(.t 59), (.t 60), (.t 61)]), 3, some (46, true), 3⟩, ⟨some 63, (.bin .eql 3 (.t 57) (.t 62)), 4, some (46, true), 0⟩, ⟨some 64, (.pick (.t 46) (.t 63) (.c (.bool false))), 4, none, 0⟩, ⟨some 7, (.mv (.t 64)), 4, none, 0⟩] [0, 3, 6, 7, 8, 9] (by decide))) (some [0, 3, 6, 7, 8, 9]))
                    (.seq
                      (.region false [⟨some 66, (.bin .eql 9 (.t 23) (.c (.str [105, 110, 118, 111, 108, 117, 116, 105, 118, 101]))), 4, none, 0⟩, ⟨some 65, (.mv (.t 66)), 4, none, 0⟩] (some [0, 3, 6, 7, 8, 9, 23, 65]))
                      (.cond (.t 65)
                        (.region true (gops [⟨some 67, (.mv (.t 7)), 4, none, 0⟩, ⟨some 68, (.mv (.t 67)), 4, none, 0⟩, ⟨some 69, (.load 28 (.t 3)), 28, some (68, true), 0⟩, ⟨some 70, (.load 28 (.t 3)), 28, some (68, true), 0⟩, ⟨some 71, (.mv (.t 8)), 3, some (68, true), 0⟩, ⟨some 72, (.call (.f 126) [(.t 70), (.t 71), (.c (.int .i64 0))]), 3, some (68, true), 3⟩, ⟨some 73, (.call (.f 126) [(.t 69), (.t 72), (.c (.int .i64 0))]), 3, some (68, true), 3⟩, ⟨some 74, (.mv (.t 8)), 3, some (68, true), 0⟩, ⟨some 75, (.bin .eql 3 (.t 73) (.t 74)), 4, some (68, true), 0⟩, ⟨some 76, (.pick (.t 68) (.t 75) (.c (.bool false))), 4, none, 0⟩, ⟨some 7, (.mv (.t 76)), 4, none, 0⟩]) (some [0, 3, 6, 7, 8, 9]))
                        (.seq
                          (.region false [⟨some 78, (.bin .eql 9 (.t 23) (.c (.str [105, 100, 101, 109, 112, 111, 116, 101, 110, 116]))), 4, none, 0⟩, ⟨some 77, (.mv (.t 78)), 4, none, 0⟩] (some [0, 3, 6, 7, 8, 9, 23, 77]))
                          (.cond (.t 77)
                            (.region false (gops [⟨some 79, (.mv (.t 7)), 4, none, 0⟩, ⟨some 80, (.mv (.t 79)), 4, none, 0⟩, ⟨some 81, (.faddr 28 (.t 3) 1), 0, some (80, true), 0⟩, ⟨some 82, (.load 23 (.t 81)), 23, some (80, true), 0⟩, ⟨some 83, (.mv (.t 8)), 3, some (80, true), 0⟩, ⟨some 84, (.iaddr 23 (.t 82) (.t 83)), 0, some (80, true), 0⟩, ⟨some 85, (.load 22 (.t 84)), 22, some (80, true), 0⟩, ⟨some 86, (.mv (.t 8)), 3, some (80, true), 0⟩, ⟨some 87, (.iaddr 22 (.t 85) (.t 86)), 0, some (80, true), 0⟩, ⟨some 88, (.load 3 (.t 87)), 3, some (80, true), 0⟩, ⟨some 89, (.mv (.t 8)), 3, some (80, true), 0⟩, ⟨some 90, (.bin .eql 3 (.t 88) (.t 89)), 4, some (80, true), 0⟩, ⟨some 91, (.pick (.t 80) (.t 90) (.c (.bool false))), 4, none, 0⟩, ⟨some 7, (.mv (.t 91)), 4, none, 0⟩]) (some [0, 3, 6, 7, 8, 9]))
                            (.seq
                              (.region false [⟨some 93, (.bin .eql 9 (.t 23) (.c (.str [98, 111, 111, 108, 101, 97, 110]))), 4, none, 0⟩, ⟨some 92, (.mv (.t 93)), 4, none, 0⟩] (some [0, 3, 6, 7, 8, 9, 92]))
                              (.cond (.t 92)
                                (.region true (gops [⟨some 94, (.mv (.t 7)), 4, none, 0⟩, ⟨some 95, (.mv (.t 94)), 4, none, 0⟩, ⟨some 96, (.faddr 28 (.t 3) 0), 0, some (95, true), 0⟩, ⟨some 97, (.load 22 (.t 96)), 22, some (95, true), 0⟩, ⟨some 98, (.mv (.t 8)), 3, some (95, true), 0⟩, ⟨some 99, (.load 28 (.t 3)), 28, some (95, true), 0⟩, ⟨some 100, (.mv (.t 8)), 3, some (95, true), 0⟩, ⟨some 101, (.call (.f 126) [(.t 99), (.t 100), (.c (.int .i64 0))]), 3, some (95, true), 3⟩, ⟨some 102, (.call (.f 161) [(.t 97), (.t 98), (.t 101)]), 3, some (95, true), 3⟩, ⟨some 103, (.mv (.t 6)), 3, some (95, true), 0⟩, ⟨some 104, (.bin .sub 3 (.t 103) (.c (.int .i64 1))), 3, some (95, true), 0⟩, ⟨some 105, (.bin .eql 3 (.t 102) (.t 104)), 4, some (95, true), 0⟩, ⟨some 106, (.pick (.t 95) (.t 105) (.c (.bool false))), 4, none, 0⟩, ⟨some 7, (.mv (.t 106)), 4, none, 0⟩]) (some [0, 3, 6, 7, 8, 9]))
                                (.seq
                                  (.region false [⟨some 4, (.mv (.c (.bool false))), 4, none, 0⟩, ⟨some 5, (.mv (.c (.bool false))), 4, none, 0⟩] (some [4, 5]))
                                  .ret))))))))))))))
      (.region false [⟨some 21, (.mv (.t 9)), 3, none, 0⟩, ⟨some 22, (.bin .add 3 (.t 21) (.c (.int .i64 1))), 3, none, 0⟩, ⟨some 9, (.mv (.t 22)), 3, none, 0⟩] (some [0, 3, 6, 7, 8, 9]))))
def lb_104_4 : AC :=
  (.seq
    (.seq
      (.region false [⟨some 13, (.mv (.t 8)), 3, none, 0⟩, ⟨some 14, (.mv (.t 6)), 3, none, 0⟩, ⟨some 15, (.bin .lss 3 (.t 13) (.t 14)), 4, none, 0⟩] (some [0, 3, 6, 7, 8, 15]))
      (.cond (.t 15)
        .skip
        (.exit 0)))
    (.seq
      (.block 1
        (.seq
          (.region false [⟨some 9, (.mv (.c (.int .i64 0))), 3, none, 0⟩] (some [0, 3, 6, 7, 8, 9]))
          (.block 2
            (.loop [0, 3, 6, 7, 8, 9] [] lb_104_7))))
      (.region false [⟨some 16, (.mv (.t 8)), 3, none, 0⟩, ⟨some 17, (.bin .add 3 (.t 16) (.c (.int .i64 1))), 3, none, 0⟩, ⟨some 8, (.mv (.t 17)), 3, none, 0⟩] (some [0, 3, 6, 7, 8]))))
def fa_104 : FnA := ⟨108, [.t 4, .t 5],
  (.seq
    (.region false [⟨some 3, (.box 28 (.t 1)), 0, none, 0⟩, ⟨some 4, (.mv (.c (.bool false))), 4, none, 0⟩, ⟨some 5, (.mv (.c (.bool false))), 4, none, 0⟩] (some [0, 3]))
    (.seq
      (.region false [⟨some 10, (.faddr 28 (.t 3) 0), 0, none, 0⟩, ⟨some 11, (.load 22 (.t 10)), 22, none, 0⟩, ⟨some 12, (.len 22 (.t 11)), 3, none, 0⟩, ⟨some 6, (.mv (.t 12)), 3, none, 0⟩] (some [0, 3, 6]))
      (.seq
        (.region false [⟨some 7, (.mv (.c (.bool true))), 4, none, 0⟩] (some [0, 3, 6, 7]))
        (.seq
          (.seq
            (.region false [⟨some 8, (.mv (.c (.int .i64 0))), 3, none, 0⟩] (some [0, 3, 6, 7, 8]))
            (.block 0
              (.loop [0, 3, 6, 7, 8] [] lb_104_4)))
          (.seq
            (.region false [⟨some 107, (.mv (.t 7)), 4, none, 0⟩, ⟨some 4, (.mv (.t 107)), 4, none, 0⟩, ⟨some 5, (.mv (.c (.bool true))), 4, none, 0⟩] (some [4, 5]))
            .ret)))))⟩
theorem fok_104 : FnOk Try.prog 104 fa_104 an_104 := ⟨Try.f104, _, Try.func104, rfl, by kernel_rfl, rfl, rfl, by decide, by kernel_rfl⟩
/-- spec.HasProperty -/
def an_69 : Ann := ⟨[(1, 1, 3), (3, 2, 3)], [(0, [0, 3]), (1, [0, 3, 9]), (2, [4]), (3, [5]), (4, [4])], [], []⟩
def fa_69 : FnA := ⟨17, [.t 4],
  (.seq
    (.region false [⟨some 3, (.box 28 (.t 1)), 0, none, 0⟩, ⟨some 4, (.mv (.c (.bool false))), 4, none, 0⟩] (some [0, 3]))
    (.seq
      (.seq
        (.region false [⟨some 7, (.load 28 (.t 3)), 28, none, 0⟩, ⟨some 8, (.call (.f 88) [(.t 7)]), 4, none, 3⟩, ⟨some 9, (.un .not (.t 8)), 4, none, 0⟩] (some [0, 3, 9]))
        (.cond (.t 9)
          (.seq
            (.region false [⟨some 4, (.mv (.c (.bool false))), 4, none, 0⟩] (some [4]))
            .ret)
          .skip))
      (.seq
        (.region false [⟨some 11, (.mv (.t 0)), 9, none, 0⟩, ⟨some 12, (.load 28 (.t 3)), 28, none, 0⟩, ⟨some 13, (.call (.f 104) [(.t 11), (.t 12)]), 84, none, 3⟩, ⟨some 10, (.mv (.t 13)), 84, none, 0⟩, ⟨some 14, (.ext (.t 10) 0), 4, none, 0⟩, ⟨some 15, (.ext (.t 10) 1), 4, none, 0⟩, ⟨some 5, (.mv (.t 14)), 4, none, 0⟩, ⟨some 6, (.mv (.t 15)), 4, none, 0⟩] (some [5]))
        (.seq
          (.region false [⟨some 16, (.mv (.t 5)), 4, none, 0⟩, ⟨some 4, (.mv (.t 16)), 4, none, 0⟩] (some [4]))
          .ret))))⟩
theorem fok_69 : FnOk Try.prog 69 fa_69 an_69 := ⟨Try.f69, _, Try.func69, rfl, by kernel_rfl, rfl, rfl, by decide, by kernel_rfl⟩
/-- impl.IsDistributive -/
def an_70 : Ann := ⟨[(1, 1, 3), (12, 5, 3), (12, 6, 3), (12, 11, 3), (12, 15, 3), (12, 16, 3)], [(0, [0]), (1, [0, 8]), (2, [2]), (3, [0, 10, 11]), (4, [0, 10, 11, 12]), (5, [0, 3, 10, 11]), (6, [0, 3, 10, 11, 15, 16]), (7, [0, 3, 10, 11, 15, 16, 17]), (8, [0, 3, 4, 10, 11, 15, 16]), (9, [0, 3, 4, 10, 11, 15, 16, 20, 21]), (10, [0, 3, 4, 10, 11, 15, 16, 20, 21, 22]), (11, [0, 3, 4, 5, 10, 11, 15, 16, 20, 21]), (12, [0, 3, 4, 10, 11, 15, 16, 20, 21, 41]), (13, [2]), (14, [0, 3, 4, 10, 11, 15, 16, 20, 21]), (15, [0, 3, 10, 11, 15, 16]), (16, [0, 10, 11]), (17, [2])], [(4, [0, 10, 11], []), (7, [0, 3, 10, 11, 15, 16], []), (10, [0, 3, 4, 10, 11, 15, 16, 20, 21], [])], []⟩
def lb_70_10 : AC :=
  (.seq
    (.region false [⟨some 22, (.bin .lss 3 (.t 21) (.t 20)), 0, none, 0⟩] (some [0, 3, 4, 10, 11, 15, 16, 20, 21, 22]))
    (.seq
      (.cond (.t 22)
        .skip
        (.exit 4))
      (.seq
        (.block 5
          (.seq
            (.region false [⟨some 23, (.mv (.t 21)), 3, none, 0⟩, ⟨some 5, (.mv (.t 23)), 3, none, 0⟩] (some [0, 3, 4, 5, 10, 11, 15, 16, 20, 21]))
            (.seq
              (.region false [⟨some 24, (.mv (.t 0)), 22, none, 0⟩, ⟨some 25, (.mv (.t 3)), 3, none, 0⟩, ⟨some 26, (.mv (.t 0)), 22, none, 0⟩, ⟨some 27, (.mv (.t 4)), 3, none, 0⟩, ⟨some 28, (.mv (.t 5)), 3, none, 0⟩, ⟨some 29, (.call (.f 96) [(.t 26), (.t 27), (.t 28)]), 3, none, 3⟩, ⟨some 30, (.call (.f 112) [(.t 24), (.t 25), (.t 29)]), 3, none, 3⟩, ⟨some 31, (.mv (.t 0)), 22, none, 0⟩, ⟨some 32, (.mv (.t 0)), 22, none, 0⟩, ⟨some 33, (.mv (.t 3)), 3, none, 0⟩, ⟨some 34, (.mv (.t 4)), 3, none, 0⟩, ⟨some 35, (.call (.f 112) [(.t 32), (.t 33), (.t 34)]), 3, none, 3⟩, ⟨some 36, (.mv (.t 0)), 22, none, 0⟩, ⟨some 37, (.mv (.t 3)), 3, none, 0⟩, ⟨some 38, (.mv (.t 5)), 3, none, 0⟩, ⟨some 39, (.call (.f 112) [(.t 36), (.t 37), (.t 38)]), 3, none, 3⟩, ⟨some 40, (.call (.f 96) [(.t 31), (.t 35), (.t 39)]), 3, none, 3⟩, ⟨some 41, (.bin .neq 3 (.t 30) (.t 40)), 4, none, 0⟩] (some [0, 3, 4, 10, 11, 15, 16, 20, 21, 41]))
              (.cond (.t 41)
                (.seq
                  (.region false [⟨some 2, (.mv (.c (.bool false))), 4, none, 0⟩] (some [2]))
                  .ret)
                .skip))))
        (.region false [⟨some 42, (.bin .add 3 (.t 21) (.c (.int .i64 1))), 3, none, 0⟩, ⟨some 21, (.mv (.t 42)), 3, none, 0⟩] (some [0, 3, 4, 10, 11, 15, 16, 20, 21])))))
def lb_70_7 : AC :=
  (.seq
    (.region false [⟨some 17, (.bin .lss 3 (.t 16) (.t 15)), 0, none, 0⟩] (some [0, 3, 10, 11, 15, 16, 17]))
    (.seq
      (.cond (.t 17)
        .skip
        (.exit 2))
      (.seq
        (.block 3
          (.seq
            (.region false [⟨some 18, (.mv (.t 16)), 3, none, 0⟩, ⟨some 4, (.mv (.t 18)), 3, none, 0⟩] (some [0, 3, 4, 10, 11, 15, 16]))
            (.seq
              (.region false [⟨some 19, (.mv (.t 0)), 22, none, 0⟩, ⟨some 20, (.len 22 (.t 19)), 3, none, 0⟩, ⟨some 21, (.mv (.c (.int .i64 0))), 3, none, 0⟩] (some [0, 3, 4, 10, 11, 15, 16, 20, 21]))
              (.block 4
                (.loop [0, 3, 4, 10, 11, 15, 16, 20, 21] [] lb_70_10)))))
        (.region false [⟨some 43, (.bin .add 3 (.t 16) (.c (.int .i64 1))), 3, none, 0⟩, ⟨some 16, (.mv (.t 43)), 3, none, 0⟩] (some [0, 3, 10, 11, 15, 16])))))
def lb_70_4 : AC :=
  (.seq
    (.region false [⟨some 12, (.bin .lss 3 (.t 11) (.t 10)), 0, none, 0⟩] (some [0, 10, 11, 12]))
    (.seq
      (.cond (.t 12)
        .skip
        (.exit 0))
      (.seq
        (.block 1
          (.seq
            (.region false [⟨some 13, (.mv (.t 11)), 3, none, 0⟩, ⟨some 3, (.mv (.t 13)), 3, none, 0⟩] (some [0, 3, 10, 11]))
            (.seq
              (.region false [⟨some 14, (.mv (.t 0)), 22, none, 0⟩, ⟨some 15, (.len 22 (.t 14)), 3, none, 0⟩, ⟨some 16, (.mv (.c (.int .i64 0))), 3, none, 0⟩] (some [0, 3, 10, 11, 15, 16]))
              (.block 2
                (.loop [0, 3, 10, 11, 15, 16] [] lb_70_7)))))
        (.region false [⟨some 44, (.bin .add 3 (.t 11) (.c (.int .i64 1))), 3, none, 0⟩, ⟨some 11, (.mv (.t 44)), 3, none, 0⟩] (some [0, 10, 11])))))
def fa_70 : FnA := ⟨45, [.t 2],
  (.seq
    (.region false [⟨some 2, (.mv (.c (.bool false))), 4, none, 0⟩] (some [0]))
    (.seq
      (.seq
        (.region false [⟨some 6, (.mv (.t 0)), 22, none, 0⟩, ⟨some 7, (.call (.f 40) [(.t 6)]), 4, none, 3⟩, ⟨some 8, (.un .not (.t 7)), 4, none, 0⟩] (some [0, 8]))
        (.cond (.t 8)
          (.seq
            (.region false [⟨some 2, (.mv (.c (.bool false))), 4, none, 0⟩] (some [2]))
            .ret)
          .skip))
      (.seq
        (.seq
          (.region false [⟨some 9, (.mv (.t 0)), 22, none, 0⟩, ⟨some 10, (.len 22 (.t 9)), 3, none, 0⟩, ⟨some 11, (.mv (.c (.int .i64 0))), 3, none, 0⟩] (some [0, 10, 11]))
          (.block 0
            (.loop [0, 10, 11] [] lb_70_4)))
        (.seq
          (.region false [⟨some 2, (.mv (.c (.bool true))), 4, none, 0⟩] (some [2]))
          .ret))))⟩
theorem fok_70 : FnOk Try.prog 70 fa_70 an_70 := ⟨Try.f70, _, Try.func70, rfl, by kernel_rfl, rfl, rfl, by decide, by kernel_rfl⟩
/-- laws.FnHasProperty -/
def an_15 : Ann := ⟨[(3, 1, 3), (4, 2, 3), (5, 3, 3), (5, 7, 3), (6, 3, 3), (7, 1, 3), (7, 4, 3), (8, 1, 3), (10, 13, 3)], [(0, [0]), (1, [0, 9]), (2, [2]), (3, [3, 4]), (4, [3, 4, 5]), (5, [3, 4, 5, 27]), (6, [2]), (7, [3, 4, 5, 6]), (8, [3, 4, 5, 42]), (9, [2]), (10, [2])], [], []⟩
def fa_15 : FnA := ⟨58, [.t 2],
  (.seq
    (.region false [⟨some 2, (.mv (.c (.bool false))), 4, none, 0⟩] (some [0]))
    (.seq
      (.seq
        (.region false [⟨some 7, (.mv (.t 0)), 42, none, 0⟩, ⟨some 8, (.len 42 (.t 7)), 3, none, 0⟩, ⟨some 9, (.bin .gtr 3 (.t 8) (.c (.int .i64 1048576))), 4, none, 0⟩] (some [0, 9]))
        (.cond (.t 9)
          (.seq
            (.region false [⟨some 2, (.mv (.c (.bool true))), 4, none, 0⟩] (some [2]))
            .ret)
          .skip))
      (.seq
        (.region false [⟨some 11, (.mv (.t 0)), 42, none, 0⟩, ⟨some 12, (.call (.f 68) [(.t 11)]), 65, none, 3⟩, ⟨some 10, (.mv (.t 12)), 65, none, 0⟩, ⟨some 13, (.ext (.t 10) 0), 9, none, 0⟩, ⟨some 14, (.ext (.t 10) 1), 28, none, 0⟩, ⟨some 4, (.alloc 28), 0, none, 0⟩, ⟨some 3, (.mv (.t 13)), 9, none, 0⟩, ⟨none, (.store 28 (.t 4) (.t 14)), 0, none, 0⟩] (some [3, 4]))
        (.seq
          (.region false [⟨some 15, (.mv (.t 3)), 9, none, 0⟩, ⟨some 16, (.load 28 (.t 4)), 28, none, 0⟩, ⟨some 17, (.call (.f 67) [(.t 15), (.t 16)]), 4, none, 3⟩, ⟨some 5, (.mv (.t 17)), 4, none, 0⟩] (some [3, 4, 5]))
          (.seq
            (.seq
              (.region false (gops [⟨some 18, (.mv (.t 5)), 4, none, 0⟩, ⟨some 19, (.mv (.t 3)), 9, none, 0⟩, ⟨some 20, (.load 28 (.t 4)), 28, none, 0⟩, ⟨some 21, (.call (.f 69) [(.t 19), (.t 20)]), 4, none, 3⟩, ⟨some 22, (.bin .neq 4 (.t 18) (.t 21)), 4, none, 0⟩, ⟨some 23, (.mv (.t 22)), 4, none, 0⟩, ⟨some 24, (.load 28 (.t 4)), 28, some (23, false), 0⟩, ⟨some 25, (.call (.f 36) [(.t 24)]), 4, some (23, false), 3⟩, ⟨some 26, (.un .not (.t 25)), 4, some (23, false), 0⟩, ⟨some 27, (.pick (.t 23) (.c (.bool true)) (.t 26)), 4, none, 0⟩]) (some [3, 4, 5, 27]))
              (.cond (.t 27)
                (.seq
                  (.region false [⟨some 28, (.mv (.t 5)), 4, none, 0⟩, ⟨some 29, (.mv (.t 3)), 9, none, 0⟩, ⟨some 30, (.load 28 (.t 4)), 28, none, 0⟩, ⟨some 31, (.call (.f 69) [(.t 29), (.t 30)]), 4, none, 3⟩, ⟨some 32, (.bin .eql 4 (.t 28) (.t 31)), 4, none, 0⟩, ⟨some 2, (.mv (.t 32)), 4, none, 0⟩] (some [2]))
                  .ret)
                .skip))
            (.seq
              (.region false (gops [⟨some 33, (.load 28 (.t 4)), 28, none, 0⟩, ⟨some 34, (.call (.f 67) [(.c (.str [105, 100, 101, 109, 112, 111, 116, 101, 110, 116])), (.t 33)]), 4, none, 3⟩, ⟨some 35, (.mv (.t 34)), 4, none, 0⟩, ⟨some 36, (.load 28 (.t 4)), 28, some (35, true), 0⟩, ⟨some 37, (.call (.f 67) [(.c (.str [105, 110, 118, 111, 108, 117, 116, 105, 118, 101])), (.t 36)]), 4, some (35, true), 3⟩, ⟨some 38, (.pick (.t 35) (.t 37) (.c (.bool false))), 4, none, 0⟩, ⟨some 6, (.mv (.t 38)), 4, none, 0⟩]) (some [3, 4, 5, 6]))
              (.seq
                (.seq
                  (.region false [⟨some 39, (.load 28 (.t 4)), 28, none, 0⟩, ⟨some 40, (.call (.f 67) [(.c (.str [98, 111, 111, 108, 101, 97, 110])), (.t 39)]), 4, none, 3⟩, ⟨some 41, (.mv (.t 6)), 4, none, 0⟩, ⟨some 42, (.bin .neq 4 (.t 40) (.t 41)), 4, none, 0⟩] (some [3, 4, 5, 42]))
                  (.cond (.t 42)
                    (.seq
                      (.region false [⟨some 2, (.mv (.c (.bool false))), 4, none, 0⟩] (some [2]))
                      .ret)
                    .skip))
                (.seq
                  (.region false (gops [⟨some 43, (.mv (.t 5)), 4, none, 0⟩, ⟨some 44, (.un .not (.t 43)), 4, none, 0⟩, ⟨some 45, (.mv (.t 44)), 4, none, 0⟩, ⟨some 46, (.mv (.t 3)), 9, some (45, false), 0⟩, ⟨some 47, (.bin .neq 9 (.t 46) (.c (.str [112, 114, 101, 108, 105, 110, 101, 97, 114]))), 4, some (45, false), 0⟩, ⟨some 48, (.mv (.t 47)), 4, some (45, false), 0⟩, ⟨some 49, (.mv (.t 3)), 9, some (48, true), 0⟩, ⟨some 50, (.bin .neq 9 (.t 49) (.c (.str [100, 105, 118, 105, 115, 105, 98, 108, 101]))), 4, some (48, true), 0⟩, ⟨some 51, (.pick (.t 48) (.t 50) (.c (.bool false))), 4, some (45, false), 0⟩, ⟨some 52, (.pick (.t 45) (.c (.bool true)) (.t 51)), 4, none, 0⟩, ⟨some 53, (.mv (.t 52)), 4, none, 0⟩, ⟨some 54, (.faddr 28 (.t 4) 0), 0, some (53, false), 0⟩, ⟨some 55, (.load 22 (.t 54)), 22, some (53, false), 0⟩, ⟨some 56, (.call (.f 70) [(.t 55)]), 4, some (53, false), 3⟩, ⟨some 57, (.pick (.t 53) (.c (.bool true)) (.t 56)), 4, none, 0⟩, ⟨some 2, (.mv (.t 57)), 4, none, 0⟩]) (some [2]))
                  .ret))))))))⟩
theorem fok_15 : FnOk Try.prog 15 fa_15 an_15 := ⟨Try.f15, _, Try.func15, rfl, by kernel_rfl, rfl, rfl, by decide, by kernel_rfl⟩
end Go.PS
end

section
-- Contracts: the spec's properties; distributive lattices.
set_option maxRecDepth 100000
set_option linter.unusedVariables false
set_option linter.unusedSimpArgs false
namespace Go.PS
open Go.Proofs

set_option maxHeartbeats 4000000 in
theorem isS_pc (nm : List UInt8) (u : List Int) (t : List (List Int)) (f : TF u t) : PC Try.prog 104 [.str nm, AL u t] none true (fun r _ => r = .tup [.bool (propM nm && hasA u t nm), .bool (propM nm)]) := by
  have v := f.lat
  have h6 := v.six
  have hpos := v.pos
  have hul : u.length ≤ 1099511627776 := by omega
  have w1 : IntKind.i64.wrap ((u.length : Int) - 1) = u.length - 1 := wrap64 (by omega) (by omega)
  have hs : ∀ x y, (allR (y + 1) (hoM u t nm x)) = (allR y (hoM u t nm x) && hoM u t nm x y) := fun x y => by simp [allR, List.range_succ]
  have hs2 : ∀ x, (allR (x + 1) fun x => allR u.length (hoM u t nm x)) = ((allR x fun x => allR u.length (hoM u t nm x)) && allR u.length (hoM u t nm x)) := fun x => by simp [allR, List.range_succ]
  refine pcT [fm_implyS, fm_joinS, fm_meetS] fok_104 ?_
  by_cases hp : propM nm = true
  · have hmem := of_decide_eq_true hp
    rw [hp]
    simp [fa_104]
    refine loopA (tabK_mono _) u.length (fun i => [(7, .bool (allR i fun x => allR u.length (hoM u t nm x))), (8, I64 i)]) (fun _ => []) (fun _ => True) (by simp [allR]) (by simp) (fun x g hx _ => ?_)
    simp [lb_104_4, wrap_succ hx hul]
    refine ⟨fun h2 => ?_, fun h2 => ?_⟩
    · refine loopA (tabK_mono _) u.length (fun j => [(7, .bool ((allR x fun x => allR u.length (hoM u t nm x)) && allR j (hoM u t nm x))), (9, I64 j)]) (fun _ => []) (fun _ => True) (by simp [allR]) (by simp) (fun y g2 hy _ => ?_)
      simp [lb_104_7, wrap_succ hy hul]
      refine ⟨fun h3 => ?_, fun h3 => ?_⟩
      · have r1 := v.imply_rng (t := t) (x := x) (y := y)
        have r2 := v.imply_rng (t := t) (x := y) (y := x)
        have r3 := v.imply_rng (t := t) (x := x) (y := 0)
        have q1 : (implyM u t x y).toNat < u.length := by omega
        have q2 : (implyM u t y x).toNat < u.length := by omega
        have q3 : (implyM u t x 0).toNat < u.length := by omega
        have hss := hs x y
        cases hb : ((allR x fun x => allR u.length (hoM u t nm x)) && allR y (hoM u t nm x))
        · have e : ((allR x fun x => allR u.length (hoM u t nm x)) && allR (y + 1) (hoM u t nm x)) = false := by rw [hss, ← Bool.and_assoc, hb]; rfl
          simp only [List.mem_cons, List.not_mem_nil, or_false] at hmem
          rcases hmem with c | c | c | c | c
          all_goals (subst c; simp [gops, hb, e, h3, wrap_succ hy hul])
        · have e : ((allR x fun x => allR u.length (hoM u t nm x)) && allR (y + 1) (hoM u t nm x)) = hoM u t nm x y := by rw [hss, ← Bool.and_assoc, hb]; rfl
          simp only [List.mem_cons, List.not_mem_nil, or_false] at hmem
          rcases hmem with c | c | c | c | c
          all_goals (subst c; simp only [hoM] at e; simp [gops, hb, e, f, h2, h3, w1, r1, r2, r3, q1, q2, q3, v.sm, f.len, f.rows, hpos, wrap_succ hy hul])
      · have hyn : y = u.length := by omega
        subst hyn
        simp [hs2, wrap_succ hx hul, h2]
    · have hxn : x = u.length := by omega
      subst hxn
      simp [hasA]
  · have hp' : propM nm = false := by simpa using hp
    have hn : (¬ nm = sPre ∧ ¬ nm = sDiv) ∧ (¬ nm = sInv ∧ ¬ nm = sIde) ∧ ¬ nm = sBoo := by
      have := of_decide_eq_false hp'
      simp only [List.mem_cons, List.not_mem_nil, or_false, not_or] at this
      exact ⟨⟨this.1, this.2.1⟩, ⟨this.2.2.1, this.2.2.2.1⟩, this.2.2.2.2⟩
    rw [hp']
    simp [fa_104]
    refine loopA (tabK_mono _) u.length (fun i => [(8, I64 i)]) (fun _ => []) (fun _ => False) (by simp) (by simp) (fun x g hx hP => ?_)
    have hx0 : x = 0 := by
      rcases x with _ | x
      · rfl
      · exact (hP 0 (by omega)).elim
    subst hx0
    simp [lb_104_4, hpos]
    refine loopA (tabK_mono _) u.length (fun i => [(9, I64 i)]) (fun _ => []) (fun _ => False) (by simp) (by simp) (fun y g2 hy hQ => ?_)
    have hy0 : y = 0 := by
      rcases y with _ | y
      · rfl
      · exact (hQ 0 (by omega)).elim
    subst hy0
    simp [lb_104_7, hpos, hn.1.1, hn.1.2, hn.2.1.1, hn.2.1.2, hn.2.2]
noncomputable def fm_isS : Fam Try.prog := mkFam (X := List UInt8 × List Int × List (List Int)) 104 true (fun (nm, u, t) => [.str nm, AL u t]) (fun (nm, u, t) => (TF u t)) (fun (nm, u, t) => .tup [.bool (propM nm && hasA u t nm), .bool (propM nm)]) (by
  rintro ⟨nm, u, t⟩ f
  exact isS_pc nm u t f)
@[simp] theorem fm_isS_id : fm_isS.id = 104 := rfl
@[simp] theorem fm_isS_fresh : fm_isS.fresh = true := rfl
@[simp] theorem fm_isS_look (nm : List UInt8) (u : List Int) (t : List (List Int)) (f : TF u t) : fm_isS.look [.str nm, AL u t] = some (.tup [.bool (propM nm && hasA u t nm), .bool (propM nm)]) :=
  lookF_of (X := List UInt8 × List Int × List (List Int)) (args := fun (nm, u, t) => [.str nm, AL u t]) (pre := fun (nm, u, t) => (TF u t)) (val := fun (nm, u, t) => .tup [.bool (propM nm && hasA u t nm), .bool (propM nm)]) (by
  rintro ⟨nm, u, t⟩ ⟨nm', u', t'⟩ h
  simp at h
  try simp only [and_assoc] at h
  obtain ⟨rfl, rfl, rfl⟩ := h
  rfl) (nm, u, t) f
attribute [irreducible] fm_isS
theorem HasS_pc (nm : List UInt8) (u : List Int) (t : List (List Int)) (hu : Big u.length) (ht : BigR t) : PC Try.prog 69 [.str nm, AL u t] none true (fun r _ => r = .bool (hasM u t nm)) := by
  refine pcT [fm_validAlgebraS, fm_isS] fok_69 ?_
  unfold hasM
  by_cases a : VA u t
  · simp [fa_69, hu, ht, a, a.tf]
  · simp [fa_69, hu, ht, a]
noncomputable def fm_HasS : Fam Try.prog := mkFam (X := List UInt8 × List Int × List (List Int)) 69 true (fun (nm, u, t) => [.str nm, AL u t]) (fun (nm, u, t) => (Big u.length) ∧ (BigR t)) (fun (nm, u, t) => .bool (hasM u t nm)) (by
  rintro ⟨nm, u, t⟩ ⟨hu, ht⟩
  exact HasS_pc nm u t hu ht)
@[simp] theorem fm_HasS_id : fm_HasS.id = 69 := rfl
@[simp] theorem fm_HasS_fresh : fm_HasS.fresh = true := rfl
@[simp] theorem fm_HasS_look (nm : List UInt8) (u : List Int) (t : List (List Int)) (hu : Big u.length) (ht : BigR t) : fm_HasS.look [.str nm, AL u t] = some (.bool (hasM u t nm)) :=
  lookF_of (X := List UInt8 × List Int × List (List Int)) (args := fun (nm, u, t) => [.str nm, AL u t]) (pre := fun (nm, u, t) => (Big u.length) ∧ (BigR t)) (val := fun (nm, u, t) => .bool (hasM u t nm)) (by
  rintro ⟨nm, u, t⟩ ⟨nm', u', t'⟩ h
  simp at h
  try simp only [and_assoc] at h
  obtain ⟨rfl, rfl, rfl⟩ := h
  rfl) (nm, u, t) ⟨hu, ht⟩
attribute [irreducible] fm_HasS

noncomputable instance (u : List Int) : Decidable (DI u) := Classical.propDecidable _
set_option maxHeartbeats 1000000 in
theorem DistI_pc (u : List Int) (hu : Big u.length) : PC Try.prog 70 [IL u] none true (fun r _ => r = .bool (decide (VL u) && decide (DI u))) := by
  have hul := hu.le
  refine pcT [fm_validLatticeI, fm_joinI, fm_meetI] fok_70 ?_
  by_cases v : VL u
  · have s := v.sm
    have h6 := v.six
    simp [fa_70, hu, v]
    refine loopA (tabK_mono _) u.length (fun i => [(11, I64 i)]) (fun _ => []) (fun x => ∀ y, y < u.length → ∀ z, z < u.length → meetM u x (jo u y z) = joinM u (mt u x y) (mt u x z)) (by simp) (by simp) (fun x g hx hP => ?_)
    simp [lb_70_4, wrap_succ hx hul]
    refine ⟨fun h2 => ?_, fun h2 => fun x hx y hy z hz => hP x (by omega) y hy z hz⟩
    refine loopA (tabK_mono _) u.length (fun i => [(16, I64 i)]) (fun _ => []) (fun y => ∀ z, z < u.length → meetM u x (jo u y z) = joinM u (mt u x y) (mt u x z)) (by simp) (by simp) (fun y g2 hy hQ => ?_)
    simp [lb_70_7, wrap_succ hy hul]
    refine ⟨fun h3 => ?_, fun h3 => by simp [wrap_succ hx hul, h2]; exact fun y hy => hQ y (by omega)⟩
    refine loopA (tabK_mono _) u.length (fun i => [(21, I64 i)]) (fun _ => []) (fun z => meetM u x (jo u y z) = joinM u (mt u x y) (mt u x z)) (by simp) (by simp) (fun z g3 hz hR => ?_)
    simp [lb_70_10, wrap_succ hz hul]
    refine ⟨fun h4 => ?_, fun h4 => by simp [wrap_succ hy hul, h3]; exact fun z hz => hR z (by omega)⟩
    have k1 := v.jo_lt h3 h4
    have k2 := v.mt_lt h2 h3
    have k3 := v.mt_lt h2 h4
    have i1 := v.jo_int h3 h4
    have i2 := v.mt_int h2 h3
    have i3 := v.mt_int h2 h4
    by_cases e : meetM u x (jo u y z) = joinM u (mt u x y) (mt u x z)
    · have e' := e
      generalize g1 : jo u y z = p1 at i1 k1 e
      generalize g2 : mt u x y = p2 at i2 k2 e
      generalize g3 : mt u x z = p3 at i3 k3 e
      simp [g1, g2, g3, h2, h3, h4, s, h6, i1, i2, i3, k1, k2, k3, e, wrap_succ hz hul]
    · have e' : ¬ DI u := fun d => e (d x h2 y h3 z h4)
      generalize jo u y z = p1 at *
      generalize mt u x y = p2 at *
      generalize mt u x z = p3 at *
      simp [h2, h3, h4, s, h6, i1, i2, i3, k1, k2, k3, e, e']
  · simp [fa_70, hu, v]
noncomputable def fm_DistI : Fam Try.prog := mkFam (X := List Int) 70 true (fun u => [IL u]) (fun u => (Big u.length)) (fun u => .bool (decide (VL u) && decide (DI u))) (by
  rintro u hu
  exact DistI_pc u hu)
@[simp] theorem fm_DistI_id : fm_DistI.id = 70 := rfl
@[simp] theorem fm_DistI_fresh : fm_DistI.fresh = true := rfl
@[simp] theorem fm_DistI_look (u : List Int) (hu : Big u.length) : fm_DistI.look [IL u] = some (.bool (decide (VL u) && decide (DI u))) :=
  lookF_of (X := List Int) (args := fun u => [IL u]) (pre := fun u => (Big u.length)) (val := fun u => .bool (decide (VL u) && decide (DI u))) (by
  intro u u' h
  simp at h
  subst h
  rfl) u hu
attribute [irreducible] fm_DistI
end Go.PS
end

section
-- The law of properties.
set_option maxRecDepth 100000
set_option linter.unusedVariables false
set_option linter.unusedSimpArgs false
namespace Go.PS
open Go.Proofs

theorem ofS_pc (b : List Int) (p : Nat) (ss : List (List UInt8)) (hb : BB b) (hp : p ≤ 1000000) (hl : Big ss.length) (h1 : 0 < ss.length) : PC Try.prog 187 (.ptr 0 0 0 :: [SL ss]) (some (RS b p)) false (fun r c => imm 5 r = imm 5 (.str (gs ss (pkM b p ss.length).toNat)) ∧ c = (RS b (p + 1))) := by
  have hl := hl.le
  have hr := pkM_rng hb (p := p) (by omega) (n := ss.length) (by omega)
  refine pcW [] [fw_pick] fok_187 ?_
  simp [fa_187, callOW, hb, hp, hr, show (ss.length : Int) ≤ 1099511627776 by omega]
noncomputable def fw_ofS : FamW Try.prog := mkFamW (X := List Int × Nat × List (List UInt8)) 187 (fun (b, p, ss) => (.ptr 0 0 0 :: [SL ss])) (fun (b, p, ss) => (RS b p)) (fun (b, p, ss) => (BB b) ∧ (p ≤ 1000000) ∧ (Big ss.length) ∧ (0 < ss.length)) (fun (b, p, ss) => .str (gs ss (pkM b p ss.length).toNat)) (fun (b, p, ss) => (RS b (p + 1))) (by
  rintro ⟨b, p, ss⟩ ⟨hb, hp, hl, h1⟩
  exact ofS_pc b p ss hb hp hl h1)
@[simp] theorem fw_ofS_id : fw_ofS.id = 187 := rfl
@[simp] theorem fw_ofS_look (b : List Int) (p : Nat) (ss : List (List UInt8)) (hb : BB b) (hp : p ≤ 1000000) (hl : Big ss.length) (h1 : 0 < ss.length) : fw_ofS.look (.ptr 0 0 0 :: [SL ss]) (RS b p) = some (.str (gs ss (pkM b p ss.length).toNat), (RS b (p + 1))) :=
  lookG_of (X := List Int × Nat × List (List UInt8)) (args := fun (b, p, ss) => (.ptr 0 0 0 :: [SL ss])) (cell := fun (b, p, ss) => (RS b p)) (pre := fun (b, p, ss) => (BB b) ∧ (p ≤ 1000000) ∧ (Big ss.length) ∧ (0 < ss.length)) (val := fun (b, p, ss) => .str (gs ss (pkM b p ss.length).toNat)) (cell' := fun (b, p, ss) => (RS b (p + 1))) (by
  rintro ⟨b, p, ss⟩ ⟨b', p', ss'⟩ h h2
  simp at h h2
  try simp only [and_assoc] at h
  obtain ⟨rfl, rfl⟩ := h2
  subst h
  exact ⟨rfl, rfl⟩) (b, p, ss) ⟨hb, hp, hl, h1⟩
attribute [irreducible] fw_ofS
def prL : List (List UInt8) := [sPre, sDiv, sInv, sIde, sBoo, sDiv, sInv, []]
theorem aProp_pc (b : List Int) (p : Nat) (hb : BB b) (hp : p ≤ 1000000) : PC Try.prog 143 (.ptr 0 0 0 :: []) (some (RS b p)) false (fun r c => imm 5 r = imm 5 (.str (gs prL (pkM b p 8).toNat)) ∧ c = (RS b (p + 1))) := by
  have l1 : fw_ofS.look [.ptr 0 0 0, .list 1 [.str sPre, .str sDiv, .str sInv, .str sIde, .str sBoo, .str sDiv, .str sInv, .str []]] (RS b p) = some (.str (gs prL (pkM b p 8).toNat), RS b (p + 1)) := fw_ofS_look b p prL hb hp (by unfold Big prL; simp) (by simp [prL])
  refine pcW [] [fw_ofS] fok_143 ?_
  simp [fa_143, callOW, l1, rg8]
noncomputable def fw_aProp : FamW Try.prog := mkFamW (X := List Int × Nat) 143 (fun (b, p) => (.ptr 0 0 0 :: [])) (fun (b, p) => (RS b p)) (fun (b, p) => (BB b) ∧ (p ≤ 1000000)) (fun (b, p) => .str (gs prL (pkM b p 8).toNat)) (fun (b, p) => (RS b (p + 1))) (by
  rintro ⟨b, p⟩ ⟨hb, hp⟩
  exact aProp_pc b p hb hp)
@[simp] theorem fw_aProp_id : fw_aProp.id = 143 := rfl
@[simp] theorem fw_aProp_look (b : List Int) (p : Nat) (hb : BB b) (hp : p ≤ 1000000) : fw_aProp.look (.ptr 0 0 0 :: []) (RS b p) = some (.str (gs prL (pkM b p 8).toNat), (RS b (p + 1))) :=
  lookG_of (X := List Int × Nat) (args := fun (b, p) => (.ptr 0 0 0 :: [])) (cell := fun (b, p) => (RS b p)) (pre := fun (b, p) => (BB b) ∧ (p ≤ 1000000)) (val := fun (b, p) => .str (gs prL (pkM b p 8).toNat)) (cell' := fun (b, p) => (RS b (p + 1))) (by
  rintro ⟨b, p⟩ ⟨b', p'⟩ h h2
  simp at h h2
  try simp only [and_assoc] at h
  obtain ⟨rfl, rfl⟩ := h2
  exact ⟨rfl, rfl⟩) (b, p) ⟨hb, hp⟩
attribute [irreducible] fw_aProp
theorem drHas_pc (c : List Int) (hc : Byt c) (hl : Big c.length) : PC Try.prog 68 [BL c] none false (fun r _ => r = .tup [.str (gs prL (pkM (rdB c) 0 8).toNat), AL (saM (rdB c) 1).1.1 (saM (rdB c) 1).1.2]) := by
  have hl := hl.le
  have hb := rdB_ok hc
  have l0 := fw_aProp_look (rdB c) 0 hb (by omega)
  have l1 := fw_someAlg_look (rdB c) 1 hb (by omega) (by omega)
  refine pcR [] [fw_aProp, fw_someAlg] fok_68 ?_
  generalize saM (rdB c) 1 = A at *
  obtain ⟨⟨u, t⟩, p1⟩ := A
  dsimp only at *
  simp [fa_68]
  refine newR hl ?_
  simp [callOWR, l0, l1]
noncomputable def fm_drHas : Fam Try.prog := mkFam (X := List Int) 68 false (fun c => [BL c]) (fun c => (Byt c) ∧ (Big c.length)) (fun c => .tup [.str (gs prL (pkM (rdB c) 0 8).toNat), AL (saM (rdB c) 1).1.1 (saM (rdB c) 1).1.2]) (by
  rintro c ⟨hc, hl⟩
  exact drHas_pc c hc hl)
@[simp] theorem fm_drHas_id : fm_drHas.id = 68 := rfl
@[simp] theorem fm_drHas_fresh : fm_drHas.fresh = false := rfl
@[simp] theorem fm_drHas_look (c : List Int) (hc : Byt c) (hl : Big c.length) : fm_drHas.look [BL c] = some (.tup [.str (gs prL (pkM (rdB c) 0 8).toNat), AL (saM (rdB c) 1).1.1 (saM (rdB c) 1).1.2]) :=
  lookF_of (X := List Int) (args := fun c => [BL c]) (pre := fun c => (Byt c) ∧ (Big c.length)) (val := fun c => .tup [.str (gs prL (pkM (rdB c) 0 8).toNat), AL (saM (rdB c) 1).1.1 (saM (rdB c) 1).1.2]) (by
  intro c c' h
  simp at h
  subst h
  rfl) c ⟨hc, hl⟩
attribute [irreducible] fm_drHas

section
variable {u : List Int} {t : List (List Int)}
theorem ho_bo (a : VA u t) {x y : Nat} (hx : x < u.length) : hoM u t sBoo x y = true ↔ BO u t x := by
  have h := a.lat.jo_int hx (a.im_lt (x := x) (y := 0))
  have hp := a.lat.pos
  simp only [hoM, show ¬ (sBoo = sPre) by decide, show ¬ (sBoo = sDiv) by decide, show ¬ (sBoo = sInv) by decide, show ¬ (sBoo = sIde) by decide, if_false, if_true, decide_eq_true_eq]
  rw [show joinM u x (implyM u t x 0).toNat = _ from h]
  unfold BO
  omega
theorem ho_iv (a : VA u t) {x y : Nat} (hx : x < u.length) : hoM u t sInv x y = true ↔ IV u t x := by
  have h := a.im_int (x := im u t x 0) (y := 0)
  simp only [hoM, show ¬ (sInv = sPre) by decide, show ¬ (sInv = sDiv) by decide, if_false, if_true, decide_eq_true_eq]
  rw [show implyM u t (implyM u t x 0).toNat 0 = _ from h]
  unfold IV
  omega
theorem ho_pl (a : VA u t) {x y : Nat} (hx : x < u.length) (hy : y < u.length) : hoM u t sPre x y = true ↔ PL u t x y := by
  have h := a.lat.jo_int (a.im_lt (x := x) (y := y)) (a.im_lt (x := y) (y := x))
  have hp := a.lat.pos
  simp only [hoM, if_true, decide_eq_true_eq]
  rw [show joinM u (implyM u t x y).toNat (implyM u t y x).toNat = _ from h]
  unfold PL
  omega
theorem ho_dv (a : VA u t) {x y : Nat} (hx : x < u.length) (hy : y < u.length) : hoM u t sDiv x y = true ↔ DV u t x y := by
  have h := a.tn_int hx (a.im_lt (x := x) (y := y))
  have h2 := a.lat.mt_int hx hy
  simp only [hoM, show ¬ (sDiv = sPre) by decide, if_false, if_true, decide_eq_true_eq]
  rw [show tm t x (implyM u t x y).toNat = _ from h, h2]
  unfold DV
  omega
theorem has_bo (a : VA u t) : hasA u t sBoo = (hasA u t sIde && hasA u t sInv) := by
  have hp := a.lat.pos
  rw [Bool.eq_iff_iff, Bool.and_eq_true, hasA_iff, hasA_iff, hasA_iff]
  constructor
  · intro h
    exact ⟨fun x hx y hy => (ho_id a hx).2 (a.bo_id hx ((ho_bo a hx).1 (h x hx 0 hp))), fun x hx y hy => (ho_iv a hx).2 (a.bo_iv hx ((ho_bo a hx).1 (h x hx 0 hp)))⟩
  · rintro ⟨h1, h2⟩ x hx y hy
    exact (ho_bo a hx).2 (a.bo_of (fun x hx => (ho_id a hx).1 (h1 x hx 0 hp)) (fun x hx => (ho_iv a hx).1 (h2 x hx 0 hp)) hx)
theorem has_di (a : VA u t) {nm : List UInt8} (hn : nm = sPre ∨ nm = sDiv) (h : hasA u t nm = true) : DI u := by
  rw [hasA_iff] at h
  rcases hn with rfl | rfl
  · exact a.di_pl fun x hx y hy => (ho_pl a hx hy).1 (h x hx y hy)
  · exact a.di_dv fun x hx y hy => (ho_dv a hx hy).1 (h x hx y hy)
end

set_option maxHeartbeats 2000000 in
theorem FnHasProperty_pc (c : List Int) (hl : Hu c.length) (hc : Byt c) : PC Try.prog 15 [BL c] none true (fun r _ => r = .bool true) := by
  have hl' := hl.le
  refine pcT [fm_drHas, fm_HasI, fm_HasS, fm_validAlgebraI, fm_DistI] fok_15 ?_
  rcases Nat.lt_or_ge 1048576 c.length with q | q
  · simp [fa_15, show ((1048576 : Int) < c.length) by omega]
  · have hbig : Big c.length := by unfold Big; omega
    have l1 := fm_drHas_look c hc hbig
    obtain ⟨g, _⟩ := saM_few (rdB_ok hc) (p := 1) (by omega)
    have hu := g.big
    have ht := g.bigR
    generalize saM (rdB c) 1 = A at *
    obtain ⟨⟨u, t⟩, p1⟩ := A
    dsimp only at *
    generalize gs prL (pkM (rdB c) 0 8).toNat = nm at *
    simp [fa_15, show ¬ ((1048576 : Int) < c.length) by omega, show ((c.length : Int) ≤ 1048576) by omega, l1, hu, ht]
    refine cutW (tabK_mono _) [(27, .bool (!decide (VA u t)))] (by simp [hu, ht]) ?_
    simp [hu, ht]
    refine fun a => ?_
    have hI : hasM u t sIde = hasA u t sIde := by simp [hasM, a, propM]
    have hV : hasM u t sInv = hasA u t sInv := by simp [hasM, a, propM]
    have hB : hasM u t sBoo = hasA u t sBoo := by simp [hasM, a, propM]
    have m1 := fm_HasI_look sIde u t hu ht
    have m2 := fm_HasI_look sInv u t hu ht
    have m3 := fm_HasI_look sBoo u t hu ht
    rw [hI] at m1
    rw [hV] at m2
    rw [hB, has_bo a] at m3
    refine cutW (tabK_mono _) [(6, .bool (hasA u t sIde && hasA u t sInv))] (by
      cases hb : hasA u t sIde
      · rw [hb] at m1
        simp [m1]
      · rw [hb] at m1
        simp [m1, m2]) ?_
    simp [m3]
    have hd : hasM u t nm = true → (nm = sPre ∨ nm = sDiv) → DI u := fun h hn => by
      refine has_di a hn ?_
      simp only [hasM, Bool.and_eq_true] at h
      exact h.2
    refine cutW (tabK_mono _) [(2, .bool true)] (by
      cases hb : hasM u t nm
      · simp [hb]
      · by_cases n1 : nm = sPre
        · simp [hb, n1, hu, a.lat, hd hb (.inl n1)]
        · by_cases n2 : nm = sDiv
          · simp [hb, n1, n2, hu, a.lat, hd hb (.inr n2)]
          · simp [hb, n1, n2]) ?_
    simp
end Go.PS
end
