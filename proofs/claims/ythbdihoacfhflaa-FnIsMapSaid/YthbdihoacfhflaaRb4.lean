/- Part 4 of what the last text proves: Maps keep opposites: the law holds at every input. -/
import Derived.Test.YthbdihoacfhflaaRb3
import Derived.WalkKit
import Derived.ProofKit
import Derived.Shelf.RegionOpenPlain
import Derived.Deep.LoopGhost
import Derived.Lib.Walk
import Derived.Lib.SliceRun
import Derived.Laws.CopyOwn
import Derived.Laws.MakeOwn
import Derived.LoopN
import Derived.Shelf.Spec.SlicesInsert
section
-- PRINTED by rep.py: slices.Repeat of a row of one number, up to six times.
set_option linter.unusedVariables false
set_option linter.unusedSimpArgs false
open Go Go.Proofs Go.RowKit Go.Lib
namespace Go.PS
set_option maxRecDepth 100000

end Go.PS
end

section
-- Functions run in place.
set_option maxRecDepth 100000
set_option linter.unusedVariables false
set_option linter.unusedSimpArgs false
namespace Go.PS
open Go.Proofs
/-- The program with some functions run in place. -/
noncomputable def CI (f : Nat → Option FnA) : Ctx := ⟨Try.prog, tyOf Try.prog, f⟩
@[simp] theorem CI_P {f : Nat → Option FnA} : (CI f).P = Try.prog := rfl
@[simp] theorem CI_tt {f : Nat → Option FnA} (T : Nat) : (CI f).tt T = tyOf Try.prog T := rfl
@[simp] theorem CI_inl {f : Nat → Option FnA} : (CI f).inl = f := rfl
end Go.PS
end

section
-- The least power of the implementation: its loops over all lists, run in place.
set_option maxRecDepth 100000
set_option linter.unusedVariables false
set_option linter.unusedSimpArgs false
namespace Go.PS
open Go.Proofs

theorem w2 : IntKind.i64.wrap 2 = 2 := rfl
theorem w1 : IntKind.i64.wrap 1 = 1 := rfl
theorem w0 : IntKind.i64.wrap 0 = 0 := rfl
end Go.PS
end

section
-- All lists of so many numbers, one after the other: eachList, run in place for any function.
set_option maxRecDepth 100000
set_option linter.unusedVariables false
set_option linter.unusedSimpArgs false
namespace Go.PS
open Go.Proofs

end Go.PS
end

section
-- PRINTED by gen.py: clean texts of functions, and their tie to the program.
set_option maxRecDepth 100000
namespace Go.PS
open Go.Proofs
end Go.PS
end

section
-- PRINTED by gen.py: clean texts of functions, and their tie to the program.
set_option maxRecDepth 100000
namespace Go.PS
open Go.Proofs

end Go.PS
end

section
-- PRINTED by gen.py: clean texts of functions, and their tie to the program.
set_option maxRecDepth 100000
namespace Go.PS
open Go.Proofs
end Go.PS
end

section
-- PRINTED by gen.py: clean texts of functions, and their tie to the program.
set_option maxRecDepth 100000
namespace Go.PS
open Go.Proofs
/-- spec.isMap -/
def an_145 : Ann := ⟨[(7, 8, 3), (17, 31, 3), (17, 43, 3), (17, 52, 3), (17, 65, 3), (17, 74, 3), (17, 87, 3)], [(0, [2, 3, 4]), (1, [2, 3, 4, 7]), (2, [2, 3, 4, 7, 17]), (3, [6]), (4, [2, 3, 4, 7, 8]), (5, [2, 3, 4, 7, 8, 20]), (7, [2, 3, 4, 7, 8, 32]), (8, [6]), (6, [2, 3, 4, 7, 8]), (9, [2, 3, 4, 7, 48]), (10, [6]), (11, [2, 3, 4, 7, 9]), (12, [2, 3, 4, 7, 9, 51]), (14, [2, 3, 4, 7, 9, 10]), (15, [2, 3, 4, 7, 9, 10, 56]), (17, [2, 3, 4, 7, 9, 10, 148]), (18, [6]), (16, [2, 3, 4, 7, 9, 10]), (13, [2, 3, 4, 7, 9]), (19, [6])], [(5, [2, 3, 4, 7, 8], []), (12, [2, 3, 4, 7, 9], []), (15, [2, 3, 4, 7, 9, 10], [])], []⟩
def lb_145_5 : AC :=
  (.seq
    (.seq
      (.region false [⟨some 18, (.mv (.t 8)), 3, none, 0⟩, ⟨some 19, (.mv (.t 7)), 3, none, 0⟩, ⟨some 20, (.bin .lss 3 (.t 18) (.t 19)), 4, none, 0⟩] (some [2, 3, 4, 7, 8, 20]))
      (.cond (.t 20)
        .skip
        (.exit 0)))
    (.seq
      (.block 1
        (.seq
          (.region true [⟨some 23, (.mv (.t 2)), 23, none, 0⟩, ⟨some 24, (.mv (.t 8)), 3, none, 0⟩, ⟨some 25, (.iaddr 23 (.t 23) (.t 24)), 0, none, 0⟩, ⟨some 26, (.load 3 (.t 25)), 3, none, 0⟩, ⟨some 27, (.faddr 27 (.t 4) 0), 0, none, 0⟩, ⟨some 28, (.load 23 (.t 27)), 23, none, 0⟩, ⟨some 29, (.len 23 (.t 28)), 3, none, 0⟩, ⟨some 30, (.bin .sub 3 (.t 29) (.c (.int .i64 1))), 3, none, 0⟩, ⟨some 31, (.call (.f 128) [(.t 26), (.c (.int .i64 0)), (.t 30)]), 4, none, 3⟩, ⟨some 32, (.un .not (.t 31)), 4, none, 0⟩] (some [2, 3, 4, 7, 8, 32]))
          (.cond (.t 32)
            (.seq
              (.region false [⟨some 6, (.mv (.c (.bool false))), 4, none, 0⟩] (some [6]))
              .ret)
            .skip)))
      (.region false [⟨some 21, (.mv (.t 8)), 3, none, 0⟩, ⟨some 22, (.bin .add 3 (.t 21) (.c (.int .i64 1))), 3, none, 0⟩, ⟨some 8, (.mv (.t 22)), 3, none, 0⟩] (some [2, 3, 4, 7, 8]))))
def lb_145_15 : AC :=
  (.seq
    (.seq
      (.region false [⟨some 54, (.mv (.t 10)), 3, none, 0⟩, ⟨some 55, (.mv (.t 7)), 3, none, 0⟩, ⟨some 56, (.bin .lss 3 (.t 54) (.t 55)), 4, none, 0⟩] (some [2, 3, 4, 7, 9, 10, 56]))
      (.cond (.t 56)
        .skip
        (.exit 4)))
    (.seq
      (.block 5
        (.seq
          (.region true (gops (seg [2, 3, 4, 7, 9, 10, 68] [⟨some 59, (.mv (.t 2)), 23, none, 0⟩, ⟨some 60, (.faddr 27 (.t 3) 1), 0, none, 0⟩, ⟨some 61, (.load 25 (.t 60)), 25, none, 0⟩, ⟨some 62, (.mv (.t 9)), 3, none, 0⟩, ⟨some 63, (.iaddr 25 (.t 61) (.t 62)), 0, none, 0⟩, ⟨some 64, (.load 23 (.t 63)), 23, none, 0⟩, ⟨some 65, (.mv (.t 10)), 3, none, 0⟩, ⟨some 66, (.iaddr 23 (.t 64) (.t 65)), 0, none, 0⟩, ⟨some 67, (.load 3 (.t 66)), 3, none, 0⟩, ⟨some 68, (.iaddr 23 (.t 59) (.t 67)), 0, none, 0⟩]
          (seg [2, 3, 4, 7, 9, 10, 69, 77, 78] [⟨some 69, (.load 3 (.t 68)), 3, none, 0⟩, ⟨some 70, (.faddr 27 (.t 4) 1), 0, none, 0⟩, ⟨some 71, (.load 25 (.t 70)), 25, none, 0⟩, ⟨some 72, (.mv (.t 2)), 23, none, 0⟩, ⟨some 73, (.mv (.t 9)), 3, none, 0⟩, ⟨some 74, (.iaddr 23 (.t 72) (.t 73)), 0, none, 0⟩, ⟨some 75, (.load 3 (.t 74)), 3, none, 0⟩, ⟨some 76, (.iaddr 25 (.t 71) (.t 75)), 0, none, 0⟩, ⟨some 77, (.load 23 (.t 76)), 23, none, 0⟩, ⟨some 78, (.mv (.t 2)), 23, none, 0⟩]
          (seg [2, 3, 4, 7, 9, 10, 85, 86, 87, 88] [⟨some 79, (.mv (.t 10)), 3, none, 0⟩, ⟨some 80, (.iaddr 23 (.t 78) (.t 79)), 0, none, 0⟩, ⟨some 81, (.load 3 (.t 80)), 3, none, 0⟩, ⟨some 82, (.iaddr 23 (.t 77) (.t 81)), 0, none, 0⟩, ⟨some 83, (.load 3 (.t 82)), 3, none, 0⟩, ⟨some 84, (.bin .neq 3 (.t 69) (.t 83)), 4, none, 0⟩, ⟨some 85, (.mv (.t 84)), 4, none, 0⟩, ⟨some 86, (.mv (.t 2)), 23, some (85, false), 0⟩, ⟨some 87, (.load 27 (.t 3)), 27, some (85, false), 0⟩, ⟨some 88, (.mv (.t 9)), 3, some (85, false), 0⟩]
          (seg [2, 3, 4, 7, 9, 10, 85, 92, 93, 97, 98] [⟨some 89, (.mv (.t 10)), 3, some (85, false), 0⟩, ⟨some 90, (.call (.f 137) [(.t 87), (.t 88), (.t 89)]), 3, some (85, false), 3⟩, ⟨some 91, (.iaddr 23 (.t 86) (.t 90)), 0, some (85, false), 0⟩, ⟨some 92, (.load 3 (.t 91)), 3, some (85, false), 0⟩, ⟨some 93, (.load 27 (.t 4)), 27, some (85, false), 0⟩, ⟨some 94, (.mv (.t 2)), 23, some (85, false), 0⟩, ⟨some 95, (.mv (.t 9)), 3, some (85, false), 0⟩, ⟨some 96, (.iaddr 23 (.t 94) (.t 95)), 0, some (85, false), 0⟩, ⟨some 97, (.load 3 (.t 96)), 3, some (85, false), 0⟩, ⟨some 98, (.mv (.t 2)), 23, some (85, false), 0⟩]
          (seg [2, 3, 4, 7, 9, 10, 105, 106, 108] [⟨some 99, (.mv (.t 10)), 3, some (85, false), 0⟩, ⟨some 100, (.iaddr 23 (.t 98) (.t 99)), 0, some (85, false), 0⟩, ⟨some 101, (.load 3 (.t 100)), 3, some (85, false), 0⟩, ⟨some 102, (.call (.f 137) [(.t 93), (.t 97), (.t 101)]), 3, some (85, false), 3⟩, ⟨some 103, (.bin .neq 3 (.t 92) (.t 102)), 4, some (85, false), 0⟩, ⟨some 104, (.pick (.t 85) (.c (.bool true)) (.t 103)), 4, none, 0⟩, ⟨some 105, (.mv (.t 104)), 4, none, 0⟩, ⟨some 106, (.mv (.t 2)), 23, some (105, false), 0⟩, ⟨some 107, (.faddr 27 (.t 3) 0), 0, some (105, false), 0⟩, ⟨some 108, (.load 23 (.t 107)), 23, some (105, false), 0⟩]
          (seg [2, 3, 4, 7, 9, 10, 105, 113, 115, 118] [⟨some 109, (.mv (.t 9)), 3, some (105, false), 0⟩, ⟨some 110, (.mv (.t 10)), 3, some (105, false), 0⟩, ⟨some 111, (.call (.f 165) [(.t 108), (.t 109), (.t 110)]), 3, some (105, false), 3⟩, ⟨some 112, (.iaddr 23 (.t 106) (.t 111)), 0, some (105, false), 0⟩, ⟨some 113, (.load 3 (.t 112)), 3, some (105, false), 0⟩, ⟨some 114, (.faddr 27 (.t 4) 0), 0, some (105, false), 0⟩, ⟨some 115, (.load 23 (.t 114)), 23, some (105, false), 0⟩, ⟨some 116, (.mv (.t 2)), 23, some (105, false), 0⟩, ⟨some 117, (.mv (.t 9)), 3, some (105, false), 0⟩, ⟨some 118, (.iaddr 23 (.t 116) (.t 117)), 0, some (105, false), 0⟩]
          (seg [2, 3, 4, 7, 9, 10, 127, 128] [⟨some 119, (.load 3 (.t 118)), 3, some (105, false), 0⟩, ⟨some 120, (.mv (.t 2)), 23, some (105, false), 0⟩, ⟨some 121, (.mv (.t 10)), 3, some (105, false), 0⟩, ⟨some 122, (.iaddr 23 (.t 120) (.t 121)), 0, some (105, false), 0⟩, ⟨some 123, (.load 3 (.t 122)), 3, some (105, false), 0⟩, ⟨some 124, (.call (.f 165) [(.t 115), (.t 119), (.t 123)]), 3, some (105, false), 3⟩, ⟨some 125, (.bin .neq 3 (.t 113) (.t 124)), 4, some (105, false), 0⟩, ⟨some 126, (.pick (.t 105) (.c (.bool true)) (.t 125)), 4, none, 0⟩, ⟨some 127, (.mv (.t 126)), 4, none, 0⟩, ⟨some 128, (.mv (.t 2)), 23, some (127, false), 0⟩]
          (seg [2, 3, 4, 7, 9, 10, 127, 135, 137, 138] [⟨some 129, (.faddr 27 (.t 3) 0), 0, some (127, false), 0⟩, ⟨some 130, (.load 23 (.t 129)), 23, some (127, false), 0⟩, ⟨some 131, (.mv (.t 9)), 3, some (127, false), 0⟩, ⟨some 132, (.mv (.t 10)), 3, some (127, false), 0⟩, ⟨some 133, (.call (.f 136) [(.t 130), (.t 131), (.t 132)]), 3, some (127, false), 3⟩, ⟨some 134, (.iaddr 23 (.t 128) (.t 133)), 0, some (127, false), 0⟩, ⟨some 135, (.load 3 (.t 134)), 3, some (127, false), 0⟩, ⟨some 136, (.faddr 27 (.t 4) 0), 0, some (127, false), 0⟩, ⟨some 137, (.load 23 (.t 136)), 23, some (127, false), 0⟩, ⟨some 138, (.mv (.t 2)), 23, some (127, false), 0⟩]
          [⟨some 139, (.mv (.t 9)), 3, some (127, false), 0⟩, ⟨some 140, (.iaddr 23 (.t 138) (.t 139)), 0, some (127, false), 0⟩, ⟨some 141, (.load 3 (.t 140)), 3, some (127, false), 0⟩, ⟨some 142, (.mv (.t 2)), 23, some (127, false), 0⟩, ⟨some 143, (.mv (.t 10)), 3, some (127, false), 0⟩, ⟨some 144, (.iaddr 23 (.t 142) (.t 143)), 0, some (127, false), 0⟩, ⟨some 145, (.load 3 (.t 144)), 3, some (127, false), 0⟩, ⟨some 146, (.call (.f 136) [(.t 137), (.t 141), (.t 145)]), 3, some (127, false), 3⟩, ⟨some 147, (.bin .neq 3 (.t 135) (.t 146)), 4, some (127, false), 0⟩, ⟨some 148, (.pick (.t 127) (.c (.bool true)) (.t 147)), 4, none, 0⟩] [2, 3, 4, 7, 9, 10, 148] (by decide)) [2, 3, 4, 7, 9, 10, 148] (by decide)) [2, 3, 4, 7, 9, 10, 148] (by decide)) [2, 3, 4, 7, 9, 10, 148] (by decide)) [2, 3, 4, 7, 9, 10, 148] (by decide)) [2, 3, 4, 7, 9, 10, 148] (by decide)) [2, 3, 4, 7, 9, 10, 148] (by decide)) [2, 3, 4, 7, 9, 10, 148] (by decide))) (some [2, 3, 4, 7, 9, 10, 148]))
          (.cond (.t 148)
            (.seq
              (.region false [⟨some 6, (.mv (.c (.bool false))), 4, none, 0⟩] (some [6]))
              .ret)
            .skip)))
      (.region false [⟨some 57, (.mv (.t 10)), 3, none, 0⟩, ⟨some 58, (.bin .add 3 (.t 57) (.c (.int .i64 1))), 3, none, 0⟩, ⟨some 10, (.mv (.t 58)), 3, none, 0⟩] (some [2, 3, 4, 7, 9, 10]))))
def lb_145_12 : AC :=
  (.seq
    (.seq
      (.region false [⟨some 49, (.mv (.t 9)), 3, none, 0⟩, ⟨some 50, (.mv (.t 7)), 3, none, 0⟩, ⟨some 51, (.bin .lss 3 (.t 49) (.t 50)), 4, none, 0⟩] (some [2, 3, 4, 7, 9, 51]))
      (.cond (.t 51)
        .skip
        (.exit 2)))
    (.seq
      (.block 3
        (.seq
          (.region false [⟨some 10, (.mv (.c (.int .i64 0))), 3, none, 0⟩] (some [2, 3, 4, 7, 9, 10]))
          (.block 4
            (.loop [2, 3, 4, 7, 9, 10] [] lb_145_15))))
      (.region false [⟨some 52, (.mv (.t 9)), 3, none, 0⟩, ⟨some 53, (.bin .add 3 (.t 52) (.c (.int .i64 1))), 3, none, 0⟩, ⟨some 9, (.mv (.t 53)), 3, none, 0⟩] (some [2, 3, 4, 7, 9]))))
def fa_145 : FnA := ⟨149, [.t 6],
  (.seq
    (.region false [⟨some 3, (.box 27 (.t 0)), 0, none, 0⟩, ⟨some 4, (.box 27 (.t 1)), 0, none, 0⟩, ⟨some 6, (.mv (.c (.bool false))), 4, none, 0⟩] (some [2, 3, 4]))
    (.seq
      (.region false [⟨some 11, (.faddr 27 (.t 3) 0), 0, none, 0⟩, ⟨some 12, (.load 23 (.t 11)), 23, none, 0⟩, ⟨some 13, (.len 23 (.t 12)), 3, none, 0⟩, ⟨some 7, (.mv (.t 13)), 3, none, 0⟩] (some [2, 3, 4, 7]))
      (.seq
        (.seq
          (.region false [⟨some 14, (.mv (.t 2)), 23, none, 0⟩, ⟨some 15, (.len 23 (.t 14)), 3, none, 0⟩, ⟨some 16, (.mv (.t 7)), 3, none, 0⟩, ⟨some 17, (.bin .neq 3 (.t 15) (.t 16)), 4, none, 0⟩] (some [2, 3, 4, 7, 17]))
          (.cond (.t 17)
            (.seq
              (.region false [⟨some 6, (.mv (.c (.bool false))), 4, none, 0⟩] (some [6]))
              .ret)
            .skip))
        (.seq
          (.seq
            (.region false [⟨some 8, (.mv (.c (.int .i64 0))), 3, none, 0⟩] (some [2, 3, 4, 7, 8]))
            (.block 0
              (.loop [2, 3, 4, 7, 8] [] lb_145_5)))
          (.seq
            (.seq
              (.region true (gops [⟨some 33, (.mv (.t 2)), 23, none, 0⟩, ⟨some 34, (.iaddr 23 (.t 33) (.c (.int .i64 0))), 0, none, 0⟩, ⟨some 35, (.load 3 (.t 34)), 3, none, 0⟩, ⟨some 36, (.bin .neq 3 (.t 35) (.c (.int .i64 0))), 4, none, 0⟩, ⟨some 37, (.mv (.t 36)), 4, none, 0⟩, ⟨some 38, (.mv (.t 2)), 23, some (37, false), 0⟩, ⟨some 39, (.mv (.t 7)), 3, some (37, false), 0⟩, ⟨some 40, (.bin .sub 3 (.t 39) (.c (.int .i64 1))), 3, some (37, false), 0⟩, ⟨some 41, (.iaddr 23 (.t 38) (.t 40)), 0, some (37, false), 0⟩, ⟨some 42, (.load 3 (.t 41)), 3, some (37, false), 0⟩, ⟨some 43, (.faddr 27 (.t 4) 0), 0, some (37, false), 0⟩, ⟨some 44, (.load 23 (.t 43)), 23, some (37, false), 0⟩, ⟨some 45, (.len 23 (.t 44)), 3, some (37, false), 0⟩, ⟨some 46, (.bin .sub 3 (.t 45) (.c (.int .i64 1))), 3, some (37, false), 0⟩, ⟨some 47, (.bin .neq 3 (.t 42) (.t 46)), 4, some (37, false), 0⟩, ⟨some 48, (.pick (.t 37) (.c (.bool true)) (.t 47)), 4, none, 0⟩]) (some [2, 3, 4, 7, 48]))
              (.cond (.t 48)
                (.seq
                  (.region false [⟨some 6, (.mv (.c (.bool false))), 4, none, 0⟩] (some [6]))
                  .ret)
                .skip))
            (.seq
              (.seq
                (.region false [⟨some 9, (.mv (.c (.int .i64 0))), 3, none, 0⟩] (some [2, 3, 4, 7, 9]))
                (.block 2
                  (.loop [2, 3, 4, 7, 9] [] lb_145_12)))
              (.seq
                (.region false [⟨some 6, (.mv (.c (.bool true))), 4, none, 0⟩] (some [6]))
                .ret)))))))⟩
theorem fok_145 : FnOk Try.prog 145 fa_145 an_145 := ⟨Try.f145, _, Try.func145, rfl, by kernel_rfl, rfl, rfl, by decide, by kernel_rfl⟩
/-- spec.fits -/
def an_188 : Ann := ⟨[(5, 47, 3), (5, 60, 3), (5, 70, 3), (5, 83, 3)], [(0, [2, 3, 4]), (1, [2, 3, 4, 7]), (2, [2, 3, 4, 7, 8]), (3, [2, 3, 4, 7, 8, 13]), (5, [2, 3, 4, 7, 8, 102]), (6, [6]), (4, [2, 3, 4, 7, 8]), (7, [6])], [(3, [2, 3, 4, 7, 8], [])], []⟩
def lb_188_3 : AC :=
  (.seq
    (.seq
      (.region false [⟨some 11, (.mv (.t 8)), 3, none, 0⟩, ⟨some 12, (.mv (.t 7)), 3, none, 0⟩, ⟨some 13, (.bin .lss 3 (.t 11) (.t 12)), 4, none, 0⟩] (some [2, 3, 4, 7, 8, 13]))
      (.cond (.t 13)
        .skip
        (.exit 0)))
    (.seq
      (.block 1
        (.seq
          (.region true (gops (seg [2, 3, 4, 7, 8, 24, 25] [⟨some 16, (.faddr 27 (.t 3) 1), 0, none, 0⟩, ⟨some 17, (.load 25 (.t 16)), 25, none, 0⟩, ⟨some 18, (.mv (.t 8)), 3, none, 0⟩, ⟨some 19, (.iaddr 25 (.t 17) (.t 18)), 0, none, 0⟩, ⟨some 20, (.load 23 (.t 19)), 23, none, 0⟩, ⟨some 21, (.mv (.t 7)), 3, none, 0⟩, ⟨some 22, (.bin .sub 3 (.t 21) (.c (.int .i64 1))), 3, none, 0⟩, ⟨some 23, (.iaddr 23 (.t 20) (.t 22)), 0, none, 0⟩, ⟨some 24, (.load 3 (.t 23)), 3, none, 0⟩, ⟨some 25, (.mv (.t 7)), 3, none, 0⟩]
          (seg [2, 3, 4, 7, 8, 27, 28, 33, 35] [⟨some 26, (.bin .lss 3 (.t 24) (.t 25)), 4, none, 0⟩, ⟨some 27, (.mv (.t 26)), 4, none, 0⟩, ⟨some 28, (.mv (.t 2)), 23, some (27, true), 0⟩, ⟨some 29, (.faddr 27 (.t 3) 1), 0, some (27, true), 0⟩, ⟨some 30, (.load 25 (.t 29)), 25, some (27, true), 0⟩, ⟨some 31, (.mv (.t 8)), 3, some (27, true), 0⟩, ⟨some 32, (.iaddr 25 (.t 30) (.t 31)), 0, some (27, true), 0⟩, ⟨some 33, (.load 23 (.t 32)), 23, some (27, true), 0⟩, ⟨some 34, (.mv (.t 7)), 3, some (27, true), 0⟩, ⟨some 35, (.bin .sub 3 (.t 34) (.c (.int .i64 1))), 3, some (27, true), 0⟩]
          (seg [2, 3, 4, 7, 8, 27, 39, 41, 45] [⟨some 36, (.iaddr 23 (.t 33) (.t 35)), 0, some (27, true), 0⟩, ⟨some 37, (.load 3 (.t 36)), 3, some (27, true), 0⟩, ⟨some 38, (.iaddr 23 (.t 28) (.t 37)), 0, some (27, true), 0⟩, ⟨some 39, (.load 3 (.t 38)), 3, some (27, true), 0⟩, ⟨some 40, (.faddr 27 (.t 4) 1), 0, some (27, true), 0⟩, ⟨some 41, (.load 25 (.t 40)), 25, some (27, true), 0⟩, ⟨some 42, (.mv (.t 2)), 23, some (27, true), 0⟩, ⟨some 43, (.mv (.t 8)), 3, some (27, true), 0⟩, ⟨some 44, (.iaddr 23 (.t 42) (.t 43)), 0, some (27, true), 0⟩, ⟨some 45, (.load 3 (.t 44)), 3, some (27, true), 0⟩]
          (seg [2, 3, 4, 7, 8, 27, 55] [⟨some 46, (.iaddr 25 (.t 41) (.t 45)), 0, some (27, true), 0⟩, ⟨some 47, (.load 23 (.t 46)), 23, some (27, true), 0⟩, ⟨some 48, (.mv (.t 2)), 23, some (27, true), 0⟩, ⟨some 49, (.mv (.t 7)), 3, some (27, true), 0⟩, ⟨some 50, (.bin .sub 3 (.t 49) (.c (.int .i64 1))), 3, some (27, true), 0⟩, ⟨some 51, (.iaddr 23 (.t 48) (.t 50)), 0, some (27, true), 0⟩, ⟨some 52, (.load 3 (.t 51)), 3, some (27, true), 0⟩, ⟨some 53, (.iaddr 23 (.t 47) (.t 52)), 0, some (27, true), 0⟩, ⟨some 54, (.load 3 (.t 53)), 3, some (27, true), 0⟩, ⟨some 55, (.bin .neq 3 (.t 39) (.t 54)), 4, some (27, true), 0⟩]
          (seg [2, 3, 4, 7, 8, 57, 64, 65] [⟨some 56, (.pick (.t 27) (.t 55) (.c (.bool false))), 4, none, 0⟩, ⟨some 57, (.mv (.t 56)), 4, none, 0⟩, ⟨some 58, (.faddr 27 (.t 3) 0), 0, some (57, false), 0⟩, ⟨some 59, (.load 23 (.t 58)), 23, some (57, false), 0⟩, ⟨some 60, (.mv (.t 8)), 3, some (57, false), 0⟩, ⟨some 61, (.mv (.t 7)), 3, some (57, false), 0⟩, ⟨some 62, (.bin .sub 3 (.t 61) (.c (.int .i64 1))), 3, some (57, false), 0⟩, ⟨some 63, (.call (.f 156) [(.t 59), (.t 60), (.t 62)]), 4, some (57, false), 3⟩, ⟨some 64, (.mv (.t 63)), 4, some (57, false), 0⟩, ⟨some 65, (.faddr 27 (.t 4) 0), 0, some (64, true), 0⟩]
          (seg [2, 3, 4, 7, 8, 57, 64, 66, 70, 75] [⟨some 66, (.load 23 (.t 65)), 23, some (64, true), 0⟩, ⟨some 67, (.mv (.t 2)), 23, some (64, true), 0⟩, ⟨some 68, (.mv (.t 8)), 3, some (64, true), 0⟩, ⟨some 69, (.iaddr 23 (.t 67) (.t 68)), 0, some (64, true), 0⟩, ⟨some 70, (.load 3 (.t 69)), 3, some (64, true), 0⟩, ⟨some 71, (.mv (.t 2)), 23, some (64, true), 0⟩, ⟨some 72, (.mv (.t 7)), 3, some (64, true), 0⟩, ⟨some 73, (.bin .sub 3 (.t 72) (.c (.int .i64 1))), 3, some (64, true), 0⟩, ⟨some 74, (.iaddr 23 (.t 71) (.t 73)), 0, some (64, true), 0⟩, ⟨some 75, (.load 3 (.t 74)), 3, some (64, true), 0⟩]
          (seg [2, 3, 4, 7, 8, 80, 82, 84, 85] [⟨some 76, (.call (.f 156) [(.t 66), (.t 70), (.t 75)]), 4, some (64, true), 3⟩, ⟨some 77, (.un .not (.t 76)), 4, some (64, true), 0⟩, ⟨some 78, (.pick (.t 64) (.t 77) (.c (.bool false))), 4, some (57, false), 0⟩, ⟨some 79, (.pick (.t 57) (.c (.bool true)) (.t 78)), 4, none, 0⟩, ⟨some 80, (.mv (.t 79)), 4, none, 0⟩, ⟨some 81, (.faddr 27 (.t 3) 0), 0, some (80, false), 0⟩, ⟨some 82, (.load 23 (.t 81)), 23, some (80, false), 0⟩, ⟨some 83, (.mv (.t 7)), 3, some (80, false), 0⟩, ⟨some 84, (.bin .sub 3 (.t 83) (.c (.int .i64 1))), 3, some (80, false), 0⟩, ⟨some 85, (.mv (.t 8)), 3, some (80, false), 0⟩]
          (seg [2, 3, 4, 7, 8, 80, 87, 89, 94, 95] [⟨some 86, (.call (.f 156) [(.t 82), (.t 84), (.t 85)]), 4, some (80, false), 3⟩, ⟨some 87, (.mv (.t 86)), 4, some (80, false), 0⟩, ⟨some 88, (.faddr 27 (.t 4) 0), 0, some (87, true), 0⟩, ⟨some 89, (.load 23 (.t 88)), 23, some (87, true), 0⟩, ⟨some 90, (.mv (.t 2)), 23, some (87, true), 0⟩, ⟨some 91, (.mv (.t 7)), 3, some (87, true), 0⟩, ⟨some 92, (.bin .sub 3 (.t 91) (.c (.int .i64 1))), 3, some (87, true), 0⟩, ⟨some 93, (.iaddr 23 (.t 90) (.t 92)), 0, some (87, true), 0⟩, ⟨some 94, (.load 3 (.t 93)), 3, some (87, true), 0⟩, ⟨some 95, (.mv (.t 2)), 23, some (87, true), 0⟩]
          [⟨some 96, (.mv (.t 8)), 3, some (87, true), 0⟩, ⟨some 97, (.iaddr 23 (.t 95) (.t 96)), 0, some (87, true), 0⟩, ⟨some 98, (.load 3 (.t 97)), 3, some (87, true), 0⟩, ⟨some 99, (.call (.f 156) [(.t 89), (.t 94), (.t 98)]), 4, some (87, true), 3⟩, ⟨some 100, (.un .not (.t 99)), 4, some (87, true), 0⟩, ⟨some 101, (.pick (.t 87) (.t 100) (.c (.bool false))), 4, some (80, false), 0⟩, ⟨some 102, (.pick (.t 80) (.c (.bool true)) (.t 101)), 4, none, 0⟩] [2, 3, 4, 7, 8, 102] (by decide)) [2, 3, 4, 7, 8, 102] (by decide)) [2, 3, 4, 7, 8, 102] (by decide)) [2, 3, 4, 7, 8, 102] (by decide)) [2, 3, 4, 7, 8, 102] (by decide)) [2, 3, 4, 7, 8, 102] (by decide)) [2, 3, 4, 7, 8, 102] (by decide)) [2, 3, 4, 7, 8, 102] (by decide))) (some [2, 3, 4, 7, 8, 102]))
          (.cond (.t 102)
            (.seq
              (.region false [⟨some 6, (.mv (.c (.bool false))), 4, none, 0⟩] (some [6]))
              .ret)
            .skip)))
      (.region false [⟨some 14, (.mv (.t 8)), 3, none, 0⟩, ⟨some 15, (.bin .add 3 (.t 14) (.c (.int .i64 1))), 3, none, 0⟩, ⟨some 8, (.mv (.t 15)), 3, none, 0⟩] (some [2, 3, 4, 7, 8]))))
def fa_188 : FnA := ⟨103, [.t 6],
  (.seq
    (.region false [⟨some 3, (.box 27 (.t 0)), 0, none, 0⟩, ⟨some 4, (.box 27 (.t 1)), 0, none, 0⟩, ⟨some 6, (.mv (.c (.bool false))), 4, none, 0⟩] (some [2, 3, 4]))
    (.seq
      (.region false [⟨some 9, (.mv (.t 2)), 23, none, 0⟩, ⟨some 10, (.len 23 (.t 9)), 3, none, 0⟩, ⟨some 7, (.mv (.t 10)), 3, none, 0⟩] (some [2, 3, 4, 7]))
      (.seq
        (.seq
          (.region false [⟨some 8, (.mv (.c (.int .i64 0))), 3, none, 0⟩] (some [2, 3, 4, 7, 8]))
          (.block 0
            (.loop [2, 3, 4, 7, 8] [] lb_188_3)))
        (.seq
          (.region false [⟨some 6, (.mv (.c (.bool true))), 4, none, 0⟩] (some [6]))
          .ret))))⟩
theorem fok_188 : FnOk Try.prog 188 fa_188 an_188 := ⟨Try.f188, _, Try.func188, rfl, by kernel_rfl, rfl, rfl, by decide, by kernel_rfl⟩
/-- spec.mapsFrom -/
def an_159 : Ann := ⟨[(2, 3, 3), (3, 0, 1), (3, 2, 2), (5, 0, 1), (9, 0, 1), (9, 5, 2), (10, 3, 3), (11, 4, 3), (12, 1, 2)], [(0, [2, 3, 4]), (1, [2, 3, 4, 15]), (2, [2, 19]), (3, [6]), (4, [6]), (5, [2, 3, 4, 7]), (6, [2, 3, 4, 7, 8]), (7, [2, 3, 4, 7, 8, 30]), (9, [2, 3, 4, 7, 8, 9]), (10, [2, 3, 4, 7, 8, 9, 42]), (11, [2, 3, 4, 7, 8]), (8, [2, 3, 4, 7, 8]), (12, [6])], [(7, [2, 3, 4, 7, 8], [200, 384])], []⟩
def lb_159_7 : AC :=
  (.seq
    (.seq
      (.region false [⟨some 26, (.mv (.t 8)), 3, none, 0⟩, ⟨some 27, (.faddr 27 (.t 4) 0), 0, none, 0⟩, ⟨some 28, (.load 23 (.t 27)), 23, none, 0⟩, ⟨some 29, (.len 23 (.t 28)), 3, none, 0⟩, ⟨some 30, (.bin .lss 3 (.t 26) (.t 29)), 4, none, 0⟩] (some [2, 3, 4, 7, 8, 30]))
      (.cond (.t 30)
        .skip
        (.exit 0)))
    (.seq
      (.block 1
        (.seq
          (.region false [⟨some 33, (.bslice 23 0 []), 23, none, 1⟩, ⟨some 34, (.mv (.t 2)), 23, none, 0⟩, ⟨some 35, (.app 23 23 (.t 33) (.t 34)), 23, none, 0⟩, ⟨some 36, (.mv (.t 8)), 3, none, 0⟩, ⟨some 37, (.bslice 23 1 [(0, (.t 36))]), 23, none, 0⟩, ⟨some 38, (.app 23 23 (.t 35) (.t 37)), 23, none, 2⟩, ⟨some 9, (.mv (.t 38)), 23, none, 0⟩] (some [2, 3, 4, 7, 8, 9]))
          (.seq
            (.region false [⟨some 39, (.load 27 (.t 3)), 27, none, 0⟩, ⟨some 40, (.load 27 (.t 4)), 27, none, 0⟩, ⟨some 41, (.mv (.t 9)), 23, none, 0⟩, ⟨some 42, (.call (.f 188) [(.t 39), (.t 40), (.t 41)]), 4, none, 3⟩] (some [2, 3, 4, 7, 8, 9, 42]))
            (.cond (.t 42)
              (.region false [⟨some 43, (.mv (.t 7)), 25, none, 0⟩, ⟨some 44, (.load 27 (.t 3)), 27, none, 0⟩, ⟨some 45, (.load 27 (.t 4)), 27, none, 0⟩, ⟨some 46, (.mv (.t 9)), 23, none, 0⟩, ⟨some 47, (.call (.f 159) [(.t 44), (.t 45), (.t 46)]), 25, none, 3⟩, ⟨some 48, (.app 25 25 (.t 43) (.t 47)), 25, none, 0⟩, ⟨some 7, (.mv (.t 48)), 25, none, 0⟩] (some [2, 3, 4, 7, 8]))
              .skip))))
      (.region false [⟨some 31, (.mv (.t 8)), 3, none, 0⟩, ⟨some 32, (.bin .add 3 (.t 31) (.c (.int .i64 1))), 3, none, 0⟩, ⟨some 8, (.mv (.t 32)), 3, none, 0⟩] (some [2, 3, 4, 7, 8]))))
def fa_159 : FnA := ⟨50, [.t 6],
  (.seq
    (.region false [⟨some 3, (.box 27 (.t 0)), 0, none, 0⟩, ⟨some 4, (.box 27 (.t 1)), 0, none, 0⟩, ⟨some 6, (.mv (.c .nil)), 25, none, 0⟩] (some [2, 3, 4]))
    (.seq
      (.seq
        (.region false [⟨some 10, (.mv (.t 2)), 23, none, 0⟩, ⟨some 11, (.len 23 (.t 10)), 3, none, 0⟩, ⟨some 12, (.faddr 27 (.t 3) 0), 0, none, 0⟩, ⟨some 13, (.load 23 (.t 12)), 23, none, 0⟩, ⟨some 14, (.len 23 (.t 13)), 3, none, 0⟩, ⟨some 15, (.bin .eql 3 (.t 11) (.t 14)), 4, none, 0⟩] (some [2, 3, 4, 15]))
        (.cond (.t 15)
          (.seq
            (.seq
              (.region false [⟨some 16, (.load 27 (.t 3)), 27, none, 0⟩, ⟨some 17, (.load 27 (.t 4)), 27, none, 0⟩, ⟨some 18, (.mv (.t 2)), 23, none, 0⟩, ⟨some 19, (.call (.f 145) [(.t 16), (.t 17), (.t 18)]), 4, none, 3⟩] (some [2, 19]))
              (.cond (.t 19)
                (.seq
                  (.region false [⟨some 20, (.bslice 23 0 []), 23, none, 1⟩, ⟨some 21, (.mv (.t 2)), 23, none, 0⟩, ⟨some 22, (.app 23 23 (.t 20) (.t 21)), 23, none, 2⟩, ⟨some 23, (.bslice 25 1 [(0, (.t 22))]), 25, none, 0⟩, ⟨some 6, (.mv (.t 23)), 25, none, 0⟩] (some [6]))
                  .ret)
                .skip))
            (.seq
              (.region false [⟨some 24, (.bslice 25 0 []), 25, none, 0⟩, ⟨some 6, (.mv (.t 24)), 25, none, 0⟩] (some [6]))
              .ret))
          .skip))
      (.seq
        (.region false [⟨some 25, (.bslice 25 0 []), 25, none, 1⟩, ⟨some 7, (.mv (.t 25)), 25, none, 0⟩] (some [2, 3, 4, 7]))
        (.seq
          (.seq
            (.region false [⟨some 8, (.mv (.c (.int .i64 0))), 3, none, 0⟩] (some [2, 3, 4, 7, 8]))
            (.block 0
              (.loop [2, 3, 4, 7, 8] [200, 384] lb_159_7)))
          (.seq
            (.region false [⟨some 49, (.mv (.t 7)), 25, none, 0⟩, ⟨some 6, (.mv (.t 49)), 25, none, 2⟩] (some [6]))
            .ret)))))⟩
theorem fok_159 : FnOk Try.prog 159 fa_159 an_159 := ⟨Try.f159, _, Try.func159, rfl, by kernel_rfl, rfl, rfl, by decide, by kernel_rfl⟩
/-- impl.isMap$1 -/
def an_182 : Ann := ⟨[(1, 5, 3)], [(0, [0, 1]), (1, [3])], [], []⟩
def fa_182 : FnA := ⟨11, [.t 3],
  (.seq
    (.region false [⟨some 3, (.mv (.c (.bool false))), 4, none, 0⟩] (some [0, 1]))
    (.seq
      (.region false [⟨some 4, (.mv (.t 0)), 3, none, 0⟩, ⟨some 5, (.faddr 27 (.t 1) 0), 0, none, 0⟩, ⟨some 6, (.load 23 (.t 5)), 23, none, 0⟩, ⟨some 7, (.len 23 (.t 6)), 3, none, 0⟩, ⟨some 8, (.bin .sub 3 (.t 7) (.c (.int .i64 1))), 3, none, 0⟩, ⟨some 9, (.call (.f 101) [(.t 4), (.c (.int .i64 0)), (.t 8)]), 4, none, 3⟩, ⟨some 10, (.un .not (.t 9)), 4, none, 0⟩, ⟨some 3, (.mv (.t 10)), 4, none, 0⟩] (some [3]))
      .ret))⟩
theorem fok_182 : FnOk Try.prog 182 fa_182 an_182 := ⟨Try.f182, _, Try.func182, rfl, by kernel_rfl, rfl, rfl, by decide, by kernel_rfl⟩
/-- impl.isMap -/
def an_144 : Ann := ⟨[(1, 9, 3), (11, 31, 3), (11, 43, 3), (11, 52, 3), (11, 65, 3), (11, 74, 3), (11, 87, 3)], [(0, [2, 3, 4]), (1, [2, 3, 4, 19]), (2, [6]), (3, [2, 3, 4, 36]), (4, [6]), (5, [2, 3, 4, 38, 39]), (6, [2, 3, 4, 38, 39, 40]), (7, [2, 3, 4, 7, 38, 39]), (8, [2, 3, 4, 7, 38, 39, 43, 44]), (9, [2, 3, 4, 7, 38, 39, 43, 44, 45]), (10, [2, 3, 4, 7, 8, 38, 39, 43, 44]), (11, [2, 3, 4, 7, 38, 39, 43, 44, 136]), (12, [6]), (13, [2, 3, 4, 7, 38, 39, 43, 44]), (14, [2, 3, 4, 38, 39]), (15, [6])], [(6, [2, 3, 4, 38, 39], []), (9, [2, 3, 4, 7, 38, 39, 43, 44], [])], []⟩
def lb_144_9 : AC :=
  (.seq
    (.region false [⟨some 45, (.bin .lss 3 (.t 44) (.t 43)), 0, none, 0⟩] (some [2, 3, 4, 7, 38, 39, 43, 44, 45]))
    (.seq
      (.cond (.t 45)
        .skip
        (.exit 2))
      (.seq
        (.block 3
          (.seq
            (.region false [⟨some 46, (.mv (.t 44)), 3, none, 0⟩, ⟨some 8, (.mv (.t 46)), 3, none, 0⟩] (some [2, 3, 4, 7, 8, 38, 39, 43, 44]))
            (.seq
              (.region true (gops (seg [2, 3, 4, 7, 8, 38, 39, 43, 44, 56] [⟨some 47, (.mv (.t 2)), 23, none, 0⟩, ⟨some 48, (.faddr 27 (.t 3) 1), 0, none, 0⟩, ⟨some 49, (.load 25 (.t 48)), 25, none, 0⟩, ⟨some 50, (.mv (.t 7)), 3, none, 0⟩, ⟨some 51, (.iaddr 25 (.t 49) (.t 50)), 0, none, 0⟩, ⟨some 52, (.load 23 (.t 51)), 23, none, 0⟩, ⟨some 53, (.mv (.t 8)), 3, none, 0⟩, ⟨some 54, (.iaddr 23 (.t 52) (.t 53)), 0, none, 0⟩, ⟨some 55, (.load 3 (.t 54)), 3, none, 0⟩, ⟨some 56, (.iaddr 23 (.t 47) (.t 55)), 0, none, 0⟩]
              (seg [2, 3, 4, 7, 8, 38, 39, 43, 44, 57, 65, 66] [⟨some 57, (.load 3 (.t 56)), 3, none, 0⟩, ⟨some 58, (.faddr 27 (.t 4) 1), 0, none, 0⟩, ⟨some 59, (.load 25 (.t 58)), 25, none, 0⟩, ⟨some 60, (.mv (.t 2)), 23, none, 0⟩, ⟨some 61, (.mv (.t 7)), 3, none, 0⟩, ⟨some 62, (.iaddr 23 (.t 60) (.t 61)), 0, none, 0⟩, ⟨some 63, (.load 3 (.t 62)), 3, none, 0⟩, ⟨some 64, (.iaddr 25 (.t 59) (.t 63)), 0, none, 0⟩, ⟨some 65, (.load 23 (.t 64)), 23, none, 0⟩, ⟨some 66, (.mv (.t 2)), 23, none, 0⟩]
              (seg [2, 3, 4, 7, 8, 38, 39, 43, 44, 73, 74, 75, 76] [⟨some 67, (.mv (.t 8)), 3, none, 0⟩, ⟨some 68, (.iaddr 23 (.t 66) (.t 67)), 0, none, 0⟩, ⟨some 69, (.load 3 (.t 68)), 3, none, 0⟩, ⟨some 70, (.iaddr 23 (.t 65) (.t 69)), 0, none, 0⟩, ⟨some 71, (.load 3 (.t 70)), 3, none, 0⟩, ⟨some 72, (.bin .neq 3 (.t 57) (.t 71)), 4, none, 0⟩, ⟨some 73, (.mv (.t 72)), 4, none, 0⟩, ⟨some 74, (.mv (.t 2)), 23, some (73, false), 0⟩, ⟨some 75, (.load 27 (.t 3)), 27, some (73, false), 0⟩, ⟨some 76, (.mv (.t 7)), 3, some (73, false), 0⟩]
              (seg [2, 3, 4, 7, 8, 38, 39, 43, 44, 73, 80, 81, 85, 86] [⟨some 77, (.mv (.t 8)), 3, some (73, false), 0⟩, ⟨some 78, (.call (.f 118) [(.t 75), (.t 76), (.t 77)]), 3, some (73, false), 3⟩, ⟨some 79, (.iaddr 23 (.t 74) (.t 78)), 0, some (73, false), 0⟩, ⟨some 80, (.load 3 (.t 79)), 3, some (73, false), 0⟩, ⟨some 81, (.load 27 (.t 4)), 27, some (73, false), 0⟩, ⟨some 82, (.mv (.t 2)), 23, some (73, false), 0⟩, ⟨some 83, (.mv (.t 7)), 3, some (73, false), 0⟩, ⟨some 84, (.iaddr 23 (.t 82) (.t 83)), 0, some (73, false), 0⟩, ⟨some 85, (.load 3 (.t 84)), 3, some (73, false), 0⟩, ⟨some 86, (.mv (.t 2)), 23, some (73, false), 0⟩]
              (seg [2, 3, 4, 7, 8, 38, 39, 43, 44, 93, 94, 96] [⟨some 87, (.mv (.t 8)), 3, some (73, false), 0⟩, ⟨some 88, (.iaddr 23 (.t 86) (.t 87)), 0, some (73, false), 0⟩, ⟨some 89, (.load 3 (.t 88)), 3, some (73, false), 0⟩, ⟨some 90, (.call (.f 118) [(.t 81), (.t 85), (.t 89)]), 3, some (73, false), 3⟩, ⟨some 91, (.bin .neq 3 (.t 80) (.t 90)), 4, some (73, false), 0⟩, ⟨some 92, (.pick (.t 73) (.c (.bool true)) (.t 91)), 4, none, 0⟩, ⟨some 93, (.mv (.t 92)), 4, none, 0⟩, ⟨some 94, (.mv (.t 2)), 23, some (93, false), 0⟩, ⟨some 95, (.faddr 27 (.t 3) 0), 0, some (93, false), 0⟩, ⟨some 96, (.load 23 (.t 95)), 23, some (93, false), 0⟩]
              (seg [2, 3, 4, 7, 8, 38, 39, 43, 44, 93, 101, 103, 106] [⟨some 97, (.mv (.t 7)), 3, some (93, false), 0⟩, ⟨some 98, (.mv (.t 8)), 3, some (93, false), 0⟩, ⟨some 99, (.call (.f 95) [(.t 96), (.t 97), (.t 98)]), 3, some (93, false), 3⟩, ⟨some 100, (.iaddr 23 (.t 94) (.t 99)), 0, some (93, false), 0⟩, ⟨some 101, (.load 3 (.t 100)), 3, some (93, false), 0⟩, ⟨some 102, (.faddr 27 (.t 4) 0), 0, some (93, false), 0⟩, ⟨some 103, (.load 23 (.t 102)), 23, some (93, false), 0⟩, ⟨some 104, (.mv (.t 2)), 23, some (93, false), 0⟩, ⟨some 105, (.mv (.t 7)), 3, some (93, false), 0⟩, ⟨some 106, (.iaddr 23 (.t 104) (.t 105)), 0, some (93, false), 0⟩]
              (seg [2, 3, 4, 7, 8, 38, 39, 43, 44, 115, 116] [⟨some 107, (.load 3 (.t 106)), 3, some (93, false), 0⟩, ⟨some 108, (.mv (.t 2)), 23, some (93, false), 0⟩, ⟨some 109, (.mv (.t 8)), 3, some (93, false), 0⟩, ⟨some 110, (.iaddr 23 (.t 108) (.t 109)), 0, some (93, false), 0⟩, ⟨some 111, (.load 3 (.t 110)), 3, some (93, false), 0⟩, ⟨some 112, (.call (.f 95) [(.t 103), (.t 107), (.t 111)]), 3, some (93, false), 3⟩, ⟨some 113, (.bin .neq 3 (.t 101) (.t 112)), 4, some (93, false), 0⟩, ⟨some 114, (.pick (.t 93) (.c (.bool true)) (.t 113)), 4, none, 0⟩, ⟨some 115, (.mv (.t 114)), 4, none, 0⟩, ⟨some 116, (.mv (.t 2)), 23, some (115, false), 0⟩]
              (seg [2, 3, 4, 7, 8, 38, 39, 43, 44, 115, 123, 125, 126] [⟨some 117, (.faddr 27 (.t 3) 0), 0, some (115, false), 0⟩, ⟨some 118, (.load 23 (.t 117)), 23, some (115, false), 0⟩, ⟨some 119, (.mv (.t 7)), 3, some (115, false), 0⟩, ⟨some 120, (.mv (.t 8)), 3, some (115, false), 0⟩, ⟨some 121, (.call (.f 102) [(.t 118), (.t 119), (.t 120)]), 3, some (115, false), 3⟩, ⟨some 122, (.iaddr 23 (.t 116) (.t 121)), 0, some (115, false), 0⟩, ⟨some 123, (.load 3 (.t 122)), 3, some (115, false), 0⟩, ⟨some 124, (.faddr 27 (.t 4) 0), 0, some (115, false), 0⟩, ⟨some 125, (.load 23 (.t 124)), 23, some (115, false), 0⟩, ⟨some 126, (.mv (.t 2)), 23, some (115, false), 0⟩]
              [⟨some 127, (.mv (.t 7)), 3, some (115, false), 0⟩, ⟨some 128, (.iaddr 23 (.t 126) (.t 127)), 0, some (115, false), 0⟩, ⟨some 129, (.load 3 (.t 128)), 3, some (115, false), 0⟩, ⟨some 130, (.mv (.t 2)), 23, some (115, false), 0⟩, ⟨some 131, (.mv (.t 8)), 3, some (115, false), 0⟩, ⟨some 132, (.iaddr 23 (.t 130) (.t 131)), 0, some (115, false), 0⟩, ⟨some 133, (.load 3 (.t 132)), 3, some (115, false), 0⟩, ⟨some 134, (.call (.f 102) [(.t 125), (.t 129), (.t 133)]), 3, some (115, false), 3⟩, ⟨some 135, (.bin .neq 3 (.t 123) (.t 134)), 4, some (115, false), 0⟩, ⟨some 136, (.pick (.t 115) (.c (.bool true)) (.t 135)), 4, none, 0⟩] [2, 3, 4, 7, 38, 39, 43, 44, 136] (by decide)) [2, 3, 4, 7, 38, 39, 43, 44, 136] (by decide)) [2, 3, 4, 7, 38, 39, 43, 44, 136] (by decide)) [2, 3, 4, 7, 38, 39, 43, 44, 136] (by decide)) [2, 3, 4, 7, 38, 39, 43, 44, 136] (by decide)) [2, 3, 4, 7, 38, 39, 43, 44, 136] (by decide)) [2, 3, 4, 7, 38, 39, 43, 44, 136] (by decide)) [2, 3, 4, 7, 38, 39, 43, 44, 136] (by decide))) (some [2, 3, 4, 7, 38, 39, 43, 44, 136]))
              (.cond (.t 136)
                (.seq
                  (.region false [⟨some 6, (.mv (.c (.bool false))), 4, none, 0⟩] (some [6]))
                  .ret)
                .skip))))
        (.region false [⟨some 137, (.bin .add 3 (.t 44) (.c (.int .i64 1))), 3, none, 0⟩, ⟨some 44, (.mv (.t 137)), 3, none, 0⟩] (some [2, 3, 4, 7, 38, 39, 43, 44])))))
def lb_144_6 : AC :=
  (.seq
    (.region false [⟨some 40, (.bin .lss 3 (.t 39) (.t 38)), 0, none, 0⟩] (some [2, 3, 4, 38, 39, 40]))
    (.seq
      (.cond (.t 40)
        .skip
        (.exit 0))
      (.seq
        (.block 1
          (.seq
            (.region false [⟨some 41, (.mv (.t 39)), 3, none, 0⟩, ⟨some 7, (.mv (.t 41)), 3, none, 0⟩] (some [2, 3, 4, 7, 38, 39]))
            (.seq
              (.region false [⟨some 42, (.mv (.t 2)), 23, none, 0⟩, ⟨some 43, (.len 23 (.t 42)), 3, none, 0⟩, ⟨some 44, (.mv (.c (.int .i64 0))), 3, none, 0⟩] (some [2, 3, 4, 7, 38, 39, 43, 44]))
              (.block 2
                (.loop [2, 3, 4, 7, 38, 39, 43, 44] [] lb_144_9)))))
        (.region false [⟨some 138, (.bin .add 3 (.t 39) (.c (.int .i64 1))), 3, none, 0⟩, ⟨some 39, (.mv (.t 138)), 3, none, 0⟩] (some [2, 3, 4, 38, 39])))))
def fa_144 : FnA := ⟨139, [.t 6],
  (.seq
    (.region false [⟨some 3, (.box 27 (.t 0)), 0, none, 0⟩, ⟨some 4, (.box 27 (.t 1)), 0, none, 0⟩, ⟨some 6, (.mv (.c (.bool false))), 4, none, 0⟩] (some [2, 3, 4]))
    (.seq
      (.seq
        (.region false (gops [⟨some 9, (.mv (.t 2)), 23, none, 0⟩, ⟨some 10, (.len 23 (.t 9)), 3, none, 0⟩, ⟨some 11, (.faddr 27 (.t 3) 0), 0, none, 0⟩, ⟨some 12, (.load 23 (.t 11)), 23, none, 0⟩, ⟨some 13, (.len 23 (.t 12)), 3, none, 0⟩, ⟨some 14, (.bin .neq 3 (.t 10) (.t 13)), 4, none, 0⟩, ⟨some 15, (.mv (.t 14)), 4, none, 0⟩, ⟨some 16, (.mv (.t 2)), 23, some (15, false), 0⟩, ⟨some 17, (.mkfn 182 [(.t 4)]), 80, some (15, false), 0⟩, ⟨some 18, (.call (.f 99) [(.t 16), (.t 17)]), 4, some (15, false), 3⟩, ⟨some 19, (.pick (.t 15) (.c (.bool true)) (.t 18)), 4, none, 0⟩]) (some [2, 3, 4, 19]))
        (.cond (.t 19)
          (.seq
            (.region false [⟨some 6, (.mv (.c (.bool false))), 4, none, 0⟩] (some [6]))
            .ret)
          .skip))
      (.seq
        (.seq
          (.region true (gops [⟨some 20, (.mv (.t 2)), 23, none, 0⟩, ⟨some 21, (.iaddr 23 (.t 20) (.c (.int .i64 0))), 0, none, 0⟩, ⟨some 22, (.load 3 (.t 21)), 3, none, 0⟩, ⟨some 23, (.bin .neq 3 (.t 22) (.c (.int .i64 0))), 4, none, 0⟩, ⟨some 24, (.mv (.t 23)), 4, none, 0⟩, ⟨some 25, (.mv (.t 2)), 23, some (24, false), 0⟩, ⟨some 26, (.mv (.t 2)), 23, some (24, false), 0⟩, ⟨some 27, (.len 23 (.t 26)), 3, some (24, false), 0⟩, ⟨some 28, (.bin .sub 3 (.t 27) (.c (.int .i64 1))), 3, some (24, false), 0⟩, ⟨some 29, (.iaddr 23 (.t 25) (.t 28)), 0, some (24, false), 0⟩, ⟨some 30, (.load 3 (.t 29)), 3, some (24, false), 0⟩, ⟨some 31, (.faddr 27 (.t 4) 0), 0, some (24, false), 0⟩, ⟨some 32, (.load 23 (.t 31)), 23, some (24, false), 0⟩, ⟨some 33, (.len 23 (.t 32)), 3, some (24, false), 0⟩, ⟨some 34, (.bin .sub 3 (.t 33) (.c (.int .i64 1))), 3, some (24, false), 0⟩, ⟨some 35, (.bin .neq 3 (.t 30) (.t 34)), 4, some (24, false), 0⟩, ⟨some 36, (.pick (.t 24) (.c (.bool true)) (.t 35)), 4, none, 0⟩]) (some [2, 3, 4, 36]))
          (.cond (.t 36)
            (.seq
              (.region false [⟨some 6, (.mv (.c (.bool false))), 4, none, 0⟩] (some [6]))
              .ret)
            .skip))
        (.seq
          (.seq
            (.region false [⟨some 37, (.mv (.t 2)), 23, none, 0⟩, ⟨some 38, (.len 23 (.t 37)), 3, none, 0⟩, ⟨some 39, (.mv (.c (.int .i64 0))), 3, none, 0⟩] (some [2, 3, 4, 38, 39]))
            (.block 0
              (.loop [2, 3, 4, 38, 39] [] lb_144_6)))
          (.seq
            (.region false [⟨some 6, (.mv (.c (.bool true))), 4, none, 0⟩] (some [6]))
            .ret)))))⟩
theorem fok_144 : FnOk Try.prog 144 fa_144 an_144 := ⟨Try.f144, _, Try.func144, rfl, by kernel_rfl, rfl, rfl, by decide, by kernel_rfl⟩
end Go.PS
end

section
-- PRINTED by gen.py: clean texts of functions, and their tie to the program.
set_option maxRecDepth 100000
namespace Go.PS
open Go.Proofs
end Go.PS
end

section
-- Lists of lists, cut early; nuclei: what the functions compute, in plain Lean.
set_option linter.unusedVariables false
set_option linter.unusedSimpArgs false
namespace Go.PS

/-- All lists that begin with one, with so many more elements. -/
def ext (n : Nat) : Nat → List Int → List (List Int)
  | 0, h => [h]
  | k + 1, h => (List.range n).flatMap fun (y : Nat) => ext n k (h ++ [(y : Int)])
theorem mem_ext {n : Nat} : ∀ {k : Nat} {h l : List Int}, l ∈ ext n k h → ∃ w, l = h ++ w ∧ w.length = k
  | 0, h, l, hl => by simp [ext] at hl; exact ⟨[], by simp [hl], rfl⟩
  | k + 1, h, l, hl => by
    simp only [ext, List.mem_flatMap] at hl
    obtain ⟨y, _, hl⟩ := hl
    obtain ⟨w, rfl, hw⟩ := mem_ext hl
    exact ⟨(y : Int) :: w, by simp, by simp [hw]⟩

/-- The same, cut where 'ok' fails, of those that are good. -/
def prn (n : Nat) (ok : List Int → Nat → Bool) (good : List Int → Bool) : Nat → List Int → List (List Int)
  | 0, h => if good h = true then [h] else []
  | k + 1, h => (List.range n).flatMap fun (y : Nat) => if ok h y = true then prn n ok good k (h ++ [(y : Int)]) else []
theorem prn_eq {n : Nat} {ok : List Int → Nat → Bool} {good : List Int → Bool} (H : ∀ k h y l, y < n → l ∈ ext n k (h ++ [(y : Int)]) → good l = true → ok h y = true) : ∀ k h, prn n ok good k h = (ext n k h).filter good
  | 0, h => by
    simp only [prn, ext, List.filter_cons, List.filter_nil]
  | k + 1, h => by
    simp only [prn, ext, List.filter_flatMap]
    rw [List.flatMap_def, List.flatMap_def]
    congr 1
    apply List.map_congr_left
    intro y hy
    have hy : y < n := by simpa using hy
    split
    · exact prn_eq H k _
    · rename_i hok
      symm
      rw [List.filter_eq_nil_iff]
      intro l hl hg
      exact hok (H k h y l hy hl hg)

structure NU (u : List Int) (t : List (List Int)) (j : List Int) : Prop where
  len : j.length = u.length
  rng : ∀ x, x < u.length → 0 ≤ gi j x ∧ gi j x < u.length
  up : ∀ x, x < u.length → tb u x (gi j x).toNat = true ∧ gi j (gi j x).toNat = gi j x
  pr : ∀ x, x < u.length → ∀ y, y < u.length → (tb u x y = true → tb u (gi j x).toNat (gi j y).toNat = true) ∧ tb u (tn t (gi j x).toNat (gi j y).toNat) (gi j (tn t x y)).toNat = true
noncomputable instance (u : List Int) (t : List (List Int)) (j : List Int) : Decidable (NU u t j) := Classical.propDecidable _

theorem gi_append_left {a b : List Int} {i : Nat} (h : i < a.length) : gi (a ++ b) i = gi a i := by simp [gi, List.getElem?_append_left h]
theorem gi_append_at {a b : List Int} {y : Int} : gi (a ++ y :: b) a.length = y := by simp [gi]

end Go.PS
end

section
-- Contracts: nuclei.
set_option maxRecDepth 100000
set_option linter.unusedVariables false
set_option linter.unusedSimpArgs false
namespace Go.PS
open Go.Proofs

end Go.PS
end

section
-- Contracts: what refutes a term, what is true.
set_option maxRecDepth 100000
set_option linter.unusedVariables false
set_option linter.unusedSimpArgs false
namespace Go.PS
open Go.Proofs

end Go.PS
end

section
-- Contracts: all nuclei.
set_option maxRecDepth 100000
set_option linter.unusedVariables false
set_option linter.unusedSimpArgs false
namespace Go.PS
open Go.Proofs

theorem flatMap_len {α β : Type} {f : α → List β} {b : Nat} : ∀ (l : List α), (∀ x ∈ l, (f x).length ≤ b) → (l.flatMap f).length ≤ l.length * b
  | [], _ => by simp
  | x :: l, h => by
    rw [List.flatMap_cons, List.length_append, List.length_cons, Nat.succ_mul]
    have h1 := h x (by simp)
    have h2 := flatMap_len l (fun y hy => h y (by simp [hy]))
    omega
theorem prn_len {n : Nat} {ok : List Int → Nat → Bool} {good : List Int → Bool} : ∀ k h, (prn n ok good k h).length ≤ n ^ k
  | 0, h => by
    unfold prn
    split <;> simp
  | k + 1, h => by
    have := flatMap_len (f := fun (y : Nat) => if ok h y = true then prn n ok good k (h ++ [(y : Int)]) else []) (b := n ^ k) (List.range n) (fun y _ => by
      split
      · exact prn_len k _
      · simp)
    rw [List.length_range] at this
    rw [Nat.pow_succ, Nat.mul_comm]
    exact this
theorem pow6 {n k : Nat} (hn : n ≤ 6) (hk : k ≤ 6) : n ^ k ≤ 46656 := by
  have h1 := Nat.pow_le_pow_left hn k
  have h2 : 6 ^ k ≤ 6 ^ 6 := Nat.pow_le_pow_right (by omega) hk
  omega

end Go.PS
end

section
-- What a map is.
set_option maxRecDepth 100000
set_option linter.unusedVariables false
set_option linter.unusedSimpArgs false
namespace Go.PS
open Go.Proofs

def mpE (u : List Int) (t : List (List Int)) (v : List Int) (s : List (List Int)) (j : List Int) (x y : Nat) : Bool :=
  decide (gi j (tm t x y).toNat = tm s (gi j x).toNat (gi j y).toNat) && decide (gi j (implyM u t x y).toNat = implyM v s (gi j x).toNat (gi j y).toNat) && decide (gi j (meetM u x y).toNat = meetM v (gi j x).toNat (gi j y).toNat) && decide (gi j (joinM u x y).toNat = joinM v (gi j x).toNat (gi j y).toNat)
structure MP (u : List Int) (t : List (List Int)) (v : List Int) (s : List (List Int)) (j : List Int) : Prop where
  len : j.length = u.length
  rng : ∀ x, x < u.length → 0 ≤ gi j x ∧ gi j x < v.length
  fst : gi j 0 = 0
  lst : gi j (u.length - 1) = (v.length : Int) - 1
  pr : ∀ x, x < u.length → ∀ y, y < u.length → mpE u t v s j x y = true
noncomputable instance (u : List Int) (t : List (List Int)) (v : List Int) (s : List (List Int)) (j : List Int) : Decidable (MP u t v s j) := Classical.propDecidable _

end Go.PS
end

section
-- A region with guards, in parts.
set_option linter.unusedVariables false
set_option linter.unusedSimpArgs false
namespace Go.PS
section
variable {C : Ctx} {kb : Nat} {i : Nat → List D → List Ent → Nat → (D → List Ent → Nat → Prop) → Prop}
theorem midWc {ops : List AOper} {KS : List Nat} {ws : List (Nat × D)} {σ σ0 : St} (n : Nat) (ks : List Nat) (w1 : List (Nat × D)) (ok : segOk ks (ops.drop n) KS = true)
    (h1 : opsKc C kb i (ops.take n) σ (cutQ ks w1 σ)) (h2 : opsKc C kb i (ops.drop n) ⟨updL w1 (keepT ks σ.t), σ.h, σ.g⟩ (cutQ KS ws σ0)) : opsKc C kb i ops σ (cutQ KS ws σ0) := by
  have hin : ∀ n' ∈ liveS (ops.drop n) KS, n' ∈ ks := by simpa [segOk] using ok
  rw [← List.take_append_drop n ops, opsKc_append]
  refine opsKc_mono _ (fun σ' hs => ?_) h1
  obtain ⟨e1, e2, e3⟩ := hs
  rw [← e1, ← e2, ← e3] at h2
  exact opsKc_agree cutQ_dep _ (keepT ks σ'.t) σ'.t σ'.h σ'.g (fun n hn => getT_keep (hin n hn)) h2
end
end Go.PS
end

section
-- Contracts: maps.
set_option maxRecDepth 100000
set_option linter.unusedVariables false
set_option linter.unusedSimpArgs false
namespace Go.PS
open Go.Proofs

set_option maxHeartbeats 4000000 in
theorem isMapS_pc (u : List Int) (t : List (List Int)) (v : List Int) (s : List (List Int)) (j : List Int) (f : TF u t) (f2 : TF v s) (hj : Big j.length) : PC Try.prog 145 [AL u t, AL v s, IL j] none true (fun r _ => r = .bool (decide (MP u t v s j))) := by
  have vl := f.lat
  have vl2 := f2.lat
  have hl := vl.sm.le
  have hl2 := vl2.sm.le
  have hp := vl.pos
  refine pcT [fm_inRange, fm_implyS, fm_meetS, fm_joinS] fok_145 ?_
  simp [fa_145]
  refine ⟨fun h w => h (by have := w.len; omega), fun hlen => ?_⟩
  have hlen : j.length = u.length := by omega
  have ew := wrap64 (n := (v.length : Int) - 1) (by omega) (by omega)
  have ew2 := wrap64 (n := (u.length : Int) - 1) (by omega) (by omega)
  refine loopA (tabK_mono _) u.length (fun i => [(8, I64 i)]) (fun _ => []) (fun x => 0 ≤ gi j x ∧ gi j x < v.length) (by simp) (by simp) (fun x g hx hP => ?_)
  simp [lb_145_5, wrap_succ hx hl, hlen, ew]
  refine ⟨fun h => ⟨h, fun h2 w => ?_, fun h2 h3 => ⟨h, h2, by omega⟩⟩, fun h => ?_⟩
  · have := w.rng x h
    omega
  have hr : ∀ x, x < u.length → 0 ≤ gi j x ∧ gi j x < v.length := fun x hx => hP x (by omega)
  have hrN : ∀ x, x < u.length → (gi j x).toNat < v.length := fun x hx => by have := hr x hx; omega
  have en : ((u.length : Int) - 1).toNat = u.length - 1 := by omega
  refine cutWc (tabK_mono _) [(48, .bool (decide (gi j 0 ≠ 0) || decide (gi j (u.length - 1) ≠ (v.length : Int) - 1)))] (by
    by_cases e1 : gi j 0 = 0
    · simp [e1, hlen, hp, ew, ew2, en]
      omega
    · simp [e1, hlen, hp]) ?_
  simp
  refine ⟨fun h2 w => ?_, fun h2 h3 => ?_⟩
  · rcases h2 with h2 | h2
    · exact h2 w.fst
    · exact h2 w.lst
  refine loopA (tabK_mono _) u.length (fun i => [(9, I64 i)]) (fun _ => []) (fun x => ∀ y, y < u.length → mpE u t v s j x y = true) (by simp) (by simp) (fun x g hx hP => ?_)
  simp [lb_145_12, wrap_succ hx hl]
  refine ⟨fun h => ?_, fun h => ⟨hlen, hr, h2, h3, fun x hx => hP x (by omega)⟩⟩
  refine loopA (tabK_mono _) u.length (fun i => [(10, I64 i)]) (fun _ => []) (fun y => mpE u t v s j x y = true) (by simp) (by simp) (fun y g hy hQ => ?_)
  simp [lb_145_15, wrap_succ hx hl, wrap_succ hy hl]
  refine ⟨fun h4 => ?_, fun h4 => ⟨h, fun y hy => hQ y (by omega)⟩⟩
  have q1 := hr x h
  have q2 := hr y h4
  have q3 := hrN x h
  have q4 := hrN y h4
  have q5 := hr _ (f.ltN x y h h4)
  have i1 := vl.imply_rng (t := t) (x := x) (y := y)
  have i2 := vl.meet_rng h h4
  have i3 := vl.join_rng h h4
  have i1' : (implyM u t x y).toNat < u.length := by omega
  have i2' : (meetM u x y).toNat < u.length := by omega
  have i3' : (joinM u x y).toNat < u.length := by omega
  refine cutWc (tabK_mono _) [(148, .bool (!mpE u t v s j x y))] ?_ ?_
  · unfold mpE
    simp only [seg, List.cons_append, List.nil_append]
    refine midWc 27 [2, 3, 4, 7, 9, 10, 85] [(85, .bool (!decide (gi j (tm t x y).toNat = tm s (gi j x).toNat (gi j y).toNat)))] rfl (by simp [hlen, f.len, f.rows, f2.len, f2.rows, h, h4, q1, q2, q3, q4, q5, f.nn, f.lt, f.ltN]) ?_
    refine midWc 20 [2, 3, 4, 7, 9, 10, 105] [(105, .bool (!decide (gi j (tm t x y).toNat = tm s (gi j x).toNat (gi j y).toNat) || !decide (gi j (implyM u t x y).toNat = implyM v s (gi j x).toNat (gi j y).toNat)))] rfl (by
      cases hb : decide (gi j (tm t x y).toNat = tm s (gi j x).toNat (gi j y).toNat)
      · simp [hb]
      · simp [hb, f, f2, hlen, f.len, f.rows, f2.len, f2.rows, h, h4, q1, q2, q3, q4, q5, f.nn, f.lt, f.ltN, i1, i1']) ?_
    generalize (decide (gi j (tm t x y).toNat = tm s (gi j x).toNat (gi j y).toNat)) = d1
    refine midWc 22 [2, 3, 4, 7, 9, 10, 127] [(127, .bool (!d1 || !decide (gi j (implyM u t x y).toNat = implyM v s (gi j x).toNat (gi j y).toNat) || !decide (gi j (meetM u x y).toNat = meetM v (gi j x).toNat (gi j y).toNat)))] rfl (by
      cases hb : (!d1 || !decide (gi j (implyM u t x y).toNat = implyM v s (gi j x).toNat (gi j y).toNat))
      · simp [hb, vl.sm, vl2.sm, hlen, f.len, f.rows, f2.len, f2.rows, h, h4, q1, q2, q3, q4, q5, f.nn, f.lt, f.ltN, i2, i2']
      · simp [hb]) ?_
    generalize (decide (gi j (implyM u t x y).toNat = implyM v s (gi j x).toNat (gi j y).toNat)) = d2
    cases hb : (!d1 || !d2 || !decide (gi j (meetM u x y).toNat = meetM v (gi j x).toNat (gi j y).toNat))
    · simp [hb, vl.sm, vl2.sm, hlen, f.len, f.rows, f2.len, f2.rows, h, h4, q1, q2, q3, q4, q5, f.nn, f.lt, f.ltN, i3, i3']
    · simp [hb]
  simp [wrap_succ hy hl]
  refine ⟨fun h7 w => ?_, fun h7 => ⟨h4, h7⟩⟩
  have := w.pr x h y h4
  rw [h7] at this
  cases this
noncomputable def fm_isMapS : Fam Try.prog := mkFam (X := List Int × List (List Int) × List Int × List (List Int) × List Int) 145 true (fun (u, t, v, s, j) => [AL u t, AL v s, IL j]) (fun (u, t, v, s, j) => (TF u t) ∧ (TF v s) ∧ (Big j.length)) (fun (u, t, v, s, j) => .bool (decide (MP u t v s j))) (by
  rintro ⟨u, t, v, s, j⟩ ⟨f, f2, hj⟩
  exact isMapS_pc u t v s j f f2 hj)
@[simp] theorem fm_isMapS_id : fm_isMapS.id = 145 := rfl
@[simp] theorem fm_isMapS_fresh : fm_isMapS.fresh = true := rfl
@[simp] theorem fm_isMapS_look (u : List Int) (t : List (List Int)) (v : List Int) (s : List (List Int)) (j : List Int) (f : TF u t) (f2 : TF v s) (hj : Big j.length) : fm_isMapS.look [AL u t, AL v s, IL j] = some (.bool (decide (MP u t v s j))) :=
  lookF_of (X := List Int × List (List Int) × List Int × List (List Int) × List Int) (args := fun (u, t, v, s, j) => [AL u t, AL v s, IL j]) (pre := fun (u, t, v, s, j) => (TF u t) ∧ (TF v s) ∧ (Big j.length)) (val := fun (u, t, v, s, j) => .bool (decide (MP u t v s j))) (by
  rintro ⟨u, t, v, s, j⟩ ⟨u', t', v', s', j'⟩ h
  simp at h
  try simp only [and_assoc] at h
  obtain ⟨rfl, rfl, rfl, rfl, rfl⟩ := h
  rfl) (u, t, v, s, j) ⟨f, f2, hj⟩
attribute [irreducible] fm_isMapS
end Go.PS
end

section
-- Contracts: all maps, the reference's.
set_option maxRecDepth 100000
set_option linter.unusedVariables false
set_option linter.unusedSimpArgs false
namespace Go.PS
open Go.Proofs

/-- What the reference asks of the elements on the way, at the last one. -/
def fitA (t : List (List Int)) (s : List (List Int)) (l : List Int) (m x : Nat) : Bool := decide (tm t x m < l.length) && decide (gi l (tm t x m).toNat ≠ tm s (gi l x).toNat (gi l m).toNat)
def fitE (u : List Int) (t : List (List Int)) (v : List Int) (s : List (List Int)) (l : List Int) (m x : Nat) : Bool :=
  !(fitA t s l m x || (tb u x m && !tb v (gi l x).toNat (gi l m).toNat) || (tb u m x && !tb v (gi l m).toNat (gi l x).toNat))
def fitB (u : List Int) (t : List (List Int)) (v : List Int) (s : List (List Int)) (l : List Int) : Bool := (List.range l.length).all (fitE u t v s l (l.length - 1))

set_option maxHeartbeats 4000000 in
theorem fitsS_pc (u : List Int) (t : List (List Int)) (v : List Int) (s : List (List Int)) (l : List Int) (f : TF u t) (f2 : TF v s) (h0 : 0 < l.length) (h1 : l.length ≤ u.length) (hr : ∀ z, z < l.length → 0 ≤ gi l z ∧ gi l z < v.length) : PC Try.prog 188 [AL u t, AL v s, IL l] none true (fun r _ => r = .bool (fitB u t v s l)) := by
  have vl := f.lat
  have vl2 := f2.lat
  have h6 := vl.six
  have hsm := vl.sm
  have hsm2 := vl2.sm
  refine pcT [fm_belowS] fok_188 ?_
  simp [fa_188]
  unfold fitB
  obtain ⟨m, hm⟩ : ∃ m, l.length = m + 1 := ⟨l.length - 1, by omega⟩
  have em : l.length - 1 = m := by omega
  have ew : IntKind.i64.wrap ((l.length : Int) - 1) = (m : Int) := by rw [wrap64 (by omega) (by omega)]; omega
  rw [em]
  refine loopA (tabK_mono _) l.length (fun i => [(8, I64 i)]) (fun _ => []) (fun x => fitE u t v s l m x = true) (by simp) (by simp) (fun x g hx hP => ?_)
  simp [lb_188_3, wrap_succ hx (by omega)]
  refine ⟨fun h => ?_, fun h => fun x hx => hP x (by omega)⟩
  have hxu : x < u.length := by omega
  have hmu : m < u.length := by omega
  have hml : m < l.length := by omega
  have q1 := hr x h
  have q2 := hr m hml
  have q3 : (gi l x).toNat < v.length := by omega
  have q4 : (gi l m).toNat < v.length := by omega
  have t1 := f.nn x m hxu hmu
  have t2 : (tm t x m).toNat < u.length := f.ltN x m hxu hmu
  refine cutWc (tabK_mono _) [(102, .bool (!fitE u t v s l m x))] ?_ ?_
  · unfold fitE
    simp only [seg, List.cons_append, List.nil_append]
    refine midWc 42 [2, 3, 4, 7, 8, 57] [(57, .bool (fitA t s l m x))] rfl (by
      unfold fitA
      by_cases e1 : tm t x m < l.length
      · have e1' : (tm t x m).toNat < l.length := by omega
        have q5 := hr _ e1'
        simp [e1, e1', q5, ew, h, hml, hxu, hmu, q1, q2, q3, q4, t1, t2, f.len, f.rows, f2.len, f2.rows]
      · simp [e1, ew, h, hml, hxu, hmu, q1, q2, q3, q4, t1, t2, f.len, f.rows]) ?_
    generalize fitA t s l m x = a1
    refine midWc 23 [2, 3, 4, 7, 8, 80] [(80, .bool (a1 || (tb u x m && !tb v (gi l x).toNat (gi l m).toNat)))] rfl (by
      cases a1
      · cases hb1 : tb u x m
        · simp [hb1, ew, hsm, hsm2, h, hml, hxu, hmu, q1, q2, q3, q4]
        · simp [hb1, ew, hsm, hsm2, h, hml, hxu, hmu, q1, q2, q3, q4]
      · simp) ?_
    generalize (a1 || (tb u x m && !tb v (gi l x).toNat (gi l m).toNat)) = a2
    cases a2
    · cases hb1 : tb u m x
      · simp [hb1, ew, hsm, hsm2, h, hml, hxu, hmu, q1, q2, q3, q4]
      · simp [hb1, ew, hsm, hsm2, h, hml, hxu, hmu, q1, q2, q3, q4]
    · simp
  simp [wrap_succ hx (by omega)]
  exact ⟨fun h2 => ⟨x, h, h2⟩, fun h2 => ⟨h, h2⟩⟩
noncomputable def fm_fitsS : Fam Try.prog := mkFam (X := List Int × List (List Int) × List Int × List (List Int) × List Int) 188 true (fun (u, t, v, s, l) => [AL u t, AL v s, IL l]) (fun (u, t, v, s, l) => (TF u t) ∧ (TF v s) ∧ (0 < l.length) ∧ (l.length ≤ u.length) ∧ (∀ z, z < l.length → 0 ≤ gi l z ∧ gi l z < v.length)) (fun (u, t, v, s, l) => .bool (fitB u t v s l)) (by
  rintro ⟨u, t, v, s, l⟩ ⟨f, f2, h0, h1, hr⟩
  exact fitsS_pc u t v s l f f2 h0 h1 hr)
@[simp] theorem fm_fitsS_id : fm_fitsS.id = 188 := rfl
@[simp] theorem fm_fitsS_fresh : fm_fitsS.fresh = true := rfl
@[simp] theorem fm_fitsS_look (u : List Int) (t : List (List Int)) (v : List Int) (s : List (List Int)) (l : List Int) (f : TF u t) (f2 : TF v s) (h0 : 0 < l.length) (h1 : l.length ≤ u.length) (hr : ∀ z, z < l.length → 0 ≤ gi l z ∧ gi l z < v.length) : fm_fitsS.look [AL u t, AL v s, IL l] = some (.bool (fitB u t v s l)) :=
  lookF_of (X := List Int × List (List Int) × List Int × List (List Int) × List Int) (args := fun (u, t, v, s, l) => [AL u t, AL v s, IL l]) (pre := fun (u, t, v, s, l) => (TF u t) ∧ (TF v s) ∧ (0 < l.length) ∧ (l.length ≤ u.length) ∧ (∀ z, z < l.length → 0 ≤ gi l z ∧ gi l z < v.length)) (val := fun (u, t, v, s, l) => .bool (fitB u t v s l)) (by
  rintro ⟨u, t, v, s, l⟩ ⟨u', t', v', s', l'⟩ h
  simp at h
  try simp only [and_assoc] at h
  obtain ⟨rfl, rfl, rfl, rfl, rfl⟩ := h
  rfl) (u, t, v, s, l) ⟨f, f2, h0, h1, hr⟩
attribute [irreducible] fm_fitsS
end Go.PS
end

section
-- Contracts: maps, the program's.
set_option maxRecDepth 100000
set_option linter.unusedVariables false
set_option linter.unusedSimpArgs false
namespace Go.PS
open Go.Proofs

theorem ismC_pc (x : Int) (v : List Int) (s : List (List Int)) (h2 : Big v.length) : PC Try.prog 182 [I64 x, .iptr (AL v s)] none true (fun r _ => r = .bool (outR v.length x)) := by
  have h2 := h2.le
  refine pcT [fm_within] fok_182 ?_
  simp [fa_182, outR, wrap64 (n := (v.length : Int) - 1) (by omega) (by omega)]
theorem contIsm_pc (xs : List Int) (v : List Int) (s : List (List Int)) (hl : Big xs.length) (h2 : Big v.length) : PC Try.prog 99 [IL xs, .fn 182 [.iptr (AL v s)]] none true (fun r _ => r = .bool (xs.any (outR v.length))) := by
  exact containsFunc_pc hl (by simp) (by simp) (outR v.length) (fun x hx => ismC_pc x v s h2)
noncomputable def fm_contIsm : Fam Try.prog := mkFam (X := List Int × List Int × List (List Int)) 99 true (fun (xs, v, s) => [IL xs, .fn 182 [.iptr (AL v s)]]) (fun (xs, v, s) => (Big xs.length) ∧ (Big v.length)) (fun (xs, v, s) => .bool (xs.any (outR v.length))) (by
  rintro ⟨xs, v, s⟩ ⟨hl, h2⟩
  exact contIsm_pc xs v s hl h2)
@[simp] theorem fm_contIsm_id : fm_contIsm.id = 99 := rfl
@[simp] theorem fm_contIsm_fresh : fm_contIsm.fresh = true := rfl
@[simp] theorem fm_contIsm_look (xs : List Int) (v : List Int) (s : List (List Int)) (hl : Big xs.length) (h2 : Big v.length) : fm_contIsm.look [IL xs, .fn 182 [.iptr (AL v s)]] = some (.bool (xs.any (outR v.length))) :=
  lookF_of (X := List Int × List Int × List (List Int)) (args := fun (xs, v, s) => [IL xs, .fn 182 [.iptr (AL v s)]]) (pre := fun (xs, v, s) => (Big xs.length) ∧ (Big v.length)) (val := fun (xs, v, s) => .bool (xs.any (outR v.length))) (by
  rintro ⟨xs, v, s⟩ ⟨xs', v', s'⟩ h
  simp at h
  try simp only [and_assoc] at h
  obtain ⟨rfl, rfl, rfl⟩ := h
  rfl) (xs, v, s) ⟨hl, h2⟩
attribute [irreducible] fm_contIsm

set_option maxHeartbeats 4000000 in
theorem isMapI_pc (u : List Int) (t : List (List Int)) (v : List Int) (s : List (List Int)) (j : List Int) (f : TF u t) (f2 : TF v s) (hj : Big j.length) : PC Try.prog 144 [AL u t, AL v s, IL j] none true (fun r _ => r = .bool (decide (MP u t v s j))) := by
  have vl := f.lat
  have vl2 := f2.lat
  have hl := vl.sm.le
  have hl2 := vl2.sm.le
  have h6 := vl.six
  have h62 := vl2.six
  have hp := vl.pos
  have hbv : Big v.length := by unfold Big; omega
  have hbu : Big u.length := by unfold Big; omega
  refine pcT [fm_contIsm, fm_implyI, fm_meetI, fm_joinI] fok_144 ?_
  simp [fa_144]
  refine cutW (tabK_mono _) [(19, .bool (decide ((j.length : Int) ≠ u.length) || j.any (outR v.length)))] (by
    by_cases e : j.length = u.length
    · simp [hbu, hbv, e]
    · simp [hj, hbv, show ¬ ((j.length : Int) = u.length) by omega]) ?_
  simp
  refine ⟨fun h w => ?_, fun hlen hany => ?_⟩
  · have hlen := w.len
    obtain ⟨z, hz, h4⟩ := h.resolve_left (fun q => q (by omega))
    obtain ⟨y, hy, rfl⟩ := List.mem_iff_getElem.1 hz
    have h5 := w.rng y (by omega)
    rw [gi, List.getElem?_eq_getElem hy] at h5
    simp [outR] at h4
    simp at h5
    omega
  have hlen : j.length = u.length := by omega
  have hr : ∀ x, x < u.length → 0 ≤ gi j x ∧ gi j x < v.length := fun x hx => any_outR (xs := j) (n := v.length) (by rw [List.any_eq_false]; intro z hz; simpa using hany z hz) x (by omega)
  have hrN : ∀ x, x < u.length → (gi j x).toNat < v.length := fun x hx => by have := hr x hx; omega
  clear hany
  have ew := wrap64 (n := (v.length : Int) - 1) (by omega) (by omega)
  have ew2 := wrap64 (n := (u.length : Int) - 1) (by omega) (by omega)
  have en : ((u.length : Int) - 1).toNat = u.length - 1 := by omega
  refine cutWc (tabK_mono _) [(36, .bool (decide (gi j 0 ≠ 0) || decide (gi j (u.length - 1) ≠ (v.length : Int) - 1)))] (by
    by_cases e1 : gi j 0 = 0
    · simp [e1, hlen, hp, ew, ew2, en]
      omega
    · simp [e1, hlen, hp]) ?_
  simp
  refine ⟨fun h2 w => ?_, fun h2 h3 => ?_⟩
  · rcases h2 with h2 | h2
    · exact h2 w.fst
    · exact h2 w.lst
  simp [hlen]
  refine loopA (tabK_mono _) u.length (fun i => [(39, I64 i)]) (fun _ => []) (fun x => ∀ y, y < u.length → mpE u t v s j x y = true) (by simp) (by simp) (fun x g hx hP => ?_)
  simp [lb_144_6, wrap_succ hx hl, hlen]
  refine ⟨fun h => ?_, fun h => ⟨hlen, hr, h2, h3, fun x hx => hP x (by omega)⟩⟩
  refine loopA (tabK_mono _) u.length (fun i => [(44, I64 i)]) (fun _ => []) (fun y => mpE u t v s j x y = true) (by simp) (by simp) (fun y g hy hQ => ?_)
  simp [lb_144_9, wrap_succ hx hl, wrap_succ hy hl]
  refine ⟨fun h4 => ?_, fun h4 => ⟨h, fun y hy => hQ y (by omega)⟩⟩
  have q1 := hr x h
  have q2 := hr y h4
  have q3 := hrN x h
  have q4 := hrN y h4
  have q5 := hr _ (f.ltN x y h h4)
  have i1 := vl.imply_rng (t := t) (x := x) (y := y)
  have i2 := vl.meet_rng h h4
  have i3 := vl.join_rng h h4
  have i1' : (implyM u t x y).toNat < u.length := by omega
  have i2' : (meetM u x y).toNat < u.length := by omega
  have i3' : (joinM u x y).toNat < u.length := by omega
  refine cutWc (tabK_mono _) [(136, .bool (!mpE u t v s j x y))] ?_ ?_
  · unfold mpE
    simp only [seg, List.cons_append, List.nil_append]
    refine midWc 27 [2, 3, 4, 7, 8, 38, 39, 43, 44, 73] [(73, .bool (!decide (gi j (tm t x y).toNat = tm s (gi j x).toNat (gi j y).toNat)))] rfl (by simp [hlen, f.len, f.rows, f2.len, f2.rows, h, h4, q1, q2, q3, q4, q5, f.nn, f.lt, f.ltN]) ?_
    refine midWc 20 [2, 3, 4, 7, 8, 38, 39, 43, 44, 93] [(93, .bool (!decide (gi j (tm t x y).toNat = tm s (gi j x).toNat (gi j y).toNat) || !decide (gi j (implyM u t x y).toNat = implyM v s (gi j x).toNat (gi j y).toNat)))] rfl (by
      cases hb : decide (gi j (tm t x y).toNat = tm s (gi j x).toNat (gi j y).toNat)
      · simp [hb]
      · simp [hb, f, f2, hlen, f.len, f.rows, f2.len, f2.rows, h, h4, q1, q2, q3, q4, q5, f.nn, f.lt, f.ltN, i1, i1']) ?_
    generalize (decide (gi j (tm t x y).toNat = tm s (gi j x).toNat (gi j y).toNat)) = d1
    refine midWc 22 [2, 3, 4, 7, 8, 38, 39, 43, 44, 115] [(115, .bool (!d1 || !decide (gi j (implyM u t x y).toNat = implyM v s (gi j x).toNat (gi j y).toNat) || !decide (gi j (meetM u x y).toNat = meetM v (gi j x).toNat (gi j y).toNat)))] rfl (by
      cases hb : (!d1 || !decide (gi j (implyM u t x y).toNat = implyM v s (gi j x).toNat (gi j y).toNat))
      · simp [hb, vl.sm, vl2.sm, h6, h62, hlen, f.len, f.rows, f2.len, f2.rows, h, h4, q1, q2, q3, q4, q5, f.nn, f.lt, f.ltN, i2, i2']
      · simp [hb]) ?_
    generalize (decide (gi j (implyM u t x y).toNat = implyM v s (gi j x).toNat (gi j y).toNat)) = d2
    cases hb : (!d1 || !d2 || !decide (gi j (meetM u x y).toNat = meetM v (gi j x).toNat (gi j y).toNat))
    · simp [hb, vl.sm, vl2.sm, h6, h62, hlen, f.len, f.rows, f2.len, f2.rows, h, h4, q1, q2, q3, q4, q5, f.nn, f.lt, f.ltN, i3, i3']
    · simp [hb]
  simp [wrap_succ hy hl]
  refine ⟨fun h7 w => ?_, fun h7 => ⟨h4, h7⟩⟩
  have := w.pr x h y h4
  rw [h7] at this
  cases this
noncomputable def fm_isMapI : Fam Try.prog := mkFam (X := List Int × List (List Int) × List Int × List (List Int) × List Int) 144 true (fun (u, t, v, s, j) => [AL u t, AL v s, IL j]) (fun (u, t, v, s, j) => (TF u t) ∧ (TF v s) ∧ (Big j.length)) (fun (u, t, v, s, j) => .bool (decide (MP u t v s j))) (by
  rintro ⟨u, t, v, s, j⟩ ⟨f, f2, hj⟩
  exact isMapI_pc u t v s j f f2 hj)
@[simp] theorem fm_isMapI_id : fm_isMapI.id = 144 := rfl
@[simp] theorem fm_isMapI_fresh : fm_isMapI.fresh = true := rfl
@[simp] theorem fm_isMapI_look (u : List Int) (t : List (List Int)) (v : List Int) (s : List (List Int)) (j : List Int) (f : TF u t) (f2 : TF v s) (hj : Big j.length) : fm_isMapI.look [AL u t, AL v s, IL j] = some (.bool (decide (MP u t v s j))) :=
  lookF_of (X := List Int × List (List Int) × List Int × List (List Int) × List Int) (args := fun (u, t, v, s, j) => [AL u t, AL v s, IL j]) (pre := fun (u, t, v, s, j) => (TF u t) ∧ (TF v s) ∧ (Big j.length)) (val := fun (u, t, v, s, j) => .bool (decide (MP u t v s j))) (by
  rintro ⟨u, t, v, s, j⟩ ⟨u', t', v', s', j'⟩ h
  simp at h
  try simp only [and_assoc] at h
  obtain ⟨rfl, rfl, rfl, rfl, rfl⟩ := h
  rfl) (u, t, v, s, j) ⟨f, f2, hj⟩
attribute [irreducible] fm_isMapI
end Go.PS
end

section
-- Contracts: all maps.
set_option maxRecDepth 100000
set_option linter.unusedVariables false
set_option linter.unusedSimpArgs false
namespace Go.PS
open Go.Proofs

def mok (u : List Int) (t : List (List Int)) (v : List Int) (s : List (List Int)) (h : List Int) (y : Nat) : Bool := fitB u t v s (h ++ [(y : Int)])
noncomputable def mprn (u : List Int) (t : List (List Int)) (v : List Int) (s : List (List Int)) (k : Nat) (h : List Int) : List (List Int) := prn v.length (mok u t v s) (fun j => decide (MP u t v s j)) k h
noncomputable def accM (u : List Int) (t : List (List Int)) (v : List Int) (s : List (List Int)) (k : Nat) (h : List Int) (y : Nat) : List (List Int) := (List.range y).flatMap fun (y : Nat) => if mok u t v s h y = true then mprn u t v s k (h ++ [(y : Int)]) else []
theorem accM_succ {u : List Int} {t : List (List Int)} {v : List Int} {s : List (List Int)} {k : Nat} {h : List Int} {y : Nat} : accM u t v s k h (y + 1) = accM u t v s k h y ++ if mok u t v s h y = true then mprn u t v s k (h ++ [(y : Int)]) else [] := by
  unfold accM
  rw [List.range_succ, List.flatMap_append]
  simp
theorem accM_len {u : List Int} {t : List (List Int)} {v : List Int} {s : List (List Int)} {k : Nat} {h : List Int} {y : Nat} : (accM u t v s k h y).length ≤ y * v.length ^ k := by
  have := flatMap_len (f := fun (y : Nat) => if mok u t v s h y = true then mprn u t v s k (h ++ [(y : Int)]) else []) (b := v.length ^ k) (List.range y) (fun y _ => by
    split
    · exact prn_len k _
    · simp)
  rwa [List.length_range] at this

theorem mapsFromS_aux {u : List Int} {t : List (List Int)} {v : List Int} {s : List (List Int)} (f : TF u t) (f2 : TF v s) : ∀ (k : Nat) (h : List Int), h.length + k = u.length → (∀ z, z < h.length → 0 ≤ gi h z ∧ gi h z < v.length) →
    PC Try.prog 159 [AL u t, AL v s, IL h] none false (fun r _ => r = RL (mprn u t v s k h))
  | 0, h, hk, hh => by
    have h6 := f.lat.six
    have hb : Big h.length := by unfold Big; omega
    have hb2 : Big u.length := by unfold Big; omega
    refine pcT [fm_isMapS] fok_159 ?_
    cases hN : decide (MP u t v s h) <;> simp [fa_159, show h.length = u.length by omega, f, f2, hb2, hN, mprn, prn, show u.length ≤ big from hb2] <;> simp [rowsD]
  | k + 1, h, hk, hh => by
    have h6 := f.lat.six
    have h62 := f2.lat.six
    have hb : Big h.length := by unfold Big; omega
    have hx : ∀ y : Nat, y < v.length → ∀ z, z < (h ++ [(y : Int)]).length → 0 ≤ gi (h ++ [(y : Int)]) z ∧ gi (h ++ [(y : Int)]) z < v.length := fun y hy z hz => by
      simp only [List.length_append, List.length_cons, List.length_nil] at hz
      rcases Nat.lt_or_ge z h.length with c | c
      · rw [gi_append_left c]; exact hh z c
      · obtain rfl : z = h.length := by omega
        rw [gi_append_at]
        omega
    obtain ⟨fm, hid, hfr, hlk'⟩ := famE (P := Try.prog) (X := Nat) 159 false (fun y => [AL u t, AL v s, IL (h ++ [(y : Int)])]) (fun y => y < v.length) (fun y => RL (mprn u t v s k (h ++ [(y : Int)]))) (by
      intro x y e
      simp at e
      have : x = y := by omega
      rw [this]) (fun y hy => mapsFromS_aux f f2 k _ (by simp; omega) (hx y hy))
    have hlk : ∀ y : Nat, y < v.length → fm.look [AL u t, AL v s, IL (h ++ [(y : Int)])] = some (RL (mprn u t v s k (h ++ [(y : Int)]))) := fun y hy => hlk' y hy
    have hft : ∀ y : Nat, y < v.length → fm_fitsS.look [AL u t, AL v s, IL (h ++ [(y : Int)])] = some (.bool (mok u t v s h y)) := fun y hy => fm_fitsS_look u t v s _ f f2 (by simp) (by simp; omega) (hx y hy)
    refine pcT [fm, fm_fitsS] fok_159 ?_
    simp [fa_159, show ¬ ((h.length : Int) = u.length) by omega]
    refine loopX (tabK_mono _) v.length (fun y γ => [(7, .arr 200 γ), (8, I64 y)]) (fun y γ => [⟨200, γ, .arr 1 (rowsD (accM u t v s k h y))⟩]) (fun _ _ => True) 1 (by simp) (by simp [accM, rowsD]) trivial (fun y γ g hy _ => ?_)
    simp [lb_159_7, wrap_succ hy (by omega), hid]
    refine ⟨fun h2 => ?_, fun h2 => by rw [show y = v.length by omega]; rfl⟩
    have e4 : big = 1048576 * 1048576 := rfl
    have e1 : (accM u t v s k h y).length ≤ 6 * 46656 := Nat.le_trans accM_len (Nat.mul_le_mul (by omega) (pow6 h62 (by omega)))
    have e2 : (mprn u t v s k (h ++ [(y : Int)])).length ≤ 46656 := Nat.le_trans (prn_len _ _) (pow6 h62 (by omega))
    have l1 := hlk y h2
    have l2 := hft y h2
    cases hm : mok u t v s h y with
    | false =>
      rw [hm] at l2
      simp [l2, hid, wrap_succ hy (by omega), show h.length ≤ big by omega, show h.length + 1 ≤ big by omega]
      exact ⟨h2, by rw [accM_succ, hm]; simp⟩
    | true =>
      rw [hm] at l2
      simp [l1, l2, hid, hfr, wrap_succ hy (by omega), show h.length ≤ big by omega, show h.length + 1 ≤ big by omega]
      exact ⟨by omega, h2, by rw [accM_succ, hm]; simp [rowsD]⟩

theorem mapsFromS_pc (u : List Int) (t : List (List Int)) (v : List Int) (s : List (List Int)) (f : TF u t) (f2 : TF v s) : PC Try.prog 159 [AL u t, AL v s, IL []] none false (fun r _ => r = RL (mprn u t v s u.length [])) := by
  exact mapsFromS_aux f f2 u.length [] (by simp) (by simp)
noncomputable def fm_mapsFromS : Fam Try.prog := mkFam (X := List Int × List (List Int) × List Int × List (List Int)) 159 false (fun (u, t, v, s) => [AL u t, AL v s, IL []]) (fun (u, t, v, s) => (TF u t) ∧ (TF v s)) (fun (u, t, v, s) => RL (mprn u t v s u.length [])) (by
  rintro ⟨u, t, v, s⟩ ⟨f, f2⟩
  exact mapsFromS_pc u t v s f f2)
@[simp] theorem fm_mapsFromS_id : fm_mapsFromS.id = 159 := rfl
@[simp] theorem fm_mapsFromS_fresh : fm_mapsFromS.fresh = false := rfl
@[simp] theorem fm_mapsFromS_look (u : List Int) (t : List (List Int)) (v : List Int) (s : List (List Int)) (f : TF u t) (f2 : TF v s) : fm_mapsFromS.look [AL u t, AL v s, IL []] = some (RL (mprn u t v s u.length [])) :=
  lookF_of (X := List Int × List (List Int) × List Int × List (List Int)) (args := fun (u, t, v, s) => [AL u t, AL v s, IL []]) (pre := fun (u, t, v, s) => (TF u t) ∧ (TF v s)) (val := fun (u, t, v, s) => RL (mprn u t v s u.length [])) (by
  rintro ⟨u, t, v, s⟩ ⟨u', t', v', s'⟩ h
  simp at h
  try simp only [and_assoc] at h
  obtain ⟨rfl, rfl, rfl, rfl⟩ := h
  rfl) (u, t, v, s) ⟨f, f2⟩
attribute [irreducible] fm_mapsFromS

end Go.PS
end

section
-- All maps: the ones cut early are those that the program goes through, in plain Lean.
set_option linter.unusedVariables false
set_option linter.unusedSimpArgs false
namespace Go.PS

theorem join_of_le {u : List Int} (v : VL u) {x y : Nat} (hx : x < u.length) (hy : y < u.length) (h : tb u x y = true) : joinM u x y = y := by
  obtain ⟨hJ, hlt⟩ := v.join_spec hx hy
  have h1 := isJ_ub hJ
  have h2 := (v.mj x hx y hy).2
  have h3 : tb u (joinM u x y).toNat y = true := by
    simp only [isJ, Bool.and_eq_true, List.all_eq_true, List.mem_range, Bool.or_eq_true, Bool.not_eq_true'] at hJ
    have := hJ.2 y hy
    rw [h, (v.ord.row y hy).1] at this
    simpa using this
  rcases Nat.lt_trichotomy (joinM u x y).toNat y with c | c | c
  · have := v.ord.anti _ hlt y hy (by omega) h3
    rw [h1.2] at this; cases this
  · omega
  · have := v.ord.anti _ hlt y hy (by omega) h3
    rw [h1.2] at this; cases this

theorem MP.mono {u : List Int} {t : List (List Int)} {v : List Int} {s : List (List Int)} {j : List Int} (f : TF u t) (f2 : TF v s) (M : MP u t v s j) {x y : Nat} (hx : x < u.length) (hy : y < u.length) (h : tb u x y = true) : tb v (gi j x).toNat (gi j y).toNat = true := by
  have h1 := M.pr x hx y hy
  simp only [mpE, Bool.and_eq_true, decide_eq_true_eq] at h1
  have h2 := h1.2
  rw [join_of_le f.lat hx hy h, Int.toNat_natCast] at h2
  have rx := M.rng x hx
  have ry := M.rng y hy
  have h3 := isJ_ub (f2.lat.join_spec (x := (gi j x).toNat) (y := (gi j y).toNat) (by omega) (by omega)).1
  rw [← h2] at h3
  exact h3.1

theorem mok_of {u : List Int} {t : List (List Int)} {v : List Int} {s : List (List Int)} (f : TF u t) (f2 : TF v s) {k : Nat} {h l : List Int} {y : Nat} (hl : l ∈ ext v.length k (h ++ [(y : Int)])) (M : MP u t v s l) : mok u t v s h y = true := by
  obtain ⟨w, rfl, hw⟩ := mem_ext hl
  have hlen := M.len
  unfold mok fitB
  have hL0 : 0 < (h ++ [(y : Int)]).length := by simp
  generalize h ++ [(y : Int)] = L at *
  rw [List.length_append] at hlen
  have e : ∀ z, z < L.length → gi (L ++ w) z = gi L z := fun z hz => gi_append_left hz
  rw [List.all_eq_true]
  intro x hx
  have hx := List.mem_range.1 hx
  have hm : L.length - 1 < L.length := by omega
  generalize L.length - 1 = m at *
  have hxu : x < u.length := by omega
  have hmu : m < u.length := by omega
  have p1 := M.pr x hxu m hmu
  simp only [mpE, Bool.and_eq_true, decide_eq_true_eq] at p1
  have p2 := p1.1.1.1
  have p3 := M.mono f f2 hxu hmu
  have p4 := M.mono f f2 hmu hxu
  have t1 := f.nn x m hxu hmu
  rw [e x hx, e m hm] at p2 p3
  rw [e x hx, e m hm] at p4
  have a1 : fitA t s L m x = false := by
    unfold fitA
    by_cases c : tm t x m < L.length
    · rw [e _ (by omega)] at p2
      simp [p2]
    · simp [c]
  unfold fitE
  rw [a1]
  cases c1 : tb u x m <;> cases c2 : tb u m x <;> simp_all

end Go.PS
end

section
-- Contracts: all maps, the program's.
set_option maxRecDepth 100000
set_option linter.unusedVariables false
set_option linter.unusedSimpArgs false
namespace Go.PS
open Go.Proofs

end Go.PS
end

section
-- Contracts: images, and algebras that are the same.
set_option maxRecDepth 100000
set_option linter.unusedVariables false
set_option linter.unusedSimpArgs false
namespace Go.PS
open Go.Proofs

theorem shl2 {n : Int} (h0 : 0 ≤ n) (h : n ≤ 6) : bShl .i64 1 n = 2 ^ n.toNat := by
  obtain ⟨k, rfl⟩ := Int.eq_ofNat_of_zero_le h0
  have : k = 0 ∨ k = 1 ∨ k = 2 ∨ k = 3 ∨ k = 4 ∨ k = 5 ∨ k = 6 := by omega
  rcases this with rfl | rfl | rfl | rfl | rfl | rfl | rfl <;> rfl

theorem mprn_mp {u : List Int} {t : List (List Int)} {v : List Int} {s : List (List Int)} (f : TF u t) (f2 : TF v s) {x : List Int} (h : x ∈ mprn u t v s u.length []) : MP u t v s x := by
  rw [mprn, prn_eq (fun k h y l hy hl hg => mok_of f f2 hl (of_decide_eq_true hg))] at h
  exact of_decide_eq_true (List.mem_filter.1 h).2
end Go.PS
end
