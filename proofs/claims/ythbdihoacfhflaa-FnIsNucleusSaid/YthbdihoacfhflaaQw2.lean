/- Part 2 of what the last text proves: Nuclei are told rightly: the law holds at every input. -/
import Derived.Test.YthbdihoacfhflaaQw1
import Derived.WalkKit
import Derived.ProofKit
import Derived.Shelf.RegionOpenPlain
import Derived.Deep.LoopGhost
import Derived.Lib.Walk
import Derived.Lib.SliceRun
import Derived.Laws.CopyOwn
import Derived.Laws.MakeOwn
import Derived.LoopN
import Derived.Shelf.Spec.SlicesInsert
section
-- PRINTED by rep.py: slices.Repeat of a row of one number, up to six times.
set_option linter.unusedVariables false
set_option linter.unusedSimpArgs false
open Go Go.Proofs Go.RowKit Go.Lib
namespace Go.PS
set_option maxRecDepth 100000

end Go.PS
end

section
-- The least power of the implementation: its loops over all lists, run in place.
set_option maxRecDepth 100000
set_option linter.unusedVariables false
set_option linter.unusedSimpArgs false
namespace Go.PS
open Go.Proofs

theorem w1 : IntKind.i64.wrap 1 = 1 := rfl
theorem gr_nxt {n j x : Nat} {o : List (List Int)} (hj : j < o.length) (hx : x < n) : gr (nxt n o) (j * n + x) = gr o j ++ [(x : Int)] := by
  have e : nxt n o = nxt n (o.take j) ++ ((List.range n).map fun (x : Nat) => gr o j ++ [(x : Int)]) ++ nxt n (o.drop (j + 1)) := by
    rw [← nxt_take hj]
    conv => lhs; rw [← List.take_append_drop (j + 1) o]
    unfold nxt
    rw [List.flatMap_append]
  have el : (nxt n (o.take j)).length = j * n := by rw [nxt_length, List.length_take, Nat.min_eq_left (by omega)]
  rw [e]
  unfold gr
  rw [List.append_assoc, List.getElem?_append_right (by omega), el, Nat.add_sub_cancel_left, List.getElem?_append_left (by simpa using hx)]
  simp [hx]
end Go.PS
end

section
-- All lists of so many numbers, one after the other: eachList, run in place for any function.
set_option maxRecDepth 100000
set_option linter.unusedVariables false
set_option linter.unusedSimpArgs false
namespace Go.PS
open Go.Proofs

/-- The digits of a number. -/
def dig (n : Nat) : Nat → Nat → List Int
  | 0, _ => []
  | m + 1, i => dig n m (i / n) ++ [((i % n : Nat) : Int)]
theorem gr_asgK {n : Nat} (hn : 1 ≤ n) : ∀ m i, i < n ^ m → gr (asgK n m) i = dig n m i
  | 0, i, h => by
    obtain rfl : i = 0 := by simpa using h
    rfl
  | m + 1, i, h => by
    rw [Nat.pow_succ] at h
    have h1 : i / n < n ^ m := (Nat.div_lt_iff_lt_mul (by omega)).2 h
    have h2 : i % n < n := Nat.mod_lt _ (by omega)
    have e : i = i / n * n + i % n := by rw [Nat.mul_comm]; exact (Nat.div_add_mod i n).symm
    rw [asgK, dig, ← gr_asgK hn m (i / n) h1]
    conv => lhs; rw [e]
    exact gr_nxt (by rw [asgK_length]; exact h1) h2
end Go.PS
end

section
-- PRINTED by gen.py: clean texts of functions, and their tie to the program.
set_option maxRecDepth 100000
namespace Go.PS
open Go.Proofs
end Go.PS
end

section
-- PRINTED by gen.py: clean texts of functions, and their tie to the program.
set_option maxRecDepth 100000
namespace Go.PS
open Go.Proofs

end Go.PS
end

section
-- PRINTED by gen.py: clean texts of functions, and their tie to the program.
set_option maxRecDepth 100000
namespace Go.PS
open Go.Proofs
/-- spec.isNucleus -/
def an_116 : Ann := ⟨[(7, 6, 3), (12, 7, 3), (17, 4, 3), (17, 16, 3), (17, 47, 3)], [(0, [1, 2]), (1, [1, 2, 5]), (2, [1, 2, 5, 15]), (3, [4]), (4, [1, 2, 5, 6]), (5, [1, 2, 5, 6, 18]), (7, [1, 2, 5, 6, 28]), (8, [4]), (6, [1, 2, 5, 6]), (9, [1, 2, 5, 7]), (10, [1, 2, 5, 7, 31]), (12, [1, 2, 5, 7, 56]), (13, [4]), (14, [1, 2, 5, 7, 8]), (15, [1, 2, 5, 7, 8, 59]), (17, [1, 2, 5, 7, 8, 111]), (18, [4]), (16, [1, 2, 5, 7, 8]), (11, [1, 2, 5, 7]), (19, [4])], [(5, [1, 2, 5, 6], []), (10, [1, 2, 5, 7], []), (15, [1, 2, 5, 7, 8], [])], []⟩
def lb_116_5 : AC :=
  (.seq
    (.seq
      (.region false [⟨some 16, (.mv (.t 6)), 3, none, 0⟩, ⟨some 17, (.mv (.t 5)), 3, none, 0⟩, ⟨some 18, (.bin .lss 3 (.t 16) (.t 17)), 4, none, 0⟩] (some [1, 2, 5, 6, 18]))
      (.cond (.t 18)
        .skip
        (.exit 0)))
    (.seq
      (.block 1
        (.seq
          (.region false [⟨some 21, (.mv (.t 1)), 23, none, 0⟩, ⟨some 22, (.mv (.t 6)), 3, none, 0⟩, ⟨some 23, (.iaddr 23 (.t 21) (.t 22)), 0, none, 0⟩, ⟨some 24, (.load 3 (.t 23)), 3, none, 0⟩, ⟨some 25, (.mv (.t 5)), 3, none, 0⟩, ⟨some 26, (.bin .sub 3 (.t 25) (.c (.int .i64 1))), 3, none, 0⟩, ⟨some 27, (.call (.f 128) [(.t 24), (.c (.int .i64 0)), (.t 26)]), 4, none, 3⟩, ⟨some 28, (.un .not (.t 27)), 4, none, 0⟩] (some [1, 2, 5, 6, 28]))
          (.cond (.t 28)
            (.seq
              (.region false [⟨some 4, (.mv (.c (.bool false))), 4, none, 0⟩] (some [4]))
              .ret)
            .skip)))
      (.region false [⟨some 19, (.mv (.t 6)), 3, none, 0⟩, ⟨some 20, (.bin .add 3 (.t 19) (.c (.int .i64 1))), 3, none, 0⟩, ⟨some 6, (.mv (.t 20)), 3, none, 0⟩] (some [1, 2, 5, 6]))))
def lb_116_15 : AC :=
  (.seq
    (.seq
      (.region false [⟨some 57, (.mv (.t 8)), 3, none, 0⟩, ⟨some 58, (.mv (.t 5)), 3, none, 0⟩, ⟨some 59, (.bin .lss 3 (.t 57) (.t 58)), 4, none, 0⟩] (some [1, 2, 5, 7, 8, 59]))
      (.cond (.t 59)
        .skip
        (.exit 4)))
    (.seq
      (.block 5
        (.seq
          (.region true (gops (seg [1, 2, 5, 7, 8, 67, 69, 70, 71] [⟨some 62, (.faddr 27 (.t 2) 0), 0, none, 0⟩, ⟨some 63, (.load 23 (.t 62)), 23, none, 0⟩, ⟨some 64, (.mv (.t 7)), 3, none, 0⟩, ⟨some 65, (.mv (.t 8)), 3, none, 0⟩, ⟨some 66, (.call (.f 156) [(.t 63), (.t 64), (.t 65)]), 4, none, 3⟩, ⟨some 67, (.mv (.t 66)), 4, none, 0⟩, ⟨some 68, (.faddr 27 (.t 2) 0), 0, some (67, true), 0⟩, ⟨some 69, (.load 23 (.t 68)), 23, some (67, true), 0⟩, ⟨some 70, (.mv (.t 1)), 23, some (67, true), 0⟩, ⟨some 71, (.mv (.t 7)), 3, some (67, true), 0⟩]
          (seg [1, 2, 5, 7, 8, 81] [⟨some 72, (.iaddr 23 (.t 70) (.t 71)), 0, some (67, true), 0⟩, ⟨some 73, (.load 3 (.t 72)), 3, some (67, true), 0⟩, ⟨some 74, (.mv (.t 1)), 23, some (67, true), 0⟩, ⟨some 75, (.mv (.t 8)), 3, some (67, true), 0⟩, ⟨some 76, (.iaddr 23 (.t 74) (.t 75)), 0, some (67, true), 0⟩, ⟨some 77, (.load 3 (.t 76)), 3, some (67, true), 0⟩, ⟨some 78, (.call (.f 156) [(.t 69), (.t 73), (.t 77)]), 4, some (67, true), 3⟩, ⟨some 79, (.un .not (.t 78)), 4, some (67, true), 0⟩, ⟨some 80, (.pick (.t 67) (.t 79) (.c (.bool false))), 4, none, 0⟩, ⟨some 81, (.mv (.t 80)), 4, none, 0⟩]
          (seg [1, 2, 5, 7, 8, 81, 83, 91] [⟨some 82, (.faddr 27 (.t 2) 0), 0, some (81, false), 0⟩, ⟨some 83, (.load 23 (.t 82)), 23, some (81, false), 0⟩, ⟨some 84, (.faddr 27 (.t 2) 1), 0, some (81, false), 0⟩, ⟨some 85, (.load 25 (.t 84)), 25, some (81, false), 0⟩, ⟨some 86, (.mv (.t 1)), 23, some (81, false), 0⟩, ⟨some 87, (.mv (.t 7)), 3, some (81, false), 0⟩, ⟨some 88, (.iaddr 23 (.t 86) (.t 87)), 0, some (81, false), 0⟩, ⟨some 89, (.load 3 (.t 88)), 3, some (81, false), 0⟩, ⟨some 90, (.iaddr 25 (.t 85) (.t 89)), 0, some (81, false), 0⟩, ⟨some 91, (.load 23 (.t 90)), 23, some (81, false), 0⟩]
          (seg [1, 2, 5, 7, 8, 81, 83, 97, 98, 100, 101] [⟨some 92, (.mv (.t 1)), 23, some (81, false), 0⟩, ⟨some 93, (.mv (.t 8)), 3, some (81, false), 0⟩, ⟨some 94, (.iaddr 23 (.t 92) (.t 93)), 0, some (81, false), 0⟩, ⟨some 95, (.load 3 (.t 94)), 3, some (81, false), 0⟩, ⟨some 96, (.iaddr 23 (.t 91) (.t 95)), 0, some (81, false), 0⟩, ⟨some 97, (.load 3 (.t 96)), 3, some (81, false), 0⟩, ⟨some 98, (.mv (.t 1)), 23, some (81, false), 0⟩, ⟨some 99, (.faddr 27 (.t 2) 1), 0, some (81, false), 0⟩, ⟨some 100, (.load 25 (.t 99)), 25, some (81, false), 0⟩, ⟨some 101, (.mv (.t 7)), 3, some (81, false), 0⟩]
          [⟨some 102, (.iaddr 25 (.t 100) (.t 101)), 0, some (81, false), 0⟩, ⟨some 103, (.load 23 (.t 102)), 23, some (81, false), 0⟩, ⟨some 104, (.mv (.t 8)), 3, some (81, false), 0⟩, ⟨some 105, (.iaddr 23 (.t 103) (.t 104)), 0, some (81, false), 0⟩, ⟨some 106, (.load 3 (.t 105)), 3, some (81, false), 0⟩, ⟨some 107, (.iaddr 23 (.t 98) (.t 106)), 0, some (81, false), 0⟩, ⟨some 108, (.load 3 (.t 107)), 3, some (81, false), 0⟩, ⟨some 109, (.call (.f 156) [(.t 83), (.t 97), (.t 108)]), 4, some (81, false), 3⟩, ⟨some 110, (.un .not (.t 109)), 4, some (81, false), 0⟩, ⟨some 111, (.pick (.t 81) (.c (.bool true)) (.t 110)), 4, none, 0⟩] [1, 2, 5, 7, 8, 111] (by decide)) [1, 2, 5, 7, 8, 111] (by decide)) [1, 2, 5, 7, 8, 111] (by decide)) [1, 2, 5, 7, 8, 111] (by decide))) (some [1, 2, 5, 7, 8, 111]))
          (.cond (.t 111)
            (.seq
              (.region false [⟨some 4, (.mv (.c (.bool false))), 4, none, 0⟩] (some [4]))
              .ret)
            .skip)))
      (.region false [⟨some 60, (.mv (.t 8)), 3, none, 0⟩, ⟨some 61, (.bin .add 3 (.t 60) (.c (.int .i64 1))), 3, none, 0⟩, ⟨some 8, (.mv (.t 61)), 3, none, 0⟩] (some [1, 2, 5, 7, 8]))))
def lb_116_10 : AC :=
  (.seq
    (.seq
      (.region false [⟨some 29, (.mv (.t 7)), 3, none, 0⟩, ⟨some 30, (.mv (.t 5)), 3, none, 0⟩, ⟨some 31, (.bin .lss 3 (.t 29) (.t 30)), 4, none, 0⟩] (some [1, 2, 5, 7, 31]))
      (.cond (.t 31)
        .skip
        (.exit 2)))
    (.seq
      (.block 3
        (.seq
          (.seq
            (.region true (gops (seg [1, 2, 5, 7, 43] [⟨some 34, (.faddr 27 (.t 2) 0), 0, none, 0⟩, ⟨some 35, (.load 23 (.t 34)), 23, none, 0⟩, ⟨some 36, (.mv (.t 7)), 3, none, 0⟩, ⟨some 37, (.mv (.t 1)), 23, none, 0⟩, ⟨some 38, (.mv (.t 7)), 3, none, 0⟩, ⟨some 39, (.iaddr 23 (.t 37) (.t 38)), 0, none, 0⟩, ⟨some 40, (.load 3 (.t 39)), 3, none, 0⟩, ⟨some 41, (.call (.f 156) [(.t 35), (.t 36), (.t 40)]), 4, none, 3⟩, ⟨some 42, (.un .not (.t 41)), 4, none, 0⟩, ⟨some 43, (.mv (.t 42)), 4, none, 0⟩]
            [⟨some 44, (.mv (.t 1)), 23, some (43, false), 0⟩, ⟨some 45, (.mv (.t 1)), 23, some (43, false), 0⟩, ⟨some 46, (.mv (.t 7)), 3, some (43, false), 0⟩, ⟨some 47, (.iaddr 23 (.t 45) (.t 46)), 0, some (43, false), 0⟩, ⟨some 48, (.load 3 (.t 47)), 3, some (43, false), 0⟩, ⟨some 49, (.iaddr 23 (.t 44) (.t 48)), 0, some (43, false), 0⟩, ⟨some 50, (.load 3 (.t 49)), 3, some (43, false), 0⟩, ⟨some 51, (.mv (.t 1)), 23, some (43, false), 0⟩, ⟨some 52, (.mv (.t 7)), 3, some (43, false), 0⟩, ⟨some 53, (.iaddr 23 (.t 51) (.t 52)), 0, some (43, false), 0⟩, ⟨some 54, (.load 3 (.t 53)), 3, some (43, false), 0⟩, ⟨some 55, (.bin .neq 3 (.t 50) (.t 54)), 4, some (43, false), 0⟩, ⟨some 56, (.pick (.t 43) (.c (.bool true)) (.t 55)), 4, none, 0⟩] [1, 2, 5, 7, 56] (by decide))) (some [1, 2, 5, 7, 56]))
            (.cond (.t 56)
              (.seq
                (.region false [⟨some 4, (.mv (.c (.bool false))), 4, none, 0⟩] (some [4]))
                .ret)
              .skip))
          (.seq
            (.region false [⟨some 8, (.mv (.c (.int .i64 0))), 3, none, 0⟩] (some [1, 2, 5, 7, 8]))
            (.block 4
              (.loop [1, 2, 5, 7, 8] [] lb_116_15)))))
      (.region false [⟨some 32, (.mv (.t 7)), 3, none, 0⟩, ⟨some 33, (.bin .add 3 (.t 32) (.c (.int .i64 1))), 3, none, 0⟩, ⟨some 7, (.mv (.t 33)), 3, none, 0⟩] (some [1, 2, 5, 7]))))
def fa_116 : FnA := ⟨112, [.t 4],
  (.seq
    (.region false [⟨some 2, (.box 27 (.t 0)), 0, none, 0⟩, ⟨some 4, (.mv (.c (.bool false))), 4, none, 0⟩] (some [1, 2]))
    (.seq
      (.region false [⟨some 9, (.faddr 27 (.t 2) 0), 0, none, 0⟩, ⟨some 10, (.load 23 (.t 9)), 23, none, 0⟩, ⟨some 11, (.len 23 (.t 10)), 3, none, 0⟩, ⟨some 5, (.mv (.t 11)), 3, none, 0⟩] (some [1, 2, 5]))
      (.seq
        (.seq
          (.region false [⟨some 12, (.mv (.t 1)), 23, none, 0⟩, ⟨some 13, (.len 23 (.t 12)), 3, none, 0⟩, ⟨some 14, (.mv (.t 5)), 3, none, 0⟩, ⟨some 15, (.bin .neq 3 (.t 13) (.t 14)), 4, none, 0⟩] (some [1, 2, 5, 15]))
          (.cond (.t 15)
            (.seq
              (.region false [⟨some 4, (.mv (.c (.bool false))), 4, none, 0⟩] (some [4]))
              .ret)
            .skip))
        (.seq
          (.seq
            (.region false [⟨some 6, (.mv (.c (.int .i64 0))), 3, none, 0⟩] (some [1, 2, 5, 6]))
            (.block 0
              (.loop [1, 2, 5, 6] [] lb_116_5)))
          (.seq
            (.seq
              (.region false [⟨some 7, (.mv (.c (.int .i64 0))), 3, none, 0⟩] (some [1, 2, 5, 7]))
              (.block 2
                (.loop [1, 2, 5, 7] [] lb_116_10)))
            (.seq
              (.region false [⟨some 4, (.mv (.c (.bool true))), 4, none, 0⟩] (some [4]))
              .ret))))))⟩
theorem fok_116 : FnOk Try.prog 116 fa_116 an_116 := ⟨Try.f116, _, Try.func116, rfl, by kernel_rfl, rfl, rfl, by decide, by kernel_rfl⟩
/-- spec.nucleiFrom -/
def an_172 : Ann := ⟨[(3, 2, 3), (4, 0, 1), (4, 2, 2), (6, 0, 1), (10, 4, 3), (14, 4, 3), (14, 14, 3), (16, 2, 1), (16, 7, 2), (16, 8, 3), (17, 1, 2)], [(0, [1, 2]), (1, [1, 2, 5]), (2, [1, 2, 5, 16]), (3, [1, 19]), (4, [4]), (5, [4]), (6, [1, 2, 5, 6]), (7, [1, 2, 5, 6, 7]), (8, [1, 2, 5, 6, 7, 30]), (10, [1, 2, 5, 6, 7, 8]), (11, [1, 2, 5, 6, 7, 8, 9]), (12, [1, 2, 5, 6, 7, 8, 9, 43]), (14, [1, 2, 5, 6, 7, 8, 9]), (13, [1, 2, 5, 6, 7, 8, 9]), (15, [1, 2, 5, 6, 7, 62]), (16, [1, 2, 5, 6, 7]), (9, [1, 2, 5, 6, 7]), (17, [4])], [(8, [1, 2, 5, 6, 7], [200, 576]), (12, [1, 2, 5, 6, 7, 8, 9], [200, 576])], [(16, (.one 0 (.one 3 (.one 5 (.one 6 (.imm 1 (.alt 2 (.alt 4 (.alt 7 (.alt 8 (.alt 9 (.one 10 .fin) .stop) .stop) .stop) .stop) .stop)))))), [200, 576])]⟩
def lb_172_12 : AC :=
  (.seq
    (.seq
      (.region false (gops [⟨some 38, (.mv (.t 9)), 3, none, 0⟩, ⟨some 39, (.mv (.t 5)), 3, none, 0⟩, ⟨some 40, (.bin .lss 3 (.t 38) (.t 39)), 4, none, 0⟩, ⟨some 41, (.mv (.t 40)), 4, none, 0⟩, ⟨some 42, (.mv (.t 8)), 4, some (41, true), 0⟩, ⟨some 43, (.pick (.t 41) (.t 42) (.c (.bool false))), 4, none, 0⟩]) (some [1, 2, 5, 6, 7, 8, 9, 43]))
      (.cond (.t 43)
        .skip
        (.exit 2)))
    (.seq
      (.block 3
        (.region true (gops [⟨some 46, (.faddr 27 (.t 2) 0), 0, none, 0⟩, ⟨some 47, (.load 23 (.t 46)), 23, none, 0⟩, ⟨some 48, (.mv (.t 9)), 3, none, 0⟩, ⟨some 49, (.mv (.t 5)), 3, none, 0⟩, ⟨some 50, (.call (.f 156) [(.t 47), (.t 48), (.t 49)]), 4, none, 3⟩, ⟨some 51, (.un .not (.t 50)), 4, none, 0⟩, ⟨some 52, (.mv (.t 51)), 4, none, 0⟩, ⟨some 53, (.faddr 27 (.t 2) 0), 0, some (52, false), 0⟩, ⟨some 54, (.load 23 (.t 53)), 23, some (52, false), 0⟩, ⟨some 55, (.mv (.t 1)), 23, some (52, false), 0⟩, ⟨some 56, (.mv (.t 9)), 3, some (52, false), 0⟩, ⟨some 57, (.iaddr 23 (.t 55) (.t 56)), 0, some (52, false), 0⟩, ⟨some 58, (.load 3 (.t 57)), 3, some (52, false), 0⟩, ⟨some 59, (.mv (.t 7)), 3, some (52, false), 0⟩, ⟨some 60, (.call (.f 156) [(.t 54), (.t 58), (.t 59)]), 4, some (52, false), 3⟩, ⟨some 61, (.pick (.t 52) (.c (.bool true)) (.t 60)), 4, none, 0⟩, ⟨some 8, (.mv (.t 61)), 4, none, 0⟩]) (some [1, 2, 5, 6, 7, 8, 9])))
      (.region false [⟨some 44, (.mv (.t 9)), 3, none, 0⟩, ⟨some 45, (.bin .add 3 (.t 44) (.c (.int .i64 1))), 3, none, 0⟩, ⟨some 9, (.mv (.t 45)), 3, none, 0⟩] (some [1, 2, 5, 6, 7, 8, 9]))))
def lb_172_8 : AC :=
  (.seq
    (.seq
      (.region false [⟨some 26, (.mv (.t 7)), 3, none, 0⟩, ⟨some 27, (.faddr 27 (.t 2) 0), 0, none, 0⟩, ⟨some 28, (.load 23 (.t 27)), 23, none, 0⟩, ⟨some 29, (.len 23 (.t 28)), 3, none, 0⟩, ⟨some 30, (.bin .lss 3 (.t 26) (.t 29)), 4, none, 0⟩] (some [1, 2, 5, 6, 7, 30]))
      (.cond (.t 30)
        .skip
        (.exit 0)))
    (.seq
      (.block 1
        (.seq
          (.region false [⟨some 33, (.faddr 27 (.t 2) 0), 0, none, 0⟩, ⟨some 34, (.load 23 (.t 33)), 23, none, 0⟩, ⟨some 35, (.mv (.t 5)), 3, none, 0⟩, ⟨some 36, (.mv (.t 7)), 3, none, 0⟩, ⟨some 37, (.call (.f 156) [(.t 34), (.t 35), (.t 36)]), 4, none, 3⟩, ⟨some 8, (.mv (.t 37)), 4, none, 0⟩] (some [1, 2, 5, 6, 7, 8]))
          (.seq
            (.seq
              (.region false [⟨some 9, (.mv (.c (.int .i64 0))), 3, none, 0⟩] (some [1, 2, 5, 6, 7, 8, 9]))
              (.block 2
                (.loop [1, 2, 5, 6, 7, 8, 9] [200, 576] lb_172_12)))
            (.seq
              (.region false [⟨some 62, (.mv (.t 8)), 4, none, 0⟩] (some [1, 2, 5, 6, 7, 62]))
              (.cond (.t 62)
                (.expl [⟨some 63, (.mv (.t 6)), 25, none, 0⟩, ⟨some 64, (.load 27 (.t 2)), 27, none, 0⟩, ⟨some 65, (.bslice 23 0 []), 23, none, 1⟩, ⟨some 66, (.mv (.t 1)), 23, none, 0⟩, ⟨some 67, (.app 23 23 (.t 65) (.t 66)), 23, none, 0⟩, ⟨some 68, (.mv (.t 7)), 3, none, 0⟩, ⟨some 69, (.bslice 23 1 [(0, (.t 68))]), 23, none, 0⟩, ⟨some 70, (.app 23 23 (.t 67) (.t 69)), 23, none, 2⟩, ⟨some 71, (.call (.f 172) [(.t 64), (.t 70)]), 25, none, 3⟩, ⟨some 72, (.app 25 25 (.t 63) (.t 71)), 25, none, 0⟩, ⟨some 6, (.mv (.t 72)), 25, none, 0⟩] (.one 0 (.one 3 (.one 5 (.one 6 (.imm 1 (.alt 2 (.alt 4 (.alt 7 (.alt 8 (.alt 9 (.one 10 .fin) .stop) .stop) .stop) .stop) .stop)))))) [1, 2, 5, 6, 7] [200, 576])
                .skip)))))
      (.region false [⟨some 31, (.mv (.t 7)), 3, none, 0⟩, ⟨some 32, (.bin .add 3 (.t 31) (.c (.int .i64 1))), 3, none, 0⟩, ⟨some 7, (.mv (.t 32)), 3, none, 0⟩] (some [1, 2, 5, 6, 7]))))
def fa_172 : FnA := ⟨74, [.t 4],
  (.seq
    (.region false [⟨some 2, (.box 27 (.t 0)), 0, none, 0⟩, ⟨some 4, (.mv (.c .nil)), 25, none, 0⟩] (some [1, 2]))
    (.seq
      (.region false [⟨some 10, (.mv (.t 1)), 23, none, 0⟩, ⟨some 11, (.len 23 (.t 10)), 3, none, 0⟩, ⟨some 5, (.mv (.t 11)), 3, none, 0⟩] (some [1, 2, 5]))
      (.seq
        (.seq
          (.region false [⟨some 12, (.mv (.t 5)), 3, none, 0⟩, ⟨some 13, (.faddr 27 (.t 2) 0), 0, none, 0⟩, ⟨some 14, (.load 23 (.t 13)), 23, none, 0⟩, ⟨some 15, (.len 23 (.t 14)), 3, none, 0⟩, ⟨some 16, (.bin .eql 3 (.t 12) (.t 15)), 4, none, 0⟩] (some [1, 2, 5, 16]))
          (.cond (.t 16)
            (.seq
              (.seq
                (.region false [⟨some 17, (.load 27 (.t 2)), 27, none, 0⟩, ⟨some 18, (.mv (.t 1)), 23, none, 0⟩, ⟨some 19, (.call (.f 116) [(.t 17), (.t 18)]), 4, none, 3⟩] (some [1, 19]))
                (.cond (.t 19)
                  (.seq
                    (.region false [⟨some 20, (.bslice 23 0 []), 23, none, 1⟩, ⟨some 21, (.mv (.t 1)), 23, none, 0⟩, ⟨some 22, (.app 23 23 (.t 20) (.t 21)), 23, none, 2⟩, ⟨some 23, (.bslice 25 1 [(0, (.t 22))]), 25, none, 0⟩, ⟨some 4, (.mv (.t 23)), 25, none, 0⟩] (some [4]))
                    .ret)
                  .skip))
              (.seq
                (.region false [⟨some 24, (.bslice 25 0 []), 25, none, 0⟩, ⟨some 4, (.mv (.t 24)), 25, none, 0⟩] (some [4]))
                .ret))
            .skip))
        (.seq
          (.region false [⟨some 25, (.bslice 25 0 []), 25, none, 1⟩, ⟨some 6, (.mv (.t 25)), 25, none, 0⟩] (some [1, 2, 5, 6]))
          (.seq
            (.seq
              (.region false [⟨some 7, (.mv (.c (.int .i64 0))), 3, none, 0⟩] (some [1, 2, 5, 6, 7]))
              (.block 0
                (.loop [1, 2, 5, 6, 7] [200, 576] lb_172_8)))
            (.seq
              (.region false [⟨some 73, (.mv (.t 6)), 25, none, 0⟩, ⟨some 4, (.mv (.t 73)), 25, none, 2⟩] (some [4]))
              .ret))))))⟩
theorem fok_172 : FnOk Try.prog 172 fa_172 an_172 := ⟨Try.f172, _, Try.func172, rfl, by kernel_rfl, rfl, rfl, by decide, by kernel_rfl⟩
/-- impl.isNucleus$1 -/
def an_173 : Ann := ⟨[(1, 4, 3)], [(0, [0, 1]), (1, [3])], [], []⟩
def fa_173 : FnA := ⟨10, [.t 3],
  (.seq
    (.region false [⟨some 3, (.mv (.c (.bool false))), 4, none, 0⟩] (some [0, 1]))
    (.seq
      (.region false [⟨some 4, (.mv (.t 0)), 3, none, 0⟩, ⟨some 5, (.load 23 (.t 1)), 23, none, 0⟩, ⟨some 6, (.len 23 (.t 5)), 3, none, 0⟩, ⟨some 7, (.bin .sub 3 (.t 6) (.c (.int .i64 1))), 3, none, 0⟩, ⟨some 8, (.call (.f 101) [(.t 4), (.c (.int .i64 0)), (.t 7)]), 4, none, 3⟩, ⟨some 9, (.un .not (.t 8)), 4, none, 0⟩, ⟨some 3, (.mv (.t 9)), 4, none, 0⟩] (some [3]))
      .ret))⟩
theorem fok_173 : FnOk Try.prog 173 fa_173 an_173 := ⟨Try.f173, _, Try.func173, rfl, by kernel_rfl, rfl, rfl, by decide, by kernel_rfl⟩
/-- impl.isNucleus -/
def an_115 : Ann := ⟨[(1, 9, 3), (6, 7, 3), (11, 4, 3), (11, 16, 3), (11, 47, 3)], [(0, [2, 3]), (1, [2, 3, 17]), (2, [4]), (3, [2, 3, 19, 20]), (4, [2, 3, 19, 20, 21]), (5, [2, 3, 5, 19, 20]), (6, [2, 3, 5, 19, 20, 45]), (7, [4]), (8, [2, 3, 5, 19, 20, 47, 48]), (9, [2, 3, 5, 19, 20, 47, 48, 49]), (10, [2, 3, 5, 6, 19, 20, 47, 48]), (11, [2, 3, 5, 19, 20, 47, 48, 100]), (12, [4]), (13, [2, 3, 5, 19, 20, 47, 48]), (14, [2, 3, 19, 20]), (15, [4])], [(4, [2, 3, 19, 20], []), (9, [2, 3, 5, 19, 20, 47, 48], [])], []⟩
def lb_115_9 : AC :=
  (.seq
    (.region false [⟨some 49, (.bin .lss 3 (.t 48) (.t 47)), 0, none, 0⟩] (some [2, 3, 5, 19, 20, 47, 48, 49]))
    (.seq
      (.cond (.t 49)
        .skip
        (.exit 2))
      (.seq
        (.block 3
          (.seq
            (.region false [⟨some 50, (.mv (.t 48)), 3, none, 0⟩, ⟨some 6, (.mv (.t 50)), 3, none, 0⟩] (some [2, 3, 5, 6, 19, 20, 47, 48]))
            (.seq
              (.region true (gops (seg [2, 3, 5, 6, 19, 20, 47, 48, 56, 58, 59, 60] [⟨some 51, (.faddr 27 (.t 2) 0), 0, none, 0⟩, ⟨some 52, (.load 23 (.t 51)), 23, none, 0⟩, ⟨some 53, (.mv (.t 5)), 3, none, 0⟩, ⟨some 54, (.mv (.t 6)), 3, none, 0⟩, ⟨some 55, (.call (.f 131) [(.t 52), (.t 53), (.t 54)]), 4, none, 3⟩, ⟨some 56, (.mv (.t 55)), 4, none, 0⟩, ⟨some 57, (.faddr 27 (.t 2) 0), 0, some (56, true), 0⟩, ⟨some 58, (.load 23 (.t 57)), 23, some (56, true), 0⟩, ⟨some 59, (.load 23 (.t 3)), 23, some (56, true), 0⟩, ⟨some 60, (.mv (.t 5)), 3, some (56, true), 0⟩]
              (seg [2, 3, 5, 6, 19, 20, 47, 48, 70] [⟨some 61, (.iaddr 23 (.t 59) (.t 60)), 0, some (56, true), 0⟩, ⟨some 62, (.load 3 (.t 61)), 3, some (56, true), 0⟩, ⟨some 63, (.load 23 (.t 3)), 23, some (56, true), 0⟩, ⟨some 64, (.mv (.t 6)), 3, some (56, true), 0⟩, ⟨some 65, (.iaddr 23 (.t 63) (.t 64)), 0, some (56, true), 0⟩, ⟨some 66, (.load 3 (.t 65)), 3, some (56, true), 0⟩, ⟨some 67, (.call (.f 131) [(.t 58), (.t 62), (.t 66)]), 4, some (56, true), 3⟩, ⟨some 68, (.un .not (.t 67)), 4, some (56, true), 0⟩, ⟨some 69, (.pick (.t 56) (.t 68) (.c (.bool false))), 4, none, 0⟩, ⟨some 70, (.mv (.t 69)), 4, none, 0⟩]
              (seg [2, 3, 5, 6, 19, 20, 47, 48, 70, 72, 80] [⟨some 71, (.faddr 27 (.t 2) 0), 0, some (70, false), 0⟩, ⟨some 72, (.load 23 (.t 71)), 23, some (70, false), 0⟩, ⟨some 73, (.faddr 27 (.t 2) 1), 0, some (70, false), 0⟩, ⟨some 74, (.load 25 (.t 73)), 25, some (70, false), 0⟩, ⟨some 75, (.load 23 (.t 3)), 23, some (70, false), 0⟩, ⟨some 76, (.mv (.t 5)), 3, some (70, false), 0⟩, ⟨some 77, (.iaddr 23 (.t 75) (.t 76)), 0, some (70, false), 0⟩, ⟨some 78, (.load 3 (.t 77)), 3, some (70, false), 0⟩, ⟨some 79, (.iaddr 25 (.t 74) (.t 78)), 0, some (70, false), 0⟩, ⟨some 80, (.load 23 (.t 79)), 23, some (70, false), 0⟩]
              (seg [2, 3, 5, 6, 19, 20, 47, 48, 70, 72, 86, 87, 89, 90] [⟨some 81, (.load 23 (.t 3)), 23, some (70, false), 0⟩, ⟨some 82, (.mv (.t 6)), 3, some (70, false), 0⟩, ⟨some 83, (.iaddr 23 (.t 81) (.t 82)), 0, some (70, false), 0⟩, ⟨some 84, (.load 3 (.t 83)), 3, some (70, false), 0⟩, ⟨some 85, (.iaddr 23 (.t 80) (.t 84)), 0, some (70, false), 0⟩, ⟨some 86, (.load 3 (.t 85)), 3, some (70, false), 0⟩, ⟨some 87, (.load 23 (.t 3)), 23, some (70, false), 0⟩, ⟨some 88, (.faddr 27 (.t 2) 1), 0, some (70, false), 0⟩, ⟨some 89, (.load 25 (.t 88)), 25, some (70, false), 0⟩, ⟨some 90, (.mv (.t 5)), 3, some (70, false), 0⟩]
              [⟨some 91, (.iaddr 25 (.t 89) (.t 90)), 0, some (70, false), 0⟩, ⟨some 92, (.load 23 (.t 91)), 23, some (70, false), 0⟩, ⟨some 93, (.mv (.t 6)), 3, some (70, false), 0⟩, ⟨some 94, (.iaddr 23 (.t 92) (.t 93)), 0, some (70, false), 0⟩, ⟨some 95, (.load 3 (.t 94)), 3, some (70, false), 0⟩, ⟨some 96, (.iaddr 23 (.t 87) (.t 95)), 0, some (70, false), 0⟩, ⟨some 97, (.load 3 (.t 96)), 3, some (70, false), 0⟩, ⟨some 98, (.call (.f 131) [(.t 72), (.t 86), (.t 97)]), 4, some (70, false), 3⟩, ⟨some 99, (.un .not (.t 98)), 4, some (70, false), 0⟩, ⟨some 100, (.pick (.t 70) (.c (.bool true)) (.t 99)), 4, none, 0⟩] [2, 3, 5, 19, 20, 47, 48, 100] (by decide)) [2, 3, 5, 19, 20, 47, 48, 100] (by decide)) [2, 3, 5, 19, 20, 47, 48, 100] (by decide)) [2, 3, 5, 19, 20, 47, 48, 100] (by decide))) (some [2, 3, 5, 19, 20, 47, 48, 100]))
              (.cond (.t 100)
                (.seq
                  (.region false [⟨some 4, (.mv (.c (.bool false))), 4, none, 0⟩] (some [4]))
                  .ret)
                .skip))))
        (.region false [⟨some 101, (.bin .add 3 (.t 48) (.c (.int .i64 1))), 3, none, 0⟩, ⟨some 48, (.mv (.t 101)), 3, none, 0⟩] (some [2, 3, 5, 19, 20, 47, 48])))))
def lb_115_4 : AC :=
  (.seq
    (.region false [⟨some 21, (.bin .lss 3 (.t 20) (.t 19)), 0, none, 0⟩] (some [2, 3, 19, 20, 21]))
    (.seq
      (.cond (.t 21)
        .skip
        (.exit 0))
      (.seq
        (.block 1
          (.seq
            (.region false [⟨some 22, (.mv (.t 20)), 3, none, 0⟩, ⟨some 5, (.mv (.t 22)), 3, none, 0⟩] (some [2, 3, 5, 19, 20]))
            (.seq
              (.seq
                (.region true (gops (seg [2, 3, 5, 19, 20, 32] [⟨some 23, (.faddr 27 (.t 2) 0), 0, none, 0⟩, ⟨some 24, (.load 23 (.t 23)), 23, none, 0⟩, ⟨some 25, (.mv (.t 5)), 3, none, 0⟩, ⟨some 26, (.load 23 (.t 3)), 23, none, 0⟩, ⟨some 27, (.mv (.t 5)), 3, none, 0⟩, ⟨some 28, (.iaddr 23 (.t 26) (.t 27)), 0, none, 0⟩, ⟨some 29, (.load 3 (.t 28)), 3, none, 0⟩, ⟨some 30, (.call (.f 131) [(.t 24), (.t 25), (.t 29)]), 4, none, 3⟩, ⟨some 31, (.un .not (.t 30)), 4, none, 0⟩, ⟨some 32, (.mv (.t 31)), 4, none, 0⟩]
                [⟨some 33, (.load 23 (.t 3)), 23, some (32, false), 0⟩, ⟨some 34, (.load 23 (.t 3)), 23, some (32, false), 0⟩, ⟨some 35, (.mv (.t 5)), 3, some (32, false), 0⟩, ⟨some 36, (.iaddr 23 (.t 34) (.t 35)), 0, some (32, false), 0⟩, ⟨some 37, (.load 3 (.t 36)), 3, some (32, false), 0⟩, ⟨some 38, (.iaddr 23 (.t 33) (.t 37)), 0, some (32, false), 0⟩, ⟨some 39, (.load 3 (.t 38)), 3, some (32, false), 0⟩, ⟨some 40, (.load 23 (.t 3)), 23, some (32, false), 0⟩, ⟨some 41, (.mv (.t 5)), 3, some (32, false), 0⟩, ⟨some 42, (.iaddr 23 (.t 40) (.t 41)), 0, some (32, false), 0⟩, ⟨some 43, (.load 3 (.t 42)), 3, some (32, false), 0⟩, ⟨some 44, (.bin .neq 3 (.t 39) (.t 43)), 4, some (32, false), 0⟩, ⟨some 45, (.pick (.t 32) (.c (.bool true)) (.t 44)), 4, none, 0⟩] [2, 3, 5, 19, 20, 45] (by decide))) (some [2, 3, 5, 19, 20, 45]))
                (.cond (.t 45)
                  (.seq
                    (.region false [⟨some 4, (.mv (.c (.bool false))), 4, none, 0⟩] (some [4]))
                    .ret)
                  .skip))
              (.seq
                (.region false [⟨some 46, (.load 23 (.t 3)), 23, none, 0⟩, ⟨some 47, (.len 23 (.t 46)), 3, none, 0⟩, ⟨some 48, (.mv (.c (.int .i64 0))), 3, none, 0⟩] (some [2, 3, 5, 19, 20, 47, 48]))
                (.block 2
                  (.loop [2, 3, 5, 19, 20, 47, 48] [] lb_115_9))))))
        (.region false [⟨some 102, (.bin .add 3 (.t 20) (.c (.int .i64 1))), 3, none, 0⟩, ⟨some 20, (.mv (.t 102)), 3, none, 0⟩] (some [2, 3, 19, 20])))))
def fa_115 : FnA := ⟨103, [.t 4],
  (.seq
    (.region false [⟨some 2, (.box 27 (.t 0)), 0, none, 0⟩, ⟨some 3, (.box 23 (.t 1)), 0, none, 0⟩, ⟨some 4, (.mv (.c (.bool false))), 4, none, 0⟩] (some [2, 3]))
    (.seq
      (.seq
        (.region false (gops [⟨some 7, (.load 23 (.t 3)), 23, none, 0⟩, ⟨some 8, (.len 23 (.t 7)), 3, none, 0⟩, ⟨some 9, (.faddr 27 (.t 2) 0), 0, none, 0⟩, ⟨some 10, (.load 23 (.t 9)), 23, none, 0⟩, ⟨some 11, (.len 23 (.t 10)), 3, none, 0⟩, ⟨some 12, (.bin .neq 3 (.t 8) (.t 11)), 4, none, 0⟩, ⟨some 13, (.mv (.t 12)), 4, none, 0⟩, ⟨some 14, (.load 23 (.t 3)), 23, some (13, false), 0⟩, ⟨some 15, (.mkfn 173 [(.t 3)]), 80, some (13, false), 0⟩, ⟨some 16, (.call (.f 99) [(.t 14), (.t 15)]), 4, some (13, false), 3⟩, ⟨some 17, (.pick (.t 13) (.c (.bool true)) (.t 16)), 4, none, 0⟩]) (some [2, 3, 17]))
        (.cond (.t 17)
          (.seq
            (.region false [⟨some 4, (.mv (.c (.bool false))), 4, none, 0⟩] (some [4]))
            .ret)
          .skip))
      (.seq
        (.seq
          (.region false [⟨some 18, (.load 23 (.t 3)), 23, none, 0⟩, ⟨some 19, (.len 23 (.t 18)), 3, none, 0⟩, ⟨some 20, (.mv (.c (.int .i64 0))), 3, none, 0⟩] (some [2, 3, 19, 20]))
          (.block 0
            (.loop [2, 3, 19, 20] [] lb_115_4)))
        (.seq
          (.region false [⟨some 4, (.mv (.c (.bool true))), 4, none, 0⟩] (some [4]))
          .ret))))⟩
theorem fok_115 : FnOk Try.prog 115 fa_115 an_115 := ⟨Try.f115, _, Try.func115, rfl, by kernel_rfl, rfl, rfl, by decide, by kernel_rfl⟩
end Go.PS
end

section
-- Lists of lists, cut early; nuclei: what the functions compute, in plain Lean.
set_option linter.unusedVariables false
set_option linter.unusedSimpArgs false
namespace Go.PS

/-- All lists that begin with one, with so many more elements. -/
def ext (n : Nat) : Nat → List Int → List (List Int)
  | 0, h => [h]
  | k + 1, h => (List.range n).flatMap fun (y : Nat) => ext n k (h ++ [(y : Int)])
theorem ext_nxt (n : Nat) : ∀ k h, ext n (k + 1) h = nxt n (ext n k h)
  | 0, h => by
    simp only [ext, nxt, List.flatMap_cons, List.flatMap_nil, List.append_nil]
    induction List.range n with
    | nil => rfl
    | cons a l ih => simp only [List.flatMap_cons, List.map_cons, List.singleton_append, ih]
  | k + 1, h => by
    have e : ext n (k + 2) h = (List.range n).flatMap fun (y : Nat) => nxt n (ext n k (h ++ [(y : Int)])) := by
      show (List.range n).flatMap (fun (y : Nat) => ext n (k + 1) (h ++ [(y : Int)])) = _
      congr 1
      funext y
      exact ext_nxt n k _
    rw [e]
    show _ = nxt n ((List.range n).flatMap fun (y : Nat) => ext n k (h ++ [(y : Int)]))
    unfold nxt
    rw [List.flatMap_assoc]
theorem ext_asgK (n : Nat) : ∀ m, ext n m [] = asgK n m
  | 0 => rfl
  | m + 1 => by rw [ext_nxt, ext_asgK n m]; rfl
theorem asgK_dig {n : Nat} (hn : 1 ≤ n) (m : Nat) : asgK n m = (List.range (n ^ m)).map (dig n m) := by
  apply List.ext_getElem?
  intro i
  by_cases h : i < n ^ m
  · have := gr_asgK hn m i h
    have hl : i < (asgK n m).length := by rw [asgK_length]; exact h
    rw [List.getElem?_eq_getElem hl]
    simp only [gr, List.getElem?_eq_getElem hl, Option.getD_some] at this
    rw [this]
    simp [h]
  · rw [List.getElem?_eq_none (by rw [asgK_length]; omega), List.getElem?_eq_none (by simp; omega)]
theorem mem_ext {n : Nat} : ∀ {k : Nat} {h l : List Int}, l ∈ ext n k h → ∃ w, l = h ++ w ∧ w.length = k
  | 0, h, l, hl => by simp [ext] at hl; exact ⟨[], by simp [hl], rfl⟩
  | k + 1, h, l, hl => by
    simp only [ext, List.mem_flatMap] at hl
    obtain ⟨y, _, hl⟩ := hl
    obtain ⟨w, rfl, hw⟩ := mem_ext hl
    exact ⟨(y : Int) :: w, by simp, by simp [hw]⟩

/-- The same, cut where 'ok' fails, of those that are good. -/
def prn (n : Nat) (ok : List Int → Nat → Bool) (good : List Int → Bool) : Nat → List Int → List (List Int)
  | 0, h => if good h = true then [h] else []
  | k + 1, h => (List.range n).flatMap fun (y : Nat) => if ok h y = true then prn n ok good k (h ++ [(y : Int)]) else []
theorem prn_eq {n : Nat} {ok : List Int → Nat → Bool} {good : List Int → Bool} (H : ∀ k h y l, y < n → l ∈ ext n k (h ++ [(y : Int)]) → good l = true → ok h y = true) : ∀ k h, prn n ok good k h = (ext n k h).filter good
  | 0, h => by
    simp only [prn, ext, List.filter_cons, List.filter_nil]
  | k + 1, h => by
    simp only [prn, ext, List.filter_flatMap]
    rw [List.flatMap_def, List.flatMap_def]
    congr 1
    apply List.map_congr_left
    intro y hy
    have hy : y < n := by simpa using hy
    split
    · exact prn_eq H k _
    · rename_i hok
      symm
      rw [List.filter_eq_nil_iff]
      intro l hl hg
      exact hok (H k h y l hy hl hg)

structure NU (u : List Int) (t : List (List Int)) (j : List Int) : Prop where
  len : j.length = u.length
  rng : ∀ x, x < u.length → 0 ≤ gi j x ∧ gi j x < u.length
  up : ∀ x, x < u.length → tb u x (gi j x).toNat = true ∧ gi j (gi j x).toNat = gi j x
  pr : ∀ x, x < u.length → ∀ y, y < u.length → (tb u x y = true → tb u (gi j x).toNat (gi j y).toNat = true) ∧ tb u (tn t (gi j x).toNat (gi j y).toNat) (gi j (tn t x y)).toNat = true
noncomputable instance (u : List Int) (t : List (List Int)) (j : List Int) : Decidable (NU u t j) := Classical.propDecidable _

/-- What the reference asks of one more element. -/
def nok (u : List Int) (h : List Int) (y : Nat) : Bool := tb u h.length y && (List.range h.length).all fun z => !tb u z h.length || tb u (gi h z).toNat y
noncomputable def nucM (u : List Int) (t : List (List Int)) : List (List Int) := ((List.range (u.length ^ u.length)).map (dig u.length u.length)).filter fun j => decide (NU u t j)

theorem gi_append_left {a b : List Int} {i : Nat} (h : i < a.length) : gi (a ++ b) i = gi a i := by simp [gi, List.getElem?_append_left h]
theorem gi_append_at {a b : List Int} {y : Int} : gi (a ++ y :: b) a.length = y := by simp [gi]

theorem nuc_prn {u : List Int} {t : List (List Int)} (hp : 1 ≤ u.length) : prn u.length (nok u) (fun j => decide (NU u t j)) u.length [] = nucM u t := by
  rw [prn_eq, ext_asgK, asgK_dig hp, nucM]
  intro k h y l hy hl hg
  have v : NU u t l := of_decide_eq_true hg
  obtain ⟨w, rfl, hw⟩ := mem_ext hl
  have hlen := v.len
  simp only [List.length_append, List.length_cons, List.length_nil] at hlen
  have hx : h.length < u.length := by omega
  have e1 : gi (h ++ [(y : Int)] ++ w) h.length = y := by rw [List.append_assoc]; exact gi_append_at
  have h1 := (v.up h.length hx).1
  rw [e1] at h1
  simp only [nok, Bool.and_eq_true, List.all_eq_true, List.mem_range, Bool.or_eq_true, Bool.not_eq_true']
  refine ⟨by simpa using h1, fun z hz => ?_⟩
  have h2 := (v.pr z (by omega) h.length hx).1
  rw [e1] at h2
  have e2 : gi (h ++ [(y : Int)] ++ w) z = gi h z := by rw [List.append_assoc]; exact gi_append_left hz
  rw [e2] at h2
  cases hb : tb u z h.length with
  | false => exact .inl rfl
  | true => exact .inr (by simpa using h2 hb)
end Go.PS
end

section
-- Contracts: nuclei.
set_option maxRecDepth 100000
set_option linter.unusedVariables false
set_option linter.unusedSimpArgs false
namespace Go.PS
open Go.Proofs

set_option maxHeartbeats 2000000 in
theorem isNucS_pc (u : List Int) (t : List (List Int)) (j : List Int) (f : TF u t) (hj : Big j.length) : PC Try.prog 116 [AL u t, IL j] none true (fun r _ => r = .bool (decide (NU u t j))) := by
  have v := f.lat
  have hl := v.sm.le
  refine pcT [fm_inRange, fm_belowS] fok_116 ?_
  simp [fa_116]
  refine ⟨fun h w => h (by have := w.len; omega), fun hlen => ?_⟩
  have hlen : j.length = u.length := by omega
  have ew := wrap64 (n := (u.length : Int) - 1) (by omega) (by omega)
  refine loopA (tabK_mono _) u.length (fun i => [(6, I64 i)]) (fun _ => []) (fun x => 0 ≤ gi j x ∧ gi j x < u.length) (by simp) (by simp) (fun x g hx hP => ?_)
  simp [lb_116_5, wrap_succ hx hl, hlen, ew]
  refine ⟨fun h => ⟨h, fun h2 w => ?_, fun h2 h3 => ⟨h, h2, by omega⟩⟩, fun h => ?_⟩
  · have := w.rng x h
    omega
  have hr : ∀ x, x < u.length → 0 ≤ gi j x ∧ gi j x < u.length := fun x hx => hP x (by omega)
  have hrN : ∀ x, x < u.length → (gi j x).toNat < u.length := fun x hx => by have := hr x hx; omega
  clear hP hx h x
  refine loopA (tabK_mono _) u.length (fun i => [(7, I64 i)]) (fun _ => []) (fun x => (tb u x (gi j x).toNat = true ∧ gi j (gi j x).toNat = gi j x) ∧ ∀ y, y < u.length → (tb u x y = true → tb u (gi j x).toNat (gi j y).toNat = true) ∧ tb u (tn t (gi j x).toNat (gi j y).toNat) (gi j (tn t x y)).toNat = true) (by simp) (by simp) (fun x g hx hP => ?_)
  simp [lb_116_10, wrap_succ hx hl]
  refine ⟨fun h => ?_, fun h => ⟨hlen, hr, fun x hx => (hP x (by omega)).1, fun x hx => (hP x (by omega)).2⟩⟩
  refine cutWc (tabK_mono _) [(56, .bool (!tb u x (gi j x).toNat || decide (gi j (gi j x).toNat ≠ gi j x)))] (by cases hb1 : tb u x (gi j x).toNat <;> simp [hb1, hlen, h, hr, hrN, v.sm]) ?_
  simp
  refine ⟨fun h2 w => by have := w.up x h; grind, fun h2 h3 => ?_⟩
  refine loopA (tabK_mono _) u.length (fun i => [(8, I64 i)]) (fun _ => []) (fun y => (tb u x y = true → tb u (gi j x).toNat (gi j y).toNat = true) ∧ tb u (tn t (gi j x).toNat (gi j y).toNat) (gi j (tn t x y)).toNat = true) (by simp) (by simp) (fun y g hy hQ => ?_)
  simp [lb_116_15, wrap_succ hx hl, wrap_succ hy hl]
  refine ⟨fun h4 => ?_, fun h4 => ⟨h, ⟨h2, h3⟩, fun y hy => hQ y (by omega)⟩⟩
  have q1 := hr x h
  have q2 := hr y h4
  have q3 := hrN x h
  have q4 := hrN y h4
  have q5 := hr _ (f.ltN x y h h4)
  refine cutWc (tabK_mono _) [(111, .bool ((tb u x y && !tb u (gi j x).toNat (gi j y).toNat) || !tb u (tn t (gi j x).toNat (gi j y).toNat) (gi j (tn t x y)).toNat))] (by cases hb1 : tb u x y <;> cases hb2 : tb u (gi j x).toNat (gi j y).toNat <;> cases hb3 : tb u (tn t (gi j x).toNat (gi j y).toNat) (gi j (tn t x y)).toNat <;> simp (maxSteps := 2000000) [hb1, hb2, hb3, hlen, f.len, f.rows, h, h4, q1, q2, q3, q4, q5, f.nn, f.lt, f.ltN, v.sm]) ?_
  simp [wrap_succ hy hl]
  refine ⟨fun h7 w => ?_, fun h7 h8 => ⟨h4, h7, h8⟩⟩
  have := w.pr x h y h4
  grind
noncomputable def fm_isNucS : Fam Try.prog := mkFam (X := List Int × List (List Int) × List Int) 116 true (fun (u, t, j) => [AL u t, IL j]) (fun (u, t, j) => (TF u t) ∧ (Big j.length)) (fun (u, t, j) => .bool (decide (NU u t j))) (by
  rintro ⟨u, t, j⟩ ⟨f, hj⟩
  exact isNucS_pc u t j f hj)
@[simp] theorem fm_isNucS_id : fm_isNucS.id = 116 := rfl
@[simp] theorem fm_isNucS_fresh : fm_isNucS.fresh = true := rfl
@[simp] theorem fm_isNucS_look (u : List Int) (t : List (List Int)) (j : List Int) (f : TF u t) (hj : Big j.length) : fm_isNucS.look [AL u t, IL j] = some (.bool (decide (NU u t j))) :=
  lookF_of (X := List Int × List (List Int) × List Int) (args := fun (u, t, j) => [AL u t, IL j]) (pre := fun (u, t, j) => (TF u t) ∧ (Big j.length)) (val := fun (u, t, j) => .bool (decide (NU u t j))) (by
  rintro ⟨u, t, j⟩ ⟨u', t', j'⟩ h
  simp at h
  try simp only [and_assoc] at h
  obtain ⟨rfl, rfl, rfl⟩ := h
  rfl) (u, t, j) ⟨f, hj⟩
attribute [irreducible] fm_isNucS

theorem nuC_pc (x : Int) (j : List Int) (h2 : Big j.length) : PC Try.prog 173 [I64 x, .iptr (IL j)] none true (fun r _ => r = .bool (outR j.length x)) := by
  have h2 := h2.le
  refine pcT [fm_within] fok_173 ?_
  simp [fa_173, outR, wrap64 (n := (j.length : Int) - 1) (by omega) (by omega)]
theorem contNu_pc (xs : List Int) (j : List Int) (hl : Big xs.length) (h2 : Big j.length) : PC Try.prog 99 [IL xs, .fn 173 [.iptr (IL j)]] none true (fun r _ => r = .bool (xs.any (outR j.length))) := by
  exact containsFunc_pc hl (by simp) (by simp) (outR j.length) (fun x hx => nuC_pc x j h2)
noncomputable def fm_contNu : Fam Try.prog := mkFam (X := List Int × List Int) 99 true (fun (xs, j) => [IL xs, .fn 173 [.iptr (IL j)]]) (fun (xs, j) => (Big xs.length) ∧ (Big j.length)) (fun (xs, j) => .bool (xs.any (outR j.length))) (by
  rintro ⟨xs, j⟩ ⟨hl, h2⟩
  exact contNu_pc xs j hl h2)
@[simp] theorem fm_contNu_id : fm_contNu.id = 99 := rfl
@[simp] theorem fm_contNu_fresh : fm_contNu.fresh = true := rfl
@[simp] theorem fm_contNu_look (xs : List Int) (j : List Int) (hl : Big xs.length) (h2 : Big j.length) : fm_contNu.look [IL xs, .fn 173 [.iptr (IL j)]] = some (.bool (xs.any (outR j.length))) :=
  lookF_of (X := List Int × List Int) (args := fun (xs, j) => [IL xs, .fn 173 [.iptr (IL j)]]) (pre := fun (xs, j) => (Big xs.length) ∧ (Big j.length)) (val := fun (xs, j) => .bool (xs.any (outR j.length))) (by
  rintro ⟨xs, j⟩ ⟨xs', j'⟩ h
  simp at h
  try simp only [and_assoc] at h
  obtain ⟨rfl, rfl⟩ := h
  rfl) (xs, j) ⟨hl, h2⟩
attribute [irreducible] fm_contNu

set_option maxHeartbeats 2000000 in
theorem isNucI_pc (u : List Int) (t : List (List Int)) (j : List Int) (f : TF u t) (hj : Big j.length) : PC Try.prog 115 [AL u t, IL j] none true (fun r _ => r = .bool (decide (NU u t j))) := by
  have v := f.lat
  have hl := v.sm.le
  have h6 := v.six
  refine pcT [fm_contNu, fm_belowI] fok_115 ?_
  simp [fa_115]
  refine cutW (tabK_mono _) [(17, .bool (decide ((j.length : Int) ≠ u.length) || j.any (outR j.length)))] (by simp [hj]; grind) ?_
  simp
  refine ⟨fun h w => ?_, fun hlen hany => ?_⟩
  · have hlen := w.len
    obtain ⟨z, hz, h4⟩ := h.resolve_left (fun q => q (by omega))
    obtain ⟨y, hy, rfl⟩ := List.mem_iff_getElem.1 hz
    have h5 := w.rng y (by omega)
    rw [gi, List.getElem?_eq_getElem hy] at h5
    simp [outR] at h4
    simp at h5
    omega
  have hlen : j.length = u.length := by omega
  have hr : ∀ x, x < u.length → 0 ≤ gi j x ∧ gi j x < u.length := fun x hx => by
    have := any_outR (xs := j) (n := j.length) (by rw [List.any_eq_false]; intro z hz; simpa using hany z hz) x (by omega)
    omega
  have hrN : ∀ x, x < u.length → (gi j x).toNat < u.length := fun x hx => by have := hr x hx; omega
  clear hany
  refine loopA (tabK_mono _) u.length (fun i => [(20, I64 i)]) (fun _ => []) (fun x => (tb u x (gi j x).toNat = true ∧ gi j (gi j x).toNat = gi j x) ∧ ∀ y, y < u.length → (tb u x y = true → tb u (gi j x).toNat (gi j y).toNat = true) ∧ tb u (tn t (gi j x).toNat (gi j y).toNat) (gi j (tn t x y)).toNat = true) (by simp) (by simp) (fun x g hx hP => ?_)
  simp [lb_115_4, wrap_succ hx hl, hlen]
  refine ⟨fun h => ?_, fun h => ⟨hlen, hr, fun x hx => (hP x (by omega)).1, fun x hx => (hP x (by omega)).2⟩⟩
  refine cutWc (tabK_mono _) [(45, .bool (!tb u x (gi j x).toNat || decide (gi j (gi j x).toNat ≠ gi j x)))] (by cases hb1 : tb u x (gi j x).toNat <;> simp [hb1, hlen, h, hr, hrN, h6]) ?_
  simp [hlen]
  refine ⟨fun h2 w => by have := w.up x h; grind, fun h2 h3 => ?_⟩
  refine loopA (tabK_mono _) u.length (fun i => [(48, I64 i)]) (fun _ => []) (fun y => (tb u x y = true → tb u (gi j x).toNat (gi j y).toNat = true) ∧ tb u (tn t (gi j x).toNat (gi j y).toNat) (gi j (tn t x y)).toNat = true) (by simp) (by simp) (fun y g hy hQ => ?_)
  simp [lb_115_9, wrap_succ hx hl, wrap_succ hy hl]
  refine ⟨fun h4 => ?_, fun h4 => ⟨h, ⟨h2, h3⟩, fun y hy => hQ y (by omega)⟩⟩
  have q1 := hr x h
  have q2 := hr y h4
  have q3 := hrN x h
  have q4 := hrN y h4
  have q5 := hr _ (f.ltN x y h h4)
  refine cutWc (tabK_mono _) [(100, .bool ((tb u x y && !tb u (gi j x).toNat (gi j y).toNat) || !tb u (tn t (gi j x).toNat (gi j y).toNat) (gi j (tn t x y)).toNat))] (by cases hb1 : tb u x y <;> cases hb2 : tb u (gi j x).toNat (gi j y).toNat <;> cases hb3 : tb u (tn t (gi j x).toNat (gi j y).toNat) (gi j (tn t x y)).toNat <;> simp (maxSteps := 2000000) [hb1, hb2, hb3, hlen, f.len, f.rows, h, h4, q1, q2, q3, q4, q5, f.nn, f.lt, f.ltN, h6]) ?_
  simp [wrap_succ hy hl]
  refine ⟨fun h7 w => ?_, fun h7 h8 => ⟨h4, h7, h8⟩⟩
  have := w.pr x h y h4
  grind
noncomputable def fm_isNucI : Fam Try.prog := mkFam (X := List Int × List (List Int) × List Int) 115 true (fun (u, t, j) => [AL u t, IL j]) (fun (u, t, j) => (TF u t) ∧ (Big j.length)) (fun (u, t, j) => .bool (decide (NU u t j))) (by
  rintro ⟨u, t, j⟩ ⟨f, hj⟩
  exact isNucI_pc u t j f hj)
@[simp] theorem fm_isNucI_id : fm_isNucI.id = 115 := rfl
@[simp] theorem fm_isNucI_fresh : fm_isNucI.fresh = true := rfl
@[simp] theorem fm_isNucI_look (u : List Int) (t : List (List Int)) (j : List Int) (f : TF u t) (hj : Big j.length) : fm_isNucI.look [AL u t, IL j] = some (.bool (decide (NU u t j))) :=
  lookF_of (X := List Int × List (List Int) × List Int) (args := fun (u, t, j) => [AL u t, IL j]) (pre := fun (u, t, j) => (TF u t) ∧ (Big j.length)) (val := fun (u, t, j) => .bool (decide (NU u t j))) (by
  rintro ⟨u, t, j⟩ ⟨u', t', j'⟩ h
  simp at h
  try simp only [and_assoc] at h
  obtain ⟨rfl, rfl, rfl⟩ := h
  rfl) (u, t, j) ⟨f, hj⟩
attribute [irreducible] fm_isNucI
end Go.PS
end

section
-- Contracts: what refutes a term, what is true.
set_option maxRecDepth 100000
set_option linter.unusedVariables false
set_option linter.unusedSimpArgs false
namespace Go.PS
open Go.Proofs

end Go.PS
end

section
-- Contracts: all nuclei.
set_option maxRecDepth 100000
set_option linter.unusedVariables false
set_option linter.unusedSimpArgs false
namespace Go.PS
open Go.Proofs

def okp (u h : List Int) (y i : Nat) : Bool := tb u h.length y && (List.range i).all fun z => !tb u z h.length || tb u (gi h z).toNat y
theorem okp_succ {u h : List Int} {y i : Nat} : okp u h y (i + 1) = (okp u h y i && (!tb u i h.length || tb u (gi h i).toNat y)) := by
  unfold okp
  rw [all_succ, Bool.and_assoc]
theorem okp_mono {u h : List Int} {y i j : Nat} (hij : i ≤ j) (h0 : okp u h y i = false) : okp u h y j = false := by
  cases hj : okp u h y j with
  | false => rfl
  | true =>
    unfold okp at h0 hj
    simp only [Bool.and_eq_true, List.all_eq_true, List.mem_range] at hj
    have : (List.range i).all (fun z => !tb u z h.length || tb u (gi h z).toNat y) = true := by
      rw [List.all_eq_true]
      intro z hz
      exact hj.2 z (by have := List.mem_range.1 hz; omega)
    rw [hj.1, this] at h0
    cases h0

noncomputable def accN (u : List Int) (t : List (List Int)) (k : Nat) (h : List Int) (y : Nat) : List (List Int) := (List.range y).flatMap fun (y : Nat) => if nok u h y = true then prn u.length (nok u) (fun j => decide (NU u t j)) k (h ++ [(y : Int)]) else []
theorem accN_succ {u : List Int} {t : List (List Int)} {k : Nat} {h : List Int} {y : Nat} : accN u t k h (y + 1) = accN u t k h y ++ if nok u h y = true then prn u.length (nok u) (fun j => decide (NU u t j)) k (h ++ [(y : Int)]) else [] := by
  unfold accN
  rw [List.range_succ, List.flatMap_append]
  simp

theorem flatMap_len {α β : Type} {f : α → List β} {b : Nat} : ∀ (l : List α), (∀ x ∈ l, (f x).length ≤ b) → (l.flatMap f).length ≤ l.length * b
  | [], _ => by simp
  | x :: l, h => by
    rw [List.flatMap_cons, List.length_append, List.length_cons, Nat.succ_mul]
    have h1 := h x (by simp)
    have h2 := flatMap_len l (fun y hy => h y (by simp [hy]))
    omega
theorem prn_len {n : Nat} {ok : List Int → Nat → Bool} {good : List Int → Bool} : ∀ k h, (prn n ok good k h).length ≤ n ^ k
  | 0, h => by
    unfold prn
    split <;> simp
  | k + 1, h => by
    have := flatMap_len (f := fun (y : Nat) => if ok h y = true then prn n ok good k (h ++ [(y : Int)]) else []) (b := n ^ k) (List.range n) (fun y _ => by
      split
      · exact prn_len k _
      · simp)
    rw [List.length_range] at this
    rw [Nat.pow_succ, Nat.mul_comm]
    exact this
theorem accN_len {u : List Int} {t : List (List Int)} {k : Nat} {h : List Int} {y : Nat} : (accN u t k h y).length ≤ y * u.length ^ k := by
  have := flatMap_len (f := fun (y : Nat) => if nok u h y = true then prn u.length (nok u) (fun j => decide (NU u t j)) k (h ++ [(y : Int)]) else []) (b := u.length ^ k) (List.range y) (fun y _ => by
    split
    · exact prn_len k _
    · simp)
  rwa [List.length_range] at this
theorem pow6 {n k : Nat} (hn : n ≤ 6) (hk : k ≤ 6) : n ^ k ≤ 46656 := by
  have h1 := Nat.pow_le_pow_left hn k
  have h2 : 6 ^ k ≤ 6 ^ 6 := Nat.pow_le_pow_right (by omega) hk
  omega

theorem nucleiFromS_aux {u : List Int} {t : List (List Int)} (f : TF u t) : ∀ (k : Nat) (h : List Int), h.length + k = u.length → (∀ z, z < h.length → 0 ≤ gi h z ∧ gi h z < u.length) →
    PC Try.prog 172 [AL u t, IL h] none false (fun r _ => r = RL (prn u.length (nok u) (fun j => decide (NU u t j)) k h))
  | 0, h, hk, hh => by
    have h6 := f.lat.six
    have hb : Big h.length := by unfold Big; omega
    refine pcT [fm_isNucS] fok_172 ?_
    have hb2 : Big u.length := by unfold Big; omega
    cases hN : decide (NU u t h) <;> simp [fa_172, show h.length = u.length by omega, f, hb2, hN, prn, show u.length ≤ big from hb2] <;> simp [rowsD]
  | k + 1, h, hk, hh => by
    have h6 := f.lat.six
    have hsm := f.lat.sm
    have hb : Big h.length := by unfold Big; omega
    obtain ⟨fm, hid, hfr, hlk'⟩ := famE (P := Try.prog) (X := Nat) 172 false (fun y => [AL u t, IL (h ++ [(y : Int)])]) (fun y => y < u.length) (fun y => RL (prn u.length (nok u) (fun j => decide (NU u t j)) k (h ++ [(y : Int)]))) (by
      intro x y e
      simp at e
      have : x = y := by omega
      rw [this]) (fun y hy => nucleiFromS_aux f k _ (by simp; omega) (fun z hz => by
        simp only [List.length_append, List.length_cons, List.length_nil] at hz
        rcases Nat.lt_or_ge z h.length with c | c
        · rw [gi_append_left c]; exact hh z c
        · obtain rfl : z = h.length := by omega
          rw [gi_append_at]
          omega))
    have hlk : ∀ y : Nat, y < u.length → fm.look [AL u t, IL (h ++ [(y : Int)])] = some (RL (prn u.length (nok u) (fun j => decide (NU u t j)) k (h ++ [(y : Int)]))) := fun y hy => hlk' y hy
    refine pcT [fm, fm_belowS] fok_172 ?_
    simp [fa_172, show ¬ ((h.length : Int) = u.length) by omega]
    refine loopX (tabK_mono _) u.length (fun y γ => [(6, .arr 200 γ), (7, I64 y)]) (fun y γ => [⟨200, γ, .arr 1 (rowsD (accN u t k h y))⟩]) (fun _ _ => True) 1 (by simp) (by simp [accN, rowsD]) trivial (fun y γ g hy _ => ?_)
    simp [lb_172_8, wrap_succ hy (by omega), hid]
    refine ⟨fun h2 => ?_, fun h2 => by rw [show y = u.length by omega]; rfl⟩
    simp [hsm, h2, show h.length < u.length by omega]
    refine loopA (tabK_mono _) h.length (fun i => [(8, .bool (okp u h y i)), (9, I64 i)]) (fun _ => [⟨200, γ, .arr 1 (rowsD (accN u t k h y))⟩]) (fun _ => True) (by simp [okp]) (by simp) (fun i g2 hi _ => ?_)
    simp [lb_172_12, hid]
    refine cutW (tabK_mono _) [(43, .bool (decide (i < h.length) && okp u h y i))] (by cases hb1 : okp u h y i <;> simp [hb1]) ?_
    simp
    refine ⟨fun h3 h4 => ?_, fun h3 => ?_⟩
    · have q := hh i h3
      refine cutWc (tabK_mono _) [(8, .bool (okp u h y (i + 1)))] (by
        rw [okp_succ, h4]
        cases hb1 : tb u i h.length <;> simp [hid, hsm, h2, hb1, h3, q, show i < u.length by omega, show h.length < u.length by omega, show (gi h i).toNat < u.length by omega]) ?_
      simp [wrap_succ hi (by omega), hid]
      exact h3
    · have en : okp u h y i = nok u h y := by
        cases c : okp u h y i with
        | false => exact (okp_mono hi c).symm
        | true =>
          have : i = h.length := by
            rcases Nat.lt_or_ge i h.length with d | d
            · rw [h3 d] at c; cases c
            · omega
          rw [← c, this]; rfl
      rw [en]
      refine ⟨fun h4 => ?_, fun h4 => ⟨h2, γ, ⟨rfl, wrap_succ hy (by omega)⟩, rfl, by rw [accN_succ]; simp [h4]⟩⟩
      have l1 := hlk y h2
      refine cutE (α := Nat) (fun x => [(1, IL h), (2, (AL u t).iptr), (5, I64 h.length), (6, .arr 200 x), (7, I64 y)]) (fun x => [⟨200, x, .arr 1 (rowsD (accN u t k h (y + 1)))⟩]) (by
        simp [hid, hfr, l1]
        have e1 : (accN u t k h y).length ≤ 6 * 46656 := Nat.le_trans accN_len (Nat.mul_le_mul (by omega) (pow6 h6 (by omega)))
        have e2 : (prn u.length (nok u) (fun j => decide (NU u t j)) k (h ++ [(y : Int)])).length ≤ 46656 := Nat.le_trans (prn_len _ _) (pow6 h6 (by omega))
        have e4 : big = 1048576 * 1048576 := rfl
        refine ⟨by omega, by omega, by omega, ?_⟩
        rw [accN_succ, h4]
        simp [rowsD]) (fun x g0 => ?_)
      simp [wrap_succ hy (by omega)]
      exact h2

theorem nucleiFromS_pc (u : List Int) (t : List (List Int)) (f : TF u t) : PC Try.prog 172 [AL u t, IL []] none false (fun r _ => r = RL (nucM u t)) := by
  rw [← nuc_prn f.lat.pos]
  exact nucleiFromS_aux f u.length [] (by simp) (by simp)
noncomputable def fm_nucleiFromS : Fam Try.prog := mkFam (X := List Int × List (List Int)) 172 false (fun (u, t) => [AL u t, IL []]) (fun (u, t) => (TF u t)) (fun (u, t) => RL (nucM u t)) (by
  rintro ⟨u, t⟩ f
  exact nucleiFromS_pc u t f)
@[simp] theorem fm_nucleiFromS_id : fm_nucleiFromS.id = 172 := rfl
@[simp] theorem fm_nucleiFromS_fresh : fm_nucleiFromS.fresh = false := rfl
@[simp] theorem fm_nucleiFromS_look (u : List Int) (t : List (List Int)) (f : TF u t) : fm_nucleiFromS.look [AL u t, IL []] = some (RL (nucM u t)) :=
  lookF_of (X := List Int × List (List Int)) (args := fun (u, t) => [AL u t, IL []]) (pre := fun (u, t) => (TF u t)) (val := fun (u, t) => RL (nucM u t)) (by
  rintro ⟨u, t⟩ ⟨u', t'⟩ h
  simp at h
  try simp only [and_assoc] at h
  obtain ⟨rfl, rfl⟩ := h
  rfl) (u, t) f
attribute [irreducible] fm_nucleiFromS

end Go.PS
end

section
-- Nuclei in plain Lean: which there always are; none twice.
set_option linter.unusedVariables false
set_option linter.unusedSimpArgs false
namespace Go.PS

theorem ext_mem {n : Nat} : ∀ (w : List Int) (h : List Int), (∀ x ∈ w, 0 ≤ x ∧ x < n) → h ++ w ∈ ext n w.length h
  | [], h, _ => by simp [ext]
  | x :: w, h, hw => by
    simp only [List.length_cons, ext, List.mem_flatMap, List.mem_range]
    have hx := hw x (by simp)
    refine ⟨x.toNat, by omega, ?_⟩
    have e : ((x.toNat : Nat) : Int) = x := by omega
    rw [e]
    have := ext_mem w (h ++ [x]) (fun y hy => hw y (by simp [hy]))
    simpa using this
section
variable {u : List Int} {t : List (List Int)}
theorem nucM_ext (hp : 1 ≤ u.length) : nucM u t = (ext u.length u.length []).filter fun j => decide (NU u t j) := by
  unfold nucM
  rw [ext_asgK, asgK_dig hp]
theorem mem_nuc {j : List Int} (hp : 1 ≤ u.length) : j ∈ nucM u t ↔ NU u t j := by
  rw [nucM_ext hp, List.mem_filter]
  constructor
  · rintro ⟨_, h⟩
    exact of_decide_eq_true h
  · intro h
    refine ⟨?_, decide_eq_true h⟩
    have := ext_mem (n := u.length) j [] (fun x hx => by
      obtain ⟨i, hi, e⟩ := List.mem_iff_getElem.1 hx
      have := h.rng i (by rw [← h.len]; exact hi)
      simp [gi, List.getElem?_eq_getElem hi, e] at this
      exact this)
    rw [h.len] at this
    simpa using this
/-- A list of one number for each element. -/
def lst (n : Nat) (f : Nat → Nat) : List Int := (List.range n).map fun x => ((f x : Nat) : Int)
theorem lst_len {n : Nat} {f : Nat → Nat} : (lst n f).length = n := by simp [lst]
theorem gi_lst {n : Nat} {f : Nat → Nat} {x : Nat} (hx : x < n) : gi (lst n f) x = (f x : Nat) := by simp [gi, lst, hx]
theorem NU_lst {f : Nat → Nat} (hf : ∀ x, x < u.length → f x < u.length) (h1 : ∀ x, x < u.length → tb u x (f x) = true) (h2 : ∀ x, x < u.length → f (f x) = f x)
    (ht : ∀ x, x < u.length → ∀ y, y < u.length → tn t x y < u.length)
    (h3 : ∀ x, x < u.length → ∀ y, y < u.length → tb u x y = true → tb u (f x) (f y) = true) (h4 : ∀ x, x < u.length → ∀ y, y < u.length → tb u (tn t (f x) (f y)) (f (tn t x y)) = true) : NU u t (lst u.length f) := by
  refine ⟨lst_len, fun x hx => ?_, fun x hx => ?_, fun x hx y hy => ?_⟩
  · rw [gi_lst hx]; have := hf x hx; omega
  · rw [gi_lst hx, Int.toNat_natCast, gi_lst (hf x hx), h2 x hx]
    exact ⟨h1 x hx, rfl⟩
  · rw [gi_lst hx, gi_lst hy, gi_lst (ht x hx y hy), Int.toNat_natCast, Int.toNat_natCast, Int.toNat_natCast]
    exact ⟨h3 x hx y hy, h4 x hx y hy⟩
theorem nu_id (a : VA u t) : NU u t (lst u.length fun x => x) :=
  NU_lst (fun x hx => hx) (fun x hx => a.lat.rf hx) (fun _ _ => rfl) (fun x hx y hy => a.tn_lt hx hy) (fun x hx y hy h => h) (fun x hx y hy => a.lat.rf (a.tn_lt hx hy))
end
end Go.PS
end

section
-- PRINTED by gen.py: clean texts of functions, and their tie to the program.
set_option maxRecDepth 100000
namespace Go.PS
open Go.Proofs
/-- spec.IsNucleus -/
def an_32 : Ann := ⟨[(1, 1, 3), (1, 5, 3)], [(0, [1, 2]), (1, [4])], [], []⟩
def fa_32 : FnA := ⟨12, [.t 4],
  (.seq
    (.region false [⟨some 2, (.box 27 (.t 0)), 0, none, 0⟩, ⟨some 4, (.mv (.c (.bool false))), 4, none, 0⟩] (some [1, 2]))
    (.seq
      (.region false (gops [⟨some 5, (.load 27 (.t 2)), 27, none, 0⟩, ⟨some 6, (.call (.f 111) [(.t 5)]), 4, none, 3⟩, ⟨some 7, (.mv (.t 6)), 4, none, 0⟩, ⟨some 8, (.load 27 (.t 2)), 27, some (7, true), 0⟩, ⟨some 9, (.mv (.t 1)), 23, some (7, true), 0⟩, ⟨some 10, (.call (.f 116) [(.t 8), (.t 9)]), 4, some (7, true), 3⟩, ⟨some 11, (.pick (.t 7) (.t 10) (.c (.bool false))), 4, none, 0⟩, ⟨some 4, (.mv (.t 11)), 4, none, 0⟩]) (some [4]))
      .ret))⟩
theorem fok_32 : FnOk Try.prog 32 fa_32 an_32 := ⟨Try.f32, _, Try.func32, rfl, by kernel_rfl, rfl, rfl, by decide, by kernel_rfl⟩
/-- spec.nucleusOf -/
def an_114 : Ann := ⟨[(1, 1, 3), (3, 2, 3), (4, 0, 1), (4, 5, 16), (5, 1, 16), (7, 4, 16), (7, 7, 16)], [(0, [0, 3]), (1, [0, 3, 9]), (2, [4]), (3, [0, 5]), (4, [0, 6]), (5, [0, 6, 24]), (6, [0, 6, 24, 25]), (7, [6]), (8, [6, 36]), (9, [4]), (10, [4])], [], []⟩
def fa_114 : FnA := ⟨42, [.t 4],
  (.seq
    (.region false [⟨some 3, (.box 27 (.t 1)), 0, none, 0⟩, ⟨some 4, (.mv (.c .nil)), 23, none, 0⟩] (some [0, 3]))
    (.seq
      (.seq
        (.region false [⟨some 7, (.load 27 (.t 3)), 27, none, 0⟩, ⟨some 8, (.call (.f 111) [(.t 7)]), 4, none, 3⟩, ⟨some 9, (.un .not (.t 8)), 4, none, 0⟩] (some [0, 3, 9]))
        (.cond (.t 9)
          (.seq
            (.region false [⟨some 10, (.bslice 23 2 [(0, (.c (.int .i64 0))), (1, (.c (.int .i64 1)))]), 23, none, 0⟩, ⟨some 4, (.mv (.t 10)), 23, none, 0⟩] (some [4]))
            .ret)
          .skip))
      (.seq
        (.region false [⟨some 11, (.load 27 (.t 3)), 27, none, 0⟩, ⟨some 12, (.bslice 23 0 []), 23, none, 0⟩, ⟨some 13, (.call (.f 172) [(.t 11), (.t 12)]), 25, none, 3⟩, ⟨some 5, (.mv (.t 13)), 25, none, 0⟩] (some [0, 5]))
        (.seq
          (.region false [⟨some 14, (.bslice 23 0 []), 23, none, 1⟩, ⟨some 15, (.mv (.t 5)), 25, none, 0⟩, ⟨some 16, (.mv (.t 0)), 72, none, 0⟩, ⟨some 17, (.mv (.t 5)), 25, none, 0⟩, ⟨some 18, (.len 25 (.t 17)), 3, none, 0⟩, ⟨some 19, (.call (.f 106) [(.t 16), (.t 18)]), 3, none, 16⟩, ⟨some 20, (.iaddr 25 (.t 15) (.t 19)), 0, none, 0⟩, ⟨some 21, (.load 23 (.t 20)), 23, none, 0⟩, ⟨some 22, (.app 23 23 (.t 14) (.t 21)), 23, none, 0⟩, ⟨some 6, (.mv (.t 22)), 23, none, 0⟩] (some [0, 6]))
          (.seq
            (.seq
              (.region false [⟨some 23, (.mv (.t 0)), 72, none, 0⟩, ⟨some 24, (.call (.f 106) [(.t 23), (.c (.int .i64 12))]), 3, none, 16⟩] (some [0, 6, 24]))
              (.block 0
                (.seq
                  (.region false [⟨some 26, (.bin .eql 3 (.t 24) (.c (.int .i64 0))), 4, none, 0⟩, ⟨some 25, (.mv (.t 26)), 4, none, 0⟩] (some [0, 6, 24, 25]))
                  (.cond (.t 25)
                    (.region false [⟨some 27, (.mv (.t 6)), 23, none, 0⟩, ⟨some 28, (.mv (.t 0)), 72, none, 0⟩, ⟨some 29, (.mv (.t 6)), 23, none, 0⟩, ⟨some 30, (.len 23 (.t 29)), 3, none, 0⟩, ⟨some 31, (.call (.f 106) [(.t 28), (.t 30)]), 3, none, 16⟩, ⟨some 32, (.mv (.t 0)), 72, none, 0⟩, ⟨some 33, (.bslice 23 4 [(0, (.c (.int .i64 0))), (1, (.c (.int .i64 1))), (2, (.c (.int .i64 (-1)))), (3, (.c (.int .i64 6)))]), 23, none, 0⟩, ⟨some 34, (.call (.f 161) [(.t 32), (.t 33)]), 3, none, 16⟩, ⟨some 35, (.iaddr 23 (.t 27) (.t 31)), 0, none, 0⟩, ⟨none, (.store 3 (.t 35) (.t 34)), 0, none, 0⟩] (some [6]))
                    (.seq
                      (.region false [⟨some 37, (.bin .eql 3 (.t 24) (.c (.int .i64 1))), 4, none, 0⟩, ⟨some 36, (.mv (.t 37)), 4, none, 0⟩] (some [6, 36]))
                      (.cond (.t 36)
                        (.seq
                          (.region false [⟨some 38, (.mv (.t 6)), 23, none, 0⟩, ⟨some 39, (.bslice 23 1 [(0, (.c (.int .i64 0)))]), 23, none, 0⟩, ⟨some 40, (.app 23 23 (.t 38) (.t 39)), 23, none, 0⟩, ⟨some 4, (.mv (.t 40)), 23, none, 0⟩] (some [4]))
                          .ret)
                        .skip))))))
            (.seq
              (.region false [⟨some 41, (.mv (.t 6)), 23, none, 0⟩, ⟨some 4, (.mv (.t 41)), 23, none, 0⟩] (some [4]))
              .ret))))))⟩
theorem fok_114 : FnOk Try.prog 114 fa_114 an_114 := ⟨Try.f114, _, Try.func114, rfl, by kernel_rfl, rfl, rfl, by decide, by kernel_rfl⟩
/-- spec.DrawIsNucleus -/
def ex_30_3_63 : Ex := .fin
def ex_30_3_31 : Ex := .one 5 ex_30_3_63
def ex_30_3_15 : Ex := (.alt 4 ex_30_3_31 .stop)
def ex_30_3_14 : Ex := (.alt 0 ex_30_3_15 .stop)
def ex_30_3_7 : Ex := (.alt 3 ex_30_3_15 .stop)
def ex_30_3_6 : Ex := (.alt 0 ex_30_3_7 (.alt 3 ex_30_3_14 .stop))
def ex_30_3_3 : Ex := (.alt 2 ex_30_3_7 .stop)
def ex_30_3_2 : Ex := (.alt 0 ex_30_3_3 (.alt 2 ex_30_3_6 .stop))
def ex_30_3_0 : Ex := .one 1 ex_30_3_2
def ro_30_3 : List AOper := [⟨some 10, (.load 27 (.t 5)), 27, none, 0⟩, ⟨some 11, (.mv (.t 4)), 72, none, 0⟩, ⟨some 12, (.load 27 (.t 5)), 27, none, 0⟩, ⟨some 13, (.call (.f 114) [(.t 11), (.t 12)]), 23, none, 16⟩, ⟨none, (.store 27 (.t 2) (.t 10)), 0, none, 0⟩, ⟨some 3, (.mv (.t 13)), 23, none, 0⟩]
theorem ro_30_3_0 : ro_30_3[0]? = some ⟨some 10, (.load 27 (.t 5)), 27, none, 0⟩ := (rfl)
theorem ro_30_3_1 : ro_30_3[1]? = some ⟨some 11, (.mv (.t 4)), 72, none, 0⟩ := (rfl)
theorem ro_30_3_2 : ro_30_3[2]? = some ⟨some 12, (.load 27 (.t 5)), 27, none, 0⟩ := (rfl)
theorem ro_30_3_3 : ro_30_3[3]? = some ⟨some 13, (.call (.f 114) [(.t 11), (.t 12)]), 23, none, 16⟩ := (rfl)
theorem ro_30_3_4 : ro_30_3[4]? = some ⟨none, (.store 27 (.t 2) (.t 10)), 0, none, 0⟩ := (rfl)
theorem ro_30_3_5 : ro_30_3[5]? = some ⟨some 3, (.mv (.t 13)), 23, none, 0⟩ := (rfl)
def an_30 : Ann := ⟨[(1, 1, 16), (2, 1, 16), (3, 3, 16)], [(0, [0, 2]), (1, [2, 4]), (2, [2, 4, 5]), (3, [2, 3])], [], [(3, ex_30_3_0, [16, 72, 104])]⟩
def fa_30 : FnA := ⟨14, [.c 2 27, .t 3],
  (.seq
    (.region false [⟨some 2, (.alloc 27), 0, none, 0⟩, ⟨some 3, (.mv (.c .nil)), 23, none, 0⟩] (some [0, 2]))
    (.seq
      (.region false [⟨some 6, (.mv (.t 0)), 22, none, 0⟩, ⟨some 7, (.call (.f 90) [(.t 6)]), 72, none, 16⟩, ⟨some 4, (.mv (.t 7)), 72, none, 0⟩] (some [2, 4]))
      (.seq
        (.region false [⟨some 8, (.mv (.t 4)), 72, none, 0⟩, ⟨some 9, (.call (.f 105) [(.t 8)]), 27, none, 16⟩, ⟨some 5, (.alloc 27), 0, none, 0⟩, ⟨none, (.store 27 (.t 5) (.t 9)), 0, none, 0⟩] (some [2, 4, 5]))
        (.seq
          (.expl ro_30_3 ex_30_3_0 [2, 3] [16, 72, 104])
          .ret))))⟩
theorem fok_30 : FnOk Try.prog 30 fa_30 an_30 := ⟨Try.f30, _, Try.func30, rfl, by kernel_rfl, rfl, rfl, by decide, by kernel_rfl⟩
/-- laws.FnIsNucleus -/
def an_5 : Ann := ⟨[(3, 1, 3), (4, 2, 3), (5, 3, 3), (6, 3, 3), (13, 3, 3)], [(0, [0]), (1, [0, 11]), (2, [2]), (3, [3, 4]), (4, [3, 4, 5]), (5, [3, 4, 5, 28]), (6, [2]), (7, [3, 4, 6]), (8, [3, 4, 6, 37]), (10, [3, 4, 6, 7]), (11, [3, 4, 6, 7, 43]), (13, [3, 4, 6, 7, 8]), (14, [3, 4, 6, 7, 63]), (15, [2]), (12, [3, 4, 6, 7]), (9, [3, 4, 6]), (16, [2])], [(8, [3, 4, 6], [24]), (11, [3, 4, 6, 7], [24])], []⟩
def lb_5_11 : AC :=
  (.seq
    (.seq
      (.region false [⟨some 40, (.mv (.t 7)), 3, none, 0⟩, ⟨some 41, (.mv (.t 4)), 23, none, 0⟩, ⟨some 42, (.len 23 (.t 41)), 3, none, 0⟩, ⟨some 43, (.bin .lss 3 (.t 40) (.t 42)), 4, none, 0⟩] (some [3, 4, 6, 7, 43]))
      (.cond (.t 43)
        .skip
        (.exit 2)))
    (.seq
      (.block 3
        (.seq
          (.region false [⟨some 46, (.load 27 (.t 3)), 27, none, 0⟩, ⟨some 47, (.mv (.t 6)), 3, none, 0⟩, ⟨some 48, (.mv (.t 7)), 3, none, 0⟩, ⟨some 49, (.call (.f 33) [(.t 46), (.t 47), (.t 48)]), 3, none, 3⟩, ⟨some 8, (.mv (.t 49)), 3, none, 0⟩] (some [3, 4, 6, 7, 8]))
          (.seq
            (.region false (gops [⟨some 50, (.mv (.t 4)), 23, none, 0⟩, ⟨some 51, (.mv (.t 7)), 3, none, 0⟩, ⟨some 52, (.iaddr 23 (.t 50) (.t 51)), 0, none, 0⟩, ⟨some 53, (.load 3 (.t 52)), 3, none, 0⟩, ⟨some 54, (.mv (.t 7)), 3, none, 0⟩, ⟨some 55, (.bin .eql 3 (.t 53) (.t 54)), 4, none, 0⟩, ⟨some 56, (.mv (.t 55)), 4, none, 0⟩, ⟨some 57, (.mv (.t 4)), 23, some (56, true), 0⟩, ⟨some 58, (.mv (.t 8)), 3, some (56, true), 0⟩, ⟨some 59, (.iaddr 23 (.t 57) (.t 58)), 0, some (56, true), 0⟩, ⟨some 60, (.load 3 (.t 59)), 3, some (56, true), 0⟩, ⟨some 61, (.mv (.t 8)), 3, some (56, true), 0⟩, ⟨some 62, (.bin .neq 3 (.t 60) (.t 61)), 4, some (56, true), 0⟩, ⟨some 63, (.pick (.t 56) (.t 62) (.c (.bool false))), 4, none, 0⟩]) (some [3, 4, 6, 7, 63]))
            (.cond (.t 63)
              (.seq
                (.region false [⟨some 2, (.mv (.c (.bool false))), 4, none, 0⟩] (some [2]))
                .ret)
              .skip))))
      (.region false [⟨some 44, (.mv (.t 7)), 3, none, 0⟩, ⟨some 45, (.bin .add 3 (.t 44) (.c (.int .i64 1))), 3, none, 0⟩, ⟨some 7, (.mv (.t 45)), 3, none, 0⟩] (some [3, 4, 6, 7]))))
def lb_5_8 : AC :=
  (.seq
    (.seq
      (.region false [⟨some 34, (.mv (.t 6)), 3, none, 0⟩, ⟨some 35, (.mv (.t 4)), 23, none, 0⟩, ⟨some 36, (.len 23 (.t 35)), 3, none, 0⟩, ⟨some 37, (.bin .lss 3 (.t 34) (.t 36)), 4, none, 0⟩] (some [3, 4, 6, 37]))
      (.cond (.t 37)
        .skip
        (.exit 0)))
    (.seq
      (.block 1
        (.seq
          (.region false [⟨some 7, (.mv (.c (.int .i64 0))), 3, none, 0⟩] (some [3, 4, 6, 7]))
          (.block 2
            (.loop [3, 4, 6, 7] [24] lb_5_11))))
      (.region false [⟨some 38, (.mv (.t 6)), 3, none, 0⟩, ⟨some 39, (.bin .add 3 (.t 38) (.c (.int .i64 1))), 3, none, 0⟩, ⟨some 6, (.mv (.t 39)), 3, none, 0⟩] (some [3, 4, 6]))))
def fa_5 : FnA := ⟨64, [.t 2],
  (.seq
    (.region false [⟨some 2, (.mv (.c (.bool false))), 4, none, 0⟩] (some [0]))
    (.seq
      (.seq
        (.region false [⟨some 9, (.mv (.t 0)), 22, none, 0⟩, ⟨some 10, (.len 22 (.t 9)), 3, none, 0⟩, ⟨some 11, (.bin .gtr 3 (.t 10) (.c (.int .i64 1048576))), 4, none, 0⟩] (some [0, 11]))
        (.cond (.t 11)
          (.seq
            (.region false [⟨some 2, (.mv (.c (.bool true))), 4, none, 0⟩] (some [2]))
            .ret)
          .skip))
      (.seq
        (.region false [⟨some 13, (.mv (.t 0)), 22, none, 0⟩, ⟨some 14, (.call (.f 30) [(.t 13)]), 39, none, 3⟩, ⟨some 12, (.mv (.t 14)), 39, none, 0⟩, ⟨some 15, (.ext (.t 12) 0), 27, none, 0⟩, ⟨some 16, (.ext (.t 12) 1), 23, none, 0⟩, ⟨some 3, (.alloc 27), 0, none, 0⟩, ⟨none, (.store 27 (.t 3) (.t 15)), 0, none, 0⟩, ⟨some 4, (.mv (.t 16)), 23, none, 0⟩] (some [3, 4]))
        (.seq
          (.region false [⟨some 17, (.load 27 (.t 3)), 27, none, 0⟩, ⟨some 18, (.mv (.t 4)), 23, none, 0⟩, ⟨some 19, (.call (.f 31) [(.t 17), (.t 18)]), 4, none, 3⟩, ⟨some 5, (.mv (.t 19)), 4, none, 0⟩] (some [3, 4, 5]))
          (.seq
            (.seq
              (.region false (gops [⟨some 20, (.mv (.t 5)), 4, none, 0⟩, ⟨some 21, (.load 27 (.t 3)), 27, none, 0⟩, ⟨some 22, (.mv (.t 4)), 23, none, 0⟩, ⟨some 23, (.call (.f 32) [(.t 21), (.t 22)]), 4, none, 3⟩, ⟨some 24, (.bin .neq 4 (.t 20) (.t 23)), 4, none, 0⟩, ⟨some 25, (.mv (.t 24)), 4, none, 0⟩, ⟨some 26, (.mv (.t 5)), 4, some (25, false), 0⟩, ⟨some 27, (.un .not (.t 26)), 4, some (25, false), 0⟩, ⟨some 28, (.pick (.t 25) (.c (.bool true)) (.t 27)), 4, none, 0⟩]) (some [3, 4, 5, 28]))
              (.cond (.t 28)
                (.seq
                  (.region false [⟨some 29, (.mv (.t 5)), 4, none, 0⟩, ⟨some 30, (.load 27 (.t 3)), 27, none, 0⟩, ⟨some 31, (.mv (.t 4)), 23, none, 0⟩, ⟨some 32, (.call (.f 32) [(.t 30), (.t 31)]), 4, none, 3⟩, ⟨some 33, (.bin .eql 4 (.t 29) (.t 32)), 4, none, 0⟩, ⟨some 2, (.mv (.t 33)), 4, none, 0⟩] (some [2]))
                  .ret)
                .skip))
            (.seq
              (.seq
                (.region false [⟨some 6, (.mv (.c (.int .i64 0))), 3, none, 0⟩] (some [3, 4, 6]))
                (.block 0
                  (.loop [3, 4, 6] [24] lb_5_8)))
              (.seq
                (.region false [⟨some 2, (.mv (.c (.bool true))), 4, none, 0⟩] (some [2]))
                .ret)))))))⟩
theorem fok_5 : FnOk Try.prog 5 fa_5 an_5 := ⟨Try.f5, _, Try.func5, rfl, by kernel_rfl, rfl, rfl, by decide, by kernel_rfl⟩
end Go.PS
end

section
-- Contracts: a nucleus that is drawn.
set_option maxRecDepth 100000
set_option linter.unusedVariables false
set_option linter.unusedSimpArgs false
namespace Go.PS
open Go.Proofs

theorem nucM_len {u : List Int} {t : List (List Int)} (v : VL u) : (nucM u t).length ≤ 46656 := by
  have h := List.length_filter_le (fun j => decide (NU u t j)) ((List.range (u.length ^ u.length)).map (dig u.length u.length))
  have h2 := pow6 v.six v.six
  unfold nucM
  simp only [List.length_map, List.length_range] at h
  omega
theorem nucM_pos {u : List Int} {t : List (List Int)} (a : VA u t) : 0 < (nucM u t).length := List.length_pos_of_mem ((mem_nuc a.lat.pos).2 (nu_id a))
/-- A nucleus, most often, and how many numbers have been drawn. -/
noncomputable def nuO (b : List Int) (p : Nat) (u : List Int) (t : List (List Int)) : List Int × Nat :=
  if VA u t then
    (if pkM b (p + 1) 12 = 0 then ((gr (nucM u t) (pkM b p (nucM u t).length).toNat).set (pkM b (p + 2) u.length).toNat (gi [0, 1, -1, 6] (pkM b (p + 3) 4).toNat), p + 4)
     else if pkM b (p + 1) 12 = 1 then (gr (nucM u t) (pkM b p (nucM u t).length).toNat ++ [0], p + 2)
     else (gr (nucM u t) (pkM b p (nucM u t).length).toNat, p + 2))
  else ([0, 1], p)
set_option maxHeartbeats 2000000 in
theorem nucOf_pc (b : List Int) (p : Nat) (u : List Int) (t : List (List Int)) (hb : BB b) (hp : p ≤ 1000000) (hu : Big u.length) (ht : BigR t) (hp2 : p ≤ 990000) : PC Try.prog 114 (.ptr 0 0 0 :: [AL u t]) (some (RS b p)) false (fun r c => imm 5 r = imm 5 (IL (nuO b p u t).1) ∧ c = (RS b ((nuO b p u t).2))) := by
  refine pcW [fm_validAlgebraS, fm_nucleiFromS] [fw_pick, fw_one] fok_114 ?_
  by_cases a : VA u t
  · have v := a.lat
    have h6 := v.six
    have hpos := v.pos
    have l1 : fm_nucleiFromS.look [AL u t, .list 1 []] = some (RL (nucM u t)) := fm_nucleiFromS_look u t a.tf
    have hl := nucM_len (t := t) v
    have hp1 := nucM_pos a
    have r1 := pkM_rng hb (p := p) (by omega) (n := (nucM u t).length) (by omega)
    have l2 := fw_pick_look b p (nucM u t).length hb (by omega) (by omega)
    have hlen : (gr (nucM u t) (pkM b p (nucM u t).length).toNat).length = u.length := ((mem_nuc hpos).1 (gr_mem (by omega))).len
    have r3 := pkM_rng hb (p := p + 2) (by omega) (n := u.length) (by omega)
    have l3 := fw_pick_look b (p + 1) 12 hb (by omega) (by omega)
    have l4 := fw_pick_look b (p + 2) u.length hb (by omega) (by omega)
    have l5 : fw_one.look [.ptr 0 0 0, .list 1 [.int .i64 0, .int .i64 1, .int .i64 (-1), .int .i64 6]] (RS b (p + 3)) = some (I64 (gi [0, 1, -1, 6] (pkM b (p + 3) 4).toNat), RS b (p + 4)) := fw_one_look b (p + 3) [0, 1, -1, 6] hb (by omega) (by unfold Big; simp) (by simp)
    rw [show p + 1 + 1 = p + 2 from rfl] at l3
    rw [show p + 2 + 1 = p + 3 from rfl] at l4
    unfold nuO
    rw [if_pos a]
    generalize hk : pkM b p (nucM u t).length = k at *
    generalize nucM u t = l at *
    generalize hj : gr l k.toNat = j at *
    generalize pkM b (p + 2) u.length = k2 at *
    generalize gi [0, 1, -1, 6] (pkM b (p + 3) 4).toNat = z at *
    rw [← hlen] at l4 r3
    have hjb : j.length ≤ big := le_big (by omega)
    have hjb1 : j.length + 1 ≤ big := le_big (by omega)
    have hset : (ints j).set k2.toNat (I64 z) = ints (j.set k2.toNat z) := by simp [ints, List.map_set]
    have hkn : k2.toNat < j.length := by omega
    by_cases c0 : pkM b (p + 1) 12 = 0
    · simp [fa_114, callOW, callOT, hb, hp, hu, ht, a, l1, l2, l3, l4, l5, r1, r3, hj, c0, hjb, hkn, hset, rg4]
    · by_cases c1 : pkM b (p + 1) 12 = 1
      · simp [fa_114, callOW, callOT, hb, hp, hu, ht, a, l1, l2, l3, r1, hj, c0, c1, hjb, hjb1]
      · simp [fa_114, callOW, callOT, hb, hp, hu, ht, a, l1, l2, l3, r1, hj, c0, c1, hjb]
  · simp [fa_114, nuO, callOW, callOT, hb, hp, hu, ht, a, rg2]
    simp [ints]
noncomputable def fw_nucOf : FamW Try.prog := mkFamW (X := List Int × Nat × List Int × List (List Int)) 114 (fun (b, p, u, t) => (.ptr 0 0 0 :: [AL u t])) (fun (b, p, u, t) => (RS b p)) (fun (b, p, u, t) => (BB b) ∧ (p ≤ 1000000) ∧ (Big u.length) ∧ (BigR t) ∧ (p ≤ 990000)) (fun (b, p, u, t) => IL (nuO b p u t).1) (fun (b, p, u, t) => (RS b ((nuO b p u t).2))) (by
  rintro ⟨b, p, u, t⟩ ⟨hb, hp, hu, ht, hp2⟩
  exact nucOf_pc b p u t hb hp hu ht hp2)
@[simp] theorem fw_nucOf_id : fw_nucOf.id = 114 := rfl
@[simp] theorem fw_nucOf_look (b : List Int) (p : Nat) (u : List Int) (t : List (List Int)) (hb : BB b) (hp : p ≤ 1000000) (hu : Big u.length) (ht : BigR t) (hp2 : p ≤ 990000) : fw_nucOf.look (.ptr 0 0 0 :: [AL u t]) (RS b p) = some (IL (nuO b p u t).1, (RS b ((nuO b p u t).2))) :=
  lookG_of (X := List Int × Nat × List Int × List (List Int)) (args := fun (b, p, u, t) => (.ptr 0 0 0 :: [AL u t])) (cell := fun (b, p, u, t) => (RS b p)) (pre := fun (b, p, u, t) => (BB b) ∧ (p ≤ 1000000) ∧ (Big u.length) ∧ (BigR t) ∧ (p ≤ 990000)) (val := fun (b, p, u, t) => IL (nuO b p u t).1) (cell' := fun (b, p, u, t) => (RS b ((nuO b p u t).2))) (by
  rintro ⟨b, p, u, t⟩ ⟨b', p', u', t'⟩ h h2
  simp at h h2
  try simp only [and_assoc] at h
  obtain ⟨rfl, rfl⟩ := h2
  obtain ⟨rfl, rfl⟩ := h
  exact ⟨rfl, rfl⟩) (b, p, u, t) ⟨hb, hp, hu, ht, hp2⟩
attribute [irreducible] fw_nucOf
theorem nuO_len {b : List Int} (hb : BB b) {p : Nat} (hp : p ≤ 990000) {u : List Int} {t : List (List Int)} : (nuO b p u t).1.length ≤ 100 := by
  unfold nuO
  by_cases a : VA u t
  · rw [if_pos a]
    have v := a.lat
    have h6 := v.six
    have hp1 := nucM_pos a
    have r1 := pkM_rng hb (p := p) (by omega) (n := (nucM u t).length) (by omega)
    have hlen : (gr (nucM u t) (pkM b p (nucM u t).length).toNat).length = u.length := ((mem_nuc v.pos).1 (gr_mem (by omega))).len
    generalize gr (nucM u t) (pkM b p (nucM u t).length).toNat = j at *
    split
    · simp; omega
    · split
      · simp; omega
      · simp; omega
  · rw [if_neg a]; simp
end Go.PS
end

section
-- PRINTED by mkdraw2.py: draws.
set_option maxRecDepth 100000
set_option linter.unusedVariables false
set_option linter.unusedSimpArgs false
namespace Go.PS
open Go.Proofs
set_option maxHeartbeats 4000000 in
theorem nuc_dag {Q : St → Prop} {b : List Int} {p p2 : Nat} {u : List Int} {t : List (List Int)} {y : List Int} (l0 : fw_nucOf.look [.ptr 0 0 0, AL u t] (RS b p) = some (IL y, RS b p2))
    (hQ : ∀ tb g, getT tb 2 = .ptr 16 1 0 → getT tb 3 = IL y → Q ⟨tb, [⟨40, 3, .cells [IL u, RL t]⟩, ⟨4080, 2, .cells (RS b (p2))⟩, ⟨16, 1, .cells [IL u, RL t]⟩], g⟩) : ∀ tb g, getT tb 2 = .ptr 16 1 0 → getT tb 4 = .ptr 4080 2 0 → getT tb 5 = .ptr 40 3 0 → exT (CI inlR) 0 (inlW (CI inlR) [] [fw_someAlg, fw_nucOf] 1 0) ro_30_3 Q ex_30_3_0 ⟨tb, [⟨40, 3, .cells [IL u, RL t]⟩, ⟨4080, 2, .cells (RS b (p))⟩, ⟨16, 1, .cells [.nil, .nil]⟩], g⟩ := by
  have n63 : ∀ tb g, getT tb 2 = .ptr 16 1 0 → getT tb 4 = .ptr 4080 2 0 → getT tb 5 = .ptr 40 3 0 → getT tb 10 = AL u t → getT tb 11 = .ptr 4080 2 0 → getT tb 12 = AL u t → getT tb 13 = IL y → getT tb 3 = IL y → exT (CI inlR) 0 (inlW (CI inlR) [] [fw_someAlg, fw_nucOf] 1 0) ro_30_3 Q ex_30_3_63 ⟨tb, [⟨40, 3, .cells [IL u, RL t]⟩, ⟨4080, 2, .cells (RS b (p2))⟩, ⟨16, 1, .cells [IL u, RL t]⟩], g⟩ := by
    intro tb g e2 e4 e5 e10 e11 e12 e13 e3
    unfold ex_30_3_63
    exact hQ tb g e2 e3
  have n31 : ∀ tb g, getT tb 2 = .ptr 16 1 0 → getT tb 4 = .ptr 4080 2 0 → getT tb 5 = .ptr 40 3 0 → getT tb 10 = AL u t → getT tb 11 = .ptr 4080 2 0 → getT tb 12 = AL u t → getT tb 13 = IL y → exT (CI inlR) 0 (inlW (CI inlR) [] [fw_someAlg, fw_nucOf] 1 0) ro_30_3 Q ex_30_3_31 ⟨tb, [⟨40, 3, .cells [IL u, RL t]⟩, ⟨4080, 2, .cells (RS b (p2))⟩, ⟨16, 1, .cells [IL u, RL t]⟩], g⟩ := by
    intro tb g e2 e4 e5 e10 e11 e12 e13
    unfold ex_30_3_31
    simp only [exT_alt, exT_one, exT_stop, and_true]
    rw [ro_30_3_5]
    simp [callDOWR, l0, e2, e4, e5, e10, e11, e12, e13]
    refine n63 _ _ ?_ ?_ ?_ ?_ ?_ ?_ ?_ ?_ <;> simp [getT, e2, e4, e5, e10, e11, e12, e13]
  have n15 : ∀ tb g, getT tb 2 = .ptr 16 1 0 → getT tb 4 = .ptr 4080 2 0 → getT tb 5 = .ptr 40 3 0 → getT tb 10 = AL u t → getT tb 11 = .ptr 4080 2 0 → getT tb 12 = AL u t → getT tb 13 = IL y → exT (CI inlR) 0 (inlW (CI inlR) [] [fw_someAlg, fw_nucOf] 1 0) ro_30_3 Q ex_30_3_15 ⟨tb, [⟨40, 3, .cells [IL u, RL t]⟩, ⟨4080, 2, .cells (RS b (p2))⟩, ⟨16, 1, .cells [.nil, .nil]⟩], g⟩ := by
    intro tb g e2 e4 e5 e10 e11 e12 e13
    unfold ex_30_3_15
    simp only [exT_alt, exT_one, exT_stop, and_true]
    rw [ro_30_3_4]
    simp [callDOWR, l0, e2, e4, e5, e10, e11, e12, e13]
    refine n31 _ _ ?_ ?_ ?_ ?_ ?_ ?_ ?_ <;> simp [getT, e2, e4, e5, e10, e11, e12, e13]
  have n14 : ∀ tb g, getT tb 2 = .ptr 16 1 0 → getT tb 4 = .ptr 4080 2 0 → getT tb 5 = .ptr 40 3 0 → getT tb 11 = .ptr 4080 2 0 → getT tb 12 = AL u t → getT tb 13 = IL y → exT (CI inlR) 0 (inlW (CI inlR) [] [fw_someAlg, fw_nucOf] 1 0) ro_30_3 Q ex_30_3_14 ⟨tb, [⟨40, 3, .cells [IL u, RL t]⟩, ⟨4080, 2, .cells (RS b (p2))⟩, ⟨16, 1, .cells [.nil, .nil]⟩], g⟩ := by
    intro tb g e2 e4 e5 e11 e12 e13
    unfold ex_30_3_14
    simp only [exT_alt, exT_one, exT_stop, and_true]
    rw [ro_30_3_0]
    simp [callDOWR, l0, e2, e4, e5, e11, e12, e13]
    refine n15 _ _ ?_ ?_ ?_ ?_ ?_ ?_ ?_ <;> simp [getT, e2, e4, e5, e11, e12, e13]
  have n7 : ∀ tb g, getT tb 2 = .ptr 16 1 0 → getT tb 4 = .ptr 4080 2 0 → getT tb 5 = .ptr 40 3 0 → getT tb 10 = AL u t → getT tb 11 = .ptr 4080 2 0 → getT tb 12 = AL u t → exT (CI inlR) 0 (inlW (CI inlR) [] [fw_someAlg, fw_nucOf] 1 0) ro_30_3 Q ex_30_3_7 ⟨tb, [⟨40, 3, .cells [IL u, RL t]⟩, ⟨4080, 2, .cells (RS b (p))⟩, ⟨16, 1, .cells [.nil, .nil]⟩], g⟩ := by
    intro tb g e2 e4 e5 e10 e11 e12
    unfold ex_30_3_7
    simp only [exT_alt, exT_one, exT_stop, and_true]
    rw [ro_30_3_3]
    simp [callDOWR, l0, e2, e4, e5, e10, e11, e12]
    refine n15 _ _ ?_ ?_ ?_ ?_ ?_ ?_ ?_ <;> simp [getT, e2, e4, e5, e10, e11, e12]
  have n6 : ∀ tb g, getT tb 2 = .ptr 16 1 0 → getT tb 4 = .ptr 4080 2 0 → getT tb 5 = .ptr 40 3 0 → getT tb 11 = .ptr 4080 2 0 → getT tb 12 = AL u t → exT (CI inlR) 0 (inlW (CI inlR) [] [fw_someAlg, fw_nucOf] 1 0) ro_30_3 Q ex_30_3_6 ⟨tb, [⟨40, 3, .cells [IL u, RL t]⟩, ⟨4080, 2, .cells (RS b (p))⟩, ⟨16, 1, .cells [.nil, .nil]⟩], g⟩ := by
    intro tb g e2 e4 e5 e11 e12
    unfold ex_30_3_6
    simp only [exT_alt, exT_one, exT_stop, and_true]
    refine ⟨?_, ?_⟩
    · rw [ro_30_3_0]
      simp [callDOWR, l0, e2, e4, e5, e11, e12]
      refine n7 _ _ ?_ ?_ ?_ ?_ ?_ ?_ <;> simp [getT, e2, e4, e5, e11, e12]
    · rw [ro_30_3_3]
      simp [callDOWR, l0, e2, e4, e5, e11, e12]
      refine n14 _ _ ?_ ?_ ?_ ?_ ?_ ?_ <;> simp [getT, e2, e4, e5, e11, e12]
  have n3 : ∀ tb g, getT tb 2 = .ptr 16 1 0 → getT tb 4 = .ptr 4080 2 0 → getT tb 5 = .ptr 40 3 0 → getT tb 10 = AL u t → getT tb 11 = .ptr 4080 2 0 → exT (CI inlR) 0 (inlW (CI inlR) [] [fw_someAlg, fw_nucOf] 1 0) ro_30_3 Q ex_30_3_3 ⟨tb, [⟨40, 3, .cells [IL u, RL t]⟩, ⟨4080, 2, .cells (RS b (p))⟩, ⟨16, 1, .cells [.nil, .nil]⟩], g⟩ := by
    intro tb g e2 e4 e5 e10 e11
    unfold ex_30_3_3
    simp only [exT_alt, exT_one, exT_stop, and_true]
    rw [ro_30_3_2]
    simp [callDOWR, l0, e2, e4, e5, e10, e11]
    refine n7 _ _ ?_ ?_ ?_ ?_ ?_ ?_ <;> simp [getT, e2, e4, e5, e10, e11]
  have n2 : ∀ tb g, getT tb 2 = .ptr 16 1 0 → getT tb 4 = .ptr 4080 2 0 → getT tb 5 = .ptr 40 3 0 → getT tb 11 = .ptr 4080 2 0 → exT (CI inlR) 0 (inlW (CI inlR) [] [fw_someAlg, fw_nucOf] 1 0) ro_30_3 Q ex_30_3_2 ⟨tb, [⟨40, 3, .cells [IL u, RL t]⟩, ⟨4080, 2, .cells (RS b (p))⟩, ⟨16, 1, .cells [.nil, .nil]⟩], g⟩ := by
    intro tb g e2 e4 e5 e11
    unfold ex_30_3_2
    simp only [exT_alt, exT_one, exT_stop, and_true]
    refine ⟨?_, ?_⟩
    · rw [ro_30_3_0]
      simp [callDOWR, l0, e2, e4, e5, e11]
      refine n3 _ _ ?_ ?_ ?_ ?_ ?_ <;> simp [getT, e2, e4, e5, e11]
    · rw [ro_30_3_2]
      simp [callDOWR, l0, e2, e4, e5, e11]
      refine n6 _ _ ?_ ?_ ?_ ?_ ?_ <;> simp [getT, e2, e4, e5, e11]
  have n0 : ∀ tb g, getT tb 2 = .ptr 16 1 0 → getT tb 4 = .ptr 4080 2 0 → getT tb 5 = .ptr 40 3 0 → exT (CI inlR) 0 (inlW (CI inlR) [] [fw_someAlg, fw_nucOf] 1 0) ro_30_3 Q ex_30_3_0 ⟨tb, [⟨40, 3, .cells [IL u, RL t]⟩, ⟨4080, 2, .cells (RS b (p))⟩, ⟨16, 1, .cells [.nil, .nil]⟩], g⟩ := by
    intro tb g e2 e4 e5
    unfold ex_30_3_0
    simp only [exT_alt, exT_one, exT_stop, and_true]
    rw [ro_30_3_1]
    simp [callDOWR, l0, e2, e4, e5]
    refine n2 _ _ ?_ ?_ ?_ ?_ <;> simp [getT, e2, e4, e5]
  exact n0

theorem drNuI_pc (c : List Int) (hc : Byt c) (hl : Big c.length) : PC Try.prog 30 [BL c] none false (fun r _ => r = .tup [AL (saM (rdB c) 0).1.1 (saM (rdB c) 0).1.2, IL (nuO (rdB c) (saM (rdB c) 0).2 (saM (rdB c) 0).1.1 (saM (rdB c) 0).1.2).1]) := by
  have hl := hl.le
  have hb := rdB_ok hc
  have l1 := fw_someAlg_look (rdB c) 0 hb (by omega) (by omega)
  obtain ⟨g, q⟩ := saM_few hb (p := 0) (by omega)
  have hu := g.big
  have ht := g.bigR
  refine pcR [] [fw_someAlg, fw_nucOf] fok_30 ?_
  generalize saM (rdB c) 0 = A at *
  obtain ⟨⟨u, t⟩, p1⟩ := A
  dsimp only at *
  have l3 := fw_nucOf_look (rdB c) p1 u t hb (by omega) hu ht (by omega)
  generalize nuO (rdB c) p1 u t = z at *
  obtain ⟨z, p2⟩ := z
  dsimp only at *
  simp [fa_30]
  refine newR hl ?_
  simp [callOWR, l1]
  refine cutE (α := Unit) (fun _ => [(2, .ptr 16 1 0), (3, IL z)]) (fun _ => [⟨16, 1, .cells [IL u, RL t]⟩]) ?_ (fun _ g0 => ?_)
  · refine nuc_dag (p := p1) l3 (fun tb g q2 q3 => ?_) _ _ (by simp) (by simp) (by simp)
    simp [q2, q3]
  · simp
noncomputable def fm_drNuI : Fam Try.prog := mkFam (X := List Int) 30 false (fun c => [BL c]) (fun c => (Byt c) ∧ (Big c.length)) (fun c => .tup [AL (saM (rdB c) 0).1.1 (saM (rdB c) 0).1.2, IL (nuO (rdB c) (saM (rdB c) 0).2 (saM (rdB c) 0).1.1 (saM (rdB c) 0).1.2).1]) (by
  rintro c ⟨hc, hl⟩
  exact drNuI_pc c hc hl)
@[simp] theorem fm_drNuI_id : fm_drNuI.id = 30 := rfl
@[simp] theorem fm_drNuI_fresh : fm_drNuI.fresh = false := rfl
@[simp] theorem fm_drNuI_look (c : List Int) (hc : Byt c) (hl : Big c.length) : fm_drNuI.look [BL c] = some (.tup [AL (saM (rdB c) 0).1.1 (saM (rdB c) 0).1.2, IL (nuO (rdB c) (saM (rdB c) 0).2 (saM (rdB c) 0).1.1 (saM (rdB c) 0).1.2).1]) :=
  lookF_of (X := List Int) (args := fun c => [BL c]) (pre := fun c => (Byt c) ∧ (Big c.length)) (val := fun c => .tup [AL (saM (rdB c) 0).1.1 (saM (rdB c) 0).1.2, IL (nuO (rdB c) (saM (rdB c) 0).2 (saM (rdB c) 0).1.1 (saM (rdB c) 0).1.2).1]) (by
  intro c c' h
  simp at h
  subst h
  rfl) c ⟨hc, hl⟩
attribute [irreducible] fm_drNuI
end Go.PS
end

section
-- PRINTED by gen.py: clean texts of functions, and their tie to the program.
set_option maxRecDepth 100000
namespace Go.PS
open Go.Proofs
end Go.PS
end

section
-- Contracts: lists of the laws.
set_option maxRecDepth 100000
set_option linter.unusedVariables false
set_option linter.unusedSimpArgs false
namespace Go.PS
open Go.Proofs

end Go.PS
end

section
-- PRINTED by gen.py: clean texts of functions, and their tie to the program.
set_option maxRecDepth 100000
namespace Go.PS
open Go.Proofs
/-- impl.IsNucleus -/
def an_31 : Ann := ⟨[(1, 1, 3), (1, 5, 3)], [(0, [1, 2]), (1, [4])], [], []⟩
def fa_31 : FnA := ⟨12, [.t 4],
  (.seq
    (.region false [⟨some 2, (.box 27 (.t 0)), 0, none, 0⟩, ⟨some 4, (.mv (.c (.bool false))), 4, none, 0⟩] (some [1, 2]))
    (.seq
      (.region false (gops [⟨some 5, (.load 27 (.t 2)), 27, none, 0⟩, ⟨some 6, (.call (.f 23) [(.t 5)]), 4, none, 3⟩, ⟨some 7, (.mv (.t 6)), 4, none, 0⟩, ⟨some 8, (.load 27 (.t 2)), 27, some (7, true), 0⟩, ⟨some 9, (.mv (.t 1)), 23, some (7, true), 0⟩, ⟨some 10, (.call (.f 115) [(.t 8), (.t 9)]), 4, some (7, true), 3⟩, ⟨some 11, (.pick (.t 7) (.t 10) (.c (.bool false))), 4, none, 0⟩, ⟨some 4, (.mv (.t 11)), 4, none, 0⟩]) (some [4]))
      .ret))⟩
theorem fok_31 : FnOk Try.prog 31 fa_31 an_31 := ⟨Try.f31, _, Try.func31, rfl, by kernel_rfl, rfl, rfl, by decide, by kernel_rfl⟩
end Go.PS
end

section
-- Contracts of the law of nuclei.
set_option maxRecDepth 100000
set_option linter.unusedVariables false
set_option linter.unusedSimpArgs false
namespace Go.PS
open Go.Proofs

theorem IsNucI_pc (u : List Int) (t : List (List Int)) (j : List Int) (hu : Big u.length) (ht : BigR t) (hj : Big j.length) : PC Try.prog 31 [AL u t, IL j] none true (fun r _ => r = .bool (decide (VA u t) && decide (NU u t j))) := by
  refine pcT [fm_validAlgebraI, fm_isNucI] fok_31 ?_
  by_cases a : VA u t
  · simp [gops, fa_31, hu, ht, hj, a, a.tf]
  · simp [gops, fa_31, hu, ht, a]
noncomputable def fm_IsNucI : Fam Try.prog := mkFam (X := List Int × List (List Int) × List Int) 31 true (fun (u, t, j) => [AL u t, IL j]) (fun (u, t, j) => (Big u.length) ∧ (BigR t) ∧ (Big j.length)) (fun (u, t, j) => .bool (decide (VA u t) && decide (NU u t j))) (by
  rintro ⟨u, t, j⟩ ⟨hu, ht, hj⟩
  exact IsNucI_pc u t j hu ht hj)
@[simp] theorem fm_IsNucI_id : fm_IsNucI.id = 31 := rfl
@[simp] theorem fm_IsNucI_fresh : fm_IsNucI.fresh = true := rfl
@[simp] theorem fm_IsNucI_look (u : List Int) (t : List (List Int)) (j : List Int) (hu : Big u.length) (ht : BigR t) (hj : Big j.length) : fm_IsNucI.look [AL u t, IL j] = some (.bool (decide (VA u t) && decide (NU u t j))) :=
  lookF_of (X := List Int × List (List Int) × List Int) (args := fun (u, t, j) => [AL u t, IL j]) (pre := fun (u, t, j) => (Big u.length) ∧ (BigR t) ∧ (Big j.length)) (val := fun (u, t, j) => .bool (decide (VA u t) && decide (NU u t j))) (by
  rintro ⟨u, t, j⟩ ⟨u', t', j'⟩ h
  simp at h
  try simp only [and_assoc] at h
  obtain ⟨rfl, rfl, rfl⟩ := h
  rfl) (u, t, j) ⟨hu, ht, hj⟩
attribute [irreducible] fm_IsNucI
end Go.PS
end

section
-- Nuclei keep what is implied, in plain Lean.
set_option linter.unusedVariables false
set_option linter.unusedSimpArgs false
namespace Go.PS
section
variable {u : List Int} {t : List (List Int)} {j : List Int} {x y z : Nat}
abbrev jn (j : List Int) (x : Nat) : Nat := (gi j x).toNat
theorem NU.lt (h : NU u t j) (hx : x < u.length) : jn j x < u.length := by have := h.rng x hx; show (gi j x).toNat < _; omega
theorem NU.int (h : NU u t j) (hx : x < u.length) : gi j x = (jn j x : Nat) := by have := h.rng x hx; show gi j x = ((gi j x).toNat : Int); omega
theorem NU.ge (h : NU u t j) (hx : x < u.length) : tb u x (jn j x) = true := (h.up x hx).1
theorem NU.mono (h : NU u t j) (hx : x < u.length) (hy : y < u.length) (hl : tb u x y = true) : tb u (jn j x) (jn j y) = true := (h.pr x hx y hy).1 hl
theorem NU.mul (h : NU u t j) (hx : x < u.length) (hy : y < u.length) : tb u (tn t (jn j x) (jn j y)) (jn j (tn t x y)) = true := (h.pr x hx y hy).2
theorem nu_im (a : VA u t) (h : NU u t j) (hx : x < u.length) (hy : y < u.length) (e : jn j y = y) : jn j (im u t x y) = im u t x y := by
  have hi := a.im_lt (x := x) (y := y)
  have hj := h.lt hi
  refine a.lat.eq hj hi ?_ (h.ge hi)
  rw [← a.res hx hy hj]
  have h1 := a.monol hj hx (h.lt hx) (h.ge hx)
  have h2 := h.mul hx hi
  have h3 := h.mono (a.tn_lt hx hi) hy (a.mp hx hy)
  rw [e] at h3
  exact a.lat.tr (a.tn_lt hx hj) (h.lt (a.tn_lt hx hi)) hy (a.lat.tr (a.tn_lt hx hj) (a.tn_lt (h.lt hx) hj) (h.lt (a.tn_lt hx hi)) h1 h2) h3
end
end Go.PS
end

section
-- PRINTED by gen.py: clean texts of functions, and their tie to the program.
set_option maxRecDepth 100000
namespace Go.PS
open Go.Proofs
/-- spec.has -/
def an_125 : Ann := ⟨[(1, 1, 3), (1, 8, 3), (1, 16, 3)], [(0, [1, 2, 3]), (1, [6])], [], []⟩
def fa_125 : FnA := ⟨25, [.t 6],
  (.seq
    (.region false [⟨some 3, (.box 27 (.t 0)), 0, none, 0⟩, ⟨some 6, (.mv (.c (.bool false))), 4, none, 0⟩] (some [1, 2, 3]))
    (.seq
      (.region false (gops (seg [2, 3, 16] [⟨some 7, (.load 27 (.t 3)), 27, none, 0⟩, ⟨some 8, (.call (.f 111) [(.t 7)]), 4, none, 3⟩, ⟨some 9, (.mv (.t 8)), 4, none, 0⟩, ⟨some 10, (.mv (.t 1)), 3, some (9, true), 0⟩, ⟨some 11, (.faddr 27 (.t 3) 0), 0, some (9, true), 0⟩, ⟨some 12, (.load 23 (.t 11)), 23, some (9, true), 0⟩, ⟨some 13, (.len 23 (.t 12)), 3, some (9, true), 0⟩, ⟨some 14, (.bin .sub 3 (.t 13) (.c (.int .i64 1))), 3, some (9, true), 0⟩, ⟨some 15, (.call (.f 128) [(.t 10), (.c (.int .i64 0)), (.t 14)]), 4, some (9, true), 3⟩, ⟨some 16, (.pick (.t 9) (.t 15) (.c (.bool false))), 4, none, 0⟩]
      [⟨some 17, (.mv (.t 16)), 4, none, 0⟩, ⟨some 18, (.mv (.t 2)), 3, some (17, true), 0⟩, ⟨some 19, (.faddr 27 (.t 3) 0), 0, some (17, true), 0⟩, ⟨some 20, (.load 23 (.t 19)), 23, some (17, true), 0⟩, ⟨some 21, (.len 23 (.t 20)), 3, some (17, true), 0⟩, ⟨some 22, (.bin .sub 3 (.t 21) (.c (.int .i64 1))), 3, some (17, true), 0⟩, ⟨some 23, (.call (.f 128) [(.t 18), (.c (.int .i64 0)), (.t 22)]), 4, some (17, true), 3⟩, ⟨some 24, (.pick (.t 17) (.t 23) (.c (.bool false))), 4, none, 0⟩, ⟨some 6, (.mv (.t 24)), 4, none, 0⟩] [6] (by decide))) (some [6]))
      .ret))⟩
theorem fok_125 : FnOk Try.prog 125 fa_125 an_125 := ⟨Try.f125, _, Try.func125, rfl, by kernel_rfl, rfl, rfl, by decide, by kernel_rfl⟩
/-- impl.ImplyOf -/
def an_33 : Ann := ⟨[(1, 4, 3), (3, 3, 3)], [(0, [1, 2, 3]), (1, [1, 2, 3, 12]), (2, [6]), (3, [6])], [], []⟩
def fa_33 : FnA := ⟨17, [.t 6],
  (.seq
    (.region false [⟨some 3, (.box 27 (.t 0)), 0, none, 0⟩, ⟨some 6, (.mv (.c (.int .i64 0))), 3, none, 0⟩] (some [1, 2, 3]))
    (.seq
      (.seq
        (.region false [⟨some 7, (.load 27 (.t 3)), 27, none, 0⟩, ⟨some 8, (.mv (.t 1)), 3, none, 0⟩, ⟨some 9, (.mv (.t 2)), 3, none, 0⟩, ⟨some 10, (.bslice 23 2 [(0, (.t 8)), (1, (.t 9))]), 23, none, 0⟩, ⟨some 11, (.call (.f 117) [(.t 7), (.t 10)]), 4, none, 3⟩, ⟨some 12, (.un .not (.t 11)), 4, none, 0⟩] (some [1, 2, 3, 12]))
        (.cond (.t 12)
          (.seq
            (.region false [⟨some 6, (.mv (.c (.int .i64 (-1)))), 3, none, 0⟩] (some [6]))
            .ret)
          .skip))
      (.seq
        (.region false [⟨some 13, (.load 27 (.t 3)), 27, none, 0⟩, ⟨some 14, (.mv (.t 1)), 3, none, 0⟩, ⟨some 15, (.mv (.t 2)), 3, none, 0⟩, ⟨some 16, (.call (.f 118) [(.t 13), (.t 14), (.t 15)]), 3, none, 3⟩, ⟨some 6, (.mv (.t 16)), 3, none, 0⟩] (some [6]))
        .ret)))⟩
theorem fok_33 : FnOk Try.prog 33 fa_33 an_33 := ⟨Try.f33, _, Try.func33, rfl, by kernel_rfl, rfl, rfl, by decide, by kernel_rfl⟩
end Go.PS
end

section
-- Contracts: implications, nearness, powers; orders, meets and joins, of any numbers.
set_option maxRecDepth 100000
set_option linter.unusedVariables false
set_option linter.unusedSimpArgs false
namespace Go.PS
open Go.Proofs

/-- Is a number an element? -/
def inE (n : Nat) (x : Int) : Bool := decide (0 ≤ x ∧ x < n)
theorem inE_iff {n : Nat} {x : Int} : inE n x = true ↔ 0 ≤ x ∧ x.toNat < n := by simp [inE]; omega
theorem inE_rng {n : Nat} {x : Int} : (decide (0 ≤ x) && decide (x ≤ (n : Int) - 1)) = inE n x := by
  rw [Bool.eq_iff_iff]; simp [inE]; omega
theorem allE_two {n : Nat} {x y : Int} : decide (allE [x, y] n) = (inE n x && inE n y) := by
  rw [Bool.eq_iff_iff]; simp [allE, inE]
theorem hasS_pc (u : List Int) (t : List (List Int)) (x y : Int) (hu : Big u.length) (ht : BigR t) : PC Try.prog 125 [AL u t, I64 x, I64 y] none true (fun r _ => r = .bool (decide (VA u t) && (inE u.length x && inE u.length y))) := by
  have hl := hu.le
  have w1 : IntKind.i64.wrap ((u.length : Int) - 1) = u.length - 1 := wrap64 (by omega) (by omega)
  refine pcT [fm_validAlgebraS, fm_inRange] fok_125 ?_
  simp [fa_125]
  refine cutW (tabK_mono _) [(6, .bool (decide (VA u t) && (inE u.length x && inE u.length y)))] (by
    rw [← inE_rng, ← inE_rng]
    cases hb : decide (VA u t)
    · simp [hu, ht, hb]
    · cases hb2 : (decide (0 ≤ x) && decide (x ≤ (u.length : Int) - 1))
      · simp [hu, ht, hb, w1, hb2]
      · simp [hu, ht, hb, w1, hb2]) ?_
  simp
noncomputable def fm_hasS : Fam Try.prog := mkFam (X := List Int × List (List Int) × Int × Int) 125 true (fun (u, t, x, y) => [AL u t, I64 x, I64 y]) (fun (u, t, x, y) => (Big u.length) ∧ (BigR t)) (fun (u, t, x, y) => .bool (decide (VA u t) && (inE u.length x && inE u.length y))) (by
  rintro ⟨u, t, x, y⟩ ⟨hu, ht⟩
  exact hasS_pc u t x y hu ht)
@[simp] theorem fm_hasS_id : fm_hasS.id = 125 := rfl
@[simp] theorem fm_hasS_fresh : fm_hasS.fresh = true := rfl
@[simp] theorem fm_hasS_look (u : List Int) (t : List (List Int)) (x y : Int) (hu : Big u.length) (ht : BigR t) : fm_hasS.look [AL u t, I64 x, I64 y] = some (.bool (decide (VA u t) && (inE u.length x && inE u.length y))) :=
  lookF_of (X := List Int × List (List Int) × Int × Int) (args := fun (u, t, x, y) => [AL u t, I64 x, I64 y]) (pre := fun (u, t, x, y) => (Big u.length) ∧ (BigR t)) (val := fun (u, t, x, y) => .bool (decide (VA u t) && (inE u.length x && inE u.length y))) (by
  rintro ⟨u, t, x, y⟩ ⟨u', t', x', y'⟩ h
  simp at h
  try simp only [and_assoc] at h
  obtain ⟨rfl, rfl, rfl, rfl⟩ := h
  rfl) (u, t, x, y) ⟨hu, ht⟩
attribute [irreducible] fm_hasS

noncomputable def ImM (u : List Int) (t : List (List Int)) (x y : Int) : Int := if decide (VA u t) && (inE u.length x && inE u.length y) then implyM u t x.toNat y.toNat else -1
theorem ImplyI_pc (u : List Int) (t : List (List Int)) (x y : Int) (hu : Big u.length) (ht : BigR t) : PC Try.prog 33 [AL u t, I64 x, I64 y] none true (fun r _ => r = I64 (ImM u t x y)) := by
  have l1 : fm_atI.look [AL u t, .list 1 [.int .i64 x, .int .i64 y]] = some (.bool (decide (VA u t) && decide (allE [x, y] u.length))) := fm_atI_look u t [x, y] hu ht (by unfold Big; simp)
  rw [allE_two] at l1
  refine pcT [fm_atI, fm_implyI] fok_33 ?_
  unfold ImM
  cases hb : (decide (VA u t) && (inE u.length x && inE u.length y))
  · rw [hb] at l1
    simp [fa_33, l1, show List.range 2 = [0, 1] from rfl]
  · have h := hb
    rw [hb] at l1
    simp only [Bool.and_eq_true, decide_eq_true_eq, inE_iff] at h
    simp [fa_33, l1, h.1.tf, h.2, show List.range 2 = [0, 1] from rfl]
noncomputable def fm_ImplyI : Fam Try.prog := mkFam (X := List Int × List (List Int) × Int × Int) 33 true (fun (u, t, x, y) => [AL u t, I64 x, I64 y]) (fun (u, t, x, y) => (Big u.length) ∧ (BigR t)) (fun (u, t, x, y) => I64 (ImM u t x y)) (by
  rintro ⟨u, t, x, y⟩ ⟨hu, ht⟩
  exact ImplyI_pc u t x y hu ht)
@[simp] theorem fm_ImplyI_id : fm_ImplyI.id = 33 := rfl
@[simp] theorem fm_ImplyI_fresh : fm_ImplyI.fresh = true := rfl
@[simp] theorem fm_ImplyI_look (u : List Int) (t : List (List Int)) (x y : Int) (hu : Big u.length) (ht : BigR t) : fm_ImplyI.look [AL u t, I64 x, I64 y] = some (I64 (ImM u t x y)) :=
  lookF_of (X := List Int × List (List Int) × Int × Int) (args := fun (u, t, x, y) => [AL u t, I64 x, I64 y]) (pre := fun (u, t, x, y) => (Big u.length) ∧ (BigR t)) (val := fun (u, t, x, y) => I64 (ImM u t x y)) (by
  rintro ⟨u, t, x, y⟩ ⟨u', t', x', y'⟩ h
  simp at h
  try simp only [and_assoc] at h
  obtain ⟨rfl, rfl, rfl, rfl⟩ := h
  rfl) (u, t, x, y) ⟨hu, ht⟩
attribute [irreducible] fm_ImplyI
end Go.PS
end

section
-- Draws of one algebra.
set_option maxRecDepth 100000
set_option linter.unusedVariables false
set_option linter.unusedSimpArgs false
namespace Go.PS
open Go.Proofs


end Go.PS
end

section
-- What the laws of elements have in common; the law of products.
set_option maxRecDepth 100000
set_option linter.unusedVariables false
set_option linter.unusedSimpArgs false
namespace Go.PS
open Go.Proofs

section
variable {u : List Int} {t : List (List Int)} {x y z : Nat}
theorem inE_nat (h : x < u.length) : inE u.length (x : Int) = true := by simp [inE, h]
theorem ImM_nat (a : VA u t) (hx : x < u.length) (hy : y < u.length) : ImM u t x y = (im u t x y : Nat) := by simp [ImM, a, inE_nat hx, inE_nat hy, ← a.im_int]
end
end Go.PS
end

section
-- The law of nuclei that keep what is implied.
set_option maxRecDepth 100000
set_option linter.unusedVariables false
set_option linter.unusedSimpArgs false
namespace Go.PS
open Go.Proofs

theorem IsNucSS_pc (u : List Int) (t : List (List Int)) (j : List Int) (hu : Big u.length) (ht : BigR t) (hj : Big j.length) : PC Try.prog 32 [AL u t, IL j] none true (fun r _ => r = .bool (decide (VA u t) && decide (NU u t j))) := by
  refine pcT [fm_validAlgebraS, fm_isNucS] fok_32 ?_
  by_cases a : VA u t
  · simp [gops, fa_32, hu, ht, hj, a, a.tf]
  · simp [gops, fa_32, hu, ht, a]
noncomputable def fm_IsNucSS : Fam Try.prog := mkFam (X := List Int × List (List Int) × List Int) 32 true (fun (u, t, j) => [AL u t, IL j]) (fun (u, t, j) => (Big u.length) ∧ (BigR t) ∧ (Big j.length)) (fun (u, t, j) => .bool (decide (VA u t) && decide (NU u t j))) (by
  rintro ⟨u, t, j⟩ ⟨hu, ht, hj⟩
  exact IsNucSS_pc u t j hu ht hj)
@[simp] theorem fm_IsNucSS_id : fm_IsNucSS.id = 32 := rfl
@[simp] theorem fm_IsNucSS_fresh : fm_IsNucSS.fresh = true := rfl
@[simp] theorem fm_IsNucSS_look (u : List Int) (t : List (List Int)) (j : List Int) (hu : Big u.length) (ht : BigR t) (hj : Big j.length) : fm_IsNucSS.look [AL u t, IL j] = some (.bool (decide (VA u t) && decide (NU u t j))) :=
  lookF_of (X := List Int × List (List Int) × List Int) (args := fun (u, t, j) => [AL u t, IL j]) (pre := fun (u, t, j) => (Big u.length) ∧ (BigR t) ∧ (Big j.length)) (val := fun (u, t, j) => .bool (decide (VA u t) && decide (NU u t j))) (by
  rintro ⟨u, t, j⟩ ⟨u', t', j'⟩ h
  simp at h
  try simp only [and_assoc] at h
  obtain ⟨rfl, rfl, rfl⟩ := h
  rfl) (u, t, j) ⟨hu, ht, hj⟩
attribute [irreducible] fm_IsNucSS
set_option maxHeartbeats 2000000 in
theorem FnIsNucleus_pc (c : List Int) (hl : Hu c.length) (hc : Byt c) : PC Try.prog 5 [BL c] none true (fun r _ => r = .bool true) := by
  have hl' := hl.le
  refine pcT [fm_drNuI, fm_IsNucI, fm_IsNucSS, fm_ImplyI] fok_5 ?_
  rcases Nat.lt_or_ge 1048576 c.length with q | q
  · simp [fa_5, show ((1048576 : Int) < c.length) by omega]
  · have hbig : Big c.length := by unfold Big; omega
    have l1 := fm_drNuI_look c hc hbig
    obtain ⟨g, hg⟩ := saM_few (rdB_ok hc) (p := 0) (by omega)
    have hu := g.big
    have ht := g.bigR
    generalize saM (rdB c) 0 = A at *
    obtain ⟨⟨u, t⟩, p1⟩ := A
    dsimp only at *
    have hj := nuO_len (rdB_ok hc) (p := p1) (u := u) (t := t) (by omega)
    generalize (nuO (rdB c) p1 u t).1 = j at *
    have hjb : Big j.length := by unfold Big; omega
    have hul := hu.le
    simp [fa_5, show ¬ ((1048576 : Int) < c.length) by omega, show ((c.length : Int) ≤ 1048576) by omega, l1, hu, ht, hjb]
    refine cutW (tabK_mono _) [(28, .bool (!(decide (VA u t) && decide (NU u t j))))] (by simp [hu, ht, hjb]) ?_
    simp [hu, ht, hjb]
    intro a h
    have hjl := h.len
    refine loopA (tabK_mono _) j.length (fun i => [(6, I64 i)]) (fun _ => [⟨24, 1, .cells [IL u, RL t]⟩]) (fun _ => True) (by simp) (by simp) (fun x g hx _ => ?_)
    simp [lb_5_8, wrap_succ hx (show j.length ≤ 1099511627776 by omega)]
    intro h2
    refine loopA (tabK_mono _) j.length (fun i => [(7, I64 i)]) (fun _ => [⟨24, 1, .cells [IL u, RL t]⟩]) (fun _ => True) (by simp) (by simp) (fun y g2 hy _ => ?_)
    simp [lb_5_11, wrap_succ hy (show j.length ≤ 1099511627776 by omega)]
    refine ⟨fun h3 => ?_, fun h3 => ?_⟩
    · have k2 : x < u.length := by omega
      have k3 : y < u.length := by omega
      have m1 := fm_ImplyI_look u t x y hu ht
      rw [ImM_nat a k2 k3] at m1
      have hi := a.im_lt (x := x) (y := y)
      have key : gi j y = y → gi j (im u t x y) = (im u t x y : Nat) := fun e => by
        rw [h.int hi, nu_im a h k2 k3 (by show (gi j y).toNat = y; rw [e]; rfl)]
      generalize im u t x y = z at *
      simp [m1]
      refine cutW (tabK_mono _) [(63, .bool false)] (by
        by_cases e : gi j y = y
        · simp [e, h3, key e, show z < j.length by omega]
        · simp [e, h3]) ?_
      simp [h3, wrap_succ hy (show j.length ≤ 1099511627776 by omega)]
    · simp [h2, wrap_succ hx (show j.length ≤ 1099511627776 by omega)]
end Go.PS
end
