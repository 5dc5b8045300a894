/- Part 1 of what the last text proves: Nuclei are found: the law holds at every input. -/
import Derived.Test.YteegdecbdobdpaaQg5
section
-- PRINTED by gen.py: clean texts of functions, and their tie to the program.
set_option maxRecDepth 100000
namespace Go.PS
open Go.Proofs
/-- spec.assignments -/
def an_159 : Ann := ⟨[(5, 0, 1), (12, 1, 1), (12, 10, 2), (13, 1, 2)], [(0, [0]), (1, [0, 3]), (2, [0, 3, 4]), (3, [0, 3, 4, 11]), (5, [0, 3, 4, 5]), (6, [0, 3, 4, 5, 6]), (7, [0, 3, 4, 5, 6, 18]), (9, [0, 3, 4, 5, 6, 7]), (10, [0, 3, 4, 5, 6, 7, 23]), (12, [0, 3, 4, 5, 6, 7]), (11, [0, 3, 4, 5, 6, 7]), (8, [0, 3, 4, 5, 6]), (13, [0, 3, 4]), (4, [0, 3, 4]), (14, [2])], [(3, [0, 3, 4], [112, 296]), (7, [0, 3, 4, 5, 6], [112, 296]), (10, [0, 3, 4, 5, 6, 7], [112, 296])], []⟩
def lb_159_10 : AC :=
  (.seq
    (.seq
      (.region false [⟨some 21, (.mv (.t 7)), 3, none, 0⟩, ⟨some 22, (.mv (.t 0)), 3, none, 0⟩, ⟨some 23, (.bin .lss 3 (.t 21) (.t 22)), 4, none, 0⟩] (some [0, 3, 4, 5, 6, 7, 23]))
      (.cond (.t 23)
        .skip
        (.exit 4)))
    (.seq
      (.block 5
        (.region false [⟨some 26, (.mv (.t 5)), 23, none, 0⟩, ⟨some 27, (.bslice 22 0 []), 22, none, 1⟩, ⟨some 28, (.mv (.t 3)), 23, none, 0⟩, ⟨some 29, (.mv (.t 6)), 3, none, 0⟩, ⟨some 30, (.iaddr 23 (.t 28) (.t 29)), 0, none, 0⟩, ⟨some 31, (.load 22 (.t 30)), 22, none, 0⟩, ⟨some 32, (.app 22 22 (.t 27) (.t 31)), 22, none, 0⟩, ⟨some 33, (.mv (.t 7)), 3, none, 0⟩, ⟨some 34, (.bslice 22 1 [(0, (.t 33))]), 22, none, 0⟩, ⟨some 35, (.app 22 22 (.t 32) (.t 34)), 22, none, 0⟩, ⟨some 36, (.bslice 23 1 [(0, (.t 35))]), 23, none, 2⟩, ⟨some 37, (.app 23 23 (.t 26) (.t 36)), 23, none, 0⟩, ⟨some 5, (.mv (.t 37)), 23, none, 0⟩] (some [0, 3, 4, 5, 6, 7])))
      (.region false [⟨some 24, (.mv (.t 7)), 3, none, 0⟩, ⟨some 25, (.bin .add 3 (.t 24) (.c (.int .i64 1))), 3, none, 0⟩, ⟨some 7, (.mv (.t 25)), 3, none, 0⟩] (some [0, 3, 4, 5, 6, 7]))))
def lb_159_7 : AC :=
  (.seq
    (.seq
      (.region false [⟨some 15, (.mv (.t 6)), 3, none, 0⟩, ⟨some 16, (.mv (.t 3)), 23, none, 0⟩, ⟨some 17, (.len 23 (.t 16)), 3, none, 0⟩, ⟨some 18, (.bin .lss 3 (.t 15) (.t 17)), 4, none, 0⟩] (some [0, 3, 4, 5, 6, 18]))
      (.cond (.t 18)
        .skip
        (.exit 2)))
    (.seq
      (.block 3
        (.seq
          (.region false [⟨some 7, (.mv (.c (.int .i64 0))), 3, none, 0⟩] (some [0, 3, 4, 5, 6, 7]))
          (.block 4
            (.loop [0, 3, 4, 5, 6, 7] [112, 296] lb_159_10))))
      (.region false [⟨some 19, (.mv (.t 6)), 3, none, 0⟩, ⟨some 20, (.bin .add 3 (.t 19) (.c (.int .i64 1))), 3, none, 0⟩, ⟨some 6, (.mv (.t 20)), 3, none, 0⟩] (some [0, 3, 4, 5, 6]))))
def lb_159_3 : AC :=
  (.seq
    (.seq
      (.region false [⟨some 10, (.mv (.t 4)), 3, none, 0⟩, ⟨some 11, (.bin .lss 3 (.t 10) (.c (.int .i64 3))), 4, none, 0⟩] (some [0, 3, 4, 11]))
      (.cond (.t 11)
        .skip
        (.exit 0)))
    (.seq
      (.block 1
        (.seq
          (.region false [⟨some 14, (.bslice 23 0 []), 23, none, 1⟩, ⟨some 5, (.mv (.t 14)), 23, none, 0⟩] (some [0, 3, 4, 5]))
          (.seq
            (.seq
              (.region false [⟨some 6, (.mv (.c (.int .i64 0))), 3, none, 0⟩] (some [0, 3, 4, 5, 6]))
              (.block 2
                (.loop [0, 3, 4, 5, 6] [112, 296] lb_159_7)))
            (.region false [⟨some 38, (.mv (.t 5)), 23, none, 0⟩, ⟨some 3, (.mv (.t 38)), 23, none, 2⟩] (some [0, 3, 4])))))
      (.region false [⟨some 12, (.mv (.t 4)), 3, none, 0⟩, ⟨some 13, (.bin .add 3 (.t 12) (.c (.int .i64 1))), 3, none, 0⟩, ⟨some 4, (.mv (.t 13)), 3, none, 0⟩] (some [0, 3, 4]))))
def fa_159 : FnA := ⟨40, [.t 2],
  (.seq
    (.region false [⟨some 2, (.mv (.c .nil)), 23, none, 0⟩] (some [0]))
    (.seq
      (.region false [⟨some 8, (.bslice 22 0 []), 22, none, 0⟩, ⟨some 9, (.bslice 23 1 [(0, (.t 8))]), 23, none, 0⟩, ⟨some 3, (.mv (.t 9)), 23, none, 0⟩] (some [0, 3]))
      (.seq
        (.seq
          (.region false [⟨some 4, (.mv (.c (.int .i64 0))), 3, none, 0⟩] (some [0, 3, 4]))
          (.block 0
            (.loop [0, 3, 4] [112, 296] lb_159_3)))
        (.seq
          (.region false [⟨some 39, (.mv (.t 3)), 23, none, 0⟩, ⟨some 2, (.mv (.t 39)), 23, none, 0⟩] (some [2]))
          .ret))))⟩
theorem fok_159 : FnOk Try.prog 159 fa_159 an_159 := ⟨Try.f159, _, Try.func159, rfl, by kernel_rfl, rfl, rfl, by decide, by kernel_rfl⟩
/-- spec.pow -/
def an_124 : Ann := ⟨[], [(0, [1, 2, 3]), (1, [1, 2, 3, 7]), (2, [1, 2, 3, 7, 13]), (4, [1, 2, 3, 7]), (3, [1, 2, 3, 7]), (5, [6])], [(2, [1, 2, 3, 7], [])], []⟩
def lb_124_2 : AC :=
  (.seq
    (.seq
      (.region false [⟨some 12, (.mv (.t 2)), 3, none, 0⟩, ⟨some 13, (.bin .gtr 3 (.t 12) (.c (.int .i64 0))), 4, none, 0⟩] (some [1, 2, 3, 7, 13]))
      (.cond (.t 13)
        .skip
        (.exit 0)))
    (.seq
      (.block 1
        (.region false [⟨some 16, (.faddr 28 (.t 3) 1), 0, none, 0⟩, ⟨some 17, (.load 23 (.t 16)), 23, none, 0⟩, ⟨some 18, (.mv (.t 7)), 3, none, 0⟩, ⟨some 19, (.iaddr 23 (.t 17) (.t 18)), 0, none, 0⟩, ⟨some 20, (.load 22 (.t 19)), 22, none, 0⟩, ⟨some 21, (.mv (.t 1)), 3, none, 0⟩, ⟨some 22, (.iaddr 22 (.t 20) (.t 21)), 0, none, 0⟩, ⟨some 23, (.load 3 (.t 22)), 3, none, 0⟩, ⟨some 7, (.mv (.t 23)), 3, none, 0⟩] (some [1, 2, 3, 7])))
      (.region false [⟨some 14, (.mv (.t 2)), 3, none, 0⟩, ⟨some 15, (.bin .sub 3 (.t 14) (.c (.int .i64 1))), 3, none, 0⟩, ⟨some 2, (.mv (.t 15)), 3, none, 0⟩] (some [1, 2, 3, 7]))))
def fa_124 : FnA := ⟨25, [.t 6],
  (.seq
    (.region false [⟨some 3, (.box 28 (.t 0)), 0, none, 0⟩, ⟨some 6, (.mv (.c (.int .i64 0))), 3, none, 0⟩] (some [1, 2, 3]))
    (.seq
      (.region false [⟨some 8, (.faddr 28 (.t 3) 0), 0, none, 0⟩, ⟨some 9, (.load 22 (.t 8)), 22, none, 0⟩, ⟨some 10, (.len 22 (.t 9)), 3, none, 0⟩, ⟨some 11, (.bin .sub 3 (.t 10) (.c (.int .i64 1))), 3, none, 0⟩, ⟨some 7, (.mv (.t 11)), 3, none, 0⟩] (some [1, 2, 3, 7]))
      (.seq
        (.block 0
          (.loop [1, 2, 3, 7] [] lb_124_2))
        (.seq
          (.region false [⟨some 24, (.mv (.t 7)), 3, none, 0⟩, ⟨some 6, (.mv (.t 24)), 3, none, 0⟩] (some [6]))
          .ret))))⟩
theorem fok_124 : FnOk Try.prog 124 fa_124 an_124 := ⟨Try.f124, _, Try.func124, rfl, by kernel_rfl, rfl, rfl, by decide, by kernel_rfl⟩
/-- impl.power -/
def an_122 : Ann := ⟨[], [(0, [1, 2, 3]), (1, [1, 2, 3, 7]), (2, [1, 2, 3, 7, 13]), (4, [1, 2, 3, 7]), (3, [1, 2, 3, 7]), (5, [6])], [(2, [1, 2, 3, 7], [])], []⟩
def lb_122_2 : AC :=
  (.seq
    (.seq
      (.region false [⟨some 12, (.mv (.t 2)), 3, none, 0⟩, ⟨some 13, (.bin .gtr 3 (.t 12) (.c (.int .i64 0))), 4, none, 0⟩] (some [1, 2, 3, 7, 13]))
      (.cond (.t 13)
        .skip
        (.exit 0)))
    (.seq
      (.block 1
        (.region false [⟨some 16, (.faddr 28 (.t 3) 1), 0, none, 0⟩, ⟨some 17, (.load 23 (.t 16)), 23, none, 0⟩, ⟨some 18, (.mv (.t 7)), 3, none, 0⟩, ⟨some 19, (.iaddr 23 (.t 17) (.t 18)), 0, none, 0⟩, ⟨some 20, (.load 22 (.t 19)), 22, none, 0⟩, ⟨some 21, (.mv (.t 1)), 3, none, 0⟩, ⟨some 22, (.iaddr 22 (.t 20) (.t 21)), 0, none, 0⟩, ⟨some 23, (.load 3 (.t 22)), 3, none, 0⟩, ⟨some 7, (.mv (.t 23)), 3, none, 0⟩] (some [1, 2, 3, 7])))
      (.region false [⟨some 14, (.mv (.t 2)), 3, none, 0⟩, ⟨some 15, (.bin .sub 3 (.t 14) (.c (.int .i64 1))), 3, none, 0⟩, ⟨some 2, (.mv (.t 15)), 3, none, 0⟩] (some [1, 2, 3, 7]))))
def fa_122 : FnA := ⟨25, [.t 6],
  (.seq
    (.region false [⟨some 3, (.box 28 (.t 0)), 0, none, 0⟩, ⟨some 6, (.mv (.c (.int .i64 0))), 3, none, 0⟩] (some [1, 2, 3]))
    (.seq
      (.region false [⟨some 8, (.faddr 28 (.t 3) 0), 0, none, 0⟩, ⟨some 9, (.load 22 (.t 8)), 22, none, 0⟩, ⟨some 10, (.len 22 (.t 9)), 3, none, 0⟩, ⟨some 11, (.bin .sub 3 (.t 10) (.c (.int .i64 1))), 3, none, 0⟩, ⟨some 7, (.mv (.t 11)), 3, none, 0⟩] (some [1, 2, 3, 7]))
      (.seq
        (.block 0
          (.loop [1, 2, 3, 7] [] lb_122_2))
        (.seq
          (.region false [⟨some 24, (.mv (.t 7)), 3, none, 0⟩, ⟨some 6, (.mv (.t 24)), 3, none, 0⟩] (some [6]))
          .ret))))⟩
theorem fok_122 : FnOk Try.prog 122 fa_122 an_122 := ⟨Try.f122, _, Try.func122, rfl, by kernel_rfl, rfl, rfl, by decide, by kernel_rfl⟩
/-- impl.eachList -/
def an_151 : Ann := ⟨[(1, 2, 16)], [(0, [0, 1, 4]), (1, [0, 1, 4]), (2, [0, 1, 4, 5]), (3, [0, 1, 4, 5, 27]), (4, [0, 1, 4, 5]), (5, [0, 1, 4, 5]), (6, [0, 1, 4, 5, 34]), (7, [0, 1, 4])], [(1, [0, 1, 4], [12160, 8064, 4064, 8, 16, 24, 32, 40, 48, 56, 64, 72, 80, 88, 96, 104, 112, 120, 128]), (3, [0, 1, 4, 5], [12160, 8064, 4064, 8, 16, 24, 32, 40, 48, 56, 64, 72, 80, 88, 96, 104, 112, 120, 128])], []⟩
def lb_151_3 : AC :=
  (.seq
    (.seq
      (.region true (gops [⟨some 15, (.mv (.t 5)), 3, none, 0⟩, ⟨some 16, (.bin .geq 3 (.t 15) (.c (.int .i64 0))), 4, none, 0⟩, ⟨some 17, (.mv (.t 16)), 4, none, 0⟩, ⟨some 18, (.mv (.t 4)), 22, some (17, true), 0⟩, ⟨some 19, (.mv (.t 5)), 3, some (17, true), 0⟩, ⟨some 20, (.iaddr 22 (.t 18) (.t 19)), 0, some (17, true), 0⟩, ⟨some 21, (.load 3 (.t 20)), 3, some (17, true), 0⟩, ⟨some 22, (.mv (.t 0)), 22, some (17, true), 0⟩, ⟨some 23, (.mv (.t 5)), 3, some (17, true), 0⟩, ⟨some 24, (.iaddr 22 (.t 22) (.t 23)), 0, some (17, true), 0⟩, ⟨some 25, (.load 3 (.t 24)), 3, some (17, true), 0⟩, ⟨some 26, (.bin .eql 3 (.t 21) (.t 25)), 4, some (17, true), 0⟩, ⟨some 27, (.pick (.t 17) (.t 26) (.c (.bool false))), 4, none, 0⟩]) (some [0, 1, 4, 5, 27]))
      (.cond (.t 27)
        .skip
        (.exit 2)))
    (.block 3
      (.seq
        (.region false [⟨some 28, (.mv (.t 4)), 22, none, 0⟩, ⟨some 29, (.mv (.t 5)), 3, none, 0⟩, ⟨some 30, (.iaddr 22 (.t 28) (.t 29)), 0, none, 0⟩, ⟨none, (.store 3 (.t 30) (.c (.int .i64 0))), 0, none, 0⟩] (some [0, 1, 4, 5]))
        (.region false [⟨some 31, (.mv (.t 5)), 3, none, 0⟩, ⟨some 32, (.bin .sub 3 (.t 31) (.c (.int .i64 1))), 3, none, 0⟩, ⟨some 5, (.mv (.t 32)), 3, none, 0⟩] (some [0, 1, 4, 5])))))
def lb_151_1 : AC :=
  (.block 1
    (.seq
      (.region false [⟨some 9, (.mv (.t 1)), 112, none, 0⟩, ⟨some 10, (.mv (.t 4)), 22, none, 0⟩, ⟨some 11, (.call (.t 9) [(.t 10)]), 0, none, 16⟩] (some [0, 1, 4]))
      (.seq
        (.region false [⟨some 12, (.mv (.t 4)), 22, none, 0⟩, ⟨some 13, (.len 22 (.t 12)), 3, none, 0⟩, ⟨some 14, (.bin .sub 3 (.t 13) (.c (.int .i64 1))), 3, none, 0⟩, ⟨some 5, (.mv (.t 14)), 3, none, 0⟩] (some [0, 1, 4, 5]))
        (.seq
          (.block 2
            (.loop [0, 1, 4, 5] [12160, 8064, 4064, 8, 16, 24, 32, 40, 48, 56, 64, 72, 80, 88, 96, 104, 112, 120, 128] lb_151_3))
          (.seq
            (.seq
              (.region false [⟨some 33, (.mv (.t 5)), 3, none, 0⟩, ⟨some 34, (.bin .lss 3 (.t 33) (.c (.int .i64 0))), 4, none, 0⟩] (some [0, 1, 4, 5, 34]))
              (.cond (.t 34)
                .ret
                .skip))
            (.region false [⟨some 35, (.mv (.t 4)), 22, none, 0⟩, ⟨some 36, (.mv (.t 5)), 3, none, 0⟩, ⟨some 37, (.iaddr 22 (.t 35) (.t 36)), 0, none, 0⟩, ⟨some 38, (.load 3 (.t 37)), 3, none, 0⟩, ⟨some 39, (.bin .add 3 (.t 38) (.c (.int .i64 1))), 3, none, 0⟩, ⟨some 40, (.iaddr 22 (.t 35) (.t 36)), 0, none, 0⟩, ⟨none, (.store 3 (.t 40) (.t 39)), 0, none, 0⟩] (some [0, 1, 4])))))))
def fa_151 : FnA := ⟨41, [],
  (.seq
    (.region false [⟨some 6, (.mv (.t 0)), 22, none, 0⟩, ⟨some 7, (.len 22 (.t 6)), 3, none, 0⟩, ⟨some 8, (.make 22 (.t 7) (.t 7)), 22, none, 0⟩, ⟨some 4, (.mv (.t 8)), 22, none, 0⟩] (some [0, 1, 4]))
    (.block 0
      (.loop [0, 1, 4] [12160, 8064, 4064, 8, 16, 24, 32, 40, 48, 56, 64, 72, 80, 88, 96, 104, 112, 120, 128] lb_151_1)))⟩
theorem fok_151 : FnOk Try.prog 151 fa_151 an_151 := ⟨Try.f151, _, Try.func151, rfl, by kernel_rfl, rfl, rfl, by decide, by kernel_rfl⟩
/-- impl.eachNames -/
def an_157 : Ann := ⟨[(1, 5, 3), (1, 7, 16)], [(0, [1, 2]), (1, [])], [], []⟩
def fa_157 : FnA := ⟨12, [],
  (.seq
    (.region false [⟨some 2, (.box 28 (.t 0)), 0, none, 0⟩] (some [1, 2]))
    (.region false [⟨some 4, (.faddr 28 (.t 2) 0), 0, none, 0⟩, ⟨some 5, (.load 22 (.t 4)), 22, none, 0⟩, ⟨some 6, (.len 22 (.t 5)), 3, none, 0⟩, ⟨some 7, (.bin .sub 3 (.t 6) (.c (.int .i64 1))), 3, none, 0⟩, ⟨some 8, (.bslice 22 1 [(0, (.t 7))]), 22, none, 0⟩, ⟨some 9, (.call (.f 152) [(.t 8), (.c (.int .i64 3))]), 22, none, 3⟩, ⟨some 10, (.mv (.t 1)), 112, none, 0⟩, ⟨some 11, (.call (.f 151) [(.t 9), (.t 10)]), 0, none, 16⟩] (some [])))⟩
theorem fok_157 : FnOk Try.prog 157 fa_157 an_157 := ⟨Try.f157, _, Try.func157, rfl, by kernel_rfl, rfl, rfl, by decide, by kernel_rfl⟩
end Go.PS
end

section
-- Contracts: lists of elements for the names, powers, the least power of the reference.
set_option maxRecDepth 100000
set_option linter.unusedVariables false
set_option linter.unusedSimpArgs false
namespace Go.PS
open Go.Proofs

theorem powS_pc (u : List Int) (t : List (List Int)) (x k : Int) (f : TF u t) (hx0 : 0 ≤ x) (hx : x.toNat < u.length) (hk0 : 0 ≤ k) (hk : k ≤ 1000000) : PC Try.prog 124 [AL u t, I64 x, I64 k] none true (fun r _ => r = I64 (powM u t x.toNat k.toNat)) := by
  obtain ⟨x, rfl⟩ := Int.eq_ofNat_of_zero_le hx0
  obtain ⟨k, rfl⟩ := Int.eq_ofNat_of_zero_le hk0
  simp at hx
  have h6 := f.lat.six
  refine pcT [] fok_124 ?_
  simp [fa_124, wrap64 (n := (u.length : Int) - 1) (by omega) (by omega)]
  refine loopA (tabK_mono _) k (fun i => [(2, I64 ((k : Int) - i)), (7, I64 (powM u t x i))]) (fun _ => []) (fun _ => True) (by simp [powM]) (by simp) (fun i g hi _ => ?_)
  have hr := powM_rng f hx i
  simp [lb_124_2, f.len, f.rows, hr, hx, show (powM u t x i).toNat < u.length by omega, wrap64 (n := (k : Int) - i - 1) (by omega) (by omega), powM]
  refine ⟨fun h => ⟨by omega, by omega⟩, fun h => by rw [show i = k by omega]⟩
noncomputable def fm_powS : Fam Try.prog := mkFam (X := List Int × List (List Int) × Int × Int) 124 true (fun (u, t, x, k) => [AL u t, I64 x, I64 k]) (fun (u, t, x, k) => (TF u t) ∧ (0 ≤ x) ∧ (x.toNat < u.length) ∧ (0 ≤ k) ∧ (k ≤ 1000000)) (fun (u, t, x, k) => I64 (powM u t x.toNat k.toNat)) (by
  rintro ⟨u, t, x, k⟩ ⟨f, hx0, hx, hk0, hk⟩
  exact powS_pc u t x k f hx0 hx hk0 hk)
@[simp] theorem fm_powS_id : fm_powS.id = 124 := rfl
@[simp] theorem fm_powS_fresh : fm_powS.fresh = true := rfl
@[simp] theorem fm_powS_look (u : List Int) (t : List (List Int)) (x k : Int) (f : TF u t) (hx0 : 0 ≤ x) (hx : x.toNat < u.length) (hk0 : 0 ≤ k) (hk : k ≤ 1000000) : fm_powS.look [AL u t, I64 x, I64 k] = some (I64 (powM u t x.toNat k.toNat)) :=
  lookF_of (X := List Int × List (List Int) × Int × Int) (args := fun (u, t, x, k) => [AL u t, I64 x, I64 k]) (pre := fun (u, t, x, k) => (TF u t) ∧ (0 ≤ x) ∧ (x.toNat < u.length) ∧ (0 ≤ k) ∧ (k ≤ 1000000)) (val := fun (u, t, x, k) => I64 (powM u t x.toNat k.toNat)) (by
  rintro ⟨u, t, x, k⟩ ⟨u', t', x', k'⟩ h
  simp at h
  try simp only [and_assoc] at h
  obtain ⟨rfl, rfl, rfl, rfl⟩ := h
  rfl) (u, t, x, k) ⟨f, hx0, hx, hk0, hk⟩
attribute [irreducible] fm_powS

theorem powI_pc (u : List Int) (t : List (List Int)) (x k : Int) (f : TF u t) (hx0 : 0 ≤ x) (hx : x.toNat < u.length) (hk0 : 0 ≤ k) (hk : k ≤ 1000000) : PC Try.prog 122 [AL u t, I64 x, I64 k] none true (fun r _ => r = I64 (powM u t x.toNat k.toNat)) := by
  obtain ⟨x, rfl⟩ := Int.eq_ofNat_of_zero_le hx0
  obtain ⟨k, rfl⟩ := Int.eq_ofNat_of_zero_le hk0
  simp at hx
  have h6 := f.lat.six
  refine pcT [] fok_122 ?_
  simp [fa_122, wrap64 (n := (u.length : Int) - 1) (by omega) (by omega)]
  refine loopA (tabK_mono _) k (fun i => [(2, I64 ((k : Int) - i)), (7, I64 (powM u t x i))]) (fun _ => []) (fun _ => True) (by simp [powM]) (by simp) (fun i g hi _ => ?_)
  have hr := powM_rng f hx i
  simp [lb_122_2, f.len, f.rows, hr, hx, show (powM u t x i).toNat < u.length by omega, wrap64 (n := (k : Int) - i - 1) (by omega) (by omega), powM]
  refine ⟨fun h => ⟨by omega, by omega⟩, fun h => by rw [show i = k by omega]⟩
noncomputable def fm_powI : Fam Try.prog := mkFam (X := List Int × List (List Int) × Int × Int) 122 true (fun (u, t, x, k) => [AL u t, I64 x, I64 k]) (fun (u, t, x, k) => (TF u t) ∧ (0 ≤ x) ∧ (x.toNat < u.length) ∧ (0 ≤ k) ∧ (k ≤ 1000000)) (fun (u, t, x, k) => I64 (powM u t x.toNat k.toNat)) (by
  rintro ⟨u, t, x, k⟩ ⟨f, hx0, hx, hk0, hk⟩
  exact powI_pc u t x k f hx0 hx hk0 hk)
@[simp] theorem fm_powI_id : fm_powI.id = 122 := rfl
@[simp] theorem fm_powI_fresh : fm_powI.fresh = true := rfl
@[simp] theorem fm_powI_look (u : List Int) (t : List (List Int)) (x k : Int) (f : TF u t) (hx0 : 0 ≤ x) (hx : x.toNat < u.length) (hk0 : 0 ≤ k) (hk : k ≤ 1000000) : fm_powI.look [AL u t, I64 x, I64 k] = some (I64 (powM u t x.toNat k.toNat)) :=
  lookF_of (X := List Int × List (List Int) × Int × Int) (args := fun (u, t, x, k) => [AL u t, I64 x, I64 k]) (pre := fun (u, t, x, k) => (TF u t) ∧ (0 ≤ x) ∧ (x.toNat < u.length) ∧ (0 ≤ k) ∧ (k ≤ 1000000)) (val := fun (u, t, x, k) => I64 (powM u t x.toNat k.toNat)) (by
  rintro ⟨u, t, x, k⟩ ⟨u', t', x', k'⟩ h
  simp at h
  try simp only [and_assoc] at h
  obtain ⟨rfl, rfl, rfl, rfl⟩ := h
  rfl) (u, t, x, k) ⟨f, hx0, hx, hk0, hk⟩
attribute [irreducible] fm_powI

theorem assignments_pc (n : Int) (h0 : 0 ≤ n) (h6 : n ≤ 6) : PC Try.prog 159 [I64 n] none false (fun r _ => r = RL (asgK n.toNat 3)) := by
  obtain ⟨n, rfl⟩ := Int.eq_ofNat_of_zero_le h0
  have h6 : n ≤ 6 := by omega
  refine pcT [] fok_159 ?_
  simp [fa_159]
  refine loopA (tabK_mono _) 3 (fun i => [(3, RL (asgK n i)), (4, I64 i)]) (fun _ => []) (fun _ => True) (by simp [asgK, rowsD, ints]) (by simp) (fun i g hi _ => ?_)
  simp [lb_159_3, wrap_succ hi (by omega)]
  refine ⟨fun h => ?_, fun h => by rw [show i = 3 by omega]⟩
  have hlen : (asgK n i).length ≤ 36 := by
    rw [asgK_length]
    have : i = 0 ∨ i = 1 ∨ i = 2 := by omega
    rcases this with rfl | rfl | rfl
    · simp
    · simp; omega
    · have := Nat.pow_le_pow_left h6 2; omega
  have hrow : ∀ j, j < (asgK n i).length → (gr (asgK n i) j).length = i := fun j hj => asgK_row n i _ (by simp [gr, List.getElem?_eq_getElem hj])
  have hnx : asgK n (i + 1) = nxt n (asgK n i) := rfl
  generalize asgK n i = o at *
  refine loopX (tabK_mono _) o.length (fun j γ => [(5, .arr 112 γ), (6, I64 j)]) (fun j γ => [⟨112, γ, .arr 1 (orowsD (nxt n (o.take j)))⟩]) (fun _ _ => True) g (by simp) (by simp [nxt, orowsD]) trivial (fun j γ g2 hj _ => ?_)
  simp [lb_159_7, wrap_succ hj (by omega)]
  refine ⟨fun h2 => ?_, fun h2 => ?_⟩
  · refine loopX (tabK_mono _) n (fun x γ => [(5, .arr 112 γ), (7, I64 x)]) (fun x γ => [⟨112, γ, .arr 1 (orowsD (nxt n (o.take j) ++ (List.range x).map fun (z : Nat) => gr o j ++ [(z : Int)]))⟩]) (fun _ _ => True) γ (by simp) (by simp) trivial (fun x γ g3 hx _ => ?_)
    simp [lb_159_10, wrap_succ hx (by omega)]
    refine ⟨fun h3 => ?_, fun h3 => ?_⟩
    · have e1 := hrow j h2
      have e2 : j * n ≤ 36 * 6 := Nat.mul_le_mul (by omega) h6
      have e3 : (nxt n (List.take j o)).length = j * n := by rw [nxt_length, List.length_take, Nat.min_eq_left hj]
      have e4 : big = 1048576 * 1048576 := rfl
      refine ⟨h2, by omega, by omega, by omega, h3, by rw [List.range_succ, List.map_append]; rfl⟩
    · obtain rfl : x = n := by omega
      rw [← nxt_take h2]
      exact ⟨h2, γ, ⟨rfl, wrap_succ hj (by omega)⟩, rfl, rfl⟩
  · obtain rfl : j = o.length := by omega
    rw [List.take_length]
    exact ⟨by omega, hnx.symm, wrap_succ hi (by omega)⟩
noncomputable def fm_assignments : Fam Try.prog := mkFam (X := Int) 159 false (fun n => [I64 n]) (fun n => (0 ≤ n) ∧ (n ≤ 6)) (fun n => RL (asgK n.toNat 3)) (by
  rintro n ⟨h0, h6⟩
  exact assignments_pc n h0 h6)
@[simp] theorem fm_assignments_id : fm_assignments.id = 159 := rfl
@[simp] theorem fm_assignments_fresh : fm_assignments.fresh = false := rfl
@[simp] theorem fm_assignments_look (n : Int) (h0 : 0 ≤ n) (h6 : n ≤ 6) : fm_assignments.look [I64 n] = some (RL (asgK n.toNat 3)) :=
  lookF_of (X := Int) (args := fun n => [I64 n]) (pre := fun n => (0 ≤ n) ∧ (n ≤ 6)) (val := fun n => RL (asgK n.toNat 3)) (by
  intro n n' h
  simp at h
  subst h
  rfl) n ⟨h0, h6⟩
attribute [irreducible] fm_assignments

theorem all_gr {A : List (List Int)} {p : List Int → Bool} : A.all p = true ↔ ∀ j, j < A.length → p (gr A j) = true := by
  rw [List.all_eq_true]
  constructor
  · intro h j hj
    exact h _ (by simp [gr, List.getElem?_eq_getElem hj])
  · intro h x hx
    obtain ⟨j, hj, rfl⟩ := List.getElem_of_mem hx
    have := h j hj
    simpa [gr, List.getElem?_eq_getElem hj] using this

theorem okP_up {u : List Int} {t : List (List Int)} (a : VA u t) {p q nm : List Int} (hp : validT p) (hq : validT q) (hn : NmOk nm u.length) {k : Nat} (h : okP u t p q k nm = true) : ∀ i, okP u t p q (k + i) nm = true
  | 0 => h
  | i + 1 => okP_mono a hp hq hn (okP_up a hp hq hn h i)


end Go.PS
end
