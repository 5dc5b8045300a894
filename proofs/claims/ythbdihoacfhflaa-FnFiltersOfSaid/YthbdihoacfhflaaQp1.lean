/- Part 1 of what the last text proves: The filters told are all of them: the law holds at every input. -/
import Derived.Test.YthbdihoacfhflaaQo7
section
-- PRINTED by gen.py: clean texts of functions, and their tie to the program.
set_option maxRecDepth 100000
namespace Go.PS
open Go.Proofs
/-- spec.DrawFiltersOf -/
def an_34 : Ann := ⟨[(1, 1, 16), (1, 2, 16)], [(0, [0, 2]), (1, [2])], [], []⟩
def fa_34 : FnA := ⟨6, [.c 2 27],
  (.seq
    (.region false [⟨some 2, (.alloc 27), 0, none, 0⟩] (some [0, 2]))
    (.seq
      (.region false [⟨some 3, (.mv (.t 0)), 22, none, 0⟩, ⟨some 4, (.call (.f 90) [(.t 3)]), 72, none, 16⟩, ⟨some 5, (.call (.f 105) [(.t 4)]), 27, none, 16⟩, ⟨none, (.store 27 (.t 2) (.t 5)), 0, none, 0⟩] (some [2]))
      .ret))⟩
theorem fok_34 : FnOk Try.prog 34 fa_34 an_34 := ⟨Try.f34, _, Try.func34, rfl, by kernel_rfl, rfl, rfl, by decide, by kernel_rfl⟩
/-- laws.FnFiltersOf -/
def an_6 : Ann := ⟨[(3, 1, 3), (4, 1, 3), (5, 2, 3), (5, 3, 3), (5, 7, 3), (6, 2, 3), (6, 3, 3), (14, 10, 3), (16, 1, 3), (16, 6, 3), (16, 7, 3), (16, 12, 3), (16, 14, 3)], [(0, [0]), (1, [0, 10]), (2, [2]), (3, [3]), (4, [3, 4]), (5, [3, 4, 24]), (6, [2]), (7, [4, 5]), (8, [4, 5, 6]), (9, [4, 5, 6, 35]), (11, [4, 5, 6, 7]), (12, [4, 5, 6, 7, 40]), (14, [4, 5, 6, 7, 54]), (15, [2]), (13, [4, 5, 6, 7]), (10, [4, 5, 6]), (16, [2])], [(9, [4, 5, 6], []), (12, [4, 5, 6, 7], [])], []⟩
def lb_6_12 : AC :=
  (.seq
    (.seq
      (.region false [⟨some 38, (.mv (.t 7)), 3, none, 0⟩, ⟨some 39, (.mv (.t 6)), 3, none, 0⟩, ⟨some 40, (.bin .lss 3 (.t 38) (.t 39)), 4, none, 0⟩] (some [4, 5, 6, 7, 40]))
      (.cond (.t 40)
        .skip
        (.exit 2)))
    (.seq
      (.block 3
        (.seq
          (.region true [⟨some 43, (.mv (.t 4)), 23, none, 0⟩, ⟨some 44, (.mv (.t 4)), 23, none, 0⟩, ⟨some 45, (.mv (.t 6)), 3, none, 0⟩, ⟨some 46, (.iaddr 23 (.t 44) (.t 45)), 0, none, 0⟩, ⟨some 47, (.load 3 (.t 46)), 3, none, 0⟩, ⟨some 48, (.mv (.t 4)), 23, none, 0⟩, ⟨some 49, (.mv (.t 7)), 3, none, 0⟩, ⟨some 50, (.iaddr 23 (.t 48) (.t 49)), 0, none, 0⟩, ⟨some 51, (.load 3 (.t 50)), 3, none, 0⟩, ⟨some 52, (.bin .and 3 (.t 47) (.t 51)), 3, none, 0⟩, ⟨some 53, (.call (.f 37) [(.t 43), (.t 52)]), 4, none, 3⟩, ⟨some 54, (.un .not (.t 53)), 4, none, 0⟩] (some [4, 5, 6, 7, 54]))
          (.cond (.t 54)
            (.seq
              (.region false [⟨some 2, (.mv (.c (.bool false))), 4, none, 0⟩] (some [2]))
              .ret)
            .skip)))
      (.region false [⟨some 41, (.mv (.t 7)), 3, none, 0⟩, ⟨some 42, (.bin .add 3 (.t 41) (.c (.int .i64 1))), 3, none, 0⟩, ⟨some 7, (.mv (.t 42)), 3, none, 0⟩] (some [4, 5, 6, 7]))))
def lb_6_9 : AC :=
  (.seq
    (.seq
      (.region false [⟨some 32, (.mv (.t 6)), 3, none, 0⟩, ⟨some 33, (.mv (.t 4)), 23, none, 0⟩, ⟨some 34, (.len 23 (.t 33)), 3, none, 0⟩, ⟨some 35, (.bin .lss 3 (.t 32) (.t 34)), 4, none, 0⟩] (some [4, 5, 6, 35]))
      (.cond (.t 35)
        .skip
        (.exit 0)))
    (.seq
      (.block 1
        (.seq
          (.region false [⟨some 7, (.mv (.c (.int .i64 0))), 3, none, 0⟩] (some [4, 5, 6, 7]))
          (.block 2
            (.loop [4, 5, 6, 7] [] lb_6_12))))
      (.region false [⟨some 36, (.mv (.t 6)), 3, none, 0⟩, ⟨some 37, (.bin .add 3 (.t 36) (.c (.int .i64 1))), 3, none, 0⟩, ⟨some 6, (.mv (.t 37)), 3, none, 0⟩] (some [4, 5, 6]))))
def fa_6 : FnA := ⟨71, [.t 2],
  (.seq
    (.region false [⟨some 2, (.mv (.c (.bool false))), 4, none, 0⟩] (some [0]))
    (.seq
      (.seq
        (.region false [⟨some 8, (.mv (.t 0)), 22, none, 0⟩, ⟨some 9, (.len 22 (.t 8)), 3, none, 0⟩, ⟨some 10, (.bin .gtr 3 (.t 9) (.c (.int .i64 1048576))), 4, none, 0⟩] (some [0, 10]))
        (.cond (.t 10)
          (.seq
            (.region false [⟨some 2, (.mv (.c (.bool true))), 4, none, 0⟩] (some [2]))
            .ret)
          .skip))
      (.seq
        (.region false [⟨some 11, (.mv (.t 0)), 22, none, 0⟩, ⟨some 12, (.call (.f 34) [(.t 11)]), 27, none, 3⟩, ⟨some 3, (.alloc 27), 0, none, 0⟩, ⟨none, (.store 27 (.t 3) (.t 12)), 0, none, 0⟩] (some [3]))
        (.seq
          (.region false [⟨some 13, (.load 27 (.t 3)), 27, none, 0⟩, ⟨some 14, (.call (.f 35) [(.t 13)]), 23, none, 3⟩, ⟨some 4, (.mv (.t 14)), 23, none, 0⟩] (some [3, 4]))
          (.seq
            (.seq
              (.region false (gops [⟨some 15, (.mv (.t 4)), 23, none, 0⟩, ⟨some 16, (.load 27 (.t 3)), 27, none, 0⟩, ⟨some 17, (.call (.f 36) [(.t 16)]), 23, none, 3⟩, ⟨some 18, (.call (.f 25) [(.t 15), (.t 17)]), 4, none, 3⟩, ⟨some 19, (.un .not (.t 18)), 4, none, 0⟩, ⟨some 20, (.mv (.t 19)), 4, none, 0⟩, ⟨some 21, (.load 27 (.t 3)), 27, some (20, false), 0⟩, ⟨some 22, (.call (.f 23) [(.t 21)]), 4, some (20, false), 3⟩, ⟨some 23, (.un .not (.t 22)), 4, some (20, false), 0⟩, ⟨some 24, (.pick (.t 20) (.c (.bool true)) (.t 23)), 4, none, 0⟩]) (some [3, 4, 24]))
              (.cond (.t 24)
                (.seq
                  (.region false [⟨some 25, (.mv (.t 4)), 23, none, 0⟩, ⟨some 26, (.load 27 (.t 3)), 27, none, 0⟩, ⟨some 27, (.call (.f 36) [(.t 26)]), 23, none, 3⟩, ⟨some 28, (.call (.f 25) [(.t 25), (.t 27)]), 4, none, 3⟩, ⟨some 2, (.mv (.t 28)), 4, none, 0⟩] (some [2]))
                  .ret)
                .skip))
            (.seq
              (.region false [⟨some 29, (.faddr 27 (.t 3) 0), 0, none, 0⟩, ⟨some 30, (.load 23 (.t 29)), 23, none, 0⟩, ⟨some 31, (.len 23 (.t 30)), 3, none, 0⟩, ⟨some 5, (.mv (.t 31)), 3, none, 0⟩] (some [4, 5]))
              (.seq
                (.seq
                  (.region false [⟨some 6, (.mv (.c (.int .i64 0))), 3, none, 0⟩] (some [4, 5, 6]))
                  (.block 0
                    (.loop [4, 5, 6] [] lb_6_9)))
                (.seq
                  (.region false (gops [⟨some 55, (.mv (.t 4)), 23, none, 0⟩, ⟨some 56, (.call (.f 38) [(.t 55)]), 4, none, 3⟩, ⟨some 57, (.mv (.t 56)), 4, none, 0⟩, ⟨some 58, (.mv (.t 4)), 23, some (57, true), 0⟩, ⟨some 59, (.mv (.t 5)), 3, some (57, true), 0⟩, ⟨some 60, (.bin .sub 3 (.t 59) (.c (.int .i64 1))), 3, some (57, true), 0⟩, ⟨some 61, (.call (.f 39) [(.t 60)]), 3, some (57, true), 3⟩, ⟨some 62, (.call (.f 37) [(.t 58), (.t 61)]), 4, some (57, true), 3⟩, ⟨some 63, (.pick (.t 57) (.t 62) (.c (.bool false))), 4, none, 0⟩, ⟨some 64, (.mv (.t 63)), 4, none, 0⟩, ⟨some 65, (.mv (.t 4)), 23, some (64, true), 0⟩, ⟨some 66, (.mv (.t 5)), 3, some (64, true), 0⟩, ⟨some 67, (.call (.f 39) [(.t 66)]), 3, some (64, true), 3⟩, ⟨some 68, (.bin .sub 3 (.t 67) (.c (.int .i64 1))), 3, some (64, true), 0⟩, ⟨some 69, (.call (.f 37) [(.t 65), (.t 68)]), 4, some (64, true), 3⟩, ⟨some 70, (.pick (.t 64) (.t 69) (.c (.bool false))), 4, none, 0⟩, ⟨some 2, (.mv (.t 70)), 4, none, 0⟩]) (some [2]))
                  .ret))))))))⟩
theorem fok_6 : FnOk Try.prog 6 fa_6 an_6 := ⟨Try.f6, _, Try.func6, rfl, by kernel_rfl, rfl, rfl, by decide, by kernel_rfl⟩
end Go.PS
end

section
-- PRINTED by gen.py: clean texts of functions, and their tie to the program.
set_option maxRecDepth 100000
namespace Go.PS
open Go.Proofs
/-- laws.isIn -/
def an_37 : Ann := ⟨[], [(0, [0, 1]), (1, [0, 1, 5]), (2, [0, 1, 5, 9]), (4, [0, 1, 5, 17]), (5, [4]), (3, [0, 1, 5]), (6, [4])], [(2, [0, 1, 5], [])], []⟩
def lb_37_2 : AC :=
  (.seq
    (.seq
      (.region false [⟨some 6, (.mv (.t 5)), 3, none, 0⟩, ⟨some 7, (.mv (.t 0)), 23, none, 0⟩, ⟨some 8, (.len 23 (.t 7)), 3, none, 0⟩, ⟨some 9, (.bin .lss 3 (.t 6) (.t 8)), 4, none, 0⟩] (some [0, 1, 5, 9]))
      (.cond (.t 9)
        .skip
        (.exit 0)))
    (.seq
      (.block 1
        (.seq
          (.region false [⟨some 12, (.mv (.t 0)), 23, none, 0⟩, ⟨some 13, (.mv (.t 5)), 3, none, 0⟩, ⟨some 14, (.iaddr 23 (.t 12) (.t 13)), 0, none, 0⟩, ⟨some 15, (.load 3 (.t 14)), 3, none, 0⟩, ⟨some 16, (.mv (.t 1)), 3, none, 0⟩, ⟨some 17, (.bin .eql 3 (.t 15) (.t 16)), 4, none, 0⟩] (some [0, 1, 5, 17]))
          (.cond (.t 17)
            (.seq
              (.region false [⟨some 4, (.mv (.c (.bool true))), 4, none, 0⟩] (some [4]))
              .ret)
            .skip)))
      (.region false [⟨some 10, (.mv (.t 5)), 3, none, 0⟩, ⟨some 11, (.bin .add 3 (.t 10) (.c (.int .i64 1))), 3, none, 0⟩, ⟨some 5, (.mv (.t 11)), 3, none, 0⟩] (some [0, 1, 5]))))
def fa_37 : FnA := ⟨18, [.t 4],
  (.seq
    (.region false [⟨some 4, (.mv (.c (.bool false))), 4, none, 0⟩] (some [0, 1]))
    (.seq
      (.seq
        (.region false [⟨some 5, (.mv (.c (.int .i64 0))), 3, none, 0⟩] (some [0, 1, 5]))
        (.block 0
          (.loop [0, 1, 5] [] lb_37_2)))
      (.seq
        (.region false [⟨some 4, (.mv (.c (.bool false))), 4, none, 0⟩] (some [4]))
        .ret)))⟩
theorem fok_37 : FnOk Try.prog 37 fa_37 an_37 := ⟨Try.f37, _, Try.func37, rfl, by kernel_rfl, rfl, rfl, by decide, by kernel_rfl⟩
/-- laws.equalInts -/
def an_25 : Ann := ⟨[], [(0, [0, 1]), (1, [0, 1, 10]), (2, [4]), (3, [0, 1, 5]), (4, [0, 1, 5, 14]), (6, [0, 1, 5, 25]), (7, [4]), (5, [0, 1, 5]), (8, [4])], [(4, [0, 1, 5], [])], []⟩
def lb_25_4 : AC :=
  (.seq
    (.seq
      (.region false [⟨some 11, (.mv (.t 5)), 3, none, 0⟩, ⟨some 12, (.mv (.t 0)), 23, none, 0⟩, ⟨some 13, (.len 23 (.t 12)), 3, none, 0⟩, ⟨some 14, (.bin .lss 3 (.t 11) (.t 13)), 4, none, 0⟩] (some [0, 1, 5, 14]))
      (.cond (.t 14)
        .skip
        (.exit 0)))
    (.seq
      (.block 1
        (.seq
          (.region true [⟨some 17, (.mv (.t 0)), 23, none, 0⟩, ⟨some 18, (.mv (.t 5)), 3, none, 0⟩, ⟨some 19, (.iaddr 23 (.t 17) (.t 18)), 0, none, 0⟩, ⟨some 20, (.load 3 (.t 19)), 3, none, 0⟩, ⟨some 21, (.mv (.t 1)), 23, none, 0⟩, ⟨some 22, (.mv (.t 5)), 3, none, 0⟩, ⟨some 23, (.iaddr 23 (.t 21) (.t 22)), 0, none, 0⟩, ⟨some 24, (.load 3 (.t 23)), 3, none, 0⟩, ⟨some 25, (.bin .neq 3 (.t 20) (.t 24)), 4, none, 0⟩] (some [0, 1, 5, 25]))
          (.cond (.t 25)
            (.seq
              (.region false [⟨some 4, (.mv (.c (.bool false))), 4, none, 0⟩] (some [4]))
              .ret)
            .skip)))
      (.region false [⟨some 15, (.mv (.t 5)), 3, none, 0⟩, ⟨some 16, (.bin .add 3 (.t 15) (.c (.int .i64 1))), 3, none, 0⟩, ⟨some 5, (.mv (.t 16)), 3, none, 0⟩] (some [0, 1, 5]))))
def fa_25 : FnA := ⟨26, [.t 4],
  (.seq
    (.region false [⟨some 4, (.mv (.c (.bool false))), 4, none, 0⟩] (some [0, 1]))
    (.seq
      (.seq
        (.region false [⟨some 6, (.mv (.t 0)), 23, none, 0⟩, ⟨some 7, (.len 23 (.t 6)), 3, none, 0⟩, ⟨some 8, (.mv (.t 1)), 23, none, 0⟩, ⟨some 9, (.len 23 (.t 8)), 3, none, 0⟩, ⟨some 10, (.bin .neq 3 (.t 7) (.t 9)), 4, none, 0⟩] (some [0, 1, 10]))
        (.cond (.t 10)
          (.seq
            (.region false [⟨some 4, (.mv (.c (.bool false))), 4, none, 0⟩] (some [4]))
            .ret)
          .skip))
      (.seq
        (.seq
          (.region false [⟨some 5, (.mv (.c (.int .i64 0))), 3, none, 0⟩] (some [0, 1, 5]))
          (.block 0
            (.loop [0, 1, 5] [] lb_25_4)))
        (.seq
          (.region false [⟨some 4, (.mv (.c (.bool true))), 4, none, 0⟩] (some [4]))
          .ret))))⟩
theorem fok_25 : FnOk Try.prog 25 fa_25 an_25 := ⟨Try.f25, _, Try.func25, rfl, by kernel_rfl, rfl, rfl, by decide, by kernel_rfl⟩
end Go.PS
end

section
-- Contracts: lists of the laws.
set_option maxRecDepth 100000
set_option linter.unusedVariables false
set_option linter.unusedSimpArgs false
namespace Go.PS
open Go.Proofs

theorem isInL_pc (l : List Int) (n : Int) (hl : Big l.length) : PC Try.prog 37 [IL l, I64 n] none true (fun r _ => r = .bool (decide (n ∈ l))) := by
  have hl := hl.le
  refine pcT [] fok_37 ?_
  simp [fa_37]
  refine loopA (tabK_mono _) l.length (fun i => [(5, I64 i)]) (fun _ => []) (fun j => ¬ gi l j = n) (by simp) (by simp) (fun i g hi hP => ?_)
  simp [lb_37_2, wrap_succ hi hl]
  refine ⟨fun h => ?_, fun h => ?_⟩
  · refine ⟨h, fun e => ?_, fun e => ?_⟩
    · rw [← e]; exact gi_mem h
    · exact ⟨h, e⟩
  · intro hx
    obtain ⟨j, hj, e⟩ := List.mem_iff_getElem.1 hx
    have := hP j (by omega)
    simp [gi, List.getElem?_eq_getElem hj] at this
    exact this e
noncomputable def fm_isInL : Fam Try.prog := mkFam (X := List Int × Int) 37 true (fun (l, n) => [IL l, I64 n]) (fun (l, n) => (Big l.length)) (fun (l, n) => .bool (decide (n ∈ l))) (by
  rintro ⟨l, n⟩ hl
  exact isInL_pc l n hl)
@[simp] theorem fm_isInL_id : fm_isInL.id = 37 := rfl
@[simp] theorem fm_isInL_fresh : fm_isInL.fresh = true := rfl
@[simp] theorem fm_isInL_look (l : List Int) (n : Int) (hl : Big l.length) : fm_isInL.look [IL l, I64 n] = some (.bool (decide (n ∈ l))) :=
  lookF_of (X := List Int × Int) (args := fun (l, n) => [IL l, I64 n]) (pre := fun (l, n) => (Big l.length)) (val := fun (l, n) => .bool (decide (n ∈ l))) (by
  rintro ⟨l, n⟩ ⟨l', n'⟩ h
  simp at h
  try simp only [and_assoc] at h
  obtain ⟨rfl, rfl⟩ := h
  rfl) (l, n) hl
attribute [irreducible] fm_isInL
theorem eqInts_pc (a b : List Int) (ha : Big a.length) : PC Try.prog 25 [IL a, IL b] none true (fun r _ => r = .bool (decide (a = b))) := by
  refine pcT [] fok_25 ?_
  simp [fa_25]
  refine ⟨fun h e => h (by rw [e]), fun hl => ?_⟩
  refine loopA (tabK_mono _) a.length (fun i => [(5, I64 i)]) (fun _ => []) (fun j => gi a j = gi b j) (by simp) (by simp) (fun i g hi hP => ?_)
  simp [lb_25_4, wrap_succ hi ha]
  refine ⟨by grind, fun h => gi_ext (by omega) (fun j hj => hP j (by omega))⟩
noncomputable def fm_eqInts : Fam Try.prog := mkFam (X := List Int × List Int) 25 true (fun (a, b) => [IL a, IL b]) (fun (a, b) => (Big a.length)) (fun (a, b) => .bool (decide (a = b))) (by
  rintro ⟨a, b⟩ ha
  exact eqInts_pc a b ha)
@[simp] theorem fm_eqInts_id : fm_eqInts.id = 25 := rfl
@[simp] theorem fm_eqInts_fresh : fm_eqInts.fresh = true := rfl
@[simp] theorem fm_eqInts_look (a b : List Int) (ha : Big a.length) : fm_eqInts.look [IL a, IL b] = some (.bool (decide (a = b))) :=
  lookF_of (X := List Int × List Int) (args := fun (a, b) => [IL a, IL b]) (pre := fun (a, b) => (Big a.length)) (val := fun (a, b) => .bool (decide (a = b))) (by
  rintro ⟨a, b⟩ ⟨a', b'⟩ h
  simp at h
  try simp only [and_assoc] at h
  obtain ⟨rfl, rfl⟩ := h
  rfl) (a, b) ha
attribute [irreducible] fm_eqInts
end Go.PS
end

section
-- The law of all filters.
set_option maxRecDepth 100000
set_option linter.unusedVariables false
set_option linter.unusedSimpArgs false
namespace Go.PS
open Go.Proofs

theorem drFil_pc (c : List Int) (hc : Byt c) (hl : Big c.length) : PC Try.prog 34 [BL c] none false (fun r _ => r = AL (saM (rdB c) 0).1.1 (saM (rdB c) 0).1.2) := by
  have hl := hl.le
  have hb := rdB_ok hc
  have l1 := fw_someAlg_look (rdB c) 0 hb (by omega) (by omega)
  refine pcR [] [fw_someAlg] fok_34 ?_
  generalize saM (rdB c) 0 = A at *
  obtain ⟨⟨u, t⟩, p1⟩ := A
  dsimp only at *
  simp [fa_34]
  refine newR hl ?_
  simp [callOWR, l1]
noncomputable def fm_drFil : Fam Try.prog := mkFam (X := List Int) 34 false (fun c => [BL c]) (fun c => (Byt c) ∧ (Big c.length)) (fun c => AL (saM (rdB c) 0).1.1 (saM (rdB c) 0).1.2) (by
  rintro c ⟨hc, hl⟩
  exact drFil_pc c hc hl)
@[simp] theorem fm_drFil_id : fm_drFil.id = 34 := rfl
@[simp] theorem fm_drFil_fresh : fm_drFil.fresh = false := rfl
@[simp] theorem fm_drFil_look (c : List Int) (hc : Byt c) (hl : Big c.length) : fm_drFil.look [BL c] = some (AL (saM (rdB c) 0).1.1 (saM (rdB c) 0).1.2) :=
  lookF_of (X := List Int) (args := fun c => [BL c]) (pre := fun c => (Byt c) ∧ (Big c.length)) (val := fun c => AL (saM (rdB c) 0).1.1 (saM (rdB c) 0).1.2) (by
  intro c c' h
  simp at h
  subst h
  rfl) c ⟨hc, hl⟩
attribute [irreducible] fm_drFil
set_option maxHeartbeats 2000000 in
theorem FnFiltersOf_pc (c : List Int) (hl : Hu c.length) (hc : Byt c) : PC Try.prog 6 [BL c] none true (fun r _ => r = .bool true) := by
  have hl' := hl.le
  refine pcT [fm_drFil, fm_FilI, fm_FilS, fm_eqInts, fm_validAlgebraI, fm_isInL, fm_powerL, fm_ascL] fok_6 ?_
  rcases Nat.lt_or_ge 1048576 c.length with q | q
  · simp [fa_6, show ((1048576 : Int) < c.length) by omega]
  · have hbig : Big c.length := by unfold Big; omega
    have l1 := fm_drFil_look c hc hbig
    obtain ⟨g, _⟩ := saM_few (rdB_ok hc) (p := 0) (by omega)
    have hu := g.big
    have ht := g.bigR
    generalize saM (rdB c) 0 = A at *
    obtain ⟨⟨u, t⟩, p1⟩ := A
    dsimp only at *
    have hul := hu.le
    have hfl : Big (filR u t).length := by
      unfold filR Big; split
      · rename_i a
        have := filN_len (u := u) (t := t) (m := 2 ^ u.length)
        have := p2le a.lat.six
        simp; omega
      · simp
    simp [fa_6, show ¬ ((1048576 : Int) < c.length) by omega, show ((c.length : Int) ≤ 1048576) by omega, l1, hu, ht]
    refine cutW (tabK_mono _) [(24, .bool (!decide (VA u t)))] (by simp [hu, ht, hfl]) ?_
    simp [hu, ht, hfl]
    refine fun a => ?_
    have v := a.lat
    have h6 := v.six
    have hp := v.pos
    have h64 := p2le h6
    have e : filR u t = natL (filN u t (2 ^ u.length)) := by unfold filR; rw [if_pos a]
    have hn := filN_len (u := u) (t := t) (m := 2 ^ u.length)
    have hasc := ascB_pw (fil_pw (u := u) (t := t) (m := 2 ^ u.length))
    have hm : ∀ {f : Nat}, (f : Int) ∈ natL (filN u t (2 ^ u.length)) ↔ FI u t f := fun {f} => by rw [mem_natL_nat, mem_fil]
    have hmi : ∀ {i : Nat} (h : i < (filN u t (2 ^ u.length)).length), FI u t (filN u t (2 ^ u.length))[i] := fun h => mem_fil.1 (List.getElem_mem h)
    rw [e]
    rw [e] at hfl
    clear e
    generalize filN u t (2 ^ u.length) = l at *
    have w1 : IntKind.i64.wrap ((u.length : Int) - 1) = ((u.length - 1 : Nat) : Int) := by rw [wrap64 (by omega) (by omega)]; omega
    have hw := p2w h6
    refine loopA (tabK_mono _) l.length (fun i => [(6, I64 i)]) (fun _ => []) (fun _ => True) (by simp) (by simp) (fun i g hi _ => ?_)
    simp [lb_6_9, wrap_succ hi (show l.length ≤ 1099511627776 by omega)]
    refine ⟨fun h => ?_, fun h => ?_⟩
    · refine loopA (tabK_mono _) i (fun k => [(7, I64 k)]) (fun _ => []) (fun _ => True) (by simp) (by simp) (fun k g2 hk _ => ?_)
      simp [lb_6_12, wrap_succ hk (show i ≤ 1099511627776 by omega)]
      refine ⟨fun h2 => ?_, fun h2 => ?_⟩
      · have h3 : k < l.length := by omega
        have F1 := hmi h
        have F2 := hmi h3
        have e1 := gi_natL h
        have e2 := gi_natL h3
        have F := hm.2 (F1.and a F2)
        have f1 := F1.lt
        have f2 := F2.lt
        generalize l[i] = x at *
        generalize l[k] = y at *
        have m1 := fm_isInL_look (natL l) (x &&& y : Nat) hfl
        rw [decide_eq_true F] at m1
        simp [h, h3, e1, e2, and_nat (a := x) (b := y) (by omega) (by omega), m1, wrap_succ hk (show i ≤ 1099511627776 by omega), h2]
      · simp [wrap_succ hi (show l.length ≤ 1099511627776 by omega), h]
    · have m1 := fm_isInL_look (natL l) (2 ^ (u.length - 1) : Nat) hfl
      have m2 := fm_isInL_look (natL l) (2 ^ u.length - 1 : Nat) hfl
      have m3 := fm_ascL_look (natL l) hfl
      rw [decide_eq_true (hm.2 (fi_top a)), show ((2 ^ (u.length - 1) : Nat) : Int) = (2 : Int) ^ (u.length - 1) from p2i.symm] at m1
      rw [decide_eq_true (hm.2 (fi_all a)), show ((2 ^ u.length - 1 : Nat) : Int) = (2 : Int) ^ u.length - 1 by rw [p2i]; omega] at m2
      rw [hasc] at m3
      simp [gops, w1, hw, m1, m2, m3, show ((u.length - 1 : Nat) : Int) ≤ 61 by omega, show (u.length : Int) ≤ 61 by omega]
end Go.PS
end
