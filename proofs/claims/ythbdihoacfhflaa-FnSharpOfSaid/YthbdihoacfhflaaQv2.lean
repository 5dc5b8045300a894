/- Part 2 of what the last text proves: Sharp elements: the law holds at every input. -/
import Derived.Test.YthbdihoacfhflaaQv1
section
-- PRINTED by gen.py: clean texts of functions, and their tie to the program.
set_option maxRecDepth 100000
namespace Go.PS
open Go.Proofs
/-- impl.elementsWith -/
def an_135 : Ann := ⟨[(1, 1, 3), (3, 0, 1), (7, 4, 3)], [(0, [1, 2]), (1, [1, 2, 9]), (2, [4]), (3, [1, 2, 5]), (4, [1, 2, 5, 13, 14]), (5, [1, 2, 5, 13, 14, 15]), (6, [1, 2, 5, 6, 13, 14]), (7, [1, 2, 5, 6, 13, 14, 21]), (8, [1, 2, 5, 13, 14]), (9, [1, 2, 5, 13, 14]), (10, [4])], [(5, [1, 2, 5, 13, 14], [80, 200])], []⟩
def lb_135_5 : AC :=
  (.seq
    (.region false [⟨some 15, (.bin .lss 3 (.t 14) (.t 13)), 0, none, 0⟩] (some [1, 2, 5, 13, 14, 15]))
    (.seq
      (.cond (.t 15)
        .skip
        (.exit 0))
      (.seq
        (.block 1
          (.seq
            (.region false [⟨some 16, (.mv (.t 14)), 3, none, 0⟩, ⟨some 6, (.mv (.t 16)), 3, none, 0⟩] (some [1, 2, 5, 6, 13, 14]))
            (.seq
              (.region false [⟨some 17, (.mv (.t 1)), 9, none, 0⟩, ⟨some 18, (.load 27 (.t 2)), 27, none, 0⟩, ⟨some 19, (.mv (.t 6)), 3, none, 0⟩, ⟨some 20, (.mv (.t 6)), 3, none, 0⟩, ⟨some 21, (.call (.f 104) [(.t 17), (.t 18), (.t 19), (.t 20)]), 4, none, 3⟩] (some [1, 2, 5, 6, 13, 14, 21]))
              (.cond (.t 21)
                (.region false [⟨some 22, (.mv (.t 5)), 23, none, 0⟩, ⟨some 23, (.mv (.t 6)), 3, none, 0⟩, ⟨some 24, (.bslice 23 1 [(0, (.t 23))]), 23, none, 0⟩, ⟨some 25, (.app 23 23 (.t 22) (.t 24)), 23, none, 0⟩, ⟨some 5, (.mv (.t 25)), 23, none, 0⟩] (some [1, 2, 5, 13, 14]))
                .skip))))
        (.region false [⟨some 26, (.bin .add 3 (.t 14) (.c (.int .i64 1))), 3, none, 0⟩, ⟨some 14, (.mv (.t 26)), 3, none, 0⟩] (some [1, 2, 5, 13, 14])))))
def fa_135 : FnA := ⟨28, [.t 4],
  (.seq
    (.region false [⟨some 2, (.box 27 (.t 0)), 0, none, 0⟩, ⟨some 4, (.mv (.c .nil)), 23, none, 0⟩] (some [1, 2]))
    (.seq
      (.seq
        (.region false [⟨some 7, (.load 27 (.t 2)), 27, none, 0⟩, ⟨some 8, (.call (.f 23) [(.t 7)]), 4, none, 3⟩, ⟨some 9, (.un .not (.t 8)), 4, none, 0⟩] (some [1, 2, 9]))
        (.cond (.t 9)
          (.seq
            (.region false [⟨some 4, (.mv (.c .nil)), 23, none, 0⟩] (some [4]))
            .ret)
          .skip))
      (.seq
        (.region false [⟨some 10, (.bslice 23 0 []), 23, none, 1⟩, ⟨some 5, (.mv (.t 10)), 23, none, 0⟩] (some [1, 2, 5]))
        (.seq
          (.seq
            (.region false [⟨some 11, (.faddr 27 (.t 2) 0), 0, none, 0⟩, ⟨some 12, (.load 23 (.t 11)), 23, none, 0⟩, ⟨some 13, (.len 23 (.t 12)), 3, none, 0⟩, ⟨some 14, (.mv (.c (.int .i64 0))), 3, none, 0⟩] (some [1, 2, 5, 13, 14]))
            (.block 0
              (.loop [1, 2, 5, 13, 14] [80, 200] lb_135_5)))
          (.seq
            (.region false [⟨some 27, (.mv (.t 5)), 23, none, 0⟩, ⟨some 4, (.mv (.t 27)), 23, none, 0⟩] (some [4]))
            .ret)))))⟩
theorem fok_135 : FnOk Try.prog 135 fa_135 an_135 := ⟨Try.f135, _, Try.func135, rfl, by kernel_rfl, rfl, rfl, by decide, by kernel_rfl⟩
/-- impl.FixedOf -/
def an_60 : Ann := ⟨[(1, 1, 1)], [(0, [1]), (1, [2])], [], []⟩
def fa_60 : FnA := ⟨5, [.t 2],
  (.seq
    (.region false [⟨some 1, (.box 27 (.t 0)), 0, none, 0⟩, ⟨some 2, (.mv (.c .nil)), 23, none, 0⟩] (some [1]))
    (.seq
      (.region false [⟨some 3, (.load 27 (.t 1)), 27, none, 0⟩, ⟨some 4, (.call (.f 135) [(.t 3), (.c (.str [105, 100, 101, 109, 112, 111, 116, 101, 110, 116]))]), 23, none, 1⟩, ⟨some 2, (.mv (.t 4)), 23, none, 0⟩] (some [2]))
      .ret))⟩
theorem fok_60 : FnOk Try.prog 60 fa_60 an_60 := ⟨Try.f60, _, Try.func60, rfl, by kernel_rfl, rfl, rfl, by decide, by kernel_rfl⟩
end Go.PS
end

section
-- Contracts: fixed elements; lists of the laws.
set_option maxRecDepth 100000
set_option linter.unusedVariables false
set_option linter.unusedSimpArgs false
namespace Go.PS
open Go.Proofs

/-- The elements with a property. -/
def elW (n : Nat) (p : Nat → Bool) : List Int := ((List.range n).filter p).map fun (x : Nat) => (x : Int)
theorem elW_succ {n : Nat} {p : Nat → Bool} : elW (n + 1) p = elW n p ++ (if p n then [(n : Int)] else []) := by
  unfold elW
  rw [List.range_succ, List.filter_append, List.map_append]
  cases h : p n <;> simp [h]
theorem elW_len {n : Nat} {p : Nat → Bool} : (elW n p).length ≤ n := by
  unfold elW
  rw [List.length_map]
  have := List.length_filter_le p (List.range n)
  simpa using this

theorem elemsI_pc (u : List Int) (t : List (List Int)) (nm : List UInt8) (hu : Big u.length) (ht : BigR t) : PC Try.prog 135 [AL u t, .str nm] none true (fun r _ => r = IO1 (if VA u t then elW u.length (fun x => hoM u t nm x x) else [])) := by
  have hul := hu.le
  refine pcT [fm_validAlgebraI, fm_holdsI] fok_135 ?_
  by_cases a : VA u t
  · have f := a.tf
    simp [fa_135, hu, ht, a]
    refine loopX (tabK_mono _) u.length (fun i γ => [(5, .arr 80 γ), (14, I64 i)]) (fun i γ => [⟨80, γ, .arr 1 (ints (elW i fun x => hoM u t nm x x))⟩]) (fun _ _ => True) 1 (by simp) (by simp [elW, ints_nil]) trivial (fun i γ g hi _ => ?_)
    simp [lb_135_5, wrap_succ hi hul]
    refine ⟨fun h => ?_, fun h => ?_⟩
    · have hs := elW_succ (n := i) (p := fun x => hoM u t nm x x)
      have hle := elW_len (n := i) (p := fun x => hoM u t nm x x)
      cases hb : hoM u t nm i i
      · rw [hb] at hs
        simp at hs
        simp [h, f, hb, hs, wrap_succ hi hul]
      · rw [hb] at hs
        simp at hs
        simp [h, f, hb, hs, wrap_succ hi hul]
        exact le_big (by omega)
    · obtain rfl : i = u.length := by omega
      simp
  · simp [fa_135, hu, ht, a, ints_nil]
noncomputable def fm_elemsI : Fam Try.prog := mkFam (X := List Int × List (List Int) × List UInt8) 135 true (fun (u, t, nm) => [AL u t, .str nm]) (fun (u, t, nm) => (Big u.length) ∧ (BigR t)) (fun (u, t, nm) => IO1 (if VA u t then elW u.length (fun x => hoM u t nm x x) else [])) (by
  rintro ⟨u, t, nm⟩ ⟨hu, ht⟩
  exact elemsI_pc u t nm hu ht)
@[simp] theorem fm_elemsI_id : fm_elemsI.id = 135 := rfl
@[simp] theorem fm_elemsI_fresh : fm_elemsI.fresh = true := rfl
@[simp] theorem fm_elemsI_look (u : List Int) (t : List (List Int)) (nm : List UInt8) (hu : Big u.length) (ht : BigR t) : fm_elemsI.look [AL u t, .str nm] = some (IO1 (if VA u t then elW u.length (fun x => hoM u t nm x x) else [])) :=
  lookF_of (X := List Int × List (List Int) × List UInt8) (args := fun (u, t, nm) => [AL u t, .str nm]) (pre := fun (u, t, nm) => (Big u.length) ∧ (BigR t)) (val := fun (u, t, nm) => IO1 (if VA u t then elW u.length (fun x => hoM u t nm x x) else [])) (by
  rintro ⟨u, t, nm⟩ ⟨u', t', nm'⟩ h
  simp at h
  try simp only [and_assoc] at h
  obtain ⟨rfl, rfl, rfl⟩ := h
  rfl) (u, t, nm) ⟨hu, ht⟩
attribute [irreducible] fm_elemsI
noncomputable def fixM (u : List Int) (t : List (List Int)) : List Int := if VA u t then elW u.length (fun x => decide (tm t x x = x)) else []
theorem FixedI_pc (u : List Int) (t : List (List Int)) (hu : Big u.length) (ht : BigR t) : PC Try.prog 60 [AL u t] none true (fun r _ => r = IO1 (fixM u t)) := by
  have l1 := fm_elemsI_look u t sIde hu ht
  have e : (fun x => hoM u t sIde x x) = fun x => decide (tm t x x = x) := by funext x; simp [hoM]
  rw [e] at l1
  refine pcT [fm_elemsI] fok_60 ?_
  simp [fa_60]
  refine callO1 fm_elemsI (by simp) (by simp) (v := IO1 (fixM u t)) (by simp; exact l1) ?_
  simp
noncomputable def fm_FixedI : Fam Try.prog := mkFam (X := List Int × List (List Int)) 60 true (fun (u, t) => [AL u t]) (fun (u, t) => (Big u.length) ∧ (BigR t)) (fun (u, t) => IO1 (fixM u t)) (by
  rintro ⟨u, t⟩ ⟨hu, ht⟩
  exact FixedI_pc u t hu ht)
@[simp] theorem fm_FixedI_id : fm_FixedI.id = 60 := rfl
@[simp] theorem fm_FixedI_fresh : fm_FixedI.fresh = true := rfl
@[simp] theorem fm_FixedI_look (u : List Int) (t : List (List Int)) (hu : Big u.length) (ht : BigR t) : fm_FixedI.look [AL u t] = some (IO1 (fixM u t)) :=
  lookF_of (X := List Int × List (List Int)) (args := fun (u, t) => [AL u t]) (pre := fun (u, t) => (Big u.length) ∧ (BigR t)) (val := fun (u, t) => IO1 (fixM u t)) (by
  rintro ⟨u, t⟩ ⟨u', t'⟩ h
  simp at h
  try simp only [and_assoc] at h
  obtain ⟨rfl, rfl⟩ := h
  rfl) (u, t) ⟨hu, ht⟩
attribute [irreducible] fm_FixedI
end Go.PS
end

section
-- The law of fixed elements.
set_option maxRecDepth 100000
set_option linter.unusedVariables false
set_option linter.unusedSimpArgs false
namespace Go.PS
open Go.Proofs

theorem mem_elW {n : Nat} {p : Nat → Bool} {v : Int} : v ∈ elW n p ↔ ∃ x, x < n ∧ p x = true ∧ v = (x : Int) := by
  simp only [elW, List.mem_map, List.mem_filter, List.mem_range]
  constructor
  · rintro ⟨x, ⟨h1, h2⟩, rfl⟩; exact ⟨x, h1, h2, rfl⟩
  · rintro ⟨x, h1, h2, rfl⟩; exact ⟨x, ⟨h1, h2⟩, rfl⟩
theorem elW_all {n : Nat} {p : Nat → Bool} : (elW n p).length = n ↔ ∀ x, x < n → p x = true := by
  unfold elW
  rw [List.length_map]
  have h := List.length_filter_eq_length_iff (l := List.range n) (p := p)
  rw [List.length_range] at h
  rw [h]
  simp

end Go.PS
end

section
-- PRINTED by gen.py: clean texts of functions, and their tie to the program.
set_option maxRecDepth 100000
namespace Go.PS
open Go.Proofs
/-- spec.SharpOf -/
def an_59 : Ann := ⟨[(1, 1, 3), (3, 0, 1), (7, 5, 3), (7, 6, 3)], [(0, [1]), (1, [1, 7]), (2, [2]), (3, [1, 3]), (4, [1, 3, 4]), (5, [1, 3, 4, 13]), (7, [1, 3, 4, 27]), (8, [1, 3, 4]), (6, [1, 3, 4]), (9, [2])], [(5, [1, 3, 4], [64, 248])], []⟩
def lb_59_5 : AC :=
  (.seq
    (.seq
      (.region false [⟨some 9, (.mv (.t 4)), 3, none, 0⟩, ⟨some 10, (.faddr 27 (.t 1) 0), 0, none, 0⟩, ⟨some 11, (.load 23 (.t 10)), 23, none, 0⟩, ⟨some 12, (.len 23 (.t 11)), 3, none, 0⟩, ⟨some 13, (.bin .lss 3 (.t 9) (.t 12)), 4, none, 0⟩] (some [1, 3, 4, 13]))
      (.cond (.t 13)
        .skip
        (.exit 0)))
    (.seq
      (.block 1
        (.seq
          (.region true [⟨some 16, (.faddr 27 (.t 1) 0), 0, none, 0⟩, ⟨some 17, (.load 23 (.t 16)), 23, none, 0⟩, ⟨some 18, (.mv (.t 4)), 3, none, 0⟩, ⟨some 19, (.load 27 (.t 1)), 27, none, 0⟩, ⟨some 20, (.mv (.t 4)), 3, none, 0⟩, ⟨some 21, (.call (.f 137) [(.t 19), (.t 20), (.c (.int .i64 0))]), 3, none, 3⟩, ⟨some 22, (.call (.f 136) [(.t 17), (.t 18), (.t 21)]), 3, none, 3⟩, ⟨some 23, (.faddr 27 (.t 1) 0), 0, none, 0⟩, ⟨some 24, (.load 23 (.t 23)), 23, none, 0⟩, ⟨some 25, (.len 23 (.t 24)), 3, none, 0⟩, ⟨some 26, (.bin .sub 3 (.t 25) (.c (.int .i64 1))), 3, none, 0⟩, ⟨some 27, (.bin .eql 3 (.t 22) (.t 26)), 4, none, 0⟩] (some [1, 3, 4, 27]))
          (.cond (.t 27)
            (.region false [⟨some 28, (.mv (.t 3)), 23, none, 0⟩, ⟨some 29, (.mv (.t 4)), 3, none, 0⟩, ⟨some 30, (.bslice 23 1 [(0, (.t 29))]), 23, none, 0⟩, ⟨some 31, (.app 23 23 (.t 28) (.t 30)), 23, none, 0⟩, ⟨some 3, (.mv (.t 31)), 23, none, 0⟩] (some [1, 3, 4]))
            .skip)))
      (.region false [⟨some 14, (.mv (.t 4)), 3, none, 0⟩, ⟨some 15, (.bin .add 3 (.t 14) (.c (.int .i64 1))), 3, none, 0⟩, ⟨some 4, (.mv (.t 15)), 3, none, 0⟩] (some [1, 3, 4]))))
def fa_59 : FnA := ⟨33, [.t 2],
  (.seq
    (.region false [⟨some 1, (.box 27 (.t 0)), 0, none, 0⟩, ⟨some 2, (.mv (.c .nil)), 23, none, 0⟩] (some [1]))
    (.seq
      (.seq
        (.region false [⟨some 5, (.load 27 (.t 1)), 27, none, 0⟩, ⟨some 6, (.call (.f 111) [(.t 5)]), 4, none, 3⟩, ⟨some 7, (.un .not (.t 6)), 4, none, 0⟩] (some [1, 7]))
        (.cond (.t 7)
          (.seq
            (.region false [⟨some 2, (.mv (.c .nil)), 23, none, 0⟩] (some [2]))
            .ret)
          .skip))
      (.seq
        (.region false [⟨some 8, (.bslice 23 0 []), 23, none, 1⟩, ⟨some 3, (.mv (.t 8)), 23, none, 0⟩] (some [1, 3]))
        (.seq
          (.seq
            (.region false [⟨some 4, (.mv (.c (.int .i64 0))), 3, none, 0⟩] (some [1, 3, 4]))
            (.block 0
              (.loop [1, 3, 4] [64, 248] lb_59_5)))
          (.seq
            (.region false [⟨some 32, (.mv (.t 3)), 23, none, 0⟩, ⟨some 2, (.mv (.t 32)), 23, none, 0⟩] (some [2]))
            .ret)))))⟩
theorem fok_59 : FnOk Try.prog 59 fa_59 an_59 := ⟨Try.f59, _, Try.func59, rfl, by kernel_rfl, rfl, rfl, by decide, by kernel_rfl⟩
/-- impl.SharpOf -/
def an_58 : Ann := ⟨[(1, 1, 1)], [(0, [1]), (1, [2])], [], []⟩
def fa_58 : FnA := ⟨5, [.t 2],
  (.seq
    (.region false [⟨some 1, (.box 27 (.t 0)), 0, none, 0⟩, ⟨some 2, (.mv (.c .nil)), 23, none, 0⟩] (some [1]))
    (.seq
      (.region false [⟨some 3, (.load 27 (.t 1)), 27, none, 0⟩, ⟨some 4, (.call (.f 135) [(.t 3), (.c (.str [98, 111, 111, 108, 101, 97, 110]))]), 23, none, 1⟩, ⟨some 2, (.mv (.t 4)), 23, none, 0⟩] (some [2]))
      .ret))⟩
theorem fok_58 : FnOk Try.prog 58 fa_58 an_58 := ⟨Try.f58, _, Try.func58, rfl, by kernel_rfl, rfl, rfl, by decide, by kernel_rfl⟩
/-- laws.maskOf -/
def an_61 : Ann := ⟨[(5, 5, 3)], [(0, [0]), (1, [0, 3]), (2, [0, 3, 4]), (3, [0, 3, 4, 8]), (5, [0, 3, 4]), (4, [0, 3, 4]), (6, [2])], [(3, [0, 3, 4], [])], []⟩
def lb_61_3 : AC :=
  (.seq
    (.seq
      (.region false [⟨some 5, (.mv (.t 4)), 3, none, 0⟩, ⟨some 6, (.mv (.t 0)), 23, none, 0⟩, ⟨some 7, (.len 23 (.t 6)), 3, none, 0⟩, ⟨some 8, (.bin .lss 3 (.t 5) (.t 7)), 4, none, 0⟩] (some [0, 3, 4, 8]))
      (.cond (.t 8)
        .skip
        (.exit 0)))
    (.seq
      (.block 1
        (.region false [⟨some 11, (.mv (.t 3)), 3, none, 0⟩, ⟨some 12, (.mv (.t 0)), 23, none, 0⟩, ⟨some 13, (.mv (.t 4)), 3, none, 0⟩, ⟨some 14, (.iaddr 23 (.t 12) (.t 13)), 0, none, 0⟩, ⟨some 15, (.load 3 (.t 14)), 3, none, 0⟩, ⟨some 16, (.call (.f 39) [(.t 15)]), 3, none, 3⟩, ⟨some 17, (.bin .or 3 (.t 11) (.t 16)), 3, none, 0⟩, ⟨some 3, (.mv (.t 17)), 3, none, 0⟩] (some [0, 3, 4])))
      (.region false [⟨some 9, (.mv (.t 4)), 3, none, 0⟩, ⟨some 10, (.bin .add 3 (.t 9) (.c (.int .i64 1))), 3, none, 0⟩, ⟨some 4, (.mv (.t 10)), 3, none, 0⟩] (some [0, 3, 4]))))
def fa_61 : FnA := ⟨19, [.t 2],
  (.seq
    (.region false [⟨some 2, (.mv (.c (.int .i64 0))), 3, none, 0⟩] (some [0]))
    (.seq
      (.region false [⟨some 3, (.mv (.c (.int .i64 0))), 3, none, 0⟩] (some [0, 3]))
      (.seq
        (.seq
          (.region false [⟨some 4, (.mv (.c (.int .i64 0))), 3, none, 0⟩] (some [0, 3, 4]))
          (.block 0
            (.loop [0, 3, 4] [] lb_61_3)))
        (.seq
          (.region false [⟨some 18, (.mv (.t 3)), 3, none, 0⟩, ⟨some 2, (.mv (.t 18)), 3, none, 0⟩] (some [2]))
          .ret))))⟩
theorem fok_61 : FnOk Try.prog 61 fa_61 an_61 := ⟨Try.f61, _, Try.func61, rfl, by kernel_rfl, rfl, rfl, by decide, by kernel_rfl⟩
/-- spec.DrawSharpOf -/
def an_57 : Ann := ⟨[(1, 1, 16), (1, 2, 16)], [(0, [0, 2]), (1, [2])], [], []⟩
def fa_57 : FnA := ⟨6, [.c 2 27],
  (.seq
    (.region false [⟨some 2, (.alloc 27), 0, none, 0⟩] (some [0, 2]))
    (.seq
      (.region false [⟨some 3, (.mv (.t 0)), 22, none, 0⟩, ⟨some 4, (.call (.f 90) [(.t 3)]), 72, none, 16⟩, ⟨some 5, (.call (.f 105) [(.t 4)]), 27, none, 16⟩, ⟨none, (.store 27 (.t 2) (.t 5)), 0, none, 0⟩] (some [2]))
      .ret))⟩
theorem fok_57 : FnOk Try.prog 57 fa_57 an_57 := ⟨Try.f57, _, Try.func57, rfl, by kernel_rfl, rfl, rfl, by decide, by kernel_rfl⟩
/-- laws.FnSharpOf -/
def an_11 : Ann := ⟨[(3, 1, 3), (4, 1, 3), (5, 2, 3), (5, 3, 3), (5, 7, 3), (6, 2, 3), (6, 3, 3), (7, 1, 3), (11, 5, 3), (11, 14, 3), (11, 15, 3), (13, 1, 3), (13, 3, 3), (13, 4, 3), (13, 13, 3)], [(0, [0]), (1, [0, 9]), (2, [2]), (3, [3]), (4, [3, 4]), (5, [3, 4, 23]), (6, [2]), (7, [3, 4, 5]), (8, [3, 4, 5, 6]), (9, [3, 4, 5, 6, 33]), (11, [3, 4, 5, 6, 53]), (12, [2]), (10, [3, 4, 5, 6]), (13, [2])], [(9, [3, 4, 5, 6], [24])], []⟩
def lb_11_9 : AC :=
  (.seq
    (.seq
      (.region false [⟨some 30, (.mv (.t 6)), 3, none, 0⟩, ⟨some 31, (.mv (.t 4)), 23, none, 0⟩, ⟨some 32, (.len 23 (.t 31)), 3, none, 0⟩, ⟨some 33, (.bin .lss 3 (.t 30) (.t 32)), 4, none, 0⟩] (some [3, 4, 5, 6, 33]))
      (.cond (.t 33)
        .skip
        (.exit 0)))
    (.seq
      (.block 1
        (.seq
          (.region true (gops [⟨some 36, (.mv (.t 5)), 23, none, 0⟩, ⟨some 37, (.mv (.t 4)), 23, none, 0⟩, ⟨some 38, (.mv (.t 6)), 3, none, 0⟩, ⟨some 39, (.iaddr 23 (.t 37) (.t 38)), 0, none, 0⟩, ⟨some 40, (.load 3 (.t 39)), 3, none, 0⟩, ⟨some 41, (.call (.f 37) [(.t 36), (.t 40)]), 4, none, 3⟩, ⟨some 42, (.un .not (.t 41)), 4, none, 0⟩, ⟨some 43, (.mv (.t 42)), 4, none, 0⟩, ⟨some 44, (.mv (.t 4)), 23, some (43, false), 0⟩, ⟨some 45, (.load 27 (.t 3)), 27, some (43, false), 0⟩, ⟨some 46, (.mv (.t 4)), 23, some (43, false), 0⟩, ⟨some 47, (.mv (.t 6)), 3, some (43, false), 0⟩, ⟨some 48, (.iaddr 23 (.t 46) (.t 47)), 0, some (43, false), 0⟩, ⟨some 49, (.load 3 (.t 48)), 3, some (43, false), 0⟩, ⟨some 50, (.call (.f 46) [(.t 45), (.t 49)]), 3, some (43, false), 3⟩, ⟨some 51, (.call (.f 37) [(.t 44), (.t 50)]), 4, some (43, false), 3⟩, ⟨some 52, (.un .not (.t 51)), 4, some (43, false), 0⟩, ⟨some 53, (.pick (.t 43) (.c (.bool true)) (.t 52)), 4, none, 0⟩]) (some [3, 4, 5, 6, 53]))
          (.cond (.t 53)
            (.seq
              (.region false [⟨some 2, (.mv (.c (.bool false))), 4, none, 0⟩] (some [2]))
              .ret)
            .skip)))
      (.region false [⟨some 34, (.mv (.t 6)), 3, none, 0⟩, ⟨some 35, (.bin .add 3 (.t 34) (.c (.int .i64 1))), 3, none, 0⟩, ⟨some 6, (.mv (.t 35)), 3, none, 0⟩] (some [3, 4, 5, 6]))))
def fa_11 : FnA := ⟨70, [.t 2],
  (.seq
    (.region false [⟨some 2, (.mv (.c (.bool false))), 4, none, 0⟩] (some [0]))
    (.seq
      (.seq
        (.region false [⟨some 7, (.mv (.t 0)), 22, none, 0⟩, ⟨some 8, (.len 22 (.t 7)), 3, none, 0⟩, ⟨some 9, (.bin .gtr 3 (.t 8) (.c (.int .i64 1048576))), 4, none, 0⟩] (some [0, 9]))
        (.cond (.t 9)
          (.seq
            (.region false [⟨some 2, (.mv (.c (.bool true))), 4, none, 0⟩] (some [2]))
            .ret)
          .skip))
      (.seq
        (.region false [⟨some 10, (.mv (.t 0)), 22, none, 0⟩, ⟨some 11, (.call (.f 57) [(.t 10)]), 27, none, 3⟩, ⟨some 3, (.alloc 27), 0, none, 0⟩, ⟨none, (.store 27 (.t 3) (.t 11)), 0, none, 0⟩] (some [3]))
        (.seq
          (.region false [⟨some 12, (.load 27 (.t 3)), 27, none, 0⟩, ⟨some 13, (.call (.f 58) [(.t 12)]), 23, none, 3⟩, ⟨some 4, (.mv (.t 13)), 23, none, 0⟩] (some [3, 4]))
          (.seq
            (.seq
              (.region false (gops [⟨some 14, (.mv (.t 4)), 23, none, 0⟩, ⟨some 15, (.load 27 (.t 3)), 27, none, 0⟩, ⟨some 16, (.call (.f 59) [(.t 15)]), 23, none, 3⟩, ⟨some 17, (.call (.f 25) [(.t 14), (.t 16)]), 4, none, 3⟩, ⟨some 18, (.un .not (.t 17)), 4, none, 0⟩, ⟨some 19, (.mv (.t 18)), 4, none, 0⟩, ⟨some 20, (.load 27 (.t 3)), 27, some (19, false), 0⟩, ⟨some 21, (.call (.f 23) [(.t 20)]), 4, some (19, false), 3⟩, ⟨some 22, (.un .not (.t 21)), 4, some (19, false), 0⟩, ⟨some 23, (.pick (.t 19) (.c (.bool true)) (.t 22)), 4, none, 0⟩]) (some [3, 4, 23]))
              (.cond (.t 23)
                (.seq
                  (.region false [⟨some 24, (.mv (.t 4)), 23, none, 0⟩, ⟨some 25, (.load 27 (.t 3)), 27, none, 0⟩, ⟨some 26, (.call (.f 59) [(.t 25)]), 23, none, 3⟩, ⟨some 27, (.call (.f 25) [(.t 24), (.t 26)]), 4, none, 3⟩, ⟨some 2, (.mv (.t 27)), 4, none, 0⟩] (some [2]))
                  .ret)
                .skip))
            (.seq
              (.region false [⟨some 28, (.load 27 (.t 3)), 27, none, 0⟩, ⟨some 29, (.call (.f 60) [(.t 28)]), 23, none, 3⟩, ⟨some 5, (.mv (.t 29)), 23, none, 0⟩] (some [3, 4, 5]))
              (.seq
                (.seq
                  (.region false [⟨some 6, (.mv (.c (.int .i64 0))), 3, none, 0⟩] (some [3, 4, 5, 6]))
                  (.block 0
                    (.loop [3, 4, 5, 6] [24] lb_11_9)))
                (.seq
                  (.region true (gops [⟨some 54, (.load 27 (.t 3)), 27, none, 0⟩, ⟨some 55, (.call (.f 41) [(.t 54)]), 23, none, 3⟩, ⟨some 56, (.mv (.t 4)), 23, none, 0⟩, ⟨some 57, (.call (.f 61) [(.t 56)]), 3, none, 3⟩, ⟨some 58, (.call (.f 37) [(.t 55), (.t 57)]), 4, none, 3⟩, ⟨some 59, (.mv (.t 58)), 4, none, 0⟩, ⟨some 60, (.mv (.t 4)), 23, some (59, true), 0⟩, ⟨some 61, (.len 23 (.t 60)), 3, some (59, true), 0⟩, ⟨some 62, (.faddr 27 (.t 3) 0), 0, some (59, true), 0⟩, ⟨some 63, (.load 23 (.t 62)), 23, some (59, true), 0⟩, ⟨some 64, (.len 23 (.t 63)), 3, some (59, true), 0⟩, ⟨some 65, (.bin .eql 3 (.t 61) (.t 64)), 4, some (59, true), 0⟩, ⟨some 66, (.load 27 (.t 3)), 27, some (59, true), 0⟩, ⟨some 67, (.call (.f 24) [(.c (.str [98, 111, 111, 108, 101, 97, 110])), (.t 66)]), 4, some (59, true), 3⟩, ⟨some 68, (.bin .eql 4 (.t 65) (.t 67)), 4, some (59, true), 0⟩, ⟨some 69, (.pick (.t 59) (.t 68) (.c (.bool false))), 4, none, 0⟩, ⟨some 2, (.mv (.t 69)), 4, none, 0⟩]) (some [2]))
                  .ret))))))))⟩
theorem fok_11 : FnOk Try.prog 11 fa_11 an_11 := ⟨Try.f11, _, Try.func11, rfl, by kernel_rfl, rfl, rfl, by decide, by kernel_rfl⟩
end Go.PS
end

section
-- The law of sharp elements.
set_option maxRecDepth 100000
set_option linter.unusedVariables false
set_option linter.unusedSimpArgs false
namespace Go.PS
open Go.Proofs

noncomputable def shpM (u : List Int) (t : List (List Int)) : List Int := if VA u t then elW u.length (fun x => decide (joinM u x (implyM u t x 0).toNat = (u.length : Int) - 1)) else []
theorem SharpI_pc (u : List Int) (t : List (List Int)) (hu : Big u.length) (ht : BigR t) : PC Try.prog 58 [AL u t] none true (fun r _ => r = IO1 (shpM u t)) := by
  have l1 := fm_elemsI_look u t sBoo hu ht
  have e : (fun x => hoM u t sBoo x x) = fun x => decide (joinM u x (implyM u t x 0).toNat = (u.length : Int) - 1) := by funext x; simp [hoM]
  rw [e] at l1
  refine pcT [fm_elemsI] fok_58 ?_
  simp [fa_58]
  refine callO1 fm_elemsI (by simp) (by simp) (v := IO1 (shpM u t)) (by simp; exact l1) ?_
  simp
noncomputable def fm_SharpI : Fam Try.prog := mkFam (X := List Int × List (List Int)) 58 true (fun (u, t) => [AL u t]) (fun (u, t) => (Big u.length) ∧ (BigR t)) (fun (u, t) => IO1 (shpM u t)) (by
  rintro ⟨u, t⟩ ⟨hu, ht⟩
  exact SharpI_pc u t hu ht)
@[simp] theorem fm_SharpI_id : fm_SharpI.id = 58 := rfl
@[simp] theorem fm_SharpI_fresh : fm_SharpI.fresh = true := rfl
@[simp] theorem fm_SharpI_look (u : List Int) (t : List (List Int)) (hu : Big u.length) (ht : BigR t) : fm_SharpI.look [AL u t] = some (IO1 (shpM u t)) :=
  lookF_of (X := List Int × List (List Int)) (args := fun (u, t) => [AL u t]) (pre := fun (u, t) => (Big u.length) ∧ (BigR t)) (val := fun (u, t) => IO1 (shpM u t)) (by
  rintro ⟨u, t⟩ ⟨u', t'⟩ h
  simp at h
  try simp only [and_assoc] at h
  obtain ⟨rfl, rfl⟩ := h
  rfl) (u, t) ⟨hu, ht⟩
attribute [irreducible] fm_SharpI
theorem SharpS_pc (u : List Int) (t : List (List Int)) (hu : Big u.length) (ht : BigR t) : PC Try.prog 59 [AL u t] none true (fun r _ => r = IO1 (shpM u t)) := by
  have hul := hu.le
  refine pcT [fm_validAlgebraS, fm_implyS, fm_joinS] fok_59 ?_
  unfold shpM
  by_cases a : VA u t
  · have f := a.tf
    have v := a.lat
    have hp := v.pos
    have w1 : IntKind.i64.wrap ((u.length : Int) - 1) = u.length - 1 := wrap64 (by omega) (by omega)
    simp [fa_59, hu, ht, a]
    refine loopX (tabK_mono _) u.length (fun i γ => [(3, .arr 64 γ), (4, I64 i)]) (fun i γ => [⟨64, γ, .arr 1 (ints (elW i fun x => decide (joinM u x (implyM u t x 0).toNat = (u.length : Int) - 1)))⟩]) (fun _ _ => True) 1 (by simp) (by simp [elW, ints_nil]) trivial (fun i γ g hi _ => ?_)
    simp [lb_59_5, wrap_succ hi hul]
    refine ⟨fun h => ?_, fun h => ?_⟩
    · have hs := elW_succ (n := i) (p := fun x => decide (joinM u x (implyM u t x 0).toNat = (u.length : Int) - 1))
      have hle := elW_len (n := i) (p := fun x => decide (joinM u x (implyM u t x 0).toNat = (u.length : Int) - 1))
      have r1 := v.imply_rng (t := t) (x := i) (y := 0)
      have r2 : (implyM u t i 0).toNat < u.length := by omega
      by_cases hb : joinM u i (implyM u t i 0).toNat = (u.length : Int) - 1
      · simp [hb] at hs
        simp [h, f, v.sm, hp, r1, r2, w1, hb, hs, wrap_succ hi hul]
        exact leBig (by omega)
      · simp [hb] at hs
        simp [h, f, v.sm, hp, r1, r2, w1, hb, hs, wrap_succ hi hul]
    · obtain rfl : i = u.length := by omega
      simp
  · simp [fa_59, hu, ht, a, ints_nil]
noncomputable def fm_SharpS : Fam Try.prog := mkFam (X := List Int × List (List Int)) 59 true (fun (u, t) => [AL u t]) (fun (u, t) => (Big u.length) ∧ (BigR t)) (fun (u, t) => IO1 (shpM u t)) (by
  rintro ⟨u, t⟩ ⟨hu, ht⟩
  exact SharpS_pc u t hu ht)
@[simp] theorem fm_SharpS_id : fm_SharpS.id = 59 := rfl
@[simp] theorem fm_SharpS_fresh : fm_SharpS.fresh = true := rfl
@[simp] theorem fm_SharpS_look (u : List Int) (t : List (List Int)) (hu : Big u.length) (ht : BigR t) : fm_SharpS.look [AL u t] = some (IO1 (shpM u t)) :=
  lookF_of (X := List Int × List (List Int)) (args := fun (u, t) => [AL u t]) (pre := fun (u, t) => (Big u.length) ∧ (BigR t)) (val := fun (u, t) => IO1 (shpM u t)) (by
  rintro ⟨u, t⟩ ⟨u', t'⟩ h
  simp at h
  try simp only [and_assoc] at h
  obtain ⟨rfl, rfl⟩ := h
  rfl) (u, t) ⟨hu, ht⟩
attribute [irreducible] fm_SharpS
/-- Numbers as a set. -/
def orL (l : List Int) : Nat := l.foldl (fun o x => o ||| 2 ^ x.toNat) 0
theorem orL_snoc {l : List Int} {x : Int} : orL (l ++ [x]) = orL l ||| 2 ^ x.toNat := by simp [orL, List.foldl_append]
theorem orL_lt : ∀ {l : List Int}, (∀ x ∈ l, 0 ≤ x ∧ x < 6) → orL l < 2 ^ 6 := by
  intro l
  have key : ∀ (l : List Int) (o : Nat), o < 2 ^ 6 → (∀ x ∈ l, 0 ≤ x ∧ x < 6) → l.foldl (fun o x => o ||| 2 ^ x.toNat) o < 2 ^ 6 := by
    intro l
    induction l with
    | nil => intro o h _; exact h
    | cons x l ih =>
      intro o h hl
      refine ih _ (Nat.or_lt_two_pow h (Nat.pow_lt_pow_right (by omega) ?_)) (fun y hy => hl y (by simp [hy]))
      have := hl x (by simp)
      omega
  exact fun h => key l 0 (by decide) h
theorem orL_elW {p : Nat → Bool} : ∀ n : Nat, orL (elW n p) = mskN n p
  | 0 => rfl
  | n + 1 => by
    rw [elW_succ, mskN_succ]
    cases h : p n
    · simp [orL_elW n]
    · simp [orL_snoc, orL_elW n]
theorem maskL_pc (l : List Int) (hl : Big l.length) (hr : ∀ x ∈ l, 0 ≤ x ∧ x < 6) : PC Try.prog 61 [IL l] none true (fun r _ => r = I64 (orL l : Nat)) := by
  have hl := hl.le
  refine pcT [fm_powerL] fok_61 ?_
  simp [fa_61]
  refine loopA (tabK_mono _) l.length (fun i => [(3, I64 (orL (l.take i) : Nat)), (4, I64 i)]) (fun _ => []) (fun _ => True) (by simp [orL]) (by simp) (fun i g hi _ => ?_)
  simp [lb_61_3, wrap_succ hi hl]
  refine ⟨fun h => ?_, fun h => by rw [List.take_of_length_le h]⟩
  have r := hr _ (gi_mem h)
  have h1 := orL_lt (l := l.take i) (fun x hx => hr x (List.mem_of_mem_take hx))
  have e1 : orL (l.take (i + 1)) = orL (l.take i) ||| 2 ^ (gi l i).toNat := by
    rw [List.take_succ_eq_append_getElem h, orL_snoc]
    simp [gi, List.getElem?_eq_getElem h]
  have h2 : 2 ^ (gi l i).toNat < 2 ^ 6 := Nat.pow_lt_pow_right (by omega) (by omega)
  have e2 := or_nat (a := orL (l.take i)) (b := 2 ^ (gi l i).toNat) (by omega) (by omega)
  rw [← e1, ← p2i] at e2
  simp [h, r, show gi l i ≤ 61 by omega, e2, wrap_succ hi hl]
noncomputable def fm_maskL : Fam Try.prog := mkFam (X := List Int) 61 true (fun l => [IL l]) (fun l => (Big l.length) ∧ (∀ x ∈ l, 0 ≤ x ∧ x < 6)) (fun l => I64 (orL l : Nat)) (by
  rintro l ⟨hl, hr⟩
  exact maskL_pc l hl hr)
@[simp] theorem fm_maskL_id : fm_maskL.id = 61 := rfl
@[simp] theorem fm_maskL_fresh : fm_maskL.fresh = true := rfl
@[simp] theorem fm_maskL_look (l : List Int) (hl : Big l.length) (hr : ∀ x ∈ l, 0 ≤ x ∧ x < 6) : fm_maskL.look [IL l] = some (I64 (orL l : Nat)) :=
  lookF_of (X := List Int) (args := fun l => [IL l]) (pre := fun l => (Big l.length) ∧ (∀ x ∈ l, 0 ≤ x ∧ x < 6)) (val := fun l => I64 (orL l : Nat)) (by
  intro l l' h
  simp at h
  subst h
  rfl) l ⟨hl, hr⟩
attribute [irreducible] fm_maskL
theorem drSh_pc (c : List Int) (hc : Byt c) (hl : Big c.length) : PC Try.prog 57 [BL c] none false (fun r _ => r = AL (saM (rdB c) 0).1.1 (saM (rdB c) 0).1.2) := by
  have hl := hl.le
  have hb := rdB_ok hc
  have l1 := fw_someAlg_look (rdB c) 0 hb (by omega) (by omega)
  refine pcR [] [fw_someAlg] fok_57 ?_
  generalize saM (rdB c) 0 = A at *
  obtain ⟨⟨u, t⟩, p1⟩ := A
  dsimp only at *
  simp [fa_57]
  refine newR hl ?_
  simp [callOWR, l1]
noncomputable def fm_drSh : Fam Try.prog := mkFam (X := List Int) 57 false (fun c => [BL c]) (fun c => (Byt c) ∧ (Big c.length)) (fun c => AL (saM (rdB c) 0).1.1 (saM (rdB c) 0).1.2) (by
  rintro c ⟨hc, hl⟩
  exact drSh_pc c hc hl)
@[simp] theorem fm_drSh_id : fm_drSh.id = 57 := rfl
@[simp] theorem fm_drSh_fresh : fm_drSh.fresh = false := rfl
@[simp] theorem fm_drSh_look (c : List Int) (hc : Byt c) (hl : Big c.length) : fm_drSh.look [BL c] = some (AL (saM (rdB c) 0).1.1 (saM (rdB c) 0).1.2) :=
  lookF_of (X := List Int) (args := fun c => [BL c]) (pre := fun c => (Byt c) ∧ (Big c.length)) (val := fun c => AL (saM (rdB c) 0).1.1 (saM (rdB c) 0).1.2) (by
  intro c c' h
  simp at h
  subst h
  rfl) c ⟨hc, hl⟩
attribute [irreducible] fm_drSh
theorem hoBo {u : List Int} {t : List (List Int)} (a : VA u t) {x y : Nat} (hx : x < u.length) : hoM u t sBoo x y = true ↔ BO u t x := by
  have h := a.lat.jo_int hx (a.im_lt (x := x) (y := 0))
  have hp := a.lat.pos
  simp only [hoM, show ¬ (sBoo = sPre) by decide, show ¬ (sBoo = sDiv) by decide, show ¬ (sBoo = sInv) by decide, show ¬ (sBoo = sIde) by decide, if_false, if_true, decide_eq_true_eq]
  rw [show joinM u x (implyM u t x 0).toNat = _ from h]
  unfold BO
  omega
theorem shp_iff {u : List Int} {t : List (List Int)} (a : VA u t) {x : Nat} (hx : x < u.length) : (joinM u x (implyM u t x 0).toNat = (u.length : Int) - 1) ↔ BO u t x := by
  have h := a.lat.jo_int hx (a.im_lt (x := x) (y := 0))
  have hp := a.lat.pos
  rw [show joinM u x (implyM u t x 0).toNat = _ from h]
  unfold BO
  omega
set_option maxHeartbeats 2000000 in
theorem FnSharpOf_pc (c : List Int) (hl : Hu c.length) (hc : Byt c) : PC Try.prog 11 [BL c] none true (fun r _ => r = .bool true) := by
  have hl' := hl.le
  refine pcT [fm_drSh, fm_SharpI, fm_SharpS, fm_eqInts, fm_validAlgebraI, fm_isInL, fm_FixedI, fm_NotI, fm_PrtI, fm_maskL, fm_HasI] fok_11 ?_
  rcases Nat.lt_or_ge 1048576 c.length with q | q
  · simp [fa_11, show ((1048576 : Int) < c.length) by omega]
  · have hbig : Big c.length := by unfold Big; omega
    have l1 := fm_drSh_look c hc hbig
    obtain ⟨g, _⟩ := saM_few (rdB_ok hc) (p := 0) (by omega)
    have hu := g.big
    have ht := g.bigR
    generalize saM (rdB c) 0 = A at *
    obtain ⟨⟨u, t⟩, p1⟩ := A
    dsimp only at *
    have hul := hu.le
    have hfl : (shpM u t).length ≤ u.length := by
      unfold shpM; split
      · exact elW_len
      · simp
    have hfb : Big (shpM u t).length := by unfold Big; omega
    simp [fa_11, show ¬ ((1048576 : Int) < c.length) by omega, show ((c.length : Int) ≤ 1048576) by omega, l1, hu, ht]
    refine cutW (tabK_mono _) [(23, .bool (!decide (VA u t)))] (by simp [hu, ht, hfb]) ?_
    simp [hu, ht, hfb]
    refine fun a => ?_
    have v := a.lat
    have h6 := v.six
    have h64 := p2le h6
    have eS : shpM u t = elW u.length (fun x => decide (joinM u x (implyM u t x 0).toNat = (u.length : Int) - 1)) := by unfold shpM; rw [if_pos a]
    have hmem : ∀ {w : Int}, w ∈ shpM u t ↔ ∃ x, x < u.length ∧ BO u t x ∧ w = (x : Int) := fun {w} => by
      rw [eS, mem_elW]
      constructor
      · rintro ⟨x, h1, h2, h3⟩
        exact ⟨x, h1, (shp_iff a h1).1 (of_decide_eq_true h2), h3⟩
      · rintro ⟨x, h1, h2, h3⟩
        exact ⟨x, h1, decide_eq_true ((shp_iff a h1).2 h2), h3⟩
    have hor : orL (shpM u t) = shN u t := by
      rw [eS, orL_elW]
      unfold shN
      apply Nat.eq_of_testBit_eq
      intro x
      rw [mskN_bit, mskN_bit]
      by_cases hx : x < u.length
      · rw [Bool.eq_iff_iff, Bool.and_eq_true, Bool.and_eq_true, decide_eq_true_eq, decide_eq_true_eq, decide_eq_true_eq, shp_iff a hx]
        rfl
      · simp [hx]
    have hlen : ((shpM u t).length = u.length) ↔ hasA u t sBoo = true := by
      rw [eS, elW_all, hasA_iff]
      constructor
      · intro h x hx y hy
        exact (hoBo a hx).2 ((shp_iff a hx).1 (of_decide_eq_true (h x hx)))
      · intro h x hx
        exact decide_eq_true ((shp_iff a hx).2 ((hoBo a hx).1 (h x hx x hx)))
    have hI : hasM u t sBoo = hasA u t sBoo := by simp [hasM, a, propM]
    have hfix : ∀ {w : Int}, w ∈ fixM u t ↔ ∃ x, x < u.length ∧ tm t x x = x ∧ w = (x : Int) := fun {w} => by
      unfold fixM
      rw [if_pos a, mem_elW]; simp
    have hfxl : Big (fixM u t).length := by
      have : (fixM u t).length ≤ u.length := by
        unfold fixM; rw [if_pos a]
        exact elW_len
      unfold Big; omega
    have hpt : Big (prtR u t).length := by
      unfold prtR Big
      rw [if_pos a]
      have := prtN_len (u := u) (t := t) (m := 2 ^ u.length)
      simp; omega
    have hptm : ((shN u t : Nat) : Int) ∈ prtR u t := by
      unfold prtR
      rw [if_pos a, mem_natL_nat, mem_prt]
      exact pt_sharp a
    have k1 := fm_maskL_look (shpM u t) hfb (fun x hx => by
      obtain ⟨y, hy, _, rfl⟩ := hmem.1 hx
      omega)
    have k2 := fm_isInL_look (prtR u t) (shN u t : Nat) hpt
    rw [decide_eq_true hptm] at k2
    rw [hor] at k1
    have m1 := fm_HasI_look sBoo u t hu ht
    rw [hI] at m1
    have k4 := fm_PrtI_look u t hu ht
    generalize prtR u t = pl at *
    generalize shN u t = sn at *
    generalize fixM u t = fx at *
    generalize shpM u t = l at *
    refine loopA (tabK_mono _) l.length (fun i => [(6, I64 i)]) (fun _ => [⟨24, 1, .cells [IL u, RL t]⟩]) (fun _ => True) (by simp) (by simp) (fun i g hi _ => ?_)
    simp [lb_11_9, wrap_succ hi (show l.length ≤ 1099511627776 by omega)]
    refine ⟨fun h1 => ?_, fun h1 => ?_⟩
    · obtain ⟨x, hx, bx, ex⟩ := hmem.1 (gi_mem h1)
      have hn := a.im_lt (x := x) (y := 0)
      have i1 : (x : Int) ∈ fx := hfix.2 ⟨x, hx, by rw [a.tn_int hx hx, a.bo_id hx bx], rfl⟩
      have i2 : ((im u t x 0 : Nat) : Int) ∈ l := hmem.2 ⟨_, hn, a.bo_not hx bx, rfl⟩
      have j1 := fm_isInL_look fx (x : Int) hfxl
      have j2 := fm_isInL_look l (im u t x 0 : Nat) hfb
      have j3 := fm_NotI_look u t x hu ht
      rw [decide_eq_true i1] at j1
      rw [decide_eq_true i2] at j2
      rw [NoM_nat a hx] at j3
      generalize im u t x 0 = z at *
      refine cutWc (tabK_mono _) [(53, .bool false)] (by simp [h1, ex, j1, j2, j3]) ?_
      simp [wrap_succ hi (show l.length ≤ 1099511627776 by omega), h1]
    · have hb : (decide ((l.length : Int) = u.length)) = hasA u t sBoo := by
        rw [Bool.eq_iff_iff, ← hlen, decide_eq_true_eq]; omega
      refine cutWc (tabK_mono _) [(2, .bool true)] (by
        simp [k1, k2, k4, m1]
        exact hb) ?_
      simp
end Go.PS
end
