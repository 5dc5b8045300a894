/- Part 3 of what the last text proves: Maps keep opposites: the law holds at every input. -/
import Derived.Test.YthbdihoacfhflaaRb2
section
-- Contracts: implications, nearness, powers; orders, meets and joins, of any numbers.
set_option maxRecDepth 100000
set_option linter.unusedVariables false
set_option linter.unusedSimpArgs false
namespace Go.PS
open Go.Proofs

/-- Is a number an element? -/
def inE (n : Nat) (x : Int) : Bool := decide (0 ≤ x ∧ x < n)
theorem inE_iff {n : Nat} {x : Int} : inE n x = true ↔ 0 ≤ x ∧ x.toNat < n := by simp [inE]; omega
theorem inE_rng {n : Nat} {x : Int} : (decide (0 ≤ x) && decide (x ≤ (n : Int) - 1)) = inE n x := by
  rw [Bool.eq_iff_iff]; simp [inE]; omega
theorem allE_two {n : Nat} {x y : Int} : decide (allE [x, y] n) = (inE n x && inE n y) := by
  rw [Bool.eq_iff_iff]; simp [allE, inE]
theorem allE_one {n : Nat} {x : Int} : decide (allE [x] n) = inE n x := by
  rw [Bool.eq_iff_iff]; simp [allE, inE]

theorem hasS_pc (u : List Int) (t : List (List Int)) (x y : Int) (hu : Big u.length) (ht : BigR t) : PC Try.prog 125 [AL u t, I64 x, I64 y] none true (fun r _ => r = .bool (decide (VA u t) && (inE u.length x && inE u.length y))) := by
  have hl := hu.le
  have w1 : IntKind.i64.wrap ((u.length : Int) - 1) = u.length - 1 := wrap64 (by omega) (by omega)
  refine pcT [fm_validAlgebraS, fm_inRange] fok_125 ?_
  simp [fa_125]
  refine cutW (tabK_mono _) [(6, .bool (decide (VA u t) && (inE u.length x && inE u.length y)))] (by
    rw [← inE_rng, ← inE_rng]
    cases hb : decide (VA u t)
    · simp [hu, ht, hb]
    · cases hb2 : (decide (0 ≤ x) && decide (x ≤ (u.length : Int) - 1))
      · simp [hu, ht, hb, w1, hb2]
      · simp [hu, ht, hb, w1, hb2]) ?_
  simp
noncomputable def fm_hasS : Fam Try.prog := mkFam (X := List Int × List (List Int) × Int × Int) 125 true (fun (u, t, x, y) => [AL u t, I64 x, I64 y]) (fun (u, t, x, y) => (Big u.length) ∧ (BigR t)) (fun (u, t, x, y) => .bool (decide (VA u t) && (inE u.length x && inE u.length y))) (by
  rintro ⟨u, t, x, y⟩ ⟨hu, ht⟩
  exact hasS_pc u t x y hu ht)
@[simp] theorem fm_hasS_id : fm_hasS.id = 125 := rfl
@[simp] theorem fm_hasS_fresh : fm_hasS.fresh = true := rfl
@[simp] theorem fm_hasS_look (u : List Int) (t : List (List Int)) (x y : Int) (hu : Big u.length) (ht : BigR t) : fm_hasS.look [AL u t, I64 x, I64 y] = some (.bool (decide (VA u t) && (inE u.length x && inE u.length y))) :=
  lookF_of (X := List Int × List (List Int) × Int × Int) (args := fun (u, t, x, y) => [AL u t, I64 x, I64 y]) (pre := fun (u, t, x, y) => (Big u.length) ∧ (BigR t)) (val := fun (u, t, x, y) => .bool (decide (VA u t) && (inE u.length x && inE u.length y))) (by
  rintro ⟨u, t, x, y⟩ ⟨u', t', x', y'⟩ h
  simp at h
  try simp only [and_assoc] at h
  obtain ⟨rfl, rfl, rfl, rfl⟩ := h
  rfl) (u, t, x, y) ⟨hu, ht⟩
attribute [irreducible] fm_hasS

theorem nearS_pc (u : List Int) (t : List (List Int)) (x y : Int) (f : TF u t) (hx0 : 0 ≤ x) (hx : x.toNat < u.length) (hy0 : 0 ≤ y) (hy : y.toNat < u.length) : PC Try.prog 176 [AL u t, I64 x, I64 y] none true (fun r _ => r = I64 (tm t (implyM u t x.toNat y.toNat).toNat (implyM u t y.toNat x.toNat).toNat)) := by
  have v := f.lat
  have r1 := v.imply_rng (t := t) (x := x.toNat) (y := y.toNat)
  have r2 := v.imply_rng (t := t) (x := y.toNat) (y := x.toNat)
  refine pcT [fm_implyS] fok_176 ?_
  simp [fa_176, f, hx0, hx, hy0, hy, r1, r2, f.len, f.rows, show (implyM u t x.toNat y.toNat).toNat < u.length by omega]
noncomputable def fm_nearS : Fam Try.prog := mkFam (X := List Int × List (List Int) × Int × Int) 176 true (fun (u, t, x, y) => [AL u t, I64 x, I64 y]) (fun (u, t, x, y) => (TF u t) ∧ (0 ≤ x) ∧ (x.toNat < u.length) ∧ (0 ≤ y) ∧ (y.toNat < u.length)) (fun (u, t, x, y) => I64 (tm t (implyM u t x.toNat y.toNat).toNat (implyM u t y.toNat x.toNat).toNat)) (by
  rintro ⟨u, t, x, y⟩ ⟨f, hx0, hx, hy0, hy⟩
  exact nearS_pc u t x y f hx0 hx hy0 hy)
@[simp] theorem fm_nearS_id : fm_nearS.id = 176 := rfl
@[simp] theorem fm_nearS_fresh : fm_nearS.fresh = true := rfl
@[simp] theorem fm_nearS_look (u : List Int) (t : List (List Int)) (x y : Int) (f : TF u t) (hx0 : 0 ≤ x) (hx : x.toNat < u.length) (hy0 : 0 ≤ y) (hy : y.toNat < u.length) : fm_nearS.look [AL u t, I64 x, I64 y] = some (I64 (tm t (implyM u t x.toNat y.toNat).toNat (implyM u t y.toNat x.toNat).toNat)) :=
  lookF_of (X := List Int × List (List Int) × Int × Int) (args := fun (u, t, x, y) => [AL u t, I64 x, I64 y]) (pre := fun (u, t, x, y) => (TF u t) ∧ (0 ≤ x) ∧ (x.toNat < u.length) ∧ (0 ≤ y) ∧ (y.toNat < u.length)) (val := fun (u, t, x, y) => I64 (tm t (implyM u t x.toNat y.toNat).toNat (implyM u t y.toNat x.toNat).toNat)) (by
  rintro ⟨u, t, x, y⟩ ⟨u', t', x', y'⟩ h
  simp at h
  try simp only [and_assoc] at h
  obtain ⟨rfl, rfl, rfl, rfl⟩ := h
  rfl) (u, t, x, y) ⟨f, hx0, hx, hy0, hy⟩
attribute [irreducible] fm_nearS
theorem nearI_pc (u : List Int) (t : List (List Int)) (x y : Int) (f : TF u t) (hx0 : 0 ≤ x) (hx : x.toNat < u.length) (hy0 : 0 ≤ y) (hy : y.toNat < u.length) : PC Try.prog 134 [AL u t, I64 x, I64 y] none true (fun r _ => r = I64 (tm t (implyM u t x.toNat y.toNat).toNat (implyM u t y.toNat x.toNat).toNat)) := by
  have v := f.lat
  have r1 := v.imply_rng (t := t) (x := x.toNat) (y := y.toNat)
  have r2 := v.imply_rng (t := t) (x := y.toNat) (y := x.toNat)
  refine pcT [fm_implyI] fok_134 ?_
  simp [fa_134, f, hx0, hx, hy0, hy, r1, r2, f.len, f.rows, show (implyM u t x.toNat y.toNat).toNat < u.length by omega]
noncomputable def fm_nearI : Fam Try.prog := mkFam (X := List Int × List (List Int) × Int × Int) 134 true (fun (u, t, x, y) => [AL u t, I64 x, I64 y]) (fun (u, t, x, y) => (TF u t) ∧ (0 ≤ x) ∧ (x.toNat < u.length) ∧ (0 ≤ y) ∧ (y.toNat < u.length)) (fun (u, t, x, y) => I64 (tm t (implyM u t x.toNat y.toNat).toNat (implyM u t y.toNat x.toNat).toNat)) (by
  rintro ⟨u, t, x, y⟩ ⟨f, hx0, hx, hy0, hy⟩
  exact nearI_pc u t x y f hx0 hx hy0 hy)
@[simp] theorem fm_nearI_id : fm_nearI.id = 134 := rfl
@[simp] theorem fm_nearI_fresh : fm_nearI.fresh = true := rfl
@[simp] theorem fm_nearI_look (u : List Int) (t : List (List Int)) (x y : Int) (f : TF u t) (hx0 : 0 ≤ x) (hx : x.toNat < u.length) (hy0 : 0 ≤ y) (hy : y.toNat < u.length) : fm_nearI.look [AL u t, I64 x, I64 y] = some (I64 (tm t (implyM u t x.toNat y.toNat).toNat (implyM u t y.toNat x.toNat).toNat)) :=
  lookF_of (X := List Int × List (List Int) × Int × Int) (args := fun (u, t, x, y) => [AL u t, I64 x, I64 y]) (pre := fun (u, t, x, y) => (TF u t) ∧ (0 ≤ x) ∧ (x.toNat < u.length) ∧ (0 ≤ y) ∧ (y.toNat < u.length)) (val := fun (u, t, x, y) => I64 (tm t (implyM u t x.toNat y.toNat).toNat (implyM u t y.toNat x.toNat).toNat)) (by
  rintro ⟨u, t, x, y⟩ ⟨u', t', x', y'⟩ h
  simp at h
  try simp only [and_assoc] at h
  obtain ⟨rfl, rfl, rfl, rfl⟩ := h
  rfl) (u, t, x, y) ⟨f, hx0, hx, hy0, hy⟩
attribute [irreducible] fm_nearI

noncomputable def NoM (u : List Int) (t : List (List Int)) (x : Int) : Int := if decide (VA u t) && inE u.length x then implyM u t x.toNat 0 else -1
noncomputable def NeM (u : List Int) (t : List (List Int)) (x y : Int) : Int := if decide (VA u t) && (inE u.length x && inE u.length y) then tm t (implyM u t x.toNat y.toNat).toNat (implyM u t y.toNat x.toNat).toNat else -1
theorem NotI_pc (u : List Int) (t : List (List Int)) (x : Int) (hu : Big u.length) (ht : BigR t) : PC Try.prog 46 [AL u t, I64 x] none true (fun r _ => r = I64 (NoM u t x)) := by
  have l1 : fm_atI.look [AL u t, .list 1 [.int .i64 x]] = some (.bool (decide (VA u t) && decide (allE [x] u.length))) := fm_atI_look u t [x] hu ht (by unfold Big; simp)
  rw [allE_one] at l1
  refine pcT [fm_atI, fm_notI] fok_46 ?_
  unfold NoM
  cases hb : (decide (VA u t) && inE u.length x)
  · rw [hb] at l1
    simp [fa_46, l1, show List.range 1 = [0] from rfl]
  · have h := hb
    rw [hb] at l1
    simp only [Bool.and_eq_true, decide_eq_true_eq, inE_iff] at h
    simp [fa_46, l1, h.1.tf, h.2, show List.range 1 = [0] from rfl]
noncomputable def fm_NotI : Fam Try.prog := mkFam (X := List Int × List (List Int) × Int) 46 true (fun (u, t, x) => [AL u t, I64 x]) (fun (u, t, x) => (Big u.length) ∧ (BigR t)) (fun (u, t, x) => I64 (NoM u t x)) (by
  rintro ⟨u, t, x⟩ ⟨hu, ht⟩
  exact NotI_pc u t x hu ht)
@[simp] theorem fm_NotI_id : fm_NotI.id = 46 := rfl
@[simp] theorem fm_NotI_fresh : fm_NotI.fresh = true := rfl
@[simp] theorem fm_NotI_look (u : List Int) (t : List (List Int)) (x : Int) (hu : Big u.length) (ht : BigR t) : fm_NotI.look [AL u t, I64 x] = some (I64 (NoM u t x)) :=
  lookF_of (X := List Int × List (List Int) × Int) (args := fun (u, t, x) => [AL u t, I64 x]) (pre := fun (u, t, x) => (Big u.length) ∧ (BigR t)) (val := fun (u, t, x) => I64 (NoM u t x)) (by
  rintro ⟨u, t, x⟩ ⟨u', t', x'⟩ h
  simp at h
  try simp only [and_assoc] at h
  obtain ⟨rfl, rfl, rfl⟩ := h
  rfl) (u, t, x) ⟨hu, ht⟩
attribute [irreducible] fm_NotI
theorem NearI_pc (u : List Int) (t : List (List Int)) (x y : Int) (hu : Big u.length) (ht : BigR t) : PC Try.prog 56 [AL u t, I64 x, I64 y] none true (fun r _ => r = I64 (NeM u t x y)) := by
  have l1 : fm_atI.look [AL u t, .list 1 [.int .i64 x, .int .i64 y]] = some (.bool (decide (VA u t) && decide (allE [x, y] u.length))) := fm_atI_look u t [x, y] hu ht (by unfold Big; simp)
  rw [allE_two] at l1
  refine pcT [fm_atI, fm_nearI] fok_56 ?_
  unfold NeM
  cases hb : (decide (VA u t) && (inE u.length x && inE u.length y))
  · rw [hb] at l1
    simp [fa_56, l1, show List.range 2 = [0, 1] from rfl]
  · have h := hb
    rw [hb] at l1
    simp only [Bool.and_eq_true, decide_eq_true_eq, inE_iff] at h
    simp [fa_56, l1, h.1.tf, h.2, show List.range 2 = [0, 1] from rfl]
noncomputable def fm_NearI : Fam Try.prog := mkFam (X := List Int × List (List Int) × Int × Int) 56 true (fun (u, t, x, y) => [AL u t, I64 x, I64 y]) (fun (u, t, x, y) => (Big u.length) ∧ (BigR t)) (fun (u, t, x, y) => I64 (NeM u t x y)) (by
  rintro ⟨u, t, x, y⟩ ⟨hu, ht⟩
  exact NearI_pc u t x y hu ht)
@[simp] theorem fm_NearI_id : fm_NearI.id = 56 := rfl
@[simp] theorem fm_NearI_fresh : fm_NearI.fresh = true := rfl
@[simp] theorem fm_NearI_look (u : List Int) (t : List (List Int)) (x y : Int) (hu : Big u.length) (ht : BigR t) : fm_NearI.look [AL u t, I64 x, I64 y] = some (I64 (NeM u t x y)) :=
  lookF_of (X := List Int × List (List Int) × Int × Int) (args := fun (u, t, x, y) => [AL u t, I64 x, I64 y]) (pre := fun (u, t, x, y) => (Big u.length) ∧ (BigR t)) (val := fun (u, t, x, y) => I64 (NeM u t x y)) (by
  rintro ⟨u, t, x, y⟩ ⟨u', t', x', y'⟩ h
  simp at h
  try simp only [and_assoc] at h
  obtain ⟨rfl, rfl, rfl, rfl⟩ := h
  rfl) (u, t, x, y) ⟨hu, ht⟩
attribute [irreducible] fm_NearI
end Go.PS
end

section
-- PRINTED by gen.py: clean texts of functions, and their tie to the program.
set_option maxRecDepth 100000
namespace Go.PS
open Go.Proofs
end Go.PS
end

section
-- PRINTED by gen.py: clean texts of functions, and their tie to the program.
set_option maxRecDepth 100000
namespace Go.PS
open Go.Proofs
/-- spec.classes -/
def an_133 : Ann := ⟨[(1, 0, 1), (9, 4, 3), (9, 5, 3)], [(0, [1, 2]), (1, [1, 2, 5]), (2, [1, 2, 5, 6]), (3, [1, 2, 5, 6, 14]), (5, [1, 2, 5, 6, 7]), (6, [1, 2, 5, 6, 7, 8]), (7, [1, 2, 5, 6, 7, 8, 21]), (9, [1, 2, 5, 6, 7, 8, 30]), (10, [1, 2, 5, 6, 7, 8]), (8, [1, 2, 5, 6, 7, 8]), (11, [1, 2, 5, 6]), (4, [1, 2, 5, 6]), (12, [4])], [(3, [1, 2, 5, 6], [72, 280]), (7, [1, 2, 5, 6, 7, 8], [72, 280])], []⟩
def lb_133_7 : AC :=
  (.seq
    (.seq
      (.region false [⟨some 20, (.mv (.t 8)), 3, none, 0⟩, ⟨some 21, (.bin .geq 3 (.t 20) (.c (.int .i64 0))), 4, none, 0⟩] (some [1, 2, 5, 6, 7, 8, 21]))
      (.cond (.t 21)
        .skip
        (.exit 2)))
    (.seq
      (.block 3
        (.seq
          (.region false [⟨some 24, (.mv (.t 1)), 3, none, 0⟩, ⟨some 25, (.load 27 (.t 2)), 27, none, 0⟩, ⟨some 26, (.mv (.t 6)), 3, none, 0⟩, ⟨some 27, (.mv (.t 8)), 3, none, 0⟩, ⟨some 28, (.call (.f 176) [(.t 25), (.t 26), (.t 27)]), 3, none, 3⟩, ⟨some 29, (.call (.f 171) [(.t 24), (.t 28)]), 3, none, 3⟩, ⟨some 30, (.bin .eql 3 (.t 29) (.c (.int .i64 1))), 4, none, 0⟩] (some [1, 2, 5, 6, 7, 8, 30]))
          (.cond (.t 30)
            (.region false [⟨some 31, (.mv (.t 8)), 3, none, 0⟩, ⟨some 7, (.mv (.t 31)), 3, none, 0⟩] (some [1, 2, 5, 6, 7, 8]))
            .skip)))
      (.region false [⟨some 22, (.mv (.t 8)), 3, none, 0⟩, ⟨some 23, (.bin .sub 3 (.t 22) (.c (.int .i64 1))), 3, none, 0⟩, ⟨some 8, (.mv (.t 23)), 3, none, 0⟩] (some [1, 2, 5, 6, 7, 8]))))
def lb_133_3 : AC :=
  (.seq
    (.seq
      (.region false [⟨some 10, (.mv (.t 6)), 3, none, 0⟩, ⟨some 11, (.faddr 27 (.t 2) 0), 0, none, 0⟩, ⟨some 12, (.load 23 (.t 11)), 23, none, 0⟩, ⟨some 13, (.len 23 (.t 12)), 3, none, 0⟩, ⟨some 14, (.bin .lss 3 (.t 10) (.t 13)), 4, none, 0⟩] (some [1, 2, 5, 6, 14]))
      (.cond (.t 14)
        .skip
        (.exit 0)))
    (.seq
      (.block 1
        (.seq
          (.region false [⟨some 17, (.mv (.t 6)), 3, none, 0⟩, ⟨some 7, (.mv (.t 17)), 3, none, 0⟩] (some [1, 2, 5, 6, 7]))
          (.seq
            (.seq
              (.region false [⟨some 18, (.mv (.t 6)), 3, none, 0⟩, ⟨some 19, (.bin .sub 3 (.t 18) (.c (.int .i64 1))), 3, none, 0⟩, ⟨some 8, (.mv (.t 19)), 3, none, 0⟩] (some [1, 2, 5, 6, 7, 8]))
              (.block 2
                (.loop [1, 2, 5, 6, 7, 8] [72, 280] lb_133_7)))
            (.region false [⟨some 32, (.mv (.t 5)), 23, none, 0⟩, ⟨some 33, (.mv (.t 7)), 3, none, 0⟩, ⟨some 34, (.bslice 23 1 [(0, (.t 33))]), 23, none, 0⟩, ⟨some 35, (.app 23 23 (.t 32) (.t 34)), 23, none, 0⟩, ⟨some 5, (.mv (.t 35)), 23, none, 0⟩] (some [1, 2, 5, 6])))))
      (.region false [⟨some 15, (.mv (.t 6)), 3, none, 0⟩, ⟨some 16, (.bin .add 3 (.t 15) (.c (.int .i64 1))), 3, none, 0⟩, ⟨some 6, (.mv (.t 16)), 3, none, 0⟩] (some [1, 2, 5, 6]))))
def fa_133 : FnA := ⟨37, [.t 4],
  (.seq
    (.region false [⟨some 2, (.box 27 (.t 0)), 0, none, 0⟩, ⟨some 4, (.mv (.c .nil)), 23, none, 0⟩] (some [1, 2]))
    (.seq
      (.region false [⟨some 9, (.bslice 23 0 []), 23, none, 1⟩, ⟨some 5, (.mv (.t 9)), 23, none, 0⟩] (some [1, 2, 5]))
      (.seq
        (.seq
          (.region false [⟨some 6, (.mv (.c (.int .i64 0))), 3, none, 0⟩] (some [1, 2, 5, 6]))
          (.block 0
            (.loop [1, 2, 5, 6] [72, 280] lb_133_3)))
        (.seq
          (.region false [⟨some 36, (.mv (.t 5)), 23, none, 0⟩, ⟨some 4, (.mv (.t 36)), 23, none, 0⟩] (some [4]))
          .ret))))⟩
theorem fok_133 : FnOk Try.prog 133 fa_133 an_133 := ⟨Try.f133, _, Try.func133, rfl, by kernel_rfl, rfl, rfl, by decide, by kernel_rfl⟩
end Go.PS
end

section
-- Contracts: classes by a filter.
set_option maxRecDepth 100000
set_option linter.unusedVariables false
set_option linter.unusedSimpArgs false
namespace Go.PS
open Go.Proofs

theorem near_nr {u : List Int} {t : List (List Int)} {x y : Nat} (a : VA u t) : tm t (implyM u t x y).toNat (implyM u t y x).toNat = (nr u t x y : Nat) := a.tn_int a.im_lt a.im_lt
theorem cls_int {u : List Int} {t : List (List Int)} {f x k : Nat} (hk : k < u.length) (h : f.testBit (nr u t x k) = true) (hj : ∀ j, j < k → f.testBit (nr u t x j) = false) : clsI u t f x = k := firstI_some hk h hj
theorem clsS_pc (u : List Int) (t : List (List Int)) (f : Int) (a : VA u t) (hf : FI u t f.toNat) (h0 : 0 ≤ f) : PC Try.prog 133 [AL u t, I64 f] none true (fun r _ => r = IO1 (tl u.length (clsI u t f.toNat))) := by
  obtain ⟨f, rfl⟩ := Int.eq_ofNat_of_zero_le h0
  simp only [Int.toNat_natCast] at hf ⊢
  have v := a.lat
  have tf := a.tf
  have h6 := v.six
  have h64 := p2le h6
  have hul : u.length ≤ 1099511627776 := by omega
  have hlt := hf.lt
  refine pcT [fm_nearS, fm_bitS] fok_133 ?_
  simp [fa_133]
  refine loopX (tabK_mono _) u.length (fun i γ => [(5, .arr 72 γ), (6, I64 i)]) (fun i γ => [⟨72, γ, .arr 1 (ints (tl i (clsI u t f)))⟩]) (fun _ _ => True) 1 (by simp) (by simp [tl_zero, ints_nil]) trivial (fun x γ g hx _ => ?_)
  simp [lb_133_3, wrap_succ hx hul]
  refine ⟨fun h => ?_, fun h => ?_⟩
  · refine loopX (tabK_mono _) x (fun i c => [(7, I64 ((c : Nat) : Int)), (8, I64 ((x : Int) - 1 - i))]) (fun _ _ => [⟨72, γ, .arr 1 (ints (tl x (clsI u t f)))⟩]) (fun i c => c ≤ x ∧ f.testBit (nr u t x c) = true ∧ ∀ j, x - i ≤ j → j < c → f.testBit (nr u t x j) = false) x (by simp [wrap64 (n := (x : Int) - 1) (by omega) (by omega)]) (by simp) ⟨Nat.le_refl _, hf.nr_self a h, fun j h1 h2 => by omega⟩ (fun i c g2 hi hP => ?_)
    simp [lb_133_7]
    refine ⟨fun h2 => ?_, fun h2 => ?_⟩
    · obtain ⟨y, hy⟩ : ∃ y : Nat, y + i + 1 = x := ⟨x - 1 - i, by omega⟩
      have ey : (x : Int) - 1 - i = y := by omega
      have l1 := fm_nearS_look u t x y tf (by omega) (by omega) (by omega) (by omega)
      simp only [Int.toNat_natCast] at l1
      rw [near_nr a] at l1
      have hn := a.nr_lt (x := x) (y := y)
      have w1 : IntKind.i64.wrap ((y : Int) - 1) = (x : Int) - 1 - (i + 1 : Nat) := by rw [wrap64 (by omega) (by omega)]; omega
      have hcase : ∀ w, w = nr u t x y → f.testBit w = f.testBit (nr u t x y) := fun w e => by rw [e]
      generalize hw : nr u t x y = w at l1 hn
      simp only [ey]
      simp [l1, w1, show (f : Int) < 64 by omega, show (w : Int) ≤ 61 by omega]
      refine ⟨fun hb => ?_, fun hb => ?_⟩
      · refine ⟨by omega, y, rfl, by omega, by rw [hw]; exact hb, fun j h1 h2 => by omega⟩
      · refine ⟨by omega, c, rfl, hP.1, hP.2.1, fun j h1 h2 => ?_⟩
        by_cases e : j = y
        · rw [e, hw]; exact hb
        · exact hP.2.2 j (by omega) h2
    · obtain rfl : i = x := by omega
      have e := cls_int (t := t) (f := f) (x := i) (k := c) (by omega) hP.2.1 (fun j hj => hP.2.2 j (by omega) hj)
      have hl : (tl i (clsI u t f)).length = i := tl_length
      simp [wrap_succ hx hul, tl_succ, e, h]
      exact leBig (by omega)
  · obtain rfl : x = u.length := by omega
    simp
noncomputable def fm_clsS : Fam Try.prog := mkFam (X := List Int × List (List Int) × Int) 133 true (fun (u, t, f) => [AL u t, I64 f]) (fun (u, t, f) => (VA u t) ∧ (FI u t f.toNat) ∧ (0 ≤ f)) (fun (u, t, f) => IO1 (tl u.length (clsI u t f.toNat))) (by
  rintro ⟨u, t, f⟩ ⟨a, hf, h0⟩
  exact clsS_pc u t f a hf h0)
@[simp] theorem fm_clsS_id : fm_clsS.id = 133 := rfl
@[simp] theorem fm_clsS_fresh : fm_clsS.fresh = true := rfl
@[simp] theorem fm_clsS_look (u : List Int) (t : List (List Int)) (f : Int) (a : VA u t) (hf : FI u t f.toNat) (h0 : 0 ≤ f) : fm_clsS.look [AL u t, I64 f] = some (IO1 (tl u.length (clsI u t f.toNat))) :=
  lookF_of (X := List Int × List (List Int) × Int) (args := fun (u, t, f) => [AL u t, I64 f]) (pre := fun (u, t, f) => (VA u t) ∧ (FI u t f.toNat) ∧ (0 ≤ f)) (val := fun (u, t, f) => IO1 (tl u.length (clsI u t f.toNat))) (by
  rintro ⟨u, t, f⟩ ⟨u', t', f'⟩ h
  simp at h
  try simp only [and_assoc] at h
  obtain ⟨rfl, rfl, rfl⟩ := h
  rfl) (u, t, f) ⟨a, hf, h0⟩
attribute [irreducible] fm_clsS
end Go.PS
end

section
-- How a lattice, and an algebra, is shown to be one, in plain Lean.
set_option linter.unusedVariables false
set_option linter.unusedSimpArgs false
namespace Go.PS

/-- An order with meets and joins. -/
structure LO (n : Nat) (le : Nat → Nat → Bool) (J M : Nat → Nat → Nat) : Prop where
  one : 1 ≤ n
  six : n ≤ 6
  rf : ∀ x, x < n → le x x = true
  bot : ∀ x, x < n → le 0 x = true
  top : ∀ x, x < n → le x (n - 1) = true
  anti : ∀ x, x < n → ∀ y, y < n → le x y = true → le y x = true → x = y
  trans : ∀ x, x < n → ∀ y, y < n → ∀ z, z < n → le x y = true → le y z = true → le x z = true
  jlt : ∀ x, x < n → ∀ y, y < n → J x y < n
  mlt : ∀ x, x < n → ∀ y, y < n → M x y < n
  jub : ∀ x, x < n → ∀ y, y < n → le x (J x y) = true ∧ le y (J x y) = true
  mlb : ∀ x, x < n → ∀ y, y < n → le (M x y) x = true ∧ le (M x y) y = true
  jle : ∀ x, x < n → ∀ y, y < n → ∀ z, z < n → le x z = true → le y z = true → le (J x y) z = true
  mle : ∀ x, x < n → ∀ y, y < n → ∀ z, z < n → le z x = true → le z y = true → le z (M x y) = true

theorem firstI_ge {n : Nat} {p : Nat → Bool} {z : Nat} (hz : z < n) (h : p z = true) : 0 ≤ firstI n p := by
  rcases firstI_range (n := n) (p := p) with h1 | ⟨k, _, _, h1⟩
  · exfalso
    unfold firstI at h1
    split at h1
    · omega
    · rename_i hn
      rw [List.find?_eq_none] at hn
      have := hn z (by simpa using hz)
      rw [h] at this; exact this rfl
  · rw [h1]; omega
theorem VL_mk {u : List Int} {n : Nat} {le : Nat → Nat → Bool} {J M : Nat → Nat → Nat} (L : LO n le J M) (hl : u.length = n) (hr : ∀ x, x < n → 0 ≤ gi u x ∧ gi u x < 2 ^ n) (ht : ∀ x, x < n → ∀ y, y < n → tb u x y = le x y) : VL u := by
  subst hl
  have hp := L.one
  refine ⟨⟨L.one, L.six, hr, fun x hx => ?_, fun x hx y hy hne h => ?_, fun x hx y hy z hz h h2 => ?_⟩, fun x hx y hy => ⟨?_, ?_⟩⟩
  · rw [ht x hx x hx, ht 0 (by omega) x hx, ht x hx _ (by omega)]
    exact ⟨L.rf x hx, L.bot x hx, L.top x hx⟩
  · rw [ht x hx y hy] at h
    rw [ht y hy x hx]
    cases hb : le y x
    · rfl
    · exact absurd (L.anti x hx y hy h hb) hne
  · rw [ht x hx y hy] at h
    rw [ht y hy z hz] at h2
    rw [ht x hx z hz]
    exact L.trans x hx y hy z hz h h2
  · have hm := L.mlt x hx y hy
    refine firstI_ge hm ?_
    simp only [isM, Bool.and_eq_true, List.all_eq_true, List.mem_range]
    refine ⟨?_, fun w hw => ?_⟩
    · rw [ht _ hm x hx, ht _ hm y hy]; exact L.mlb x hx y hy
    · rw [ht w hw x hx, ht w hw y hy, ht w hw _ hm]
      cases h1 : le w x
      · rfl
      · cases h2 : le w y
        · rfl
        · rw [L.mle x hx y hy w hw h1 h2]; rfl
  · have hm := L.jlt x hx y hy
    refine firstI_ge hm ?_
    simp only [isJ, Bool.and_eq_true, List.all_eq_true, List.mem_range]
    refine ⟨?_, fun w hw => ?_⟩
    · rw [ht x hx _ hm, ht y hy _ hm]; exact L.jub x hx y hy
    · rw [ht x hx w hw, ht y hy w hw, ht _ hm w hw]
      cases h1 : le x w
      · rfl
      · cases h2 : le y w
        · rfl
        · rw [L.jle x hx y hy w hw h1 h2]; rfl
section
variable {u : List Int} {t : List (List Int)} {x y z w : Nat}
/-- A join, and a meet, by what it is. -/
theorem VL.jo_uniq (v : VL u) (hx : x < u.length) (hy : y < u.length) (hz : z < u.length) (h1 : tb u x z = true) (h2 : tb u y z = true) (h3 : ∀ w, w < u.length → tb u x w = true → tb u y w = true → tb u z w = true) : jo u x y = z :=
  v.eq (v.jo_lt hx hy) hz (v.jo_le hx hy hz h1 h2) (h3 _ (v.jo_lt hx hy) (v.jo_l hx hy) (v.jo_r hx hy))
theorem jo_of {n : Nat} {le : Nat → Nat → Bool} {J M : Nat → Nat → Nat} (L : LO n le J M) (v : VL u) (hl : u.length = n) (ht : ∀ x, x < n → ∀ y, y < n → tb u x y = le x y) (hx : x < n) (hy : y < n) : jo u x y = J x y := by
  subst hl
  have hj := L.jlt x hx y hy
  refine v.jo_uniq hx hy hj ?_ ?_ (fun w hw h1 h2 => ?_)
  · rw [ht x hx _ hj]; exact (L.jub x hx y hy).1
  · rw [ht y hy _ hj]; exact (L.jub x hx y hy).2
  · rw [ht x hx w hw] at h1
    rw [ht y hy w hw] at h2
    rw [ht _ hj w hw]; exact L.jle x hx y hy w hw h1 h2
/-- An algebra by its order and its products. -/
structure PO (n : Nat) (J P : Nat → Nat → Nat) : Prop where
  lt : ∀ x, x < n → ∀ y, y < n → P x y < n
  top : ∀ x, x < n → P x (n - 1) = x
  bot : ∀ x, x < n → P x 0 = 0
  comm : ∀ x, x < n → ∀ y, y < n → P x y = P y x
  assoc : ∀ x, x < n → ∀ y, y < n → ∀ z, z < n → P (P x y) z = P x (P y z)
  dist : ∀ x, x < n → ∀ y, y < n → ∀ z, z < n → P x (J y z) = J (P x y) (P x z)
theorem VA_mk {n : Nat} {le : Nat → Nat → Bool} {J M P : Nat → Nat → Nat} (L : LO n le J M) (p : PO n J P) (hl : u.length = n) (hr : ∀ x, x < n → 0 ≤ gi u x ∧ gi u x < 2 ^ n) (ht : ∀ x, x < n → ∀ y, y < n → tb u x y = le x y)
    (hlt : t.length = n) (hrt : ∀ x, x < n → (gr t x).length = n) (htm : ∀ x, x < n → ∀ y, y < n → tm t x y = (P x y : Nat)) : VA u t := by
  have v := VL_mk L hl hr ht
  have hj : ∀ {x y : Nat}, x < n → y < n → joinM u x y = (J x y : Nat) := fun {x y} hx hy => by
    rw [v.jo_int (by omega) (by omega), jo_of L v hl ht hx hy]
  subst hl
  have hp := L.one
  have htn : ∀ {x y : Nat}, x < u.length → y < u.length → tn t x y = P x y := fun {x y} hx hy => by rw [tn, htm x hx y hy, Int.toNat_natCast]
  refine ⟨v, hlt, hrt, fun x hx y hy => ?_, fun x hx => ?_, fun x hx y hy => ?_, fun x hx y hy z hz => ?_, fun x hx y hy z hz => ?_⟩
  · rw [htm x hx y hy]
    have := p.lt x hx y hy
    omega
  · rw [htm x hx _ (by omega), htm x hx 0 (by omega), p.top x hx, p.bot x hx]
    exact ⟨rfl, rfl⟩
  · rw [htm x hx y hy, htm y hy x hx, p.comm x hx y hy]
  · rw [htn hx hy, htn hy hz, htm _ (p.lt x hx y hy) z hz, htm x hx _ (p.lt y hy z hz), p.assoc x hx y hy z hz]
  · rw [htn hx hy, htn hx hz, hj hy hz, hj (p.lt x hx y hy) (p.lt x hx z hz), Int.toNat_natCast, htm x hx _ (L.jlt y hy z hz), p.dist x hx y hy z hz]
end
/-- Rows of an order. -/
def rowsO (n : Nat) (le : Nat → Nat → Bool) : List Int := (List.range n).map fun x => ((mskN n (le x) : Nat) : Int)
theorem rowsO_len {n : Nat} {le : Nat → Nat → Bool} : (rowsO n le).length = n := by simp [rowsO]
theorem rowsO_gi {n : Nat} {le : Nat → Nat → Bool} {x : Nat} (hx : x < n) : gi (rowsO n le) x = (mskN n (le x) : Nat) := by simp [gi, rowsO, hx]
theorem rowsO_tb {n : Nat} {le : Nat → Nat → Bool} {x y : Nat} (hx : x < n) (hy : y < n) : tb (rowsO n le) x y = le x y := by
  rw [tb, rowsO_gi hx, Int.toNat_natCast, mskN_bit]
  simp [hy]
theorem rowsO_rng {n : Nat} {le : Nat → Nat → Bool} {x : Nat} (hx : x < n) : 0 ≤ gi (rowsO n le) x ∧ gi (rowsO n le) x < 2 ^ n := by
  rw [rowsO_gi hx]
  have h := mskN_lt (n := n) (p := le x)
  refine ⟨by omega, ?_⟩
  have e : (2 : Int) ^ n = ((2 ^ n : Nat) : Int) := by push_cast; rfl
  rw [e]; omega
/-- A table of products. -/
def tabO (n : Nat) (P : Nat → Nat → Nat) : List (List Int) := (List.range n).map fun x => (List.range n).map fun y => ((P x y : Nat) : Int)
theorem tabO_len {n : Nat} {P : Nat → Nat → Nat} : (tabO n P).length = n := by simp [tabO]
theorem tabO_gr {n : Nat} {P : Nat → Nat → Nat} {x : Nat} (hx : x < n) : gr (tabO n P) x = (List.range n).map fun y => ((P x y : Nat) : Int) := by simp [gr, tabO, hx]
theorem tabO_row {n : Nat} {P : Nat → Nat → Nat} {x : Nat} (hx : x < n) : (gr (tabO n P) x).length = n := by rw [tabO_gr hx]; simp
theorem tabO_tm {n : Nat} {P : Nat → Nat → Nat} {x y : Nat} (hx : x < n) (hy : y < n) : tm (tabO n P) x y = (P x y : Nat) := by
  rw [tm, tabO_gr hx]; simp [gi, hy]
theorem VA_O {n : Nat} {le : Nat → Nat → Bool} {J M P : Nat → Nat → Nat} (L : LO n le J M) (p : PO n J P) : VA (rowsO n le) (tabO n P) :=
  VA_mk L p rowsO_len (fun _ hx => rowsO_rng hx) (fun _ hx _ hy => rowsO_tb hx hy) tabO_len (fun _ hx => tabO_row hx) (fun _ hx _ hy => tabO_tm hx hy)
end Go.PS
end

section
-- Classes by a filter are an algebra, in plain Lean.
set_option linter.unusedVariables false
set_option linter.unusedSimpArgs false
namespace Go.PS

/-- Where a number stands in a list. -/
def ixN : List Nat → Nat → Nat
  | [], _ => 0
  | y :: l, x => if y = x then 0 else ixN l x + 1
theorem ixN_lt {x : Nat} : ∀ {l : List Nat}, x ∈ l → ixN l x < l.length
  | y :: l, h => by
    unfold ixN
    split
    · simp
    · rename_i e
      have : x ∈ l := by
        rcases List.mem_cons.1 h with c | c
        · exact absurd c.symm e
        · exact c
      have := ixN_lt this
      simp; omega
theorem ixN_get {x : Nat} : ∀ {l : List Nat}, x ∈ l → l.getD (ixN l x) 0 = x
  | y :: l, h => by
    unfold ixN
    split
    · rename_i e; simpa using e
    · rename_i e
      have : x ∈ l := by
        rcases List.mem_cons.1 h with c | c
        · exact absurd c.symm e
        · exact c
      simpa using ixN_get this
theorem ixN_at : ∀ {l : List Nat} {i : Nat}, l.Pairwise (· ≠ ·) → i < l.length → ixN l (l.getD i 0) = i
  | y :: l, 0, _, _ => by simp [ixN]
  | y :: l, i + 1, hp, hi => by
    rw [List.pairwise_cons] at hp
    have hi : i < l.length := by simpa using hi
    have ih := ixN_at hp.2 hi
    have hm : l.getD i 0 ∈ l := by
      rw [List.getD_eq_getElem?_getD, List.getElem?_eq_getElem hi]; exact List.getElem_mem hi
    have hne := hp.1 _ hm
    rw [List.getD_cons_succ, ixN, if_neg hne, ih]
theorem ixN_inj {l : List Nat} {x y : Nat} (hx : x ∈ l) (hy : y ∈ l) (h : ixN l x = ixN l y) : x = y := by
  rw [← ixN_get hx, h, ixN_get hy]

section
variable {u : List Int} {t : List (List Int)} {f x y z w : Nat}

abbrev cl (u : List Int) (t : List (List Int)) (f x : Nat) : Nat := (clsI u t f x).toNat
theorem cl_spec (a : VA u t) (hf : FI u t f) (hx : x < u.length) : cl u t f x ≤ x ∧ f.testBit (nr u t x (cl u t f x)) = true ∧ clsI u t f x = (cl u t f x : Nat) := by
  obtain ⟨k, e, h1, h2, _⟩ := cls_spec a hf hx
  have : cl u t f x = k := by show (clsI u t f x).toNat = k; rw [e]; rfl
  rw [this]
  exact ⟨h1, h2, e⟩
theorem cl_lt (a : VA u t) (hf : FI u t f) (hx : x < u.length) : cl u t f x < u.length := Nat.lt_of_le_of_lt (cl_spec a hf hx).1 hx
theorem cl_eq (a : VA u t) (hf : FI u t f) (hx : x < u.length) (hy : y < u.length) : cl u t f x = cl u t f y ↔ f.testBit (nr u t x y) = true := by
  rw [← cls_same a hf hx hy, (cl_spec a hf hx).2.2, (cl_spec a hf hy).2.2]
  omega
theorem cl_cl (a : VA u t) (hf : FI u t f) (hx : x < u.length) : cl u t f (cl u t f x) = cl u t f x := by
  rw [cl_eq a hf (cl_lt a hf hx) hx, a.nr_comm]
  exact (cl_spec a hf hx).2.1
theorem cl_zero (a : VA u t) (hf : FI u t f) : cl u t f 0 = 0 := by
  have := (cl_spec a hf a.lat.pos).1
  omega

/-- The order of the classes. -/
def lq (u : List Int) (t : List (List Int)) (f x y : Nat) : Bool := f.testBit (im u t x y)
theorem lq_of_le (a : VA u t) (hf : FI u t f) (hx : x < u.length) (hy : y < u.length) (h : tb u x y = true) : lq u t f x y = true := by
  unfold lq
  rw [(a.im_top hx hy).2 h]; exact hf.top
theorem lq_rf (a : VA u t) (hf : FI u t f) (hx : x < u.length) : lq u t f x x = true := lq_of_le a hf hx hx (a.lat.rf hx)
theorem lq_tr (a : VA u t) (hf : FI u t f) (hx : x < u.length) (hy : y < u.length) (hz : z < u.length) (h : lq u t f x y = true) (h2 : lq u t f y z = true) : lq u t f x z = true :=
  hf.up _ (a.tn_lt a.im_lt a.im_lt) _ a.im_lt (hf.mul _ a.im_lt _ a.im_lt h h2) (a.im_tr hx hy hz)
theorem lq_near (a : VA u t) (hf : FI u t f) (hx : x < u.length) (hy : y < u.length) : f.testBit (nr u t x y) = true ↔ lq u t f x y = true ∧ lq u t f y x = true := by
  constructor
  · intro h
    exact ⟨hf.up _ a.nr_lt _ a.im_lt h (a.le_l a.im_lt a.im_lt), hf.up _ a.nr_lt _ a.im_lt h (a.le_r a.im_lt a.im_lt)⟩
  · rintro ⟨h, h2⟩
    exact hf.mul _ a.im_lt _ a.im_lt h h2
theorem lq_cl (a : VA u t) (hf : FI u t f) (hx : x < u.length) : lq u t f x (cl u t f x) = true ∧ lq u t f (cl u t f x) x = true :=
  (lq_near a hf hx (cl_lt a hf hx)).1 (cl_spec a hf hx).2.1
theorem cl_iff (a : VA u t) (hf : FI u t f) (hx : x < u.length) (hy : y < u.length) : cl u t f x = cl u t f y ↔ lq u t f x y = true ∧ lq u t f y x = true := by
  rw [cl_eq a hf hx hy, lq_near a hf hx hy]
theorem lq_cll (a : VA u t) (hf : FI u t f) (hx : x < u.length) (hy : y < u.length) : lq u t f (cl u t f x) y = lq u t f x y := by
  have h := lq_cl a hf hx
  have hc := cl_lt a hf hx
  rw [Bool.eq_iff_iff]
  exact ⟨fun k => lq_tr a hf hx hc hy h.1 k, fun k => lq_tr a hf hc hx hy h.2 k⟩
theorem lq_clr (a : VA u t) (hf : FI u t f) (hx : x < u.length) (hy : y < u.length) : lq u t f x (cl u t f y) = lq u t f x y := by
  have h := lq_cl a hf hy
  have hc := cl_lt a hf hy
  rw [Bool.eq_iff_iff]
  exact ⟨fun k => lq_tr a hf hx hc hy k h.2, fun k => lq_tr a hf hx hy hc k h.1⟩
theorem lq_tn (a : VA u t) (hf : FI u t f) (hx : x < u.length) (hy : y < u.length) (hz : z < u.length) (h : lq u t f y z = true) : lq u t f (tn t x y) (tn t x z) = true := by
  refine hf.up _ a.im_lt _ a.im_lt h ?_
  rw [← a.res (a.tn_lt hx hy) (a.tn_lt hx hz) a.im_lt, a.tn_assoc hx hy a.im_lt]
  exact a.mono hx (a.tn_lt hy a.im_lt) hz (a.mp hy hz)
theorem lq_jo (a : VA u t) (hf : FI u t f) (hx : x < u.length) (hy : y < u.length) (hz : z < u.length) (h : lq u t f x z = true) (h2 : lq u t f y z = true) : lq u t f (jo u x y) z = true := by
  have hj := a.lat.jo_lt hx hy
  have hp := a.im_lt (x := x) (y := z)
  have hq := a.im_lt (x := y) (y := z)
  have hpq := a.tn_lt hp hq
  refine hf.up _ hpq _ a.im_lt (hf.mul _ hp _ hq h h2) ?_
  rw [← a.res hj hz hpq, a.jo_tn hpq hx hy]
  refine a.lat.jo_le (a.tn_lt hx hpq) (a.tn_lt hy hpq) hz ?_ ?_
  · exact a.lat.tr (a.tn_lt hx hpq) (a.tn_lt hx hp) hz (a.mono hx hpq hp (a.le_l hp hq)) (a.mp hx hz)
  · exact a.lat.tr (a.tn_lt hy hpq) (a.tn_lt hy hq) hz (a.mono hy hpq hq (a.le_r hp hq)) (a.mp hy hz)
theorem lq_mt (a : VA u t) (hf : FI u t f) (hx : x < u.length) (hy : y < u.length) (hz : z < u.length) (h : lq u t f z x = true) (h2 : lq u t f z y = true) : lq u t f z (mt u x y) = true := by
  have hj := a.lat.mt_lt hx hy
  have hp := a.im_lt (x := z) (y := x)
  have hq := a.im_lt (x := z) (y := y)
  have hpq := a.tn_lt hp hq
  refine hf.up _ hpq _ a.im_lt (hf.mul _ hp _ hq h h2) ?_
  rw [← a.res hz hj hpq]
  refine a.lat.le_mt hx hy (a.tn_lt hz hpq) ?_ ?_
  · exact a.lat.tr (a.tn_lt hz hpq) (a.tn_lt hz hp) hx (a.mono hz hpq hp (a.le_l hp hq)) (a.mp hz hx)
  · exact a.lat.tr (a.tn_lt hz hpq) (a.tn_lt hz hq) hy (a.mono hz hpq hq (a.le_r hp hq)) (a.mp hz hy)
-- the numbers of the classes
def nms (u : List Int) (t : List (List Int)) (f : Nat) : List Nat := ((List.range u.length).filter fun x => decide (cl u t f x = x) && decide (x ≠ cl u t f (u.length - 1))) ++ [cl u t f (u.length - 1)]
theorem mem_nms (a : VA u t) (hf : FI u t f) : z ∈ nms u t f ↔ z < u.length ∧ cl u t f z = z := by
  have hp := a.lat.pos
  unfold nms
  simp only [List.mem_append, List.mem_filter, List.mem_range, Bool.and_eq_true, decide_eq_true_eq, List.mem_singleton]
  constructor
  · rintro (h | rfl)
    · exact ⟨h.1, h.2.1⟩
    · exact ⟨cl_lt a hf (by omega), cl_cl a hf (by omega)⟩
  · rintro ⟨h1, h2⟩
    by_cases e : z = cl u t f (u.length - 1)
    · exact .inr e
    · exact .inl ⟨h1, h2, e⟩
theorem nms_nodup : (nms u t f).Pairwise (· ≠ ·) := by
  unfold nms
  rw [List.pairwise_append]
  refine ⟨(List.Pairwise.imp (fun h => Nat.ne_of_lt h) List.pairwise_lt_range).filter _, by simp, ?_⟩
  intro x hx y hy
  rw [List.mem_filter, Bool.and_eq_true, decide_eq_true_eq, decide_eq_true_eq] at hx
  rw [List.mem_singleton] at hy
  rw [hy]; exact hx.2.2
theorem nms_pos : 1 ≤ (nms u t f).length := by unfold nms; simp
theorem nms_le (a : VA u t) (hf : FI u t f) : (nms u t f).length ≤ u.length := by
  have hp := a.lat.pos
  unfold nms
  rw [List.length_append, List.length_singleton, ← List.countP_eq_length_filter]
  have := countP_lt (p := fun x => decide (cl u t f x = x) && decide (x ≠ cl u t f (u.length - 1))) (q := fun _ => true) (z := cl u t f (u.length - 1)) (l := List.range u.length) rfl (by simp) (fun _ _ _ => rfl) (by rw [List.mem_range]; exact cl_lt a hf (by omega))
  have h2 := List.countP_le_length (p := fun _ => true) (l := List.range u.length)
  rw [List.length_range] at h2
  omega
abbrev qn (u : List Int) (t : List (List Int)) (f : Nat) : Nat := (nms u t f).length
/-- The class of an element; the least element of a class. -/
def toN (u : List Int) (t : List (List Int)) (f x : Nat) : Nat := ixN (nms u t f) (cl u t f x)
def sg (u : List Int) (t : List (List Int)) (f i : Nat) : Nat := (nms u t f).getD i 0
theorem cl_mem (a : VA u t) (hf : FI u t f) (hx : x < u.length) : cl u t f x ∈ nms u t f := (mem_nms a hf).2 ⟨cl_lt a hf hx, cl_cl a hf hx⟩
theorem toN_lt (a : VA u t) (hf : FI u t f) (hx : x < u.length) : toN u t f x < qn u t f := ixN_lt (cl_mem a hf hx)
theorem sg_toN (a : VA u t) (hf : FI u t f) (hx : x < u.length) : sg u t f (toN u t f x) = cl u t f x := ixN_get (cl_mem a hf hx)
theorem sg_mem (hi : x < qn u t f) : sg u t f x ∈ nms u t f := by
  unfold sg
  rw [List.getD_eq_getElem?_getD, List.getElem?_eq_getElem hi]; exact List.getElem_mem hi
theorem sg_lt (a : VA u t) (hf : FI u t f) (hi : x < qn u t f) : sg u t f x < u.length := ((mem_nms a hf).1 (sg_mem hi)).1
theorem cl_sg (a : VA u t) (hf : FI u t f) (hi : x < qn u t f) : cl u t f (sg u t f x) = sg u t f x := ((mem_nms a hf).1 (sg_mem hi)).2
theorem toN_sg (a : VA u t) (hf : FI u t f) (hi : x < qn u t f) : toN u t f (sg u t f x) = x := by
  unfold toN
  rw [cl_sg a hf hi]; exact ixN_at nms_nodup hi
theorem toN_eq (a : VA u t) (hf : FI u t f) (hx : x < u.length) (hy : y < u.length) : toN u t f x = toN u t f y ↔ cl u t f x = cl u t f y :=
  ⟨fun h => ixN_inj (cl_mem a hf hx) (cl_mem a hf hy) h, fun h => by unfold toN; rw [h]⟩
theorem toN_congr (a : VA u t) (hf : FI u t f) (hx : x < u.length) (hy : y < u.length) (h1 : lq u t f x y = true) (h2 : lq u t f y x = true) : toN u t f x = toN u t f y :=
  (toN_eq a hf hx hy).2 ((cl_iff a hf hx hy).2 ⟨h1, h2⟩)
theorem toN_top (a : VA u t) (hf : FI u t f) : toN u t f (u.length - 1) = qn u t f - 1 := by
  have hp := a.lat.pos
  have h := ixN_at (l := nms u t f) (i := qn u t f - 1) nms_nodup (by have := nms_pos (u := u) (t := t) (f := f); show (nms u t f).length - 1 < (nms u t f).length; omega)
  have e : (nms u t f).getD (qn u t f - 1) 0 = cl u t f (u.length - 1) := by
    show (nms u t f).getD ((nms u t f).length - 1) 0 = _
    unfold nms
    rw [List.getD_eq_getElem?_getD, List.length_append, List.length_singleton, Nat.add_sub_cancel, List.getElem?_append_right (Nat.le_refl _), Nat.sub_self]
    rfl
  rw [e] at h
  exact h
theorem toN_zero (a : VA u t) (hf : FI u t f) : toN u t f 0 = 0 := by
  have hp := a.lat.pos
  unfold toN
  rw [cl_zero a hf]
  by_cases e : cl u t f (u.length - 1) = 0
  · have e0 : f.testBit 0 = true := by
      have h : cl u t f (u.length - 1) = cl u t f 0 := by rw [e, cl_zero a hf]
      have h2 := (cl_eq a hf (x := 0) (y := u.length - 1) hp (by omega)).1 h.symm
      rw [a.nr_topr hp] at h2; exact h2
    have hall : ∀ x, x < u.length → cl u t f x = 0 := fun x hx => by
      have h2 := (cl_eq a hf hx hp).2 (hf.up 0 hp _ a.nr_lt e0 (a.lat.bot a.nr_lt))
      rw [h2, cl_zero a hf]
    have : nms u t f = [0] := by
      unfold nms
      rw [e]
      have hn : ((List.range u.length).filter fun x => decide (cl u t f x = x) && decide (x ≠ 0)) = [] := by
        rw [List.filter_eq_nil_iff]
        intro x hx h
        rw [Bool.and_eq_true, decide_eq_true_eq, decide_eq_true_eq] at h
        rw [hall x (by simpa using hx)] at h
        exact h.2 h.1.symm
      rw [hn]; rfl
    rw [this]; simp [ixN]
  · obtain ⟨m, hm⟩ : ∃ m, u.length = m + 1 := ⟨u.length - 1, by omega⟩
    have : ∃ l, nms u t f = 0 :: l := by
      unfold nms
      generalize hc : cl u t f (u.length - 1) = c at *
      rw [hm, List.range_succ_eq_map, List.filter_cons]
      have h0 : (decide (cl u t f 0 = 0) && decide (0 ≠ c)) = true := by
        rw [cl_zero a hf]
        simp
        omega
      rw [if_pos h0]
      exact ⟨_, rfl⟩
    obtain ⟨l, hl⟩ := this
    rw [hl]; simp [ixN]

-- the algebra of the classes
abbrev leQ (u : List Int) (t : List (List Int)) (f i k : Nat) : Bool := lq u t f (sg u t f i) (sg u t f k)
abbrev joQ (u : List Int) (t : List (List Int)) (f i k : Nat) : Nat := toN u t f (jo u (sg u t f i) (sg u t f k))
abbrev mtQ (u : List Int) (t : List (List Int)) (f i k : Nat) : Nat := toN u t f (mt u (sg u t f i) (sg u t f k))
abbrev tnQ (u : List Int) (t : List (List Int)) (f i k : Nat) : Nat := toN u t f (tn t (sg u t f i) (sg u t f k))
theorem lo_quot (a : VA u t) (hf : FI u t f) : LO (qn u t f) (leQ u t f) (joQ u t f) (mtQ u t f) := by
  have hp := a.lat.pos
  have h6 := a.lat.six
  have hl : ∀ {i}, i < qn u t f → sg u t f i < u.length := fun h => sg_lt a hf h
  refine ⟨nms_pos, Nat.le_trans (nms_le a hf) h6, fun x hx => lq_rf a hf (hl hx), fun x hx => ?_, fun x hx => ?_, fun x hx y hy h1 h2 => ?_, fun x hx y hy z hz h1 h2 => lq_tr a hf (hl hx) (hl hy) (hl hz) h1 h2,
    fun x hx y hy => toN_lt a hf (a.lat.jo_lt (hl hx) (hl hy)), fun x hx y hy => toN_lt a hf (a.lat.mt_lt (hl hx) (hl hy)), fun x hx y hy => ?_, fun x hx y hy => ?_, fun x hx y hy z hz h1 h2 => ?_, fun x hx y hy z hz h1 h2 => ?_⟩
  · have e : sg u t f 0 = 0 := by
      have := sg_toN a hf hp
      rw [toN_zero a hf, cl_zero a hf] at this
      exact this
    show lq u t f (sg u t f 0) _ = true
    rw [e]
    exact lq_of_le a hf hp (hl hx) (a.lat.bot (hl hx))
  · have ht : u.length - 1 < u.length := by omega
    have e : sg u t f (qn u t f - 1) = cl u t f (u.length - 1) := by rw [← toN_top a hf, sg_toN a hf ht]
    show lq u t f _ (sg u t f (qn u t f - 1)) = true
    rw [e, lq_clr a hf (hl hx) ht]
    exact lq_of_le a hf (hl hx) ht (a.lat.topl (hl hx))
  · have := toN_congr a hf (hl hx) (hl hy) h1 h2
    rw [toN_sg a hf hx, toN_sg a hf hy] at this
    exact this
  · have hj := a.lat.jo_lt (hl hx) (hl hy)
    show lq u t f _ (sg u t f (toN u t f _)) = true ∧ lq u t f _ (sg u t f (toN u t f _)) = true
    rw [sg_toN a hf hj, lq_clr a hf (hl hx) hj, lq_clr a hf (hl hy) hj]
    exact ⟨lq_of_le a hf (hl hx) hj (a.lat.jo_l (hl hx) (hl hy)), lq_of_le a hf (hl hy) hj (a.lat.jo_r (hl hx) (hl hy))⟩
  · have hj := a.lat.mt_lt (hl hx) (hl hy)
    show lq u t f (sg u t f (toN u t f _)) _ = true ∧ lq u t f (sg u t f (toN u t f _)) _ = true
    rw [sg_toN a hf hj, lq_cll a hf hj (hl hx), lq_cll a hf hj (hl hy)]
    exact ⟨lq_of_le a hf hj (hl hx) (a.lat.mt_l (hl hx) (hl hy)), lq_of_le a hf hj (hl hy) (a.lat.mt_r (hl hx) (hl hy))⟩
  · have hj := a.lat.jo_lt (hl hx) (hl hy)
    show lq u t f (sg u t f (toN u t f _)) _ = true
    rw [sg_toN a hf hj, lq_cll a hf hj (hl hz)]
    exact lq_jo a hf (hl hx) (hl hy) (hl hz) h1 h2
  · have hj := a.lat.mt_lt (hl hx) (hl hy)
    show lq u t f _ (sg u t f (toN u t f _)) = true
    rw [sg_toN a hf hj, lq_clr a hf (hl hz) hj]
    exact lq_mt a hf (hl hx) (hl hy) (hl hz) h1 h2
theorem toN_tnr (a : VA u t) (hf : FI u t f) (hx : x < u.length) (hy : y < u.length) : toN u t f (tn t x (cl u t f y)) = toN u t f (tn t x y) := by
  have hc := cl_lt a hf hy
  have h := lq_cl a hf hy
  exact toN_congr a hf (a.tn_lt hx hc) (a.tn_lt hx hy) (lq_tn a hf hx hc hy h.2) (lq_tn a hf hx hy hc h.1)
theorem toN_tnl (a : VA u t) (hf : FI u t f) (hx : x < u.length) (hy : y < u.length) : toN u t f (tn t (cl u t f x) y) = toN u t f (tn t x y) := by
  rw [a.tn_comm (cl_lt a hf hx) hy, toN_tnr a hf hy hx, a.tn_comm hy hx]
theorem lq_jo2 (a : VA u t) (hf : FI u t f) (hx : x < u.length) (hy : y < u.length) (hz : z < u.length) (hw : w < u.length) (h : lq u t f x z = true) (h2 : lq u t f y w = true) : lq u t f (jo u x y) (jo u z w) = true := by
  have hj := a.lat.jo_lt hz hw
  exact lq_jo a hf hx hy hj (lq_tr a hf hx hz hj h (lq_of_le a hf hz hj (a.lat.jo_l hz hw))) (lq_tr a hf hy hw hj h2 (lq_of_le a hf hw hj (a.lat.jo_r hz hw)))
theorem toN_jo (a : VA u t) (hf : FI u t f) (hx : x < u.length) (hy : y < u.length) : toN u t f (jo u (cl u t f x) (cl u t f y)) = toN u t f (jo u x y) := by
  have cx := cl_lt a hf hx
  have cy := cl_lt a hf hy
  have h1 := lq_cl a hf hx
  have h2 := lq_cl a hf hy
  exact toN_congr a hf (a.lat.jo_lt cx cy) (a.lat.jo_lt hx hy) (lq_jo2 a hf cx cy hx hy h1.2 h2.2) (lq_jo2 a hf hx hy cx cy h1.1 h2.1)
theorem po_quot (a : VA u t) (hf : FI u t f) : PO (qn u t f) (joQ u t f) (tnQ u t f) := by
  have hp := a.lat.pos
  have hl : ∀ {i}, i < qn u t f → sg u t f i < u.length := fun h => sg_lt a hf h
  have ht : u.length - 1 < u.length := by omega
  refine ⟨fun x hx y hy => toN_lt a hf (a.tn_lt (hl hx) (hl hy)), fun x hx => ?_, fun x hx => ?_, fun x hx y hy => ?_, fun x hx y hy z hz => ?_, fun x hx y hy z hz => ?_⟩
  · have e : sg u t f (qn u t f - 1) = cl u t f (u.length - 1) := by rw [← toN_top a hf, sg_toN a hf ht]
    show toN u t f (tn t (sg u t f x) (sg u t f (qn u t f - 1))) = x
    rw [e, toN_tnr a hf (hl hx) ht, a.tn_top (hl hx), toN_sg a hf hx]
  · have e : sg u t f 0 = 0 := by
      have := sg_toN a hf hp
      rw [toN_zero a hf, cl_zero a hf] at this
      exact this
    show toN u t f (tn t (sg u t f x) (sg u t f 0)) = 0
    rw [e, a.tn_bot (hl hx), toN_zero a hf]
  · show toN u t f (tn t _ _) = toN u t f (tn t _ _)
    rw [a.tn_comm (hl hx) (hl hy)]
  · show toN u t f (tn t (sg u t f (toN u t f _)) _) = toN u t f (tn t _ (sg u t f (toN u t f _)))
    have h1 := a.tn_lt (hl hx) (hl hy)
    have h2 := a.tn_lt (hl hy) (hl hz)
    rw [sg_toN a hf h1, sg_toN a hf h2, toN_tnl a hf h1 (hl hz), toN_tnr a hf (hl hx) h2, a.tn_assoc (hl hx) (hl hy) (hl hz)]
  · show toN u t f (tn t _ (sg u t f (toN u t f _))) = toN u t f (jo u (sg u t f (toN u t f _)) (sg u t f (toN u t f _)))
    have h1 := a.tn_lt (hl hx) (hl hy)
    have h2 := a.tn_lt (hl hx) (hl hz)
    have hj := a.lat.jo_lt (hl hy) (hl hz)
    rw [sg_toN a hf h1, sg_toN a hf h2, sg_toN a hf hj, toN_tnr a hf (hl hx) hj, toN_jo a hf h1 h2, a.tn_jo (hl hx) (hl hy) (hl hz)]
abbrev quU (u : List Int) (t : List (List Int)) (f : Nat) : List Int := rowsO (qn u t f) (leQ u t f)
abbrev quT (u : List Int) (t : List (List Int)) (f : Nat) : List (List Int) := tabO (qn u t f) (tnQ u t f)
abbrev quP (u : List Int) (t : List (List Int)) (f : Nat) : List Int := (List.range u.length).map fun x => ((toN u t f x : Nat) : Int)
/-- The classes are an algebra. -/
theorem va_quot (a : VA u t) (hf : FI u t f) : VA (quU u t f) (quT u t f) := VA_O (lo_quot a hf) (po_quot a hf)
theorem quP_len : (quP u t f).length = u.length := by simp [quP]
theorem quP_gi (hx : x < u.length) : gi (quP u t f) x = (toN u t f x : Nat) := by simp [gi, quP, hx]
end
end Go.PS
end

section
-- PRINTED by gen.py: clean texts of functions, and their tie to the program.
set_option maxRecDepth 100000
namespace Go.PS
open Go.Proofs
/-- spec.numbersOf -/
def an_197 : Ann := ⟨[(2, 2, 3), (3, 0, 1), (11, 0, 1)], [(0, [1, 2]), (1, [1, 2, 6]), (2, [6, 7]), (3, [6, 7, 8]), (4, [6, 7, 8, 9]), (5, [6, 7, 8, 9, 22]), (7, [6, 7, 8, 9, 39]), (8, [6, 7, 8, 9]), (6, [6, 7, 8, 9]), (9, [6, 7, 8, 49]), (10, [6, 7, 8]), (11, [6, 7, 8, 10]), (12, [6, 7, 8, 10, 11]), (13, [6, 7, 8, 10, 11, 61]), (15, [6, 7, 8, 10, 11, 12]), (16, [6, 7, 8, 10, 11, 12, 67]), (18, [6, 7, 8, 10, 11, 12, 78]), (19, [6, 7, 8, 10, 11, 12]), (17, [6, 7, 8, 10, 11, 12]), (14, [6, 7, 8, 10, 11]), (20, [4, 5])], [(5, [6, 7, 8, 9], [152, 344, 456]), (13, [6, 7, 8, 10, 11], [152, 344, 456, 464, 656]), (16, [6, 7, 8, 10, 11, 12], [152, 344, 456, 464, 656])], []⟩
def lb_197_5 : AC :=
  (.seq
    (.seq
      (.region false [⟨some 20, (.mv (.t 9)), 3, none, 0⟩, ⟨some 21, (.mv (.t 6)), 3, none, 0⟩, ⟨some 22, (.bin .lss 3 (.t 20) (.t 21)), 4, none, 0⟩] (some [6, 7, 8, 9, 22]))
      (.cond (.t 22)
        .skip
        (.exit 0)))
    (.seq
      (.block 1
        (.seq
          (.region false (gops [⟨some 25, (.mv (.t 7)), 23, none, 0⟩, ⟨some 26, (.mv (.t 9)), 3, none, 0⟩, ⟨some 27, (.iaddr 23 (.t 25) (.t 26)), 0, none, 0⟩, ⟨some 28, (.load 3 (.t 27)), 3, none, 0⟩, ⟨some 29, (.mv (.t 9)), 3, none, 0⟩, ⟨some 30, (.bin .eql 3 (.t 28) (.t 29)), 4, none, 0⟩, ⟨some 31, (.mv (.t 30)), 4, none, 0⟩, ⟨some 32, (.mv (.t 7)), 23, some (31, true), 0⟩, ⟨some 33, (.mv (.t 6)), 3, some (31, true), 0⟩, ⟨some 34, (.bin .sub 3 (.t 33) (.c (.int .i64 1))), 3, some (31, true), 0⟩, ⟨some 35, (.iaddr 23 (.t 32) (.t 34)), 0, some (31, true), 0⟩, ⟨some 36, (.load 3 (.t 35)), 3, some (31, true), 0⟩, ⟨some 37, (.mv (.t 9)), 3, some (31, true), 0⟩, ⟨some 38, (.bin .neq 3 (.t 36) (.t 37)), 4, some (31, true), 0⟩, ⟨some 39, (.pick (.t 31) (.t 38) (.c (.bool false))), 4, none, 0⟩]) (some [6, 7, 8, 9, 39]))
          (.cond (.t 39)
            (.region false [⟨some 40, (.mv (.t 8)), 23, none, 0⟩, ⟨some 41, (.mv (.t 9)), 3, none, 0⟩, ⟨some 42, (.bslice 23 1 [(0, (.t 41))]), 23, none, 0⟩, ⟨some 43, (.app 23 23 (.t 40) (.t 42)), 23, none, 0⟩, ⟨some 8, (.mv (.t 43)), 23, none, 0⟩] (some [6, 7, 8, 9]))
            .skip)))
      (.region false [⟨some 23, (.mv (.t 9)), 3, none, 0⟩, ⟨some 24, (.bin .add 3 (.t 23) (.c (.int .i64 1))), 3, none, 0⟩, ⟨some 9, (.mv (.t 24)), 3, none, 0⟩] (some [6, 7, 8, 9]))))
def lb_197_16 : AC :=
  (.seq
    (.seq
      (.region false [⟨some 64, (.mv (.t 12)), 3, none, 0⟩, ⟨some 65, (.mv (.t 8)), 23, none, 0⟩, ⟨some 66, (.len 23 (.t 65)), 3, none, 0⟩, ⟨some 67, (.bin .lss 3 (.t 64) (.t 66)), 4, none, 0⟩] (some [6, 7, 8, 10, 11, 12, 67]))
      (.cond (.t 67)
        .skip
        (.exit 4)))
    (.seq
      (.block 5
        (.seq
          (.region true [⟨some 70, (.mv (.t 8)), 23, none, 0⟩, ⟨some 71, (.mv (.t 12)), 3, none, 0⟩, ⟨some 72, (.iaddr 23 (.t 70) (.t 71)), 0, none, 0⟩, ⟨some 73, (.load 3 (.t 72)), 3, none, 0⟩, ⟨some 74, (.mv (.t 7)), 23, none, 0⟩, ⟨some 75, (.mv (.t 11)), 3, none, 0⟩, ⟨some 76, (.iaddr 23 (.t 74) (.t 75)), 0, none, 0⟩, ⟨some 77, (.load 3 (.t 76)), 3, none, 0⟩, ⟨some 78, (.bin .eql 3 (.t 73) (.t 77)), 4, none, 0⟩] (some [6, 7, 8, 10, 11, 12, 78]))
          (.cond (.t 78)
            (.region false [⟨some 79, (.mv (.t 10)), 23, none, 0⟩, ⟨some 80, (.mv (.t 12)), 3, none, 0⟩, ⟨some 81, (.bslice 23 1 [(0, (.t 80))]), 23, none, 0⟩, ⟨some 82, (.app 23 23 (.t 79) (.t 81)), 23, none, 0⟩, ⟨some 10, (.mv (.t 82)), 23, none, 0⟩] (some [6, 7, 8, 10, 11, 12]))
            .skip)))
      (.region false [⟨some 68, (.mv (.t 12)), 3, none, 0⟩, ⟨some 69, (.bin .add 3 (.t 68) (.c (.int .i64 1))), 3, none, 0⟩, ⟨some 12, (.mv (.t 69)), 3, none, 0⟩] (some [6, 7, 8, 10, 11, 12]))))
def lb_197_13 : AC :=
  (.seq
    (.seq
      (.region false [⟨some 59, (.mv (.t 11)), 3, none, 0⟩, ⟨some 60, (.mv (.t 6)), 3, none, 0⟩, ⟨some 61, (.bin .lss 3 (.t 59) (.t 60)), 4, none, 0⟩] (some [6, 7, 8, 10, 11, 61]))
      (.cond (.t 61)
        .skip
        (.exit 2)))
    (.seq
      (.block 3
        (.seq
          (.region false [⟨some 12, (.mv (.c (.int .i64 0))), 3, none, 0⟩] (some [6, 7, 8, 10, 11, 12]))
          (.block 4
            (.loop [6, 7, 8, 10, 11, 12] [152, 344, 456, 464, 656] lb_197_16))))
      (.region false [⟨some 62, (.mv (.t 11)), 3, none, 0⟩, ⟨some 63, (.bin .add 3 (.t 62) (.c (.int .i64 1))), 3, none, 0⟩, ⟨some 11, (.mv (.t 63)), 3, none, 0⟩] (some [6, 7, 8, 10, 11]))))
def fa_197 : FnA := ⟨86, [.t 4, .t 5],
  (.seq
    (.region false [⟨some 2, (.box 27 (.t 0)), 0, none, 0⟩, ⟨some 4, (.mv (.c .nil)), 23, none, 0⟩, ⟨some 5, (.mv (.c (.int .i64 0))), 3, none, 0⟩] (some [1, 2]))
    (.seq
      (.region false [⟨some 13, (.faddr 27 (.t 2) 0), 0, none, 0⟩, ⟨some 14, (.load 23 (.t 13)), 23, none, 0⟩, ⟨some 15, (.len 23 (.t 14)), 3, none, 0⟩, ⟨some 6, (.mv (.t 15)), 3, none, 0⟩] (some [1, 2, 6]))
      (.seq
        (.region false [⟨some 16, (.load 27 (.t 2)), 27, none, 0⟩, ⟨some 17, (.mv (.t 1)), 3, none, 0⟩, ⟨some 18, (.call (.f 133) [(.t 16), (.t 17)]), 23, none, 3⟩, ⟨some 7, (.mv (.t 18)), 23, none, 0⟩] (some [6, 7]))
        (.seq
          (.region false [⟨some 19, (.bslice 23 1 [(0, (.c (.int .i64 0)))]), 23, none, 1⟩, ⟨some 8, (.mv (.t 19)), 23, none, 0⟩] (some [6, 7, 8]))
          (.seq
            (.seq
              (.region false [⟨some 9, (.mv (.c (.int .i64 1))), 3, none, 0⟩] (some [6, 7, 8, 9]))
              (.block 0
                (.loop [6, 7, 8, 9] [152, 344, 456] lb_197_5)))
            (.seq
              (.seq
                (.region false [⟨some 44, (.mv (.t 7)), 23, none, 0⟩, ⟨some 45, (.mv (.t 6)), 3, none, 0⟩, ⟨some 46, (.bin .sub 3 (.t 45) (.c (.int .i64 1))), 3, none, 0⟩, ⟨some 47, (.iaddr 23 (.t 44) (.t 46)), 0, none, 0⟩, ⟨some 48, (.load 3 (.t 47)), 3, none, 0⟩, ⟨some 49, (.bin .neq 3 (.t 48) (.c (.int .i64 0))), 4, none, 0⟩] (some [6, 7, 8, 49]))
                (.cond (.t 49)
                  (.region false [⟨some 50, (.mv (.t 8)), 23, none, 0⟩, ⟨some 51, (.mv (.t 7)), 23, none, 0⟩, ⟨some 52, (.mv (.t 6)), 3, none, 0⟩, ⟨some 53, (.bin .sub 3 (.t 52) (.c (.int .i64 1))), 3, none, 0⟩, ⟨some 54, (.iaddr 23 (.t 51) (.t 53)), 0, none, 0⟩, ⟨some 55, (.load 3 (.t 54)), 3, none, 0⟩, ⟨some 56, (.bslice 23 1 [(0, (.t 55))]), 23, none, 0⟩, ⟨some 57, (.app 23 23 (.t 50) (.t 56)), 23, none, 0⟩, ⟨some 8, (.mv (.t 57)), 23, none, 0⟩] (some [6, 7, 8]))
                  .skip))
              (.seq
                (.region false [⟨some 58, (.bslice 23 0 []), 23, none, 1⟩, ⟨some 10, (.mv (.t 58)), 23, none, 0⟩] (some [6, 7, 8, 10]))
                (.seq
                  (.seq
                    (.region false [⟨some 11, (.mv (.c (.int .i64 0))), 3, none, 0⟩] (some [6, 7, 8, 10, 11]))
                    (.block 2
                      (.loop [6, 7, 8, 10, 11] [152, 344, 456, 464, 656] lb_197_13)))
                  (.seq
                    (.region false [⟨some 83, (.mv (.t 10)), 23, none, 0⟩, ⟨some 84, (.mv (.t 8)), 23, none, 0⟩, ⟨some 85, (.len 23 (.t 84)), 3, none, 0⟩, ⟨some 4, (.mv (.t 83)), 23, none, 0⟩, ⟨some 5, (.mv (.t 85)), 3, none, 0⟩] (some [4, 5]))
                    .ret)))))))))⟩
theorem fok_197 : FnOk Try.prog 197 fa_197 an_197 := ⟨Try.f197, _, Try.func197, rfl, by kernel_rfl, rfl, rfl, by decide, by kernel_rfl⟩
/-- spec.quotient -/
def an_180 : Ann := ⟨[(1, 2, 1), (12, 0, 1), (16, 10, 3), (16, 11, 3), (17, 2, 3), (20, 3, 2)], [(0, [1, 2, 4]), (1, [1, 2, 4, 6, 7]), (2, [1, 2, 4, 6, 7, 8]), (3, [1, 2, 4, 6, 7, 8, 9]), (4, [1, 2, 4, 6, 7, 8, 9, 27]), (6, [1, 2, 4, 6, 7, 8, 9]), (5, [1, 2, 4, 6, 7, 8, 9]), (7, [1, 2, 4, 6, 7, 8, 10]), (8, [1, 2, 4, 6, 7, 8, 10, 11]), (9, [1, 2, 4, 6, 7, 8, 10, 11, 40]), (11, [1, 2, 4, 6, 7, 8, 10, 11, 12]), (12, [1, 2, 4, 6, 7, 8, 10, 11, 12, 13]), (13, [1, 2, 4, 6, 7, 8, 10, 11, 12, 13, 14]), (14, [1, 2, 4, 6, 7, 8, 10, 11, 12, 13, 14, 46]), (16, [1, 2, 4, 6, 7, 8, 10, 11, 12, 13, 14, 61]), (17, [1, 2, 4, 6, 7, 8, 10, 11, 12, 13, 14]), (18, [1, 2, 4, 6, 7, 8, 10, 11, 12, 13, 14]), (15, [1, 2, 4, 6, 7, 8, 10, 11, 12, 13, 14]), (19, [1, 2, 4, 6, 7, 8, 10, 11, 13]), (20, [1, 2, 4, 6, 7, 8, 10, 11]), (10, [1, 2, 4, 6, 7, 8, 10, 11]), (21, [4, 5])], [(4, [1, 2, 4, 6, 7, 8, 9], [32, 144, 145, 146, 147, 148, 149, 150, 151, 176, 720, 768]), (9, [1, 2, 4, 6, 7, 8, 10, 11], [32, 80, 144, 145, 146, 147, 148, 149, 150, 151, 176, 720, 768]), (14, [1, 2, 4, 6, 7, 8, 10, 11, 12, 13, 14], [32, 80, 144, 145, 146, 147, 148, 149, 150, 151, 176, 344, 680, 720, 768])], []⟩
def lb_180_4 : AC :=
  (.seq
    (.seq
      (.region false [⟨some 26, (.mv (.t 9)), 3, none, 0⟩, ⟨some 27, (.bin .geq 3 (.t 26) (.c (.int .i64 0))), 4, none, 0⟩] (some [1, 2, 4, 6, 7, 8, 9, 27]))
      (.cond (.t 27)
        .skip
        (.exit 0)))
    (.seq
      (.block 1
        (.region false [⟨some 30, (.mv (.t 8)), 23, none, 0⟩, ⟨some 31, (.mv (.t 6)), 23, none, 0⟩, ⟨some 32, (.mv (.t 9)), 3, none, 0⟩, ⟨some 33, (.iaddr 23 (.t 31) (.t 32)), 0, none, 0⟩, ⟨some 34, (.load 3 (.t 33)), 3, none, 0⟩, ⟨some 35, (.mv (.t 9)), 3, none, 0⟩, ⟨some 36, (.iaddr 23 (.t 30) (.t 34)), 0, none, 0⟩, ⟨none, (.store 3 (.t 36) (.t 35)), 0, none, 0⟩] (some [1, 2, 4, 6, 7, 8, 9])))
      (.region false [⟨some 28, (.mv (.t 9)), 3, none, 0⟩, ⟨some 29, (.bin .sub 3 (.t 28) (.c (.int .i64 1))), 3, none, 0⟩, ⟨some 9, (.mv (.t 29)), 3, none, 0⟩] (some [1, 2, 4, 6, 7, 8, 9]))))
def lb_180_14 : AC :=
  (.seq
    (.seq
      (.region false [⟨some 44, (.mv (.t 14)), 3, none, 0⟩, ⟨some 45, (.mv (.t 7)), 3, none, 0⟩, ⟨some 46, (.bin .lss 3 (.t 44) (.t 45)), 4, none, 0⟩] (some [1, 2, 4, 6, 7, 8, 10, 11, 12, 13, 14, 46]))
      (.cond (.t 46)
        .skip
        (.exit 4)))
    (.seq
      (.block 5
        (.seq
          (.seq
            (.region true [⟨some 49, (.mv (.t 1)), 3, none, 0⟩, ⟨some 50, (.load 27 (.t 2)), 27, none, 0⟩, ⟨some 51, (.mv (.t 8)), 23, none, 0⟩, ⟨some 52, (.mv (.t 11)), 3, none, 0⟩, ⟨some 53, (.iaddr 23 (.t 51) (.t 52)), 0, none, 0⟩, ⟨some 54, (.load 3 (.t 53)), 3, none, 0⟩, ⟨some 55, (.mv (.t 8)), 23, none, 0⟩, ⟨some 56, (.mv (.t 14)), 3, none, 0⟩, ⟨some 57, (.iaddr 23 (.t 55) (.t 56)), 0, none, 0⟩, ⟨some 58, (.load 3 (.t 57)), 3, none, 0⟩, ⟨some 59, (.call (.f 137) [(.t 50), (.t 54), (.t 58)]), 3, none, 3⟩, ⟨some 60, (.call (.f 171) [(.t 49), (.t 59)]), 3, none, 3⟩, ⟨some 61, (.bin .eql 3 (.t 60) (.c (.int .i64 1))), 4, none, 0⟩] (some [1, 2, 4, 6, 7, 8, 10, 11, 12, 13, 14, 61]))
            (.cond (.t 61)
              (.region false [⟨some 62, (.mv (.t 12)), 3, none, 0⟩, ⟨some 63, (.mv (.t 14)), 3, none, 0⟩, ⟨some 64, (.call (.f 121) [(.t 63)]), 3, none, 3⟩, ⟨some 65, (.bin .add 3 (.t 62) (.t 64)), 3, none, 0⟩, ⟨some 12, (.mv (.t 65)), 3, none, 0⟩] (some [1, 2, 4, 6, 7, 8, 10, 11, 12, 13, 14]))
              .skip))
          (.region true (seg [1, 2, 4, 6, 7, 8, 10, 11, 12, 14, 66, 67, 75] [⟨some 66, (.mv (.t 13)), 23, none, 0⟩, ⟨some 67, (.mv (.t 6)), 23, none, 0⟩, ⟨some 68, (.faddr 27 (.t 2) 1), 0, none, 0⟩, ⟨some 69, (.load 25 (.t 68)), 25, none, 0⟩, ⟨some 70, (.mv (.t 8)), 23, none, 0⟩, ⟨some 71, (.mv (.t 11)), 3, none, 0⟩, ⟨some 72, (.iaddr 23 (.t 70) (.t 71)), 0, none, 0⟩, ⟨some 73, (.load 3 (.t 72)), 3, none, 0⟩, ⟨some 74, (.iaddr 25 (.t 69) (.t 73)), 0, none, 0⟩, ⟨some 75, (.load 23 (.t 74)), 23, none, 0⟩]
          [⟨some 76, (.mv (.t 8)), 23, none, 0⟩, ⟨some 77, (.mv (.t 14)), 3, none, 0⟩, ⟨some 78, (.iaddr 23 (.t 76) (.t 77)), 0, none, 0⟩, ⟨some 79, (.load 3 (.t 78)), 3, none, 0⟩, ⟨some 80, (.iaddr 23 (.t 75) (.t 79)), 0, none, 0⟩, ⟨some 81, (.load 3 (.t 80)), 3, none, 0⟩, ⟨some 82, (.iaddr 23 (.t 67) (.t 81)), 0, none, 0⟩, ⟨some 83, (.load 3 (.t 82)), 3, none, 0⟩, ⟨some 84, (.bslice 23 1 [(0, (.t 83))]), 23, none, 0⟩, ⟨some 85, (.app 23 23 (.t 66) (.t 84)), 23, none, 0⟩, ⟨some 13, (.mv (.t 85)), 23, none, 0⟩] [1, 2, 4, 6, 7, 8, 10, 11, 12, 13, 14] (by decide)) (some [1, 2, 4, 6, 7, 8, 10, 11, 12, 13, 14]))))
      (.region false [⟨some 47, (.mv (.t 14)), 3, none, 0⟩, ⟨some 48, (.bin .add 3 (.t 47) (.c (.int .i64 1))), 3, none, 0⟩, ⟨some 14, (.mv (.t 48)), 3, none, 0⟩] (some [1, 2, 4, 6, 7, 8, 10, 11, 12, 13, 14]))))
def lb_180_9 : AC :=
  (.seq
    (.seq
      (.region false [⟨some 38, (.mv (.t 11)), 3, none, 0⟩, ⟨some 39, (.mv (.t 7)), 3, none, 0⟩, ⟨some 40, (.bin .lss 3 (.t 38) (.t 39)), 4, none, 0⟩] (some [1, 2, 4, 6, 7, 8, 10, 11, 40]))
      (.cond (.t 40)
        .skip
        (.exit 2)))
    (.seq
      (.block 3
        (.seq
          (.region false [⟨some 12, (.mv (.c (.int .i64 0))), 3, none, 0⟩] (some [1, 2, 4, 6, 7, 8, 10, 11, 12]))
          (.seq
            (.region false [⟨some 43, (.bslice 23 0 []), 23, none, 1⟩, ⟨some 13, (.mv (.t 43)), 23, none, 0⟩] (some [1, 2, 4, 6, 7, 8, 10, 11, 12, 13]))
            (.seq
              (.seq
                (.region false [⟨some 14, (.mv (.c (.int .i64 0))), 3, none, 0⟩] (some [1, 2, 4, 6, 7, 8, 10, 11, 12, 13, 14]))
                (.block 4
                  (.loop [1, 2, 4, 6, 7, 8, 10, 11, 12, 13, 14] [32, 80, 144, 145, 146, 147, 148, 149, 150, 151, 176, 344, 680, 720, 768] lb_180_14)))
              (.seq
                (.region false [⟨some 86, (.faddr 27 (.t 10) 0), 0, none, 0⟩, ⟨some 87, (.load 23 (.t 86)), 23, none, 0⟩, ⟨some 88, (.mv (.t 12)), 3, none, 0⟩, ⟨some 89, (.bslice 23 1 [(0, (.t 88))]), 23, none, 0⟩, ⟨some 90, (.app 23 23 (.t 87) (.t 89)), 23, none, 0⟩, ⟨some 91, (.faddr 27 (.t 10) 0), 0, none, 0⟩, ⟨none, (.store 23 (.t 91) (.t 90)), 0, none, 0⟩] (some [1, 2, 4, 6, 7, 8, 10, 11, 13]))
                (.region false [⟨some 92, (.faddr 27 (.t 10) 1), 0, none, 0⟩, ⟨some 93, (.load 25 (.t 92)), 25, none, 0⟩, ⟨some 94, (.mv (.t 13)), 23, none, 0⟩, ⟨some 95, (.bslice 25 1 [(0, (.t 94))]), 25, none, 2⟩, ⟨some 96, (.app 25 25 (.t 93) (.t 95)), 25, none, 0⟩, ⟨some 97, (.faddr 27 (.t 10) 1), 0, none, 0⟩, ⟨none, (.store 25 (.t 97) (.t 96)), 0, none, 0⟩] (some [1, 2, 4, 6, 7, 8, 10, 11])))))))
      (.region false [⟨some 41, (.mv (.t 11)), 3, none, 0⟩, ⟨some 42, (.bin .add 3 (.t 41) (.c (.int .i64 1))), 3, none, 0⟩, ⟨some 11, (.mv (.t 42)), 3, none, 0⟩] (some [1, 2, 4, 6, 7, 8, 10, 11]))))
def fa_180 : FnA := ⟨100, [.c 4 27, .t 5],
  (.seq
    (.region false [⟨some 2, (.box 27 (.t 0)), 0, none, 0⟩, ⟨some 4, (.alloc 27), 0, none, 0⟩, ⟨some 5, (.mv (.c .nil)), 23, none, 0⟩] (some [1, 2, 4]))
    (.seq
      (.region false [⟨some 16, (.load 27 (.t 2)), 27, none, 0⟩, ⟨some 17, (.mv (.t 1)), 3, none, 0⟩, ⟨some 18, (.call (.f 197) [(.t 16), (.t 17)]), 124, none, 1⟩, ⟨some 15, (.mv (.t 18)), 124, none, 0⟩, ⟨some 19, (.ext (.t 15) 0), 23, none, 0⟩, ⟨some 20, (.ext (.t 15) 1), 3, none, 0⟩, ⟨some 6, (.mv (.t 19)), 23, none, 0⟩, ⟨some 7, (.mv (.t 20)), 3, none, 0⟩] (some [1, 2, 4, 6, 7]))
      (.seq
        (.region false [⟨some 21, (.mv (.t 7)), 3, none, 0⟩, ⟨some 22, (.make 23 (.t 21) (.t 21)), 23, none, 0⟩, ⟨some 8, (.mv (.t 22)), 23, none, 0⟩] (some [1, 2, 4, 6, 7, 8]))
        (.seq
          (.seq
            (.region false [⟨some 23, (.mv (.t 6)), 23, none, 0⟩, ⟨some 24, (.len 23 (.t 23)), 3, none, 0⟩, ⟨some 25, (.bin .sub 3 (.t 24) (.c (.int .i64 1))), 3, none, 0⟩, ⟨some 9, (.mv (.t 25)), 3, none, 0⟩] (some [1, 2, 4, 6, 7, 8, 9]))
            (.block 0
              (.loop [1, 2, 4, 6, 7, 8, 9] [32, 144, 145, 146, 147, 148, 149, 150, 151, 176, 720, 768] lb_180_4)))
          (.seq
            (.region false [⟨some 37, (.build 27 []), 27, none, 0⟩, ⟨some 10, (.alloc 27), 0, none, 0⟩, ⟨none, (.store 27 (.t 10) (.t 37)), 0, none, 0⟩] (some [1, 2, 4, 6, 7, 8, 10]))
            (.seq
              (.seq
                (.region false [⟨some 11, (.mv (.c (.int .i64 0))), 3, none, 0⟩] (some [1, 2, 4, 6, 7, 8, 10, 11]))
                (.block 2
                  (.loop [1, 2, 4, 6, 7, 8, 10, 11] [32, 80, 144, 145, 146, 147, 148, 149, 150, 151, 176, 720, 768] lb_180_9)))
              (.seq
                (.region false [⟨some 98, (.load 27 (.t 10)), 27, none, 0⟩, ⟨some 99, (.mv (.t 6)), 23, none, 0⟩, ⟨none, (.store 27 (.t 4) (.t 98)), 0, none, 0⟩, ⟨some 5, (.mv (.t 99)), 23, none, 0⟩] (some [4, 5]))
                .ret)))))))⟩
theorem fok_180 : FnOk Try.prog 180 fa_180 an_180 := ⟨Try.f180, _, Try.func180, rfl, by kernel_rfl, rfl, rfl, by decide, by kernel_rfl⟩
end Go.PS
end

section
-- Contracts: the numbers of classes.
set_option maxRecDepth 100000
set_option linter.unusedVariables false
set_option linter.unusedSimpArgs false
namespace Go.PS
open Go.Proofs

def nI (l : List Nat) : List Int := l.map fun (x : Nat) => (x : Int)
@[simp] theorem nI_length {l : List Nat} : (nI l).length = l.length := by simp [nI]
theorem gi_nI {l : List Nat} {i : Nat} (h : i < l.length) : gi (nI l) i = (l.getD i 0 : Nat) := by simp [gi, nI, List.getD_eq_getElem?_getD, h]
theorem nI_append {l m : List Nat} : nI (l ++ m) = nI l ++ nI m := by simp [nI]
section
variable {u : List Int} {t : List (List Int)} {f x y z : Nat}
def nmP (u : List Int) (t : List (List Int)) (f x : Nat) : Bool := decide (cl u t f x = x) && decide (x ≠ cl u t f (u.length - 1))
def nmH (u : List Int) (t : List (List Int)) (f i : Nat) : List Nat := 0 :: (List.range i).filter fun x => decide (x ≠ 0) && nmP u t f x
theorem nmH_one : nmH u t f 1 = [0] := by simp [nmH, List.range_succ, List.filter_cons]
theorem nmH_succ : nmH u t f (x + 1 + 1) = nmH u t f (x + 1) ++ if nmP u t f (x + 1) then [x + 1] else [] := by
  unfold nmH
  rw [List.range_succ (n := x + 1), List.filter_append, List.filter_cons]
  cases nmP u t f (x + 1) <;> simp
theorem nmH_len {i : Nat} : (nmH u t f i).length ≤ i + 1 := by
  unfold nmH
  have := List.length_filter_le (fun x => decide (x ≠ 0) && nmP u t f x) (List.range i)
  rw [List.length_range] at this
  rw [List.length_cons]; omega
theorem nmH_end (a : VA u t) (hf : FI u t f) : nms u t f = if cl u t f (u.length - 1) = 0 then nmH u t f u.length else nmH u t f u.length ++ [cl u t f (u.length - 1)] := by
  have hp := a.lat.pos
  split
  · rename_i e
    have e0 : f.testBit 0 = true := by
      have h : cl u t f (u.length - 1) = cl u t f 0 := by rw [e, cl_zero a hf]
      have h2 := (cl_eq a hf (x := 0) (y := u.length - 1) hp (by omega)).1 h.symm
      rw [a.nr_topr hp] at h2; exact h2
    have hall : ∀ x, x < u.length → cl u t f x = 0 := fun x hx => by
      have h2 := (cl_eq a hf hx hp).2 (hf.up 0 hp _ a.nr_lt e0 (a.lat.bot a.nr_lt))
      rw [h2, cl_zero a hf]
    have hn : ((List.range u.length).filter fun x => decide (cl u t f x = x) && decide (x ≠ 0)) = [] := by
      rw [List.filter_eq_nil_iff]
      intro x hx h
      rw [Bool.and_eq_true, decide_eq_true_eq, decide_eq_true_eq] at h
      rw [hall x (by simpa using hx)] at h
      exact h.2 h.1.symm
    have hn2 : ((List.range u.length).filter fun x => decide (x ≠ 0) && nmP u t f x) = [] := by
      rw [List.filter_eq_nil_iff]
      intro x hx h
      unfold nmP at h
      simp only [Bool.and_eq_true, decide_eq_true_eq] at h
      rw [hall x (by simpa using hx)] at h
      exact h.1 h.2.1.symm
    unfold nms nmH
    rw [hn2, e, hn]; rfl
  · rename_i e
    unfold nms nmH
    congr 1
    obtain ⟨m, hm⟩ : ∃ m, u.length = m + 1 := ⟨u.length - 1, by omega⟩
    have h0 : (decide (cl u t f 0 = 0) && decide (0 ≠ cl u t f (u.length - 1))) = true := by
      rw [cl_zero a hf]
      simp
      omega
    have h1 : ∀ p : Nat → Bool, (List.range u.length).filter p = (if p 0 then [0] else []) ++ ((List.range m).map Nat.succ).filter p := fun p => by
      rw [hm, List.range_succ_eq_map, List.filter_cons]
      cases p 0 <;> rfl
    rw [h1, h1, if_pos h0]
    simp only [ne_eq, not_true_eq_false, decide_false, Bool.false_and, Bool.false_eq_true, if_false, List.nil_append, List.singleton_append]
    congr 1
    refine List.filter_congr fun x hx => ?_
    rw [List.mem_map] at hx
    obtain ⟨y, _, rfl⟩ := hx
    simp [nmP]
theorem sg_eq (a : VA u t) (hf : FI u t f) (hx : x < u.length) (hi : y < qn u t f) : sg u t f y = cl u t f x ↔ y = toN u t f x := by
  constructor
  · intro h
    rw [← sg_toN a hf hx] at h
    have h1 := ixN_at (l := nms u t f) nms_nodup hi
    have h2 := ixN_at (l := nms u t f) nms_nodup (toN_lt a hf hx)
    rw [← h1, ← h2]
    exact congrArg _ h
  · rintro rfl
    exact sg_toN a hf hx
end

section
variable {u : List Int} {t : List (List Int)} {f : Nat} {L : List Int}
set_option maxHeartbeats 1000000 in
theorem nos_tail (a : VA u t) (hf : FI u t f) (hlen : L.length = u.length) (hL : ∀ x, x < u.length → gi L x = (cl u t f x : Nat)) {Q : AExit → St → Prop} {x y0 g0 : Nat}
    (hQ : ∀ y g, Q (.exit 2) ⟨[(6, I64 u.length), (7, .list 1 (ints L)), (8, .arr 152 x), (10, .arr 464 y), (11, I64 u.length), (61, .bool false)], [⟨152, x, .arr 1 (ints (nI (nms u t f)))⟩, ⟨464, y, .arr 1 (ints (quP u t f))⟩], g⟩) :
    run C0 0 (tabK [fm_clsS]) (.loop [6, 7, 8, 10, 11] [152, 344, 456, 464, 656] lb_197_13) Q ⟨[(6, I64 u.length), (7, .list 1 (ints L)), (8, .arr 152 x), (10, .arr 464 y0), (11, I64 0)], [⟨464, y0, .arr 1 []⟩, ⟨152, x, .arr 1 (ints (nI (nms u t f)))⟩], g0⟩ := by
  have h6 := a.lat.six
  have hq := nms_le a hf
  have hul : u.length ≤ 1099511627776 := by omega
  refine loopX (tabK_mono _) u.length (fun i γ => [(10, .arr 464 γ), (11, I64 i)]) (fun i γ => [⟨152, x, .arr 1 (ints (nI (nms u t f)))⟩, ⟨464, γ, .arr 1 (ints (tl i fun z => ((toN u t f z : Nat) : Int)))⟩]) (fun _ _ => True) y0 (by simp) (by simp [tl_zero, ints_nil]) trivial (fun i γ g hi _ => ?_)
  simp [lb_197_13]
  refine ⟨fun h => ?_, fun h => ?_⟩
  · refine loopX (tabK_mono _) (qn u t f) (fun j δ => [(10, .arr 464 δ), (12, I64 j)]) (fun j δ => [⟨152, x, .arr 1 (ints (nI (nms u t f)))⟩, ⟨464, δ, .arr 1 (ints ((tl i fun z => ((toN u t f z : Nat) : Int)) ++ if toN u t f i < j then [((toN u t f i : Nat) : Int)] else []))⟩]) (fun _ _ => True) γ (by simp) (by simp) trivial (fun j δ g2 hj _ => ?_)
    simp [lb_197_16]
    refine ⟨fun h2 => ?_, fun h2 => ?_⟩
    · have e1 : gi (nI (nms u t f)) j = (sg u t f j : Nat) := gi_nI h2
      have e2 := hL i h
      have e3 := sg_eq a hf h (y := j) h2
      have hk := toN_lt a hf h
      have hw : IntKind.i64.wrap ((j : Int) + 1) = (j : Int) + 1 := wrap64 (by omega) (by omega)
      generalize toN u t f i = k at *
      generalize sg u t f j = w at *
      generalize cl u t f i = d at *
      have e4 : ((w : Int) = d) ↔ j = k := by rw [← e3]; omega
      simp [e1, e2, hlen, h, e4, h2]
      refine ⟨fun e => ?_, fun e => ?_⟩
      · subst e
        simp [hw]
        exact leBig (by omega)
      · rcases Nat.lt_or_ge k j with c | c
        · simp [hw, c, show k < j + 1 by omega]
        · simp [hw, show ¬ k < j by omega, show ¬ k < j + 1 by omega]
    · obtain rfl : j = qn u t f := by
        have : qn u t f = (nms u t f).length := rfl
        omega
      have hk := toN_lt a hf h
      refine ⟨h, δ, ⟨rfl, wrap64 (by omega) (by omega)⟩, rfl, ?_⟩
      rw [if_pos hk, tl_succ]
  · obtain rfl : i = u.length := by omega
    have := hQ γ g
    rw [show quP u t f = tl u.length (fun z => ((toN u t f z : Nat) : Int)) from rfl] at this
    simpa using this
end
set_option maxHeartbeats 2000000 in
theorem nosS_pc (u : List Int) (t : List (List Int)) (f : Int) (a : VA u t) (hf : FI u t f.toNat) (h0 : 0 ≤ f) : PC Try.prog 197 [AL u t, I64 f] none true (fun r _ => r = .tup [IO1 (quP u t f.toNat), I64 (qn u t f.toNat)]) := by
  obtain ⟨f, rfl⟩ := Int.eq_ofNat_of_zero_le h0
  simp only [Int.toNat_natCast] at hf ⊢
  have v := a.lat
  have h6 := v.six
  have hp := v.pos
  have hul : u.length ≤ 1099511627776 := by omega
  obtain ⟨m, hm⟩ : ∃ m, u.length = m + 1 := ⟨u.length - 1, by omega⟩
  have w1 : IntKind.i64.wrap ((u.length : Int) - 1) = m := by rw [wrap64 (by omega) (by omega)]; omega
  have hem : u.length - 1 = m := by omega
  obtain ⟨L, hLL⟩ : ∃ L, tl u.length (clsI u t f) = L := ⟨_, rfl⟩
  have hlen : L.length = u.length := by rw [← hLL]; exact tl_length
  have hL : ∀ x, x < u.length → gi L x = (cl u t f x : Nat) := fun x hx => by rw [← hLL, gi_tl hx]; exact (cl_spec a hf hx).2.2
  have l1 : fm_clsS.look [AL u t, I64 (f : Int)] = some (IO1 L) := by
    have := fm_clsS_look u t f a (by simpa using hf) h0
    rw [Int.toNat_natCast, hLL] at this
    exact this
  refine pcT [fm_clsS] fok_197 ?_
  simp [fa_197, l1]
  refine loopX (tabK_mono _) m (fun i γ => [(8, .arr 152 γ), (9, I64 ((i : Int) + 1))]) (fun i γ => [⟨152, γ, .arr 1 (ints (nI (nmH u t f (i + 1))))⟩]) (fun _ _ => True) 1 (by simp) (by simp [nmH_one, nI, ints]) trivial (fun i γ g hi _ => ?_)
  simp [lb_197_5]
  refine ⟨fun h => ?_, fun h => ?_⟩
  · have hx : i + 1 < u.length := by omega
    have e1 := hL (i + 1) hx
    have e2 := hL m (by omega)
    have ht : ((i : Int) + 1).toNat = i + 1 := by omega
    refine cutW (tabK_mono _) [(39, .bool (nmP u t f (i + 1)))] (by
      unfold nmP
      rw [hem]
      generalize cl u t f (i + 1) = c at *
      generalize cl u t f m = d at *
      by_cases hc : c = i + 1
      · simp [h, e1, e2, w1, ht, hlen, hx, hc, show (0 : Int) ≤ (i : Int) + 1 by omega, show m < u.length by omega]
        omega
      · simp [h, e1, e2, w1, ht, hlen, hx, hc, show (0 : Int) ≤ (i : Int) + 1 by omega, show m < u.length by omega, show ¬ ((c : Int) = (i : Int) + 1) by omega]) ?_
    have hs := nmH_succ (u := u) (t := t) (f := f) (x := i)
    cases hb : nmP u t f (i + 1)
    · rw [hb] at hs
      simp [hs]
      exact ⟨by omega, wrap64 (by omega) (by omega)⟩
    · rw [hb] at hs
      simp [hs]
      exact ⟨leBig (by have := nmH_len (u := u) (t := t) (f := f) (i := i + 1); omega), by omega, g, ⟨rfl, wrap64 (by omega) (by omega)⟩, rfl, by rw [nI_append]; simp [nI]⟩
  · obtain rfl : i = m := by omega
    have e2 := hL i (by omega)
    have hE := nmH_end a hf
    rw [hem] at hE
    have hc0 : ((cl u t f i : Nat) : Int) = 0 ↔ cl u t f i = 0 := by omega
    generalize cl u t f i = d at *
    simp [w1, hlen, show i < u.length by omega, e2]
    refine ⟨fun h2 => ?_, fun h2 => ?_⟩
    · rw [if_neg h2, hm] at hE
      have hE2 : nI (nmH u t f (i + 1)) ++ [((d : Nat) : Int)] = nI (nms u t f) := by rw [hE, nI_append]; simp [nI]
      rw [hE2]
      refine ⟨leBig (by have := nmH_len (u := u) (t := t) (f := f) (i := i + 1); omega), nos_tail a hf hlen hL (fun y g => ?_)⟩
      simp
    · rw [if_pos h2, hm] at hE
      rw [← hE]
      refine nos_tail a hf hlen hL (fun y g => ?_)
      simp
noncomputable def fm_nosS : Fam Try.prog := mkFam (X := List Int × List (List Int) × Int) 197 true (fun (u, t, f) => [AL u t, I64 f]) (fun (u, t, f) => (VA u t) ∧ (FI u t f.toNat) ∧ (0 ≤ f)) (fun (u, t, f) => .tup [IO1 (quP u t f.toNat), I64 (qn u t f.toNat)]) (by
  rintro ⟨u, t, f⟩ ⟨a, hf, h0⟩
  exact nosS_pc u t f a hf h0)
@[simp] theorem fm_nosS_id : fm_nosS.id = 197 := rfl
@[simp] theorem fm_nosS_fresh : fm_nosS.fresh = true := rfl
@[simp] theorem fm_nosS_look (u : List Int) (t : List (List Int)) (f : Int) (a : VA u t) (hf : FI u t f.toNat) (h0 : 0 ≤ f) : fm_nosS.look [AL u t, I64 f] = some (.tup [IO1 (quP u t f.toNat), I64 (qn u t f.toNat)]) :=
  lookF_of (X := List Int × List (List Int) × Int) (args := fun (u, t, f) => [AL u t, I64 f]) (pre := fun (u, t, f) => (VA u t) ∧ (FI u t f.toNat) ∧ (0 ≤ f)) (val := fun (u, t, f) => .tup [IO1 (quP u t f.toNat), I64 (qn u t f.toNat)]) (by
  rintro ⟨u, t, f⟩ ⟨u', t', f'⟩ h
  simp at h
  try simp only [and_assoc] at h
  obtain ⟨rfl, rfl, rfl⟩ := h
  rfl) (u, t, f) ⟨a, hf, h0⟩
attribute [irreducible] fm_nosS
end Go.PS
end

section
-- Regions in all orders, by what they come to.
set_option linter.unusedVariables false
set_option linter.unusedSimpArgs false
namespace Go.PS

def exQ {α : Type} (ks kh : List Nat) (T : α → List (Nat × D)) (H : α → List Ent) (σ : St) : Prop := ∃ x, keepT ks σ.t = T x ∧ keepH kh σ.h = H x
@[simp] theorem exQ_app {α : Type} {ks kh : List Nat} {T : α → List (Nat × D)} {H : α → List Ent} {σ : St} : exQ ks kh T H σ = (∃ x, keepT ks σ.t = T x ∧ keepH kh σ.h = H x) := (rfl)
theorem cutE {C : Ctx} {kb : Nat} {i : Nat → List D → List Ent → Nat → (D → List Ent → Nat → Prop) → Prop} {σ : St} {Q : AExit → St → Prop} {α : Type} {ops : List AOper} {tr : Ex} {ks kh : List Nat} (T : α → List (Nat × D)) (H : α → List Ent)
    (h1 : exT C kb i ops (exQ ks kh T H) tr σ) (h2 : ∀ x g, Q .normal ⟨T x, H x, g⟩) : run C kb i (.expl ops tr ks kh) Q σ := by
  rw [run_expl]
  refine exT_mono (fun σ' h => ?_) tr σ h1
  obtain ⟨x, e1, e2⟩ := h
  show Q .normal ⟨keepT ks σ'.t, keepH kh σ'.h, σ'.g⟩
  rw [e1, e2]
  exact h2 x _
end Go.PS
end

section
-- Functions that write to one block: what is proved by a clean run of one; their tables in clean runs.
set_option linter.unusedVariables false
set_option linter.unusedSimpArgs false
namespace Go.PS

/-- The end of a call that hands back what it was given or what is new. -/
def endK2 (R : D → List D → Prop) (cs : List D) (h : List Ent) (d : D) : Prop := (keys 5 d).Nodup ∧ R (own h 5 d) cs
def retK2 (tt : Nat → Ty) (res : List RV) (R : D → List D → Prop) (σ : St) : Prop :=
  blkK (find σ.h 0 0) (fun cs => pureL cs ∧ resK tt res σ (endK2 R cs σ.h)) (fun _ _ => False)
def retQ2 (tt : Nat → Ty) (res : List RV) (R : D → List D → Prop) : AExit → St → Prop
  | .exit _, _ => False
  | _, σ => retK2 tt res R σ
@[simp] theorem retQ2_normal {tt : Nat → Ty} {res : List RV} {R : D → List D → Prop} {σ : St} : retQ2 tt res R .normal σ = retK2 tt res R σ := (rfl)
@[simp] theorem retQ2_ret {tt : Nat → Ty} {res : List RV} {R : D → List D → Prop} {σ : St} : retQ2 tt res R .ret σ = retK2 tt res R σ := (rfl)
attribute [simp] retK2 endK2

theorem blkK_ex {o : Option Blk} {K : List D → Prop} {K2 : Nat → List D → Prop} (h : blkK o K (fun _ _ => False)) : ∃ cs, o = some (.cells cs) ∧ K cs := by
  unfold blkK at h
  split at h
  · rename_i cs; exact ⟨cs, rfl, h⟩
  · exact h.elim
  · exact h.elim

theorem pc_of_run2 {C : Ctx} (hty : TyOk C.P C.tt) (hm : C.P.follows .mixedOrders = true) {kb : Nat} {inlK : Nat → List D → List Ent → Nat → (D → List Ent → Nat → Prop) → Prop} (hin : InlOk C inlK) {f : Nat} {fa : FnA} {A : Ann} (hf : FnOk C.P f fa A)
    {ds : List D} {cs0 : List D} {R : D → List D → Prop} (hrun : run C kb inlK fa.ac (retQ2 C.tt fa.res R) ⟨args0 0 ds, [⟨0, 0, .cells cs0⟩], 1⟩) : PC C.P f ds (some cs0) false R := by
  refine ⟨hf.enters, fun w vs F B hF hl hr hio => ?_⟩
  have start : ∃ (μ : Nat → Value) (own : List Nat), HInv w F B w [⟨0, 0, .cells cs0⟩] μ 1 own ∧ (∀ c, FF own F c → F c) ∧ (∀ b, B = some b → μ 0 = .pointer (some ⟨b, 0, none⟩)) := by
    obtain ⟨b, bv, E, hB, hFb, hb, hlen, hcs⟩ := hio
    have hFF : ∀ c, FF [b] F c → F c := fun c hc => hc.elim (fun h => by simp at h; rw [h]; exact hFb) id
    refine ⟨fun _ => .pointer (some ⟨b, 0, none⟩), [b], ⟨⟨rfl, rfl, rfl, Nat.le_refl _, fun _ _ _ => rfl⟩, hF, ⟨[b], [], rfl, ⟨Nat.zero_lt_one, ?_⟩, rfl⟩, by simp, by simp⟩, hFF, (fun b' hb' => by rw [hB] at hb'; injection hb' with hb'; rw [hb'])⟩
    refine ⟨b, bv, E, rfl, hb, hlen, ?_, ?_, rfl, .inr hB⟩
    · intro v hv
      obtain ⟨i, hi⟩ := List.mem_iff_getElem?.1 hv
      have hil : i < cs0.length := by have := (List.getElem?_eq_some_iff.1 hi).1; omega
      exact (hcs i _ v (List.getElem?_eq_getElem hil) hi).1
    · intro i d v hd hv
      exact .imm _ _ ((hcs i d v hd hv).2.weak (fun c hc _ => hFF c hc))
  obtain ⟨μ, own, I, hFF, hμ⟩ := start
  refine body_sound hty hm hin hf I (by simpa using hl) (fun i d v hd hv => ?_) hrun
    (K := fun σ d => ∃ cs, find σ.h 0 0 = some (.cells cs) ∧ pureL cs ∧ endK2 R cs σ.h d) (fun e σ' q => ?_) (fun σ' w' μ' o' d v q1 q2 q3 => ?_)
  · rcases hr i d v hd hv with h | ⟨rfl, b, hb, rfl⟩
    · exact .imm _ _ (h.weak (fun c hc _ => hFF c hc))
    · exact .ptr 0 0 0 _ Nat.zero_lt_one (fun _ => ⟨b, .inl (hμ b hb), rfl⟩)
  · have hne : ∀ id, e ≠ .exit id := by
      intro id he
      subst he
      exact q
    refine ⟨hne, ?_⟩
    have q' : retK2 C.tt fa.res R σ' := by
      cases e with
      | exit id => exact absurd rfl (hne id)
      | normal => exact q
      | ret => exact q
    obtain ⟨cs, hfind, hp, hq⟩ := blkK_ex (K2 := fun _ _ => False) q'
    exact resK_mono (fun d hd => ⟨cs, hfind, hp, hd⟩) hq
  · obtain ⟨cs, hfind, hpu, hk⟩ := q1
    have I' := q2.1
    obtain ⟨k1, k3⟩ := hk
    obtain ⟨o1, rest, p1, p2, p3, p4⟩ := own_at 5 _ _ q3 σ'.h o' I'.hok I'.nodup (fun _ _ _ => rfl) k1
    obtain ⟨b, bv, E, hB, hFb, hb, hlen, hcs⟩ := hio
    obtain ⟨o2, he, _⟩ := HOk.has σ'.h o' q2.1.hok hfind
    obtain ⟨b', bv', E', r1, r2, r3, r4, r5, r6, r7⟩ := he.cellsOf
    have hmu : μ' 0 = μ 0 := q2.2.mu 0 Nat.zero_lt_one
    rw [hmu, hμ b hB] at r1
    injection r1 with r1; injection r1 with r1; injection r1 with r1
    subst r1
    refine ⟨v, _, cs, o1, rfl, k3, (fun h => by cases h), I'.grown, ?_, (List.nodup_append.1 p3).1, ⟨b, bv', E', hB, r2, r3, fun i d v hd hv => ⟨r4 v (List.mem_of_getElem? hv), ?_⟩⟩⟩
    · exact p1.evo ⟨fun c hc _ => .inr (by simpa using hc), fun _ _ _ => rfl, Nat.le_refl _⟩ (fun _ _ => rfl) (fun c hc => (p1.lt c hc).1)
    · exact ((r5 i d v hd hv).pure 5 (hpu d (List.mem_of_getElem? hd))).weak (fun c hc _ => .inr hc)

section
variable {P : Program} {C : Ctx} {T : List (Fam P)} {TW : List (FamW P)} {n kb kb' id : Nat} {caps args : List D} {σ : St} {d : Option Nat} {aops : List AOper} {Q : St → Prop}

theorem callO3W' (hi : C.inl id = none) (hw : (findW id TW).isNone = true) : callO C kb' (inlW C T TW n kb) d 3 (.fn id caps) args σ aops Q = tab2 (findF id T) (args ++ caps) σ.h (fun v => opsK C kb' (inlW C T TW n kb) aops ⟨put σ.t d (imm 5 v), σ.h, σ.g⟩ Q) :=
  callO3W hi (by simpa using hw)
theorem callDO3W' (hi : C.inl id = none) (hw : (findW id TW).isNone = true) : callDO C kb' (inlW C T TW n kb) d 3 (.fn id caps) args σ aops Q = tab2 (findF id T) (args ++ caps) σ.h (fun v => opsKc C kb' (inlW C T TW n kb) aops ⟨put σ.t d (imm 5 v), σ.h, σ.g⟩ Q) :=
  callDO3W hi (by simpa using hw)
theorem callO16W' (hi : C.inl id = none) (hw : (findW id TW).isSome = true) : callO C kb' (inlW C T TW n kb) d 16 (.fn id caps) args σ aops Q = tabW2 (findW id TW) (args ++ caps) σ.h (fun v h => opsK C kb' (inlW C T TW n kb) aops ⟨put σ.t d (imm 5 v), h, σ.g⟩ Q) := by
  obtain ⟨f, hf⟩ := Option.isSome_iff_exists.1 hw
  rw [callO16W hi hf, hf]
theorem callDO16W' (hi : C.inl id = none) (hw : (findW id TW).isSome = true) : callDO C kb' (inlW C T TW n kb) d 16 (.fn id caps) args σ aops Q = tabW2 (findW id TW) (args ++ caps) σ.h (fun v h => opsKc C kb' (inlW C T TW n kb) aops ⟨put σ.t d (imm 5 v), h, σ.g⟩ Q) := by
  obtain ⟨f, hf⟩ := Option.isSome_iff_exists.1 hw
  rw [callDO16W hi hf, hf]
variable {ks KS : List Nat} {rest : List AOper} {ok : segOk ks rest KS = true} {Q1 : AExit → St → Prop}
end
end Go.PS
end

section
-- Contracts: what is drawn, number by number.
set_option maxRecDepth 100000
set_option linter.unusedVariables false
set_option linter.unusedSimpArgs false
namespace Go.PS
open Go.Proofs

def u8s (xs : List Int) : List D := xs.map (D.int .u8)
abbrev BL (xs : List Int) : D := .list 1 (u8s xs)
@[simp] theorem u8s_length {xs : List Int} : (u8s xs).length = xs.length := by simp [u8s]
@[simp] theorem idxK_u8s {xs : List Int} {n : Int} {K : D → Prop} : idxK (u8s xs) n K ↔ 0 ≤ n ∧ n < xs.length ∧ K (.int .u8 (gi xs n.toNat)) := by rw [← gi_getD]; exact idxK_map
@[simp] theorem u8s_inj {xs ys : List Int} : u8s xs = u8s ys ↔ xs = ys := by
  constructor
  · intro h
    have := congrArg (List.map (fun d : D => match d with | .int _ n => n | _ => 0)) h
    simpa [u8s, Function.comp_def] using this
  · rintro rfl; rfl
@[simp] theorem u8s_take {xs : List Int} {n : Nat} : (u8s xs).take n = u8s (xs.take n) := by simp [u8s, List.map_take]

/-- A reader's cells: what it reads, and how many numbers have been drawn. -/
def RS (b : List Int) (p : Nat) : List D := [BL b, I64 (p : Int)]
@[simp] theorem RS_inj {b b' : List Int} {p p' : Nat} : RS b p = RS b' p' ↔ b = b' ∧ p = p' := by
  unfold RS
  simp
  intro _
  omega
@[simp] theorem RS_pure {b : List Int} {p : Nat} : (∀ c ∈ RS b p, pureD 5 c = true) ↔ True := by simp [RS]
theorem pcW (T : List (Fam Try.prog)) (TW : List (FamW Try.prog)) {f : Nat} {fa : FnA} {A : Ann} (hf : FnOk Try.prog f fa A) {ds cs : List D} {R : D → List D → Prop}
    (h : run C0 0 (inlW C0 T TW 0 0) fa.ac (retQ2 C0.tt fa.res R) ⟨args0 0 ds, [⟨0, 0, .cells cs⟩], 1⟩) : PC Try.prog f ds (some cs) false R :=
  pc_of_run2 (C := C0) (kb := 0) hty0 Try.checked.mixed (inlW_ok (C := C0) hty0 Try.checked.mixed (by intro f fa h; cases h) T TW 0 0) hf h
section
variable {T : List (Fam Try.prog)} {TW : List (FamW Try.prog)} {n kb kb' id : Nat} {caps args : List D} {σ : St} {d : Option Nat} {ops : List AOper} {Q : St → Prop}
theorem callOW (hw : (findW id TW).isSome = true) : callO C0 kb' (inlW C0 T TW n kb) d 16 (.fn id caps) args σ ops Q = tabW2 (findW id TW) (args ++ caps) σ.h (fun v h => opsK C0 kb' (inlW C0 T TW n kb) ops ⟨put σ.t d (imm 5 v), h, σ.g⟩ Q) := callO16W' rfl hw
theorem callDOW (hw : (findW id TW).isSome = true) : callDO C0 kb' (inlW C0 T TW n kb) d 16 (.fn id caps) args σ ops Q = tabW2 (findW id TW) (args ++ caps) σ.h (fun v h => opsKc C0 kb' (inlW C0 T TW n kb) ops ⟨put σ.t d (imm 5 v), h, σ.g⟩ Q) := callDO16W' rfl hw
theorem callOT (hw : (findW id TW).isNone = true) : callO C0 kb' (inlW C0 T TW n kb) d 3 (.fn id caps) args σ ops Q = tab2 (findF id T) (args ++ caps) σ.h (fun v => opsK C0 kb' (inlW C0 T TW n kb) ops ⟨put σ.t d (imm 5 v), σ.h, σ.g⟩ Q) := callO3W' rfl hw
theorem callDOT (hw : (findW id TW).isNone = true) : callDO C0 kb' (inlW C0 T TW n kb) d 3 (.fn id caps) args σ ops Q = tab2 (findF id T) (args ++ caps) σ.h (fun v => opsKc C0 kb' (inlW C0 T TW n kb) ops ⟨put σ.t d (imm 5 v), σ.h, σ.g⟩ Q) := callDO3W' rfl hw
end
attribute [simp] ioOf dio

theorem pick_pc (b : List Int) (p : Nat) (n : Int) (hb : BB b) (hp : p ≤ 1000000) (hn : n ≤ 1099511627776) : PC Try.prog 106 (.ptr 0 0 0 :: [I64 n]) (some (RS b p)) false (fun r c => imm 5 r = imm 5 (I64 (pkM b p n)) ∧ c = (RS b (p + 1))) := by
  have hbl := hb.len
  have hw : IntKind.i64.wrap ((p : Int) + 1) = p + 1 := wrap64 (by omega) (by omega)
  refine pcW [] [] fok_106 ?_
  simp [fa_106, hw, RS]
  refine cutW (inlW_mono _ _ _ _ _) [(24, .bool (decide (n < 1) || decide (b.length = 0)))] (by
    rcases Int.lt_or_le n 1 with h | h
    · simp [h]
    · simp [show ¬ n < 1 by omega]) ?_
  simp
  refine ⟨fun h => ?_, fun h h2 => ?_⟩
  · unfold pkM
    rw [if_pos (h.imp id fun h => by simp [h])]
  have hl : 0 < b.length := by cases b with | nil => exact absurd rfl h2 | cons _ _ => simp
  have hw2 : IntKind.i64.wrap (p : Int) = p := wrap64 (by omega) (by omega)
  simp [hw2]
  refine ⟨fun h3 => ?_, fun h3 => ?_⟩
  · have hg := hb.gi p
    have hw3 : IntKind.i64.wrap (gi b p) = gi b p := wrap64 (by omega) (by omega)
    simp [h3, hw3]
    refine ⟨by omega, ?_⟩
    unfold pkM
    rw [if_neg (by omega), if_pos h3]
  · have e1 : (p : Int).tmod b.length = ((p % b.length : Nat) : Int) := (Int.ofNat_tmod _ _).symm
    have e2 : IntKind.i64.wrap (IntKind.i64.wrap ((p : Int) * 7) + 3) = ((p * 7 + 3 : Nat) : Int) := by
      rw [wrap64 (n := (p : Int) * 7) (by omega) (by omega), wrap64 (by omega) (by omega)]; push_cast; rfl
    have e3 : ((p * 7 + 3 : Nat) : Int).tmod b.length = (((p * 7 + 3) % b.length : Nat) : Int) := (Int.ofNat_tmod _ _).symm
    have g1 := hb.gi (p % b.length)
    have g2 := hb.gi ((p * 7 + 3) % b.length)
    have m1 := Nat.mod_lt p hl
    have m2 := Nat.mod_lt (p * 7 + 3) hl
    have hd : p / b.length ≤ p := Nat.div_le_self _ _
    have e4 : (p : Int) / b.length = ((p / b.length : Nat) : Int) := (Int.natCast_ediv _ _).symm
    have hx := pkX_rng hb (p := p) (by omega)
    have hq : 0 ≤ (pkX b p).tdiv 64 ∧ (pkX b p).tdiv 64 ≤ pkX b p := by
      rw [Int.tdiv_eq_ediv_of_nonneg hx.1]
      omega
    have ex : IntKind.i64.wrap (IntKind.i64.wrap (IntKind.i64.wrap (IntKind.i64.wrap (IntKind.i64.wrap (gi b (p % b.length)) * 131) + IntKind.i64.wrap (IntKind.i64.wrap (gi b ((p * 7 + 3) % b.length)) * 1117)) + IntKind.i64.wrap ((p : Int) * 29)) + IntKind.i64.wrap (IntKind.i64.wrap ((p / b.length : Nat) : Int) * 53)) = pkX b p := by
      rw [wrap64 (n := gi b (p % b.length)) (by omega) (by omega), wrap64 (n := gi b (p % b.length) * 131) (by omega) (by omega), wrap64 (n := gi b ((p * 7 + 3) % b.length)) (by omega) (by omega), wrap64 (n := gi b ((p * 7 + 3) % b.length) * 1117) (by omega) (by omega),
        wrap64 (n := gi b (p % b.length) * 131 + _) (by omega) (by omega), wrap64 (n := (p : Int) * 29) (by omega) (by omega), wrap64 (n := gi b (p % b.length) * 131 + _ + _) (by omega) (by omega), wrap64 (n := ((p / b.length : Nat) : Int)) (by generalize p / b.length = e at *; omega) (by generalize p / b.length = e at *; omega),
        wrap64 (n := ((p / b.length : Nat) : Int) * 53) (by generalize p / b.length = e at *; omega) (by generalize p / b.length = e at *; omega), wrap64 (by generalize p / b.length = e at *; omega) (by generalize p / b.length = e at *; omega)]
      rfl
    simp only [e2, e1, e3, e4, Int.toNat_natCast, ex, wrap64 (n := (pkX b p).tdiv 64) (by omega) (by omega)]
    refine ⟨h2, by omega, by omega, h2, by omega, by omega, h2, by omega, ?_⟩
    unfold pkM
    rw [if_neg (by omega), if_neg (by omega)]
noncomputable def fw_pick : FamW Try.prog := mkFamW (X := List Int × Nat × Int) 106 (fun (b, p, n) => (.ptr 0 0 0 :: [I64 n])) (fun (b, p, n) => (RS b p)) (fun (b, p, n) => (BB b) ∧ (p ≤ 1000000) ∧ (n ≤ 1099511627776)) (fun (b, p, n) => I64 (pkM b p n)) (fun (b, p, n) => (RS b (p + 1))) (by
  rintro ⟨b, p, n⟩ ⟨hb, hp, hn⟩
  exact pick_pc b p n hb hp hn)
@[simp] theorem fw_pick_id : fw_pick.id = 106 := rfl
@[simp] theorem fw_pick_look (b : List Int) (p : Nat) (n : Int) (hb : BB b) (hp : p ≤ 1000000) (hn : n ≤ 1099511627776) : fw_pick.look (.ptr 0 0 0 :: [I64 n]) (RS b p) = some (I64 (pkM b p n), (RS b (p + 1))) :=
  lookG_of (X := List Int × Nat × Int) (args := fun (b, p, n) => (.ptr 0 0 0 :: [I64 n])) (cell := fun (b, p, n) => (RS b p)) (pre := fun (b, p, n) => (BB b) ∧ (p ≤ 1000000) ∧ (n ≤ 1099511627776)) (val := fun (b, p, n) => I64 (pkM b p n)) (cell' := fun (b, p, n) => (RS b (p + 1))) (by
  rintro ⟨b, p, n⟩ ⟨b', p', n'⟩ h h2
  simp at h h2
  try simp only [and_assoc] at h
  obtain ⟨rfl, rfl⟩ := h2
  subst h
  exact ⟨rfl, rfl⟩) (b, p, n) ⟨hb, hp, hn⟩
attribute [irreducible] fw_pick

theorem rg3 : List.range 3 = [0, 1, 2] := (rfl)
theorem rg4 : List.range 4 = [0, 1, 2, 3] := (rfl)
theorem one_pc (b : List Int) (p : Nat) (l : List Int) (hb : BB b) (hp : p ≤ 1000000) (hl : Big l.length) (h1 : 0 < l.length) : PC Try.prog 161 (.ptr 0 0 0 :: [IL l]) (some (RS b p)) false (fun r c => imm 5 r = imm 5 (I64 (gi l (pkM b p l.length).toNat)) ∧ c = (RS b (p + 1))) := by
  have hl := hl.le
  have hr := pkM_rng hb (p := p) (by omega) (n := l.length) (by omega)
  refine pcW [] [fw_pick] fok_161 ?_
  simp [fa_161, callOW, hb, hp, hr, show (l.length : Int) ≤ 1099511627776 by omega]
noncomputable def fw_one : FamW Try.prog := mkFamW (X := List Int × Nat × List Int) 161 (fun (b, p, l) => (.ptr 0 0 0 :: [IL l])) (fun (b, p, l) => (RS b p)) (fun (b, p, l) => (BB b) ∧ (p ≤ 1000000) ∧ (Big l.length) ∧ (0 < l.length)) (fun (b, p, l) => I64 (gi l (pkM b p l.length).toNat)) (fun (b, p, l) => (RS b (p + 1))) (by
  rintro ⟨b, p, l⟩ ⟨hb, hp, hl, h1⟩
  exact one_pc b p l hb hp hl h1)
@[simp] theorem fw_one_id : fw_one.id = 161 := rfl
@[simp] theorem fw_one_look (b : List Int) (p : Nat) (l : List Int) (hb : BB b) (hp : p ≤ 1000000) (hl : Big l.length) (h1 : 0 < l.length) : fw_one.look (.ptr 0 0 0 :: [IL l]) (RS b p) = some (I64 (gi l (pkM b p l.length).toNat), (RS b (p + 1))) :=
  lookG_of (X := List Int × Nat × List Int) (args := fun (b, p, l) => (.ptr 0 0 0 :: [IL l])) (cell := fun (b, p, l) => (RS b p)) (pre := fun (b, p, l) => (BB b) ∧ (p ≤ 1000000) ∧ (Big l.length) ∧ (0 < l.length)) (val := fun (b, p, l) => I64 (gi l (pkM b p l.length).toNat)) (cell' := fun (b, p, l) => (RS b (p + 1))) (by
  rintro ⟨b, p, l⟩ ⟨b', p', l'⟩ h h2
  simp at h h2
  try simp only [and_assoc] at h
  obtain ⟨rfl, rfl⟩ := h2
  subst h
  exact ⟨rfl, rfl⟩) (b, p, l) ⟨hb, hp, hl, h1⟩
attribute [irreducible] fw_one

theorem pow_le60 {k : Nat} (h : k ≤ 60) : (0 : Int) < 2 ^ k ∧ (2 : Int) ^ k ≤ 1152921504606846976 := by
  refine ⟨Int.pow_pos (by omega), ?_⟩
  have := Nat.pow_le_pow_right (n := 2) (by omega) h
  have h2 : (2 : Int) ^ k ≤ 2 ^ 60 := by exact_mod_cast this
  have e : (2 : Int) ^ 60 = 1152921504606846976 := by decide
  rw [e] at h2
  exact h2
theorem le_big {n : Nat} (h : n ≤ 1099511627776) : n ≤ big := h
theorem chainS_pc (n : Int) (h0 : 0 ≤ n) (h : n ≤ 60) : PC Try.prog 189 [I64 n] none true (fun r _ => r = IO1 (chL n.toNat)) := by
  obtain ⟨n, rfl⟩ := Int.eq_ofNat_of_zero_le h0
  have hn : n ≤ 60 := by omega
  refine pcT [fm_power] fok_189 ?_
  simp [fa_189]
  refine loopX (tabK_mono _) n (fun i γ => [(3, .arr 40 γ), (4, I64 i)]) (fun i γ => [⟨40, γ, .arr 1 (ints (tl i fun x => 2 ^ n - 2 ^ x))⟩]) (fun _ _ => True) 1 (by simp) (by simp [tl_zero, ints_nil]) trivial (fun i γ g hi _ => ?_)
  simp [lb_189_3]
  refine ⟨fun h => ?_, fun h => ?_⟩
  · have p1 := pow_le60 hn
    have p2 := pow_le60 (show i ≤ 60 by omega)
    simp [h, show (n : Int) ≤ 61 by omega, show (i : Int) ≤ 61 by omega, wrap64 (n := (2 : Int) ^ n - 2 ^ i) (by omega) (by omega), wrap_succ hi (show n ≤ 1099511627776 by omega), tl_succ]
    exact le_big (by omega)
  · obtain rfl : i = n := by omega
    simp [chL]
noncomputable def fm_chainS : Fam Try.prog := mkFam (X := Int) 189 true (fun n => [I64 n]) (fun n => (0 ≤ n) ∧ (n ≤ 60)) (fun n => IO1 (chL n.toNat)) (by
  rintro n ⟨h0, h⟩
  exact chainS_pc n h0 h)
@[simp] theorem fm_chainS_id : fm_chainS.id = 189 := rfl
@[simp] theorem fm_chainS_fresh : fm_chainS.fresh = true := rfl
@[simp] theorem fm_chainS_look (n : Int) (h0 : 0 ≤ n) (h : n ≤ 60) : fm_chainS.look [I64 n] = some (IO1 (chL n.toNat)) :=
  lookF_of (X := Int) (args := fun n => [I64 n]) (pre := fun n => (0 ≤ n) ∧ (n ≤ 60)) (val := fun n => IO1 (chL n.toNat)) (by
  intro n n' h
  simp at h
  subst h
  rfl) n ⟨h0, h⟩
attribute [irreducible] fm_chainS
theorem chL_length {n : Nat} : (chL n).length = n := by simp [chL]

theorem copyTabS_pc (t : List (List Int)) (ht : BigR t) : PC Try.prog 194 [RL t] none true (fun r _ => r = RO t) := by
  have hl := ht.1.le
  refine pcT [] fok_194 ?_
  simp [fa_194]
  refine loopX (tabK_mono _) t.length (fun i γ => [(3, .arr 40 γ), (4, I64 i)]) (fun i γ => [⟨40, γ, .arr 1 (orowsD (t.take i))⟩]) (fun _ _ => True) 1 (by simp) (by simp [orowsD]) trivial (fun i γ g hi _ => ?_)
  simp [lb_194_3]
  refine ⟨fun h => ?_, fun h => ?_⟩
  · have hr := (ht.row h).le
    have e1 : t.take (i + 1) = t.take i ++ [gr t i] := by
      rw [List.take_succ_eq_append_getElem h]
      simp [gr, List.getElem?_eq_getElem h]
    simp [h, wrap_succ hi hl, e1]
    exact ⟨le_big (by omega), le_big (by omega)⟩
  · rw [List.take_of_length_le (by omega)]
noncomputable def fm_copyTabS : Fam Try.prog := mkFam (X := List (List Int)) 194 true (fun t => [RL t]) (fun t => (BigR t)) (fun t => RO t) (by
  rintro t ht
  exact copyTabS_pc t ht)
@[simp] theorem fm_copyTabS_id : fm_copyTabS.id = 194 := rfl
@[simp] theorem fm_copyTabS_fresh : fm_copyTabS.fresh = true := rfl
@[simp] theorem fm_copyTabS_look (t : List (List Int)) (ht : BigR t) : fm_copyTabS.look [RL t] = some (RO t) :=
  lookF_of (X := List (List Int)) (args := fun t => [RL t]) (pre := fun t => (BigR t)) (val := fun t => RO t) (by
  intro t t' h
  simp at h
  subst h
  rfl) t ht
attribute [irreducible] fm_copyTabS

theorem sumV_if {X : Int} {n x j : Nat} (hX : X = (x : Int) + j) (hn : n ≤ 60) (hx : x ≤ 60) (hj : j ≤ 60) :
    (if IntKind.i64.wrap (IntKind.i64.wrap (IntKind.i64.wrap X - n) + 1) < 0 then 0 else IntKind.i64.wrap (IntKind.i64.wrap (IntKind.i64.wrap X - n) + 1)) = sumV n x j := by
  subst hX
  rw [wrap64 (n := (x : Int) + j) (by omega) (by omega), wrap64 (n := (x : Int) + j - n) (by omega) (by omega), wrap64 (by omega) (by omega)]
  unfold sumV
  split <;> omega
theorem sumS_pc (n : Int) (h0 : 0 ≤ n) (h : n ≤ 60) : PC Try.prog 198 [I64 n] none true (fun r _ => r = .agg [IO1 (chL n.toNat), RO (sumT n.toNat)]) := by
  obtain ⟨n, rfl⟩ := Int.eq_ofNat_of_zero_le h0
  have hn : n ≤ 60 := by omega
  refine pcT [fm_chainS] fok_198 ?_
  simp [fa_198]
  refine callO1 fm_chainS (by simp) (by simp) (v := IO1 (chL n)) (by simpa using fm_chainS_look n (by omega) (by omega)) ?_
  simp
  refine loopX (tabK_mono _) n (fun i γ => [(4, I64 i)]) (fun i γ => match i with
      | 0 => [⟨16, 1, .cells [.nil, .nil]⟩, ⟨24, 3, .cells [.arr 64 2, .nil]⟩, ⟨64, 2, .arr 1 (ints (chL n))⟩]
      | i + 1 => [⟨16, 1, .cells [.nil, .nil]⟩, ⟨24, 3, .cells [.arr 64 2, .arr 280 γ]⟩, ⟨64, 2, .arr 1 (ints (chL n))⟩, ⟨280, γ, .arr 1 (orowsD (tr (i + 1) fun x => tl n (sumV n x)))⟩]) (fun _ _ => True) 0 (by simp) (by simp) trivial (fun i γ g hi _ => ?_)
  rcases Nat.lt_or_ge i n with h | h
  · rcases i with _ | i
    · simp [lb_198_3, h]
      refine loopX (tabK_mono _) n (fun j δ => [(5, .arr 120 δ), (6, I64 j)]) (fun j δ => [⟨16, 1, .cells [.nil, .nil]⟩, ⟨24, 3, .cells [.arr 64 2, .nil]⟩, ⟨64, 2, .arr 1 (ints (chL n))⟩, ⟨120, δ, .arr 1 (ints (tl j (sumV n 0)))⟩]) (fun _ _ => True) _ (by simp; rfl) (by simp [tl_zero, ints_nil]) trivial (fun j δ g2 hj _ => ?_)
      simp [lb_198_7]
      refine ⟨fun h2 => ?_, fun h2 => ?_⟩
      · simp [h2, tl_succ]
        exact ⟨le_big (by omega), g2, ⟨rfl, wrap_succ hj (by omega)⟩, rfl, sumV_if (by simp) hn (by omega) (by omega)⟩
      · obtain rfl : j = n := by omega
        exact ⟨le_big (by omega), h, rfl, orowsD_one⟩
    · simp [lb_198_3, show ((i : Int) + 1 < n) by omega]
      refine loopX (tabK_mono _) n (fun j δ => [(5, .arr 120 δ), (6, I64 j)]) (fun j δ => [⟨16, 1, .cells [.nil, .nil]⟩, ⟨24, 3, .cells [.arr 64 2, .arr 280 γ]⟩, ⟨64, 2, .arr 1 (ints (chL n))⟩, ⟨120, δ, .arr 1 (ints (tl j (sumV n (i + 1))))⟩, ⟨280, γ, .arr 1 (orowsD (tr (i + 1) fun x => tl n (sumV n x)))⟩]) (fun _ _ => True) _ (by simp; rfl) (by simp [tl_zero, ints_nil]) trivial (fun j δ g2 hj _ => ?_)
      simp [lb_198_7]
      refine ⟨fun h2 => ?_, fun h2 => ?_⟩
      · simp [h2, tl_succ]
        exact ⟨le_big (by omega), g2, ⟨rfl, wrap_succ hj (by omega)⟩, rfl, sumV_if (by push_cast; rfl) hn (by omega) (by omega)⟩
      · obtain rfl : j = n := by omega
        exact ⟨le_big (by omega), h, wrap64 (by omega) (by omega), tr_succ.symm⟩
  · obtain rfl : i = n := by omega
    rcases i with _ | i
    · simp [lb_198_3, sumT, tr_zero]
      exact ⟨by rintro x (rfl | rfl) <;> simp, by simp [orowsD]⟩
    · simp [lb_198_3, sumT]
      rintro x (rfl | rfl) <;> simp
noncomputable def fm_sumS : Fam Try.prog := mkFam (X := Int) 198 true (fun n => [I64 n]) (fun n => (0 ≤ n) ∧ (n ≤ 60)) (fun n => .agg [IO1 (chL n.toNat), RO (sumT n.toNat)]) (by
  rintro n ⟨h0, h⟩
  exact sumS_pc n h0 h)
@[simp] theorem fm_sumS_id : fm_sumS.id = 198 := rfl
@[simp] theorem fm_sumS_fresh : fm_sumS.fresh = true := rfl
@[simp] theorem fm_sumS_look (n : Int) (h0 : 0 ≤ n) (h : n ≤ 60) : fm_sumS.look [I64 n] = some (.agg [IO1 (chL n.toNat), RO (sumT n.toNat)]) :=
  lookF_of (X := Int) (args := fun n => [I64 n]) (pre := fun n => (0 ≤ n) ∧ (n ≤ 60)) (val := fun n => .agg [IO1 (chL n.toNat), RO (sumT n.toNat)]) (by
  intro n n' h
  simp at h
  subst h
  rfl) n ⟨h0, h⟩
attribute [irreducible] fm_sumS
end Go.PS
end

section
-- Contracts: algebras that the reference makes for its draws.
set_option maxRecDepth 100000
set_option linter.unusedVariables false
set_option linter.unusedSimpArgs false
namespace Go.PS
open Go.Proofs

set_option maxHeartbeats 1000000 in
theorem mtAlgS_pc (u : List Int) (s : Sm u) : PC Try.prog 98 [IL u] none true (fun r _ => r = .agg [IO1 u, RO (mtT u)]) := by
  have h6 := s.six
  refine pcT [fm_meetS] fok_98 ?_
  simp [fa_98, le_big (show u.length ≤ 1099511627776 by omega)]
  refine loopX (tabK_mono _) u.length (fun i γ => [(4, I64 i)]) (fun i γ => match i with
      | 0 => [⟨16, 1, .cells [.nil, .nil]⟩, ⟨24, 4, .cells [.arr 56 3, .nil]⟩, ⟨56, 3, .arr 1 (ints u)⟩]
      | i + 1 => [⟨16, 1, .cells [.nil, .nil]⟩, ⟨24, 4, .cells [.arr 56 3, .arr 280 γ]⟩, ⟨56, 3, .arr 1 (ints u)⟩, ⟨280, γ, .arr 1 (orowsD (tr (i + 1) fun x => tl u.length (meetM u x)))⟩]) (fun _ _ => True) 0 (by simp) (by simp) trivial (fun i γ g hi _ => ?_)
  rcases Nat.lt_or_ge i u.length with h | h
  · rcases i with _ | i
    · simp [lb_98_3, h]
      refine loopX (tabK_mono _) u.length (fun j δ => [(5, .arr 136 δ), (6, I64 j)]) (fun j δ => [⟨16, 1, .cells [.nil, .nil]⟩, ⟨24, 4, .cells [.arr 56 3, .nil]⟩, ⟨56, 3, .arr 1 (ints u)⟩, ⟨136, δ, .arr 1 (ints (tl j (meetM u 0)))⟩]) (fun _ _ => True) _ (by simp; rfl) (by simp [tl_zero, ints_nil]) trivial (fun j δ g2 hj _ => ?_)
      simp [lb_98_7]
      refine ⟨fun h2 => ?_, fun h2 => ?_⟩
      · simp [h, h2, s, tl_succ]
        exact ⟨le_big (by omega), wrap_succ hj (by omega)⟩
      · obtain rfl : j = u.length := by omega
        exact ⟨le_big (by omega), by simpa using h, rfl, orowsD_one⟩
    · simp [lb_98_3, show ((i : Int) + 1 < u.length) by omega]
      refine loopX (tabK_mono _) u.length (fun j δ => [(5, .arr 136 δ), (6, I64 j)]) (fun j δ => [⟨16, 1, .cells [.nil, .nil]⟩, ⟨24, 4, .cells [.arr 56 3, .arr 280 γ]⟩, ⟨56, 3, .arr 1 (ints u)⟩, ⟨136, δ, .arr 1 (ints (tl j (meetM u (i + 1))))⟩, ⟨280, γ, .arr 1 (orowsD (tr (i + 1) fun x => tl u.length (meetM u x)))⟩]) (fun _ _ => True) _ (by simp; rfl) (by simp [tl_zero, ints_nil]) trivial (fun j δ g2 hj _ => ?_)
      simp [lb_98_7]
      refine ⟨fun h2 => ?_, fun h2 => ?_⟩
      · simp [h2, s, tl_succ, show (0 : Int) ≤ (i : Int) + 1 by omega, show ((i : Int) + 1).toNat = i + 1 by omega, h]
        exact ⟨le_big (by omega), wrap_succ hj (by omega)⟩
      · obtain rfl : j = u.length := by omega
        exact ⟨le_big (by omega), h, wrap64 (by omega) (by omega), tr_succ.symm⟩
  · obtain rfl : i = u.length := by omega
    rcases hn : u.length with _ | k
    · simp [lb_98_3, mtT, hn, tr_zero]
      exact ⟨by rintro x (rfl | rfl) <;> simp, by simp [orowsD]⟩
    · simp [lb_98_3, mtT, hn]
      rintro x (rfl | rfl) <;> simp
noncomputable def fm_mtAlgS : Fam Try.prog := mkFam (X := List Int) 98 true (fun u => [IL u]) (fun u => (Sm u)) (fun u => .agg [IO1 u, RO (mtT u)]) (by
  rintro u s
  exact mtAlgS_pc u s)
@[simp] theorem fm_mtAlgS_id : fm_mtAlgS.id = 98 := rfl
@[simp] theorem fm_mtAlgS_fresh : fm_mtAlgS.fresh = true := rfl
@[simp] theorem fm_mtAlgS_look (u : List Int) (s : Sm u) : fm_mtAlgS.look [IL u] = some (.agg [IO1 u, RO (mtT u)]) :=
  lookF_of (X := List Int) (args := fun u => [IL u]) (pre := fun u => (Sm u)) (val := fun u => .agg [IO1 u, RO (mtT u)]) (by
  intro u u' h
  simp at h
  subst h
  rfl) u s
attribute [irreducible] fm_mtAlgS

theorem crR_succ {a b : List Int} {p n : Nat} : crR a b p (n + 1) = if tb a (p / b.length) (n / b.length) && tb b (p % b.length) (n % b.length) then crR a b p n + 2 ^ n else crR a b p n := by simp [crR, List.range_succ]
theorem crR_rng {a b : List Int} {p : Nat} : ∀ n, 0 ≤ crR a b p n ∧ crR a b p n < 2 ^ n
  | 0 => by simp [crR]
  | n + 1 => by
    have ih := crR_rng (a := a) (b := b) (p := p) n
    rw [crR_succ, Int.pow_succ]
    split <;> omega

theorem mulw {a b : Nat} (h : a * b ≤ 1000000) : IntKind.i64.wrap ((a : Int) * b) = ((a * b : Nat) : Int) := by
  rw [← Int.natCast_mul]
  exact wrap64 (by omega) (by omega)

/-- Places of pairs. -/
theorem pr_ex {a m N i : Nat} (hM : a * m = N) (hN : N ≤ 1000000) (h : i < N) : ∃ x y : Nat, i / m = x ∧ i % m = y ∧ x < a ∧ y < m ∧ (i : Int) / m = x ∧ (i : Int).tmod m = y ∧ IntKind.i64.wrap (x : Int) = x ∧ ¬ m = 0 := by
  have hm : m ≠ 0 := by rintro rfl; simp at hM; omega
  have hd : i / m ≤ i := Nat.div_le_self _ _
  refine ⟨i / m, i % m, rfl, rfl, ?_, Nat.mod_lt _ (by omega), (Int.natCast_ediv _ _).symm, (Int.ofNat_tmod _ _).symm, ?_, hm⟩
  · rw [Nat.div_lt_iff_lt_mul (by omega), hM]; exact h
  · generalize i / m = e at *
    exact wrap64 (by omega) (by omega)

set_option maxHeartbeats 1000000 in
theorem crossS_pc (a b : List Int) (sa : Sm a) (sb : Sm b) : PC Try.prog 190 [IL a, IL b] none true (fun r _ => r = IO1 (crU a b)) := by
  have h6 := sa.six
  have h62 := sb.six
  have hN : a.length * b.length ≤ 36 := Nat.mul_le_mul h6 h62
  have hw := mulw (a := a.length) (b := b.length) (by omega)
  refine pcT [fm_belowS, fm_power] fok_190 ?_
  simp [fa_190]
  generalize hM : a.length * b.length = N at *
  refine loopX (tabK_mono _) N (fun i γ => [(5, .arr 80 γ), (7, I64 i)]) (fun i γ => [⟨80, γ, .arr 1 (ints (tl i fun p => crR a b p N))⟩]) (fun _ _ => True) 1 (by simp) (by simp [tl_zero, ints_nil]) trivial (fun i γ g hi _ => ?_)
  simp [lb_190_4, hw]
  refine ⟨fun h => ?_, fun h => ?_⟩
  · refine loopX (tabK_mono _) N (fun j δ => [(8, I64 (crR a b i j)), (9, I64 j)]) (fun j δ => [⟨80, γ, .arr 1 (ints (tl i fun p => crR a b p N))⟩]) (fun _ _ => True) 1 (by simp [crR]) (by simp) trivial (fun j δ g2 hj _ => ?_)
    simp [lb_190_8, hw]
    refine ⟨fun h2 => ?_, fun h2 => ?_⟩
    · obtain ⟨x1, y1, n1, o1, d1, m1, e1, f1, w1, hz⟩ := pr_ex hM (by omega) h
      obtain ⟨x2, y2, n2, o2, d2, m2, e2, f2, w2, _⟩ := pr_ex hM (by omega) h2
      have hz' : ¬ b = [] := fun e => hz (by simp [e])
      refine cutWc (tabK_mono _) [(46, .bool (tb a x1 x2 && tb b y1 y2))] (by
        cases hc : tb a x1 x2
        · simp [e1, f1, w1, e2, f2, w2, sa, sb, d1, d2, m1, m2, hz', hc]
        · simp [e1, f1, w1, e2, f2, w2, sa, sb, d1, d2, m1, m2, hz', hc]) ?_
      have hs := crR_succ (a := a) (b := b) (p := i) (n := j)
      rw [n1, n2, o1, o2] at hs
      have hr := crR_rng (a := a) (b := b) (p := i) j
      have hp := pow_le60 (k := j) (by omega)
      simp [show (j : Int) ≤ 61 by omega, wrap64 (n := crR a b i j + 2 ^ j) (by omega) (by omega), wrap_succ hj (show N ≤ 1099511627776 by omega), hs, h2]
      cases tb a x1 x2 <;> cases tb b y1 y2 <;> simp
    · obtain rfl : j = N := by omega
      exact ⟨le_big (by omega), h, g2, ⟨rfl, wrap_succ hi (by omega)⟩, rfl, tl_succ.symm⟩
  · obtain rfl : i = N := by omega
    simp [crU, hM]
noncomputable def fm_crossS : Fam Try.prog := mkFam (X := List Int × List Int) 190 true (fun (a, b) => [IL a, IL b]) (fun (a, b) => (Sm a) ∧ (Sm b)) (fun (a, b) => IO1 (crU a b)) (by
  rintro ⟨a, b⟩ ⟨sa, sb⟩
  exact crossS_pc a b sa sb)
@[simp] theorem fm_crossS_id : fm_crossS.id = 190 := rfl
@[simp] theorem fm_crossS_fresh : fm_crossS.fresh = true := rfl
@[simp] theorem fm_crossS_look (a b : List Int) (sa : Sm a) (sb : Sm b) : fm_crossS.look [IL a, IL b] = some (IO1 (crU a b)) :=
  lookF_of (X := List Int × List Int) (args := fun (a, b) => [IL a, IL b]) (pre := fun (a, b) => (Sm a) ∧ (Sm b)) (val := fun (a, b) => IO1 (crU a b)) (by
  rintro ⟨a, b⟩ ⟨a', b'⟩ h
  simp at h
  try simp only [and_assoc] at h
  obtain ⟨rfl, rfl⟩ := h
  rfl) (a, b) ⟨sa, sb⟩
attribute [irreducible] fm_crossS
/-- The form of an algebra. -/
structure SH (u : List Int) (t : List (List Int)) : Prop where
  sm : Sm u
  pos : 0 < u.length
  len : t.length = u.length
  rows : ∀ x, x < u.length → (gr t x).length = u.length
  nn : ∀ x y, x < u.length → y < u.length → -1 ≤ tm t x y
  lt : ∀ x y, x < u.length → y < u.length → tm t x y ≤ 100

theorem skR_succ {u v : List Int} {x n : Nat} : skR u v x (n + 1) = if skB u v x n then skR u v x n + 2 ^ n else skR u v x n := by simp [skR, List.range_succ]
theorem skR_rng {u v : List Int} {x : Nat} : ∀ n, 0 ≤ skR u v x n ∧ skR u v x n < 2 ^ n
  | 0 => by simp [skR]
  | n + 1 => by
    have ih := skR_rng (u := u) (v := v) (x := x) n
    rw [skR_succ, Int.pow_succ]
    split <;> omega

set_option maxHeartbeats 4000000 in
theorem stackS_pc (u : List Int) (t : List (List Int)) (v : List Int) (s : List (List Int)) (a : SH u t) (b : SH v s) : PC Try.prog 199 [AL u t, AL v s] none true (fun r _ => r = .agg [IO1 (skU u v), RO (skT u t v s)]) := by
  have h6 := a.sm.six
  have h62 := b.sm.six
  obtain ⟨m, hm⟩ : ∃ m, u.length = m + 1 := ⟨u.length - 1, by have := a.pos; omega⟩
  have hw1 : IntKind.i64.wrap ((u.length : Int) - 1) = m := by rw [wrap64 (by omega) (by omega)]; omega
  have hw2 : IntKind.i64.wrap ((m : Int) + v.length) = ((m + v.length : Nat) : Int) := by rw [wrap64 (by omega) (by omega)]; push_cast; rfl
  obtain ⟨N, hN⟩ : ∃ N, m + v.length = N := ⟨_, rfl⟩
  rw [hN] at hw2
  have hmu : u.length - 1 = m := by omega
  refine pcT [fm_belowS, fm_power] fok_199 ?_
  simp [fa_199, hw1, hw2]
  refine loopX (tabK_mono _) N (fun i γ => [(8, I64 i)]) (fun i (γ : Nat × Nat) => match i with
      | 0 => [⟨32, 1, .cells [.nil, .nil]⟩, ⟨56, 2, .cells [.nil, .nil]⟩]
      | i + 1 => [⟨32, 1, .cells [.nil, .nil]⟩, ⟨56, 2, .cells [.arr 1112 γ.2, .arr 1064 γ.1]⟩, ⟨1064, γ.1, .arr 1 (orowsD (tr (i + 1) fun x => tl N (skV u t s x)))⟩, ⟨1112, γ.2, .arr 1 (ints (tl (i + 1) fun x => skR u v x N))⟩]) (fun _ _ => True) (0, 0) (by simp) (by simp) trivial (fun i γ g hi _ => ?_)
  obtain ⟨γ1, γ2⟩ := γ
  rcases Nat.lt_or_ge i N with h | h
  · rcases i with _ | i
    · simp [lb_199_5, h]
      refine loopX (tabK_mono _) N (fun j δ => [(9, .arr 224 δ), (10, I64 (skR u v 0 j)), (11, I64 j)]) (fun j δ => [⟨32, 1, .cells [.nil, .nil]⟩, ⟨56, 2, .cells [.nil, .nil]⟩, ⟨224, δ, .arr 1 (ints (tl j (skV u t s 0)))⟩]) (fun _ _ => True) g (by simp [skR]) (by simp [tl_zero, ints_nil]) trivial (fun j δ g2 hj _ => ?_)
      simp [lb_199_10]
      refine ⟨fun h2 => ?_, fun h2 => ?_⟩
      · have hr := skR_rng (u := u) (v := v) (x := 0) j
        have hp := pow_le60 (k := j) (by omega)
        have hw3 : IntKind.i64.wrap (skR u v (0) j + 2 ^ j) = skR u v (0) j + 2 ^ j := wrap64 (by omega) (by omega)
        have hw4 : IntKind.i64.wrap ((j : Int) + 1) = j + 1 := wrap_succ hj (by omega)
        have hs := skR_succ (u := u) (v := v) (x := 0) (n := j)
        rcases Nat.lt_or_ge 0 m with cx | cx
        · rcases Nat.lt_or_ge j m with cj | cj
          · have e1 : skV u t s (0) j = tm t (0) j := by unfold skV; rw [if_pos ⟨by omega, by omega⟩]
            have e2 : skB u v (0) j = tb u (0) j := by simp [skB, hmu, show ¬ m ≤ j by omega, cx, cj]; try omega
            rw [e2] at hs
            cases hb : tb u (0) j
            · simp [gops, hb, show ((0 : Int) < m) by omega, show ¬ ((m : Int) ≤ 0) by omega, cx, cj, show ¬ m ≤ j by omega, a.len, a.rows, a.sm, show 0 < u.length by omega, show (0 : Int) < u.length by omega, show (0 : Int) ≤ 0 by omega, show ((0 : Int)).toNat = 0 by omega, show j < u.length by omega, tl_succ, e1, hw3, hw4, hs, h2]
              exact le_big (by omega)
            · simp [gops, hb, show ((0 : Int) < m) by omega, show ¬ ((m : Int) ≤ 0) by omega, cx, cj, show ¬ m ≤ j by omega, a.len, a.rows, a.sm, show 0 < u.length by omega, show (0 : Int) < u.length by omega, show (0 : Int) ≤ 0 by omega, show ((0 : Int)).toNat = 0 by omega, show j < u.length by omega, tl_succ, e1, hw3, hw4, hs, h2, show (j : Int) ≤ 61 by omega]
              exact le_big (by omega)
          · have e1 : skV u t s (0) j = (if (j : Int) < 0 then (j : Int) else 0) := by
              unfold skV; rw [if_neg (by omega), if_neg (by omega)]; split <;> omega
            have e2 : skB u v (0) j = true := by simp [skB, hmu, cx, cj]; try omega
            rw [e2] at hs
            simp [gops, show ((0 : Int) < m) by omega, show ¬ ((m : Int) ≤ 0) by omega, cx, cj, show ¬ j < m by omega, tl_succ, e1, hw3, hw4, hs, h2, show (j : Int) ≤ 61 by omega]
            exact ⟨fun h => absurd h (by omega), fun _ => le_big (by omega)⟩
        · rcases Nat.lt_or_ge j m with cj | cj
          · omega
          · obtain rfl : m = 0 := by omega
            have hjv : j < v.length := by omega
            have w0 : IntKind.i64.wrap 0 = 0 := rfl
            have w2 : IntKind.i64.wrap (j : Int) = j := wrap64 (by omega) (by omega)
            have q1 := b.nn 0 j b.pos hjv
            have q2 := b.lt 0 j b.pos hjv
            have w3 : IntKind.i64.wrap (tm s 0 j) = tm s 0 j := wrap64 (by omega) (by omega)
            have e1 : skV u t s (0) j = tm s 0 j := by
              unfold skV; rw [if_neg (by omega), if_pos ⟨by omega, by omega⟩, hmu]; simp
            have e2 : skB u v (0) j = tb v 0 j := by simp [skB, hmu]
            rw [e2] at hs
            cases hb : tb v 0 j
            · simp [gops, hb, w0, w2, w3, b.len, b.rows, b.sm, b.pos, hjv, tl_succ, e1, hw3, hw4, hs, h2]
              exact le_big (by omega)
            · simp [gops, hb, w0, w2, w3, b.len, b.rows, b.sm, b.pos, hjv, tl_succ, e1, hw3, hw4, hs, h2, show (j : Int) ≤ 61 by omega]
              exact le_big (by omega)
      · obtain rfl : j = N := by omega
        exact ⟨le_big (by omega), h, rfl, g2, g2 + 1, ⟨rfl, rfl⟩, ⟨rfl, orowsD_one⟩, rfl, ints_one⟩
    · simp [lb_199_5, show ((i : Int) + 1 < N) by omega]
      refine loopX (tabK_mono _) N (fun j δ => [(9, .arr 224 δ), (10, I64 (skR u v (i + 1) j)), (11, I64 j)]) (fun j δ => [⟨32, 1, .cells [.nil, .nil]⟩, ⟨56, 2, .cells [.arr 1112 γ2, .arr 1064 γ1]⟩, ⟨224, δ, .arr 1 (ints (tl j (skV u t s (i + 1))))⟩, ⟨1064, γ1, .arr 1 (orowsD (tr (i + 1) fun x => tl N (skV u t s x)))⟩, ⟨1112, γ2, .arr 1 (ints (tl (i + 1) fun x => skR u v x N))⟩]) (fun _ _ => True) g (by simp [skR]) (by simp [tl_zero, ints_nil]) trivial (fun j δ g2 hj _ => ?_)
      simp [lb_199_10]
      refine ⟨fun h2 => ?_, fun h2 => ?_⟩
      · have hr := skR_rng (u := u) (v := v) (x := (i + 1)) j
        have hp := pow_le60 (k := j) (by omega)
        have hw3 : IntKind.i64.wrap (skR u v ((i + 1)) j + 2 ^ j) = skR u v ((i + 1)) j + 2 ^ j := wrap64 (by omega) (by omega)
        have hw4 : IntKind.i64.wrap ((j : Int) + 1) = j + 1 := wrap_succ hj (by omega)
        have hs := skR_succ (u := u) (v := v) (x := (i + 1)) (n := j)
        rcases Nat.lt_or_ge (i + 1) m with cx | cx
        · rcases Nat.lt_or_ge j m with cj | cj
          · have e1 : skV u t s ((i + 1)) j = tm t ((i + 1)) j := by unfold skV; rw [if_pos ⟨by omega, by omega⟩]
            have e2 : skB u v ((i + 1)) j = tb u ((i + 1)) j := by simp [skB, hmu, show ¬ m ≤ j by omega, cx, cj]; try omega
            rw [e2] at hs
            cases hb : tb u ((i + 1)) j
            · simp [gops, hb, show (((i + 1) : Int) < m) by omega, show ¬ ((m : Int) ≤ (i + 1)) by omega, cx, cj, show ¬ m ≤ j by omega, a.len, a.rows, a.sm, show (i + 1) < u.length by omega, show ((i + 1) : Int) < u.length by omega, show (0 : Int) ≤ (i + 1) by omega, show (((i + 1) : Int)).toNat = (i + 1) by omega, show j < u.length by omega, tl_succ, e1, hw3, hw4, hs, h2]
              exact le_big (by omega)
            · simp [gops, hb, show (((i + 1) : Int) < m) by omega, show ¬ ((m : Int) ≤ (i + 1)) by omega, cx, cj, show ¬ m ≤ j by omega, a.len, a.rows, a.sm, show (i + 1) < u.length by omega, show ((i + 1) : Int) < u.length by omega, show (0 : Int) ≤ (i + 1) by omega, show (((i + 1) : Int)).toNat = (i + 1) by omega, show j < u.length by omega, tl_succ, e1, hw3, hw4, hs, h2, show (j : Int) ≤ 61 by omega]
              exact le_big (by omega)
          · have e1 : skV u t s ((i + 1)) j = (if (j : Int) < (i + 1) then (j : Int) else (i + 1)) := by
              unfold skV; rw [if_neg (by omega), if_neg (by omega)]; split <;> omega
            have e2 : skB u v ((i + 1)) j = true := by simp [skB, hmu, cx, cj]; try omega
            rw [e2] at hs
            simp [gops, show (((i + 1) : Int) < m) by omega, show ¬ ((m : Int) ≤ (i + 1)) by omega, cx, cj, show ¬ j < m by omega, tl_succ, e1, hw3, hw4, hs, h2, show (j : Int) ≤ 61 by omega]
            exact le_big (by omega)
        · rcases Nat.lt_or_ge j m with cj | cj
          · have e1 : skV u t s ((i + 1)) j = (if (j : Int) < (i + 1) then (j : Int) else (i + 1)) := by
              unfold skV; rw [if_neg (by omega), if_neg (by omega)]; split <;> omega
            have e2 : skB u v ((i + 1)) j = false := by simp [skB, hmu, cj, show ¬ (i + 1) < m by omega]; try omega
            rw [e2] at hs
            simp [gops, show ¬ (((i + 1) : Int) < m) by omega, show ((m : Int) ≤ (i + 1)) by omega, cj, show ¬ m ≤ j by omega, tl_succ, e1, hw3, hw4, hs, h2]
            exact le_big (by omega)
          · obtain ⟨d, hd⟩ : ∃ d, (i + 1) - m = d := ⟨_, rfl⟩
            obtain ⟨c, hc⟩ : ∃ c, j - m = c := ⟨_, rfl⟩
            have hdv : d < v.length := by omega
            have hcv : c < v.length := by omega
            have w1 : IntKind.i64.wrap (((i + 1) : Int) - m) = d := by rw [wrap64 (by omega) (by omega)]; omega
            have w2 : IntKind.i64.wrap ((j : Int) - m) = c := by rw [wrap64 (by omega) (by omega)]; omega
            have q1 := b.nn d c hdv hcv
            have q2 := b.lt d c hdv hcv
            have w3 : IntKind.i64.wrap ((m : Int) + tm s d c) = m + tm s d c := wrap64 (by omega) (by omega)
            have e1 : skV u t s ((i + 1)) j = m + tm s d c := by
              unfold skV; rw [if_neg (by omega), if_pos ⟨by omega, by omega⟩, hmu, hd, hc]
            have e2 : skB u v ((i + 1)) j = tb v d c := by simp [skB, hmu, cj, show ¬ (i + 1) < m by omega, show ¬ j < m by omega, hd, hc]; try omega
            rw [e2] at hs
            cases hb : tb v d c
            · simp [gops, hb, show ¬ (((i + 1) : Int) < m) by omega, show ((m : Int) ≤ (i + 1)) by omega, cj, show ¬ j < m by omega, w1, w2, w3, b.len, b.rows, b.sm, hdv, hcv, tl_succ, e1, hw3, hw4, hs, h2]
              exact le_big (by omega)
            · simp [gops, hb, show ¬ (((i + 1) : Int) < m) by omega, show ((m : Int) ≤ (i + 1)) by omega, cj, show ¬ j < m by omega, w1, w2, w3, b.len, b.rows, b.sm, hdv, hcv, tl_succ, e1, hw3, hw4, hs, h2, show (j : Int) ≤ 61 by omega]
              exact le_big (by omega)
      · obtain rfl : j = N := by omega
        exact ⟨le_big (by omega), h, wrap64 (by omega) (by omega), g2, g2 + 1, ⟨rfl, rfl⟩, ⟨rfl, tr_succ.symm⟩, rfl, tl_succ.symm⟩
  · obtain rfl : i = N := by omega
    rcases i with _ | i
    · exact absurd b.pos (by omega)
    · simp [lb_199_5, skU, skT, hmu, hN]
      rintro x (rfl | rfl) <;> simp
noncomputable def fm_stackS : Fam Try.prog := mkFam (X := List Int × List (List Int) × List Int × List (List Int)) 199 true (fun (u, t, v, s) => [AL u t, AL v s]) (fun (u, t, v, s) => (SH u t) ∧ (SH v s)) (fun (u, t, v, s) => .agg [IO1 (skU u v), RO (skT u t v s)]) (by
  rintro ⟨u, t, v, s⟩ ⟨a, b⟩
  exact stackS_pc u t v s a b)
@[simp] theorem fm_stackS_id : fm_stackS.id = 199 := rfl
@[simp] theorem fm_stackS_fresh : fm_stackS.fresh = true := rfl
@[simp] theorem fm_stackS_look (u : List Int) (t : List (List Int)) (v : List Int) (s : List (List Int)) (a : SH u t) (b : SH v s) : fm_stackS.look [AL u t, AL v s] = some (.agg [IO1 (skU u v), RO (skT u t v s)]) :=
  lookF_of (X := List Int × List (List Int) × List Int × List (List Int)) (args := fun (u, t, v, s) => [AL u t, AL v s]) (pre := fun (u, t, v, s) => (SH u t) ∧ (SH v s)) (val := fun (u, t, v, s) => .agg [IO1 (skU u v), RO (skT u t v s)]) (by
  rintro ⟨u, t, v, s⟩ ⟨u', t', v', s'⟩ h
  simp at h
  try simp only [and_assoc] at h
  obtain ⟨rfl, rfl, rfl, rfl⟩ := h
  rfl) (u, t, v, s) ⟨a, b⟩
attribute [irreducible] fm_stackS
end Go.PS
end

section
-- Contracts: the algebra of classes.
set_option maxRecDepth 100000
set_option linter.unusedVariables false
set_option linter.unusedSimpArgs false
namespace Go.PS
open Go.Proofs
section
variable {u : List Int} {t : List (List Int)} {f x y z i n : Nat} {p : Nat → Bool} {L : List Int}
theorem mskI_succ : ((mskN (n + 1) p : Nat) : Int) = if p n then ((mskN n p : Nat) : Int) + 2 ^ n else ((mskN n p : Nat) : Int) := by
  rw [mskN_succ]
  split
  · have h := Nat.two_pow_add_eq_or_of_lt (mskN_lt (n := n) (p := p)) 1
    rw [Nat.mul_one] at h
    rw [Nat.or_comm, ← h]
    push_cast
    omega
  · rfl
theorem mskI_lt : ((mskN n p : Nat) : Int) < 2 ^ n := by
  have e : (2 : Int) ^ n = ((2 ^ n : Nat) : Int) := by push_cast; rfl
  have h := mskN_lt (n := n) (p := p)
  rw [e]; omega
theorem gi_setQ {k j : Nat} {v : Int} (h : k < L.length) : gi (L.set k v) j = if k = j then v else gi L j := by
  unfold gi
  rw [List.getElem?_set]
  split
  · simp_all
  · rfl
/-- The least elements of classes, from the last one down. -/
structure FrI (u : List Int) (t : List (List Int)) (f i : Nat) (L : List Int) : Prop where
  len : L.length = qn u t f
  val : ∀ k, k < qn u t f → u.length - i ≤ sg u t f k → gi L k = (sg u t f k : Nat)
theorem FrI.step (a : VA u t) (hf : FI u t f) (h : FrI u t f i L) (hx : x + i + 1 = u.length) : FrI u t f (i + 1) (L.set (toN u t f x) (x : Int)) := by
  have hxl : x < u.length := by omega
  have ht := toN_lt a hf hxl
  refine ⟨by rw [List.length_set]; exact h.len, fun k hk hs => ?_⟩
  rw [gi_setQ (by rw [h.len]; exact ht)]
  split
  · rename_i e
    subst e
    have h1 := sg_toN a hf hxl
    have h2 := (cl_spec a hf hxl).1
    omega
  · rename_i e
    refine h.val k hk ?_
    have : sg u t f k ≠ x := fun e2 => e (by rw [← e2]; exact toN_sg a hf hk)
    omega
theorem FrI.last (h : FrI u t f u.length L) : L = nI (nms u t f) := by
  refine List.ext_getElem (by rw [h.len, nI_length]) fun k h1 h2 => ?_
  have hk : k < qn u t f := by rw [← h.len]; exact h1
  have h3 := h.val k hk (by omega)
  have h4 := gi_nI (l := nms u t f) (i := k) hk
  have h5 : gi L k = L[k] := by simp [gi, h1]
  have h6 : gi (nI (nms u t f)) k = (nI (nms u t f))[k] := by unfold gi; rw [List.getElem?_eq_getElem h2]; rfl
  rw [← h5, ← h6, h3, h4]
  rfl
end

set_option maxHeartbeats 4000000 in
theorem quoS_pc (u : List Int) (t : List (List Int)) (f : Int) (a : VA u t) (hf : FI u t f.toNat) (h0 : 0 ≤ f) : PC Try.prog 180 [AL u t, I64 f] none true (fun r _ => r = .tup [.agg [IO1 (quU u t f.toNat), RO (quT u t f.toNat)], IO1 (quP u t f.toNat)]) := by
  obtain ⟨f, rfl⟩ := Int.eq_ofNat_of_zero_le h0
  simp only [Int.toNat_natCast] at hf ⊢
  have v := a.lat
  have tf := a.tf
  have h6 := v.six
  have hp := v.pos
  have h64 := p2le h6
  have hlt := hf.lt
  have hul : u.length ≤ 1099511627776 := by omega
  have l1 : fm_nosS.look [AL u t, I64 (f : Int)] = some (.tup [IO1 (quP u t f), I64 (qn u t f)]) := by
    have := fm_nosS_look u t f a (by simpa using hf) h0
    rw [Int.toNat_natCast] at this
    exact this
  have hq := nms_le a hf
  have hq1 := nms_pos (u := u) (t := t) (f := f)
  refine pcT [fm_nosS, fm_bitS, fm_implyS, fm_power] fok_180 ?_
  simp [fa_180]
  refine callO1 fm_nosS (by simp) (by simp) (v := .tup [IO1 (quP u t f), I64 (qn u t f)]) (by simp; exact l1) ?_
  simp
  have hqn : qn u t f = (nms u t f).length := rfl
  refine ⟨leBig (by omega), ?_⟩
  refine loopX (tabK_mono _) u.length (fun i _ => [(9, I64 ((u.length : Int) - 1 - i))]) (fun i L => [⟨32, 1, .cells [.nil, .nil]⟩, ⟨144, 2, .arr 1 (ints (quP u t f))⟩, ⟨176, 3, .arr 1 (ints L)⟩]) (fun i L => FrI u t f i L) (List.replicate (qn u t f) 0) (by simp [wrap64 (n := (u.length : Int) - 1) (by omega) (by omega)]) (by simp) ⟨by simp, fun k hk hs => absurd (sg_lt a hf hk) (by omega)⟩ (fun i L g hi hP => ?_)
  simp [lb_180_4]
  refine ⟨fun h => ?_, fun h => ?_⟩
  · obtain ⟨x, hx⟩ : ∃ x : Nat, x + i + 1 = u.length := ⟨u.length - 1 - i, by omega⟩
    have ex : (u.length : Int) - 1 - i = x := by omega
    have e1 := quP_gi (u := u) (t := t) (f := f) (x := x) (by omega)
    have ht := toN_lt a hf (x := x) (by omega)
    have hl := hP.len
    have hs := hP.step a hf hx
    have w1 : IntKind.i64.wrap ((x : Int) - 1) = (u.length : Int) - 1 - (i + 1 : Nat) := by rw [wrap64 (by omega) (by omega)]; omega
    generalize toN u t f x = y at *
    simp only [ex]
    have ex2 : u.length - 1 - i = x := by omega
    simp [e1, hl, ht, w1, ex2, hs]
    omega
  · obtain rfl : i = u.length := by omega
    obtain rfl := hP.last
    refine loopX (tabK_mono _) (qn u t f) (fun i γ => [(11, I64 i)]) (fun i (γ : Nat × Nat) => match i with
      | 0 => [⟨32, 1, .cells [.nil, .nil]⟩, ⟨80, g, .cells [.nil, .nil]⟩, ⟨144, 2, .arr 1 (ints (quP u t f))⟩, ⟨176, 3, .arr 1 (ints (nI (nms u t f)))⟩]
      | i + 1 => [⟨32, 1, .cells [.nil, .nil]⟩, ⟨80, g, .cells [.arr 720 γ.1, .arr 768 γ.2]⟩, ⟨144, 2, .arr 1 (ints (quP u t f))⟩, ⟨176, 3, .arr 1 (ints (nI (nms u t f)))⟩, ⟨720, γ.1, .arr 1 (ints (tl (i + 1) fun x => ((mskN (qn u t f) (leQ u t f x) : Nat) : Int)))⟩, ⟨768, γ.2, .arr 1 (orowsD (tr (i + 1) fun x => tl (qn u t f) fun y => ((tnQ u t f x y : Nat) : Int)))⟩]) (fun _ _ => True) (0, 0) (by simp) (by simp) trivial (fun i γ g2 hi _ => ?_)
    obtain ⟨γ1, γ2⟩ := γ
    rcases Nat.lt_or_ge i (qn u t f) with h | h
    · rcases i with _ | i
      · simp [lb_180_9, h]
        refine loopX (tabK_mono _) (qn u t f) (fun j δ => [(12, I64 ((mskN j (leQ u t f (0)) : Nat) : Int)), (13, .arr 344 δ), (14, I64 j)]) (fun j δ => [⟨32, 1, .cells [.nil, .nil]⟩, ⟨80, g, .cells [.nil, .nil]⟩, ⟨144, 2, .arr 1 (ints (quP u t f))⟩, ⟨176, 3, .arr 1 (ints (nI (nms u t f)))⟩, ⟨344, δ, .arr 1 (ints (tl j fun y => ((tnQ u t f (0) y : Nat) : Int)))⟩]) (fun _ _ => True) g2 (by simp [mskN]) (by simp [tl_zero, ints_nil]) trivial (fun j δ g3 hj _ => ?_)
        simp [lb_180_14]
        refine ⟨fun h2 => ?_, fun h2 => ?_⟩
        · have hJ : j < qn u t f := by omega
          have e1 : gi (nI (nms u t f)) (0) = (sg u t f (0) : Nat) := gi_nI h
          have e2 : gi (nI (nms u t f)) j = (sg u t f j : Nat) := gi_nI hJ
          have s1 := sg_lt a hf h
          have s2 := sg_lt a hf hJ
          have l2 := fm_implyS_look u t (sg u t f (0) : Nat) (sg u t f j : Nat) tf (by omega) (by simpa using s1) (by omega) (by simpa using s2)
          simp only [Int.toNat_natCast] at l2
          rw [show implyM u t (sg u t f (0)) (sg u t f j) = ((im u t (sg u t f (0)) (sg u t f j) : Nat) : Int) from a.im_int] at l2
          have hw := a.im_lt (x := sg u t f (0)) (y := sg u t f j)
          have ms := mskI_succ (n := j) (p := leQ u t f (0))
          have ml := mskI_lt (n := j) (p := leQ u t f (0))
          have hp := pow_le60 (k := j) (by omega)
          rw [show leQ u t f (0) j = f.testBit (im u t (sg u t f (0)) (sg u t f j)) from rfl] at ms
          obtain ⟨z, hz⟩ : ∃ z, tn t (sg u t f (0)) (sg u t f j) = z := ⟨_, rfl⟩
          have hv : tm t (sg u t f (0)) (sg u t f j) = (z : Int) := by rw [a.tn_int s1 s2, hz]
          have hzl : z < u.length := by rw [← hz]; exact a.tn_lt s1 s2
          have e3 := quP_gi (u := u) (t := t) (f := f) hzl
          have w1 : IntKind.i64.wrap ((j : Int) + 1) = (j : Int) + 1 := wrap64 (by omega) (by omega)
          have w2 : IntKind.i64.wrap (((mskN j (leQ u t f (0)) : Nat) : Int) + 2 ^ j) = ((mskN j (leQ u t f (0)) : Nat) : Int) + 2 ^ j := wrap64 (by omega) (by omega)
          generalize mskN j (leQ u t f (0)) = M0 at *
          generalize im u t (sg u t f (0)) (sg u t f j) = w at *
          cases hb : f.testBit w
          · rw [hb, if_neg (by decide)] at ms
            simp [e1, e2, hqn ▸ hJ, hqn ▸ h, l2, hb, show (f : Int) < 64 by omega, show (w : Int) ≤ 61 by omega, hv, hzl, e3, tf.len, tf.rows, s1, s2, w1, tl_succ]
            exact ⟨leBig (by omega), g3, ⟨ms.symm, rfl⟩, rfl, by rw [← hz]⟩
          · rw [hb, if_pos rfl] at ms
            simp [e1, e2, hqn ▸ hJ, hqn ▸ h, l2, hb, show (f : Int) < 64 by omega, show (w : Int) ≤ 61 by omega, show (j : Int) ≤ 61 by omega, hv, hzl, e3, tf.len, tf.rows, s1, s2, w1, w2, tl_succ]
            exact ⟨leBig (by omega), g3, ⟨ms.symm, rfl⟩, rfl, by rw [← hz]⟩
        · obtain rfl : j = qn u t f := by omega
          exact ⟨leBig (by omega), h, rfl, g3, g3 + 1, ⟨rfl, rfl⟩, ⟨rfl, ints_one⟩, rfl, orowsD_one⟩
      · simp [lb_180_9, show ((i : Int) + 1 < (qn u t f : Nat)) by omega]
        refine loopX (tabK_mono _) (qn u t f) (fun j δ => [(12, I64 ((mskN j (leQ u t f (i + 1)) : Nat) : Int)), (13, .arr 344 δ), (14, I64 j)]) (fun j δ => [⟨32, 1, .cells [.nil, .nil]⟩, ⟨80, g, .cells [.arr 720 γ1, .arr 768 γ2]⟩, ⟨144, 2, .arr 1 (ints (quP u t f))⟩, ⟨176, 3, .arr 1 (ints (nI (nms u t f)))⟩, ⟨344, δ, .arr 1 (ints (tl j fun y => ((tnQ u t f (i + 1) y : Nat) : Int)))⟩, ⟨720, γ1, .arr 1 (ints (tl (i + 1) fun x => ((mskN (qn u t f) (leQ u t f x) : Nat) : Int)))⟩, ⟨768, γ2, .arr 1 (orowsD (tr (i + 1) fun x => tl (qn u t f) fun y => ((tnQ u t f x y : Nat) : Int)))⟩]) (fun _ _ => True) g2 (by simp [mskN]) (by simp [tl_zero, ints_nil]) trivial (fun j δ g3 hj _ => ?_)
        simp [lb_180_14]
        refine ⟨fun h2 => ?_, fun h2 => ?_⟩
        · have hJ : j < qn u t f := by omega
          have e1 : gi (nI (nms u t f)) (i + 1) = (sg u t f (i + 1) : Nat) := gi_nI h
          have e2 : gi (nI (nms u t f)) j = (sg u t f j : Nat) := gi_nI hJ
          have s1 := sg_lt a hf h
          have s2 := sg_lt a hf hJ
          have l2 := fm_implyS_look u t (sg u t f (i + 1) : Nat) (sg u t f j : Nat) tf (by omega) (by simpa using s1) (by omega) (by simpa using s2)
          simp only [Int.toNat_natCast] at l2
          rw [show implyM u t (sg u t f (i + 1)) (sg u t f j) = ((im u t (sg u t f (i + 1)) (sg u t f j) : Nat) : Int) from a.im_int] at l2
          have hw := a.im_lt (x := sg u t f (i + 1)) (y := sg u t f j)
          have ms := mskI_succ (n := j) (p := leQ u t f (i + 1))
          have ml := mskI_lt (n := j) (p := leQ u t f (i + 1))
          have hp := pow_le60 (k := j) (by omega)
          rw [show leQ u t f (i + 1) j = f.testBit (im u t (sg u t f (i + 1)) (sg u t f j)) from rfl] at ms
          obtain ⟨z, hz⟩ : ∃ z, tn t (sg u t f (i + 1)) (sg u t f j) = z := ⟨_, rfl⟩
          have hv : tm t (sg u t f (i + 1)) (sg u t f j) = (z : Int) := by rw [a.tn_int s1 s2, hz]
          have hzl : z < u.length := by rw [← hz]; exact a.tn_lt s1 s2
          have e3 := quP_gi (u := u) (t := t) (f := f) hzl
          have w1 : IntKind.i64.wrap ((j : Int) + 1) = (j : Int) + 1 := wrap64 (by omega) (by omega)
          have w2 : IntKind.i64.wrap (((mskN j (leQ u t f (i + 1)) : Nat) : Int) + 2 ^ j) = ((mskN j (leQ u t f (i + 1)) : Nat) : Int) + 2 ^ j := wrap64 (by omega) (by omega)
          generalize mskN j (leQ u t f (i + 1)) = M0 at *
          generalize im u t (sg u t f (i + 1)) (sg u t f j) = w at *
          cases hb : f.testBit w
          · rw [hb, if_neg (by decide)] at ms
            simp [e1, e2, hqn ▸ hJ, hqn ▸ h, l2, hb, show (f : Int) < 64 by omega, show (w : Int) ≤ 61 by omega, hv, hzl, e3, tf.len, tf.rows, s1, s2, w1, tl_succ]
            exact ⟨by omega, by omega, by omega, by omega, leBig (by omega), g3, ⟨ms.symm, rfl⟩, rfl, by rw [← hz]⟩
          · rw [hb, if_pos rfl] at ms
            simp [e1, e2, hqn ▸ hJ, hqn ▸ h, l2, hb, show (f : Int) < 64 by omega, show (w : Int) ≤ 61 by omega, show (j : Int) ≤ 61 by omega, hv, hzl, e3, tf.len, tf.rows, s1, s2, w1, w2, tl_succ]
            exact ⟨by omega, by omega, by omega, by omega, leBig (by omega), g3, ⟨ms.symm, rfl⟩, rfl, by rw [← hz]⟩
        · obtain rfl : j = qn u t f := by omega
          exact ⟨leBig (by omega), h, wrap64 (by omega) (by omega), g3, g3 + 1, ⟨rfl, rfl⟩, ⟨rfl, tl_succ.symm⟩, rfl, tr_succ.symm⟩
    · rcases i with _ | i
      · omega
      · have hin : qn u t f = i + 1 := by omega
        have eU : (tl (i + 1) fun x => ((mskN (qn u t f) (leQ u t f x) : Nat) : Int)) = quU u t f := by rw [← hin]; rfl
        have eT : (tr (i + 1) fun x => tl (qn u t f) fun y => ((tnQ u t f x y : Nat) : Int)) = quT u t f := by rw [← hin]; rfl
        simp [lb_180_9, eU, eT, show ¬ ((i : Int) + 1 < (qn u t f : Nat)) by omega]
        rintro x (rfl | rfl) <;> simp
noncomputable def fm_quoS : Fam Try.prog := mkFam (X := List Int × List (List Int) × Int) 180 true (fun (u, t, f) => [AL u t, I64 f]) (fun (u, t, f) => (VA u t) ∧ (FI u t f.toNat) ∧ (0 ≤ f)) (fun (u, t, f) => .tup [.agg [IO1 (quU u t f.toNat), RO (quT u t f.toNat)], IO1 (quP u t f.toNat)]) (by
  rintro ⟨u, t, f⟩ ⟨a, hf, h0⟩
  exact quoS_pc u t f a hf h0)
@[simp] theorem fm_quoS_id : fm_quoS.id = 180 := rfl
@[simp] theorem fm_quoS_fresh : fm_quoS.fresh = true := rfl
@[simp] theorem fm_quoS_look (u : List Int) (t : List (List Int)) (f : Int) (a : VA u t) (hf : FI u t f.toNat) (h0 : 0 ≤ f) : fm_quoS.look [AL u t, I64 f] = some (.tup [.agg [IO1 (quU u t f.toNat), RO (quT u t f.toNat)], IO1 (quP u t f.toNat)]) :=
  lookF_of (X := List Int × List (List Int) × Int) (args := fun (u, t, f) => [AL u t, I64 f]) (pre := fun (u, t, f) => (VA u t) ∧ (FI u t f.toNat) ∧ (0 ≤ f)) (val := fun (u, t, f) => .tup [.agg [IO1 (quU u t f.toNat), RO (quT u t f.toNat)], IO1 (quP u t f.toNat)]) (by
  rintro ⟨u, t, f⟩ ⟨u', t', f'⟩ h
  simp at h
  try simp only [and_assoc] at h
  obtain ⟨rfl, rfl, rfl⟩ := h
  rfl) (u, t, f) ⟨a, hf, h0⟩
attribute [irreducible] fm_quoS
end Go.PS
end

section
-- Contracts: stacks and pairs of algebras, of the reference.
set_option maxRecDepth 100000
set_option linter.unusedVariables false
set_option linter.unusedSimpArgs false
namespace Go.PS
open Go.Proofs

theorem VA.sh {u : List Int} {t : List (List Int)} (a : VA u t) : SH u t :=
  ⟨a.lat.sm, a.lat.pos, a.len, a.rows, fun x y hx hy => by have := a.tf.nn x y hx hy; omega, fun x y hx hy => by have := a.tf.lt x y hx hy; have := a.lat.six; omega⟩

set_option maxHeartbeats 1000000 in
theorem stackAlgS_pc (u : List Int) (t : List (List Int)) (v : List Int) (s : List (List Int)) (hu : Big u.length) (ht : BigR t) (hv : Big v.length) (hs : BigR s) : PC Try.prog 196 [AL u t, AL v s] none true (fun r _ => r = .tup [if VA u t ∧ VA v s ∧ u.length + v.length ≤ 7 then .agg [IO1 (skU u v), RO (skT u t v s)] else .agg [IO1 [], RO []], .bool (decide (VA u t ∧ VA v s ∧ u.length + v.length ≤ 7))]) := by
  have hul := hu.le
  have hvl := hv.le
  have w1 : IntKind.i64.wrap ((u.length : Int) + v.length) = (u.length : Int) + v.length := wrap64 (by omega) (by omega)
  have w2 : IntKind.i64.wrap ((u.length : Int) + v.length - 1) = (u.length : Int) + v.length - 1 := wrap64 (by omega) (by omega)
  refine pcT [fm_validAlgebraS, fm_stackS] fok_196 ?_
  simp [fa_196]
  refine cutW (tabK_mono _) [(24, .bool (!decide (VA u t ∧ VA v s ∧ u.length + v.length ≤ 7)))] (by
    cases hb : decide (VA u t)
    · simp [hu, ht, hb, of_decide_eq_false hb]
    · cases hb2 : decide (VA v s)
      · simp [hu, ht, hv, hs, hb, hb2, of_decide_eq_false hb2]
      · simp [hu, ht, hv, hs, hb, hb2, w1, w2, of_decide_eq_true hb, of_decide_eq_true hb2]
        rw [Bool.eq_iff_iff]
        simp
        omega) ?_
  cases hb : decide (VA u t ∧ VA v s ∧ u.length + v.length ≤ 7)
  · have h := of_decide_eq_false hb
    simp [h, ints, orowsD]
    intro h1 h2
    exact Nat.lt_of_not_le fun h3 => h ⟨h1, h2, h3⟩
  · have h := of_decide_eq_true hb
    simp [h]
    refine callO1 fm_stackS (by simp) (by simp) (v := .agg [IO1 (skU u v), RO (skT u t v s)]) (by simpa using fm_stackS_look u t v s h.1.sh h.2.1.sh) ?_
    simp
noncomputable def fm_stackAlgS : Fam Try.prog := mkFam (X := List Int × List (List Int) × List Int × List (List Int)) 196 true (fun (u, t, v, s) => [AL u t, AL v s]) (fun (u, t, v, s) => (Big u.length) ∧ (BigR t) ∧ (Big v.length) ∧ (BigR s)) (fun (u, t, v, s) => .tup [if VA u t ∧ VA v s ∧ u.length + v.length ≤ 7 then .agg [IO1 (skU u v), RO (skT u t v s)] else .agg [IO1 [], RO []], .bool (decide (VA u t ∧ VA v s ∧ u.length + v.length ≤ 7))]) (by
  rintro ⟨u, t, v, s⟩ ⟨hu, ht, hv, hs⟩
  exact stackAlgS_pc u t v s hu ht hv hs)
@[simp] theorem fm_stackAlgS_id : fm_stackAlgS.id = 196 := rfl
@[simp] theorem fm_stackAlgS_fresh : fm_stackAlgS.fresh = true := rfl
@[simp] theorem fm_stackAlgS_look (u : List Int) (t : List (List Int)) (v : List Int) (s : List (List Int)) (hu : Big u.length) (ht : BigR t) (hv : Big v.length) (hs : BigR s) : fm_stackAlgS.look [AL u t, AL v s] = some (.tup [if VA u t ∧ VA v s ∧ u.length + v.length ≤ 7 then .agg [IO1 (skU u v), RO (skT u t v s)] else .agg [IO1 [], RO []], .bool (decide (VA u t ∧ VA v s ∧ u.length + v.length ≤ 7))]) :=
  lookF_of (X := List Int × List (List Int) × List Int × List (List Int)) (args := fun (u, t, v, s) => [AL u t, AL v s]) (pre := fun (u, t, v, s) => (Big u.length) ∧ (BigR t) ∧ (Big v.length) ∧ (BigR s)) (val := fun (u, t, v, s) => .tup [if VA u t ∧ VA v s ∧ u.length + v.length ≤ 7 then .agg [IO1 (skU u v), RO (skT u t v s)] else .agg [IO1 [], RO []], .bool (decide (VA u t ∧ VA v s ∧ u.length + v.length ≤ 7))]) (by
  rintro ⟨u, t, v, s⟩ ⟨u', t', v', s'⟩ h
  simp at h
  try simp only [and_assoc] at h
  obtain ⟨rfl, rfl, rfl, rfl⟩ := h
  rfl) (u, t, v, s) ⟨hu, ht, hv, hs⟩
attribute [irreducible] fm_stackAlgS

set_option maxHeartbeats 1000000 in
theorem crossAlgS_pc (u : List Int) (t : List (List Int)) (v : List Int) (s : List (List Int)) (hu : u.length ≤ 1000000) (ht : BigR t) (hv : v.length ≤ 1000000) (hs : BigR s) : PC Try.prog 195 [AL u t, AL v s] none true (fun r _ => r = .tup [if VA u t ∧ VA v s ∧ u.length * v.length ≤ 6 then .agg [IO1 (crU u v), RO (crT u t v s)] else .agg [IO1 [], RO []], .bool (decide (VA u t ∧ VA v s ∧ u.length * v.length ≤ 6))]) := by
  have hm : u.length * v.length ≤ 1000000 * 1000000 := Nat.mul_le_mul hu hv
  have w1 : IntKind.i64.wrap ((u.length : Int) * v.length) = ((u.length * v.length : Nat) : Int) := by
    rw [← Int.natCast_mul]
    generalize u.length * v.length = k at *
    exact wrap64 (by omega) (by omega)
  generalize hk : u.length * v.length = k at *
  have hub : Big u.length := by unfold Big; omega
  have hvb : Big v.length := by unfold Big; omega
  refine pcT [fm_validAlgebraS, fm_crossS] fok_195 ?_
  simp [fa_195]
  refine cutW (tabK_mono _) [(28, .bool (!decide (VA u t ∧ VA v s ∧ k ≤ 6)))] (by
    cases hb : decide (VA u t)
    · simp [hub, ht, hb, of_decide_eq_false hb]
    · cases hb2 : decide (VA v s)
      · simp [hub, ht, hvb, hs, hb, hb2, of_decide_eq_false hb2]
      · simp [hub, ht, hvb, hs, hb, hb2, w1, of_decide_eq_true hb, of_decide_eq_true hb2]
        rw [Bool.eq_iff_iff]
        simp
        omega) ?_
  cases hb : decide (VA u t ∧ VA v s ∧ k ≤ 6)
  · have h := of_decide_eq_false hb
    simp [h, ints, orowsD]
    intro h1 h2
    exact Nat.lt_of_not_le fun h3 => h ⟨h1, h2, h3⟩
  · have h := of_decide_eq_true hb
    have a := h.1.sh
    have b := h.2.1.sh
    simp [h]
    refine callO1 fm_crossS (by simp) (by simp) (v := IO1 (crU u v)) (by simpa using fm_crossS_look u v a.sm b.sm) ?_
    simp
    have hkk : k ≤ 6 := h.2.2
    have eL : (crU u v).length = k := by simp [crU, hk]
    refine loopX (tabK_mono _) k (fun i γ => [(8, I64 i)]) (fun i γ => match i with
      | 0 => [⟨32, 1, .cells [.nil, .nil]⟩, ⟨48, 3, .cells [.arr 272 2, .nil]⟩, ⟨272, 2, .arr 1 (ints (crU u v))⟩]
      | i + 1 => [⟨32, 1, .cells [.nil, .nil]⟩, ⟨48, 3, .cells [.arr 272 2, .arr 704 γ]⟩, ⟨272, 2, .arr 1 (ints (crU u v))⟩, ⟨704, γ, .arr 1 (orowsD (tr (i + 1) fun x => tl k (crV u t v s x)))⟩]) (fun _ _ => True) 0 (by simp) (by simp) trivial (fun i γ g hi _ => ?_)
    rcases Nat.lt_or_ge i k with hik | hik
    · obtain ⟨x1, y1, n1, o1, d1, m1, e1, f1, w1', hz⟩ := pr_ex hk (by omega) hik
      have hz' : ¬ v = [] := fun e => hz (by simp [e])
      have hne : ¬ ints (crU u v) = [] := fun e => by
        have := congrArg List.length e
        simp [eL] at this
        omega
      rcases i with _ | i
      · obtain rfl : x1 = 0 := by simpa using n1.symm
        obtain rfl : y1 = 0 := by simpa using o1.symm
        have w0 : IntKind.i64.wrap 0 = 0 := rfl
        simp [lb_195_6, eL, hik, hne]
        refine loopX (tabK_mono _) k (fun j δ => [(9, .arr 368 δ), (10, I64 j)]) (fun j δ => [⟨32, 1, .cells [.nil, .nil]⟩, ⟨48, 3, .cells [.arr 272 2, .nil]⟩, ⟨272, 2, .arr 1 (ints (crU u v))⟩, ⟨368, δ, .arr 1 (ints (tl j (crV u t v s 0)))⟩]) (fun _ _ => True) g (by simp) (by simp [tl_zero, ints_nil]) trivial (fun j δ g2 hj _ => ?_)
        simp [lb_195_10, eL]
        refine ⟨fun h2 => ?_, fun h2 => ?_⟩
        · obtain ⟨x2, y2, n2, o2, d2, m2, e2, f2, w2, _⟩ := pr_ex hk (by omega) h2
          have q1 := a.nn 0 x2 d1 d2
          have q2 := a.lt 0 x2 d1 d2
          have q3 := b.nn 0 y2 m1 m2
          have q4 := b.lt 0 y2 m1 m2
          have q5 : -1000 ≤ tm t 0 x2 * v.length ∧ tm t 0 x2 * v.length ≤ 1000 := by
            have hv6 : v.length ≤ 6 := b.sm.six
            have c6 : v.length = 0 ∨ v.length = 1 ∨ v.length = 2 ∨ v.length = 3 ∨ v.length = 4 ∨ v.length = 5 ∨ v.length = 6 := by omega
            rcases c6 with c | c | c | c | c | c | c <;> rw [c] <;> omega
          have w3 : IntKind.i64.wrap (tm t 0 x2 * v.length) = tm t 0 x2 * v.length := wrap64 (by omega) (by omega)
          have w4 : IntKind.i64.wrap (tm t 0 x2 * v.length + tm s 0 y2) = tm t 0 x2 * v.length + tm s 0 y2 := wrap64 (by omega) (by omega)
          have eV : crV u t v s 0 j = tm t 0 x2 * v.length + tm s 0 y2 := by
            unfold crV; rw [n1, n2, o1, o2]
          simp [e1, f1, w1', w0, e2, f2, w2, d1, d2, m1, m2, hz', hz, a.len, a.rows, b.len, b.rows, h2, w3, w4, eV, tl_succ]
          exact ⟨le_big (by omega), wrap_succ hj (by omega)⟩
        · obtain rfl : j = k := by omega
          exact ⟨le_big (by omega), hik, rfl, orowsD_one⟩
      · simp [lb_195_6, eL, show ((i : Int) + 1 < k) by omega, show ¬ ((k : Int) ≤ (i : Int) + 1) by omega, hne]
        push_cast at e1 f1
        have e1' : ((i : Int) + 1).tdiv v.length = x1 := (Int.tdiv_eq_ediv_of_nonneg (by omega)).trans e1
        refine loopX (tabK_mono _) k (fun j δ => [(9, .arr 368 δ), (10, I64 j)]) (fun j δ => [⟨32, 1, .cells [.nil, .nil]⟩, ⟨48, 3, .cells [.arr 272 2, .arr 704 γ]⟩, ⟨272, 2, .arr 1 (ints (crU u v))⟩, ⟨368, δ, .arr 1 (ints (tl j (crV u t v s (i + 1))))⟩, ⟨704, γ, .arr 1 (orowsD (tr (i + 1) fun x => tl k (crV u t v s x)))⟩]) (fun _ _ => True) g (by simp) (by simp [tl_zero, ints_nil]) trivial (fun j δ g2 hj _ => ?_)
        simp [lb_195_10, eL]
        refine ⟨fun h2 => ?_, fun h2 => ?_⟩
        · obtain ⟨x2, y2, n2, o2, d2, m2, e2, f2, w2, _⟩ := pr_ex hk (by omega) h2
          have q1 := a.nn x1 x2 d1 d2
          have q2 := a.lt x1 x2 d1 d2
          have q3 := b.nn y1 y2 m1 m2
          have q4 := b.lt y1 y2 m1 m2
          have q5 : -1000 ≤ tm t x1 x2 * v.length ∧ tm t x1 x2 * v.length ≤ 1000 := by
            have hv6 : v.length ≤ 6 := b.sm.six
            have c6 : v.length = 0 ∨ v.length = 1 ∨ v.length = 2 ∨ v.length = 3 ∨ v.length = 4 ∨ v.length = 5 ∨ v.length = 6 := by omega
            rcases c6 with c | c | c | c | c | c | c <;> rw [c] <;> omega
          have w3 : IntKind.i64.wrap (tm t x1 x2 * v.length) = tm t x1 x2 * v.length := wrap64 (by omega) (by omega)
          have w4 : IntKind.i64.wrap (tm t x1 x2 * v.length + tm s y1 y2) = tm t x1 x2 * v.length + tm s y1 y2 := wrap64 (by omega) (by omega)
          have eV : crV u t v s (i + 1) j = tm t x1 x2 * v.length + tm s y1 y2 := by
            unfold crV; rw [n1, n2, o1, o2]
          simp [e1', f1, w1', e2, f2, w2, d1, d2, m1, m2, hz', hz, a.len, a.rows, b.len, b.rows, h2, w3, w4, eV, tl_succ]
          exact ⟨le_big (by omega), wrap_succ hj (by omega)⟩
        · obtain rfl : j = k := by omega
          exact ⟨le_big (by omega), hik, wrap64 (by omega) (by omega), tr_succ.symm⟩
    · obtain rfl : i = k := by omega
      rcases i with _ | i
      · exact absurd hk (by have := Nat.mul_pos a.pos b.pos; omega)
      · simp [lb_195_6, eL, crT, hk]
        rintro x (rfl | rfl) <;> simp
noncomputable def fm_crossAlgS : Fam Try.prog := mkFam (X := List Int × List (List Int) × List Int × List (List Int)) 195 true (fun (u, t, v, s) => [AL u t, AL v s]) (fun (u, t, v, s) => (u.length ≤ 1000000) ∧ (BigR t) ∧ (v.length ≤ 1000000) ∧ (BigR s)) (fun (u, t, v, s) => .tup [if VA u t ∧ VA v s ∧ u.length * v.length ≤ 6 then .agg [IO1 (crU u v), RO (crT u t v s)] else .agg [IO1 [], RO []], .bool (decide (VA u t ∧ VA v s ∧ u.length * v.length ≤ 6))]) (by
  rintro ⟨u, t, v, s⟩ ⟨hu, ht, hv, hs⟩
  exact crossAlgS_pc u t v s hu ht hv hs)
@[simp] theorem fm_crossAlgS_id : fm_crossAlgS.id = 195 := rfl
@[simp] theorem fm_crossAlgS_fresh : fm_crossAlgS.fresh = true := rfl
@[simp] theorem fm_crossAlgS_look (u : List Int) (t : List (List Int)) (v : List Int) (s : List (List Int)) (hu : u.length ≤ 1000000) (ht : BigR t) (hv : v.length ≤ 1000000) (hs : BigR s) : fm_crossAlgS.look [AL u t, AL v s] = some (.tup [if VA u t ∧ VA v s ∧ u.length * v.length ≤ 6 then .agg [IO1 (crU u v), RO (crT u t v s)] else .agg [IO1 [], RO []], .bool (decide (VA u t ∧ VA v s ∧ u.length * v.length ≤ 6))]) :=
  lookF_of (X := List Int × List (List Int) × List Int × List (List Int)) (args := fun (u, t, v, s) => [AL u t, AL v s]) (pre := fun (u, t, v, s) => (u.length ≤ 1000000) ∧ (BigR t) ∧ (v.length ≤ 1000000) ∧ (BigR s)) (val := fun (u, t, v, s) => .tup [if VA u t ∧ VA v s ∧ u.length * v.length ≤ 6 then .agg [IO1 (crU u v), RO (crT u t v s)] else .agg [IO1 [], RO []], .bool (decide (VA u t ∧ VA v s ∧ u.length * v.length ≤ 6))]) (by
  rintro ⟨u, t, v, s⟩ ⟨u', t', v', s'⟩ h
  simp at h
  try simp only [and_assoc] at h
  obtain ⟨rfl, rfl, rfl, rfl⟩ := h
  rfl) (u, t, v, s) ⟨hu, ht, hv, hs⟩
attribute [irreducible] fm_crossAlgS
end Go.PS
end

section
-- Contracts: all algebras of a chain, of the reference.
set_option maxRecDepth 100000
set_option linter.unusedVariables false
set_option linter.unusedSimpArgs false
namespace Go.PS
open Go.Proofs

/-- Tables as a list. -/
def tabsD (ts : List (List (List Int))) : List D := ts.map RL
abbrev TL (ts : List (List (List Int))) : D := .list 1 (tabsD ts)
@[simp] theorem tabsD_length {ts : List (List (List Int))} : (tabsD ts).length = ts.length := by simp [tabsD]
@[simp] theorem tabsD_append {a b : List (List (List Int))} : tabsD a ++ tabsD b = tabsD (a ++ b) := by simp [tabsD]
@[simp] theorem tabsD_imm {n : Nat} {ts : List (List (List Int))} : (tabsD ts).map (imm n) = tabsD ts := by cases n <;> simp [tabsD, Function.comp_def]
theorem orowsD_ge {r : List (List Int)} {x : Nat} (h' : x < (orowsD r).length) : (orowsD r)[x] = IO1 (gr r x) := by
  have h : x < r.length := by simpa using h'
  have := orowsD_get h
  rw [List.getElem?_eq_getElem h'] at this
  exact Option.some.inj this

/-- A table out of a list. -/
def gt (ts : List (List (List Int))) (n : Nat) : List (List Int) := ts[n]?.getD []
@[simp] theorem idxK_tabs {ts : List (List (List Int))} {n : Int} {K : D → Prop} : idxK (tabsD ts) n K ↔ 0 ≤ n ∧ n < ts.length ∧ K (RL (gt ts n.toNat)) := by
  have e : gt ts n.toNat = ts.getD n.toNat default := by unfold gt; rw [List.getD_eq_getElem?_getD]; rfl
  rw [e]; exact idxK_map

/-- A square table. -/
structure SQ (n : Nat) (t : List (List Int)) : Prop where
  len : t.length = n
  rows : ∀ x, x < n → (gr t x).length = n
theorem SQ.big {n : Nat} {t : List (List Int)} (s : SQ n t) (hn : n ≤ 60) : BigR t := by
  refine ⟨by unfold Big; rw [s.len]; omega, fun r hr => ?_⟩
  obtain ⟨i, hi, rfl⟩ := List.mem_iff_getElem.1 hr
  have := s.rows i (by rw [← s.len]; exact hi)
  simp [gr, List.getElem?_eq_getElem hi] at this
  unfold Big; omega
theorem gr_set {t : List (List Int)} {x z : Nat} {r : List Int} : gr (t.set x r) z = if x = z ∧ x < t.length then r else gr t z := by
  unfold gr
  rw [List.getElem?_set]
  by_cases h : x = z
  · subst h
    by_cases h2 : x < t.length
    · simp [h2]
    · simp [h2, List.getElem?_eq_none (Nat.le_of_not_lt h2)]
  · simp [h]
theorem SQ.set {n : Nat} {t : List (List Int)} (s : SQ n t) {x y : Nat} {z : Int} : SQ n (set2 t x y z) := by
  refine ⟨by simp [set2, s.len], fun w hw => ?_⟩
  unfold set2
  rw [gr_set]
  split
  · rename_i h
    rw [List.length_set, h.1]
    exact s.rows w hw
  · exact s.rows w hw

/-- What the loop over the products has found before one. -/
def filA (n k : Nat) (t : List (List Int)) (x y i : Nat) : List (List (List Int)) := (List.range i).flatMap fun (z : Nat) => if tm t (x - 1) y ≤ z ∧ tm t x (y - 1) ≤ z then filM n k (set2 (set2 t x y z) y x z) x (y + 1) else []
theorem filA_succ {n k : Nat} {t : List (List Int)} {x y i : Nat} : filA n k t x y (i + 1) = filA n k t x y i ++ (if tm t (x - 1) y ≤ i ∧ tm t x (y - 1) ≤ i then filM n k (set2 (set2 t x y i) y x i) x (y + 1) else []) := by
  simp [filA, List.range_succ, List.flatMap_append]
theorem pow5 {a b : Nat} (h : a ≤ b) : 5 ^ a ≤ 5 ^ b := Nat.pow_le_pow_right (by omega) h
theorem filA_len' {n k : Nat} {t : List (List Int)} {x y B : Nat} (hB : ∀ t', (filM n k t' x (y + 1)).length ≤ B) : ∀ i, (filA n k t x y i).length ≤ i * B
  | 0 => by simp [filA]
  | i + 1 => by
    rw [filA_succ, List.length_append, Nat.succ_mul]
    have ih := filA_len' hB (t := t) i
    split
    · have := hB (set2 (set2 t x y i) y x i); omega
    · simp; omega
theorem filM_len {n : Nat} (hn : n ≤ 5) : ∀ (k : Nat) (t : List (List Int)) (x y : Nat), x ≤ y → y < n → (filM n k t x y).length ≤ 5 ^ ((n - 1 - y) + 4 * (n - 1 - x))
  | 0, t, x, y, _, _ => by simp [filM]
  | k + 1, t, x, y, hxy, hy => by
    have hp : 1 ≤ 5 ^ ((n - 1 - y) + 4 * (n - 1 - x)) := Nat.pow_pos (by omega)
    by_cases c1 : x = n - 1
    · rw [filM, if_pos c1]
      split <;> simp <;> omega
    · by_cases c2 : y = n - 1
      · rw [filM, if_neg c1, if_pos c2]
        exact Nat.le_trans (filM_len hn k t (x + 1) (x + 1) (by omega) (by omega)) (pow5 (by omega))
      · rw [filM, if_neg c1, if_neg c2, Nat.min_eq_left hxy]
        have h1 := filA_len' (k := k) (t := t) (B := 5 ^ ((n - 1 - (y + 1)) + 4 * (n - 1 - x))) (fun t' => filM_len hn k t' x (y + 1) (by omega) (by omega)) (x + 1)
        refine Nat.le_trans h1 (Nat.le_trans (Nat.mul_le_mul_right _ (show x + 1 ≤ 5 by omega)) ?_)
        rw [show (n - 1 - y) + 4 * (n - 1 - x) = ((n - 1 - (y + 1)) + 4 * (n - 1 - x)) + 1 by omega, Nat.pow_succ, Nat.mul_comm]
        exact Nat.le_refl _
theorem filA_big {n : Nat} (hn : n ≤ 5) {k : Nat} {t : List (List Int)} {x y i : Nat} (h1 : 1 ≤ x) (hxy : x ≤ y) (hy : y + 1 < n) (hi : i ≤ 5) : (filA n k t x y i).length ≤ 1000000000000 := by
  have h1 := filA_len' (k := k) (t := t) (B := 5 ^ 15) (fun t' => Nat.le_trans (filM_len hn k t' x (y + 1) (by omega) (by omega)) (pow5 (by omega))) i
  have : i * 5 ^ 15 ≤ 5 * 5 ^ 15 := Nat.mul_le_mul_right _ hi
  have e : 5 * 5 ^ 15 = 152587890625 := by decide
  omega

set_option maxHeartbeats 2000000 in
theorem fill_aux {n : Nat} (hn : n ≤ 5) : ∀ (k : Nat) (t : List (List Int)) (x y : Nat), SQ n t → 1 ≤ x → x ≤ y → y < n → (n - 1 - x) * 8 + (n - 1 - y) < k →
    PC Try.prog 203 [I64 n, RL t, I64 x, I64 y] none false (fun r _ => r = TL (filM n k t x y))
  | 0, t, x, y, _, _, _, _, h => by omega
  | k + 1, t, x, y, sq, h1, hxy, hy, hk => by
    obtain ⟨fm, hid, hfr, hlk'⟩ := famE (P := Try.prog) (X := (List (List Int)) × Nat × Nat) 203 false (fun q => [I64 n, RL q.1, I64 q.2.1, I64 q.2.2]) (fun q => SQ n q.1 ∧ 1 ≤ q.2.1 ∧ q.2.1 ≤ q.2.2 ∧ q.2.2 < n ∧ (n - 1 - q.2.1) * 8 + (n - 1 - q.2.2) < k) (fun q => TL (filM n k q.1 q.2.1 q.2.2)) (by
      rintro ⟨a, b, c⟩ ⟨a', b', c'⟩ h
      simp at h
      obtain ⟨rfl, hb, hc⟩ := h
      obtain rfl : b = b' := by omega
      obtain rfl : c = c' := by omega
      rfl) (fun q hq => fill_aux hn k q.1 q.2.1 q.2.2 hq.1 hq.2.1 hq.2.2.1 hq.2.2.2.1 hq.2.2.2.2)
    have hlk : ∀ (t : List (List Int)) (x y : Nat), SQ n t → 1 ≤ x → x ≤ y → y < n → (n - 1 - x) * 8 + (n - 1 - y) < k → fm.look [I64 n, RL t, I64 x, I64 y] = some (TL (filM n k t x y)) := fun t x y a b c d e => hlk' (t, x, y) ⟨a, b, c, d, e⟩
    have w1 : IntKind.i64.wrap ((n : Int) - 1) = n - 1 := wrap64 (by omega) (by omega)
    have w2 : IntKind.i64.wrap ((x : Int) + 1) = x + 1 := wrap64 (by omega) (by omega)
    have w3 : IntKind.i64.wrap ((y : Int) + 1) = y + 1 := wrap64 (by omega) (by omega)
    have w4 : IntKind.i64.wrap ((x : Int) - 1) = ((x - 1 : Nat) : Int) := by rw [wrap64 (by omega) (by omega)]; omega
    have w5 : IntKind.i64.wrap ((y : Int) - 1) = ((y - 1 : Nat) : Int) := by rw [wrap64 (by omega) (by omega)]; omega
    refine pcT [fm, fm_chainS, fm_copyTabS, fm_validAlgebraS] fok_203 ?_
    by_cases c1 : x = n - 1
    · have e1 : filM n (k + 1) t x y = if vaB (chL n) t then [t] else [] := by rw [filM, if_pos c1]
      have lc := fm_chainS_look n (by omega) (by omega)
      have lt := fm_copyTabS_look t (sq.big (by omega))
      have lv := fm_validAlgebraS_look (chL n) t (by unfold Big; rw [chL_length]; omega) (sq.big (by omega))
      rw [decide_VA] at lv
      rw [e1]
      cases hv : vaB (chL n) t
      · simp [fa_203, w1, show ((x : Int) = n - 1) by omega, lc, lt, lv, hv, hid]
        rfl
      · simp [fa_203, w1, show ((x : Int) = n - 1) by omega, lc, lt, lv, hv, hid]
        rfl
    · by_cases c2 : y = n - 1
      · have e1 : filM n (k + 1) t x y = filM n k t (x + 1) (x + 1) := by rw [filM, if_neg c1, if_pos c2]
        have l1 := hlk t (x + 1) (x + 1) sq (by omega) (by omega) (by omega) (by omega)
        push_cast at l1
        rw [e1]
        simp [fa_203, w1, w2, hid, hfr, show ¬ ((x : Int) = n - 1) by omega, show ((y : Int) = n - 1) by omega, l1]
      · have e1 : filM n (k + 1) t x y = filA n k t x y (x + 1) := by rw [filM, if_neg c1, if_neg c2, Nat.min_eq_left hxy]; rfl
        rw [e1]
        simp [fa_203, w1, show ¬ ((x : Int) = n - 1) by omega, show ¬ ((y : Int) = n - 1) by omega]
        refine loopX (tabK_mono _) (x + 1) (fun i γ => [(10, .arr 312 γ), (11, I64 i)]) (fun i γ => [⟨312, γ, .arr 1 (tabsD (filA n k t x y i))⟩]) (fun _ _ => True) 1 (by simp) (by simp [filA, tabsD]) trivial (fun i γ g hi _ => ?_)
        simp [lb_203_10]
        refine ⟨fun h => ?_, fun h => ?_⟩
        · have hlt : i < x + 1 := by split at h <;> omega
          have hg := filA_succ (n := n) (k := k) (t := t) (x := x) (y := y) (i := i)
          refine cutW (tabK_mono _) [(68, .bool (decide (tm t (x - 1) y ≤ i ∧ tm t x (y - 1) ≤ i)))] (by
            rcases Int.lt_or_le i (tm t (x - 1) y) with c | c
            · simp [w4, sq.len, sq.rows, show x - 1 < n by omega, hy, show ¬ (tm t (x - 1) y ≤ (i : Int)) by omega]
            · simp [w4, w5, sq.len, sq.rows, show x - 1 < n by omega, hy, c, show x < n by omega, show y - 1 < n by omega]) ?_
          cases hc : decide (tm t (x - 1) y ≤ i ∧ tm t x (y - 1) ≤ i)
          · rw [if_neg (of_decide_eq_false hc), List.append_nil] at hg
            simp [hg]
            exact ⟨hlt, wrap64 (by omega) (by omega)⟩
          · rw [if_pos (of_decide_eq_true hc)] at hg
            simp [hg]
            refine callO1 fm_copyTabS (by simp) (by simp) (v := RO t) (by simpa using fm_copyTabS_look t (sq.big (by omega))) ?_
            have hs1 : t.set x ((gr t x).set y (i : Int)) = set2 t x y i := rfl
            have hs2 : (set2 t x y i).set y ((gr (set2 t x y i) y).set x (i : Int)) = set2 (set2 t x y i) y x i := rfl
            have q1 : SQ n (set2 t x y i) := sq.set
            have q2 : SQ n (set2 (set2 t x y i) y x i) := q1.set
            have l1 := hlk (set2 (set2 t x y i) y x i) x (y + 1) q2 h1 (by omega) (by omega) (by omega)
            push_cast at l1
            have hb := filA_big hn (k := k) (t := t) (x := x) (y := y) (i := i + 1) h1 hxy (by omega) (by omega)
            rw [hg, List.length_append] at hb
            simp [sq.len, sq.rows, q1.len, q1.rows, show x < n by omega, hy, orowsD_ge, rowAt, rowB, hs1, hs2, w3, hid, hfr, l1]
            exact ⟨le_big (by omega), hlt, _, ⟨rfl, wrap64 (by omega) (by omega)⟩, rfl, by rw [hg]⟩
        · obtain rfl : i = x + 1 := by omega
          rfl
theorem fillS_pc (n : Int) (t : List (List Int)) (h2 : 2 < n) (hn : n ≤ 5) (sq : SQ n.toNat t) : PC Try.prog 203 [I64 n, RL t, I64 1, I64 1] none false (fun r _ => r = TL (filM n.toNat 40 t 1 1)) := by
  obtain ⟨n, rfl⟩ := Int.eq_ofNat_of_zero_le (show 0 ≤ n by omega)
  exact fill_aux (by omega) 40 t 1 1 sq (by omega) (by omega) (by omega) (by omega)
noncomputable def fm_fillS : Fam Try.prog := mkFam (X := Int × List (List Int)) 203 false (fun (n, t) => [I64 n, RL t, I64 1, I64 1]) (fun (n, t) => (2 < n) ∧ (n ≤ 5) ∧ (SQ n.toNat t)) (fun (n, t) => TL (filM n.toNat 40 t 1 1)) (by
  rintro ⟨n, t⟩ ⟨h2, hn, sq⟩
  exact fillS_pc n t h2 hn sq)
@[simp] theorem fm_fillS_id : fm_fillS.id = 203 := rfl
@[simp] theorem fm_fillS_fresh : fm_fillS.fresh = false := rfl
@[simp] theorem fm_fillS_look (n : Int) (t : List (List Int)) (h2 : 2 < n) (hn : n ≤ 5) (sq : SQ n.toNat t) : fm_fillS.look [I64 n, RL t, I64 1, I64 1] = some (TL (filM n.toNat 40 t 1 1)) :=
  lookF_of (X := Int × List (List Int)) (args := fun (n, t) => [I64 n, RL t, I64 1, I64 1]) (pre := fun (n, t) => (2 < n) ∧ (n ≤ 5) ∧ (SQ n.toNat t)) (val := fun (n, t) => TL (filM n.toNat 40 t 1 1)) (by
  rintro ⟨n, t⟩ ⟨n', t'⟩ h
  simp at h
  try simp only [and_assoc] at h
  obtain ⟨rfl, rfl⟩ := h
  rfl) (n, t) ⟨h2, hn, sq⟩
attribute [irreducible] fm_fillS

/-- Algebras as a list. -/
def asD (l : List (List Int × List (List Int))) : List D := l.map fun p => AL p.1 p.2
abbrev AA (l : List (List Int × List (List Int))) : D := .list 2 (asD l)
@[simp] theorem asD_length {l : List (List Int × List (List Int))} : (asD l).length = l.length := by simp [asD]
@[simp] theorem asD_imm {n : Nat} {l : List (List Int × List (List Int))} : (asD l).map (imm (n + 1)) = asD l := by simp [asD, imm, Function.comp_def]
@[simp] theorem asD_append {a b : List (List Int × List (List Int))} : asD a ++ asD b = asD (a ++ b) := by simp [asD]
theorem asD_push {a : List (List Int × List (List Int))} {u : List Int} {t : List (List Int)} : asD a ++ [AL u t] = asD (a ++ [(u, t)]) := by simp [asD]

theorem gi_set {l : List Int} {i j : Nat} {v : Int} : gi (l.set i v) j = if i = j ∧ i < l.length then v else gi l j := by
  unfold gi
  rw [List.getElem?_set]
  by_cases h : i = j
  · subst h
    by_cases h2 : i < l.length
    · simp [h2]
    · simp [h2, List.getElem?_eq_none (Nat.le_of_not_lt h2)]
  · simp [h]
/-- A row of the first table. -/
def rowJ (n x j : Nat) : List Int := tl n fun y => if y < j then (y : Int) else if y = n - 1 then (x : Int) else 0
def rowC (n x : Nat) : List Int := tl n fun y => if x = n - 1 then (y : Int) else if y = n - 1 then (x : Int) else 0
theorem gi_replicate {n j : Nat} : gi (List.replicate n 0) j = 0 := by
  unfold gi
  rw [List.getElem?_replicate]
  split <;> rfl
theorem rowJ_zero {n x : Nat} (h : 1 ≤ n) : (List.replicate n (0 : Int)).set (n - 1) x = rowJ n x 0 := by
  refine gi_ext (by simp [rowJ]) (fun j hj => ?_)
  have hj : j < n := by simpa using hj
  rw [gi_set, gi_replicate, rowJ, gi_tl hj]
  by_cases e : j = n - 1
  · simp [e]; omega
  · simp [e, show ¬ n - 1 = j by omega]
theorem rowJ_succ {n x j : Nat} (h : j < n) : (rowJ n x j).set j (j : Int) = rowJ n x (j + 1) := by
  refine gi_ext (by simp [rowJ]) (fun y hy => ?_)
  have hy : y < n := by simpa [rowJ] using hy
  rw [gi_set, rowJ, rowJ, gi_tl hy, gi_tl hy]
  by_cases e : j = y
  · subst e; simp [h]
  · by_cases c : y < j
    · simp [e, c, show y < j + 1 by omega]
    · simp [e, c, show ¬ y < j + 1 by omega]
theorem rowJ_top {n x : Nat} (h : 1 ≤ n) (hx : x = n - 1) : rowJ n x n = rowC n x := by
  refine gi_ext (by simp [rowJ, rowC]) (fun y hy => ?_)
  have hy : y < n := by simpa [rowJ] using hy
  rw [rowJ, rowC, gi_tl hy, gi_tl hy]
  simp [hx, hy]
theorem rowJ_bot {n x : Nat} (hx : ¬ x = n - 1) : rowJ n x 0 = rowC n x := by
  unfold rowJ rowC
  simp [hx]
theorem tab0_eq {n : Nat} : tab0 n = tr n (rowC n) := rfl
theorem tab0_sq {n : Nat} : SQ n (tab0 n) := ⟨by simp [tab0], fun x hx => by rw [tab0, gr_tr hx]; simp⟩

theorem chT_len {n : Nat} (hn : n ≤ 5) : (chT n).length ≤ 1000000000000 := by
  unfold chT
  split
  · have := Nat.le_trans (filM_len hn 40 (tab0 n) 1 1 (by omega) (by omega)) (pow5 (show (n - 1 - 1) + 4 * (n - 1 - 1) ≤ 15 by omega))
    have e : 5 ^ 15 = 30517578125 := by decide
    omega
  · simp

set_option maxHeartbeats 2000000 in
theorem chains_pc (n : Nat) (h1 : 1 ≤ n) (h5 : n ≤ 5) (hc : n ≤ 2) : PC Try.prog 200 [I64 n] none false (fun r _ => r = AA ((chT n).map fun t => (chL n, t))) := by
  have w1 : IntKind.i64.wrap ((n : Int) - 1) = ((n - 1 : Nat) : Int) := by rw [wrap64 (by omega) (by omega)]; omega
  refine pcT [fm_chainS, fm_fillS] fok_200 ?_
  simp [fa_200]
  refine loopX (tabK_mono _) n (fun i γ => [(3, .arr 80 γ), (4, I64 i)]) (fun i γ => [⟨80, γ, .arr 1 (orowsD (tr i (rowC n)))⟩]) (fun _ _ => True) 1 (by simp) (by simp [tr_zero, orowsD]) trivial (fun i γ g hi _ => ?_)
  simp [lb_200_3, w1, le_big (show n ≤ 1099511627776 by omega), show n - 1 < n by omega]
  refine ⟨fun h => ?_, fun h => ?_⟩
  · refine ⟨fun c => ?_, fun c => ?_⟩
    · refine loopX (tabK_mono _) n (fun j δ => [(6, I64 j)]) (fun j δ => [⟨80, γ, .arr 1 (orowsD (tr i (rowC n)))⟩, ⟨136, g, .arr 1 (ints (rowJ n i j))⟩]) (fun _ _ => True) 1 (by simp) (by simp [rowJ_zero h1]) trivial (fun j δ g2 hj _ => ?_)
      simp [lb_200_9]
      refine ⟨fun h2 => ?_, fun h2 => ?_⟩
      · simp [h2, rowJ_succ h2]
        exact ⟨by simpa [rowJ] using h2, wrap64 (by omega) (by omega)⟩
      · obtain rfl : j = n := by omega
        exact ⟨le_big (by omega), h, g2, ⟨rfl, wrap64 (by omega) (by omega)⟩, rfl, by rw [rowJ_top h1 (by omega), ← tr_succ]⟩
    · have e := rowJ_zero (x := i) h1
      rw [e, rowJ_bot (by omega)]
      exact ⟨le_big (by omega), h, g + 1, ⟨rfl, wrap64 (by omega) (by omega)⟩, rfl, tr_succ.symm⟩
  · obtain rfl : i = n := by omega
    rw [← tab0_eq]
    have hn5 : i ≤ 5 := h5
    refine ⟨fun h => by omega, fun _ => ?_⟩
    have hT : D.list 1 [D.list 1 (rowsD (tab0 i))] = TL (chT i) := by simp [chT, show ¬ 2 < i by omega, tabsD]
    rw [hT]
    have hl : (chT i).length ≤ 1000000000000 := chT_len hn5
    have lc := fm_chainS_look i (by omega) (by omega)
    rw [Int.toNat_natCast] at lc
    obtain ⟨ms, hms⟩ : ∃ ms, (chT i).map (fun t => (chL i, t)) = ms := ⟨_, rfl⟩
    have hml : ms.length = (chT i).length := by rw [← hms]; simp
    have hmj : ∀ j, j < (chT i).length → ms.take (j + 1) = ms.take j ++ [(chL i, gt (chT i) j)] := fun j hj => by
      rw [List.take_succ_eq_append_getElem (by omega)]
      subst hms
      simp [gt, List.getElem?_eq_getElem hj]
    rw [hms]
    refine loopX (tabK_mono _) (chT i).length (fun j γ => [(8, .arr 376 γ), (9, I64 j)]) (fun j γ => [⟨376, γ, .arr 2 (asD (ms.take j))⟩]) (fun _ _ => True) _ (by simp; rfl) (by simp [asD]) trivial (fun j γ2 g2 hj _ => ?_)
    simp [lb_200_18]
    refine ⟨fun h2 => ?_, fun h2 => ?_⟩
    · simp [lc, h2, hmj j h2, asD_push]
      exact ⟨le_big (by omega), wrap64 (by omega) (by omega)⟩
    · rw [List.take_of_length_le (by omega)]
set_option maxHeartbeats 2000000 in
theorem chainsb_pc (n : Nat) (h1 : 1 ≤ n) (h5 : n ≤ 5) (hc : 2 < n) : PC Try.prog 200 [I64 n] none false (fun r _ => r = AA ((chT n).map fun t => (chL n, t))) := by
  have w1 : IntKind.i64.wrap ((n : Int) - 1) = ((n - 1 : Nat) : Int) := by rw [wrap64 (by omega) (by omega)]; omega
  refine pcT [fm_chainS, fm_fillS] fok_200b ?_
  simp [fa_200b]
  refine loopX (tabK_mono _) n (fun i γ => [(3, .arr 80 γ), (4, I64 i)]) (fun i γ => [⟨80, γ, .arr 1 (orowsD (tr i (rowC n)))⟩]) (fun _ _ => True) 1 (by simp) (by simp [tr_zero, orowsD]) trivial (fun i γ g hi _ => ?_)
  simp [lb_200b_3, w1, le_big (show n ≤ 1099511627776 by omega), show n - 1 < n by omega]
  refine ⟨fun h => ?_, fun h => ?_⟩
  · refine ⟨fun c => ?_, fun c => ?_⟩
    · refine loopX (tabK_mono _) n (fun j δ => [(6, I64 j)]) (fun j δ => [⟨80, γ, .arr 1 (orowsD (tr i (rowC n)))⟩, ⟨136, g, .arr 1 (ints (rowJ n i j))⟩]) (fun _ _ => True) 1 (by simp) (by simp [rowJ_zero h1]) trivial (fun j δ g2 hj _ => ?_)
      simp [lb_200b_9]
      refine ⟨fun h2 => ?_, fun h2 => ?_⟩
      · simp [h2, rowJ_succ h2]
        exact ⟨by simpa [rowJ] using h2, wrap64 (by omega) (by omega)⟩
      · obtain rfl : j = n := by omega
        exact ⟨le_big (by omega), h, g2, ⟨rfl, wrap64 (by omega) (by omega)⟩, rfl, by rw [rowJ_top h1 (by omega), ← tr_succ]⟩
    · have e := rowJ_zero (x := i) h1
      rw [e, rowJ_bot (by omega)]
      exact ⟨le_big (by omega), h, g + 1, ⟨rfl, wrap64 (by omega) (by omega)⟩, rfl, tr_succ.symm⟩
  · obtain rfl : i = n := by omega
    rw [← tab0_eq]
    have hn5 : i ≤ 5 := h5
    refine ⟨fun _ => ?_, fun h => by omega⟩
    have l1 := fm_fillS_look i (tab0 i) (by omega) (by omega) tab0_sq
    have eT : filM i 40 (tab0 i) 1 1 = chT i := by rw [chT, if_pos hc]
    rw [Int.toNat_natCast, eT] at l1
    simp [l1]
    have hl : (chT i).length ≤ 1000000000000 := chT_len hn5
    have lc := fm_chainS_look i (by omega) (by omega)
    rw [Int.toNat_natCast] at lc
    obtain ⟨ms, hms⟩ : ∃ ms, (chT i).map (fun t => (chL i, t)) = ms := ⟨_, rfl⟩
    have hml : ms.length = (chT i).length := by rw [← hms]; simp
    have hmj : ∀ j, j < (chT i).length → ms.take (j + 1) = ms.take j ++ [(chL i, gt (chT i) j)] := fun j hj => by
      rw [List.take_succ_eq_append_getElem (by omega)]
      subst hms
      simp [gt, List.getElem?_eq_getElem hj]
    rw [hms]
    refine loopX (tabK_mono _) (chT i).length (fun j γ => [(8, .arr 376 γ), (9, I64 j)]) (fun j γ => [⟨376, γ, .arr 2 (asD (ms.take j))⟩]) (fun _ _ => True) _ (by simp; rfl) (by simp [asD]) trivial (fun j γ2 g2 hj _ => ?_)
    simp [lb_200b_18]
    refine ⟨fun h2 => ?_, fun h2 => ?_⟩
    · simp [lc, h2, hmj j h2, asD_push]
      exact ⟨le_big (by omega), wrap64 (by omega) (by omega)⟩
    · rw [List.take_of_length_le (by omega)]

theorem chainsS_pc (n : Int) (h1 : 1 ≤ n) (h5 : n ≤ 5) : PC Try.prog 200 [I64 n] none false (fun r _ => r = AA ((chT n.toNat).map fun t => (chL n.toNat, t))) := by
  obtain ⟨n, rfl⟩ := Int.eq_ofNat_of_zero_le (show 0 ≤ n by omega)
  rcases Nat.lt_or_ge 2 n with c | c
  · exact chainsb_pc n (by omega) (by omega) c
  · exact chains_pc n (by omega) (by omega) c
noncomputable def fm_chainsS : Fam Try.prog := mkFam (X := Int) 200 false (fun n => [I64 n]) (fun n => (1 ≤ n) ∧ (n ≤ 5)) (fun n => AA ((chT n.toNat).map fun t => (chL n.toNat, t))) (by
  rintro n ⟨h1, h5⟩
  exact chainsS_pc n h1 h5)
@[simp] theorem fm_chainsS_id : fm_chainsS.id = 200 := rfl
@[simp] theorem fm_chainsS_fresh : fm_chainsS.fresh = false := rfl
@[simp] theorem fm_chainsS_look (n : Int) (h1 : 1 ≤ n) (h5 : n ≤ 5) : fm_chainsS.look [I64 n] = some (AA ((chT n.toNat).map fun t => (chL n.toNat, t))) :=
  lookF_of (X := Int) (args := fun n => [I64 n]) (pre := fun n => (1 ≤ n) ∧ (n ≤ 5)) (val := fun n => AA ((chT n.toNat).map fun t => (chL n.toNat, t))) (by
  intro n n' h
  simp at h
  subst h
  rfl) n ⟨h1, h5⟩
attribute [irreducible] fm_chainsS
end Go.PS
end

section
-- All algebras of small chains: what they are, asked by a computation.
set_option maxRecDepth 100000
set_option linter.unusedVariables false
set_option linter.unusedSimpArgs false
namespace Go.PS
theorem ch3 : (chT 3).length = 2 := by decide +kernel
theorem ch4 : (chT 4).length = 6 := by decide +kernel
theorem ch5 : (chT 5).length = 22 := by decide +kernel
theorem ch1 : (chT 1).length = 1 := by decide
theorem ch2 : (chT 2).length = 1 := by decide
theorem chT_ne (k : Nat) (h1 : 1 ≤ k) (h5 : k ≤ 5) : chT k ≠ [] := by
  intro e
  have c : k = 1 ∨ k = 2 ∨ k = 3 ∨ k = 4 ∨ k = 5 := by omega
  rcases c with rfl | rfl | rfl | rfl | rfl
  · have := ch1; rw [e] at this; cases this
  · have := ch2; rw [e] at this; cases this
  · have := ch3; rw [e] at this; cases this
  · have := ch4; rw [e] at this; cases this
  · have := ch5; rw [e] at this; cases this
theorem mem_filM {n : Nat} : ∀ {k : Nat} {t0 t : List (List Int)} {x y : Nat}, t ∈ filM n k t0 x y → vaB (chL n) t = true
  | 0, t0, t, x, y, h => by simp [filM] at h
  | k + 1, t0, t, x, y, h => by
    rw [filM] at h
    split at h
    · split at h
      · rename_i hv
        simp at h
        rw [h]; exact hv
      · cases h
    · split at h
      · exact mem_filM h
      · obtain ⟨z, _, h⟩ := List.mem_flatMap.1 h
        split at h
        · exact mem_filM h
        · cases h
theorem chT_va {n : Nat} (h1 : 1 ≤ n) {t : List (List Int)} (h : t ∈ chT n) : VA (chL n) t := by
  rw [chT] at h
  split at h
  · exact vaB_iff.1 (mem_filM h)
  · have c : n = 1 ∨ n = 2 := by omega
    simp at h
    subst h
    rcases c with rfl | rfl
    · exact vaB_iff.1 (by decide +kernel)
    · exact vaB_iff.1 (by decide +kernel)
end Go.PS
end

section
-- Contracts: algebras that are drawn.
set_option maxRecDepth 100000
set_option linter.unusedVariables false
set_option linter.unusedSimpArgs false
namespace Go.PS
open Go.Proofs

abbrev Alg := List Int × List (List Int)
@[simp] theorem idxK_as {l : List Alg} {n : Int} {K : D → Prop} : idxK (asD l) n K ↔ 0 ≤ n ∧ n < l.length ∧ K (AL (l.getD n.toNat default).1 (l.getD n.toNat default).2) := idxK_map (f := fun p : Alg => AL p.1 p.2)

theorem chL_sm {n : Nat} (h : n ≤ 6) : Sm (chL n) := by
  refine ⟨by rw [chL_length]; exact h, fun x hx => ?_⟩
  rw [chL_length] at hx ⊢
  rw [chL, gi_tl hx]
  have h1 : (0 : Int) < 2 ^ x := Int.pow_pos (by omega)
  have h2 : (2 : Int) ^ x ≤ 2 ^ n := by
    have := Nat.pow_le_pow_right (n := 2) (by omega) (Nat.le_of_lt hx)
    exact_mod_cast this
  omega
theorem sumT_sh {n : Nat} (h1 : 1 ≤ n) (h : n ≤ 6) : SH (chL n) (sumT n) := by
  have hg : ∀ x y, x < n → y < n → tm (sumT n) x y = sumV n x y := fun x y hx hy => by rw [tm, sumT, gr_tr hx, gi_tl hy]
  refine ⟨chL_sm h, by rw [chL_length]; exact h1, by simp [sumT, chL_length], fun x hx => ?_, fun x y hx hy => ?_, fun x y hx hy => ?_⟩
  · rw [chL_length] at hx ⊢
    rw [sumT, gr_tr hx]; simp
  · rw [chL_length] at hx hy
    rw [hg x y hx hy]; unfold sumV; omega
  · rw [chL_length] at hx hy
    rw [hg x y hx hy]; unfold sumV; omega
theorem crU_sm {a b : List Int} (h : a.length * b.length ≤ 6) : Sm (crU a b) := by
  refine ⟨by simp [crU]; exact h, fun x hx => ?_⟩
  simp only [crU, tl_length] at hx ⊢
  rw [gi_tl hx]
  exact crR_rng _

/-- An algebra as it is drawn, and how many numbers have been drawn. -/
def aofM (b : List Int) (p : Nat) (m : Int) : Alg × Nat :=
  let n := (1 + pkM b p m).toNat
  let c := pkM b (p + 1) 6
  if c = 0 then ((chL n, sumT n), p + 2)
  else if c = 1 then ((chL n, mtT (chL n)), p + 2)
  else if c = 2 ∧ 2 < n then (let k := (2 + pkM b (p + 2) (n - 2)).toNat; ((skU (chL k) (chL (n - k + 1)), skT (chL k) (sumT k) (chL (n - k + 1)) (sumT (n - k + 1))), p + 3))
  else if c = 3 ∧ 4 ≤ m then (let w := crU (chL 2) (chL (2 + pkM b (p + 2) (min (m / 2 - 1) 2)).toNat); ((w, mtT w), p + 3))
  else (let k := min n 5; ((((chT k).map fun t => (chL k, t)).getD (pkM b (p + 2) (chT k).length).toNat default), p + 3))

set_option maxHeartbeats 2000000 in
theorem algOf_pc (b : List Int) (p : Nat) (m : Int) (hb : BB b) (hp : p ≤ 1000000) (h1 : 1 ≤ m) (h6 : m ≤ 6) (hp2 : p ≤ 990000) : PC Try.prog 181 (.ptr 0 0 0 :: [I64 m]) (some (RS b p)) false (fun r c => imm 5 r = imm 5 (AL (aofM b p m).1.1 (aofM b p m).1.2) ∧ c = (RS b ((aofM b p m).2))) := by
  have r0 := pkM_rng hb (p := p) (by omega) h1
  have r1 := pkM_rng hb (p := p + 1) (by omega) (n := 6) (by omega)
  obtain ⟨n, hn⟩ : ∃ n : Nat, 1 + pkM b p m = n := ⟨(1 + pkM b p m).toNat, by omega⟩
  have w1 : IntKind.i64.wrap (n : Int) = n := wrap64 (by omega) (by omega)
  have hn1 : 1 ≤ n := by omega
  have hn6 : n ≤ 6 := by omega
  have a1 := fm_sumS_look n (by omega) (by omega)
  have a2 := fm_chainS_look n (by omega) (by omega)
  have a3 := fm_mtAlgS_look (chL n) (chL_sm hn6)
  rw [Int.toNat_natCast] at a1 a2
  refine pcW [fm_chainS, fm_sumS, fm_mtAlgS, fm_crossS, fm_stackS, fm_chainsS] [fw_pick] fok_181 ?_
  by_cases c0 : pkM b (p + 1) 6 = 0
  · have e : aofM b p m = ((chL n, sumT n), p + 2) := by simp [aofM, c0, hn]
    rw [e]
    simp [fa_181, callOW, callOT, hb, hp, show m ≤ 1099511627776 by omega, hn, w1, show p + 1 ≤ 1000000 by omega, c0, a1]
  · by_cases c1 : pkM b (p + 1) 6 = 1
    · have e : aofM b p m = ((chL n, mtT (chL n)), p + 2) := by simp [aofM, c1, hn]
      rw [e]
      simp [fa_181, callOW, callOT, hb, hp, show m ≤ 1099511627776 by omega, hn, w1, show p + 1 ≤ 1000000 by omega, c1, a2, a3]
    · have lastE : ¬ (pkM b (p + 1) 6 = 2 ∧ 2 < n) → ¬ (pkM b (p + 1) 6 = 3 ∧ 4 ≤ m) → aofM b p m = ((((chT (min n 5)).map fun t => (chL (min n 5), t)).getD (pkM b (p + 2) (chT (min n 5)).length).toNat default), p + 3) := by
        intro q1 q2
        simp only [aofM, hn, Int.toNat_natCast, if_neg c0, if_neg c1, if_neg q1, if_neg q2]
      obtain ⟨k, hk⟩ : ∃ k : Nat, min n 5 = k := ⟨_, rfl⟩
      have w5 : (if (5 : Int) < n then (5 : Int) else n) = k := by split <;> omega
      have w5' : (if (n : Int) < 5 then (n : Int) else 5) = k := by split <;> omega
      have l1 := fm_chainsS_look k (by omega) (by omega)
      rw [Int.toNat_natCast] at l1
      have hl := chT_len (n := k) (by omega)
      have hpos : 0 < (chT k).length := by
        have := chT_ne k (by omega) (by omega)
        cases h : chT k with
        | nil => exact absurd h this
        | cons _ _ => simp
      have r2 := pkM_rng hb (p := p + 2) (by omega) (n := (chT k).length) (by omega)
      by_cases c2 : pkM b (p + 1) 6 = 2
      · by_cases hn2 : 2 < n
        · have r3 := pkM_rng hb (p := p + 2) (by omega) (n := (n : Int) - 2) (by omega)
          obtain ⟨q, hq⟩ : ∃ q : Nat, 2 + pkM b (p + 2) ((n : Int) - 2) = q := ⟨(2 + pkM b (p + 2) ((n : Int) - 2)).toNat, by omega⟩
          have w2 : IntKind.i64.wrap ((n : Int) - 2) = n - 2 := wrap64 (by omega) (by omega)
          have w3 : IntKind.i64.wrap (q : Int) = q := wrap64 (by omega) (by omega)
          have w4 : IntKind.i64.wrap ((n : Int) - q) = n - q := wrap64 (by omega) (by omega)
          obtain ⟨r, hr⟩ : ∃ r, n - q + 1 = r := ⟨_, rfl⟩
          have w6 : IntKind.i64.wrap ((n : Int) - q + 1) = r := by rw [wrap64 (by omega) (by omega)]; omega
          have a4 := fm_sumS_look q (by omega) (by omega)
          have a5 := fm_sumS_look r (by omega) (by omega)
          rw [Int.toNat_natCast] at a4 a5
          have a6 := fm_stackS_look (chL q) (sumT q) (chL r) (sumT r) (sumT_sh (by omega) (by omega)) (sumT_sh (by omega) (by omega))
          have e : aofM b p m = ((skU (chL q) (chL r), skT (chL q) (sumT q) (chL r) (sumT r)), p + 3) := by
            simp only [aofM, hn, Int.toNat_natCast, if_neg c0, if_neg c1, if_pos (show pkM b (p + 1) 6 = 2 ∧ 2 < n from ⟨c2, hn2⟩), hq, hr]
          rw [e]
          simp [fa_181, callOW, callOT, hb, hp, show m ≤ 1099511627776 by omega, hn, w1, show p + 1 ≤ 1000000 by omega, show p + 2 ≤ 1000000 by omega, c2, show ((2 : Int) < n) by omega, show ¬ ((n : Int) ≤ 2) by omega, w2, show (n : Int) ≤ 1099511627778 by omega, show (n : Int) - 2 ≤ 1099511627776 by omega, hq, w3, w4, w6, a4, a5, a6]
        · rw [lastE (fun h => hn2 h.2) (fun h => by omega)]
          rw [hk]
          simp [fa_181, callOW, callOT, hb, hp, show m ≤ 1099511627776 by omega, hn, w1, show p + 1 ≤ 1000000 by omega, show p + 2 ≤ 1000000 by omega, c2, show ¬ ((2 : Int) < n) by omega, show ((n : Int) ≤ 2) by omega, w5, w5', l1, show ((chT k).length : Int) ≤ 1099511627776 by omega, r2]
      · by_cases c3 : pkM b (p + 1) 6 = 3
        · by_cases hm : 4 ≤ m
          · obtain ⟨z, hz⟩ : ∃ z : Nat, min (m / 2 - 1) 2 = (z : Int) := ⟨(min (m / 2 - 1) 2).toNat, by omega⟩
            have r3 := pkM_rng hb (p := p + 2) (by omega) (n := (z : Int)) (by omega)
            obtain ⟨q, hq⟩ : ∃ q : Nat, 2 + pkM b (p + 2) z = q := ⟨(2 + pkM b (p + 2) z).toNat, by omega⟩
            have v1 : m.tdiv 2 = m / 2 := Int.tdiv_eq_ediv_of_nonneg (by omega)
            have v2 : IntKind.i64.wrap (m / 2) = m / 2 := wrap64 (by omega) (by omega)
            have v3 : IntKind.i64.wrap (m / 2 - 1) = m / 2 - 1 := wrap64 (by omega) (by omega)
            have v4 : (if 2 < m / 2 - 1 then 2 else m / 2 - 1) = (z : Int) := by split <;> omega
            have v4' : (if m / 2 - 1 < 2 then m / 2 - 1 else 2) = (z : Int) := by split <;> omega
            have v5 : IntKind.i64.wrap (q : Int) = q := wrap64 (by omega) (by omega)
            have a4 := fm_chainS_look q (by omega) (by omega)
            rw [Int.toNat_natCast] at a4
            have s2 := chL_sm (n := 2) (by omega)
            have sq := chL_sm (n := q) (by omega)
            have a5 := fm_crossS_look (chL 2) (chL q) s2 sq
            have a6 := fm_mtAlgS_look (crU (chL 2) (chL q)) (crU_sm (by rw [chL_length, chL_length]; omega))
            have a7 : fm_chainS.look [I64 2] = some (IO1 (chL 2)) := fm_chainS_look 2 (by omega) (by omega)
            have e : aofM b p m = ((crU (chL 2) (chL q), mtT (crU (chL 2) (chL q))), p + 3) := by
              simp only [aofM, hn, Int.toNat_natCast, if_neg c0, if_neg c1, if_neg (show ¬ (pkM b (p + 1) 6 = 2 ∧ 2 < n) from fun h => c2 h.1), if_pos (show pkM b (p + 1) 6 = 3 ∧ 4 ≤ m from ⟨c3, hm⟩), hz, hq]
            rw [e]
            simp [fa_181, callOW, callOT, hb, hp, show m ≤ 1099511627776 by omega, hn, w1, show p + 1 ≤ 1000000 by omega, show p + 2 ≤ 1000000 by omega, c3, hm, v1, v2, v3, v4, v4', v5, hq, a4, a5, a6, a7, show (z : Int) ≤ 1099511627776 by omega]
          · rw [lastE (fun h => c2 h.1) (fun h => hm h.2)]
            rw [hk]
            simp [fa_181, callOW, callOT, hb, hp, show m ≤ 1099511627776 by omega, hn, w1, show p + 1 ≤ 1000000 by omega, show p + 2 ≤ 1000000 by omega, c3, hm, w5, w5', l1, show ((chT k).length : Int) ≤ 1099511627776 by omega, r2]
        · rw [lastE (fun h => c2 h.1) (fun h => c3 h.1)]
          rw [hk]
          simp [fa_181, callOW, callOT, hb, hp, show m ≤ 1099511627776 by omega, hn, w1, show p + 1 ≤ 1000000 by omega, show p + 2 ≤ 1000000 by omega, c0, c1, c2, c3, w5, w5', l1, show ((chT k).length : Int) ≤ 1099511627776 by omega, r2]
noncomputable def fw_algOf : FamW Try.prog := mkFamW (X := List Int × Nat × Int) 181 (fun (b, p, m) => (.ptr 0 0 0 :: [I64 m])) (fun (b, p, m) => (RS b p)) (fun (b, p, m) => (BB b) ∧ (p ≤ 1000000) ∧ (1 ≤ m) ∧ (m ≤ 6) ∧ (p ≤ 990000)) (fun (b, p, m) => AL (aofM b p m).1.1 (aofM b p m).1.2) (fun (b, p, m) => (RS b ((aofM b p m).2))) (by
  rintro ⟨b, p, m⟩ ⟨hb, hp, h1, h6, hp2⟩
  exact algOf_pc b p m hb hp h1 h6 hp2)
@[simp] theorem fw_algOf_id : fw_algOf.id = 181 := rfl
@[simp] theorem fw_algOf_look (b : List Int) (p : Nat) (m : Int) (hb : BB b) (hp : p ≤ 1000000) (h1 : 1 ≤ m) (h6 : m ≤ 6) (hp2 : p ≤ 990000) : fw_algOf.look (.ptr 0 0 0 :: [I64 m]) (RS b p) = some (AL (aofM b p m).1.1 (aofM b p m).1.2, (RS b ((aofM b p m).2))) :=
  lookG_of (X := List Int × Nat × Int) (args := fun (b, p, m) => (.ptr 0 0 0 :: [I64 m])) (cell := fun (b, p, m) => (RS b p)) (pre := fun (b, p, m) => (BB b) ∧ (p ≤ 1000000) ∧ (1 ≤ m) ∧ (m ≤ 6) ∧ (p ≤ 990000)) (val := fun (b, p, m) => AL (aofM b p m).1.1 (aofM b p m).1.2) (cell' := fun (b, p, m) => (RS b ((aofM b p m).2))) (by
  rintro ⟨b, p, m⟩ ⟨b', p', m'⟩ h h2
  simp at h h2
  try simp only [and_assoc] at h
  obtain ⟨rfl, rfl⟩ := h2
  subst h
  exact ⟨rfl, rfl⟩) (b, p, m) ⟨hb, hp, h1, h6, hp2⟩
attribute [irreducible] fw_algOf
end Go.PS
end

section
-- Contracts: algebras that are drawn, more of them; and those that may be invalid.
set_option maxRecDepth 100000
set_option linter.unusedVariables false
set_option linter.unusedSimpArgs false
namespace Go.PS
open Go.Proofs

/-- The form of what is drawn. -/
structure GA (a : Alg) : Prop where
  pos : 1 ≤ a.1.length
  six : a.1.length ≤ 6
  sq : SQ a.1.length a.2
theorem GA.bigR {a : Alg} (g : GA a) : BigR a.2 := g.sq.big (by have := g.six; omega)
theorem GA.big {a : Alg} (g : GA a) : Big a.1.length := by unfold Big; have := g.six; omega
theorem sq_tr {n : Nat} {f : Nat → Nat → Int} : SQ n (tr n fun x => tl n (f x)) := ⟨by simp, fun x hx => by rw [gr_tr hx]; simp⟩
theorem ga_tr {u : List Int} {t : List (List Int)} {n : Nat} {f : Nat → Nat → Int} (hu : u.length = n) (ht : t = tr n fun x => tl n (f x)) (h1 : 1 ≤ n) (h6 : n ≤ 6) : GA (u, t) := ⟨by rw [hu]; exact h1, by rw [hu]; exact h6, by rw [hu, ht]; exact sq_tr⟩
theorem aofM_ga {b : List Int} (hb : BB b) {p : Nat} (hp : p ≤ 990000) {m : Int} (h1 : 1 ≤ m) (h6 : m ≤ 6) : GA (aofM b p m).1 ∧ (aofM b p m).1.1.length ≤ m ∧ (aofM b p m).2 ≤ p + 3 := by
  have r0 := pkM_rng hb (p := p) (by omega) h1
  have r1 := pkM_rng hb (p := p + 1) (by omega) (n := 6) (by omega)
  obtain ⟨n, hn⟩ : ∃ n : Nat, 1 + pkM b p m = n := ⟨(1 + pkM b p m).toNat, by omega⟩
  unfold aofM
  simp only [hn, Int.toNat_natCast]
  split
  · exact ⟨ga_tr chL_length rfl (by omega) (by omega), by show ((chL n).length : Int) ≤ m; rw [chL_length]; omega, by show p + 2 ≤ p + 3; omega⟩
  · split
    · refine ⟨ga_tr (n := n) chL_length (by rw [mtT, chL_length]) (by omega) (by omega), by show ((chL n).length : Int) ≤ m; rw [chL_length]; omega, by show p + 2 ≤ p + 3; omega⟩
    · split
      · rename_i hc
        have r3 := pkM_rng hb (p := p + 2) (by omega) (n := (n : Int) - 2) (by omega)
        obtain ⟨q, hq⟩ : ∃ q : Nat, 2 + pkM b (p + 2) ((n : Int) - 2) = q := ⟨(2 + pkM b (p + 2) ((n : Int) - 2)).toNat, by omega⟩
        simp only [hq, Int.toNat_natCast]
        have hl : (skU (chL q) (chL (n - q + 1))).length = n := by simp [skU, chL_length]; omega
        refine ⟨ga_tr (n := n) hl (by rw [skT, chL_length, chL_length, show q - 1 + (n - q + 1) = n by omega]) (by omega) (by omega), by show ((skU _ _).length : Int) ≤ m; rw [hl]; omega, by show p + 3 ≤ p + 3; omega⟩
      · split
        · rename_i hc
          obtain ⟨z, hz⟩ : ∃ z : Nat, min (m / 2 - 1) 2 = (z : Int) := ⟨(min (m / 2 - 1) 2).toNat, by omega⟩
          have r3 := pkM_rng hb (p := p + 2) (by omega) (n := (z : Int)) (by omega)
          obtain ⟨q, hq⟩ : ∃ q : Nat, 2 + pkM b (p + 2) z = q := ⟨(2 + pkM b (p + 2) z).toNat, by omega⟩
          simp only [hz, hq, Int.toNat_natCast]
          have hl : (crU (chL 2) (chL q)).length = 2 * q := by simp [crU, chL_length]
          refine ⟨ga_tr (n := 2 * q) hl (by rw [mtT, hl]) (by omega) (by omega), by show ((crU _ _).length : Int) ≤ m; rw [hl]; push_cast; omega, by show p + 3 ≤ p + 3; omega⟩
        · obtain ⟨k, hk⟩ : ∃ k : Nat, min n 5 = k := ⟨_, rfl⟩
          rw [hk]
          have hpos : 0 < (chT k).length := by
            have := chT_ne k (by omega) (by omega)
            cases h : chT k with
            | nil => exact absurd h this
            | cons _ _ => simp
          have r2 := pkM_rng hb (p := p + 2) (by omega) (n := (chT k).length) (by omega)
          generalize pkM b (p + 2) (chT k).length = i at *
          have hi : i.toNat < (chT k).length := by omega
          have e : (((chT k).map fun t => (chL k, t)).getD i.toNat default) = (chL k, (chT k)[i.toNat]) := by
            rw [List.getD_eq_getElem?_getD, List.getElem?_map, List.getElem?_eq_getElem hi]; rfl
          simp only [e]
          have v := chT_va (n := k) (by omega) (List.getElem_mem hi)
          have hl : (chL k).length = k := chL_length
          refine ⟨⟨by show 1 ≤ (chL k).length; omega, by show (chL k).length ≤ 6; omega, ?_⟩, by show ((chL k).length : Int) ≤ m; omega, by show p + 3 ≤ p + 3; omega⟩
          exact ⟨v.len, v.rows⟩

def M22 : Alg := (crU (chL 2) (chL 2), mtT (crU (chL 2) (chL 2)))
/-- An algebra, and how many numbers have been drawn. -/
def gaM (b : List Int) (p : Nat) : Alg × Nat :=
  if pkM b p 5 = 0 then
    (let A := aofM b (p + 1) 2; let B := aofM b A.2 3
     if vaB B.1.1 B.1.2 && vaB A.1.1 A.1.2 && decide (B.1.1.length * A.1.1.length ≤ 6) then ((crU B.1.1 A.1.1, crT B.1.1 B.1.2 A.1.1 A.1.2), B.2) else aofM b B.2 6)
  else if pkM b p 5 = 1 then
    (let A := aofM b (p + 1) 3
     if vaB M22.1 M22.2 && vaB A.1.1 A.1.2 && decide (M22.1.length + A.1.1.length ≤ 7) then ((skU M22.1 A.1.1, skT M22.1 M22.2 A.1.1 A.1.2), A.2) else aofM b A.2 6)
  else aofM b (p + 1) 6

set_option maxHeartbeats 2000000 in
theorem goodAlg_pc (b : List Int) (p : Nat) (hb : BB b) (hp : p ≤ 1000000) (hp2 : p ≤ 980000) : PC Try.prog 169 (.ptr 0 0 0 :: []) (some (RS b p)) false (fun r c => imm 5 r = imm 5 (AL (gaM b p).1.1 (gaM b p).1.2) ∧ c = (RS b ((gaM b p).2))) := by
  have r0 := pkM_rng hb (p := p) (by omega) (n := 5) (by omega)
  refine pcW [fm_chainS, fm_crossS, fm_mtAlgS, fm_crossAlgS, fm_stackAlgS] [fw_pick, fw_algOf] fok_169 ?_
  by_cases c0 : pkM b p 5 = 0
  · obtain ⟨g1, m1, q1⟩ := aofM_ga hb (p := p + 1) (by omega) (m := 2) (by omega) (by omega)
    have l1 := fw_algOf_look b (p + 1) 2 hb (by omega) (by omega) (by omega) (by omega)
    have e : gaM b p = (let A := aofM b (p + 1) 2; let B := aofM b A.2 3
     if vaB B.1.1 B.1.2 && vaB A.1.1 A.1.2 && decide (B.1.1.length * A.1.1.length ≤ 6) then ((crU B.1.1 A.1.1, crT B.1.1 B.1.2 A.1.1 A.1.2), B.2) else aofM b B.2 6) := by unfold gaM; rw [if_pos c0]
    rw [e]
    clear e
    generalize aofM b (p + 1) 2 = A at *
    obtain ⟨⟨u1, t1⟩, p1⟩ := A
    dsimp only at g1 m1 q1 l1 ⊢
    obtain ⟨g2, m2, q2⟩ := aofM_ga hb (p := p1) (by omega) (m := 3) (by omega) (by omega)
    have l2 := fw_algOf_look b p1 3 hb (by omega) (by omega) (by omega) (by omega)
    generalize aofM b p1 3 = B at *
    obtain ⟨⟨u2, t2⟩, p2⟩ := B
    dsimp only at g2 m2 q2 l2 ⊢
    have l3 := fw_algOf_look b p2 6 hb (by omega) (by omega) (by omega) (by omega)
    have lc := fm_crossAlgS_look u2 t2 u1 t1 (by have := g2.six; dsimp only at this; omega) g2.bigR (by have := g1.six; dsimp only at this; omega) g1.bigR
    generalize aofM b p2 6 = C at *
    obtain ⟨⟨u3, t3⟩, p3⟩ := C
    dsimp only at l3 ⊢
    have hd : decide (VA u2 t2 ∧ VA u1 t1 ∧ u2.length * u1.length ≤ 6) = (vaB u2 t2 && vaB u1 t1 && decide (u2.length * u1.length ≤ 6)) := by
      rw [Bool.eq_iff_iff]; simp [vaB_iff, and_assoc]
    cases hc : (vaB u2 t2 && vaB u1 t1 && decide (u2.length * u1.length ≤ 6))
    · rw [hc] at hd
      rw [if_neg (of_decide_eq_false hd), hd] at lc
      simp [fa_169, callOW, callOT, hb, hp, c0, l1, l2, l3, lc]
    · rw [hc] at hd
      rw [if_pos (of_decide_eq_true hd), hd] at lc
      simp [fa_169, callOW, callOT, hb, hp, c0, l1, l2, l3, lc]
  · by_cases c1 : pkM b p 5 = 1
    · obtain ⟨g1, m1, q1⟩ := aofM_ga hb (p := p + 1) (by omega) (m := 3) (by omega) (by omega)
      have l1 := fw_algOf_look b (p + 1) 3 hb (by omega) (by omega) (by omega) (by omega)
      have e : gaM b p = (let A := aofM b (p + 1) 3
     if vaB M22.1 M22.2 && vaB A.1.1 A.1.2 && decide (M22.1.length + A.1.1.length ≤ 7) then ((skU M22.1 A.1.1, skT M22.1 M22.2 A.1.1 A.1.2), A.2) else aofM b A.2 6) := by unfold gaM; rw [if_neg c0, if_pos c1]
      rw [e]
      clear e
      generalize aofM b (p + 1) 3 = A at *
      obtain ⟨⟨u1, t1⟩, p1⟩ := A
      dsimp only at g1 m1 q1 l1 ⊢
      have l3 := fw_algOf_look b p1 6 hb (by omega) (by omega) (by omega) (by omega)
      have s2 := chL_sm (n := 2) (by omega)
      have a1 : fm_chainS.look [I64 2] = some (IO1 (chL 2)) := fm_chainS_look 2 (by omega) (by omega)
      have a2 := fm_crossS_look (chL 2) (chL 2) s2 s2
      have a3 := fm_mtAlgS_look (crU (chL 2) (chL 2)) (crU_sm (by rw [chL_length]; omega))
      have h4 : (crU (chL 2) (chL 2)).length = 4 := by simp [crU, chL_length]
      have gM : GA M22 := ga_tr (n := 4) (f := meetM (crU (chL 2) (chL 2))) h4 (by rw [mtT, h4]) (by omega) (by omega)
      have lc := fm_stackAlgS_look M22.1 M22.2 u1 t1 gM.big gM.bigR g1.big g1.bigR
      have eM : M22 = (M22.1, M22.2) := rfl
      rw [show crU (chL 2) (chL 2) = M22.1 from rfl] at a2 a3
      rw [show mtT M22.1 = M22.2 from rfl] at a3
      generalize M22.1 = u2 at *
      generalize M22.2 = t2 at *
      generalize aofM b p1 6 = C at *
      obtain ⟨⟨u3, t3⟩, p3⟩ := C
      dsimp only at l3 ⊢
      have hd : decide (VA u2 t2 ∧ VA u1 t1 ∧ u2.length + u1.length ≤ 7) = (vaB u2 t2 && vaB u1 t1 && decide (u2.length + u1.length ≤ 7)) := by
        rw [Bool.eq_iff_iff]; simp [vaB_iff, and_assoc]
      cases hc : (vaB u2 t2 && vaB u1 t1 && decide (u2.length + u1.length ≤ 7))
      · rw [hc] at hd
        rw [if_neg (of_decide_eq_false hd), hd] at lc
        simp [fa_169, callOW, callOT, hb, hp, c0, c1, l1, l3, lc, a1, a2, a3]
      · rw [hc] at hd
        rw [if_pos (of_decide_eq_true hd), hd] at lc
        simp [fa_169, callOW, callOT, hb, hp, c0, c1, l1, l3, lc, a1, a2, a3]
    · have l1 := fw_algOf_look b (p + 1) 6 hb (by omega) (by omega) (by omega) (by omega)
      have e : gaM b p = aofM b (p + 1) 6 := by unfold gaM; rw [if_neg c0, if_neg c1]
      rw [e]
      clear e
      generalize aofM b (p + 1) 6 = A at *
      obtain ⟨⟨u1, t1⟩, p1⟩ := A
      dsimp only at l1 ⊢
      simp [fa_169, callOW, callOT, hb, hp, c0, c1, l1]
noncomputable def fw_goodAlg : FamW Try.prog := mkFamW (X := List Int × Nat) 169 (fun (b, p) => (.ptr 0 0 0 :: [])) (fun (b, p) => (RS b p)) (fun (b, p) => (BB b) ∧ (p ≤ 1000000) ∧ (p ≤ 980000)) (fun (b, p) => AL (gaM b p).1.1 (gaM b p).1.2) (fun (b, p) => (RS b ((gaM b p).2))) (by
  rintro ⟨b, p⟩ ⟨hb, hp, hp2⟩
  exact goodAlg_pc b p hb hp hp2)
@[simp] theorem fw_goodAlg_id : fw_goodAlg.id = 169 := rfl
@[simp] theorem fw_goodAlg_look (b : List Int) (p : Nat) (hb : BB b) (hp : p ≤ 1000000) (hp2 : p ≤ 980000) : fw_goodAlg.look (.ptr 0 0 0 :: []) (RS b p) = some (AL (gaM b p).1.1 (gaM b p).1.2, (RS b ((gaM b p).2))) :=
  lookG_of (X := List Int × Nat) (args := fun (b, p) => (.ptr 0 0 0 :: [])) (cell := fun (b, p) => (RS b p)) (pre := fun (b, p) => (BB b) ∧ (p ≤ 1000000) ∧ (p ≤ 980000)) (val := fun (b, p) => AL (gaM b p).1.1 (gaM b p).1.2) (cell' := fun (b, p) => (RS b ((gaM b p).2))) (by
  rintro ⟨b, p⟩ ⟨b', p'⟩ h h2
  simp at h h2
  try simp only [and_assoc] at h
  obtain ⟨rfl, rfl⟩ := h2
  exact ⟨rfl, rfl⟩) (b, p) ⟨hb, hp, hp2⟩
attribute [irreducible] fw_goodAlg
theorem gaM_ga {b : List Int} (hb : BB b) {p : Nat} (hp : p ≤ 980000) : GA (gaM b p).1 ∧ (gaM b p).2 ≤ p + 10 := by
  unfold gaM
  split
  · obtain ⟨g1, m1, q1⟩ := aofM_ga hb (p := p + 1) (by omega) (m := 2) (by omega) (by omega)
    dsimp only
    generalize aofM b (p + 1) 2 = A at *
    obtain ⟨g2, m2, q2⟩ := aofM_ga hb (p := A.2) (by omega) (m := 3) (by omega) (by omega)
    generalize aofM b A.2 3 = B at *
    obtain ⟨g3, m3, q3⟩ := aofM_ga hb (p := B.2) (by omega) (m := 6) (by omega) (by omega)
    split
    · rename_i hc
      simp only [Bool.and_eq_true, decide_eq_true_eq] at hc
      have := Nat.mul_pos g2.pos g1.pos
      exact ⟨ga_tr (n := B.1.1.length * A.1.1.length) (by simp [crU]) rfl (by omega) hc.2, by show B.2 ≤ p + 10; omega⟩
    · exact ⟨g3, by omega⟩
  · split
    · obtain ⟨g1, m1, q1⟩ := aofM_ga hb (p := p + 1) (by omega) (m := 3) (by omega) (by omega)
      generalize aofM b (p + 1) 3 = A at *
      obtain ⟨g3, m3, q3⟩ := aofM_ga hb (p := A.2) (by omega) (m := 6) (by omega) (by omega)
      dsimp only
      split
      · rename_i hc
        simp only [Bool.and_eq_true, decide_eq_true_eq] at hc
        have h4 : M22.1.length = 4 := by simp [M22, crU, chL_length]
        have := g1.pos
        exact ⟨ga_tr (n := M22.1.length - 1 + A.1.1.length) (by simp [skU]) rfl (by omega) (by omega), by show A.2 ≤ p + 10; omega⟩
      · exact ⟨g3, by omega⟩
    · obtain ⟨g1, m1, q1⟩ := aofM_ga hb (p := p + 1) (by omega) (m := 6) (by omega) (by omega)
      exact ⟨g1, by omega⟩
end Go.PS
end

section
-- Pairs and stacks of algebras are algebras, in plain Lean.
set_option linter.unusedVariables false
set_option linter.unusedSimpArgs false
namespace Go.PS

theorem sumR_eq {p : Nat → Bool} : ∀ n : Nat, (List.range n).foldl (fun (o : Int) q => if p q then o + 2 ^ q else o) 0 = (mskN n p : Nat)
  | 0 => rfl
  | n + 1 => by
    rw [List.range_succ, List.foldl_append, sumR_eq n, mskN_succ]
    simp only [List.foldl_cons, List.foldl_nil]
    split
    · have h := Nat.two_pow_add_eq_or_of_lt (mskN_lt (n := n) (p := p)) 1
      rw [Nat.mul_one] at h
      rw [Nat.or_comm, ← h]
      push_cast
      omega
    · rfl
/-- Rows told by sums. -/
theorem rows_sum {n : Nat} {le : Nat → Nat → Bool} {g : Nat → Int} (hg : ∀ x, x < n → g x = (mskN n (le x) : Nat)) {x : Nat} (hx : x < n) : (0 ≤ gi (tl n g) x ∧ gi (tl n g) x < 2 ^ n) ∧ ∀ y, y < n → tb (tl n g) x y = le x y := by
  rw [gi_tl hx, hg x hx]
  refine ⟨⟨by omega, ?_⟩, fun y hy => ?_⟩
  · have e : (2 : Int) ^ n = ((2 ^ n : Nat) : Int) := by push_cast; rfl
    have h := mskN_lt (n := n) (p := le x)
    rw [e]; omega
  · rw [tb, gi_tl hx, hg x hx, Int.toNat_natCast, mskN_bit]
    simp [hy]

section
variable {u v : List Int} {t s : List (List Int)} {x y z w m n : Nat}
theorem pr_div (hy : y < m) : (x * m + y) / m = x := by
  rw [Nat.mul_comm, Nat.mul_add_div (by omega), Nat.div_eq_of_lt hy, Nat.add_zero]
theorem pr_mod (hy : y < m) : (x * m + y) % m = y := by
  rw [Nat.mul_comm, Nat.mul_add_mod, Nat.mod_eq_of_lt hy]
theorem pr_lt (hx : x < n) (hy : y < m) : x * m + y < n * m := by
  have := Nat.mul_le_mul_right m (show x + 1 ≤ n from hx)
  rw [Nat.succ_mul] at this
  omega
theorem pr_eta : x / m * m + x % m = x := Nat.div_add_mod' x m
theorem pr_ext (hm : 0 < m) (h1 : x / m = y / m) (h2 : x % m = y % m) : x = y := by
  rw [← pr_eta (x := x) (m := m), h1, h2, pr_eta]
theorem dv_lt (h : x < n * m) : x / m < n := Nat.div_lt_of_lt_mul (by rw [Nat.mul_comm]; exact h)
theorem pr_top (hn : 0 < n) (hm : 0 < m) : n * m - 1 = (n - 1) * m + (m - 1) := by
  obtain ⟨k, rfl⟩ : ∃ k, n = k + 1 := ⟨n - 1, by omega⟩
  rw [Nat.succ_mul, Nat.add_sub_cancel]
  omega
abbrev leC (u v : List Int) (p q : Nat) : Bool := tb u (p / v.length) (q / v.length) && tb v (p % v.length) (q % v.length)
abbrev joC (u v : List Int) (p q : Nat) : Nat := jo u (p / v.length) (q / v.length) * v.length + jo v (p % v.length) (q % v.length)
abbrev mtC (u v : List Int) (p q : Nat) : Nat := mt u (p / v.length) (q / v.length) * v.length + mt v (p % v.length) (q % v.length)
abbrev tnC (v : List Int) (t s : List (List Int)) (p q : Nat) : Nat := tn t (p / v.length) (q / v.length) * v.length + tn s (p % v.length) (q % v.length)
theorem lo_cross (a : VL u) (b : VL v) (h6 : u.length * v.length ≤ 6) : LO (u.length * v.length) (leC u v) (joC u v) (mtC u v) := by
  have hm := b.pos
  have hn := a.pos
  have d : ∀ {p}, p < u.length * v.length → p / v.length < u.length := fun h => dv_lt h
  have e : ∀ {p}, p % v.length < v.length := Nat.mod_lt _ hm
  refine ⟨Nat.mul_pos hn hm, h6, fun x hx => ?_, fun x hx => ?_, fun x hx => ?_, fun x hx y hy h1 h2 => ?_, fun x hx y hy z hz h1 h2 => ?_, fun x hx y hy => pr_lt (a.jo_lt (d hx) (d hy)) (b.jo_lt e e), fun x hx y hy => pr_lt (a.mt_lt (d hx) (d hy)) (b.mt_lt e e), fun x hx y hy => ?_, fun x hx y hy => ?_, fun x hx y hy z hz h1 h2 => ?_, fun x hx y hy z hz h1 h2 => ?_⟩
  · simp only [leC, a.rf (d hx), b.rf e, Bool.and_self]
  · simp only [leC, Nat.zero_div, Nat.zero_mod, a.bot (d hx), b.bot e, Bool.and_self]
  · simp only [leC]
    rw [pr_top hn hm, pr_div (by omega), pr_mod (by omega), a.topl (d hx), b.topl e]; rfl
  · simp only [leC, Bool.and_eq_true] at h1 h2
    exact pr_ext hm (a.eq (d hx) (d hy) h1.1 h2.1) (b.eq e e h1.2 h2.2)
  · simp only [leC, Bool.and_eq_true] at h1 h2 ⊢
    exact ⟨a.tr (d hx) (d hy) (d hz) h1.1 h2.1, b.tr e e e h1.2 h2.2⟩
  · simp only [leC]
    have hj := b.jo_lt (e (p := x)) (e (p := y))
    rw [pr_div hj, pr_mod hj, a.jo_l (d hx) (d hy), a.jo_r (d hx) (d hy), b.jo_l e e, b.jo_r e e]
    exact ⟨rfl, rfl⟩
  · simp only [leC]
    have hj := b.mt_lt (e (p := x)) (e (p := y))
    rw [pr_div hj, pr_mod hj, a.mt_l (d hx) (d hy), a.mt_r (d hx) (d hy), b.mt_l e e, b.mt_r e e]
    exact ⟨rfl, rfl⟩
  · simp only [leC, Bool.and_eq_true] at h1 h2 ⊢
    have hj := b.jo_lt (e (p := x)) (e (p := y))
    rw [pr_div hj, pr_mod hj]
    exact ⟨a.jo_le (d hx) (d hy) (d hz) h1.1 h2.1, b.jo_le e e e h1.2 h2.2⟩
  · simp only [leC, Bool.and_eq_true] at h1 h2 ⊢
    have hj := b.mt_lt (e (p := x)) (e (p := y))
    rw [pr_div hj, pr_mod hj]
    exact ⟨a.le_mt (d hx) (d hy) (d hz) h1.1 h2.1, b.le_mt e e e h1.2 h2.2⟩
theorem po_cross (a : VA u t) (b : VA v s) : PO (u.length * v.length) (joC u v) (tnC v t s) := by
  have hm := b.lat.pos
  have hn := a.lat.pos
  have d : ∀ {p}, p < u.length * v.length → p / v.length < u.length := fun h => dv_lt h
  have e : ∀ {p}, p % v.length < v.length := Nat.mod_lt _ hm
  refine ⟨fun x hx y hy => pr_lt (a.tn_lt (d hx) (d hy)) (b.tn_lt e e), fun x hx => ?_, fun x hx => ?_, fun x hx y hy => ?_, fun x hx y hy z hz => ?_, fun x hx y hy z hz => ?_⟩
  · simp only [tnC]
    rw [pr_top hn hm, pr_div (by omega), pr_mod (by omega), a.tn_top (d hx), b.tn_top e, pr_eta]
  · simp only [tnC, Nat.zero_div, Nat.zero_mod]
    rw [a.tn_bot (d hx), b.tn_bot e]; simp
  · simp only [tnC]
    rw [a.tn_comm (d hx) (d hy), b.tn_comm e e]
  · simp only [tnC]
    rw [pr_div (b.tn_lt e e), pr_mod (b.tn_lt e e), pr_div (b.tn_lt e e), pr_mod (b.tn_lt e e), a.tn_assoc (d hx) (d hy) (d hz), b.tn_assoc e e e]
  · simp only [tnC, joC]
    rw [pr_div (b.lat.jo_lt e e), pr_mod (b.lat.jo_lt e e), pr_div (b.tn_lt e e), pr_mod (b.tn_lt e e), pr_div (b.tn_lt e e), pr_mod (b.tn_lt e e), a.tn_jo (d hx) (d hy) (d hz), b.tn_jo e e e]
theorem crR_eq : crR u v x n = (mskN n (leC u v x) : Nat) := sumR_eq n
theorem va_cross (a : VA u t) (b : VA v s) (h6 : u.length * v.length ≤ 6) : VA (crU u v) (crT u t v s) := by
  have hm := b.lat.pos
  have hn := a.lat.pos
  have d : ∀ {p}, p < u.length * v.length → p / v.length < u.length := fun h => dv_lt h
  have e : ∀ {p}, p % v.length < v.length := Nat.mod_lt _ hm
  have hr := fun x (hx : x < u.length * v.length) => rows_sum (g := fun p => crR u v p (u.length * v.length)) (le := leC u v) (fun x _ => crR_eq) hx
  refine VA_mk (lo_cross a.lat b.lat h6) (po_cross a b) (by simp [crU]) (fun x hx => (hr x hx).1) (fun x hx y hy => (hr x hx).2 y hy) (by simp [crT]) (fun x hx => ?_) (fun x hx y hy => ?_)
  · rw [crT, gr_tr hx, tl_length]
  · rw [tm, crT, gr_tr hx, gi_tl hy, crV, a.tn_int (d hx) (d hy), b.tn_int e e]
    push_cast
    rfl

-- stacks
abbrev joK (u v : List Int) (x y : Nat) : Nat :=
  if x < u.length - 1 ∧ y < u.length - 1 then jo u x y else if u.length - 1 ≤ x ∧ u.length - 1 ≤ y then u.length - 1 + jo v (x - (u.length - 1)) (y - (u.length - 1)) else max x y
abbrev mtK (u v : List Int) (x y : Nat) : Nat :=
  if x < u.length - 1 ∧ y < u.length - 1 then mt u x y else if u.length - 1 ≤ x ∧ u.length - 1 ≤ y then u.length - 1 + mt v (x - (u.length - 1)) (y - (u.length - 1)) else min x y
abbrev tnK (u : List Int) (t s : List (List Int)) (x y : Nat) : Nat :=
  if x < u.length - 1 ∧ y < u.length - 1 then tn t x y else if u.length - 1 ≤ x ∧ u.length - 1 ≤ y then u.length - 1 + tn s (x - (u.length - 1)) (y - (u.length - 1)) else min x y
/-- What is below a stack's middle, and what is above it. -/
theorem skB_ll (hx : x < u.length - 1) (hy : y < u.length - 1) : skB u v x y = tb u x y := by
  unfold skB; simp [hx, hy, show ¬ u.length - 1 ≤ x by omega, show ¬ u.length - 1 ≤ y by omega]
theorem skB_lh (hx : x < u.length - 1) (hy : u.length - 1 ≤ y) : skB u v x y = true := by
  unfold skB; simp [hx, hy]
theorem skB_hl (hx : u.length - 1 ≤ x) (hy : y < u.length - 1) : skB u v x y = false := by
  unfold skB; simp [show ¬ x < u.length - 1 by omega, show ¬ u.length - 1 ≤ y by omega]
theorem skB_hh (hx : u.length - 1 ≤ x) (hy : u.length - 1 ≤ y) : skB u v x y = tb v (x - (u.length - 1)) (y - (u.length - 1)) := by
  unfold skB; simp [hx, hy, show ¬ x < u.length - 1 by omega, show ¬ y < u.length - 1 by omega]
theorem joK_ll (hx : x < u.length - 1) (hy : y < u.length - 1) : joK u v x y = jo u x y := if_pos ⟨hx, hy⟩
theorem joK_lh (hx : x < u.length - 1) (hy : u.length - 1 ≤ y) : joK u v x y = y := by
  unfold joK; rw [if_neg (by omega), if_neg (by omega)]; omega
theorem joK_hl (hx : u.length - 1 ≤ x) (hy : y < u.length - 1) : joK u v x y = x := by
  unfold joK; rw [if_neg (by omega), if_neg (by omega)]; omega
theorem joK_hh (hx : u.length - 1 ≤ x) (hy : u.length - 1 ≤ y) : joK u v x y = u.length - 1 + jo v (x - (u.length - 1)) (y - (u.length - 1)) := by
  unfold joK; rw [if_neg (by omega), if_pos ⟨hx, hy⟩]
theorem mtK_ll (hx : x < u.length - 1) (hy : y < u.length - 1) : mtK u v x y = mt u x y := if_pos ⟨hx, hy⟩
theorem mtK_lh (hx : x < u.length - 1) (hy : u.length - 1 ≤ y) : mtK u v x y = x := by
  unfold mtK; rw [if_neg (by omega), if_neg (by omega)]; omega
theorem mtK_hl (hx : u.length - 1 ≤ x) (hy : y < u.length - 1) : mtK u v x y = y := by
  unfold mtK; rw [if_neg (by omega), if_neg (by omega)]; omega
theorem mtK_hh (hx : u.length - 1 ≤ x) (hy : u.length - 1 ≤ y) : mtK u v x y = u.length - 1 + mt v (x - (u.length - 1)) (y - (u.length - 1)) := by
  unfold mtK; rw [if_neg (by omega), if_pos ⟨hx, hy⟩]
theorem tnK_ll (hx : x < u.length - 1) (hy : y < u.length - 1) : tnK u t s x y = tn t x y := if_pos ⟨hx, hy⟩
theorem tnK_lh (hx : x < u.length - 1) (hy : u.length - 1 ≤ y) : tnK u t s x y = x := by
  unfold tnK; rw [if_neg (by omega), if_neg (by omega)]; omega
theorem tnK_hl (hx : u.length - 1 ≤ x) (hy : y < u.length - 1) : tnK u t s x y = y := by
  unfold tnK; rw [if_neg (by omega), if_neg (by omega)]; omega
theorem tnK_hh (hx : u.length - 1 ≤ x) (hy : u.length - 1 ≤ y) : tnK u t s x y = u.length - 1 + tn s (x - (u.length - 1)) (y - (u.length - 1)) := by
  unfold tnK; rw [if_neg (by omega), if_pos ⟨hx, hy⟩]
theorem lo_hi (k x : Nat) : x < k ∨ k ≤ x := by omega
/-- A meet below the greatest element is below it. -/
theorem VL.mt_low (a : VL u) (hx : x < u.length - 1) (hy : y < u.length) : mt u x y < u.length - 1 := by
  have h := a.mt_lt (show x < u.length by omega) hy
  have h2 := a.mt_l (show x < u.length by omega) hy
  rcases Nat.lt_or_ge (mt u x y) (u.length - 1) with c | c
  · exact c
  · have e : mt u x y = u.length - 1 := by omega
    rw [e] at h2
    have := a.eq_top (show x < u.length by omega) h2
    omega
theorem lo_stack (a : VL u) (b : VL v) (h6 : u.length - 1 + v.length ≤ 6) : LO (u.length - 1 + v.length) (skB u v) (joK u v) (mtK u v) := by
  have hm := b.pos
  have hn := a.pos
  have hi : ∀ {p}, p < u.length - 1 + v.length → u.length - 1 ≤ p → p - (u.length - 1) < v.length := fun h h2 => by omega
  refine ⟨by omega, h6, fun x hx => ?_, fun x hx => ?_, fun x hx => ?_, fun x hx y hy h1 h2 => ?_, fun x hx y hy z hz h1 h2 => ?_, fun x hx y hy => ?_, fun x hx y hy => ?_, fun x hx y hy => ?_, fun x hx y hy => ?_, fun x hx y hy z hz h1 h2 => ?_, fun x hx y hy z hz h1 h2 => ?_⟩
  · rcases lo_hi (u.length - 1) x with c | c
    · rw [skB_ll c c]; exact a.rf (by omega)
    · rw [skB_hh c c]; exact b.rf (hi hx c)
  · rcases lo_hi (u.length - 1) 0 with d | d
    · rcases lo_hi (u.length - 1) x with c | c
      · rw [skB_ll d c]; exact a.bot (by omega)
      · exact skB_lh d c
    · rw [skB_hh d (by omega), Nat.zero_sub]; exact b.bot (hi hx (by omega))
  · rcases lo_hi (u.length - 1) x with c | c
    · exact skB_lh c (by omega)
    · rw [skB_hh c (by omega), show u.length - 1 + v.length - 1 - (u.length - 1) = v.length - 1 by omega]
      exact b.topl (hi hx c)
  · rcases lo_hi (u.length - 1) x with c | c <;> rcases lo_hi (u.length - 1) y with d | d
    · rw [skB_ll c d] at h1; rw [skB_ll d c] at h2
      exact a.eq (by omega) (by omega) h1 h2
    · rw [skB_hl d c] at h2; cases h2
    · rw [skB_hl c d] at h1; cases h1
    · rw [skB_hh c d] at h1; rw [skB_hh d c] at h2
      have := b.eq (hi hx c) (hi hy d) h1 h2
      omega
  · rcases lo_hi (u.length - 1) x with c | c <;> rcases lo_hi (u.length - 1) y with d | d <;> rcases lo_hi (u.length - 1) z with e | e
    · rw [skB_ll c d] at h1; rw [skB_ll d e] at h2; rw [skB_ll c e]
      exact a.tr (by omega) (by omega) (by omega) h1 h2
    · exact skB_lh c e
    · rw [skB_hl d e] at h2; cases h2
    · exact skB_lh c e
    · rw [skB_hl c d] at h1; cases h1
    · rw [skB_hl c d] at h1; cases h1
    · rw [skB_hl d e] at h2; cases h2
    · rw [skB_hh c d] at h1; rw [skB_hh d e] at h2; rw [skB_hh c e]
      exact b.tr (hi hx c) (hi hy d) (hi hz e) h1 h2
  · rcases lo_hi (u.length - 1) x with c | c <;> rcases lo_hi (u.length - 1) y with d | d
    · rw [joK_ll c d]; have := a.jo_lt (show x < u.length by omega) (show y < u.length by omega); omega
    · rw [joK_lh c d]; exact hy
    · rw [joK_hl c d]; exact hx
    · rw [joK_hh c d]; have := b.jo_lt (hi hx c) (hi hy d); omega
  · rcases lo_hi (u.length - 1) x with c | c <;> rcases lo_hi (u.length - 1) y with d | d
    · rw [mtK_ll c d]; have := a.mt_lt (show x < u.length by omega) (show y < u.length by omega); omega
    · rw [mtK_lh c d]; exact hx
    · rw [mtK_hl c d]; exact hy
    · rw [mtK_hh c d]; have := b.mt_lt (hi hx c) (hi hy d); omega
  · rcases lo_hi (u.length - 1) x with c | c <;> rcases lo_hi (u.length - 1) y with d | d
    · have hx' : x < u.length := by omega
      have hy' : y < u.length := by omega
      have hj := a.jo_lt hx' hy'
      rw [joK_ll c d]
      rcases lo_hi (u.length - 1) (jo u x y) with e | e
      · rw [skB_ll c e, skB_ll d e]; exact ⟨a.jo_l hx' hy', a.jo_r hx' hy'⟩
      · exact ⟨skB_lh c e, skB_lh d e⟩
    · rw [joK_lh c d, skB_lh c d, skB_hh d d]; exact ⟨rfl, b.rf (hi hy d)⟩
    · rw [joK_hl c d, skB_lh d c, skB_hh c c]; exact ⟨b.rf (hi hx c), rfl⟩
    · have hj := b.jo_lt (hi hx c) (hi hy d)
      rw [joK_hh c d, skB_hh c (by omega), skB_hh d (by omega), Nat.add_sub_cancel_left]
      exact ⟨b.jo_l (hi hx c) (hi hy d), b.jo_r (hi hx c) (hi hy d)⟩
  · rcases lo_hi (u.length - 1) x with c | c <;> rcases lo_hi (u.length - 1) y with d | d
    · have hx' : x < u.length := by omega
      have hy' : y < u.length := by omega
      have e := a.mt_low c hy'
      rw [mtK_ll c d, skB_ll e c, skB_ll e d]; exact ⟨a.mt_l hx' hy', a.mt_r hx' hy'⟩
    · rw [mtK_lh c d, skB_lh c d, skB_ll c c]; exact ⟨a.rf (by omega), rfl⟩
    · rw [mtK_hl c d, skB_lh d c, skB_ll d d]; exact ⟨rfl, a.rf (by omega)⟩
    · have hj := b.mt_lt (hi hx c) (hi hy d)
      rw [mtK_hh c d, skB_hh (by omega) c, skB_hh (by omega) d, Nat.add_sub_cancel_left]
      exact ⟨b.mt_l (hi hx c) (hi hy d), b.mt_r (hi hx c) (hi hy d)⟩
  · rcases lo_hi (u.length - 1) x with c | c <;> rcases lo_hi (u.length - 1) y with d | d
    · have hx' : x < u.length := by omega
      have hy' : y < u.length := by omega
      have hj := a.jo_lt hx' hy'
      rw [joK_ll c d]
      rcases lo_hi (u.length - 1) z with e | e
      · rw [skB_ll c e] at h1; rw [skB_ll d e] at h2
        have h3 := a.jo_le hx' hy' (show z < u.length by omega) h1 h2
        rcases lo_hi (u.length - 1) (jo u x y) with g | g
        · rw [skB_ll g e]; exact h3
        · have e2 : jo u x y = u.length - 1 := by omega
          rw [e2] at h3
          have := a.eq_top (show z < u.length by omega) h3
          omega
      · rcases lo_hi (u.length - 1) (jo u x y) with g | g
        · exact skB_lh g e
        · have e2 : jo u x y = u.length - 1 := by omega
          rw [e2, skB_hh (Nat.le_refl _) e, Nat.sub_self]; exact b.bot (hi hz e)
    · rw [joK_lh c d]; exact h2
    · rw [joK_hl c d]; exact h1
    · rcases lo_hi (u.length - 1) z with e | e
      · rw [skB_hl c e] at h1; cases h1
      · rw [skB_hh c e] at h1; rw [skB_hh d e] at h2
        have hj := b.jo_lt (hi hx c) (hi hy d)
        rw [joK_hh c d, skB_hh (by omega) e, Nat.add_sub_cancel_left]
        exact b.jo_le (hi hx c) (hi hy d) (hi hz e) h1 h2
  · rcases lo_hi (u.length - 1) x with c | c <;> rcases lo_hi (u.length - 1) y with d | d
    · rcases lo_hi (u.length - 1) z with e | e
      · rw [skB_ll e c] at h1; rw [skB_ll e d] at h2
        have g := a.mt_low c (show y < u.length by omega)
        rw [mtK_ll c d, skB_ll e g]
        exact a.le_mt (by omega) (by omega) (by omega) h1 h2
      · rw [skB_hl e c] at h1; cases h1
    · rw [mtK_lh c d]; exact h1
    · rw [mtK_hl c d]; exact h2
    · have hj := b.mt_lt (hi hx c) (hi hy d)
      rw [mtK_hh c d]
      rcases lo_hi (u.length - 1) z with e | e
      · exact skB_lh e (by omega)
      · rw [skB_hh e c] at h1; rw [skB_hh e d] at h2
        rw [skB_hh e (by omega), Nat.add_sub_cancel_left]
        exact b.le_mt (hi hx c) (hi hy d) (hi hz e) h1 h2
theorem VA.tn_low (a : VA u t) (hx : x < u.length - 1) (hy : y < u.length) : tn t x y < u.length - 1 := by
  have h := a.tn_lt (show x < u.length by omega) hy
  have h2 := a.le_l (show x < u.length by omega) hy
  rcases Nat.lt_or_ge (tn t x y) (u.length - 1) with c | c
  · exact c
  · have e : tn t x y = u.length - 1 := by omega
    rw [e] at h2
    have := a.lat.eq_top (show x < u.length by omega) h2
    omega
theorem po_stack (a : VA u t) (b : VA v s) : PO (u.length - 1 + v.length) (joK u v) (tnK u t s) := by
  have hm := b.lat.pos
  have hn := a.lat.pos
  have hi : ∀ {p}, p < u.length - 1 + v.length → u.length - 1 ≤ p → p - (u.length - 1) < v.length := fun h h2 => by omega
  refine ⟨fun x hx y hy => ?_, fun x hx => ?_, fun x hx => ?_, fun x hx y hy => ?_, fun x hx y hy z hz => ?_, fun x hx y hy z hz => ?_⟩
  · rcases lo_hi (u.length - 1) x with c | c <;> rcases lo_hi (u.length - 1) y with d | d
    · rw [tnK_ll c d]; have := a.tn_lt (show x < u.length by omega) (show y < u.length by omega); omega
    · rw [tnK_lh c d]; exact hx
    · rw [tnK_hl c d]; exact hy
    · rw [tnK_hh c d]; have := b.tn_lt (hi hx c) (hi hy d); omega
  · rcases lo_hi (u.length - 1) x with c | c
    · exact tnK_lh c (by omega)
    · rw [tnK_hh c (by omega), show u.length - 1 + v.length - 1 - (u.length - 1) = v.length - 1 by omega, b.tn_top (hi hx c)]; omega
  · rcases lo_hi (u.length - 1) 0 with d | d
    · rcases lo_hi (u.length - 1) x with c | c
      · rw [tnK_ll c d, a.tn_bot (by omega)]
      · exact tnK_hl c d
    · rw [tnK_hh (by omega) d, Nat.zero_sub, b.tn_bot (hi hx (by omega))]; omega
  · rcases lo_hi (u.length - 1) x with c | c <;> rcases lo_hi (u.length - 1) y with d | d
    · rw [tnK_ll c d, tnK_ll d c, a.tn_comm (by omega) (by omega)]
    · rw [tnK_lh c d, tnK_hl d c]
    · rw [tnK_hl c d, tnK_lh d c]
    · rw [tnK_hh c d, tnK_hh d c, b.tn_comm (hi hx c) (hi hy d)]
  · rcases lo_hi (u.length - 1) x with c | c <;> rcases lo_hi (u.length - 1) y with d | d <;> rcases lo_hi (u.length - 1) z with e | e
    · rw [tnK_ll c d, tnK_ll d e, tnK_ll (a.tn_low c (by omega)) e, tnK_ll c (a.tn_low d (by omega)), a.tn_assoc (by omega) (by omega) (by omega)]
    · rw [tnK_ll c d, tnK_lh d e, tnK_lh (a.tn_low c (by omega)) e, tnK_ll c d]
    · rw [tnK_lh c d, tnK_hl d e]
    · have h := b.tn_lt (hi hy d) (hi hz e)
      rw [tnK_lh c d, tnK_hh d e, tnK_lh c e, tnK_lh c (by omega)]
    · rw [tnK_hl c d, tnK_ll d e, tnK_hl c (a.tn_low d (by omega))]
    · rw [tnK_hl c d, tnK_lh d e, tnK_hl c d]
    · have h := b.tn_lt (hi hx c) (hi hy d)
      rw [tnK_hh c d, tnK_hl d e, tnK_hl (by omega) e, tnK_hl c e]
    · have h := b.tn_lt (hi hx c) (hi hy d)
      have h2 := b.tn_lt (hi hy d) (hi hz e)
      rw [tnK_hh c d, tnK_hh d e, tnK_hh (by omega) e, tnK_hh c (by omega), Nat.add_sub_cancel_left, Nat.add_sub_cancel_left, b.tn_assoc (hi hx c) (hi hy d) (hi hz e)]
  · rcases lo_hi (u.length - 1) x with c | c <;> rcases lo_hi (u.length - 1) y with d | d <;> rcases lo_hi (u.length - 1) z with e | e
    · have hx' : x < u.length := by omega
      have hy' : y < u.length := by omega
      have hz' : z < u.length := by omega
      have hj := a.lat.jo_lt hy' hz'
      rw [joK_ll d e, tnK_ll c d, tnK_ll c e, joK_ll (a.tn_low c hy') (a.tn_low c hz')]
      rcases lo_hi (u.length - 1) (jo u y z) with g | g
      · rw [tnK_ll c g, a.tn_jo hx' hy' hz']
      · have e2 : jo u y z = u.length - 1 := by omega
        rw [tnK_lh c g, ← a.tn_jo hx' hy' hz', e2, a.tn_top hx']
    · have hx' : x < u.length := by omega
      have hy' : y < u.length := by omega
      rw [joK_lh d e, tnK_lh c e, tnK_ll c d, joK_ll (a.tn_low c hy') c, a.lat.jo_eq (a.tn_lt hx' hy') hx' (a.le_l hx' hy')]
    · have hx' : x < u.length := by omega
      have hz' : z < u.length := by omega
      rw [joK_hl d e, tnK_lh c d, tnK_ll c e, joK_ll c (a.tn_low c hz'), a.lat.jo_comm hx' (a.tn_lt hx' hz'), a.lat.jo_eq (a.tn_lt hx' hz') hx' (a.le_l hx' hz')]
    · have h := b.lat.jo_lt (hi hy d) (hi hz e)
      have hx' : x < u.length := by omega
      rw [joK_hh d e, tnK_lh c (by omega), tnK_lh c d, tnK_lh c e, joK_ll c c, a.lat.jo_eq hx' hx' (a.lat.rf hx')]
    · have hy' : y < u.length := by omega
      have hz' : z < u.length := by omega
      have hj := a.lat.jo_lt hy' hz'
      rw [joK_ll d e, tnK_hl c d, tnK_hl c e, joK_ll d e]
      rcases lo_hi (u.length - 1) (jo u y z) with g | g
      · rw [tnK_hl c g]
      · have e2 : jo u y z = u.length - 1 := by omega
        rw [e2, tnK_hh c (Nat.le_refl _), Nat.sub_self, b.tn_bot (hi hx c)]
        omega
    · have h := b.tn_lt (hi hx c) (hi hz e)
      rw [joK_lh d e, tnK_hl c d, tnK_hh c e, joK_lh d (by omega)]
    · have h := b.tn_lt (hi hx c) (hi hy d)
      rw [joK_hl d e, tnK_hl c e, tnK_hh c d, joK_hl (by omega) e]
    · have h := b.tn_lt (hi hx c) (hi hy d)
      have h2 := b.tn_lt (hi hx c) (hi hz e)
      have h3 := b.lat.jo_lt (hi hy d) (hi hz e)
      rw [joK_hh d e, tnK_hh c (by omega), tnK_hh c d, tnK_hh c e, joK_hh (by omega) (by omega), Nat.add_sub_cancel_left, Nat.add_sub_cancel_left, Nat.add_sub_cancel_left, b.tn_jo (hi hx c) (hi hy d) (hi hz e)]
theorem skR_eq : skR u v x n = (mskN n (skB u v x) : Nat) := sumR_eq n
theorem va_stack (a : VA u t) (b : VA v s) (h6 : u.length - 1 + v.length ≤ 6) : VA (skU u v) (skT u t v s) := by
  have hm := b.lat.pos
  have hn := a.lat.pos
  have hi : ∀ {p}, p < u.length - 1 + v.length → u.length - 1 ≤ p → p - (u.length - 1) < v.length := fun h h2 => by omega
  have hr := fun x (hx : x < u.length - 1 + v.length) => rows_sum (g := fun p => skR u v p (u.length - 1 + v.length)) (le := skB u v) (fun x _ => skR_eq) hx
  refine VA_mk (lo_stack a.lat b.lat h6) (po_stack a b) (by simp [skU]) (fun x hx => (hr x hx).1) (fun x hx y hy => (hr x hx).2 y hy) (by simp [skT]) (fun x hx => ?_) (fun x hx y hy => ?_)
  · rw [skT, gr_tr hx, tl_length]
  · rw [tm, skT, gr_tr hx, gi_tl hy, skV]
    rcases lo_hi (u.length - 1) x with c | c <;> rcases lo_hi (u.length - 1) y with d | d
    · rw [tnK_ll c d, if_pos ⟨c, d⟩, a.tn_int (by omega) (by omega)]
    · rw [tnK_lh c d, if_neg (by omega), if_neg (by omega)]; omega
    · rw [tnK_hl c d, if_neg (by omega), if_neg (by omega)]; omega
    · rw [tnK_hh c d, if_neg (by omega), if_pos ⟨c, d⟩, b.tn_int (hi hx c) (hi hy d)]; push_cast; rfl
end
end Go.PS
end

section
-- What is drawn as an algebra is one.
set_option maxRecDepth 100000
set_option linter.unusedVariables false
set_option linter.unusedSimpArgs false
namespace Go.PS

theorem sum_va {n : Nat} (h1 : 1 ≤ n) (h6 : n ≤ 6) : VA (chL n) (sumT n) := by
  rw [← vaB_iff]
  obtain rfl | rfl | rfl | rfl | rfl | rfl : n = 1 ∨ n = 2 ∨ n = 3 ∨ n = 4 ∨ n = 5 ∨ n = 6 := by omega
  all_goals decide +kernel
theorem mtc_va {n : Nat} (h1 : 1 ≤ n) (h6 : n ≤ 6) : VA (chL n) (mtT (chL n)) := by
  rw [← vaB_iff]
  obtain rfl | rfl | rfl | rfl | rfl | rfl : n = 1 ∨ n = 2 ∨ n = 3 ∨ n = 4 ∨ n = 5 ∨ n = 6 := by omega
  all_goals decide +kernel
theorem mtx_va {n : Nat} (h1 : 2 ≤ n) (h6 : n ≤ 3) : VA (crU (chL 2) (chL n)) (mtT (crU (chL 2) (chL n))) := by
  rw [← vaB_iff]
  obtain rfl | rfl : n = 2 ∨ n = 3 := by omega
  all_goals decide +kernel
theorem aofM_va {b : List Int} (hb : BB b) {p : Nat} (hp : p ≤ 990000) {m : Int} (h1 : 1 ≤ m) (h6 : m ≤ 6) : VA (aofM b p m).1.1 (aofM b p m).1.2 := by
  have r0 := pkM_rng hb (p := p) (by omega) h1
  have r1 := pkM_rng hb (p := p + 1) (by omega) (n := 6) (by omega)
  obtain ⟨n, hn⟩ : ∃ n : Nat, 1 + pkM b p m = n := ⟨(1 + pkM b p m).toNat, by omega⟩
  unfold aofM
  simp only [hn, Int.toNat_natCast]
  split
  · exact sum_va (by omega) (by omega)
  · split
    · exact mtc_va (by omega) (by omega)
    · split
      · rename_i hc
        have r3 := pkM_rng hb (p := p + 2) (by omega) (n := (n : Int) - 2) (by omega)
        obtain ⟨q, hq⟩ : ∃ q : Nat, 2 + pkM b (p + 2) ((n : Int) - 2) = q := ⟨(2 + pkM b (p + 2) ((n : Int) - 2)).toNat, by omega⟩
        simp only [hq, Int.toNat_natCast]
        refine va_stack (sum_va (by omega) (by omega)) (sum_va (by omega) (by omega)) ?_
        rw [chL_length, chL_length]; omega
      · split
        · rename_i hc
          obtain ⟨z, hz⟩ : ∃ z : Nat, min (m / 2 - 1) 2 = (z : Int) := ⟨(min (m / 2 - 1) 2).toNat, by omega⟩
          have r3 := pkM_rng hb (p := p + 2) (by omega) (n := (z : Int)) (by omega)
          obtain ⟨q, hq⟩ : ∃ q : Nat, 2 + pkM b (p + 2) (z : Int) = q := ⟨(2 + pkM b (p + 2) (z : Int)).toNat, by omega⟩
          simp only [hz, hq, Int.toNat_natCast]
          exact mtx_va (by omega) (by omega)
        · obtain ⟨k, hk⟩ : ∃ k : Nat, min n 5 = k := ⟨_, rfl⟩
          rw [hk]
          have hpos : 0 < (chT k).length := by
            have := chT_ne k (by omega) (by omega)
            cases h : chT k with
            | nil => exact absurd h this
            | cons _ _ => simp
          have r2 := pkM_rng hb (p := p + 2) (by omega) (n := (chT k).length) (by omega)
          generalize pkM b (p + 2) (chT k).length = i at *
          have hi : i.toNat < (chT k).length := by omega
          have e : (((chT k).map fun t => (chL k, t)).getD i.toNat default) = (chL k, (chT k)[i.toNat]) := by
            rw [List.getD_eq_getElem?_getD, List.getElem?_map, List.getElem?_eq_getElem hi]; rfl
          simp only [e]
          exact chT_va (n := k) (by omega) (List.getElem_mem hi)
theorem gaM_va {b : List Int} (hb : BB b) {p : Nat} (hp : p ≤ 980000) : VA (gaM b p).1.1 (gaM b p).1.2 := by
  unfold gaM
  split
  · obtain ⟨g1, m1, q1⟩ := aofM_ga hb (p := p + 1) (by omega) (m := 2) (by omega) (by omega)
    dsimp only
    generalize aofM b (p + 1) 2 = A at *
    obtain ⟨g2, m2, q2⟩ := aofM_ga hb (p := A.2) (by omega) (m := 3) (by omega) (by omega)
    generalize aofM b A.2 3 = B at *
    split
    · rename_i hc
      simp only [Bool.and_eq_true, decide_eq_true_eq, vaB_iff] at hc
      exact va_cross hc.1.1 hc.1.2 hc.2
    · exact aofM_va hb (by omega) (by omega) (by omega)
  · split
    · obtain ⟨g1, m1, q1⟩ := aofM_ga hb (p := p + 1) (by omega) (m := 3) (by omega) (by omega)
      dsimp only
      generalize aofM b (p + 1) 3 = A at *
      split
      · rename_i hc
        simp only [Bool.and_eq_true, decide_eq_true_eq, vaB_iff] at hc
        have h4 : M22.1.length = 4 := by simp [M22, crU, chL_length]
        have := g1.pos
        exact va_stack hc.1.1 hc.1.2 (by omega)
      · exact aofM_va hb (by omega) (by omega) (by omega)
    · exact aofM_va hb (by omega) (by omega) (by omega)
end Go.PS
end
