/- Part 5 of what the last text proves: Maps keep opposites: the law holds at every input. -/
import Derived.Test.YthbdihoacfhflaaRb4
section
-- Contracts: algebras that are drawn and may be invalid.
set_option maxRecDepth 100000
set_option linter.unusedVariables false
set_option linter.unusedSimpArgs false
namespace Go.PS
open Go.Proofs

/-- An algebra that may be bent. -/
def bnM (b : List Int) (p : Nat) (u : List Int) (t : List (List Int)) : Alg × Nat :=
  if 0 < pkM b p 16 then ((u, t), p + 1)
  else (let k := (pkM b (p + 1) u.length).toNat; let c := pkM b (p + 2) 5
    if c = 0 then ((u, t.set k ((gr t k).set (pkM b (p + 3) u.length).toNat (gi [0, 1, -1, 6] (pkM b (p + 4) 4).toNat))), p + 5)
    else if c = 1 then ((u.set k (gi [0, 3, -1] (pkM b (p + 3) 3).toNat), t), p + 4)
    else if c = 2 then ((u, t.tail), p + 3)
    else if c = 3 then ((u, t.set k ((gr t k).tail)), p + 3)
    else ((u ++ [64], t), p + 3))

-- PRINTED by dagp.py
set_option maxHeartbeats 2000000 in
theorem bent_dag8 {Q : St → Prop} {b : List Int} {p : Nat} {u : List Int} {t : List (List Int)} {k y x1 x2 x3 : Nat} {z : Int} (hkt : k < t.length) (hyr : y < (gr t k).length) (l0 : fw_pick.look [.ptr 0 0 0, I64 u.length] (RS b (p + 3)) = some (I64 y, RS b (p + 4))) (l1 : fw_one.look [.ptr 0 0 0, .list 1 [.int .i64 0, .int .i64 1, .int .i64 (-1), .int .i64 6]] (RS b (p + 4)) = some (I64 z, RS b (p + 5)))
    (hQ : ∀ tb g, getT tb 4 = .ptr 32 1 0 → getT tb 5 = .ptr 40 x1 0 → Q ⟨tb, [⟨0, 0, .cells (RS b (p + 5))⟩, ⟨32, 1, .cells [.nil, .nil]⟩, ⟨40, x1, .cells [.arr 88 x2, .arr 136 x3]⟩, ⟨88, x2, .arr 1 (ints u)⟩, ⟨136, x3, .arr 1 (orowsD (t.set k ((gr t k).set y z)))⟩], g⟩) : ∀ tb g, getT tb 0 = .ptr 0 0 0 → getT tb 4 = .ptr 32 1 0 → getT tb 5 = .ptr 40 x1 0 → getT tb 6 = I64 (k : Int) → exT C0 0 (inlW C0 [fm_copyTabS] [fw_pick, fw_one] 0 0) ro_168_8 Q ex_168_8_0 ⟨tb, [⟨0, 0, .cells (RS b (p + 3))⟩, ⟨32, 1, .cells [.nil, .nil]⟩, ⟨40, x1, .cells [.arr 88 x2, .arr 136 x3]⟩, ⟨88, x2, .arr 1 (ints u)⟩, ⟨136, x3, .arr 1 (orowsD t)⟩], g⟩ := by
  have n32767 : ∀ tb g, getT tb 0 = .ptr 0 0 0 → getT tb 4 = .ptr 32 1 0 → getT tb 5 = .ptr 40 x1 0 → getT tb 6 = I64 (k : Int) → getT tb 33 = .ptr 40 x1 1 → getT tb 34 = .arr 136 x3 → getT tb 35 = I64 (k : Int) → getT tb 36 = .ptr 136 x3 k → getT tb 37 = .row 136 x3 k → getT tb 38 = .ptr 0 0 0 → getT tb 39 = .ptr 40 x1 0 → getT tb 40 = .arr 88 x2 → getT tb 41 = I64 (u.length : Int) → getT tb 42 = I64 (y : Int) → getT tb 43 = .ptr 0 0 0 → getT tb 44 = .list 1 [.int .i64 0, .int .i64 1, .int .i64 (-1), .int .i64 6] → getT tb 45 = I64 z → getT tb 46 = .rptr 136 x3 k y → exT C0 0 (inlW C0 [fm_copyTabS] [fw_pick, fw_one] 0 0) ro_168_8 Q ex_168_8_32767 ⟨tb, [⟨0, 0, .cells (RS b (p + 5))⟩, ⟨32, 1, .cells [.nil, .nil]⟩, ⟨40, x1, .cells [.arr 88 x2, .arr 136 x3]⟩, ⟨88, x2, .arr 1 (ints u)⟩, ⟨136, x3, .arr 1 (orowsD (t.set k ((gr t k).set y z)))⟩], g⟩ := by
    intro tb g e0 e4 e5 e6 e33 e34 e35 e36 e37 e38 e39 e40 e41 e42 e43 e44 e45 e46
    unfold ex_168_8_32767
    exact hQ tb g e4 e5
  have n16383 : ∀ tb g, getT tb 0 = .ptr 0 0 0 → getT tb 4 = .ptr 32 1 0 → getT tb 5 = .ptr 40 x1 0 → getT tb 6 = I64 (k : Int) → getT tb 33 = .ptr 40 x1 1 → getT tb 34 = .arr 136 x3 → getT tb 35 = I64 (k : Int) → getT tb 36 = .ptr 136 x3 k → getT tb 37 = .row 136 x3 k → getT tb 38 = .ptr 0 0 0 → getT tb 39 = .ptr 40 x1 0 → getT tb 40 = .arr 88 x2 → getT tb 41 = I64 (u.length : Int) → getT tb 42 = I64 (y : Int) → getT tb 43 = .ptr 0 0 0 → getT tb 44 = .list 1 [.int .i64 0, .int .i64 1, .int .i64 (-1), .int .i64 6] → getT tb 45 = I64 z → getT tb 46 = .rptr 136 x3 k y → exT C0 0 (inlW C0 [fm_copyTabS] [fw_pick, fw_one] 0 0) ro_168_8 Q ex_168_8_16383 ⟨tb, [⟨0, 0, .cells (RS b (p + 5))⟩, ⟨32, 1, .cells [.nil, .nil]⟩, ⟨40, x1, .cells [.arr 88 x2, .arr 136 x3]⟩, ⟨88, x2, .arr 1 (ints u)⟩, ⟨136, x3, .arr 1 (orowsD t)⟩], g⟩ := by
    intro tb g e0 e4 e5 e6 e33 e34 e35 e36 e37 e38 e39 e40 e41 e42 e43 e44 e45 e46
    unfold ex_168_8_16383
    simp only [exT_alt, exT_one, exT_stop, and_true]
    rw [ro_168_8_14]
    simp [callDOW, l0, l1, rg4, hkt, hyr, orowsD_ge, rowAt, rowB, e0, e4, e5, e6, e33, e34, e35, e36, e37, e38, e39, e40, e41, e42, e43, e44, e45, e46]
    refine n32767 _ _ ?_ ?_ ?_ ?_ ?_ ?_ ?_ ?_ ?_ ?_ ?_ ?_ ?_ ?_ ?_ ?_ ?_ ?_ <;> simp [getT, e0, e4, e5, e6, e33, e34, e35, e36, e37, e38, e39, e40, e41, e42, e43, e44, e45, e46]
  have n8191 : ∀ tb g, getT tb 0 = .ptr 0 0 0 → getT tb 4 = .ptr 32 1 0 → getT tb 5 = .ptr 40 x1 0 → getT tb 6 = I64 (k : Int) → getT tb 33 = .ptr 40 x1 1 → getT tb 34 = .arr 136 x3 → getT tb 35 = I64 (k : Int) → getT tb 36 = .ptr 136 x3 k → getT tb 37 = .row 136 x3 k → getT tb 38 = .ptr 0 0 0 → getT tb 39 = .ptr 40 x1 0 → getT tb 40 = .arr 88 x2 → getT tb 41 = I64 (u.length : Int) → getT tb 42 = I64 (y : Int) → getT tb 43 = .ptr 0 0 0 → getT tb 44 = .list 1 [.int .i64 0, .int .i64 1, .int .i64 (-1), .int .i64 6] → getT tb 45 = I64 z → exT C0 0 (inlW C0 [fm_copyTabS] [fw_pick, fw_one] 0 0) ro_168_8 Q ex_168_8_8191 ⟨tb, [⟨0, 0, .cells (RS b (p + 5))⟩, ⟨32, 1, .cells [.nil, .nil]⟩, ⟨40, x1, .cells [.arr 88 x2, .arr 136 x3]⟩, ⟨88, x2, .arr 1 (ints u)⟩, ⟨136, x3, .arr 1 (orowsD t)⟩], g⟩ := by
    intro tb g e0 e4 e5 e6 e33 e34 e35 e36 e37 e38 e39 e40 e41 e42 e43 e44 e45
    unfold ex_168_8_8191
    simp only [exT_alt, exT_one, exT_stop, and_true]
    rw [ro_168_8_13]
    simp [callDOW, l0, l1, rg4, hkt, hyr, orowsD_ge, rowAt, rowB, e0, e4, e5, e6, e33, e34, e35, e36, e37, e38, e39, e40, e41, e42, e43, e44, e45]
    refine n16383 _ _ ?_ ?_ ?_ ?_ ?_ ?_ ?_ ?_ ?_ ?_ ?_ ?_ ?_ ?_ ?_ ?_ ?_ ?_ <;> simp [getT, e0, e4, e5, e6, e33, e34, e35, e36, e37, e38, e39, e40, e41, e42, e43, e44, e45]
  have n8175 : ∀ tb g, getT tb 0 = .ptr 0 0 0 → getT tb 4 = .ptr 32 1 0 → getT tb 5 = .ptr 40 x1 0 → getT tb 6 = I64 (k : Int) → getT tb 33 = .ptr 40 x1 1 → getT tb 34 = .arr 136 x3 → getT tb 35 = I64 (k : Int) → getT tb 36 = .ptr 136 x3 k → getT tb 38 = .ptr 0 0 0 → getT tb 39 = .ptr 40 x1 0 → getT tb 40 = .arr 88 x2 → getT tb 41 = I64 (u.length : Int) → getT tb 42 = I64 (y : Int) → getT tb 43 = .ptr 0 0 0 → getT tb 44 = .list 1 [.int .i64 0, .int .i64 1, .int .i64 (-1), .int .i64 6] → getT tb 45 = I64 z → exT C0 0 (inlW C0 [fm_copyTabS] [fw_pick, fw_one] 0 0) ro_168_8 Q ex_168_8_8175 ⟨tb, [⟨0, 0, .cells (RS b (p + 5))⟩, ⟨32, 1, .cells [.nil, .nil]⟩, ⟨40, x1, .cells [.arr 88 x2, .arr 136 x3]⟩, ⟨88, x2, .arr 1 (ints u)⟩, ⟨136, x3, .arr 1 (orowsD t)⟩], g⟩ := by
    intro tb g e0 e4 e5 e6 e33 e34 e35 e36 e38 e39 e40 e41 e42 e43 e44 e45
    unfold ex_168_8_8175
    simp only [exT_alt, exT_one, exT_stop, and_true]
    rw [ro_168_8_4]
    simp [callDOW, l0, l1, rg4, hkt, hyr, orowsD_ge, rowAt, rowB, e0, e4, e5, e6, e33, e34, e35, e36, e38, e39, e40, e41, e42, e43, e44, e45]
    refine n8191 _ _ ?_ ?_ ?_ ?_ ?_ ?_ ?_ ?_ ?_ ?_ ?_ ?_ ?_ ?_ ?_ ?_ ?_ <;> simp [getT, e0, e4, e5, e6, e33, e34, e35, e36, e38, e39, e40, e41, e42, e43, e44, e45]
  have n8167 : ∀ tb g, getT tb 0 = .ptr 0 0 0 → getT tb 4 = .ptr 32 1 0 → getT tb 5 = .ptr 40 x1 0 → getT tb 6 = I64 (k : Int) → getT tb 33 = .ptr 40 x1 1 → getT tb 34 = .arr 136 x3 → getT tb 35 = I64 (k : Int) → getT tb 38 = .ptr 0 0 0 → getT tb 39 = .ptr 40 x1 0 → getT tb 40 = .arr 88 x2 → getT tb 41 = I64 (u.length : Int) → getT tb 42 = I64 (y : Int) → getT tb 43 = .ptr 0 0 0 → getT tb 44 = .list 1 [.int .i64 0, .int .i64 1, .int .i64 (-1), .int .i64 6] → getT tb 45 = I64 z → exT C0 0 (inlW C0 [fm_copyTabS] [fw_pick, fw_one] 0 0) ro_168_8 Q ex_168_8_8167 ⟨tb, [⟨0, 0, .cells (RS b (p + 5))⟩, ⟨32, 1, .cells [.nil, .nil]⟩, ⟨40, x1, .cells [.arr 88 x2, .arr 136 x3]⟩, ⟨88, x2, .arr 1 (ints u)⟩, ⟨136, x3, .arr 1 (orowsD t)⟩], g⟩ := by
    intro tb g e0 e4 e5 e6 e33 e34 e35 e38 e39 e40 e41 e42 e43 e44 e45
    unfold ex_168_8_8167
    simp only [exT_alt, exT_one, exT_stop, and_true]
    rw [ro_168_8_3]
    simp [callDOW, l0, l1, rg4, hkt, hyr, orowsD_ge, rowAt, rowB, e0, e4, e5, e6, e33, e34, e35, e38, e39, e40, e41, e42, e43, e44, e45]
    refine n8175 _ _ ?_ ?_ ?_ ?_ ?_ ?_ ?_ ?_ ?_ ?_ ?_ ?_ ?_ ?_ ?_ ?_ <;> simp [getT, e0, e4, e5, e6, e33, e34, e35, e38, e39, e40, e41, e42, e43, e44, e45]
  have n8165 : ∀ tb g, getT tb 0 = .ptr 0 0 0 → getT tb 4 = .ptr 32 1 0 → getT tb 5 = .ptr 40 x1 0 → getT tb 6 = I64 (k : Int) → getT tb 33 = .ptr 40 x1 1 → getT tb 35 = I64 (k : Int) → getT tb 38 = .ptr 0 0 0 → getT tb 39 = .ptr 40 x1 0 → getT tb 40 = .arr 88 x2 → getT tb 41 = I64 (u.length : Int) → getT tb 42 = I64 (y : Int) → getT tb 43 = .ptr 0 0 0 → getT tb 44 = .list 1 [.int .i64 0, .int .i64 1, .int .i64 (-1), .int .i64 6] → getT tb 45 = I64 z → exT C0 0 (inlW C0 [fm_copyTabS] [fw_pick, fw_one] 0 0) ro_168_8 Q ex_168_8_8165 ⟨tb, [⟨0, 0, .cells (RS b (p + 5))⟩, ⟨32, 1, .cells [.nil, .nil]⟩, ⟨40, x1, .cells [.arr 88 x2, .arr 136 x3]⟩, ⟨88, x2, .arr 1 (ints u)⟩, ⟨136, x3, .arr 1 (orowsD t)⟩], g⟩ := by
    intro tb g e0 e4 e5 e6 e33 e35 e38 e39 e40 e41 e42 e43 e44 e45
    unfold ex_168_8_8165
    simp only [exT_alt, exT_one, exT_stop, and_true]
    rw [ro_168_8_1]
    simp [callDOW, l0, l1, rg4, hkt, hyr, orowsD_ge, rowAt, rowB, e0, e4, e5, e6, e33, e35, e38, e39, e40, e41, e42, e43, e44, e45]
    refine n8167 _ _ ?_ ?_ ?_ ?_ ?_ ?_ ?_ ?_ ?_ ?_ ?_ ?_ ?_ ?_ ?_ <;> simp [getT, e0, e4, e5, e6, e33, e35, e38, e39, e40, e41, e42, e43, e44, e45]
  have n8164 : ∀ tb g, getT tb 0 = .ptr 0 0 0 → getT tb 4 = .ptr 32 1 0 → getT tb 5 = .ptr 40 x1 0 → getT tb 6 = I64 (k : Int) → getT tb 35 = I64 (k : Int) → getT tb 38 = .ptr 0 0 0 → getT tb 39 = .ptr 40 x1 0 → getT tb 40 = .arr 88 x2 → getT tb 41 = I64 (u.length : Int) → getT tb 42 = I64 (y : Int) → getT tb 43 = .ptr 0 0 0 → getT tb 44 = .list 1 [.int .i64 0, .int .i64 1, .int .i64 (-1), .int .i64 6] → getT tb 45 = I64 z → exT C0 0 (inlW C0 [fm_copyTabS] [fw_pick, fw_one] 0 0) ro_168_8 Q ex_168_8_8164 ⟨tb, [⟨0, 0, .cells (RS b (p + 5))⟩, ⟨32, 1, .cells [.nil, .nil]⟩, ⟨40, x1, .cells [.arr 88 x2, .arr 136 x3]⟩, ⟨88, x2, .arr 1 (ints u)⟩, ⟨136, x3, .arr 1 (orowsD t)⟩], g⟩ := by
    intro tb g e0 e4 e5 e6 e35 e38 e39 e40 e41 e42 e43 e44 e45
    unfold ex_168_8_8164
    simp only [exT_alt, exT_one, exT_stop, and_true]
    rw [ro_168_8_0]
    simp [callDOW, l0, l1, rg4, hkt, hyr, orowsD_ge, rowAt, rowB, e0, e4, e5, e6, e35, e38, e39, e40, e41, e42, e43, e44, e45]
    refine n8165 _ _ ?_ ?_ ?_ ?_ ?_ ?_ ?_ ?_ ?_ ?_ ?_ ?_ ?_ ?_ <;> simp [getT, e0, e4, e5, e6, e35, e38, e39, e40, e41, e42, e43, e44, e45]
  have n4095 : ∀ tb g, getT tb 0 = .ptr 0 0 0 → getT tb 4 = .ptr 32 1 0 → getT tb 5 = .ptr 40 x1 0 → getT tb 6 = I64 (k : Int) → getT tb 33 = .ptr 40 x1 1 → getT tb 34 = .arr 136 x3 → getT tb 35 = I64 (k : Int) → getT tb 36 = .ptr 136 x3 k → getT tb 37 = .row 136 x3 k → getT tb 38 = .ptr 0 0 0 → getT tb 39 = .ptr 40 x1 0 → getT tb 40 = .arr 88 x2 → getT tb 41 = I64 (u.length : Int) → getT tb 42 = I64 (y : Int) → getT tb 43 = .ptr 0 0 0 → getT tb 44 = .list 1 [.int .i64 0, .int .i64 1, .int .i64 (-1), .int .i64 6] → exT C0 0 (inlW C0 [fm_copyTabS] [fw_pick, fw_one] 0 0) ro_168_8 Q ex_168_8_4095 ⟨tb, [⟨0, 0, .cells (RS b (p + 4))⟩, ⟨32, 1, .cells [.nil, .nil]⟩, ⟨40, x1, .cells [.arr 88 x2, .arr 136 x3]⟩, ⟨88, x2, .arr 1 (ints u)⟩, ⟨136, x3, .arr 1 (orowsD t)⟩], g⟩ := by
    intro tb g e0 e4 e5 e6 e33 e34 e35 e36 e37 e38 e39 e40 e41 e42 e43 e44
    unfold ex_168_8_4095
    simp only [exT_alt, exT_one, exT_stop, and_true]
    rw [ro_168_8_12]
    simp [callDOW, l0, l1, rg4, hkt, hyr, orowsD_ge, rowAt, rowB, e0, e4, e5, e6, e33, e34, e35, e36, e37, e38, e39, e40, e41, e42, e43, e44]
    refine n8191 _ _ ?_ ?_ ?_ ?_ ?_ ?_ ?_ ?_ ?_ ?_ ?_ ?_ ?_ ?_ ?_ ?_ ?_ <;> simp [getT, e0, e4, e5, e6, e33, e34, e35, e36, e37, e38, e39, e40, e41, e42, e43, e44]
  have n4079 : ∀ tb g, getT tb 0 = .ptr 0 0 0 → getT tb 4 = .ptr 32 1 0 → getT tb 5 = .ptr 40 x1 0 → getT tb 6 = I64 (k : Int) → getT tb 33 = .ptr 40 x1 1 → getT tb 34 = .arr 136 x3 → getT tb 35 = I64 (k : Int) → getT tb 36 = .ptr 136 x3 k → getT tb 38 = .ptr 0 0 0 → getT tb 39 = .ptr 40 x1 0 → getT tb 40 = .arr 88 x2 → getT tb 41 = I64 (u.length : Int) → getT tb 42 = I64 (y : Int) → getT tb 43 = .ptr 0 0 0 → getT tb 44 = .list 1 [.int .i64 0, .int .i64 1, .int .i64 (-1), .int .i64 6] → exT C0 0 (inlW C0 [fm_copyTabS] [fw_pick, fw_one] 0 0) ro_168_8 Q ex_168_8_4079 ⟨tb, [⟨0, 0, .cells (RS b (p + 4))⟩, ⟨32, 1, .cells [.nil, .nil]⟩, ⟨40, x1, .cells [.arr 88 x2, .arr 136 x3]⟩, ⟨88, x2, .arr 1 (ints u)⟩, ⟨136, x3, .arr 1 (orowsD t)⟩], g⟩ := by
    intro tb g e0 e4 e5 e6 e33 e34 e35 e36 e38 e39 e40 e41 e42 e43 e44
    unfold ex_168_8_4079
    simp only [exT_alt, exT_one, exT_stop, and_true]
    refine ⟨?_, ?_⟩
    · rw [ro_168_8_4]
      simp [callDOW, l0, l1, rg4, hkt, hyr, orowsD_ge, rowAt, rowB, e0, e4, e5, e6, e33, e34, e35, e36, e38, e39, e40, e41, e42, e43, e44]
      refine n4095 _ _ ?_ ?_ ?_ ?_ ?_ ?_ ?_ ?_ ?_ ?_ ?_ ?_ ?_ ?_ ?_ ?_ <;> simp [getT, e0, e4, e5, e6, e33, e34, e35, e36, e38, e39, e40, e41, e42, e43, e44]
    · rw [ro_168_8_12]
      simp [callDOW, l0, l1, rg4, hkt, hyr, orowsD_ge, rowAt, rowB, e0, e4, e5, e6, e33, e34, e35, e36, e38, e39, e40, e41, e42, e43, e44]
      refine n8175 _ _ ?_ ?_ ?_ ?_ ?_ ?_ ?_ ?_ ?_ ?_ ?_ ?_ ?_ ?_ ?_ ?_ <;> simp [getT, e0, e4, e5, e6, e33, e34, e35, e36, e38, e39, e40, e41, e42, e43, e44]
  have n4071 : ∀ tb g, getT tb 0 = .ptr 0 0 0 → getT tb 4 = .ptr 32 1 0 → getT tb 5 = .ptr 40 x1 0 → getT tb 6 = I64 (k : Int) → getT tb 33 = .ptr 40 x1 1 → getT tb 34 = .arr 136 x3 → getT tb 35 = I64 (k : Int) → getT tb 38 = .ptr 0 0 0 → getT tb 39 = .ptr 40 x1 0 → getT tb 40 = .arr 88 x2 → getT tb 41 = I64 (u.length : Int) → getT tb 42 = I64 (y : Int) → getT tb 43 = .ptr 0 0 0 → getT tb 44 = .list 1 [.int .i64 0, .int .i64 1, .int .i64 (-1), .int .i64 6] → exT C0 0 (inlW C0 [fm_copyTabS] [fw_pick, fw_one] 0 0) ro_168_8 Q ex_168_8_4071 ⟨tb, [⟨0, 0, .cells (RS b (p + 4))⟩, ⟨32, 1, .cells [.nil, .nil]⟩, ⟨40, x1, .cells [.arr 88 x2, .arr 136 x3]⟩, ⟨88, x2, .arr 1 (ints u)⟩, ⟨136, x3, .arr 1 (orowsD t)⟩], g⟩ := by
    intro tb g e0 e4 e5 e6 e33 e34 e35 e38 e39 e40 e41 e42 e43 e44
    unfold ex_168_8_4071
    simp only [exT_alt, exT_one, exT_stop, and_true]
    refine ⟨?_, ?_⟩
    · rw [ro_168_8_3]
      simp [callDOW, l0, l1, rg4, hkt, hyr, orowsD_ge, rowAt, rowB, e0, e4, e5, e6, e33, e34, e35, e38, e39, e40, e41, e42, e43, e44]
      refine n4079 _ _ ?_ ?_ ?_ ?_ ?_ ?_ ?_ ?_ ?_ ?_ ?_ ?_ ?_ ?_ ?_ <;> simp [getT, e0, e4, e5, e6, e33, e34, e35, e38, e39, e40, e41, e42, e43, e44]
    · rw [ro_168_8_12]
      simp [callDOW, l0, l1, rg4, hkt, hyr, orowsD_ge, rowAt, rowB, e0, e4, e5, e6, e33, e34, e35, e38, e39, e40, e41, e42, e43, e44]
      refine n8167 _ _ ?_ ?_ ?_ ?_ ?_ ?_ ?_ ?_ ?_ ?_ ?_ ?_ ?_ ?_ ?_ <;> simp [getT, e0, e4, e5, e6, e33, e34, e35, e38, e39, e40, e41, e42, e43, e44]
  have n4069 : ∀ tb g, getT tb 0 = .ptr 0 0 0 → getT tb 4 = .ptr 32 1 0 → getT tb 5 = .ptr 40 x1 0 → getT tb 6 = I64 (k : Int) → getT tb 33 = .ptr 40 x1 1 → getT tb 35 = I64 (k : Int) → getT tb 38 = .ptr 0 0 0 → getT tb 39 = .ptr 40 x1 0 → getT tb 40 = .arr 88 x2 → getT tb 41 = I64 (u.length : Int) → getT tb 42 = I64 (y : Int) → getT tb 43 = .ptr 0 0 0 → getT tb 44 = .list 1 [.int .i64 0, .int .i64 1, .int .i64 (-1), .int .i64 6] → exT C0 0 (inlW C0 [fm_copyTabS] [fw_pick, fw_one] 0 0) ro_168_8 Q ex_168_8_4069 ⟨tb, [⟨0, 0, .cells (RS b (p + 4))⟩, ⟨32, 1, .cells [.nil, .nil]⟩, ⟨40, x1, .cells [.arr 88 x2, .arr 136 x3]⟩, ⟨88, x2, .arr 1 (ints u)⟩, ⟨136, x3, .arr 1 (orowsD t)⟩], g⟩ := by
    intro tb g e0 e4 e5 e6 e33 e35 e38 e39 e40 e41 e42 e43 e44
    unfold ex_168_8_4069
    simp only [exT_alt, exT_one, exT_stop, and_true]
    refine ⟨?_, ?_⟩
    · rw [ro_168_8_1]
      simp [callDOW, l0, l1, rg4, hkt, hyr, orowsD_ge, rowAt, rowB, e0, e4, e5, e6, e33, e35, e38, e39, e40, e41, e42, e43, e44]
      refine n4071 _ _ ?_ ?_ ?_ ?_ ?_ ?_ ?_ ?_ ?_ ?_ ?_ ?_ ?_ ?_ <;> simp [getT, e0, e4, e5, e6, e33, e35, e38, e39, e40, e41, e42, e43, e44]
    · rw [ro_168_8_12]
      simp [callDOW, l0, l1, rg4, hkt, hyr, orowsD_ge, rowAt, rowB, e0, e4, e5, e6, e33, e35, e38, e39, e40, e41, e42, e43, e44]
      refine n8165 _ _ ?_ ?_ ?_ ?_ ?_ ?_ ?_ ?_ ?_ ?_ ?_ ?_ ?_ ?_ <;> simp [getT, e0, e4, e5, e6, e33, e35, e38, e39, e40, e41, e42, e43, e44]
  have n4068 : ∀ tb g, getT tb 0 = .ptr 0 0 0 → getT tb 4 = .ptr 32 1 0 → getT tb 5 = .ptr 40 x1 0 → getT tb 6 = I64 (k : Int) → getT tb 35 = I64 (k : Int) → getT tb 38 = .ptr 0 0 0 → getT tb 39 = .ptr 40 x1 0 → getT tb 40 = .arr 88 x2 → getT tb 41 = I64 (u.length : Int) → getT tb 42 = I64 (y : Int) → getT tb 43 = .ptr 0 0 0 → getT tb 44 = .list 1 [.int .i64 0, .int .i64 1, .int .i64 (-1), .int .i64 6] → exT C0 0 (inlW C0 [fm_copyTabS] [fw_pick, fw_one] 0 0) ro_168_8 Q ex_168_8_4068 ⟨tb, [⟨0, 0, .cells (RS b (p + 4))⟩, ⟨32, 1, .cells [.nil, .nil]⟩, ⟨40, x1, .cells [.arr 88 x2, .arr 136 x3]⟩, ⟨88, x2, .arr 1 (ints u)⟩, ⟨136, x3, .arr 1 (orowsD t)⟩], g⟩ := by
    intro tb g e0 e4 e5 e6 e35 e38 e39 e40 e41 e42 e43 e44
    unfold ex_168_8_4068
    simp only [exT_alt, exT_one, exT_stop, and_true]
    refine ⟨?_, ?_⟩
    · rw [ro_168_8_0]
      simp [callDOW, l0, l1, rg4, hkt, hyr, orowsD_ge, rowAt, rowB, e0, e4, e5, e6, e35, e38, e39, e40, e41, e42, e43, e44]
      refine n4069 _ _ ?_ ?_ ?_ ?_ ?_ ?_ ?_ ?_ ?_ ?_ ?_ ?_ ?_ <;> simp [getT, e0, e4, e5, e6, e35, e38, e39, e40, e41, e42, e43, e44]
    · rw [ro_168_8_12]
      simp [callDOW, l0, l1, rg4, hkt, hyr, orowsD_ge, rowAt, rowB, e0, e4, e5, e6, e35, e38, e39, e40, e41, e42, e43, e44]
      refine n8164 _ _ ?_ ?_ ?_ ?_ ?_ ?_ ?_ ?_ ?_ ?_ ?_ ?_ ?_ <;> simp [getT, e0, e4, e5, e6, e35, e38, e39, e40, e41, e42, e43, e44]
  have n3583 : ∀ tb g, getT tb 0 = .ptr 0 0 0 → getT tb 4 = .ptr 32 1 0 → getT tb 5 = .ptr 40 x1 0 → getT tb 6 = I64 (k : Int) → getT tb 33 = .ptr 40 x1 1 → getT tb 34 = .arr 136 x3 → getT tb 35 = I64 (k : Int) → getT tb 36 = .ptr 136 x3 k → getT tb 37 = .row 136 x3 k → getT tb 38 = .ptr 0 0 0 → getT tb 39 = .ptr 40 x1 0 → getT tb 40 = .arr 88 x2 → getT tb 41 = I64 (u.length : Int) → getT tb 43 = .ptr 0 0 0 → getT tb 44 = .list 1 [.int .i64 0, .int .i64 1, .int .i64 (-1), .int .i64 6] → exT C0 0 (inlW C0 [fm_copyTabS] [fw_pick, fw_one] 0 0) ro_168_8 Q ex_168_8_3583 ⟨tb, [⟨0, 0, .cells (RS b (p + 3))⟩, ⟨32, 1, .cells [.nil, .nil]⟩, ⟨40, x1, .cells [.arr 88 x2, .arr 136 x3]⟩, ⟨88, x2, .arr 1 (ints u)⟩, ⟨136, x3, .arr 1 (orowsD t)⟩], g⟩ := by
    intro tb g e0 e4 e5 e6 e33 e34 e35 e36 e37 e38 e39 e40 e41 e43 e44
    unfold ex_168_8_3583
    simp only [exT_alt, exT_one, exT_stop, and_true]
    rw [ro_168_8_9]
    simp [callDOW, l0, l1, rg4, hkt, hyr, orowsD_ge, rowAt, rowB, e0, e4, e5, e6, e33, e34, e35, e36, e37, e38, e39, e40, e41, e43, e44]
    refine n4095 _ _ ?_ ?_ ?_ ?_ ?_ ?_ ?_ ?_ ?_ ?_ ?_ ?_ ?_ ?_ ?_ ?_ <;> simp [getT, e0, e4, e5, e6, e33, e34, e35, e36, e37, e38, e39, e40, e41, e43, e44]
  have n3567 : ∀ tb g, getT tb 0 = .ptr 0 0 0 → getT tb 4 = .ptr 32 1 0 → getT tb 5 = .ptr 40 x1 0 → getT tb 6 = I64 (k : Int) → getT tb 33 = .ptr 40 x1 1 → getT tb 34 = .arr 136 x3 → getT tb 35 = I64 (k : Int) → getT tb 36 = .ptr 136 x3 k → getT tb 38 = .ptr 0 0 0 → getT tb 39 = .ptr 40 x1 0 → getT tb 40 = .arr 88 x2 → getT tb 41 = I64 (u.length : Int) → getT tb 43 = .ptr 0 0 0 → getT tb 44 = .list 1 [.int .i64 0, .int .i64 1, .int .i64 (-1), .int .i64 6] → exT C0 0 (inlW C0 [fm_copyTabS] [fw_pick, fw_one] 0 0) ro_168_8 Q ex_168_8_3567 ⟨tb, [⟨0, 0, .cells (RS b (p + 3))⟩, ⟨32, 1, .cells [.nil, .nil]⟩, ⟨40, x1, .cells [.arr 88 x2, .arr 136 x3]⟩, ⟨88, x2, .arr 1 (ints u)⟩, ⟨136, x3, .arr 1 (orowsD t)⟩], g⟩ := by
    intro tb g e0 e4 e5 e6 e33 e34 e35 e36 e38 e39 e40 e41 e43 e44
    unfold ex_168_8_3567
    simp only [exT_alt, exT_one, exT_stop, and_true]
    refine ⟨?_, ?_⟩
    · rw [ro_168_8_4]
      simp [callDOW, l0, l1, rg4, hkt, hyr, orowsD_ge, rowAt, rowB, e0, e4, e5, e6, e33, e34, e35, e36, e38, e39, e40, e41, e43, e44]
      refine n3583 _ _ ?_ ?_ ?_ ?_ ?_ ?_ ?_ ?_ ?_ ?_ ?_ ?_ ?_ ?_ ?_ <;> simp [getT, e0, e4, e5, e6, e33, e34, e35, e36, e38, e39, e40, e41, e43, e44]
    · rw [ro_168_8_9]
      simp [callDOW, l0, l1, rg4, hkt, hyr, orowsD_ge, rowAt, rowB, e0, e4, e5, e6, e33, e34, e35, e36, e38, e39, e40, e41, e43, e44]
      refine n4079 _ _ ?_ ?_ ?_ ?_ ?_ ?_ ?_ ?_ ?_ ?_ ?_ ?_ ?_ ?_ ?_ <;> simp [getT, e0, e4, e5, e6, e33, e34, e35, e36, e38, e39, e40, e41, e43, e44]
  have n3559 : ∀ tb g, getT tb 0 = .ptr 0 0 0 → getT tb 4 = .ptr 32 1 0 → getT tb 5 = .ptr 40 x1 0 → getT tb 6 = I64 (k : Int) → getT tb 33 = .ptr 40 x1 1 → getT tb 34 = .arr 136 x3 → getT tb 35 = I64 (k : Int) → getT tb 38 = .ptr 0 0 0 → getT tb 39 = .ptr 40 x1 0 → getT tb 40 = .arr 88 x2 → getT tb 41 = I64 (u.length : Int) → getT tb 43 = .ptr 0 0 0 → getT tb 44 = .list 1 [.int .i64 0, .int .i64 1, .int .i64 (-1), .int .i64 6] → exT C0 0 (inlW C0 [fm_copyTabS] [fw_pick, fw_one] 0 0) ro_168_8 Q ex_168_8_3559 ⟨tb, [⟨0, 0, .cells (RS b (p + 3))⟩, ⟨32, 1, .cells [.nil, .nil]⟩, ⟨40, x1, .cells [.arr 88 x2, .arr 136 x3]⟩, ⟨88, x2, .arr 1 (ints u)⟩, ⟨136, x3, .arr 1 (orowsD t)⟩], g⟩ := by
    intro tb g e0 e4 e5 e6 e33 e34 e35 e38 e39 e40 e41 e43 e44
    unfold ex_168_8_3559
    simp only [exT_alt, exT_one, exT_stop, and_true]
    refine ⟨?_, ?_⟩
    · rw [ro_168_8_3]
      simp [callDOW, l0, l1, rg4, hkt, hyr, orowsD_ge, rowAt, rowB, e0, e4, e5, e6, e33, e34, e35, e38, e39, e40, e41, e43, e44]
      refine n3567 _ _ ?_ ?_ ?_ ?_ ?_ ?_ ?_ ?_ ?_ ?_ ?_ ?_ ?_ ?_ <;> simp [getT, e0, e4, e5, e6, e33, e34, e35, e38, e39, e40, e41, e43, e44]
    · rw [ro_168_8_9]
      simp [callDOW, l0, l1, rg4, hkt, hyr, orowsD_ge, rowAt, rowB, e0, e4, e5, e6, e33, e34, e35, e38, e39, e40, e41, e43, e44]
      refine n4071 _ _ ?_ ?_ ?_ ?_ ?_ ?_ ?_ ?_ ?_ ?_ ?_ ?_ ?_ ?_ <;> simp [getT, e0, e4, e5, e6, e33, e34, e35, e38, e39, e40, e41, e43, e44]
  have n3557 : ∀ tb g, getT tb 0 = .ptr 0 0 0 → getT tb 4 = .ptr 32 1 0 → getT tb 5 = .ptr 40 x1 0 → getT tb 6 = I64 (k : Int) → getT tb 33 = .ptr 40 x1 1 → getT tb 35 = I64 (k : Int) → getT tb 38 = .ptr 0 0 0 → getT tb 39 = .ptr 40 x1 0 → getT tb 40 = .arr 88 x2 → getT tb 41 = I64 (u.length : Int) → getT tb 43 = .ptr 0 0 0 → getT tb 44 = .list 1 [.int .i64 0, .int .i64 1, .int .i64 (-1), .int .i64 6] → exT C0 0 (inlW C0 [fm_copyTabS] [fw_pick, fw_one] 0 0) ro_168_8 Q ex_168_8_3557 ⟨tb, [⟨0, 0, .cells (RS b (p + 3))⟩, ⟨32, 1, .cells [.nil, .nil]⟩, ⟨40, x1, .cells [.arr 88 x2, .arr 136 x3]⟩, ⟨88, x2, .arr 1 (ints u)⟩, ⟨136, x3, .arr 1 (orowsD t)⟩], g⟩ := by
    intro tb g e0 e4 e5 e6 e33 e35 e38 e39 e40 e41 e43 e44
    unfold ex_168_8_3557
    simp only [exT_alt, exT_one, exT_stop, and_true]
    refine ⟨?_, ?_⟩
    · rw [ro_168_8_1]
      simp [callDOW, l0, l1, rg4, hkt, hyr, orowsD_ge, rowAt, rowB, e0, e4, e5, e6, e33, e35, e38, e39, e40, e41, e43, e44]
      refine n3559 _ _ ?_ ?_ ?_ ?_ ?_ ?_ ?_ ?_ ?_ ?_ ?_ ?_ ?_ <;> simp [getT, e0, e4, e5, e6, e33, e35, e38, e39, e40, e41, e43, e44]
    · rw [ro_168_8_9]
      simp [callDOW, l0, l1, rg4, hkt, hyr, orowsD_ge, rowAt, rowB, e0, e4, e5, e6, e33, e35, e38, e39, e40, e41, e43, e44]
      refine n4069 _ _ ?_ ?_ ?_ ?_ ?_ ?_ ?_ ?_ ?_ ?_ ?_ ?_ ?_ <;> simp [getT, e0, e4, e5, e6, e33, e35, e38, e39, e40, e41, e43, e44]
  have n3556 : ∀ tb g, getT tb 0 = .ptr 0 0 0 → getT tb 4 = .ptr 32 1 0 → getT tb 5 = .ptr 40 x1 0 → getT tb 6 = I64 (k : Int) → getT tb 35 = I64 (k : Int) → getT tb 38 = .ptr 0 0 0 → getT tb 39 = .ptr 40 x1 0 → getT tb 40 = .arr 88 x2 → getT tb 41 = I64 (u.length : Int) → getT tb 43 = .ptr 0 0 0 → getT tb 44 = .list 1 [.int .i64 0, .int .i64 1, .int .i64 (-1), .int .i64 6] → exT C0 0 (inlW C0 [fm_copyTabS] [fw_pick, fw_one] 0 0) ro_168_8 Q ex_168_8_3556 ⟨tb, [⟨0, 0, .cells (RS b (p + 3))⟩, ⟨32, 1, .cells [.nil, .nil]⟩, ⟨40, x1, .cells [.arr 88 x2, .arr 136 x3]⟩, ⟨88, x2, .arr 1 (ints u)⟩, ⟨136, x3, .arr 1 (orowsD t)⟩], g⟩ := by
    intro tb g e0 e4 e5 e6 e35 e38 e39 e40 e41 e43 e44
    unfold ex_168_8_3556
    simp only [exT_alt, exT_one, exT_stop, and_true]
    refine ⟨?_, ?_⟩
    · rw [ro_168_8_0]
      simp [callDOW, l0, l1, rg4, hkt, hyr, orowsD_ge, rowAt, rowB, e0, e4, e5, e6, e35, e38, e39, e40, e41, e43, e44]
      refine n3557 _ _ ?_ ?_ ?_ ?_ ?_ ?_ ?_ ?_ ?_ ?_ ?_ ?_ <;> simp [getT, e0, e4, e5, e6, e35, e38, e39, e40, e41, e43, e44]
    · rw [ro_168_8_9]
      simp [callDOW, l0, l1, rg4, hkt, hyr, orowsD_ge, rowAt, rowB, e0, e4, e5, e6, e35, e38, e39, e40, e41, e43, e44]
      refine n4068 _ _ ?_ ?_ ?_ ?_ ?_ ?_ ?_ ?_ ?_ ?_ ?_ ?_ <;> simp [getT, e0, e4, e5, e6, e35, e38, e39, e40, e41, e43, e44]
  have n3327 : ∀ tb g, getT tb 0 = .ptr 0 0 0 → getT tb 4 = .ptr 32 1 0 → getT tb 5 = .ptr 40 x1 0 → getT tb 6 = I64 (k : Int) → getT tb 33 = .ptr 40 x1 1 → getT tb 34 = .arr 136 x3 → getT tb 35 = I64 (k : Int) → getT tb 36 = .ptr 136 x3 k → getT tb 37 = .row 136 x3 k → getT tb 38 = .ptr 0 0 0 → getT tb 39 = .ptr 40 x1 0 → getT tb 40 = .arr 88 x2 → getT tb 43 = .ptr 0 0 0 → getT tb 44 = .list 1 [.int .i64 0, .int .i64 1, .int .i64 (-1), .int .i64 6] → exT C0 0 (inlW C0 [fm_copyTabS] [fw_pick, fw_one] 0 0) ro_168_8 Q ex_168_8_3327 ⟨tb, [⟨0, 0, .cells (RS b (p + 3))⟩, ⟨32, 1, .cells [.nil, .nil]⟩, ⟨40, x1, .cells [.arr 88 x2, .arr 136 x3]⟩, ⟨88, x2, .arr 1 (ints u)⟩, ⟨136, x3, .arr 1 (orowsD t)⟩], g⟩ := by
    intro tb g e0 e4 e5 e6 e33 e34 e35 e36 e37 e38 e39 e40 e43 e44
    unfold ex_168_8_3327
    simp only [exT_alt, exT_one, exT_stop, and_true]
    rw [ro_168_8_8]
    simp [callDOW, l0, l1, rg4, hkt, hyr, orowsD_ge, rowAt, rowB, e0, e4, e5, e6, e33, e34, e35, e36, e37, e38, e39, e40, e43, e44]
    refine n3583 _ _ ?_ ?_ ?_ ?_ ?_ ?_ ?_ ?_ ?_ ?_ ?_ ?_ ?_ ?_ ?_ <;> simp [getT, e0, e4, e5, e6, e33, e34, e35, e36, e37, e38, e39, e40, e43, e44]
  have n3311 : ∀ tb g, getT tb 0 = .ptr 0 0 0 → getT tb 4 = .ptr 32 1 0 → getT tb 5 = .ptr 40 x1 0 → getT tb 6 = I64 (k : Int) → getT tb 33 = .ptr 40 x1 1 → getT tb 34 = .arr 136 x3 → getT tb 35 = I64 (k : Int) → getT tb 36 = .ptr 136 x3 k → getT tb 38 = .ptr 0 0 0 → getT tb 39 = .ptr 40 x1 0 → getT tb 40 = .arr 88 x2 → getT tb 43 = .ptr 0 0 0 → getT tb 44 = .list 1 [.int .i64 0, .int .i64 1, .int .i64 (-1), .int .i64 6] → exT C0 0 (inlW C0 [fm_copyTabS] [fw_pick, fw_one] 0 0) ro_168_8 Q ex_168_8_3311 ⟨tb, [⟨0, 0, .cells (RS b (p + 3))⟩, ⟨32, 1, .cells [.nil, .nil]⟩, ⟨40, x1, .cells [.arr 88 x2, .arr 136 x3]⟩, ⟨88, x2, .arr 1 (ints u)⟩, ⟨136, x3, .arr 1 (orowsD t)⟩], g⟩ := by
    intro tb g e0 e4 e5 e6 e33 e34 e35 e36 e38 e39 e40 e43 e44
    unfold ex_168_8_3311
    simp only [exT_alt, exT_one, exT_stop, and_true]
    refine ⟨?_, ?_⟩
    · rw [ro_168_8_4]
      simp [callDOW, l0, l1, rg4, hkt, hyr, orowsD_ge, rowAt, rowB, e0, e4, e5, e6, e33, e34, e35, e36, e38, e39, e40, e43, e44]
      refine n3327 _ _ ?_ ?_ ?_ ?_ ?_ ?_ ?_ ?_ ?_ ?_ ?_ ?_ ?_ ?_ <;> simp [getT, e0, e4, e5, e6, e33, e34, e35, e36, e38, e39, e40, e43, e44]
    · rw [ro_168_8_8]
      simp [callDOW, l0, l1, rg4, hkt, hyr, orowsD_ge, rowAt, rowB, e0, e4, e5, e6, e33, e34, e35, e36, e38, e39, e40, e43, e44]
      refine n3567 _ _ ?_ ?_ ?_ ?_ ?_ ?_ ?_ ?_ ?_ ?_ ?_ ?_ ?_ ?_ <;> simp [getT, e0, e4, e5, e6, e33, e34, e35, e36, e38, e39, e40, e43, e44]
  have n3303 : ∀ tb g, getT tb 0 = .ptr 0 0 0 → getT tb 4 = .ptr 32 1 0 → getT tb 5 = .ptr 40 x1 0 → getT tb 6 = I64 (k : Int) → getT tb 33 = .ptr 40 x1 1 → getT tb 34 = .arr 136 x3 → getT tb 35 = I64 (k : Int) → getT tb 38 = .ptr 0 0 0 → getT tb 39 = .ptr 40 x1 0 → getT tb 40 = .arr 88 x2 → getT tb 43 = .ptr 0 0 0 → getT tb 44 = .list 1 [.int .i64 0, .int .i64 1, .int .i64 (-1), .int .i64 6] → exT C0 0 (inlW C0 [fm_copyTabS] [fw_pick, fw_one] 0 0) ro_168_8 Q ex_168_8_3303 ⟨tb, [⟨0, 0, .cells (RS b (p + 3))⟩, ⟨32, 1, .cells [.nil, .nil]⟩, ⟨40, x1, .cells [.arr 88 x2, .arr 136 x3]⟩, ⟨88, x2, .arr 1 (ints u)⟩, ⟨136, x3, .arr 1 (orowsD t)⟩], g⟩ := by
    intro tb g e0 e4 e5 e6 e33 e34 e35 e38 e39 e40 e43 e44
    unfold ex_168_8_3303
    simp only [exT_alt, exT_one, exT_stop, and_true]
    refine ⟨?_, ?_⟩
    · rw [ro_168_8_3]
      simp [callDOW, l0, l1, rg4, hkt, hyr, orowsD_ge, rowAt, rowB, e0, e4, e5, e6, e33, e34, e35, e38, e39, e40, e43, e44]
      refine n3311 _ _ ?_ ?_ ?_ ?_ ?_ ?_ ?_ ?_ ?_ ?_ ?_ ?_ ?_ <;> simp [getT, e0, e4, e5, e6, e33, e34, e35, e38, e39, e40, e43, e44]
    · rw [ro_168_8_8]
      simp [callDOW, l0, l1, rg4, hkt, hyr, orowsD_ge, rowAt, rowB, e0, e4, e5, e6, e33, e34, e35, e38, e39, e40, e43, e44]
      refine n3559 _ _ ?_ ?_ ?_ ?_ ?_ ?_ ?_ ?_ ?_ ?_ ?_ ?_ ?_ <;> simp [getT, e0, e4, e5, e6, e33, e34, e35, e38, e39, e40, e43, e44]
  have n3301 : ∀ tb g, getT tb 0 = .ptr 0 0 0 → getT tb 4 = .ptr 32 1 0 → getT tb 5 = .ptr 40 x1 0 → getT tb 6 = I64 (k : Int) → getT tb 33 = .ptr 40 x1 1 → getT tb 35 = I64 (k : Int) → getT tb 38 = .ptr 0 0 0 → getT tb 39 = .ptr 40 x1 0 → getT tb 40 = .arr 88 x2 → getT tb 43 = .ptr 0 0 0 → getT tb 44 = .list 1 [.int .i64 0, .int .i64 1, .int .i64 (-1), .int .i64 6] → exT C0 0 (inlW C0 [fm_copyTabS] [fw_pick, fw_one] 0 0) ro_168_8 Q ex_168_8_3301 ⟨tb, [⟨0, 0, .cells (RS b (p + 3))⟩, ⟨32, 1, .cells [.nil, .nil]⟩, ⟨40, x1, .cells [.arr 88 x2, .arr 136 x3]⟩, ⟨88, x2, .arr 1 (ints u)⟩, ⟨136, x3, .arr 1 (orowsD t)⟩], g⟩ := by
    intro tb g e0 e4 e5 e6 e33 e35 e38 e39 e40 e43 e44
    unfold ex_168_8_3301
    simp only [exT_alt, exT_one, exT_stop, and_true]
    refine ⟨?_, ?_⟩
    · rw [ro_168_8_1]
      simp [callDOW, l0, l1, rg4, hkt, hyr, orowsD_ge, rowAt, rowB, e0, e4, e5, e6, e33, e35, e38, e39, e40, e43, e44]
      refine n3303 _ _ ?_ ?_ ?_ ?_ ?_ ?_ ?_ ?_ ?_ ?_ ?_ ?_ <;> simp [getT, e0, e4, e5, e6, e33, e35, e38, e39, e40, e43, e44]
    · rw [ro_168_8_8]
      simp [callDOW, l0, l1, rg4, hkt, hyr, orowsD_ge, rowAt, rowB, e0, e4, e5, e6, e33, e35, e38, e39, e40, e43, e44]
      refine n3557 _ _ ?_ ?_ ?_ ?_ ?_ ?_ ?_ ?_ ?_ ?_ ?_ ?_ <;> simp [getT, e0, e4, e5, e6, e33, e35, e38, e39, e40, e43, e44]
  have n3300 : ∀ tb g, getT tb 0 = .ptr 0 0 0 → getT tb 4 = .ptr 32 1 0 → getT tb 5 = .ptr 40 x1 0 → getT tb 6 = I64 (k : Int) → getT tb 35 = I64 (k : Int) → getT tb 38 = .ptr 0 0 0 → getT tb 39 = .ptr 40 x1 0 → getT tb 40 = .arr 88 x2 → getT tb 43 = .ptr 0 0 0 → getT tb 44 = .list 1 [.int .i64 0, .int .i64 1, .int .i64 (-1), .int .i64 6] → exT C0 0 (inlW C0 [fm_copyTabS] [fw_pick, fw_one] 0 0) ro_168_8 Q ex_168_8_3300 ⟨tb, [⟨0, 0, .cells (RS b (p + 3))⟩, ⟨32, 1, .cells [.nil, .nil]⟩, ⟨40, x1, .cells [.arr 88 x2, .arr 136 x3]⟩, ⟨88, x2, .arr 1 (ints u)⟩, ⟨136, x3, .arr 1 (orowsD t)⟩], g⟩ := by
    intro tb g e0 e4 e5 e6 e35 e38 e39 e40 e43 e44
    unfold ex_168_8_3300
    simp only [exT_alt, exT_one, exT_stop, and_true]
    refine ⟨?_, ?_⟩
    · rw [ro_168_8_0]
      simp [callDOW, l0, l1, rg4, hkt, hyr, orowsD_ge, rowAt, rowB, e0, e4, e5, e6, e35, e38, e39, e40, e43, e44]
      refine n3301 _ _ ?_ ?_ ?_ ?_ ?_ ?_ ?_ ?_ ?_ ?_ ?_ <;> simp [getT, e0, e4, e5, e6, e35, e38, e39, e40, e43, e44]
    · rw [ro_168_8_8]
      simp [callDOW, l0, l1, rg4, hkt, hyr, orowsD_ge, rowAt, rowB, e0, e4, e5, e6, e35, e38, e39, e40, e43, e44]
      refine n3556 _ _ ?_ ?_ ?_ ?_ ?_ ?_ ?_ ?_ ?_ ?_ ?_ <;> simp [getT, e0, e4, e5, e6, e35, e38, e39, e40, e43, e44]
  have n3199 : ∀ tb g, getT tb 0 = .ptr 0 0 0 → getT tb 4 = .ptr 32 1 0 → getT tb 5 = .ptr 40 x1 0 → getT tb 6 = I64 (k : Int) → getT tb 33 = .ptr 40 x1 1 → getT tb 34 = .arr 136 x3 → getT tb 35 = I64 (k : Int) → getT tb 36 = .ptr 136 x3 k → getT tb 37 = .row 136 x3 k → getT tb 38 = .ptr 0 0 0 → getT tb 39 = .ptr 40 x1 0 → getT tb 43 = .ptr 0 0 0 → getT tb 44 = .list 1 [.int .i64 0, .int .i64 1, .int .i64 (-1), .int .i64 6] → exT C0 0 (inlW C0 [fm_copyTabS] [fw_pick, fw_one] 0 0) ro_168_8 Q ex_168_8_3199 ⟨tb, [⟨0, 0, .cells (RS b (p + 3))⟩, ⟨32, 1, .cells [.nil, .nil]⟩, ⟨40, x1, .cells [.arr 88 x2, .arr 136 x3]⟩, ⟨88, x2, .arr 1 (ints u)⟩, ⟨136, x3, .arr 1 (orowsD t)⟩], g⟩ := by
    intro tb g e0 e4 e5 e6 e33 e34 e35 e36 e37 e38 e39 e43 e44
    unfold ex_168_8_3199
    simp only [exT_alt, exT_one, exT_stop, and_true]
    rw [ro_168_8_7]
    simp [callDOW, l0, l1, rg4, hkt, hyr, orowsD_ge, rowAt, rowB, e0, e4, e5, e6, e33, e34, e35, e36, e37, e38, e39, e43, e44]
    refine n3327 _ _ ?_ ?_ ?_ ?_ ?_ ?_ ?_ ?_ ?_ ?_ ?_ ?_ ?_ ?_ <;> simp [getT, e0, e4, e5, e6, e33, e34, e35, e36, e37, e38, e39, e43, e44]
  have n3183 : ∀ tb g, getT tb 0 = .ptr 0 0 0 → getT tb 4 = .ptr 32 1 0 → getT tb 5 = .ptr 40 x1 0 → getT tb 6 = I64 (k : Int) → getT tb 33 = .ptr 40 x1 1 → getT tb 34 = .arr 136 x3 → getT tb 35 = I64 (k : Int) → getT tb 36 = .ptr 136 x3 k → getT tb 38 = .ptr 0 0 0 → getT tb 39 = .ptr 40 x1 0 → getT tb 43 = .ptr 0 0 0 → getT tb 44 = .list 1 [.int .i64 0, .int .i64 1, .int .i64 (-1), .int .i64 6] → exT C0 0 (inlW C0 [fm_copyTabS] [fw_pick, fw_one] 0 0) ro_168_8 Q ex_168_8_3183 ⟨tb, [⟨0, 0, .cells (RS b (p + 3))⟩, ⟨32, 1, .cells [.nil, .nil]⟩, ⟨40, x1, .cells [.arr 88 x2, .arr 136 x3]⟩, ⟨88, x2, .arr 1 (ints u)⟩, ⟨136, x3, .arr 1 (orowsD t)⟩], g⟩ := by
    intro tb g e0 e4 e5 e6 e33 e34 e35 e36 e38 e39 e43 e44
    unfold ex_168_8_3183
    simp only [exT_alt, exT_one, exT_stop, and_true]
    refine ⟨?_, ?_⟩
    · rw [ro_168_8_4]
      simp [callDOW, l0, l1, rg4, hkt, hyr, orowsD_ge, rowAt, rowB, e0, e4, e5, e6, e33, e34, e35, e36, e38, e39, e43, e44]
      refine n3199 _ _ ?_ ?_ ?_ ?_ ?_ ?_ ?_ ?_ ?_ ?_ ?_ ?_ ?_ <;> simp [getT, e0, e4, e5, e6, e33, e34, e35, e36, e38, e39, e43, e44]
    · rw [ro_168_8_7]
      simp [callDOW, l0, l1, rg4, hkt, hyr, orowsD_ge, rowAt, rowB, e0, e4, e5, e6, e33, e34, e35, e36, e38, e39, e43, e44]
      refine n3311 _ _ ?_ ?_ ?_ ?_ ?_ ?_ ?_ ?_ ?_ ?_ ?_ ?_ ?_ <;> simp [getT, e0, e4, e5, e6, e33, e34, e35, e36, e38, e39, e43, e44]
  have n3175 : ∀ tb g, getT tb 0 = .ptr 0 0 0 → getT tb 4 = .ptr 32 1 0 → getT tb 5 = .ptr 40 x1 0 → getT tb 6 = I64 (k : Int) → getT tb 33 = .ptr 40 x1 1 → getT tb 34 = .arr 136 x3 → getT tb 35 = I64 (k : Int) → getT tb 38 = .ptr 0 0 0 → getT tb 39 = .ptr 40 x1 0 → getT tb 43 = .ptr 0 0 0 → getT tb 44 = .list 1 [.int .i64 0, .int .i64 1, .int .i64 (-1), .int .i64 6] → exT C0 0 (inlW C0 [fm_copyTabS] [fw_pick, fw_one] 0 0) ro_168_8 Q ex_168_8_3175 ⟨tb, [⟨0, 0, .cells (RS b (p + 3))⟩, ⟨32, 1, .cells [.nil, .nil]⟩, ⟨40, x1, .cells [.arr 88 x2, .arr 136 x3]⟩, ⟨88, x2, .arr 1 (ints u)⟩, ⟨136, x3, .arr 1 (orowsD t)⟩], g⟩ := by
    intro tb g e0 e4 e5 e6 e33 e34 e35 e38 e39 e43 e44
    unfold ex_168_8_3175
    simp only [exT_alt, exT_one, exT_stop, and_true]
    refine ⟨?_, ?_⟩
    · rw [ro_168_8_3]
      simp [callDOW, l0, l1, rg4, hkt, hyr, orowsD_ge, rowAt, rowB, e0, e4, e5, e6, e33, e34, e35, e38, e39, e43, e44]
      refine n3183 _ _ ?_ ?_ ?_ ?_ ?_ ?_ ?_ ?_ ?_ ?_ ?_ ?_ <;> simp [getT, e0, e4, e5, e6, e33, e34, e35, e38, e39, e43, e44]
    · rw [ro_168_8_7]
      simp [callDOW, l0, l1, rg4, hkt, hyr, orowsD_ge, rowAt, rowB, e0, e4, e5, e6, e33, e34, e35, e38, e39, e43, e44]
      refine n3303 _ _ ?_ ?_ ?_ ?_ ?_ ?_ ?_ ?_ ?_ ?_ ?_ ?_ <;> simp [getT, e0, e4, e5, e6, e33, e34, e35, e38, e39, e43, e44]
  have n3173 : ∀ tb g, getT tb 0 = .ptr 0 0 0 → getT tb 4 = .ptr 32 1 0 → getT tb 5 = .ptr 40 x1 0 → getT tb 6 = I64 (k : Int) → getT tb 33 = .ptr 40 x1 1 → getT tb 35 = I64 (k : Int) → getT tb 38 = .ptr 0 0 0 → getT tb 39 = .ptr 40 x1 0 → getT tb 43 = .ptr 0 0 0 → getT tb 44 = .list 1 [.int .i64 0, .int .i64 1, .int .i64 (-1), .int .i64 6] → exT C0 0 (inlW C0 [fm_copyTabS] [fw_pick, fw_one] 0 0) ro_168_8 Q ex_168_8_3173 ⟨tb, [⟨0, 0, .cells (RS b (p + 3))⟩, ⟨32, 1, .cells [.nil, .nil]⟩, ⟨40, x1, .cells [.arr 88 x2, .arr 136 x3]⟩, ⟨88, x2, .arr 1 (ints u)⟩, ⟨136, x3, .arr 1 (orowsD t)⟩], g⟩ := by
    intro tb g e0 e4 e5 e6 e33 e35 e38 e39 e43 e44
    unfold ex_168_8_3173
    simp only [exT_alt, exT_one, exT_stop, and_true]
    refine ⟨?_, ?_⟩
    · rw [ro_168_8_1]
      simp [callDOW, l0, l1, rg4, hkt, hyr, orowsD_ge, rowAt, rowB, e0, e4, e5, e6, e33, e35, e38, e39, e43, e44]
      refine n3175 _ _ ?_ ?_ ?_ ?_ ?_ ?_ ?_ ?_ ?_ ?_ ?_ <;> simp [getT, e0, e4, e5, e6, e33, e35, e38, e39, e43, e44]
    · rw [ro_168_8_7]
      simp [callDOW, l0, l1, rg4, hkt, hyr, orowsD_ge, rowAt, rowB, e0, e4, e5, e6, e33, e35, e38, e39, e43, e44]
      refine n3301 _ _ ?_ ?_ ?_ ?_ ?_ ?_ ?_ ?_ ?_ ?_ ?_ <;> simp [getT, e0, e4, e5, e6, e33, e35, e38, e39, e43, e44]
  have n3172 : ∀ tb g, getT tb 0 = .ptr 0 0 0 → getT tb 4 = .ptr 32 1 0 → getT tb 5 = .ptr 40 x1 0 → getT tb 6 = I64 (k : Int) → getT tb 35 = I64 (k : Int) → getT tb 38 = .ptr 0 0 0 → getT tb 39 = .ptr 40 x1 0 → getT tb 43 = .ptr 0 0 0 → getT tb 44 = .list 1 [.int .i64 0, .int .i64 1, .int .i64 (-1), .int .i64 6] → exT C0 0 (inlW C0 [fm_copyTabS] [fw_pick, fw_one] 0 0) ro_168_8 Q ex_168_8_3172 ⟨tb, [⟨0, 0, .cells (RS b (p + 3))⟩, ⟨32, 1, .cells [.nil, .nil]⟩, ⟨40, x1, .cells [.arr 88 x2, .arr 136 x3]⟩, ⟨88, x2, .arr 1 (ints u)⟩, ⟨136, x3, .arr 1 (orowsD t)⟩], g⟩ := by
    intro tb g e0 e4 e5 e6 e35 e38 e39 e43 e44
    unfold ex_168_8_3172
    simp only [exT_alt, exT_one, exT_stop, and_true]
    refine ⟨?_, ?_⟩
    · rw [ro_168_8_0]
      simp [callDOW, l0, l1, rg4, hkt, hyr, orowsD_ge, rowAt, rowB, e0, e4, e5, e6, e35, e38, e39, e43, e44]
      refine n3173 _ _ ?_ ?_ ?_ ?_ ?_ ?_ ?_ ?_ ?_ ?_ <;> simp [getT, e0, e4, e5, e6, e35, e38, e39, e43, e44]
    · rw [ro_168_8_7]
      simp [callDOW, l0, l1, rg4, hkt, hyr, orowsD_ge, rowAt, rowB, e0, e4, e5, e6, e35, e38, e39, e43, e44]
      refine n3300 _ _ ?_ ?_ ?_ ?_ ?_ ?_ ?_ ?_ ?_ ?_ <;> simp [getT, e0, e4, e5, e6, e35, e38, e39, e43, e44]
  have n3135 : ∀ tb g, getT tb 0 = .ptr 0 0 0 → getT tb 4 = .ptr 32 1 0 → getT tb 5 = .ptr 40 x1 0 → getT tb 6 = I64 (k : Int) → getT tb 33 = .ptr 40 x1 1 → getT tb 34 = .arr 136 x3 → getT tb 35 = I64 (k : Int) → getT tb 36 = .ptr 136 x3 k → getT tb 37 = .row 136 x3 k → getT tb 38 = .ptr 0 0 0 → getT tb 43 = .ptr 0 0 0 → getT tb 44 = .list 1 [.int .i64 0, .int .i64 1, .int .i64 (-1), .int .i64 6] → exT C0 0 (inlW C0 [fm_copyTabS] [fw_pick, fw_one] 0 0) ro_168_8 Q ex_168_8_3135 ⟨tb, [⟨0, 0, .cells (RS b (p + 3))⟩, ⟨32, 1, .cells [.nil, .nil]⟩, ⟨40, x1, .cells [.arr 88 x2, .arr 136 x3]⟩, ⟨88, x2, .arr 1 (ints u)⟩, ⟨136, x3, .arr 1 (orowsD t)⟩], g⟩ := by
    intro tb g e0 e4 e5 e6 e33 e34 e35 e36 e37 e38 e43 e44
    unfold ex_168_8_3135
    simp only [exT_alt, exT_one, exT_stop, and_true]
    rw [ro_168_8_6]
    simp [callDOW, l0, l1, rg4, hkt, hyr, orowsD_ge, rowAt, rowB, e0, e4, e5, e6, e33, e34, e35, e36, e37, e38, e43, e44]
    refine n3199 _ _ ?_ ?_ ?_ ?_ ?_ ?_ ?_ ?_ ?_ ?_ ?_ ?_ ?_ <;> simp [getT, e0, e4, e5, e6, e33, e34, e35, e36, e37, e38, e43, e44]
  have n3119 : ∀ tb g, getT tb 0 = .ptr 0 0 0 → getT tb 4 = .ptr 32 1 0 → getT tb 5 = .ptr 40 x1 0 → getT tb 6 = I64 (k : Int) → getT tb 33 = .ptr 40 x1 1 → getT tb 34 = .arr 136 x3 → getT tb 35 = I64 (k : Int) → getT tb 36 = .ptr 136 x3 k → getT tb 38 = .ptr 0 0 0 → getT tb 43 = .ptr 0 0 0 → getT tb 44 = .list 1 [.int .i64 0, .int .i64 1, .int .i64 (-1), .int .i64 6] → exT C0 0 (inlW C0 [fm_copyTabS] [fw_pick, fw_one] 0 0) ro_168_8 Q ex_168_8_3119 ⟨tb, [⟨0, 0, .cells (RS b (p + 3))⟩, ⟨32, 1, .cells [.nil, .nil]⟩, ⟨40, x1, .cells [.arr 88 x2, .arr 136 x3]⟩, ⟨88, x2, .arr 1 (ints u)⟩, ⟨136, x3, .arr 1 (orowsD t)⟩], g⟩ := by
    intro tb g e0 e4 e5 e6 e33 e34 e35 e36 e38 e43 e44
    unfold ex_168_8_3119
    simp only [exT_alt, exT_one, exT_stop, and_true]
    refine ⟨?_, ?_⟩
    · rw [ro_168_8_4]
      simp [callDOW, l0, l1, rg4, hkt, hyr, orowsD_ge, rowAt, rowB, e0, e4, e5, e6, e33, e34, e35, e36, e38, e43, e44]
      refine n3135 _ _ ?_ ?_ ?_ ?_ ?_ ?_ ?_ ?_ ?_ ?_ ?_ ?_ <;> simp [getT, e0, e4, e5, e6, e33, e34, e35, e36, e38, e43, e44]
    · rw [ro_168_8_6]
      simp [callDOW, l0, l1, rg4, hkt, hyr, orowsD_ge, rowAt, rowB, e0, e4, e5, e6, e33, e34, e35, e36, e38, e43, e44]
      refine n3183 _ _ ?_ ?_ ?_ ?_ ?_ ?_ ?_ ?_ ?_ ?_ ?_ ?_ <;> simp [getT, e0, e4, e5, e6, e33, e34, e35, e36, e38, e43, e44]
  have n3111 : ∀ tb g, getT tb 0 = .ptr 0 0 0 → getT tb 4 = .ptr 32 1 0 → getT tb 5 = .ptr 40 x1 0 → getT tb 6 = I64 (k : Int) → getT tb 33 = .ptr 40 x1 1 → getT tb 34 = .arr 136 x3 → getT tb 35 = I64 (k : Int) → getT tb 38 = .ptr 0 0 0 → getT tb 43 = .ptr 0 0 0 → getT tb 44 = .list 1 [.int .i64 0, .int .i64 1, .int .i64 (-1), .int .i64 6] → exT C0 0 (inlW C0 [fm_copyTabS] [fw_pick, fw_one] 0 0) ro_168_8 Q ex_168_8_3111 ⟨tb, [⟨0, 0, .cells (RS b (p + 3))⟩, ⟨32, 1, .cells [.nil, .nil]⟩, ⟨40, x1, .cells [.arr 88 x2, .arr 136 x3]⟩, ⟨88, x2, .arr 1 (ints u)⟩, ⟨136, x3, .arr 1 (orowsD t)⟩], g⟩ := by
    intro tb g e0 e4 e5 e6 e33 e34 e35 e38 e43 e44
    unfold ex_168_8_3111
    simp only [exT_alt, exT_one, exT_stop, and_true]
    refine ⟨?_, ?_⟩
    · rw [ro_168_8_3]
      simp [callDOW, l0, l1, rg4, hkt, hyr, orowsD_ge, rowAt, rowB, e0, e4, e5, e6, e33, e34, e35, e38, e43, e44]
      refine n3119 _ _ ?_ ?_ ?_ ?_ ?_ ?_ ?_ ?_ ?_ ?_ ?_ <;> simp [getT, e0, e4, e5, e6, e33, e34, e35, e38, e43, e44]
    · rw [ro_168_8_6]
      simp [callDOW, l0, l1, rg4, hkt, hyr, orowsD_ge, rowAt, rowB, e0, e4, e5, e6, e33, e34, e35, e38, e43, e44]
      refine n3175 _ _ ?_ ?_ ?_ ?_ ?_ ?_ ?_ ?_ ?_ ?_ ?_ <;> simp [getT, e0, e4, e5, e6, e33, e34, e35, e38, e43, e44]
  have n3109 : ∀ tb g, getT tb 0 = .ptr 0 0 0 → getT tb 4 = .ptr 32 1 0 → getT tb 5 = .ptr 40 x1 0 → getT tb 6 = I64 (k : Int) → getT tb 33 = .ptr 40 x1 1 → getT tb 35 = I64 (k : Int) → getT tb 38 = .ptr 0 0 0 → getT tb 43 = .ptr 0 0 0 → getT tb 44 = .list 1 [.int .i64 0, .int .i64 1, .int .i64 (-1), .int .i64 6] → exT C0 0 (inlW C0 [fm_copyTabS] [fw_pick, fw_one] 0 0) ro_168_8 Q ex_168_8_3109 ⟨tb, [⟨0, 0, .cells (RS b (p + 3))⟩, ⟨32, 1, .cells [.nil, .nil]⟩, ⟨40, x1, .cells [.arr 88 x2, .arr 136 x3]⟩, ⟨88, x2, .arr 1 (ints u)⟩, ⟨136, x3, .arr 1 (orowsD t)⟩], g⟩ := by
    intro tb g e0 e4 e5 e6 e33 e35 e38 e43 e44
    unfold ex_168_8_3109
    simp only [exT_alt, exT_one, exT_stop, and_true]
    refine ⟨?_, ?_⟩
    · rw [ro_168_8_1]
      simp [callDOW, l0, l1, rg4, hkt, hyr, orowsD_ge, rowAt, rowB, e0, e4, e5, e6, e33, e35, e38, e43, e44]
      refine n3111 _ _ ?_ ?_ ?_ ?_ ?_ ?_ ?_ ?_ ?_ ?_ <;> simp [getT, e0, e4, e5, e6, e33, e35, e38, e43, e44]
    · rw [ro_168_8_6]
      simp [callDOW, l0, l1, rg4, hkt, hyr, orowsD_ge, rowAt, rowB, e0, e4, e5, e6, e33, e35, e38, e43, e44]
      refine n3173 _ _ ?_ ?_ ?_ ?_ ?_ ?_ ?_ ?_ ?_ ?_ <;> simp [getT, e0, e4, e5, e6, e33, e35, e38, e43, e44]
  have n3108 : ∀ tb g, getT tb 0 = .ptr 0 0 0 → getT tb 4 = .ptr 32 1 0 → getT tb 5 = .ptr 40 x1 0 → getT tb 6 = I64 (k : Int) → getT tb 35 = I64 (k : Int) → getT tb 38 = .ptr 0 0 0 → getT tb 43 = .ptr 0 0 0 → getT tb 44 = .list 1 [.int .i64 0, .int .i64 1, .int .i64 (-1), .int .i64 6] → exT C0 0 (inlW C0 [fm_copyTabS] [fw_pick, fw_one] 0 0) ro_168_8 Q ex_168_8_3108 ⟨tb, [⟨0, 0, .cells (RS b (p + 3))⟩, ⟨32, 1, .cells [.nil, .nil]⟩, ⟨40, x1, .cells [.arr 88 x2, .arr 136 x3]⟩, ⟨88, x2, .arr 1 (ints u)⟩, ⟨136, x3, .arr 1 (orowsD t)⟩], g⟩ := by
    intro tb g e0 e4 e5 e6 e35 e38 e43 e44
    unfold ex_168_8_3108
    simp only [exT_alt, exT_one, exT_stop, and_true]
    refine ⟨?_, ?_⟩
    · rw [ro_168_8_0]
      simp [callDOW, l0, l1, rg4, hkt, hyr, orowsD_ge, rowAt, rowB, e0, e4, e5, e6, e35, e38, e43, e44]
      refine n3109 _ _ ?_ ?_ ?_ ?_ ?_ ?_ ?_ ?_ ?_ <;> simp [getT, e0, e4, e5, e6, e35, e38, e43, e44]
    · rw [ro_168_8_6]
      simp [callDOW, l0, l1, rg4, hkt, hyr, orowsD_ge, rowAt, rowB, e0, e4, e5, e6, e35, e38, e43, e44]
      refine n3172 _ _ ?_ ?_ ?_ ?_ ?_ ?_ ?_ ?_ ?_ <;> simp [getT, e0, e4, e5, e6, e35, e38, e43, e44]
  have n1060 : ∀ tb g, getT tb 0 = .ptr 0 0 0 → getT tb 4 = .ptr 32 1 0 → getT tb 5 = .ptr 40 x1 0 → getT tb 6 = I64 (k : Int) → getT tb 35 = I64 (k : Int) → getT tb 38 = .ptr 0 0 0 → getT tb 43 = .ptr 0 0 0 → exT C0 0 (inlW C0 [fm_copyTabS] [fw_pick, fw_one] 0 0) ro_168_8 Q ex_168_8_1060 ⟨tb, [⟨0, 0, .cells (RS b (p + 3))⟩, ⟨32, 1, .cells [.nil, .nil]⟩, ⟨40, x1, .cells [.arr 88 x2, .arr 136 x3]⟩, ⟨88, x2, .arr 1 (ints u)⟩, ⟨136, x3, .arr 1 (orowsD t)⟩], g⟩ := by
    intro tb g e0 e4 e5 e6 e35 e38 e43
    unfold ex_168_8_1060
    simp only [exT_alt, exT_one, exT_stop, and_true]
    rw [ro_168_8_11]
    simp [callDOW, l0, l1, rg4, hkt, hyr, orowsD_ge, rowAt, rowB, e0, e4, e5, e6, e35, e38, e43]
    refine n3108 _ _ ?_ ?_ ?_ ?_ ?_ ?_ ?_ ?_ <;> simp [getT, e0, e4, e5, e6, e35, e38, e43]
  have n36 : ∀ tb g, getT tb 0 = .ptr 0 0 0 → getT tb 4 = .ptr 32 1 0 → getT tb 5 = .ptr 40 x1 0 → getT tb 6 = I64 (k : Int) → getT tb 35 = I64 (k : Int) → getT tb 38 = .ptr 0 0 0 → exT C0 0 (inlW C0 [fm_copyTabS] [fw_pick, fw_one] 0 0) ro_168_8 Q ex_168_8_36 ⟨tb, [⟨0, 0, .cells (RS b (p + 3))⟩, ⟨32, 1, .cells [.nil, .nil]⟩, ⟨40, x1, .cells [.arr 88 x2, .arr 136 x3]⟩, ⟨88, x2, .arr 1 (ints u)⟩, ⟨136, x3, .arr 1 (orowsD t)⟩], g⟩ := by
    intro tb g e0 e4 e5 e6 e35 e38
    unfold ex_168_8_36
    simp only [exT_alt, exT_one, exT_stop, and_true]
    rw [ro_168_8_10]
    simp [callDOW, l0, l1, rg4, hkt, hyr, orowsD_ge, rowAt, rowB, e0, e4, e5, e6, e35, e38]
    refine n1060 _ _ ?_ ?_ ?_ ?_ ?_ ?_ ?_ <;> simp [getT, e0, e4, e5, e6, e35, e38]
  have n4 : ∀ tb g, getT tb 0 = .ptr 0 0 0 → getT tb 4 = .ptr 32 1 0 → getT tb 5 = .ptr 40 x1 0 → getT tb 6 = I64 (k : Int) → getT tb 35 = I64 (k : Int) → exT C0 0 (inlW C0 [fm_copyTabS] [fw_pick, fw_one] 0 0) ro_168_8 Q ex_168_8_4 ⟨tb, [⟨0, 0, .cells (RS b (p + 3))⟩, ⟨32, 1, .cells [.nil, .nil]⟩, ⟨40, x1, .cells [.arr 88 x2, .arr 136 x3]⟩, ⟨88, x2, .arr 1 (ints u)⟩, ⟨136, x3, .arr 1 (orowsD t)⟩], g⟩ := by
    intro tb g e0 e4 e5 e6 e35
    unfold ex_168_8_4
    simp only [exT_alt, exT_one, exT_stop, and_true]
    rw [ro_168_8_5]
    simp [callDOW, l0, l1, rg4, hkt, hyr, orowsD_ge, rowAt, rowB, e0, e4, e5, e6, e35]
    refine n36 _ _ ?_ ?_ ?_ ?_ ?_ ?_ <;> simp [getT, e0, e4, e5, e6, e35]
  have n0 : ∀ tb g, getT tb 0 = .ptr 0 0 0 → getT tb 4 = .ptr 32 1 0 → getT tb 5 = .ptr 40 x1 0 → getT tb 6 = I64 (k : Int) → exT C0 0 (inlW C0 [fm_copyTabS] [fw_pick, fw_one] 0 0) ro_168_8 Q ex_168_8_0 ⟨tb, [⟨0, 0, .cells (RS b (p + 3))⟩, ⟨32, 1, .cells [.nil, .nil]⟩, ⟨40, x1, .cells [.arr 88 x2, .arr 136 x3]⟩, ⟨88, x2, .arr 1 (ints u)⟩, ⟨136, x3, .arr 1 (orowsD t)⟩], g⟩ := by
    intro tb g e0 e4 e5 e6
    unfold ex_168_8_0
    simp only [exT_alt, exT_one, exT_stop, and_true]
    rw [ro_168_8_2]
    simp [callDOW, l0, l1, rg4, hkt, hyr, orowsD_ge, rowAt, rowB, e0, e4, e5, e6]
    refine n4 _ _ ?_ ?_ ?_ ?_ ?_ <;> simp [getT, e0, e4, e5, e6]
  exact n0
set_option maxHeartbeats 2000000 in
theorem bent_dag10 {Q : St → Prop} {b : List Int} {p : Nat} {u : List Int} {t : List (List Int)} {k x1 x2 x3 : Nat} {z : Int} (hku : k < u.length) (l1 : fw_one.look [.ptr 0 0 0, .list 1 [.int .i64 0, .int .i64 3, .int .i64 (-1)]] (RS b (p + 3)) = some (I64 z, RS b (p + 4)))
    (hQ : ∀ tb g, getT tb 4 = .ptr 32 1 0 → getT tb 5 = .ptr 40 x1 0 → Q ⟨tb, [⟨0, 0, .cells (RS b (p + 4))⟩, ⟨32, 1, .cells [.nil, .nil]⟩, ⟨40, x1, .cells [.arr 88 x2, .arr 136 x3]⟩, ⟨88, x2, .arr 1 (ints (u.set k z))⟩, ⟨136, x3, .arr 1 (orowsD t)⟩], g⟩) : ∀ tb g, getT tb 0 = .ptr 0 0 0 → getT tb 4 = .ptr 32 1 0 → getT tb 5 = .ptr 40 x1 0 → getT tb 6 = I64 (k : Int) → exT C0 0 (inlW C0 [fm_copyTabS] [fw_pick, fw_one] 0 0) ro_168_10 Q ex_168_10_0 ⟨tb, [⟨0, 0, .cells (RS b (p + 3))⟩, ⟨32, 1, .cells [.nil, .nil]⟩, ⟨40, x1, .cells [.arr 88 x2, .arr 136 x3]⟩, ⟨88, x2, .arr 1 (ints u)⟩, ⟨136, x3, .arr 1 (orowsD t)⟩], g⟩ := by
  have n255 : ∀ tb g, getT tb 0 = .ptr 0 0 0 → getT tb 4 = .ptr 32 1 0 → getT tb 5 = .ptr 40 x1 0 → getT tb 6 = I64 (k : Int) → getT tb 49 = .ptr 40 x1 0 → getT tb 50 = .arr 88 x2 → getT tb 51 = I64 (k : Int) → getT tb 52 = .ptr 0 0 0 → getT tb 53 = .list 1 [.int .i64 0, .int .i64 3, .int .i64 (-1)] → getT tb 54 = I64 z → getT tb 55 = .ptr 88 x2 k → exT C0 0 (inlW C0 [fm_copyTabS] [fw_pick, fw_one] 0 0) ro_168_10 Q ex_168_10_255 ⟨tb, [⟨0, 0, .cells (RS b (p + 4))⟩, ⟨32, 1, .cells [.nil, .nil]⟩, ⟨40, x1, .cells [.arr 88 x2, .arr 136 x3]⟩, ⟨88, x2, .arr 1 (ints (u.set k z))⟩, ⟨136, x3, .arr 1 (orowsD t)⟩], g⟩ := by
    intro tb g e0 e4 e5 e6 e49 e50 e51 e52 e53 e54 e55
    unfold ex_168_10_255
    exact hQ tb g e4 e5
  have n127 : ∀ tb g, getT tb 0 = .ptr 0 0 0 → getT tb 4 = .ptr 32 1 0 → getT tb 5 = .ptr 40 x1 0 → getT tb 6 = I64 (k : Int) → getT tb 49 = .ptr 40 x1 0 → getT tb 50 = .arr 88 x2 → getT tb 51 = I64 (k : Int) → getT tb 52 = .ptr 0 0 0 → getT tb 53 = .list 1 [.int .i64 0, .int .i64 3, .int .i64 (-1)] → getT tb 54 = I64 z → getT tb 55 = .ptr 88 x2 k → exT C0 0 (inlW C0 [fm_copyTabS] [fw_pick, fw_one] 0 0) ro_168_10 Q ex_168_10_127 ⟨tb, [⟨0, 0, .cells (RS b (p + 4))⟩, ⟨32, 1, .cells [.nil, .nil]⟩, ⟨40, x1, .cells [.arr 88 x2, .arr 136 x3]⟩, ⟨88, x2, .arr 1 (ints u)⟩, ⟨136, x3, .arr 1 (orowsD t)⟩], g⟩ := by
    intro tb g e0 e4 e5 e6 e49 e50 e51 e52 e53 e54 e55
    unfold ex_168_10_127
    simp only [exT_alt, exT_one, exT_stop, and_true]
    rw [ro_168_10_7]
    simp [callDOW, l1, rg3, hku, e0, e4, e5, e6, e49, e50, e51, e52, e53, e54, e55]
    refine n255 _ _ ?_ ?_ ?_ ?_ ?_ ?_ ?_ ?_ ?_ ?_ ?_ <;> simp [getT, e0, e4, e5, e6, e49, e50, e51, e52, e53, e54, e55]
  have n63 : ∀ tb g, getT tb 0 = .ptr 0 0 0 → getT tb 4 = .ptr 32 1 0 → getT tb 5 = .ptr 40 x1 0 → getT tb 6 = I64 (k : Int) → getT tb 49 = .ptr 40 x1 0 → getT tb 50 = .arr 88 x2 → getT tb 51 = I64 (k : Int) → getT tb 52 = .ptr 0 0 0 → getT tb 53 = .list 1 [.int .i64 0, .int .i64 3, .int .i64 (-1)] → getT tb 54 = I64 z → exT C0 0 (inlW C0 [fm_copyTabS] [fw_pick, fw_one] 0 0) ro_168_10 Q ex_168_10_63 ⟨tb, [⟨0, 0, .cells (RS b (p + 4))⟩, ⟨32, 1, .cells [.nil, .nil]⟩, ⟨40, x1, .cells [.arr 88 x2, .arr 136 x3]⟩, ⟨88, x2, .arr 1 (ints u)⟩, ⟨136, x3, .arr 1 (orowsD t)⟩], g⟩ := by
    intro tb g e0 e4 e5 e6 e49 e50 e51 e52 e53 e54
    unfold ex_168_10_63
    simp only [exT_alt, exT_one, exT_stop, and_true]
    rw [ro_168_10_6]
    simp [callDOW, l1, rg3, hku, e0, e4, e5, e6, e49, e50, e51, e52, e53, e54]
    refine n127 _ _ ?_ ?_ ?_ ?_ ?_ ?_ ?_ ?_ ?_ ?_ ?_ <;> simp [getT, e0, e4, e5, e6, e49, e50, e51, e52, e53, e54]
  have n61 : ∀ tb g, getT tb 0 = .ptr 0 0 0 → getT tb 4 = .ptr 32 1 0 → getT tb 5 = .ptr 40 x1 0 → getT tb 6 = I64 (k : Int) → getT tb 49 = .ptr 40 x1 0 → getT tb 51 = I64 (k : Int) → getT tb 52 = .ptr 0 0 0 → getT tb 53 = .list 1 [.int .i64 0, .int .i64 3, .int .i64 (-1)] → getT tb 54 = I64 z → exT C0 0 (inlW C0 [fm_copyTabS] [fw_pick, fw_one] 0 0) ro_168_10 Q ex_168_10_61 ⟨tb, [⟨0, 0, .cells (RS b (p + 4))⟩, ⟨32, 1, .cells [.nil, .nil]⟩, ⟨40, x1, .cells [.arr 88 x2, .arr 136 x3]⟩, ⟨88, x2, .arr 1 (ints u)⟩, ⟨136, x3, .arr 1 (orowsD t)⟩], g⟩ := by
    intro tb g e0 e4 e5 e6 e49 e51 e52 e53 e54
    unfold ex_168_10_61
    simp only [exT_alt, exT_one, exT_stop, and_true]
    rw [ro_168_10_1]
    simp [callDOW, l1, rg3, hku, e0, e4, e5, e6, e49, e51, e52, e53, e54]
    refine n63 _ _ ?_ ?_ ?_ ?_ ?_ ?_ ?_ ?_ ?_ ?_ <;> simp [getT, e0, e4, e5, e6, e49, e51, e52, e53, e54]
  have n60 : ∀ tb g, getT tb 0 = .ptr 0 0 0 → getT tb 4 = .ptr 32 1 0 → getT tb 5 = .ptr 40 x1 0 → getT tb 6 = I64 (k : Int) → getT tb 51 = I64 (k : Int) → getT tb 52 = .ptr 0 0 0 → getT tb 53 = .list 1 [.int .i64 0, .int .i64 3, .int .i64 (-1)] → getT tb 54 = I64 z → exT C0 0 (inlW C0 [fm_copyTabS] [fw_pick, fw_one] 0 0) ro_168_10 Q ex_168_10_60 ⟨tb, [⟨0, 0, .cells (RS b (p + 4))⟩, ⟨32, 1, .cells [.nil, .nil]⟩, ⟨40, x1, .cells [.arr 88 x2, .arr 136 x3]⟩, ⟨88, x2, .arr 1 (ints u)⟩, ⟨136, x3, .arr 1 (orowsD t)⟩], g⟩ := by
    intro tb g e0 e4 e5 e6 e51 e52 e53 e54
    unfold ex_168_10_60
    simp only [exT_alt, exT_one, exT_stop, and_true]
    rw [ro_168_10_0]
    simp [callDOW, l1, rg3, hku, e0, e4, e5, e6, e51, e52, e53, e54]
    refine n61 _ _ ?_ ?_ ?_ ?_ ?_ ?_ ?_ ?_ ?_ <;> simp [getT, e0, e4, e5, e6, e51, e52, e53, e54]
  have n31 : ∀ tb g, getT tb 0 = .ptr 0 0 0 → getT tb 4 = .ptr 32 1 0 → getT tb 5 = .ptr 40 x1 0 → getT tb 6 = I64 (k : Int) → getT tb 49 = .ptr 40 x1 0 → getT tb 50 = .arr 88 x2 → getT tb 51 = I64 (k : Int) → getT tb 52 = .ptr 0 0 0 → getT tb 53 = .list 1 [.int .i64 0, .int .i64 3, .int .i64 (-1)] → exT C0 0 (inlW C0 [fm_copyTabS] [fw_pick, fw_one] 0 0) ro_168_10 Q ex_168_10_31 ⟨tb, [⟨0, 0, .cells (RS b (p + 3))⟩, ⟨32, 1, .cells [.nil, .nil]⟩, ⟨40, x1, .cells [.arr 88 x2, .arr 136 x3]⟩, ⟨88, x2, .arr 1 (ints u)⟩, ⟨136, x3, .arr 1 (orowsD t)⟩], g⟩ := by
    intro tb g e0 e4 e5 e6 e49 e50 e51 e52 e53
    unfold ex_168_10_31
    simp only [exT_alt, exT_one, exT_stop, and_true]
    rw [ro_168_10_5]
    simp [callDOW, l1, rg3, hku, e0, e4, e5, e6, e49, e50, e51, e52, e53]
    refine n63 _ _ ?_ ?_ ?_ ?_ ?_ ?_ ?_ ?_ ?_ ?_ <;> simp [getT, e0, e4, e5, e6, e49, e50, e51, e52, e53]
  have n29 : ∀ tb g, getT tb 0 = .ptr 0 0 0 → getT tb 4 = .ptr 32 1 0 → getT tb 5 = .ptr 40 x1 0 → getT tb 6 = I64 (k : Int) → getT tb 49 = .ptr 40 x1 0 → getT tb 51 = I64 (k : Int) → getT tb 52 = .ptr 0 0 0 → getT tb 53 = .list 1 [.int .i64 0, .int .i64 3, .int .i64 (-1)] → exT C0 0 (inlW C0 [fm_copyTabS] [fw_pick, fw_one] 0 0) ro_168_10 Q ex_168_10_29 ⟨tb, [⟨0, 0, .cells (RS b (p + 3))⟩, ⟨32, 1, .cells [.nil, .nil]⟩, ⟨40, x1, .cells [.arr 88 x2, .arr 136 x3]⟩, ⟨88, x2, .arr 1 (ints u)⟩, ⟨136, x3, .arr 1 (orowsD t)⟩], g⟩ := by
    intro tb g e0 e4 e5 e6 e49 e51 e52 e53
    unfold ex_168_10_29
    simp only [exT_alt, exT_one, exT_stop, and_true]
    refine ⟨?_, ?_⟩
    · rw [ro_168_10_1]
      simp [callDOW, l1, rg3, hku, e0, e4, e5, e6, e49, e51, e52, e53]
      refine n31 _ _ ?_ ?_ ?_ ?_ ?_ ?_ ?_ ?_ ?_ <;> simp [getT, e0, e4, e5, e6, e49, e51, e52, e53]
    · rw [ro_168_10_5]
      simp [callDOW, l1, rg3, hku, e0, e4, e5, e6, e49, e51, e52, e53]
      refine n61 _ _ ?_ ?_ ?_ ?_ ?_ ?_ ?_ ?_ ?_ <;> simp [getT, e0, e4, e5, e6, e49, e51, e52, e53]
  have n28 : ∀ tb g, getT tb 0 = .ptr 0 0 0 → getT tb 4 = .ptr 32 1 0 → getT tb 5 = .ptr 40 x1 0 → getT tb 6 = I64 (k : Int) → getT tb 51 = I64 (k : Int) → getT tb 52 = .ptr 0 0 0 → getT tb 53 = .list 1 [.int .i64 0, .int .i64 3, .int .i64 (-1)] → exT C0 0 (inlW C0 [fm_copyTabS] [fw_pick, fw_one] 0 0) ro_168_10 Q ex_168_10_28 ⟨tb, [⟨0, 0, .cells (RS b (p + 3))⟩, ⟨32, 1, .cells [.nil, .nil]⟩, ⟨40, x1, .cells [.arr 88 x2, .arr 136 x3]⟩, ⟨88, x2, .arr 1 (ints u)⟩, ⟨136, x3, .arr 1 (orowsD t)⟩], g⟩ := by
    intro tb g e0 e4 e5 e6 e51 e52 e53
    unfold ex_168_10_28
    simp only [exT_alt, exT_one, exT_stop, and_true]
    refine ⟨?_, ?_⟩
    · rw [ro_168_10_0]
      simp [callDOW, l1, rg3, hku, e0, e4, e5, e6, e51, e52, e53]
      refine n29 _ _ ?_ ?_ ?_ ?_ ?_ ?_ ?_ ?_ <;> simp [getT, e0, e4, e5, e6, e51, e52, e53]
    · rw [ro_168_10_5]
      simp [callDOW, l1, rg3, hku, e0, e4, e5, e6, e51, e52, e53]
      refine n60 _ _ ?_ ?_ ?_ ?_ ?_ ?_ ?_ ?_ <;> simp [getT, e0, e4, e5, e6, e51, e52, e53]
  have n12 : ∀ tb g, getT tb 0 = .ptr 0 0 0 → getT tb 4 = .ptr 32 1 0 → getT tb 5 = .ptr 40 x1 0 → getT tb 6 = I64 (k : Int) → getT tb 51 = I64 (k : Int) → getT tb 52 = .ptr 0 0 0 → exT C0 0 (inlW C0 [fm_copyTabS] [fw_pick, fw_one] 0 0) ro_168_10 Q ex_168_10_12 ⟨tb, [⟨0, 0, .cells (RS b (p + 3))⟩, ⟨32, 1, .cells [.nil, .nil]⟩, ⟨40, x1, .cells [.arr 88 x2, .arr 136 x3]⟩, ⟨88, x2, .arr 1 (ints u)⟩, ⟨136, x3, .arr 1 (orowsD t)⟩], g⟩ := by
    intro tb g e0 e4 e5 e6 e51 e52
    unfold ex_168_10_12
    simp only [exT_alt, exT_one, exT_stop, and_true]
    rw [ro_168_10_4]
    simp [callDOW, l1, rg3, hku, e0, e4, e5, e6, e51, e52]
    refine n28 _ _ ?_ ?_ ?_ ?_ ?_ ?_ ?_ <;> simp [getT, e0, e4, e5, e6, e51, e52]
  have n4 : ∀ tb g, getT tb 0 = .ptr 0 0 0 → getT tb 4 = .ptr 32 1 0 → getT tb 5 = .ptr 40 x1 0 → getT tb 6 = I64 (k : Int) → getT tb 51 = I64 (k : Int) → exT C0 0 (inlW C0 [fm_copyTabS] [fw_pick, fw_one] 0 0) ro_168_10 Q ex_168_10_4 ⟨tb, [⟨0, 0, .cells (RS b (p + 3))⟩, ⟨32, 1, .cells [.nil, .nil]⟩, ⟨40, x1, .cells [.arr 88 x2, .arr 136 x3]⟩, ⟨88, x2, .arr 1 (ints u)⟩, ⟨136, x3, .arr 1 (orowsD t)⟩], g⟩ := by
    intro tb g e0 e4 e5 e6 e51
    unfold ex_168_10_4
    simp only [exT_alt, exT_one, exT_stop, and_true]
    rw [ro_168_10_3]
    simp [callDOW, l1, rg3, hku, e0, e4, e5, e6, e51]
    refine n12 _ _ ?_ ?_ ?_ ?_ ?_ ?_ <;> simp [getT, e0, e4, e5, e6, e51]
  have n0 : ∀ tb g, getT tb 0 = .ptr 0 0 0 → getT tb 4 = .ptr 32 1 0 → getT tb 5 = .ptr 40 x1 0 → getT tb 6 = I64 (k : Int) → exT C0 0 (inlW C0 [fm_copyTabS] [fw_pick, fw_one] 0 0) ro_168_10 Q ex_168_10_0 ⟨tb, [⟨0, 0, .cells (RS b (p + 3))⟩, ⟨32, 1, .cells [.nil, .nil]⟩, ⟨40, x1, .cells [.arr 88 x2, .arr 136 x3]⟩, ⟨88, x2, .arr 1 (ints u)⟩, ⟨136, x3, .arr 1 (orowsD t)⟩], g⟩ := by
    intro tb g e0 e4 e5 e6
    unfold ex_168_10_0
    simp only [exT_alt, exT_one, exT_stop, and_true]
    rw [ro_168_10_2]
    simp [callDOW, l1, rg3, hku, e0, e4, e5, e6]
    refine n4 _ _ ?_ ?_ ?_ ?_ ?_ <;> simp [getT, e0, e4, e5, e6]
  exact n0
set_option maxHeartbeats 2000000 in
theorem bent_dag14 {Q : St → Prop} {b : List Int} {p : Nat} {u : List Int} {t : List (List Int)} {k x1 x2 x3 : Nat} (hkt : k < t.length) (hyr : 1 ≤ (gr t k).length) (hyn : ¬ gr t k = []) (hyi : (1 : Int) ≤ (gr t k).length)
    (hQ : ∀ tb g, getT tb 4 = .ptr 32 1 0 → getT tb 5 = .ptr 40 x1 0 → Q ⟨tb, [⟨0, 0, .cells (RS b (p + 3))⟩, ⟨32, 1, .cells [.nil, .nil]⟩, ⟨40, x1, .cells [.arr 88 x2, .arr 136 x3]⟩, ⟨88, x2, .arr 1 (ints u)⟩, ⟨136, x3, .arr 1 ((orowsD t).set k (IL ((gr t k).tail)))⟩], g⟩) : ∀ tb g, getT tb 4 = .ptr 32 1 0 → getT tb 5 = .ptr 40 x1 0 → getT tb 6 = I64 (k : Int) → exT C0 0 (inlW C0 [fm_copyTabS] [fw_pick, fw_one] 0 0) ro_168_14 Q ex_168_14_0 ⟨tb, [⟨0, 0, .cells (RS b (p + 3))⟩, ⟨32, 1, .cells [.nil, .nil]⟩, ⟨40, x1, .cells [.arr 88 x2, .arr 136 x3]⟩, ⟨88, x2, .arr 1 (ints u)⟩, ⟨136, x3, .arr 1 (orowsD t)⟩], g⟩ := by
  have n2047 : ∀ tb g, getT tb 4 = .ptr 32 1 0 → getT tb 5 = .ptr 40 x1 0 → getT tb 6 = I64 (k : Int) → getT tb 64 = .ptr 40 x1 1 → getT tb 65 = .arr 136 x3 → getT tb 66 = I64 (k : Int) → getT tb 67 = .ptr 40 x1 1 → getT tb 68 = .arr 136 x3 → getT tb 69 = I64 (k : Int) → getT tb 70 = .ptr 136 x3 k → getT tb 71 = IL (gr t k) → getT tb 72 = IL ((gr t k).tail) → getT tb 73 = .ptr 136 x3 k → exT C0 0 (inlW C0 [fm_copyTabS] [fw_pick, fw_one] 0 0) ro_168_14 Q ex_168_14_2047 ⟨tb, [⟨0, 0, .cells (RS b (p + 3))⟩, ⟨32, 1, .cells [.nil, .nil]⟩, ⟨40, x1, .cells [.arr 88 x2, .arr 136 x3]⟩, ⟨88, x2, .arr 1 (ints u)⟩, ⟨136, x3, .arr 1 ((orowsD t).set k (IL ((gr t k).tail)))⟩], g⟩ := by
    intro tb g e4 e5 e6 e64 e65 e66 e67 e68 e69 e70 e71 e72 e73
    unfold ex_168_14_2047
    exact hQ tb g e4 e5
  have n1023 : ∀ tb g, getT tb 4 = .ptr 32 1 0 → getT tb 5 = .ptr 40 x1 0 → getT tb 6 = I64 (k : Int) → getT tb 64 = .ptr 40 x1 1 → getT tb 65 = .arr 136 x3 → getT tb 66 = I64 (k : Int) → getT tb 67 = .ptr 40 x1 1 → getT tb 68 = .arr 136 x3 → getT tb 69 = I64 (k : Int) → getT tb 70 = .ptr 136 x3 k → getT tb 71 = IL (gr t k) → getT tb 72 = IL ((gr t k).tail) → getT tb 73 = .ptr 136 x3 k → exT C0 0 (inlW C0 [fm_copyTabS] [fw_pick, fw_one] 0 0) ro_168_14 Q ex_168_14_1023 ⟨tb, [⟨0, 0, .cells (RS b (p + 3))⟩, ⟨32, 1, .cells [.nil, .nil]⟩, ⟨40, x1, .cells [.arr 88 x2, .arr 136 x3]⟩, ⟨88, x2, .arr 1 (ints u)⟩, ⟨136, x3, .arr 1 ((orowsD t).set k (IL (gr t k)))⟩], g⟩ := by
    intro tb g e4 e5 e6 e64 e65 e66 e67 e68 e69 e70 e71 e72 e73
    unfold ex_168_14_1023
    simp only [exT_alt, exT_one, exT_stop, and_true]
    rw [ro_168_14_10]
    simp [hkt, hyr, hyn, hyi, orowsD_ge, rowAt, rowB, e4, e5, e6, e64, e65, e66, e67, e68, e69, e70, e71, e72, e73]
    refine n2047 _ _ ?_ ?_ ?_ ?_ ?_ ?_ ?_ ?_ ?_ ?_ ?_ ?_ ?_ <;> simp [getT, e4, e5, e6, e64, e65, e66, e67, e68, e69, e70, e71, e72, e73]
  have n511 : ∀ tb g, getT tb 4 = .ptr 32 1 0 → getT tb 5 = .ptr 40 x1 0 → getT tb 6 = I64 (k : Int) → getT tb 64 = .ptr 40 x1 1 → getT tb 65 = .arr 136 x3 → getT tb 66 = I64 (k : Int) → getT tb 67 = .ptr 40 x1 1 → getT tb 68 = .arr 136 x3 → getT tb 69 = I64 (k : Int) → getT tb 70 = .ptr 136 x3 k → getT tb 71 = IL (gr t k) → getT tb 72 = IL ((gr t k).tail) → exT C0 0 (inlW C0 [fm_copyTabS] [fw_pick, fw_one] 0 0) ro_168_14 Q ex_168_14_511 ⟨tb, [⟨0, 0, .cells (RS b (p + 3))⟩, ⟨32, 1, .cells [.nil, .nil]⟩, ⟨40, x1, .cells [.arr 88 x2, .arr 136 x3]⟩, ⟨88, x2, .arr 1 (ints u)⟩, ⟨136, x3, .arr 1 ((orowsD t).set k (IL (gr t k)))⟩], g⟩ := by
    intro tb g e4 e5 e6 e64 e65 e66 e67 e68 e69 e70 e71 e72
    unfold ex_168_14_511
    simp only [exT_alt, exT_one, exT_stop, and_true]
    rw [ro_168_14_9]
    simp [hkt, hyr, hyn, hyi, orowsD_ge, rowAt, rowB, e4, e5, e6, e64, e65, e66, e67, e68, e69, e70, e71, e72]
    refine n1023 _ _ ?_ ?_ ?_ ?_ ?_ ?_ ?_ ?_ ?_ ?_ ?_ ?_ ?_ <;> simp [getT, e4, e5, e6, e64, e65, e66, e67, e68, e69, e70, e71, e72]
  have n509 : ∀ tb g, getT tb 4 = .ptr 32 1 0 → getT tb 5 = .ptr 40 x1 0 → getT tb 6 = I64 (k : Int) → getT tb 64 = .ptr 40 x1 1 → getT tb 66 = I64 (k : Int) → getT tb 67 = .ptr 40 x1 1 → getT tb 68 = .arr 136 x3 → getT tb 69 = I64 (k : Int) → getT tb 70 = .ptr 136 x3 k → getT tb 71 = IL (gr t k) → getT tb 72 = IL ((gr t k).tail) → exT C0 0 (inlW C0 [fm_copyTabS] [fw_pick, fw_one] 0 0) ro_168_14 Q ex_168_14_509 ⟨tb, [⟨0, 0, .cells (RS b (p + 3))⟩, ⟨32, 1, .cells [.nil, .nil]⟩, ⟨40, x1, .cells [.arr 88 x2, .arr 136 x3]⟩, ⟨88, x2, .arr 1 (ints u)⟩, ⟨136, x3, .arr 1 ((orowsD t).set k (IL (gr t k)))⟩], g⟩ := by
    intro tb g e4 e5 e6 e64 e66 e67 e68 e69 e70 e71 e72
    unfold ex_168_14_509
    simp only [exT_alt, exT_one, exT_stop, and_true]
    rw [ro_168_14_1]
    simp [hkt, hyr, hyn, hyi, orowsD_ge, rowAt, rowB, e4, e5, e6, e64, e66, e67, e68, e69, e70, e71, e72]
    refine n511 _ _ ?_ ?_ ?_ ?_ ?_ ?_ ?_ ?_ ?_ ?_ ?_ ?_ <;> simp [getT, e4, e5, e6, e64, e66, e67, e68, e69, e70, e71, e72]
  have n508 : ∀ tb g, getT tb 4 = .ptr 32 1 0 → getT tb 5 = .ptr 40 x1 0 → getT tb 6 = I64 (k : Int) → getT tb 66 = I64 (k : Int) → getT tb 67 = .ptr 40 x1 1 → getT tb 68 = .arr 136 x3 → getT tb 69 = I64 (k : Int) → getT tb 70 = .ptr 136 x3 k → getT tb 71 = IL (gr t k) → getT tb 72 = IL ((gr t k).tail) → exT C0 0 (inlW C0 [fm_copyTabS] [fw_pick, fw_one] 0 0) ro_168_14 Q ex_168_14_508 ⟨tb, [⟨0, 0, .cells (RS b (p + 3))⟩, ⟨32, 1, .cells [.nil, .nil]⟩, ⟨40, x1, .cells [.arr 88 x2, .arr 136 x3]⟩, ⟨88, x2, .arr 1 (ints u)⟩, ⟨136, x3, .arr 1 ((orowsD t).set k (IL (gr t k)))⟩], g⟩ := by
    intro tb g e4 e5 e6 e66 e67 e68 e69 e70 e71 e72
    unfold ex_168_14_508
    simp only [exT_alt, exT_one, exT_stop, and_true]
    rw [ro_168_14_0]
    simp [hkt, hyr, hyn, hyi, orowsD_ge, rowAt, rowB, e4, e5, e6, e66, e67, e68, e69, e70, e71, e72]
    refine n509 _ _ ?_ ?_ ?_ ?_ ?_ ?_ ?_ ?_ ?_ ?_ ?_ <;> simp [getT, e4, e5, e6, e66, e67, e68, e69, e70, e71, e72]
  have n252 : ∀ tb g, getT tb 4 = .ptr 32 1 0 → getT tb 5 = .ptr 40 x1 0 → getT tb 6 = I64 (k : Int) → getT tb 66 = I64 (k : Int) → getT tb 67 = .ptr 40 x1 1 → getT tb 68 = .arr 136 x3 → getT tb 69 = I64 (k : Int) → getT tb 70 = .ptr 136 x3 k → getT tb 71 = IL (gr t k) → exT C0 0 (inlW C0 [fm_copyTabS] [fw_pick, fw_one] 0 0) ro_168_14 Q ex_168_14_252 ⟨tb, [⟨0, 0, .cells (RS b (p + 3))⟩, ⟨32, 1, .cells [.nil, .nil]⟩, ⟨40, x1, .cells [.arr 88 x2, .arr 136 x3]⟩, ⟨88, x2, .arr 1 (ints u)⟩, ⟨136, x3, .arr 1 ((orowsD t).set k (IL (gr t k)))⟩], g⟩ := by
    intro tb g e4 e5 e6 e66 e67 e68 e69 e70 e71
    unfold ex_168_14_252
    simp only [exT_alt, exT_one, exT_stop, and_true]
    rw [ro_168_14_8]
    simp [hkt, hyr, hyn, hyi, orowsD_ge, rowAt, rowB, e4, e5, e6, e66, e67, e68, e69, e70, e71]
    refine n508 _ _ ?_ ?_ ?_ ?_ ?_ ?_ ?_ ?_ ?_ ?_ <;> simp [getT, e4, e5, e6, e66, e67, e68, e69, e70, e71]
  have n253 : ∀ tb g, getT tb 4 = .ptr 32 1 0 → getT tb 5 = .ptr 40 x1 0 → getT tb 6 = I64 (k : Int) → getT tb 64 = .ptr 40 x1 1 → getT tb 66 = I64 (k : Int) → getT tb 67 = .ptr 40 x1 1 → getT tb 68 = .arr 136 x3 → getT tb 69 = I64 (k : Int) → getT tb 70 = .ptr 136 x3 k → getT tb 71 = IL (gr t k) → exT C0 0 (inlW C0 [fm_copyTabS] [fw_pick, fw_one] 0 0) ro_168_14 Q ex_168_14_253 ⟨tb, [⟨0, 0, .cells (RS b (p + 3))⟩, ⟨32, 1, .cells [.nil, .nil]⟩, ⟨40, x1, .cells [.arr 88 x2, .arr 136 x3]⟩, ⟨88, x2, .arr 1 (ints u)⟩, ⟨136, x3, .arr 1 ((orowsD t).set k (IL (gr t k)))⟩], g⟩ := by
    intro tb g e4 e5 e6 e64 e66 e67 e68 e69 e70 e71
    unfold ex_168_14_253
    simp only [exT_alt, exT_one, exT_stop, and_true]
    rw [ro_168_14_8]
    simp [hkt, hyr, hyn, hyi, orowsD_ge, rowAt, rowB, e4, e5, e6, e64, e66, e67, e68, e69, e70, e71]
    refine n509 _ _ ?_ ?_ ?_ ?_ ?_ ?_ ?_ ?_ ?_ ?_ ?_ <;> simp [getT, e4, e5, e6, e64, e66, e67, e68, e69, e70, e71]
  have n255 : ∀ tb g, getT tb 4 = .ptr 32 1 0 → getT tb 5 = .ptr 40 x1 0 → getT tb 6 = I64 (k : Int) → getT tb 64 = .ptr 40 x1 1 → getT tb 65 = .arr 136 x3 → getT tb 66 = I64 (k : Int) → getT tb 67 = .ptr 40 x1 1 → getT tb 68 = .arr 136 x3 → getT tb 69 = I64 (k : Int) → getT tb 70 = .ptr 136 x3 k → getT tb 71 = IL (gr t k) → exT C0 0 (inlW C0 [fm_copyTabS] [fw_pick, fw_one] 0 0) ro_168_14 Q ex_168_14_255 ⟨tb, [⟨0, 0, .cells (RS b (p + 3))⟩, ⟨32, 1, .cells [.nil, .nil]⟩, ⟨40, x1, .cells [.arr 88 x2, .arr 136 x3]⟩, ⟨88, x2, .arr 1 (ints u)⟩, ⟨136, x3, .arr 1 ((orowsD t).set k (IL (gr t k)))⟩], g⟩ := by
    intro tb g e4 e5 e6 e64 e65 e66 e67 e68 e69 e70 e71
    unfold ex_168_14_255
    simp only [exT_alt, exT_one, exT_stop, and_true]
    rw [ro_168_14_8]
    simp [hkt, hyr, hyn, hyi, orowsD_ge, rowAt, rowB, e4, e5, e6, e64, e65, e66, e67, e68, e69, e70, e71]
    refine n511 _ _ ?_ ?_ ?_ ?_ ?_ ?_ ?_ ?_ ?_ ?_ ?_ ?_ <;> simp [getT, e4, e5, e6, e64, e65, e66, e67, e68, e69, e70, e71]
  have n127 : ∀ tb g, getT tb 4 = .ptr 32 1 0 → getT tb 5 = .ptr 40 x1 0 → getT tb 6 = I64 (k : Int) → getT tb 64 = .ptr 40 x1 1 → getT tb 65 = .arr 136 x3 → getT tb 66 = I64 (k : Int) → getT tb 67 = .ptr 40 x1 1 → getT tb 68 = .arr 136 x3 → getT tb 69 = I64 (k : Int) → getT tb 70 = .ptr 136 x3 k → exT C0 0 (inlW C0 [fm_copyTabS] [fw_pick, fw_one] 0 0) ro_168_14 Q ex_168_14_127 ⟨tb, [⟨0, 0, .cells (RS b (p + 3))⟩, ⟨32, 1, .cells [.nil, .nil]⟩, ⟨40, x1, .cells [.arr 88 x2, .arr 136 x3]⟩, ⟨88, x2, .arr 1 (ints u)⟩, ⟨136, x3, .arr 1 (orowsD t)⟩], g⟩ := by
    intro tb g e4 e5 e6 e64 e65 e66 e67 e68 e69 e70
    unfold ex_168_14_127
    simp only [exT_alt, exT_one, exT_stop, and_true]
    rw [ro_168_14_7]
    simp [hkt, hyr, hyn, hyi, orowsD_ge, rowAt, rowB, e4, e5, e6, e64, e65, e66, e67, e68, e69, e70]
    refine n255 _ _ ?_ ?_ ?_ ?_ ?_ ?_ ?_ ?_ ?_ ?_ ?_ <;> simp [getT, e4, e5, e6, e64, e65, e66, e67, e68, e69, e70]
  have n125 : ∀ tb g, getT tb 4 = .ptr 32 1 0 → getT tb 5 = .ptr 40 x1 0 → getT tb 6 = I64 (k : Int) → getT tb 64 = .ptr 40 x1 1 → getT tb 66 = I64 (k : Int) → getT tb 67 = .ptr 40 x1 1 → getT tb 68 = .arr 136 x3 → getT tb 69 = I64 (k : Int) → getT tb 70 = .ptr 136 x3 k → exT C0 0 (inlW C0 [fm_copyTabS] [fw_pick, fw_one] 0 0) ro_168_14 Q ex_168_14_125 ⟨tb, [⟨0, 0, .cells (RS b (p + 3))⟩, ⟨32, 1, .cells [.nil, .nil]⟩, ⟨40, x1, .cells [.arr 88 x2, .arr 136 x3]⟩, ⟨88, x2, .arr 1 (ints u)⟩, ⟨136, x3, .arr 1 (orowsD t)⟩], g⟩ := by
    intro tb g e4 e5 e6 e64 e66 e67 e68 e69 e70
    unfold ex_168_14_125
    simp only [exT_alt, exT_one, exT_stop, and_true]
    refine ⟨?_, ?_⟩
    · rw [ro_168_14_1]
      simp [hkt, hyr, hyn, hyi, orowsD_ge, rowAt, rowB, e4, e5, e6, e64, e66, e67, e68, e69, e70]
      refine n127 _ _ ?_ ?_ ?_ ?_ ?_ ?_ ?_ ?_ ?_ ?_ <;> simp [getT, e4, e5, e6, e64, e66, e67, e68, e69, e70]
    · rw [ro_168_14_7]
      simp [hkt, hyr, hyn, hyi, orowsD_ge, rowAt, rowB, e4, e5, e6, e64, e66, e67, e68, e69, e70]
      refine n253 _ _ ?_ ?_ ?_ ?_ ?_ ?_ ?_ ?_ ?_ ?_ <;> simp [getT, e4, e5, e6, e64, e66, e67, e68, e69, e70]
  have n124 : ∀ tb g, getT tb 4 = .ptr 32 1 0 → getT tb 5 = .ptr 40 x1 0 → getT tb 6 = I64 (k : Int) → getT tb 66 = I64 (k : Int) → getT tb 67 = .ptr 40 x1 1 → getT tb 68 = .arr 136 x3 → getT tb 69 = I64 (k : Int) → getT tb 70 = .ptr 136 x3 k → exT C0 0 (inlW C0 [fm_copyTabS] [fw_pick, fw_one] 0 0) ro_168_14 Q ex_168_14_124 ⟨tb, [⟨0, 0, .cells (RS b (p + 3))⟩, ⟨32, 1, .cells [.nil, .nil]⟩, ⟨40, x1, .cells [.arr 88 x2, .arr 136 x3]⟩, ⟨88, x2, .arr 1 (ints u)⟩, ⟨136, x3, .arr 1 (orowsD t)⟩], g⟩ := by
    intro tb g e4 e5 e6 e66 e67 e68 e69 e70
    unfold ex_168_14_124
    simp only [exT_alt, exT_one, exT_stop, and_true]
    refine ⟨?_, ?_⟩
    · rw [ro_168_14_0]
      simp [hkt, hyr, hyn, hyi, orowsD_ge, rowAt, rowB, e4, e5, e6, e66, e67, e68, e69, e70]
      refine n125 _ _ ?_ ?_ ?_ ?_ ?_ ?_ ?_ ?_ ?_ <;> simp [getT, e4, e5, e6, e66, e67, e68, e69, e70]
    · rw [ro_168_14_7]
      simp [hkt, hyr, hyn, hyi, orowsD_ge, rowAt, rowB, e4, e5, e6, e66, e67, e68, e69, e70]
      refine n252 _ _ ?_ ?_ ?_ ?_ ?_ ?_ ?_ ?_ ?_ <;> simp [getT, e4, e5, e6, e66, e67, e68, e69, e70]
  have n63 : ∀ tb g, getT tb 4 = .ptr 32 1 0 → getT tb 5 = .ptr 40 x1 0 → getT tb 6 = I64 (k : Int) → getT tb 64 = .ptr 40 x1 1 → getT tb 65 = .arr 136 x3 → getT tb 66 = I64 (k : Int) → getT tb 67 = .ptr 40 x1 1 → getT tb 68 = .arr 136 x3 → getT tb 69 = I64 (k : Int) → exT C0 0 (inlW C0 [fm_copyTabS] [fw_pick, fw_one] 0 0) ro_168_14 Q ex_168_14_63 ⟨tb, [⟨0, 0, .cells (RS b (p + 3))⟩, ⟨32, 1, .cells [.nil, .nil]⟩, ⟨40, x1, .cells [.arr 88 x2, .arr 136 x3]⟩, ⟨88, x2, .arr 1 (ints u)⟩, ⟨136, x3, .arr 1 (orowsD t)⟩], g⟩ := by
    intro tb g e4 e5 e6 e64 e65 e66 e67 e68 e69
    unfold ex_168_14_63
    simp only [exT_alt, exT_one, exT_stop, and_true]
    rw [ro_168_14_6]
    simp [hkt, hyr, hyn, hyi, orowsD_ge, rowAt, rowB, e4, e5, e6, e64, e65, e66, e67, e68, e69]
    refine n127 _ _ ?_ ?_ ?_ ?_ ?_ ?_ ?_ ?_ ?_ ?_ <;> simp [getT, e4, e5, e6, e64, e65, e66, e67, e68, e69]
  have n61 : ∀ tb g, getT tb 4 = .ptr 32 1 0 → getT tb 5 = .ptr 40 x1 0 → getT tb 6 = I64 (k : Int) → getT tb 64 = .ptr 40 x1 1 → getT tb 66 = I64 (k : Int) → getT tb 67 = .ptr 40 x1 1 → getT tb 68 = .arr 136 x3 → getT tb 69 = I64 (k : Int) → exT C0 0 (inlW C0 [fm_copyTabS] [fw_pick, fw_one] 0 0) ro_168_14 Q ex_168_14_61 ⟨tb, [⟨0, 0, .cells (RS b (p + 3))⟩, ⟨32, 1, .cells [.nil, .nil]⟩, ⟨40, x1, .cells [.arr 88 x2, .arr 136 x3]⟩, ⟨88, x2, .arr 1 (ints u)⟩, ⟨136, x3, .arr 1 (orowsD t)⟩], g⟩ := by
    intro tb g e4 e5 e6 e64 e66 e67 e68 e69
    unfold ex_168_14_61
    simp only [exT_alt, exT_one, exT_stop, and_true]
    refine ⟨?_, ?_⟩
    · rw [ro_168_14_1]
      simp [hkt, hyr, hyn, hyi, orowsD_ge, rowAt, rowB, e4, e5, e6, e64, e66, e67, e68, e69]
      refine n63 _ _ ?_ ?_ ?_ ?_ ?_ ?_ ?_ ?_ ?_ <;> simp [getT, e4, e5, e6, e64, e66, e67, e68, e69]
    · rw [ro_168_14_6]
      simp [hkt, hyr, hyn, hyi, orowsD_ge, rowAt, rowB, e4, e5, e6, e64, e66, e67, e68, e69]
      refine n125 _ _ ?_ ?_ ?_ ?_ ?_ ?_ ?_ ?_ ?_ <;> simp [getT, e4, e5, e6, e64, e66, e67, e68, e69]
  have n60 : ∀ tb g, getT tb 4 = .ptr 32 1 0 → getT tb 5 = .ptr 40 x1 0 → getT tb 6 = I64 (k : Int) → getT tb 66 = I64 (k : Int) → getT tb 67 = .ptr 40 x1 1 → getT tb 68 = .arr 136 x3 → getT tb 69 = I64 (k : Int) → exT C0 0 (inlW C0 [fm_copyTabS] [fw_pick, fw_one] 0 0) ro_168_14 Q ex_168_14_60 ⟨tb, [⟨0, 0, .cells (RS b (p + 3))⟩, ⟨32, 1, .cells [.nil, .nil]⟩, ⟨40, x1, .cells [.arr 88 x2, .arr 136 x3]⟩, ⟨88, x2, .arr 1 (ints u)⟩, ⟨136, x3, .arr 1 (orowsD t)⟩], g⟩ := by
    intro tb g e4 e5 e6 e66 e67 e68 e69
    unfold ex_168_14_60
    simp only [exT_alt, exT_one, exT_stop, and_true]
    refine ⟨?_, ?_⟩
    · rw [ro_168_14_0]
      simp [hkt, hyr, hyn, hyi, orowsD_ge, rowAt, rowB, e4, e5, e6, e66, e67, e68, e69]
      refine n61 _ _ ?_ ?_ ?_ ?_ ?_ ?_ ?_ ?_ <;> simp [getT, e4, e5, e6, e66, e67, e68, e69]
    · rw [ro_168_14_6]
      simp [hkt, hyr, hyn, hyi, orowsD_ge, rowAt, rowB, e4, e5, e6, e66, e67, e68, e69]
      refine n124 _ _ ?_ ?_ ?_ ?_ ?_ ?_ ?_ ?_ <;> simp [getT, e4, e5, e6, e66, e67, e68, e69]
  have n47 : ∀ tb g, getT tb 4 = .ptr 32 1 0 → getT tb 5 = .ptr 40 x1 0 → getT tb 6 = I64 (k : Int) → getT tb 64 = .ptr 40 x1 1 → getT tb 65 = .arr 136 x3 → getT tb 66 = I64 (k : Int) → getT tb 67 = .ptr 40 x1 1 → getT tb 69 = I64 (k : Int) → exT C0 0 (inlW C0 [fm_copyTabS] [fw_pick, fw_one] 0 0) ro_168_14 Q ex_168_14_47 ⟨tb, [⟨0, 0, .cells (RS b (p + 3))⟩, ⟨32, 1, .cells [.nil, .nil]⟩, ⟨40, x1, .cells [.arr 88 x2, .arr 136 x3]⟩, ⟨88, x2, .arr 1 (ints u)⟩, ⟨136, x3, .arr 1 (orowsD t)⟩], g⟩ := by
    intro tb g e4 e5 e6 e64 e65 e66 e67 e69
    unfold ex_168_14_47
    simp only [exT_alt, exT_one, exT_stop, and_true]
    rw [ro_168_14_4]
    simp [hkt, hyr, hyn, hyi, orowsD_ge, rowAt, rowB, e4, e5, e6, e64, e65, e66, e67, e69]
    refine n63 _ _ ?_ ?_ ?_ ?_ ?_ ?_ ?_ ?_ ?_ <;> simp [getT, e4, e5, e6, e64, e65, e66, e67, e69]
  have n45 : ∀ tb g, getT tb 4 = .ptr 32 1 0 → getT tb 5 = .ptr 40 x1 0 → getT tb 6 = I64 (k : Int) → getT tb 64 = .ptr 40 x1 1 → getT tb 66 = I64 (k : Int) → getT tb 67 = .ptr 40 x1 1 → getT tb 69 = I64 (k : Int) → exT C0 0 (inlW C0 [fm_copyTabS] [fw_pick, fw_one] 0 0) ro_168_14 Q ex_168_14_45 ⟨tb, [⟨0, 0, .cells (RS b (p + 3))⟩, ⟨32, 1, .cells [.nil, .nil]⟩, ⟨40, x1, .cells [.arr 88 x2, .arr 136 x3]⟩, ⟨88, x2, .arr 1 (ints u)⟩, ⟨136, x3, .arr 1 (orowsD t)⟩], g⟩ := by
    intro tb g e4 e5 e6 e64 e66 e67 e69
    unfold ex_168_14_45
    simp only [exT_alt, exT_one, exT_stop, and_true]
    refine ⟨?_, ?_⟩
    · rw [ro_168_14_1]
      simp [hkt, hyr, hyn, hyi, orowsD_ge, rowAt, rowB, e4, e5, e6, e64, e66, e67, e69]
      refine n47 _ _ ?_ ?_ ?_ ?_ ?_ ?_ ?_ ?_ <;> simp [getT, e4, e5, e6, e64, e66, e67, e69]
    · rw [ro_168_14_4]
      simp [hkt, hyr, hyn, hyi, orowsD_ge, rowAt, rowB, e4, e5, e6, e64, e66, e67, e69]
      refine n61 _ _ ?_ ?_ ?_ ?_ ?_ ?_ ?_ ?_ <;> simp [getT, e4, e5, e6, e64, e66, e67, e69]
  have n44 : ∀ tb g, getT tb 4 = .ptr 32 1 0 → getT tb 5 = .ptr 40 x1 0 → getT tb 6 = I64 (k : Int) → getT tb 66 = I64 (k : Int) → getT tb 67 = .ptr 40 x1 1 → getT tb 69 = I64 (k : Int) → exT C0 0 (inlW C0 [fm_copyTabS] [fw_pick, fw_one] 0 0) ro_168_14 Q ex_168_14_44 ⟨tb, [⟨0, 0, .cells (RS b (p + 3))⟩, ⟨32, 1, .cells [.nil, .nil]⟩, ⟨40, x1, .cells [.arr 88 x2, .arr 136 x3]⟩, ⟨88, x2, .arr 1 (ints u)⟩, ⟨136, x3, .arr 1 (orowsD t)⟩], g⟩ := by
    intro tb g e4 e5 e6 e66 e67 e69
    unfold ex_168_14_44
    simp only [exT_alt, exT_one, exT_stop, and_true]
    refine ⟨?_, ?_⟩
    · rw [ro_168_14_0]
      simp [hkt, hyr, hyn, hyi, orowsD_ge, rowAt, rowB, e4, e5, e6, e66, e67, e69]
      refine n45 _ _ ?_ ?_ ?_ ?_ ?_ ?_ ?_ <;> simp [getT, e4, e5, e6, e66, e67, e69]
    · rw [ro_168_14_4]
      simp [hkt, hyr, hyn, hyi, orowsD_ge, rowAt, rowB, e4, e5, e6, e66, e67, e69]
      refine n60 _ _ ?_ ?_ ?_ ?_ ?_ ?_ ?_ <;> simp [getT, e4, e5, e6, e66, e67, e69]
  have n39 : ∀ tb g, getT tb 4 = .ptr 32 1 0 → getT tb 5 = .ptr 40 x1 0 → getT tb 6 = I64 (k : Int) → getT tb 64 = .ptr 40 x1 1 → getT tb 65 = .arr 136 x3 → getT tb 66 = I64 (k : Int) → getT tb 69 = I64 (k : Int) → exT C0 0 (inlW C0 [fm_copyTabS] [fw_pick, fw_one] 0 0) ro_168_14 Q ex_168_14_39 ⟨tb, [⟨0, 0, .cells (RS b (p + 3))⟩, ⟨32, 1, .cells [.nil, .nil]⟩, ⟨40, x1, .cells [.arr 88 x2, .arr 136 x3]⟩, ⟨88, x2, .arr 1 (ints u)⟩, ⟨136, x3, .arr 1 (orowsD t)⟩], g⟩ := by
    intro tb g e4 e5 e6 e64 e65 e66 e69
    unfold ex_168_14_39
    simp only [exT_alt, exT_one, exT_stop, and_true]
    rw [ro_168_14_3]
    simp [hkt, hyr, hyn, hyi, orowsD_ge, rowAt, rowB, e4, e5, e6, e64, e65, e66, e69]
    refine n47 _ _ ?_ ?_ ?_ ?_ ?_ ?_ ?_ ?_ <;> simp [getT, e4, e5, e6, e64, e65, e66, e69]
  have n37 : ∀ tb g, getT tb 4 = .ptr 32 1 0 → getT tb 5 = .ptr 40 x1 0 → getT tb 6 = I64 (k : Int) → getT tb 64 = .ptr 40 x1 1 → getT tb 66 = I64 (k : Int) → getT tb 69 = I64 (k : Int) → exT C0 0 (inlW C0 [fm_copyTabS] [fw_pick, fw_one] 0 0) ro_168_14 Q ex_168_14_37 ⟨tb, [⟨0, 0, .cells (RS b (p + 3))⟩, ⟨32, 1, .cells [.nil, .nil]⟩, ⟨40, x1, .cells [.arr 88 x2, .arr 136 x3]⟩, ⟨88, x2, .arr 1 (ints u)⟩, ⟨136, x3, .arr 1 (orowsD t)⟩], g⟩ := by
    intro tb g e4 e5 e6 e64 e66 e69
    unfold ex_168_14_37
    simp only [exT_alt, exT_one, exT_stop, and_true]
    refine ⟨?_, ?_⟩
    · rw [ro_168_14_1]
      simp [hkt, hyr, hyn, hyi, orowsD_ge, rowAt, rowB, e4, e5, e6, e64, e66, e69]
      refine n39 _ _ ?_ ?_ ?_ ?_ ?_ ?_ ?_ <;> simp [getT, e4, e5, e6, e64, e66, e69]
    · rw [ro_168_14_3]
      simp [hkt, hyr, hyn, hyi, orowsD_ge, rowAt, rowB, e4, e5, e6, e64, e66, e69]
      refine n45 _ _ ?_ ?_ ?_ ?_ ?_ ?_ ?_ <;> simp [getT, e4, e5, e6, e64, e66, e69]
  have n36 : ∀ tb g, getT tb 4 = .ptr 32 1 0 → getT tb 5 = .ptr 40 x1 0 → getT tb 6 = I64 (k : Int) → getT tb 66 = I64 (k : Int) → getT tb 69 = I64 (k : Int) → exT C0 0 (inlW C0 [fm_copyTabS] [fw_pick, fw_one] 0 0) ro_168_14 Q ex_168_14_36 ⟨tb, [⟨0, 0, .cells (RS b (p + 3))⟩, ⟨32, 1, .cells [.nil, .nil]⟩, ⟨40, x1, .cells [.arr 88 x2, .arr 136 x3]⟩, ⟨88, x2, .arr 1 (ints u)⟩, ⟨136, x3, .arr 1 (orowsD t)⟩], g⟩ := by
    intro tb g e4 e5 e6 e66 e69
    unfold ex_168_14_36
    simp only [exT_alt, exT_one, exT_stop, and_true]
    refine ⟨?_, ?_⟩
    · rw [ro_168_14_0]
      simp [hkt, hyr, hyn, hyi, orowsD_ge, rowAt, rowB, e4, e5, e6, e66, e69]
      refine n37 _ _ ?_ ?_ ?_ ?_ ?_ ?_ <;> simp [getT, e4, e5, e6, e66, e69]
    · rw [ro_168_14_3]
      simp [hkt, hyr, hyn, hyi, orowsD_ge, rowAt, rowB, e4, e5, e6, e66, e69]
      refine n44 _ _ ?_ ?_ ?_ ?_ ?_ ?_ <;> simp [getT, e4, e5, e6, e66, e69]
  have n4 : ∀ tb g, getT tb 4 = .ptr 32 1 0 → getT tb 5 = .ptr 40 x1 0 → getT tb 6 = I64 (k : Int) → getT tb 66 = I64 (k : Int) → exT C0 0 (inlW C0 [fm_copyTabS] [fw_pick, fw_one] 0 0) ro_168_14 Q ex_168_14_4 ⟨tb, [⟨0, 0, .cells (RS b (p + 3))⟩, ⟨32, 1, .cells [.nil, .nil]⟩, ⟨40, x1, .cells [.arr 88 x2, .arr 136 x3]⟩, ⟨88, x2, .arr 1 (ints u)⟩, ⟨136, x3, .arr 1 (orowsD t)⟩], g⟩ := by
    intro tb g e4 e5 e6 e66
    unfold ex_168_14_4
    simp only [exT_alt, exT_one, exT_stop, and_true]
    rw [ro_168_14_5]
    simp [hkt, hyr, hyn, hyi, orowsD_ge, rowAt, rowB, e4, e5, e6, e66]
    refine n36 _ _ ?_ ?_ ?_ ?_ ?_ <;> simp [getT, e4, e5, e6, e66]
  have n0 : ∀ tb g, getT tb 4 = .ptr 32 1 0 → getT tb 5 = .ptr 40 x1 0 → getT tb 6 = I64 (k : Int) → exT C0 0 (inlW C0 [fm_copyTabS] [fw_pick, fw_one] 0 0) ro_168_14 Q ex_168_14_0 ⟨tb, [⟨0, 0, .cells (RS b (p + 3))⟩, ⟨32, 1, .cells [.nil, .nil]⟩, ⟨40, x1, .cells [.arr 88 x2, .arr 136 x3]⟩, ⟨88, x2, .arr 1 (ints u)⟩, ⟨136, x3, .arr 1 (orowsD t)⟩], g⟩ := by
    intro tb g e4 e5 e6
    unfold ex_168_14_0
    simp only [exT_alt, exT_one, exT_stop, and_true]
    rw [ro_168_14_2]
    simp [hkt, hyr, hyn, hyi, orowsD_ge, rowAt, rowB, e4, e5, e6]
    refine n4 _ _ ?_ ?_ ?_ ?_ <;> simp [getT, e4, e5, e6]
  exact n0

end Go.PS
end

section
-- Contracts: algebras that are drawn and may be invalid: the walk.
set_option maxRecDepth 100000
set_option linter.unusedVariables false
set_option linter.unusedSimpArgs false
namespace Go.PS
open Go.Proofs

set_option maxHeartbeats 4000000 in
theorem bent_pc (b : List Int) (p : Nat) (u : List Int) (t : List (List Int)) (hb : BB b) (hp : p ≤ 1000000) (hp2 : p ≤ 970000) (ga : GA (u, t)) : PC Try.prog 168 (.ptr 0 0 0 :: [AL u t]) (some (RS b p)) false (fun r c => imm 5 r = imm 5 (AL (bnM b p u t).1.1 (bnM b p u t).1.2) ∧ c = (RS b ((bnM b p u t).2))) := by
  have h1 : 1 ≤ u.length := ga.pos
  have h6 : u.length ≤ 6 := ga.six
  have sq : SQ u.length t := ga.sq
  have r0 := pkM_rng hb (p := p) (by omega) (n := 16) (by omega)
  refine pcW [fm_copyTabS] [fw_pick, fw_one] fok_168 ?_
  by_cases c0 : 0 < pkM b p 16
  · have e : bnM b p u t = ((u, t), p + 1) := by unfold bnM; rw [if_pos c0]
    rw [e]
    simp [fa_168, callOW, hb, hp, c0]
  · have lt := fm_copyTabS_look t ga.bigR
    have r1 := pkM_rng hb (p := p + 1) (by omega) (n := u.length) (by omega)
    have r2 := pkM_rng hb (p := p + 2) (by omega) (n := 5) (by omega)
    have z0 : pkM b p 16 = 0 := by omega
    simp [fa_168, callOW, hb, hp, z0]
    refine cutE (α := Nat × Nat × Nat) (fun x => [(0, .ptr 0 0 0), (4, .ptr 32 1 0), (5, .ptr 40 x.1 0)]) (fun x => [⟨0, 0, .cells (RS b (p + 1))⟩, ⟨32, 1, .cells [.nil, .nil]⟩, ⟨40, x.1, .cells [.arr 88 x.2.1, .arr 136 x.2.2]⟩, ⟨88, x.2.1, .arr 1 (ints u)⟩, ⟨136, x.2.2, .arr 1 (orowsD t)⟩]) ?_ (fun x g0 => ?_)
    · simp
      repeat' first
        | refine And.intro ?_ ?_
        | exact le_big (by omega)
        | (refine callDO1 fm_copyTabS (by simp) (by simp) (v := RO t) (by simp; exact lt) ?_; simp)
    · obtain ⟨x1, x2, x3⟩ := x
      have n1 : p + 1 + 1 = p + 2 := rfl
      have n2 : p + 2 + 1 = p + 3 := rfl
      have n3 : p + 3 + 1 = p + 4 := rfl
      have n4 : p + 4 + 1 = p + 5 := rfl
      have b1 : p + 1 ≤ 1000000 := by omega
      have b2 : p + 2 ≤ 1000000 := by omega
      have b3 : p + 3 ≤ 1000000 := by omega
      have b4 : p + 4 ≤ 1000000 := by omega
      have hul : (u.length : Int) ≤ 1099511627776 := by omega
      obtain ⟨k, hk⟩ : ∃ k : Nat, pkM b (p + 1) u.length = k := ⟨(pkM b (p + 1) u.length).toNat, by omega⟩
      have hku : k < u.length := by omega
      have hkt : k < t.length := by rw [sq.len]; exact hku
      have r3 := pkM_rng hb (p := p + 3) (by omega) (n := u.length) (by omega)
      have e0 : bnM b p u t = (let c := pkM b (p + 2) 5
    if c = 0 then ((u, t.set k ((gr t k).set (pkM b (p + 3) u.length).toNat (gi [0, 1, -1, 6] (pkM b (p + 4) 4).toNat))), p + 5)
    else if c = 1 then ((u.set k (gi [0, 3, -1] (pkM b (p + 3) 3).toNat), t), p + 4)
    else if c = 2 then ((u, t.tail), p + 3)
    else if c = 3 then ((u, t.set k ((gr t k).tail)), p + 3)
    else ((u ++ [64], t), p + 3)) := by unfold bnM; rw [if_neg c0, hk, Int.toNat_natCast]
      rw [e0]
      clear e0
      simp [callOW, hb, b1, b2, n1, n2, hul, hk]
      refine ⟨fun c => ?_, fun c => ?_⟩
      · have l1 : fw_one.look [.ptr 0 0 0, .list 1 [.int .i64 0, .int .i64 1, .int .i64 (-1), .int .i64 6]] (RS b (p + 4)) = some (I64 (gi [0, 1, -1, 6] (pkM b (p + 4) 4).toNat), RS b (p + 5)) := fw_one_look b (p + 4) [0, 1, -1, 6] hb (by omega) (by unfold Big; simp) (by simp)
        obtain ⟨y, hy⟩ : ∃ y : Nat, pkM b (p + 3) u.length = y := ⟨(pkM b (p + 3) u.length).toNat, by omega⟩
        have hyu : y < u.length := by omega
        have l0 : fw_pick.look [.ptr 0 0 0, I64 u.length] (RS b (p + 3)) = some (I64 y, RS b (p + 4)) := by rw [← hy]; exact fw_pick_look b (p + 3) u.length hb (by omega) hul
        generalize gi [0, 1, -1, 6] (pkM b (p + 4) 4).toNat = z at *
        simp only [c, if_true, hy, Int.toNat_natCast]
        refine cutE (α := Unit) (fun _ => [(4, .ptr 32 1 0), (5, .ptr 40 x1 0)]) (fun _ => [⟨0, 0, .cells (RS b (p + 5))⟩, ⟨32, 1, .cells [.nil, .nil]⟩, ⟨40, x1, .cells [.arr 88 x2, .arr 136 x3]⟩, ⟨88, x2, .arr 1 (ints u)⟩, ⟨136, x3, .arr 1 (orowsD (t.set k ((gr t k).set y z)))⟩]) ?_ (fun _ g0 => ?_)
        · refine bent_dag8 hkt (by rw [sq.rows k hku]; exact hyu) l0 l1 (fun tb g q4 q5 => ?_) _ _ (by simp) (by simp) (by simp) (by simp)
          simp [q4, q5]
        · simp
      · have c' : ¬ pkM b (p + 2) 5 = 0 := c
        simp only [c', if_false]
        refine ⟨fun d => ?_, fun d => ?_⟩
        · have l1 : fw_one.look [.ptr 0 0 0, .list 1 [.int .i64 0, .int .i64 3, .int .i64 (-1)]] (RS b (p + 3)) = some (I64 (gi [0, 3, -1] (pkM b (p + 3) 3).toNat), RS b (p + 4)) := fw_one_look b (p + 3) [0, 3, -1] hb (by omega) (by unfold Big; simp) (by simp)
          generalize gi [0, 3, -1] (pkM b (p + 3) 3).toNat = z at *
          simp only [d, if_true]
          refine cutE (α := Unit) (fun _ => [(4, .ptr 32 1 0), (5, .ptr 40 x1 0)]) (fun _ => [⟨0, 0, .cells (RS b (p + 4))⟩, ⟨32, 1, .cells [.nil, .nil]⟩, ⟨40, x1, .cells [.arr 88 x2, .arr 136 x3]⟩, ⟨88, x2, .arr 1 (ints (u.set k z))⟩, ⟨136, x3, .arr 1 (orowsD t)⟩]) ?_ (fun _ g0 => ?_)
          · refine bent_dag10 hku l1 (fun tb g q4 q5 => ?_) _ _ (by simp) (by simp) (by simp) (by simp)
            simp [q4, q5]
          · simp
        · have d' : ¬ pkM b (p + 2) 5 = 1 := d
          simp only [d', if_false]
          refine ⟨fun e => ?_, fun e => ?_⟩
          · simp only [e, if_true]
            exact ⟨by omega, ⟨trivial, by rw [← rowsD_length (r := t), List.take_length]; simp [rowsD]⟩, trivial⟩
          · have e' : ¬ pkM b (p + 2) 5 = 2 := e
            simp only [e', if_false]
            refine ⟨fun f => ?_, fun f => ?_⟩
            · simp only [f, if_true]
              refine cutE (α := Unit) (fun _ => [(4, .ptr 32 1 0), (5, .ptr 40 x1 0)]) (fun _ => [⟨0, 0, .cells (RS b (p + 3))⟩, ⟨32, 1, .cells [.nil, .nil]⟩, ⟨40, x1, .cells [.arr 88 x2, .arr 136 x3]⟩, ⟨88, x2, .arr 1 (ints u)⟩, ⟨136, x3, .arr 1 ((orowsD t).set k (IL ((gr t k).tail)))⟩]) ?_ (fun _ g0 => ?_)
              · refine bent_dag14 hkt (by rw [sq.rows k hku]; exact h1) (fun e => by have := sq.rows k hku; rw [e] at this; simp at this; omega) (by rw [sq.rows k hku]; omega) (fun tb g q4 q5 => ?_) _ _ (by simp) (by simp) (by simp)
                simp [q4, q5]
              · simp
                simp [rowsD, List.map_set]
            · have f' : ¬ pkM b (p + 2) 5 = 3 := f
              simp only [f', if_false]
              exact ⟨le_big (by omega), ⟨trivial, trivial⟩, trivial⟩
noncomputable def fw_bent : FamW Try.prog := mkFamW (X := List Int × Nat × List Int × List (List Int)) 168 (fun (b, p, u, t) => (.ptr 0 0 0 :: [AL u t])) (fun (b, p, u, t) => (RS b p)) (fun (b, p, u, t) => (BB b) ∧ (p ≤ 1000000) ∧ (p ≤ 970000) ∧ (GA (u, t))) (fun (b, p, u, t) => AL (bnM b p u t).1.1 (bnM b p u t).1.2) (fun (b, p, u, t) => (RS b ((bnM b p u t).2))) (by
  rintro ⟨b, p, u, t⟩ ⟨hb, hp, hp2, ga⟩
  exact bent_pc b p u t hb hp hp2 ga)
@[simp] theorem fw_bent_id : fw_bent.id = 168 := rfl
@[simp] theorem fw_bent_look (b : List Int) (p : Nat) (u : List Int) (t : List (List Int)) (hb : BB b) (hp : p ≤ 1000000) (hp2 : p ≤ 970000) (ga : GA (u, t)) : fw_bent.look (.ptr 0 0 0 :: [AL u t]) (RS b p) = some (AL (bnM b p u t).1.1 (bnM b p u t).1.2, (RS b ((bnM b p u t).2))) :=
  lookG_of (X := List Int × Nat × List Int × List (List Int)) (args := fun (b, p, u, t) => (.ptr 0 0 0 :: [AL u t])) (cell := fun (b, p, u, t) => (RS b p)) (pre := fun (b, p, u, t) => (BB b) ∧ (p ≤ 1000000) ∧ (p ≤ 970000) ∧ (GA (u, t))) (val := fun (b, p, u, t) => AL (bnM b p u t).1.1 (bnM b p u t).1.2) (cell' := fun (b, p, u, t) => (RS b ((bnM b p u t).2))) (by
  rintro ⟨b, p, u, t⟩ ⟨b', p', u', t'⟩ h h2
  simp at h h2
  try simp only [and_assoc] at h
  obtain ⟨rfl, rfl⟩ := h2
  obtain ⟨rfl, rfl⟩ := h
  exact ⟨rfl, rfl⟩) (b, p, u, t) ⟨hb, hp, hp2, ga⟩
attribute [irreducible] fw_bent
end Go.PS
end

section
-- Contracts: some algebra; a new reader, in place.
set_option maxRecDepth 100000
set_option linter.unusedVariables false
set_option linter.unusedSimpArgs false
namespace Go.PS
open Go.Proofs

/-- Of few elements. -/
structure Few (a : Alg) : Prop where
  u : a.1.length ≤ 7
  t : a.2.length ≤ 6
  r : ∀ x ∈ a.2, x.length ≤ 6
theorem Few.big {a : Alg} (g : Few a) : Big a.1.length := by unfold Big; have := g.u; omega
theorem Few.bigR {a : Alg} (g : Few a) : BigR a.2 := ⟨by unfold Big; have := g.t; omega, fun x hx => by unfold Big; have := g.r x hx; omega⟩
theorem GA.few {a : Alg} (g : GA a) : Few a := by
  refine ⟨by have := g.six; omega, by rw [g.sq.len]; exact g.six, fun x hx => ?_⟩
  obtain ⟨i, hi, rfl⟩ := List.mem_iff_getElem.1 hx
  have := g.sq.rows i (by rw [← g.sq.len]; exact hi)
  simp [gr, List.getElem?_eq_getElem hi] at this
  have := g.six
  omega
theorem few_set {u : List Int} {t : List (List Int)} {k : Nat} {r : List Int} (g : Few (u, t)) (hr : r.length ≤ 6) : Few (u, t.set k r) :=
  ⟨g.u, by simpa using g.t, fun x hx => by
    rcases List.mem_or_eq_of_mem_set hx with h | h
    · exact g.r x h
    · rw [h]; exact hr⟩
theorem bnM_few {b : List Int} {p : Nat} {u : List Int} {t : List (List Int)} (g : GA (u, t)) : Few (bnM b p u t).1 ∧ (bnM b p u t).2 ≤ p + 5 := by
  have f := g.few
  have hrow : ∀ k, (gr t k).length ≤ 6 := fun k => by
    by_cases h : k < t.length
    · exact f.r _ (gr_mem h)
    · simp [gr, List.getElem?_eq_none (Nat.le_of_not_lt h)]
  unfold bnM
  split
  · exact ⟨f, by show p + 1 ≤ p + 5; omega⟩
  · dsimp only
    split
    · exact ⟨few_set f (by rw [List.length_set]; exact hrow _), Nat.le_refl _⟩
    · split
      · exact ⟨⟨by have := f.u; simpa using this, f.t, f.r⟩, by show p + 4 ≤ p + 5; omega⟩
      · split
        · exact ⟨⟨f.u, by have := f.t; simp at this ⊢; omega, fun x hx => f.r x (List.mem_of_mem_tail hx)⟩, by show p + 3 ≤ p + 5; omega⟩
        · split
          · exact ⟨few_set f (by have := hrow (pkM b (p + 1) u.length).toNat; simp; omega), by show p + 3 ≤ p + 5; omega⟩
          · exact ⟨⟨by have := g.six; simp at this ⊢; omega, f.t, f.r⟩, by show p + 3 ≤ p + 5; omega⟩
/-- What a reader reads. -/
def rdB (code : List Int) : List Int := code.take 2000
def Byt (code : List Int) : Prop := ∀ x ∈ code, 0 ≤ x ∧ x ≤ 255
theorem rdB_ok {code : List Int} (h : Byt code) : BB (rdB code) := ⟨by simp [rdB]; omega, fun x hx => h x (List.mem_of_mem_take hx)⟩
def inlR (id : Nat) : Option FnA := if id = 90 then some fa_90 else none
theorem inlR_ok (id : Nat) (fa : FnA) (h : inlR id = some fa) : ∃ A, FnOk Try.prog id fa A := by
  unfold inlR at h
  split at h
  · rename_i e; injection h with h; subst h; exact ⟨_, e ▸ fok_90⟩
  · cases h
theorem pcR (T : List (Fam Try.prog)) (TW : List (FamW Try.prog)) {f : Nat} {fa : FnA} {A : Ann} (hf : FnOk Try.prog f fa A) {ds : List D} {fresh : Bool} {R : D → List D → Prop}
    (h : run (CI inlR) 0 (inlW (CI inlR) T TW 1 0) fa.ac (retQ (CI inlR).tt fresh fa.res R false) ⟨args0 0 ds, [], 1⟩) : PC Try.prog f ds none fresh R :=
  pc_of_run (C := CI inlR) (kb := 0) (io := none) hty0 Try.checked.mixed (inlW_ok (C := CI inlR) hty0 Try.checked.mixed (by intro f fa h; exact inlR_ok f fa h) T TW 1 0) hf h
section
variable {T : List (Fam Try.prog)} {TW : List (FamW Try.prog)} {n kb kb' id : Nat} {caps args : List D} {σ : St} {d : Option Nat} {ops : List AOper} {Q : St → Prop}
theorem callOWR (hn : (id == 90) = false) (hw : (findW id TW).isSome = true) : callO (CI inlR) kb' (inlW (CI inlR) T TW n kb) d 16 (.fn id caps) args σ ops Q = tabW2 (findW id TW) (args ++ caps) σ.h (fun v h => opsK (CI inlR) kb' (inlW (CI inlR) T TW n kb) ops ⟨put σ.t d (imm 5 v), h, σ.g⟩ Q) :=
  callO16W' (by show inlR id = none; unfold inlR; rw [if_neg (by simpa using hn)]) hw
theorem callON : callO (CI inlR) kb' (inlW (CI inlR) T TW 1 kb) d 16 (.fn 90 caps) args σ ops Q =
    run (CI inlR) (kb + 4000) (inlW (CI inlR) T TW 0 (kb + 4000)) fa_90.ac (inlQ (CI inlR).tt fa_90.res (backK (CI inlR) kb' (inlW (CI inlR) T TW 1 kb) σ.t d ops Q)) ⟨args0 0 (args ++ caps), σ.h, σ.g⟩ := callO16I (by rfl)
end

/-- A new reader. -/
theorem newR {T : List (Fam Try.prog)} {TW : List (FamW Try.prog)} {σ : St} {d : Option Nat} {ops : List AOper} {Q : St → Prop} {c : List Int} (hl : c.length ≤ 1099511627776)
    (h : opsK (CI inlR) 0 (inlW (CI inlR) T TW 1 0) ops ⟨put σ.t d (.ptr 4080 σ.g 0), ⟨4080, σ.g, .cells (RS (rdB c) 0)⟩ :: hdel σ.h 4080, σ.g + 1⟩ Q) :
    callO (CI inlR) 0 (inlW (CI inlR) T TW 1 0) d 16 (.fn 90 []) [BL c] σ ops Q := by
  rw [callON]
  rcases Nat.lt_or_ge 2000 c.length with q | q
  · simp [fa_90, show ((2000 : Int) < c.length) by omega, show ((2000 : Int) ≤ c.length) by omega, show ¬ ((c.length : Int) ≤ 2000) by omega]
    exact h
  · have e : rdB c = c := by unfold rdB; exact List.take_of_length_le q
    rw [e] at h
    simp [fa_90, show ¬ ((2000 : Int) < c.length) by omega, show ((c.length : Int) ≤ 2000) by omega]
    exact h
end Go.PS
end

section
-- PRINTED by gen.py: clean texts of functions, and their tie to the program.
set_option maxRecDepth 100000
namespace Go.PS
open Go.Proofs
/-- spec.mapOf -/
def an_143 : Ann := ⟨[(1, 1, 16), (2, 1, 3), (3, 5, 16), (3, 8, 3), (4, 1, 16), (7, 0, 1), (13, 1, 16), (14, 3, 3), (16, 4, 16), (17, 1, 16), (19, 0, 1), (19, 4, 2), (21, 0, 1), (22, 4, 16), (22, 7, 16), (24, 2, 16), (24, 5, 16)], [(0, [0, 2, 3]), (1, [0, 2, 3, 5]), (2, [0, 2, 3, 5, 6]), (3, [0, 2, 3, 5, 7, 8]), (4, [0, 2, 3, 5, 7, 8, 28]), (5, [0, 2, 3, 5, 7, 8, 28, 29]), (6, [0, 2, 3, 5, 7]), (7, [0, 2, 3, 5, 7, 8]), (8, [0, 2, 3, 5, 7, 8, 9]), (9, [0, 2, 3, 5, 7, 8, 9, 37]), (11, [0, 2, 3, 5, 7, 8, 9]), (10, [0, 2, 3, 5, 7, 8, 9]), (12, [0, 2, 3, 5, 7, 8, 44]), (13, [0, 2, 3, 5, 7, 8]), (14, [0, 2, 3, 5, 7, 8, 10]), (15, [0, 2, 3, 5, 7, 8, 10, 54]), (16, [0, 2, 3, 5, 7, 8]), (17, [0, 2, 3, 5, 7, 8, 63]), (18, [0, 2, 3, 5, 7, 8, 63, 64]), (19, [2, 3, 5, 7, 8]), (20, [0, 2, 3, 5, 7, 8, 63, 71]), (21, [0, 2, 3, 5, 7, 8]), (22, [2, 3, 5, 7, 8]), (23, [0, 2, 3, 5, 7, 8, 85]), (24, [2, 3, 4]), (25, [2, 3, 4])], [(9, [0, 2, 3, 5, 7, 8, 9], [0, 16, 24, 40, 56, 96, 256, 344, 376, 528, 544, 560, 584, 600, 664, 712, 736])], [(3, (.one 1 (.one 2 (.one 3 (.imm 4 (.alt 0 (.alt 5 (.imm 6 (.alt 7 (.alt 8 (.one 9 (.one 10 (.one 11 (.alt 12 (.alt 13 (.one 14 .fin) .stop) .stop)))) (.alt 12 (.alt 8 (.one 9 (.one 10 (.one 11 (.alt 13 (.one 14 .fin) .stop)))) .stop) .stop)) (.alt 12 (.alt 7 (.alt 8 (.one 9 (.one 10 (.one 11 (.alt 13 (.one 14 .fin) .stop)))) .stop) .stop) .stop))) (.alt 12 (.alt 5 (.imm 6 (.alt 7 (.alt 8 (.one 9 (.one 10 (.one 11 (.alt 13 (.one 14 .fin) .stop)))) .stop) .stop)) .stop) .stop)) (.alt 5 (.imm 6 (.alt 0 (.alt 7 (.alt 8 (.one 9 (.one 10 (.one 11 (.alt 12 (.alt 13 (.one 14 .fin) .stop) .stop)))) (.alt 12 (.alt 8 (.one 9 (.one 10 (.one 11 (.alt 13 (.one 14 .fin) .stop)))) .stop) .stop)) (.alt 12 (.alt 7 (.alt 8 (.one 9 (.one 10 (.one 11 (.alt 13 (.one 14 .fin) .stop)))) .stop) .stop) .stop)) (.alt 7 (.alt 0 (.alt 8 (.one 9 (.one 10 (.one 11 (.alt 12 (.alt 13 (.one 14 .fin) .stop) .stop)))) (.alt 12 (.alt 8 (.one 9 (.one 10 (.one 11 (.alt 13 (.one 14 .fin) .stop)))) .stop) .stop)) (.alt 12 (.alt 0 (.alt 8 (.one 9 (.one 10 (.one 11 (.alt 13 (.one 14 .fin) .stop)))) .stop) .stop) .stop)) (.alt 12 (.alt 0 (.alt 7 (.alt 8 (.one 9 (.one 10 (.one 11 (.alt 13 (.one 14 .fin) .stop)))) .stop) .stop) (.alt 7 (.alt 0 (.alt 8 (.one 9 (.one 10 (.one 11 (.alt 13 (.one 14 .fin) .stop)))) .stop) .stop) .stop)) .stop)))) (.alt 12 (.alt 0 (.alt 5 (.imm 6 (.alt 7 (.alt 8 (.one 9 (.one 10 (.one 11 (.alt 13 (.one 14 .fin) .stop)))) .stop) .stop)) .stop) (.alt 5 (.imm 6 (.alt 0 (.alt 7 (.alt 8 (.one 9 (.one 10 (.one 11 (.alt 13 (.one 14 .fin) .stop)))) .stop) .stop) (.alt 7 (.alt 0 (.alt 8 (.one 9 (.one 10 (.one 11 (.alt 13 (.one 14 .fin) .stop)))) .stop) .stop) .stop))) .stop)) .stop))))))), [0, 16, 24, 40, 56, 96, 256, 344, 376, 528, 544, 560, 584, 600, 664, 712, 736]), (24, (.one 0 (.one 3 (.one 6 (.alt 1 (.alt 2 (.alt 4 (.alt 5 (.alt 7 (.alt 8 (.one 9 .fin) .stop) .stop) .stop) .stop) (.alt 4 (.alt 2 (.alt 5 (.alt 7 (.alt 8 (.one 9 .fin) .stop) .stop) .stop) .stop) .stop)) (.alt 4 (.alt 1 (.alt 2 (.alt 5 (.alt 7 (.alt 8 (.one 9 .fin) .stop) .stop) .stop) .stop) .stop) .stop))))), [0, 16, 24, 96, 256, 344, 376, 528, 544, 560, 584, 600, 664, 712, 736]), (25, (.one 2 (.alt 0 (.alt 1 (.alt 3 (.alt 4 (.one 5 .fin) .stop) .stop) (.alt 3 (.alt 1 (.alt 4 (.one 5 .fin) .stop) .stop) .stop)) (.alt 1 (.alt 0 (.alt 3 (.alt 4 (.one 5 .fin) .stop) .stop) .stop) .stop))), [0, 16, 24, 96, 256, 344, 376, 528, 544, 560, 584, 600, 664, 712, 736])]⟩
def ct_143_25 : AC :=
  (.seq
    (.expl [⟨some 94, (.load 27 (.t 5)), 27, none, 0⟩, ⟨some 95, (.load 27 (.t 7)), 27, none, 0⟩, ⟨some 96, (.mv (.t 8)), 23, none, 0⟩, ⟨none, (.store 27 (.t 2) (.t 94)), 0, none, 0⟩, ⟨none, (.store 27 (.t 3) (.t 95)), 0, none, 0⟩, ⟨some 4, (.mv (.t 96)), 23, none, 0⟩] (.one 2 (.alt 0 (.alt 1 (.alt 3 (.alt 4 (.one 5 .fin) .stop) .stop) (.alt 3 (.alt 1 (.alt 4 (.one 5 .fin) .stop) .stop) .stop)) (.alt 1 (.alt 0 (.alt 3 (.alt 4 (.one 5 .fin) .stop) .stop) .stop) .stop))) [2, 3, 4] [0, 16, 24, 96, 256, 344, 376, 528, 544, 560, 584, 600, 664, 712, 736])
    .ret)
def ct_143_17 : AC :=
  (.seq
    (.seq
      (.region false [⟨some 62, (.mv (.t 0)), 72, none, 0⟩, ⟨some 63, (.call (.f 106) [(.t 62), (.c (.int .i64 16))]), 3, none, 16⟩] (some [0, 2, 3, 5, 7, 8, 63]))
      (.block 3
        (.seq
          (.region false [⟨some 65, (.bin .eql 3 (.t 63) (.c (.int .i64 0))), 4, none, 0⟩, ⟨some 64, (.mv (.t 65)), 4, none, 0⟩] (some [0, 2, 3, 5, 7, 8, 63, 64]))
          (.cond (.t 64)
            (.region false [⟨some 66, (.bslice 23 0 []), 23, none, 1⟩, ⟨some 67, (.mv (.t 8)), 23, none, 0⟩, ⟨some 68, (.app 23 23 (.t 66) (.t 67)), 23, none, 0⟩, ⟨some 69, (.bslice 23 1 [(0, (.c (.int .i64 0)))]), 23, none, 0⟩, ⟨some 70, (.app 23 23 (.t 68) (.t 69)), 23, none, 2⟩, ⟨some 8, (.mv (.t 70)), 23, none, 0⟩] (some [2, 3, 5, 7, 8]))
            (.seq
              (.region false [⟨some 72, (.bin .eql 3 (.t 63) (.c (.int .i64 1))), 4, none, 0⟩, ⟨some 71, (.mv (.t 72)), 4, none, 0⟩] (some [0, 2, 3, 5, 7, 8, 63, 71]))
              (.cond (.t 71)
                (.seq
                  (.region false [⟨some 73, (.bslice 23 0 []), 23, none, 1⟩, ⟨some 74, (.mv (.t 8)), 23, none, 0⟩, ⟨some 75, (.app 23 23 (.t 73) (.t 74)), 23, none, 0⟩, ⟨some 8, (.mv (.t 75)), 23, none, 0⟩] (some [0, 2, 3, 5, 7, 8]))
                  (.region false [⟨some 76, (.mv (.t 8)), 23, none, 0⟩, ⟨some 77, (.mv (.t 0)), 72, none, 0⟩, ⟨some 78, (.mv (.t 8)), 23, none, 0⟩, ⟨some 79, (.len 23 (.t 78)), 3, none, 0⟩, ⟨some 80, (.call (.f 106) [(.t 77), (.t 79)]), 3, none, 16⟩, ⟨some 81, (.mv (.t 0)), 72, none, 0⟩, ⟨some 82, (.bslice 23 4 [(0, (.c (.int .i64 0))), (1, (.c (.int .i64 1))), (2, (.c (.int .i64 (-1)))), (3, (.c (.int .i64 6)))]), 23, none, 0⟩, ⟨some 83, (.call (.f 161) [(.t 81), (.t 82)]), 3, none, 16⟩, ⟨some 84, (.iaddr 23 (.t 76) (.t 80)), 0, none, 0⟩, ⟨none, (.store 3 (.t 84) (.t 83)), 0, none, 0⟩] (some [2, 3, 5, 7, 8])))
                (.seq
                  (.region false [⟨some 86, (.bin .eql 3 (.t 63) (.c (.int .i64 2))), 4, none, 0⟩, ⟨some 85, (.mv (.t 86)), 4, none, 0⟩] (some [0, 2, 3, 5, 7, 8, 85]))
                  (.cond (.t 85)
                    (.seq
                      (.expl [⟨some 87, (.mv (.t 0)), 72, none, 0⟩, ⟨some 88, (.load 27 (.t 5)), 27, none, 0⟩, ⟨some 89, (.call (.f 168) [(.t 87), (.t 88)]), 27, none, 16⟩, ⟨some 90, (.mv (.t 0)), 72, none, 0⟩, ⟨some 91, (.load 27 (.t 7)), 27, none, 0⟩, ⟨some 92, (.call (.f 168) [(.t 90), (.t 91)]), 27, none, 16⟩, ⟨some 93, (.mv (.t 8)), 23, none, 0⟩, ⟨none, (.store 27 (.t 2) (.t 89)), 0, none, 0⟩, ⟨none, (.store 27 (.t 3) (.t 92)), 0, none, 0⟩, ⟨some 4, (.mv (.t 93)), 23, none, 0⟩] (.one 0 (.one 3 (.one 6 (.alt 1 (.alt 2 (.alt 4 (.alt 5 (.alt 7 (.alt 8 (.one 9 .fin) .stop) .stop) .stop) .stop) (.alt 4 (.alt 2 (.alt 5 (.alt 7 (.alt 8 (.one 9 .fin) .stop) .stop) .stop) .stop) .stop)) (.alt 4 (.alt 1 (.alt 2 (.alt 5 (.alt 7 (.alt 8 (.one 9 .fin) .stop) .stop) .stop) .stop) .stop) .stop))))) [2, 3, 4] [0, 16, 24, 96, 256, 344, 376, 528, 544, 560, 584, 600, 664, 712, 736])
                      .ret)
                    .skip))))))))
   ct_143_25)
def lb_143_9 : AC :=
  (.seq
    (.seq
      (.region false [⟨some 33, (.mv (.t 9)), 3, none, 0⟩, ⟨some 34, (.faddr 27 (.t 5) 0), 0, none, 0⟩, ⟨some 35, (.load 23 (.t 34)), 23, none, 0⟩, ⟨some 36, (.len 23 (.t 35)), 3, none, 0⟩, ⟨some 37, (.bin .lss 3 (.t 33) (.t 36)), 4, none, 0⟩] (some [0, 2, 3, 5, 7, 8, 9, 37]))
      (.cond (.t 37)
        .skip
        (.exit 1)))
    (.seq
      (.block 2
        (.region false [⟨some 40, (.mv (.t 8)), 23, none, 0⟩, ⟨some 41, (.mv (.t 9)), 3, none, 0⟩, ⟨some 42, (.bslice 23 1 [(0, (.t 41))]), 23, none, 0⟩, ⟨some 43, (.app 23 23 (.t 40) (.t 42)), 23, none, 0⟩, ⟨some 8, (.mv (.t 43)), 23, none, 0⟩] (some [0, 2, 3, 5, 7, 8, 9])))
      (.region false [⟨some 38, (.mv (.t 9)), 3, none, 0⟩, ⟨some 39, (.bin .add 3 (.t 38) (.c (.int .i64 1))), 3, none, 0⟩, ⟨some 9, (.mv (.t 39)), 3, none, 0⟩] (some [0, 2, 3, 5, 7, 8, 9]))))
def ct_143_4 : AC :=
  (.seq
    (.seq
      (.region false [⟨some 27, (.mv (.t 0)), 72, none, 0⟩, ⟨some 28, (.call (.f 106) [(.t 27), (.c (.int .i64 4))]), 3, none, 16⟩] (some [0, 2, 3, 5, 7, 8, 28]))
      (.block 0
        (.seq
          (.region false [⟨some 30, (.bin .eql 3 (.t 28) (.c (.int .i64 0))), 4, none, 0⟩, ⟨some 29, (.mv (.t 30)), 4, none, 0⟩] (some [0, 2, 3, 5, 7, 8, 28, 29]))
          (.cond (.t 29)
            (.seq
              (.region false [⟨some 31, (.load 27 (.t 5)), 27, none, 0⟩, ⟨none, (.store 27 (.t 7) (.t 31)), 0, none, 0⟩] (some [0, 2, 3, 5, 7]))
              (.seq
                (.region false [⟨some 32, (.bslice 23 0 []), 23, none, 1⟩, ⟨some 8, (.mv (.t 32)), 23, none, 0⟩] (some [0, 2, 3, 5, 7, 8]))
                (.seq
                  (.region false [⟨some 9, (.mv (.c (.int .i64 0))), 3, none, 0⟩] (some [0, 2, 3, 5, 7, 8, 9]))
                  (.block 1
                    (.loop [0, 2, 3, 5, 7, 8, 9] [0, 16, 24, 40, 56, 96, 256, 344, 376, 528, 544, 560, 584, 600, 664, 712, 736] lb_143_9)))))
            (.seq
              (.region false [⟨some 45, (.bin .eql 3 (.t 28) (.c (.int .i64 1))), 4, none, 0⟩, ⟨some 44, (.mv (.t 45)), 4, none, 0⟩] (some [0, 2, 3, 5, 7, 8, 44]))
              (.cond (.t 44)
                (.seq
                  (.region false [⟨some 46, (.mv (.t 0)), 72, none, 0⟩, ⟨some 47, (.call (.f 181) [(.t 46), (.c (.int .i64 3))]), 27, none, 16⟩, ⟨none, (.store 27 (.t 5) (.t 47)), 0, none, 0⟩] (some [0, 2, 3, 5, 7, 8]))
                  (.seq
                    (.region false [⟨some 48, (.load 27 (.t 5)), 27, none, 0⟩, ⟨some 49, (.load 27 (.t 7)), 27, none, 0⟩, ⟨some 50, (.bslice 23 0 []), 23, none, 0⟩, ⟨some 51, (.call (.f 159) [(.t 48), (.t 49), (.t 50)]), 25, none, 3⟩, ⟨some 10, (.mv (.t 51)), 25, none, 0⟩] (some [0, 2, 3, 5, 7, 8, 10]))
                    (.seq
                      (.region false [⟨some 52, (.mv (.t 10)), 25, none, 0⟩, ⟨some 53, (.len 25 (.t 52)), 3, none, 0⟩, ⟨some 54, (.bin .gtr 3 (.t 53) (.c (.int .i64 0))), 4, none, 0⟩] (some [0, 2, 3, 5, 7, 8, 10, 54]))
                      (.cond (.t 54)
                        (.region false [⟨some 55, (.mv (.t 10)), 25, none, 0⟩, ⟨some 56, (.mv (.t 0)), 72, none, 0⟩, ⟨some 57, (.mv (.t 10)), 25, none, 0⟩, ⟨some 58, (.len 25 (.t 57)), 3, none, 0⟩, ⟨some 59, (.call (.f 106) [(.t 56), (.t 58)]), 3, none, 16⟩, ⟨some 60, (.iaddr 25 (.t 55) (.t 59)), 0, none, 0⟩, ⟨some 61, (.load 23 (.t 60)), 23, none, 0⟩, ⟨some 8, (.mv (.t 61)), 23, none, 0⟩] (some [0, 2, 3, 5, 7, 8]))
                        .skip))))
                .skip))))))
   ct_143_17)
def fa_143 : FnA := ⟨97, [.c 2 27, .c 3 27, .t 4],
  (.seq
    (.region false [⟨some 2, (.alloc 27), 0, none, 0⟩, ⟨some 3, (.alloc 27), 0, none, 0⟩, ⟨some 4, (.mv (.c .nil)), 23, none, 0⟩] (some [0, 2, 3]))
    (.seq
      (.region false [⟨some 11, (.mv (.t 0)), 72, none, 0⟩, ⟨some 12, (.call (.f 169) [(.t 11)]), 27, none, 16⟩, ⟨some 5, (.alloc 27), 0, none, 0⟩, ⟨none, (.store 27 (.t 5) (.t 12)), 0, none, 0⟩] (some [0, 2, 3, 5]))
      (.seq
        (.region false [⟨some 13, (.load 27 (.t 5)), 27, none, 0⟩, ⟨some 14, (.call (.f 119) [(.t 13)]), 23, none, 3⟩, ⟨some 6, (.mv (.t 14)), 23, none, 0⟩] (some [0, 2, 3, 5, 6]))
        (.seq
          (.expl [⟨some 16, (.load 27 (.t 5)), 27, none, 0⟩, ⟨some 17, (.mv (.t 6)), 23, none, 0⟩, ⟨some 18, (.mv (.t 0)), 72, none, 0⟩, ⟨some 19, (.mv (.t 6)), 23, none, 0⟩, ⟨some 20, (.len 23 (.t 19)), 3, none, 0⟩, ⟨some 21, (.call (.f 106) [(.t 18), (.t 20)]), 3, none, 16⟩, ⟨some 22, (.iaddr 23 (.t 17) (.t 21)), 0, none, 0⟩, ⟨some 23, (.load 3 (.t 22)), 3, none, 0⟩, ⟨some 24, (.call (.f 180) [(.t 16), (.t 23)]), 39, none, 3⟩, ⟨some 15, (.mv (.t 24)), 39, none, 0⟩, ⟨some 25, (.ext (.t 15) 0), 27, none, 0⟩, ⟨some 26, (.ext (.t 15) 1), 23, none, 0⟩, ⟨some 7, (.alloc 27), 0, none, 0⟩, ⟨none, (.store 27 (.t 7) (.t 25)), 0, none, 0⟩, ⟨some 8, (.mv (.t 26)), 23, none, 0⟩] (.one 1 (.one 2 (.one 3 (.imm 4 (.alt 0 (.alt 5 (.imm 6 (.alt 7 (.alt 8 (.one 9 (.one 10 (.one 11 (.alt 12 (.alt 13 (.one 14 .fin) .stop) .stop)))) (.alt 12 (.alt 8 (.one 9 (.one 10 (.one 11 (.alt 13 (.one 14 .fin) .stop)))) .stop) .stop)) (.alt 12 (.alt 7 (.alt 8 (.one 9 (.one 10 (.one 11 (.alt 13 (.one 14 .fin) .stop)))) .stop) .stop) .stop))) (.alt 12 (.alt 5 (.imm 6 (.alt 7 (.alt 8 (.one 9 (.one 10 (.one 11 (.alt 13 (.one 14 .fin) .stop)))) .stop) .stop)) .stop) .stop)) (.alt 5 (.imm 6 (.alt 0 (.alt 7 (.alt 8 (.one 9 (.one 10 (.one 11 (.alt 12 (.alt 13 (.one 14 .fin) .stop) .stop)))) (.alt 12 (.alt 8 (.one 9 (.one 10 (.one 11 (.alt 13 (.one 14 .fin) .stop)))) .stop) .stop)) (.alt 12 (.alt 7 (.alt 8 (.one 9 (.one 10 (.one 11 (.alt 13 (.one 14 .fin) .stop)))) .stop) .stop) .stop)) (.alt 7 (.alt 0 (.alt 8 (.one 9 (.one 10 (.one 11 (.alt 12 (.alt 13 (.one 14 .fin) .stop) .stop)))) (.alt 12 (.alt 8 (.one 9 (.one 10 (.one 11 (.alt 13 (.one 14 .fin) .stop)))) .stop) .stop)) (.alt 12 (.alt 0 (.alt 8 (.one 9 (.one 10 (.one 11 (.alt 13 (.one 14 .fin) .stop)))) .stop) .stop) .stop)) (.alt 12 (.alt 0 (.alt 7 (.alt 8 (.one 9 (.one 10 (.one 11 (.alt 13 (.one 14 .fin) .stop)))) .stop) .stop) (.alt 7 (.alt 0 (.alt 8 (.one 9 (.one 10 (.one 11 (.alt 13 (.one 14 .fin) .stop)))) .stop) .stop) .stop)) .stop)))) (.alt 12 (.alt 0 (.alt 5 (.imm 6 (.alt 7 (.alt 8 (.one 9 (.one 10 (.one 11 (.alt 13 (.one 14 .fin) .stop)))) .stop) .stop)) .stop) (.alt 5 (.imm 6 (.alt 0 (.alt 7 (.alt 8 (.one 9 (.one 10 (.one 11 (.alt 13 (.one 14 .fin) .stop)))) .stop) .stop) (.alt 7 (.alt 0 (.alt 8 (.one 9 (.one 10 (.one 11 (.alt 13 (.one 14 .fin) .stop)))) .stop) .stop) .stop))) .stop)) .stop))))))) [0, 2, 3, 5, 7, 8] [0, 16, 24, 40, 56, 96, 256, 344, 376, 528, 544, 560, 584, 600, 664, 712, 736])
         ct_143_4))))⟩
theorem fok_143 : FnOk Try.prog 143 fa_143 an_143 := ⟨Try.f143, _, Try.func143, rfl, by kernel_rfl, rfl, rfl, by decide, by kernel_rfl⟩
end Go.PS
end

section
-- Contracts: maps that are drawn.
set_option maxRecDepth 100000
set_option linter.unusedVariables false
set_option linter.unusedSimpArgs false
namespace Go.PS
open Go.Proofs

noncomputable def moF (b : List Int) (p : Nat) (u : List Int) (t : List (List Int)) : Nat := (filN u t (2 ^ u.length)).getD (pkM b p (filN u t (2 ^ u.length)).length).toNat 0
theorem moF_fi {b : List Int} (hb : BB b) {p : Nat} (hp : p ≤ 1000000) {u : List Int} {t : List (List Int)} (a : VA u t) : FI u t (moF b p u t) ∧ gi (natL (filN u t (2 ^ u.length))) (pkM b p (filN u t (2 ^ u.length)).length).toNat = (moF b p u t : Nat) := by
  have hpos : 0 < (filN u t (2 ^ u.length)).length := List.length_pos_of_mem (mem_fil.2 (fi_all a))
  have hr := pkM_rng hb (p := p) (by omega) (n := (filN u t (2 ^ u.length)).length) (by omega)
  have hi : (pkM b p (filN u t (2 ^ u.length)).length).toNat < (filN u t (2 ^ u.length)).length := by omega
  unfold moF
  rw [gi_natL hi, List.getD_eq_getElem?_getD, List.getElem?_eq_getElem hi]
  exact ⟨mem_fil.1 (List.getElem_mem hi), rfl⟩
theorem ga_va {u : List Int} {t : List (List Int)} (a : VA u t) : GA (u, t) := ⟨a.lat.pos, a.lat.six, ⟨a.len, a.rows⟩⟩
abbrev Mps := Alg × Alg × List Int
noncomputable def moA (b : List Int) (p : Nat) (u : List Int) (t : List (List Int)) (f : Nat) : Mps × Nat :=
  if pkM b p 4 = 0 then (((u, t), (u, t), tl u.length fun x => (x : Int)), p + 1)
  else if pkM b p 4 = 1 then
    (let A := aofM b (p + 1) 3; let l := mprn A.1.1 A.1.2 (quU u t f) (quT u t f) A.1.1.length []
     if l = [] then ((A.1, (quU u t f, quT u t f), quP u t f), A.2) else ((A.1, (quU u t f, quT u t f), gr l (pkM b A.2 l.length).toNat), A.2 + 1))
  else (((u, t), (quU u t f, quT u t f), quP u t f), p + 1)
noncomputable def moB (b : List Int) (q : Mps × Nat) : Mps × Nat :=
  if pkM b q.2 16 = 0 then ((q.1.1, q.1.2.1, q.1.2.2 ++ [0]), q.2 + 1)
  else if pkM b q.2 16 = 1 then ((q.1.1, q.1.2.1, q.1.2.2.set (pkM b (q.2 + 1) q.1.2.2.length).toNat (gi [0, 1, -1, 6] (pkM b (q.2 + 2) 4).toNat)), q.2 + 3)
  else if pkM b q.2 16 = 2 then (((bnM b (q.2 + 1) q.1.1.1 q.1.1.2).1, (bnM b (bnM b (q.2 + 1) q.1.1.1 q.1.1.2).2 q.1.2.1.1 q.1.2.1.2).1, q.1.2.2), (bnM b (bnM b (q.2 + 1) q.1.1.1 q.1.1.2).2 q.1.2.1.1 q.1.2.1.2).2)
  else (q.1, q.2 + 1)
noncomputable def moM (b : List Int) (p : Nat) : Mps × Nat :=
  moB b (moA b ((gaM b p).2 + 1) (gaM b p).1.1 (gaM b p).1.2 (moF b (gaM b p).2 (gaM b p).1.1 (gaM b p).1.2))

section
variable {T : List (Fam Try.prog)} {TW : List (FamW Try.prog)} {A B : Alg} {f : List Int} {b : List Int} {p g : Nat}
abbrev moC (A B : Alg) (b : List Int) (p : Nat) : List Ent := [⟨0, 0, .cells (RS b p)⟩, ⟨16, 1, .cells [.nil, .nil]⟩, ⟨24, 2, .cells [.nil, .nil]⟩, ⟨40, 3, .cells [IL A.1, RL A.2]⟩, ⟨56, 4, .cells [IL B.1, RL B.2]⟩]
abbrev moQ (A B : Alg) (f : List Int) (b : List Int) (p : Nat) : AExit → St → Prop := retQ2 C0.tt [RV.c 2 27, RV.c 3 27, RV.t 4] fun r c => imm 5 r = .tup [AL A.1 A.2, AL B.1 B.2, IL f] ∧ c = RS b p
theorem mo25 : run C0 0 (inlW C0 T TW 0 0) ct_143_25 (moQ A B f b p) ⟨[(2, .ptr 16 1 0), (3, .ptr 24 2 0), (5, .ptr 40 3 0), (7, .ptr 56 4 0), (8, IL f)], moC A B b p, g⟩ := by
  simp [ct_143_25]
  refine cutE (α := Unit) (fun _ => [(2, .ptr 16 1 0), (3, .ptr 24 2 0), (4, IL f)]) (fun _ => [⟨0, 0, .cells (RS b p)⟩, ⟨16, 1, .cells [IL A.1, RL A.2]⟩, ⟨24, 2, .cells [IL B.1, RL B.2]⟩]) ?_ (fun _ g0 => ?_)
  · simp
  · simp
theorem mo25b {x : Bool} : run C0 0 (inlW C0 T TW 0 0) ct_143_25 (moQ A B f b p) ⟨[(0, .ptr 0 0 0), (2, .ptr 16 1 0), (3, .ptr 24 2 0), (5, .ptr 40 3 0), (7, .ptr 56 4 0), (8, IL f), (85, .bool x)], moC A B b p, g⟩ := by
  simp [ct_143_25]
  refine cutE (α := Unit) (fun _ => [(2, .ptr 16 1 0), (3, .ptr 24 2 0), (4, IL f)]) (fun _ => [⟨0, 0, .cells (RS b p)⟩, ⟨16, 1, .cells [IL A.1, RL A.2]⟩, ⟨24, 2, .cells [IL B.1, RL B.2]⟩]) ?_ (fun _ g0 => ?_)
  · simp
  · simp
theorem mo25o {x : Nat} : run C0 0 (inlW C0 T TW 0 0) ct_143_25 (moQ A B f b p) ⟨[(2, .ptr 16 1 0), (3, .ptr 24 2 0), (5, .ptr 40 3 0), (7, .ptr 56 4 0), (8, .arr 584 x)], ⟨584, x, .arr 1 (ints f)⟩ :: moC A B b p, g⟩ := by
  simp [ct_143_25]
  refine cutE (α := Unit) (fun _ => [(2, .ptr 16 1 0), (3, .ptr 24 2 0), (4, .arr 584 x)]) (fun _ => [⟨0, 0, .cells (RS b p)⟩, ⟨16, 1, .cells [IL A.1, RL A.2]⟩, ⟨24, 2, .cells [IL B.1, RL B.2]⟩, ⟨584, x, .arr 1 (ints f)⟩]) ?_ (fun _ g0 => ?_)
  · simp
  · simp
theorem mo25p {x : Nat} {y : Bool} : run C0 0 (inlW C0 T TW 0 0) ct_143_25 (moQ A B f b p) ⟨[(0, .ptr 0 0 0), (2, .ptr 16 1 0), (3, .ptr 24 2 0), (5, .ptr 40 3 0), (7, .ptr 56 4 0), (8, .arr 256 x), (85, .bool y)], moC A B b p ++ [⟨256, x, .arr 1 (ints f)⟩], g⟩ := by
  simp [ct_143_25]
  refine cutE (α := Unit) (fun _ => [(2, .ptr 16 1 0), (3, .ptr 24 2 0), (4, .arr 256 x)]) (fun _ => [⟨0, 0, .cells (RS b p)⟩, ⟨16, 1, .cells [IL A.1, RL A.2]⟩, ⟨24, 2, .cells [IL B.1, RL B.2]⟩, ⟨256, x, .arr 1 (ints f)⟩]) ?_ (fun _ g0 => ?_)
  · simp
  · simp
theorem mo25x {x : Nat} {f0 : List Int} : run C0 0 (inlW C0 T TW 0 0) ct_143_25 (moQ A B f b p) ⟨[(2, .ptr 16 1 0), (3, .ptr 24 2 0), (5, .ptr 40 3 0), (7, .ptr 56 4 0), (8, IL f)], moC A B b p ++ [⟨256, x, .arr 1 (ints f0)⟩], g⟩ := by
  simp [ct_143_25]
  refine cutE (α := Unit) (fun _ => [(2, .ptr 16 1 0), (3, .ptr 24 2 0), (4, IL f)]) (fun _ => [⟨0, 0, .cells (RS b p)⟩, ⟨16, 1, .cells [IL A.1, RL A.2]⟩, ⟨24, 2, .cells [IL B.1, RL B.2]⟩, ⟨256, x, .arr 1 (ints f0)⟩]) ?_ (fun _ g0 => ?_)
  · simp
  · simp
theorem mo25y {x y : Nat} {f0 : List Int} : run C0 0 (inlW C0 T TW 0 0) ct_143_25 (moQ A B f b p) ⟨[(2, .ptr 16 1 0), (3, .ptr 24 2 0), (5, .ptr 40 3 0), (7, .ptr 56 4 0), (8, .arr 584 x)], ⟨584, x, .arr 1 (ints f)⟩ :: moC A B b p ++ [⟨256, y, .arr 1 (ints f0)⟩], g⟩ := by
  simp [ct_143_25]
  refine cutE (α := Unit) (fun _ => [(2, .ptr 16 1 0), (3, .ptr 24 2 0), (4, .arr 584 x)]) (fun _ => [⟨0, 0, .cells (RS b p)⟩, ⟨16, 1, .cells [IL A.1, RL A.2]⟩, ⟨24, 2, .cells [IL B.1, RL B.2]⟩, ⟨256, y, .arr 1 (ints f0)⟩, ⟨584, x, .arr 1 (ints f)⟩]) ?_ (fun _ g0 => ?_)
  · simp
  · simp
set_option maxHeartbeats 2000000 in
theorem mo17 (hb : BB b) (hp : p ≤ 960000) (gA : GA A) (gB : GA B) (hf : 0 < f.length) (hf6 : f.length ≤ 6) :
    run C0 0 (inlW C0 [fm_filS, fm_quoS, fm_mapsFromS] [fw_pick, fw_one, fw_goodAlg, fw_algOf, fw_bent] 0 0) ct_143_17 (moQ (moB b ((A, B, f), p)).1.1 (moB b ((A, B, f), p)).1.2.1 (moB b ((A, B, f), p)).1.2.2 b (moB b ((A, B, f), p)).2) ⟨[(0, .ptr 0 0 0), (2, .ptr 16 1 0), (3, .ptr 24 2 0), (5, .ptr 40 3 0), (7, .ptr 56 4 0), (8, IL f)], moC A B b p, g⟩ := by
  have l1 := fw_pick_look b p 16 hb (by omega) (by omega)
  by_cases c0 : pkM b p 16 = 0
  · have e : moB b ((A, B, f), p) = ((A, B, f ++ [0]), p + 1) := by unfold moB; rw [if_pos c0]
    rw [e]
    rw [c0] at l1
    simp [ct_143_17, callOW, l1]
    exact ⟨leBig (by omega), leBig (by omega), mo25⟩
  · by_cases c1 : pkM b p 16 = 1
    · have e : moB b ((A, B, f), p) = ((A, B, f.set (pkM b (p + 1) f.length).toNat (gi [0, 1, -1, 6] (pkM b (p + 2) 4).toNat)), p + 3) := by unfold moB; rw [if_neg c0, if_pos c1]
      rw [e]
      have hr := pkM_rng hb (p := p + 1) (by omega) (n := f.length) (by omega)
      have l2 := fw_pick_look b (p + 1) f.length hb (by omega) (by omega)
      have l3 : fw_one.look [.ptr 0 0 0, .list 1 [.int .i64 0, .int .i64 1, .int .i64 (-1), .int .i64 6]] (RS b (p + 2)) = some (I64 (gi [0, 1, -1, 6] (pkM b (p + 2) 4).toNat), RS b (p + 3)) := fw_one_look b (p + 2) [0, 1, -1, 6] hb (by omega) (by unfold Big; simp) (by simp)
      generalize gi [0, 1, -1, 6] (pkM b (p + 2) 4).toNat = z at *
      generalize pkM b (p + 1) f.length = k at *
      rw [c1] at l1
      simp [ct_143_17, callOW, l1, l2, l3]
      exact ⟨leBig (by omega), by decide, hr.1, hr.2, by omega, mo25o⟩
    · by_cases c2 : pkM b p 16 = 2
      · have e : moB b ((A, B, f), p) = (((bnM b (p + 1) A.1 A.2).1, (bnM b (bnM b (p + 1) A.1 A.2).2 B.1 B.2).1, f), (bnM b (bnM b (p + 1) A.1 A.2).2 B.1 B.2).2) := by unfold moB; rw [if_neg c0, if_neg c1, if_pos c2]
        rw [e]
        rw [c2] at l1
        simp [ct_143_17, callOW, l1]
        have l2 := fw_bent_look b (p + 1) A.1 A.2 hb (by omega) (by omega) gA
        have q1 := (bnM_few (b := b) (p := p + 1) (u := A.1) (t := A.2) gA).2
        generalize bnM b (p + 1) A.1 A.2 = A2 at *
        obtain ⟨A2, p2⟩ := A2
        dsimp only at *
        have l3 := fw_bent_look b p2 B.1 B.2 hb (by omega) (by omega) gB
        generalize bnM b p2 B.1 B.2 = B2 at *
        obtain ⟨B2, p3⟩ := B2
        dsimp only at *
        refine cutE (α := Unit) (fun _ => [(2, .ptr 16 1 0), (3, .ptr 24 2 0), (4, IL f)]) (fun _ => [⟨0, 0, .cells (RS b p3)⟩, ⟨16, 1, .cells [IL A2.1, RL A2.2]⟩, ⟨24, 2, .cells [IL B2.1, RL B2.2]⟩]) ?_ (fun _ g0 => ?_)
        · simp [callDOW, l2, l3]
        · simp
      · have e : moB b ((A, B, f), p) = ((A, B, f), p + 1) := by unfold moB; rw [if_neg c0, if_neg c1, if_neg c2]
        rw [e]
        simp [ct_143_17, callOW, l1, c0, c1, c2]
        exact mo25b
set_option maxHeartbeats 2000000 in
theorem mo17a {y : D} (hb : BB b) (hp : p ≤ 960000) (gA : GA A) (gB : GA B) (hf : 0 < f.length) (hf6 : f.length ≤ 6) :
    run C0 0 (inlW C0 [fm_filS, fm_quoS, fm_mapsFromS] [fw_pick, fw_one, fw_goodAlg, fw_algOf, fw_bent] 0 0) ct_143_17 (moQ (moB b ((A, B, f), p)).1.1 (moB b ((A, B, f), p)).1.2.1 (moB b ((A, B, f), p)).1.2.2 b (moB b ((A, B, f), p)).2) ⟨[(0, .ptr 0 0 0), (2, .ptr 16 1 0), (3, .ptr 24 2 0), (5, .ptr 40 3 0), (7, .ptr 56 4 0), (8, IL f), (44, y)], moC A B b p, g⟩ := by
  have l1 := fw_pick_look b p 16 hb (by omega) (by omega)
  by_cases c0 : pkM b p 16 = 0
  · have e : moB b ((A, B, f), p) = ((A, B, f ++ [0]), p + 1) := by unfold moB; rw [if_pos c0]
    rw [e]
    rw [c0] at l1
    simp [ct_143_17, callOW, l1]
    exact ⟨leBig (by omega), leBig (by omega), mo25⟩
  · by_cases c1 : pkM b p 16 = 1
    · have e : moB b ((A, B, f), p) = ((A, B, f.set (pkM b (p + 1) f.length).toNat (gi [0, 1, -1, 6] (pkM b (p + 2) 4).toNat)), p + 3) := by unfold moB; rw [if_neg c0, if_pos c1]
      rw [e]
      have hr := pkM_rng hb (p := p + 1) (by omega) (n := f.length) (by omega)
      have l2 := fw_pick_look b (p + 1) f.length hb (by omega) (by omega)
      have l3 : fw_one.look [.ptr 0 0 0, .list 1 [.int .i64 0, .int .i64 1, .int .i64 (-1), .int .i64 6]] (RS b (p + 2)) = some (I64 (gi [0, 1, -1, 6] (pkM b (p + 2) 4).toNat), RS b (p + 3)) := fw_one_look b (p + 2) [0, 1, -1, 6] hb (by omega) (by unfold Big; simp) (by simp)
      generalize gi [0, 1, -1, 6] (pkM b (p + 2) 4).toNat = z at *
      generalize pkM b (p + 1) f.length = k at *
      rw [c1] at l1
      simp [ct_143_17, callOW, l1, l2, l3]
      exact ⟨leBig (by omega), by decide, hr.1, hr.2, by omega, mo25o⟩
    · by_cases c2 : pkM b p 16 = 2
      · have e : moB b ((A, B, f), p) = (((bnM b (p + 1) A.1 A.2).1, (bnM b (bnM b (p + 1) A.1 A.2).2 B.1 B.2).1, f), (bnM b (bnM b (p + 1) A.1 A.2).2 B.1 B.2).2) := by unfold moB; rw [if_neg c0, if_neg c1, if_pos c2]
        rw [e]
        rw [c2] at l1
        simp [ct_143_17, callOW, l1]
        have l2 := fw_bent_look b (p + 1) A.1 A.2 hb (by omega) (by omega) gA
        have q1 := (bnM_few (b := b) (p := p + 1) (u := A.1) (t := A.2) gA).2
        generalize bnM b (p + 1) A.1 A.2 = A2 at *
        obtain ⟨A2, p2⟩ := A2
        dsimp only at *
        have l3 := fw_bent_look b p2 B.1 B.2 hb (by omega) (by omega) gB
        generalize bnM b p2 B.1 B.2 = B2 at *
        obtain ⟨B2, p3⟩ := B2
        dsimp only at *
        refine cutE (α := Unit) (fun _ => [(2, .ptr 16 1 0), (3, .ptr 24 2 0), (4, IL f)]) (fun _ => [⟨0, 0, .cells (RS b p3)⟩, ⟨16, 1, .cells [IL A2.1, RL A2.2]⟩, ⟨24, 2, .cells [IL B2.1, RL B2.2]⟩]) ?_ (fun _ g0 => ?_)
        · simp [callDOW, l2, l3]
        · simp
      · have e : moB b ((A, B, f), p) = ((A, B, f), p + 1) := by unfold moB; rw [if_neg c0, if_neg c1, if_neg c2]
        rw [e]
        simp [ct_143_17, callOW, l1, c0, c1, c2]
        exact mo25b
set_option maxHeartbeats 2000000 in
theorem mo17c {x y : D} (hb : BB b) (hp : p ≤ 960000) (gA : GA A) (gB : GA B) (hf : 0 < f.length) (hf6 : f.length ≤ 6) :
    run C0 0 (inlW C0 [fm_filS, fm_quoS, fm_mapsFromS] [fw_pick, fw_one, fw_goodAlg, fw_algOf, fw_bent] 0 0) ct_143_17 (moQ (moB b ((A, B, f), p)).1.1 (moB b ((A, B, f), p)).1.2.1 (moB b ((A, B, f), p)).1.2.2 b (moB b ((A, B, f), p)).2) ⟨[(0, .ptr 0 0 0), (2, .ptr 16 1 0), (3, .ptr 24 2 0), (5, .ptr 40 3 0), (7, .ptr 56 4 0), (8, IL f), (10, x), (54, y)], moC A B b p, g⟩ := by
  have l1 := fw_pick_look b p 16 hb (by omega) (by omega)
  by_cases c0 : pkM b p 16 = 0
  · have e : moB b ((A, B, f), p) = ((A, B, f ++ [0]), p + 1) := by unfold moB; rw [if_pos c0]
    rw [e]
    rw [c0] at l1
    simp [ct_143_17, callOW, l1]
    exact ⟨leBig (by omega), leBig (by omega), mo25⟩
  · by_cases c1 : pkM b p 16 = 1
    · have e : moB b ((A, B, f), p) = ((A, B, f.set (pkM b (p + 1) f.length).toNat (gi [0, 1, -1, 6] (pkM b (p + 2) 4).toNat)), p + 3) := by unfold moB; rw [if_neg c0, if_pos c1]
      rw [e]
      have hr := pkM_rng hb (p := p + 1) (by omega) (n := f.length) (by omega)
      have l2 := fw_pick_look b (p + 1) f.length hb (by omega) (by omega)
      have l3 : fw_one.look [.ptr 0 0 0, .list 1 [.int .i64 0, .int .i64 1, .int .i64 (-1), .int .i64 6]] (RS b (p + 2)) = some (I64 (gi [0, 1, -1, 6] (pkM b (p + 2) 4).toNat), RS b (p + 3)) := fw_one_look b (p + 2) [0, 1, -1, 6] hb (by omega) (by unfold Big; simp) (by simp)
      generalize gi [0, 1, -1, 6] (pkM b (p + 2) 4).toNat = z at *
      generalize pkM b (p + 1) f.length = k at *
      rw [c1] at l1
      simp [ct_143_17, callOW, l1, l2, l3]
      exact ⟨leBig (by omega), by decide, hr.1, hr.2, by omega, mo25o⟩
    · by_cases c2 : pkM b p 16 = 2
      · have e : moB b ((A, B, f), p) = (((bnM b (p + 1) A.1 A.2).1, (bnM b (bnM b (p + 1) A.1 A.2).2 B.1 B.2).1, f), (bnM b (bnM b (p + 1) A.1 A.2).2 B.1 B.2).2) := by unfold moB; rw [if_neg c0, if_neg c1, if_pos c2]
        rw [e]
        rw [c2] at l1
        simp [ct_143_17, callOW, l1]
        have l2 := fw_bent_look b (p + 1) A.1 A.2 hb (by omega) (by omega) gA
        have q1 := (bnM_few (b := b) (p := p + 1) (u := A.1) (t := A.2) gA).2
        generalize bnM b (p + 1) A.1 A.2 = A2 at *
        obtain ⟨A2, p2⟩ := A2
        dsimp only at *
        have l3 := fw_bent_look b p2 B.1 B.2 hb (by omega) (by omega) gB
        generalize bnM b p2 B.1 B.2 = B2 at *
        obtain ⟨B2, p3⟩ := B2
        dsimp only at *
        refine cutE (α := Unit) (fun _ => [(2, .ptr 16 1 0), (3, .ptr 24 2 0), (4, IL f)]) (fun _ => [⟨0, 0, .cells (RS b p3)⟩, ⟨16, 1, .cells [IL A2.1, RL A2.2]⟩, ⟨24, 2, .cells [IL B2.1, RL B2.2]⟩]) ?_ (fun _ g0 => ?_)
        · simp [callDOW, l2, l3]
        · simp
      · have e : moB b ((A, B, f), p) = ((A, B, f), p + 1) := by unfold moB; rw [if_neg c0, if_neg c1, if_neg c2]
        rw [e]
        simp [ct_143_17, callOW, l1, c0, c1, c2]
        exact mo25b
set_option maxHeartbeats 2000000 in
theorem mo17p {x : Nat} {y z : D} (hb : BB b) (hp : p ≤ 960000) (gA : GA A) (gB : GA B) (hf : 0 < f.length) (hf6 : f.length ≤ 6) :
    run C0 0 (inlW C0 [fm_filS, fm_quoS, fm_mapsFromS] [fw_pick, fw_one, fw_goodAlg, fw_algOf, fw_bent] 0 0) ct_143_17 (moQ (moB b ((A, B, f), p)).1.1 (moB b ((A, B, f), p)).1.2.1 (moB b ((A, B, f), p)).1.2.2 b (moB b ((A, B, f), p)).2) ⟨[(0, .ptr 0 0 0), (2, .ptr 16 1 0), (3, .ptr 24 2 0), (5, .ptr 40 3 0), (7, .ptr 56 4 0), (8, .arr 256 x), (9, y), (37, z)], moC A B b p ++ [⟨256, x, .arr 1 (ints f)⟩], g⟩ := by
  have l1 := fw_pick_look b p 16 hb (by omega) (by omega)
  by_cases c0 : pkM b p 16 = 0
  · have e : moB b ((A, B, f), p) = ((A, B, f ++ [0]), p + 1) := by unfold moB; rw [if_pos c0]
    rw [e]
    rw [c0] at l1
    simp [ct_143_17, callOW, l1]
    exact ⟨(ints_scal (xs := f)).2 trivial, leBig (by omega), leBig (by omega), mo25x⟩
  · by_cases c1 : pkM b p 16 = 1
    · have e : moB b ((A, B, f), p) = ((A, B, f.set (pkM b (p + 1) f.length).toNat (gi [0, 1, -1, 6] (pkM b (p + 2) 4).toNat)), p + 3) := by unfold moB; rw [if_neg c0, if_pos c1]
      rw [e]
      have hr := pkM_rng hb (p := p + 1) (by omega) (n := f.length) (by omega)
      have l2 := fw_pick_look b (p + 1) f.length hb (by omega) (by omega)
      have l3 : fw_one.look [.ptr 0 0 0, .list 1 [.int .i64 0, .int .i64 1, .int .i64 (-1), .int .i64 6]] (RS b (p + 2)) = some (I64 (gi [0, 1, -1, 6] (pkM b (p + 2) 4).toNat), RS b (p + 3)) := fw_one_look b (p + 2) [0, 1, -1, 6] hb (by omega) (by unfold Big; simp) (by simp)
      generalize gi [0, 1, -1, 6] (pkM b (p + 2) 4).toNat = z at *
      generalize pkM b (p + 1) f.length = k at *
      rw [c1] at l1
      simp [ct_143_17, callOW, l1, l2, l3]
      exact ⟨(ints_scal (xs := f)).2 trivial, leBig (by omega), by decide, hr.1, hr.2, by omega, mo25y⟩
    · by_cases c2 : pkM b p 16 = 2
      · have e : moB b ((A, B, f), p) = (((bnM b (p + 1) A.1 A.2).1, (bnM b (bnM b (p + 1) A.1 A.2).2 B.1 B.2).1, f), (bnM b (bnM b (p + 1) A.1 A.2).2 B.1 B.2).2) := by unfold moB; rw [if_neg c0, if_neg c1, if_pos c2]
        rw [e]
        rw [c2] at l1
        simp [ct_143_17, callOW, l1]
        have l2 := fw_bent_look b (p + 1) A.1 A.2 hb (by omega) (by omega) gA
        have q1 := (bnM_few (b := b) (p := p + 1) (u := A.1) (t := A.2) gA).2
        generalize bnM b (p + 1) A.1 A.2 = A2 at *
        obtain ⟨A2, p2⟩ := A2
        dsimp only at *
        have l3 := fw_bent_look b p2 B.1 B.2 hb (by omega) (by omega) gB
        generalize bnM b p2 B.1 B.2 = B2 at *
        obtain ⟨B2, p3⟩ := B2
        dsimp only at *
        refine cutE (α := Unit) (fun _ => [(2, .ptr 16 1 0), (3, .ptr 24 2 0), (4, .arr 256 x)]) (fun _ => [⟨0, 0, .cells (RS b p3)⟩, ⟨16, 1, .cells [IL A2.1, RL A2.2]⟩, ⟨24, 2, .cells [IL B2.1, RL B2.2]⟩, ⟨256, x, .arr 1 (ints f)⟩]) ?_ (fun _ g0 => ?_)
        · simp [callDOW, l2, l3]
        · simp
      · have e : moB b ((A, B, f), p) = ((A, B, f), p + 1) := by unfold moB; rw [if_neg c0, if_neg c1, if_neg c2]
        rw [e]
        simp [ct_143_17, callOW, l1, c0, c1, c2]
        exact mo25p
end
set_option maxHeartbeats 4000000 in
theorem mapOf_pc (b : List Int) (p : Nat) (hb : BB b) (hp : p ≤ 1000000) (hp2 : p ≤ 900000) : PC Try.prog 143 (.ptr 0 0 0 :: []) (some (RS b p)) false (fun r c => imm 5 r = imm 5 (.tup [AL (moM b p).1.1.1 (moM b p).1.1.2, AL (moM b p).1.2.1.1 (moM b p).1.2.1.2, IL (moM b p).1.2.2]) ∧ c = (RS b ((moM b p).2))) := by
  have l1 := fw_goodAlg_look b p hb (by omega) (by omega)
  have a := gaM_va hb (p := p) (by omega)
  have hp1 := (gaM_ga hb (p := p) (by omega)).2
  unfold moM
  generalize gaM b p = A at *
  obtain ⟨⟨u, t⟩, p1⟩ := A
  dsimp only at *
  obtain ⟨hF, eF⟩ := moF_fi hb (p := p1) (by omega) a
  have h6 := a.lat.six
  have h64 := p2le h6
  have hn := filN_len (u := u) (t := t) (m := 2 ^ u.length)
  have hpos : 0 < (filN u t (2 ^ u.length)).length := List.length_pos_of_mem (mem_fil.2 (fi_all a))
  have hr := pkM_rng hb (p := p1) (by omega) (n := (filN u t (2 ^ u.length)).length) (by omega)
  have l2 := fw_pick_look b p1 (filN u t (2 ^ u.length)).length hb (by omega) (by omega)
  have l3 := fm_quoS_look u t (moF b p1 u t : Nat) a (by simpa using hF) (by omega)
  rw [Int.toNat_natCast] at l3
  refine pcW [fm_filS, fm_quoS, fm_mapsFromS] [fw_pick, fw_one, fw_goodAlg, fw_algOf, fw_bent] fok_143 ?_
  simp [fa_143, callOW, callOT, hb, hp, l1, a]
  generalize moF b p1 u t = F at *
  generalize hL : filN u t (2 ^ u.length) = l at *
  generalize pkM b p1 l.length = k at *
  refine cutE (α := Unit) (fun _ => [(0, .ptr 0 0 0), (2, .ptr 16 1 0), (3, .ptr 24 2 0), (5, .ptr 40 3 0), (7, .ptr 56 4 0), (8, IL (quP u t F))]) (fun _ => [⟨0, 0, .cells (RS b (p1 + 1))⟩, ⟨16, 1, .cells [.nil, .nil]⟩, ⟨24, 2, .cells [.nil, .nil]⟩, ⟨40, 3, .cells [IL u, RL t]⟩, ⟨56, 4, .cells [IL (quU u t F), RL (quT u t F)]⟩]) ?_ (fun _ g0 => ?_)
  · simp [callDOW, callDOT, l2, l3, eF, hr]
  have l4 := fw_pick_look b (p1 + 1) 4 hb (by omega) (by omega)
  by_cases c0 : pkM b (p1 + 1) 4 = 0
  · have e : moA b (p1 + 1) u t F = (((u, t), (u, t), tl u.length fun x => (x : Int)), p1 + 1 + 1) := by unfold moA; rw [if_pos c0]
    rw [e]
    rw [c0] at l4
    simp [ct_143_4, callOW, l4]
    refine loopX (inlW_mono _ _ _ _ _) u.length (fun i γ => [(8, .arr 256 γ), (9, I64 i)]) (fun i γ => moC (u, t) (u, t) b (p1 + 1 + 1) ++ [⟨256, γ, .arr 1 (ints (tl i fun x => (x : Int)))⟩]) (fun _ _ => True) g0 (by simp) (by simp [tl_zero, ints_nil]) trivial (fun i γ g hi _ => ?_)
    simp [lb_143_9]
    refine ⟨fun h => ?_, fun h => ?_⟩
    · exact ⟨leBig (by omega), h, g, ⟨rfl, wrap64 (by omega) (by omega)⟩, rfl, tl_succ.symm⟩
    · obtain rfl : i = u.length := by omega
      exact mo17p (A := (u, t)) (B := (u, t)) hb (by omega) (ga_va a) (ga_va a) (by rw [tl_length]; exact a.lat.pos) (by rw [tl_length]; exact h6)
  · by_cases c1 : pkM b (p1 + 1) 4 = 1
    · have l5 := fw_algOf_look b (p1 + 1 + 1) 3 hb (by omega) (by omega) (by omega) (by omega)
      have a5 := aofM_va hb (p := p1 + 1 + 1) (by omega) (m := 3) (by omega) (by omega)
      obtain ⟨g5, _, q5⟩ := aofM_ga hb (p := p1 + 1 + 1) (by omega) (m := 3) (by omega) (by omega)
      have hq := va_quot a hF
      have e : moA b (p1 + 1) u t F = (let A := aofM b (p1 + 1 + 1) 3; let l := mprn A.1.1 A.1.2 (quU u t F) (quT u t F) A.1.1.length []
     if l = [] then ((A.1, (quU u t F, quT u t F), quP u t F), A.2) else ((A.1, (quU u t F, quT u t F), gr l (pkM b A.2 l.length).toNat), A.2 + 1)) := by unfold moA; rw [if_neg c0, if_pos c1]
      rw [e]
      clear e
      rw [c1] at l4
      generalize aofM b (p1 + 1 + 1) 3 = A at *
      obtain ⟨⟨v, s⟩, p2⟩ := A
      dsimp only at *
      have l6 : fm_mapsFromS.look [AL v s, AL (quU u t F) (quT u t F), .list 1 []] = some (RL (mprn v s (quU u t F) (quT u t F) v.length [])) := fm_mapsFromS_look v s (quU u t F) (quT u t F) a5.tf hq.tf
      have hmp : ∀ x ∈ mprn v s (quU u t F) (quT u t F) v.length [], MP v s (quU u t F) (quT u t F) x := fun x hx => mprn_mp a5.tf hq.tf hx
      have hN : (mprn v s (quU u t F) (quT u t F) v.length []).length ≤ 46656 := Nat.le_trans (prn_len _ _) (pow6 hq.lat.six a5.lat.six)
      generalize mprn v s (quU u t F) (quT u t F) v.length [] = ms at *
      have l7 := fw_pick_look b p2 ms.length hb (by omega) (by omega)
      have gq := ga_va hq
      by_cases hm : ms = []
      · rw [hm] at l6
        simp [ct_143_4, callOW, callOT, l4, l5, l6, hm]
        exact mo17c (A := (v, s)) (B := (quU u t F, quT u t F)) hb (by omega) g5 gq (by rw [quP_len]; exact a.lat.pos) (by rw [quP_len]; exact h6)
      · have hpos2 : 0 < ms.length := List.length_pos_iff.2 hm
        have hr2 := pkM_rng hb (p := p2) (by omega) (n := ms.length) (by omega)
        rw [if_neg hm]
        generalize pkM b p2 ms.length = k2 at *
        have hk2 : k2.toNat < ms.length := by omega
        have hmem := hmp _ (gr_mem hk2)
        have hlen := hmem.len
        simp [ct_143_4, callOW, callOT, l4, l5, l6, l7, hpos2, hr2]
        exact mo17 (A := (v, s)) (B := (quU u t F, quT u t F)) hb (by omega) g5 gq (by rw [hlen]; exact a5.lat.pos) (by rw [hlen]; exact a5.lat.six)
    · have e : moA b (p1 + 1) u t F = (((u, t), (quU u t F, quT u t F), quP u t F), p1 + 1 + 1) := by unfold moA; rw [if_neg c0, if_neg c1]
      rw [e]
      simp [ct_143_4, callOW, l4, c0, c1]
      exact mo17a (A := (u, t)) (B := (quU u t F, quT u t F)) hb (by omega) (ga_va a) (ga_va (va_quot a hF)) (by rw [quP_len]; exact a.lat.pos) (by rw [quP_len]; exact h6)
noncomputable def fw_mapOf : FamW Try.prog := mkFamW (X := List Int × Nat) 143 (fun (b, p) => (.ptr 0 0 0 :: [])) (fun (b, p) => (RS b p)) (fun (b, p) => (BB b) ∧ (p ≤ 1000000) ∧ (p ≤ 900000)) (fun (b, p) => .tup [AL (moM b p).1.1.1 (moM b p).1.1.2, AL (moM b p).1.2.1.1 (moM b p).1.2.1.2, IL (moM b p).1.2.2]) (fun (b, p) => (RS b ((moM b p).2))) (by
  rintro ⟨b, p⟩ ⟨hb, hp, hp2⟩
  exact mapOf_pc b p hb hp hp2)
@[simp] theorem fw_mapOf_id : fw_mapOf.id = 143 := rfl
@[simp] theorem fw_mapOf_look (b : List Int) (p : Nat) (hb : BB b) (hp : p ≤ 1000000) (hp2 : p ≤ 900000) : fw_mapOf.look (.ptr 0 0 0 :: []) (RS b p) = some (.tup [AL (moM b p).1.1.1 (moM b p).1.1.2, AL (moM b p).1.2.1.1 (moM b p).1.2.1.2, IL (moM b p).1.2.2], (RS b ((moM b p).2))) :=
  lookG_of (X := List Int × Nat) (args := fun (b, p) => (.ptr 0 0 0 :: [])) (cell := fun (b, p) => (RS b p)) (pre := fun (b, p) => (BB b) ∧ (p ≤ 1000000) ∧ (p ≤ 900000)) (val := fun (b, p) => .tup [AL (moM b p).1.1.1 (moM b p).1.1.2, AL (moM b p).1.2.1.1 (moM b p).1.2.1.2, IL (moM b p).1.2.2]) (cell' := fun (b, p) => (RS b ((moM b p).2))) (by
  rintro ⟨b, p⟩ ⟨b', p'⟩ h h2
  simp at h h2
  try simp only [and_assoc] at h
  obtain ⟨rfl, rfl⟩ := h2
  exact ⟨rfl, rfl⟩) (b, p) ⟨hb, hp, hp2⟩
attribute [irreducible] fw_mapOf
end Go.PS
end

section
-- PRINTED by gen.py: clean texts of functions, and their tie to the program.
set_option maxRecDepth 100000
namespace Go.PS
open Go.Proofs
/-- spec.IsMap -/
def an_67 : Ann := ⟨[(1, 1, 3), (1, 4, 3), (1, 10, 3)], [(0, [2, 3, 4]), (1, [6])], [], []⟩
def fa_67 : FnA := ⟨19, [.t 6],
  (.seq
    (.region false [⟨some 3, (.box 27 (.t 0)), 0, none, 0⟩, ⟨some 4, (.box 27 (.t 1)), 0, none, 0⟩, ⟨some 6, (.mv (.c (.bool false))), 4, none, 0⟩] (some [2, 3, 4]))
    (.seq
      (.region false (gops [⟨some 7, (.load 27 (.t 3)), 27, none, 0⟩, ⟨some 8, (.call (.f 111) [(.t 7)]), 4, none, 3⟩, ⟨some 9, (.mv (.t 8)), 4, none, 0⟩, ⟨some 10, (.load 27 (.t 4)), 27, some (9, true), 0⟩, ⟨some 11, (.call (.f 111) [(.t 10)]), 4, some (9, true), 3⟩, ⟨some 12, (.pick (.t 9) (.t 11) (.c (.bool false))), 4, none, 0⟩, ⟨some 13, (.mv (.t 12)), 4, none, 0⟩, ⟨some 14, (.load 27 (.t 3)), 27, some (13, true), 0⟩, ⟨some 15, (.load 27 (.t 4)), 27, some (13, true), 0⟩, ⟨some 16, (.mv (.t 2)), 23, some (13, true), 0⟩, ⟨some 17, (.call (.f 145) [(.t 14), (.t 15), (.t 16)]), 4, some (13, true), 3⟩, ⟨some 18, (.pick (.t 13) (.t 17) (.c (.bool false))), 4, none, 0⟩, ⟨some 6, (.mv (.t 18)), 4, none, 0⟩]) (some [6]))
      .ret))⟩
theorem fok_67 : FnOk Try.prog 67 fa_67 an_67 := ⟨Try.f67, _, Try.func67, rfl, by kernel_rfl, rfl, rfl, by decide, by kernel_rfl⟩
/-- impl.IsMap -/
def an_66 : Ann := ⟨[(1, 1, 3), (1, 4, 3), (1, 10, 3)], [(0, [2, 3, 4]), (1, [6])], [], []⟩
def fa_66 : FnA := ⟨19, [.t 6],
  (.seq
    (.region false [⟨some 3, (.box 27 (.t 0)), 0, none, 0⟩, ⟨some 4, (.box 27 (.t 1)), 0, none, 0⟩, ⟨some 6, (.mv (.c (.bool false))), 4, none, 0⟩] (some [2, 3, 4]))
    (.seq
      (.region false (gops [⟨some 7, (.load 27 (.t 3)), 27, none, 0⟩, ⟨some 8, (.call (.f 23) [(.t 7)]), 4, none, 3⟩, ⟨some 9, (.mv (.t 8)), 4, none, 0⟩, ⟨some 10, (.load 27 (.t 4)), 27, some (9, true), 0⟩, ⟨some 11, (.call (.f 23) [(.t 10)]), 4, some (9, true), 3⟩, ⟨some 12, (.pick (.t 9) (.t 11) (.c (.bool false))), 4, none, 0⟩, ⟨some 13, (.mv (.t 12)), 4, none, 0⟩, ⟨some 14, (.load 27 (.t 3)), 27, some (13, true), 0⟩, ⟨some 15, (.load 27 (.t 4)), 27, some (13, true), 0⟩, ⟨some 16, (.mv (.t 2)), 23, some (13, true), 0⟩, ⟨some 17, (.call (.f 144) [(.t 14), (.t 15), (.t 16)]), 4, some (13, true), 3⟩, ⟨some 18, (.pick (.t 13) (.t 17) (.c (.bool false))), 4, none, 0⟩, ⟨some 6, (.mv (.t 18)), 4, none, 0⟩]) (some [6]))
      .ret))⟩
theorem fok_66 : FnOk Try.prog 66 fa_66 an_66 := ⟨Try.f66, _, Try.func66, rfl, by kernel_rfl, rfl, rfl, by decide, by kernel_rfl⟩
/-- impl.KernelOf -/
def an_68 : Ann := ⟨[(1, 3, 3)], [(0, [2, 3, 4]), (1, [2, 4, 14]), (2, [6]), (3, [2, 4, 7]), (4, [4, 7, 15, 16, 17]), (5, [4, 7, 15, 16, 17, 18]), (6, [4, 7, 8, 9, 15, 16, 17]), (7, [4, 7, 8, 15, 16, 17, 27]), (8, [4, 7, 15, 16, 17]), (9, [4, 7, 15, 16, 17]), (10, [6])], [(5, [4, 7, 15, 16, 17], [])], []⟩
def lb_68_5 : AC :=
  (.seq
    (.region false [⟨some 18, (.bin .lss 3 (.t 17) (.t 16)), 0, none, 0⟩] (some [4, 7, 15, 16, 17, 18]))
    (.seq
      (.cond (.t 18)
        .skip
        (.exit 0))
      (.seq
        (.block 1
          (.seq
            (.region false [⟨some 19, (.mv (.t 17)), 3, none, 0⟩, ⟨some 20, (.iaddr 23 (.t 15) (.t 17)), 0, none, 0⟩, ⟨some 21, (.load 3 (.t 20)), 3, none, 0⟩, ⟨some 8, (.mv (.t 19)), 3, none, 0⟩, ⟨some 9, (.mv (.t 21)), 3, none, 0⟩] (some [4, 7, 8, 9, 15, 16, 17]))
            (.seq
              (.region false [⟨some 22, (.mv (.t 9)), 3, none, 0⟩, ⟨some 23, (.faddr 27 (.t 4) 0), 0, none, 0⟩, ⟨some 24, (.load 23 (.t 23)), 23, none, 0⟩, ⟨some 25, (.len 23 (.t 24)), 3, none, 0⟩, ⟨some 26, (.bin .sub 3 (.t 25) (.c (.int .i64 1))), 3, none, 0⟩, ⟨some 27, (.bin .eql 3 (.t 22) (.t 26)), 4, none, 0⟩] (some [4, 7, 8, 15, 16, 17, 27]))
              (.cond (.t 27)
                (.region false [⟨some 28, (.mv (.t 7)), 3, none, 0⟩, ⟨some 29, (.mv (.t 8)), 3, none, 0⟩, ⟨some 30, (.bin .shl 3 (.c (.int .i64 1)) (.t 29)), 3, none, 0⟩, ⟨some 31, (.bin .or 3 (.t 28) (.t 30)), 3, none, 0⟩, ⟨some 7, (.mv (.t 31)), 3, none, 0⟩] (some [4, 7, 15, 16, 17]))
                .skip))))
        (.region false [⟨some 32, (.bin .add 3 (.t 17) (.c (.int .i64 1))), 3, none, 0⟩, ⟨some 17, (.mv (.t 32)), 3, none, 0⟩] (some [4, 7, 15, 16, 17])))))
def fa_68 : FnA := ⟨34, [.t 6],
  (.seq
    (.region false [⟨some 3, (.box 27 (.t 0)), 0, none, 0⟩, ⟨some 4, (.box 27 (.t 1)), 0, none, 0⟩, ⟨some 6, (.mv (.c (.int .i64 0))), 3, none, 0⟩] (some [2, 3, 4]))
    (.seq
      (.seq
        (.region false [⟨some 10, (.load 27 (.t 3)), 27, none, 0⟩, ⟨some 11, (.load 27 (.t 4)), 27, none, 0⟩, ⟨some 12, (.mv (.t 2)), 23, none, 0⟩, ⟨some 13, (.call (.f 66) [(.t 10), (.t 11), (.t 12)]), 4, none, 3⟩, ⟨some 14, (.un .not (.t 13)), 4, none, 0⟩] (some [2, 4, 14]))
        (.cond (.t 14)
          (.seq
            (.region false [⟨some 6, (.mv (.c (.int .i64 (-1)))), 3, none, 0⟩] (some [6]))
            .ret)
          .skip))
      (.seq
        (.region false [⟨some 7, (.mv (.c (.int .i64 0))), 3, none, 0⟩] (some [2, 4, 7]))
        (.seq
          (.seq
            (.region false [⟨some 15, (.mv (.t 2)), 23, none, 0⟩, ⟨some 16, (.len 23 (.t 15)), 3, none, 0⟩, ⟨some 17, (.mv (.c (.int .i64 0))), 3, none, 0⟩] (some [4, 7, 15, 16, 17]))
            (.block 0
              (.loop [4, 7, 15, 16, 17] [] lb_68_5)))
          (.seq
            (.region false [⟨some 33, (.mv (.t 7)), 3, none, 0⟩, ⟨some 6, (.mv (.t 33)), 3, none, 0⟩] (some [6]))
            .ret)))))⟩
theorem fok_68 : FnOk Try.prog 68 fa_68 an_68 := ⟨Try.f68, _, Try.func68, rfl, by kernel_rfl, rfl, rfl, by decide, by kernel_rfl⟩
end Go.PS
end

section
-- PRINTED by gen.py: clean texts of functions, and their tie to the program.
set_option maxRecDepth 100000
namespace Go.PS
open Go.Proofs
/-- spec.DrawIsMap -/
def an_65 : Ann := ⟨[(1, 1, 16), (1, 2, 16)], [(0, [0, 2, 3]), (1, [2, 3, 4])], [], []⟩
def fa_65 : FnA := ⟨11, [.c 2 27, .c 3 27, .t 4],
  (.seq
    (.region false [⟨some 2, (.alloc 27), 0, none, 0⟩, ⟨some 3, (.alloc 27), 0, none, 0⟩, ⟨some 4, (.mv (.c .nil)), 23, none, 0⟩] (some [0, 2, 3]))
    (.seq
      (.region false [⟨some 5, (.mv (.t 0)), 22, none, 0⟩, ⟨some 6, (.call (.f 90) [(.t 5)]), 72, none, 16⟩, ⟨some 7, (.call (.f 143) [(.t 6)]), 57, none, 16⟩, ⟨some 8, (.ext (.t 7) 0), 27, none, 0⟩, ⟨some 9, (.ext (.t 7) 1), 27, none, 0⟩, ⟨some 10, (.ext (.t 7) 2), 23, none, 0⟩, ⟨none, (.store 27 (.t 2) (.t 8)), 0, none, 0⟩, ⟨none, (.store 27 (.t 3) (.t 9)), 0, none, 0⟩, ⟨some 4, (.mv (.t 10)), 23, none, 0⟩] (some [2, 3, 4]))
      .ret))⟩
theorem fok_65 : FnOk Try.prog 65 fa_65 an_65 := ⟨Try.f65, _, Try.func65, rfl, by kernel_rfl, rfl, rfl, by decide, by kernel_rfl⟩
/-- laws.FnIsMap -/
def an_13 : Ann := ⟨[(3, 1, 3), (4, 3, 3), (5, 4, 3), (6, 4, 3), (13, 4, 3), (13, 16, 3), (15, 3, 3), (15, 11, 3), (17, 4, 3), (17, 5, 3)], [(0, [0]), (1, [0, 11]), (2, [2]), (3, [3, 4, 5]), (4, [3, 4, 5, 6]), (5, [3, 4, 5, 6, 31]), (6, [2]), (7, [3, 4, 5, 7]), (8, [3, 4, 5, 7, 41]), (10, [3, 4, 5, 7, 8]), (11, [3, 4, 5, 7, 8, 47]), (13, [3, 4, 5, 7, 8, 67]), (14, [2]), (12, [3, 4, 5, 7, 8]), (15, [3, 4, 5, 7, 80]), (16, [2]), (9, [3, 4, 5, 7]), (17, [2])], [(8, [3, 4, 5, 7], [24, 32]), (11, [3, 4, 5, 7, 8], [24, 32])], []⟩
def lb_13_11 : AC :=
  (.seq
    (.seq
      (.region false [⟨some 44, (.mv (.t 8)), 3, none, 0⟩, ⟨some 45, (.mv (.t 5)), 23, none, 0⟩, ⟨some 46, (.len 23 (.t 45)), 3, none, 0⟩, ⟨some 47, (.bin .lss 3 (.t 44) (.t 46)), 4, none, 0⟩] (some [3, 4, 5, 7, 8, 47]))
      (.cond (.t 47)
        .skip
        (.exit 2)))
    (.seq
      (.block 3
        (.seq
          (.region true [⟨some 50, (.mv (.t 5)), 23, none, 0⟩, ⟨some 51, (.load 27 (.t 3)), 27, none, 0⟩, ⟨some 52, (.mv (.t 7)), 3, none, 0⟩, ⟨some 53, (.mv (.t 8)), 3, none, 0⟩, ⟨some 54, (.call (.f 56) [(.t 51), (.t 52), (.t 53)]), 3, none, 3⟩, ⟨some 55, (.iaddr 23 (.t 50) (.t 54)), 0, none, 0⟩, ⟨some 56, (.load 3 (.t 55)), 3, none, 0⟩, ⟨some 57, (.load 27 (.t 4)), 27, none, 0⟩, ⟨some 58, (.mv (.t 5)), 23, none, 0⟩, ⟨some 59, (.mv (.t 7)), 3, none, 0⟩, ⟨some 60, (.iaddr 23 (.t 58) (.t 59)), 0, none, 0⟩, ⟨some 61, (.load 3 (.t 60)), 3, none, 0⟩, ⟨some 62, (.mv (.t 5)), 23, none, 0⟩, ⟨some 63, (.mv (.t 8)), 3, none, 0⟩, ⟨some 64, (.iaddr 23 (.t 62) (.t 63)), 0, none, 0⟩, ⟨some 65, (.load 3 (.t 64)), 3, none, 0⟩, ⟨some 66, (.call (.f 56) [(.t 57), (.t 61), (.t 65)]), 3, none, 3⟩, ⟨some 67, (.bin .neq 3 (.t 56) (.t 66)), 4, none, 0⟩] (some [3, 4, 5, 7, 8, 67]))
          (.cond (.t 67)
            (.seq
              (.region false [⟨some 2, (.mv (.c (.bool false))), 4, none, 0⟩] (some [2]))
              .ret)
            .skip)))
      (.region false [⟨some 48, (.mv (.t 8)), 3, none, 0⟩, ⟨some 49, (.bin .add 3 (.t 48) (.c (.int .i64 1))), 3, none, 0⟩, ⟨some 8, (.mv (.t 49)), 3, none, 0⟩] (some [3, 4, 5, 7, 8]))))
def lb_13_8 : AC :=
  (.seq
    (.seq
      (.region false [⟨some 38, (.mv (.t 7)), 3, none, 0⟩, ⟨some 39, (.mv (.t 5)), 23, none, 0⟩, ⟨some 40, (.len 23 (.t 39)), 3, none, 0⟩, ⟨some 41, (.bin .lss 3 (.t 38) (.t 40)), 4, none, 0⟩] (some [3, 4, 5, 7, 41]))
      (.cond (.t 41)
        .skip
        (.exit 0)))
    (.seq
      (.block 1
        (.seq
          (.seq
            (.region false [⟨some 8, (.mv (.c (.int .i64 0))), 3, none, 0⟩] (some [3, 4, 5, 7, 8]))
            (.block 2
              (.loop [3, 4, 5, 7, 8] [24, 32] lb_13_11)))
          (.seq
            (.region true [⟨some 68, (.mv (.t 5)), 23, none, 0⟩, ⟨some 69, (.load 27 (.t 3)), 27, none, 0⟩, ⟨some 70, (.mv (.t 7)), 3, none, 0⟩, ⟨some 71, (.call (.f 46) [(.t 69), (.t 70)]), 3, none, 3⟩, ⟨some 72, (.iaddr 23 (.t 68) (.t 71)), 0, none, 0⟩, ⟨some 73, (.load 3 (.t 72)), 3, none, 0⟩, ⟨some 74, (.load 27 (.t 4)), 27, none, 0⟩, ⟨some 75, (.mv (.t 5)), 23, none, 0⟩, ⟨some 76, (.mv (.t 7)), 3, none, 0⟩, ⟨some 77, (.iaddr 23 (.t 75) (.t 76)), 0, none, 0⟩, ⟨some 78, (.load 3 (.t 77)), 3, none, 0⟩, ⟨some 79, (.call (.f 46) [(.t 74), (.t 78)]), 3, none, 3⟩, ⟨some 80, (.bin .neq 3 (.t 73) (.t 79)), 4, none, 0⟩] (some [3, 4, 5, 7, 80]))
            (.cond (.t 80)
              (.seq
                (.region false [⟨some 2, (.mv (.c (.bool false))), 4, none, 0⟩] (some [2]))
                .ret)
              .skip))))
      (.region false [⟨some 42, (.mv (.t 7)), 3, none, 0⟩, ⟨some 43, (.bin .add 3 (.t 42) (.c (.int .i64 1))), 3, none, 0⟩, ⟨some 7, (.mv (.t 43)), 3, none, 0⟩] (some [3, 4, 5, 7]))))
def fa_13 : FnA := ⟨87, [.t 2],
  (.seq
    (.region false [⟨some 2, (.mv (.c (.bool false))), 4, none, 0⟩] (some [0]))
    (.seq
      (.seq
        (.region false [⟨some 9, (.mv (.t 0)), 22, none, 0⟩, ⟨some 10, (.len 22 (.t 9)), 3, none, 0⟩, ⟨some 11, (.bin .gtr 3 (.t 10) (.c (.int .i64 1048576))), 4, none, 0⟩] (some [0, 11]))
        (.cond (.t 11)
          (.seq
            (.region false [⟨some 2, (.mv (.c (.bool true))), 4, none, 0⟩] (some [2]))
            .ret)
          .skip))
      (.seq
        (.region false [⟨some 13, (.mv (.t 0)), 22, none, 0⟩, ⟨some 14, (.call (.f 65) [(.t 13)]), 57, none, 3⟩, ⟨some 12, (.mv (.t 14)), 57, none, 0⟩, ⟨some 15, (.ext (.t 12) 0), 27, none, 0⟩, ⟨some 16, (.ext (.t 12) 1), 27, none, 0⟩, ⟨some 17, (.ext (.t 12) 2), 23, none, 0⟩, ⟨some 3, (.alloc 27), 0, none, 0⟩, ⟨some 4, (.alloc 27), 0, none, 0⟩, ⟨none, (.store 27 (.t 3) (.t 15)), 0, none, 0⟩, ⟨none, (.store 27 (.t 4) (.t 16)), 0, none, 0⟩, ⟨some 5, (.mv (.t 17)), 23, none, 0⟩] (some [3, 4, 5]))
        (.seq
          (.region false [⟨some 18, (.load 27 (.t 3)), 27, none, 0⟩, ⟨some 19, (.load 27 (.t 4)), 27, none, 0⟩, ⟨some 20, (.mv (.t 5)), 23, none, 0⟩, ⟨some 21, (.call (.f 66) [(.t 18), (.t 19), (.t 20)]), 4, none, 3⟩, ⟨some 6, (.mv (.t 21)), 4, none, 0⟩] (some [3, 4, 5, 6]))
          (.seq
            (.seq
              (.region false (gops [⟨some 22, (.mv (.t 6)), 4, none, 0⟩, ⟨some 23, (.load 27 (.t 3)), 27, none, 0⟩, ⟨some 24, (.load 27 (.t 4)), 27, none, 0⟩, ⟨some 25, (.mv (.t 5)), 23, none, 0⟩, ⟨some 26, (.call (.f 67) [(.t 23), (.t 24), (.t 25)]), 4, none, 3⟩, ⟨some 27, (.bin .neq 4 (.t 22) (.t 26)), 4, none, 0⟩, ⟨some 28, (.mv (.t 27)), 4, none, 0⟩, ⟨some 29, (.mv (.t 6)), 4, some (28, false), 0⟩, ⟨some 30, (.un .not (.t 29)), 4, some (28, false), 0⟩, ⟨some 31, (.pick (.t 28) (.c (.bool true)) (.t 30)), 4, none, 0⟩]) (some [3, 4, 5, 6, 31]))
              (.cond (.t 31)
                (.seq
                  (.region false [⟨some 32, (.mv (.t 6)), 4, none, 0⟩, ⟨some 33, (.load 27 (.t 3)), 27, none, 0⟩, ⟨some 34, (.load 27 (.t 4)), 27, none, 0⟩, ⟨some 35, (.mv (.t 5)), 23, none, 0⟩, ⟨some 36, (.call (.f 67) [(.t 33), (.t 34), (.t 35)]), 4, none, 3⟩, ⟨some 37, (.bin .eql 4 (.t 32) (.t 36)), 4, none, 0⟩, ⟨some 2, (.mv (.t 37)), 4, none, 0⟩] (some [2]))
                  .ret)
                .skip))
            (.seq
              (.seq
                (.region false [⟨some 7, (.mv (.c (.int .i64 0))), 3, none, 0⟩] (some [3, 4, 5, 7]))
                (.block 0
                  (.loop [3, 4, 5, 7] [24, 32] lb_13_8)))
              (.seq
                (.region true [⟨some 81, (.load 27 (.t 3)), 27, none, 0⟩, ⟨some 82, (.load 27 (.t 3)), 27, none, 0⟩, ⟨some 83, (.load 27 (.t 4)), 27, none, 0⟩, ⟨some 84, (.mv (.t 5)), 23, none, 0⟩, ⟨some 85, (.call (.f 68) [(.t 82), (.t 83), (.t 84)]), 3, none, 3⟩, ⟨some 86, (.call (.f 27) [(.t 81), (.t 85)]), 4, none, 3⟩, ⟨some 2, (.mv (.t 86)), 4, none, 0⟩] (some [2]))
                .ret)))))))⟩
theorem fok_13 : FnOk Try.prog 13 fa_13 an_13 := ⟨Try.f13, _, Try.func13, rfl, by kernel_rfl, rfl, rfl, by decide, by kernel_rfl⟩
end Go.PS
end

section
-- Contracts: the arguments of the laws of maps.
set_option maxRecDepth 100000
set_option linter.unusedVariables false
set_option linter.unusedSimpArgs false
namespace Go.PS
open Go.Proofs

theorem moA_ga {b : List Int} (hb : BB b) {p : Nat} (hp : p ≤ 950000) {u : List Int} {t : List (List Int)} {F : Nat} (a : VA u t) (hF : FI u t F) :
    GA (moA b p u t F).1.1 ∧ GA (moA b p u t F).1.2.1 ∧ (moA b p u t F).1.2.2.length ≤ 6 := by
  have h6 := a.lat.six
  have gq := ga_va (va_quot a hF)
  unfold moA
  split
  · exact ⟨ga_va a, ga_va a, by show (tl u.length _).length ≤ 6; rw [tl_length]; exact h6⟩
  · split
    · have a5 := aofM_va hb (p := p + 1) (by omega) (m := 3) (by omega) (by omega)
      obtain ⟨g5, _, q5⟩ := aofM_ga hb (p := p + 1) (by omega) (m := 3) (by omega) (by omega)
      generalize aofM b (p + 1) 3 = A at *
      obtain ⟨⟨v, s⟩, p2⟩ := A
      dsimp only at *
      have hmp : ∀ x ∈ mprn v s (quU u t F) (quT u t F) v.length [], MP v s (quU u t F) (quT u t F) x := fun x hx => mprn_mp a5.tf (va_quot a hF).tf hx
      generalize mprn v s (quU u t F) (quT u t F) v.length [] = ms at *
      split
      · exact ⟨g5, gq, by show (quP u t F).length ≤ 6; rw [quP_len]; exact h6⟩
      · rename_i hm
        have hpos2 : 0 < ms.length := List.length_pos_iff.2 hm
        have hr2 := pkM_rng hb (p := p2) (by omega) (n := ms.length) (by omega)
        have hk2 : (pkM b p2 ms.length).toNat < ms.length := by omega
        have hlen := (hmp _ (gr_mem hk2)).len
        exact ⟨g5, gq, by show (gr ms _).length ≤ 6; rw [hlen]; exact a5.lat.six⟩
    · exact ⟨ga_va a, gq, by show (quP u t F).length ≤ 6; rw [quP_len]; exact h6⟩
theorem moM_few {b : List Int} (hb : BB b) {p : Nat} (hp : p ≤ 900000) : Few (moM b p).1.1 ∧ Few (moM b p).1.2.1 ∧ (moM b p).1.2.2.length ≤ 7 := by
  have a := gaM_va hb (p := p) (by omega)
  have hp1 := (gaM_ga hb (p := p) (by omega)).2
  unfold moM
  obtain ⟨hF, _⟩ := moF_fi hb (p := (gaM b p).2) (by omega) a
  have h := moA_ga hb (p := (gaM b p).2 + 1) (by omega) a hF
  generalize moA b ((gaM b p).2 + 1) _ _ _ = q at *
  obtain ⟨⟨A, B, f⟩, p2⟩ := q
  obtain ⟨g1, g2, h3⟩ := h
  dsimp only at g1 g2 h3
  unfold moB
  dsimp only
  split
  · exact ⟨g1.few, g2.few, by show (f ++ [0]).length ≤ 7; simp; omega⟩
  · split
    · exact ⟨g1.few, g2.few, by show (f.set _ _).length ≤ 7; rw [List.length_set]; omega⟩
    · split
      · exact ⟨(bnM_few (b := b) (u := A.1) (t := A.2) g1).1, (bnM_few (b := b) (u := B.1) (t := B.2) g2).1, by show f.length ≤ 7; omega⟩
      · exact ⟨g1.few, g2.few, by show f.length ≤ 7; omega⟩

theorem drIsM_pc (c : List Int) (hc : Byt c) (hl : Big c.length) : PC Try.prog 65 [BL c] none false (fun r _ => r = .tup [AL (moM (rdB c) 0).1.1.1 (moM (rdB c) 0).1.1.2, AL (moM (rdB c) 0).1.2.1.1 (moM (rdB c) 0).1.2.1.2, IL (moM (rdB c) 0).1.2.2]) := by
  have hl := hl.le
  have hb := rdB_ok hc
  have l1 := fw_mapOf_look (rdB c) 0 hb (by omega) (by omega)
  refine pcR [] [fw_mapOf] fok_65 ?_
  generalize moM (rdB c) 0 = Z at *
  obtain ⟨⟨⟨u, t⟩, ⟨v, s⟩, f⟩, p1⟩ := Z
  dsimp only at *
  simp [fa_65]
  refine newR hl ?_
  simp [callOWR, l1]
  trace_state
noncomputable def fm_drIsM : Fam Try.prog := mkFam (X := List Int) 65 false (fun c => [BL c]) (fun c => (Byt c) ∧ (Big c.length)) (fun c => .tup [AL (moM (rdB c) 0).1.1.1 (moM (rdB c) 0).1.1.2, AL (moM (rdB c) 0).1.2.1.1 (moM (rdB c) 0).1.2.1.2, IL (moM (rdB c) 0).1.2.2]) (by
  rintro c ⟨hc, hl⟩
  exact drIsM_pc c hc hl)
@[simp] theorem fm_drIsM_id : fm_drIsM.id = 65 := rfl
@[simp] theorem fm_drIsM_fresh : fm_drIsM.fresh = false := rfl
@[simp] theorem fm_drIsM_look (c : List Int) (hc : Byt c) (hl : Big c.length) : fm_drIsM.look [BL c] = some (.tup [AL (moM (rdB c) 0).1.1.1 (moM (rdB c) 0).1.1.2, AL (moM (rdB c) 0).1.2.1.1 (moM (rdB c) 0).1.2.1.2, IL (moM (rdB c) 0).1.2.2]) :=
  lookF_of (X := List Int) (args := fun c => [BL c]) (pre := fun c => (Byt c) ∧ (Big c.length)) (val := fun c => .tup [AL (moM (rdB c) 0).1.1.1 (moM (rdB c) 0).1.1.2, AL (moM (rdB c) 0).1.2.1.1 (moM (rdB c) 0).1.2.1.2, IL (moM (rdB c) 0).1.2.2]) (by
  intro c c' h
  simp at h
  subst h
  rfl) c ⟨hc, hl⟩
attribute [irreducible] fm_drIsM
end Go.PS
end

section
-- Parts; sharp elements, in plain Lean.
set_option linter.unusedVariables false
set_option linter.unusedSimpArgs false
namespace Go.PS

section
variable {u : List Int} {t : List (List Int)} {x y z w : Nat}

structure PT (u : List Int) (t : List (List Int)) (s : Nat) : Prop where
  lt : s < 2 ^ u.length
  bot : s.testBit 0 = true
  top : s.testBit (u.length - 1) = true
  cl : ∀ x, x < u.length → ∀ y, y < u.length → s.testBit x = true → s.testBit y = true → (s.testBit (tn t x y) = true ∧ s.testBit (im u t x y) = true) ∧ s.testBit (mt u x y) = true ∧ s.testBit (jo u x y) = true
noncomputable instance (u : List Int) (t : List (List Int)) (s : Nat) : Decidable (PT u t s) := Classical.propDecidable _

theorem PT.and {f g : Nat} (hf : PT u t f) (hg : PT u t g) : PT u t (f &&& g) := by
  refine ⟨Nat.lt_of_le_of_lt Nat.and_le_left hf.lt, ?_, ?_, fun x hx y hy h1 h2 => ?_⟩
  · rw [Nat.testBit_and, hf.bot, hg.bot]; rfl
  · rw [Nat.testBit_and, hf.top, hg.top]; rfl
  · rw [Nat.testBit_and, Bool.and_eq_true] at h1 h2
    have a1 := hf.cl x hx y hy h1.1 h2.1
    have a2 := hg.cl x hx y hy h1.2 h2.2
    simp only [Nat.testBit_and, a1.1.1, a1.1.2, a1.2.1, a1.2.2, a2.1.1, a2.1.2, a2.2.1, a2.2.2, Bool.and_self, and_self]
-- sharp elements
end
end Go.PS
end

section
-- Maps keep opposites; kernels are filters, images are parts, in plain Lean.
set_option linter.unusedVariables false
set_option linter.unusedSimpArgs false
namespace Go.PS
section
variable {u v : List Int} {t s : List (List Int)} {f : List Int} {x y z : Nat}
abbrev fn (f : List Int) (x : Nat) : Nat := (gi f x).toNat
theorem MP.lt (m : MP u t v s f) (hx : x < u.length) : fn f x < v.length := by have := m.rng x hx; show (gi f x).toNat < _; omega
theorem MP.int (m : MP u t v s f) (hx : x < u.length) : gi f x = (fn f x : Nat) := by have := m.rng x hx; show gi f x = ((gi f x).toNat : Int); omega
theorem MP.zero (m : MP u t v s f) : fn f 0 = 0 := by show (gi f 0).toNat = 0; rw [m.fst]; rfl
theorem MP.topN (m : MP u t v s f) : fn f (u.length - 1) = v.length - 1 := by show (gi f _).toNat = _; rw [m.lst]; omega
theorem MP.tn (m : MP u t v s f) (hx : x < u.length) (hy : y < u.length) : fn f (tn t x y) = PS.tn s (fn f x) (fn f y) := by
  have := m.pr x hx y hy
  simp only [mpE, Bool.and_eq_true, decide_eq_true_eq] at this
  exact congrArg Int.toNat this.1.1.1
theorem MP.im (m : MP u t v s f) (hx : x < u.length) (hy : y < u.length) : fn f (im u t x y) = PS.im v s (fn f x) (fn f y) := by
  have := m.pr x hx y hy
  simp only [mpE, Bool.and_eq_true, decide_eq_true_eq] at this
  exact congrArg Int.toNat this.1.1.2
theorem MP.mt (m : MP u t v s f) (hx : x < u.length) (hy : y < u.length) : fn f (mt u x y) = PS.mt v (fn f x) (fn f y) := by
  have := m.pr x hx y hy
  simp only [mpE, Bool.and_eq_true, decide_eq_true_eq] at this
  exact congrArg Int.toNat this.1.2
theorem MP.jo (m : MP u t v s f) (hx : x < u.length) (hy : y < u.length) : fn f (jo u x y) = PS.jo v (fn f x) (fn f y) := by
  have := m.pr x hx y hy
  simp only [mpE, Bool.and_eq_true, decide_eq_true_eq] at this
  exact congrArg Int.toNat this.2
theorem MP.nr (a : VA u t) (m : MP u t v s f) (hx : x < u.length) (hy : y < u.length) : fn f (nr u t x y) = PS.nr v s (fn f x) (fn f y) := by
  show fn f (PS.tn t (PS.im u t x y) (PS.im u t y x)) = PS.tn s _ _
  rw [m.tn a.im_lt a.im_lt, m.im hx hy, m.im hy hx]
theorem MP.no (a : VA u t) (m : MP u t v s f) (hx : x < u.length) : fn f (PS.im u t x 0) = PS.im v s (fn f x) 0 := by rw [m.im hx a.lat.pos, m.zero]
theorem MP.le (a : VA u t) (b : VA v s) (m : MP u t v s f) (hx : x < u.length) (hy : y < u.length) (h : tb u x y = true) : tb v (fn f x) (fn f y) = true := m.mono a.tf b.tf hx hy h
/-- The kernel. -/
def kerN (u v : List Int) (f : List Int) : Nat := mskN u.length fun x => decide (fn f x = v.length - 1)
theorem ker_bit : (kerN u v f).testBit x = true ↔ x < u.length ∧ fn f x = v.length - 1 := by
  unfold kerN
  rw [mskN_bit, Bool.and_eq_true, decide_eq_true_eq, decide_eq_true_eq]
theorem fi_ker (a : VA u t) (b : VA v s) (m : MP u t v s f) : FI u t (kerN u v f) := by
  have hp := a.lat.pos
  have hq := b.lat.pos
  refine ⟨mskN_lt, ker_bit.2 ⟨by omega, m.topN⟩, fun x hx y hy h1 h2 => ?_, fun x hx y hy h1 h2 => ?_⟩
  · rw [ker_bit] at h1 ⊢
    have h3 := m.le a b hx hy h2
    rw [h1.2] at h3
    exact ⟨hy, b.lat.eq_top (m.lt hy) h3⟩
  · rw [ker_bit] at h1 h2 ⊢
    refine ⟨a.tn_lt hx hy, ?_⟩
    rw [m.tn hx hy, h1.2, h2.2, b.tn_top (by omega)]
end
end Go.PS
end

section
-- Contracts: maps, their images and kernels.
set_option maxRecDepth 100000
set_option linter.unusedVariables false
set_option linter.unusedSimpArgs false
namespace Go.PS
open Go.Proofs

noncomputable def imB (u : List Int) (t : List (List Int)) (v : List Int) (s : List (List Int)) (f : List Int) : Bool := decide (VA u t) && decide (VA v s) && decide (MP u t v s f)
theorem imB_iff {u : List Int} {t : List (List Int)} {v : List Int} {s : List (List Int)} {f : List Int} : imB u t v s f = true ↔ VA u t ∧ VA v s ∧ MP u t v s f := by
  unfold imB
  simp only [Bool.and_eq_true, decide_eq_true_eq, and_assoc]
theorem IsMapI_pc (u : List Int) (t : List (List Int)) (v : List Int) (s : List (List Int)) (f : List Int) (hu : Big u.length) (ht : BigR t) (hv : Big v.length) (hs : BigR s) (hf : Big f.length) : PC Try.prog 66 [AL u t, AL v s, IL f] none true (fun r _ => r = .bool (imB u t v s f)) := by
  refine pcT [fm_validAlgebraI, fm_isMapI] fok_66 ?_
  simp [fa_66]
  unfold imB
  refine cutW (tabK_mono _) [(6, .bool (decide (VA u t) && decide (VA v s) && decide (MP u t v s f)))] (by
    by_cases a : VA u t
    · by_cases b : VA v s
      · simp [hu, ht, hv, hs, hf, a, b, a.tf, b.tf]
      · simp [hu, ht, hv, hs, a, b]
    · simp [hu, ht, a]) ?_
  simp
noncomputable def fm_IsMapI : Fam Try.prog := mkFam (X := List Int × List (List Int) × List Int × List (List Int) × List Int) 66 true (fun (u, t, v, s, f) => [AL u t, AL v s, IL f]) (fun (u, t, v, s, f) => (Big u.length) ∧ (BigR t) ∧ (Big v.length) ∧ (BigR s) ∧ (Big f.length)) (fun (u, t, v, s, f) => .bool (imB u t v s f)) (by
  rintro ⟨u, t, v, s, f⟩ ⟨hu, ht, hv, hs, hf⟩
  exact IsMapI_pc u t v s f hu ht hv hs hf)
@[simp] theorem fm_IsMapI_id : fm_IsMapI.id = 66 := rfl
@[simp] theorem fm_IsMapI_fresh : fm_IsMapI.fresh = true := rfl
@[simp] theorem fm_IsMapI_look (u : List Int) (t : List (List Int)) (v : List Int) (s : List (List Int)) (f : List Int) (hu : Big u.length) (ht : BigR t) (hv : Big v.length) (hs : BigR s) (hf : Big f.length) : fm_IsMapI.look [AL u t, AL v s, IL f] = some (.bool (imB u t v s f)) :=
  lookF_of (X := List Int × List (List Int) × List Int × List (List Int) × List Int) (args := fun (u, t, v, s, f) => [AL u t, AL v s, IL f]) (pre := fun (u, t, v, s, f) => (Big u.length) ∧ (BigR t) ∧ (Big v.length) ∧ (BigR s) ∧ (Big f.length)) (val := fun (u, t, v, s, f) => .bool (imB u t v s f)) (by
  rintro ⟨u, t, v, s, f⟩ ⟨u', t', v', s', f'⟩ h
  simp at h
  try simp only [and_assoc] at h
  obtain ⟨rfl, rfl, rfl, rfl, rfl⟩ := h
  rfl) (u, t, v, s, f) ⟨hu, ht, hv, hs, hf⟩
attribute [irreducible] fm_IsMapI
theorem IsMapS_pc (u : List Int) (t : List (List Int)) (v : List Int) (s : List (List Int)) (f : List Int) (hu : Big u.length) (ht : BigR t) (hv : Big v.length) (hs : BigR s) (hf : Big f.length) : PC Try.prog 67 [AL u t, AL v s, IL f] none true (fun r _ => r = .bool (imB u t v s f)) := by
  refine pcT [fm_validAlgebraS, fm_isMapS] fok_67 ?_
  simp [fa_67]
  unfold imB
  refine cutW (tabK_mono _) [(6, .bool (decide (VA u t) && decide (VA v s) && decide (MP u t v s f)))] (by
    by_cases a : VA u t
    · by_cases b : VA v s
      · simp [hu, ht, hv, hs, hf, a, b, a.tf, b.tf]
      · simp [hu, ht, hv, hs, a, b]
    · simp [hu, ht, a]) ?_
  simp
noncomputable def fm_IsMapS : Fam Try.prog := mkFam (X := List Int × List (List Int) × List Int × List (List Int) × List Int) 67 true (fun (u, t, v, s, f) => [AL u t, AL v s, IL f]) (fun (u, t, v, s, f) => (Big u.length) ∧ (BigR t) ∧ (Big v.length) ∧ (BigR s) ∧ (Big f.length)) (fun (u, t, v, s, f) => .bool (imB u t v s f)) (by
  rintro ⟨u, t, v, s, f⟩ ⟨hu, ht, hv, hs, hf⟩
  exact IsMapS_pc u t v s f hu ht hv hs hf)
@[simp] theorem fm_IsMapS_id : fm_IsMapS.id = 67 := rfl
@[simp] theorem fm_IsMapS_fresh : fm_IsMapS.fresh = true := rfl
@[simp] theorem fm_IsMapS_look (u : List Int) (t : List (List Int)) (v : List Int) (s : List (List Int)) (f : List Int) (hu : Big u.length) (ht : BigR t) (hv : Big v.length) (hs : BigR s) (hf : Big f.length) : fm_IsMapS.look [AL u t, AL v s, IL f] = some (.bool (imB u t v s f)) :=
  lookF_of (X := List Int × List (List Int) × List Int × List (List Int) × List Int) (args := fun (u, t, v, s, f) => [AL u t, AL v s, IL f]) (pre := fun (u, t, v, s, f) => (Big u.length) ∧ (BigR t) ∧ (Big v.length) ∧ (BigR s) ∧ (Big f.length)) (val := fun (u, t, v, s, f) => .bool (imB u t v s f)) (by
  rintro ⟨u, t, v, s, f⟩ ⟨u', t', v', s', f'⟩ h
  simp at h
  try simp only [and_assoc] at h
  obtain ⟨rfl, rfl, rfl, rfl, rfl⟩ := h
  rfl) (u, t, v, s, f) ⟨hu, ht, hv, hs, hf⟩
attribute [irreducible] fm_IsMapS
theorem or_nat6 {a b : Nat} (ha : a < 64) (hb : b < 64) : bOr .i64 (a : Int) (b : Int) = ((a ||| b : Nat) : Int) := by
  have h : ∀ x, x < 64 → ∀ y, y < 64 → bOr .i64 ((x : Nat) : Int) ((y : Nat) : Int) = ((x ||| y : Nat) : Int) := by decide +kernel
  exact h a ha b hb
noncomputable def kerV (u : List Int) (t : List (List Int)) (v : List Int) (s : List (List Int)) (f : List Int) : Int := if imB u t v s f then (kerN u v f : Nat) else -1
theorem MP.six {u : List Int} {t : List (List Int)} {v : List Int} {s : List (List Int)} {f : List Int} (m : MP u t v s f) (b : VA v s) : ∀ x, x < f.length → 0 ≤ gi f x ∧ gi f x < 6 := fun x hx => by
  rw [m.len] at hx
  have := m.rng x hx
  have := b.lat.six
  omega
theorem KerI_pc (u : List Int) (t : List (List Int)) (v : List Int) (s : List (List Int)) (f : List Int) (hu : Big u.length) (ht : BigR t) (hv : Big v.length) (hs : BigR s) (hf : Big f.length) : PC Try.prog 68 [AL u t, AL v s, IL f] none true (fun r _ => r = I64 (kerV u t v s f)) := by
  refine pcT [fm_IsMapI] fok_68 ?_
  unfold kerV
  cases hb : imB u t v s f
  · simp [fa_68, hu, ht, hv, hs, hf, hb]
  · obtain ⟨a, b, m⟩ := imB_iff.1 hb
    have h6 := a.lat.six
    have h62 := b.lat.six
    have hq := b.lat.pos
    have hlen := m.len
    have w1 : IntKind.i64.wrap ((v.length : Int) - 1) = ((v.length - 1 : Nat) : Int) := by rw [wrap64 (by omega) (by omega)]; omega
    simp [fa_68, hu, ht, hv, hs, hf, hb]
    refine loopA (tabK_mono _) f.length (fun i => [(7, I64 ((mskN i fun x => decide (fn f x = v.length - 1)) : Nat)), (17, I64 i)]) (fun _ => []) (fun _ => True) (by simp [mskN]) (by simp) (fun i g hi _ => ?_)
    simp [lb_68_5, w1]
    refine ⟨fun h => ?_, fun h => ?_⟩
    · have hr := m.rng i (by omega)
      obtain ⟨y, hy⟩ : ∃ y : Nat, gi f i = y := ⟨(gi f i).toNat, by omega⟩
      have hfy : fn f i = y := by show (gi f i).toNat = y; omega
      have hm : mskN i (fun x => decide (fn f x = v.length - 1)) < 2 ^ 6 := Nat.lt_of_lt_of_le mskN_lt (Nat.pow_le_pow_right (by omega) (by omega))
      have hp : 2 ^ i < 64 := by
        have : i < 6 := by omega
        have := Nat.pow_lt_pow_right (a := 2) (by omega) this
        exact this
      have e := or_nat6 hm hp
      have e2 : ((2 ^ i : Nat) : Int) = 2 ^ i := by push_cast; rfl
      rw [e2] at e
      simp [hy, h, mskN_succ, hfy, e, shl2, show (i : Int) ≤ 6 by omega, wrap_succ hi (show f.length ≤ 1099511627776 by omega)]
      by_cases c : y = v.length - 1
      · simp [c]
      · simp [c, show ¬ ((y : Int) = ((v.length - 1 : Nat) : Int)) by omega]
    · obtain rfl : i = f.length := by omega
      rw [hlen]; rfl
noncomputable def fm_KerI : Fam Try.prog := mkFam (X := List Int × List (List Int) × List Int × List (List Int) × List Int) 68 true (fun (u, t, v, s, f) => [AL u t, AL v s, IL f]) (fun (u, t, v, s, f) => (Big u.length) ∧ (BigR t) ∧ (Big v.length) ∧ (BigR s) ∧ (Big f.length)) (fun (u, t, v, s, f) => I64 (kerV u t v s f)) (by
  rintro ⟨u, t, v, s, f⟩ ⟨hu, ht, hv, hs, hf⟩
  exact KerI_pc u t v s f hu ht hv hs hf)
@[simp] theorem fm_KerI_id : fm_KerI.id = 68 := rfl
@[simp] theorem fm_KerI_fresh : fm_KerI.fresh = true := rfl
@[simp] theorem fm_KerI_look (u : List Int) (t : List (List Int)) (v : List Int) (s : List (List Int)) (f : List Int) (hu : Big u.length) (ht : BigR t) (hv : Big v.length) (hs : BigR s) (hf : Big f.length) : fm_KerI.look [AL u t, AL v s, IL f] = some (I64 (kerV u t v s f)) :=
  lookF_of (X := List Int × List (List Int) × List Int × List (List Int) × List Int) (args := fun (u, t, v, s, f) => [AL u t, AL v s, IL f]) (pre := fun (u, t, v, s, f) => (Big u.length) ∧ (BigR t) ∧ (Big v.length) ∧ (BigR s) ∧ (Big f.length)) (val := fun (u, t, v, s, f) => I64 (kerV u t v s f)) (by
  rintro ⟨u, t, v, s, f⟩ ⟨u', t', v', s', f'⟩ h
  simp at h
  try simp only [and_assoc] at h
  obtain ⟨rfl, rfl, rfl, rfl, rfl⟩ := h
  rfl) (u, t, v, s, f) ⟨hu, ht, hv, hs, hf⟩
attribute [irreducible] fm_KerI
end Go.PS
end

section
-- PRINTED by gen.py: clean texts of functions, and their tie to the program.
set_option maxRecDepth 100000
namespace Go.PS
open Go.Proofs
end Go.PS
end

section
-- Contracts: parts.
set_option maxRecDepth 100000
set_option linter.unusedVariables false
set_option linter.unusedSimpArgs false
namespace Go.PS
open Go.Proofs

/-- What a pair makes no part. -/
def ptB (u : List Int) (t : List (List Int)) (s x y : Nat) : Bool := s.testBit x && s.testBit y && (!s.testBit (tn t x y) || !s.testBit (im u t x y) || !s.testBit (mt u x y) || !s.testBit (jo u x y))
theorem PT.at {u : List Int} {t : List (List Int)} {s : Nat} (P : PT u t s) {x y : Nat} (hx : x < u.length) (hy : y < u.length) : ptB u t s x y = false := by
  unfold ptB
  cases h1 : s.testBit x
  · rfl
  · cases h2 : s.testBit y
    · rfl
    · have := P.cl x hx y hy h1 h2
      simp [this.1.1, this.1.2, this.2.1, this.2.2]
end Go.PS
end

section
-- PRINTED by gen.py: clean texts of functions, and their tie to the program.
set_option maxRecDepth 100000
namespace Go.PS
open Go.Proofs
end Go.PS
end

section
-- Contracts: lists of the laws.
set_option maxRecDepth 100000
set_option linter.unusedVariables false
set_option linter.unusedSimpArgs false
namespace Go.PS
open Go.Proofs

end Go.PS
end

section
-- Draws of one algebra.
set_option maxRecDepth 100000
set_option linter.unusedVariables false
set_option linter.unusedSimpArgs false
namespace Go.PS
open Go.Proofs


end Go.PS
end

section
-- What the laws of elements have in common; the law of products.
set_option maxRecDepth 100000
set_option linter.unusedVariables false
set_option linter.unusedSimpArgs false
namespace Go.PS
open Go.Proofs

section
variable {u : List Int} {t : List (List Int)} {x y z : Nat}
theorem inE_nat (h : x < u.length) : inE u.length (x : Int) = true := by simp [inE, h]
theorem NoM_nat (a : VA u t) (hx : x < u.length) : NoM u t x = (im u t x 0 : Nat) := by simp [NoM, a, inE_nat hx, ← a.im_int]
theorem NeM_nat (a : VA u t) (hx : x < u.length) (hy : y < u.length) : NeM u t x y = (nr u t x y : Nat) := by
  have h1 : (nr u t x y : Int) = tm t (im u t x y) (im u t y x) := (a.tn_int a.im_lt a.im_lt).symm
  simp only [NeM, a, inE_nat hx, inE_nat hy, decide_true, Bool.and_self, if_true, Int.toNat_natCast, h1]
end
end Go.PS
end

section
-- The laws of maps: images are parts, maps keep opposites.
set_option maxRecDepth 100000
set_option linter.unusedVariables false
set_option linter.unusedSimpArgs false
namespace Go.PS
open Go.Proofs

theorem ifM_fi2 {u : List Int} {t : List (List Int)} {f : Nat} (a : VA u t) (h : FI u t f) : ifM u t f = true := by
  unfold ifM
  rw [decide_eq_true a, inS_nat h.lt, Int.toNat_natCast, decide_eq_true h]; rfl
set_option maxHeartbeats 4000000 in
theorem FnIsMap_pc (c : List Int) (hl : Hu c.length) (hc : Byt c) : PC Try.prog 13 [BL c] none true (fun r _ => r = .bool true) := by
  have hl' := hl.le
  refine pcT [fm_drIsM, fm_IsMapI, fm_IsMapS, fm_NearI, fm_NotI, fm_KerI, fm_IsFilI] fok_13 ?_
  rcases Nat.lt_or_ge 1048576 c.length with q | q
  · simp [fa_13, show ((1048576 : Int) < c.length) by omega]
  · have hbig : Big c.length := by unfold Big; omega
    have l1 := fm_drIsM_look c hc hbig
    obtain ⟨g1, g2, h7⟩ := moM_few (rdB_ok hc) (p := 0) (by omega)
    generalize moM (rdB c) 0 = Z at *
    obtain ⟨⟨⟨u, t⟩, ⟨v, s⟩, f⟩, p1⟩ := Z
    have hu := g1.big
    have ht := g1.bigR
    have hv := g2.big
    have hs := g2.bigR
    dsimp only at *
    have hf : Big f.length := by unfold Big; omega
    have hfl : f.length ≤ 1099511627776 := by omega
    have m1 := fm_IsMapI_look u t v s f hu ht hv hs hf
    have m2 := fm_IsMapS_look u t v s f hu ht hv hs hf
    have m5 := fm_KerI_look u t v s f hu ht hv hs hf
    simp [fa_13, show ¬ ((1048576 : Int) < c.length) by omega, show ((c.length : Int) ≤ 1048576) by omega, l1, m1]
    refine cutW (tabK_mono _) [(31, .bool (!imB u t v s f))] (by cases hb : imB u t v s f <;> simp [m2, hb]) ?_
    simp [m2]
    intro hB
    obtain ⟨a, b, m⟩ := imB_iff.1 hB
    have eK : kerV u t v s f = (kerN u v f : Nat) := by unfold kerV; rw [if_pos hB]
    rw [eK] at m5
    have m6 := fm_IsFilI_look u t (kerN u v f : Nat) hu ht
    rw [ifM_fi2 a (fi_ker a b m)] at m6
    have hlen := m.len
    refine loopA (tabK_mono _) f.length (fun i => [(7, I64 i)]) (fun _ => [⟨24, 1, .cells [IL u, RL t]⟩, ⟨32, 2, .cells [IL v, RL s]⟩]) (fun _ => True) (by simp) (by simp) (fun x g hx _ => ?_)
    simp [lb_13_8]
    refine ⟨fun h => ?_, fun h => ?_⟩
    · refine loopA (tabK_mono _) f.length (fun i => [(8, I64 i)]) (fun _ => [⟨24, 1, .cells [IL u, RL t]⟩, ⟨32, 2, .cells [IL v, RL s]⟩]) (fun _ => True) (by simp) (by simp) (fun y g2 hy _ => ?_)
      have k1 : x < u.length := by omega
      obtain ⟨X, eX⟩ : ∃ X, fn f x = X := ⟨_, rfl⟩
      have e1 : gi f x = (X : Int) := by rw [m.int k1, eX]
      have r1 : X < v.length := by rw [← eX]; exact m.lt k1
      simp [lb_13_11]
      refine ⟨fun h2 => ?_, fun h2 => ?_⟩
      · have k2 : y < u.length := by omega
        obtain ⟨Y, eY⟩ : ∃ Y, fn f y = Y := ⟨_, rfl⟩
        have e2 : gi f y = (Y : Int) := by rw [m.int k2, eY]
        have r2 : Y < v.length := by rw [← eY]; exact m.lt k2
        have e3 : gi f (nr u t x y) = ((nr v s X Y : Nat) : Int) := by rw [m.int a.nr_lt, m.nr a k1 k2, eX, eY]
        have n1 := fm_NearI_look u t x y hu ht
        rw [NeM_nat a k1 k2] at n1
        have n2 := fm_NearI_look v s X Y hv hs
        rw [NeM_nat b r1 r2] at n2
        have hz := a.nr_lt (x := x) (y := y)
        generalize nr u t x y = z at *
        generalize nr v s X Y = w at *
        simp [e1, e2, e3, n1, n2, h, h2, show z < f.length by omega, wrap_succ hy hfl]
      · have e3 : gi f (im u t x 0) = ((im v s X 0 : Nat) : Int) := by rw [m.int a.im_lt, m.no a k1, eX]
        have n1 := fm_NotI_look u t x hu ht
        rw [NoM_nat a k1] at n1
        have n2 := fm_NotI_look v s X hv hs
        rw [NoM_nat b r1] at n2
        have hz := a.im_lt (x := x) (y := 0)
        generalize im u t x 0 = z at *
        generalize im v s X 0 = w at *
        simp [e1, e3, n1, n2, h, show z < f.length by omega, wrap_succ hx hfl]
    · simp [m5, m6]
end Go.PS
end
