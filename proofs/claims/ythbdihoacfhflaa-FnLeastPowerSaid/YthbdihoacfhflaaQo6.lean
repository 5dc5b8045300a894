/- Part 6 of what the last text proves: The filters told by IsFilter are filters: the law holds at every input. -/
import Derived.Test.YthbdihoacfhflaaQo5
section
-- Contracts: algebras that are drawn and may be invalid.
set_option maxRecDepth 100000
set_option linter.unusedVariables false
set_option linter.unusedSimpArgs false
namespace Go.PS
open Go.Proofs

/-- An algebra that may be bent. -/
def bnM (b : List Int) (p : Nat) (u : List Int) (t : List (List Int)) : Alg × Nat :=
  if 0 < pkM b p 16 then ((u, t), p + 1)
  else (let k := (pkM b (p + 1) u.length).toNat; let c := pkM b (p + 2) 5
    if c = 0 then ((u, t.set k ((gr t k).set (pkM b (p + 3) u.length).toNat (gi [0, 1, -1, 6] (pkM b (p + 4) 4).toNat))), p + 5)
    else if c = 1 then ((u.set k (gi [0, 3, -1] (pkM b (p + 3) 3).toNat), t), p + 4)
    else if c = 2 then ((u, t.tail), p + 3)
    else if c = 3 then ((u, t.set k ((gr t k).tail)), p + 3)
    else ((u ++ [64], t), p + 3))

-- PRINTED by dagp.py
set_option maxHeartbeats 2000000 in
theorem bent_dag8 {Q : St → Prop} {b : List Int} {p : Nat} {u : List Int} {t : List (List Int)} {k y x1 x2 x3 : Nat} {z : Int} (hkt : k < t.length) (hyr : y < (gr t k).length) (l0 : fw_pick.look [.ptr 0 0 0, I64 u.length] (RS b (p + 3)) = some (I64 y, RS b (p + 4))) (l1 : fw_one.look [.ptr 0 0 0, .list 1 [.int .i64 0, .int .i64 1, .int .i64 (-1), .int .i64 6]] (RS b (p + 4)) = some (I64 z, RS b (p + 5)))
    (hQ : ∀ tb g, getT tb 4 = .ptr 32 1 0 → getT tb 5 = .ptr 40 x1 0 → Q ⟨tb, [⟨0, 0, .cells (RS b (p + 5))⟩, ⟨32, 1, .cells [.nil, .nil]⟩, ⟨40, x1, .cells [.arr 88 x2, .arr 136 x3]⟩, ⟨88, x2, .arr 1 (ints u)⟩, ⟨136, x3, .arr 1 (orowsD (t.set k ((gr t k).set y z)))⟩], g⟩) : ∀ tb g, getT tb 0 = .ptr 0 0 0 → getT tb 4 = .ptr 32 1 0 → getT tb 5 = .ptr 40 x1 0 → getT tb 6 = I64 (k : Int) → exT C0 0 (inlW C0 [fm_copyTabS] [fw_pick, fw_one] 0 0) ro_168_8 Q ex_168_8_0 ⟨tb, [⟨0, 0, .cells (RS b (p + 3))⟩, ⟨32, 1, .cells [.nil, .nil]⟩, ⟨40, x1, .cells [.arr 88 x2, .arr 136 x3]⟩, ⟨88, x2, .arr 1 (ints u)⟩, ⟨136, x3, .arr 1 (orowsD t)⟩], g⟩ := by
  have n32767 : ∀ tb g, getT tb 0 = .ptr 0 0 0 → getT tb 4 = .ptr 32 1 0 → getT tb 5 = .ptr 40 x1 0 → getT tb 6 = I64 (k : Int) → getT tb 33 = .ptr 40 x1 1 → getT tb 34 = .arr 136 x3 → getT tb 35 = I64 (k : Int) → getT tb 36 = .ptr 136 x3 k → getT tb 37 = .row 136 x3 k → getT tb 38 = .ptr 0 0 0 → getT tb 39 = .ptr 40 x1 0 → getT tb 40 = .arr 88 x2 → getT tb 41 = I64 (u.length : Int) → getT tb 42 = I64 (y : Int) → getT tb 43 = .ptr 0 0 0 → getT tb 44 = .list 1 [.int .i64 0, .int .i64 1, .int .i64 (-1), .int .i64 6] → getT tb 45 = I64 z → getT tb 46 = .rptr 136 x3 k y → exT C0 0 (inlW C0 [fm_copyTabS] [fw_pick, fw_one] 0 0) ro_168_8 Q ex_168_8_32767 ⟨tb, [⟨0, 0, .cells (RS b (p + 5))⟩, ⟨32, 1, .cells [.nil, .nil]⟩, ⟨40, x1, .cells [.arr 88 x2, .arr 136 x3]⟩, ⟨88, x2, .arr 1 (ints u)⟩, ⟨136, x3, .arr 1 (orowsD (t.set k ((gr t k).set y z)))⟩], g⟩ := by
    intro tb g e0 e4 e5 e6 e33 e34 e35 e36 e37 e38 e39 e40 e41 e42 e43 e44 e45 e46
    unfold ex_168_8_32767
    exact hQ tb g e4 e5
  have n16383 : ∀ tb g, getT tb 0 = .ptr 0 0 0 → getT tb 4 = .ptr 32 1 0 → getT tb 5 = .ptr 40 x1 0 → getT tb 6 = I64 (k : Int) → getT tb 33 = .ptr 40 x1 1 → getT tb 34 = .arr 136 x3 → getT tb 35 = I64 (k : Int) → getT tb 36 = .ptr 136 x3 k → getT tb 37 = .row 136 x3 k → getT tb 38 = .ptr 0 0 0 → getT tb 39 = .ptr 40 x1 0 → getT tb 40 = .arr 88 x2 → getT tb 41 = I64 (u.length : Int) → getT tb 42 = I64 (y : Int) → getT tb 43 = .ptr 0 0 0 → getT tb 44 = .list 1 [.int .i64 0, .int .i64 1, .int .i64 (-1), .int .i64 6] → getT tb 45 = I64 z → getT tb 46 = .rptr 136 x3 k y → exT C0 0 (inlW C0 [fm_copyTabS] [fw_pick, fw_one] 0 0) ro_168_8 Q ex_168_8_16383 ⟨tb, [⟨0, 0, .cells (RS b (p + 5))⟩, ⟨32, 1, .cells [.nil, .nil]⟩, ⟨40, x1, .cells [.arr 88 x2, .arr 136 x3]⟩, ⟨88, x2, .arr 1 (ints u)⟩, ⟨136, x3, .arr 1 (orowsD t)⟩], g⟩ := by
    intro tb g e0 e4 e5 e6 e33 e34 e35 e36 e37 e38 e39 e40 e41 e42 e43 e44 e45 e46
    unfold ex_168_8_16383
    simp only [exT_alt, exT_one, exT_stop, and_true]
    rw [ro_168_8_14]
    simp [callDOW, l0, l1, rg4, hkt, hyr, orowsD_ge, rowAt, rowB, e0, e4, e5, e6, e33, e34, e35, e36, e37, e38, e39, e40, e41, e42, e43, e44, e45, e46]
    refine n32767 _ _ ?_ ?_ ?_ ?_ ?_ ?_ ?_ ?_ ?_ ?_ ?_ ?_ ?_ ?_ ?_ ?_ ?_ ?_ <;> simp [getT, e0, e4, e5, e6, e33, e34, e35, e36, e37, e38, e39, e40, e41, e42, e43, e44, e45, e46]
  have n8191 : ∀ tb g, getT tb 0 = .ptr 0 0 0 → getT tb 4 = .ptr 32 1 0 → getT tb 5 = .ptr 40 x1 0 → getT tb 6 = I64 (k : Int) → getT tb 33 = .ptr 40 x1 1 → getT tb 34 = .arr 136 x3 → getT tb 35 = I64 (k : Int) → getT tb 36 = .ptr 136 x3 k → getT tb 37 = .row 136 x3 k → getT tb 38 = .ptr 0 0 0 → getT tb 39 = .ptr 40 x1 0 → getT tb 40 = .arr 88 x2 → getT tb 41 = I64 (u.length : Int) → getT tb 42 = I64 (y : Int) → getT tb 43 = .ptr 0 0 0 → getT tb 44 = .list 1 [.int .i64 0, .int .i64 1, .int .i64 (-1), .int .i64 6] → getT tb 45 = I64 z → exT C0 0 (inlW C0 [fm_copyTabS] [fw_pick, fw_one] 0 0) ro_168_8 Q ex_168_8_8191 ⟨tb, [⟨0, 0, .cells (RS b (p + 5))⟩, ⟨32, 1, .cells [.nil, .nil]⟩, ⟨40, x1, .cells [.arr 88 x2, .arr 136 x3]⟩, ⟨88, x2, .arr 1 (ints u)⟩, ⟨136, x3, .arr 1 (orowsD t)⟩], g⟩ := by
    intro tb g e0 e4 e5 e6 e33 e34 e35 e36 e37 e38 e39 e40 e41 e42 e43 e44 e45
    unfold ex_168_8_8191
    simp only [exT_alt, exT_one, exT_stop, and_true]
    rw [ro_168_8_13]
    simp [callDOW, l0, l1, rg4, hkt, hyr, orowsD_ge, rowAt, rowB, e0, e4, e5, e6, e33, e34, e35, e36, e37, e38, e39, e40, e41, e42, e43, e44, e45]
    refine n16383 _ _ ?_ ?_ ?_ ?_ ?_ ?_ ?_ ?_ ?_ ?_ ?_ ?_ ?_ ?_ ?_ ?_ ?_ ?_ <;> simp [getT, e0, e4, e5, e6, e33, e34, e35, e36, e37, e38, e39, e40, e41, e42, e43, e44, e45]
  have n8175 : ∀ tb g, getT tb 0 = .ptr 0 0 0 → getT tb 4 = .ptr 32 1 0 → getT tb 5 = .ptr 40 x1 0 → getT tb 6 = I64 (k : Int) → getT tb 33 = .ptr 40 x1 1 → getT tb 34 = .arr 136 x3 → getT tb 35 = I64 (k : Int) → getT tb 36 = .ptr 136 x3 k → getT tb 38 = .ptr 0 0 0 → getT tb 39 = .ptr 40 x1 0 → getT tb 40 = .arr 88 x2 → getT tb 41 = I64 (u.length : Int) → getT tb 42 = I64 (y : Int) → getT tb 43 = .ptr 0 0 0 → getT tb 44 = .list 1 [.int .i64 0, .int .i64 1, .int .i64 (-1), .int .i64 6] → getT tb 45 = I64 z → exT C0 0 (inlW C0 [fm_copyTabS] [fw_pick, fw_one] 0 0) ro_168_8 Q ex_168_8_8175 ⟨tb, [⟨0, 0, .cells (RS b (p + 5))⟩, ⟨32, 1, .cells [.nil, .nil]⟩, ⟨40, x1, .cells [.arr 88 x2, .arr 136 x3]⟩, ⟨88, x2, .arr 1 (ints u)⟩, ⟨136, x3, .arr 1 (orowsD t)⟩], g⟩ := by
    intro tb g e0 e4 e5 e6 e33 e34 e35 e36 e38 e39 e40 e41 e42 e43 e44 e45
    unfold ex_168_8_8175
    simp only [exT_alt, exT_one, exT_stop, and_true]
    rw [ro_168_8_4]
    simp [callDOW, l0, l1, rg4, hkt, hyr, orowsD_ge, rowAt, rowB, e0, e4, e5, e6, e33, e34, e35, e36, e38, e39, e40, e41, e42, e43, e44, e45]
    refine n8191 _ _ ?_ ?_ ?_ ?_ ?_ ?_ ?_ ?_ ?_ ?_ ?_ ?_ ?_ ?_ ?_ ?_ ?_ <;> simp [getT, e0, e4, e5, e6, e33, e34, e35, e36, e38, e39, e40, e41, e42, e43, e44, e45]
  have n8167 : ∀ tb g, getT tb 0 = .ptr 0 0 0 → getT tb 4 = .ptr 32 1 0 → getT tb 5 = .ptr 40 x1 0 → getT tb 6 = I64 (k : Int) → getT tb 33 = .ptr 40 x1 1 → getT tb 34 = .arr 136 x3 → getT tb 35 = I64 (k : Int) → getT tb 38 = .ptr 0 0 0 → getT tb 39 = .ptr 40 x1 0 → getT tb 40 = .arr 88 x2 → getT tb 41 = I64 (u.length : Int) → getT tb 42 = I64 (y : Int) → getT tb 43 = .ptr 0 0 0 → getT tb 44 = .list 1 [.int .i64 0, .int .i64 1, .int .i64 (-1), .int .i64 6] → getT tb 45 = I64 z → exT C0 0 (inlW C0 [fm_copyTabS] [fw_pick, fw_one] 0 0) ro_168_8 Q ex_168_8_8167 ⟨tb, [⟨0, 0, .cells (RS b (p + 5))⟩, ⟨32, 1, .cells [.nil, .nil]⟩, ⟨40, x1, .cells [.arr 88 x2, .arr 136 x3]⟩, ⟨88, x2, .arr 1 (ints u)⟩, ⟨136, x3, .arr 1 (orowsD t)⟩], g⟩ := by
    intro tb g e0 e4 e5 e6 e33 e34 e35 e38 e39 e40 e41 e42 e43 e44 e45
    unfold ex_168_8_8167
    simp only [exT_alt, exT_one, exT_stop, and_true]
    rw [ro_168_8_3]
    simp [callDOW, l0, l1, rg4, hkt, hyr, orowsD_ge, rowAt, rowB, e0, e4, e5, e6, e33, e34, e35, e38, e39, e40, e41, e42, e43, e44, e45]
    refine n8175 _ _ ?_ ?_ ?_ ?_ ?_ ?_ ?_ ?_ ?_ ?_ ?_ ?_ ?_ ?_ ?_ ?_ <;> simp [getT, e0, e4, e5, e6, e33, e34, e35, e38, e39, e40, e41, e42, e43, e44, e45]
  have n8165 : ∀ tb g, getT tb 0 = .ptr 0 0 0 → getT tb 4 = .ptr 32 1 0 → getT tb 5 = .ptr 40 x1 0 → getT tb 6 = I64 (k : Int) → getT tb 33 = .ptr 40 x1 1 → getT tb 35 = I64 (k : Int) → getT tb 38 = .ptr 0 0 0 → getT tb 39 = .ptr 40 x1 0 → getT tb 40 = .arr 88 x2 → getT tb 41 = I64 (u.length : Int) → getT tb 42 = I64 (y : Int) → getT tb 43 = .ptr 0 0 0 → getT tb 44 = .list 1 [.int .i64 0, .int .i64 1, .int .i64 (-1), .int .i64 6] → getT tb 45 = I64 z → exT C0 0 (inlW C0 [fm_copyTabS] [fw_pick, fw_one] 0 0) ro_168_8 Q ex_168_8_8165 ⟨tb, [⟨0, 0, .cells (RS b (p + 5))⟩, ⟨32, 1, .cells [.nil, .nil]⟩, ⟨40, x1, .cells [.arr 88 x2, .arr 136 x3]⟩, ⟨88, x2, .arr 1 (ints u)⟩, ⟨136, x3, .arr 1 (orowsD t)⟩], g⟩ := by
    intro tb g e0 e4 e5 e6 e33 e35 e38 e39 e40 e41 e42 e43 e44 e45
    unfold ex_168_8_8165
    simp only [exT_alt, exT_one, exT_stop, and_true]
    rw [ro_168_8_1]
    simp [callDOW, l0, l1, rg4, hkt, hyr, orowsD_ge, rowAt, rowB, e0, e4, e5, e6, e33, e35, e38, e39, e40, e41, e42, e43, e44, e45]
    refine n8167 _ _ ?_ ?_ ?_ ?_ ?_ ?_ ?_ ?_ ?_ ?_ ?_ ?_ ?_ ?_ ?_ <;> simp [getT, e0, e4, e5, e6, e33, e35, e38, e39, e40, e41, e42, e43, e44, e45]
  have n8164 : ∀ tb g, getT tb 0 = .ptr 0 0 0 → getT tb 4 = .ptr 32 1 0 → getT tb 5 = .ptr 40 x1 0 → getT tb 6 = I64 (k : Int) → getT tb 35 = I64 (k : Int) → getT tb 38 = .ptr 0 0 0 → getT tb 39 = .ptr 40 x1 0 → getT tb 40 = .arr 88 x2 → getT tb 41 = I64 (u.length : Int) → getT tb 42 = I64 (y : Int) → getT tb 43 = .ptr 0 0 0 → getT tb 44 = .list 1 [.int .i64 0, .int .i64 1, .int .i64 (-1), .int .i64 6] → getT tb 45 = I64 z → exT C0 0 (inlW C0 [fm_copyTabS] [fw_pick, fw_one] 0 0) ro_168_8 Q ex_168_8_8164 ⟨tb, [⟨0, 0, .cells (RS b (p + 5))⟩, ⟨32, 1, .cells [.nil, .nil]⟩, ⟨40, x1, .cells [.arr 88 x2, .arr 136 x3]⟩, ⟨88, x2, .arr 1 (ints u)⟩, ⟨136, x3, .arr 1 (orowsD t)⟩], g⟩ := by
    intro tb g e0 e4 e5 e6 e35 e38 e39 e40 e41 e42 e43 e44 e45
    unfold ex_168_8_8164
    simp only [exT_alt, exT_one, exT_stop, and_true]
    rw [ro_168_8_0]
    simp [callDOW, l0, l1, rg4, hkt, hyr, orowsD_ge, rowAt, rowB, e0, e4, e5, e6, e35, e38, e39, e40, e41, e42, e43, e44, e45]
    refine n8165 _ _ ?_ ?_ ?_ ?_ ?_ ?_ ?_ ?_ ?_ ?_ ?_ ?_ ?_ ?_ <;> simp [getT, e0, e4, e5, e6, e35, e38, e39, e40, e41, e42, e43, e44, e45]
  have n4095 : ∀ tb g, getT tb 0 = .ptr 0 0 0 → getT tb 4 = .ptr 32 1 0 → getT tb 5 = .ptr 40 x1 0 → getT tb 6 = I64 (k : Int) → getT tb 33 = .ptr 40 x1 1 → getT tb 34 = .arr 136 x3 → getT tb 35 = I64 (k : Int) → getT tb 36 = .ptr 136 x3 k → getT tb 37 = .row 136 x3 k → getT tb 38 = .ptr 0 0 0 → getT tb 39 = .ptr 40 x1 0 → getT tb 40 = .arr 88 x2 → getT tb 41 = I64 (u.length : Int) → getT tb 42 = I64 (y : Int) → getT tb 43 = .ptr 0 0 0 → getT tb 44 = .list 1 [.int .i64 0, .int .i64 1, .int .i64 (-1), .int .i64 6] → exT C0 0 (inlW C0 [fm_copyTabS] [fw_pick, fw_one] 0 0) ro_168_8 Q ex_168_8_4095 ⟨tb, [⟨0, 0, .cells (RS b (p + 4))⟩, ⟨32, 1, .cells [.nil, .nil]⟩, ⟨40, x1, .cells [.arr 88 x2, .arr 136 x3]⟩, ⟨88, x2, .arr 1 (ints u)⟩, ⟨136, x3, .arr 1 (orowsD t)⟩], g⟩ := by
    intro tb g e0 e4 e5 e6 e33 e34 e35 e36 e37 e38 e39 e40 e41 e42 e43 e44
    unfold ex_168_8_4095
    simp only [exT_alt, exT_one, exT_stop, and_true]
    rw [ro_168_8_12]
    simp [callDOW, l0, l1, rg4, hkt, hyr, orowsD_ge, rowAt, rowB, e0, e4, e5, e6, e33, e34, e35, e36, e37, e38, e39, e40, e41, e42, e43, e44]
    refine n8191 _ _ ?_ ?_ ?_ ?_ ?_ ?_ ?_ ?_ ?_ ?_ ?_ ?_ ?_ ?_ ?_ ?_ ?_ <;> simp [getT, e0, e4, e5, e6, e33, e34, e35, e36, e37, e38, e39, e40, e41, e42, e43, e44]
  have n4079 : ∀ tb g, getT tb 0 = .ptr 0 0 0 → getT tb 4 = .ptr 32 1 0 → getT tb 5 = .ptr 40 x1 0 → getT tb 6 = I64 (k : Int) → getT tb 33 = .ptr 40 x1 1 → getT tb 34 = .arr 136 x3 → getT tb 35 = I64 (k : Int) → getT tb 36 = .ptr 136 x3 k → getT tb 38 = .ptr 0 0 0 → getT tb 39 = .ptr 40 x1 0 → getT tb 40 = .arr 88 x2 → getT tb 41 = I64 (u.length : Int) → getT tb 42 = I64 (y : Int) → getT tb 43 = .ptr 0 0 0 → getT tb 44 = .list 1 [.int .i64 0, .int .i64 1, .int .i64 (-1), .int .i64 6] → exT C0 0 (inlW C0 [fm_copyTabS] [fw_pick, fw_one] 0 0) ro_168_8 Q ex_168_8_4079 ⟨tb, [⟨0, 0, .cells (RS b (p + 4))⟩, ⟨32, 1, .cells [.nil, .nil]⟩, ⟨40, x1, .cells [.arr 88 x2, .arr 136 x3]⟩, ⟨88, x2, .arr 1 (ints u)⟩, ⟨136, x3, .arr 1 (orowsD t)⟩], g⟩ := by
    intro tb g e0 e4 e5 e6 e33 e34 e35 e36 e38 e39 e40 e41 e42 e43 e44
    unfold ex_168_8_4079
    simp only [exT_alt, exT_one, exT_stop, and_true]
    refine ⟨?_, ?_⟩
    · rw [ro_168_8_4]
      simp [callDOW, l0, l1, rg4, hkt, hyr, orowsD_ge, rowAt, rowB, e0, e4, e5, e6, e33, e34, e35, e36, e38, e39, e40, e41, e42, e43, e44]
      refine n4095 _ _ ?_ ?_ ?_ ?_ ?_ ?_ ?_ ?_ ?_ ?_ ?_ ?_ ?_ ?_ ?_ ?_ <;> simp [getT, e0, e4, e5, e6, e33, e34, e35, e36, e38, e39, e40, e41, e42, e43, e44]
    · rw [ro_168_8_12]
      simp [callDOW, l0, l1, rg4, hkt, hyr, orowsD_ge, rowAt, rowB, e0, e4, e5, e6, e33, e34, e35, e36, e38, e39, e40, e41, e42, e43, e44]
      refine n8175 _ _ ?_ ?_ ?_ ?_ ?_ ?_ ?_ ?_ ?_ ?_ ?_ ?_ ?_ ?_ ?_ ?_ <;> simp [getT, e0, e4, e5, e6, e33, e34, e35, e36, e38, e39, e40, e41, e42, e43, e44]
  have n4071 : ∀ tb g, getT tb 0 = .ptr 0 0 0 → getT tb 4 = .ptr 32 1 0 → getT tb 5 = .ptr 40 x1 0 → getT tb 6 = I64 (k : Int) → getT tb 33 = .ptr 40 x1 1 → getT tb 34 = .arr 136 x3 → getT tb 35 = I64 (k : Int) → getT tb 38 = .ptr 0 0 0 → getT tb 39 = .ptr 40 x1 0 → getT tb 40 = .arr 88 x2 → getT tb 41 = I64 (u.length : Int) → getT tb 42 = I64 (y : Int) → getT tb 43 = .ptr 0 0 0 → getT tb 44 = .list 1 [.int .i64 0, .int .i64 1, .int .i64 (-1), .int .i64 6] → exT C0 0 (inlW C0 [fm_copyTabS] [fw_pick, fw_one] 0 0) ro_168_8 Q ex_168_8_4071 ⟨tb, [⟨0, 0, .cells (RS b (p + 4))⟩, ⟨32, 1, .cells [.nil, .nil]⟩, ⟨40, x1, .cells [.arr 88 x2, .arr 136 x3]⟩, ⟨88, x2, .arr 1 (ints u)⟩, ⟨136, x3, .arr 1 (orowsD t)⟩], g⟩ := by
    intro tb g e0 e4 e5 e6 e33 e34 e35 e38 e39 e40 e41 e42 e43 e44
    unfold ex_168_8_4071
    simp only [exT_alt, exT_one, exT_stop, and_true]
    refine ⟨?_, ?_⟩
    · rw [ro_168_8_3]
      simp [callDOW, l0, l1, rg4, hkt, hyr, orowsD_ge, rowAt, rowB, e0, e4, e5, e6, e33, e34, e35, e38, e39, e40, e41, e42, e43, e44]
      refine n4079 _ _ ?_ ?_ ?_ ?_ ?_ ?_ ?_ ?_ ?_ ?_ ?_ ?_ ?_ ?_ ?_ <;> simp [getT, e0, e4, e5, e6, e33, e34, e35, e38, e39, e40, e41, e42, e43, e44]
    · rw [ro_168_8_12]
      simp [callDOW, l0, l1, rg4, hkt, hyr, orowsD_ge, rowAt, rowB, e0, e4, e5, e6, e33, e34, e35, e38, e39, e40, e41, e42, e43, e44]
      refine n8167 _ _ ?_ ?_ ?_ ?_ ?_ ?_ ?_ ?_ ?_ ?_ ?_ ?_ ?_ ?_ ?_ <;> simp [getT, e0, e4, e5, e6, e33, e34, e35, e38, e39, e40, e41, e42, e43, e44]
  have n4069 : ∀ tb g, getT tb 0 = .ptr 0 0 0 → getT tb 4 = .ptr 32 1 0 → getT tb 5 = .ptr 40 x1 0 → getT tb 6 = I64 (k : Int) → getT tb 33 = .ptr 40 x1 1 → getT tb 35 = I64 (k : Int) → getT tb 38 = .ptr 0 0 0 → getT tb 39 = .ptr 40 x1 0 → getT tb 40 = .arr 88 x2 → getT tb 41 = I64 (u.length : Int) → getT tb 42 = I64 (y : Int) → getT tb 43 = .ptr 0 0 0 → getT tb 44 = .list 1 [.int .i64 0, .int .i64 1, .int .i64 (-1), .int .i64 6] → exT C0 0 (inlW C0 [fm_copyTabS] [fw_pick, fw_one] 0 0) ro_168_8 Q ex_168_8_4069 ⟨tb, [⟨0, 0, .cells (RS b (p + 4))⟩, ⟨32, 1, .cells [.nil, .nil]⟩, ⟨40, x1, .cells [.arr 88 x2, .arr 136 x3]⟩, ⟨88, x2, .arr 1 (ints u)⟩, ⟨136, x3, .arr 1 (orowsD t)⟩], g⟩ := by
    intro tb g e0 e4 e5 e6 e33 e35 e38 e39 e40 e41 e42 e43 e44
    unfold ex_168_8_4069
    simp only [exT_alt, exT_one, exT_stop, and_true]
    refine ⟨?_, ?_⟩
    · rw [ro_168_8_1]
      simp [callDOW, l0, l1, rg4, hkt, hyr, orowsD_ge, rowAt, rowB, e0, e4, e5, e6, e33, e35, e38, e39, e40, e41, e42, e43, e44]
      refine n4071 _ _ ?_ ?_ ?_ ?_ ?_ ?_ ?_ ?_ ?_ ?_ ?_ ?_ ?_ ?_ <;> simp [getT, e0, e4, e5, e6, e33, e35, e38, e39, e40, e41, e42, e43, e44]
    · rw [ro_168_8_12]
      simp [callDOW, l0, l1, rg4, hkt, hyr, orowsD_ge, rowAt, rowB, e0, e4, e5, e6, e33, e35, e38, e39, e40, e41, e42, e43, e44]
      refine n8165 _ _ ?_ ?_ ?_ ?_ ?_ ?_ ?_ ?_ ?_ ?_ ?_ ?_ ?_ ?_ <;> simp [getT, e0, e4, e5, e6, e33, e35, e38, e39, e40, e41, e42, e43, e44]
  have n4068 : ∀ tb g, getT tb 0 = .ptr 0 0 0 → getT tb 4 = .ptr 32 1 0 → getT tb 5 = .ptr 40 x1 0 → getT tb 6 = I64 (k : Int) → getT tb 35 = I64 (k : Int) → getT tb 38 = .ptr 0 0 0 → getT tb 39 = .ptr 40 x1 0 → getT tb 40 = .arr 88 x2 → getT tb 41 = I64 (u.length : Int) → getT tb 42 = I64 (y : Int) → getT tb 43 = .ptr 0 0 0 → getT tb 44 = .list 1 [.int .i64 0, .int .i64 1, .int .i64 (-1), .int .i64 6] → exT C0 0 (inlW C0 [fm_copyTabS] [fw_pick, fw_one] 0 0) ro_168_8 Q ex_168_8_4068 ⟨tb, [⟨0, 0, .cells (RS b (p + 4))⟩, ⟨32, 1, .cells [.nil, .nil]⟩, ⟨40, x1, .cells [.arr 88 x2, .arr 136 x3]⟩, ⟨88, x2, .arr 1 (ints u)⟩, ⟨136, x3, .arr 1 (orowsD t)⟩], g⟩ := by
    intro tb g e0 e4 e5 e6 e35 e38 e39 e40 e41 e42 e43 e44
    unfold ex_168_8_4068
    simp only [exT_alt, exT_one, exT_stop, and_true]
    refine ⟨?_, ?_⟩
    · rw [ro_168_8_0]
      simp [callDOW, l0, l1, rg4, hkt, hyr, orowsD_ge, rowAt, rowB, e0, e4, e5, e6, e35, e38, e39, e40, e41, e42, e43, e44]
      refine n4069 _ _ ?_ ?_ ?_ ?_ ?_ ?_ ?_ ?_ ?_ ?_ ?_ ?_ ?_ <;> simp [getT, e0, e4, e5, e6, e35, e38, e39, e40, e41, e42, e43, e44]
    · rw [ro_168_8_12]
      simp [callDOW, l0, l1, rg4, hkt, hyr, orowsD_ge, rowAt, rowB, e0, e4, e5, e6, e35, e38, e39, e40, e41, e42, e43, e44]
      refine n8164 _ _ ?_ ?_ ?_ ?_ ?_ ?_ ?_ ?_ ?_ ?_ ?_ ?_ ?_ <;> simp [getT, e0, e4, e5, e6, e35, e38, e39, e40, e41, e42, e43, e44]
  have n3583 : ∀ tb g, getT tb 0 = .ptr 0 0 0 → getT tb 4 = .ptr 32 1 0 → getT tb 5 = .ptr 40 x1 0 → getT tb 6 = I64 (k : Int) → getT tb 33 = .ptr 40 x1 1 → getT tb 34 = .arr 136 x3 → getT tb 35 = I64 (k : Int) → getT tb 36 = .ptr 136 x3 k → getT tb 37 = .row 136 x3 k → getT tb 38 = .ptr 0 0 0 → getT tb 39 = .ptr 40 x1 0 → getT tb 40 = .arr 88 x2 → getT tb 41 = I64 (u.length : Int) → getT tb 43 = .ptr 0 0 0 → getT tb 44 = .list 1 [.int .i64 0, .int .i64 1, .int .i64 (-1), .int .i64 6] → exT C0 0 (inlW C0 [fm_copyTabS] [fw_pick, fw_one] 0 0) ro_168_8 Q ex_168_8_3583 ⟨tb, [⟨0, 0, .cells (RS b (p + 3))⟩, ⟨32, 1, .cells [.nil, .nil]⟩, ⟨40, x1, .cells [.arr 88 x2, .arr 136 x3]⟩, ⟨88, x2, .arr 1 (ints u)⟩, ⟨136, x3, .arr 1 (orowsD t)⟩], g⟩ := by
    intro tb g e0 e4 e5 e6 e33 e34 e35 e36 e37 e38 e39 e40 e41 e43 e44
    unfold ex_168_8_3583
    simp only [exT_alt, exT_one, exT_stop, and_true]
    rw [ro_168_8_9]
    simp [callDOW, l0, l1, rg4, hkt, hyr, orowsD_ge, rowAt, rowB, e0, e4, e5, e6, e33, e34, e35, e36, e37, e38, e39, e40, e41, e43, e44]
    refine n4095 _ _ ?_ ?_ ?_ ?_ ?_ ?_ ?_ ?_ ?_ ?_ ?_ ?_ ?_ ?_ ?_ ?_ <;> simp [getT, e0, e4, e5, e6, e33, e34, e35, e36, e37, e38, e39, e40, e41, e43, e44]
  have n3567 : ∀ tb g, getT tb 0 = .ptr 0 0 0 → getT tb 4 = .ptr 32 1 0 → getT tb 5 = .ptr 40 x1 0 → getT tb 6 = I64 (k : Int) → getT tb 33 = .ptr 40 x1 1 → getT tb 34 = .arr 136 x3 → getT tb 35 = I64 (k : Int) → getT tb 36 = .ptr 136 x3 k → getT tb 38 = .ptr 0 0 0 → getT tb 39 = .ptr 40 x1 0 → getT tb 40 = .arr 88 x2 → getT tb 41 = I64 (u.length : Int) → getT tb 43 = .ptr 0 0 0 → getT tb 44 = .list 1 [.int .i64 0, .int .i64 1, .int .i64 (-1), .int .i64 6] → exT C0 0 (inlW C0 [fm_copyTabS] [fw_pick, fw_one] 0 0) ro_168_8 Q ex_168_8_3567 ⟨tb, [⟨0, 0, .cells (RS b (p + 3))⟩, ⟨32, 1, .cells [.nil, .nil]⟩, ⟨40, x1, .cells [.arr 88 x2, .arr 136 x3]⟩, ⟨88, x2, .arr 1 (ints u)⟩, ⟨136, x3, .arr 1 (orowsD t)⟩], g⟩ := by
    intro tb g e0 e4 e5 e6 e33 e34 e35 e36 e38 e39 e40 e41 e43 e44
    unfold ex_168_8_3567
    simp only [exT_alt, exT_one, exT_stop, and_true]
    refine ⟨?_, ?_⟩
    · rw [ro_168_8_4]
      simp [callDOW, l0, l1, rg4, hkt, hyr, orowsD_ge, rowAt, rowB, e0, e4, e5, e6, e33, e34, e35, e36, e38, e39, e40, e41, e43, e44]
      refine n3583 _ _ ?_ ?_ ?_ ?_ ?_ ?_ ?_ ?_ ?_ ?_ ?_ ?_ ?_ ?_ ?_ <;> simp [getT, e0, e4, e5, e6, e33, e34, e35, e36, e38, e39, e40, e41, e43, e44]
    · rw [ro_168_8_9]
      simp [callDOW, l0, l1, rg4, hkt, hyr, orowsD_ge, rowAt, rowB, e0, e4, e5, e6, e33, e34, e35, e36, e38, e39, e40, e41, e43, e44]
      refine n4079 _ _ ?_ ?_ ?_ ?_ ?_ ?_ ?_ ?_ ?_ ?_ ?_ ?_ ?_ ?_ ?_ <;> simp [getT, e0, e4, e5, e6, e33, e34, e35, e36, e38, e39, e40, e41, e43, e44]
  have n3559 : ∀ tb g, getT tb 0 = .ptr 0 0 0 → getT tb 4 = .ptr 32 1 0 → getT tb 5 = .ptr 40 x1 0 → getT tb 6 = I64 (k : Int) → getT tb 33 = .ptr 40 x1 1 → getT tb 34 = .arr 136 x3 → getT tb 35 = I64 (k : Int) → getT tb 38 = .ptr 0 0 0 → getT tb 39 = .ptr 40 x1 0 → getT tb 40 = .arr 88 x2 → getT tb 41 = I64 (u.length : Int) → getT tb 43 = .ptr 0 0 0 → getT tb 44 = .list 1 [.int .i64 0, .int .i64 1, .int .i64 (-1), .int .i64 6] → exT C0 0 (inlW C0 [fm_copyTabS] [fw_pick, fw_one] 0 0) ro_168_8 Q ex_168_8_3559 ⟨tb, [⟨0, 0, .cells (RS b (p + 3))⟩, ⟨32, 1, .cells [.nil, .nil]⟩, ⟨40, x1, .cells [.arr 88 x2, .arr 136 x3]⟩, ⟨88, x2, .arr 1 (ints u)⟩, ⟨136, x3, .arr 1 (orowsD t)⟩], g⟩ := by
    intro tb g e0 e4 e5 e6 e33 e34 e35 e38 e39 e40 e41 e43 e44
    unfold ex_168_8_3559
    simp only [exT_alt, exT_one, exT_stop, and_true]
    refine ⟨?_, ?_⟩
    · rw [ro_168_8_3]
      simp [callDOW, l0, l1, rg4, hkt, hyr, orowsD_ge, rowAt, rowB, e0, e4, e5, e6, e33, e34, e35, e38, e39, e40, e41, e43, e44]
      refine n3567 _ _ ?_ ?_ ?_ ?_ ?_ ?_ ?_ ?_ ?_ ?_ ?_ ?_ ?_ ?_ <;> simp [getT, e0, e4, e5, e6, e33, e34, e35, e38, e39, e40, e41, e43, e44]
    · rw [ro_168_8_9]
      simp [callDOW, l0, l1, rg4, hkt, hyr, orowsD_ge, rowAt, rowB, e0, e4, e5, e6, e33, e34, e35, e38, e39, e40, e41, e43, e44]
      refine n4071 _ _ ?_ ?_ ?_ ?_ ?_ ?_ ?_ ?_ ?_ ?_ ?_ ?_ ?_ ?_ <;> simp [getT, e0, e4, e5, e6, e33, e34, e35, e38, e39, e40, e41, e43, e44]
  have n3557 : ∀ tb g, getT tb 0 = .ptr 0 0 0 → getT tb 4 = .ptr 32 1 0 → getT tb 5 = .ptr 40 x1 0 → getT tb 6 = I64 (k : Int) → getT tb 33 = .ptr 40 x1 1 → getT tb 35 = I64 (k : Int) → getT tb 38 = .ptr 0 0 0 → getT tb 39 = .ptr 40 x1 0 → getT tb 40 = .arr 88 x2 → getT tb 41 = I64 (u.length : Int) → getT tb 43 = .ptr 0 0 0 → getT tb 44 = .list 1 [.int .i64 0, .int .i64 1, .int .i64 (-1), .int .i64 6] → exT C0 0 (inlW C0 [fm_copyTabS] [fw_pick, fw_one] 0 0) ro_168_8 Q ex_168_8_3557 ⟨tb, [⟨0, 0, .cells (RS b (p + 3))⟩, ⟨32, 1, .cells [.nil, .nil]⟩, ⟨40, x1, .cells [.arr 88 x2, .arr 136 x3]⟩, ⟨88, x2, .arr 1 (ints u)⟩, ⟨136, x3, .arr 1 (orowsD t)⟩], g⟩ := by
    intro tb g e0 e4 e5 e6 e33 e35 e38 e39 e40 e41 e43 e44
    unfold ex_168_8_3557
    simp only [exT_alt, exT_one, exT_stop, and_true]
    refine ⟨?_, ?_⟩
    · rw [ro_168_8_1]
      simp [callDOW, l0, l1, rg4, hkt, hyr, orowsD_ge, rowAt, rowB, e0, e4, e5, e6, e33, e35, e38, e39, e40, e41, e43, e44]
      refine n3559 _ _ ?_ ?_ ?_ ?_ ?_ ?_ ?_ ?_ ?_ ?_ ?_ ?_ ?_ <;> simp [getT, e0, e4, e5, e6, e33, e35, e38, e39, e40, e41, e43, e44]
    · rw [ro_168_8_9]
      simp [callDOW, l0, l1, rg4, hkt, hyr, orowsD_ge, rowAt, rowB, e0, e4, e5, e6, e33, e35, e38, e39, e40, e41, e43, e44]
      refine n4069 _ _ ?_ ?_ ?_ ?_ ?_ ?_ ?_ ?_ ?_ ?_ ?_ ?_ ?_ <;> simp [getT, e0, e4, e5, e6, e33, e35, e38, e39, e40, e41, e43, e44]
  have n3556 : ∀ tb g, getT tb 0 = .ptr 0 0 0 → getT tb 4 = .ptr 32 1 0 → getT tb 5 = .ptr 40 x1 0 → getT tb 6 = I64 (k : Int) → getT tb 35 = I64 (k : Int) → getT tb 38 = .ptr 0 0 0 → getT tb 39 = .ptr 40 x1 0 → getT tb 40 = .arr 88 x2 → getT tb 41 = I64 (u.length : Int) → getT tb 43 = .ptr 0 0 0 → getT tb 44 = .list 1 [.int .i64 0, .int .i64 1, .int .i64 (-1), .int .i64 6] → exT C0 0 (inlW C0 [fm_copyTabS] [fw_pick, fw_one] 0 0) ro_168_8 Q ex_168_8_3556 ⟨tb, [⟨0, 0, .cells (RS b (p + 3))⟩, ⟨32, 1, .cells [.nil, .nil]⟩, ⟨40, x1, .cells [.arr 88 x2, .arr 136 x3]⟩, ⟨88, x2, .arr 1 (ints u)⟩, ⟨136, x3, .arr 1 (orowsD t)⟩], g⟩ := by
    intro tb g e0 e4 e5 e6 e35 e38 e39 e40 e41 e43 e44
    unfold ex_168_8_3556
    simp only [exT_alt, exT_one, exT_stop, and_true]
    refine ⟨?_, ?_⟩
    · rw [ro_168_8_0]
      simp [callDOW, l0, l1, rg4, hkt, hyr, orowsD_ge, rowAt, rowB, e0, e4, e5, e6, e35, e38, e39, e40, e41, e43, e44]
      refine n3557 _ _ ?_ ?_ ?_ ?_ ?_ ?_ ?_ ?_ ?_ ?_ ?_ ?_ <;> simp [getT, e0, e4, e5, e6, e35, e38, e39, e40, e41, e43, e44]
    · rw [ro_168_8_9]
      simp [callDOW, l0, l1, rg4, hkt, hyr, orowsD_ge, rowAt, rowB, e0, e4, e5, e6, e35, e38, e39, e40, e41, e43, e44]
      refine n4068 _ _ ?_ ?_ ?_ ?_ ?_ ?_ ?_ ?_ ?_ ?_ ?_ ?_ <;> simp [getT, e0, e4, e5, e6, e35, e38, e39, e40, e41, e43, e44]
  have n3327 : ∀ tb g, getT tb 0 = .ptr 0 0 0 → getT tb 4 = .ptr 32 1 0 → getT tb 5 = .ptr 40 x1 0 → getT tb 6 = I64 (k : Int) → getT tb 33 = .ptr 40 x1 1 → getT tb 34 = .arr 136 x3 → getT tb 35 = I64 (k : Int) → getT tb 36 = .ptr 136 x3 k → getT tb 37 = .row 136 x3 k → getT tb 38 = .ptr 0 0 0 → getT tb 39 = .ptr 40 x1 0 → getT tb 40 = .arr 88 x2 → getT tb 43 = .ptr 0 0 0 → getT tb 44 = .list 1 [.int .i64 0, .int .i64 1, .int .i64 (-1), .int .i64 6] → exT C0 0 (inlW C0 [fm_copyTabS] [fw_pick, fw_one] 0 0) ro_168_8 Q ex_168_8_3327 ⟨tb, [⟨0, 0, .cells (RS b (p + 3))⟩, ⟨32, 1, .cells [.nil, .nil]⟩, ⟨40, x1, .cells [.arr 88 x2, .arr 136 x3]⟩, ⟨88, x2, .arr 1 (ints u)⟩, ⟨136, x3, .arr 1 (orowsD t)⟩], g⟩ := by
    intro tb g e0 e4 e5 e6 e33 e34 e35 e36 e37 e38 e39 e40 e43 e44
    unfold ex_168_8_3327
    simp only [exT_alt, exT_one, exT_stop, and_true]
    rw [ro_168_8_8]
    simp [callDOW, l0, l1, rg4, hkt, hyr, orowsD_ge, rowAt, rowB, e0, e4, e5, e6, e33, e34, e35, e36, e37, e38, e39, e40, e43, e44]
    refine n3583 _ _ ?_ ?_ ?_ ?_ ?_ ?_ ?_ ?_ ?_ ?_ ?_ ?_ ?_ ?_ ?_ <;> simp [getT, e0, e4, e5, e6, e33, e34, e35, e36, e37, e38, e39, e40, e43, e44]
  have n3311 : ∀ tb g, getT tb 0 = .ptr 0 0 0 → getT tb 4 = .ptr 32 1 0 → getT tb 5 = .ptr 40 x1 0 → getT tb 6 = I64 (k : Int) → getT tb 33 = .ptr 40 x1 1 → getT tb 34 = .arr 136 x3 → getT tb 35 = I64 (k : Int) → getT tb 36 = .ptr 136 x3 k → getT tb 38 = .ptr 0 0 0 → getT tb 39 = .ptr 40 x1 0 → getT tb 40 = .arr 88 x2 → getT tb 43 = .ptr 0 0 0 → getT tb 44 = .list 1 [.int .i64 0, .int .i64 1, .int .i64 (-1), .int .i64 6] → exT C0 0 (inlW C0 [fm_copyTabS] [fw_pick, fw_one] 0 0) ro_168_8 Q ex_168_8_3311 ⟨tb, [⟨0, 0, .cells (RS b (p + 3))⟩, ⟨32, 1, .cells [.nil, .nil]⟩, ⟨40, x1, .cells [.arr 88 x2, .arr 136 x3]⟩, ⟨88, x2, .arr 1 (ints u)⟩, ⟨136, x3, .arr 1 (orowsD t)⟩], g⟩ := by
    intro tb g e0 e4 e5 e6 e33 e34 e35 e36 e38 e39 e40 e43 e44
    unfold ex_168_8_3311
    simp only [exT_alt, exT_one, exT_stop, and_true]
    refine ⟨?_, ?_⟩
    · rw [ro_168_8_4]
      simp [callDOW, l0, l1, rg4, hkt, hyr, orowsD_ge, rowAt, rowB, e0, e4, e5, e6, e33, e34, e35, e36, e38, e39, e40, e43, e44]
      refine n3327 _ _ ?_ ?_ ?_ ?_ ?_ ?_ ?_ ?_ ?_ ?_ ?_ ?_ ?_ ?_ <;> simp [getT, e0, e4, e5, e6, e33, e34, e35, e36, e38, e39, e40, e43, e44]
    · rw [ro_168_8_8]
      simp [callDOW, l0, l1, rg4, hkt, hyr, orowsD_ge, rowAt, rowB, e0, e4, e5, e6, e33, e34, e35, e36, e38, e39, e40, e43, e44]
      refine n3567 _ _ ?_ ?_ ?_ ?_ ?_ ?_ ?_ ?_ ?_ ?_ ?_ ?_ ?_ ?_ <;> simp [getT, e0, e4, e5, e6, e33, e34, e35, e36, e38, e39, e40, e43, e44]
  have n3303 : ∀ tb g, getT tb 0 = .ptr 0 0 0 → getT tb 4 = .ptr 32 1 0 → getT tb 5 = .ptr 40 x1 0 → getT tb 6 = I64 (k : Int) → getT tb 33 = .ptr 40 x1 1 → getT tb 34 = .arr 136 x3 → getT tb 35 = I64 (k : Int) → getT tb 38 = .ptr 0 0 0 → getT tb 39 = .ptr 40 x1 0 → getT tb 40 = .arr 88 x2 → getT tb 43 = .ptr 0 0 0 → getT tb 44 = .list 1 [.int .i64 0, .int .i64 1, .int .i64 (-1), .int .i64 6] → exT C0 0 (inlW C0 [fm_copyTabS] [fw_pick, fw_one] 0 0) ro_168_8 Q ex_168_8_3303 ⟨tb, [⟨0, 0, .cells (RS b (p + 3))⟩, ⟨32, 1, .cells [.nil, .nil]⟩, ⟨40, x1, .cells [.arr 88 x2, .arr 136 x3]⟩, ⟨88, x2, .arr 1 (ints u)⟩, ⟨136, x3, .arr 1 (orowsD t)⟩], g⟩ := by
    intro tb g e0 e4 e5 e6 e33 e34 e35 e38 e39 e40 e43 e44
    unfold ex_168_8_3303
    simp only [exT_alt, exT_one, exT_stop, and_true]
    refine ⟨?_, ?_⟩
    · rw [ro_168_8_3]
      simp [callDOW, l0, l1, rg4, hkt, hyr, orowsD_ge, rowAt, rowB, e0, e4, e5, e6, e33, e34, e35, e38, e39, e40, e43, e44]
      refine n3311 _ _ ?_ ?_ ?_ ?_ ?_ ?_ ?_ ?_ ?_ ?_ ?_ ?_ ?_ <;> simp [getT, e0, e4, e5, e6, e33, e34, e35, e38, e39, e40, e43, e44]
    · rw [ro_168_8_8]
      simp [callDOW, l0, l1, rg4, hkt, hyr, orowsD_ge, rowAt, rowB, e0, e4, e5, e6, e33, e34, e35, e38, e39, e40, e43, e44]
      refine n3559 _ _ ?_ ?_ ?_ ?_ ?_ ?_ ?_ ?_ ?_ ?_ ?_ ?_ ?_ <;> simp [getT, e0, e4, e5, e6, e33, e34, e35, e38, e39, e40, e43, e44]
  have n3301 : ∀ tb g, getT tb 0 = .ptr 0 0 0 → getT tb 4 = .ptr 32 1 0 → getT tb 5 = .ptr 40 x1 0 → getT tb 6 = I64 (k : Int) → getT tb 33 = .ptr 40 x1 1 → getT tb 35 = I64 (k : Int) → getT tb 38 = .ptr 0 0 0 → getT tb 39 = .ptr 40 x1 0 → getT tb 40 = .arr 88 x2 → getT tb 43 = .ptr 0 0 0 → getT tb 44 = .list 1 [.int .i64 0, .int .i64 1, .int .i64 (-1), .int .i64 6] → exT C0 0 (inlW C0 [fm_copyTabS] [fw_pick, fw_one] 0 0) ro_168_8 Q ex_168_8_3301 ⟨tb, [⟨0, 0, .cells (RS b (p + 3))⟩, ⟨32, 1, .cells [.nil, .nil]⟩, ⟨40, x1, .cells [.arr 88 x2, .arr 136 x3]⟩, ⟨88, x2, .arr 1 (ints u)⟩, ⟨136, x3, .arr 1 (orowsD t)⟩], g⟩ := by
    intro tb g e0 e4 e5 e6 e33 e35 e38 e39 e40 e43 e44
    unfold ex_168_8_3301
    simp only [exT_alt, exT_one, exT_stop, and_true]
    refine ⟨?_, ?_⟩
    · rw [ro_168_8_1]
      simp [callDOW, l0, l1, rg4, hkt, hyr, orowsD_ge, rowAt, rowB, e0, e4, e5, e6, e33, e35, e38, e39, e40, e43, e44]
      refine n3303 _ _ ?_ ?_ ?_ ?_ ?_ ?_ ?_ ?_ ?_ ?_ ?_ ?_ <;> simp [getT, e0, e4, e5, e6, e33, e35, e38, e39, e40, e43, e44]
    · rw [ro_168_8_8]
      simp [callDOW, l0, l1, rg4, hkt, hyr, orowsD_ge, rowAt, rowB, e0, e4, e5, e6, e33, e35, e38, e39, e40, e43, e44]
      refine n3557 _ _ ?_ ?_ ?_ ?_ ?_ ?_ ?_ ?_ ?_ ?_ ?_ ?_ <;> simp [getT, e0, e4, e5, e6, e33, e35, e38, e39, e40, e43, e44]
  have n3300 : ∀ tb g, getT tb 0 = .ptr 0 0 0 → getT tb 4 = .ptr 32 1 0 → getT tb 5 = .ptr 40 x1 0 → getT tb 6 = I64 (k : Int) → getT tb 35 = I64 (k : Int) → getT tb 38 = .ptr 0 0 0 → getT tb 39 = .ptr 40 x1 0 → getT tb 40 = .arr 88 x2 → getT tb 43 = .ptr 0 0 0 → getT tb 44 = .list 1 [.int .i64 0, .int .i64 1, .int .i64 (-1), .int .i64 6] → exT C0 0 (inlW C0 [fm_copyTabS] [fw_pick, fw_one] 0 0) ro_168_8 Q ex_168_8_3300 ⟨tb, [⟨0, 0, .cells (RS b (p + 3))⟩, ⟨32, 1, .cells [.nil, .nil]⟩, ⟨40, x1, .cells [.arr 88 x2, .arr 136 x3]⟩, ⟨88, x2, .arr 1 (ints u)⟩, ⟨136, x3, .arr 1 (orowsD t)⟩], g⟩ := by
    intro tb g e0 e4 e5 e6 e35 e38 e39 e40 e43 e44
    unfold ex_168_8_3300
    simp only [exT_alt, exT_one, exT_stop, and_true]
    refine ⟨?_, ?_⟩
    · rw [ro_168_8_0]
      simp [callDOW, l0, l1, rg4, hkt, hyr, orowsD_ge, rowAt, rowB, e0, e4, e5, e6, e35, e38, e39, e40, e43, e44]
      refine n3301 _ _ ?_ ?_ ?_ ?_ ?_ ?_ ?_ ?_ ?_ ?_ ?_ <;> simp [getT, e0, e4, e5, e6, e35, e38, e39, e40, e43, e44]
    · rw [ro_168_8_8]
      simp [callDOW, l0, l1, rg4, hkt, hyr, orowsD_ge, rowAt, rowB, e0, e4, e5, e6, e35, e38, e39, e40, e43, e44]
      refine n3556 _ _ ?_ ?_ ?_ ?_ ?_ ?_ ?_ ?_ ?_ ?_ ?_ <;> simp [getT, e0, e4, e5, e6, e35, e38, e39, e40, e43, e44]
  have n3199 : ∀ tb g, getT tb 0 = .ptr 0 0 0 → getT tb 4 = .ptr 32 1 0 → getT tb 5 = .ptr 40 x1 0 → getT tb 6 = I64 (k : Int) → getT tb 33 = .ptr 40 x1 1 → getT tb 34 = .arr 136 x3 → getT tb 35 = I64 (k : Int) → getT tb 36 = .ptr 136 x3 k → getT tb 37 = .row 136 x3 k → getT tb 38 = .ptr 0 0 0 → getT tb 39 = .ptr 40 x1 0 → getT tb 43 = .ptr 0 0 0 → getT tb 44 = .list 1 [.int .i64 0, .int .i64 1, .int .i64 (-1), .int .i64 6] → exT C0 0 (inlW C0 [fm_copyTabS] [fw_pick, fw_one] 0 0) ro_168_8 Q ex_168_8_3199 ⟨tb, [⟨0, 0, .cells (RS b (p + 3))⟩, ⟨32, 1, .cells [.nil, .nil]⟩, ⟨40, x1, .cells [.arr 88 x2, .arr 136 x3]⟩, ⟨88, x2, .arr 1 (ints u)⟩, ⟨136, x3, .arr 1 (orowsD t)⟩], g⟩ := by
    intro tb g e0 e4 e5 e6 e33 e34 e35 e36 e37 e38 e39 e43 e44
    unfold ex_168_8_3199
    simp only [exT_alt, exT_one, exT_stop, and_true]
    rw [ro_168_8_7]
    simp [callDOW, l0, l1, rg4, hkt, hyr, orowsD_ge, rowAt, rowB, e0, e4, e5, e6, e33, e34, e35, e36, e37, e38, e39, e43, e44]
    refine n3327 _ _ ?_ ?_ ?_ ?_ ?_ ?_ ?_ ?_ ?_ ?_ ?_ ?_ ?_ ?_ <;> simp [getT, e0, e4, e5, e6, e33, e34, e35, e36, e37, e38, e39, e43, e44]
  have n3183 : ∀ tb g, getT tb 0 = .ptr 0 0 0 → getT tb 4 = .ptr 32 1 0 → getT tb 5 = .ptr 40 x1 0 → getT tb 6 = I64 (k : Int) → getT tb 33 = .ptr 40 x1 1 → getT tb 34 = .arr 136 x3 → getT tb 35 = I64 (k : Int) → getT tb 36 = .ptr 136 x3 k → getT tb 38 = .ptr 0 0 0 → getT tb 39 = .ptr 40 x1 0 → getT tb 43 = .ptr 0 0 0 → getT tb 44 = .list 1 [.int .i64 0, .int .i64 1, .int .i64 (-1), .int .i64 6] → exT C0 0 (inlW C0 [fm_copyTabS] [fw_pick, fw_one] 0 0) ro_168_8 Q ex_168_8_3183 ⟨tb, [⟨0, 0, .cells (RS b (p + 3))⟩, ⟨32, 1, .cells [.nil, .nil]⟩, ⟨40, x1, .cells [.arr 88 x2, .arr 136 x3]⟩, ⟨88, x2, .arr 1 (ints u)⟩, ⟨136, x3, .arr 1 (orowsD t)⟩], g⟩ := by
    intro tb g e0 e4 e5 e6 e33 e34 e35 e36 e38 e39 e43 e44
    unfold ex_168_8_3183
    simp only [exT_alt, exT_one, exT_stop, and_true]
    refine ⟨?_, ?_⟩
    · rw [ro_168_8_4]
      simp [callDOW, l0, l1, rg4, hkt, hyr, orowsD_ge, rowAt, rowB, e0, e4, e5, e6, e33, e34, e35, e36, e38, e39, e43, e44]
      refine n3199 _ _ ?_ ?_ ?_ ?_ ?_ ?_ ?_ ?_ ?_ ?_ ?_ ?_ ?_ <;> simp [getT, e0, e4, e5, e6, e33, e34, e35, e36, e38, e39, e43, e44]
    · rw [ro_168_8_7]
      simp [callDOW, l0, l1, rg4, hkt, hyr, orowsD_ge, rowAt, rowB, e0, e4, e5, e6, e33, e34, e35, e36, e38, e39, e43, e44]
      refine n3311 _ _ ?_ ?_ ?_ ?_ ?_ ?_ ?_ ?_ ?_ ?_ ?_ ?_ ?_ <;> simp [getT, e0, e4, e5, e6, e33, e34, e35, e36, e38, e39, e43, e44]
  have n3175 : ∀ tb g, getT tb 0 = .ptr 0 0 0 → getT tb 4 = .ptr 32 1 0 → getT tb 5 = .ptr 40 x1 0 → getT tb 6 = I64 (k : Int) → getT tb 33 = .ptr 40 x1 1 → getT tb 34 = .arr 136 x3 → getT tb 35 = I64 (k : Int) → getT tb 38 = .ptr 0 0 0 → getT tb 39 = .ptr 40 x1 0 → getT tb 43 = .ptr 0 0 0 → getT tb 44 = .list 1 [.int .i64 0, .int .i64 1, .int .i64 (-1), .int .i64 6] → exT C0 0 (inlW C0 [fm_copyTabS] [fw_pick, fw_one] 0 0) ro_168_8 Q ex_168_8_3175 ⟨tb, [⟨0, 0, .cells (RS b (p + 3))⟩, ⟨32, 1, .cells [.nil, .nil]⟩, ⟨40, x1, .cells [.arr 88 x2, .arr 136 x3]⟩, ⟨88, x2, .arr 1 (ints u)⟩, ⟨136, x3, .arr 1 (orowsD t)⟩], g⟩ := by
    intro tb g e0 e4 e5 e6 e33 e34 e35 e38 e39 e43 e44
    unfold ex_168_8_3175
    simp only [exT_alt, exT_one, exT_stop, and_true]
    refine ⟨?_, ?_⟩
    · rw [ro_168_8_3]
      simp [callDOW, l0, l1, rg4, hkt, hyr, orowsD_ge, rowAt, rowB, e0, e4, e5, e6, e33, e34, e35, e38, e39, e43, e44]
      refine n3183 _ _ ?_ ?_ ?_ ?_ ?_ ?_ ?_ ?_ ?_ ?_ ?_ ?_ <;> simp [getT, e0, e4, e5, e6, e33, e34, e35, e38, e39, e43, e44]
    · rw [ro_168_8_7]
      simp [callDOW, l0, l1, rg4, hkt, hyr, orowsD_ge, rowAt, rowB, e0, e4, e5, e6, e33, e34, e35, e38, e39, e43, e44]
      refine n3303 _ _ ?_ ?_ ?_ ?_ ?_ ?_ ?_ ?_ ?_ ?_ ?_ ?_ <;> simp [getT, e0, e4, e5, e6, e33, e34, e35, e38, e39, e43, e44]
  have n3173 : ∀ tb g, getT tb 0 = .ptr 0 0 0 → getT tb 4 = .ptr 32 1 0 → getT tb 5 = .ptr 40 x1 0 → getT tb 6 = I64 (k : Int) → getT tb 33 = .ptr 40 x1 1 → getT tb 35 = I64 (k : Int) → getT tb 38 = .ptr 0 0 0 → getT tb 39 = .ptr 40 x1 0 → getT tb 43 = .ptr 0 0 0 → getT tb 44 = .list 1 [.int .i64 0, .int .i64 1, .int .i64 (-1), .int .i64 6] → exT C0 0 (inlW C0 [fm_copyTabS] [fw_pick, fw_one] 0 0) ro_168_8 Q ex_168_8_3173 ⟨tb, [⟨0, 0, .cells (RS b (p + 3))⟩, ⟨32, 1, .cells [.nil, .nil]⟩, ⟨40, x1, .cells [.arr 88 x2, .arr 136 x3]⟩, ⟨88, x2, .arr 1 (ints u)⟩, ⟨136, x3, .arr 1 (orowsD t)⟩], g⟩ := by
    intro tb g e0 e4 e5 e6 e33 e35 e38 e39 e43 e44
    unfold ex_168_8_3173
    simp only [exT_alt, exT_one, exT_stop, and_true]
    refine ⟨?_, ?_⟩
    · rw [ro_168_8_1]
      simp [callDOW, l0, l1, rg4, hkt, hyr, orowsD_ge, rowAt, rowB, e0, e4, e5, e6, e33, e35, e38, e39, e43, e44]
      refine n3175 _ _ ?_ ?_ ?_ ?_ ?_ ?_ ?_ ?_ ?_ ?_ ?_ <;> simp [getT, e0, e4, e5, e6, e33, e35, e38, e39, e43, e44]
    · rw [ro_168_8_7]
      simp [callDOW, l0, l1, rg4, hkt, hyr, orowsD_ge, rowAt, rowB, e0, e4, e5, e6, e33, e35, e38, e39, e43, e44]
      refine n3301 _ _ ?_ ?_ ?_ ?_ ?_ ?_ ?_ ?_ ?_ ?_ ?_ <;> simp [getT, e0, e4, e5, e6, e33, e35, e38, e39, e43, e44]
  have n3172 : ∀ tb g, getT tb 0 = .ptr 0 0 0 → getT tb 4 = .ptr 32 1 0 → getT tb 5 = .ptr 40 x1 0 → getT tb 6 = I64 (k : Int) → getT tb 35 = I64 (k : Int) → getT tb 38 = .ptr 0 0 0 → getT tb 39 = .ptr 40 x1 0 → getT tb 43 = .ptr 0 0 0 → getT tb 44 = .list 1 [.int .i64 0, .int .i64 1, .int .i64 (-1), .int .i64 6] → exT C0 0 (inlW C0 [fm_copyTabS] [fw_pick, fw_one] 0 0) ro_168_8 Q ex_168_8_3172 ⟨tb, [⟨0, 0, .cells (RS b (p + 3))⟩, ⟨32, 1, .cells [.nil, .nil]⟩, ⟨40, x1, .cells [.arr 88 x2, .arr 136 x3]⟩, ⟨88, x2, .arr 1 (ints u)⟩, ⟨136, x3, .arr 1 (orowsD t)⟩], g⟩ := by
    intro tb g e0 e4 e5 e6 e35 e38 e39 e43 e44
    unfold ex_168_8_3172
    simp only [exT_alt, exT_one, exT_stop, and_true]
    refine ⟨?_, ?_⟩
    · rw [ro_168_8_0]
      simp [callDOW, l0, l1, rg4, hkt, hyr, orowsD_ge, rowAt, rowB, e0, e4, e5, e6, e35, e38, e39, e43, e44]
      refine n3173 _ _ ?_ ?_ ?_ ?_ ?_ ?_ ?_ ?_ ?_ ?_ <;> simp [getT, e0, e4, e5, e6, e35, e38, e39, e43, e44]
    · rw [ro_168_8_7]
      simp [callDOW, l0, l1, rg4, hkt, hyr, orowsD_ge, rowAt, rowB, e0, e4, e5, e6, e35, e38, e39, e43, e44]
      refine n3300 _ _ ?_ ?_ ?_ ?_ ?_ ?_ ?_ ?_ ?_ ?_ <;> simp [getT, e0, e4, e5, e6, e35, e38, e39, e43, e44]
  have n3135 : ∀ tb g, getT tb 0 = .ptr 0 0 0 → getT tb 4 = .ptr 32 1 0 → getT tb 5 = .ptr 40 x1 0 → getT tb 6 = I64 (k : Int) → getT tb 33 = .ptr 40 x1 1 → getT tb 34 = .arr 136 x3 → getT tb 35 = I64 (k : Int) → getT tb 36 = .ptr 136 x3 k → getT tb 37 = .row 136 x3 k → getT tb 38 = .ptr 0 0 0 → getT tb 43 = .ptr 0 0 0 → getT tb 44 = .list 1 [.int .i64 0, .int .i64 1, .int .i64 (-1), .int .i64 6] → exT C0 0 (inlW C0 [fm_copyTabS] [fw_pick, fw_one] 0 0) ro_168_8 Q ex_168_8_3135 ⟨tb, [⟨0, 0, .cells (RS b (p + 3))⟩, ⟨32, 1, .cells [.nil, .nil]⟩, ⟨40, x1, .cells [.arr 88 x2, .arr 136 x3]⟩, ⟨88, x2, .arr 1 (ints u)⟩, ⟨136, x3, .arr 1 (orowsD t)⟩], g⟩ := by
    intro tb g e0 e4 e5 e6 e33 e34 e35 e36 e37 e38 e43 e44
    unfold ex_168_8_3135
    simp only [exT_alt, exT_one, exT_stop, and_true]
    rw [ro_168_8_6]
    simp [callDOW, l0, l1, rg4, hkt, hyr, orowsD_ge, rowAt, rowB, e0, e4, e5, e6, e33, e34, e35, e36, e37, e38, e43, e44]
    refine n3199 _ _ ?_ ?_ ?_ ?_ ?_ ?_ ?_ ?_ ?_ ?_ ?_ ?_ ?_ <;> simp [getT, e0, e4, e5, e6, e33, e34, e35, e36, e37, e38, e43, e44]
  have n3119 : ∀ tb g, getT tb 0 = .ptr 0 0 0 → getT tb 4 = .ptr 32 1 0 → getT tb 5 = .ptr 40 x1 0 → getT tb 6 = I64 (k : Int) → getT tb 33 = .ptr 40 x1 1 → getT tb 34 = .arr 136 x3 → getT tb 35 = I64 (k : Int) → getT tb 36 = .ptr 136 x3 k → getT tb 38 = .ptr 0 0 0 → getT tb 43 = .ptr 0 0 0 → getT tb 44 = .list 1 [.int .i64 0, .int .i64 1, .int .i64 (-1), .int .i64 6] → exT C0 0 (inlW C0 [fm_copyTabS] [fw_pick, fw_one] 0 0) ro_168_8 Q ex_168_8_3119 ⟨tb, [⟨0, 0, .cells (RS b (p + 3))⟩, ⟨32, 1, .cells [.nil, .nil]⟩, ⟨40, x1, .cells [.arr 88 x2, .arr 136 x3]⟩, ⟨88, x2, .arr 1 (ints u)⟩, ⟨136, x3, .arr 1 (orowsD t)⟩], g⟩ := by
    intro tb g e0 e4 e5 e6 e33 e34 e35 e36 e38 e43 e44
    unfold ex_168_8_3119
    simp only [exT_alt, exT_one, exT_stop, and_true]
    refine ⟨?_, ?_⟩
    · rw [ro_168_8_4]
      simp [callDOW, l0, l1, rg4, hkt, hyr, orowsD_ge, rowAt, rowB, e0, e4, e5, e6, e33, e34, e35, e36, e38, e43, e44]
      refine n3135 _ _ ?_ ?_ ?_ ?_ ?_ ?_ ?_ ?_ ?_ ?_ ?_ ?_ <;> simp [getT, e0, e4, e5, e6, e33, e34, e35, e36, e38, e43, e44]
    · rw [ro_168_8_6]
      simp [callDOW, l0, l1, rg4, hkt, hyr, orowsD_ge, rowAt, rowB, e0, e4, e5, e6, e33, e34, e35, e36, e38, e43, e44]
      refine n3183 _ _ ?_ ?_ ?_ ?_ ?_ ?_ ?_ ?_ ?_ ?_ ?_ ?_ <;> simp [getT, e0, e4, e5, e6, e33, e34, e35, e36, e38, e43, e44]
  have n3111 : ∀ tb g, getT tb 0 = .ptr 0 0 0 → getT tb 4 = .ptr 32 1 0 → getT tb 5 = .ptr 40 x1 0 → getT tb 6 = I64 (k : Int) → getT tb 33 = .ptr 40 x1 1 → getT tb 34 = .arr 136 x3 → getT tb 35 = I64 (k : Int) → getT tb 38 = .ptr 0 0 0 → getT tb 43 = .ptr 0 0 0 → getT tb 44 = .list 1 [.int .i64 0, .int .i64 1, .int .i64 (-1), .int .i64 6] → exT C0 0 (inlW C0 [fm_copyTabS] [fw_pick, fw_one] 0 0) ro_168_8 Q ex_168_8_3111 ⟨tb, [⟨0, 0, .cells (RS b (p + 3))⟩, ⟨32, 1, .cells [.nil, .nil]⟩, ⟨40, x1, .cells [.arr 88 x2, .arr 136 x3]⟩, ⟨88, x2, .arr 1 (ints u)⟩, ⟨136, x3, .arr 1 (orowsD t)⟩], g⟩ := by
    intro tb g e0 e4 e5 e6 e33 e34 e35 e38 e43 e44
    unfold ex_168_8_3111
    simp only [exT_alt, exT_one, exT_stop, and_true]
    refine ⟨?_, ?_⟩
    · rw [ro_168_8_3]
      simp [callDOW, l0, l1, rg4, hkt, hyr, orowsD_ge, rowAt, rowB, e0, e4, e5, e6, e33, e34, e35, e38, e43, e44]
      refine n3119 _ _ ?_ ?_ ?_ ?_ ?_ ?_ ?_ ?_ ?_ ?_ ?_ <;> simp [getT, e0, e4, e5, e6, e33, e34, e35, e38, e43, e44]
    · rw [ro_168_8_6]
      simp [callDOW, l0, l1, rg4, hkt, hyr, orowsD_ge, rowAt, rowB, e0, e4, e5, e6, e33, e34, e35, e38, e43, e44]
      refine n3175 _ _ ?_ ?_ ?_ ?_ ?_ ?_ ?_ ?_ ?_ ?_ ?_ <;> simp [getT, e0, e4, e5, e6, e33, e34, e35, e38, e43, e44]
  have n3109 : ∀ tb g, getT tb 0 = .ptr 0 0 0 → getT tb 4 = .ptr 32 1 0 → getT tb 5 = .ptr 40 x1 0 → getT tb 6 = I64 (k : Int) → getT tb 33 = .ptr 40 x1 1 → getT tb 35 = I64 (k : Int) → getT tb 38 = .ptr 0 0 0 → getT tb 43 = .ptr 0 0 0 → getT tb 44 = .list 1 [.int .i64 0, .int .i64 1, .int .i64 (-1), .int .i64 6] → exT C0 0 (inlW C0 [fm_copyTabS] [fw_pick, fw_one] 0 0) ro_168_8 Q ex_168_8_3109 ⟨tb, [⟨0, 0, .cells (RS b (p + 3))⟩, ⟨32, 1, .cells [.nil, .nil]⟩, ⟨40, x1, .cells [.arr 88 x2, .arr 136 x3]⟩, ⟨88, x2, .arr 1 (ints u)⟩, ⟨136, x3, .arr 1 (orowsD t)⟩], g⟩ := by
    intro tb g e0 e4 e5 e6 e33 e35 e38 e43 e44
    unfold ex_168_8_3109
    simp only [exT_alt, exT_one, exT_stop, and_true]
    refine ⟨?_, ?_⟩
    · rw [ro_168_8_1]
      simp [callDOW, l0, l1, rg4, hkt, hyr, orowsD_ge, rowAt, rowB, e0, e4, e5, e6, e33, e35, e38, e43, e44]
      refine n3111 _ _ ?_ ?_ ?_ ?_ ?_ ?_ ?_ ?_ ?_ ?_ <;> simp [getT, e0, e4, e5, e6, e33, e35, e38, e43, e44]
    · rw [ro_168_8_6]
      simp [callDOW, l0, l1, rg4, hkt, hyr, orowsD_ge, rowAt, rowB, e0, e4, e5, e6, e33, e35, e38, e43, e44]
      refine n3173 _ _ ?_ ?_ ?_ ?_ ?_ ?_ ?_ ?_ ?_ ?_ <;> simp [getT, e0, e4, e5, e6, e33, e35, e38, e43, e44]
  have n3108 : ∀ tb g, getT tb 0 = .ptr 0 0 0 → getT tb 4 = .ptr 32 1 0 → getT tb 5 = .ptr 40 x1 0 → getT tb 6 = I64 (k : Int) → getT tb 35 = I64 (k : Int) → getT tb 38 = .ptr 0 0 0 → getT tb 43 = .ptr 0 0 0 → getT tb 44 = .list 1 [.int .i64 0, .int .i64 1, .int .i64 (-1), .int .i64 6] → exT C0 0 (inlW C0 [fm_copyTabS] [fw_pick, fw_one] 0 0) ro_168_8 Q ex_168_8_3108 ⟨tb, [⟨0, 0, .cells (RS b (p + 3))⟩, ⟨32, 1, .cells [.nil, .nil]⟩, ⟨40, x1, .cells [.arr 88 x2, .arr 136 x3]⟩, ⟨88, x2, .arr 1 (ints u)⟩, ⟨136, x3, .arr 1 (orowsD t)⟩], g⟩ := by
    intro tb g e0 e4 e5 e6 e35 e38 e43 e44
    unfold ex_168_8_3108
    simp only [exT_alt, exT_one, exT_stop, and_true]
    refine ⟨?_, ?_⟩
    · rw [ro_168_8_0]
      simp [callDOW, l0, l1, rg4, hkt, hyr, orowsD_ge, rowAt, rowB, e0, e4, e5, e6, e35, e38, e43, e44]
      refine n3109 _ _ ?_ ?_ ?_ ?_ ?_ ?_ ?_ ?_ ?_ <;> simp [getT, e0, e4, e5, e6, e35, e38, e43, e44]
    · rw [ro_168_8_6]
      simp [callDOW, l0, l1, rg4, hkt, hyr, orowsD_ge, rowAt, rowB, e0, e4, e5, e6, e35, e38, e43, e44]
      refine n3172 _ _ ?_ ?_ ?_ ?_ ?_ ?_ ?_ ?_ ?_ <;> simp [getT, e0, e4, e5, e6, e35, e38, e43, e44]
  have n1060 : ∀ tb g, getT tb 0 = .ptr 0 0 0 → getT tb 4 = .ptr 32 1 0 → getT tb 5 = .ptr 40 x1 0 → getT tb 6 = I64 (k : Int) → getT tb 35 = I64 (k : Int) → getT tb 38 = .ptr 0 0 0 → getT tb 43 = .ptr 0 0 0 → exT C0 0 (inlW C0 [fm_copyTabS] [fw_pick, fw_one] 0 0) ro_168_8 Q ex_168_8_1060 ⟨tb, [⟨0, 0, .cells (RS b (p + 3))⟩, ⟨32, 1, .cells [.nil, .nil]⟩, ⟨40, x1, .cells [.arr 88 x2, .arr 136 x3]⟩, ⟨88, x2, .arr 1 (ints u)⟩, ⟨136, x3, .arr 1 (orowsD t)⟩], g⟩ := by
    intro tb g e0 e4 e5 e6 e35 e38 e43
    unfold ex_168_8_1060
    simp only [exT_alt, exT_one, exT_stop, and_true]
    rw [ro_168_8_11]
    simp [callDOW, l0, l1, rg4, hkt, hyr, orowsD_ge, rowAt, rowB, e0, e4, e5, e6, e35, e38, e43]
    refine n3108 _ _ ?_ ?_ ?_ ?_ ?_ ?_ ?_ ?_ <;> simp [getT, e0, e4, e5, e6, e35, e38, e43]
  have n36 : ∀ tb g, getT tb 0 = .ptr 0 0 0 → getT tb 4 = .ptr 32 1 0 → getT tb 5 = .ptr 40 x1 0 → getT tb 6 = I64 (k : Int) → getT tb 35 = I64 (k : Int) → getT tb 38 = .ptr 0 0 0 → exT C0 0 (inlW C0 [fm_copyTabS] [fw_pick, fw_one] 0 0) ro_168_8 Q ex_168_8_36 ⟨tb, [⟨0, 0, .cells (RS b (p + 3))⟩, ⟨32, 1, .cells [.nil, .nil]⟩, ⟨40, x1, .cells [.arr 88 x2, .arr 136 x3]⟩, ⟨88, x2, .arr 1 (ints u)⟩, ⟨136, x3, .arr 1 (orowsD t)⟩], g⟩ := by
    intro tb g e0 e4 e5 e6 e35 e38
    unfold ex_168_8_36
    simp only [exT_alt, exT_one, exT_stop, and_true]
    rw [ro_168_8_10]
    simp [callDOW, l0, l1, rg4, hkt, hyr, orowsD_ge, rowAt, rowB, e0, e4, e5, e6, e35, e38]
    refine n1060 _ _ ?_ ?_ ?_ ?_ ?_ ?_ ?_ <;> simp [getT, e0, e4, e5, e6, e35, e38]
  have n4 : ∀ tb g, getT tb 0 = .ptr 0 0 0 → getT tb 4 = .ptr 32 1 0 → getT tb 5 = .ptr 40 x1 0 → getT tb 6 = I64 (k : Int) → getT tb 35 = I64 (k : Int) → exT C0 0 (inlW C0 [fm_copyTabS] [fw_pick, fw_one] 0 0) ro_168_8 Q ex_168_8_4 ⟨tb, [⟨0, 0, .cells (RS b (p + 3))⟩, ⟨32, 1, .cells [.nil, .nil]⟩, ⟨40, x1, .cells [.arr 88 x2, .arr 136 x3]⟩, ⟨88, x2, .arr 1 (ints u)⟩, ⟨136, x3, .arr 1 (orowsD t)⟩], g⟩ := by
    intro tb g e0 e4 e5 e6 e35
    unfold ex_168_8_4
    simp only [exT_alt, exT_one, exT_stop, and_true]
    rw [ro_168_8_5]
    simp [callDOW, l0, l1, rg4, hkt, hyr, orowsD_ge, rowAt, rowB, e0, e4, e5, e6, e35]
    refine n36 _ _ ?_ ?_ ?_ ?_ ?_ ?_ <;> simp [getT, e0, e4, e5, e6, e35]
  have n0 : ∀ tb g, getT tb 0 = .ptr 0 0 0 → getT tb 4 = .ptr 32 1 0 → getT tb 5 = .ptr 40 x1 0 → getT tb 6 = I64 (k : Int) → exT C0 0 (inlW C0 [fm_copyTabS] [fw_pick, fw_one] 0 0) ro_168_8 Q ex_168_8_0 ⟨tb, [⟨0, 0, .cells (RS b (p + 3))⟩, ⟨32, 1, .cells [.nil, .nil]⟩, ⟨40, x1, .cells [.arr 88 x2, .arr 136 x3]⟩, ⟨88, x2, .arr 1 (ints u)⟩, ⟨136, x3, .arr 1 (orowsD t)⟩], g⟩ := by
    intro tb g e0 e4 e5 e6
    unfold ex_168_8_0
    simp only [exT_alt, exT_one, exT_stop, and_true]
    rw [ro_168_8_2]
    simp [callDOW, l0, l1, rg4, hkt, hyr, orowsD_ge, rowAt, rowB, e0, e4, e5, e6]
    refine n4 _ _ ?_ ?_ ?_ ?_ ?_ <;> simp [getT, e0, e4, e5, e6]
  exact n0
set_option maxHeartbeats 2000000 in
theorem bent_dag10 {Q : St → Prop} {b : List Int} {p : Nat} {u : List Int} {t : List (List Int)} {k x1 x2 x3 : Nat} {z : Int} (hku : k < u.length) (l1 : fw_one.look [.ptr 0 0 0, .list 1 [.int .i64 0, .int .i64 3, .int .i64 (-1)]] (RS b (p + 3)) = some (I64 z, RS b (p + 4)))
    (hQ : ∀ tb g, getT tb 4 = .ptr 32 1 0 → getT tb 5 = .ptr 40 x1 0 → Q ⟨tb, [⟨0, 0, .cells (RS b (p + 4))⟩, ⟨32, 1, .cells [.nil, .nil]⟩, ⟨40, x1, .cells [.arr 88 x2, .arr 136 x3]⟩, ⟨88, x2, .arr 1 (ints (u.set k z))⟩, ⟨136, x3, .arr 1 (orowsD t)⟩], g⟩) : ∀ tb g, getT tb 0 = .ptr 0 0 0 → getT tb 4 = .ptr 32 1 0 → getT tb 5 = .ptr 40 x1 0 → getT tb 6 = I64 (k : Int) → exT C0 0 (inlW C0 [fm_copyTabS] [fw_pick, fw_one] 0 0) ro_168_10 Q ex_168_10_0 ⟨tb, [⟨0, 0, .cells (RS b (p + 3))⟩, ⟨32, 1, .cells [.nil, .nil]⟩, ⟨40, x1, .cells [.arr 88 x2, .arr 136 x3]⟩, ⟨88, x2, .arr 1 (ints u)⟩, ⟨136, x3, .arr 1 (orowsD t)⟩], g⟩ := by
  have n255 : ∀ tb g, getT tb 0 = .ptr 0 0 0 → getT tb 4 = .ptr 32 1 0 → getT tb 5 = .ptr 40 x1 0 → getT tb 6 = I64 (k : Int) → getT tb 49 = .ptr 40 x1 0 → getT tb 50 = .arr 88 x2 → getT tb 51 = I64 (k : Int) → getT tb 52 = .ptr 0 0 0 → getT tb 53 = .list 1 [.int .i64 0, .int .i64 3, .int .i64 (-1)] → getT tb 54 = I64 z → getT tb 55 = .ptr 88 x2 k → exT C0 0 (inlW C0 [fm_copyTabS] [fw_pick, fw_one] 0 0) ro_168_10 Q ex_168_10_255 ⟨tb, [⟨0, 0, .cells (RS b (p + 4))⟩, ⟨32, 1, .cells [.nil, .nil]⟩, ⟨40, x1, .cells [.arr 88 x2, .arr 136 x3]⟩, ⟨88, x2, .arr 1 (ints (u.set k z))⟩, ⟨136, x3, .arr 1 (orowsD t)⟩], g⟩ := by
    intro tb g e0 e4 e5 e6 e49 e50 e51 e52 e53 e54 e55
    unfold ex_168_10_255
    exact hQ tb g e4 e5
  have n127 : ∀ tb g, getT tb 0 = .ptr 0 0 0 → getT tb 4 = .ptr 32 1 0 → getT tb 5 = .ptr 40 x1 0 → getT tb 6 = I64 (k : Int) → getT tb 49 = .ptr 40 x1 0 → getT tb 50 = .arr 88 x2 → getT tb 51 = I64 (k : Int) → getT tb 52 = .ptr 0 0 0 → getT tb 53 = .list 1 [.int .i64 0, .int .i64 3, .int .i64 (-1)] → getT tb 54 = I64 z → getT tb 55 = .ptr 88 x2 k → exT C0 0 (inlW C0 [fm_copyTabS] [fw_pick, fw_one] 0 0) ro_168_10 Q ex_168_10_127 ⟨tb, [⟨0, 0, .cells (RS b (p + 4))⟩, ⟨32, 1, .cells [.nil, .nil]⟩, ⟨40, x1, .cells [.arr 88 x2, .arr 136 x3]⟩, ⟨88, x2, .arr 1 (ints u)⟩, ⟨136, x3, .arr 1 (orowsD t)⟩], g⟩ := by
    intro tb g e0 e4 e5 e6 e49 e50 e51 e52 e53 e54 e55
    unfold ex_168_10_127
    simp only [exT_alt, exT_one, exT_stop, and_true]
    rw [ro_168_10_7]
    simp [callDOW, l1, rg3, hku, e0, e4, e5, e6, e49, e50, e51, e52, e53, e54, e55]
    refine n255 _ _ ?_ ?_ ?_ ?_ ?_ ?_ ?_ ?_ ?_ ?_ ?_ <;> simp [getT, e0, e4, e5, e6, e49, e50, e51, e52, e53, e54, e55]
  have n63 : ∀ tb g, getT tb 0 = .ptr 0 0 0 → getT tb 4 = .ptr 32 1 0 → getT tb 5 = .ptr 40 x1 0 → getT tb 6 = I64 (k : Int) → getT tb 49 = .ptr 40 x1 0 → getT tb 50 = .arr 88 x2 → getT tb 51 = I64 (k : Int) → getT tb 52 = .ptr 0 0 0 → getT tb 53 = .list 1 [.int .i64 0, .int .i64 3, .int .i64 (-1)] → getT tb 54 = I64 z → exT C0 0 (inlW C0 [fm_copyTabS] [fw_pick, fw_one] 0 0) ro_168_10 Q ex_168_10_63 ⟨tb, [⟨0, 0, .cells (RS b (p + 4))⟩, ⟨32, 1, .cells [.nil, .nil]⟩, ⟨40, x1, .cells [.arr 88 x2, .arr 136 x3]⟩, ⟨88, x2, .arr 1 (ints u)⟩, ⟨136, x3, .arr 1 (orowsD t)⟩], g⟩ := by
    intro tb g e0 e4 e5 e6 e49 e50 e51 e52 e53 e54
    unfold ex_168_10_63
    simp only [exT_alt, exT_one, exT_stop, and_true]
    rw [ro_168_10_6]
    simp [callDOW, l1, rg3, hku, e0, e4, e5, e6, e49, e50, e51, e52, e53, e54]
    refine n127 _ _ ?_ ?_ ?_ ?_ ?_ ?_ ?_ ?_ ?_ ?_ ?_ <;> simp [getT, e0, e4, e5, e6, e49, e50, e51, e52, e53, e54]
  have n61 : ∀ tb g, getT tb 0 = .ptr 0 0 0 → getT tb 4 = .ptr 32 1 0 → getT tb 5 = .ptr 40 x1 0 → getT tb 6 = I64 (k : Int) → getT tb 49 = .ptr 40 x1 0 → getT tb 51 = I64 (k : Int) → getT tb 52 = .ptr 0 0 0 → getT tb 53 = .list 1 [.int .i64 0, .int .i64 3, .int .i64 (-1)] → getT tb 54 = I64 z → exT C0 0 (inlW C0 [fm_copyTabS] [fw_pick, fw_one] 0 0) ro_168_10 Q ex_168_10_61 ⟨tb, [⟨0, 0, .cells (RS b (p + 4))⟩, ⟨32, 1, .cells [.nil, .nil]⟩, ⟨40, x1, .cells [.arr 88 x2, .arr 136 x3]⟩, ⟨88, x2, .arr 1 (ints u)⟩, ⟨136, x3, .arr 1 (orowsD t)⟩], g⟩ := by
    intro tb g e0 e4 e5 e6 e49 e51 e52 e53 e54
    unfold ex_168_10_61
    simp only [exT_alt, exT_one, exT_stop, and_true]
    rw [ro_168_10_1]
    simp [callDOW, l1, rg3, hku, e0, e4, e5, e6, e49, e51, e52, e53, e54]
    refine n63 _ _ ?_ ?_ ?_ ?_ ?_ ?_ ?_ ?_ ?_ ?_ <;> simp [getT, e0, e4, e5, e6, e49, e51, e52, e53, e54]
  have n60 : ∀ tb g, getT tb 0 = .ptr 0 0 0 → getT tb 4 = .ptr 32 1 0 → getT tb 5 = .ptr 40 x1 0 → getT tb 6 = I64 (k : Int) → getT tb 51 = I64 (k : Int) → getT tb 52 = .ptr 0 0 0 → getT tb 53 = .list 1 [.int .i64 0, .int .i64 3, .int .i64 (-1)] → getT tb 54 = I64 z → exT C0 0 (inlW C0 [fm_copyTabS] [fw_pick, fw_one] 0 0) ro_168_10 Q ex_168_10_60 ⟨tb, [⟨0, 0, .cells (RS b (p + 4))⟩, ⟨32, 1, .cells [.nil, .nil]⟩, ⟨40, x1, .cells [.arr 88 x2, .arr 136 x3]⟩, ⟨88, x2, .arr 1 (ints u)⟩, ⟨136, x3, .arr 1 (orowsD t)⟩], g⟩ := by
    intro tb g e0 e4 e5 e6 e51 e52 e53 e54
    unfold ex_168_10_60
    simp only [exT_alt, exT_one, exT_stop, and_true]
    rw [ro_168_10_0]
    simp [callDOW, l1, rg3, hku, e0, e4, e5, e6, e51, e52, e53, e54]
    refine n61 _ _ ?_ ?_ ?_ ?_ ?_ ?_ ?_ ?_ ?_ <;> simp [getT, e0, e4, e5, e6, e51, e52, e53, e54]
  have n31 : ∀ tb g, getT tb 0 = .ptr 0 0 0 → getT tb 4 = .ptr 32 1 0 → getT tb 5 = .ptr 40 x1 0 → getT tb 6 = I64 (k : Int) → getT tb 49 = .ptr 40 x1 0 → getT tb 50 = .arr 88 x2 → getT tb 51 = I64 (k : Int) → getT tb 52 = .ptr 0 0 0 → getT tb 53 = .list 1 [.int .i64 0, .int .i64 3, .int .i64 (-1)] → exT C0 0 (inlW C0 [fm_copyTabS] [fw_pick, fw_one] 0 0) ro_168_10 Q ex_168_10_31 ⟨tb, [⟨0, 0, .cells (RS b (p + 3))⟩, ⟨32, 1, .cells [.nil, .nil]⟩, ⟨40, x1, .cells [.arr 88 x2, .arr 136 x3]⟩, ⟨88, x2, .arr 1 (ints u)⟩, ⟨136, x3, .arr 1 (orowsD t)⟩], g⟩ := by
    intro tb g e0 e4 e5 e6 e49 e50 e51 e52 e53
    unfold ex_168_10_31
    simp only [exT_alt, exT_one, exT_stop, and_true]
    rw [ro_168_10_5]
    simp [callDOW, l1, rg3, hku, e0, e4, e5, e6, e49, e50, e51, e52, e53]
    refine n63 _ _ ?_ ?_ ?_ ?_ ?_ ?_ ?_ ?_ ?_ ?_ <;> simp [getT, e0, e4, e5, e6, e49, e50, e51, e52, e53]
  have n29 : ∀ tb g, getT tb 0 = .ptr 0 0 0 → getT tb 4 = .ptr 32 1 0 → getT tb 5 = .ptr 40 x1 0 → getT tb 6 = I64 (k : Int) → getT tb 49 = .ptr 40 x1 0 → getT tb 51 = I64 (k : Int) → getT tb 52 = .ptr 0 0 0 → getT tb 53 = .list 1 [.int .i64 0, .int .i64 3, .int .i64 (-1)] → exT C0 0 (inlW C0 [fm_copyTabS] [fw_pick, fw_one] 0 0) ro_168_10 Q ex_168_10_29 ⟨tb, [⟨0, 0, .cells (RS b (p + 3))⟩, ⟨32, 1, .cells [.nil, .nil]⟩, ⟨40, x1, .cells [.arr 88 x2, .arr 136 x3]⟩, ⟨88, x2, .arr 1 (ints u)⟩, ⟨136, x3, .arr 1 (orowsD t)⟩], g⟩ := by
    intro tb g e0 e4 e5 e6 e49 e51 e52 e53
    unfold ex_168_10_29
    simp only [exT_alt, exT_one, exT_stop, and_true]
    refine ⟨?_, ?_⟩
    · rw [ro_168_10_1]
      simp [callDOW, l1, rg3, hku, e0, e4, e5, e6, e49, e51, e52, e53]
      refine n31 _ _ ?_ ?_ ?_ ?_ ?_ ?_ ?_ ?_ ?_ <;> simp [getT, e0, e4, e5, e6, e49, e51, e52, e53]
    · rw [ro_168_10_5]
      simp [callDOW, l1, rg3, hku, e0, e4, e5, e6, e49, e51, e52, e53]
      refine n61 _ _ ?_ ?_ ?_ ?_ ?_ ?_ ?_ ?_ ?_ <;> simp [getT, e0, e4, e5, e6, e49, e51, e52, e53]
  have n28 : ∀ tb g, getT tb 0 = .ptr 0 0 0 → getT tb 4 = .ptr 32 1 0 → getT tb 5 = .ptr 40 x1 0 → getT tb 6 = I64 (k : Int) → getT tb 51 = I64 (k : Int) → getT tb 52 = .ptr 0 0 0 → getT tb 53 = .list 1 [.int .i64 0, .int .i64 3, .int .i64 (-1)] → exT C0 0 (inlW C0 [fm_copyTabS] [fw_pick, fw_one] 0 0) ro_168_10 Q ex_168_10_28 ⟨tb, [⟨0, 0, .cells (RS b (p + 3))⟩, ⟨32, 1, .cells [.nil, .nil]⟩, ⟨40, x1, .cells [.arr 88 x2, .arr 136 x3]⟩, ⟨88, x2, .arr 1 (ints u)⟩, ⟨136, x3, .arr 1 (orowsD t)⟩], g⟩ := by
    intro tb g e0 e4 e5 e6 e51 e52 e53
    unfold ex_168_10_28
    simp only [exT_alt, exT_one, exT_stop, and_true]
    refine ⟨?_, ?_⟩
    · rw [ro_168_10_0]
      simp [callDOW, l1, rg3, hku, e0, e4, e5, e6, e51, e52, e53]
      refine n29 _ _ ?_ ?_ ?_ ?_ ?_ ?_ ?_ ?_ <;> simp [getT, e0, e4, e5, e6, e51, e52, e53]
    · rw [ro_168_10_5]
      simp [callDOW, l1, rg3, hku, e0, e4, e5, e6, e51, e52, e53]
      refine n60 _ _ ?_ ?_ ?_ ?_ ?_ ?_ ?_ ?_ <;> simp [getT, e0, e4, e5, e6, e51, e52, e53]
  have n12 : ∀ tb g, getT tb 0 = .ptr 0 0 0 → getT tb 4 = .ptr 32 1 0 → getT tb 5 = .ptr 40 x1 0 → getT tb 6 = I64 (k : Int) → getT tb 51 = I64 (k : Int) → getT tb 52 = .ptr 0 0 0 → exT C0 0 (inlW C0 [fm_copyTabS] [fw_pick, fw_one] 0 0) ro_168_10 Q ex_168_10_12 ⟨tb, [⟨0, 0, .cells (RS b (p + 3))⟩, ⟨32, 1, .cells [.nil, .nil]⟩, ⟨40, x1, .cells [.arr 88 x2, .arr 136 x3]⟩, ⟨88, x2, .arr 1 (ints u)⟩, ⟨136, x3, .arr 1 (orowsD t)⟩], g⟩ := by
    intro tb g e0 e4 e5 e6 e51 e52
    unfold ex_168_10_12
    simp only [exT_alt, exT_one, exT_stop, and_true]
    rw [ro_168_10_4]
    simp [callDOW, l1, rg3, hku, e0, e4, e5, e6, e51, e52]
    refine n28 _ _ ?_ ?_ ?_ ?_ ?_ ?_ ?_ <;> simp [getT, e0, e4, e5, e6, e51, e52]
  have n4 : ∀ tb g, getT tb 0 = .ptr 0 0 0 → getT tb 4 = .ptr 32 1 0 → getT tb 5 = .ptr 40 x1 0 → getT tb 6 = I64 (k : Int) → getT tb 51 = I64 (k : Int) → exT C0 0 (inlW C0 [fm_copyTabS] [fw_pick, fw_one] 0 0) ro_168_10 Q ex_168_10_4 ⟨tb, [⟨0, 0, .cells (RS b (p + 3))⟩, ⟨32, 1, .cells [.nil, .nil]⟩, ⟨40, x1, .cells [.arr 88 x2, .arr 136 x3]⟩, ⟨88, x2, .arr 1 (ints u)⟩, ⟨136, x3, .arr 1 (orowsD t)⟩], g⟩ := by
    intro tb g e0 e4 e5 e6 e51
    unfold ex_168_10_4
    simp only [exT_alt, exT_one, exT_stop, and_true]
    rw [ro_168_10_3]
    simp [callDOW, l1, rg3, hku, e0, e4, e5, e6, e51]
    refine n12 _ _ ?_ ?_ ?_ ?_ ?_ ?_ <;> simp [getT, e0, e4, e5, e6, e51]
  have n0 : ∀ tb g, getT tb 0 = .ptr 0 0 0 → getT tb 4 = .ptr 32 1 0 → getT tb 5 = .ptr 40 x1 0 → getT tb 6 = I64 (k : Int) → exT C0 0 (inlW C0 [fm_copyTabS] [fw_pick, fw_one] 0 0) ro_168_10 Q ex_168_10_0 ⟨tb, [⟨0, 0, .cells (RS b (p + 3))⟩, ⟨32, 1, .cells [.nil, .nil]⟩, ⟨40, x1, .cells [.arr 88 x2, .arr 136 x3]⟩, ⟨88, x2, .arr 1 (ints u)⟩, ⟨136, x3, .arr 1 (orowsD t)⟩], g⟩ := by
    intro tb g e0 e4 e5 e6
    unfold ex_168_10_0
    simp only [exT_alt, exT_one, exT_stop, and_true]
    rw [ro_168_10_2]
    simp [callDOW, l1, rg3, hku, e0, e4, e5, e6]
    refine n4 _ _ ?_ ?_ ?_ ?_ ?_ <;> simp [getT, e0, e4, e5, e6]
  exact n0
set_option maxHeartbeats 2000000 in
theorem bent_dag14 {Q : St → Prop} {b : List Int} {p : Nat} {u : List Int} {t : List (List Int)} {k x1 x2 x3 : Nat} (hkt : k < t.length) (hyr : 1 ≤ (gr t k).length) (hyn : ¬ gr t k = []) (hyi : (1 : Int) ≤ (gr t k).length)
    (hQ : ∀ tb g, getT tb 4 = .ptr 32 1 0 → getT tb 5 = .ptr 40 x1 0 → Q ⟨tb, [⟨0, 0, .cells (RS b (p + 3))⟩, ⟨32, 1, .cells [.nil, .nil]⟩, ⟨40, x1, .cells [.arr 88 x2, .arr 136 x3]⟩, ⟨88, x2, .arr 1 (ints u)⟩, ⟨136, x3, .arr 1 ((orowsD t).set k (IL ((gr t k).tail)))⟩], g⟩) : ∀ tb g, getT tb 4 = .ptr 32 1 0 → getT tb 5 = .ptr 40 x1 0 → getT tb 6 = I64 (k : Int) → exT C0 0 (inlW C0 [fm_copyTabS] [fw_pick, fw_one] 0 0) ro_168_14 Q ex_168_14_0 ⟨tb, [⟨0, 0, .cells (RS b (p + 3))⟩, ⟨32, 1, .cells [.nil, .nil]⟩, ⟨40, x1, .cells [.arr 88 x2, .arr 136 x3]⟩, ⟨88, x2, .arr 1 (ints u)⟩, ⟨136, x3, .arr 1 (orowsD t)⟩], g⟩ := by
  have n2047 : ∀ tb g, getT tb 4 = .ptr 32 1 0 → getT tb 5 = .ptr 40 x1 0 → getT tb 6 = I64 (k : Int) → getT tb 64 = .ptr 40 x1 1 → getT tb 65 = .arr 136 x3 → getT tb 66 = I64 (k : Int) → getT tb 67 = .ptr 40 x1 1 → getT tb 68 = .arr 136 x3 → getT tb 69 = I64 (k : Int) → getT tb 70 = .ptr 136 x3 k → getT tb 71 = IL (gr t k) → getT tb 72 = IL ((gr t k).tail) → getT tb 73 = .ptr 136 x3 k → exT C0 0 (inlW C0 [fm_copyTabS] [fw_pick, fw_one] 0 0) ro_168_14 Q ex_168_14_2047 ⟨tb, [⟨0, 0, .cells (RS b (p + 3))⟩, ⟨32, 1, .cells [.nil, .nil]⟩, ⟨40, x1, .cells [.arr 88 x2, .arr 136 x3]⟩, ⟨88, x2, .arr 1 (ints u)⟩, ⟨136, x3, .arr 1 ((orowsD t).set k (IL ((gr t k).tail)))⟩], g⟩ := by
    intro tb g e4 e5 e6 e64 e65 e66 e67 e68 e69 e70 e71 e72 e73
    unfold ex_168_14_2047
    exact hQ tb g e4 e5
  have n1023 : ∀ tb g, getT tb 4 = .ptr 32 1 0 → getT tb 5 = .ptr 40 x1 0 → getT tb 6 = I64 (k : Int) → getT tb 64 = .ptr 40 x1 1 → getT tb 65 = .arr 136 x3 → getT tb 66 = I64 (k : Int) → getT tb 67 = .ptr 40 x1 1 → getT tb 68 = .arr 136 x3 → getT tb 69 = I64 (k : Int) → getT tb 70 = .ptr 136 x3 k → getT tb 71 = IL (gr t k) → getT tb 72 = IL ((gr t k).tail) → getT tb 73 = .ptr 136 x3 k → exT C0 0 (inlW C0 [fm_copyTabS] [fw_pick, fw_one] 0 0) ro_168_14 Q ex_168_14_1023 ⟨tb, [⟨0, 0, .cells (RS b (p + 3))⟩, ⟨32, 1, .cells [.nil, .nil]⟩, ⟨40, x1, .cells [.arr 88 x2, .arr 136 x3]⟩, ⟨88, x2, .arr 1 (ints u)⟩, ⟨136, x3, .arr 1 ((orowsD t).set k (IL (gr t k)))⟩], g⟩ := by
    intro tb g e4 e5 e6 e64 e65 e66 e67 e68 e69 e70 e71 e72 e73
    unfold ex_168_14_1023
    simp only [exT_alt, exT_one, exT_stop, and_true]
    rw [ro_168_14_10]
    simp [hkt, hyr, hyn, hyi, orowsD_ge, rowAt, rowB, e4, e5, e6, e64, e65, e66, e67, e68, e69, e70, e71, e72, e73]
    refine n2047 _ _ ?_ ?_ ?_ ?_ ?_ ?_ ?_ ?_ ?_ ?_ ?_ ?_ ?_ <;> simp [getT, e4, e5, e6, e64, e65, e66, e67, e68, e69, e70, e71, e72, e73]
  have n511 : ∀ tb g, getT tb 4 = .ptr 32 1 0 → getT tb 5 = .ptr 40 x1 0 → getT tb 6 = I64 (k : Int) → getT tb 64 = .ptr 40 x1 1 → getT tb 65 = .arr 136 x3 → getT tb 66 = I64 (k : Int) → getT tb 67 = .ptr 40 x1 1 → getT tb 68 = .arr 136 x3 → getT tb 69 = I64 (k : Int) → getT tb 70 = .ptr 136 x3 k → getT tb 71 = IL (gr t k) → getT tb 72 = IL ((gr t k).tail) → exT C0 0 (inlW C0 [fm_copyTabS] [fw_pick, fw_one] 0 0) ro_168_14 Q ex_168_14_511 ⟨tb, [⟨0, 0, .cells (RS b (p + 3))⟩, ⟨32, 1, .cells [.nil, .nil]⟩, ⟨40, x1, .cells [.arr 88 x2, .arr 136 x3]⟩, ⟨88, x2, .arr 1 (ints u)⟩, ⟨136, x3, .arr 1 ((orowsD t).set k (IL (gr t k)))⟩], g⟩ := by
    intro tb g e4 e5 e6 e64 e65 e66 e67 e68 e69 e70 e71 e72
    unfold ex_168_14_511
    simp only [exT_alt, exT_one, exT_stop, and_true]
    rw [ro_168_14_9]
    simp [hkt, hyr, hyn, hyi, orowsD_ge, rowAt, rowB, e4, e5, e6, e64, e65, e66, e67, e68, e69, e70, e71, e72]
    refine n1023 _ _ ?_ ?_ ?_ ?_ ?_ ?_ ?_ ?_ ?_ ?_ ?_ ?_ ?_ <;> simp [getT, e4, e5, e6, e64, e65, e66, e67, e68, e69, e70, e71, e72]
  have n509 : ∀ tb g, getT tb 4 = .ptr 32 1 0 → getT tb 5 = .ptr 40 x1 0 → getT tb 6 = I64 (k : Int) → getT tb 64 = .ptr 40 x1 1 → getT tb 66 = I64 (k : Int) → getT tb 67 = .ptr 40 x1 1 → getT tb 68 = .arr 136 x3 → getT tb 69 = I64 (k : Int) → getT tb 70 = .ptr 136 x3 k → getT tb 71 = IL (gr t k) → getT tb 72 = IL ((gr t k).tail) → exT C0 0 (inlW C0 [fm_copyTabS] [fw_pick, fw_one] 0 0) ro_168_14 Q ex_168_14_509 ⟨tb, [⟨0, 0, .cells (RS b (p + 3))⟩, ⟨32, 1, .cells [.nil, .nil]⟩, ⟨40, x1, .cells [.arr 88 x2, .arr 136 x3]⟩, ⟨88, x2, .arr 1 (ints u)⟩, ⟨136, x3, .arr 1 ((orowsD t).set k (IL (gr t k)))⟩], g⟩ := by
    intro tb g e4 e5 e6 e64 e66 e67 e68 e69 e70 e71 e72
    unfold ex_168_14_509
    simp only [exT_alt, exT_one, exT_stop, and_true]
    rw [ro_168_14_1]
    simp [hkt, hyr, hyn, hyi, orowsD_ge, rowAt, rowB, e4, e5, e6, e64, e66, e67, e68, e69, e70, e71, e72]
    refine n511 _ _ ?_ ?_ ?_ ?_ ?_ ?_ ?_ ?_ ?_ ?_ ?_ ?_ <;> simp [getT, e4, e5, e6, e64, e66, e67, e68, e69, e70, e71, e72]
  have n508 : ∀ tb g, getT tb 4 = .ptr 32 1 0 → getT tb 5 = .ptr 40 x1 0 → getT tb 6 = I64 (k : Int) → getT tb 66 = I64 (k : Int) → getT tb 67 = .ptr 40 x1 1 → getT tb 68 = .arr 136 x3 → getT tb 69 = I64 (k : Int) → getT tb 70 = .ptr 136 x3 k → getT tb 71 = IL (gr t k) → getT tb 72 = IL ((gr t k).tail) → exT C0 0 (inlW C0 [fm_copyTabS] [fw_pick, fw_one] 0 0) ro_168_14 Q ex_168_14_508 ⟨tb, [⟨0, 0, .cells (RS b (p + 3))⟩, ⟨32, 1, .cells [.nil, .nil]⟩, ⟨40, x1, .cells [.arr 88 x2, .arr 136 x3]⟩, ⟨88, x2, .arr 1 (ints u)⟩, ⟨136, x3, .arr 1 ((orowsD t).set k (IL (gr t k)))⟩], g⟩ := by
    intro tb g e4 e5 e6 e66 e67 e68 e69 e70 e71 e72
    unfold ex_168_14_508
    simp only [exT_alt, exT_one, exT_stop, and_true]
    rw [ro_168_14_0]
    simp [hkt, hyr, hyn, hyi, orowsD_ge, rowAt, rowB, e4, e5, e6, e66, e67, e68, e69, e70, e71, e72]
    refine n509 _ _ ?_ ?_ ?_ ?_ ?_ ?_ ?_ ?_ ?_ ?_ ?_ <;> simp [getT, e4, e5, e6, e66, e67, e68, e69, e70, e71, e72]
  have n252 : ∀ tb g, getT tb 4 = .ptr 32 1 0 → getT tb 5 = .ptr 40 x1 0 → getT tb 6 = I64 (k : Int) → getT tb 66 = I64 (k : Int) → getT tb 67 = .ptr 40 x1 1 → getT tb 68 = .arr 136 x3 → getT tb 69 = I64 (k : Int) → getT tb 70 = .ptr 136 x3 k → getT tb 71 = IL (gr t k) → exT C0 0 (inlW C0 [fm_copyTabS] [fw_pick, fw_one] 0 0) ro_168_14 Q ex_168_14_252 ⟨tb, [⟨0, 0, .cells (RS b (p + 3))⟩, ⟨32, 1, .cells [.nil, .nil]⟩, ⟨40, x1, .cells [.arr 88 x2, .arr 136 x3]⟩, ⟨88, x2, .arr 1 (ints u)⟩, ⟨136, x3, .arr 1 ((orowsD t).set k (IL (gr t k)))⟩], g⟩ := by
    intro tb g e4 e5 e6 e66 e67 e68 e69 e70 e71
    unfold ex_168_14_252
    simp only [exT_alt, exT_one, exT_stop, and_true]
    rw [ro_168_14_8]
    simp [hkt, hyr, hyn, hyi, orowsD_ge, rowAt, rowB, e4, e5, e6, e66, e67, e68, e69, e70, e71]
    refine n508 _ _ ?_ ?_ ?_ ?_ ?_ ?_ ?_ ?_ ?_ ?_ <;> simp [getT, e4, e5, e6, e66, e67, e68, e69, e70, e71]
  have n253 : ∀ tb g, getT tb 4 = .ptr 32 1 0 → getT tb 5 = .ptr 40 x1 0 → getT tb 6 = I64 (k : Int) → getT tb 64 = .ptr 40 x1 1 → getT tb 66 = I64 (k : Int) → getT tb 67 = .ptr 40 x1 1 → getT tb 68 = .arr 136 x3 → getT tb 69 = I64 (k : Int) → getT tb 70 = .ptr 136 x3 k → getT tb 71 = IL (gr t k) → exT C0 0 (inlW C0 [fm_copyTabS] [fw_pick, fw_one] 0 0) ro_168_14 Q ex_168_14_253 ⟨tb, [⟨0, 0, .cells (RS b (p + 3))⟩, ⟨32, 1, .cells [.nil, .nil]⟩, ⟨40, x1, .cells [.arr 88 x2, .arr 136 x3]⟩, ⟨88, x2, .arr 1 (ints u)⟩, ⟨136, x3, .arr 1 ((orowsD t).set k (IL (gr t k)))⟩], g⟩ := by
    intro tb g e4 e5 e6 e64 e66 e67 e68 e69 e70 e71
    unfold ex_168_14_253
    simp only [exT_alt, exT_one, exT_stop, and_true]
    rw [ro_168_14_8]
    simp [hkt, hyr, hyn, hyi, orowsD_ge, rowAt, rowB, e4, e5, e6, e64, e66, e67, e68, e69, e70, e71]
    refine n509 _ _ ?_ ?_ ?_ ?_ ?_ ?_ ?_ ?_ ?_ ?_ ?_ <;> simp [getT, e4, e5, e6, e64, e66, e67, e68, e69, e70, e71]
  have n255 : ∀ tb g, getT tb 4 = .ptr 32 1 0 → getT tb 5 = .ptr 40 x1 0 → getT tb 6 = I64 (k : Int) → getT tb 64 = .ptr 40 x1 1 → getT tb 65 = .arr 136 x3 → getT tb 66 = I64 (k : Int) → getT tb 67 = .ptr 40 x1 1 → getT tb 68 = .arr 136 x3 → getT tb 69 = I64 (k : Int) → getT tb 70 = .ptr 136 x3 k → getT tb 71 = IL (gr t k) → exT C0 0 (inlW C0 [fm_copyTabS] [fw_pick, fw_one] 0 0) ro_168_14 Q ex_168_14_255 ⟨tb, [⟨0, 0, .cells (RS b (p + 3))⟩, ⟨32, 1, .cells [.nil, .nil]⟩, ⟨40, x1, .cells [.arr 88 x2, .arr 136 x3]⟩, ⟨88, x2, .arr 1 (ints u)⟩, ⟨136, x3, .arr 1 ((orowsD t).set k (IL (gr t k)))⟩], g⟩ := by
    intro tb g e4 e5 e6 e64 e65 e66 e67 e68 e69 e70 e71
    unfold ex_168_14_255
    simp only [exT_alt, exT_one, exT_stop, and_true]
    rw [ro_168_14_8]
    simp [hkt, hyr, hyn, hyi, orowsD_ge, rowAt, rowB, e4, e5, e6, e64, e65, e66, e67, e68, e69, e70, e71]
    refine n511 _ _ ?_ ?_ ?_ ?_ ?_ ?_ ?_ ?_ ?_ ?_ ?_ ?_ <;> simp [getT, e4, e5, e6, e64, e65, e66, e67, e68, e69, e70, e71]
  have n127 : ∀ tb g, getT tb 4 = .ptr 32 1 0 → getT tb 5 = .ptr 40 x1 0 → getT tb 6 = I64 (k : Int) → getT tb 64 = .ptr 40 x1 1 → getT tb 65 = .arr 136 x3 → getT tb 66 = I64 (k : Int) → getT tb 67 = .ptr 40 x1 1 → getT tb 68 = .arr 136 x3 → getT tb 69 = I64 (k : Int) → getT tb 70 = .ptr 136 x3 k → exT C0 0 (inlW C0 [fm_copyTabS] [fw_pick, fw_one] 0 0) ro_168_14 Q ex_168_14_127 ⟨tb, [⟨0, 0, .cells (RS b (p + 3))⟩, ⟨32, 1, .cells [.nil, .nil]⟩, ⟨40, x1, .cells [.arr 88 x2, .arr 136 x3]⟩, ⟨88, x2, .arr 1 (ints u)⟩, ⟨136, x3, .arr 1 (orowsD t)⟩], g⟩ := by
    intro tb g e4 e5 e6 e64 e65 e66 e67 e68 e69 e70
    unfold ex_168_14_127
    simp only [exT_alt, exT_one, exT_stop, and_true]
    rw [ro_168_14_7]
    simp [hkt, hyr, hyn, hyi, orowsD_ge, rowAt, rowB, e4, e5, e6, e64, e65, e66, e67, e68, e69, e70]
    refine n255 _ _ ?_ ?_ ?_ ?_ ?_ ?_ ?_ ?_ ?_ ?_ ?_ <;> simp [getT, e4, e5, e6, e64, e65, e66, e67, e68, e69, e70]
  have n125 : ∀ tb g, getT tb 4 = .ptr 32 1 0 → getT tb 5 = .ptr 40 x1 0 → getT tb 6 = I64 (k : Int) → getT tb 64 = .ptr 40 x1 1 → getT tb 66 = I64 (k : Int) → getT tb 67 = .ptr 40 x1 1 → getT tb 68 = .arr 136 x3 → getT tb 69 = I64 (k : Int) → getT tb 70 = .ptr 136 x3 k → exT C0 0 (inlW C0 [fm_copyTabS] [fw_pick, fw_one] 0 0) ro_168_14 Q ex_168_14_125 ⟨tb, [⟨0, 0, .cells (RS b (p + 3))⟩, ⟨32, 1, .cells [.nil, .nil]⟩, ⟨40, x1, .cells [.arr 88 x2, .arr 136 x3]⟩, ⟨88, x2, .arr 1 (ints u)⟩, ⟨136, x3, .arr 1 (orowsD t)⟩], g⟩ := by
    intro tb g e4 e5 e6 e64 e66 e67 e68 e69 e70
    unfold ex_168_14_125
    simp only [exT_alt, exT_one, exT_stop, and_true]
    refine ⟨?_, ?_⟩
    · rw [ro_168_14_1]
      simp [hkt, hyr, hyn, hyi, orowsD_ge, rowAt, rowB, e4, e5, e6, e64, e66, e67, e68, e69, e70]
      refine n127 _ _ ?_ ?_ ?_ ?_ ?_ ?_ ?_ ?_ ?_ ?_ <;> simp [getT, e4, e5, e6, e64, e66, e67, e68, e69, e70]
    · rw [ro_168_14_7]
      simp [hkt, hyr, hyn, hyi, orowsD_ge, rowAt, rowB, e4, e5, e6, e64, e66, e67, e68, e69, e70]
      refine n253 _ _ ?_ ?_ ?_ ?_ ?_ ?_ ?_ ?_ ?_ ?_ <;> simp [getT, e4, e5, e6, e64, e66, e67, e68, e69, e70]
  have n124 : ∀ tb g, getT tb 4 = .ptr 32 1 0 → getT tb 5 = .ptr 40 x1 0 → getT tb 6 = I64 (k : Int) → getT tb 66 = I64 (k : Int) → getT tb 67 = .ptr 40 x1 1 → getT tb 68 = .arr 136 x3 → getT tb 69 = I64 (k : Int) → getT tb 70 = .ptr 136 x3 k → exT C0 0 (inlW C0 [fm_copyTabS] [fw_pick, fw_one] 0 0) ro_168_14 Q ex_168_14_124 ⟨tb, [⟨0, 0, .cells (RS b (p + 3))⟩, ⟨32, 1, .cells [.nil, .nil]⟩, ⟨40, x1, .cells [.arr 88 x2, .arr 136 x3]⟩, ⟨88, x2, .arr 1 (ints u)⟩, ⟨136, x3, .arr 1 (orowsD t)⟩], g⟩ := by
    intro tb g e4 e5 e6 e66 e67 e68 e69 e70
    unfold ex_168_14_124
    simp only [exT_alt, exT_one, exT_stop, and_true]
    refine ⟨?_, ?_⟩
    · rw [ro_168_14_0]
      simp [hkt, hyr, hyn, hyi, orowsD_ge, rowAt, rowB, e4, e5, e6, e66, e67, e68, e69, e70]
      refine n125 _ _ ?_ ?_ ?_ ?_ ?_ ?_ ?_ ?_ ?_ <;> simp [getT, e4, e5, e6, e66, e67, e68, e69, e70]
    · rw [ro_168_14_7]
      simp [hkt, hyr, hyn, hyi, orowsD_ge, rowAt, rowB, e4, e5, e6, e66, e67, e68, e69, e70]
      refine n252 _ _ ?_ ?_ ?_ ?_ ?_ ?_ ?_ ?_ ?_ <;> simp [getT, e4, e5, e6, e66, e67, e68, e69, e70]
  have n63 : ∀ tb g, getT tb 4 = .ptr 32 1 0 → getT tb 5 = .ptr 40 x1 0 → getT tb 6 = I64 (k : Int) → getT tb 64 = .ptr 40 x1 1 → getT tb 65 = .arr 136 x3 → getT tb 66 = I64 (k : Int) → getT tb 67 = .ptr 40 x1 1 → getT tb 68 = .arr 136 x3 → getT tb 69 = I64 (k : Int) → exT C0 0 (inlW C0 [fm_copyTabS] [fw_pick, fw_one] 0 0) ro_168_14 Q ex_168_14_63 ⟨tb, [⟨0, 0, .cells (RS b (p + 3))⟩, ⟨32, 1, .cells [.nil, .nil]⟩, ⟨40, x1, .cells [.arr 88 x2, .arr 136 x3]⟩, ⟨88, x2, .arr 1 (ints u)⟩, ⟨136, x3, .arr 1 (orowsD t)⟩], g⟩ := by
    intro tb g e4 e5 e6 e64 e65 e66 e67 e68 e69
    unfold ex_168_14_63
    simp only [exT_alt, exT_one, exT_stop, and_true]
    rw [ro_168_14_6]
    simp [hkt, hyr, hyn, hyi, orowsD_ge, rowAt, rowB, e4, e5, e6, e64, e65, e66, e67, e68, e69]
    refine n127 _ _ ?_ ?_ ?_ ?_ ?_ ?_ ?_ ?_ ?_ ?_ <;> simp [getT, e4, e5, e6, e64, e65, e66, e67, e68, e69]
  have n61 : ∀ tb g, getT tb 4 = .ptr 32 1 0 → getT tb 5 = .ptr 40 x1 0 → getT tb 6 = I64 (k : Int) → getT tb 64 = .ptr 40 x1 1 → getT tb 66 = I64 (k : Int) → getT tb 67 = .ptr 40 x1 1 → getT tb 68 = .arr 136 x3 → getT tb 69 = I64 (k : Int) → exT C0 0 (inlW C0 [fm_copyTabS] [fw_pick, fw_one] 0 0) ro_168_14 Q ex_168_14_61 ⟨tb, [⟨0, 0, .cells (RS b (p + 3))⟩, ⟨32, 1, .cells [.nil, .nil]⟩, ⟨40, x1, .cells [.arr 88 x2, .arr 136 x3]⟩, ⟨88, x2, .arr 1 (ints u)⟩, ⟨136, x3, .arr 1 (orowsD t)⟩], g⟩ := by
    intro tb g e4 e5 e6 e64 e66 e67 e68 e69
    unfold ex_168_14_61
    simp only [exT_alt, exT_one, exT_stop, and_true]
    refine ⟨?_, ?_⟩
    · rw [ro_168_14_1]
      simp [hkt, hyr, hyn, hyi, orowsD_ge, rowAt, rowB, e4, e5, e6, e64, e66, e67, e68, e69]
      refine n63 _ _ ?_ ?_ ?_ ?_ ?_ ?_ ?_ ?_ ?_ <;> simp [getT, e4, e5, e6, e64, e66, e67, e68, e69]
    · rw [ro_168_14_6]
      simp [hkt, hyr, hyn, hyi, orowsD_ge, rowAt, rowB, e4, e5, e6, e64, e66, e67, e68, e69]
      refine n125 _ _ ?_ ?_ ?_ ?_ ?_ ?_ ?_ ?_ ?_ <;> simp [getT, e4, e5, e6, e64, e66, e67, e68, e69]
  have n60 : ∀ tb g, getT tb 4 = .ptr 32 1 0 → getT tb 5 = .ptr 40 x1 0 → getT tb 6 = I64 (k : Int) → getT tb 66 = I64 (k : Int) → getT tb 67 = .ptr 40 x1 1 → getT tb 68 = .arr 136 x3 → getT tb 69 = I64 (k : Int) → exT C0 0 (inlW C0 [fm_copyTabS] [fw_pick, fw_one] 0 0) ro_168_14 Q ex_168_14_60 ⟨tb, [⟨0, 0, .cells (RS b (p + 3))⟩, ⟨32, 1, .cells [.nil, .nil]⟩, ⟨40, x1, .cells [.arr 88 x2, .arr 136 x3]⟩, ⟨88, x2, .arr 1 (ints u)⟩, ⟨136, x3, .arr 1 (orowsD t)⟩], g⟩ := by
    intro tb g e4 e5 e6 e66 e67 e68 e69
    unfold ex_168_14_60
    simp only [exT_alt, exT_one, exT_stop, and_true]
    refine ⟨?_, ?_⟩
    · rw [ro_168_14_0]
      simp [hkt, hyr, hyn, hyi, orowsD_ge, rowAt, rowB, e4, e5, e6, e66, e67, e68, e69]
      refine n61 _ _ ?_ ?_ ?_ ?_ ?_ ?_ ?_ ?_ <;> simp [getT, e4, e5, e6, e66, e67, e68, e69]
    · rw [ro_168_14_6]
      simp [hkt, hyr, hyn, hyi, orowsD_ge, rowAt, rowB, e4, e5, e6, e66, e67, e68, e69]
      refine n124 _ _ ?_ ?_ ?_ ?_ ?_ ?_ ?_ ?_ <;> simp [getT, e4, e5, e6, e66, e67, e68, e69]
  have n47 : ∀ tb g, getT tb 4 = .ptr 32 1 0 → getT tb 5 = .ptr 40 x1 0 → getT tb 6 = I64 (k : Int) → getT tb 64 = .ptr 40 x1 1 → getT tb 65 = .arr 136 x3 → getT tb 66 = I64 (k : Int) → getT tb 67 = .ptr 40 x1 1 → getT tb 69 = I64 (k : Int) → exT C0 0 (inlW C0 [fm_copyTabS] [fw_pick, fw_one] 0 0) ro_168_14 Q ex_168_14_47 ⟨tb, [⟨0, 0, .cells (RS b (p + 3))⟩, ⟨32, 1, .cells [.nil, .nil]⟩, ⟨40, x1, .cells [.arr 88 x2, .arr 136 x3]⟩, ⟨88, x2, .arr 1 (ints u)⟩, ⟨136, x3, .arr 1 (orowsD t)⟩], g⟩ := by
    intro tb g e4 e5 e6 e64 e65 e66 e67 e69
    unfold ex_168_14_47
    simp only [exT_alt, exT_one, exT_stop, and_true]
    rw [ro_168_14_4]
    simp [hkt, hyr, hyn, hyi, orowsD_ge, rowAt, rowB, e4, e5, e6, e64, e65, e66, e67, e69]
    refine n63 _ _ ?_ ?_ ?_ ?_ ?_ ?_ ?_ ?_ ?_ <;> simp [getT, e4, e5, e6, e64, e65, e66, e67, e69]
  have n45 : ∀ tb g, getT tb 4 = .ptr 32 1 0 → getT tb 5 = .ptr 40 x1 0 → getT tb 6 = I64 (k : Int) → getT tb 64 = .ptr 40 x1 1 → getT tb 66 = I64 (k : Int) → getT tb 67 = .ptr 40 x1 1 → getT tb 69 = I64 (k : Int) → exT C0 0 (inlW C0 [fm_copyTabS] [fw_pick, fw_one] 0 0) ro_168_14 Q ex_168_14_45 ⟨tb, [⟨0, 0, .cells (RS b (p + 3))⟩, ⟨32, 1, .cells [.nil, .nil]⟩, ⟨40, x1, .cells [.arr 88 x2, .arr 136 x3]⟩, ⟨88, x2, .arr 1 (ints u)⟩, ⟨136, x3, .arr 1 (orowsD t)⟩], g⟩ := by
    intro tb g e4 e5 e6 e64 e66 e67 e69
    unfold ex_168_14_45
    simp only [exT_alt, exT_one, exT_stop, and_true]
    refine ⟨?_, ?_⟩
    · rw [ro_168_14_1]
      simp [hkt, hyr, hyn, hyi, orowsD_ge, rowAt, rowB, e4, e5, e6, e64, e66, e67, e69]
      refine n47 _ _ ?_ ?_ ?_ ?_ ?_ ?_ ?_ ?_ <;> simp [getT, e4, e5, e6, e64, e66, e67, e69]
    · rw [ro_168_14_4]
      simp [hkt, hyr, hyn, hyi, orowsD_ge, rowAt, rowB, e4, e5, e6, e64, e66, e67, e69]
      refine n61 _ _ ?_ ?_ ?_ ?_ ?_ ?_ ?_ ?_ <;> simp [getT, e4, e5, e6, e64, e66, e67, e69]
  have n44 : ∀ tb g, getT tb 4 = .ptr 32 1 0 → getT tb 5 = .ptr 40 x1 0 → getT tb 6 = I64 (k : Int) → getT tb 66 = I64 (k : Int) → getT tb 67 = .ptr 40 x1 1 → getT tb 69 = I64 (k : Int) → exT C0 0 (inlW C0 [fm_copyTabS] [fw_pick, fw_one] 0 0) ro_168_14 Q ex_168_14_44 ⟨tb, [⟨0, 0, .cells (RS b (p + 3))⟩, ⟨32, 1, .cells [.nil, .nil]⟩, ⟨40, x1, .cells [.arr 88 x2, .arr 136 x3]⟩, ⟨88, x2, .arr 1 (ints u)⟩, ⟨136, x3, .arr 1 (orowsD t)⟩], g⟩ := by
    intro tb g e4 e5 e6 e66 e67 e69
    unfold ex_168_14_44
    simp only [exT_alt, exT_one, exT_stop, and_true]
    refine ⟨?_, ?_⟩
    · rw [ro_168_14_0]
      simp [hkt, hyr, hyn, hyi, orowsD_ge, rowAt, rowB, e4, e5, e6, e66, e67, e69]
      refine n45 _ _ ?_ ?_ ?_ ?_ ?_ ?_ ?_ <;> simp [getT, e4, e5, e6, e66, e67, e69]
    · rw [ro_168_14_4]
      simp [hkt, hyr, hyn, hyi, orowsD_ge, rowAt, rowB, e4, e5, e6, e66, e67, e69]
      refine n60 _ _ ?_ ?_ ?_ ?_ ?_ ?_ ?_ <;> simp [getT, e4, e5, e6, e66, e67, e69]
  have n39 : ∀ tb g, getT tb 4 = .ptr 32 1 0 → getT tb 5 = .ptr 40 x1 0 → getT tb 6 = I64 (k : Int) → getT tb 64 = .ptr 40 x1 1 → getT tb 65 = .arr 136 x3 → getT tb 66 = I64 (k : Int) → getT tb 69 = I64 (k : Int) → exT C0 0 (inlW C0 [fm_copyTabS] [fw_pick, fw_one] 0 0) ro_168_14 Q ex_168_14_39 ⟨tb, [⟨0, 0, .cells (RS b (p + 3))⟩, ⟨32, 1, .cells [.nil, .nil]⟩, ⟨40, x1, .cells [.arr 88 x2, .arr 136 x3]⟩, ⟨88, x2, .arr 1 (ints u)⟩, ⟨136, x3, .arr 1 (orowsD t)⟩], g⟩ := by
    intro tb g e4 e5 e6 e64 e65 e66 e69
    unfold ex_168_14_39
    simp only [exT_alt, exT_one, exT_stop, and_true]
    rw [ro_168_14_3]
    simp [hkt, hyr, hyn, hyi, orowsD_ge, rowAt, rowB, e4, e5, e6, e64, e65, e66, e69]
    refine n47 _ _ ?_ ?_ ?_ ?_ ?_ ?_ ?_ ?_ <;> simp [getT, e4, e5, e6, e64, e65, e66, e69]
  have n37 : ∀ tb g, getT tb 4 = .ptr 32 1 0 → getT tb 5 = .ptr 40 x1 0 → getT tb 6 = I64 (k : Int) → getT tb 64 = .ptr 40 x1 1 → getT tb 66 = I64 (k : Int) → getT tb 69 = I64 (k : Int) → exT C0 0 (inlW C0 [fm_copyTabS] [fw_pick, fw_one] 0 0) ro_168_14 Q ex_168_14_37 ⟨tb, [⟨0, 0, .cells (RS b (p + 3))⟩, ⟨32, 1, .cells [.nil, .nil]⟩, ⟨40, x1, .cells [.arr 88 x2, .arr 136 x3]⟩, ⟨88, x2, .arr 1 (ints u)⟩, ⟨136, x3, .arr 1 (orowsD t)⟩], g⟩ := by
    intro tb g e4 e5 e6 e64 e66 e69
    unfold ex_168_14_37
    simp only [exT_alt, exT_one, exT_stop, and_true]
    refine ⟨?_, ?_⟩
    · rw [ro_168_14_1]
      simp [hkt, hyr, hyn, hyi, orowsD_ge, rowAt, rowB, e4, e5, e6, e64, e66, e69]
      refine n39 _ _ ?_ ?_ ?_ ?_ ?_ ?_ ?_ <;> simp [getT, e4, e5, e6, e64, e66, e69]
    · rw [ro_168_14_3]
      simp [hkt, hyr, hyn, hyi, orowsD_ge, rowAt, rowB, e4, e5, e6, e64, e66, e69]
      refine n45 _ _ ?_ ?_ ?_ ?_ ?_ ?_ ?_ <;> simp [getT, e4, e5, e6, e64, e66, e69]
  have n36 : ∀ tb g, getT tb 4 = .ptr 32 1 0 → getT tb 5 = .ptr 40 x1 0 → getT tb 6 = I64 (k : Int) → getT tb 66 = I64 (k : Int) → getT tb 69 = I64 (k : Int) → exT C0 0 (inlW C0 [fm_copyTabS] [fw_pick, fw_one] 0 0) ro_168_14 Q ex_168_14_36 ⟨tb, [⟨0, 0, .cells (RS b (p + 3))⟩, ⟨32, 1, .cells [.nil, .nil]⟩, ⟨40, x1, .cells [.arr 88 x2, .arr 136 x3]⟩, ⟨88, x2, .arr 1 (ints u)⟩, ⟨136, x3, .arr 1 (orowsD t)⟩], g⟩ := by
    intro tb g e4 e5 e6 e66 e69
    unfold ex_168_14_36
    simp only [exT_alt, exT_one, exT_stop, and_true]
    refine ⟨?_, ?_⟩
    · rw [ro_168_14_0]
      simp [hkt, hyr, hyn, hyi, orowsD_ge, rowAt, rowB, e4, e5, e6, e66, e69]
      refine n37 _ _ ?_ ?_ ?_ ?_ ?_ ?_ <;> simp [getT, e4, e5, e6, e66, e69]
    · rw [ro_168_14_3]
      simp [hkt, hyr, hyn, hyi, orowsD_ge, rowAt, rowB, e4, e5, e6, e66, e69]
      refine n44 _ _ ?_ ?_ ?_ ?_ ?_ ?_ <;> simp [getT, e4, e5, e6, e66, e69]
  have n4 : ∀ tb g, getT tb 4 = .ptr 32 1 0 → getT tb 5 = .ptr 40 x1 0 → getT tb 6 = I64 (k : Int) → getT tb 66 = I64 (k : Int) → exT C0 0 (inlW C0 [fm_copyTabS] [fw_pick, fw_one] 0 0) ro_168_14 Q ex_168_14_4 ⟨tb, [⟨0, 0, .cells (RS b (p + 3))⟩, ⟨32, 1, .cells [.nil, .nil]⟩, ⟨40, x1, .cells [.arr 88 x2, .arr 136 x3]⟩, ⟨88, x2, .arr 1 (ints u)⟩, ⟨136, x3, .arr 1 (orowsD t)⟩], g⟩ := by
    intro tb g e4 e5 e6 e66
    unfold ex_168_14_4
    simp only [exT_alt, exT_one, exT_stop, and_true]
    rw [ro_168_14_5]
    simp [hkt, hyr, hyn, hyi, orowsD_ge, rowAt, rowB, e4, e5, e6, e66]
    refine n36 _ _ ?_ ?_ ?_ ?_ ?_ <;> simp [getT, e4, e5, e6, e66]
  have n0 : ∀ tb g, getT tb 4 = .ptr 32 1 0 → getT tb 5 = .ptr 40 x1 0 → getT tb 6 = I64 (k : Int) → exT C0 0 (inlW C0 [fm_copyTabS] [fw_pick, fw_one] 0 0) ro_168_14 Q ex_168_14_0 ⟨tb, [⟨0, 0, .cells (RS b (p + 3))⟩, ⟨32, 1, .cells [.nil, .nil]⟩, ⟨40, x1, .cells [.arr 88 x2, .arr 136 x3]⟩, ⟨88, x2, .arr 1 (ints u)⟩, ⟨136, x3, .arr 1 (orowsD t)⟩], g⟩ := by
    intro tb g e4 e5 e6
    unfold ex_168_14_0
    simp only [exT_alt, exT_one, exT_stop, and_true]
    rw [ro_168_14_2]
    simp [hkt, hyr, hyn, hyi, orowsD_ge, rowAt, rowB, e4, e5, e6]
    refine n4 _ _ ?_ ?_ ?_ ?_ <;> simp [getT, e4, e5, e6]
  exact n0

end Go.PS
end

section
-- Contracts: algebras that are drawn and may be invalid: the walk.
set_option maxRecDepth 100000
set_option linter.unusedVariables false
set_option linter.unusedSimpArgs false
namespace Go.PS
open Go.Proofs

set_option maxHeartbeats 4000000 in
theorem bent_pc (b : List Int) (p : Nat) (u : List Int) (t : List (List Int)) (hb : BB b) (hp : p ≤ 1000000) (hp2 : p ≤ 970000) (ga : GA (u, t)) : PC Try.prog 168 (.ptr 0 0 0 :: [AL u t]) (some (RS b p)) false (fun r c => imm 5 r = imm 5 (AL (bnM b p u t).1.1 (bnM b p u t).1.2) ∧ c = (RS b ((bnM b p u t).2))) := by
  have h1 : 1 ≤ u.length := ga.pos
  have h6 : u.length ≤ 6 := ga.six
  have sq : SQ u.length t := ga.sq
  have r0 := pkM_rng hb (p := p) (by omega) (n := 16) (by omega)
  refine pcW [fm_copyTabS] [fw_pick, fw_one] fok_168 ?_
  by_cases c0 : 0 < pkM b p 16
  · have e : bnM b p u t = ((u, t), p + 1) := by unfold bnM; rw [if_pos c0]
    rw [e]
    simp [fa_168, callOW, hb, hp, c0]
  · have lt := fm_copyTabS_look t ga.bigR
    have r1 := pkM_rng hb (p := p + 1) (by omega) (n := u.length) (by omega)
    have r2 := pkM_rng hb (p := p + 2) (by omega) (n := 5) (by omega)
    have z0 : pkM b p 16 = 0 := by omega
    simp [fa_168, callOW, hb, hp, z0]
    refine cutE (α := Nat × Nat × Nat) (fun x => [(0, .ptr 0 0 0), (4, .ptr 32 1 0), (5, .ptr 40 x.1 0)]) (fun x => [⟨0, 0, .cells (RS b (p + 1))⟩, ⟨32, 1, .cells [.nil, .nil]⟩, ⟨40, x.1, .cells [.arr 88 x.2.1, .arr 136 x.2.2]⟩, ⟨88, x.2.1, .arr 1 (ints u)⟩, ⟨136, x.2.2, .arr 1 (orowsD t)⟩]) ?_ (fun x g0 => ?_)
    · simp
      repeat' first
        | refine And.intro ?_ ?_
        | exact le_big (by omega)
        | (refine callDO1 fm_copyTabS (by simp) (by simp) (v := RO t) (by simp; exact lt) ?_; simp)
    · obtain ⟨x1, x2, x3⟩ := x
      have n1 : p + 1 + 1 = p + 2 := rfl
      have n2 : p + 2 + 1 = p + 3 := rfl
      have n3 : p + 3 + 1 = p + 4 := rfl
      have n4 : p + 4 + 1 = p + 5 := rfl
      have b1 : p + 1 ≤ 1000000 := by omega
      have b2 : p + 2 ≤ 1000000 := by omega
      have b3 : p + 3 ≤ 1000000 := by omega
      have b4 : p + 4 ≤ 1000000 := by omega
      have hul : (u.length : Int) ≤ 1099511627776 := by omega
      obtain ⟨k, hk⟩ : ∃ k : Nat, pkM b (p + 1) u.length = k := ⟨(pkM b (p + 1) u.length).toNat, by omega⟩
      have hku : k < u.length := by omega
      have hkt : k < t.length := by rw [sq.len]; exact hku
      have r3 := pkM_rng hb (p := p + 3) (by omega) (n := u.length) (by omega)
      have e0 : bnM b p u t = (let c := pkM b (p + 2) 5
    if c = 0 then ((u, t.set k ((gr t k).set (pkM b (p + 3) u.length).toNat (gi [0, 1, -1, 6] (pkM b (p + 4) 4).toNat))), p + 5)
    else if c = 1 then ((u.set k (gi [0, 3, -1] (pkM b (p + 3) 3).toNat), t), p + 4)
    else if c = 2 then ((u, t.tail), p + 3)
    else if c = 3 then ((u, t.set k ((gr t k).tail)), p + 3)
    else ((u ++ [64], t), p + 3)) := by unfold bnM; rw [if_neg c0, hk, Int.toNat_natCast]
      rw [e0]
      clear e0
      simp [callOW, hb, b1, b2, n1, n2, hul, hk]
      refine ⟨fun c => ?_, fun c => ?_⟩
      · have l1 : fw_one.look [.ptr 0 0 0, .list 1 [.int .i64 0, .int .i64 1, .int .i64 (-1), .int .i64 6]] (RS b (p + 4)) = some (I64 (gi [0, 1, -1, 6] (pkM b (p + 4) 4).toNat), RS b (p + 5)) := fw_one_look b (p + 4) [0, 1, -1, 6] hb (by omega) (by unfold Big; simp) (by simp)
        obtain ⟨y, hy⟩ : ∃ y : Nat, pkM b (p + 3) u.length = y := ⟨(pkM b (p + 3) u.length).toNat, by omega⟩
        have hyu : y < u.length := by omega
        have l0 : fw_pick.look [.ptr 0 0 0, I64 u.length] (RS b (p + 3)) = some (I64 y, RS b (p + 4)) := by rw [← hy]; exact fw_pick_look b (p + 3) u.length hb (by omega) hul
        generalize gi [0, 1, -1, 6] (pkM b (p + 4) 4).toNat = z at *
        simp only [c, if_true, hy, Int.toNat_natCast]
        refine cutE (α := Unit) (fun _ => [(4, .ptr 32 1 0), (5, .ptr 40 x1 0)]) (fun _ => [⟨0, 0, .cells (RS b (p + 5))⟩, ⟨32, 1, .cells [.nil, .nil]⟩, ⟨40, x1, .cells [.arr 88 x2, .arr 136 x3]⟩, ⟨88, x2, .arr 1 (ints u)⟩, ⟨136, x3, .arr 1 (orowsD (t.set k ((gr t k).set y z)))⟩]) ?_ (fun _ g0 => ?_)
        · refine bent_dag8 hkt (by rw [sq.rows k hku]; exact hyu) l0 l1 (fun tb g q4 q5 => ?_) _ _ (by simp) (by simp) (by simp) (by simp)
          simp [q4, q5]
        · simp
      · have c' : ¬ pkM b (p + 2) 5 = 0 := c
        simp only [c', if_false]
        refine ⟨fun d => ?_, fun d => ?_⟩
        · have l1 : fw_one.look [.ptr 0 0 0, .list 1 [.int .i64 0, .int .i64 3, .int .i64 (-1)]] (RS b (p + 3)) = some (I64 (gi [0, 3, -1] (pkM b (p + 3) 3).toNat), RS b (p + 4)) := fw_one_look b (p + 3) [0, 3, -1] hb (by omega) (by unfold Big; simp) (by simp)
          generalize gi [0, 3, -1] (pkM b (p + 3) 3).toNat = z at *
          simp only [d, if_true]
          refine cutE (α := Unit) (fun _ => [(4, .ptr 32 1 0), (5, .ptr 40 x1 0)]) (fun _ => [⟨0, 0, .cells (RS b (p + 4))⟩, ⟨32, 1, .cells [.nil, .nil]⟩, ⟨40, x1, .cells [.arr 88 x2, .arr 136 x3]⟩, ⟨88, x2, .arr 1 (ints (u.set k z))⟩, ⟨136, x3, .arr 1 (orowsD t)⟩]) ?_ (fun _ g0 => ?_)
          · refine bent_dag10 hku l1 (fun tb g q4 q5 => ?_) _ _ (by simp) (by simp) (by simp) (by simp)
            simp [q4, q5]
          · simp
        · have d' : ¬ pkM b (p + 2) 5 = 1 := d
          simp only [d', if_false]
          refine ⟨fun e => ?_, fun e => ?_⟩
          · simp only [e, if_true]
            exact ⟨by omega, ⟨trivial, by rw [← rowsD_length (r := t), List.take_length]; simp [rowsD]⟩, trivial⟩
          · have e' : ¬ pkM b (p + 2) 5 = 2 := e
            simp only [e', if_false]
            refine ⟨fun f => ?_, fun f => ?_⟩
            · simp only [f, if_true]
              refine cutE (α := Unit) (fun _ => [(4, .ptr 32 1 0), (5, .ptr 40 x1 0)]) (fun _ => [⟨0, 0, .cells (RS b (p + 3))⟩, ⟨32, 1, .cells [.nil, .nil]⟩, ⟨40, x1, .cells [.arr 88 x2, .arr 136 x3]⟩, ⟨88, x2, .arr 1 (ints u)⟩, ⟨136, x3, .arr 1 ((orowsD t).set k (IL ((gr t k).tail)))⟩]) ?_ (fun _ g0 => ?_)
              · refine bent_dag14 hkt (by rw [sq.rows k hku]; exact h1) (fun e => by have := sq.rows k hku; rw [e] at this; simp at this; omega) (by rw [sq.rows k hku]; omega) (fun tb g q4 q5 => ?_) _ _ (by simp) (by simp) (by simp)
                simp [q4, q5]
              · simp
                simp [rowsD, List.map_set]
            · have f' : ¬ pkM b (p + 2) 5 = 3 := f
              simp only [f', if_false]
              exact ⟨le_big (by omega), ⟨trivial, trivial⟩, trivial⟩
noncomputable def fw_bent : FamW Try.prog := mkFamW (X := List Int × Nat × List Int × List (List Int)) 168 (fun (b, p, u, t) => (.ptr 0 0 0 :: [AL u t])) (fun (b, p, u, t) => (RS b p)) (fun (b, p, u, t) => (BB b) ∧ (p ≤ 1000000) ∧ (p ≤ 970000) ∧ (GA (u, t))) (fun (b, p, u, t) => AL (bnM b p u t).1.1 (bnM b p u t).1.2) (fun (b, p, u, t) => (RS b ((bnM b p u t).2))) (by
  rintro ⟨b, p, u, t⟩ ⟨hb, hp, hp2, ga⟩
  exact bent_pc b p u t hb hp hp2 ga)
@[simp] theorem fw_bent_id : fw_bent.id = 168 := rfl
@[simp] theorem fw_bent_look (b : List Int) (p : Nat) (u : List Int) (t : List (List Int)) (hb : BB b) (hp : p ≤ 1000000) (hp2 : p ≤ 970000) (ga : GA (u, t)) : fw_bent.look (.ptr 0 0 0 :: [AL u t]) (RS b p) = some (AL (bnM b p u t).1.1 (bnM b p u t).1.2, (RS b ((bnM b p u t).2))) :=
  lookG_of (X := List Int × Nat × List Int × List (List Int)) (args := fun (b, p, u, t) => (.ptr 0 0 0 :: [AL u t])) (cell := fun (b, p, u, t) => (RS b p)) (pre := fun (b, p, u, t) => (BB b) ∧ (p ≤ 1000000) ∧ (p ≤ 970000) ∧ (GA (u, t))) (val := fun (b, p, u, t) => AL (bnM b p u t).1.1 (bnM b p u t).1.2) (cell' := fun (b, p, u, t) => (RS b ((bnM b p u t).2))) (by
  rintro ⟨b, p, u, t⟩ ⟨b', p', u', t'⟩ h h2
  simp at h h2
  try simp only [and_assoc] at h
  obtain ⟨rfl, rfl⟩ := h2
  obtain ⟨rfl, rfl⟩ := h
  exact ⟨rfl, rfl⟩) (b, p, u, t) ⟨hb, hp, hp2, ga⟩
attribute [irreducible] fw_bent
end Go.PS
end

section
-- Functions run in place.
set_option maxRecDepth 100000
set_option linter.unusedVariables false
set_option linter.unusedSimpArgs false
namespace Go.PS
open Go.Proofs
/-- The program with some functions run in place. -/
noncomputable def CI (f : Nat → Option FnA) : Ctx := ⟨Try.prog, tyOf Try.prog, f⟩
@[simp] theorem CI_P {f : Nat → Option FnA} : (CI f).P = Try.prog := rfl
@[simp] theorem CI_tt {f : Nat → Option FnA} (T : Nat) : (CI f).tt T = tyOf Try.prog T := rfl
@[simp] theorem CI_inl {f : Nat → Option FnA} : (CI f).inl = f := rfl
theorem pcI (g : Nat → Option FnA) (hg : ∀ id fa, g id = some fa → ∃ A, FnOk Try.prog id fa A) (T : List (Fam Try.prog)) (n : Nat) {f : Nat} {fa : FnA} {A : Ann} (hf : FnOk Try.prog f fa A) {ds : List D} {fresh : Bool} {R : D → List D → Prop}
    (h : run (CI g) 0 (inlT (CI g) T n 0) fa.ac (retQ (CI g).tt fresh fa.res R false) ⟨args0 0 ds, [], 1⟩) : PC Try.prog f ds none fresh R :=
  pc_of_run (C := CI g) (kb := 0) (io := none) hty0 Try.checked.mixed (inlT_ok (C := CI g) hty0 Try.checked.mixed hg T n 0) hf h

end Go.PS
end

section
-- Contracts: some algebra; a new reader, in place.
set_option maxRecDepth 100000
set_option linter.unusedVariables false
set_option linter.unusedSimpArgs false
namespace Go.PS
open Go.Proofs

/-- Some algebra, and how many numbers have been drawn. -/
def saM (b : List Int) (p : Nat) : Alg × Nat := bnM b (gaM b p).2 (gaM b p).1.1 (gaM b p).1.2
/-- Of few elements. -/
structure Few (a : Alg) : Prop where
  u : a.1.length ≤ 7
  t : a.2.length ≤ 6
  r : ∀ x ∈ a.2, x.length ≤ 6
theorem Few.big {a : Alg} (g : Few a) : Big a.1.length := by unfold Big; have := g.u; omega
theorem Few.bigR {a : Alg} (g : Few a) : BigR a.2 := ⟨by unfold Big; have := g.t; omega, fun x hx => by unfold Big; have := g.r x hx; omega⟩
theorem GA.few {a : Alg} (g : GA a) : Few a := by
  refine ⟨by have := g.six; omega, by rw [g.sq.len]; exact g.six, fun x hx => ?_⟩
  obtain ⟨i, hi, rfl⟩ := List.mem_iff_getElem.1 hx
  have := g.sq.rows i (by rw [← g.sq.len]; exact hi)
  simp [gr, List.getElem?_eq_getElem hi] at this
  have := g.six
  omega
theorem few_set {u : List Int} {t : List (List Int)} {k : Nat} {r : List Int} (g : Few (u, t)) (hr : r.length ≤ 6) : Few (u, t.set k r) :=
  ⟨g.u, by simpa using g.t, fun x hx => by
    rcases List.mem_or_eq_of_mem_set hx with h | h
    · exact g.r x h
    · rw [h]; exact hr⟩
theorem bnM_few {b : List Int} {p : Nat} {u : List Int} {t : List (List Int)} (g : GA (u, t)) : Few (bnM b p u t).1 ∧ (bnM b p u t).2 ≤ p + 5 := by
  have f := g.few
  have hrow : ∀ k, (gr t k).length ≤ 6 := fun k => by
    by_cases h : k < t.length
    · exact f.r _ (gr_mem h)
    · simp [gr, List.getElem?_eq_none (Nat.le_of_not_lt h)]
  unfold bnM
  split
  · exact ⟨f, by show p + 1 ≤ p + 5; omega⟩
  · dsimp only
    split
    · exact ⟨few_set f (by rw [List.length_set]; exact hrow _), Nat.le_refl _⟩
    · split
      · exact ⟨⟨by have := f.u; simpa using this, f.t, f.r⟩, by show p + 4 ≤ p + 5; omega⟩
      · split
        · exact ⟨⟨f.u, by have := f.t; simp at this ⊢; omega, fun x hx => f.r x (List.mem_of_mem_tail hx)⟩, by show p + 3 ≤ p + 5; omega⟩
        · split
          · exact ⟨few_set f (by have := hrow (pkM b (p + 1) u.length).toNat; simp; omega), by show p + 3 ≤ p + 5; omega⟩
          · exact ⟨⟨by have := g.six; simp at this ⊢; omega, f.t, f.r⟩, by show p + 3 ≤ p + 5; omega⟩
theorem saM_few {b : List Int} (hb : BB b) {p : Nat} (hp : p ≤ 960000) : Few (saM b p).1 ∧ (saM b p).2 ≤ p + 15 := by
  obtain ⟨g, q⟩ := gaM_ga hb (p := p) (by omega)
  have h := bnM_few (b := b) (p := (gaM b p).2) (u := (gaM b p).1.1) (t := (gaM b p).1.2) g
  exact ⟨h.1, by have := h.2; unfold saM; omega⟩

theorem someAlg_pc (b : List Int) (p : Nat) (hb : BB b) (hp : p ≤ 1000000) (hp2 : p ≤ 960000) : PC Try.prog 105 (.ptr 0 0 0 :: []) (some (RS b p)) false (fun r c => imm 5 r = imm 5 (AL (saM b p).1.1 (saM b p).1.2) ∧ c = (RS b ((saM b p).2))) := by
  obtain ⟨g, q⟩ := gaM_ga hb (p := p) (by omega)
  have l1 := fw_goodAlg_look b p hb (by omega) (by omega)
  have l2 := fw_bent_look b (gaM b p).2 (gaM b p).1.1 (gaM b p).1.2 hb (by omega) (by omega) g
  unfold saM
  generalize gaM b p = A at *
  obtain ⟨⟨u, t⟩, p1⟩ := A
  dsimp only at *
  generalize bnM b p1 u t = B at *
  obtain ⟨⟨u2, t2⟩, p2⟩ := B
  dsimp only at *
  refine pcW [] [fw_goodAlg, fw_bent] fok_105 ?_
  simp [fa_105, callOW, hb, hp, l1, l2]
noncomputable def fw_someAlg : FamW Try.prog := mkFamW (X := List Int × Nat) 105 (fun (b, p) => (.ptr 0 0 0 :: [])) (fun (b, p) => (RS b p)) (fun (b, p) => (BB b) ∧ (p ≤ 1000000) ∧ (p ≤ 960000)) (fun (b, p) => AL (saM b p).1.1 (saM b p).1.2) (fun (b, p) => (RS b ((saM b p).2))) (by
  rintro ⟨b, p⟩ ⟨hb, hp, hp2⟩
  exact someAlg_pc b p hb hp hp2)
@[simp] theorem fw_someAlg_id : fw_someAlg.id = 105 := rfl
@[simp] theorem fw_someAlg_look (b : List Int) (p : Nat) (hb : BB b) (hp : p ≤ 1000000) (hp2 : p ≤ 960000) : fw_someAlg.look (.ptr 0 0 0 :: []) (RS b p) = some (AL (saM b p).1.1 (saM b p).1.2, (RS b ((saM b p).2))) :=
  lookG_of (X := List Int × Nat) (args := fun (b, p) => (.ptr 0 0 0 :: [])) (cell := fun (b, p) => (RS b p)) (pre := fun (b, p) => (BB b) ∧ (p ≤ 1000000) ∧ (p ≤ 960000)) (val := fun (b, p) => AL (saM b p).1.1 (saM b p).1.2) (cell' := fun (b, p) => (RS b ((saM b p).2))) (by
  rintro ⟨b, p⟩ ⟨b', p'⟩ h h2
  simp at h h2
  try simp only [and_assoc] at h
  obtain ⟨rfl, rfl⟩ := h2
  exact ⟨rfl, rfl⟩) (b, p) ⟨hb, hp, hp2⟩
attribute [irreducible] fw_someAlg

/-- What a reader reads. -/
def rdB (code : List Int) : List Int := code.take 2000
def Byt (code : List Int) : Prop := ∀ x ∈ code, 0 ≤ x ∧ x ≤ 255
theorem rdB_ok {code : List Int} (h : Byt code) : BB (rdB code) := ⟨by simp [rdB]; omega, fun x hx => h x (List.mem_of_mem_take hx)⟩
def inlR (id : Nat) : Option FnA := if id = 90 then some fa_90 else none
theorem inlR_ok (id : Nat) (fa : FnA) (h : inlR id = some fa) : ∃ A, FnOk Try.prog id fa A := by
  unfold inlR at h
  split at h
  · rename_i e; injection h with h; subst h; exact ⟨_, e ▸ fok_90⟩
  · cases h
theorem pcR (T : List (Fam Try.prog)) (TW : List (FamW Try.prog)) {f : Nat} {fa : FnA} {A : Ann} (hf : FnOk Try.prog f fa A) {ds : List D} {fresh : Bool} {R : D → List D → Prop}
    (h : run (CI inlR) 0 (inlW (CI inlR) T TW 1 0) fa.ac (retQ (CI inlR).tt fresh fa.res R false) ⟨args0 0 ds, [], 1⟩) : PC Try.prog f ds none fresh R :=
  pc_of_run (C := CI inlR) (kb := 0) (io := none) hty0 Try.checked.mixed (inlW_ok (C := CI inlR) hty0 Try.checked.mixed (by intro f fa h; exact inlR_ok f fa h) T TW 1 0) hf h
section
variable {T : List (Fam Try.prog)} {TW : List (FamW Try.prog)} {n kb kb' id : Nat} {caps args : List D} {σ : St} {d : Option Nat} {ops : List AOper} {Q : St → Prop}
theorem callOWR (hn : (id == 90) = false) (hw : (findW id TW).isSome = true) : callO (CI inlR) kb' (inlW (CI inlR) T TW n kb) d 16 (.fn id caps) args σ ops Q = tabW2 (findW id TW) (args ++ caps) σ.h (fun v h => opsK (CI inlR) kb' (inlW (CI inlR) T TW n kb) ops ⟨put σ.t d (imm 5 v), h, σ.g⟩ Q) :=
  callO16W' (by show inlR id = none; unfold inlR; rw [if_neg (by simpa using hn)]) hw
theorem callDOWR (hn : (id == 90) = false) (hw : (findW id TW).isSome = true) : callDO (CI inlR) kb' (inlW (CI inlR) T TW n kb) d 16 (.fn id caps) args σ ops Q = tabW2 (findW id TW) (args ++ caps) σ.h (fun v h => opsKc (CI inlR) kb' (inlW (CI inlR) T TW n kb) ops ⟨put σ.t d (imm 5 v), h, σ.g⟩ Q) :=
  callDO16W' (by show inlR id = none; unfold inlR; rw [if_neg (by simpa using hn)]) hw
theorem callOTR (hn : (id == 90) = false) (hw : (findW id TW).isNone = true) : callO (CI inlR) kb' (inlW (CI inlR) T TW n kb) d 3 (.fn id caps) args σ ops Q = tab2 (findF id T) (args ++ caps) σ.h (fun v => opsK (CI inlR) kb' (inlW (CI inlR) T TW n kb) ops ⟨put σ.t d (imm 5 v), σ.h, σ.g⟩ Q) :=
  callO3W' (by show inlR id = none; unfold inlR; rw [if_neg (by simpa using hn)]) hw
theorem callON : callO (CI inlR) kb' (inlW (CI inlR) T TW 1 kb) d 16 (.fn 90 caps) args σ ops Q =
    run (CI inlR) (kb + 4000) (inlW (CI inlR) T TW 0 (kb + 4000)) fa_90.ac (inlQ (CI inlR).tt fa_90.res (backK (CI inlR) kb' (inlW (CI inlR) T TW 1 kb) σ.t d ops Q)) ⟨args0 0 (args ++ caps), σ.h, σ.g⟩ := callO16I (by rfl)
end

/-- A new reader. -/
theorem newR {T : List (Fam Try.prog)} {TW : List (FamW Try.prog)} {σ : St} {d : Option Nat} {ops : List AOper} {Q : St → Prop} {c : List Int} (hl : c.length ≤ 1099511627776)
    (h : opsK (CI inlR) 0 (inlW (CI inlR) T TW 1 0) ops ⟨put σ.t d (.ptr 4080 σ.g 0), ⟨4080, σ.g, .cells (RS (rdB c) 0)⟩ :: hdel σ.h 4080, σ.g + 1⟩ Q) :
    callO (CI inlR) 0 (inlW (CI inlR) T TW 1 0) d 16 (.fn 90 []) [BL c] σ ops Q := by
  rw [callON]
  rcases Nat.lt_or_ge 2000 c.length with q | q
  · simp [fa_90, show ((2000 : Int) < c.length) by omega, show ((2000 : Int) ≤ c.length) by omega, show ¬ ((c.length : Int) ≤ 2000) by omega]
    exact h
  · have e : rdB c = c := by unfold rdB; exact List.take_of_length_le q
    rw [e] at h
    simp [fa_90, show ¬ ((2000 : Int) < c.length) by omega, show ((c.length : Int) ≤ 2000) by omega]
    exact h
end Go.PS
end
