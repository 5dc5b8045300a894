/- Part 5 of what the last text proves: Images are parts: the law holds at every input. -/
import Derived.Test.YthbdihoacfhflaaRa4
section
-- Contracts: algebras that are drawn and may be invalid.
set_option maxRecDepth 100000
set_option linter.unusedVariables false
set_option linter.unusedSimpArgs false
namespace Go.PS
open Go.Proofs

/-- An algebra that may be bent. -/
def bnM (b : List Int) (p : Nat) (u : List Int) (t : List (List Int)) : Alg × Nat :=
  if 0 < pkM b p 16 then ((u, t), p + 1)
  else (let k := (pkM b (p + 1) u.length).toNat; let c := pkM b (p + 2) 5
    if c = 0 then ((u, t.set k ((gr t k).set (pkM b (p + 3) u.length).toNat (gi [0, 1, -1, 6] (pkM b (p + 4) 4).toNat))), p + 5)
    else if c = 1 then ((u.set k (gi [0, 3, -1] (pkM b (p + 3) 3).toNat), t), p + 4)
    else if c = 2 then ((u, t.tail), p + 3)
    else if c = 3 then ((u, t.set k ((gr t k).tail)), p + 3)
    else ((u ++ [64], t), p + 3))

-- PRINTED by dagp.py
set_option maxHeartbeats 2000000 in
theorem bent_dag8 {Q : St → Prop} {b : List Int} {p : Nat} {u : List Int} {t : List (List Int)} {k y x1 x2 x3 : Nat} {z : Int} (hkt : k < t.length) (hyr : y < (gr t k).length) (l0 : fw_pick.look [.ptr 0 0 0, I64 u.length] (RS b (p + 3)) = some (I64 y, RS b (p + 4))) (l1 : fw_one.look [.ptr 0 0 0, .list 1 [.int .i64 0, .int .i64 1, .int .i64 (-1), .int .i64 6]] (RS b (p + 4)) = some (I64 z, RS b (p + 5)))
    (hQ : ∀ tb g, getT tb 4 = .ptr 32 1 0 → getT tb 5 = .ptr 40 x1 0 → Q ⟨tb, [⟨0, 0, .cells (RS b (p + 5))⟩, ⟨32, 1, .cells [.nil, .nil]⟩, ⟨40, x1, .cells [.arr 88 x2, .arr 136 x3]⟩, ⟨88, x2, .arr 1 (ints u)⟩, ⟨136, x3, .arr 1 (orowsD (t.set k ((gr t k).set y z)))⟩], g⟩) : ∀ tb g, getT tb 0 = .ptr 0 0 0 → getT tb 4 = .ptr 32 1 0 → getT tb 5 = .ptr 40 x1 0 → getT tb 6 = I64 (k : Int) → exT C0 0 (inlW C0 [fm_copyTabS] [fw_pick, fw_one] 0 0) ro_168_8 Q ex_168_8_0 ⟨tb, [⟨0, 0, .cells (RS b (p + 3))⟩, ⟨32, 1, .cells [.nil, .nil]⟩, ⟨40, x1, .cells [.arr 88 x2, .arr 136 x3]⟩, ⟨88, x2, .arr 1 (ints u)⟩, ⟨136, x3, .arr 1 (orowsD t)⟩], g⟩ := by
  have n32767 : ∀ tb g, getT tb 0 = .ptr 0 0 0 → getT tb 4 = .ptr 32 1 0 → getT tb 5 = .ptr 40 x1 0 → getT tb 6 = I64 (k : Int) → getT tb 33 = .ptr 40 x1 1 → getT tb 34 = .arr 136 x3 → getT tb 35 = I64 (k : Int) → getT tb 36 = .ptr 136 x3 k → getT tb 37 = .row 136 x3 k → getT tb 38 = .ptr 0 0 0 → getT tb 39 = .ptr 40 x1 0 → getT tb 40 = .arr 88 x2 → getT tb 41 = I64 (u.length : Int) → getT tb 42 = I64 (y : Int) → getT tb 43 = .ptr 0 0 0 → getT tb 44 = .list 1 [.int .i64 0, .int .i64 1, .int .i64 (-1), .int .i64 6] → getT tb 45 = I64 z → getT tb 46 = .rptr 136 x3 k y → exT C0 0 (inlW C0 [fm_copyTabS] [fw_pick, fw_one] 0 0) ro_168_8 Q ex_168_8_32767 ⟨tb, [⟨0, 0, .cells (RS b (p + 5))⟩, ⟨32, 1, .cells [.nil, .nil]⟩, ⟨40, x1, .cells [.arr 88 x2, .arr 136 x3]⟩, ⟨88, x2, .arr 1 (ints u)⟩, ⟨136, x3, .arr 1 (orowsD (t.set k ((gr t k).set y z)))⟩], g⟩ := by
    intro tb g e0 e4 e5 e6 e33 e34 e35 e36 e37 e38 e39 e40 e41 e42 e43 e44 e45 e46
    unfold ex_168_8_32767
    exact hQ tb g e4 e5
  have n16383 : ∀ tb g, getT tb 0 = .ptr 0 0 0 → getT tb 4 = .ptr 32 1 0 → getT tb 5 = .ptr 40 x1 0 → getT tb 6 = I64 (k : Int) → getT tb 33 = .ptr 40 x1 1 → getT tb 34 = .arr 136 x3 → getT tb 35 = I64 (k : Int) → getT tb 36 = .ptr 136 x3 k → getT tb 37 = .row 136 x3 k → getT tb 38 = .ptr 0 0 0 → getT tb 39 = .ptr 40 x1 0 → getT tb 40 = .arr 88 x2 → getT tb 41 = I64 (u.length : Int) → getT tb 42 = I64 (y : Int) → getT tb 43 = .ptr 0 0 0 → getT tb 44 = .list 1 [.int .i64 0, .int .i64 1, .int .i64 (-1), .int .i64 6] → getT tb 45 = I64 z → getT tb 46 = .rptr 136 x3 k y → exT C0 0 (inlW C0 [fm_copyTabS] [fw_pick, fw_one] 0 0) ro_168_8 Q ex_168_8_16383 ⟨tb, [⟨0, 0, .cells (RS b (p + 5))⟩, ⟨32, 1, .cells [.nil, .nil]⟩, ⟨40, x1, .cells [.arr 88 x2, .arr 136 x3]⟩, ⟨88, x2, .arr 1 (ints u)⟩, ⟨136, x3, .arr 1 (orowsD t)⟩], g⟩ := by
    intro tb g e0 e4 e5 e6 e33 e34 e35 e36 e37 e38 e39 e40 e41 e42 e43 e44 e45 e46
    unfold ex_168_8_16383
    simp only [exT_alt, exT_one, exT_stop, and_true]
    rw [ro_168_8_14]
    simp [callDOW, l0, l1, rg4, hkt, hyr, orowsD_ge, rowAt, rowB, e0, e4, e5, e6, e33, e34, e35, e36, e37, e38, e39, e40, e41, e42, e43, e44, e45, e46]
    refine n32767 _ _ ?_ ?_ ?_ ?_ ?_ ?_ ?_ ?_ ?_ ?_ ?_ ?_ ?_ ?_ ?_ ?_ ?_ ?_ <;> simp [getT, e0, e4, e5, e6, e33, e34, e35, e36, e37, e38, e39, e40, e41, e42, e43, e44, e45, e46]
  have n8191 : ∀ tb g, getT tb 0 = .ptr 0 0 0 → getT tb 4 = .ptr 32 1 0 → getT tb 5 = .ptr 40 x1 0 → getT tb 6 = I64 (k : Int) → getT tb 33 = .ptr 40 x1 1 → getT tb 34 = .arr 136 x3 → getT tb 35 = I64 (k : Int) → getT tb 36 = .ptr 136 x3 k → getT tb 37 = .row 136 x3 k → getT tb 38 = .ptr 0 0 0 → getT tb 39 = .ptr 40 x1 0 → getT tb 40 = .arr 88 x2 → getT tb 41 = I64 (u.length : Int) → getT tb 42 = I64 (y : Int) → getT tb 43 = .ptr 0 0 0 → getT tb 44 = .list 1 [.int .i64 0, .int .i64 1, .int .i64 (-1), .int .i64 6] → getT tb 45 = I64 z → exT C0 0 (inlW C0 [fm_copyTabS] [fw_pick, fw_one] 0 0) ro_168_8 Q ex_168_8_8191 ⟨tb, [⟨0, 0, .cells (RS b (p + 5))⟩, ⟨32, 1, .cells [.nil, .nil]⟩, ⟨40, x1, .cells [.arr 88 x2, .arr 136 x3]⟩, ⟨88, x2, .arr 1 (ints u)⟩, ⟨136, x3, .arr 1 (orowsD t)⟩], g⟩ := by
    intro tb g e0 e4 e5 e6 e33 e34 e35 e36 e37 e38 e39 e40 e41 e42 e43 e44 e45
    unfold ex_168_8_8191
    simp only [exT_alt, exT_one, exT_stop, and_true]
    rw [ro_168_8_13]
    simp [callDOW, l0, l1, rg4, hkt, hyr, orowsD_ge, rowAt, rowB, e0, e4, e5, e6, e33, e34, e35, e36, e37, e38, e39, e40, e41, e42, e43, e44, e45]
    refine n16383 _ _ ?_ ?_ ?_ ?_ ?_ ?_ ?_ ?_ ?_ ?_ ?_ ?_ ?_ ?_ ?_ ?_ ?_ ?_ <;> simp [getT, e0, e4, e5, e6, e33, e34, e35, e36, e37, e38, e39, e40, e41, e42, e43, e44, e45]
  have n8175 : ∀ tb g, getT tb 0 = .ptr 0 0 0 → getT tb 4 = .ptr 32 1 0 → getT tb 5 = .ptr 40 x1 0 → getT tb 6 = I64 (k : Int) → getT tb 33 = .ptr 40 x1 1 → getT tb 34 = .arr 136 x3 → getT tb 35 = I64 (k : Int) → getT tb 36 = .ptr 136 x3 k → getT tb 38 = .ptr 0 0 0 → getT tb 39 = .ptr 40 x1 0 → getT tb 40 = .arr 88 x2 → getT tb 41 = I64 (u.length : Int) → getT tb 42 = I64 (y : Int) → getT tb 43 = .ptr 0 0 0 → getT tb 44 = .list 1 [.int .i64 0, .int .i64 1, .int .i64 (-1), .int .i64 6] → getT tb 45 = I64 z → exT C0 0 (inlW C0 [fm_copyTabS] [fw_pick, fw_one] 0 0) ro_168_8 Q ex_168_8_8175 ⟨tb, [⟨0, 0, .cells (RS b (p + 5))⟩, ⟨32, 1, .cells [.nil, .nil]⟩, ⟨40, x1, .cells [.arr 88 x2, .arr 136 x3]⟩, ⟨88, x2, .arr 1 (ints u)⟩, ⟨136, x3, .arr 1 (orowsD t)⟩], g⟩ := by
    intro tb g e0 e4 e5 e6 e33 e34 e35 e36 e38 e39 e40 e41 e42 e43 e44 e45
    unfold ex_168_8_8175
    simp only [exT_alt, exT_one, exT_stop, and_true]
    rw [ro_168_8_4]
    simp [callDOW, l0, l1, rg4, hkt, hyr, orowsD_ge, rowAt, rowB, e0, e4, e5, e6, e33, e34, e35, e36, e38, e39, e40, e41, e42, e43, e44, e45]
    refine n8191 _ _ ?_ ?_ ?_ ?_ ?_ ?_ ?_ ?_ ?_ ?_ ?_ ?_ ?_ ?_ ?_ ?_ ?_ <;> simp [getT, e0, e4, e5, e6, e33, e34, e35, e36, e38, e39, e40, e41, e42, e43, e44, e45]
  have n8167 : ∀ tb g, getT tb 0 = .ptr 0 0 0 → getT tb 4 = .ptr 32 1 0 → getT tb 5 = .ptr 40 x1 0 → getT tb 6 = I64 (k : Int) → getT tb 33 = .ptr 40 x1 1 → getT tb 34 = .arr 136 x3 → getT tb 35 = I64 (k : Int) → getT tb 38 = .ptr 0 0 0 → getT tb 39 = .ptr 40 x1 0 → getT tb 40 = .arr 88 x2 → getT tb 41 = I64 (u.length : Int) → getT tb 42 = I64 (y : Int) → getT tb 43 = .ptr 0 0 0 → getT tb 44 = .list 1 [.int .i64 0, .int .i64 1, .int .i64 (-1), .int .i64 6] → getT tb 45 = I64 z → exT C0 0 (inlW C0 [fm_copyTabS] [fw_pick, fw_one] 0 0) ro_168_8 Q ex_168_8_8167 ⟨tb, [⟨0, 0, .cells (RS b (p + 5))⟩, ⟨32, 1, .cells [.nil, .nil]⟩, ⟨40, x1, .cells [.arr 88 x2, .arr 136 x3]⟩, ⟨88, x2, .arr 1 (ints u)⟩, ⟨136, x3, .arr 1 (orowsD t)⟩], g⟩ := by
    intro tb g e0 e4 e5 e6 e33 e34 e35 e38 e39 e40 e41 e42 e43 e44 e45
    unfold ex_168_8_8167
    simp only [exT_alt, exT_one, exT_stop, and_true]
    rw [ro_168_8_3]
    simp [callDOW, l0, l1, rg4, hkt, hyr, orowsD_ge, rowAt, rowB, e0, e4, e5, e6, e33, e34, e35, e38, e39, e40, e41, e42, e43, e44, e45]
    refine n8175 _ _ ?_ ?_ ?_ ?_ ?_ ?_ ?_ ?_ ?_ ?_ ?_ ?_ ?_ ?_ ?_ ?_ <;> simp [getT, e0, e4, e5, e6, e33, e34, e35, e38, e39, e40, e41, e42, e43, e44, e45]
  have n8165 : ∀ tb g, getT tb 0 = .ptr 0 0 0 → getT tb 4 = .ptr 32 1 0 → getT tb 5 = .ptr 40 x1 0 → getT tb 6 = I64 (k : Int) → getT tb 33 = .ptr 40 x1 1 → getT tb 35 = I64 (k : Int) → getT tb 38 = .ptr 0 0 0 → getT tb 39 = .ptr 40 x1 0 → getT tb 40 = .arr 88 x2 → getT tb 41 = I64 (u.length : Int) → getT tb 42 = I64 (y : Int) → getT tb 43 = .ptr 0 0 0 → getT tb 44 = .list 1 [.int .i64 0, .int .i64 1, .int .i64 (-1), .int .i64 6] → getT tb 45 = I64 z → exT C0 0 (inlW C0 [fm_copyTabS] [fw_pick, fw_one] 0 0) ro_168_8 Q ex_168_8_8165 ⟨tb, [⟨0, 0, .cells (RS b (p + 5))⟩, ⟨32, 1, .cells [.nil, .nil]⟩, ⟨40, x1, .cells [.arr 88 x2, .arr 136 x3]⟩, ⟨88, x2, .arr 1 (ints u)⟩, ⟨136, x3, .arr 1 (orowsD t)⟩], g⟩ := by
    intro tb g e0 e4 e5 e6 e33 e35 e38 e39 e40 e41 e42 e43 e44 e45
    unfold ex_168_8_8165
    simp only [exT_alt, exT_one, exT_stop, and_true]
    rw [ro_168_8_1]
    simp [callDOW, l0, l1, rg4, hkt, hyr, orowsD_ge, rowAt, rowB, e0, e4, e5, e6, e33, e35, e38, e39, e40, e41, e42, e43, e44, e45]
    refine n8167 _ _ ?_ ?_ ?_ ?_ ?_ ?_ ?_ ?_ ?_ ?_ ?_ ?_ ?_ ?_ ?_ <;> simp [getT, e0, e4, e5, e6, e33, e35, e38, e39, e40, e41, e42, e43, e44, e45]
  have n8164 : ∀ tb g, getT tb 0 = .ptr 0 0 0 → getT tb 4 = .ptr 32 1 0 → getT tb 5 = .ptr 40 x1 0 → getT tb 6 = I64 (k : Int) → getT tb 35 = I64 (k : Int) → getT tb 38 = .ptr 0 0 0 → getT tb 39 = .ptr 40 x1 0 → getT tb 40 = .arr 88 x2 → getT tb 41 = I64 (u.length : Int) → getT tb 42 = I64 (y : Int) → getT tb 43 = .ptr 0 0 0 → getT tb 44 = .list 1 [.int .i64 0, .int .i64 1, .int .i64 (-1), .int .i64 6] → getT tb 45 = I64 z → exT C0 0 (inlW C0 [fm_copyTabS] [fw_pick, fw_one] 0 0) ro_168_8 Q ex_168_8_8164 ⟨tb, [⟨0, 0, .cells (RS b (p + 5))⟩, ⟨32, 1, .cells [.nil, .nil]⟩, ⟨40, x1, .cells [.arr 88 x2, .arr 136 x3]⟩, ⟨88, x2, .arr 1 (ints u)⟩, ⟨136, x3, .arr 1 (orowsD t)⟩], g⟩ := by
    intro tb g e0 e4 e5 e6 e35 e38 e39 e40 e41 e42 e43 e44 e45
    unfold ex_168_8_8164
    simp only [exT_alt, exT_one, exT_stop, and_true]
    rw [ro_168_8_0]
    simp [callDOW, l0, l1, rg4, hkt, hyr, orowsD_ge, rowAt, rowB, e0, e4, e5, e6, e35, e38, e39, e40, e41, e42, e43, e44, e45]
    refine n8165 _ _ ?_ ?_ ?_ ?_ ?_ ?_ ?_ ?_ ?_ ?_ ?_ ?_ ?_ ?_ <;> simp [getT, e0, e4, e5, e6, e35, e38, e39, e40, e41, e42, e43, e44, e45]
  have n4095 : ∀ tb g, getT tb 0 = .ptr 0 0 0 → getT tb 4 = .ptr 32 1 0 → getT tb 5 = .ptr 40 x1 0 → getT tb 6 = I64 (k : Int) → getT tb 33 = .ptr 40 x1 1 → getT tb 34 = .arr 136 x3 → getT tb 35 = I64 (k : Int) → getT tb 36 = .ptr 136 x3 k → getT tb 37 = .row 136 x3 k → getT tb 38 = .ptr 0 0 0 → getT tb 39 = .ptr 40 x1 0 → getT tb 40 = .arr 88 x2 → getT tb 41 = I64 (u.length : Int) → getT tb 42 = I64 (y : Int) → getT tb 43 = .ptr 0 0 0 → getT tb 44 = .list 1 [.int .i64 0, .int .i64 1, .int .i64 (-1), .int .i64 6] → exT C0 0 (inlW C0 [fm_copyTabS] [fw_pick, fw_one] 0 0) ro_168_8 Q ex_168_8_4095 ⟨tb, [⟨0, 0, .cells (RS b (p + 4))⟩, ⟨32, 1, .cells [.nil, .nil]⟩, ⟨40, x1, .cells [.arr 88 x2, .arr 136 x3]⟩, ⟨88, x2, .arr 1 (ints u)⟩, ⟨136, x3, .arr 1 (orowsD t)⟩], g⟩ := by
    intro tb g e0 e4 e5 e6 e33 e34 e35 e36 e37 e38 e39 e40 e41 e42 e43 e44
    unfold ex_168_8_4095
    simp only [exT_alt, exT_one, exT_stop, and_true]
    rw [ro_168_8_12]
    simp [callDOW, l0, l1, rg4, hkt, hyr, orowsD_ge, rowAt, rowB, e0, e4, e5, e6, e33, e34, e35, e36, e37, e38, e39, e40, e41, e42, e43, e44]
    refine n8191 _ _ ?_ ?_ ?_ ?_ ?_ ?_ ?_ ?_ ?_ ?_ ?_ ?_ ?_ ?_ ?_ ?_ ?_ <;> simp [getT, e0, e4, e5, e6, e33, e34, e35, e36, e37, e38, e39, e40, e41, e42, e43, e44]
  have n4079 : ∀ tb g, getT tb 0 = .ptr 0 0 0 → getT tb 4 = .ptr 32 1 0 → getT tb 5 = .ptr 40 x1 0 → getT tb 6 = I64 (k : Int) → getT tb 33 = .ptr 40 x1 1 → getT tb 34 = .arr 136 x3 → getT tb 35 = I64 (k : Int) → getT tb 36 = .ptr 136 x3 k → getT tb 38 = .ptr 0 0 0 → getT tb 39 = .ptr 40 x1 0 → getT tb 40 = .arr 88 x2 → getT tb 41 = I64 (u.length : Int) → getT tb 42 = I64 (y : Int) → getT tb 43 = .ptr 0 0 0 → getT tb 44 = .list 1 [.int .i64 0, .int .i64 1, .int .i64 (-1), .int .i64 6] → exT C0 0 (inlW C0 [fm_copyTabS] [fw_pick, fw_one] 0 0) ro_168_8 Q ex_168_8_4079 ⟨tb, [⟨0, 0, .cells (RS b (p + 4))⟩, ⟨32, 1, .cells [.nil, .nil]⟩, ⟨40, x1, .cells [.arr 88 x2, .arr 136 x3]⟩, ⟨88, x2, .arr 1 (ints u)⟩, ⟨136, x3, .arr 1 (orowsD t)⟩], g⟩ := by
    intro tb g e0 e4 e5 e6 e33 e34 e35 e36 e38 e39 e40 e41 e42 e43 e44
    unfold ex_168_8_4079
    simp only [exT_alt, exT_one, exT_stop, and_true]
    refine ⟨?_, ?_⟩
    · rw [ro_168_8_4]
      simp [callDOW, l0, l1, rg4, hkt, hyr, orowsD_ge, rowAt, rowB, e0, e4, e5, e6, e33, e34, e35, e36, e38, e39, e40, e41, e42, e43, e44]
      refine n4095 _ _ ?_ ?_ ?_ ?_ ?_ ?_ ?_ ?_ ?_ ?_ ?_ ?_ ?_ ?_ ?_ ?_ <;> simp [getT, e0, e4, e5, e6, e33, e34, e35, e36, e38, e39, e40, e41, e42, e43, e44]
    · rw [ro_168_8_12]
      simp [callDOW, l0, l1, rg4, hkt, hyr, orowsD_ge, rowAt, rowB, e0, e4, e5, e6, e33, e34, e35, e36, e38, e39, e40, e41, e42, e43, e44]
      refine n8175 _ _ ?_ ?_ ?_ ?_ ?_ ?_ ?_ ?_ ?_ ?_ ?_ ?_ ?_ ?_ ?_ ?_ <;> simp [getT, e0, e4, e5, e6, e33, e34, e35, e36, e38, e39, e40, e41, e42, e43, e44]
  have n4071 : ∀ tb g, getT tb 0 = .ptr 0 0 0 → getT tb 4 = .ptr 32 1 0 → getT tb 5 = .ptr 40 x1 0 → getT tb 6 = I64 (k : Int) → getT tb 33 = .ptr 40 x1 1 → getT tb 34 = .arr 136 x3 → getT tb 35 = I64 (k : Int) → getT tb 38 = .ptr 0 0 0 → getT tb 39 = .ptr 40 x1 0 → getT tb 40 = .arr 88 x2 → getT tb 41 = I64 (u.length : Int) → getT tb 42 = I64 (y : Int) → getT tb 43 = .ptr 0 0 0 → getT tb 44 = .list 1 [.int .i64 0, .int .i64 1, .int .i64 (-1), .int .i64 6] → exT C0 0 (inlW C0 [fm_copyTabS] [fw_pick, fw_one] 0 0) ro_168_8 Q ex_168_8_4071 ⟨tb, [⟨0, 0, .cells (RS b (p + 4))⟩, ⟨32, 1, .cells [.nil, .nil]⟩, ⟨40, x1, .cells [.arr 88 x2, .arr 136 x3]⟩, ⟨88, x2, .arr 1 (ints u)⟩, ⟨136, x3, .arr 1 (orowsD t)⟩], g⟩ := by
    intro tb g e0 e4 e5 e6 e33 e34 e35 e38 e39 e40 e41 e42 e43 e44
    unfold ex_168_8_4071
    simp only [exT_alt, exT_one, exT_stop, and_true]
    refine ⟨?_, ?_⟩
    · rw [ro_168_8_3]
      simp [callDOW, l0, l1, rg4, hkt, hyr, orowsD_ge, rowAt, rowB, e0, e4, e5, e6, e33, e34, e35, e38, e39, e40, e41, e42, e43, e44]
      refine n4079 _ _ ?_ ?_ ?_ ?_ ?_ ?_ ?_ ?_ ?_ ?_ ?_ ?_ ?_ ?_ ?_ <;> simp [getT, e0, e4, e5, e6, e33, e34, e35, e38, e39, e40, e41, e42, e43, e44]
    · rw [ro_168_8_12]
      simp [callDOW, l0, l1, rg4, hkt, hyr, orowsD_ge, rowAt, rowB, e0, e4, e5, e6, e33, e34, e35, e38, e39, e40, e41, e42, e43, e44]
      refine n8167 _ _ ?_ ?_ ?_ ?_ ?_ ?_ ?_ ?_ ?_ ?_ ?_ ?_ ?_ ?_ ?_ <;> simp [getT, e0, e4, e5, e6, e33, e34, e35, e38, e39, e40, e41, e42, e43, e44]
  have n4069 : ∀ tb g, getT tb 0 = .ptr 0 0 0 → getT tb 4 = .ptr 32 1 0 → getT tb 5 = .ptr 40 x1 0 → getT tb 6 = I64 (k : Int) → getT tb 33 = .ptr 40 x1 1 → getT tb 35 = I64 (k : Int) → getT tb 38 = .ptr 0 0 0 → getT tb 39 = .ptr 40 x1 0 → getT tb 40 = .arr 88 x2 → getT tb 41 = I64 (u.length : Int) → getT tb 42 = I64 (y : Int) → getT tb 43 = .ptr 0 0 0 → getT tb 44 = .list 1 [.int .i64 0, .int .i64 1, .int .i64 (-1), .int .i64 6] → exT C0 0 (inlW C0 [fm_copyTabS] [fw_pick, fw_one] 0 0) ro_168_8 Q ex_168_8_4069 ⟨tb, [⟨0, 0, .cells (RS b (p + 4))⟩, ⟨32, 1, .cells [.nil, .nil]⟩, ⟨40, x1, .cells [.arr 88 x2, .arr 136 x3]⟩, ⟨88, x2, .arr 1 (ints u)⟩, ⟨136, x3, .arr 1 (orowsD t)⟩], g⟩ := by
    intro tb g e0 e4 e5 e6 e33 e35 e38 e39 e40 e41 e42 e43 e44
    unfold ex_168_8_4069
    simp only [exT_alt, exT_one, exT_stop, and_true]
    refine ⟨?_, ?_⟩
    · rw [ro_168_8_1]
      simp [callDOW, l0, l1, rg4, hkt, hyr, orowsD_ge, rowAt, rowB, e0, e4, e5, e6, e33, e35, e38, e39, e40, e41, e42, e43, e44]
      refine n4071 _ _ ?_ ?_ ?_ ?_ ?_ ?_ ?_ ?_ ?_ ?_ ?_ ?_ ?_ ?_ <;> simp [getT, e0, e4, e5, e6, e33, e35, e38, e39, e40, e41, e42, e43, e44]
    · rw [ro_168_8_12]
      simp [callDOW, l0, l1, rg4, hkt, hyr, orowsD_ge, rowAt, rowB, e0, e4, e5, e6, e33, e35, e38, e39, e40, e41, e42, e43, e44]
      refine n8165 _ _ ?_ ?_ ?_ ?_ ?_ ?_ ?_ ?_ ?_ ?_ ?_ ?_ ?_ ?_ <;> simp [getT, e0, e4, e5, e6, e33, e35, e38, e39, e40, e41, e42, e43, e44]
  have n4068 : ∀ tb g, getT tb 0 = .ptr 0 0 0 → getT tb 4 = .ptr 32 1 0 → getT tb 5 = .ptr 40 x1 0 → getT tb 6 = I64 (k : Int) → getT tb 35 = I64 (k : Int) → getT tb 38 = .ptr 0 0 0 → getT tb 39 = .ptr 40 x1 0 → getT tb 40 = .arr 88 x2 → getT tb 41 = I64 (u.length : Int) → getT tb 42 = I64 (y : Int) → getT tb 43 = .ptr 0 0 0 → getT tb 44 = .list 1 [.int .i64 0, .int .i64 1, .int .i64 (-1), .int .i64 6] → exT C0 0 (inlW C0 [fm_copyTabS] [fw_pick, fw_one] 0 0) ro_168_8 Q ex_168_8_4068 ⟨tb, [⟨0, 0, .cells (RS b (p + 4))⟩, ⟨32, 1, .cells [.nil, .nil]⟩, ⟨40, x1, .cells [.arr 88 x2, .arr 136 x3]⟩, ⟨88, x2, .arr 1 (ints u)⟩, ⟨136, x3, .arr 1 (orowsD t)⟩], g⟩ := by
    intro tb g e0 e4 e5 e6 e35 e38 e39 e40 e41 e42 e43 e44
    unfold ex_168_8_4068
    simp only [exT_alt, exT_one, exT_stop, and_true]
    refine ⟨?_, ?_⟩
    · rw [ro_168_8_0]
      simp [callDOW, l0, l1, rg4, hkt, hyr, orowsD_ge, rowAt, rowB, e0, e4, e5, e6, e35, e38, e39, e40, e41, e42, e43, e44]
      refine n4069 _ _ ?_ ?_ ?_ ?_ ?_ ?_ ?_ ?_ ?_ ?_ ?_ ?_ ?_ <;> simp [getT, e0, e4, e5, e6, e35, e38, e39, e40, e41, e42, e43, e44]
    · rw [ro_168_8_12]
      simp [callDOW, l0, l1, rg4, hkt, hyr, orowsD_ge, rowAt, rowB, e0, e4, e5, e6, e35, e38, e39, e40, e41, e42, e43, e44]
      refine n8164 _ _ ?_ ?_ ?_ ?_ ?_ ?_ ?_ ?_ ?_ ?_ ?_ ?_ ?_ <;> simp [getT, e0, e4, e5, e6, e35, e38, e39, e40, e41, e42, e43, e44]
  have n3583 : ∀ tb g, getT tb 0 = .ptr 0 0 0 → getT tb 4 = .ptr 32 1 0 → getT tb 5 = .ptr 40 x1 0 → getT tb 6 = I64 (k : Int) → getT tb 33 = .ptr 40 x1 1 → getT tb 34 = .arr 136 x3 → getT tb 35 = I64 (k : Int) → getT tb 36 = .ptr 136 x3 k → getT tb 37 = .row 136 x3 k → getT tb 38 = .ptr 0 0 0 → getT tb 39 = .ptr 40 x1 0 → getT tb 40 = .arr 88 x2 → getT tb 41 = I64 (u.length : Int) → getT tb 43 = .ptr 0 0 0 → getT tb 44 = .list 1 [.int .i64 0, .int .i64 1, .int .i64 (-1), .int .i64 6] → exT C0 0 (inlW C0 [fm_copyTabS] [fw_pick, fw_one] 0 0) ro_168_8 Q ex_168_8_3583 ⟨tb, [⟨0, 0, .cells (RS b (p + 3))⟩, ⟨32, 1, .cells [.nil, .nil]⟩, ⟨40, x1, .cells [.arr 88 x2, .arr 136 x3]⟩, ⟨88, x2, .arr 1 (ints u)⟩, ⟨136, x3, .arr 1 (orowsD t)⟩], g⟩ := by
    intro tb g e0 e4 e5 e6 e33 e34 e35 e36 e37 e38 e39 e40 e41 e43 e44
    unfold ex_168_8_3583
    simp only [exT_alt, exT_one, exT_stop, and_true]
    rw [ro_168_8_9]
    simp [callDOW, l0, l1, rg4, hkt, hyr, orowsD_ge, rowAt, rowB, e0, e4, e5, e6, e33, e34, e35, e36, e37, e38, e39, e40, e41, e43, e44]
    refine n4095 _ _ ?_ ?_ ?_ ?_ ?_ ?_ ?_ ?_ ?_ ?_ ?_ ?_ ?_ ?_ ?_ ?_ <;> simp [getT, e0, e4, e5, e6, e33, e34, e35, e36, e37, e38, e39, e40, e41, e43, e44]
  have n3567 : ∀ tb g, getT tb 0 = .ptr 0 0 0 → getT tb 4 = .ptr 32 1 0 → getT tb 5 = .ptr 40 x1 0 → getT tb 6 = I64 (k : Int) → getT tb 33 = .ptr 40 x1 1 → getT tb 34 = .arr 136 x3 → getT tb 35 = I64 (k : Int) → getT tb 36 = .ptr 136 x3 k → getT tb 38 = .ptr 0 0 0 → getT tb 39 = .ptr 40 x1 0 → getT tb 40 = .arr 88 x2 → getT tb 41 = I64 (u.length : Int) → getT tb 43 = .ptr 0 0 0 → getT tb 44 = .list 1 [.int .i64 0, .int .i64 1, .int .i64 (-1), .int .i64 6] → exT C0 0 (inlW C0 [fm_copyTabS] [fw_pick, fw_one] 0 0) ro_168_8 Q ex_168_8_3567 ⟨tb, [⟨0, 0, .cells (RS b (p + 3))⟩, ⟨32, 1, .cells [.nil, .nil]⟩, ⟨40, x1, .cells [.arr 88 x2, .arr 136 x3]⟩, ⟨88, x2, .arr 1 (ints u)⟩, ⟨136, x3, .arr 1 (orowsD t)⟩], g⟩ := by
    intro tb g e0 e4 e5 e6 e33 e34 e35 e36 e38 e39 e40 e41 e43 e44
    unfold ex_168_8_3567
    simp only [exT_alt, exT_one, exT_stop, and_true]
    refine ⟨?_, ?_⟩
    · rw [ro_168_8_4]
      simp [callDOW, l0, l1, rg4, hkt, hyr, orowsD_ge, rowAt, rowB, e0, e4, e5, e6, e33, e34, e35, e36, e38, e39, e40, e41, e43, e44]
      refine n3583 _ _ ?_ ?_ ?_ ?_ ?_ ?_ ?_ ?_ ?_ ?_ ?_ ?_ ?_ ?_ ?_ <;> simp [getT, e0, e4, e5, e6, e33, e34, e35, e36, e38, e39, e40, e41, e43, e44]
    · rw [ro_168_8_9]
      simp [callDOW, l0, l1, rg4, hkt, hyr, orowsD_ge, rowAt, rowB, e0, e4, e5, e6, e33, e34, e35, e36, e38, e39, e40, e41, e43, e44]
      refine n4079 _ _ ?_ ?_ ?_ ?_ ?_ ?_ ?_ ?_ ?_ ?_ ?_ ?_ ?_ ?_ ?_ <;> simp [getT, e0, e4, e5, e6, e33, e34, e35, e36, e38, e39, e40, e41, e43, e44]
  have n3559 : ∀ tb g, getT tb 0 = .ptr 0 0 0 → getT tb 4 = .ptr 32 1 0 → getT tb 5 = .ptr 40 x1 0 → getT tb 6 = I64 (k : Int) → getT tb 33 = .ptr 40 x1 1 → getT tb 34 = .arr 136 x3 → getT tb 35 = I64 (k : Int) → getT tb 38 = .ptr 0 0 0 → getT tb 39 = .ptr 40 x1 0 → getT tb 40 = .arr 88 x2 → getT tb 41 = I64 (u.length : Int) → getT tb 43 = .ptr 0 0 0 → getT tb 44 = .list 1 [.int .i64 0, .int .i64 1, .int .i64 (-1), .int .i64 6] → exT C0 0 (inlW C0 [fm_copyTabS] [fw_pick, fw_one] 0 0) ro_168_8 Q ex_168_8_3559 ⟨tb, [⟨0, 0, .cells (RS b (p + 3))⟩, ⟨32, 1, .cells [.nil, .nil]⟩, ⟨40, x1, .cells [.arr 88 x2, .arr 136 x3]⟩, ⟨88, x2, .arr 1 (ints u)⟩, ⟨136, x3, .arr 1 (orowsD t)⟩], g⟩ := by
    intro tb g e0 e4 e5 e6 e33 e34 e35 e38 e39 e40 e41 e43 e44
    unfold ex_168_8_3559
    simp only [exT_alt, exT_one, exT_stop, and_true]
    refine ⟨?_, ?_⟩
    · rw [ro_168_8_3]
      simp [callDOW, l0, l1, rg4, hkt, hyr, orowsD_ge, rowAt, rowB, e0, e4, e5, e6, e33, e34, e35, e38, e39, e40, e41, e43, e44]
      refine n3567 _ _ ?_ ?_ ?_ ?_ ?_ ?_ ?_ ?_ ?_ ?_ ?_ ?_ ?_ ?_ <;> simp [getT, e0, e4, e5, e6, e33, e34, e35, e38, e39, e40, e41, e43, e44]
    · rw [ro_168_8_9]
      simp [callDOW, l0, l1, rg4, hkt, hyr, orowsD_ge, rowAt, rowB, e0, e4, e5, e6, e33, e34, e35, e38, e39, e40, e41, e43, e44]
      refine n4071 _ _ ?_ ?_ ?_ ?_ ?_ ?_ ?_ ?_ ?_ ?_ ?_ ?_ ?_ ?_ <;> simp [getT, e0, e4, e5, e6, e33, e34, e35, e38, e39, e40, e41, e43, e44]
  have n3557 : ∀ tb g, getT tb 0 = .ptr 0 0 0 → getT tb 4 = .ptr 32 1 0 → getT tb 5 = .ptr 40 x1 0 → getT tb 6 = I64 (k : Int) → getT tb 33 = .ptr 40 x1 1 → getT tb 35 = I64 (k : Int) → getT tb 38 = .ptr 0 0 0 → getT tb 39 = .ptr 40 x1 0 → getT tb 40 = .arr 88 x2 → getT tb 41 = I64 (u.length : Int) → getT tb 43 = .ptr 0 0 0 → getT tb 44 = .list 1 [.int .i64 0, .int .i64 1, .int .i64 (-1), .int .i64 6] → exT C0 0 (inlW C0 [fm_copyTabS] [fw_pick, fw_one] 0 0) ro_168_8 Q ex_168_8_3557 ⟨tb, [⟨0, 0, .cells (RS b (p + 3))⟩, ⟨32, 1, .cells [.nil, .nil]⟩, ⟨40, x1, .cells [.arr 88 x2, .arr 136 x3]⟩, ⟨88, x2, .arr 1 (ints u)⟩, ⟨136, x3, .arr 1 (orowsD t)⟩], g⟩ := by
    intro tb g e0 e4 e5 e6 e33 e35 e38 e39 e40 e41 e43 e44
    unfold ex_168_8_3557
    simp only [exT_alt, exT_one, exT_stop, and_true]
    refine ⟨?_, ?_⟩
    · rw [ro_168_8_1]
      simp [callDOW, l0, l1, rg4, hkt, hyr, orowsD_ge, rowAt, rowB, e0, e4, e5, e6, e33, e35, e38, e39, e40, e41, e43, e44]
      refine n3559 _ _ ?_ ?_ ?_ ?_ ?_ ?_ ?_ ?_ ?_ ?_ ?_ ?_ ?_ <;> simp [getT, e0, e4, e5, e6, e33, e35, e38, e39, e40, e41, e43, e44]
    · rw [ro_168_8_9]
      simp [callDOW, l0, l1, rg4, hkt, hyr, orowsD_ge, rowAt, rowB, e0, e4, e5, e6, e33, e35, e38, e39, e40, e41, e43, e44]
      refine n4069 _ _ ?_ ?_ ?_ ?_ ?_ ?_ ?_ ?_ ?_ ?_ ?_ ?_ ?_ <;> simp [getT, e0, e4, e5, e6, e33, e35, e38, e39, e40, e41, e43, e44]
  have n3556 : ∀ tb g, getT tb 0 = .ptr 0 0 0 → getT tb 4 = .ptr 32 1 0 → getT tb 5 = .ptr 40 x1 0 → getT tb 6 = I64 (k : Int) → getT tb 35 = I64 (k : Int) → getT tb 38 = .ptr 0 0 0 → getT tb 39 = .ptr 40 x1 0 → getT tb 40 = .arr 88 x2 → getT tb 41 = I64 (u.length : Int) → getT tb 43 = .ptr 0 0 0 → getT tb 44 = .list 1 [.int .i64 0, .int .i64 1, .int .i64 (-1), .int .i64 6] → exT C0 0 (inlW C0 [fm_copyTabS] [fw_pick, fw_one] 0 0) ro_168_8 Q ex_168_8_3556 ⟨tb, [⟨0, 0, .cells (RS b (p + 3))⟩, ⟨32, 1, .cells [.nil, .nil]⟩, ⟨40, x1, .cells [.arr 88 x2, .arr 136 x3]⟩, ⟨88, x2, .arr 1 (ints u)⟩, ⟨136, x3, .arr 1 (orowsD t)⟩], g⟩ := by
    intro tb g e0 e4 e5 e6 e35 e38 e39 e40 e41 e43 e44
    unfold ex_168_8_3556
    simp only [exT_alt, exT_one, exT_stop, and_true]
    refine ⟨?_, ?_⟩
    · rw [ro_168_8_0]
      simp [callDOW, l0, l1, rg4, hkt, hyr, orowsD_ge, rowAt, rowB, e0, e4, e5, e6, e35, e38, e39, e40, e41, e43, e44]
      refine n3557 _ _ ?_ ?_ ?_ ?_ ?_ ?_ ?_ ?_ ?_ ?_ ?_ ?_ <;> simp [getT, e0, e4, e5, e6, e35, e38, e39, e40, e41, e43, e44]
    · rw [ro_168_8_9]
      simp [callDOW, l0, l1, rg4, hkt, hyr, orowsD_ge, rowAt, rowB, e0, e4, e5, e6, e35, e38, e39, e40, e41, e43, e44]
      refine n4068 _ _ ?_ ?_ ?_ ?_ ?_ ?_ ?_ ?_ ?_ ?_ ?_ ?_ <;> simp [getT, e0, e4, e5, e6, e35, e38, e39, e40, e41, e43, e44]
  have n3327 : ∀ tb g, getT tb 0 = .ptr 0 0 0 → getT tb 4 = .ptr 32 1 0 → getT tb 5 = .ptr 40 x1 0 → getT tb 6 = I64 (k : Int) → getT tb 33 = .ptr 40 x1 1 → getT tb 34 = .arr 136 x3 → getT tb 35 = I64 (k : Int) → getT tb 36 = .ptr 136 x3 k → getT tb 37 = .row 136 x3 k → getT tb 38 = .ptr 0 0 0 → getT tb 39 = .ptr 40 x1 0 → getT tb 40 = .arr 88 x2 → getT tb 43 = .ptr 0 0 0 → getT tb 44 = .list 1 [.int .i64 0, .int .i64 1, .int .i64 (-1), .int .i64 6] → exT C0 0 (inlW C0 [fm_copyTabS] [fw_pick, fw_one] 0 0) ro_168_8 Q ex_168_8_3327 ⟨tb, [⟨0, 0, .cells (RS b (p + 3))⟩, ⟨32, 1, .cells [.nil, .nil]⟩, ⟨40, x1, .cells [.arr 88 x2, .arr 136 x3]⟩, ⟨88, x2, .arr 1 (ints u)⟩, ⟨136, x3, .arr 1 (orowsD t)⟩], g⟩ := by
    intro tb g e0 e4 e5 e6 e33 e34 e35 e36 e37 e38 e39 e40 e43 e44
    unfold ex_168_8_3327
    simp only [exT_alt, exT_one, exT_stop, and_true]
    rw [ro_168_8_8]
    simp [callDOW, l0, l1, rg4, hkt, hyr, orowsD_ge, rowAt, rowB, e0, e4, e5, e6, e33, e34, e35, e36, e37, e38, e39, e40, e43, e44]
    refine n3583 _ _ ?_ ?_ ?_ ?_ ?_ ?_ ?_ ?_ ?_ ?_ ?_ ?_ ?_ ?_ ?_ <;> simp [getT, e0, e4, e5, e6, e33, e34, e35, e36, e37, e38, e39, e40, e43, e44]
  have n3311 : ∀ tb g, getT tb 0 = .ptr 0 0 0 → getT tb 4 = .ptr 32 1 0 → getT tb 5 = .ptr 40 x1 0 → getT tb 6 = I64 (k : Int) → getT tb 33 = .ptr 40 x1 1 → getT tb 34 = .arr 136 x3 → getT tb 35 = I64 (k : Int) → getT tb 36 = .ptr 136 x3 k → getT tb 38 = .ptr 0 0 0 → getT tb 39 = .ptr 40 x1 0 → getT tb 40 = .arr 88 x2 → getT tb 43 = .ptr 0 0 0 → getT tb 44 = .list 1 [.int .i64 0, .int .i64 1, .int .i64 (-1), .int .i64 6] → exT C0 0 (inlW C0 [fm_copyTabS] [fw_pick, fw_one] 0 0) ro_168_8 Q ex_168_8_3311 ⟨tb, [⟨0, 0, .cells (RS b (p + 3))⟩, ⟨32, 1, .cells [.nil, .nil]⟩, ⟨40, x1, .cells [.arr 88 x2, .arr 136 x3]⟩, ⟨88, x2, .arr 1 (ints u)⟩, ⟨136, x3, .arr 1 (orowsD t)⟩], g⟩ := by
    intro tb g e0 e4 e5 e6 e33 e34 e35 e36 e38 e39 e40 e43 e44
    unfold ex_168_8_3311
    simp only [exT_alt, exT_one, exT_stop, and_true]
    refine ⟨?_, ?_⟩
    · rw [ro_168_8_4]
      simp [callDOW, l0, l1, rg4, hkt, hyr, orowsD_ge, rowAt, rowB, e0, e4, e5, e6, e33, e34, e35, e36, e38, e39, e40, e43, e44]
      refine n3327 _ _ ?_ ?_ ?_ ?_ ?_ ?_ ?_ ?_ ?_ ?_ ?_ ?_ ?_ ?_ <;> simp [getT, e0, e4, e5, e6, e33, e34, e35, e36, e38, e39, e40, e43, e44]
    · rw [ro_168_8_8]
      simp [callDOW, l0, l1, rg4, hkt, hyr, orowsD_ge, rowAt, rowB, e0, e4, e5, e6, e33, e34, e35, e36, e38, e39, e40, e43, e44]
      refine n3567 _ _ ?_ ?_ ?_ ?_ ?_ ?_ ?_ ?_ ?_ ?_ ?_ ?_ ?_ ?_ <;> simp [getT, e0, e4, e5, e6, e33, e34, e35, e36, e38, e39, e40, e43, e44]
  have n3303 : ∀ tb g, getT tb 0 = .ptr 0 0 0 → getT tb 4 = .ptr 32 1 0 → getT tb 5 = .ptr 40 x1 0 → getT tb 6 = I64 (k : Int) → getT tb 33 = .ptr 40 x1 1 → getT tb 34 = .arr 136 x3 → getT tb 35 = I64 (k : Int) → getT tb 38 = .ptr 0 0 0 → getT tb 39 = .ptr 40 x1 0 → getT tb 40 = .arr 88 x2 → getT tb 43 = .ptr 0 0 0 → getT tb 44 = .list 1 [.int .i64 0, .int .i64 1, .int .i64 (-1), .int .i64 6] → exT C0 0 (inlW C0 [fm_copyTabS] [fw_pick, fw_one] 0 0) ro_168_8 Q ex_168_8_3303 ⟨tb, [⟨0, 0, .cells (RS b (p + 3))⟩, ⟨32, 1, .cells [.nil, .nil]⟩, ⟨40, x1, .cells [.arr 88 x2, .arr 136 x3]⟩, ⟨88, x2, .arr 1 (ints u)⟩, ⟨136, x3, .arr 1 (orowsD t)⟩], g⟩ := by
    intro tb g e0 e4 e5 e6 e33 e34 e35 e38 e39 e40 e43 e44
    unfold ex_168_8_3303
    simp only [exT_alt, exT_one, exT_stop, and_true]
    refine ⟨?_, ?_⟩
    · rw [ro_168_8_3]
      simp [callDOW, l0, l1, rg4, hkt, hyr, orowsD_ge, rowAt, rowB, e0, e4, e5, e6, e33, e34, e35, e38, e39, e40, e43, e44]
      refine n3311 _ _ ?_ ?_ ?_ ?_ ?_ ?_ ?_ ?_ ?_ ?_ ?_ ?_ ?_ <;> simp [getT, e0, e4, e5, e6, e33, e34, e35, e38, e39, e40, e43, e44]
    · rw [ro_168_8_8]
      simp [callDOW, l0, l1, rg4, hkt, hyr, orowsD_ge, rowAt, rowB, e0, e4, e5, e6, e33, e34, e35, e38, e39, e40, e43, e44]
      refine n3559 _ _ ?_ ?_ ?_ ?_ ?_ ?_ ?_ ?_ ?_ ?_ ?_ ?_ ?_ <;> simp [getT, e0, e4, e5, e6, e33, e34, e35, e38, e39, e40, e43, e44]
  have n3301 : ∀ tb g, getT tb 0 = .ptr 0 0 0 → getT tb 4 = .ptr 32 1 0 → getT tb 5 = .ptr 40 x1 0 → getT tb 6 = I64 (k : Int) → getT tb 33 = .ptr 40 x1 1 → getT tb 35 = I64 (k : Int) → getT tb 38 = .ptr 0 0 0 → getT tb 39 = .ptr 40 x1 0 → getT tb 40 = .arr 88 x2 → getT tb 43 = .ptr 0 0 0 → getT tb 44 = .list 1 [.int .i64 0, .int .i64 1, .int .i64 (-1), .int .i64 6] → exT C0 0 (inlW C0 [fm_copyTabS] [fw_pick, fw_one] 0 0) ro_168_8 Q ex_168_8_3301 ⟨tb, [⟨0, 0, .cells (RS b (p + 3))⟩, ⟨32, 1, .cells [.nil, .nil]⟩, ⟨40, x1, .cells [.arr 88 x2, .arr 136 x3]⟩, ⟨88, x2, .arr 1 (ints u)⟩, ⟨136, x3, .arr 1 (orowsD t)⟩], g⟩ := by
    intro tb g e0 e4 e5 e6 e33 e35 e38 e39 e40 e43 e44
    unfold ex_168_8_3301
    simp only [exT_alt, exT_one, exT_stop, and_true]
    refine ⟨?_, ?_⟩
    · rw [ro_168_8_1]
      simp [callDOW, l0, l1, rg4, hkt, hyr, orowsD_ge, rowAt, rowB, e0, e4, e5, e6, e33, e35, e38, e39, e40, e43, e44]
      refine n3303 _ _ ?_ ?_ ?_ ?_ ?_ ?_ ?_ ?_ ?_ ?_ ?_ ?_ <;> simp [getT, e0, e4, e5, e6, e33, e35, e38, e39, e40, e43, e44]
    · rw [ro_168_8_8]
      simp [callDOW, l0, l1, rg4, hkt, hyr, orowsD_ge, rowAt, rowB, e0, e4, e5, e6, e33, e35, e38, e39, e40, e43, e44]
      refine n3557 _ _ ?_ ?_ ?_ ?_ ?_ ?_ ?_ ?_ ?_ ?_ ?_ ?_ <;> simp [getT, e0, e4, e5, e6, e33, e35, e38, e39, e40, e43, e44]
  have n3300 : ∀ tb g, getT tb 0 = .ptr 0 0 0 → getT tb 4 = .ptr 32 1 0 → getT tb 5 = .ptr 40 x1 0 → getT tb 6 = I64 (k : Int) → getT tb 35 = I64 (k : Int) → getT tb 38 = .ptr 0 0 0 → getT tb 39 = .ptr 40 x1 0 → getT tb 40 = .arr 88 x2 → getT tb 43 = .ptr 0 0 0 → getT tb 44 = .list 1 [.int .i64 0, .int .i64 1, .int .i64 (-1), .int .i64 6] → exT C0 0 (inlW C0 [fm_copyTabS] [fw_pick, fw_one] 0 0) ro_168_8 Q ex_168_8_3300 ⟨tb, [⟨0, 0, .cells (RS b (p + 3))⟩, ⟨32, 1, .cells [.nil, .nil]⟩, ⟨40, x1, .cells [.arr 88 x2, .arr 136 x3]⟩, ⟨88, x2, .arr 1 (ints u)⟩, ⟨136, x3, .arr 1 (orowsD t)⟩], g⟩ := by
    intro tb g e0 e4 e5 e6 e35 e38 e39 e40 e43 e44
    unfold ex_168_8_3300
    simp only [exT_alt, exT_one, exT_stop, and_true]
    refine ⟨?_, ?_⟩
    · rw [ro_168_8_0]
      simp [callDOW, l0, l1, rg4, hkt, hyr, orowsD_ge, rowAt, rowB, e0, e4, e5, e6, e35, e38, e39, e40, e43, e44]
      refine n3301 _ _ ?_ ?_ ?_ ?_ ?_ ?_ ?_ ?_ ?_ ?_ ?_ <;> simp [getT, e0, e4, e5, e6, e35, e38, e39, e40, e43, e44]
    · rw [ro_168_8_8]
      simp [callDOW, l0, l1, rg4, hkt, hyr, orowsD_ge, rowAt, rowB, e0, e4, e5, e6, e35, e38, e39, e40, e43, e44]
      refine n3556 _ _ ?_ ?_ ?_ ?_ ?_ ?_ ?_ ?_ ?_ ?_ ?_ <;> simp [getT, e0, e4, e5, e6, e35, e38, e39, e40, e43, e44]
  have n3199 : ∀ tb g, getT tb 0 = .ptr 0 0 0 → getT tb 4 = .ptr 32 1 0 → getT tb 5 = .ptr 40 x1 0 → getT tb 6 = I64 (k : Int) → getT tb 33 = .ptr 40 x1 1 → getT tb 34 = .arr 136 x3 → getT tb 35 = I64 (k : Int) → getT tb 36 = .ptr 136 x3 k → getT tb 37 = .row 136 x3 k → getT tb 38 = .ptr 0 0 0 → getT tb 39 = .ptr 40 x1 0 → getT tb 43 = .ptr 0 0 0 → getT tb 44 = .list 1 [.int .i64 0, .int .i64 1, .int .i64 (-1), .int .i64 6] → exT C0 0 (inlW C0 [fm_copyTabS] [fw_pick, fw_one] 0 0) ro_168_8 Q ex_168_8_3199 ⟨tb, [⟨0, 0, .cells (RS b (p + 3))⟩, ⟨32, 1, .cells [.nil, .nil]⟩, ⟨40, x1, .cells [.arr 88 x2, .arr 136 x3]⟩, ⟨88, x2, .arr 1 (ints u)⟩, ⟨136, x3, .arr 1 (orowsD t)⟩], g⟩ := by
    intro tb g e0 e4 e5 e6 e33 e34 e35 e36 e37 e38 e39 e43 e44
    unfold ex_168_8_3199
    simp only [exT_alt, exT_one, exT_stop, and_true]
    rw [ro_168_8_7]
    simp [callDOW, l0, l1, rg4, hkt, hyr, orowsD_ge, rowAt, rowB, e0, e4, e5, e6, e33, e34, e35, e36, e37, e38, e39, e43, e44]
    refine n3327 _ _ ?_ ?_ ?_ ?_ ?_ ?_ ?_ ?_ ?_ ?_ ?_ ?_ ?_ ?_ <;> simp [getT, e0, e4, e5, e6, e33, e34, e35, e36, e37, e38, e39, e43, e44]
  have n3183 : ∀ tb g, getT tb 0 = .ptr 0 0 0 → getT tb 4 = .ptr 32 1 0 → getT tb 5 = .ptr 40 x1 0 → getT tb 6 = I64 (k : Int) → getT tb 33 = .ptr 40 x1 1 → getT tb 34 = .arr 136 x3 → getT tb 35 = I64 (k : Int) → getT tb 36 = .ptr 136 x3 k → getT tb 38 = .ptr 0 0 0 → getT tb 39 = .ptr 40 x1 0 → getT tb 43 = .ptr 0 0 0 → getT tb 44 = .list 1 [.int .i64 0, .int .i64 1, .int .i64 (-1), .int .i64 6] → exT C0 0 (inlW C0 [fm_copyTabS] [fw_pick, fw_one] 0 0) ro_168_8 Q ex_168_8_3183 ⟨tb, [⟨0, 0, .cells (RS b (p + 3))⟩, ⟨32, 1, .cells [.nil, .nil]⟩, ⟨40, x1, .cells [.arr 88 x2, .arr 136 x3]⟩, ⟨88, x2, .arr 1 (ints u)⟩, ⟨136, x3, .arr 1 (orowsD t)⟩], g⟩ := by
    intro tb g e0 e4 e5 e6 e33 e34 e35 e36 e38 e39 e43 e44
    unfold ex_168_8_3183
    simp only [exT_alt, exT_one, exT_stop, and_true]
    refine ⟨?_, ?_⟩
    · rw [ro_168_8_4]
      simp [callDOW, l0, l1, rg4, hkt, hyr, orowsD_ge, rowAt, rowB, e0, e4, e5, e6, e33, e34, e35, e36, e38, e39, e43, e44]
      refine n3199 _ _ ?_ ?_ ?_ ?_ ?_ ?_ ?_ ?_ ?_ ?_ ?_ ?_ ?_ <;> simp [getT, e0, e4, e5, e6, e33, e34, e35, e36, e38, e39, e43, e44]
    · rw [ro_168_8_7]
      simp [callDOW, l0, l1, rg4, hkt, hyr, orowsD_ge, rowAt, rowB, e0, e4, e5, e6, e33, e34, e35, e36, e38, e39, e43, e44]
      refine n3311 _ _ ?_ ?_ ?_ ?_ ?_ ?_ ?_ ?_ ?_ ?_ ?_ ?_ ?_ <;> simp [getT, e0, e4, e5, e6, e33, e34, e35, e36, e38, e39, e43, e44]
  have n3175 : ∀ tb g, getT tb 0 = .ptr 0 0 0 → getT tb 4 = .ptr 32 1 0 → getT tb 5 = .ptr 40 x1 0 → getT tb 6 = I64 (k : Int) → getT tb 33 = .ptr 40 x1 1 → getT tb 34 = .arr 136 x3 → getT tb 35 = I64 (k : Int) → getT tb 38 = .ptr 0 0 0 → getT tb 39 = .ptr 40 x1 0 → getT tb 43 = .ptr 0 0 0 → getT tb 44 = .list 1 [.int .i64 0, .int .i64 1, .int .i64 (-1), .int .i64 6] → exT C0 0 (inlW C0 [fm_copyTabS] [fw_pick, fw_one] 0 0) ro_168_8 Q ex_168_8_3175 ⟨tb, [⟨0, 0, .cells (RS b (p + 3))⟩, ⟨32, 1, .cells [.nil, .nil]⟩, ⟨40, x1, .cells [.arr 88 x2, .arr 136 x3]⟩, ⟨88, x2, .arr 1 (ints u)⟩, ⟨136, x3, .arr 1 (orowsD t)⟩], g⟩ := by
    intro tb g e0 e4 e5 e6 e33 e34 e35 e38 e39 e43 e44
    unfold ex_168_8_3175
    simp only [exT_alt, exT_one, exT_stop, and_true]
    refine ⟨?_, ?_⟩
    · rw [ro_168_8_3]
      simp [callDOW, l0, l1, rg4, hkt, hyr, orowsD_ge, rowAt, rowB, e0, e4, e5, e6, e33, e34, e35, e38, e39, e43, e44]
      refine n3183 _ _ ?_ ?_ ?_ ?_ ?_ ?_ ?_ ?_ ?_ ?_ ?_ ?_ <;> simp [getT, e0, e4, e5, e6, e33, e34, e35, e38, e39, e43, e44]
    · rw [ro_168_8_7]
      simp [callDOW, l0, l1, rg4, hkt, hyr, orowsD_ge, rowAt, rowB, e0, e4, e5, e6, e33, e34, e35, e38, e39, e43, e44]
      refine n3303 _ _ ?_ ?_ ?_ ?_ ?_ ?_ ?_ ?_ ?_ ?_ ?_ ?_ <;> simp [getT, e0, e4, e5, e6, e33, e34, e35, e38, e39, e43, e44]
  have n3173 : ∀ tb g, getT tb 0 = .ptr 0 0 0 → getT tb 4 = .ptr 32 1 0 → getT tb 5 = .ptr 40 x1 0 → getT tb 6 = I64 (k : Int) → getT tb 33 = .ptr 40 x1 1 → getT tb 35 = I64 (k : Int) → getT tb 38 = .ptr 0 0 0 → getT tb 39 = .ptr 40 x1 0 → getT tb 43 = .ptr 0 0 0 → getT tb 44 = .list 1 [.int .i64 0, .int .i64 1, .int .i64 (-1), .int .i64 6] → exT C0 0 (inlW C0 [fm_copyTabS] [fw_pick, fw_one] 0 0) ro_168_8 Q ex_168_8_3173 ⟨tb, [⟨0, 0, .cells (RS b (p + 3))⟩, ⟨32, 1, .cells [.nil, .nil]⟩, ⟨40, x1, .cells [.arr 88 x2, .arr 136 x3]⟩, ⟨88, x2, .arr 1 (ints u)⟩, ⟨136, x3, .arr 1 (orowsD t)⟩], g⟩ := by
    intro tb g e0 e4 e5 e6 e33 e35 e38 e39 e43 e44
    unfold ex_168_8_3173
    simp only [exT_alt, exT_one, exT_stop, and_true]
    refine ⟨?_, ?_⟩
    · rw [ro_168_8_1]
      simp [callDOW, l0, l1, rg4, hkt, hyr, orowsD_ge, rowAt, rowB, e0, e4, e5, e6, e33, e35, e38, e39, e43, e44]
      refine n3175 _ _ ?_ ?_ ?_ ?_ ?_ ?_ ?_ ?_ ?_ ?_ ?_ <;> simp [getT, e0, e4, e5, e6, e33, e35, e38, e39, e43, e44]
    · rw [ro_168_8_7]
      simp [callDOW, l0, l1, rg4, hkt, hyr, orowsD_ge, rowAt, rowB, e0, e4, e5, e6, e33, e35, e38, e39, e43, e44]
      refine n3301 _ _ ?_ ?_ ?_ ?_ ?_ ?_ ?_ ?_ ?_ ?_ ?_ <;> simp [getT, e0, e4, e5, e6, e33, e35, e38, e39, e43, e44]
  have n3172 : ∀ tb g, getT tb 0 = .ptr 0 0 0 → getT tb 4 = .ptr 32 1 0 → getT tb 5 = .ptr 40 x1 0 → getT tb 6 = I64 (k : Int) → getT tb 35 = I64 (k : Int) → getT tb 38 = .ptr 0 0 0 → getT tb 39 = .ptr 40 x1 0 → getT tb 43 = .ptr 0 0 0 → getT tb 44 = .list 1 [.int .i64 0, .int .i64 1, .int .i64 (-1), .int .i64 6] → exT C0 0 (inlW C0 [fm_copyTabS] [fw_pick, fw_one] 0 0) ro_168_8 Q ex_168_8_3172 ⟨tb, [⟨0, 0, .cells (RS b (p + 3))⟩, ⟨32, 1, .cells [.nil, .nil]⟩, ⟨40, x1, .cells [.arr 88 x2, .arr 136 x3]⟩, ⟨88, x2, .arr 1 (ints u)⟩, ⟨136, x3, .arr 1 (orowsD t)⟩], g⟩ := by
    intro tb g e0 e4 e5 e6 e35 e38 e39 e43 e44
    unfold ex_168_8_3172
    simp only [exT_alt, exT_one, exT_stop, and_true]
    refine ⟨?_, ?_⟩
    · rw [ro_168_8_0]
      simp [callDOW, l0, l1, rg4, hkt, hyr, orowsD_ge, rowAt, rowB, e0, e4, e5, e6, e35, e38, e39, e43, e44]
      refine n3173 _ _ ?_ ?_ ?_ ?_ ?_ ?_ ?_ ?_ ?_ ?_ <;> simp [getT, e0, e4, e5, e6, e35, e38, e39, e43, e44]
    · rw [ro_168_8_7]
      simp [callDOW, l0, l1, rg4, hkt, hyr, orowsD_ge, rowAt, rowB, e0, e4, e5, e6, e35, e38, e39, e43, e44]
      refine n3300 _ _ ?_ ?_ ?_ ?_ ?_ ?_ ?_ ?_ ?_ ?_ <;> simp [getT, e0, e4, e5, e6, e35, e38, e39, e43, e44]
  have n3135 : ∀ tb g, getT tb 0 = .ptr 0 0 0 → getT tb 4 = .ptr 32 1 0 → getT tb 5 = .ptr 40 x1 0 → getT tb 6 = I64 (k : Int) → getT tb 33 = .ptr 40 x1 1 → getT tb 34 = .arr 136 x3 → getT tb 35 = I64 (k : Int) → getT tb 36 = .ptr 136 x3 k → getT tb 37 = .row 136 x3 k → getT tb 38 = .ptr 0 0 0 → getT tb 43 = .ptr 0 0 0 → getT tb 44 = .list 1 [.int .i64 0, .int .i64 1, .int .i64 (-1), .int .i64 6] → exT C0 0 (inlW C0 [fm_copyTabS] [fw_pick, fw_one] 0 0) ro_168_8 Q ex_168_8_3135 ⟨tb, [⟨0, 0, .cells (RS b (p + 3))⟩, ⟨32, 1, .cells [.nil, .nil]⟩, ⟨40, x1, .cells [.arr 88 x2, .arr 136 x3]⟩, ⟨88, x2, .arr 1 (ints u)⟩, ⟨136, x3, .arr 1 (orowsD t)⟩], g⟩ := by
    intro tb g e0 e4 e5 e6 e33 e34 e35 e36 e37 e38 e43 e44
    unfold ex_168_8_3135
    simp only [exT_alt, exT_one, exT_stop, and_true]
    rw [ro_168_8_6]
    simp [callDOW, l0, l1, rg4, hkt, hyr, orowsD_ge, rowAt, rowB, e0, e4, e5, e6, e33, e34, e35, e36, e37, e38, e43, e44]
    refine n3199 _ _ ?_ ?_ ?_ ?_ ?_ ?_ ?_ ?_ ?_ ?_ ?_ ?_ ?_ <;> simp [getT, e0, e4, e5, e6, e33, e34, e35, e36, e37, e38, e43, e44]
  have n3119 : ∀ tb g, getT tb 0 = .ptr 0 0 0 → getT tb 4 = .ptr 32 1 0 → getT tb 5 = .ptr 40 x1 0 → getT tb 6 = I64 (k : Int) → getT tb 33 = .ptr 40 x1 1 → getT tb 34 = .arr 136 x3 → getT tb 35 = I64 (k : Int) → getT tb 36 = .ptr 136 x3 k → getT tb 38 = .ptr 0 0 0 → getT tb 43 = .ptr 0 0 0 → getT tb 44 = .list 1 [.int .i64 0, .int .i64 1, .int .i64 (-1), .int .i64 6] → exT C0 0 (inlW C0 [fm_copyTabS] [fw_pick, fw_one] 0 0) ro_168_8 Q ex_168_8_3119 ⟨tb, [⟨0, 0, .cells (RS b (p + 3))⟩, ⟨32, 1, .cells [.nil, .nil]⟩, ⟨40, x1, .cells [.arr 88 x2, .arr 136 x3]⟩, ⟨88, x2, .arr 1 (ints u)⟩, ⟨136, x3, .arr 1 (orowsD t)⟩], g⟩ := by
    intro tb g e0 e4 e5 e6 e33 e34 e35 e36 e38 e43 e44
    unfold ex_168_8_3119
    simp only [exT_alt, exT_one, exT_stop, and_true]
    refine ⟨?_, ?_⟩
    · rw [ro_168_8_4]
      simp [callDOW, l0, l1, rg4, hkt, hyr, orowsD_ge, rowAt, rowB, e0, e4, e5, e6, e33, e34, e35, e36, e38, e43, e44]
      refine n3135 _ _ ?_ ?_ ?_ ?_ ?_ ?_ ?_ ?_ ?_ ?_ ?_ ?_ <;> simp [getT, e0, e4, e5, e6, e33, e34, e35, e36, e38, e43, e44]
    · rw [ro_168_8_6]
      simp [callDOW, l0, l1, rg4, hkt, hyr, orowsD_ge, rowAt, rowB, e0, e4, e5, e6, e33, e34, e35, e36, e38, e43, e44]
      refine n3183 _ _ ?_ ?_ ?_ ?_ ?_ ?_ ?_ ?_ ?_ ?_ ?_ ?_ <;> simp [getT, e0, e4, e5, e6, e33, e34, e35, e36, e38, e43, e44]
  have n3111 : ∀ tb g, getT tb 0 = .ptr 0 0 0 → getT tb 4 = .ptr 32 1 0 → getT tb 5 = .ptr 40 x1 0 → getT tb 6 = I64 (k : Int) → getT tb 33 = .ptr 40 x1 1 → getT tb 34 = .arr 136 x3 → getT tb 35 = I64 (k : Int) → getT tb 38 = .ptr 0 0 0 → getT tb 43 = .ptr 0 0 0 → getT tb 44 = .list 1 [.int .i64 0, .int .i64 1, .int .i64 (-1), .int .i64 6] → exT C0 0 (inlW C0 [fm_copyTabS] [fw_pick, fw_one] 0 0) ro_168_8 Q ex_168_8_3111 ⟨tb, [⟨0, 0, .cells (RS b (p + 3))⟩, ⟨32, 1, .cells [.nil, .nil]⟩, ⟨40, x1, .cells [.arr 88 x2, .arr 136 x3]⟩, ⟨88, x2, .arr 1 (ints u)⟩, ⟨136, x3, .arr 1 (orowsD t)⟩], g⟩ := by
    intro tb g e0 e4 e5 e6 e33 e34 e35 e38 e43 e44
    unfold ex_168_8_3111
    simp only [exT_alt, exT_one, exT_stop, and_true]
    refine ⟨?_, ?_⟩
    · rw [ro_168_8_3]
      simp [callDOW, l0, l1, rg4, hkt, hyr, orowsD_ge, rowAt, rowB, e0, e4, e5, e6, e33, e34, e35, e38, e43, e44]
      refine n3119 _ _ ?_ ?_ ?_ ?_ ?_ ?_ ?_ ?_ ?_ ?_ ?_ <;> simp [getT, e0, e4, e5, e6, e33, e34, e35, e38, e43, e44]
    · rw [ro_168_8_6]
      simp [callDOW, l0, l1, rg4, hkt, hyr, orowsD_ge, rowAt, rowB, e0, e4, e5, e6, e33, e34, e35, e38, e43, e44]
      refine n3175 _ _ ?_ ?_ ?_ ?_ ?_ ?_ ?_ ?_ ?_ ?_ ?_ <;> simp [getT, e0, e4, e5, e6, e33, e34, e35, e38, e43, e44]
  have n3109 : ∀ tb g, getT tb 0 = .ptr 0 0 0 → getT tb 4 = .ptr 32 1 0 → getT tb 5 = .ptr 40 x1 0 → getT tb 6 = I64 (k : Int) → getT tb 33 = .ptr 40 x1 1 → getT tb 35 = I64 (k : Int) → getT tb 38 = .ptr 0 0 0 → getT tb 43 = .ptr 0 0 0 → getT tb 44 = .list 1 [.int .i64 0, .int .i64 1, .int .i64 (-1), .int .i64 6] → exT C0 0 (inlW C0 [fm_copyTabS] [fw_pick, fw_one] 0 0) ro_168_8 Q ex_168_8_3109 ⟨tb, [⟨0, 0, .cells (RS b (p + 3))⟩, ⟨32, 1, .cells [.nil, .nil]⟩, ⟨40, x1, .cells [.arr 88 x2, .arr 136 x3]⟩, ⟨88, x2, .arr 1 (ints u)⟩, ⟨136, x3, .arr 1 (orowsD t)⟩], g⟩ := by
    intro tb g e0 e4 e5 e6 e33 e35 e38 e43 e44
    unfold ex_168_8_3109
    simp only [exT_alt, exT_one, exT_stop, and_true]
    refine ⟨?_, ?_⟩
    · rw [ro_168_8_1]
      simp [callDOW, l0, l1, rg4, hkt, hyr, orowsD_ge, rowAt, rowB, e0, e4, e5, e6, e33, e35, e38, e43, e44]
      refine n3111 _ _ ?_ ?_ ?_ ?_ ?_ ?_ ?_ ?_ ?_ ?_ <;> simp [getT, e0, e4, e5, e6, e33, e35, e38, e43, e44]
    · rw [ro_168_8_6]
      simp [callDOW, l0, l1, rg4, hkt, hyr, orowsD_ge, rowAt, rowB, e0, e4, e5, e6, e33, e35, e38, e43, e44]
      refine n3173 _ _ ?_ ?_ ?_ ?_ ?_ ?_ ?_ ?_ ?_ ?_ <;> simp [getT, e0, e4, e5, e6, e33, e35, e38, e43, e44]
  have n3108 : ∀ tb g, getT tb 0 = .ptr 0 0 0 → getT tb 4 = .ptr 32 1 0 → getT tb 5 = .ptr 40 x1 0 → getT tb 6 = I64 (k : Int) → getT tb 35 = I64 (k : Int) → getT tb 38 = .ptr 0 0 0 → getT tb 43 = .ptr 0 0 0 → getT tb 44 = .list 1 [.int .i64 0, .int .i64 1, .int .i64 (-1), .int .i64 6] → exT C0 0 (inlW C0 [fm_copyTabS] [fw_pick, fw_one] 0 0) ro_168_8 Q ex_168_8_3108 ⟨tb, [⟨0, 0, .cells (RS b (p + 3))⟩, ⟨32, 1, .cells [.nil, .nil]⟩, ⟨40, x1, .cells [.arr 88 x2, .arr 136 x3]⟩, ⟨88, x2, .arr 1 (ints u)⟩, ⟨136, x3, .arr 1 (orowsD t)⟩], g⟩ := by
    intro tb g e0 e4 e5 e6 e35 e38 e43 e44
    unfold ex_168_8_3108
    simp only [exT_alt, exT_one, exT_stop, and_true]
    refine ⟨?_, ?_⟩
    · rw [ro_168_8_0]
      simp [callDOW, l0, l1, rg4, hkt, hyr, orowsD_ge, rowAt, rowB, e0, e4, e5, e6, e35, e38, e43, e44]
      refine n3109 _ _ ?_ ?_ ?_ ?_ ?_ ?_ ?_ ?_ ?_ <;> simp [getT, e0, e4, e5, e6, e35, e38, e43, e44]
    · rw [ro_168_8_6]
      simp [callDOW, l0, l1, rg4, hkt, hyr, orowsD_ge, rowAt, rowB, e0, e4, e5, e6, e35, e38, e43, e44]
      refine n3172 _ _ ?_ ?_ ?_ ?_ ?_ ?_ ?_ ?_ ?_ <;> simp [getT, e0, e4, e5, e6, e35, e38, e43, e44]
  have n1060 : ∀ tb g, getT tb 0 = .ptr 0 0 0 → getT tb 4 = .ptr 32 1 0 → getT tb 5 = .ptr 40 x1 0 → getT tb 6 = I64 (k : Int) → getT tb 35 = I64 (k : Int) → getT tb 38 = .ptr 0 0 0 → getT tb 43 = .ptr 0 0 0 → exT C0 0 (inlW C0 [fm_copyTabS] [fw_pick, fw_one] 0 0) ro_168_8 Q ex_168_8_1060 ⟨tb, [⟨0, 0, .cells (RS b (p + 3))⟩, ⟨32, 1, .cells [.nil, .nil]⟩, ⟨40, x1, .cells [.arr 88 x2, .arr 136 x3]⟩, ⟨88, x2, .arr 1 (ints u)⟩, ⟨136, x3, .arr 1 (orowsD t)⟩], g⟩ := by
    intro tb g e0 e4 e5 e6 e35 e38 e43
    unfold ex_168_8_1060
    simp only [exT_alt, exT_one, exT_stop, and_true]
    rw [ro_168_8_11]
    simp [callDOW, l0, l1, rg4, hkt, hyr, orowsD_ge, rowAt, rowB, e0, e4, e5, e6, e35, e38, e43]
    refine n3108 _ _ ?_ ?_ ?_ ?_ ?_ ?_ ?_ ?_ <;> simp [getT, e0, e4, e5, e6, e35, e38, e43]
  have n36 : ∀ tb g, getT tb 0 = .ptr 0 0 0 → getT tb 4 = .ptr 32 1 0 → getT tb 5 = .ptr 40 x1 0 → getT tb 6 = I64 (k : Int) → getT tb 35 = I64 (k : Int) → getT tb 38 = .ptr 0 0 0 → exT C0 0 (inlW C0 [fm_copyTabS] [fw_pick, fw_one] 0 0) ro_168_8 Q ex_168_8_36 ⟨tb, [⟨0, 0, .cells (RS b (p + 3))⟩, ⟨32, 1, .cells [.nil, .nil]⟩, ⟨40, x1, .cells [.arr 88 x2, .arr 136 x3]⟩, ⟨88, x2, .arr 1 (ints u)⟩, ⟨136, x3, .arr 1 (orowsD t)⟩], g⟩ := by
    intro tb g e0 e4 e5 e6 e35 e38
    unfold ex_168_8_36
    simp only [exT_alt, exT_one, exT_stop, and_true]
    rw [ro_168_8_10]
    simp [callDOW, l0, l1, rg4, hkt, hyr, orowsD_ge, rowAt, rowB, e0, e4, e5, e6, e35, e38]
    refine n1060 _ _ ?_ ?_ ?_ ?_ ?_ ?_ ?_ <;> simp [getT, e0, e4, e5, e6, e35, e38]
  have n4 : ∀ tb g, getT tb 0 = .ptr 0 0 0 → getT tb 4 = .ptr 32 1 0 → getT tb 5 = .ptr 40 x1 0 → getT tb 6 = I64 (k : Int) → getT tb 35 = I64 (k : Int) → exT C0 0 (inlW C0 [fm_copyTabS] [fw_pick, fw_one] 0 0) ro_168_8 Q ex_168_8_4 ⟨tb, [⟨0, 0, .cells (RS b (p + 3))⟩, ⟨32, 1, .cells [.nil, .nil]⟩, ⟨40, x1, .cells [.arr 88 x2, .arr 136 x3]⟩, ⟨88, x2, .arr 1 (ints u)⟩, ⟨136, x3, .arr 1 (orowsD t)⟩], g⟩ := by
    intro tb g e0 e4 e5 e6 e35
    unfold ex_168_8_4
    simp only [exT_alt, exT_one, exT_stop, and_true]
    rw [ro_168_8_5]
    simp [callDOW, l0, l1, rg4, hkt, hyr, orowsD_ge, rowAt, rowB, e0, e4, e5, e6, e35]
    refine n36 _ _ ?_ ?_ ?_ ?_ ?_ ?_ <;> simp [getT, e0, e4, e5, e6, e35]
  have n0 : ∀ tb g, getT tb 0 = .ptr 0 0 0 → getT tb 4 = .ptr 32 1 0 → getT tb 5 = .ptr 40 x1 0 → getT tb 6 = I64 (k : Int) → exT C0 0 (inlW C0 [fm_copyTabS] [fw_pick, fw_one] 0 0) ro_168_8 Q ex_168_8_0 ⟨tb, [⟨0, 0, .cells (RS b (p + 3))⟩, ⟨32, 1, .cells [.nil, .nil]⟩, ⟨40, x1, .cells [.arr 88 x2, .arr 136 x3]⟩, ⟨88, x2, .arr 1 (ints u)⟩, ⟨136, x3, .arr 1 (orowsD t)⟩], g⟩ := by
    intro tb g e0 e4 e5 e6
    unfold ex_168_8_0
    simp only [exT_alt, exT_one, exT_stop, and_true]
    rw [ro_168_8_2]
    simp [callDOW, l0, l1, rg4, hkt, hyr, orowsD_ge, rowAt, rowB, e0, e4, e5, e6]
    refine n4 _ _ ?_ ?_ ?_ ?_ ?_ <;> simp [getT, e0, e4, e5, e6]
  exact n0
set_option maxHeartbeats 2000000 in
theorem bent_dag10 {Q : St → Prop} {b : List Int} {p : Nat} {u : List Int} {t : List (List Int)} {k x1 x2 x3 : Nat} {z : Int} (hku : k < u.length) (l1 : fw_one.look [.ptr 0 0 0, .list 1 [.int .i64 0, .int .i64 3, .int .i64 (-1)]] (RS b (p + 3)) = some (I64 z, RS b (p + 4)))
    (hQ : ∀ tb g, getT tb 4 = .ptr 32 1 0 → getT tb 5 = .ptr 40 x1 0 → Q ⟨tb, [⟨0, 0, .cells (RS b (p + 4))⟩, ⟨32, 1, .cells [.nil, .nil]⟩, ⟨40, x1, .cells [.arr 88 x2, .arr 136 x3]⟩, ⟨88, x2, .arr 1 (ints (u.set k z))⟩, ⟨136, x3, .arr 1 (orowsD t)⟩], g⟩) : ∀ tb g, getT tb 0 = .ptr 0 0 0 → getT tb 4 = .ptr 32 1 0 → getT tb 5 = .ptr 40 x1 0 → getT tb 6 = I64 (k : Int) → exT C0 0 (inlW C0 [fm_copyTabS] [fw_pick, fw_one] 0 0) ro_168_10 Q ex_168_10_0 ⟨tb, [⟨0, 0, .cells (RS b (p + 3))⟩, ⟨32, 1, .cells [.nil, .nil]⟩, ⟨40, x1, .cells [.arr 88 x2, .arr 136 x3]⟩, ⟨88, x2, .arr 1 (ints u)⟩, ⟨136, x3, .arr 1 (orowsD t)⟩], g⟩ := by
  have n255 : ∀ tb g, getT tb 0 = .ptr 0 0 0 → getT tb 4 = .ptr 32 1 0 → getT tb 5 = .ptr 40 x1 0 → getT tb 6 = I64 (k : Int) → getT tb 49 = .ptr 40 x1 0 → getT tb 50 = .arr 88 x2 → getT tb 51 = I64 (k : Int) → getT tb 52 = .ptr 0 0 0 → getT tb 53 = .list 1 [.int .i64 0, .int .i64 3, .int .i64 (-1)] → getT tb 54 = I64 z → getT tb 55 = .ptr 88 x2 k → exT C0 0 (inlW C0 [fm_copyTabS] [fw_pick, fw_one] 0 0) ro_168_10 Q ex_168_10_255 ⟨tb, [⟨0, 0, .cells (RS b (p + 4))⟩, ⟨32, 1, .cells [.nil, .nil]⟩, ⟨40, x1, .cells [.arr 88 x2, .arr 136 x3]⟩, ⟨88, x2, .arr 1 (ints (u.set k z))⟩, ⟨136, x3, .arr 1 (orowsD t)⟩], g⟩ := by
    intro tb g e0 e4 e5 e6 e49 e50 e51 e52 e53 e54 e55
    unfold ex_168_10_255
    exact hQ tb g e4 e5
  have n127 : ∀ tb g, getT tb 0 = .ptr 0 0 0 → getT tb 4 = .ptr 32 1 0 → getT tb 5 = .ptr 40 x1 0 → getT tb 6 = I64 (k : Int) → getT tb 49 = .ptr 40 x1 0 → getT tb 50 = .arr 88 x2 → getT tb 51 = I64 (k : Int) → getT tb 52 = .ptr 0 0 0 → getT tb 53 = .list 1 [.int .i64 0, .int .i64 3, .int .i64 (-1)] → getT tb 54 = I64 z → getT tb 55 = .ptr 88 x2 k → exT C0 0 (inlW C0 [fm_copyTabS] [fw_pick, fw_one] 0 0) ro_168_10 Q ex_168_10_127 ⟨tb, [⟨0, 0, .cells (RS b (p + 4))⟩, ⟨32, 1, .cells [.nil, .nil]⟩, ⟨40, x1, .cells [.arr 88 x2, .arr 136 x3]⟩, ⟨88, x2, .arr 1 (ints u)⟩, ⟨136, x3, .arr 1 (orowsD t)⟩], g⟩ := by
    intro tb g e0 e4 e5 e6 e49 e50 e51 e52 e53 e54 e55
    unfold ex_168_10_127
    simp only [exT_alt, exT_one, exT_stop, and_true]
    rw [ro_168_10_7]
    simp [callDOW, l1, rg3, hku, e0, e4, e5, e6, e49, e50, e51, e52, e53, e54, e55]
    refine n255 _ _ ?_ ?_ ?_ ?_ ?_ ?_ ?_ ?_ ?_ ?_ ?_ <;> simp [getT, e0, e4, e5, e6, e49, e50, e51, e52, e53, e54, e55]
  have n63 : ∀ tb g, getT tb 0 = .ptr 0 0 0 → getT tb 4 = .ptr 32 1 0 → getT tb 5 = .ptr 40 x1 0 → getT tb 6 = I64 (k : Int) → getT tb 49 = .ptr 40 x1 0 → getT tb 50 = .arr 88 x2 → getT tb 51 = I64 (k : Int) → getT tb 52 = .ptr 0 0 0 → getT tb 53 = .list 1 [.int .i64 0, .int .i64 3, .int .i64 (-1)] → getT tb 54 = I64 z → exT C0 0 (inlW C0 [fm_copyTabS] [fw_pick, fw_one] 0 0) ro_168_10 Q ex_168_10_63 ⟨tb, [⟨0, 0, .cells (RS b (p + 4))⟩, ⟨32, 1, .cells [.nil, .nil]⟩, ⟨40, x1, .cells [.arr 88 x2, .arr 136 x3]⟩, ⟨88, x2, .arr 1 (ints u)⟩, ⟨136, x3, .arr 1 (orowsD t)⟩], g⟩ := by
    intro tb g e0 e4 e5 e6 e49 e50 e51 e52 e53 e54
    unfold ex_168_10_63
    simp only [exT_alt, exT_one, exT_stop, and_true]
    rw [ro_168_10_6]
    simp [callDOW, l1, rg3, hku, e0, e4, e5, e6, e49, e50, e51, e52, e53, e54]
    refine n127 _ _ ?_ ?_ ?_ ?_ ?_ ?_ ?_ ?_ ?_ ?_ ?_ <;> simp [getT, e0, e4, e5, e6, e49, e50, e51, e52, e53, e54]
  have n61 : ∀ tb g, getT tb 0 = .ptr 0 0 0 → getT tb 4 = .ptr 32 1 0 → getT tb 5 = .ptr 40 x1 0 → getT tb 6 = I64 (k : Int) → getT tb 49 = .ptr 40 x1 0 → getT tb 51 = I64 (k : Int) → getT tb 52 = .ptr 0 0 0 → getT tb 53 = .list 1 [.int .i64 0, .int .i64 3, .int .i64 (-1)] → getT tb 54 = I64 z → exT C0 0 (inlW C0 [fm_copyTabS] [fw_pick, fw_one] 0 0) ro_168_10 Q ex_168_10_61 ⟨tb, [⟨0, 0, .cells (RS b (p + 4))⟩, ⟨32, 1, .cells [.nil, .nil]⟩, ⟨40, x1, .cells [.arr 88 x2, .arr 136 x3]⟩, ⟨88, x2, .arr 1 (ints u)⟩, ⟨136, x3, .arr 1 (orowsD t)⟩], g⟩ := by
    intro tb g e0 e4 e5 e6 e49 e51 e52 e53 e54
    unfold ex_168_10_61
    simp only [exT_alt, exT_one, exT_stop, and_true]
    rw [ro_168_10_1]
    simp [callDOW, l1, rg3, hku, e0, e4, e5, e6, e49, e51, e52, e53, e54]
    refine n63 _ _ ?_ ?_ ?_ ?_ ?_ ?_ ?_ ?_ ?_ ?_ <;> simp [getT, e0, e4, e5, e6, e49, e51, e52, e53, e54]
  have n60 : ∀ tb g, getT tb 0 = .ptr 0 0 0 → getT tb 4 = .ptr 32 1 0 → getT tb 5 = .ptr 40 x1 0 → getT tb 6 = I64 (k : Int) → getT tb 51 = I64 (k : Int) → getT tb 52 = .ptr 0 0 0 → getT tb 53 = .list 1 [.int .i64 0, .int .i64 3, .int .i64 (-1)] → getT tb 54 = I64 z → exT C0 0 (inlW C0 [fm_copyTabS] [fw_pick, fw_one] 0 0) ro_168_10 Q ex_168_10_60 ⟨tb, [⟨0, 0, .cells (RS b (p + 4))⟩, ⟨32, 1, .cells [.nil, .nil]⟩, ⟨40, x1, .cells [.arr 88 x2, .arr 136 x3]⟩, ⟨88, x2, .arr 1 (ints u)⟩, ⟨136, x3, .arr 1 (orowsD t)⟩], g⟩ := by
    intro tb g e0 e4 e5 e6 e51 e52 e53 e54
    unfold ex_168_10_60
    simp only [exT_alt, exT_one, exT_stop, and_true]
    rw [ro_168_10_0]
    simp [callDOW, l1, rg3, hku, e0, e4, e5, e6, e51, e52, e53, e54]
    refine n61 _ _ ?_ ?_ ?_ ?_ ?_ ?_ ?_ ?_ ?_ <;> simp [getT, e0, e4, e5, e6, e51, e52, e53, e54]
  have n31 : ∀ tb g, getT tb 0 = .ptr 0 0 0 → getT tb 4 = .ptr 32 1 0 → getT tb 5 = .ptr 40 x1 0 → getT tb 6 = I64 (k : Int) → getT tb 49 = .ptr 40 x1 0 → getT tb 50 = .arr 88 x2 → getT tb 51 = I64 (k : Int) → getT tb 52 = .ptr 0 0 0 → getT tb 53 = .list 1 [.int .i64 0, .int .i64 3, .int .i64 (-1)] → exT C0 0 (inlW C0 [fm_copyTabS] [fw_pick, fw_one] 0 0) ro_168_10 Q ex_168_10_31 ⟨tb, [⟨0, 0, .cells (RS b (p + 3))⟩, ⟨32, 1, .cells [.nil, .nil]⟩, ⟨40, x1, .cells [.arr 88 x2, .arr 136 x3]⟩, ⟨88, x2, .arr 1 (ints u)⟩, ⟨136, x3, .arr 1 (orowsD t)⟩], g⟩ := by
    intro tb g e0 e4 e5 e6 e49 e50 e51 e52 e53
    unfold ex_168_10_31
    simp only [exT_alt, exT_one, exT_stop, and_true]
    rw [ro_168_10_5]
    simp [callDOW, l1, rg3, hku, e0, e4, e5, e6, e49, e50, e51, e52, e53]
    refine n63 _ _ ?_ ?_ ?_ ?_ ?_ ?_ ?_ ?_ ?_ ?_ <;> simp [getT, e0, e4, e5, e6, e49, e50, e51, e52, e53]
  have n29 : ∀ tb g, getT tb 0 = .ptr 0 0 0 → getT tb 4 = .ptr 32 1 0 → getT tb 5 = .ptr 40 x1 0 → getT tb 6 = I64 (k : Int) → getT tb 49 = .ptr 40 x1 0 → getT tb 51 = I64 (k : Int) → getT tb 52 = .ptr 0 0 0 → getT tb 53 = .list 1 [.int .i64 0, .int .i64 3, .int .i64 (-1)] → exT C0 0 (inlW C0 [fm_copyTabS] [fw_pick, fw_one] 0 0) ro_168_10 Q ex_168_10_29 ⟨tb, [⟨0, 0, .cells (RS b (p + 3))⟩, ⟨32, 1, .cells [.nil, .nil]⟩, ⟨40, x1, .cells [.arr 88 x2, .arr 136 x3]⟩, ⟨88, x2, .arr 1 (ints u)⟩, ⟨136, x3, .arr 1 (orowsD t)⟩], g⟩ := by
    intro tb g e0 e4 e5 e6 e49 e51 e52 e53
    unfold ex_168_10_29
    simp only [exT_alt, exT_one, exT_stop, and_true]
    refine ⟨?_, ?_⟩
    · rw [ro_168_10_1]
      simp [callDOW, l1, rg3, hku, e0, e4, e5, e6, e49, e51, e52, e53]
      refine n31 _ _ ?_ ?_ ?_ ?_ ?_ ?_ ?_ ?_ ?_ <;> simp [getT, e0, e4, e5, e6, e49, e51, e52, e53]
    · rw [ro_168_10_5]
      simp [callDOW, l1, rg3, hku, e0, e4, e5, e6, e49, e51, e52, e53]
      refine n61 _ _ ?_ ?_ ?_ ?_ ?_ ?_ ?_ ?_ ?_ <;> simp [getT, e0, e4, e5, e6, e49, e51, e52, e53]
  have n28 : ∀ tb g, getT tb 0 = .ptr 0 0 0 → getT tb 4 = .ptr 32 1 0 → getT tb 5 = .ptr 40 x1 0 → getT tb 6 = I64 (k : Int) → getT tb 51 = I64 (k : Int) → getT tb 52 = .ptr 0 0 0 → getT tb 53 = .list 1 [.int .i64 0, .int .i64 3, .int .i64 (-1)] → exT C0 0 (inlW C0 [fm_copyTabS] [fw_pick, fw_one] 0 0) ro_168_10 Q ex_168_10_28 ⟨tb, [⟨0, 0, .cells (RS b (p + 3))⟩, ⟨32, 1, .cells [.nil, .nil]⟩, ⟨40, x1, .cells [.arr 88 x2, .arr 136 x3]⟩, ⟨88, x2, .arr 1 (ints u)⟩, ⟨136, x3, .arr 1 (orowsD t)⟩], g⟩ := by
    intro tb g e0 e4 e5 e6 e51 e52 e53
    unfold ex_168_10_28
    simp only [exT_alt, exT_one, exT_stop, and_true]
    refine ⟨?_, ?_⟩
    · rw [ro_168_10_0]
      simp [callDOW, l1, rg3, hku, e0, e4, e5, e6, e51, e52, e53]
      refine n29 _ _ ?_ ?_ ?_ ?_ ?_ ?_ ?_ ?_ <;> simp [getT, e0, e4, e5, e6, e51, e52, e53]
    · rw [ro_168_10_5]
      simp [callDOW, l1, rg3, hku, e0, e4, e5, e6, e51, e52, e53]
      refine n60 _ _ ?_ ?_ ?_ ?_ ?_ ?_ ?_ ?_ <;> simp [getT, e0, e4, e5, e6, e51, e52, e53]
  have n12 : ∀ tb g, getT tb 0 = .ptr 0 0 0 → getT tb 4 = .ptr 32 1 0 → getT tb 5 = .ptr 40 x1 0 → getT tb 6 = I64 (k : Int) → getT tb 51 = I64 (k : Int) → getT tb 52 = .ptr 0 0 0 → exT C0 0 (inlW C0 [fm_copyTabS] [fw_pick, fw_one] 0 0) ro_168_10 Q ex_168_10_12 ⟨tb, [⟨0, 0, .cells (RS b (p + 3))⟩, ⟨32, 1, .cells [.nil, .nil]⟩, ⟨40, x1, .cells [.arr 88 x2, .arr 136 x3]⟩, ⟨88, x2, .arr 1 (ints u)⟩, ⟨136, x3, .arr 1 (orowsD t)⟩], g⟩ := by
    intro tb g e0 e4 e5 e6 e51 e52
    unfold ex_168_10_12
    simp only [exT_alt, exT_one, exT_stop, and_true]
    rw [ro_168_10_4]
    simp [callDOW, l1, rg3, hku, e0, e4, e5, e6, e51, e52]
    refine n28 _ _ ?_ ?_ ?_ ?_ ?_ ?_ ?_ <;> simp [getT, e0, e4, e5, e6, e51, e52]
  have n4 : ∀ tb g, getT tb 0 = .ptr 0 0 0 → getT tb 4 = .ptr 32 1 0 → getT tb 5 = .ptr 40 x1 0 → getT tb 6 = I64 (k : Int) → getT tb 51 = I64 (k : Int) → exT C0 0 (inlW C0 [fm_copyTabS] [fw_pick, fw_one] 0 0) ro_168_10 Q ex_168_10_4 ⟨tb, [⟨0, 0, .cells (RS b (p + 3))⟩, ⟨32, 1, .cells [.nil, .nil]⟩, ⟨40, x1, .cells [.arr 88 x2, .arr 136 x3]⟩, ⟨88, x2, .arr 1 (ints u)⟩, ⟨136, x3, .arr 1 (orowsD t)⟩], g⟩ := by
    intro tb g e0 e4 e5 e6 e51
    unfold ex_168_10_4
    simp only [exT_alt, exT_one, exT_stop, and_true]
    rw [ro_168_10_3]
    simp [callDOW, l1, rg3, hku, e0, e4, e5, e6, e51]
    refine n12 _ _ ?_ ?_ ?_ ?_ ?_ ?_ <;> simp [getT, e0, e4, e5, e6, e51]
  have n0 : ∀ tb g, getT tb 0 = .ptr 0 0 0 → getT tb 4 = .ptr 32 1 0 → getT tb 5 = .ptr 40 x1 0 → getT tb 6 = I64 (k : Int) → exT C0 0 (inlW C0 [fm_copyTabS] [fw_pick, fw_one] 0 0) ro_168_10 Q ex_168_10_0 ⟨tb, [⟨0, 0, .cells (RS b (p + 3))⟩, ⟨32, 1, .cells [.nil, .nil]⟩, ⟨40, x1, .cells [.arr 88 x2, .arr 136 x3]⟩, ⟨88, x2, .arr 1 (ints u)⟩, ⟨136, x3, .arr 1 (orowsD t)⟩], g⟩ := by
    intro tb g e0 e4 e5 e6
    unfold ex_168_10_0
    simp only [exT_alt, exT_one, exT_stop, and_true]
    rw [ro_168_10_2]
    simp [callDOW, l1, rg3, hku, e0, e4, e5, e6]
    refine n4 _ _ ?_ ?_ ?_ ?_ ?_ <;> simp [getT, e0, e4, e5, e6]
  exact n0
set_option maxHeartbeats 2000000 in
theorem bent_dag14 {Q : St → Prop} {b : List Int} {p : Nat} {u : List Int} {t : List (List Int)} {k x1 x2 x3 : Nat} (hkt : k < t.length) (hyr : 1 ≤ (gr t k).length) (hyn : ¬ gr t k = []) (hyi : (1 : Int) ≤ (gr t k).length)
    (hQ : ∀ tb g, getT tb 4 = .ptr 32 1 0 → getT tb 5 = .ptr 40 x1 0 → Q ⟨tb, [⟨0, 0, .cells (RS b (p + 3))⟩, ⟨32, 1, .cells [.nil, .nil]⟩, ⟨40, x1, .cells [.arr 88 x2, .arr 136 x3]⟩, ⟨88, x2, .arr 1 (ints u)⟩, ⟨136, x3, .arr 1 ((orowsD t).set k (IL ((gr t k).tail)))⟩], g⟩) : ∀ tb g, getT tb 4 = .ptr 32 1 0 → getT tb 5 = .ptr 40 x1 0 → getT tb 6 = I64 (k : Int) → exT C0 0 (inlW C0 [fm_copyTabS] [fw_pick, fw_one] 0 0) ro_168_14 Q ex_168_14_0 ⟨tb, [⟨0, 0, .cells (RS b (p + 3))⟩, ⟨32, 1, .cells [.nil, .nil]⟩, ⟨40, x1, .cells [.arr 88 x2, .arr 136 x3]⟩, ⟨88, x2, .arr 1 (ints u)⟩, ⟨136, x3, .arr 1 (orowsD t)⟩], g⟩ := by
  have n2047 : ∀ tb g, getT tb 4 = .ptr 32 1 0 → getT tb 5 = .ptr 40 x1 0 → getT tb 6 = I64 (k : Int) → getT tb 64 = .ptr 40 x1 1 → getT tb 65 = .arr 136 x3 → getT tb 66 = I64 (k : Int) → getT tb 67 = .ptr 40 x1 1 → getT tb 68 = .arr 136 x3 → getT tb 69 = I64 (k : Int) → getT tb 70 = .ptr 136 x3 k → getT tb 71 = IL (gr t k) → getT tb 72 = IL ((gr t k).tail) → getT tb 73 = .ptr 136 x3 k → exT C0 0 (inlW C0 [fm_copyTabS] [fw_pick, fw_one] 0 0) ro_168_14 Q ex_168_14_2047 ⟨tb, [⟨0, 0, .cells (RS b (p + 3))⟩, ⟨32, 1, .cells [.nil, .nil]⟩, ⟨40, x1, .cells [.arr 88 x2, .arr 136 x3]⟩, ⟨88, x2, .arr 1 (ints u)⟩, ⟨136, x3, .arr 1 ((orowsD t).set k (IL ((gr t k).tail)))⟩], g⟩ := by
    intro tb g e4 e5 e6 e64 e65 e66 e67 e68 e69 e70 e71 e72 e73
    unfold ex_168_14_2047
    exact hQ tb g e4 e5
  have n1023 : ∀ tb g, getT tb 4 = .ptr 32 1 0 → getT tb 5 = .ptr 40 x1 0 → getT tb 6 = I64 (k : Int) → getT tb 64 = .ptr 40 x1 1 → getT tb 65 = .arr 136 x3 → getT tb 66 = I64 (k : Int) → getT tb 67 = .ptr 40 x1 1 → getT tb 68 = .arr 136 x3 → getT tb 69 = I64 (k : Int) → getT tb 70 = .ptr 136 x3 k → getT tb 71 = IL (gr t k) → getT tb 72 = IL ((gr t k).tail) → getT tb 73 = .ptr 136 x3 k → exT C0 0 (inlW C0 [fm_copyTabS] [fw_pick, fw_one] 0 0) ro_168_14 Q ex_168_14_1023 ⟨tb, [⟨0, 0, .cells (RS b (p + 3))⟩, ⟨32, 1, .cells [.nil, .nil]⟩, ⟨40, x1, .cells [.arr 88 x2, .arr 136 x3]⟩, ⟨88, x2, .arr 1 (ints u)⟩, ⟨136, x3, .arr 1 ((orowsD t).set k (IL (gr t k)))⟩], g⟩ := by
    intro tb g e4 e5 e6 e64 e65 e66 e67 e68 e69 e70 e71 e72 e73
    unfold ex_168_14_1023
    simp only [exT_alt, exT_one, exT_stop, and_true]
    rw [ro_168_14_10]
    simp [hkt, hyr, hyn, hyi, orowsD_ge, rowAt, rowB, e4, e5, e6, e64, e65, e66, e67, e68, e69, e70, e71, e72, e73]
    refine n2047 _ _ ?_ ?_ ?_ ?_ ?_ ?_ ?_ ?_ ?_ ?_ ?_ ?_ ?_ <;> simp [getT, e4, e5, e6, e64, e65, e66, e67, e68, e69, e70, e71, e72, e73]
  have n511 : ∀ tb g, getT tb 4 = .ptr 32 1 0 → getT tb 5 = .ptr 40 x1 0 → getT tb 6 = I64 (k : Int) → getT tb 64 = .ptr 40 x1 1 → getT tb 65 = .arr 136 x3 → getT tb 66 = I64 (k : Int) → getT tb 67 = .ptr 40 x1 1 → getT tb 68 = .arr 136 x3 → getT tb 69 = I64 (k : Int) → getT tb 70 = .ptr 136 x3 k → getT tb 71 = IL (gr t k) → getT tb 72 = IL ((gr t k).tail) → exT C0 0 (inlW C0 [fm_copyTabS] [fw_pick, fw_one] 0 0) ro_168_14 Q ex_168_14_511 ⟨tb, [⟨0, 0, .cells (RS b (p + 3))⟩, ⟨32, 1, .cells [.nil, .nil]⟩, ⟨40, x1, .cells [.arr 88 x2, .arr 136 x3]⟩, ⟨88, x2, .arr 1 (ints u)⟩, ⟨136, x3, .arr 1 ((orowsD t).set k (IL (gr t k)))⟩], g⟩ := by
    intro tb g e4 e5 e6 e64 e65 e66 e67 e68 e69 e70 e71 e72
    unfold ex_168_14_511
    simp only [exT_alt, exT_one, exT_stop, and_true]
    rw [ro_168_14_9]
    simp [hkt, hyr, hyn, hyi, orowsD_ge, rowAt, rowB, e4, e5, e6, e64, e65, e66, e67, e68, e69, e70, e71, e72]
    refine n1023 _ _ ?_ ?_ ?_ ?_ ?_ ?_ ?_ ?_ ?_ ?_ ?_ ?_ ?_ <;> simp [getT, e4, e5, e6, e64, e65, e66, e67, e68, e69, e70, e71, e72]
  have n509 : ∀ tb g, getT tb 4 = .ptr 32 1 0 → getT tb 5 = .ptr 40 x1 0 → getT tb 6 = I64 (k : Int) → getT tb 64 = .ptr 40 x1 1 → getT tb 66 = I64 (k : Int) → getT tb 67 = .ptr 40 x1 1 → getT tb 68 = .arr 136 x3 → getT tb 69 = I64 (k : Int) → getT tb 70 = .ptr 136 x3 k → getT tb 71 = IL (gr t k) → getT tb 72 = IL ((gr t k).tail) → exT C0 0 (inlW C0 [fm_copyTabS] [fw_pick, fw_one] 0 0) ro_168_14 Q ex_168_14_509 ⟨tb, [⟨0, 0, .cells (RS b (p + 3))⟩, ⟨32, 1, .cells [.nil, .nil]⟩, ⟨40, x1, .cells [.arr 88 x2, .arr 136 x3]⟩, ⟨88, x2, .arr 1 (ints u)⟩, ⟨136, x3, .arr 1 ((orowsD t).set k (IL (gr t k)))⟩], g⟩ := by
    intro tb g e4 e5 e6 e64 e66 e67 e68 e69 e70 e71 e72
    unfold ex_168_14_509
    simp only [exT_alt, exT_one, exT_stop, and_true]
    rw [ro_168_14_1]
    simp [hkt, hyr, hyn, hyi, orowsD_ge, rowAt, rowB, e4, e5, e6, e64, e66, e67, e68, e69, e70, e71, e72]
    refine n511 _ _ ?_ ?_ ?_ ?_ ?_ ?_ ?_ ?_ ?_ ?_ ?_ ?_ <;> simp [getT, e4, e5, e6, e64, e66, e67, e68, e69, e70, e71, e72]
  have n508 : ∀ tb g, getT tb 4 = .ptr 32 1 0 → getT tb 5 = .ptr 40 x1 0 → getT tb 6 = I64 (k : Int) → getT tb 66 = I64 (k : Int) → getT tb 67 = .ptr 40 x1 1 → getT tb 68 = .arr 136 x3 → getT tb 69 = I64 (k : Int) → getT tb 70 = .ptr 136 x3 k → getT tb 71 = IL (gr t k) → getT tb 72 = IL ((gr t k).tail) → exT C0 0 (inlW C0 [fm_copyTabS] [fw_pick, fw_one] 0 0) ro_168_14 Q ex_168_14_508 ⟨tb, [⟨0, 0, .cells (RS b (p + 3))⟩, ⟨32, 1, .cells [.nil, .nil]⟩, ⟨40, x1, .cells [.arr 88 x2, .arr 136 x3]⟩, ⟨88, x2, .arr 1 (ints u)⟩, ⟨136, x3, .arr 1 ((orowsD t).set k (IL (gr t k)))⟩], g⟩ := by
    intro tb g e4 e5 e6 e66 e67 e68 e69 e70 e71 e72
    unfold ex_168_14_508
    simp only [exT_alt, exT_one, exT_stop, and_true]
    rw [ro_168_14_0]
    simp [hkt, hyr, hyn, hyi, orowsD_ge, rowAt, rowB, e4, e5, e6, e66, e67, e68, e69, e70, e71, e72]
    refine n509 _ _ ?_ ?_ ?_ ?_ ?_ ?_ ?_ ?_ ?_ ?_ ?_ <;> simp [getT, e4, e5, e6, e66, e67, e68, e69, e70, e71, e72]
  have n252 : ∀ tb g, getT tb 4 = .ptr 32 1 0 → getT tb 5 = .ptr 40 x1 0 → getT tb 6 = I64 (k : Int) → getT tb 66 = I64 (k : Int) → getT tb 67 = .ptr 40 x1 1 → getT tb 68 = .arr 136 x3 → getT tb 69 = I64 (k : Int) → getT tb 70 = .ptr 136 x3 k → getT tb 71 = IL (gr t k) → exT C0 0 (inlW C0 [fm_copyTabS] [fw_pick, fw_one] 0 0) ro_168_14 Q ex_168_14_252 ⟨tb, [⟨0, 0, .cells (RS b (p + 3))⟩, ⟨32, 1, .cells [.nil, .nil]⟩, ⟨40, x1, .cells [.arr 88 x2, .arr 136 x3]⟩, ⟨88, x2, .arr 1 (ints u)⟩, ⟨136, x3, .arr 1 ((orowsD t).set k (IL (gr t k)))⟩], g⟩ := by
    intro tb g e4 e5 e6 e66 e67 e68 e69 e70 e71
    unfold ex_168_14_252
    simp only [exT_alt, exT_one, exT_stop, and_true]
    rw [ro_168_14_8]
    simp [hkt, hyr, hyn, hyi, orowsD_ge, rowAt, rowB, e4, e5, e6, e66, e67, e68, e69, e70, e71]
    refine n508 _ _ ?_ ?_ ?_ ?_ ?_ ?_ ?_ ?_ ?_ ?_ <;> simp [getT, e4, e5, e6, e66, e67, e68, e69, e70, e71]
  have n253 : ∀ tb g, getT tb 4 = .ptr 32 1 0 → getT tb 5 = .ptr 40 x1 0 → getT tb 6 = I64 (k : Int) → getT tb 64 = .ptr 40 x1 1 → getT tb 66 = I64 (k : Int) → getT tb 67 = .ptr 40 x1 1 → getT tb 68 = .arr 136 x3 → getT tb 69 = I64 (k : Int) → getT tb 70 = .ptr 136 x3 k → getT tb 71 = IL (gr t k) → exT C0 0 (inlW C0 [fm_copyTabS] [fw_pick, fw_one] 0 0) ro_168_14 Q ex_168_14_253 ⟨tb, [⟨0, 0, .cells (RS b (p + 3))⟩, ⟨32, 1, .cells [.nil, .nil]⟩, ⟨40, x1, .cells [.arr 88 x2, .arr 136 x3]⟩, ⟨88, x2, .arr 1 (ints u)⟩, ⟨136, x3, .arr 1 ((orowsD t).set k (IL (gr t k)))⟩], g⟩ := by
    intro tb g e4 e5 e6 e64 e66 e67 e68 e69 e70 e71
    unfold ex_168_14_253
    simp only [exT_alt, exT_one, exT_stop, and_true]
    rw [ro_168_14_8]
    simp [hkt, hyr, hyn, hyi, orowsD_ge, rowAt, rowB, e4, e5, e6, e64, e66, e67, e68, e69, e70, e71]
    refine n509 _ _ ?_ ?_ ?_ ?_ ?_ ?_ ?_ ?_ ?_ ?_ ?_ <;> simp [getT, e4, e5, e6, e64, e66, e67, e68, e69, e70, e71]
  have n255 : ∀ tb g, getT tb 4 = .ptr 32 1 0 → getT tb 5 = .ptr 40 x1 0 → getT tb 6 = I64 (k : Int) → getT tb 64 = .ptr 40 x1 1 → getT tb 65 = .arr 136 x3 → getT tb 66 = I64 (k : Int) → getT tb 67 = .ptr 40 x1 1 → getT tb 68 = .arr 136 x3 → getT tb 69 = I64 (k : Int) → getT tb 70 = .ptr 136 x3 k → getT tb 71 = IL (gr t k) → exT C0 0 (inlW C0 [fm_copyTabS] [fw_pick, fw_one] 0 0) ro_168_14 Q ex_168_14_255 ⟨tb, [⟨0, 0, .cells (RS b (p + 3))⟩, ⟨32, 1, .cells [.nil, .nil]⟩, ⟨40, x1, .cells [.arr 88 x2, .arr 136 x3]⟩, ⟨88, x2, .arr 1 (ints u)⟩, ⟨136, x3, .arr 1 ((orowsD t).set k (IL (gr t k)))⟩], g⟩ := by
    intro tb g e4 e5 e6 e64 e65 e66 e67 e68 e69 e70 e71
    unfold ex_168_14_255
    simp only [exT_alt, exT_one, exT_stop, and_true]
    rw [ro_168_14_8]
    simp [hkt, hyr, hyn, hyi, orowsD_ge, rowAt, rowB, e4, e5, e6, e64, e65, e66, e67, e68, e69, e70, e71]
    refine n511 _ _ ?_ ?_ ?_ ?_ ?_ ?_ ?_ ?_ ?_ ?_ ?_ ?_ <;> simp [getT, e4, e5, e6, e64, e65, e66, e67, e68, e69, e70, e71]
  have n127 : ∀ tb g, getT tb 4 = .ptr 32 1 0 → getT tb 5 = .ptr 40 x1 0 → getT tb 6 = I64 (k : Int) → getT tb 64 = .ptr 40 x1 1 → getT tb 65 = .arr 136 x3 → getT tb 66 = I64 (k : Int) → getT tb 67 = .ptr 40 x1 1 → getT tb 68 = .arr 136 x3 → getT tb 69 = I64 (k : Int) → getT tb 70 = .ptr 136 x3 k → exT C0 0 (inlW C0 [fm_copyTabS] [fw_pick, fw_one] 0 0) ro_168_14 Q ex_168_14_127 ⟨tb, [⟨0, 0, .cells (RS b (p + 3))⟩, ⟨32, 1, .cells [.nil, .nil]⟩, ⟨40, x1, .cells [.arr 88 x2, .arr 136 x3]⟩, ⟨88, x2, .arr 1 (ints u)⟩, ⟨136, x3, .arr 1 (orowsD t)⟩], g⟩ := by
    intro tb g e4 e5 e6 e64 e65 e66 e67 e68 e69 e70
    unfold ex_168_14_127
    simp only [exT_alt, exT_one, exT_stop, and_true]
    rw [ro_168_14_7]
    simp [hkt, hyr, hyn, hyi, orowsD_ge, rowAt, rowB, e4, e5, e6, e64, e65, e66, e67, e68, e69, e70]
    refine n255 _ _ ?_ ?_ ?_ ?_ ?_ ?_ ?_ ?_ ?_ ?_ ?_ <;> simp [getT, e4, e5, e6, e64, e65, e66, e67, e68, e69, e70]
  have n125 : ∀ tb g, getT tb 4 = .ptr 32 1 0 → getT tb 5 = .ptr 40 x1 0 → getT tb 6 = I64 (k : Int) → getT tb 64 = .ptr 40 x1 1 → getT tb 66 = I64 (k : Int) → getT tb 67 = .ptr 40 x1 1 → getT tb 68 = .arr 136 x3 → getT tb 69 = I64 (k : Int) → getT tb 70 = .ptr 136 x3 k → exT C0 0 (inlW C0 [fm_copyTabS] [fw_pick, fw_one] 0 0) ro_168_14 Q ex_168_14_125 ⟨tb, [⟨0, 0, .cells (RS b (p + 3))⟩, ⟨32, 1, .cells [.nil, .nil]⟩, ⟨40, x1, .cells [.arr 88 x2, .arr 136 x3]⟩, ⟨88, x2, .arr 1 (ints u)⟩, ⟨136, x3, .arr 1 (orowsD t)⟩], g⟩ := by
    intro tb g e4 e5 e6 e64 e66 e67 e68 e69 e70
    unfold ex_168_14_125
    simp only [exT_alt, exT_one, exT_stop, and_true]
    refine ⟨?_, ?_⟩
    · rw [ro_168_14_1]
      simp [hkt, hyr, hyn, hyi, orowsD_ge, rowAt, rowB, e4, e5, e6, e64, e66, e67, e68, e69, e70]
      refine n127 _ _ ?_ ?_ ?_ ?_ ?_ ?_ ?_ ?_ ?_ ?_ <;> simp [getT, e4, e5, e6, e64, e66, e67, e68, e69, e70]
    · rw [ro_168_14_7]
      simp [hkt, hyr, hyn, hyi, orowsD_ge, rowAt, rowB, e4, e5, e6, e64, e66, e67, e68, e69, e70]
      refine n253 _ _ ?_ ?_ ?_ ?_ ?_ ?_ ?_ ?_ ?_ ?_ <;> simp [getT, e4, e5, e6, e64, e66, e67, e68, e69, e70]
  have n124 : ∀ tb g, getT tb 4 = .ptr 32 1 0 → getT tb 5 = .ptr 40 x1 0 → getT tb 6 = I64 (k : Int) → getT tb 66 = I64 (k : Int) → getT tb 67 = .ptr 40 x1 1 → getT tb 68 = .arr 136 x3 → getT tb 69 = I64 (k : Int) → getT tb 70 = .ptr 136 x3 k → exT C0 0 (inlW C0 [fm_copyTabS] [fw_pick, fw_one] 0 0) ro_168_14 Q ex_168_14_124 ⟨tb, [⟨0, 0, .cells (RS b (p + 3))⟩, ⟨32, 1, .cells [.nil, .nil]⟩, ⟨40, x1, .cells [.arr 88 x2, .arr 136 x3]⟩, ⟨88, x2, .arr 1 (ints u)⟩, ⟨136, x3, .arr 1 (orowsD t)⟩], g⟩ := by
    intro tb g e4 e5 e6 e66 e67 e68 e69 e70
    unfold ex_168_14_124
    simp only [exT_alt, exT_one, exT_stop, and_true]
    refine ⟨?_, ?_⟩
    · rw [ro_168_14_0]
      simp [hkt, hyr, hyn, hyi, orowsD_ge, rowAt, rowB, e4, e5, e6, e66, e67, e68, e69, e70]
      refine n125 _ _ ?_ ?_ ?_ ?_ ?_ ?_ ?_ ?_ ?_ <;> simp [getT, e4, e5, e6, e66, e67, e68, e69, e70]
    · rw [ro_168_14_7]
      simp [hkt, hyr, hyn, hyi, orowsD_ge, rowAt, rowB, e4, e5, e6, e66, e67, e68, e69, e70]
      refine n252 _ _ ?_ ?_ ?_ ?_ ?_ ?_ ?_ ?_ ?_ <;> simp [getT, e4, e5, e6, e66, e67, e68, e69, e70]
  have n63 : ∀ tb g, getT tb 4 = .ptr 32 1 0 → getT tb 5 = .ptr 40 x1 0 → getT tb 6 = I64 (k : Int) → getT tb 64 = .ptr 40 x1 1 → getT tb 65 = .arr 136 x3 → getT tb 66 = I64 (k : Int) → getT tb 67 = .ptr 40 x1 1 → getT tb 68 = .arr 136 x3 → getT tb 69 = I64 (k : Int) → exT C0 0 (inlW C0 [fm_copyTabS] [fw_pick, fw_one] 0 0) ro_168_14 Q ex_168_14_63 ⟨tb, [⟨0, 0, .cells (RS b (p + 3))⟩, ⟨32, 1, .cells [.nil, .nil]⟩, ⟨40, x1, .cells [.arr 88 x2, .arr 136 x3]⟩, ⟨88, x2, .arr 1 (ints u)⟩, ⟨136, x3, .arr 1 (orowsD t)⟩], g⟩ := by
    intro tb g e4 e5 e6 e64 e65 e66 e67 e68 e69
    unfold ex_168_14_63
    simp only [exT_alt, exT_one, exT_stop, and_true]
    rw [ro_168_14_6]
    simp [hkt, hyr, hyn, hyi, orowsD_ge, rowAt, rowB, e4, e5, e6, e64, e65, e66, e67, e68, e69]
    refine n127 _ _ ?_ ?_ ?_ ?_ ?_ ?_ ?_ ?_ ?_ ?_ <;> simp [getT, e4, e5, e6, e64, e65, e66, e67, e68, e69]
  have n61 : ∀ tb g, getT tb 4 = .ptr 32 1 0 → getT tb 5 = .ptr 40 x1 0 → getT tb 6 = I64 (k : Int) → getT tb 64 = .ptr 40 x1 1 → getT tb 66 = I64 (k : Int) → getT tb 67 = .ptr 40 x1 1 → getT tb 68 = .arr 136 x3 → getT tb 69 = I64 (k : Int) → exT C0 0 (inlW C0 [fm_copyTabS] [fw_pick, fw_one] 0 0) ro_168_14 Q ex_168_14_61 ⟨tb, [⟨0, 0, .cells (RS b (p + 3))⟩, ⟨32, 1, .cells [.nil, .nil]⟩, ⟨40, x1, .cells [.arr 88 x2, .arr 136 x3]⟩, ⟨88, x2, .arr 1 (ints u)⟩, ⟨136, x3, .arr 1 (orowsD t)⟩], g⟩ := by
    intro tb g e4 e5 e6 e64 e66 e67 e68 e69
    unfold ex_168_14_61
    simp only [exT_alt, exT_one, exT_stop, and_true]
    refine ⟨?_, ?_⟩
    · rw [ro_168_14_1]
      simp [hkt, hyr, hyn, hyi, orowsD_ge, rowAt, rowB, e4, e5, e6, e64, e66, e67, e68, e69]
      refine n63 _ _ ?_ ?_ ?_ ?_ ?_ ?_ ?_ ?_ ?_ <;> simp [getT, e4, e5, e6, e64, e66, e67, e68, e69]
    · rw [ro_168_14_6]
      simp [hkt, hyr, hyn, hyi, orowsD_ge, rowAt, rowB, e4, e5, e6, e64, e66, e67, e68, e69]
      refine n125 _ _ ?_ ?_ ?_ ?_ ?_ ?_ ?_ ?_ ?_ <;> simp [getT, e4, e5, e6, e64, e66, e67, e68, e69]
  have n60 : ∀ tb g, getT tb 4 = .ptr 32 1 0 → getT tb 5 = .ptr 40 x1 0 → getT tb 6 = I64 (k : Int) → getT tb 66 = I64 (k : Int) → getT tb 67 = .ptr 40 x1 1 → getT tb 68 = .arr 136 x3 → getT tb 69 = I64 (k : Int) → exT C0 0 (inlW C0 [fm_copyTabS] [fw_pick, fw_one] 0 0) ro_168_14 Q ex_168_14_60 ⟨tb, [⟨0, 0, .cells (RS b (p + 3))⟩, ⟨32, 1, .cells [.nil, .nil]⟩, ⟨40, x1, .cells [.arr 88 x2, .arr 136 x3]⟩, ⟨88, x2, .arr 1 (ints u)⟩, ⟨136, x3, .arr 1 (orowsD t)⟩], g⟩ := by
    intro tb g e4 e5 e6 e66 e67 e68 e69
    unfold ex_168_14_60
    simp only [exT_alt, exT_one, exT_stop, and_true]
    refine ⟨?_, ?_⟩
    · rw [ro_168_14_0]
      simp [hkt, hyr, hyn, hyi, orowsD_ge, rowAt, rowB, e4, e5, e6, e66, e67, e68, e69]
      refine n61 _ _ ?_ ?_ ?_ ?_ ?_ ?_ ?_ ?_ <;> simp [getT, e4, e5, e6, e66, e67, e68, e69]
    · rw [ro_168_14_6]
      simp [hkt, hyr, hyn, hyi, orowsD_ge, rowAt, rowB, e4, e5, e6, e66, e67, e68, e69]
      refine n124 _ _ ?_ ?_ ?_ ?_ ?_ ?_ ?_ ?_ <;> simp [getT, e4, e5, e6, e66, e67, e68, e69]
  have n47 : ∀ tb g, getT tb 4 = .ptr 32 1 0 → getT tb 5 = .ptr 40 x1 0 → getT tb 6 = I64 (k : Int) → getT tb 64 = .ptr 40 x1 1 → getT tb 65 = .arr 136 x3 → getT tb 66 = I64 (k : Int) → getT tb 67 = .ptr 40 x1 1 → getT tb 69 = I64 (k : Int) → exT C0 0 (inlW C0 [fm_copyTabS] [fw_pick, fw_one] 0 0) ro_168_14 Q ex_168_14_47 ⟨tb, [⟨0, 0, .cells (RS b (p + 3))⟩, ⟨32, 1, .cells [.nil, .nil]⟩, ⟨40, x1, .cells [.arr 88 x2, .arr 136 x3]⟩, ⟨88, x2, .arr 1 (ints u)⟩, ⟨136, x3, .arr 1 (orowsD t)⟩], g⟩ := by
    intro tb g e4 e5 e6 e64 e65 e66 e67 e69
    unfold ex_168_14_47
    simp only [exT_alt, exT_one, exT_stop, and_true]
    rw [ro_168_14_4]
    simp [hkt, hyr, hyn, hyi, orowsD_ge, rowAt, rowB, e4, e5, e6, e64, e65, e66, e67, e69]
    refine n63 _ _ ?_ ?_ ?_ ?_ ?_ ?_ ?_ ?_ ?_ <;> simp [getT, e4, e5, e6, e64, e65, e66, e67, e69]
  have n45 : ∀ tb g, getT tb 4 = .ptr 32 1 0 → getT tb 5 = .ptr 40 x1 0 → getT tb 6 = I64 (k : Int) → getT tb 64 = .ptr 40 x1 1 → getT tb 66 = I64 (k : Int) → getT tb 67 = .ptr 40 x1 1 → getT tb 69 = I64 (k : Int) → exT C0 0 (inlW C0 [fm_copyTabS] [fw_pick, fw_one] 0 0) ro_168_14 Q ex_168_14_45 ⟨tb, [⟨0, 0, .cells (RS b (p + 3))⟩, ⟨32, 1, .cells [.nil, .nil]⟩, ⟨40, x1, .cells [.arr 88 x2, .arr 136 x3]⟩, ⟨88, x2, .arr 1 (ints u)⟩, ⟨136, x3, .arr 1 (orowsD t)⟩], g⟩ := by
    intro tb g e4 e5 e6 e64 e66 e67 e69
    unfold ex_168_14_45
    simp only [exT_alt, exT_one, exT_stop, and_true]
    refine ⟨?_, ?_⟩
    · rw [ro_168_14_1]
      simp [hkt, hyr, hyn, hyi, orowsD_ge, rowAt, rowB, e4, e5, e6, e64, e66, e67, e69]
      refine n47 _ _ ?_ ?_ ?_ ?_ ?_ ?_ ?_ ?_ <;> simp [getT, e4, e5, e6, e64, e66, e67, e69]
    · rw [ro_168_14_4]
      simp [hkt, hyr, hyn, hyi, orowsD_ge, rowAt, rowB, e4, e5, e6, e64, e66, e67, e69]
      refine n61 _ _ ?_ ?_ ?_ ?_ ?_ ?_ ?_ ?_ <;> simp [getT, e4, e5, e6, e64, e66, e67, e69]
  have n44 : ∀ tb g, getT tb 4 = .ptr 32 1 0 → getT tb 5 = .ptr 40 x1 0 → getT tb 6 = I64 (k : Int) → getT tb 66 = I64 (k : Int) → getT tb 67 = .ptr 40 x1 1 → getT tb 69 = I64 (k : Int) → exT C0 0 (inlW C0 [fm_copyTabS] [fw_pick, fw_one] 0 0) ro_168_14 Q ex_168_14_44 ⟨tb, [⟨0, 0, .cells (RS b (p + 3))⟩, ⟨32, 1, .cells [.nil, .nil]⟩, ⟨40, x1, .cells [.arr 88 x2, .arr 136 x3]⟩, ⟨88, x2, .arr 1 (ints u)⟩, ⟨136, x3, .arr 1 (orowsD t)⟩], g⟩ := by
    intro tb g e4 e5 e6 e66 e67 e69
    unfold ex_168_14_44
    simp only [exT_alt, exT_one, exT_stop, and_true]
    refine ⟨?_, ?_⟩
    · rw [ro_168_14_0]
      simp [hkt, hyr, hyn, hyi, orowsD_ge, rowAt, rowB, e4, e5, e6, e66, e67, e69]
      refine n45 _ _ ?_ ?_ ?_ ?_ ?_ ?_ ?_ <;> simp [getT, e4, e5, e6, e66, e67, e69]
    · rw [ro_168_14_4]
      simp [hkt, hyr, hyn, hyi, orowsD_ge, rowAt, rowB, e4, e5, e6, e66, e67, e69]
      refine n60 _ _ ?_ ?_ ?_ ?_ ?_ ?_ ?_ <;> simp [getT, e4, e5, e6, e66, e67, e69]
  have n39 : ∀ tb g, getT tb 4 = .ptr 32 1 0 → getT tb 5 = .ptr 40 x1 0 → getT tb 6 = I64 (k : Int) → getT tb 64 = .ptr 40 x1 1 → getT tb 65 = .arr 136 x3 → getT tb 66 = I64 (k : Int) → getT tb 69 = I64 (k : Int) → exT C0 0 (inlW C0 [fm_copyTabS] [fw_pick, fw_one] 0 0) ro_168_14 Q ex_168_14_39 ⟨tb, [⟨0, 0, .cells (RS b (p + 3))⟩, ⟨32, 1, .cells [.nil, .nil]⟩, ⟨40, x1, .cells [.arr 88 x2, .arr 136 x3]⟩, ⟨88, x2, .arr 1 (ints u)⟩, ⟨136, x3, .arr 1 (orowsD t)⟩], g⟩ := by
    intro tb g e4 e5 e6 e64 e65 e66 e69
    unfold ex_168_14_39
    simp only [exT_alt, exT_one, exT_stop, and_true]
    rw [ro_168_14_3]
    simp [hkt, hyr, hyn, hyi, orowsD_ge, rowAt, rowB, e4, e5, e6, e64, e65, e66, e69]
    refine n47 _ _ ?_ ?_ ?_ ?_ ?_ ?_ ?_ ?_ <;> simp [getT, e4, e5, e6, e64, e65, e66, e69]
  have n37 : ∀ tb g, getT tb 4 = .ptr 32 1 0 → getT tb 5 = .ptr 40 x1 0 → getT tb 6 = I64 (k : Int) → getT tb 64 = .ptr 40 x1 1 → getT tb 66 = I64 (k : Int) → getT tb 69 = I64 (k : Int) → exT C0 0 (inlW C0 [fm_copyTabS] [fw_pick, fw_one] 0 0) ro_168_14 Q ex_168_14_37 ⟨tb, [⟨0, 0, .cells (RS b (p + 3))⟩, ⟨32, 1, .cells [.nil, .nil]⟩, ⟨40, x1, .cells [.arr 88 x2, .arr 136 x3]⟩, ⟨88, x2, .arr 1 (ints u)⟩, ⟨136, x3, .arr 1 (orowsD t)⟩], g⟩ := by
    intro tb g e4 e5 e6 e64 e66 e69
    unfold ex_168_14_37
    simp only [exT_alt, exT_one, exT_stop, and_true]
    refine ⟨?_, ?_⟩
    · rw [ro_168_14_1]
      simp [hkt, hyr, hyn, hyi, orowsD_ge, rowAt, rowB, e4, e5, e6, e64, e66, e69]
      refine n39 _ _ ?_ ?_ ?_ ?_ ?_ ?_ ?_ <;> simp [getT, e4, e5, e6, e64, e66, e69]
    · rw [ro_168_14_3]
      simp [hkt, hyr, hyn, hyi, orowsD_ge, rowAt, rowB, e4, e5, e6, e64, e66, e69]
      refine n45 _ _ ?_ ?_ ?_ ?_ ?_ ?_ ?_ <;> simp [getT, e4, e5, e6, e64, e66, e69]
  have n36 : ∀ tb g, getT tb 4 = .ptr 32 1 0 → getT tb 5 = .ptr 40 x1 0 → getT tb 6 = I64 (k : Int) → getT tb 66 = I64 (k : Int) → getT tb 69 = I64 (k : Int) → exT C0 0 (inlW C0 [fm_copyTabS] [fw_pick, fw_one] 0 0) ro_168_14 Q ex_168_14_36 ⟨tb, [⟨0, 0, .cells (RS b (p + 3))⟩, ⟨32, 1, .cells [.nil, .nil]⟩, ⟨40, x1, .cells [.arr 88 x2, .arr 136 x3]⟩, ⟨88, x2, .arr 1 (ints u)⟩, ⟨136, x3, .arr 1 (orowsD t)⟩], g⟩ := by
    intro tb g e4 e5 e6 e66 e69
    unfold ex_168_14_36
    simp only [exT_alt, exT_one, exT_stop, and_true]
    refine ⟨?_, ?_⟩
    · rw [ro_168_14_0]
      simp [hkt, hyr, hyn, hyi, orowsD_ge, rowAt, rowB, e4, e5, e6, e66, e69]
      refine n37 _ _ ?_ ?_ ?_ ?_ ?_ ?_ <;> simp [getT, e4, e5, e6, e66, e69]
    · rw [ro_168_14_3]
      simp [hkt, hyr, hyn, hyi, orowsD_ge, rowAt, rowB, e4, e5, e6, e66, e69]
      refine n44 _ _ ?_ ?_ ?_ ?_ ?_ ?_ <;> simp [getT, e4, e5, e6, e66, e69]
  have n4 : ∀ tb g, getT tb 4 = .ptr 32 1 0 → getT tb 5 = .ptr 40 x1 0 → getT tb 6 = I64 (k : Int) → getT tb 66 = I64 (k : Int) → exT C0 0 (inlW C0 [fm_copyTabS] [fw_pick, fw_one] 0 0) ro_168_14 Q ex_168_14_4 ⟨tb, [⟨0, 0, .cells (RS b (p + 3))⟩, ⟨32, 1, .cells [.nil, .nil]⟩, ⟨40, x1, .cells [.arr 88 x2, .arr 136 x3]⟩, ⟨88, x2, .arr 1 (ints u)⟩, ⟨136, x3, .arr 1 (orowsD t)⟩], g⟩ := by
    intro tb g e4 e5 e6 e66
    unfold ex_168_14_4
    simp only [exT_alt, exT_one, exT_stop, and_true]
    rw [ro_168_14_5]
    simp [hkt, hyr, hyn, hyi, orowsD_ge, rowAt, rowB, e4, e5, e6, e66]
    refine n36 _ _ ?_ ?_ ?_ ?_ ?_ <;> simp [getT, e4, e5, e6, e66]
  have n0 : ∀ tb g, getT tb 4 = .ptr 32 1 0 → getT tb 5 = .ptr 40 x1 0 → getT tb 6 = I64 (k : Int) → exT C0 0 (inlW C0 [fm_copyTabS] [fw_pick, fw_one] 0 0) ro_168_14 Q ex_168_14_0 ⟨tb, [⟨0, 0, .cells (RS b (p + 3))⟩, ⟨32, 1, .cells [.nil, .nil]⟩, ⟨40, x1, .cells [.arr 88 x2, .arr 136 x3]⟩, ⟨88, x2, .arr 1 (ints u)⟩, ⟨136, x3, .arr 1 (orowsD t)⟩], g⟩ := by
    intro tb g e4 e5 e6
    unfold ex_168_14_0
    simp only [exT_alt, exT_one, exT_stop, and_true]
    rw [ro_168_14_2]
    simp [hkt, hyr, hyn, hyi, orowsD_ge, rowAt, rowB, e4, e5, e6]
    refine n4 _ _ ?_ ?_ ?_ ?_ <;> simp [getT, e4, e5, e6]
  exact n0

end Go.PS
end

section
-- Contracts: algebras that are drawn and may be invalid: the walk.
set_option maxRecDepth 100000
set_option linter.unusedVariables false
set_option linter.unusedSimpArgs false
namespace Go.PS
open Go.Proofs

set_option maxHeartbeats 4000000 in
theorem bent_pc (b : List Int) (p : Nat) (u : List Int) (t : List (List Int)) (hb : BB b) (hp : p ≤ 1000000) (hp2 : p ≤ 970000) (ga : GA (u, t)) : PC Try.prog 168 (.ptr 0 0 0 :: [AL u t]) (some (RS b p)) false (fun r c => imm 5 r = imm 5 (AL (bnM b p u t).1.1 (bnM b p u t).1.2) ∧ c = (RS b ((bnM b p u t).2))) := by
  have h1 : 1 ≤ u.length := ga.pos
  have h6 : u.length ≤ 6 := ga.six
  have sq : SQ u.length t := ga.sq
  have r0 := pkM_rng hb (p := p) (by omega) (n := 16) (by omega)
  refine pcW [fm_copyTabS] [fw_pick, fw_one] fok_168 ?_
  by_cases c0 : 0 < pkM b p 16
  · have e : bnM b p u t = ((u, t), p + 1) := by unfold bnM; rw [if_pos c0]
    rw [e]
    simp [fa_168, callOW, hb, hp, c0]
  · have lt := fm_copyTabS_look t ga.bigR
    have r1 := pkM_rng hb (p := p + 1) (by omega) (n := u.length) (by omega)
    have r2 := pkM_rng hb (p := p + 2) (by omega) (n := 5) (by omega)
    have z0 : pkM b p 16 = 0 := by omega
    simp [fa_168, callOW, hb, hp, z0]
    refine cutE (α := Nat × Nat × Nat) (fun x => [(0, .ptr 0 0 0), (4, .ptr 32 1 0), (5, .ptr 40 x.1 0)]) (fun x => [⟨0, 0, .cells (RS b (p + 1))⟩, ⟨32, 1, .cells [.nil, .nil]⟩, ⟨40, x.1, .cells [.arr 88 x.2.1, .arr 136 x.2.2]⟩, ⟨88, x.2.1, .arr 1 (ints u)⟩, ⟨136, x.2.2, .arr 1 (orowsD t)⟩]) ?_ (fun x g0 => ?_)
    · simp
      repeat' first
        | refine And.intro ?_ ?_
        | exact le_big (by omega)
        | (refine callDO1 fm_copyTabS (by simp) (by simp) (v := RO t) (by simp; exact lt) ?_; simp)
    · obtain ⟨x1, x2, x3⟩ := x
      have n1 : p + 1 + 1 = p + 2 := rfl
      have n2 : p + 2 + 1 = p + 3 := rfl
      have n3 : p + 3 + 1 = p + 4 := rfl
      have n4 : p + 4 + 1 = p + 5 := rfl
      have b1 : p + 1 ≤ 1000000 := by omega
      have b2 : p + 2 ≤ 1000000 := by omega
      have b3 : p + 3 ≤ 1000000 := by omega
      have b4 : p + 4 ≤ 1000000 := by omega
      have hul : (u.length : Int) ≤ 1099511627776 := by omega
      obtain ⟨k, hk⟩ : ∃ k : Nat, pkM b (p + 1) u.length = k := ⟨(pkM b (p + 1) u.length).toNat, by omega⟩
      have hku : k < u.length := by omega
      have hkt : k < t.length := by rw [sq.len]; exact hku
      have r3 := pkM_rng hb (p := p + 3) (by omega) (n := u.length) (by omega)
      have e0 : bnM b p u t = (let c := pkM b (p + 2) 5
    if c = 0 then ((u, t.set k ((gr t k).set (pkM b (p + 3) u.length).toNat (gi [0, 1, -1, 6] (pkM b (p + 4) 4).toNat))), p + 5)
    else if c = 1 then ((u.set k (gi [0, 3, -1] (pkM b (p + 3) 3).toNat), t), p + 4)
    else if c = 2 then ((u, t.tail), p + 3)
    else if c = 3 then ((u, t.set k ((gr t k).tail)), p + 3)
    else ((u ++ [64], t), p + 3)) := by unfold bnM; rw [if_neg c0, hk, Int.toNat_natCast]
      rw [e0]
      clear e0
      simp [callOW, hb, b1, b2, n1, n2, hul, hk]
      refine ⟨fun c => ?_, fun c => ?_⟩
      · have l1 : fw_one.look [.ptr 0 0 0, .list 1 [.int .i64 0, .int .i64 1, .int .i64 (-1), .int .i64 6]] (RS b (p + 4)) = some (I64 (gi [0, 1, -1, 6] (pkM b (p + 4) 4).toNat), RS b (p + 5)) := fw_one_look b (p + 4) [0, 1, -1, 6] hb (by omega) (by unfold Big; simp) (by simp)
        obtain ⟨y, hy⟩ : ∃ y : Nat, pkM b (p + 3) u.length = y := ⟨(pkM b (p + 3) u.length).toNat, by omega⟩
        have hyu : y < u.length := by omega
        have l0 : fw_pick.look [.ptr 0 0 0, I64 u.length] (RS b (p + 3)) = some (I64 y, RS b (p + 4)) := by rw [← hy]; exact fw_pick_look b (p + 3) u.length hb (by omega) hul
        generalize gi [0, 1, -1, 6] (pkM b (p + 4) 4).toNat = z at *
        simp only [c, if_true, hy, Int.toNat_natCast]
        refine cutE (α := Unit) (fun _ => [(4, .ptr 32 1 0), (5, .ptr 40 x1 0)]) (fun _ => [⟨0, 0, .cells (RS b (p + 5))⟩, ⟨32, 1, .cells [.nil, .nil]⟩, ⟨40, x1, .cells [.arr 88 x2, .arr 136 x3]⟩, ⟨88, x2, .arr 1 (ints u)⟩, ⟨136, x3, .arr 1 (orowsD (t.set k ((gr t k).set y z)))⟩]) ?_ (fun _ g0 => ?_)
        · refine bent_dag8 hkt (by rw [sq.rows k hku]; exact hyu) l0 l1 (fun tb g q4 q5 => ?_) _ _ (by simp) (by simp) (by simp) (by simp)
          simp [q4, q5]
        · simp
      · have c' : ¬ pkM b (p + 2) 5 = 0 := c
        simp only [c', if_false]
        refine ⟨fun d => ?_, fun d => ?_⟩
        · have l1 : fw_one.look [.ptr 0 0 0, .list 1 [.int .i64 0, .int .i64 3, .int .i64 (-1)]] (RS b (p + 3)) = some (I64 (gi [0, 3, -1] (pkM b (p + 3) 3).toNat), RS b (p + 4)) := fw_one_look b (p + 3) [0, 3, -1] hb (by omega) (by unfold Big; simp) (by simp)
          generalize gi [0, 3, -1] (pkM b (p + 3) 3).toNat = z at *
          simp only [d, if_true]
          refine cutE (α := Unit) (fun _ => [(4, .ptr 32 1 0), (5, .ptr 40 x1 0)]) (fun _ => [⟨0, 0, .cells (RS b (p + 4))⟩, ⟨32, 1, .cells [.nil, .nil]⟩, ⟨40, x1, .cells [.arr 88 x2, .arr 136 x3]⟩, ⟨88, x2, .arr 1 (ints (u.set k z))⟩, ⟨136, x3, .arr 1 (orowsD t)⟩]) ?_ (fun _ g0 => ?_)
          · refine bent_dag10 hku l1 (fun tb g q4 q5 => ?_) _ _ (by simp) (by simp) (by simp) (by simp)
            simp [q4, q5]
          · simp
        · have d' : ¬ pkM b (p + 2) 5 = 1 := d
          simp only [d', if_false]
          refine ⟨fun e => ?_, fun e => ?_⟩
          · simp only [e, if_true]
            exact ⟨by omega, ⟨trivial, by rw [← rowsD_length (r := t), List.take_length]; simp [rowsD]⟩, trivial⟩
          · have e' : ¬ pkM b (p + 2) 5 = 2 := e
            simp only [e', if_false]
            refine ⟨fun f => ?_, fun f => ?_⟩
            · simp only [f, if_true]
              refine cutE (α := Unit) (fun _ => [(4, .ptr 32 1 0), (5, .ptr 40 x1 0)]) (fun _ => [⟨0, 0, .cells (RS b (p + 3))⟩, ⟨32, 1, .cells [.nil, .nil]⟩, ⟨40, x1, .cells [.arr 88 x2, .arr 136 x3]⟩, ⟨88, x2, .arr 1 (ints u)⟩, ⟨136, x3, .arr 1 ((orowsD t).set k (IL ((gr t k).tail)))⟩]) ?_ (fun _ g0 => ?_)
              · refine bent_dag14 hkt (by rw [sq.rows k hku]; exact h1) (fun e => by have := sq.rows k hku; rw [e] at this; simp at this; omega) (by rw [sq.rows k hku]; omega) (fun tb g q4 q5 => ?_) _ _ (by simp) (by simp) (by simp)
                simp [q4, q5]
              · simp
                simp [rowsD, List.map_set]
            · have f' : ¬ pkM b (p + 2) 5 = 3 := f
              simp only [f', if_false]
              exact ⟨le_big (by omega), ⟨trivial, trivial⟩, trivial⟩
noncomputable def fw_bent : FamW Try.prog := mkFamW (X := List Int × Nat × List Int × List (List Int)) 168 (fun (b, p, u, t) => (.ptr 0 0 0 :: [AL u t])) (fun (b, p, u, t) => (RS b p)) (fun (b, p, u, t) => (BB b) ∧ (p ≤ 1000000) ∧ (p ≤ 970000) ∧ (GA (u, t))) (fun (b, p, u, t) => AL (bnM b p u t).1.1 (bnM b p u t).1.2) (fun (b, p, u, t) => (RS b ((bnM b p u t).2))) (by
  rintro ⟨b, p, u, t⟩ ⟨hb, hp, hp2, ga⟩
  exact bent_pc b p u t hb hp hp2 ga)
@[simp] theorem fw_bent_id : fw_bent.id = 168 := rfl
@[simp] theorem fw_bent_look (b : List Int) (p : Nat) (u : List Int) (t : List (List Int)) (hb : BB b) (hp : p ≤ 1000000) (hp2 : p ≤ 970000) (ga : GA (u, t)) : fw_bent.look (.ptr 0 0 0 :: [AL u t]) (RS b p) = some (AL (bnM b p u t).1.1 (bnM b p u t).1.2, (RS b ((bnM b p u t).2))) :=
  lookG_of (X := List Int × Nat × List Int × List (List Int)) (args := fun (b, p, u, t) => (.ptr 0 0 0 :: [AL u t])) (cell := fun (b, p, u, t) => (RS b p)) (pre := fun (b, p, u, t) => (BB b) ∧ (p ≤ 1000000) ∧ (p ≤ 970000) ∧ (GA (u, t))) (val := fun (b, p, u, t) => AL (bnM b p u t).1.1 (bnM b p u t).1.2) (cell' := fun (b, p, u, t) => (RS b ((bnM b p u t).2))) (by
  rintro ⟨b, p, u, t⟩ ⟨b', p', u', t'⟩ h h2
  simp at h h2
  try simp only [and_assoc] at h
  obtain ⟨rfl, rfl⟩ := h2
  obtain ⟨rfl, rfl⟩ := h
  exact ⟨rfl, rfl⟩) (b, p, u, t) ⟨hb, hp, hp2, ga⟩
attribute [irreducible] fw_bent
end Go.PS
end

section
-- Contracts: some algebra; a new reader, in place.
set_option maxRecDepth 100000
set_option linter.unusedVariables false
set_option linter.unusedSimpArgs false
namespace Go.PS
open Go.Proofs

/-- Of few elements. -/
structure Few (a : Alg) : Prop where
  u : a.1.length ≤ 7
  t : a.2.length ≤ 6
  r : ∀ x ∈ a.2, x.length ≤ 6
theorem Few.big {a : Alg} (g : Few a) : Big a.1.length := by unfold Big; have := g.u; omega
theorem Few.bigR {a : Alg} (g : Few a) : BigR a.2 := ⟨by unfold Big; have := g.t; omega, fun x hx => by unfold Big; have := g.r x hx; omega⟩
theorem GA.few {a : Alg} (g : GA a) : Few a := by
  refine ⟨by have := g.six; omega, by rw [g.sq.len]; exact g.six, fun x hx => ?_⟩
  obtain ⟨i, hi, rfl⟩ := List.mem_iff_getElem.1 hx
  have := g.sq.rows i (by rw [← g.sq.len]; exact hi)
  simp [gr, List.getElem?_eq_getElem hi] at this
  have := g.six
  omega
theorem few_set {u : List Int} {t : List (List Int)} {k : Nat} {r : List Int} (g : Few (u, t)) (hr : r.length ≤ 6) : Few (u, t.set k r) :=
  ⟨g.u, by simpa using g.t, fun x hx => by
    rcases List.mem_or_eq_of_mem_set hx with h | h
    · exact g.r x h
    · rw [h]; exact hr⟩
theorem bnM_few {b : List Int} {p : Nat} {u : List Int} {t : List (List Int)} (g : GA (u, t)) : Few (bnM b p u t).1 ∧ (bnM b p u t).2 ≤ p + 5 := by
  have f := g.few
  have hrow : ∀ k, (gr t k).length ≤ 6 := fun k => by
    by_cases h : k < t.length
    · exact f.r _ (gr_mem h)
    · simp [gr, List.getElem?_eq_none (Nat.le_of_not_lt h)]
  unfold bnM
  split
  · exact ⟨f, by show p + 1 ≤ p + 5; omega⟩
  · dsimp only
    split
    · exact ⟨few_set f (by rw [List.length_set]; exact hrow _), Nat.le_refl _⟩
    · split
      · exact ⟨⟨by have := f.u; simpa using this, f.t, f.r⟩, by show p + 4 ≤ p + 5; omega⟩
      · split
        · exact ⟨⟨f.u, by have := f.t; simp at this ⊢; omega, fun x hx => f.r x (List.mem_of_mem_tail hx)⟩, by show p + 3 ≤ p + 5; omega⟩
        · split
          · exact ⟨few_set f (by have := hrow (pkM b (p + 1) u.length).toNat; simp; omega), by show p + 3 ≤ p + 5; omega⟩
          · exact ⟨⟨by have := g.six; simp at this ⊢; omega, f.t, f.r⟩, by show p + 3 ≤ p + 5; omega⟩
/-- What a reader reads. -/
def rdB (code : List Int) : List Int := code.take 2000
def Byt (code : List Int) : Prop := ∀ x ∈ code, 0 ≤ x ∧ x ≤ 255
theorem rdB_ok {code : List Int} (h : Byt code) : BB (rdB code) := ⟨by simp [rdB]; omega, fun x hx => h x (List.mem_of_mem_take hx)⟩
def inlR (id : Nat) : Option FnA := if id = 90 then some fa_90 else none
theorem inlR_ok (id : Nat) (fa : FnA) (h : inlR id = some fa) : ∃ A, FnOk Try.prog id fa A := by
  unfold inlR at h
  split at h
  · rename_i e; injection h with h; subst h; exact ⟨_, e ▸ fok_90⟩
  · cases h
theorem pcR (T : List (Fam Try.prog)) (TW : List (FamW Try.prog)) {f : Nat} {fa : FnA} {A : Ann} (hf : FnOk Try.prog f fa A) {ds : List D} {fresh : Bool} {R : D → List D → Prop}
    (h : run (CI inlR) 0 (inlW (CI inlR) T TW 1 0) fa.ac (retQ (CI inlR).tt fresh fa.res R false) ⟨args0 0 ds, [], 1⟩) : PC Try.prog f ds none fresh R :=
  pc_of_run (C := CI inlR) (kb := 0) (io := none) hty0 Try.checked.mixed (inlW_ok (C := CI inlR) hty0 Try.checked.mixed (by intro f fa h; exact inlR_ok f fa h) T TW 1 0) hf h
section
variable {T : List (Fam Try.prog)} {TW : List (FamW Try.prog)} {n kb kb' id : Nat} {caps args : List D} {σ : St} {d : Option Nat} {ops : List AOper} {Q : St → Prop}
theorem callOWR (hn : (id == 90) = false) (hw : (findW id TW).isSome = true) : callO (CI inlR) kb' (inlW (CI inlR) T TW n kb) d 16 (.fn id caps) args σ ops Q = tabW2 (findW id TW) (args ++ caps) σ.h (fun v h => opsK (CI inlR) kb' (inlW (CI inlR) T TW n kb) ops ⟨put σ.t d (imm 5 v), h, σ.g⟩ Q) :=
  callO16W' (by show inlR id = none; unfold inlR; rw [if_neg (by simpa using hn)]) hw
theorem callON : callO (CI inlR) kb' (inlW (CI inlR) T TW 1 kb) d 16 (.fn 90 caps) args σ ops Q =
    run (CI inlR) (kb + 4000) (inlW (CI inlR) T TW 0 (kb + 4000)) fa_90.ac (inlQ (CI inlR).tt fa_90.res (backK (CI inlR) kb' (inlW (CI inlR) T TW 1 kb) σ.t d ops Q)) ⟨args0 0 (args ++ caps), σ.h, σ.g⟩ := callO16I (by rfl)
end

/-- A new reader. -/
theorem newR {T : List (Fam Try.prog)} {TW : List (FamW Try.prog)} {σ : St} {d : Option Nat} {ops : List AOper} {Q : St → Prop} {c : List Int} (hl : c.length ≤ 1099511627776)
    (h : opsK (CI inlR) 0 (inlW (CI inlR) T TW 1 0) ops ⟨put σ.t d (.ptr 4080 σ.g 0), ⟨4080, σ.g, .cells (RS (rdB c) 0)⟩ :: hdel σ.h 4080, σ.g + 1⟩ Q) :
    callO (CI inlR) 0 (inlW (CI inlR) T TW 1 0) d 16 (.fn 90 []) [BL c] σ ops Q := by
  rw [callON]
  rcases Nat.lt_or_ge 2000 c.length with q | q
  · simp [fa_90, show ((2000 : Int) < c.length) by omega, show ((2000 : Int) ≤ c.length) by omega, show ¬ ((c.length : Int) ≤ 2000) by omega]
    exact h
  · have e : rdB c = c := by unfold rdB; exact List.take_of_length_le q
    rw [e] at h
    simp [fa_90, show ¬ ((2000 : Int) < c.length) by omega, show ((c.length : Int) ≤ 2000) by omega]
    exact h
end Go.PS
end

section
-- PRINTED by gen.py: clean texts of functions, and their tie to the program.
set_option maxRecDepth 100000
namespace Go.PS
open Go.Proofs
/-- spec.mapOf -/
def an_143 : Ann := ⟨[(1, 1, 16), (2, 1, 3), (3, 5, 16), (3, 8, 3), (4, 1, 16), (7, 0, 1), (13, 1, 16), (14, 3, 3), (16, 4, 16), (17, 1, 16), (19, 0, 1), (19, 4, 2), (21, 0, 1), (22, 4, 16), (22, 7, 16), (24, 2, 16), (24, 5, 16)], [(0, [0, 2, 3]), (1, [0, 2, 3, 5]), (2, [0, 2, 3, 5, 6]), (3, [0, 2, 3, 5, 7, 8]), (4, [0, 2, 3, 5, 7, 8, 28]), (5, [0, 2, 3, 5, 7, 8, 28, 29]), (6, [0, 2, 3, 5, 7]), (7, [0, 2, 3, 5, 7, 8]), (8, [0, 2, 3, 5, 7, 8, 9]), (9, [0, 2, 3, 5, 7, 8, 9, 37]), (11, [0, 2, 3, 5, 7, 8, 9]), (10, [0, 2, 3, 5, 7, 8, 9]), (12, [0, 2, 3, 5, 7, 8, 44]), (13, [0, 2, 3, 5, 7, 8]), (14, [0, 2, 3, 5, 7, 8, 10]), (15, [0, 2, 3, 5, 7, 8, 10, 54]), (16, [0, 2, 3, 5, 7, 8]), (17, [0, 2, 3, 5, 7, 8, 63]), (18, [0, 2, 3, 5, 7, 8, 63, 64]), (19, [2, 3, 5, 7, 8]), (20, [0, 2, 3, 5, 7, 8, 63, 71]), (21, [0, 2, 3, 5, 7, 8]), (22, [2, 3, 5, 7, 8]), (23, [0, 2, 3, 5, 7, 8, 85]), (24, [2, 3, 4]), (25, [2, 3, 4])], [(9, [0, 2, 3, 5, 7, 8, 9], [0, 16, 24, 40, 56, 96, 256, 344, 376, 528, 544, 560, 584, 600, 664, 712, 736])], [(3, (.one 1 (.one 2 (.one 3 (.imm 4 (.alt 0 (.alt 5 (.imm 6 (.alt 7 (.alt 8 (.one 9 (.one 10 (.one 11 (.alt 12 (.alt 13 (.one 14 .fin) .stop) .stop)))) (.alt 12 (.alt 8 (.one 9 (.one 10 (.one 11 (.alt 13 (.one 14 .fin) .stop)))) .stop) .stop)) (.alt 12 (.alt 7 (.alt 8 (.one 9 (.one 10 (.one 11 (.alt 13 (.one 14 .fin) .stop)))) .stop) .stop) .stop))) (.alt 12 (.alt 5 (.imm 6 (.alt 7 (.alt 8 (.one 9 (.one 10 (.one 11 (.alt 13 (.one 14 .fin) .stop)))) .stop) .stop)) .stop) .stop)) (.alt 5 (.imm 6 (.alt 0 (.alt 7 (.alt 8 (.one 9 (.one 10 (.one 11 (.alt 12 (.alt 13 (.one 14 .fin) .stop) .stop)))) (.alt 12 (.alt 8 (.one 9 (.one 10 (.one 11 (.alt 13 (.one 14 .fin) .stop)))) .stop) .stop)) (.alt 12 (.alt 7 (.alt 8 (.one 9 (.one 10 (.one 11 (.alt 13 (.one 14 .fin) .stop)))) .stop) .stop) .stop)) (.alt 7 (.alt 0 (.alt 8 (.one 9 (.one 10 (.one 11 (.alt 12 (.alt 13 (.one 14 .fin) .stop) .stop)))) (.alt 12 (.alt 8 (.one 9 (.one 10 (.one 11 (.alt 13 (.one 14 .fin) .stop)))) .stop) .stop)) (.alt 12 (.alt 0 (.alt 8 (.one 9 (.one 10 (.one 11 (.alt 13 (.one 14 .fin) .stop)))) .stop) .stop) .stop)) (.alt 12 (.alt 0 (.alt 7 (.alt 8 (.one 9 (.one 10 (.one 11 (.alt 13 (.one 14 .fin) .stop)))) .stop) .stop) (.alt 7 (.alt 0 (.alt 8 (.one 9 (.one 10 (.one 11 (.alt 13 (.one 14 .fin) .stop)))) .stop) .stop) .stop)) .stop)))) (.alt 12 (.alt 0 (.alt 5 (.imm 6 (.alt 7 (.alt 8 (.one 9 (.one 10 (.one 11 (.alt 13 (.one 14 .fin) .stop)))) .stop) .stop)) .stop) (.alt 5 (.imm 6 (.alt 0 (.alt 7 (.alt 8 (.one 9 (.one 10 (.one 11 (.alt 13 (.one 14 .fin) .stop)))) .stop) .stop) (.alt 7 (.alt 0 (.alt 8 (.one 9 (.one 10 (.one 11 (.alt 13 (.one 14 .fin) .stop)))) .stop) .stop) .stop))) .stop)) .stop))))))), [0, 16, 24, 40, 56, 96, 256, 344, 376, 528, 544, 560, 584, 600, 664, 712, 736]), (24, (.one 0 (.one 3 (.one 6 (.alt 1 (.alt 2 (.alt 4 (.alt 5 (.alt 7 (.alt 8 (.one 9 .fin) .stop) .stop) .stop) .stop) (.alt 4 (.alt 2 (.alt 5 (.alt 7 (.alt 8 (.one 9 .fin) .stop) .stop) .stop) .stop) .stop)) (.alt 4 (.alt 1 (.alt 2 (.alt 5 (.alt 7 (.alt 8 (.one 9 .fin) .stop) .stop) .stop) .stop) .stop) .stop))))), [0, 16, 24, 96, 256, 344, 376, 528, 544, 560, 584, 600, 664, 712, 736]), (25, (.one 2 (.alt 0 (.alt 1 (.alt 3 (.alt 4 (.one 5 .fin) .stop) .stop) (.alt 3 (.alt 1 (.alt 4 (.one 5 .fin) .stop) .stop) .stop)) (.alt 1 (.alt 0 (.alt 3 (.alt 4 (.one 5 .fin) .stop) .stop) .stop) .stop))), [0, 16, 24, 96, 256, 344, 376, 528, 544, 560, 584, 600, 664, 712, 736])]⟩
def ct_143_25 : AC :=
  (.seq
    (.expl [⟨some 94, (.load 27 (.t 5)), 27, none, 0⟩, ⟨some 95, (.load 27 (.t 7)), 27, none, 0⟩, ⟨some 96, (.mv (.t 8)), 23, none, 0⟩, ⟨none, (.store 27 (.t 2) (.t 94)), 0, none, 0⟩, ⟨none, (.store 27 (.t 3) (.t 95)), 0, none, 0⟩, ⟨some 4, (.mv (.t 96)), 23, none, 0⟩] (.one 2 (.alt 0 (.alt 1 (.alt 3 (.alt 4 (.one 5 .fin) .stop) .stop) (.alt 3 (.alt 1 (.alt 4 (.one 5 .fin) .stop) .stop) .stop)) (.alt 1 (.alt 0 (.alt 3 (.alt 4 (.one 5 .fin) .stop) .stop) .stop) .stop))) [2, 3, 4] [0, 16, 24, 96, 256, 344, 376, 528, 544, 560, 584, 600, 664, 712, 736])
    .ret)
def ct_143_17 : AC :=
  (.seq
    (.seq
      (.region false [⟨some 62, (.mv (.t 0)), 72, none, 0⟩, ⟨some 63, (.call (.f 106) [(.t 62), (.c (.int .i64 16))]), 3, none, 16⟩] (some [0, 2, 3, 5, 7, 8, 63]))
      (.block 3
        (.seq
          (.region false [⟨some 65, (.bin .eql 3 (.t 63) (.c (.int .i64 0))), 4, none, 0⟩, ⟨some 64, (.mv (.t 65)), 4, none, 0⟩] (some [0, 2, 3, 5, 7, 8, 63, 64]))
          (.cond (.t 64)
            (.region false [⟨some 66, (.bslice 23 0 []), 23, none, 1⟩, ⟨some 67, (.mv (.t 8)), 23, none, 0⟩, ⟨some 68, (.app 23 23 (.t 66) (.t 67)), 23, none, 0⟩, ⟨some 69, (.bslice 23 1 [(0, (.c (.int .i64 0)))]), 23, none, 0⟩, ⟨some 70, (.app 23 23 (.t 68) (.t 69)), 23, none, 2⟩, ⟨some 8, (.mv (.t 70)), 23, none, 0⟩] (some [2, 3, 5, 7, 8]))
            (.seq
              (.region false [⟨some 72, (.bin .eql 3 (.t 63) (.c (.int .i64 1))), 4, none, 0⟩, ⟨some 71, (.mv (.t 72)), 4, none, 0⟩] (some [0, 2, 3, 5, 7, 8, 63, 71]))
              (.cond (.t 71)
                (.seq
                  (.region false [⟨some 73, (.bslice 23 0 []), 23, none, 1⟩, ⟨some 74, (.mv (.t 8)), 23, none, 0⟩, ⟨some 75, (.app 23 23 (.t 73) (.t 74)), 23, none, 0⟩, ⟨some 8, (.mv (.t 75)), 23, none, 0⟩] (some [0, 2, 3, 5, 7, 8]))
                  (.region false [⟨some 76, (.mv (.t 8)), 23, none, 0⟩, ⟨some 77, (.mv (.t 0)), 72, none, 0⟩, ⟨some 78, (.mv (.t 8)), 23, none, 0⟩, ⟨some 79, (.len 23 (.t 78)), 3, none, 0⟩, ⟨some 80, (.call (.f 106) [(.t 77), (.t 79)]), 3, none, 16⟩, ⟨some 81, (.mv (.t 0)), 72, none, 0⟩, ⟨some 82, (.bslice 23 4 [(0, (.c (.int .i64 0))), (1, (.c (.int .i64 1))), (2, (.c (.int .i64 (-1)))), (3, (.c (.int .i64 6)))]), 23, none, 0⟩, ⟨some 83, (.call (.f 161) [(.t 81), (.t 82)]), 3, none, 16⟩, ⟨some 84, (.iaddr 23 (.t 76) (.t 80)), 0, none, 0⟩, ⟨none, (.store 3 (.t 84) (.t 83)), 0, none, 0⟩] (some [2, 3, 5, 7, 8])))
                (.seq
                  (.region false [⟨some 86, (.bin .eql 3 (.t 63) (.c (.int .i64 2))), 4, none, 0⟩, ⟨some 85, (.mv (.t 86)), 4, none, 0⟩] (some [0, 2, 3, 5, 7, 8, 85]))
                  (.cond (.t 85)
                    (.seq
                      (.expl [⟨some 87, (.mv (.t 0)), 72, none, 0⟩, ⟨some 88, (.load 27 (.t 5)), 27, none, 0⟩, ⟨some 89, (.call (.f 168) [(.t 87), (.t 88)]), 27, none, 16⟩, ⟨some 90, (.mv (.t 0)), 72, none, 0⟩, ⟨some 91, (.load 27 (.t 7)), 27, none, 0⟩, ⟨some 92, (.call (.f 168) [(.t 90), (.t 91)]), 27, none, 16⟩, ⟨some 93, (.mv (.t 8)), 23, none, 0⟩, ⟨none, (.store 27 (.t 2) (.t 89)), 0, none, 0⟩, ⟨none, (.store 27 (.t 3) (.t 92)), 0, none, 0⟩, ⟨some 4, (.mv (.t 93)), 23, none, 0⟩] (.one 0 (.one 3 (.one 6 (.alt 1 (.alt 2 (.alt 4 (.alt 5 (.alt 7 (.alt 8 (.one 9 .fin) .stop) .stop) .stop) .stop) (.alt 4 (.alt 2 (.alt 5 (.alt 7 (.alt 8 (.one 9 .fin) .stop) .stop) .stop) .stop) .stop)) (.alt 4 (.alt 1 (.alt 2 (.alt 5 (.alt 7 (.alt 8 (.one 9 .fin) .stop) .stop) .stop) .stop) .stop) .stop))))) [2, 3, 4] [0, 16, 24, 96, 256, 344, 376, 528, 544, 560, 584, 600, 664, 712, 736])
                      .ret)
                    .skip))))))))
   ct_143_25)
def lb_143_9 : AC :=
  (.seq
    (.seq
      (.region false [⟨some 33, (.mv (.t 9)), 3, none, 0⟩, ⟨some 34, (.faddr 27 (.t 5) 0), 0, none, 0⟩, ⟨some 35, (.load 23 (.t 34)), 23, none, 0⟩, ⟨some 36, (.len 23 (.t 35)), 3, none, 0⟩, ⟨some 37, (.bin .lss 3 (.t 33) (.t 36)), 4, none, 0⟩] (some [0, 2, 3, 5, 7, 8, 9, 37]))
      (.cond (.t 37)
        .skip
        (.exit 1)))
    (.seq
      (.block 2
        (.region false [⟨some 40, (.mv (.t 8)), 23, none, 0⟩, ⟨some 41, (.mv (.t 9)), 3, none, 0⟩, ⟨some 42, (.bslice 23 1 [(0, (.t 41))]), 23, none, 0⟩, ⟨some 43, (.app 23 23 (.t 40) (.t 42)), 23, none, 0⟩, ⟨some 8, (.mv (.t 43)), 23, none, 0⟩] (some [0, 2, 3, 5, 7, 8, 9])))
      (.region false [⟨some 38, (.mv (.t 9)), 3, none, 0⟩, ⟨some 39, (.bin .add 3 (.t 38) (.c (.int .i64 1))), 3, none, 0⟩, ⟨some 9, (.mv (.t 39)), 3, none, 0⟩] (some [0, 2, 3, 5, 7, 8, 9]))))
def ct_143_4 : AC :=
  (.seq
    (.seq
      (.region false [⟨some 27, (.mv (.t 0)), 72, none, 0⟩, ⟨some 28, (.call (.f 106) [(.t 27), (.c (.int .i64 4))]), 3, none, 16⟩] (some [0, 2, 3, 5, 7, 8, 28]))
      (.block 0
        (.seq
          (.region false [⟨some 30, (.bin .eql 3 (.t 28) (.c (.int .i64 0))), 4, none, 0⟩, ⟨some 29, (.mv (.t 30)), 4, none, 0⟩] (some [0, 2, 3, 5, 7, 8, 28, 29]))
          (.cond (.t 29)
            (.seq
              (.region false [⟨some 31, (.load 27 (.t 5)), 27, none, 0⟩, ⟨none, (.store 27 (.t 7) (.t 31)), 0, none, 0⟩] (some [0, 2, 3, 5, 7]))
              (.seq
                (.region false [⟨some 32, (.bslice 23 0 []), 23, none, 1⟩, ⟨some 8, (.mv (.t 32)), 23, none, 0⟩] (some [0, 2, 3, 5, 7, 8]))
                (.seq
                  (.region false [⟨some 9, (.mv (.c (.int .i64 0))), 3, none, 0⟩] (some [0, 2, 3, 5, 7, 8, 9]))
                  (.block 1
                    (.loop [0, 2, 3, 5, 7, 8, 9] [0, 16, 24, 40, 56, 96, 256, 344, 376, 528, 544, 560, 584, 600, 664, 712, 736] lb_143_9)))))
            (.seq
              (.region false [⟨some 45, (.bin .eql 3 (.t 28) (.c (.int .i64 1))), 4, none, 0⟩, ⟨some 44, (.mv (.t 45)), 4, none, 0⟩] (some [0, 2, 3, 5, 7, 8, 44]))
              (.cond (.t 44)
                (.seq
                  (.region false [⟨some 46, (.mv (.t 0)), 72, none, 0⟩, ⟨some 47, (.call (.f 181) [(.t 46), (.c (.int .i64 3))]), 27, none, 16⟩, ⟨none, (.store 27 (.t 5) (.t 47)), 0, none, 0⟩] (some [0, 2, 3, 5, 7, 8]))
                  (.seq
                    (.region false [⟨some 48, (.load 27 (.t 5)), 27, none, 0⟩, ⟨some 49, (.load 27 (.t 7)), 27, none, 0⟩, ⟨some 50, (.bslice 23 0 []), 23, none, 0⟩, ⟨some 51, (.call (.f 159) [(.t 48), (.t 49), (.t 50)]), 25, none, 3⟩, ⟨some 10, (.mv (.t 51)), 25, none, 0⟩] (some [0, 2, 3, 5, 7, 8, 10]))
                    (.seq
                      (.region false [⟨some 52, (.mv (.t 10)), 25, none, 0⟩, ⟨some 53, (.len 25 (.t 52)), 3, none, 0⟩, ⟨some 54, (.bin .gtr 3 (.t 53) (.c (.int .i64 0))), 4, none, 0⟩] (some [0, 2, 3, 5, 7, 8, 10, 54]))
                      (.cond (.t 54)
                        (.region false [⟨some 55, (.mv (.t 10)), 25, none, 0⟩, ⟨some 56, (.mv (.t 0)), 72, none, 0⟩, ⟨some 57, (.mv (.t 10)), 25, none, 0⟩, ⟨some 58, (.len 25 (.t 57)), 3, none, 0⟩, ⟨some 59, (.call (.f 106) [(.t 56), (.t 58)]), 3, none, 16⟩, ⟨some 60, (.iaddr 25 (.t 55) (.t 59)), 0, none, 0⟩, ⟨some 61, (.load 23 (.t 60)), 23, none, 0⟩, ⟨some 8, (.mv (.t 61)), 23, none, 0⟩] (some [0, 2, 3, 5, 7, 8]))
                        .skip))))
                .skip))))))
   ct_143_17)
def fa_143 : FnA := ⟨97, [.c 2 27, .c 3 27, .t 4],
  (.seq
    (.region false [⟨some 2, (.alloc 27), 0, none, 0⟩, ⟨some 3, (.alloc 27), 0, none, 0⟩, ⟨some 4, (.mv (.c .nil)), 23, none, 0⟩] (some [0, 2, 3]))
    (.seq
      (.region false [⟨some 11, (.mv (.t 0)), 72, none, 0⟩, ⟨some 12, (.call (.f 169) [(.t 11)]), 27, none, 16⟩, ⟨some 5, (.alloc 27), 0, none, 0⟩, ⟨none, (.store 27 (.t 5) (.t 12)), 0, none, 0⟩] (some [0, 2, 3, 5]))
      (.seq
        (.region false [⟨some 13, (.load 27 (.t 5)), 27, none, 0⟩, ⟨some 14, (.call (.f 119) [(.t 13)]), 23, none, 3⟩, ⟨some 6, (.mv (.t 14)), 23, none, 0⟩] (some [0, 2, 3, 5, 6]))
        (.seq
          (.expl [⟨some 16, (.load 27 (.t 5)), 27, none, 0⟩, ⟨some 17, (.mv (.t 6)), 23, none, 0⟩, ⟨some 18, (.mv (.t 0)), 72, none, 0⟩, ⟨some 19, (.mv (.t 6)), 23, none, 0⟩, ⟨some 20, (.len 23 (.t 19)), 3, none, 0⟩, ⟨some 21, (.call (.f 106) [(.t 18), (.t 20)]), 3, none, 16⟩, ⟨some 22, (.iaddr 23 (.t 17) (.t 21)), 0, none, 0⟩, ⟨some 23, (.load 3 (.t 22)), 3, none, 0⟩, ⟨some 24, (.call (.f 180) [(.t 16), (.t 23)]), 39, none, 3⟩, ⟨some 15, (.mv (.t 24)), 39, none, 0⟩, ⟨some 25, (.ext (.t 15) 0), 27, none, 0⟩, ⟨some 26, (.ext (.t 15) 1), 23, none, 0⟩, ⟨some 7, (.alloc 27), 0, none, 0⟩, ⟨none, (.store 27 (.t 7) (.t 25)), 0, none, 0⟩, ⟨some 8, (.mv (.t 26)), 23, none, 0⟩] (.one 1 (.one 2 (.one 3 (.imm 4 (.alt 0 (.alt 5 (.imm 6 (.alt 7 (.alt 8 (.one 9 (.one 10 (.one 11 (.alt 12 (.alt 13 (.one 14 .fin) .stop) .stop)))) (.alt 12 (.alt 8 (.one 9 (.one 10 (.one 11 (.alt 13 (.one 14 .fin) .stop)))) .stop) .stop)) (.alt 12 (.alt 7 (.alt 8 (.one 9 (.one 10 (.one 11 (.alt 13 (.one 14 .fin) .stop)))) .stop) .stop) .stop))) (.alt 12 (.alt 5 (.imm 6 (.alt 7 (.alt 8 (.one 9 (.one 10 (.one 11 (.alt 13 (.one 14 .fin) .stop)))) .stop) .stop)) .stop) .stop)) (.alt 5 (.imm 6 (.alt 0 (.alt 7 (.alt 8 (.one 9 (.one 10 (.one 11 (.alt 12 (.alt 13 (.one 14 .fin) .stop) .stop)))) (.alt 12 (.alt 8 (.one 9 (.one 10 (.one 11 (.alt 13 (.one 14 .fin) .stop)))) .stop) .stop)) (.alt 12 (.alt 7 (.alt 8 (.one 9 (.one 10 (.one 11 (.alt 13 (.one 14 .fin) .stop)))) .stop) .stop) .stop)) (.alt 7 (.alt 0 (.alt 8 (.one 9 (.one 10 (.one 11 (.alt 12 (.alt 13 (.one 14 .fin) .stop) .stop)))) (.alt 12 (.alt 8 (.one 9 (.one 10 (.one 11 (.alt 13 (.one 14 .fin) .stop)))) .stop) .stop)) (.alt 12 (.alt 0 (.alt 8 (.one 9 (.one 10 (.one 11 (.alt 13 (.one 14 .fin) .stop)))) .stop) .stop) .stop)) (.alt 12 (.alt 0 (.alt 7 (.alt 8 (.one 9 (.one 10 (.one 11 (.alt 13 (.one 14 .fin) .stop)))) .stop) .stop) (.alt 7 (.alt 0 (.alt 8 (.one 9 (.one 10 (.one 11 (.alt 13 (.one 14 .fin) .stop)))) .stop) .stop) .stop)) .stop)))) (.alt 12 (.alt 0 (.alt 5 (.imm 6 (.alt 7 (.alt 8 (.one 9 (.one 10 (.one 11 (.alt 13 (.one 14 .fin) .stop)))) .stop) .stop)) .stop) (.alt 5 (.imm 6 (.alt 0 (.alt 7 (.alt 8 (.one 9 (.one 10 (.one 11 (.alt 13 (.one 14 .fin) .stop)))) .stop) .stop) (.alt 7 (.alt 0 (.alt 8 (.one 9 (.one 10 (.one 11 (.alt 13 (.one 14 .fin) .stop)))) .stop) .stop) .stop))) .stop)) .stop))))))) [0, 2, 3, 5, 7, 8] [0, 16, 24, 40, 56, 96, 256, 344, 376, 528, 544, 560, 584, 600, 664, 712, 736])
         ct_143_4))))⟩
theorem fok_143 : FnOk Try.prog 143 fa_143 an_143 := ⟨Try.f143, _, Try.func143, rfl, by kernel_rfl, rfl, rfl, by decide, by kernel_rfl⟩
end Go.PS
end

section
-- Contracts: maps that are drawn.
set_option maxRecDepth 100000
set_option linter.unusedVariables false
set_option linter.unusedSimpArgs false
namespace Go.PS
open Go.Proofs

noncomputable def moF (b : List Int) (p : Nat) (u : List Int) (t : List (List Int)) : Nat := (filN u t (2 ^ u.length)).getD (pkM b p (filN u t (2 ^ u.length)).length).toNat 0
theorem moF_fi {b : List Int} (hb : BB b) {p : Nat} (hp : p ≤ 1000000) {u : List Int} {t : List (List Int)} (a : VA u t) : FI u t (moF b p u t) ∧ gi (natL (filN u t (2 ^ u.length))) (pkM b p (filN u t (2 ^ u.length)).length).toNat = (moF b p u t : Nat) := by
  have hpos : 0 < (filN u t (2 ^ u.length)).length := List.length_pos_of_mem (mem_fil.2 (fi_all a))
  have hr := pkM_rng hb (p := p) (by omega) (n := (filN u t (2 ^ u.length)).length) (by omega)
  have hi : (pkM b p (filN u t (2 ^ u.length)).length).toNat < (filN u t (2 ^ u.length)).length := by omega
  unfold moF
  rw [gi_natL hi, List.getD_eq_getElem?_getD, List.getElem?_eq_getElem hi]
  exact ⟨mem_fil.1 (List.getElem_mem hi), rfl⟩
theorem ga_va {u : List Int} {t : List (List Int)} (a : VA u t) : GA (u, t) := ⟨a.lat.pos, a.lat.six, ⟨a.len, a.rows⟩⟩
abbrev Mps := Alg × Alg × List Int
noncomputable def moA (b : List Int) (p : Nat) (u : List Int) (t : List (List Int)) (f : Nat) : Mps × Nat :=
  if pkM b p 4 = 0 then (((u, t), (u, t), tl u.length fun x => (x : Int)), p + 1)
  else if pkM b p 4 = 1 then
    (let A := aofM b (p + 1) 3; let l := mprn A.1.1 A.1.2 (quU u t f) (quT u t f) A.1.1.length []
     if l = [] then ((A.1, (quU u t f, quT u t f), quP u t f), A.2) else ((A.1, (quU u t f, quT u t f), gr l (pkM b A.2 l.length).toNat), A.2 + 1))
  else (((u, t), (quU u t f, quT u t f), quP u t f), p + 1)
noncomputable def moB (b : List Int) (q : Mps × Nat) : Mps × Nat :=
  if pkM b q.2 16 = 0 then ((q.1.1, q.1.2.1, q.1.2.2 ++ [0]), q.2 + 1)
  else if pkM b q.2 16 = 1 then ((q.1.1, q.1.2.1, q.1.2.2.set (pkM b (q.2 + 1) q.1.2.2.length).toNat (gi [0, 1, -1, 6] (pkM b (q.2 + 2) 4).toNat)), q.2 + 3)
  else if pkM b q.2 16 = 2 then (((bnM b (q.2 + 1) q.1.1.1 q.1.1.2).1, (bnM b (bnM b (q.2 + 1) q.1.1.1 q.1.1.2).2 q.1.2.1.1 q.1.2.1.2).1, q.1.2.2), (bnM b (bnM b (q.2 + 1) q.1.1.1 q.1.1.2).2 q.1.2.1.1 q.1.2.1.2).2)
  else (q.1, q.2 + 1)
noncomputable def moM (b : List Int) (p : Nat) : Mps × Nat :=
  moB b (moA b ((gaM b p).2 + 1) (gaM b p).1.1 (gaM b p).1.2 (moF b (gaM b p).2 (gaM b p).1.1 (gaM b p).1.2))

section
variable {T : List (Fam Try.prog)} {TW : List (FamW Try.prog)} {A B : Alg} {f : List Int} {b : List Int} {p g : Nat}
abbrev moC (A B : Alg) (b : List Int) (p : Nat) : List Ent := [⟨0, 0, .cells (RS b p)⟩, ⟨16, 1, .cells [.nil, .nil]⟩, ⟨24, 2, .cells [.nil, .nil]⟩, ⟨40, 3, .cells [IL A.1, RL A.2]⟩, ⟨56, 4, .cells [IL B.1, RL B.2]⟩]
abbrev moQ (A B : Alg) (f : List Int) (b : List Int) (p : Nat) : AExit → St → Prop := retQ2 C0.tt [RV.c 2 27, RV.c 3 27, RV.t 4] fun r c => imm 5 r = .tup [AL A.1 A.2, AL B.1 B.2, IL f] ∧ c = RS b p
theorem mo25 : run C0 0 (inlW C0 T TW 0 0) ct_143_25 (moQ A B f b p) ⟨[(2, .ptr 16 1 0), (3, .ptr 24 2 0), (5, .ptr 40 3 0), (7, .ptr 56 4 0), (8, IL f)], moC A B b p, g⟩ := by
  simp [ct_143_25]
  refine cutE (α := Unit) (fun _ => [(2, .ptr 16 1 0), (3, .ptr 24 2 0), (4, IL f)]) (fun _ => [⟨0, 0, .cells (RS b p)⟩, ⟨16, 1, .cells [IL A.1, RL A.2]⟩, ⟨24, 2, .cells [IL B.1, RL B.2]⟩]) ?_ (fun _ g0 => ?_)
  · simp
  · simp
theorem mo25b {x : Bool} : run C0 0 (inlW C0 T TW 0 0) ct_143_25 (moQ A B f b p) ⟨[(0, .ptr 0 0 0), (2, .ptr 16 1 0), (3, .ptr 24 2 0), (5, .ptr 40 3 0), (7, .ptr 56 4 0), (8, IL f), (85, .bool x)], moC A B b p, g⟩ := by
  simp [ct_143_25]
  refine cutE (α := Unit) (fun _ => [(2, .ptr 16 1 0), (3, .ptr 24 2 0), (4, IL f)]) (fun _ => [⟨0, 0, .cells (RS b p)⟩, ⟨16, 1, .cells [IL A.1, RL A.2]⟩, ⟨24, 2, .cells [IL B.1, RL B.2]⟩]) ?_ (fun _ g0 => ?_)
  · simp
  · simp
theorem mo25o {x : Nat} : run C0 0 (inlW C0 T TW 0 0) ct_143_25 (moQ A B f b p) ⟨[(2, .ptr 16 1 0), (3, .ptr 24 2 0), (5, .ptr 40 3 0), (7, .ptr 56 4 0), (8, .arr 584 x)], ⟨584, x, .arr 1 (ints f)⟩ :: moC A B b p, g⟩ := by
  simp [ct_143_25]
  refine cutE (α := Unit) (fun _ => [(2, .ptr 16 1 0), (3, .ptr 24 2 0), (4, .arr 584 x)]) (fun _ => [⟨0, 0, .cells (RS b p)⟩, ⟨16, 1, .cells [IL A.1, RL A.2]⟩, ⟨24, 2, .cells [IL B.1, RL B.2]⟩, ⟨584, x, .arr 1 (ints f)⟩]) ?_ (fun _ g0 => ?_)
  · simp
  · simp
theorem mo25p {x : Nat} {y : Bool} : run C0 0 (inlW C0 T TW 0 0) ct_143_25 (moQ A B f b p) ⟨[(0, .ptr 0 0 0), (2, .ptr 16 1 0), (3, .ptr 24 2 0), (5, .ptr 40 3 0), (7, .ptr 56 4 0), (8, .arr 256 x), (85, .bool y)], moC A B b p ++ [⟨256, x, .arr 1 (ints f)⟩], g⟩ := by
  simp [ct_143_25]
  refine cutE (α := Unit) (fun _ => [(2, .ptr 16 1 0), (3, .ptr 24 2 0), (4, .arr 256 x)]) (fun _ => [⟨0, 0, .cells (RS b p)⟩, ⟨16, 1, .cells [IL A.1, RL A.2]⟩, ⟨24, 2, .cells [IL B.1, RL B.2]⟩, ⟨256, x, .arr 1 (ints f)⟩]) ?_ (fun _ g0 => ?_)
  · simp
  · simp
theorem mo25x {x : Nat} {f0 : List Int} : run C0 0 (inlW C0 T TW 0 0) ct_143_25 (moQ A B f b p) ⟨[(2, .ptr 16 1 0), (3, .ptr 24 2 0), (5, .ptr 40 3 0), (7, .ptr 56 4 0), (8, IL f)], moC A B b p ++ [⟨256, x, .arr 1 (ints f0)⟩], g⟩ := by
  simp [ct_143_25]
  refine cutE (α := Unit) (fun _ => [(2, .ptr 16 1 0), (3, .ptr 24 2 0), (4, IL f)]) (fun _ => [⟨0, 0, .cells (RS b p)⟩, ⟨16, 1, .cells [IL A.1, RL A.2]⟩, ⟨24, 2, .cells [IL B.1, RL B.2]⟩, ⟨256, x, .arr 1 (ints f0)⟩]) ?_ (fun _ g0 => ?_)
  · simp
  · simp
theorem mo25y {x y : Nat} {f0 : List Int} : run C0 0 (inlW C0 T TW 0 0) ct_143_25 (moQ A B f b p) ⟨[(2, .ptr 16 1 0), (3, .ptr 24 2 0), (5, .ptr 40 3 0), (7, .ptr 56 4 0), (8, .arr 584 x)], ⟨584, x, .arr 1 (ints f)⟩ :: moC A B b p ++ [⟨256, y, .arr 1 (ints f0)⟩], g⟩ := by
  simp [ct_143_25]
  refine cutE (α := Unit) (fun _ => [(2, .ptr 16 1 0), (3, .ptr 24 2 0), (4, .arr 584 x)]) (fun _ => [⟨0, 0, .cells (RS b p)⟩, ⟨16, 1, .cells [IL A.1, RL A.2]⟩, ⟨24, 2, .cells [IL B.1, RL B.2]⟩, ⟨256, y, .arr 1 (ints f0)⟩, ⟨584, x, .arr 1 (ints f)⟩]) ?_ (fun _ g0 => ?_)
  · simp
  · simp
set_option maxHeartbeats 2000000 in
theorem mo17 (hb : BB b) (hp : p ≤ 960000) (gA : GA A) (gB : GA B) (hf : 0 < f.length) (hf6 : f.length ≤ 6) :
    run C0 0 (inlW C0 [fm_filS, fm_quoS, fm_mapsFromS] [fw_pick, fw_one, fw_goodAlg, fw_algOf, fw_bent] 0 0) ct_143_17 (moQ (moB b ((A, B, f), p)).1.1 (moB b ((A, B, f), p)).1.2.1 (moB b ((A, B, f), p)).1.2.2 b (moB b ((A, B, f), p)).2) ⟨[(0, .ptr 0 0 0), (2, .ptr 16 1 0), (3, .ptr 24 2 0), (5, .ptr 40 3 0), (7, .ptr 56 4 0), (8, IL f)], moC A B b p, g⟩ := by
  have l1 := fw_pick_look b p 16 hb (by omega) (by omega)
  by_cases c0 : pkM b p 16 = 0
  · have e : moB b ((A, B, f), p) = ((A, B, f ++ [0]), p + 1) := by unfold moB; rw [if_pos c0]
    rw [e]
    rw [c0] at l1
    simp [ct_143_17, callOW, l1]
    exact ⟨leBig (by omega), leBig (by omega), mo25⟩
  · by_cases c1 : pkM b p 16 = 1
    · have e : moB b ((A, B, f), p) = ((A, B, f.set (pkM b (p + 1) f.length).toNat (gi [0, 1, -1, 6] (pkM b (p + 2) 4).toNat)), p + 3) := by unfold moB; rw [if_neg c0, if_pos c1]
      rw [e]
      have hr := pkM_rng hb (p := p + 1) (by omega) (n := f.length) (by omega)
      have l2 := fw_pick_look b (p + 1) f.length hb (by omega) (by omega)
      have l3 : fw_one.look [.ptr 0 0 0, .list 1 [.int .i64 0, .int .i64 1, .int .i64 (-1), .int .i64 6]] (RS b (p + 2)) = some (I64 (gi [0, 1, -1, 6] (pkM b (p + 2) 4).toNat), RS b (p + 3)) := fw_one_look b (p + 2) [0, 1, -1, 6] hb (by omega) (by unfold Big; simp) (by simp)
      generalize gi [0, 1, -1, 6] (pkM b (p + 2) 4).toNat = z at *
      generalize pkM b (p + 1) f.length = k at *
      rw [c1] at l1
      simp [ct_143_17, callOW, l1, l2, l3]
      exact ⟨leBig (by omega), by decide, hr.1, hr.2, by omega, mo25o⟩
    · by_cases c2 : pkM b p 16 = 2
      · have e : moB b ((A, B, f), p) = (((bnM b (p + 1) A.1 A.2).1, (bnM b (bnM b (p + 1) A.1 A.2).2 B.1 B.2).1, f), (bnM b (bnM b (p + 1) A.1 A.2).2 B.1 B.2).2) := by unfold moB; rw [if_neg c0, if_neg c1, if_pos c2]
        rw [e]
        rw [c2] at l1
        simp [ct_143_17, callOW, l1]
        have l2 := fw_bent_look b (p + 1) A.1 A.2 hb (by omega) (by omega) gA
        have q1 := (bnM_few (b := b) (p := p + 1) (u := A.1) (t := A.2) gA).2
        generalize bnM b (p + 1) A.1 A.2 = A2 at *
        obtain ⟨A2, p2⟩ := A2
        dsimp only at *
        have l3 := fw_bent_look b p2 B.1 B.2 hb (by omega) (by omega) gB
        generalize bnM b p2 B.1 B.2 = B2 at *
        obtain ⟨B2, p3⟩ := B2
        dsimp only at *
        refine cutE (α := Unit) (fun _ => [(2, .ptr 16 1 0), (3, .ptr 24 2 0), (4, IL f)]) (fun _ => [⟨0, 0, .cells (RS b p3)⟩, ⟨16, 1, .cells [IL A2.1, RL A2.2]⟩, ⟨24, 2, .cells [IL B2.1, RL B2.2]⟩]) ?_ (fun _ g0 => ?_)
        · simp [callDOW, l2, l3]
        · simp
      · have e : moB b ((A, B, f), p) = ((A, B, f), p + 1) := by unfold moB; rw [if_neg c0, if_neg c1, if_neg c2]
        rw [e]
        simp [ct_143_17, callOW, l1, c0, c1, c2]
        exact mo25b
set_option maxHeartbeats 2000000 in
theorem mo17a {y : D} (hb : BB b) (hp : p ≤ 960000) (gA : GA A) (gB : GA B) (hf : 0 < f.length) (hf6 : f.length ≤ 6) :
    run C0 0 (inlW C0 [fm_filS, fm_quoS, fm_mapsFromS] [fw_pick, fw_one, fw_goodAlg, fw_algOf, fw_bent] 0 0) ct_143_17 (moQ (moB b ((A, B, f), p)).1.1 (moB b ((A, B, f), p)).1.2.1 (moB b ((A, B, f), p)).1.2.2 b (moB b ((A, B, f), p)).2) ⟨[(0, .ptr 0 0 0), (2, .ptr 16 1 0), (3, .ptr 24 2 0), (5, .ptr 40 3 0), (7, .ptr 56 4 0), (8, IL f), (44, y)], moC A B b p, g⟩ := by
  have l1 := fw_pick_look b p 16 hb (by omega) (by omega)
  by_cases c0 : pkM b p 16 = 0
  · have e : moB b ((A, B, f), p) = ((A, B, f ++ [0]), p + 1) := by unfold moB; rw [if_pos c0]
    rw [e]
    rw [c0] at l1
    simp [ct_143_17, callOW, l1]
    exact ⟨leBig (by omega), leBig (by omega), mo25⟩
  · by_cases c1 : pkM b p 16 = 1
    · have e : moB b ((A, B, f), p) = ((A, B, f.set (pkM b (p + 1) f.length).toNat (gi [0, 1, -1, 6] (pkM b (p + 2) 4).toNat)), p + 3) := by unfold moB; rw [if_neg c0, if_pos c1]
      rw [e]
      have hr := pkM_rng hb (p := p + 1) (by omega) (n := f.length) (by omega)
      have l2 := fw_pick_look b (p + 1) f.length hb (by omega) (by omega)
      have l3 : fw_one.look [.ptr 0 0 0, .list 1 [.int .i64 0, .int .i64 1, .int .i64 (-1), .int .i64 6]] (RS b (p + 2)) = some (I64 (gi [0, 1, -1, 6] (pkM b (p + 2) 4).toNat), RS b (p + 3)) := fw_one_look b (p + 2) [0, 1, -1, 6] hb (by omega) (by unfold Big; simp) (by simp)
      generalize gi [0, 1, -1, 6] (pkM b (p + 2) 4).toNat = z at *
      generalize pkM b (p + 1) f.length = k at *
      rw [c1] at l1
      simp [ct_143_17, callOW, l1, l2, l3]
      exact ⟨leBig (by omega), by decide, hr.1, hr.2, by omega, mo25o⟩
    · by_cases c2 : pkM b p 16 = 2
      · have e : moB b ((A, B, f), p) = (((bnM b (p + 1) A.1 A.2).1, (bnM b (bnM b (p + 1) A.1 A.2).2 B.1 B.2).1, f), (bnM b (bnM b (p + 1) A.1 A.2).2 B.1 B.2).2) := by unfold moB; rw [if_neg c0, if_neg c1, if_pos c2]
        rw [e]
        rw [c2] at l1
        simp [ct_143_17, callOW, l1]
        have l2 := fw_bent_look b (p + 1) A.1 A.2 hb (by omega) (by omega) gA
        have q1 := (bnM_few (b := b) (p := p + 1) (u := A.1) (t := A.2) gA).2
        generalize bnM b (p + 1) A.1 A.2 = A2 at *
        obtain ⟨A2, p2⟩ := A2
        dsimp only at *
        have l3 := fw_bent_look b p2 B.1 B.2 hb (by omega) (by omega) gB
        generalize bnM b p2 B.1 B.2 = B2 at *
        obtain ⟨B2, p3⟩ := B2
        dsimp only at *
        refine cutE (α := Unit) (fun _ => [(2, .ptr 16 1 0), (3, .ptr 24 2 0), (4, IL f)]) (fun _ => [⟨0, 0, .cells (RS b p3)⟩, ⟨16, 1, .cells [IL A2.1, RL A2.2]⟩, ⟨24, 2, .cells [IL B2.1, RL B2.2]⟩]) ?_ (fun _ g0 => ?_)
        · simp [callDOW, l2, l3]
        · simp
      · have e : moB b ((A, B, f), p) = ((A, B, f), p + 1) := by unfold moB; rw [if_neg c0, if_neg c1, if_neg c2]
        rw [e]
        simp [ct_143_17, callOW, l1, c0, c1, c2]
        exact mo25b
set_option maxHeartbeats 2000000 in
theorem mo17c {x y : D} (hb : BB b) (hp : p ≤ 960000) (gA : GA A) (gB : GA B) (hf : 0 < f.length) (hf6 : f.length ≤ 6) :
    run C0 0 (inlW C0 [fm_filS, fm_quoS, fm_mapsFromS] [fw_pick, fw_one, fw_goodAlg, fw_algOf, fw_bent] 0 0) ct_143_17 (moQ (moB b ((A, B, f), p)).1.1 (moB b ((A, B, f), p)).1.2.1 (moB b ((A, B, f), p)).1.2.2 b (moB b ((A, B, f), p)).2) ⟨[(0, .ptr 0 0 0), (2, .ptr 16 1 0), (3, .ptr 24 2 0), (5, .ptr 40 3 0), (7, .ptr 56 4 0), (8, IL f), (10, x), (54, y)], moC A B b p, g⟩ := by
  have l1 := fw_pick_look b p 16 hb (by omega) (by omega)
  by_cases c0 : pkM b p 16 = 0
  · have e : moB b ((A, B, f), p) = ((A, B, f ++ [0]), p + 1) := by unfold moB; rw [if_pos c0]
    rw [e]
    rw [c0] at l1
    simp [ct_143_17, callOW, l1]
    exact ⟨leBig (by omega), leBig (by omega), mo25⟩
  · by_cases c1 : pkM b p 16 = 1
    · have e : moB b ((A, B, f), p) = ((A, B, f.set (pkM b (p + 1) f.length).toNat (gi [0, 1, -1, 6] (pkM b (p + 2) 4).toNat)), p + 3) := by unfold moB; rw [if_neg c0, if_pos c1]
      rw [e]
      have hr := pkM_rng hb (p := p + 1) (by omega) (n := f.length) (by omega)
      have l2 := fw_pick_look b (p + 1) f.length hb (by omega) (by omega)
      have l3 : fw_one.look [.ptr 0 0 0, .list 1 [.int .i64 0, .int .i64 1, .int .i64 (-1), .int .i64 6]] (RS b (p + 2)) = some (I64 (gi [0, 1, -1, 6] (pkM b (p + 2) 4).toNat), RS b (p + 3)) := fw_one_look b (p + 2) [0, 1, -1, 6] hb (by omega) (by unfold Big; simp) (by simp)
      generalize gi [0, 1, -1, 6] (pkM b (p + 2) 4).toNat = z at *
      generalize pkM b (p + 1) f.length = k at *
      rw [c1] at l1
      simp [ct_143_17, callOW, l1, l2, l3]
      exact ⟨leBig (by omega), by decide, hr.1, hr.2, by omega, mo25o⟩
    · by_cases c2 : pkM b p 16 = 2
      · have e : moB b ((A, B, f), p) = (((bnM b (p + 1) A.1 A.2).1, (bnM b (bnM b (p + 1) A.1 A.2).2 B.1 B.2).1, f), (bnM b (bnM b (p + 1) A.1 A.2).2 B.1 B.2).2) := by unfold moB; rw [if_neg c0, if_neg c1, if_pos c2]
        rw [e]
        rw [c2] at l1
        simp [ct_143_17, callOW, l1]
        have l2 := fw_bent_look b (p + 1) A.1 A.2 hb (by omega) (by omega) gA
        have q1 := (bnM_few (b := b) (p := p + 1) (u := A.1) (t := A.2) gA).2
        generalize bnM b (p + 1) A.1 A.2 = A2 at *
        obtain ⟨A2, p2⟩ := A2
        dsimp only at *
        have l3 := fw_bent_look b p2 B.1 B.2 hb (by omega) (by omega) gB
        generalize bnM b p2 B.1 B.2 = B2 at *
        obtain ⟨B2, p3⟩ := B2
        dsimp only at *
        refine cutE (α := Unit) (fun _ => [(2, .ptr 16 1 0), (3, .ptr 24 2 0), (4, IL f)]) (fun _ => [⟨0, 0, .cells (RS b p3)⟩, ⟨16, 1, .cells [IL A2.1, RL A2.2]⟩, ⟨24, 2, .cells [IL B2.1, RL B2.2]⟩]) ?_ (fun _ g0 => ?_)
        · simp [callDOW, l2, l3]
        · simp
      · have e : moB b ((A, B, f), p) = ((A, B, f), p + 1) := by unfold moB; rw [if_neg c0, if_neg c1, if_neg c2]
        rw [e]
        simp [ct_143_17, callOW, l1, c0, c1, c2]
        exact mo25b
set_option maxHeartbeats 2000000 in
theorem mo17p {x : Nat} {y z : D} (hb : BB b) (hp : p ≤ 960000) (gA : GA A) (gB : GA B) (hf : 0 < f.length) (hf6 : f.length ≤ 6) :
    run C0 0 (inlW C0 [fm_filS, fm_quoS, fm_mapsFromS] [fw_pick, fw_one, fw_goodAlg, fw_algOf, fw_bent] 0 0) ct_143_17 (moQ (moB b ((A, B, f), p)).1.1 (moB b ((A, B, f), p)).1.2.1 (moB b ((A, B, f), p)).1.2.2 b (moB b ((A, B, f), p)).2) ⟨[(0, .ptr 0 0 0), (2, .ptr 16 1 0), (3, .ptr 24 2 0), (5, .ptr 40 3 0), (7, .ptr 56 4 0), (8, .arr 256 x), (9, y), (37, z)], moC A B b p ++ [⟨256, x, .arr 1 (ints f)⟩], g⟩ := by
  have l1 := fw_pick_look b p 16 hb (by omega) (by omega)
  by_cases c0 : pkM b p 16 = 0
  · have e : moB b ((A, B, f), p) = ((A, B, f ++ [0]), p + 1) := by unfold moB; rw [if_pos c0]
    rw [e]
    rw [c0] at l1
    simp [ct_143_17, callOW, l1]
    exact ⟨(ints_scal (xs := f)).2 trivial, leBig (by omega), leBig (by omega), mo25x⟩
  · by_cases c1 : pkM b p 16 = 1
    · have e : moB b ((A, B, f), p) = ((A, B, f.set (pkM b (p + 1) f.length).toNat (gi [0, 1, -1, 6] (pkM b (p + 2) 4).toNat)), p + 3) := by unfold moB; rw [if_neg c0, if_pos c1]
      rw [e]
      have hr := pkM_rng hb (p := p + 1) (by omega) (n := f.length) (by omega)
      have l2 := fw_pick_look b (p + 1) f.length hb (by omega) (by omega)
      have l3 : fw_one.look [.ptr 0 0 0, .list 1 [.int .i64 0, .int .i64 1, .int .i64 (-1), .int .i64 6]] (RS b (p + 2)) = some (I64 (gi [0, 1, -1, 6] (pkM b (p + 2) 4).toNat), RS b (p + 3)) := fw_one_look b (p + 2) [0, 1, -1, 6] hb (by omega) (by unfold Big; simp) (by simp)
      generalize gi [0, 1, -1, 6] (pkM b (p + 2) 4).toNat = z at *
      generalize pkM b (p + 1) f.length = k at *
      rw [c1] at l1
      simp [ct_143_17, callOW, l1, l2, l3]
      exact ⟨(ints_scal (xs := f)).2 trivial, leBig (by omega), by decide, hr.1, hr.2, by omega, mo25y⟩
    · by_cases c2 : pkM b p 16 = 2
      · have e : moB b ((A, B, f), p) = (((bnM b (p + 1) A.1 A.2).1, (bnM b (bnM b (p + 1) A.1 A.2).2 B.1 B.2).1, f), (bnM b (bnM b (p + 1) A.1 A.2).2 B.1 B.2).2) := by unfold moB; rw [if_neg c0, if_neg c1, if_pos c2]
        rw [e]
        rw [c2] at l1
        simp [ct_143_17, callOW, l1]
        have l2 := fw_bent_look b (p + 1) A.1 A.2 hb (by omega) (by omega) gA
        have q1 := (bnM_few (b := b) (p := p + 1) (u := A.1) (t := A.2) gA).2
        generalize bnM b (p + 1) A.1 A.2 = A2 at *
        obtain ⟨A2, p2⟩ := A2
        dsimp only at *
        have l3 := fw_bent_look b p2 B.1 B.2 hb (by omega) (by omega) gB
        generalize bnM b p2 B.1 B.2 = B2 at *
        obtain ⟨B2, p3⟩ := B2
        dsimp only at *
        refine cutE (α := Unit) (fun _ => [(2, .ptr 16 1 0), (3, .ptr 24 2 0), (4, .arr 256 x)]) (fun _ => [⟨0, 0, .cells (RS b p3)⟩, ⟨16, 1, .cells [IL A2.1, RL A2.2]⟩, ⟨24, 2, .cells [IL B2.1, RL B2.2]⟩, ⟨256, x, .arr 1 (ints f)⟩]) ?_ (fun _ g0 => ?_)
        · simp [callDOW, l2, l3]
        · simp
      · have e : moB b ((A, B, f), p) = ((A, B, f), p + 1) := by unfold moB; rw [if_neg c0, if_neg c1, if_neg c2]
        rw [e]
        simp [ct_143_17, callOW, l1, c0, c1, c2]
        exact mo25p
end
set_option maxHeartbeats 4000000 in
theorem mapOf_pc (b : List Int) (p : Nat) (hb : BB b) (hp : p ≤ 1000000) (hp2 : p ≤ 900000) : PC Try.prog 143 (.ptr 0 0 0 :: []) (some (RS b p)) false (fun r c => imm 5 r = imm 5 (.tup [AL (moM b p).1.1.1 (moM b p).1.1.2, AL (moM b p).1.2.1.1 (moM b p).1.2.1.2, IL (moM b p).1.2.2]) ∧ c = (RS b ((moM b p).2))) := by
  have l1 := fw_goodAlg_look b p hb (by omega) (by omega)
  have a := gaM_va hb (p := p) (by omega)
  have hp1 := (gaM_ga hb (p := p) (by omega)).2
  unfold moM
  generalize gaM b p = A at *
  obtain ⟨⟨u, t⟩, p1⟩ := A
  dsimp only at *
  obtain ⟨hF, eF⟩ := moF_fi hb (p := p1) (by omega) a
  have h6 := a.lat.six
  have h64 := p2le h6
  have hn := filN_len (u := u) (t := t) (m := 2 ^ u.length)
  have hpos : 0 < (filN u t (2 ^ u.length)).length := List.length_pos_of_mem (mem_fil.2 (fi_all a))
  have hr := pkM_rng hb (p := p1) (by omega) (n := (filN u t (2 ^ u.length)).length) (by omega)
  have l2 := fw_pick_look b p1 (filN u t (2 ^ u.length)).length hb (by omega) (by omega)
  have l3 := fm_quoS_look u t (moF b p1 u t : Nat) a (by simpa using hF) (by omega)
  rw [Int.toNat_natCast] at l3
  refine pcW [fm_filS, fm_quoS, fm_mapsFromS] [fw_pick, fw_one, fw_goodAlg, fw_algOf, fw_bent] fok_143 ?_
  simp [fa_143, callOW, callOT, hb, hp, l1, a]
  generalize moF b p1 u t = F at *
  generalize hL : filN u t (2 ^ u.length) = l at *
  generalize pkM b p1 l.length = k at *
  refine cutE (α := Unit) (fun _ => [(0, .ptr 0 0 0), (2, .ptr 16 1 0), (3, .ptr 24 2 0), (5, .ptr 40 3 0), (7, .ptr 56 4 0), (8, IL (quP u t F))]) (fun _ => [⟨0, 0, .cells (RS b (p1 + 1))⟩, ⟨16, 1, .cells [.nil, .nil]⟩, ⟨24, 2, .cells [.nil, .nil]⟩, ⟨40, 3, .cells [IL u, RL t]⟩, ⟨56, 4, .cells [IL (quU u t F), RL (quT u t F)]⟩]) ?_ (fun _ g0 => ?_)
  · simp [callDOW, callDOT, l2, l3, eF, hr]
  have l4 := fw_pick_look b (p1 + 1) 4 hb (by omega) (by omega)
  by_cases c0 : pkM b (p1 + 1) 4 = 0
  · have e : moA b (p1 + 1) u t F = (((u, t), (u, t), tl u.length fun x => (x : Int)), p1 + 1 + 1) := by unfold moA; rw [if_pos c0]
    rw [e]
    rw [c0] at l4
    simp [ct_143_4, callOW, l4]
    refine loopX (inlW_mono _ _ _ _ _) u.length (fun i γ => [(8, .arr 256 γ), (9, I64 i)]) (fun i γ => moC (u, t) (u, t) b (p1 + 1 + 1) ++ [⟨256, γ, .arr 1 (ints (tl i fun x => (x : Int)))⟩]) (fun _ _ => True) g0 (by simp) (by simp [tl_zero, ints_nil]) trivial (fun i γ g hi _ => ?_)
    simp [lb_143_9]
    refine ⟨fun h => ?_, fun h => ?_⟩
    · exact ⟨leBig (by omega), h, g, ⟨rfl, wrap64 (by omega) (by omega)⟩, rfl, tl_succ.symm⟩
    · obtain rfl : i = u.length := by omega
      exact mo17p (A := (u, t)) (B := (u, t)) hb (by omega) (ga_va a) (ga_va a) (by rw [tl_length]; exact a.lat.pos) (by rw [tl_length]; exact h6)
  · by_cases c1 : pkM b (p1 + 1) 4 = 1
    · have l5 := fw_algOf_look b (p1 + 1 + 1) 3 hb (by omega) (by omega) (by omega) (by omega)
      have a5 := aofM_va hb (p := p1 + 1 + 1) (by omega) (m := 3) (by omega) (by omega)
      obtain ⟨g5, _, q5⟩ := aofM_ga hb (p := p1 + 1 + 1) (by omega) (m := 3) (by omega) (by omega)
      have hq := va_quot a hF
      have e : moA b (p1 + 1) u t F = (let A := aofM b (p1 + 1 + 1) 3; let l := mprn A.1.1 A.1.2 (quU u t F) (quT u t F) A.1.1.length []
     if l = [] then ((A.1, (quU u t F, quT u t F), quP u t F), A.2) else ((A.1, (quU u t F, quT u t F), gr l (pkM b A.2 l.length).toNat), A.2 + 1)) := by unfold moA; rw [if_neg c0, if_pos c1]
      rw [e]
      clear e
      rw [c1] at l4
      generalize aofM b (p1 + 1 + 1) 3 = A at *
      obtain ⟨⟨v, s⟩, p2⟩ := A
      dsimp only at *
      have l6 : fm_mapsFromS.look [AL v s, AL (quU u t F) (quT u t F), .list 1 []] = some (RL (mprn v s (quU u t F) (quT u t F) v.length [])) := fm_mapsFromS_look v s (quU u t F) (quT u t F) a5.tf hq.tf
      have hmp : ∀ x ∈ mprn v s (quU u t F) (quT u t F) v.length [], MP v s (quU u t F) (quT u t F) x := fun x hx => mprn_mp a5.tf hq.tf hx
      have hN : (mprn v s (quU u t F) (quT u t F) v.length []).length ≤ 46656 := Nat.le_trans (prn_len _ _) (pow6 hq.lat.six a5.lat.six)
      generalize mprn v s (quU u t F) (quT u t F) v.length [] = ms at *
      have l7 := fw_pick_look b p2 ms.length hb (by omega) (by omega)
      have gq := ga_va hq
      by_cases hm : ms = []
      · rw [hm] at l6
        simp [ct_143_4, callOW, callOT, l4, l5, l6, hm]
        exact mo17c (A := (v, s)) (B := (quU u t F, quT u t F)) hb (by omega) g5 gq (by rw [quP_len]; exact a.lat.pos) (by rw [quP_len]; exact h6)
      · have hpos2 : 0 < ms.length := List.length_pos_iff.2 hm
        have hr2 := pkM_rng hb (p := p2) (by omega) (n := ms.length) (by omega)
        rw [if_neg hm]
        generalize pkM b p2 ms.length = k2 at *
        have hk2 : k2.toNat < ms.length := by omega
        have hmem := hmp _ (gr_mem hk2)
        have hlen := hmem.len
        simp [ct_143_4, callOW, callOT, l4, l5, l6, l7, hpos2, hr2]
        exact mo17 (A := (v, s)) (B := (quU u t F, quT u t F)) hb (by omega) g5 gq (by rw [hlen]; exact a5.lat.pos) (by rw [hlen]; exact a5.lat.six)
    · have e : moA b (p1 + 1) u t F = (((u, t), (quU u t F, quT u t F), quP u t F), p1 + 1 + 1) := by unfold moA; rw [if_neg c0, if_neg c1]
      rw [e]
      simp [ct_143_4, callOW, l4, c0, c1]
      exact mo17a (A := (u, t)) (B := (quU u t F, quT u t F)) hb (by omega) (ga_va a) (ga_va (va_quot a hF)) (by rw [quP_len]; exact a.lat.pos) (by rw [quP_len]; exact h6)
noncomputable def fw_mapOf : FamW Try.prog := mkFamW (X := List Int × Nat) 143 (fun (b, p) => (.ptr 0 0 0 :: [])) (fun (b, p) => (RS b p)) (fun (b, p) => (BB b) ∧ (p ≤ 1000000) ∧ (p ≤ 900000)) (fun (b, p) => .tup [AL (moM b p).1.1.1 (moM b p).1.1.2, AL (moM b p).1.2.1.1 (moM b p).1.2.1.2, IL (moM b p).1.2.2]) (fun (b, p) => (RS b ((moM b p).2))) (by
  rintro ⟨b, p⟩ ⟨hb, hp, hp2⟩
  exact mapOf_pc b p hb hp hp2)
@[simp] theorem fw_mapOf_id : fw_mapOf.id = 143 := rfl
@[simp] theorem fw_mapOf_look (b : List Int) (p : Nat) (hb : BB b) (hp : p ≤ 1000000) (hp2 : p ≤ 900000) : fw_mapOf.look (.ptr 0 0 0 :: []) (RS b p) = some (.tup [AL (moM b p).1.1.1 (moM b p).1.1.2, AL (moM b p).1.2.1.1 (moM b p).1.2.1.2, IL (moM b p).1.2.2], (RS b ((moM b p).2))) :=
  lookG_of (X := List Int × Nat) (args := fun (b, p) => (.ptr 0 0 0 :: [])) (cell := fun (b, p) => (RS b p)) (pre := fun (b, p) => (BB b) ∧ (p ≤ 1000000) ∧ (p ≤ 900000)) (val := fun (b, p) => .tup [AL (moM b p).1.1.1 (moM b p).1.1.2, AL (moM b p).1.2.1.1 (moM b p).1.2.1.2, IL (moM b p).1.2.2]) (cell' := fun (b, p) => (RS b ((moM b p).2))) (by
  rintro ⟨b, p⟩ ⟨b', p'⟩ h h2
  simp at h h2
  try simp only [and_assoc] at h
  obtain ⟨rfl, rfl⟩ := h2
  exact ⟨rfl, rfl⟩) (b, p) ⟨hb, hp, hp2⟩
attribute [irreducible] fw_mapOf
end Go.PS
end

section
-- PRINTED by gen.py: clean texts of functions, and their tie to the program.
set_option maxRecDepth 100000
namespace Go.PS
open Go.Proofs
/-- impl.IsMap -/
def an_66 : Ann := ⟨[(1, 1, 3), (1, 4, 3), (1, 10, 3)], [(0, [2, 3, 4]), (1, [6])], [], []⟩
def fa_66 : FnA := ⟨19, [.t 6],
  (.seq
    (.region false [⟨some 3, (.box 27 (.t 0)), 0, none, 0⟩, ⟨some 4, (.box 27 (.t 1)), 0, none, 0⟩, ⟨some 6, (.mv (.c (.bool false))), 4, none, 0⟩] (some [2, 3, 4]))
    (.seq
      (.region false (gops [⟨some 7, (.load 27 (.t 3)), 27, none, 0⟩, ⟨some 8, (.call (.f 23) [(.t 7)]), 4, none, 3⟩, ⟨some 9, (.mv (.t 8)), 4, none, 0⟩, ⟨some 10, (.load 27 (.t 4)), 27, some (9, true), 0⟩, ⟨some 11, (.call (.f 23) [(.t 10)]), 4, some (9, true), 3⟩, ⟨some 12, (.pick (.t 9) (.t 11) (.c (.bool false))), 4, none, 0⟩, ⟨some 13, (.mv (.t 12)), 4, none, 0⟩, ⟨some 14, (.load 27 (.t 3)), 27, some (13, true), 0⟩, ⟨some 15, (.load 27 (.t 4)), 27, some (13, true), 0⟩, ⟨some 16, (.mv (.t 2)), 23, some (13, true), 0⟩, ⟨some 17, (.call (.f 144) [(.t 14), (.t 15), (.t 16)]), 4, some (13, true), 3⟩, ⟨some 18, (.pick (.t 13) (.t 17) (.c (.bool false))), 4, none, 0⟩, ⟨some 6, (.mv (.t 18)), 4, none, 0⟩]) (some [6]))
      .ret))⟩
theorem fok_66 : FnOk Try.prog 66 fa_66 an_66 := ⟨Try.f66, _, Try.func66, rfl, by kernel_rfl, rfl, rfl, by decide, by kernel_rfl⟩
/-- spec.ImageOf -/
def an_71 : Ann := ⟨[(1, 1, 3), (1, 5, 3), (1, 12, 3), (3, 1, 3)], [(0, [2, 3, 4]), (1, [2, 21]), (2, [6]), (3, [6])], [], []⟩
def fa_71 : FnA := ⟨24, [.t 6],
  (.seq
    (.region false [⟨some 3, (.box 27 (.t 0)), 0, none, 0⟩, ⟨some 4, (.box 27 (.t 1)), 0, none, 0⟩, ⟨some 6, (.mv (.c (.int .i64 0))), 3, none, 0⟩] (some [2, 3, 4]))
    (.seq
      (.seq
        (.region false (gops [⟨some 7, (.load 27 (.t 3)), 27, none, 0⟩, ⟨some 8, (.call (.f 111) [(.t 7)]), 4, none, 3⟩, ⟨some 9, (.un .not (.t 8)), 4, none, 0⟩, ⟨some 10, (.mv (.t 9)), 4, none, 0⟩, ⟨some 11, (.load 27 (.t 4)), 27, some (10, false), 0⟩, ⟨some 12, (.call (.f 111) [(.t 11)]), 4, some (10, false), 3⟩, ⟨some 13, (.un .not (.t 12)), 4, some (10, false), 0⟩, ⟨some 14, (.pick (.t 10) (.c (.bool true)) (.t 13)), 4, none, 0⟩, ⟨some 15, (.mv (.t 14)), 4, none, 0⟩, ⟨some 16, (.load 27 (.t 3)), 27, some (15, false), 0⟩, ⟨some 17, (.load 27 (.t 4)), 27, some (15, false), 0⟩, ⟨some 18, (.mv (.t 2)), 23, some (15, false), 0⟩, ⟨some 19, (.call (.f 145) [(.t 16), (.t 17), (.t 18)]), 4, some (15, false), 3⟩, ⟨some 20, (.un .not (.t 19)), 4, some (15, false), 0⟩, ⟨some 21, (.pick (.t 15) (.c (.bool true)) (.t 20)), 4, none, 0⟩]) (some [2, 21]))
        (.cond (.t 21)
          (.seq
            (.region false [⟨some 6, (.mv (.c (.int .i64 (-1)))), 3, none, 0⟩] (some [6]))
            .ret)
          .skip))
      (.seq
        (.region false [⟨some 22, (.mv (.t 2)), 23, none, 0⟩, ⟨some 23, (.call (.f 147) [(.t 22)]), 3, none, 3⟩, ⟨some 6, (.mv (.t 23)), 3, none, 0⟩] (some [6]))
        .ret)))⟩
theorem fok_71 : FnOk Try.prog 71 fa_71 an_71 := ⟨Try.f71, _, Try.func71, rfl, by kernel_rfl, rfl, rfl, by decide, by kernel_rfl⟩
/-- impl.ImageOf -/
def an_70 : Ann := ⟨[(1, 3, 3), (3, 1, 3)], [(0, [2, 3, 4]), (1, [2, 11]), (2, [6]), (3, [6])], [], []⟩
def fa_70 : FnA := ⟨14, [.t 6],
  (.seq
    (.region false [⟨some 3, (.box 27 (.t 0)), 0, none, 0⟩, ⟨some 4, (.box 27 (.t 1)), 0, none, 0⟩, ⟨some 6, (.mv (.c (.int .i64 0))), 3, none, 0⟩] (some [2, 3, 4]))
    (.seq
      (.seq
        (.region false [⟨some 7, (.load 27 (.t 3)), 27, none, 0⟩, ⟨some 8, (.load 27 (.t 4)), 27, none, 0⟩, ⟨some 9, (.mv (.t 2)), 23, none, 0⟩, ⟨some 10, (.call (.f 66) [(.t 7), (.t 8), (.t 9)]), 4, none, 3⟩, ⟨some 11, (.un .not (.t 10)), 4, none, 0⟩] (some [2, 11]))
        (.cond (.t 11)
          (.seq
            (.region false [⟨some 6, (.mv (.c (.int .i64 (-1)))), 3, none, 0⟩] (some [6]))
            .ret)
          .skip))
      (.seq
        (.region false [⟨some 12, (.mv (.t 2)), 23, none, 0⟩, ⟨some 13, (.call (.f 146) [(.t 12)]), 3, none, 3⟩, ⟨some 6, (.mv (.t 13)), 3, none, 0⟩] (some [6]))
        .ret)))⟩
theorem fok_70 : FnOk Try.prog 70 fa_70 an_70 := ⟨Try.f70, _, Try.func70, rfl, by kernel_rfl, rfl, rfl, by decide, by kernel_rfl⟩
end Go.PS
end

section
-- PRINTED by gen.py: clean texts of functions, and their tie to the program.
set_option maxRecDepth 100000
namespace Go.PS
open Go.Proofs
/-- spec.DrawImageOf -/
def an_69 : Ann := ⟨[(1, 1, 16), (1, 2, 16)], [(0, [0, 2, 3]), (1, [2, 3, 4])], [], []⟩
def fa_69 : FnA := ⟨11, [.c 2 27, .c 3 27, .t 4],
  (.seq
    (.region false [⟨some 2, (.alloc 27), 0, none, 0⟩, ⟨some 3, (.alloc 27), 0, none, 0⟩, ⟨some 4, (.mv (.c .nil)), 23, none, 0⟩] (some [0, 2, 3]))
    (.seq
      (.region false [⟨some 5, (.mv (.t 0)), 22, none, 0⟩, ⟨some 6, (.call (.f 90) [(.t 5)]), 72, none, 16⟩, ⟨some 7, (.call (.f 143) [(.t 6)]), 57, none, 16⟩, ⟨some 8, (.ext (.t 7) 0), 27, none, 0⟩, ⟨some 9, (.ext (.t 7) 1), 27, none, 0⟩, ⟨some 10, (.ext (.t 7) 2), 23, none, 0⟩, ⟨none, (.store 27 (.t 2) (.t 8)), 0, none, 0⟩, ⟨none, (.store 27 (.t 3) (.t 9)), 0, none, 0⟩, ⟨some 4, (.mv (.t 10)), 23, none, 0⟩] (some [2, 3, 4]))
      .ret))⟩
theorem fok_69 : FnOk Try.prog 69 fa_69 an_69 := ⟨Try.f69, _, Try.func69, rfl, by kernel_rfl, rfl, rfl, by decide, by kernel_rfl⟩
/-- laws.FnImageOf -/
def an_14 : Ann := ⟨[(3, 1, 3), (4, 3, 3), (5, 4, 3), (6, 4, 3), (7, 1, 3), (7, 3, 3)], [(0, [0]), (1, [0, 9]), (2, [2]), (3, [3, 4, 5]), (4, [3, 4, 5, 6]), (5, [3, 4, 5, 6, 29]), (6, [2]), (7, [2])], [], []⟩
def fa_14 : FnA := ⟨40, [.t 2],
  (.seq
    (.region false [⟨some 2, (.mv (.c (.bool false))), 4, none, 0⟩] (some [0]))
    (.seq
      (.seq
        (.region false [⟨some 7, (.mv (.t 0)), 22, none, 0⟩, ⟨some 8, (.len 22 (.t 7)), 3, none, 0⟩, ⟨some 9, (.bin .gtr 3 (.t 8) (.c (.int .i64 1048576))), 4, none, 0⟩] (some [0, 9]))
        (.cond (.t 9)
          (.seq
            (.region false [⟨some 2, (.mv (.c (.bool true))), 4, none, 0⟩] (some [2]))
            .ret)
          .skip))
      (.seq
        (.region false [⟨some 11, (.mv (.t 0)), 22, none, 0⟩, ⟨some 12, (.call (.f 69) [(.t 11)]), 57, none, 3⟩, ⟨some 10, (.mv (.t 12)), 57, none, 0⟩, ⟨some 13, (.ext (.t 10) 0), 27, none, 0⟩, ⟨some 14, (.ext (.t 10) 1), 27, none, 0⟩, ⟨some 15, (.ext (.t 10) 2), 23, none, 0⟩, ⟨some 3, (.alloc 27), 0, none, 0⟩, ⟨some 4, (.alloc 27), 0, none, 0⟩, ⟨none, (.store 27 (.t 3) (.t 13)), 0, none, 0⟩, ⟨none, (.store 27 (.t 4) (.t 14)), 0, none, 0⟩, ⟨some 5, (.mv (.t 15)), 23, none, 0⟩] (some [3, 4, 5]))
        (.seq
          (.region false [⟨some 16, (.load 27 (.t 3)), 27, none, 0⟩, ⟨some 17, (.load 27 (.t 4)), 27, none, 0⟩, ⟨some 18, (.mv (.t 5)), 23, none, 0⟩, ⟨some 19, (.call (.f 70) [(.t 16), (.t 17), (.t 18)]), 3, none, 3⟩, ⟨some 6, (.mv (.t 19)), 3, none, 0⟩] (some [3, 4, 5, 6]))
          (.seq
            (.seq
              (.region false (gops [⟨some 20, (.mv (.t 6)), 3, none, 0⟩, ⟨some 21, (.load 27 (.t 3)), 27, none, 0⟩, ⟨some 22, (.load 27 (.t 4)), 27, none, 0⟩, ⟨some 23, (.mv (.t 5)), 23, none, 0⟩, ⟨some 24, (.call (.f 71) [(.t 21), (.t 22), (.t 23)]), 3, none, 3⟩, ⟨some 25, (.bin .neq 3 (.t 20) (.t 24)), 4, none, 0⟩, ⟨some 26, (.mv (.t 25)), 4, none, 0⟩, ⟨some 27, (.mv (.t 6)), 3, some (26, false), 0⟩, ⟨some 28, (.bin .lss 3 (.t 27) (.c (.int .i64 0))), 4, some (26, false), 0⟩, ⟨some 29, (.pick (.t 26) (.c (.bool true)) (.t 28)), 4, none, 0⟩]) (some [3, 4, 5, 6, 29]))
              (.cond (.t 29)
                (.seq
                  (.region false [⟨some 30, (.mv (.t 6)), 3, none, 0⟩, ⟨some 31, (.load 27 (.t 3)), 27, none, 0⟩, ⟨some 32, (.load 27 (.t 4)), 27, none, 0⟩, ⟨some 33, (.mv (.t 5)), 23, none, 0⟩, ⟨some 34, (.call (.f 71) [(.t 31), (.t 32), (.t 33)]), 3, none, 3⟩, ⟨some 35, (.bin .eql 3 (.t 30) (.t 34)), 4, none, 0⟩, ⟨some 2, (.mv (.t 35)), 4, none, 0⟩] (some [2]))
                  .ret)
                .skip))
            (.seq
              (.region false [⟨some 36, (.load 27 (.t 4)), 27, none, 0⟩, ⟨some 37, (.call (.f 41) [(.t 36)]), 23, none, 3⟩, ⟨some 38, (.mv (.t 6)), 3, none, 0⟩, ⟨some 39, (.call (.f 37) [(.t 37), (.t 38)]), 4, none, 3⟩, ⟨some 2, (.mv (.t 39)), 4, none, 0⟩] (some [2]))
              .ret))))))⟩
theorem fok_14 : FnOk Try.prog 14 fa_14 an_14 := ⟨Try.f14, _, Try.func14, rfl, by kernel_rfl, rfl, rfl, by decide, by kernel_rfl⟩
end Go.PS
end

section
-- Contracts: the arguments of the laws of maps.
set_option maxRecDepth 100000
set_option linter.unusedVariables false
set_option linter.unusedSimpArgs false
namespace Go.PS
open Go.Proofs

theorem moA_ga {b : List Int} (hb : BB b) {p : Nat} (hp : p ≤ 950000) {u : List Int} {t : List (List Int)} {F : Nat} (a : VA u t) (hF : FI u t F) :
    GA (moA b p u t F).1.1 ∧ GA (moA b p u t F).1.2.1 ∧ (moA b p u t F).1.2.2.length ≤ 6 := by
  have h6 := a.lat.six
  have gq := ga_va (va_quot a hF)
  unfold moA
  split
  · exact ⟨ga_va a, ga_va a, by show (tl u.length _).length ≤ 6; rw [tl_length]; exact h6⟩
  · split
    · have a5 := aofM_va hb (p := p + 1) (by omega) (m := 3) (by omega) (by omega)
      obtain ⟨g5, _, q5⟩ := aofM_ga hb (p := p + 1) (by omega) (m := 3) (by omega) (by omega)
      generalize aofM b (p + 1) 3 = A at *
      obtain ⟨⟨v, s⟩, p2⟩ := A
      dsimp only at *
      have hmp : ∀ x ∈ mprn v s (quU u t F) (quT u t F) v.length [], MP v s (quU u t F) (quT u t F) x := fun x hx => mprn_mp a5.tf (va_quot a hF).tf hx
      generalize mprn v s (quU u t F) (quT u t F) v.length [] = ms at *
      split
      · exact ⟨g5, gq, by show (quP u t F).length ≤ 6; rw [quP_len]; exact h6⟩
      · rename_i hm
        have hpos2 : 0 < ms.length := List.length_pos_iff.2 hm
        have hr2 := pkM_rng hb (p := p2) (by omega) (n := ms.length) (by omega)
        have hk2 : (pkM b p2 ms.length).toNat < ms.length := by omega
        have hlen := (hmp _ (gr_mem hk2)).len
        exact ⟨g5, gq, by show (gr ms _).length ≤ 6; rw [hlen]; exact a5.lat.six⟩
    · exact ⟨ga_va a, gq, by show (quP u t F).length ≤ 6; rw [quP_len]; exact h6⟩
theorem moM_few {b : List Int} (hb : BB b) {p : Nat} (hp : p ≤ 900000) : Few (moM b p).1.1 ∧ Few (moM b p).1.2.1 ∧ (moM b p).1.2.2.length ≤ 7 := by
  have a := gaM_va hb (p := p) (by omega)
  have hp1 := (gaM_ga hb (p := p) (by omega)).2
  unfold moM
  obtain ⟨hF, _⟩ := moF_fi hb (p := (gaM b p).2) (by omega) a
  have h := moA_ga hb (p := (gaM b p).2 + 1) (by omega) a hF
  generalize moA b ((gaM b p).2 + 1) _ _ _ = q at *
  obtain ⟨⟨A, B, f⟩, p2⟩ := q
  obtain ⟨g1, g2, h3⟩ := h
  dsimp only at g1 g2 h3
  unfold moB
  dsimp only
  split
  · exact ⟨g1.few, g2.few, by show (f ++ [0]).length ≤ 7; simp; omega⟩
  · split
    · exact ⟨g1.few, g2.few, by show (f.set _ _).length ≤ 7; rw [List.length_set]; omega⟩
    · split
      · exact ⟨(bnM_few (b := b) (u := A.1) (t := A.2) g1).1, (bnM_few (b := b) (u := B.1) (t := B.2) g2).1, by show f.length ≤ 7; omega⟩
      · exact ⟨g1.few, g2.few, by show f.length ≤ 7; omega⟩

theorem drImg_pc (c : List Int) (hc : Byt c) (hl : Big c.length) : PC Try.prog 69 [BL c] none false (fun r _ => r = .tup [AL (moM (rdB c) 0).1.1.1 (moM (rdB c) 0).1.1.2, AL (moM (rdB c) 0).1.2.1.1 (moM (rdB c) 0).1.2.1.2, IL (moM (rdB c) 0).1.2.2]) := by
  have hl := hl.le
  have hb := rdB_ok hc
  have l1 := fw_mapOf_look (rdB c) 0 hb (by omega) (by omega)
  refine pcR [] [fw_mapOf] fok_69 ?_
  generalize moM (rdB c) 0 = Z at *
  obtain ⟨⟨⟨u, t⟩, ⟨v, s⟩, f⟩, p1⟩ := Z
  dsimp only at *
  simp [fa_69]
  refine newR hl ?_
  simp [callOWR, l1]
noncomputable def fm_drImg : Fam Try.prog := mkFam (X := List Int) 69 false (fun c => [BL c]) (fun c => (Byt c) ∧ (Big c.length)) (fun c => .tup [AL (moM (rdB c) 0).1.1.1 (moM (rdB c) 0).1.1.2, AL (moM (rdB c) 0).1.2.1.1 (moM (rdB c) 0).1.2.1.2, IL (moM (rdB c) 0).1.2.2]) (by
  rintro c ⟨hc, hl⟩
  exact drImg_pc c hc hl)
@[simp] theorem fm_drImg_id : fm_drImg.id = 69 := rfl
@[simp] theorem fm_drImg_fresh : fm_drImg.fresh = false := rfl
@[simp] theorem fm_drImg_look (c : List Int) (hc : Byt c) (hl : Big c.length) : fm_drImg.look [BL c] = some (.tup [AL (moM (rdB c) 0).1.1.1 (moM (rdB c) 0).1.1.2, AL (moM (rdB c) 0).1.2.1.1 (moM (rdB c) 0).1.2.1.2, IL (moM (rdB c) 0).1.2.2]) :=
  lookF_of (X := List Int) (args := fun c => [BL c]) (pre := fun c => (Byt c) ∧ (Big c.length)) (val := fun c => .tup [AL (moM (rdB c) 0).1.1.1 (moM (rdB c) 0).1.1.2, AL (moM (rdB c) 0).1.2.1.1 (moM (rdB c) 0).1.2.1.2, IL (moM (rdB c) 0).1.2.2]) (by
  intro c c' h
  simp at h
  subst h
  rfl) c ⟨hc, hl⟩
attribute [irreducible] fm_drImg
end Go.PS
end

section
-- Parts; sharp elements, in plain Lean.
set_option linter.unusedVariables false
set_option linter.unusedSimpArgs false
namespace Go.PS

section
variable {u : List Int} {t : List (List Int)} {x y z w : Nat}

structure PT (u : List Int) (t : List (List Int)) (s : Nat) : Prop where
  lt : s < 2 ^ u.length
  bot : s.testBit 0 = true
  top : s.testBit (u.length - 1) = true
  cl : ∀ x, x < u.length → ∀ y, y < u.length → s.testBit x = true → s.testBit y = true → (s.testBit (tn t x y) = true ∧ s.testBit (im u t x y) = true) ∧ s.testBit (mt u x y) = true ∧ s.testBit (jo u x y) = true
noncomputable instance (u : List Int) (t : List (List Int)) (s : Nat) : Decidable (PT u t s) := Classical.propDecidable _

noncomputable def prtN (u : List Int) (t : List (List Int)) (m : Nat) : List Nat := (List.range m).filter fun s => decide (PT u t s)
theorem mem_prt {s : Nat} : s ∈ prtN u t (2 ^ u.length) ↔ PT u t s := by
  simp only [prtN, List.mem_filter, List.mem_range, decide_eq_true_eq]
  exact ⟨fun h => h.2, fun h => ⟨h.lt, h⟩⟩
theorem prtN_zero : prtN u t 0 = [] := rfl
theorem prtN_succ {m : Nat} : prtN u t (m + 1) = prtN u t m ++ (if PT u t m then [m] else []) := by
  simp only [prtN, List.range_succ, List.filter_append, List.filter_cons, List.filter_nil, decide_eq_true_eq]
theorem prtN_len {m : Nat} : (prtN u t m).length ≤ m := by
  have := List.length_filter_le (fun s => decide (PT u t s)) (List.range m)
  unfold prtN
  simpa using this
theorem PT.and {f g : Nat} (hf : PT u t f) (hg : PT u t g) : PT u t (f &&& g) := by
  refine ⟨Nat.lt_of_le_of_lt Nat.and_le_left hf.lt, ?_, ?_, fun x hx y hy h1 h2 => ?_⟩
  · rw [Nat.testBit_and, hf.bot, hg.bot]; rfl
  · rw [Nat.testBit_and, hf.top, hg.top]; rfl
  · rw [Nat.testBit_and, Bool.and_eq_true] at h1 h2
    have a1 := hf.cl x hx y hy h1.1 h2.1
    have a2 := hg.cl x hx y hy h1.2 h2.2
    simp only [Nat.testBit_and, a1.1.1, a1.1.2, a1.2.1, a1.2.2, a2.1.1, a2.1.2, a2.2.1, a2.2.2, Bool.and_self, and_self]
-- sharp elements
end
end Go.PS
end

section
-- Maps keep opposites; kernels are filters, images are parts, in plain Lean.
set_option linter.unusedVariables false
set_option linter.unusedSimpArgs false
namespace Go.PS
section
variable {u v : List Int} {t s : List (List Int)} {f : List Int} {x y z : Nat}
abbrev fn (f : List Int) (x : Nat) : Nat := (gi f x).toNat
theorem MP.lt (m : MP u t v s f) (hx : x < u.length) : fn f x < v.length := by have := m.rng x hx; show (gi f x).toNat < _; omega
theorem MP.int (m : MP u t v s f) (hx : x < u.length) : gi f x = (fn f x : Nat) := by have := m.rng x hx; show gi f x = ((gi f x).toNat : Int); omega
theorem MP.zero (m : MP u t v s f) : fn f 0 = 0 := by show (gi f 0).toNat = 0; rw [m.fst]; rfl
theorem MP.topN (m : MP u t v s f) : fn f (u.length - 1) = v.length - 1 := by show (gi f _).toNat = _; rw [m.lst]; omega
theorem MP.tn (m : MP u t v s f) (hx : x < u.length) (hy : y < u.length) : fn f (tn t x y) = PS.tn s (fn f x) (fn f y) := by
  have := m.pr x hx y hy
  simp only [mpE, Bool.and_eq_true, decide_eq_true_eq] at this
  exact congrArg Int.toNat this.1.1.1
theorem MP.im (m : MP u t v s f) (hx : x < u.length) (hy : y < u.length) : fn f (im u t x y) = PS.im v s (fn f x) (fn f y) := by
  have := m.pr x hx y hy
  simp only [mpE, Bool.and_eq_true, decide_eq_true_eq] at this
  exact congrArg Int.toNat this.1.1.2
theorem MP.mt (m : MP u t v s f) (hx : x < u.length) (hy : y < u.length) : fn f (mt u x y) = PS.mt v (fn f x) (fn f y) := by
  have := m.pr x hx y hy
  simp only [mpE, Bool.and_eq_true, decide_eq_true_eq] at this
  exact congrArg Int.toNat this.1.2
theorem MP.jo (m : MP u t v s f) (hx : x < u.length) (hy : y < u.length) : fn f (jo u x y) = PS.jo v (fn f x) (fn f y) := by
  have := m.pr x hx y hy
  simp only [mpE, Bool.and_eq_true, decide_eq_true_eq] at this
  exact congrArg Int.toNat this.2
theorem MP.nr (a : VA u t) (m : MP u t v s f) (hx : x < u.length) (hy : y < u.length) : fn f (nr u t x y) = PS.nr v s (fn f x) (fn f y) := by
  show fn f (PS.tn t (PS.im u t x y) (PS.im u t y x)) = PS.tn s _ _
  rw [m.tn a.im_lt a.im_lt, m.im hx hy, m.im hy hx]
theorem MP.no (a : VA u t) (m : MP u t v s f) (hx : x < u.length) : fn f (PS.im u t x 0) = PS.im v s (fn f x) 0 := by rw [m.im hx a.lat.pos, m.zero]
theorem MP.le (a : VA u t) (b : VA v s) (m : MP u t v s f) (hx : x < u.length) (hy : y < u.length) (h : tb u x y = true) : tb v (fn f x) (fn f y) = true := m.mono a.tf b.tf hx hy h
/-- The image. -/
def imgN (f : List Int) (n : Nat) : Nat := (List.range n).foldl (fun o i => o ||| 2 ^ fn f i) 0
theorem imgN_succ {n : Nat} : imgN f (n + 1) = imgN f n ||| 2 ^ fn f n := by simp [imgN, List.range_succ]
theorem img_bit : ∀ n : Nat, (imgN f n).testBit y = true ↔ ∃ x, x < n ∧ fn f x = y
  | 0 => by simp [imgN]
  | n + 1 => by
    rw [imgN_succ, Nat.testBit_or, Bool.or_eq_true, img_bit n, Nat.testBit_two_pow, decide_eq_true_eq]
    constructor
    · rintro (⟨x, h1, h2⟩ | h)
      · exact ⟨x, by omega, h2⟩
      · exact ⟨n, by omega, h⟩
    · rintro ⟨x, h1, h2⟩
      rcases Nat.lt_or_ge x n with c | c
      · exact .inl ⟨x, c, h2⟩
      · have : x = n := by omega
        subst this; exact .inr h2
theorem pt_img (a : VA u t) (b : VA v s) (m : MP u t v s f) : PT v s (imgN f u.length) := by
  have hp := a.lat.pos
  refine ⟨lt_of_bits fun y hy => ?_, (img_bit _).2 ⟨0, hp, m.zero⟩, (img_bit _).2 ⟨_, by omega, m.topN⟩, fun x hx y hy h1 h2 => ?_⟩
  · rw [img_bit] at hy
    obtain ⟨x, hx, rfl⟩ := hy
    exact m.lt hx
  · rw [img_bit] at h1 h2
    obtain ⟨p, hp, rfl⟩ := h1
    obtain ⟨q, hq, rfl⟩ := h2
    simp only [img_bit]
    exact ⟨⟨⟨_, a.tn_lt hp hq, m.tn hp hq⟩, ⟨_, a.im_lt, m.im hp hq⟩⟩, ⟨_, a.lat.mt_lt hp hq, m.mt hp hq⟩, ⟨_, a.lat.jo_lt hp hq, m.jo hp hq⟩⟩
end
end Go.PS
end

section
-- Contracts: maps, their images and kernels.
set_option maxRecDepth 100000
set_option linter.unusedVariables false
set_option linter.unusedSimpArgs false
namespace Go.PS
open Go.Proofs

noncomputable def imB (u : List Int) (t : List (List Int)) (v : List Int) (s : List (List Int)) (f : List Int) : Bool := decide (VA u t) && decide (VA v s) && decide (MP u t v s f)
theorem imB_iff {u : List Int} {t : List (List Int)} {v : List Int} {s : List (List Int)} {f : List Int} : imB u t v s f = true ↔ VA u t ∧ VA v s ∧ MP u t v s f := by
  unfold imB
  simp only [Bool.and_eq_true, decide_eq_true_eq, and_assoc]
theorem IsMapI_pc (u : List Int) (t : List (List Int)) (v : List Int) (s : List (List Int)) (f : List Int) (hu : Big u.length) (ht : BigR t) (hv : Big v.length) (hs : BigR s) (hf : Big f.length) : PC Try.prog 66 [AL u t, AL v s, IL f] none true (fun r _ => r = .bool (imB u t v s f)) := by
  refine pcT [fm_validAlgebraI, fm_isMapI] fok_66 ?_
  simp [fa_66]
  unfold imB
  refine cutW (tabK_mono _) [(6, .bool (decide (VA u t) && decide (VA v s) && decide (MP u t v s f)))] (by
    by_cases a : VA u t
    · by_cases b : VA v s
      · simp [hu, ht, hv, hs, hf, a, b, a.tf, b.tf]
      · simp [hu, ht, hv, hs, a, b]
    · simp [hu, ht, a]) ?_
  simp
noncomputable def fm_IsMapI : Fam Try.prog := mkFam (X := List Int × List (List Int) × List Int × List (List Int) × List Int) 66 true (fun (u, t, v, s, f) => [AL u t, AL v s, IL f]) (fun (u, t, v, s, f) => (Big u.length) ∧ (BigR t) ∧ (Big v.length) ∧ (BigR s) ∧ (Big f.length)) (fun (u, t, v, s, f) => .bool (imB u t v s f)) (by
  rintro ⟨u, t, v, s, f⟩ ⟨hu, ht, hv, hs, hf⟩
  exact IsMapI_pc u t v s f hu ht hv hs hf)
@[simp] theorem fm_IsMapI_id : fm_IsMapI.id = 66 := rfl
@[simp] theorem fm_IsMapI_fresh : fm_IsMapI.fresh = true := rfl
@[simp] theorem fm_IsMapI_look (u : List Int) (t : List (List Int)) (v : List Int) (s : List (List Int)) (f : List Int) (hu : Big u.length) (ht : BigR t) (hv : Big v.length) (hs : BigR s) (hf : Big f.length) : fm_IsMapI.look [AL u t, AL v s, IL f] = some (.bool (imB u t v s f)) :=
  lookF_of (X := List Int × List (List Int) × List Int × List (List Int) × List Int) (args := fun (u, t, v, s, f) => [AL u t, AL v s, IL f]) (pre := fun (u, t, v, s, f) => (Big u.length) ∧ (BigR t) ∧ (Big v.length) ∧ (BigR s) ∧ (Big f.length)) (val := fun (u, t, v, s, f) => .bool (imB u t v s f)) (by
  rintro ⟨u, t, v, s, f⟩ ⟨u', t', v', s', f'⟩ h
  simp at h
  try simp only [and_assoc] at h
  obtain ⟨rfl, rfl, rfl, rfl, rfl⟩ := h
  rfl) (u, t, v, s, f) ⟨hu, ht, hv, hs, hf⟩
attribute [irreducible] fm_IsMapI
theorem or_nat6 {a b : Nat} (ha : a < 64) (hb : b < 64) : bOr .i64 (a : Int) (b : Int) = ((a ||| b : Nat) : Int) := by
  have h : ∀ x, x < 64 → ∀ y, y < 64 → bOr .i64 ((x : Nat) : Int) ((y : Nat) : Int) = ((x ||| y : Nat) : Int) := by decide +kernel
  exact h a ha b hb
theorem imgM_nat {l : List Int} : ∀ n : Nat, (∀ x, x < n → 0 ≤ gi l x ∧ gi l x < 6) → imgM l n = (imgN l n : Nat)
  | 0, _ => rfl
  | n + 1, h => by
    have ih := imgM_nat (l := l) n (fun x hx => h x (by omega))
    have hn := h n (by omega)
    have hlt : imgN l n < 2 ^ 6 := lt_of_bits fun y hy => by
      rw [img_bit] at hy
      obtain ⟨x, hx, rfl⟩ := hy
      have := h x (by omega)
      show (gi l x).toNat < 6; omega
    have e : (2 : Int) ^ (gi l n).toNat = ((2 ^ fn l n : Nat) : Int) := by push_cast; rfl
    have hb : 2 ^ fn l n < 64 := by
      have : fn l n < 6 := by show (gi l n).toNat < 6; omega
      have := Nat.pow_lt_pow_right (a := 2) (by omega) this
      exact this
    rw [imgM_succ, ih, e, or_nat6 hlt hb, imgN_succ]
/-- The image told, or -1. -/
noncomputable def imV (u : List Int) (t : List (List Int)) (v : List Int) (s : List (List Int)) (f : List Int) : Int := if imB u t v s f then (imgN f f.length : Nat) else -1
theorem MP.six {u : List Int} {t : List (List Int)} {v : List Int} {s : List (List Int)} {f : List Int} (m : MP u t v s f) (b : VA v s) : ∀ x, x < f.length → 0 ≤ gi f x ∧ gi f x < 6 := fun x hx => by
  rw [m.len] at hx
  have := m.rng x hx
  have := b.lat.six
  omega
theorem ImgI_pc (u : List Int) (t : List (List Int)) (v : List Int) (s : List (List Int)) (f : List Int) (hu : Big u.length) (ht : BigR t) (hv : Big v.length) (hs : BigR s) (hf : Big f.length) : PC Try.prog 70 [AL u t, AL v s, IL f] none true (fun r _ => r = I64 (imV u t v s f)) := by
  refine pcT [fm_IsMapI, fm_imgI] fok_70 ?_
  unfold imV
  cases hb : imB u t v s f
  · simp [fa_70, hu, ht, hv, hs, hf, hb]
  · obtain ⟨a, b, m⟩ := imB_iff.1 hb
    have h6 := m.six b
    have l1 := fm_imgI_look f hf (fun x hx => ⟨(h6 x hx).1, by have := (h6 x hx).2; omega⟩)
    rw [imgM_nat _ h6] at l1
    simp [fa_70, hu, ht, hv, hs, hf, hb, l1]
noncomputable def fm_ImgI : Fam Try.prog := mkFam (X := List Int × List (List Int) × List Int × List (List Int) × List Int) 70 true (fun (u, t, v, s, f) => [AL u t, AL v s, IL f]) (fun (u, t, v, s, f) => (Big u.length) ∧ (BigR t) ∧ (Big v.length) ∧ (BigR s) ∧ (Big f.length)) (fun (u, t, v, s, f) => I64 (imV u t v s f)) (by
  rintro ⟨u, t, v, s, f⟩ ⟨hu, ht, hv, hs, hf⟩
  exact ImgI_pc u t v s f hu ht hv hs hf)
@[simp] theorem fm_ImgI_id : fm_ImgI.id = 70 := rfl
@[simp] theorem fm_ImgI_fresh : fm_ImgI.fresh = true := rfl
@[simp] theorem fm_ImgI_look (u : List Int) (t : List (List Int)) (v : List Int) (s : List (List Int)) (f : List Int) (hu : Big u.length) (ht : BigR t) (hv : Big v.length) (hs : BigR s) (hf : Big f.length) : fm_ImgI.look [AL u t, AL v s, IL f] = some (I64 (imV u t v s f)) :=
  lookF_of (X := List Int × List (List Int) × List Int × List (List Int) × List Int) (args := fun (u, t, v, s, f) => [AL u t, AL v s, IL f]) (pre := fun (u, t, v, s, f) => (Big u.length) ∧ (BigR t) ∧ (Big v.length) ∧ (BigR s) ∧ (Big f.length)) (val := fun (u, t, v, s, f) => I64 (imV u t v s f)) (by
  rintro ⟨u, t, v, s, f⟩ ⟨u', t', v', s', f'⟩ h
  simp at h
  try simp only [and_assoc] at h
  obtain ⟨rfl, rfl, rfl, rfl, rfl⟩ := h
  rfl) (u, t, v, s, f) ⟨hu, ht, hv, hs, hf⟩
attribute [irreducible] fm_ImgI
theorem ImgS_pc (u : List Int) (t : List (List Int)) (v : List Int) (s : List (List Int)) (f : List Int) (hu : Big u.length) (ht : BigR t) (hv : Big v.length) (hs : BigR s) (hf : Big f.length) : PC Try.prog 71 [AL u t, AL v s, IL f] none true (fun r _ => r = I64 (imV u t v s f)) := by
  refine pcT [fm_validAlgebraS, fm_isMapS, fm_imgS] fok_71 ?_
  simp [fa_71]
  refine cutW (tabK_mono _) [(21, .bool (!imB u t v s f))] (by
    unfold imB
    by_cases a : VA u t
    · by_cases b : VA v s
      · simp [hu, ht, hv, hs, hf, a, b, a.tf, b.tf]
      · simp [hu, ht, hv, hs, a, b]
    · simp [hu, ht, a]) ?_
  unfold imV
  cases hb : imB u t v s f
  · simp
  · obtain ⟨a, b, m⟩ := imB_iff.1 hb
    have h6 := m.six b
    have l1 := fm_imgS_look f hf (fun x hx => ⟨(h6 x hx).1, by have := (h6 x hx).2; omega⟩)
    rw [imgM_nat _ h6] at l1
    simp [l1]
noncomputable def fm_ImgS : Fam Try.prog := mkFam (X := List Int × List (List Int) × List Int × List (List Int) × List Int) 71 true (fun (u, t, v, s, f) => [AL u t, AL v s, IL f]) (fun (u, t, v, s, f) => (Big u.length) ∧ (BigR t) ∧ (Big v.length) ∧ (BigR s) ∧ (Big f.length)) (fun (u, t, v, s, f) => I64 (imV u t v s f)) (by
  rintro ⟨u, t, v, s, f⟩ ⟨hu, ht, hv, hs, hf⟩
  exact ImgS_pc u t v s f hu ht hv hs hf)
@[simp] theorem fm_ImgS_id : fm_ImgS.id = 71 := rfl
@[simp] theorem fm_ImgS_fresh : fm_ImgS.fresh = true := rfl
@[simp] theorem fm_ImgS_look (u : List Int) (t : List (List Int)) (v : List Int) (s : List (List Int)) (f : List Int) (hu : Big u.length) (ht : BigR t) (hv : Big v.length) (hs : BigR s) (hf : Big f.length) : fm_ImgS.look [AL u t, AL v s, IL f] = some (I64 (imV u t v s f)) :=
  lookF_of (X := List Int × List (List Int) × List Int × List (List Int) × List Int) (args := fun (u, t, v, s, f) => [AL u t, AL v s, IL f]) (pre := fun (u, t, v, s, f) => (Big u.length) ∧ (BigR t) ∧ (Big v.length) ∧ (BigR s) ∧ (Big f.length)) (val := fun (u, t, v, s, f) => I64 (imV u t v s f)) (by
  rintro ⟨u, t, v, s, f⟩ ⟨u', t', v', s', f'⟩ h
  simp at h
  try simp only [and_assoc] at h
  obtain ⟨rfl, rfl, rfl, rfl, rfl⟩ := h
  rfl) (u, t, v, s, f) ⟨hu, ht, hv, hs, hf⟩
attribute [irreducible] fm_ImgS
end Go.PS
end

section
-- PRINTED by gen.py: clean texts of functions, and their tie to the program.
set_option maxRecDepth 100000
namespace Go.PS
open Go.Proofs
/-- spec.isPart -/
def an_122 : Ann := ⟨[(2, 2, 3), (2, 4, 3), (2, 8, 3), (2, 15, 3), (10, 2, 3), (10, 7, 3), (10, 20, 3), (10, 27, 3), (10, 28, 3), (10, 37, 3), (10, 38, 3), (10, 47, 3), (10, 48, 3)], [(0, [1, 2]), (1, [1, 2, 5]), (2, [1, 2, 5, 28]), (3, [4]), (4, [1, 2, 5, 6]), (5, [1, 2, 5, 6, 31]), (7, [1, 2, 5, 6, 7]), (8, [1, 2, 5, 6, 7, 36]), (10, [1, 2, 5, 6, 7, 90]), (11, [4]), (9, [1, 2, 5, 6, 7]), (6, [1, 2, 5, 6]), (12, [4])], [(5, [1, 2, 5, 6], []), (8, [1, 2, 5, 6, 7], [])], []⟩
def lb_122_8 : AC :=
  (.seq
    (.seq
      (.region false [⟨some 34, (.mv (.t 7)), 3, none, 0⟩, ⟨some 35, (.mv (.t 5)), 3, none, 0⟩, ⟨some 36, (.bin .lss 3 (.t 34) (.t 35)), 4, none, 0⟩] (some [1, 2, 5, 6, 7, 36]))
      (.cond (.t 36)
        .skip
        (.exit 2)))
    (.seq
      (.block 3
        (.seq
          (.region false (gops (seg [1, 2, 5, 6, 7, 48] [⟨some 39, (.mv (.t 1)), 3, none, 0⟩, ⟨some 40, (.mv (.t 6)), 3, none, 0⟩, ⟨some 41, (.call (.f 171) [(.t 39), (.t 40)]), 3, none, 3⟩, ⟨some 42, (.bin .eql 3 (.t 41) (.c (.int .i64 1))), 4, none, 0⟩, ⟨some 43, (.mv (.t 42)), 4, none, 0⟩, ⟨some 44, (.mv (.t 1)), 3, some (43, true), 0⟩, ⟨some 45, (.mv (.t 7)), 3, some (43, true), 0⟩, ⟨some 46, (.call (.f 171) [(.t 44), (.t 45)]), 3, some (43, true), 3⟩, ⟨some 47, (.bin .eql 3 (.t 46) (.c (.int .i64 1))), 4, some (43, true), 0⟩, ⟨some 48, (.pick (.t 43) (.t 47) (.c (.bool false))), 4, none, 0⟩]
          (seg [1, 2, 5, 6, 7, 49, 50, 58] [⟨some 49, (.mv (.t 48)), 4, none, 0⟩, ⟨some 50, (.mv (.t 1)), 3, some (49, true), 0⟩, ⟨some 51, (.faddr 27 (.t 2) 1), 0, some (49, true), 0⟩, ⟨some 52, (.load 25 (.t 51)), 25, some (49, true), 0⟩, ⟨some 53, (.mv (.t 6)), 3, some (49, true), 0⟩, ⟨some 54, (.iaddr 25 (.t 52) (.t 53)), 0, some (49, true), 0⟩, ⟨some 55, (.load 23 (.t 54)), 23, some (49, true), 0⟩, ⟨some 56, (.mv (.t 7)), 3, some (49, true), 0⟩, ⟨some 57, (.iaddr 23 (.t 55) (.t 56)), 0, some (49, true), 0⟩, ⟨some 58, (.load 3 (.t 57)), 3, some (49, true), 0⟩]
          (seg [1, 2, 5, 6, 7, 49, 61, 68] [⟨some 59, (.call (.f 171) [(.t 50), (.t 58)]), 3, some (49, true), 3⟩, ⟨some 60, (.bin .eql 3 (.t 59) (.c (.int .i64 0))), 4, some (49, true), 0⟩, ⟨some 61, (.mv (.t 60)), 4, some (49, true), 0⟩, ⟨some 62, (.mv (.t 1)), 3, some (61, false), 0⟩, ⟨some 63, (.load 27 (.t 2)), 27, some (61, false), 0⟩, ⟨some 64, (.mv (.t 6)), 3, some (61, false), 0⟩, ⟨some 65, (.mv (.t 7)), 3, some (61, false), 0⟩, ⟨some 66, (.call (.f 137) [(.t 63), (.t 64), (.t 65)]), 3, some (61, false), 3⟩, ⟨some 67, (.call (.f 171) [(.t 62), (.t 66)]), 3, some (61, false), 3⟩, ⟨some 68, (.bin .eql 3 (.t 67) (.c (.int .i64 0))), 4, some (61, false), 0⟩]
          (seg [1, 2, 5, 6, 7, 49, 70, 78] [⟨some 69, (.pick (.t 61) (.c (.bool true)) (.t 68)), 4, some (49, true), 0⟩, ⟨some 70, (.mv (.t 69)), 4, some (49, true), 0⟩, ⟨some 71, (.mv (.t 1)), 3, some (70, false), 0⟩, ⟨some 72, (.faddr 27 (.t 2) 0), 0, some (70, false), 0⟩, ⟨some 73, (.load 23 (.t 72)), 23, some (70, false), 0⟩, ⟨some 74, (.mv (.t 6)), 3, some (70, false), 0⟩, ⟨some 75, (.mv (.t 7)), 3, some (70, false), 0⟩, ⟨some 76, (.call (.f 165) [(.t 73), (.t 74), (.t 75)]), 3, some (70, false), 3⟩, ⟨some 77, (.call (.f 171) [(.t 71), (.t 76)]), 3, some (70, false), 3⟩, ⟨some 78, (.bin .eql 3 (.t 77) (.c (.int .i64 0))), 4, some (70, false), 0⟩]
          [⟨some 79, (.pick (.t 70) (.c (.bool true)) (.t 78)), 4, some (49, true), 0⟩, ⟨some 80, (.mv (.t 79)), 4, some (49, true), 0⟩, ⟨some 81, (.mv (.t 1)), 3, some (80, false), 0⟩, ⟨some 82, (.faddr 27 (.t 2) 0), 0, some (80, false), 0⟩, ⟨some 83, (.load 23 (.t 82)), 23, some (80, false), 0⟩, ⟨some 84, (.mv (.t 6)), 3, some (80, false), 0⟩, ⟨some 85, (.mv (.t 7)), 3, some (80, false), 0⟩, ⟨some 86, (.call (.f 136) [(.t 83), (.t 84), (.t 85)]), 3, some (80, false), 3⟩, ⟨some 87, (.call (.f 171) [(.t 81), (.t 86)]), 3, some (80, false), 3⟩, ⟨some 88, (.bin .eql 3 (.t 87) (.c (.int .i64 0))), 4, some (80, false), 0⟩, ⟨some 89, (.pick (.t 80) (.c (.bool true)) (.t 88)), 4, some (49, true), 0⟩, ⟨some 90, (.pick (.t 49) (.t 89) (.c (.bool false))), 4, none, 0⟩] [1, 2, 5, 6, 7, 90] (by decide)) [1, 2, 5, 6, 7, 90] (by decide)) [1, 2, 5, 6, 7, 90] (by decide)) [1, 2, 5, 6, 7, 90] (by decide))) (some [1, 2, 5, 6, 7, 90]))
          (.cond (.t 90)
            (.seq
              (.region false [⟨some 4, (.mv (.c (.bool false))), 4, none, 0⟩] (some [4]))
              .ret)
            .skip)))
      (.region false [⟨some 37, (.mv (.t 7)), 3, none, 0⟩, ⟨some 38, (.bin .add 3 (.t 37) (.c (.int .i64 1))), 3, none, 0⟩, ⟨some 7, (.mv (.t 38)), 3, none, 0⟩] (some [1, 2, 5, 6, 7]))))
def lb_122_5 : AC :=
  (.seq
    (.seq
      (.region false [⟨some 29, (.mv (.t 6)), 3, none, 0⟩, ⟨some 30, (.mv (.t 5)), 3, none, 0⟩, ⟨some 31, (.bin .lss 3 (.t 29) (.t 30)), 4, none, 0⟩] (some [1, 2, 5, 6, 31]))
      (.cond (.t 31)
        .skip
        (.exit 0)))
    (.seq
      (.block 1
        (.seq
          (.region false [⟨some 7, (.mv (.c (.int .i64 0))), 3, none, 0⟩] (some [1, 2, 5, 6, 7]))
          (.block 2
            (.loop [1, 2, 5, 6, 7] [] lb_122_8))))
      (.region false [⟨some 32, (.mv (.t 6)), 3, none, 0⟩, ⟨some 33, (.bin .add 3 (.t 32) (.c (.int .i64 1))), 3, none, 0⟩, ⟨some 6, (.mv (.t 33)), 3, none, 0⟩] (some [1, 2, 5, 6]))))
def fa_122 : FnA := ⟨91, [.t 4],
  (.seq
    (.region false [⟨some 2, (.box 27 (.t 0)), 0, none, 0⟩, ⟨some 4, (.mv (.c (.bool false))), 4, none, 0⟩] (some [1, 2]))
    (.seq
      (.region false [⟨some 8, (.faddr 27 (.t 2) 0), 0, none, 0⟩, ⟨some 9, (.load 23 (.t 8)), 23, none, 0⟩, ⟨some 10, (.len 23 (.t 9)), 3, none, 0⟩, ⟨some 5, (.mv (.t 10)), 3, none, 0⟩] (some [1, 2, 5]))
      (.seq
        (.seq
          (.region false (gops [⟨some 11, (.mv (.t 1)), 3, none, 0⟩, ⟨some 12, (.mv (.t 5)), 3, none, 0⟩, ⟨some 13, (.call (.f 121) [(.t 12)]), 3, none, 3⟩, ⟨some 14, (.bin .sub 3 (.t 13) (.c (.int .i64 1))), 3, none, 0⟩, ⟨some 15, (.call (.f 128) [(.t 11), (.c (.int .i64 0)), (.t 14)]), 4, none, 3⟩, ⟨some 16, (.un .not (.t 15)), 4, none, 0⟩, ⟨some 17, (.mv (.t 16)), 4, none, 0⟩, ⟨some 18, (.mv (.t 1)), 3, some (17, false), 0⟩, ⟨some 19, (.call (.f 171) [(.t 18), (.c (.int .i64 0))]), 3, some (17, false), 3⟩, ⟨some 20, (.bin .eql 3 (.t 19) (.c (.int .i64 0))), 4, some (17, false), 0⟩, ⟨some 21, (.pick (.t 17) (.c (.bool true)) (.t 20)), 4, none, 0⟩, ⟨some 22, (.mv (.t 21)), 4, none, 0⟩, ⟨some 23, (.mv (.t 1)), 3, some (22, false), 0⟩, ⟨some 24, (.mv (.t 5)), 3, some (22, false), 0⟩, ⟨some 25, (.bin .sub 3 (.t 24) (.c (.int .i64 1))), 3, some (22, false), 0⟩, ⟨some 26, (.call (.f 171) [(.t 23), (.t 25)]), 3, some (22, false), 3⟩, ⟨some 27, (.bin .eql 3 (.t 26) (.c (.int .i64 0))), 4, some (22, false), 0⟩, ⟨some 28, (.pick (.t 22) (.c (.bool true)) (.t 27)), 4, none, 0⟩]) (some [1, 2, 5, 28]))
          (.cond (.t 28)
            (.seq
              (.region false [⟨some 4, (.mv (.c (.bool false))), 4, none, 0⟩] (some [4]))
              .ret)
            .skip))
        (.seq
          (.seq
            (.region false [⟨some 6, (.mv (.c (.int .i64 0))), 3, none, 0⟩] (some [1, 2, 5, 6]))
            (.block 0
              (.loop [1, 2, 5, 6] [] lb_122_5)))
          (.seq
            (.region false [⟨some 4, (.mv (.c (.bool true))), 4, none, 0⟩] (some [4]))
            .ret)))))⟩
theorem fok_122 : FnOk Try.prog 122 fa_122 an_122 := ⟨Try.f122, _, Try.func122, rfl, by kernel_rfl, rfl, rfl, by decide, by kernel_rfl⟩
/-- spec.PartsOf -/
def an_42 : Ann := ⟨[(1, 1, 3), (3, 0, 1), (5, 4, 3), (7, 2, 3)], [(0, [1]), (1, [1, 7]), (2, [2]), (3, [1, 3]), (4, [1, 3, 4]), (5, [1, 3, 4, 14]), (7, [1, 3, 4, 19]), (8, [1, 3, 4]), (6, [1, 3, 4]), (9, [2])], [(5, [1, 3, 4], [64, 184])], []⟩
def lb_42_5 : AC :=
  (.seq
    (.seq
      (.region false [⟨some 9, (.mv (.t 4)), 3, none, 0⟩, ⟨some 10, (.faddr 27 (.t 1) 0), 0, none, 0⟩, ⟨some 11, (.load 23 (.t 10)), 23, none, 0⟩, ⟨some 12, (.len 23 (.t 11)), 3, none, 0⟩, ⟨some 13, (.call (.f 121) [(.t 12)]), 3, none, 3⟩, ⟨some 14, (.bin .lss 3 (.t 9) (.t 13)), 4, none, 0⟩] (some [1, 3, 4, 14]))
      (.cond (.t 14)
        .skip
        (.exit 0)))
    (.seq
      (.block 1
        (.seq
          (.region false [⟨some 17, (.load 27 (.t 1)), 27, none, 0⟩, ⟨some 18, (.mv (.t 4)), 3, none, 0⟩, ⟨some 19, (.call (.f 122) [(.t 17), (.t 18)]), 4, none, 3⟩] (some [1, 3, 4, 19]))
          (.cond (.t 19)
            (.region false [⟨some 20, (.mv (.t 3)), 23, none, 0⟩, ⟨some 21, (.mv (.t 4)), 3, none, 0⟩, ⟨some 22, (.bslice 23 1 [(0, (.t 21))]), 23, none, 0⟩, ⟨some 23, (.app 23 23 (.t 20) (.t 22)), 23, none, 0⟩, ⟨some 3, (.mv (.t 23)), 23, none, 0⟩] (some [1, 3, 4]))
            .skip)))
      (.region false [⟨some 15, (.mv (.t 4)), 3, none, 0⟩, ⟨some 16, (.bin .add 3 (.t 15) (.c (.int .i64 1))), 3, none, 0⟩, ⟨some 4, (.mv (.t 16)), 3, none, 0⟩] (some [1, 3, 4]))))
def fa_42 : FnA := ⟨25, [.t 2],
  (.seq
    (.region false [⟨some 1, (.box 27 (.t 0)), 0, none, 0⟩, ⟨some 2, (.mv (.c .nil)), 23, none, 0⟩] (some [1]))
    (.seq
      (.seq
        (.region false [⟨some 5, (.load 27 (.t 1)), 27, none, 0⟩, ⟨some 6, (.call (.f 111) [(.t 5)]), 4, none, 3⟩, ⟨some 7, (.un .not (.t 6)), 4, none, 0⟩] (some [1, 7]))
        (.cond (.t 7)
          (.seq
            (.region false [⟨some 2, (.mv (.c .nil)), 23, none, 0⟩] (some [2]))
            .ret)
          .skip))
      (.seq
        (.region false [⟨some 8, (.bslice 23 0 []), 23, none, 1⟩, ⟨some 3, (.mv (.t 8)), 23, none, 0⟩] (some [1, 3]))
        (.seq
          (.seq
            (.region false [⟨some 4, (.mv (.c (.int .i64 0))), 3, none, 0⟩] (some [1, 3, 4]))
            (.block 0
              (.loop [1, 3, 4] [64, 184] lb_42_5)))
          (.seq
            (.region false [⟨some 24, (.mv (.t 3)), 23, none, 0⟩, ⟨some 2, (.mv (.t 24)), 23, none, 0⟩] (some [2]))
            .ret)))))⟩
theorem fok_42 : FnOk Try.prog 42 fa_42 an_42 := ⟨Try.f42, _, Try.func42, rfl, by kernel_rfl, rfl, rfl, by decide, by kernel_rfl⟩
/-- impl.isPart -/
def an_120 : Ann := ⟨[(1, 1, 3), (1, 9, 3), (9, 2, 3), (9, 7, 3), (10, 9, 3), (10, 16, 3), (10, 17, 3), (10, 26, 3), (10, 27, 3), (10, 36, 3), (10, 37, 3)], [(0, [1, 2]), (1, [1, 2, 18]), (2, [4]), (3, [1, 2, 21, 22]), (4, [1, 2, 21, 22, 23]), (5, [1, 2, 5, 21, 22]), (6, [1, 2, 5, 21, 22, 27, 28]), (7, [1, 2, 5, 21, 22, 27, 28, 29]), (8, [1, 2, 5, 6, 21, 22, 27, 28]), (9, [1, 2, 5, 6, 21, 22, 27, 28, 40]), (10, [1, 2, 5, 21, 22, 27, 28, 80]), (11, [4]), (12, [1, 2, 5, 21, 22, 27, 28]), (13, [1, 2, 21, 22]), (14, [4])], [(4, [1, 2, 21, 22], []), (7, [1, 2, 5, 21, 22, 27, 28], [])], []⟩
def lb_120_7 : AC :=
  (.seq
    (.region false [⟨some 29, (.bin .lss 3 (.t 28) (.t 27)), 0, none, 0⟩] (some [1, 2, 5, 21, 22, 27, 28, 29]))
    (.seq
      (.cond (.t 29)
        .skip
        (.exit 2))
      (.seq
        (.block 3
          (.seq
            (.region false [⟨some 30, (.mv (.t 28)), 3, none, 0⟩, ⟨some 6, (.mv (.t 30)), 3, none, 0⟩] (some [1, 2, 5, 6, 21, 22, 27, 28]))
            (.seq
              (.seq
                (.region false (gops [⟨some 31, (.mv (.t 1)), 3, none, 0⟩, ⟨some 32, (.mv (.t 5)), 3, none, 0⟩, ⟨some 33, (.call (.f 170) [(.t 31), (.t 32)]), 4, none, 3⟩, ⟨some 34, (.un .not (.t 33)), 4, none, 0⟩, ⟨some 35, (.mv (.t 34)), 4, none, 0⟩, ⟨some 36, (.mv (.t 1)), 3, some (35, false), 0⟩, ⟨some 37, (.mv (.t 6)), 3, some (35, false), 0⟩, ⟨some 38, (.call (.f 170) [(.t 36), (.t 37)]), 4, some (35, false), 3⟩, ⟨some 39, (.un .not (.t 38)), 4, some (35, false), 0⟩, ⟨some 40, (.pick (.t 35) (.c (.bool true)) (.t 39)), 4, none, 0⟩]) (some [1, 2, 5, 6, 21, 22, 27, 28, 40]))
                (.cond (.t 40)
                  (.exit 3)
                  .skip))
              (.seq
                (.region false (gops (seg [1, 2, 5, 6, 21, 22, 27, 28, 50] [⟨some 41, (.mv (.t 1)), 3, none, 0⟩, ⟨some 42, (.faddr 27 (.t 2) 1), 0, none, 0⟩, ⟨some 43, (.load 25 (.t 42)), 25, none, 0⟩, ⟨some 44, (.mv (.t 5)), 3, none, 0⟩, ⟨some 45, (.iaddr 25 (.t 43) (.t 44)), 0, none, 0⟩, ⟨some 46, (.load 23 (.t 45)), 23, none, 0⟩, ⟨some 47, (.mv (.t 6)), 3, none, 0⟩, ⟨some 48, (.iaddr 23 (.t 46) (.t 47)), 0, none, 0⟩, ⟨some 49, (.load 3 (.t 48)), 3, none, 0⟩, ⟨some 50, (.call (.f 170) [(.t 41), (.t 49)]), 4, none, 3⟩]
                (seg [1, 2, 5, 6, 21, 22, 27, 28, 60] [⟨some 51, (.un .not (.t 50)), 4, none, 0⟩, ⟨some 52, (.mv (.t 51)), 4, none, 0⟩, ⟨some 53, (.mv (.t 1)), 3, some (52, false), 0⟩, ⟨some 54, (.load 27 (.t 2)), 27, some (52, false), 0⟩, ⟨some 55, (.mv (.t 5)), 3, some (52, false), 0⟩, ⟨some 56, (.mv (.t 6)), 3, some (52, false), 0⟩, ⟨some 57, (.call (.f 118) [(.t 54), (.t 55), (.t 56)]), 3, some (52, false), 3⟩, ⟨some 58, (.call (.f 170) [(.t 53), (.t 57)]), 4, some (52, false), 3⟩, ⟨some 59, (.un .not (.t 58)), 4, some (52, false), 0⟩, ⟨some 60, (.pick (.t 52) (.c (.bool true)) (.t 59)), 4, none, 0⟩]
                (seg [1, 2, 5, 6, 21, 22, 27, 28, 70] [⟨some 61, (.mv (.t 60)), 4, none, 0⟩, ⟨some 62, (.mv (.t 1)), 3, some (61, false), 0⟩, ⟨some 63, (.faddr 27 (.t 2) 0), 0, some (61, false), 0⟩, ⟨some 64, (.load 23 (.t 63)), 23, some (61, false), 0⟩, ⟨some 65, (.mv (.t 5)), 3, some (61, false), 0⟩, ⟨some 66, (.mv (.t 6)), 3, some (61, false), 0⟩, ⟨some 67, (.call (.f 95) [(.t 64), (.t 65), (.t 66)]), 3, some (61, false), 3⟩, ⟨some 68, (.call (.f 170) [(.t 62), (.t 67)]), 4, some (61, false), 3⟩, ⟨some 69, (.un .not (.t 68)), 4, some (61, false), 0⟩, ⟨some 70, (.pick (.t 61) (.c (.bool true)) (.t 69)), 4, none, 0⟩]
                [⟨some 71, (.mv (.t 70)), 4, none, 0⟩, ⟨some 72, (.mv (.t 1)), 3, some (71, false), 0⟩, ⟨some 73, (.faddr 27 (.t 2) 0), 0, some (71, false), 0⟩, ⟨some 74, (.load 23 (.t 73)), 23, some (71, false), 0⟩, ⟨some 75, (.mv (.t 5)), 3, some (71, false), 0⟩, ⟨some 76, (.mv (.t 6)), 3, some (71, false), 0⟩, ⟨some 77, (.call (.f 102) [(.t 74), (.t 75), (.t 76)]), 3, some (71, false), 3⟩, ⟨some 78, (.call (.f 170) [(.t 72), (.t 77)]), 4, some (71, false), 3⟩, ⟨some 79, (.un .not (.t 78)), 4, some (71, false), 0⟩, ⟨some 80, (.pick (.t 71) (.c (.bool true)) (.t 79)), 4, none, 0⟩] [1, 2, 5, 21, 22, 27, 28, 80] (by decide)) [1, 2, 5, 21, 22, 27, 28, 80] (by decide)) [1, 2, 5, 21, 22, 27, 28, 80] (by decide))) (some [1, 2, 5, 21, 22, 27, 28, 80]))
                (.cond (.t 80)
                  (.seq
                    (.region false [⟨some 4, (.mv (.c (.bool false))), 4, none, 0⟩] (some [4]))
                    .ret)
                  .skip)))))
        (.region false [⟨some 81, (.bin .add 3 (.t 28) (.c (.int .i64 1))), 3, none, 0⟩, ⟨some 28, (.mv (.t 81)), 3, none, 0⟩] (some [1, 2, 5, 21, 22, 27, 28])))))
def lb_120_4 : AC :=
  (.seq
    (.region false [⟨some 23, (.bin .lss 3 (.t 22) (.t 21)), 0, none, 0⟩] (some [1, 2, 21, 22, 23]))
    (.seq
      (.cond (.t 23)
        .skip
        (.exit 0))
      (.seq
        (.block 1
          (.seq
            (.region false [⟨some 24, (.mv (.t 22)), 3, none, 0⟩, ⟨some 5, (.mv (.t 24)), 3, none, 0⟩] (some [1, 2, 5, 21, 22]))
            (.seq
              (.region false [⟨some 25, (.faddr 27 (.t 2) 0), 0, none, 0⟩, ⟨some 26, (.load 23 (.t 25)), 23, none, 0⟩, ⟨some 27, (.len 23 (.t 26)), 3, none, 0⟩, ⟨some 28, (.mv (.c (.int .i64 0))), 3, none, 0⟩] (some [1, 2, 5, 21, 22, 27, 28]))
              (.block 2
                (.loop [1, 2, 5, 21, 22, 27, 28] [] lb_120_7)))))
        (.region false [⟨some 82, (.bin .add 3 (.t 22) (.c (.int .i64 1))), 3, none, 0⟩, ⟨some 22, (.mv (.t 82)), 3, none, 0⟩] (some [1, 2, 21, 22])))))
def fa_120 : FnA := ⟨83, [.t 4],
  (.seq
    (.region false [⟨some 2, (.box 27 (.t 0)), 0, none, 0⟩, ⟨some 4, (.mv (.c (.bool false))), 4, none, 0⟩] (some [1, 2]))
    (.seq
      (.seq
        (.region false (gops [⟨some 7, (.mv (.t 1)), 3, none, 0⟩, ⟨some 8, (.call (.f 170) [(.t 7), (.c (.int .i64 0))]), 4, none, 3⟩, ⟨some 9, (.un .not (.t 8)), 4, none, 0⟩, ⟨some 10, (.mv (.t 9)), 4, none, 0⟩, ⟨some 11, (.mv (.t 1)), 3, some (10, false), 0⟩, ⟨some 12, (.faddr 27 (.t 2) 0), 0, some (10, false), 0⟩, ⟨some 13, (.load 23 (.t 12)), 23, some (10, false), 0⟩, ⟨some 14, (.len 23 (.t 13)), 3, some (10, false), 0⟩, ⟨some 15, (.bin .sub 3 (.t 14) (.c (.int .i64 1))), 3, some (10, false), 0⟩, ⟨some 16, (.call (.f 170) [(.t 11), (.t 15)]), 4, some (10, false), 3⟩, ⟨some 17, (.un .not (.t 16)), 4, some (10, false), 0⟩, ⟨some 18, (.pick (.t 10) (.c (.bool true)) (.t 17)), 4, none, 0⟩]) (some [1, 2, 18]))
        (.cond (.t 18)
          (.seq
            (.region false [⟨some 4, (.mv (.c (.bool false))), 4, none, 0⟩] (some [4]))
            .ret)
          .skip))
      (.seq
        (.seq
          (.region false [⟨some 19, (.faddr 27 (.t 2) 0), 0, none, 0⟩, ⟨some 20, (.load 23 (.t 19)), 23, none, 0⟩, ⟨some 21, (.len 23 (.t 20)), 3, none, 0⟩, ⟨some 22, (.mv (.c (.int .i64 0))), 3, none, 0⟩] (some [1, 2, 21, 22]))
          (.block 0
            (.loop [1, 2, 21, 22] [] lb_120_4)))
        (.seq
          (.region false [⟨some 4, (.mv (.c (.bool true))), 4, none, 0⟩] (some [4]))
          .ret))))⟩
theorem fok_120 : FnOk Try.prog 120 fa_120 an_120 := ⟨Try.f120, _, Try.func120, rfl, by kernel_rfl, rfl, rfl, by decide, by kernel_rfl⟩
/-- impl.PartsOf -/
def an_41 : Ann := ⟨[(1, 1, 3), (3, 0, 1), (7, 2, 3)], [(0, [1]), (1, [1, 7]), (2, [2]), (3, [1, 3]), (4, [1, 3, 4]), (5, [1, 3, 4, 14]), (7, [1, 3, 4, 19]), (8, [1, 3, 4]), (6, [1, 3, 4]), (9, [2])], [(5, [1, 3, 4], [64, 184])], []⟩
def lb_41_5 : AC :=
  (.seq
    (.seq
      (.region false [⟨some 9, (.mv (.t 4)), 3, none, 0⟩, ⟨some 10, (.faddr 27 (.t 1) 0), 0, none, 0⟩, ⟨some 11, (.load 23 (.t 10)), 23, none, 0⟩, ⟨some 12, (.len 23 (.t 11)), 3, none, 0⟩, ⟨some 13, (.bin .shl 3 (.c (.int .i64 1)) (.t 12)), 3, none, 0⟩, ⟨some 14, (.bin .lss 3 (.t 9) (.t 13)), 4, none, 0⟩] (some [1, 3, 4, 14]))
      (.cond (.t 14)
        .skip
        (.exit 0)))
    (.seq
      (.block 1
        (.seq
          (.region false [⟨some 17, (.load 27 (.t 1)), 27, none, 0⟩, ⟨some 18, (.mv (.t 4)), 3, none, 0⟩, ⟨some 19, (.call (.f 120) [(.t 17), (.t 18)]), 4, none, 3⟩] (some [1, 3, 4, 19]))
          (.cond (.t 19)
            (.region false [⟨some 20, (.mv (.t 3)), 23, none, 0⟩, ⟨some 21, (.mv (.t 4)), 3, none, 0⟩, ⟨some 22, (.bslice 23 1 [(0, (.t 21))]), 23, none, 0⟩, ⟨some 23, (.app 23 23 (.t 20) (.t 22)), 23, none, 0⟩, ⟨some 3, (.mv (.t 23)), 23, none, 0⟩] (some [1, 3, 4]))
            .skip)))
      (.region false [⟨some 15, (.mv (.t 4)), 3, none, 0⟩, ⟨some 16, (.bin .add 3 (.t 15) (.c (.int .i64 1))), 3, none, 0⟩, ⟨some 4, (.mv (.t 16)), 3, none, 0⟩] (some [1, 3, 4]))))
def fa_41 : FnA := ⟨25, [.t 2],
  (.seq
    (.region false [⟨some 1, (.box 27 (.t 0)), 0, none, 0⟩, ⟨some 2, (.mv (.c .nil)), 23, none, 0⟩] (some [1]))
    (.seq
      (.seq
        (.region false [⟨some 5, (.load 27 (.t 1)), 27, none, 0⟩, ⟨some 6, (.call (.f 23) [(.t 5)]), 4, none, 3⟩, ⟨some 7, (.un .not (.t 6)), 4, none, 0⟩] (some [1, 7]))
        (.cond (.t 7)
          (.seq
            (.region false [⟨some 2, (.mv (.c .nil)), 23, none, 0⟩] (some [2]))
            .ret)
          .skip))
      (.seq
        (.region false [⟨some 8, (.bslice 23 0 []), 23, none, 1⟩, ⟨some 3, (.mv (.t 8)), 23, none, 0⟩] (some [1, 3]))
        (.seq
          (.seq
            (.region false [⟨some 4, (.mv (.c (.int .i64 0))), 3, none, 0⟩] (some [1, 3, 4]))
            (.block 0
              (.loop [1, 3, 4] [64, 184] lb_41_5)))
          (.seq
            (.region false [⟨some 24, (.mv (.t 3)), 23, none, 0⟩, ⟨some 2, (.mv (.t 24)), 23, none, 0⟩] (some [2]))
            .ret)))))⟩
theorem fok_41 : FnOk Try.prog 41 fa_41 an_41 := ⟨Try.f41, _, Try.func41, rfl, by kernel_rfl, rfl, rfl, by decide, by kernel_rfl⟩
end Go.PS
end

section
-- Contracts: parts.
set_option maxRecDepth 100000
set_option linter.unusedVariables false
set_option linter.unusedSimpArgs false
namespace Go.PS
open Go.Proofs

/-- What a pair makes no part. -/
def ptB (u : List Int) (t : List (List Int)) (s x y : Nat) : Bool := s.testBit x && s.testBit y && (!s.testBit (tn t x y) || !s.testBit (im u t x y) || !s.testBit (mt u x y) || !s.testBit (jo u x y))
theorem PT.at {u : List Int} {t : List (List Int)} {s : Nat} (P : PT u t s) {x y : Nat} (hx : x < u.length) (hy : y < u.length) : ptB u t s x y = false := by
  unfold ptB
  cases h1 : s.testBit x
  · rfl
  · cases h2 : s.testBit y
    · rfl
    · have := P.cl x hx y hy h1 h2
      simp [this.1.1, this.1.2, this.2.1, this.2.2]
theorem pt_of {u : List Int} {t : List (List Int)} {s : Nat} (h1 : s < 2 ^ u.length) (h2 : s.testBit 0 = true) (h3 : s.testBit (u.length - 1) = true) (h : ∀ x, x < u.length → ∀ y, y < u.length → ptB u t s x y = false) : PT u t s := by
  refine ⟨h1, h2, h3, fun x hx y hy c1 c2 => ?_⟩
  have := h x hx y hy
  simp only [ptB, c1, c2, Bool.true_and, Bool.or_eq_false_iff, Bool.not_eq_false'] at this
  exact ⟨⟨this.1.1.1, this.1.1.2⟩, this.1.2, this.2⟩
set_option maxHeartbeats 4000000 in
theorem isPtS_pc (u : List Int) (t : List (List Int)) (s : Int) (a : VA u t) (hs : inS u.length s = true) : PC Try.prog 122 [AL u t, I64 s] none true (fun r _ => r = .bool (decide (PT u t s.toNat))) := by
  obtain ⟨s, rfl, hs2⟩ := inS_ex hs
  simp only [Int.toNat_natCast]
  have v := a.lat
  have tf := a.tf
  have hp := v.pos
  have h6 := v.six
  have hul : u.length ≤ 1099511627776 := by omega
  have hw := p2w h6
  have h64 := p2le h6
  have hf2 : (s : Int) ≤ 2 ^ u.length - 1 := by rw [p2i]; omega
  have f64 : (s : Int) < 64 := by omega
  have w1 : IntKind.i64.wrap ((u.length : Int) - 1) = ((u.length - 1 : Nat) : Int) := by rw [wrap64 (by omega) (by omega)]; omega
  refine pcT [fm_power, fm_inRange, fm_bitS, fm_implyS, fm_meetS, fm_joinS] fok_122 ?_
  simp [fa_122]
  refine cutW (tabK_mono _) [(28, .bool (!(s.testBit 0 && s.testBit (u.length - 1))))] (by
    cases b0 : s.testBit 0
    · simp [hw, hf2, f64, b0, show (u.length : Int) ≤ 61 by omega]
    · simp [hw, hf2, f64, b0, w1, show (u.length : Int) ≤ 61 by omega, show ((u.length - 1 : Nat) : Int) ≤ 61 by omega]) ?_
  simp
  refine ⟨fun h P => ?_, fun b0 b1 => ?_⟩
  · have h0 := P.bot
    have h1 := P.top
    rw [Nat.testBit_zero, decide_eq_true_eq] at h0
    rcases h with c | c
    · omega
    · rw [c] at h1; cases h1
  have b0 : s.testBit 0 = true := by rw [Nat.testBit_zero, decide_eq_true_eq]; exact b0
  refine loopA (tabK_mono _) u.length (fun i => [(6, I64 i)]) (fun _ => []) (fun x => ∀ y, y < u.length → ptB u t s x y = false) (by simp) (by simp) (fun x g hx hP => ?_)
  simp [lb_122_5, wrap_succ hx hul]
  refine ⟨fun h2 => ?_, fun h2 => ?_⟩
  · refine loopA (tabK_mono _) u.length (fun i => [(7, I64 i)]) (fun _ => []) (fun y => ptB u t s x y = false) (by simp) (by simp) (fun y g2 hy hQ => ?_)
    simp only [lb_122_8]
    simp [wrap_succ hy hul]
    refine ⟨fun h3 => ?_, fun h3 => ?_⟩
    · refine cutW (tabK_mono _) [(90, .bool (ptB u t s x y))] (by
        have s1 := a.tn_int h2 h3
        have s2 := a.tn_lt h2 h3
        have hlen := a.len
        have hrow := a.rows x h2
        have l1 := fm_implyS_look u t x y tf (by omega) (by omega) (by omega) (by omega)
        have l2 := fm_meetS_look u x y v.sm (by omega) (by omega) (by omega) (by omega)
        have l3 := fm_joinS_look u x y v.sm (by omega) (by omega) (by omega) (by omega)
        simp only [Int.toNat_natCast] at l1 l2 l3
        rw [a.im_int] at l1
        rw [v.mt_int h2 h3] at l2
        rw [v.jo_int h2 h3] at l3
        have r1 := a.im_lt (x := x) (y := y)
        have r2 := v.mt_lt h2 h3
        have r3 := v.jo_lt h2 h3
        unfold ptB
        generalize tn t x y = z1 at *
        generalize im u t x y = z2 at *
        generalize mt u x y = z3 at *
        generalize jo u x y = z4 at *
        cases c1 : s.testBit x
        · simp [c1, f64, show (x : Int) ≤ 61 by omega]
        · cases c2 : s.testBit y
          · simp [c1, c2, f64, show (x : Int) ≤ 61 by omega, show (y : Int) ≤ 61 by omega]
          · cases k1 : s.testBit z1
            · simp [c1, c2, k1, h2, h3, s1, hlen, hrow, f64, show (x : Int) ≤ 61 by omega, show (y : Int) ≤ 61 by omega, show (z1 : Int) ≤ 61 by omega]
            · cases k2 : s.testBit z2
              · simp [c1, c2, k1, k2, h2, h3, s1, hlen, hrow, l1, f64, show (x : Int) ≤ 61 by omega, show (y : Int) ≤ 61 by omega, show (z1 : Int) ≤ 61 by omega, show (z2 : Int) ≤ 61 by omega]
              · cases k3 : s.testBit z3
                · simp [c1, c2, k1, k2, k3, h2, h3, s1, hlen, hrow, l1, l2, f64, show (x : Int) ≤ 61 by omega, show (y : Int) ≤ 61 by omega, show (z1 : Int) ≤ 61 by omega, show (z2 : Int) ≤ 61 by omega, show (z3 : Int) ≤ 61 by omega]
                · simp [c1, c2, k1, k2, k3, h2, h3, s1, hlen, hrow, l1, l2, l3, f64, show (x : Int) ≤ 61 by omega, show (y : Int) ≤ 61 by omega, show (z1 : Int) ≤ 61 by omega, show (z2 : Int) ≤ 61 by omega, show (z3 : Int) ≤ 61 by omega, show (z4 : Int) ≤ 61 by omega]) ?_
      cases hb : ptB u t s x y
      · simp [wrap_succ hy hul]
        exact ⟨h3, hb⟩
      · simp
        intro P
        have := P.at h2 h3
        rw [hb] at this
        cases this
    · exact ⟨h2, wrap_succ hx hul, fun y hy => hQ y (by omega)⟩
  · exact pt_of hs2 b0 b1 fun x hx => hP x (by omega)
noncomputable def fm_isPtS : Fam Try.prog := mkFam (X := List Int × List (List Int) × Int) 122 true (fun (u, t, s) => [AL u t, I64 s]) (fun (u, t, s) => (VA u t) ∧ (inS u.length s = true)) (fun (u, t, s) => .bool (decide (PT u t s.toNat))) (by
  rintro ⟨u, t, s⟩ ⟨a, hs⟩
  exact isPtS_pc u t s a hs)
@[simp] theorem fm_isPtS_id : fm_isPtS.id = 122 := rfl
@[simp] theorem fm_isPtS_fresh : fm_isPtS.fresh = true := rfl
@[simp] theorem fm_isPtS_look (u : List Int) (t : List (List Int)) (s : Int) (a : VA u t) (hs : inS u.length s = true) : fm_isPtS.look [AL u t, I64 s] = some (.bool (decide (PT u t s.toNat))) :=
  lookF_of (X := List Int × List (List Int) × Int) (args := fun (u, t, s) => [AL u t, I64 s]) (pre := fun (u, t, s) => (VA u t) ∧ (inS u.length s = true)) (val := fun (u, t, s) => .bool (decide (PT u t s.toNat))) (by
  rintro ⟨u, t, s⟩ ⟨u', t', s'⟩ h
  simp at h
  try simp only [and_assoc] at h
  obtain ⟨rfl, rfl, rfl⟩ := h
  rfl) (u, t, s) ⟨a, hs⟩
attribute [irreducible] fm_isPtS
set_option maxHeartbeats 4000000 in
theorem isPtI_pc (u : List Int) (t : List (List Int)) (s : Int) (a : VA u t) (hs : inS u.length s = true) : PC Try.prog 120 [AL u t, I64 s] none true (fun r _ => r = .bool (decide (PT u t s.toNat))) := by
  obtain ⟨s, rfl, hs2⟩ := inS_ex hs
  simp only [Int.toNat_natCast]
  have v := a.lat
  have tf := a.tf
  have hp := v.pos
  have h6 := v.six
  have hul : u.length ≤ 1099511627776 := by omega
  have w1 : IntKind.i64.wrap ((u.length : Int) - 1) = ((u.length - 1 : Nat) : Int) := by rw [wrap64 (by omega) (by omega)]; omega
  refine pcT [fm_hasI, fm_implyI, fm_meetI, fm_joinI] fok_120 ?_
  simp [fa_120]
  refine cutW (tabK_mono _) [(18, .bool (!(s.testBit 0 && s.testBit (u.length - 1))))] (by
    cases b0 : s.testBit 0
    · simp [b0]
    · simp [b0, w1, show ((u.length - 1 : Nat) : Int) ≤ 63 by omega]) ?_
  simp
  refine ⟨fun h P => ?_, fun b0 b1 => ?_⟩
  · have h0 := P.bot
    have h1 := P.top
    rw [Nat.testBit_zero, decide_eq_true_eq] at h0
    rcases h with c | c
    · omega
    · rw [c] at h1; cases h1
  have b0 : s.testBit 0 = true := by rw [Nat.testBit_zero, decide_eq_true_eq]; exact b0
  refine loopA (tabK_mono _) u.length (fun i => [(22, I64 i)]) (fun _ => []) (fun x => ∀ y, y < u.length → ptB u t s x y = false) (by simp) (by simp) (fun x g hx hP => ?_)
  simp [lb_120_4, wrap_succ hx hul]
  refine ⟨fun h2 => ?_, fun h2 => ?_⟩
  · refine loopA (tabK_mono _) u.length (fun i => [(28, I64 i)]) (fun _ => []) (fun y => ptB u t s x y = false) (by simp) (by simp) (fun y g2 hy hQ => ?_)
    simp only [lb_120_7]
    simp [wrap_succ hy hul]
    refine ⟨fun h3 => ?_, fun h3 => ?_⟩
    · refine cutW (tabK_mono _) [(40, .bool (!(s.testBit x && s.testBit y)))] (by
        cases c1 : s.testBit x
        · simp [c1, show (x : Int) ≤ 63 by omega]
        · simp [c1, show (x : Int) ≤ 63 by omega, show (y : Int) ≤ 63 by omega]) ?_
      simp
      refine ⟨fun hc => ?_, fun c1 c2 => ?_⟩
      · have hb : ptB u t s x y = false := by
          unfold ptB
          rcases hc with k | k
          · rw [k]; rfl
          · rw [k, Bool.and_false]; rfl
        simp [wrap_succ hy hul]
        exact ⟨h3, hb⟩
      refine cutW (tabK_mono _) [(80, .bool (ptB u t s x y))] (by
        have s1 := a.tn_int h2 h3
        have s2 := a.tn_lt h2 h3
        have hlen := a.len
        have hrow := a.rows x h2
        have l1 := fm_implyI_look u t x y tf (by omega) (by omega) (by omega) (by omega)
        have l2 := fm_meetI_look u x y h6 (by omega) (by omega) (by omega) (by omega)
        have l3 := fm_joinI_look u x y v.sm (by omega) (by omega) (by omega) (by omega)
        simp only [Int.toNat_natCast] at l1 l2 l3
        rw [a.im_int] at l1
        rw [v.mt_int h2 h3] at l2
        rw [v.jo_int h2 h3] at l3
        have r1 := a.im_lt (x := x) (y := y)
        have r2 := v.mt_lt h2 h3
        have r3 := v.jo_lt h2 h3
        unfold ptB
        rw [c1, c2]
        generalize tn t x y = z1 at *
        generalize im u t x y = z2 at *
        generalize mt u x y = z3 at *
        generalize jo u x y = z4 at *
        cases k1 : s.testBit z1
        · simp [k1, h2, h3, s1, hlen, hrow, show (z1 : Int) ≤ 63 by omega]
        · cases k2 : s.testBit z2
          · simp [k1, k2, h2, h3, s1, hlen, hrow, l1, show (z1 : Int) ≤ 63 by omega, show (z2 : Int) ≤ 63 by omega]
          · cases k3 : s.testBit z3
            · simp [k1, k2, k3, h2, h3, s1, hlen, hrow, l1, l2, show (z1 : Int) ≤ 63 by omega, show (z2 : Int) ≤ 63 by omega, show (z3 : Int) ≤ 63 by omega]
            · simp [k1, k2, k3, h2, h3, s1, hlen, hrow, l1, l2, l3, show (z1 : Int) ≤ 63 by omega, show (z2 : Int) ≤ 63 by omega, show (z3 : Int) ≤ 63 by omega, show (z4 : Int) ≤ 63 by omega]) ?_
      cases hb : ptB u t s x y
      · simp [wrap_succ hy hul]
        exact ⟨h3, hb⟩
      · simp
        intro P
        have := P.at h2 h3
        rw [hb] at this
        cases this
    · simp [wrap_succ hx hul]
      exact ⟨h2, fun y hy => hQ y (by omega)⟩
  · exact pt_of hs2 b0 b1 fun x hx => hP x (by omega)
noncomputable def fm_isPtI : Fam Try.prog := mkFam (X := List Int × List (List Int) × Int) 120 true (fun (u, t, s) => [AL u t, I64 s]) (fun (u, t, s) => (VA u t) ∧ (inS u.length s = true)) (fun (u, t, s) => .bool (decide (PT u t s.toNat))) (by
  rintro ⟨u, t, s⟩ ⟨a, hs⟩
  exact isPtI_pc u t s a hs)
@[simp] theorem fm_isPtI_id : fm_isPtI.id = 120 := rfl
@[simp] theorem fm_isPtI_fresh : fm_isPtI.fresh = true := rfl
@[simp] theorem fm_isPtI_look (u : List Int) (t : List (List Int)) (s : Int) (a : VA u t) (hs : inS u.length s = true) : fm_isPtI.look [AL u t, I64 s] = some (.bool (decide (PT u t s.toNat))) :=
  lookF_of (X := List Int × List (List Int) × Int) (args := fun (u, t, s) => [AL u t, I64 s]) (pre := fun (u, t, s) => (VA u t) ∧ (inS u.length s = true)) (val := fun (u, t, s) => .bool (decide (PT u t s.toNat))) (by
  rintro ⟨u, t, s⟩ ⟨u', t', s'⟩ h
  simp at h
  try simp only [and_assoc] at h
  obtain ⟨rfl, rfl, rfl⟩ := h
  rfl) (u, t, s) ⟨a, hs⟩
attribute [irreducible] fm_isPtI
noncomputable def prtR (u : List Int) (t : List (List Int)) : List Int := if VA u t then natL (prtN u t (2 ^ u.length)) else []
theorem PrtS_pc (u : List Int) (t : List (List Int)) (hu : Big u.length) (ht : BigR t) : PC Try.prog 42 [AL u t] none true (fun r _ => r = IO1 (prtR u t)) := by
  refine pcT [fm_validAlgebraS, fm_power, fm_isPtS] fok_42 ?_
  unfold prtR
  by_cases a : VA u t
  · have v := a.lat
    have h6 := v.six
    have h64 := p2le h6
    have hp2 : (2 : Int) ^ u.length = ((2 ^ u.length : Nat) : Int) := p2i
    simp [fa_42, hu, ht, a]
    refine loopX (tabK_mono _) (2 ^ u.length) (fun i γ => [(3, .arr 64 γ), (4, I64 i)]) (fun i γ => [⟨64, γ, .arr 1 (ints (natL (prtN u t i)))⟩]) (fun _ _ => True) 1 (by simp) (by simp [prtN_zero, ints_nil]) trivial (fun i γ g hi _ => ?_)
    have hcond : ((i : Int) < 2 ^ u.length) ↔ i < 2 ^ u.length := by rw [hp2]; omega
    simp [lb_42_5, show (u.length : Int) ≤ 61 by omega, hcond, wrap_succ hi (show 2 ^ u.length ≤ 1099511627776 by omega)]
    refine ⟨fun h => ?_, fun h => ?_⟩
    · have hle := prtN_len (u := u) (t := t) (m := i)
      have hs := prtN_succ (u := u) (t := t) (m := i)
      have hin := inS_nat h
      generalize prtN u t i = l0 at *
      simp [a, hin, wrap_succ hi (show 2 ^ u.length ≤ 1099511627776 by omega)]
      refine ⟨fun F => ?_, fun F => ?_⟩
      · rw [if_pos F] at hs
        simp [hs]
        exact ⟨leBig (by omega), h⟩
      · rw [if_neg F] at hs
        simp [hs]
        exact h
    · obtain rfl : i = 2 ^ u.length := by omega
      simp
  · simp [fa_42, hu, ht, a, ints_nil]
noncomputable def fm_PrtS : Fam Try.prog := mkFam (X := List Int × List (List Int)) 42 true (fun (u, t) => [AL u t]) (fun (u, t) => (Big u.length) ∧ (BigR t)) (fun (u, t) => IO1 (prtR u t)) (by
  rintro ⟨u, t⟩ ⟨hu, ht⟩
  exact PrtS_pc u t hu ht)
@[simp] theorem fm_PrtS_id : fm_PrtS.id = 42 := rfl
@[simp] theorem fm_PrtS_fresh : fm_PrtS.fresh = true := rfl
@[simp] theorem fm_PrtS_look (u : List Int) (t : List (List Int)) (hu : Big u.length) (ht : BigR t) : fm_PrtS.look [AL u t] = some (IO1 (prtR u t)) :=
  lookF_of (X := List Int × List (List Int)) (args := fun (u, t) => [AL u t]) (pre := fun (u, t) => (Big u.length) ∧ (BigR t)) (val := fun (u, t) => IO1 (prtR u t)) (by
  rintro ⟨u, t⟩ ⟨u', t'⟩ h
  simp at h
  try simp only [and_assoc] at h
  obtain ⟨rfl, rfl⟩ := h
  rfl) (u, t) ⟨hu, ht⟩
attribute [irreducible] fm_PrtS
theorem PrtI_pc (u : List Int) (t : List (List Int)) (hu : Big u.length) (ht : BigR t) : PC Try.prog 41 [AL u t] none true (fun r _ => r = IO1 (prtR u t)) := by
  refine pcT [fm_validAlgebraI, fm_isPtI] fok_41 ?_
  unfold prtR
  by_cases a : VA u t
  · have v := a.lat
    have h6 := v.six
    have h64 := p2le h6
    have hw := shl2w h6
    have hp2 : (2 : Int) ^ u.length = ((2 ^ u.length : Nat) : Int) := p2i
    simp [fa_41, hu, ht, a]
    refine loopX (tabK_mono _) (2 ^ u.length) (fun i γ => [(3, .arr 64 γ), (4, I64 i)]) (fun i γ => [⟨64, γ, .arr 1 (ints (natL (prtN u t i)))⟩]) (fun _ _ => True) 1 (by simp) (by simp [prtN_zero, ints_nil]) trivial (fun i γ g hi _ => ?_)
    have hcond : ((i : Int) < 2 ^ u.length) ↔ i < 2 ^ u.length := by rw [hp2]; omega
    simp [lb_41_5, hw, hcond, wrap_succ hi (show 2 ^ u.length ≤ 1099511627776 by omega)]
    refine ⟨fun h => ?_, fun h => ?_⟩
    · have hle := prtN_len (u := u) (t := t) (m := i)
      have hs := prtN_succ (u := u) (t := t) (m := i)
      have hin := inS_nat h
      generalize prtN u t i = l0 at *
      simp [a, hin, wrap_succ hi (show 2 ^ u.length ≤ 1099511627776 by omega)]
      refine ⟨fun F => ?_, fun F => ?_⟩
      · rw [if_pos F] at hs
        simp [hs]
        exact ⟨leBig (by omega), h⟩
      · rw [if_neg F] at hs
        simp [hs]
        exact h
    · obtain rfl : i = 2 ^ u.length := by omega
      simp
  · simp [fa_41, hu, ht, a, ints_nil]
noncomputable def fm_PrtI : Fam Try.prog := mkFam (X := List Int × List (List Int)) 41 true (fun (u, t) => [AL u t]) (fun (u, t) => (Big u.length) ∧ (BigR t)) (fun (u, t) => IO1 (prtR u t)) (by
  rintro ⟨u, t⟩ ⟨hu, ht⟩
  exact PrtI_pc u t hu ht)
@[simp] theorem fm_PrtI_id : fm_PrtI.id = 41 := rfl
@[simp] theorem fm_PrtI_fresh : fm_PrtI.fresh = true := rfl
@[simp] theorem fm_PrtI_look (u : List Int) (t : List (List Int)) (hu : Big u.length) (ht : BigR t) : fm_PrtI.look [AL u t] = some (IO1 (prtR u t)) :=
  lookF_of (X := List Int × List (List Int)) (args := fun (u, t) => [AL u t]) (pre := fun (u, t) => (Big u.length) ∧ (BigR t)) (val := fun (u, t) => IO1 (prtR u t)) (by
  rintro ⟨u, t⟩ ⟨u', t'⟩ h
  simp at h
  try simp only [and_assoc] at h
  obtain ⟨rfl, rfl⟩ := h
  rfl) (u, t) ⟨hu, ht⟩
attribute [irreducible] fm_PrtI
end Go.PS
end

section
-- PRINTED by gen.py: clean texts of functions, and their tie to the program.
set_option maxRecDepth 100000
namespace Go.PS
open Go.Proofs
/-- laws.isIn -/
def an_37 : Ann := ⟨[], [(0, [0, 1]), (1, [0, 1, 5]), (2, [0, 1, 5, 9]), (4, [0, 1, 5, 17]), (5, [4]), (3, [0, 1, 5]), (6, [4])], [(2, [0, 1, 5], [])], []⟩
def lb_37_2 : AC :=
  (.seq
    (.seq
      (.region false [⟨some 6, (.mv (.t 5)), 3, none, 0⟩, ⟨some 7, (.mv (.t 0)), 23, none, 0⟩, ⟨some 8, (.len 23 (.t 7)), 3, none, 0⟩, ⟨some 9, (.bin .lss 3 (.t 6) (.t 8)), 4, none, 0⟩] (some [0, 1, 5, 9]))
      (.cond (.t 9)
        .skip
        (.exit 0)))
    (.seq
      (.block 1
        (.seq
          (.region false [⟨some 12, (.mv (.t 0)), 23, none, 0⟩, ⟨some 13, (.mv (.t 5)), 3, none, 0⟩, ⟨some 14, (.iaddr 23 (.t 12) (.t 13)), 0, none, 0⟩, ⟨some 15, (.load 3 (.t 14)), 3, none, 0⟩, ⟨some 16, (.mv (.t 1)), 3, none, 0⟩, ⟨some 17, (.bin .eql 3 (.t 15) (.t 16)), 4, none, 0⟩] (some [0, 1, 5, 17]))
          (.cond (.t 17)
            (.seq
              (.region false [⟨some 4, (.mv (.c (.bool true))), 4, none, 0⟩] (some [4]))
              .ret)
            .skip)))
      (.region false [⟨some 10, (.mv (.t 5)), 3, none, 0⟩, ⟨some 11, (.bin .add 3 (.t 10) (.c (.int .i64 1))), 3, none, 0⟩, ⟨some 5, (.mv (.t 11)), 3, none, 0⟩] (some [0, 1, 5]))))
def fa_37 : FnA := ⟨18, [.t 4],
  (.seq
    (.region false [⟨some 4, (.mv (.c (.bool false))), 4, none, 0⟩] (some [0, 1]))
    (.seq
      (.seq
        (.region false [⟨some 5, (.mv (.c (.int .i64 0))), 3, none, 0⟩] (some [0, 1, 5]))
        (.block 0
          (.loop [0, 1, 5] [] lb_37_2)))
      (.seq
        (.region false [⟨some 4, (.mv (.c (.bool false))), 4, none, 0⟩] (some [4]))
        .ret)))⟩
theorem fok_37 : FnOk Try.prog 37 fa_37 an_37 := ⟨Try.f37, _, Try.func37, rfl, by kernel_rfl, rfl, rfl, by decide, by kernel_rfl⟩
end Go.PS
end

section
-- Contracts: lists of the laws.
set_option maxRecDepth 100000
set_option linter.unusedVariables false
set_option linter.unusedSimpArgs false
namespace Go.PS
open Go.Proofs

theorem isInL_pc (l : List Int) (n : Int) (hl : Big l.length) : PC Try.prog 37 [IL l, I64 n] none true (fun r _ => r = .bool (decide (n ∈ l))) := by
  have hl := hl.le
  refine pcT [] fok_37 ?_
  simp [fa_37]
  refine loopA (tabK_mono _) l.length (fun i => [(5, I64 i)]) (fun _ => []) (fun j => ¬ gi l j = n) (by simp) (by simp) (fun i g hi hP => ?_)
  simp [lb_37_2, wrap_succ hi hl]
  refine ⟨fun h => ?_, fun h => ?_⟩
  · refine ⟨h, fun e => ?_, fun e => ?_⟩
    · rw [← e]; exact gi_mem h
    · exact ⟨h, e⟩
  · intro hx
    obtain ⟨j, hj, e⟩ := List.mem_iff_getElem.1 hx
    have := hP j (by omega)
    simp [gi, List.getElem?_eq_getElem hj] at this
    exact this e
noncomputable def fm_isInL : Fam Try.prog := mkFam (X := List Int × Int) 37 true (fun (l, n) => [IL l, I64 n]) (fun (l, n) => (Big l.length)) (fun (l, n) => .bool (decide (n ∈ l))) (by
  rintro ⟨l, n⟩ hl
  exact isInL_pc l n hl)
@[simp] theorem fm_isInL_id : fm_isInL.id = 37 := rfl
@[simp] theorem fm_isInL_fresh : fm_isInL.fresh = true := rfl
@[simp] theorem fm_isInL_look (l : List Int) (n : Int) (hl : Big l.length) : fm_isInL.look [IL l, I64 n] = some (.bool (decide (n ∈ l))) :=
  lookF_of (X := List Int × Int) (args := fun (l, n) => [IL l, I64 n]) (pre := fun (l, n) => (Big l.length)) (val := fun (l, n) => .bool (decide (n ∈ l))) (by
  rintro ⟨l, n⟩ ⟨l', n'⟩ h
  simp at h
  try simp only [and_assoc] at h
  obtain ⟨rfl, rfl⟩ := h
  rfl) (l, n) hl
attribute [irreducible] fm_isInL
end Go.PS
end

section
-- Draws of one algebra.
set_option maxRecDepth 100000
set_option linter.unusedVariables false
set_option linter.unusedSimpArgs false
namespace Go.PS
open Go.Proofs


end Go.PS
end

section
-- What the laws of elements have in common; the law of products.
set_option maxRecDepth 100000
set_option linter.unusedVariables false
set_option linter.unusedSimpArgs false
namespace Go.PS
open Go.Proofs

section
variable {u : List Int} {t : List (List Int)} {x y z : Nat}
end
end Go.PS
end

section
-- The laws of maps: images are parts, maps keep opposites.
set_option maxRecDepth 100000
set_option linter.unusedVariables false
set_option linter.unusedSimpArgs false
namespace Go.PS
open Go.Proofs

set_option maxHeartbeats 2000000 in
theorem FnImageOf_pc (c : List Int) (hl : Hu c.length) (hc : Byt c) : PC Try.prog 14 [BL c] none true (fun r _ => r = .bool true) := by
  have hl' := hl.le
  refine pcT [fm_drImg, fm_ImgI, fm_ImgS, fm_PrtI, fm_isInL] fok_14 ?_
  rcases Nat.lt_or_ge 1048576 c.length with q | q
  · simp [fa_14, show ((1048576 : Int) < c.length) by omega]
  · have hbig : Big c.length := by unfold Big; omega
    have l1 := fm_drImg_look c hc hbig
    obtain ⟨g1, g2, h7⟩ := moM_few (rdB_ok hc) (p := 0) (by omega)
    generalize moM (rdB c) 0 = Z at *
    obtain ⟨⟨⟨u, t⟩, ⟨v, s⟩, f⟩, p1⟩ := Z
    have hu := g1.big
    have ht := g1.bigR
    have hv := g2.big
    have hs := g2.bigR
    dsimp only at *
    have hf : Big f.length := by unfold Big; omega
    have m1 := fm_ImgI_look u t v s f hu ht hv hs hf
    have m2 := fm_ImgS_look u t v s f hu ht hv hs hf
    simp [fa_14, show ¬ ((1048576 : Int) < c.length) by omega, show ((c.length : Int) ≤ 1048576) by omega, l1, m1]
    refine cutW (tabK_mono _) [(29, .bool (decide (imV u t v s f < 0)))] (by simp [m2]) ?_
    simp [m2]
    intro h
    have hB : imB u t v s f = true := by
      cases hb : imB u t v s f
      · simp [imV, hb] at h
      · rfl
    obtain ⟨a, b, m⟩ := imB_iff.1 hB
    have eV : imV u t v s f = (imgN f f.length : Nat) := by unfold imV; rw [if_pos hB]
    have hpt := pt_img a b m
    rw [← m.len] at hpt
    have h6 := b.lat.six
    have h64 := p2le h6
    have hn := prtN_len (u := v) (t := s) (m := 2 ^ v.length)
    have hP : prtR v s = natL (prtN v s (2 ^ v.length)) := by unfold prtR; rw [if_pos b]
    have hin : ((imgN f f.length : Nat) : Int) ∈ natL (prtN v s (2 ^ v.length)) := mem_natL_nat.2 (mem_prt.2 hpt)
    have m3 := fm_PrtI_look v s hv hs
    rw [hP] at m3
    rw [eV]
    have hlb : Big (natL (prtN v s (2 ^ v.length))).length := by unfold Big; simp; omega
    generalize natL (prtN v s (2 ^ v.length)) = l at *
    have m4 := fm_isInL_look l (imgN f f.length : Nat) hlb
    rw [decide_eq_true hin] at m4
    simp [m3, m4]

end Go.PS
end
