/- Part 6 of what the last text proves: Products are at most meets: the law holds at every input. -/
import Derived.Test.YteegdecbdobdpaaQg5
section
-- Contracts: algebras that are drawn and may be invalid.
set_option maxRecDepth 100000
set_option linter.unusedVariables false
set_option linter.unusedSimpArgs false
namespace Go.PS
open Go.Proofs

/-- An algebra that may be bent. -/
def bnM (b : List Int) (p : Nat) (u : List Int) (t : List (List Int)) : Alg × Nat :=
  if 0 < pkM b p 16 then ((u, t), p + 1)
  else (let k := (pkM b (p + 1) u.length).toNat; let c := pkM b (p + 2) 5
    if c = 0 then ((u, t.set k ((gr t k).set (pkM b (p + 3) u.length).toNat (gi [0, 1, -1, 6] (pkM b (p + 4) 4).toNat))), p + 5)
    else if c = 1 then ((u.set k (gi [0, 3, -1] (pkM b (p + 3) 3).toNat), t), p + 4)
    else if c = 2 then ((u, t.tail), p + 3)
    else if c = 3 then ((u, t.set k ((gr t k).tail)), p + 3)
    else ((u ++ [64], t), p + 3))

-- PRINTED by dagp.py
set_option maxHeartbeats 2000000 in
theorem bent_dag8 {Q : St → Prop} {b : List Int} {p : Nat} {u : List Int} {t : List (List Int)} {k y x1 x2 x3 : Nat} {z : Int} (hkt : k < t.length) (hyr : y < (gr t k).length) (l0 : fw_pick.look [.ptr 0 0 0, I64 u.length] (RS b (p + 3)) = some (I64 y, RS b (p + 4))) (l1 : fw_one.look [.ptr 0 0 0, .list 1 [.int .i64 0, .int .i64 1, .int .i64 (-1), .int .i64 6]] (RS b (p + 4)) = some (I64 z, RS b (p + 5)))
    (hQ : ∀ tb g, getT tb 4 = .ptr 32 1 0 → getT tb 5 = .ptr 40 x1 0 → Q ⟨tb, [⟨0, 0, .cells (RS b (p + 5))⟩, ⟨32, 1, .cells [.nil, .nil]⟩, ⟨40, x1, .cells [.arr 88 x2, .arr 136 x3]⟩, ⟨88, x2, .arr 1 (ints u)⟩, ⟨136, x3, .arr 1 (orowsD (t.set k ((gr t k).set y z)))⟩], g⟩) : ∀ tb g, getT tb 0 = .ptr 0 0 0 → getT tb 4 = .ptr 32 1 0 → getT tb 5 = .ptr 40 x1 0 → getT tb 6 = I64 (k : Int) → exT C0 0 (inlW C0 [fm_copyTabS] [fw_pick, fw_one] 0 0) ro_174_8 Q ex_174_8_0 ⟨tb, [⟨0, 0, .cells (RS b (p + 3))⟩, ⟨32, 1, .cells [.nil, .nil]⟩, ⟨40, x1, .cells [.arr 88 x2, .arr 136 x3]⟩, ⟨88, x2, .arr 1 (ints u)⟩, ⟨136, x3, .arr 1 (orowsD t)⟩], g⟩ := by
  have n32767 : ∀ tb g, getT tb 0 = .ptr 0 0 0 → getT tb 4 = .ptr 32 1 0 → getT tb 5 = .ptr 40 x1 0 → getT tb 6 = I64 (k : Int) → getT tb 33 = .ptr 40 x1 1 → getT tb 34 = .arr 136 x3 → getT tb 35 = I64 (k : Int) → getT tb 36 = .ptr 136 x3 k → getT tb 37 = .row 136 x3 k → getT tb 38 = .ptr 0 0 0 → getT tb 39 = .ptr 40 x1 0 → getT tb 40 = .arr 88 x2 → getT tb 41 = I64 (u.length : Int) → getT tb 42 = I64 (y : Int) → getT tb 43 = .ptr 0 0 0 → getT tb 44 = .list 1 [.int .i64 0, .int .i64 1, .int .i64 (-1), .int .i64 6] → getT tb 45 = I64 z → getT tb 46 = .rptr 136 x3 k y → exT C0 0 (inlW C0 [fm_copyTabS] [fw_pick, fw_one] 0 0) ro_174_8 Q ex_174_8_32767 ⟨tb, [⟨0, 0, .cells (RS b (p + 5))⟩, ⟨32, 1, .cells [.nil, .nil]⟩, ⟨40, x1, .cells [.arr 88 x2, .arr 136 x3]⟩, ⟨88, x2, .arr 1 (ints u)⟩, ⟨136, x3, .arr 1 (orowsD (t.set k ((gr t k).set y z)))⟩], g⟩ := by
    intro tb g e0 e4 e5 e6 e33 e34 e35 e36 e37 e38 e39 e40 e41 e42 e43 e44 e45 e46
    unfold ex_174_8_32767
    exact hQ tb g e4 e5
  have n16383 : ∀ tb g, getT tb 0 = .ptr 0 0 0 → getT tb 4 = .ptr 32 1 0 → getT tb 5 = .ptr 40 x1 0 → getT tb 6 = I64 (k : Int) → getT tb 33 = .ptr 40 x1 1 → getT tb 34 = .arr 136 x3 → getT tb 35 = I64 (k : Int) → getT tb 36 = .ptr 136 x3 k → getT tb 37 = .row 136 x3 k → getT tb 38 = .ptr 0 0 0 → getT tb 39 = .ptr 40 x1 0 → getT tb 40 = .arr 88 x2 → getT tb 41 = I64 (u.length : Int) → getT tb 42 = I64 (y : Int) → getT tb 43 = .ptr 0 0 0 → getT tb 44 = .list 1 [.int .i64 0, .int .i64 1, .int .i64 (-1), .int .i64 6] → getT tb 45 = I64 z → getT tb 46 = .rptr 136 x3 k y → exT C0 0 (inlW C0 [fm_copyTabS] [fw_pick, fw_one] 0 0) ro_174_8 Q ex_174_8_16383 ⟨tb, [⟨0, 0, .cells (RS b (p + 5))⟩, ⟨32, 1, .cells [.nil, .nil]⟩, ⟨40, x1, .cells [.arr 88 x2, .arr 136 x3]⟩, ⟨88, x2, .arr 1 (ints u)⟩, ⟨136, x3, .arr 1 (orowsD t)⟩], g⟩ := by
    intro tb g e0 e4 e5 e6 e33 e34 e35 e36 e37 e38 e39 e40 e41 e42 e43 e44 e45 e46
    unfold ex_174_8_16383
    simp only [exT_alt, exT_one, exT_stop, and_true]
    rw [ro_174_8_14]
    simp [callDOW, l0, l1, rg4, hkt, hyr, orowsD_ge, rowAt, rowB, e0, e4, e5, e6, e33, e34, e35, e36, e37, e38, e39, e40, e41, e42, e43, e44, e45, e46]
    refine n32767 _ _ ?_ ?_ ?_ ?_ ?_ ?_ ?_ ?_ ?_ ?_ ?_ ?_ ?_ ?_ ?_ ?_ ?_ ?_ <;> simp [getT, e0, e4, e5, e6, e33, e34, e35, e36, e37, e38, e39, e40, e41, e42, e43, e44, e45, e46]
  have n8191 : ∀ tb g, getT tb 0 = .ptr 0 0 0 → getT tb 4 = .ptr 32 1 0 → getT tb 5 = .ptr 40 x1 0 → getT tb 6 = I64 (k : Int) → getT tb 33 = .ptr 40 x1 1 → getT tb 34 = .arr 136 x3 → getT tb 35 = I64 (k : Int) → getT tb 36 = .ptr 136 x3 k → getT tb 37 = .row 136 x3 k → getT tb 38 = .ptr 0 0 0 → getT tb 39 = .ptr 40 x1 0 → getT tb 40 = .arr 88 x2 → getT tb 41 = I64 (u.length : Int) → getT tb 42 = I64 (y : Int) → getT tb 43 = .ptr 0 0 0 → getT tb 44 = .list 1 [.int .i64 0, .int .i64 1, .int .i64 (-1), .int .i64 6] → getT tb 45 = I64 z → exT C0 0 (inlW C0 [fm_copyTabS] [fw_pick, fw_one] 0 0) ro_174_8 Q ex_174_8_8191 ⟨tb, [⟨0, 0, .cells (RS b (p + 5))⟩, ⟨32, 1, .cells [.nil, .nil]⟩, ⟨40, x1, .cells [.arr 88 x2, .arr 136 x3]⟩, ⟨88, x2, .arr 1 (ints u)⟩, ⟨136, x3, .arr 1 (orowsD t)⟩], g⟩ := by
    intro tb g e0 e4 e5 e6 e33 e34 e35 e36 e37 e38 e39 e40 e41 e42 e43 e44 e45
    unfold ex_174_8_8191
    simp only [exT_alt, exT_one, exT_stop, and_true]
    rw [ro_174_8_13]
    simp [callDOW, l0, l1, rg4, hkt, hyr, orowsD_ge, rowAt, rowB, e0, e4, e5, e6, e33, e34, e35, e36, e37, e38, e39, e40, e41, e42, e43, e44, e45]
    refine n16383 _ _ ?_ ?_ ?_ ?_ ?_ ?_ ?_ ?_ ?_ ?_ ?_ ?_ ?_ ?_ ?_ ?_ ?_ ?_ <;> simp [getT, e0, e4, e5, e6, e33, e34, e35, e36, e37, e38, e39, e40, e41, e42, e43, e44, e45]
  have n8175 : ∀ tb g, getT tb 0 = .ptr 0 0 0 → getT tb 4 = .ptr 32 1 0 → getT tb 5 = .ptr 40 x1 0 → getT tb 6 = I64 (k : Int) → getT tb 33 = .ptr 40 x1 1 → getT tb 34 = .arr 136 x3 → getT tb 35 = I64 (k : Int) → getT tb 36 = .ptr 136 x3 k → getT tb 38 = .ptr 0 0 0 → getT tb 39 = .ptr 40 x1 0 → getT tb 40 = .arr 88 x2 → getT tb 41 = I64 (u.length : Int) → getT tb 42 = I64 (y : Int) → getT tb 43 = .ptr 0 0 0 → getT tb 44 = .list 1 [.int .i64 0, .int .i64 1, .int .i64 (-1), .int .i64 6] → getT tb 45 = I64 z → exT C0 0 (inlW C0 [fm_copyTabS] [fw_pick, fw_one] 0 0) ro_174_8 Q ex_174_8_8175 ⟨tb, [⟨0, 0, .cells (RS b (p + 5))⟩, ⟨32, 1, .cells [.nil, .nil]⟩, ⟨40, x1, .cells [.arr 88 x2, .arr 136 x3]⟩, ⟨88, x2, .arr 1 (ints u)⟩, ⟨136, x3, .arr 1 (orowsD t)⟩], g⟩ := by
    intro tb g e0 e4 e5 e6 e33 e34 e35 e36 e38 e39 e40 e41 e42 e43 e44 e45
    unfold ex_174_8_8175
    simp only [exT_alt, exT_one, exT_stop, and_true]
    rw [ro_174_8_4]
    simp [callDOW, l0, l1, rg4, hkt, hyr, orowsD_ge, rowAt, rowB, e0, e4, e5, e6, e33, e34, e35, e36, e38, e39, e40, e41, e42, e43, e44, e45]
    refine n8191 _ _ ?_ ?_ ?_ ?_ ?_ ?_ ?_ ?_ ?_ ?_ ?_ ?_ ?_ ?_ ?_ ?_ ?_ <;> simp [getT, e0, e4, e5, e6, e33, e34, e35, e36, e38, e39, e40, e41, e42, e43, e44, e45]
  have n8167 : ∀ tb g, getT tb 0 = .ptr 0 0 0 → getT tb 4 = .ptr 32 1 0 → getT tb 5 = .ptr 40 x1 0 → getT tb 6 = I64 (k : Int) → getT tb 33 = .ptr 40 x1 1 → getT tb 34 = .arr 136 x3 → getT tb 35 = I64 (k : Int) → getT tb 38 = .ptr 0 0 0 → getT tb 39 = .ptr 40 x1 0 → getT tb 40 = .arr 88 x2 → getT tb 41 = I64 (u.length : Int) → getT tb 42 = I64 (y : Int) → getT tb 43 = .ptr 0 0 0 → getT tb 44 = .list 1 [.int .i64 0, .int .i64 1, .int .i64 (-1), .int .i64 6] → getT tb 45 = I64 z → exT C0 0 (inlW C0 [fm_copyTabS] [fw_pick, fw_one] 0 0) ro_174_8 Q ex_174_8_8167 ⟨tb, [⟨0, 0, .cells (RS b (p + 5))⟩, ⟨32, 1, .cells [.nil, .nil]⟩, ⟨40, x1, .cells [.arr 88 x2, .arr 136 x3]⟩, ⟨88, x2, .arr 1 (ints u)⟩, ⟨136, x3, .arr 1 (orowsD t)⟩], g⟩ := by
    intro tb g e0 e4 e5 e6 e33 e34 e35 e38 e39 e40 e41 e42 e43 e44 e45
    unfold ex_174_8_8167
    simp only [exT_alt, exT_one, exT_stop, and_true]
    rw [ro_174_8_3]
    simp [callDOW, l0, l1, rg4, hkt, hyr, orowsD_ge, rowAt, rowB, e0, e4, e5, e6, e33, e34, e35, e38, e39, e40, e41, e42, e43, e44, e45]
    refine n8175 _ _ ?_ ?_ ?_ ?_ ?_ ?_ ?_ ?_ ?_ ?_ ?_ ?_ ?_ ?_ ?_ ?_ <;> simp [getT, e0, e4, e5, e6, e33, e34, e35, e38, e39, e40, e41, e42, e43, e44, e45]
  have n8165 : ∀ tb g, getT tb 0 = .ptr 0 0 0 → getT tb 4 = .ptr 32 1 0 → getT tb 5 = .ptr 40 x1 0 → getT tb 6 = I64 (k : Int) → getT tb 33 = .ptr 40 x1 1 → getT tb 35 = I64 (k : Int) → getT tb 38 = .ptr 0 0 0 → getT tb 39 = .ptr 40 x1 0 → getT tb 40 = .arr 88 x2 → getT tb 41 = I64 (u.length : Int) → getT tb 42 = I64 (y : Int) → getT tb 43 = .ptr 0 0 0 → getT tb 44 = .list 1 [.int .i64 0, .int .i64 1, .int .i64 (-1), .int .i64 6] → getT tb 45 = I64 z → exT C0 0 (inlW C0 [fm_copyTabS] [fw_pick, fw_one] 0 0) ro_174_8 Q ex_174_8_8165 ⟨tb, [⟨0, 0, .cells (RS b (p + 5))⟩, ⟨32, 1, .cells [.nil, .nil]⟩, ⟨40, x1, .cells [.arr 88 x2, .arr 136 x3]⟩, ⟨88, x2, .arr 1 (ints u)⟩, ⟨136, x3, .arr 1 (orowsD t)⟩], g⟩ := by
    intro tb g e0 e4 e5 e6 e33 e35 e38 e39 e40 e41 e42 e43 e44 e45
    unfold ex_174_8_8165
    simp only [exT_alt, exT_one, exT_stop, and_true]
    rw [ro_174_8_1]
    simp [callDOW, l0, l1, rg4, hkt, hyr, orowsD_ge, rowAt, rowB, e0, e4, e5, e6, e33, e35, e38, e39, e40, e41, e42, e43, e44, e45]
    refine n8167 _ _ ?_ ?_ ?_ ?_ ?_ ?_ ?_ ?_ ?_ ?_ ?_ ?_ ?_ ?_ ?_ <;> simp [getT, e0, e4, e5, e6, e33, e35, e38, e39, e40, e41, e42, e43, e44, e45]
  have n8164 : ∀ tb g, getT tb 0 = .ptr 0 0 0 → getT tb 4 = .ptr 32 1 0 → getT tb 5 = .ptr 40 x1 0 → getT tb 6 = I64 (k : Int) → getT tb 35 = I64 (k : Int) → getT tb 38 = .ptr 0 0 0 → getT tb 39 = .ptr 40 x1 0 → getT tb 40 = .arr 88 x2 → getT tb 41 = I64 (u.length : Int) → getT tb 42 = I64 (y : Int) → getT tb 43 = .ptr 0 0 0 → getT tb 44 = .list 1 [.int .i64 0, .int .i64 1, .int .i64 (-1), .int .i64 6] → getT tb 45 = I64 z → exT C0 0 (inlW C0 [fm_copyTabS] [fw_pick, fw_one] 0 0) ro_174_8 Q ex_174_8_8164 ⟨tb, [⟨0, 0, .cells (RS b (p + 5))⟩, ⟨32, 1, .cells [.nil, .nil]⟩, ⟨40, x1, .cells [.arr 88 x2, .arr 136 x3]⟩, ⟨88, x2, .arr 1 (ints u)⟩, ⟨136, x3, .arr 1 (orowsD t)⟩], g⟩ := by
    intro tb g e0 e4 e5 e6 e35 e38 e39 e40 e41 e42 e43 e44 e45
    unfold ex_174_8_8164
    simp only [exT_alt, exT_one, exT_stop, and_true]
    rw [ro_174_8_0]
    simp [callDOW, l0, l1, rg4, hkt, hyr, orowsD_ge, rowAt, rowB, e0, e4, e5, e6, e35, e38, e39, e40, e41, e42, e43, e44, e45]
    refine n8165 _ _ ?_ ?_ ?_ ?_ ?_ ?_ ?_ ?_ ?_ ?_ ?_ ?_ ?_ ?_ <;> simp [getT, e0, e4, e5, e6, e35, e38, e39, e40, e41, e42, e43, e44, e45]
  have n4095 : ∀ tb g, getT tb 0 = .ptr 0 0 0 → getT tb 4 = .ptr 32 1 0 → getT tb 5 = .ptr 40 x1 0 → getT tb 6 = I64 (k : Int) → getT tb 33 = .ptr 40 x1 1 → getT tb 34 = .arr 136 x3 → getT tb 35 = I64 (k : Int) → getT tb 36 = .ptr 136 x3 k → getT tb 37 = .row 136 x3 k → getT tb 38 = .ptr 0 0 0 → getT tb 39 = .ptr 40 x1 0 → getT tb 40 = .arr 88 x2 → getT tb 41 = I64 (u.length : Int) → getT tb 42 = I64 (y : Int) → getT tb 43 = .ptr 0 0 0 → getT tb 44 = .list 1 [.int .i64 0, .int .i64 1, .int .i64 (-1), .int .i64 6] → exT C0 0 (inlW C0 [fm_copyTabS] [fw_pick, fw_one] 0 0) ro_174_8 Q ex_174_8_4095 ⟨tb, [⟨0, 0, .cells (RS b (p + 4))⟩, ⟨32, 1, .cells [.nil, .nil]⟩, ⟨40, x1, .cells [.arr 88 x2, .arr 136 x3]⟩, ⟨88, x2, .arr 1 (ints u)⟩, ⟨136, x3, .arr 1 (orowsD t)⟩], g⟩ := by
    intro tb g e0 e4 e5 e6 e33 e34 e35 e36 e37 e38 e39 e40 e41 e42 e43 e44
    unfold ex_174_8_4095
    simp only [exT_alt, exT_one, exT_stop, and_true]
    rw [ro_174_8_12]
    simp [callDOW, l0, l1, rg4, hkt, hyr, orowsD_ge, rowAt, rowB, e0, e4, e5, e6, e33, e34, e35, e36, e37, e38, e39, e40, e41, e42, e43, e44]
    refine n8191 _ _ ?_ ?_ ?_ ?_ ?_ ?_ ?_ ?_ ?_ ?_ ?_ ?_ ?_ ?_ ?_ ?_ ?_ <;> simp [getT, e0, e4, e5, e6, e33, e34, e35, e36, e37, e38, e39, e40, e41, e42, e43, e44]
  have n4079 : ∀ tb g, getT tb 0 = .ptr 0 0 0 → getT tb 4 = .ptr 32 1 0 → getT tb 5 = .ptr 40 x1 0 → getT tb 6 = I64 (k : Int) → getT tb 33 = .ptr 40 x1 1 → getT tb 34 = .arr 136 x3 → getT tb 35 = I64 (k : Int) → getT tb 36 = .ptr 136 x3 k → getT tb 38 = .ptr 0 0 0 → getT tb 39 = .ptr 40 x1 0 → getT tb 40 = .arr 88 x2 → getT tb 41 = I64 (u.length : Int) → getT tb 42 = I64 (y : Int) → getT tb 43 = .ptr 0 0 0 → getT tb 44 = .list 1 [.int .i64 0, .int .i64 1, .int .i64 (-1), .int .i64 6] → exT C0 0 (inlW C0 [fm_copyTabS] [fw_pick, fw_one] 0 0) ro_174_8 Q ex_174_8_4079 ⟨tb, [⟨0, 0, .cells (RS b (p + 4))⟩, ⟨32, 1, .cells [.nil, .nil]⟩, ⟨40, x1, .cells [.arr 88 x2, .arr 136 x3]⟩, ⟨88, x2, .arr 1 (ints u)⟩, ⟨136, x3, .arr 1 (orowsD t)⟩], g⟩ := by
    intro tb g e0 e4 e5 e6 e33 e34 e35 e36 e38 e39 e40 e41 e42 e43 e44
    unfold ex_174_8_4079
    simp only [exT_alt, exT_one, exT_stop, and_true]
    refine ⟨?_, ?_⟩
    · rw [ro_174_8_4]
      simp [callDOW, l0, l1, rg4, hkt, hyr, orowsD_ge, rowAt, rowB, e0, e4, e5, e6, e33, e34, e35, e36, e38, e39, e40, e41, e42, e43, e44]
      refine n4095 _ _ ?_ ?_ ?_ ?_ ?_ ?_ ?_ ?_ ?_ ?_ ?_ ?_ ?_ ?_ ?_ ?_ <;> simp [getT, e0, e4, e5, e6, e33, e34, e35, e36, e38, e39, e40, e41, e42, e43, e44]
    · rw [ro_174_8_12]
      simp [callDOW, l0, l1, rg4, hkt, hyr, orowsD_ge, rowAt, rowB, e0, e4, e5, e6, e33, e34, e35, e36, e38, e39, e40, e41, e42, e43, e44]
      refine n8175 _ _ ?_ ?_ ?_ ?_ ?_ ?_ ?_ ?_ ?_ ?_ ?_ ?_ ?_ ?_ ?_ ?_ <;> simp [getT, e0, e4, e5, e6, e33, e34, e35, e36, e38, e39, e40, e41, e42, e43, e44]
  have n4071 : ∀ tb g, getT tb 0 = .ptr 0 0 0 → getT tb 4 = .ptr 32 1 0 → getT tb 5 = .ptr 40 x1 0 → getT tb 6 = I64 (k : Int) → getT tb 33 = .ptr 40 x1 1 → getT tb 34 = .arr 136 x3 → getT tb 35 = I64 (k : Int) → getT tb 38 = .ptr 0 0 0 → getT tb 39 = .ptr 40 x1 0 → getT tb 40 = .arr 88 x2 → getT tb 41 = I64 (u.length : Int) → getT tb 42 = I64 (y : Int) → getT tb 43 = .ptr 0 0 0 → getT tb 44 = .list 1 [.int .i64 0, .int .i64 1, .int .i64 (-1), .int .i64 6] → exT C0 0 (inlW C0 [fm_copyTabS] [fw_pick, fw_one] 0 0) ro_174_8 Q ex_174_8_4071 ⟨tb, [⟨0, 0, .cells (RS b (p + 4))⟩, ⟨32, 1, .cells [.nil, .nil]⟩, ⟨40, x1, .cells [.arr 88 x2, .arr 136 x3]⟩, ⟨88, x2, .arr 1 (ints u)⟩, ⟨136, x3, .arr 1 (orowsD t)⟩], g⟩ := by
    intro tb g e0 e4 e5 e6 e33 e34 e35 e38 e39 e40 e41 e42 e43 e44
    unfold ex_174_8_4071
    simp only [exT_alt, exT_one, exT_stop, and_true]
    refine ⟨?_, ?_⟩
    · rw [ro_174_8_3]
      simp [callDOW, l0, l1, rg4, hkt, hyr, orowsD_ge, rowAt, rowB, e0, e4, e5, e6, e33, e34, e35, e38, e39, e40, e41, e42, e43, e44]
      refine n4079 _ _ ?_ ?_ ?_ ?_ ?_ ?_ ?_ ?_ ?_ ?_ ?_ ?_ ?_ ?_ ?_ <;> simp [getT, e0, e4, e5, e6, e33, e34, e35, e38, e39, e40, e41, e42, e43, e44]
    · rw [ro_174_8_12]
      simp [callDOW, l0, l1, rg4, hkt, hyr, orowsD_ge, rowAt, rowB, e0, e4, e5, e6, e33, e34, e35, e38, e39, e40, e41, e42, e43, e44]
      refine n8167 _ _ ?_ ?_ ?_ ?_ ?_ ?_ ?_ ?_ ?_ ?_ ?_ ?_ ?_ ?_ ?_ <;> simp [getT, e0, e4, e5, e6, e33, e34, e35, e38, e39, e40, e41, e42, e43, e44]
  have n4069 : ∀ tb g, getT tb 0 = .ptr 0 0 0 → getT tb 4 = .ptr 32 1 0 → getT tb 5 = .ptr 40 x1 0 → getT tb 6 = I64 (k : Int) → getT tb 33 = .ptr 40 x1 1 → getT tb 35 = I64 (k : Int) → getT tb 38 = .ptr 0 0 0 → getT tb 39 = .ptr 40 x1 0 → getT tb 40 = .arr 88 x2 → getT tb 41 = I64 (u.length : Int) → getT tb 42 = I64 (y : Int) → getT tb 43 = .ptr 0 0 0 → getT tb 44 = .list 1 [.int .i64 0, .int .i64 1, .int .i64 (-1), .int .i64 6] → exT C0 0 (inlW C0 [fm_copyTabS] [fw_pick, fw_one] 0 0) ro_174_8 Q ex_174_8_4069 ⟨tb, [⟨0, 0, .cells (RS b (p + 4))⟩, ⟨32, 1, .cells [.nil, .nil]⟩, ⟨40, x1, .cells [.arr 88 x2, .arr 136 x3]⟩, ⟨88, x2, .arr 1 (ints u)⟩, ⟨136, x3, .arr 1 (orowsD t)⟩], g⟩ := by
    intro tb g e0 e4 e5 e6 e33 e35 e38 e39 e40 e41 e42 e43 e44
    unfold ex_174_8_4069
    simp only [exT_alt, exT_one, exT_stop, and_true]
    refine ⟨?_, ?_⟩
    · rw [ro_174_8_1]
      simp [callDOW, l0, l1, rg4, hkt, hyr, orowsD_ge, rowAt, rowB, e0, e4, e5, e6, e33, e35, e38, e39, e40, e41, e42, e43, e44]
      refine n4071 _ _ ?_ ?_ ?_ ?_ ?_ ?_ ?_ ?_ ?_ ?_ ?_ ?_ ?_ ?_ <;> simp [getT, e0, e4, e5, e6, e33, e35, e38, e39, e40, e41, e42, e43, e44]
    · rw [ro_174_8_12]
      simp [callDOW, l0, l1, rg4, hkt, hyr, orowsD_ge, rowAt, rowB, e0, e4, e5, e6, e33, e35, e38, e39, e40, e41, e42, e43, e44]
      refine n8165 _ _ ?_ ?_ ?_ ?_ ?_ ?_ ?_ ?_ ?_ ?_ ?_ ?_ ?_ ?_ <;> simp [getT, e0, e4, e5, e6, e33, e35, e38, e39, e40, e41, e42, e43, e44]
  have n4068 : ∀ tb g, getT tb 0 = .ptr 0 0 0 → getT tb 4 = .ptr 32 1 0 → getT tb 5 = .ptr 40 x1 0 → getT tb 6 = I64 (k : Int) → getT tb 35 = I64 (k : Int) → getT tb 38 = .ptr 0 0 0 → getT tb 39 = .ptr 40 x1 0 → getT tb 40 = .arr 88 x2 → getT tb 41 = I64 (u.length : Int) → getT tb 42 = I64 (y : Int) → getT tb 43 = .ptr 0 0 0 → getT tb 44 = .list 1 [.int .i64 0, .int .i64 1, .int .i64 (-1), .int .i64 6] → exT C0 0 (inlW C0 [fm_copyTabS] [fw_pick, fw_one] 0 0) ro_174_8 Q ex_174_8_4068 ⟨tb, [⟨0, 0, .cells (RS b (p + 4))⟩, ⟨32, 1, .cells [.nil, .nil]⟩, ⟨40, x1, .cells [.arr 88 x2, .arr 136 x3]⟩, ⟨88, x2, .arr 1 (ints u)⟩, ⟨136, x3, .arr 1 (orowsD t)⟩], g⟩ := by
    intro tb g e0 e4 e5 e6 e35 e38 e39 e40 e41 e42 e43 e44
    unfold ex_174_8_4068
    simp only [exT_alt, exT_one, exT_stop, and_true]
    refine ⟨?_, ?_⟩
    · rw [ro_174_8_0]
      simp [callDOW, l0, l1, rg4, hkt, hyr, orowsD_ge, rowAt, rowB, e0, e4, e5, e6, e35, e38, e39, e40, e41, e42, e43, e44]
      refine n4069 _ _ ?_ ?_ ?_ ?_ ?_ ?_ ?_ ?_ ?_ ?_ ?_ ?_ ?_ <;> simp [getT, e0, e4, e5, e6, e35, e38, e39, e40, e41, e42, e43, e44]
    · rw [ro_174_8_12]
      simp [callDOW, l0, l1, rg4, hkt, hyr, orowsD_ge, rowAt, rowB, e0, e4, e5, e6, e35, e38, e39, e40, e41, e42, e43, e44]
      refine n8164 _ _ ?_ ?_ ?_ ?_ ?_ ?_ ?_ ?_ ?_ ?_ ?_ ?_ ?_ <;> simp [getT, e0, e4, e5, e6, e35, e38, e39, e40, e41, e42, e43, e44]
  have n3583 : ∀ tb g, getT tb 0 = .ptr 0 0 0 → getT tb 4 = .ptr 32 1 0 → getT tb 5 = .ptr 40 x1 0 → getT tb 6 = I64 (k : Int) → getT tb 33 = .ptr 40 x1 1 → getT tb 34 = .arr 136 x3 → getT tb 35 = I64 (k : Int) → getT tb 36 = .ptr 136 x3 k → getT tb 37 = .row 136 x3 k → getT tb 38 = .ptr 0 0 0 → getT tb 39 = .ptr 40 x1 0 → getT tb 40 = .arr 88 x2 → getT tb 41 = I64 (u.length : Int) → getT tb 43 = .ptr 0 0 0 → getT tb 44 = .list 1 [.int .i64 0, .int .i64 1, .int .i64 (-1), .int .i64 6] → exT C0 0 (inlW C0 [fm_copyTabS] [fw_pick, fw_one] 0 0) ro_174_8 Q ex_174_8_3583 ⟨tb, [⟨0, 0, .cells (RS b (p + 3))⟩, ⟨32, 1, .cells [.nil, .nil]⟩, ⟨40, x1, .cells [.arr 88 x2, .arr 136 x3]⟩, ⟨88, x2, .arr 1 (ints u)⟩, ⟨136, x3, .arr 1 (orowsD t)⟩], g⟩ := by
    intro tb g e0 e4 e5 e6 e33 e34 e35 e36 e37 e38 e39 e40 e41 e43 e44
    unfold ex_174_8_3583
    simp only [exT_alt, exT_one, exT_stop, and_true]
    rw [ro_174_8_9]
    simp [callDOW, l0, l1, rg4, hkt, hyr, orowsD_ge, rowAt, rowB, e0, e4, e5, e6, e33, e34, e35, e36, e37, e38, e39, e40, e41, e43, e44]
    refine n4095 _ _ ?_ ?_ ?_ ?_ ?_ ?_ ?_ ?_ ?_ ?_ ?_ ?_ ?_ ?_ ?_ ?_ <;> simp [getT, e0, e4, e5, e6, e33, e34, e35, e36, e37, e38, e39, e40, e41, e43, e44]
  have n3567 : ∀ tb g, getT tb 0 = .ptr 0 0 0 → getT tb 4 = .ptr 32 1 0 → getT tb 5 = .ptr 40 x1 0 → getT tb 6 = I64 (k : Int) → getT tb 33 = .ptr 40 x1 1 → getT tb 34 = .arr 136 x3 → getT tb 35 = I64 (k : Int) → getT tb 36 = .ptr 136 x3 k → getT tb 38 = .ptr 0 0 0 → getT tb 39 = .ptr 40 x1 0 → getT tb 40 = .arr 88 x2 → getT tb 41 = I64 (u.length : Int) → getT tb 43 = .ptr 0 0 0 → getT tb 44 = .list 1 [.int .i64 0, .int .i64 1, .int .i64 (-1), .int .i64 6] → exT C0 0 (inlW C0 [fm_copyTabS] [fw_pick, fw_one] 0 0) ro_174_8 Q ex_174_8_3567 ⟨tb, [⟨0, 0, .cells (RS b (p + 3))⟩, ⟨32, 1, .cells [.nil, .nil]⟩, ⟨40, x1, .cells [.arr 88 x2, .arr 136 x3]⟩, ⟨88, x2, .arr 1 (ints u)⟩, ⟨136, x3, .arr 1 (orowsD t)⟩], g⟩ := by
    intro tb g e0 e4 e5 e6 e33 e34 e35 e36 e38 e39 e40 e41 e43 e44
    unfold ex_174_8_3567
    simp only [exT_alt, exT_one, exT_stop, and_true]
    refine ⟨?_, ?_⟩
    · rw [ro_174_8_4]
      simp [callDOW, l0, l1, rg4, hkt, hyr, orowsD_ge, rowAt, rowB, e0, e4, e5, e6, e33, e34, e35, e36, e38, e39, e40, e41, e43, e44]
      refine n3583 _ _ ?_ ?_ ?_ ?_ ?_ ?_ ?_ ?_ ?_ ?_ ?_ ?_ ?_ ?_ ?_ <;> simp [getT, e0, e4, e5, e6, e33, e34, e35, e36, e38, e39, e40, e41, e43, e44]
    · rw [ro_174_8_9]
      simp [callDOW, l0, l1, rg4, hkt, hyr, orowsD_ge, rowAt, rowB, e0, e4, e5, e6, e33, e34, e35, e36, e38, e39, e40, e41, e43, e44]
      refine n4079 _ _ ?_ ?_ ?_ ?_ ?_ ?_ ?_ ?_ ?_ ?_ ?_ ?_ ?_ ?_ ?_ <;> simp [getT, e0, e4, e5, e6, e33, e34, e35, e36, e38, e39, e40, e41, e43, e44]
  have n3559 : ∀ tb g, getT tb 0 = .ptr 0 0 0 → getT tb 4 = .ptr 32 1 0 → getT tb 5 = .ptr 40 x1 0 → getT tb 6 = I64 (k : Int) → getT tb 33 = .ptr 40 x1 1 → getT tb 34 = .arr 136 x3 → getT tb 35 = I64 (k : Int) → getT tb 38 = .ptr 0 0 0 → getT tb 39 = .ptr 40 x1 0 → getT tb 40 = .arr 88 x2 → getT tb 41 = I64 (u.length : Int) → getT tb 43 = .ptr 0 0 0 → getT tb 44 = .list 1 [.int .i64 0, .int .i64 1, .int .i64 (-1), .int .i64 6] → exT C0 0 (inlW C0 [fm_copyTabS] [fw_pick, fw_one] 0 0) ro_174_8 Q ex_174_8_3559 ⟨tb, [⟨0, 0, .cells (RS b (p + 3))⟩, ⟨32, 1, .cells [.nil, .nil]⟩, ⟨40, x1, .cells [.arr 88 x2, .arr 136 x3]⟩, ⟨88, x2, .arr 1 (ints u)⟩, ⟨136, x3, .arr 1 (orowsD t)⟩], g⟩ := by
    intro tb g e0 e4 e5 e6 e33 e34 e35 e38 e39 e40 e41 e43 e44
    unfold ex_174_8_3559
    simp only [exT_alt, exT_one, exT_stop, and_true]
    refine ⟨?_, ?_⟩
    · rw [ro_174_8_3]
      simp [callDOW, l0, l1, rg4, hkt, hyr, orowsD_ge, rowAt, rowB, e0, e4, e5, e6, e33, e34, e35, e38, e39, e40, e41, e43, e44]
      refine n3567 _ _ ?_ ?_ ?_ ?_ ?_ ?_ ?_ ?_ ?_ ?_ ?_ ?_ ?_ ?_ <;> simp [getT, e0, e4, e5, e6, e33, e34, e35, e38, e39, e40, e41, e43, e44]
    · rw [ro_174_8_9]
      simp [callDOW, l0, l1, rg4, hkt, hyr, orowsD_ge, rowAt, rowB, e0, e4, e5, e6, e33, e34, e35, e38, e39, e40, e41, e43, e44]
      refine n4071 _ _ ?_ ?_ ?_ ?_ ?_ ?_ ?_ ?_ ?_ ?_ ?_ ?_ ?_ ?_ <;> simp [getT, e0, e4, e5, e6, e33, e34, e35, e38, e39, e40, e41, e43, e44]
  have n3557 : ∀ tb g, getT tb 0 = .ptr 0 0 0 → getT tb 4 = .ptr 32 1 0 → getT tb 5 = .ptr 40 x1 0 → getT tb 6 = I64 (k : Int) → getT tb 33 = .ptr 40 x1 1 → getT tb 35 = I64 (k : Int) → getT tb 38 = .ptr 0 0 0 → getT tb 39 = .ptr 40 x1 0 → getT tb 40 = .arr 88 x2 → getT tb 41 = I64 (u.length : Int) → getT tb 43 = .ptr 0 0 0 → getT tb 44 = .list 1 [.int .i64 0, .int .i64 1, .int .i64 (-1), .int .i64 6] → exT C0 0 (inlW C0 [fm_copyTabS] [fw_pick, fw_one] 0 0) ro_174_8 Q ex_174_8_3557 ⟨tb, [⟨0, 0, .cells (RS b (p + 3))⟩, ⟨32, 1, .cells [.nil, .nil]⟩, ⟨40, x1, .cells [.arr 88 x2, .arr 136 x3]⟩, ⟨88, x2, .arr 1 (ints u)⟩, ⟨136, x3, .arr 1 (orowsD t)⟩], g⟩ := by
    intro tb g e0 e4 e5 e6 e33 e35 e38 e39 e40 e41 e43 e44
    unfold ex_174_8_3557
    simp only [exT_alt, exT_one, exT_stop, and_true]
    refine ⟨?_, ?_⟩
    · rw [ro_174_8_1]
      simp [callDOW, l0, l1, rg4, hkt, hyr, orowsD_ge, rowAt, rowB, e0, e4, e5, e6, e33, e35, e38, e39, e40, e41, e43, e44]
      refine n3559 _ _ ?_ ?_ ?_ ?_ ?_ ?_ ?_ ?_ ?_ ?_ ?_ ?_ ?_ <;> simp [getT, e0, e4, e5, e6, e33, e35, e38, e39, e40, e41, e43, e44]
    · rw [ro_174_8_9]
      simp [callDOW, l0, l1, rg4, hkt, hyr, orowsD_ge, rowAt, rowB, e0, e4, e5, e6, e33, e35, e38, e39, e40, e41, e43, e44]
      refine n4069 _ _ ?_ ?_ ?_ ?_ ?_ ?_ ?_ ?_ ?_ ?_ ?_ ?_ ?_ <;> simp [getT, e0, e4, e5, e6, e33, e35, e38, e39, e40, e41, e43, e44]
  have n3556 : ∀ tb g, getT tb 0 = .ptr 0 0 0 → getT tb 4 = .ptr 32 1 0 → getT tb 5 = .ptr 40 x1 0 → getT tb 6 = I64 (k : Int) → getT tb 35 = I64 (k : Int) → getT tb 38 = .ptr 0 0 0 → getT tb 39 = .ptr 40 x1 0 → getT tb 40 = .arr 88 x2 → getT tb 41 = I64 (u.length : Int) → getT tb 43 = .ptr 0 0 0 → getT tb 44 = .list 1 [.int .i64 0, .int .i64 1, .int .i64 (-1), .int .i64 6] → exT C0 0 (inlW C0 [fm_copyTabS] [fw_pick, fw_one] 0 0) ro_174_8 Q ex_174_8_3556 ⟨tb, [⟨0, 0, .cells (RS b (p + 3))⟩, ⟨32, 1, .cells [.nil, .nil]⟩, ⟨40, x1, .cells [.arr 88 x2, .arr 136 x3]⟩, ⟨88, x2, .arr 1 (ints u)⟩, ⟨136, x3, .arr 1 (orowsD t)⟩], g⟩ := by
    intro tb g e0 e4 e5 e6 e35 e38 e39 e40 e41 e43 e44
    unfold ex_174_8_3556
    simp only [exT_alt, exT_one, exT_stop, and_true]
    refine ⟨?_, ?_⟩
    · rw [ro_174_8_0]
      simp [callDOW, l0, l1, rg4, hkt, hyr, orowsD_ge, rowAt, rowB, e0, e4, e5, e6, e35, e38, e39, e40, e41, e43, e44]
      refine n3557 _ _ ?_ ?_ ?_ ?_ ?_ ?_ ?_ ?_ ?_ ?_ ?_ ?_ <;> simp [getT, e0, e4, e5, e6, e35, e38, e39, e40, e41, e43, e44]
    · rw [ro_174_8_9]
      simp [callDOW, l0, l1, rg4, hkt, hyr, orowsD_ge, rowAt, rowB, e0, e4, e5, e6, e35, e38, e39, e40, e41, e43, e44]
      refine n4068 _ _ ?_ ?_ ?_ ?_ ?_ ?_ ?_ ?_ ?_ ?_ ?_ ?_ <;> simp [getT, e0, e4, e5, e6, e35, e38, e39, e40, e41, e43, e44]
  have n3327 : ∀ tb g, getT tb 0 = .ptr 0 0 0 → getT tb 4 = .ptr 32 1 0 → getT tb 5 = .ptr 40 x1 0 → getT tb 6 = I64 (k : Int) → getT tb 33 = .ptr 40 x1 1 → getT tb 34 = .arr 136 x3 → getT tb 35 = I64 (k : Int) → getT tb 36 = .ptr 136 x3 k → getT tb 37 = .row 136 x3 k → getT tb 38 = .ptr 0 0 0 → getT tb 39 = .ptr 40 x1 0 → getT tb 40 = .arr 88 x2 → getT tb 43 = .ptr 0 0 0 → getT tb 44 = .list 1 [.int .i64 0, .int .i64 1, .int .i64 (-1), .int .i64 6] → exT C0 0 (inlW C0 [fm_copyTabS] [fw_pick, fw_one] 0 0) ro_174_8 Q ex_174_8_3327 ⟨tb, [⟨0, 0, .cells (RS b (p + 3))⟩, ⟨32, 1, .cells [.nil, .nil]⟩, ⟨40, x1, .cells [.arr 88 x2, .arr 136 x3]⟩, ⟨88, x2, .arr 1 (ints u)⟩, ⟨136, x3, .arr 1 (orowsD t)⟩], g⟩ := by
    intro tb g e0 e4 e5 e6 e33 e34 e35 e36 e37 e38 e39 e40 e43 e44
    unfold ex_174_8_3327
    simp only [exT_alt, exT_one, exT_stop, and_true]
    rw [ro_174_8_8]
    simp [callDOW, l0, l1, rg4, hkt, hyr, orowsD_ge, rowAt, rowB, e0, e4, e5, e6, e33, e34, e35, e36, e37, e38, e39, e40, e43, e44]
    refine n3583 _ _ ?_ ?_ ?_ ?_ ?_ ?_ ?_ ?_ ?_ ?_ ?_ ?_ ?_ ?_ ?_ <;> simp [getT, e0, e4, e5, e6, e33, e34, e35, e36, e37, e38, e39, e40, e43, e44]
  have n3311 : ∀ tb g, getT tb 0 = .ptr 0 0 0 → getT tb 4 = .ptr 32 1 0 → getT tb 5 = .ptr 40 x1 0 → getT tb 6 = I64 (k : Int) → getT tb 33 = .ptr 40 x1 1 → getT tb 34 = .arr 136 x3 → getT tb 35 = I64 (k : Int) → getT tb 36 = .ptr 136 x3 k → getT tb 38 = .ptr 0 0 0 → getT tb 39 = .ptr 40 x1 0 → getT tb 40 = .arr 88 x2 → getT tb 43 = .ptr 0 0 0 → getT tb 44 = .list 1 [.int .i64 0, .int .i64 1, .int .i64 (-1), .int .i64 6] → exT C0 0 (inlW C0 [fm_copyTabS] [fw_pick, fw_one] 0 0) ro_174_8 Q ex_174_8_3311 ⟨tb, [⟨0, 0, .cells (RS b (p + 3))⟩, ⟨32, 1, .cells [.nil, .nil]⟩, ⟨40, x1, .cells [.arr 88 x2, .arr 136 x3]⟩, ⟨88, x2, .arr 1 (ints u)⟩, ⟨136, x3, .arr 1 (orowsD t)⟩], g⟩ := by
    intro tb g e0 e4 e5 e6 e33 e34 e35 e36 e38 e39 e40 e43 e44
    unfold ex_174_8_3311
    simp only [exT_alt, exT_one, exT_stop, and_true]
    refine ⟨?_, ?_⟩
    · rw [ro_174_8_4]
      simp [callDOW, l0, l1, rg4, hkt, hyr, orowsD_ge, rowAt, rowB, e0, e4, e5, e6, e33, e34, e35, e36, e38, e39, e40, e43, e44]
      refine n3327 _ _ ?_ ?_ ?_ ?_ ?_ ?_ ?_ ?_ ?_ ?_ ?_ ?_ ?_ ?_ <;> simp [getT, e0, e4, e5, e6, e33, e34, e35, e36, e38, e39, e40, e43, e44]
    · rw [ro_174_8_8]
      simp [callDOW, l0, l1, rg4, hkt, hyr, orowsD_ge, rowAt, rowB, e0, e4, e5, e6, e33, e34, e35, e36, e38, e39, e40, e43, e44]
      refine n3567 _ _ ?_ ?_ ?_ ?_ ?_ ?_ ?_ ?_ ?_ ?_ ?_ ?_ ?_ ?_ <;> simp [getT, e0, e4, e5, e6, e33, e34, e35, e36, e38, e39, e40, e43, e44]
  have n3303 : ∀ tb g, getT tb 0 = .ptr 0 0 0 → getT tb 4 = .ptr 32 1 0 → getT tb 5 = .ptr 40 x1 0 → getT tb 6 = I64 (k : Int) → getT tb 33 = .ptr 40 x1 1 → getT tb 34 = .arr 136 x3 → getT tb 35 = I64 (k : Int) → getT tb 38 = .ptr 0 0 0 → getT tb 39 = .ptr 40 x1 0 → getT tb 40 = .arr 88 x2 → getT tb 43 = .ptr 0 0 0 → getT tb 44 = .list 1 [.int .i64 0, .int .i64 1, .int .i64 (-1), .int .i64 6] → exT C0 0 (inlW C0 [fm_copyTabS] [fw_pick, fw_one] 0 0) ro_174_8 Q ex_174_8_3303 ⟨tb, [⟨0, 0, .cells (RS b (p + 3))⟩, ⟨32, 1, .cells [.nil, .nil]⟩, ⟨40, x1, .cells [.arr 88 x2, .arr 136 x3]⟩, ⟨88, x2, .arr 1 (ints u)⟩, ⟨136, x3, .arr 1 (orowsD t)⟩], g⟩ := by
    intro tb g e0 e4 e5 e6 e33 e34 e35 e38 e39 e40 e43 e44
    unfold ex_174_8_3303
    simp only [exT_alt, exT_one, exT_stop, and_true]
    refine ⟨?_, ?_⟩
    · rw [ro_174_8_3]
      simp [callDOW, l0, l1, rg4, hkt, hyr, orowsD_ge, rowAt, rowB, e0, e4, e5, e6, e33, e34, e35, e38, e39, e40, e43, e44]
      refine n3311 _ _ ?_ ?_ ?_ ?_ ?_ ?_ ?_ ?_ ?_ ?_ ?_ ?_ ?_ <;> simp [getT, e0, e4, e5, e6, e33, e34, e35, e38, e39, e40, e43, e44]
    · rw [ro_174_8_8]
      simp [callDOW, l0, l1, rg4, hkt, hyr, orowsD_ge, rowAt, rowB, e0, e4, e5, e6, e33, e34, e35, e38, e39, e40, e43, e44]
      refine n3559 _ _ ?_ ?_ ?_ ?_ ?_ ?_ ?_ ?_ ?_ ?_ ?_ ?_ ?_ <;> simp [getT, e0, e4, e5, e6, e33, e34, e35, e38, e39, e40, e43, e44]
  have n3301 : ∀ tb g, getT tb 0 = .ptr 0 0 0 → getT tb 4 = .ptr 32 1 0 → getT tb 5 = .ptr 40 x1 0 → getT tb 6 = I64 (k : Int) → getT tb 33 = .ptr 40 x1 1 → getT tb 35 = I64 (k : Int) → getT tb 38 = .ptr 0 0 0 → getT tb 39 = .ptr 40 x1 0 → getT tb 40 = .arr 88 x2 → getT tb 43 = .ptr 0 0 0 → getT tb 44 = .list 1 [.int .i64 0, .int .i64 1, .int .i64 (-1), .int .i64 6] → exT C0 0 (inlW C0 [fm_copyTabS] [fw_pick, fw_one] 0 0) ro_174_8 Q ex_174_8_3301 ⟨tb, [⟨0, 0, .cells (RS b (p + 3))⟩, ⟨32, 1, .cells [.nil, .nil]⟩, ⟨40, x1, .cells [.arr 88 x2, .arr 136 x3]⟩, ⟨88, x2, .arr 1 (ints u)⟩, ⟨136, x3, .arr 1 (orowsD t)⟩], g⟩ := by
    intro tb g e0 e4 e5 e6 e33 e35 e38 e39 e40 e43 e44
    unfold ex_174_8_3301
    simp only [exT_alt, exT_one, exT_stop, and_true]
    refine ⟨?_, ?_⟩
    · rw [ro_174_8_1]
      simp [callDOW, l0, l1, rg4, hkt, hyr, orowsD_ge, rowAt, rowB, e0, e4, e5, e6, e33, e35, e38, e39, e40, e43, e44]
      refine n3303 _ _ ?_ ?_ ?_ ?_ ?_ ?_ ?_ ?_ ?_ ?_ ?_ ?_ <;> simp [getT, e0, e4, e5, e6, e33, e35, e38, e39, e40, e43, e44]
    · rw [ro_174_8_8]
      simp [callDOW, l0, l1, rg4, hkt, hyr, orowsD_ge, rowAt, rowB, e0, e4, e5, e6, e33, e35, e38, e39, e40, e43, e44]
      refine n3557 _ _ ?_ ?_ ?_ ?_ ?_ ?_ ?_ ?_ ?_ ?_ ?_ ?_ <;> simp [getT, e0, e4, e5, e6, e33, e35, e38, e39, e40, e43, e44]
  have n3300 : ∀ tb g, getT tb 0 = .ptr 0 0 0 → getT tb 4 = .ptr 32 1 0 → getT tb 5 = .ptr 40 x1 0 → getT tb 6 = I64 (k : Int) → getT tb 35 = I64 (k : Int) → getT tb 38 = .ptr 0 0 0 → getT tb 39 = .ptr 40 x1 0 → getT tb 40 = .arr 88 x2 → getT tb 43 = .ptr 0 0 0 → getT tb 44 = .list 1 [.int .i64 0, .int .i64 1, .int .i64 (-1), .int .i64 6] → exT C0 0 (inlW C0 [fm_copyTabS] [fw_pick, fw_one] 0 0) ro_174_8 Q ex_174_8_3300 ⟨tb, [⟨0, 0, .cells (RS b (p + 3))⟩, ⟨32, 1, .cells [.nil, .nil]⟩, ⟨40, x1, .cells [.arr 88 x2, .arr 136 x3]⟩, ⟨88, x2, .arr 1 (ints u)⟩, ⟨136, x3, .arr 1 (orowsD t)⟩], g⟩ := by
    intro tb g e0 e4 e5 e6 e35 e38 e39 e40 e43 e44
    unfold ex_174_8_3300
    simp only [exT_alt, exT_one, exT_stop, and_true]
    refine ⟨?_, ?_⟩
    · rw [ro_174_8_0]
      simp [callDOW, l0, l1, rg4, hkt, hyr, orowsD_ge, rowAt, rowB, e0, e4, e5, e6, e35, e38, e39, e40, e43, e44]
      refine n3301 _ _ ?_ ?_ ?_ ?_ ?_ ?_ ?_ ?_ ?_ ?_ ?_ <;> simp [getT, e0, e4, e5, e6, e35, e38, e39, e40, e43, e44]
    · rw [ro_174_8_8]
      simp [callDOW, l0, l1, rg4, hkt, hyr, orowsD_ge, rowAt, rowB, e0, e4, e5, e6, e35, e38, e39, e40, e43, e44]
      refine n3556 _ _ ?_ ?_ ?_ ?_ ?_ ?_ ?_ ?_ ?_ ?_ ?_ <;> simp [getT, e0, e4, e5, e6, e35, e38, e39, e40, e43, e44]
  have n3199 : ∀ tb g, getT tb 0 = .ptr 0 0 0 → getT tb 4 = .ptr 32 1 0 → getT tb 5 = .ptr 40 x1 0 → getT tb 6 = I64 (k : Int) → getT tb 33 = .ptr 40 x1 1 → getT tb 34 = .arr 136 x3 → getT tb 35 = I64 (k : Int) → getT tb 36 = .ptr 136 x3 k → getT tb 37 = .row 136 x3 k → getT tb 38 = .ptr 0 0 0 → getT tb 39 = .ptr 40 x1 0 → getT tb 43 = .ptr 0 0 0 → getT tb 44 = .list 1 [.int .i64 0, .int .i64 1, .int .i64 (-1), .int .i64 6] → exT C0 0 (inlW C0 [fm_copyTabS] [fw_pick, fw_one] 0 0) ro_174_8 Q ex_174_8_3199 ⟨tb, [⟨0, 0, .cells (RS b (p + 3))⟩, ⟨32, 1, .cells [.nil, .nil]⟩, ⟨40, x1, .cells [.arr 88 x2, .arr 136 x3]⟩, ⟨88, x2, .arr 1 (ints u)⟩, ⟨136, x3, .arr 1 (orowsD t)⟩], g⟩ := by
    intro tb g e0 e4 e5 e6 e33 e34 e35 e36 e37 e38 e39 e43 e44
    unfold ex_174_8_3199
    simp only [exT_alt, exT_one, exT_stop, and_true]
    rw [ro_174_8_7]
    simp [callDOW, l0, l1, rg4, hkt, hyr, orowsD_ge, rowAt, rowB, e0, e4, e5, e6, e33, e34, e35, e36, e37, e38, e39, e43, e44]
    refine n3327 _ _ ?_ ?_ ?_ ?_ ?_ ?_ ?_ ?_ ?_ ?_ ?_ ?_ ?_ ?_ <;> simp [getT, e0, e4, e5, e6, e33, e34, e35, e36, e37, e38, e39, e43, e44]
  have n3183 : ∀ tb g, getT tb 0 = .ptr 0 0 0 → getT tb 4 = .ptr 32 1 0 → getT tb 5 = .ptr 40 x1 0 → getT tb 6 = I64 (k : Int) → getT tb 33 = .ptr 40 x1 1 → getT tb 34 = .arr 136 x3 → getT tb 35 = I64 (k : Int) → getT tb 36 = .ptr 136 x3 k → getT tb 38 = .ptr 0 0 0 → getT tb 39 = .ptr 40 x1 0 → getT tb 43 = .ptr 0 0 0 → getT tb 44 = .list 1 [.int .i64 0, .int .i64 1, .int .i64 (-1), .int .i64 6] → exT C0 0 (inlW C0 [fm_copyTabS] [fw_pick, fw_one] 0 0) ro_174_8 Q ex_174_8_3183 ⟨tb, [⟨0, 0, .cells (RS b (p + 3))⟩, ⟨32, 1, .cells [.nil, .nil]⟩, ⟨40, x1, .cells [.arr 88 x2, .arr 136 x3]⟩, ⟨88, x2, .arr 1 (ints u)⟩, ⟨136, x3, .arr 1 (orowsD t)⟩], g⟩ := by
    intro tb g e0 e4 e5 e6 e33 e34 e35 e36 e38 e39 e43 e44
    unfold ex_174_8_3183
    simp only [exT_alt, exT_one, exT_stop, and_true]
    refine ⟨?_, ?_⟩
    · rw [ro_174_8_4]
      simp [callDOW, l0, l1, rg4, hkt, hyr, orowsD_ge, rowAt, rowB, e0, e4, e5, e6, e33, e34, e35, e36, e38, e39, e43, e44]
      refine n3199 _ _ ?_ ?_ ?_ ?_ ?_ ?_ ?_ ?_ ?_ ?_ ?_ ?_ ?_ <;> simp [getT, e0, e4, e5, e6, e33, e34, e35, e36, e38, e39, e43, e44]
    · rw [ro_174_8_7]
      simp [callDOW, l0, l1, rg4, hkt, hyr, orowsD_ge, rowAt, rowB, e0, e4, e5, e6, e33, e34, e35, e36, e38, e39, e43, e44]
      refine n3311 _ _ ?_ ?_ ?_ ?_ ?_ ?_ ?_ ?_ ?_ ?_ ?_ ?_ ?_ <;> simp [getT, e0, e4, e5, e6, e33, e34, e35, e36, e38, e39, e43, e44]
  have n3175 : ∀ tb g, getT tb 0 = .ptr 0 0 0 → getT tb 4 = .ptr 32 1 0 → getT tb 5 = .ptr 40 x1 0 → getT tb 6 = I64 (k : Int) → getT tb 33 = .ptr 40 x1 1 → getT tb 34 = .arr 136 x3 → getT tb 35 = I64 (k : Int) → getT tb 38 = .ptr 0 0 0 → getT tb 39 = .ptr 40 x1 0 → getT tb 43 = .ptr 0 0 0 → getT tb 44 = .list 1 [.int .i64 0, .int .i64 1, .int .i64 (-1), .int .i64 6] → exT C0 0 (inlW C0 [fm_copyTabS] [fw_pick, fw_one] 0 0) ro_174_8 Q ex_174_8_3175 ⟨tb, [⟨0, 0, .cells (RS b (p + 3))⟩, ⟨32, 1, .cells [.nil, .nil]⟩, ⟨40, x1, .cells [.arr 88 x2, .arr 136 x3]⟩, ⟨88, x2, .arr 1 (ints u)⟩, ⟨136, x3, .arr 1 (orowsD t)⟩], g⟩ := by
    intro tb g e0 e4 e5 e6 e33 e34 e35 e38 e39 e43 e44
    unfold ex_174_8_3175
    simp only [exT_alt, exT_one, exT_stop, and_true]
    refine ⟨?_, ?_⟩
    · rw [ro_174_8_3]
      simp [callDOW, l0, l1, rg4, hkt, hyr, orowsD_ge, rowAt, rowB, e0, e4, e5, e6, e33, e34, e35, e38, e39, e43, e44]
      refine n3183 _ _ ?_ ?_ ?_ ?_ ?_ ?_ ?_ ?_ ?_ ?_ ?_ ?_ <;> simp [getT, e0, e4, e5, e6, e33, e34, e35, e38, e39, e43, e44]
    · rw [ro_174_8_7]
      simp [callDOW, l0, l1, rg4, hkt, hyr, orowsD_ge, rowAt, rowB, e0, e4, e5, e6, e33, e34, e35, e38, e39, e43, e44]
      refine n3303 _ _ ?_ ?_ ?_ ?_ ?_ ?_ ?_ ?_ ?_ ?_ ?_ ?_ <;> simp [getT, e0, e4, e5, e6, e33, e34, e35, e38, e39, e43, e44]
  have n3173 : ∀ tb g, getT tb 0 = .ptr 0 0 0 → getT tb 4 = .ptr 32 1 0 → getT tb 5 = .ptr 40 x1 0 → getT tb 6 = I64 (k : Int) → getT tb 33 = .ptr 40 x1 1 → getT tb 35 = I64 (k : Int) → getT tb 38 = .ptr 0 0 0 → getT tb 39 = .ptr 40 x1 0 → getT tb 43 = .ptr 0 0 0 → getT tb 44 = .list 1 [.int .i64 0, .int .i64 1, .int .i64 (-1), .int .i64 6] → exT C0 0 (inlW C0 [fm_copyTabS] [fw_pick, fw_one] 0 0) ro_174_8 Q ex_174_8_3173 ⟨tb, [⟨0, 0, .cells (RS b (p + 3))⟩, ⟨32, 1, .cells [.nil, .nil]⟩, ⟨40, x1, .cells [.arr 88 x2, .arr 136 x3]⟩, ⟨88, x2, .arr 1 (ints u)⟩, ⟨136, x3, .arr 1 (orowsD t)⟩], g⟩ := by
    intro tb g e0 e4 e5 e6 e33 e35 e38 e39 e43 e44
    unfold ex_174_8_3173
    simp only [exT_alt, exT_one, exT_stop, and_true]
    refine ⟨?_, ?_⟩
    · rw [ro_174_8_1]
      simp [callDOW, l0, l1, rg4, hkt, hyr, orowsD_ge, rowAt, rowB, e0, e4, e5, e6, e33, e35, e38, e39, e43, e44]
      refine n3175 _ _ ?_ ?_ ?_ ?_ ?_ ?_ ?_ ?_ ?_ ?_ ?_ <;> simp [getT, e0, e4, e5, e6, e33, e35, e38, e39, e43, e44]
    · rw [ro_174_8_7]
      simp [callDOW, l0, l1, rg4, hkt, hyr, orowsD_ge, rowAt, rowB, e0, e4, e5, e6, e33, e35, e38, e39, e43, e44]
      refine n3301 _ _ ?_ ?_ ?_ ?_ ?_ ?_ ?_ ?_ ?_ ?_ ?_ <;> simp [getT, e0, e4, e5, e6, e33, e35, e38, e39, e43, e44]
  have n3172 : ∀ tb g, getT tb 0 = .ptr 0 0 0 → getT tb 4 = .ptr 32 1 0 → getT tb 5 = .ptr 40 x1 0 → getT tb 6 = I64 (k : Int) → getT tb 35 = I64 (k : Int) → getT tb 38 = .ptr 0 0 0 → getT tb 39 = .ptr 40 x1 0 → getT tb 43 = .ptr 0 0 0 → getT tb 44 = .list 1 [.int .i64 0, .int .i64 1, .int .i64 (-1), .int .i64 6] → exT C0 0 (inlW C0 [fm_copyTabS] [fw_pick, fw_one] 0 0) ro_174_8 Q ex_174_8_3172 ⟨tb, [⟨0, 0, .cells (RS b (p + 3))⟩, ⟨32, 1, .cells [.nil, .nil]⟩, ⟨40, x1, .cells [.arr 88 x2, .arr 136 x3]⟩, ⟨88, x2, .arr 1 (ints u)⟩, ⟨136, x3, .arr 1 (orowsD t)⟩], g⟩ := by
    intro tb g e0 e4 e5 e6 e35 e38 e39 e43 e44
    unfold ex_174_8_3172
    simp only [exT_alt, exT_one, exT_stop, and_true]
    refine ⟨?_, ?_⟩
    · rw [ro_174_8_0]
      simp [callDOW, l0, l1, rg4, hkt, hyr, orowsD_ge, rowAt, rowB, e0, e4, e5, e6, e35, e38, e39, e43, e44]
      refine n3173 _ _ ?_ ?_ ?_ ?_ ?_ ?_ ?_ ?_ ?_ ?_ <;> simp [getT, e0, e4, e5, e6, e35, e38, e39, e43, e44]
    · rw [ro_174_8_7]
      simp [callDOW, l0, l1, rg4, hkt, hyr, orowsD_ge, rowAt, rowB, e0, e4, e5, e6, e35, e38, e39, e43, e44]
      refine n3300 _ _ ?_ ?_ ?_ ?_ ?_ ?_ ?_ ?_ ?_ ?_ <;> simp [getT, e0, e4, e5, e6, e35, e38, e39, e43, e44]
  have n3135 : ∀ tb g, getT tb 0 = .ptr 0 0 0 → getT tb 4 = .ptr 32 1 0 → getT tb 5 = .ptr 40 x1 0 → getT tb 6 = I64 (k : Int) → getT tb 33 = .ptr 40 x1 1 → getT tb 34 = .arr 136 x3 → getT tb 35 = I64 (k : Int) → getT tb 36 = .ptr 136 x3 k → getT tb 37 = .row 136 x3 k → getT tb 38 = .ptr 0 0 0 → getT tb 43 = .ptr 0 0 0 → getT tb 44 = .list 1 [.int .i64 0, .int .i64 1, .int .i64 (-1), .int .i64 6] → exT C0 0 (inlW C0 [fm_copyTabS] [fw_pick, fw_one] 0 0) ro_174_8 Q ex_174_8_3135 ⟨tb, [⟨0, 0, .cells (RS b (p + 3))⟩, ⟨32, 1, .cells [.nil, .nil]⟩, ⟨40, x1, .cells [.arr 88 x2, .arr 136 x3]⟩, ⟨88, x2, .arr 1 (ints u)⟩, ⟨136, x3, .arr 1 (orowsD t)⟩], g⟩ := by
    intro tb g e0 e4 e5 e6 e33 e34 e35 e36 e37 e38 e43 e44
    unfold ex_174_8_3135
    simp only [exT_alt, exT_one, exT_stop, and_true]
    rw [ro_174_8_6]
    simp [callDOW, l0, l1, rg4, hkt, hyr, orowsD_ge, rowAt, rowB, e0, e4, e5, e6, e33, e34, e35, e36, e37, e38, e43, e44]
    refine n3199 _ _ ?_ ?_ ?_ ?_ ?_ ?_ ?_ ?_ ?_ ?_ ?_ ?_ ?_ <;> simp [getT, e0, e4, e5, e6, e33, e34, e35, e36, e37, e38, e43, e44]
  have n3119 : ∀ tb g, getT tb 0 = .ptr 0 0 0 → getT tb 4 = .ptr 32 1 0 → getT tb 5 = .ptr 40 x1 0 → getT tb 6 = I64 (k : Int) → getT tb 33 = .ptr 40 x1 1 → getT tb 34 = .arr 136 x3 → getT tb 35 = I64 (k : Int) → getT tb 36 = .ptr 136 x3 k → getT tb 38 = .ptr 0 0 0 → getT tb 43 = .ptr 0 0 0 → getT tb 44 = .list 1 [.int .i64 0, .int .i64 1, .int .i64 (-1), .int .i64 6] → exT C0 0 (inlW C0 [fm_copyTabS] [fw_pick, fw_one] 0 0) ro_174_8 Q ex_174_8_3119 ⟨tb, [⟨0, 0, .cells (RS b (p + 3))⟩, ⟨32, 1, .cells [.nil, .nil]⟩, ⟨40, x1, .cells [.arr 88 x2, .arr 136 x3]⟩, ⟨88, x2, .arr 1 (ints u)⟩, ⟨136, x3, .arr 1 (orowsD t)⟩], g⟩ := by
    intro tb g e0 e4 e5 e6 e33 e34 e35 e36 e38 e43 e44
    unfold ex_174_8_3119
    simp only [exT_alt, exT_one, exT_stop, and_true]
    refine ⟨?_, ?_⟩
    · rw [ro_174_8_4]
      simp [callDOW, l0, l1, rg4, hkt, hyr, orowsD_ge, rowAt, rowB, e0, e4, e5, e6, e33, e34, e35, e36, e38, e43, e44]
      refine n3135 _ _ ?_ ?_ ?_ ?_ ?_ ?_ ?_ ?_ ?_ ?_ ?_ ?_ <;> simp [getT, e0, e4, e5, e6, e33, e34, e35, e36, e38, e43, e44]
    · rw [ro_174_8_6]
      simp [callDOW, l0, l1, rg4, hkt, hyr, orowsD_ge, rowAt, rowB, e0, e4, e5, e6, e33, e34, e35, e36, e38, e43, e44]
      refine n3183 _ _ ?_ ?_ ?_ ?_ ?_ ?_ ?_ ?_ ?_ ?_ ?_ ?_ <;> simp [getT, e0, e4, e5, e6, e33, e34, e35, e36, e38, e43, e44]
  have n3111 : ∀ tb g, getT tb 0 = .ptr 0 0 0 → getT tb 4 = .ptr 32 1 0 → getT tb 5 = .ptr 40 x1 0 → getT tb 6 = I64 (k : Int) → getT tb 33 = .ptr 40 x1 1 → getT tb 34 = .arr 136 x3 → getT tb 35 = I64 (k : Int) → getT tb 38 = .ptr 0 0 0 → getT tb 43 = .ptr 0 0 0 → getT tb 44 = .list 1 [.int .i64 0, .int .i64 1, .int .i64 (-1), .int .i64 6] → exT C0 0 (inlW C0 [fm_copyTabS] [fw_pick, fw_one] 0 0) ro_174_8 Q ex_174_8_3111 ⟨tb, [⟨0, 0, .cells (RS b (p + 3))⟩, ⟨32, 1, .cells [.nil, .nil]⟩, ⟨40, x1, .cells [.arr 88 x2, .arr 136 x3]⟩, ⟨88, x2, .arr 1 (ints u)⟩, ⟨136, x3, .arr 1 (orowsD t)⟩], g⟩ := by
    intro tb g e0 e4 e5 e6 e33 e34 e35 e38 e43 e44
    unfold ex_174_8_3111
    simp only [exT_alt, exT_one, exT_stop, and_true]
    refine ⟨?_, ?_⟩
    · rw [ro_174_8_3]
      simp [callDOW, l0, l1, rg4, hkt, hyr, orowsD_ge, rowAt, rowB, e0, e4, e5, e6, e33, e34, e35, e38, e43, e44]
      refine n3119 _ _ ?_ ?_ ?_ ?_ ?_ ?_ ?_ ?_ ?_ ?_ ?_ <;> simp [getT, e0, e4, e5, e6, e33, e34, e35, e38, e43, e44]
    · rw [ro_174_8_6]
      simp [callDOW, l0, l1, rg4, hkt, hyr, orowsD_ge, rowAt, rowB, e0, e4, e5, e6, e33, e34, e35, e38, e43, e44]
      refine n3175 _ _ ?_ ?_ ?_ ?_ ?_ ?_ ?_ ?_ ?_ ?_ ?_ <;> simp [getT, e0, e4, e5, e6, e33, e34, e35, e38, e43, e44]
  have n3109 : ∀ tb g, getT tb 0 = .ptr 0 0 0 → getT tb 4 = .ptr 32 1 0 → getT tb 5 = .ptr 40 x1 0 → getT tb 6 = I64 (k : Int) → getT tb 33 = .ptr 40 x1 1 → getT tb 35 = I64 (k : Int) → getT tb 38 = .ptr 0 0 0 → getT tb 43 = .ptr 0 0 0 → getT tb 44 = .list 1 [.int .i64 0, .int .i64 1, .int .i64 (-1), .int .i64 6] → exT C0 0 (inlW C0 [fm_copyTabS] [fw_pick, fw_one] 0 0) ro_174_8 Q ex_174_8_3109 ⟨tb, [⟨0, 0, .cells (RS b (p + 3))⟩, ⟨32, 1, .cells [.nil, .nil]⟩, ⟨40, x1, .cells [.arr 88 x2, .arr 136 x3]⟩, ⟨88, x2, .arr 1 (ints u)⟩, ⟨136, x3, .arr 1 (orowsD t)⟩], g⟩ := by
    intro tb g e0 e4 e5 e6 e33 e35 e38 e43 e44
    unfold ex_174_8_3109
    simp only [exT_alt, exT_one, exT_stop, and_true]
    refine ⟨?_, ?_⟩
    · rw [ro_174_8_1]
      simp [callDOW, l0, l1, rg4, hkt, hyr, orowsD_ge, rowAt, rowB, e0, e4, e5, e6, e33, e35, e38, e43, e44]
      refine n3111 _ _ ?_ ?_ ?_ ?_ ?_ ?_ ?_ ?_ ?_ ?_ <;> simp [getT, e0, e4, e5, e6, e33, e35, e38, e43, e44]
    · rw [ro_174_8_6]
      simp [callDOW, l0, l1, rg4, hkt, hyr, orowsD_ge, rowAt, rowB, e0, e4, e5, e6, e33, e35, e38, e43, e44]
      refine n3173 _ _ ?_ ?_ ?_ ?_ ?_ ?_ ?_ ?_ ?_ ?_ <;> simp [getT, e0, e4, e5, e6, e33, e35, e38, e43, e44]
  have n3108 : ∀ tb g, getT tb 0 = .ptr 0 0 0 → getT tb 4 = .ptr 32 1 0 → getT tb 5 = .ptr 40 x1 0 → getT tb 6 = I64 (k : Int) → getT tb 35 = I64 (k : Int) → getT tb 38 = .ptr 0 0 0 → getT tb 43 = .ptr 0 0 0 → getT tb 44 = .list 1 [.int .i64 0, .int .i64 1, .int .i64 (-1), .int .i64 6] → exT C0 0 (inlW C0 [fm_copyTabS] [fw_pick, fw_one] 0 0) ro_174_8 Q ex_174_8_3108 ⟨tb, [⟨0, 0, .cells (RS b (p + 3))⟩, ⟨32, 1, .cells [.nil, .nil]⟩, ⟨40, x1, .cells [.arr 88 x2, .arr 136 x3]⟩, ⟨88, x2, .arr 1 (ints u)⟩, ⟨136, x3, .arr 1 (orowsD t)⟩], g⟩ := by
    intro tb g e0 e4 e5 e6 e35 e38 e43 e44
    unfold ex_174_8_3108
    simp only [exT_alt, exT_one, exT_stop, and_true]
    refine ⟨?_, ?_⟩
    · rw [ro_174_8_0]
      simp [callDOW, l0, l1, rg4, hkt, hyr, orowsD_ge, rowAt, rowB, e0, e4, e5, e6, e35, e38, e43, e44]
      refine n3109 _ _ ?_ ?_ ?_ ?_ ?_ ?_ ?_ ?_ ?_ <;> simp [getT, e0, e4, e5, e6, e35, e38, e43, e44]
    · rw [ro_174_8_6]
      simp [callDOW, l0, l1, rg4, hkt, hyr, orowsD_ge, rowAt, rowB, e0, e4, e5, e6, e35, e38, e43, e44]
      refine n3172 _ _ ?_ ?_ ?_ ?_ ?_ ?_ ?_ ?_ ?_ <;> simp [getT, e0, e4, e5, e6, e35, e38, e43, e44]
  have n1060 : ∀ tb g, getT tb 0 = .ptr 0 0 0 → getT tb 4 = .ptr 32 1 0 → getT tb 5 = .ptr 40 x1 0 → getT tb 6 = I64 (k : Int) → getT tb 35 = I64 (k : Int) → getT tb 38 = .ptr 0 0 0 → getT tb 43 = .ptr 0 0 0 → exT C0 0 (inlW C0 [fm_copyTabS] [fw_pick, fw_one] 0 0) ro_174_8 Q ex_174_8_1060 ⟨tb, [⟨0, 0, .cells (RS b (p + 3))⟩, ⟨32, 1, .cells [.nil, .nil]⟩, ⟨40, x1, .cells [.arr 88 x2, .arr 136 x3]⟩, ⟨88, x2, .arr 1 (ints u)⟩, ⟨136, x3, .arr 1 (orowsD t)⟩], g⟩ := by
    intro tb g e0 e4 e5 e6 e35 e38 e43
    unfold ex_174_8_1060
    simp only [exT_alt, exT_one, exT_stop, and_true]
    rw [ro_174_8_11]
    simp [callDOW, l0, l1, rg4, hkt, hyr, orowsD_ge, rowAt, rowB, e0, e4, e5, e6, e35, e38, e43]
    refine n3108 _ _ ?_ ?_ ?_ ?_ ?_ ?_ ?_ ?_ <;> simp [getT, e0, e4, e5, e6, e35, e38, e43]
  have n36 : ∀ tb g, getT tb 0 = .ptr 0 0 0 → getT tb 4 = .ptr 32 1 0 → getT tb 5 = .ptr 40 x1 0 → getT tb 6 = I64 (k : Int) → getT tb 35 = I64 (k : Int) → getT tb 38 = .ptr 0 0 0 → exT C0 0 (inlW C0 [fm_copyTabS] [fw_pick, fw_one] 0 0) ro_174_8 Q ex_174_8_36 ⟨tb, [⟨0, 0, .cells (RS b (p + 3))⟩, ⟨32, 1, .cells [.nil, .nil]⟩, ⟨40, x1, .cells [.arr 88 x2, .arr 136 x3]⟩, ⟨88, x2, .arr 1 (ints u)⟩, ⟨136, x3, .arr 1 (orowsD t)⟩], g⟩ := by
    intro tb g e0 e4 e5 e6 e35 e38
    unfold ex_174_8_36
    simp only [exT_alt, exT_one, exT_stop, and_true]
    rw [ro_174_8_10]
    simp [callDOW, l0, l1, rg4, hkt, hyr, orowsD_ge, rowAt, rowB, e0, e4, e5, e6, e35, e38]
    refine n1060 _ _ ?_ ?_ ?_ ?_ ?_ ?_ ?_ <;> simp [getT, e0, e4, e5, e6, e35, e38]
  have n4 : ∀ tb g, getT tb 0 = .ptr 0 0 0 → getT tb 4 = .ptr 32 1 0 → getT tb 5 = .ptr 40 x1 0 → getT tb 6 = I64 (k : Int) → getT tb 35 = I64 (k : Int) → exT C0 0 (inlW C0 [fm_copyTabS] [fw_pick, fw_one] 0 0) ro_174_8 Q ex_174_8_4 ⟨tb, [⟨0, 0, .cells (RS b (p + 3))⟩, ⟨32, 1, .cells [.nil, .nil]⟩, ⟨40, x1, .cells [.arr 88 x2, .arr 136 x3]⟩, ⟨88, x2, .arr 1 (ints u)⟩, ⟨136, x3, .arr 1 (orowsD t)⟩], g⟩ := by
    intro tb g e0 e4 e5 e6 e35
    unfold ex_174_8_4
    simp only [exT_alt, exT_one, exT_stop, and_true]
    rw [ro_174_8_5]
    simp [callDOW, l0, l1, rg4, hkt, hyr, orowsD_ge, rowAt, rowB, e0, e4, e5, e6, e35]
    refine n36 _ _ ?_ ?_ ?_ ?_ ?_ ?_ <;> simp [getT, e0, e4, e5, e6, e35]
  have n0 : ∀ tb g, getT tb 0 = .ptr 0 0 0 → getT tb 4 = .ptr 32 1 0 → getT tb 5 = .ptr 40 x1 0 → getT tb 6 = I64 (k : Int) → exT C0 0 (inlW C0 [fm_copyTabS] [fw_pick, fw_one] 0 0) ro_174_8 Q ex_174_8_0 ⟨tb, [⟨0, 0, .cells (RS b (p + 3))⟩, ⟨32, 1, .cells [.nil, .nil]⟩, ⟨40, x1, .cells [.arr 88 x2, .arr 136 x3]⟩, ⟨88, x2, .arr 1 (ints u)⟩, ⟨136, x3, .arr 1 (orowsD t)⟩], g⟩ := by
    intro tb g e0 e4 e5 e6
    unfold ex_174_8_0
    simp only [exT_alt, exT_one, exT_stop, and_true]
    rw [ro_174_8_2]
    simp [callDOW, l0, l1, rg4, hkt, hyr, orowsD_ge, rowAt, rowB, e0, e4, e5, e6]
    refine n4 _ _ ?_ ?_ ?_ ?_ ?_ <;> simp [getT, e0, e4, e5, e6]
  exact n0
set_option maxHeartbeats 2000000 in
theorem bent_dag10 {Q : St → Prop} {b : List Int} {p : Nat} {u : List Int} {t : List (List Int)} {k x1 x2 x3 : Nat} {z : Int} (hku : k < u.length) (l1 : fw_one.look [.ptr 0 0 0, .list 1 [.int .i64 0, .int .i64 3, .int .i64 (-1)]] (RS b (p + 3)) = some (I64 z, RS b (p + 4)))
    (hQ : ∀ tb g, getT tb 4 = .ptr 32 1 0 → getT tb 5 = .ptr 40 x1 0 → Q ⟨tb, [⟨0, 0, .cells (RS b (p + 4))⟩, ⟨32, 1, .cells [.nil, .nil]⟩, ⟨40, x1, .cells [.arr 88 x2, .arr 136 x3]⟩, ⟨88, x2, .arr 1 (ints (u.set k z))⟩, ⟨136, x3, .arr 1 (orowsD t)⟩], g⟩) : ∀ tb g, getT tb 0 = .ptr 0 0 0 → getT tb 4 = .ptr 32 1 0 → getT tb 5 = .ptr 40 x1 0 → getT tb 6 = I64 (k : Int) → exT C0 0 (inlW C0 [fm_copyTabS] [fw_pick, fw_one] 0 0) ro_174_10 Q ex_174_10_0 ⟨tb, [⟨0, 0, .cells (RS b (p + 3))⟩, ⟨32, 1, .cells [.nil, .nil]⟩, ⟨40, x1, .cells [.arr 88 x2, .arr 136 x3]⟩, ⟨88, x2, .arr 1 (ints u)⟩, ⟨136, x3, .arr 1 (orowsD t)⟩], g⟩ := by
  have n255 : ∀ tb g, getT tb 0 = .ptr 0 0 0 → getT tb 4 = .ptr 32 1 0 → getT tb 5 = .ptr 40 x1 0 → getT tb 6 = I64 (k : Int) → getT tb 49 = .ptr 40 x1 0 → getT tb 50 = .arr 88 x2 → getT tb 51 = I64 (k : Int) → getT tb 52 = .ptr 0 0 0 → getT tb 53 = .list 1 [.int .i64 0, .int .i64 3, .int .i64 (-1)] → getT tb 54 = I64 z → getT tb 55 = .ptr 88 x2 k → exT C0 0 (inlW C0 [fm_copyTabS] [fw_pick, fw_one] 0 0) ro_174_10 Q ex_174_10_255 ⟨tb, [⟨0, 0, .cells (RS b (p + 4))⟩, ⟨32, 1, .cells [.nil, .nil]⟩, ⟨40, x1, .cells [.arr 88 x2, .arr 136 x3]⟩, ⟨88, x2, .arr 1 (ints (u.set k z))⟩, ⟨136, x3, .arr 1 (orowsD t)⟩], g⟩ := by
    intro tb g e0 e4 e5 e6 e49 e50 e51 e52 e53 e54 e55
    unfold ex_174_10_255
    exact hQ tb g e4 e5
  have n127 : ∀ tb g, getT tb 0 = .ptr 0 0 0 → getT tb 4 = .ptr 32 1 0 → getT tb 5 = .ptr 40 x1 0 → getT tb 6 = I64 (k : Int) → getT tb 49 = .ptr 40 x1 0 → getT tb 50 = .arr 88 x2 → getT tb 51 = I64 (k : Int) → getT tb 52 = .ptr 0 0 0 → getT tb 53 = .list 1 [.int .i64 0, .int .i64 3, .int .i64 (-1)] → getT tb 54 = I64 z → getT tb 55 = .ptr 88 x2 k → exT C0 0 (inlW C0 [fm_copyTabS] [fw_pick, fw_one] 0 0) ro_174_10 Q ex_174_10_127 ⟨tb, [⟨0, 0, .cells (RS b (p + 4))⟩, ⟨32, 1, .cells [.nil, .nil]⟩, ⟨40, x1, .cells [.arr 88 x2, .arr 136 x3]⟩, ⟨88, x2, .arr 1 (ints u)⟩, ⟨136, x3, .arr 1 (orowsD t)⟩], g⟩ := by
    intro tb g e0 e4 e5 e6 e49 e50 e51 e52 e53 e54 e55
    unfold ex_174_10_127
    simp only [exT_alt, exT_one, exT_stop, and_true]
    rw [ro_174_10_7]
    simp [callDOW, l1, rg3, hku, e0, e4, e5, e6, e49, e50, e51, e52, e53, e54, e55]
    refine n255 _ _ ?_ ?_ ?_ ?_ ?_ ?_ ?_ ?_ ?_ ?_ ?_ <;> simp [getT, e0, e4, e5, e6, e49, e50, e51, e52, e53, e54, e55]
  have n63 : ∀ tb g, getT tb 0 = .ptr 0 0 0 → getT tb 4 = .ptr 32 1 0 → getT tb 5 = .ptr 40 x1 0 → getT tb 6 = I64 (k : Int) → getT tb 49 = .ptr 40 x1 0 → getT tb 50 = .arr 88 x2 → getT tb 51 = I64 (k : Int) → getT tb 52 = .ptr 0 0 0 → getT tb 53 = .list 1 [.int .i64 0, .int .i64 3, .int .i64 (-1)] → getT tb 54 = I64 z → exT C0 0 (inlW C0 [fm_copyTabS] [fw_pick, fw_one] 0 0) ro_174_10 Q ex_174_10_63 ⟨tb, [⟨0, 0, .cells (RS b (p + 4))⟩, ⟨32, 1, .cells [.nil, .nil]⟩, ⟨40, x1, .cells [.arr 88 x2, .arr 136 x3]⟩, ⟨88, x2, .arr 1 (ints u)⟩, ⟨136, x3, .arr 1 (orowsD t)⟩], g⟩ := by
    intro tb g e0 e4 e5 e6 e49 e50 e51 e52 e53 e54
    unfold ex_174_10_63
    simp only [exT_alt, exT_one, exT_stop, and_true]
    rw [ro_174_10_6]
    simp [callDOW, l1, rg3, hku, e0, e4, e5, e6, e49, e50, e51, e52, e53, e54]
    refine n127 _ _ ?_ ?_ ?_ ?_ ?_ ?_ ?_ ?_ ?_ ?_ ?_ <;> simp [getT, e0, e4, e5, e6, e49, e50, e51, e52, e53, e54]
  have n61 : ∀ tb g, getT tb 0 = .ptr 0 0 0 → getT tb 4 = .ptr 32 1 0 → getT tb 5 = .ptr 40 x1 0 → getT tb 6 = I64 (k : Int) → getT tb 49 = .ptr 40 x1 0 → getT tb 51 = I64 (k : Int) → getT tb 52 = .ptr 0 0 0 → getT tb 53 = .list 1 [.int .i64 0, .int .i64 3, .int .i64 (-1)] → getT tb 54 = I64 z → exT C0 0 (inlW C0 [fm_copyTabS] [fw_pick, fw_one] 0 0) ro_174_10 Q ex_174_10_61 ⟨tb, [⟨0, 0, .cells (RS b (p + 4))⟩, ⟨32, 1, .cells [.nil, .nil]⟩, ⟨40, x1, .cells [.arr 88 x2, .arr 136 x3]⟩, ⟨88, x2, .arr 1 (ints u)⟩, ⟨136, x3, .arr 1 (orowsD t)⟩], g⟩ := by
    intro tb g e0 e4 e5 e6 e49 e51 e52 e53 e54
    unfold ex_174_10_61
    simp only [exT_alt, exT_one, exT_stop, and_true]
    rw [ro_174_10_1]
    simp [callDOW, l1, rg3, hku, e0, e4, e5, e6, e49, e51, e52, e53, e54]
    refine n63 _ _ ?_ ?_ ?_ ?_ ?_ ?_ ?_ ?_ ?_ ?_ <;> simp [getT, e0, e4, e5, e6, e49, e51, e52, e53, e54]
  have n60 : ∀ tb g, getT tb 0 = .ptr 0 0 0 → getT tb 4 = .ptr 32 1 0 → getT tb 5 = .ptr 40 x1 0 → getT tb 6 = I64 (k : Int) → getT tb 51 = I64 (k : Int) → getT tb 52 = .ptr 0 0 0 → getT tb 53 = .list 1 [.int .i64 0, .int .i64 3, .int .i64 (-1)] → getT tb 54 = I64 z → exT C0 0 (inlW C0 [fm_copyTabS] [fw_pick, fw_one] 0 0) ro_174_10 Q ex_174_10_60 ⟨tb, [⟨0, 0, .cells (RS b (p + 4))⟩, ⟨32, 1, .cells [.nil, .nil]⟩, ⟨40, x1, .cells [.arr 88 x2, .arr 136 x3]⟩, ⟨88, x2, .arr 1 (ints u)⟩, ⟨136, x3, .arr 1 (orowsD t)⟩], g⟩ := by
    intro tb g e0 e4 e5 e6 e51 e52 e53 e54
    unfold ex_174_10_60
    simp only [exT_alt, exT_one, exT_stop, and_true]
    rw [ro_174_10_0]
    simp [callDOW, l1, rg3, hku, e0, e4, e5, e6, e51, e52, e53, e54]
    refine n61 _ _ ?_ ?_ ?_ ?_ ?_ ?_ ?_ ?_ ?_ <;> simp [getT, e0, e4, e5, e6, e51, e52, e53, e54]
  have n31 : ∀ tb g, getT tb 0 = .ptr 0 0 0 → getT tb 4 = .ptr 32 1 0 → getT tb 5 = .ptr 40 x1 0 → getT tb 6 = I64 (k : Int) → getT tb 49 = .ptr 40 x1 0 → getT tb 50 = .arr 88 x2 → getT tb 51 = I64 (k : Int) → getT tb 52 = .ptr 0 0 0 → getT tb 53 = .list 1 [.int .i64 0, .int .i64 3, .int .i64 (-1)] → exT C0 0 (inlW C0 [fm_copyTabS] [fw_pick, fw_one] 0 0) ro_174_10 Q ex_174_10_31 ⟨tb, [⟨0, 0, .cells (RS b (p + 3))⟩, ⟨32, 1, .cells [.nil, .nil]⟩, ⟨40, x1, .cells [.arr 88 x2, .arr 136 x3]⟩, ⟨88, x2, .arr 1 (ints u)⟩, ⟨136, x3, .arr 1 (orowsD t)⟩], g⟩ := by
    intro tb g e0 e4 e5 e6 e49 e50 e51 e52 e53
    unfold ex_174_10_31
    simp only [exT_alt, exT_one, exT_stop, and_true]
    rw [ro_174_10_5]
    simp [callDOW, l1, rg3, hku, e0, e4, e5, e6, e49, e50, e51, e52, e53]
    refine n63 _ _ ?_ ?_ ?_ ?_ ?_ ?_ ?_ ?_ ?_ ?_ <;> simp [getT, e0, e4, e5, e6, e49, e50, e51, e52, e53]
  have n29 : ∀ tb g, getT tb 0 = .ptr 0 0 0 → getT tb 4 = .ptr 32 1 0 → getT tb 5 = .ptr 40 x1 0 → getT tb 6 = I64 (k : Int) → getT tb 49 = .ptr 40 x1 0 → getT tb 51 = I64 (k : Int) → getT tb 52 = .ptr 0 0 0 → getT tb 53 = .list 1 [.int .i64 0, .int .i64 3, .int .i64 (-1)] → exT C0 0 (inlW C0 [fm_copyTabS] [fw_pick, fw_one] 0 0) ro_174_10 Q ex_174_10_29 ⟨tb, [⟨0, 0, .cells (RS b (p + 3))⟩, ⟨32, 1, .cells [.nil, .nil]⟩, ⟨40, x1, .cells [.arr 88 x2, .arr 136 x3]⟩, ⟨88, x2, .arr 1 (ints u)⟩, ⟨136, x3, .arr 1 (orowsD t)⟩], g⟩ := by
    intro tb g e0 e4 e5 e6 e49 e51 e52 e53
    unfold ex_174_10_29
    simp only [exT_alt, exT_one, exT_stop, and_true]
    refine ⟨?_, ?_⟩
    · rw [ro_174_10_1]
      simp [callDOW, l1, rg3, hku, e0, e4, e5, e6, e49, e51, e52, e53]
      refine n31 _ _ ?_ ?_ ?_ ?_ ?_ ?_ ?_ ?_ ?_ <;> simp [getT, e0, e4, e5, e6, e49, e51, e52, e53]
    · rw [ro_174_10_5]
      simp [callDOW, l1, rg3, hku, e0, e4, e5, e6, e49, e51, e52, e53]
      refine n61 _ _ ?_ ?_ ?_ ?_ ?_ ?_ ?_ ?_ ?_ <;> simp [getT, e0, e4, e5, e6, e49, e51, e52, e53]
  have n28 : ∀ tb g, getT tb 0 = .ptr 0 0 0 → getT tb 4 = .ptr 32 1 0 → getT tb 5 = .ptr 40 x1 0 → getT tb 6 = I64 (k : Int) → getT tb 51 = I64 (k : Int) → getT tb 52 = .ptr 0 0 0 → getT tb 53 = .list 1 [.int .i64 0, .int .i64 3, .int .i64 (-1)] → exT C0 0 (inlW C0 [fm_copyTabS] [fw_pick, fw_one] 0 0) ro_174_10 Q ex_174_10_28 ⟨tb, [⟨0, 0, .cells (RS b (p + 3))⟩, ⟨32, 1, .cells [.nil, .nil]⟩, ⟨40, x1, .cells [.arr 88 x2, .arr 136 x3]⟩, ⟨88, x2, .arr 1 (ints u)⟩, ⟨136, x3, .arr 1 (orowsD t)⟩], g⟩ := by
    intro tb g e0 e4 e5 e6 e51 e52 e53
    unfold ex_174_10_28
    simp only [exT_alt, exT_one, exT_stop, and_true]
    refine ⟨?_, ?_⟩
    · rw [ro_174_10_0]
      simp [callDOW, l1, rg3, hku, e0, e4, e5, e6, e51, e52, e53]
      refine n29 _ _ ?_ ?_ ?_ ?_ ?_ ?_ ?_ ?_ <;> simp [getT, e0, e4, e5, e6, e51, e52, e53]
    · rw [ro_174_10_5]
      simp [callDOW, l1, rg3, hku, e0, e4, e5, e6, e51, e52, e53]
      refine n60 _ _ ?_ ?_ ?_ ?_ ?_ ?_ ?_ ?_ <;> simp [getT, e0, e4, e5, e6, e51, e52, e53]
  have n12 : ∀ tb g, getT tb 0 = .ptr 0 0 0 → getT tb 4 = .ptr 32 1 0 → getT tb 5 = .ptr 40 x1 0 → getT tb 6 = I64 (k : Int) → getT tb 51 = I64 (k : Int) → getT tb 52 = .ptr 0 0 0 → exT C0 0 (inlW C0 [fm_copyTabS] [fw_pick, fw_one] 0 0) ro_174_10 Q ex_174_10_12 ⟨tb, [⟨0, 0, .cells (RS b (p + 3))⟩, ⟨32, 1, .cells [.nil, .nil]⟩, ⟨40, x1, .cells [.arr 88 x2, .arr 136 x3]⟩, ⟨88, x2, .arr 1 (ints u)⟩, ⟨136, x3, .arr 1 (orowsD t)⟩], g⟩ := by
    intro tb g e0 e4 e5 e6 e51 e52
    unfold ex_174_10_12
    simp only [exT_alt, exT_one, exT_stop, and_true]
    rw [ro_174_10_4]
    simp [callDOW, l1, rg3, hku, e0, e4, e5, e6, e51, e52]
    refine n28 _ _ ?_ ?_ ?_ ?_ ?_ ?_ ?_ <;> simp [getT, e0, e4, e5, e6, e51, e52]
  have n4 : ∀ tb g, getT tb 0 = .ptr 0 0 0 → getT tb 4 = .ptr 32 1 0 → getT tb 5 = .ptr 40 x1 0 → getT tb 6 = I64 (k : Int) → getT tb 51 = I64 (k : Int) → exT C0 0 (inlW C0 [fm_copyTabS] [fw_pick, fw_one] 0 0) ro_174_10 Q ex_174_10_4 ⟨tb, [⟨0, 0, .cells (RS b (p + 3))⟩, ⟨32, 1, .cells [.nil, .nil]⟩, ⟨40, x1, .cells [.arr 88 x2, .arr 136 x3]⟩, ⟨88, x2, .arr 1 (ints u)⟩, ⟨136, x3, .arr 1 (orowsD t)⟩], g⟩ := by
    intro tb g e0 e4 e5 e6 e51
    unfold ex_174_10_4
    simp only [exT_alt, exT_one, exT_stop, and_true]
    rw [ro_174_10_3]
    simp [callDOW, l1, rg3, hku, e0, e4, e5, e6, e51]
    refine n12 _ _ ?_ ?_ ?_ ?_ ?_ ?_ <;> simp [getT, e0, e4, e5, e6, e51]
  have n0 : ∀ tb g, getT tb 0 = .ptr 0 0 0 → getT tb 4 = .ptr 32 1 0 → getT tb 5 = .ptr 40 x1 0 → getT tb 6 = I64 (k : Int) → exT C0 0 (inlW C0 [fm_copyTabS] [fw_pick, fw_one] 0 0) ro_174_10 Q ex_174_10_0 ⟨tb, [⟨0, 0, .cells (RS b (p + 3))⟩, ⟨32, 1, .cells [.nil, .nil]⟩, ⟨40, x1, .cells [.arr 88 x2, .arr 136 x3]⟩, ⟨88, x2, .arr 1 (ints u)⟩, ⟨136, x3, .arr 1 (orowsD t)⟩], g⟩ := by
    intro tb g e0 e4 e5 e6
    unfold ex_174_10_0
    simp only [exT_alt, exT_one, exT_stop, and_true]
    rw [ro_174_10_2]
    simp [callDOW, l1, rg3, hku, e0, e4, e5, e6]
    refine n4 _ _ ?_ ?_ ?_ ?_ ?_ <;> simp [getT, e0, e4, e5, e6]
  exact n0
set_option maxHeartbeats 2000000 in
theorem bent_dag14 {Q : St → Prop} {b : List Int} {p : Nat} {u : List Int} {t : List (List Int)} {k x1 x2 x3 : Nat} (hkt : k < t.length) (hyr : 1 ≤ (gr t k).length) (hyn : ¬ gr t k = []) (hyi : (1 : Int) ≤ (gr t k).length)
    (hQ : ∀ tb g, getT tb 4 = .ptr 32 1 0 → getT tb 5 = .ptr 40 x1 0 → Q ⟨tb, [⟨0, 0, .cells (RS b (p + 3))⟩, ⟨32, 1, .cells [.nil, .nil]⟩, ⟨40, x1, .cells [.arr 88 x2, .arr 136 x3]⟩, ⟨88, x2, .arr 1 (ints u)⟩, ⟨136, x3, .arr 1 ((orowsD t).set k (IL ((gr t k).tail)))⟩], g⟩) : ∀ tb g, getT tb 4 = .ptr 32 1 0 → getT tb 5 = .ptr 40 x1 0 → getT tb 6 = I64 (k : Int) → exT C0 0 (inlW C0 [fm_copyTabS] [fw_pick, fw_one] 0 0) ro_174_14 Q ex_174_14_0 ⟨tb, [⟨0, 0, .cells (RS b (p + 3))⟩, ⟨32, 1, .cells [.nil, .nil]⟩, ⟨40, x1, .cells [.arr 88 x2, .arr 136 x3]⟩, ⟨88, x2, .arr 1 (ints u)⟩, ⟨136, x3, .arr 1 (orowsD t)⟩], g⟩ := by
  have n2047 : ∀ tb g, getT tb 4 = .ptr 32 1 0 → getT tb 5 = .ptr 40 x1 0 → getT tb 6 = I64 (k : Int) → getT tb 64 = .ptr 40 x1 1 → getT tb 65 = .arr 136 x3 → getT tb 66 = I64 (k : Int) → getT tb 67 = .ptr 40 x1 1 → getT tb 68 = .arr 136 x3 → getT tb 69 = I64 (k : Int) → getT tb 70 = .ptr 136 x3 k → getT tb 71 = IL (gr t k) → getT tb 72 = IL ((gr t k).tail) → getT tb 73 = .ptr 136 x3 k → exT C0 0 (inlW C0 [fm_copyTabS] [fw_pick, fw_one] 0 0) ro_174_14 Q ex_174_14_2047 ⟨tb, [⟨0, 0, .cells (RS b (p + 3))⟩, ⟨32, 1, .cells [.nil, .nil]⟩, ⟨40, x1, .cells [.arr 88 x2, .arr 136 x3]⟩, ⟨88, x2, .arr 1 (ints u)⟩, ⟨136, x3, .arr 1 ((orowsD t).set k (IL ((gr t k).tail)))⟩], g⟩ := by
    intro tb g e4 e5 e6 e64 e65 e66 e67 e68 e69 e70 e71 e72 e73
    unfold ex_174_14_2047
    exact hQ tb g e4 e5
  have n1023 : ∀ tb g, getT tb 4 = .ptr 32 1 0 → getT tb 5 = .ptr 40 x1 0 → getT tb 6 = I64 (k : Int) → getT tb 64 = .ptr 40 x1 1 → getT tb 65 = .arr 136 x3 → getT tb 66 = I64 (k : Int) → getT tb 67 = .ptr 40 x1 1 → getT tb 68 = .arr 136 x3 → getT tb 69 = I64 (k : Int) → getT tb 70 = .ptr 136 x3 k → getT tb 71 = IL (gr t k) → getT tb 72 = IL ((gr t k).tail) → getT tb 73 = .ptr 136 x3 k → exT C0 0 (inlW C0 [fm_copyTabS] [fw_pick, fw_one] 0 0) ro_174_14 Q ex_174_14_1023 ⟨tb, [⟨0, 0, .cells (RS b (p + 3))⟩, ⟨32, 1, .cells [.nil, .nil]⟩, ⟨40, x1, .cells [.arr 88 x2, .arr 136 x3]⟩, ⟨88, x2, .arr 1 (ints u)⟩, ⟨136, x3, .arr 1 ((orowsD t).set k (IL (gr t k)))⟩], g⟩ := by
    intro tb g e4 e5 e6 e64 e65 e66 e67 e68 e69 e70 e71 e72 e73
    unfold ex_174_14_1023
    simp only [exT_alt, exT_one, exT_stop, and_true]
    rw [ro_174_14_10]
    simp [hkt, hyr, hyn, hyi, orowsD_ge, rowAt, rowB, e4, e5, e6, e64, e65, e66, e67, e68, e69, e70, e71, e72, e73]
    refine n2047 _ _ ?_ ?_ ?_ ?_ ?_ ?_ ?_ ?_ ?_ ?_ ?_ ?_ ?_ <;> simp [getT, e4, e5, e6, e64, e65, e66, e67, e68, e69, e70, e71, e72, e73]
  have n511 : ∀ tb g, getT tb 4 = .ptr 32 1 0 → getT tb 5 = .ptr 40 x1 0 → getT tb 6 = I64 (k : Int) → getT tb 64 = .ptr 40 x1 1 → getT tb 65 = .arr 136 x3 → getT tb 66 = I64 (k : Int) → getT tb 67 = .ptr 40 x1 1 → getT tb 68 = .arr 136 x3 → getT tb 69 = I64 (k : Int) → getT tb 70 = .ptr 136 x3 k → getT tb 71 = IL (gr t k) → getT tb 72 = IL ((gr t k).tail) → exT C0 0 (inlW C0 [fm_copyTabS] [fw_pick, fw_one] 0 0) ro_174_14 Q ex_174_14_511 ⟨tb, [⟨0, 0, .cells (RS b (p + 3))⟩, ⟨32, 1, .cells [.nil, .nil]⟩, ⟨40, x1, .cells [.arr 88 x2, .arr 136 x3]⟩, ⟨88, x2, .arr 1 (ints u)⟩, ⟨136, x3, .arr 1 ((orowsD t).set k (IL (gr t k)))⟩], g⟩ := by
    intro tb g e4 e5 e6 e64 e65 e66 e67 e68 e69 e70 e71 e72
    unfold ex_174_14_511
    simp only [exT_alt, exT_one, exT_stop, and_true]
    rw [ro_174_14_9]
    simp [hkt, hyr, hyn, hyi, orowsD_ge, rowAt, rowB, e4, e5, e6, e64, e65, e66, e67, e68, e69, e70, e71, e72]
    refine n1023 _ _ ?_ ?_ ?_ ?_ ?_ ?_ ?_ ?_ ?_ ?_ ?_ ?_ ?_ <;> simp [getT, e4, e5, e6, e64, e65, e66, e67, e68, e69, e70, e71, e72]
  have n509 : ∀ tb g, getT tb 4 = .ptr 32 1 0 → getT tb 5 = .ptr 40 x1 0 → getT tb 6 = I64 (k : Int) → getT tb 64 = .ptr 40 x1 1 → getT tb 66 = I64 (k : Int) → getT tb 67 = .ptr 40 x1 1 → getT tb 68 = .arr 136 x3 → getT tb 69 = I64 (k : Int) → getT tb 70 = .ptr 136 x3 k → getT tb 71 = IL (gr t k) → getT tb 72 = IL ((gr t k).tail) → exT C0 0 (inlW C0 [fm_copyTabS] [fw_pick, fw_one] 0 0) ro_174_14 Q ex_174_14_509 ⟨tb, [⟨0, 0, .cells (RS b (p + 3))⟩, ⟨32, 1, .cells [.nil, .nil]⟩, ⟨40, x1, .cells [.arr 88 x2, .arr 136 x3]⟩, ⟨88, x2, .arr 1 (ints u)⟩, ⟨136, x3, .arr 1 ((orowsD t).set k (IL (gr t k)))⟩], g⟩ := by
    intro tb g e4 e5 e6 e64 e66 e67 e68 e69 e70 e71 e72
    unfold ex_174_14_509
    simp only [exT_alt, exT_one, exT_stop, and_true]
    rw [ro_174_14_1]
    simp [hkt, hyr, hyn, hyi, orowsD_ge, rowAt, rowB, e4, e5, e6, e64, e66, e67, e68, e69, e70, e71, e72]
    refine n511 _ _ ?_ ?_ ?_ ?_ ?_ ?_ ?_ ?_ ?_ ?_ ?_ ?_ <;> simp [getT, e4, e5, e6, e64, e66, e67, e68, e69, e70, e71, e72]
  have n508 : ∀ tb g, getT tb 4 = .ptr 32 1 0 → getT tb 5 = .ptr 40 x1 0 → getT tb 6 = I64 (k : Int) → getT tb 66 = I64 (k : Int) → getT tb 67 = .ptr 40 x1 1 → getT tb 68 = .arr 136 x3 → getT tb 69 = I64 (k : Int) → getT tb 70 = .ptr 136 x3 k → getT tb 71 = IL (gr t k) → getT tb 72 = IL ((gr t k).tail) → exT C0 0 (inlW C0 [fm_copyTabS] [fw_pick, fw_one] 0 0) ro_174_14 Q ex_174_14_508 ⟨tb, [⟨0, 0, .cells (RS b (p + 3))⟩, ⟨32, 1, .cells [.nil, .nil]⟩, ⟨40, x1, .cells [.arr 88 x2, .arr 136 x3]⟩, ⟨88, x2, .arr 1 (ints u)⟩, ⟨136, x3, .arr 1 ((orowsD t).set k (IL (gr t k)))⟩], g⟩ := by
    intro tb g e4 e5 e6 e66 e67 e68 e69 e70 e71 e72
    unfold ex_174_14_508
    simp only [exT_alt, exT_one, exT_stop, and_true]
    rw [ro_174_14_0]
    simp [hkt, hyr, hyn, hyi, orowsD_ge, rowAt, rowB, e4, e5, e6, e66, e67, e68, e69, e70, e71, e72]
    refine n509 _ _ ?_ ?_ ?_ ?_ ?_ ?_ ?_ ?_ ?_ ?_ ?_ <;> simp [getT, e4, e5, e6, e66, e67, e68, e69, e70, e71, e72]
  have n252 : ∀ tb g, getT tb 4 = .ptr 32 1 0 → getT tb 5 = .ptr 40 x1 0 → getT tb 6 = I64 (k : Int) → getT tb 66 = I64 (k : Int) → getT tb 67 = .ptr 40 x1 1 → getT tb 68 = .arr 136 x3 → getT tb 69 = I64 (k : Int) → getT tb 70 = .ptr 136 x3 k → getT tb 71 = IL (gr t k) → exT C0 0 (inlW C0 [fm_copyTabS] [fw_pick, fw_one] 0 0) ro_174_14 Q ex_174_14_252 ⟨tb, [⟨0, 0, .cells (RS b (p + 3))⟩, ⟨32, 1, .cells [.nil, .nil]⟩, ⟨40, x1, .cells [.arr 88 x2, .arr 136 x3]⟩, ⟨88, x2, .arr 1 (ints u)⟩, ⟨136, x3, .arr 1 ((orowsD t).set k (IL (gr t k)))⟩], g⟩ := by
    intro tb g e4 e5 e6 e66 e67 e68 e69 e70 e71
    unfold ex_174_14_252
    simp only [exT_alt, exT_one, exT_stop, and_true]
    rw [ro_174_14_8]
    simp [hkt, hyr, hyn, hyi, orowsD_ge, rowAt, rowB, e4, e5, e6, e66, e67, e68, e69, e70, e71]
    refine n508 _ _ ?_ ?_ ?_ ?_ ?_ ?_ ?_ ?_ ?_ ?_ <;> simp [getT, e4, e5, e6, e66, e67, e68, e69, e70, e71]
  have n253 : ∀ tb g, getT tb 4 = .ptr 32 1 0 → getT tb 5 = .ptr 40 x1 0 → getT tb 6 = I64 (k : Int) → getT tb 64 = .ptr 40 x1 1 → getT tb 66 = I64 (k : Int) → getT tb 67 = .ptr 40 x1 1 → getT tb 68 = .arr 136 x3 → getT tb 69 = I64 (k : Int) → getT tb 70 = .ptr 136 x3 k → getT tb 71 = IL (gr t k) → exT C0 0 (inlW C0 [fm_copyTabS] [fw_pick, fw_one] 0 0) ro_174_14 Q ex_174_14_253 ⟨tb, [⟨0, 0, .cells (RS b (p + 3))⟩, ⟨32, 1, .cells [.nil, .nil]⟩, ⟨40, x1, .cells [.arr 88 x2, .arr 136 x3]⟩, ⟨88, x2, .arr 1 (ints u)⟩, ⟨136, x3, .arr 1 ((orowsD t).set k (IL (gr t k)))⟩], g⟩ := by
    intro tb g e4 e5 e6 e64 e66 e67 e68 e69 e70 e71
    unfold ex_174_14_253
    simp only [exT_alt, exT_one, exT_stop, and_true]
    rw [ro_174_14_8]
    simp [hkt, hyr, hyn, hyi, orowsD_ge, rowAt, rowB, e4, e5, e6, e64, e66, e67, e68, e69, e70, e71]
    refine n509 _ _ ?_ ?_ ?_ ?_ ?_ ?_ ?_ ?_ ?_ ?_ ?_ <;> simp [getT, e4, e5, e6, e64, e66, e67, e68, e69, e70, e71]
  have n255 : ∀ tb g, getT tb 4 = .ptr 32 1 0 → getT tb 5 = .ptr 40 x1 0 → getT tb 6 = I64 (k : Int) → getT tb 64 = .ptr 40 x1 1 → getT tb 65 = .arr 136 x3 → getT tb 66 = I64 (k : Int) → getT tb 67 = .ptr 40 x1 1 → getT tb 68 = .arr 136 x3 → getT tb 69 = I64 (k : Int) → getT tb 70 = .ptr 136 x3 k → getT tb 71 = IL (gr t k) → exT C0 0 (inlW C0 [fm_copyTabS] [fw_pick, fw_one] 0 0) ro_174_14 Q ex_174_14_255 ⟨tb, [⟨0, 0, .cells (RS b (p + 3))⟩, ⟨32, 1, .cells [.nil, .nil]⟩, ⟨40, x1, .cells [.arr 88 x2, .arr 136 x3]⟩, ⟨88, x2, .arr 1 (ints u)⟩, ⟨136, x3, .arr 1 ((orowsD t).set k (IL (gr t k)))⟩], g⟩ := by
    intro tb g e4 e5 e6 e64 e65 e66 e67 e68 e69 e70 e71
    unfold ex_174_14_255
    simp only [exT_alt, exT_one, exT_stop, and_true]
    rw [ro_174_14_8]
    simp [hkt, hyr, hyn, hyi, orowsD_ge, rowAt, rowB, e4, e5, e6, e64, e65, e66, e67, e68, e69, e70, e71]
    refine n511 _ _ ?_ ?_ ?_ ?_ ?_ ?_ ?_ ?_ ?_ ?_ ?_ ?_ <;> simp [getT, e4, e5, e6, e64, e65, e66, e67, e68, e69, e70, e71]
  have n127 : ∀ tb g, getT tb 4 = .ptr 32 1 0 → getT tb 5 = .ptr 40 x1 0 → getT tb 6 = I64 (k : Int) → getT tb 64 = .ptr 40 x1 1 → getT tb 65 = .arr 136 x3 → getT tb 66 = I64 (k : Int) → getT tb 67 = .ptr 40 x1 1 → getT tb 68 = .arr 136 x3 → getT tb 69 = I64 (k : Int) → getT tb 70 = .ptr 136 x3 k → exT C0 0 (inlW C0 [fm_copyTabS] [fw_pick, fw_one] 0 0) ro_174_14 Q ex_174_14_127 ⟨tb, [⟨0, 0, .cells (RS b (p + 3))⟩, ⟨32, 1, .cells [.nil, .nil]⟩, ⟨40, x1, .cells [.arr 88 x2, .arr 136 x3]⟩, ⟨88, x2, .arr 1 (ints u)⟩, ⟨136, x3, .arr 1 (orowsD t)⟩], g⟩ := by
    intro tb g e4 e5 e6 e64 e65 e66 e67 e68 e69 e70
    unfold ex_174_14_127
    simp only [exT_alt, exT_one, exT_stop, and_true]
    rw [ro_174_14_7]
    simp [hkt, hyr, hyn, hyi, orowsD_ge, rowAt, rowB, e4, e5, e6, e64, e65, e66, e67, e68, e69, e70]
    refine n255 _ _ ?_ ?_ ?_ ?_ ?_ ?_ ?_ ?_ ?_ ?_ ?_ <;> simp [getT, e4, e5, e6, e64, e65, e66, e67, e68, e69, e70]
  have n125 : ∀ tb g, getT tb 4 = .ptr 32 1 0 → getT tb 5 = .ptr 40 x1 0 → getT tb 6 = I64 (k : Int) → getT tb 64 = .ptr 40 x1 1 → getT tb 66 = I64 (k : Int) → getT tb 67 = .ptr 40 x1 1 → getT tb 68 = .arr 136 x3 → getT tb 69 = I64 (k : Int) → getT tb 70 = .ptr 136 x3 k → exT C0 0 (inlW C0 [fm_copyTabS] [fw_pick, fw_one] 0 0) ro_174_14 Q ex_174_14_125 ⟨tb, [⟨0, 0, .cells (RS b (p + 3))⟩, ⟨32, 1, .cells [.nil, .nil]⟩, ⟨40, x1, .cells [.arr 88 x2, .arr 136 x3]⟩, ⟨88, x2, .arr 1 (ints u)⟩, ⟨136, x3, .arr 1 (orowsD t)⟩], g⟩ := by
    intro tb g e4 e5 e6 e64 e66 e67 e68 e69 e70
    unfold ex_174_14_125
    simp only [exT_alt, exT_one, exT_stop, and_true]
    refine ⟨?_, ?_⟩
    · rw [ro_174_14_1]
      simp [hkt, hyr, hyn, hyi, orowsD_ge, rowAt, rowB, e4, e5, e6, e64, e66, e67, e68, e69, e70]
      refine n127 _ _ ?_ ?_ ?_ ?_ ?_ ?_ ?_ ?_ ?_ ?_ <;> simp [getT, e4, e5, e6, e64, e66, e67, e68, e69, e70]
    · rw [ro_174_14_7]
      simp [hkt, hyr, hyn, hyi, orowsD_ge, rowAt, rowB, e4, e5, e6, e64, e66, e67, e68, e69, e70]
      refine n253 _ _ ?_ ?_ ?_ ?_ ?_ ?_ ?_ ?_ ?_ ?_ <;> simp [getT, e4, e5, e6, e64, e66, e67, e68, e69, e70]
  have n124 : ∀ tb g, getT tb 4 = .ptr 32 1 0 → getT tb 5 = .ptr 40 x1 0 → getT tb 6 = I64 (k : Int) → getT tb 66 = I64 (k : Int) → getT tb 67 = .ptr 40 x1 1 → getT tb 68 = .arr 136 x3 → getT tb 69 = I64 (k : Int) → getT tb 70 = .ptr 136 x3 k → exT C0 0 (inlW C0 [fm_copyTabS] [fw_pick, fw_one] 0 0) ro_174_14 Q ex_174_14_124 ⟨tb, [⟨0, 0, .cells (RS b (p + 3))⟩, ⟨32, 1, .cells [.nil, .nil]⟩, ⟨40, x1, .cells [.arr 88 x2, .arr 136 x3]⟩, ⟨88, x2, .arr 1 (ints u)⟩, ⟨136, x3, .arr 1 (orowsD t)⟩], g⟩ := by
    intro tb g e4 e5 e6 e66 e67 e68 e69 e70
    unfold ex_174_14_124
    simp only [exT_alt, exT_one, exT_stop, and_true]
    refine ⟨?_, ?_⟩
    · rw [ro_174_14_0]
      simp [hkt, hyr, hyn, hyi, orowsD_ge, rowAt, rowB, e4, e5, e6, e66, e67, e68, e69, e70]
      refine n125 _ _ ?_ ?_ ?_ ?_ ?_ ?_ ?_ ?_ ?_ <;> simp [getT, e4, e5, e6, e66, e67, e68, e69, e70]
    · rw [ro_174_14_7]
      simp [hkt, hyr, hyn, hyi, orowsD_ge, rowAt, rowB, e4, e5, e6, e66, e67, e68, e69, e70]
      refine n252 _ _ ?_ ?_ ?_ ?_ ?_ ?_ ?_ ?_ ?_ <;> simp [getT, e4, e5, e6, e66, e67, e68, e69, e70]
  have n63 : ∀ tb g, getT tb 4 = .ptr 32 1 0 → getT tb 5 = .ptr 40 x1 0 → getT tb 6 = I64 (k : Int) → getT tb 64 = .ptr 40 x1 1 → getT tb 65 = .arr 136 x3 → getT tb 66 = I64 (k : Int) → getT tb 67 = .ptr 40 x1 1 → getT tb 68 = .arr 136 x3 → getT tb 69 = I64 (k : Int) → exT C0 0 (inlW C0 [fm_copyTabS] [fw_pick, fw_one] 0 0) ro_174_14 Q ex_174_14_63 ⟨tb, [⟨0, 0, .cells (RS b (p + 3))⟩, ⟨32, 1, .cells [.nil, .nil]⟩, ⟨40, x1, .cells [.arr 88 x2, .arr 136 x3]⟩, ⟨88, x2, .arr 1 (ints u)⟩, ⟨136, x3, .arr 1 (orowsD t)⟩], g⟩ := by
    intro tb g e4 e5 e6 e64 e65 e66 e67 e68 e69
    unfold ex_174_14_63
    simp only [exT_alt, exT_one, exT_stop, and_true]
    rw [ro_174_14_6]
    simp [hkt, hyr, hyn, hyi, orowsD_ge, rowAt, rowB, e4, e5, e6, e64, e65, e66, e67, e68, e69]
    refine n127 _ _ ?_ ?_ ?_ ?_ ?_ ?_ ?_ ?_ ?_ ?_ <;> simp [getT, e4, e5, e6, e64, e65, e66, e67, e68, e69]
  have n61 : ∀ tb g, getT tb 4 = .ptr 32 1 0 → getT tb 5 = .ptr 40 x1 0 → getT tb 6 = I64 (k : Int) → getT tb 64 = .ptr 40 x1 1 → getT tb 66 = I64 (k : Int) → getT tb 67 = .ptr 40 x1 1 → getT tb 68 = .arr 136 x3 → getT tb 69 = I64 (k : Int) → exT C0 0 (inlW C0 [fm_copyTabS] [fw_pick, fw_one] 0 0) ro_174_14 Q ex_174_14_61 ⟨tb, [⟨0, 0, .cells (RS b (p + 3))⟩, ⟨32, 1, .cells [.nil, .nil]⟩, ⟨40, x1, .cells [.arr 88 x2, .arr 136 x3]⟩, ⟨88, x2, .arr 1 (ints u)⟩, ⟨136, x3, .arr 1 (orowsD t)⟩], g⟩ := by
    intro tb g e4 e5 e6 e64 e66 e67 e68 e69
    unfold ex_174_14_61
    simp only [exT_alt, exT_one, exT_stop, and_true]
    refine ⟨?_, ?_⟩
    · rw [ro_174_14_1]
      simp [hkt, hyr, hyn, hyi, orowsD_ge, rowAt, rowB, e4, e5, e6, e64, e66, e67, e68, e69]
      refine n63 _ _ ?_ ?_ ?_ ?_ ?_ ?_ ?_ ?_ ?_ <;> simp [getT, e4, e5, e6, e64, e66, e67, e68, e69]
    · rw [ro_174_14_6]
      simp [hkt, hyr, hyn, hyi, orowsD_ge, rowAt, rowB, e4, e5, e6, e64, e66, e67, e68, e69]
      refine n125 _ _ ?_ ?_ ?_ ?_ ?_ ?_ ?_ ?_ ?_ <;> simp [getT, e4, e5, e6, e64, e66, e67, e68, e69]
  have n60 : ∀ tb g, getT tb 4 = .ptr 32 1 0 → getT tb 5 = .ptr 40 x1 0 → getT tb 6 = I64 (k : Int) → getT tb 66 = I64 (k : Int) → getT tb 67 = .ptr 40 x1 1 → getT tb 68 = .arr 136 x3 → getT tb 69 = I64 (k : Int) → exT C0 0 (inlW C0 [fm_copyTabS] [fw_pick, fw_one] 0 0) ro_174_14 Q ex_174_14_60 ⟨tb, [⟨0, 0, .cells (RS b (p + 3))⟩, ⟨32, 1, .cells [.nil, .nil]⟩, ⟨40, x1, .cells [.arr 88 x2, .arr 136 x3]⟩, ⟨88, x2, .arr 1 (ints u)⟩, ⟨136, x3, .arr 1 (orowsD t)⟩], g⟩ := by
    intro tb g e4 e5 e6 e66 e67 e68 e69
    unfold ex_174_14_60
    simp only [exT_alt, exT_one, exT_stop, and_true]
    refine ⟨?_, ?_⟩
    · rw [ro_174_14_0]
      simp [hkt, hyr, hyn, hyi, orowsD_ge, rowAt, rowB, e4, e5, e6, e66, e67, e68, e69]
      refine n61 _ _ ?_ ?_ ?_ ?_ ?_ ?_ ?_ ?_ <;> simp [getT, e4, e5, e6, e66, e67, e68, e69]
    · rw [ro_174_14_6]
      simp [hkt, hyr, hyn, hyi, orowsD_ge, rowAt, rowB, e4, e5, e6, e66, e67, e68, e69]
      refine n124 _ _ ?_ ?_ ?_ ?_ ?_ ?_ ?_ ?_ <;> simp [getT, e4, e5, e6, e66, e67, e68, e69]
  have n47 : ∀ tb g, getT tb 4 = .ptr 32 1 0 → getT tb 5 = .ptr 40 x1 0 → getT tb 6 = I64 (k : Int) → getT tb 64 = .ptr 40 x1 1 → getT tb 65 = .arr 136 x3 → getT tb 66 = I64 (k : Int) → getT tb 67 = .ptr 40 x1 1 → getT tb 69 = I64 (k : Int) → exT C0 0 (inlW C0 [fm_copyTabS] [fw_pick, fw_one] 0 0) ro_174_14 Q ex_174_14_47 ⟨tb, [⟨0, 0, .cells (RS b (p + 3))⟩, ⟨32, 1, .cells [.nil, .nil]⟩, ⟨40, x1, .cells [.arr 88 x2, .arr 136 x3]⟩, ⟨88, x2, .arr 1 (ints u)⟩, ⟨136, x3, .arr 1 (orowsD t)⟩], g⟩ := by
    intro tb g e4 e5 e6 e64 e65 e66 e67 e69
    unfold ex_174_14_47
    simp only [exT_alt, exT_one, exT_stop, and_true]
    rw [ro_174_14_4]
    simp [hkt, hyr, hyn, hyi, orowsD_ge, rowAt, rowB, e4, e5, e6, e64, e65, e66, e67, e69]
    refine n63 _ _ ?_ ?_ ?_ ?_ ?_ ?_ ?_ ?_ ?_ <;> simp [getT, e4, e5, e6, e64, e65, e66, e67, e69]
  have n45 : ∀ tb g, getT tb 4 = .ptr 32 1 0 → getT tb 5 = .ptr 40 x1 0 → getT tb 6 = I64 (k : Int) → getT tb 64 = .ptr 40 x1 1 → getT tb 66 = I64 (k : Int) → getT tb 67 = .ptr 40 x1 1 → getT tb 69 = I64 (k : Int) → exT C0 0 (inlW C0 [fm_copyTabS] [fw_pick, fw_one] 0 0) ro_174_14 Q ex_174_14_45 ⟨tb, [⟨0, 0, .cells (RS b (p + 3))⟩, ⟨32, 1, .cells [.nil, .nil]⟩, ⟨40, x1, .cells [.arr 88 x2, .arr 136 x3]⟩, ⟨88, x2, .arr 1 (ints u)⟩, ⟨136, x3, .arr 1 (orowsD t)⟩], g⟩ := by
    intro tb g e4 e5 e6 e64 e66 e67 e69
    unfold ex_174_14_45
    simp only [exT_alt, exT_one, exT_stop, and_true]
    refine ⟨?_, ?_⟩
    · rw [ro_174_14_1]
      simp [hkt, hyr, hyn, hyi, orowsD_ge, rowAt, rowB, e4, e5, e6, e64, e66, e67, e69]
      refine n47 _ _ ?_ ?_ ?_ ?_ ?_ ?_ ?_ ?_ <;> simp [getT, e4, e5, e6, e64, e66, e67, e69]
    · rw [ro_174_14_4]
      simp [hkt, hyr, hyn, hyi, orowsD_ge, rowAt, rowB, e4, e5, e6, e64, e66, e67, e69]
      refine n61 _ _ ?_ ?_ ?_ ?_ ?_ ?_ ?_ ?_ <;> simp [getT, e4, e5, e6, e64, e66, e67, e69]
  have n44 : ∀ tb g, getT tb 4 = .ptr 32 1 0 → getT tb 5 = .ptr 40 x1 0 → getT tb 6 = I64 (k : Int) → getT tb 66 = I64 (k : Int) → getT tb 67 = .ptr 40 x1 1 → getT tb 69 = I64 (k : Int) → exT C0 0 (inlW C0 [fm_copyTabS] [fw_pick, fw_one] 0 0) ro_174_14 Q ex_174_14_44 ⟨tb, [⟨0, 0, .cells (RS b (p + 3))⟩, ⟨32, 1, .cells [.nil, .nil]⟩, ⟨40, x1, .cells [.arr 88 x2, .arr 136 x3]⟩, ⟨88, x2, .arr 1 (ints u)⟩, ⟨136, x3, .arr 1 (orowsD t)⟩], g⟩ := by
    intro tb g e4 e5 e6 e66 e67 e69
    unfold ex_174_14_44
    simp only [exT_alt, exT_one, exT_stop, and_true]
    refine ⟨?_, ?_⟩
    · rw [ro_174_14_0]
      simp [hkt, hyr, hyn, hyi, orowsD_ge, rowAt, rowB, e4, e5, e6, e66, e67, e69]
      refine n45 _ _ ?_ ?_ ?_ ?_ ?_ ?_ ?_ <;> simp [getT, e4, e5, e6, e66, e67, e69]
    · rw [ro_174_14_4]
      simp [hkt, hyr, hyn, hyi, orowsD_ge, rowAt, rowB, e4, e5, e6, e66, e67, e69]
      refine n60 _ _ ?_ ?_ ?_ ?_ ?_ ?_ ?_ <;> simp [getT, e4, e5, e6, e66, e67, e69]
  have n39 : ∀ tb g, getT tb 4 = .ptr 32 1 0 → getT tb 5 = .ptr 40 x1 0 → getT tb 6 = I64 (k : Int) → getT tb 64 = .ptr 40 x1 1 → getT tb 65 = .arr 136 x3 → getT tb 66 = I64 (k : Int) → getT tb 69 = I64 (k : Int) → exT C0 0 (inlW C0 [fm_copyTabS] [fw_pick, fw_one] 0 0) ro_174_14 Q ex_174_14_39 ⟨tb, [⟨0, 0, .cells (RS b (p + 3))⟩, ⟨32, 1, .cells [.nil, .nil]⟩, ⟨40, x1, .cells [.arr 88 x2, .arr 136 x3]⟩, ⟨88, x2, .arr 1 (ints u)⟩, ⟨136, x3, .arr 1 (orowsD t)⟩], g⟩ := by
    intro tb g e4 e5 e6 e64 e65 e66 e69
    unfold ex_174_14_39
    simp only [exT_alt, exT_one, exT_stop, and_true]
    rw [ro_174_14_3]
    simp [hkt, hyr, hyn, hyi, orowsD_ge, rowAt, rowB, e4, e5, e6, e64, e65, e66, e69]
    refine n47 _ _ ?_ ?_ ?_ ?_ ?_ ?_ ?_ ?_ <;> simp [getT, e4, e5, e6, e64, e65, e66, e69]
  have n37 : ∀ tb g, getT tb 4 = .ptr 32 1 0 → getT tb 5 = .ptr 40 x1 0 → getT tb 6 = I64 (k : Int) → getT tb 64 = .ptr 40 x1 1 → getT tb 66 = I64 (k : Int) → getT tb 69 = I64 (k : Int) → exT C0 0 (inlW C0 [fm_copyTabS] [fw_pick, fw_one] 0 0) ro_174_14 Q ex_174_14_37 ⟨tb, [⟨0, 0, .cells (RS b (p + 3))⟩, ⟨32, 1, .cells [.nil, .nil]⟩, ⟨40, x1, .cells [.arr 88 x2, .arr 136 x3]⟩, ⟨88, x2, .arr 1 (ints u)⟩, ⟨136, x3, .arr 1 (orowsD t)⟩], g⟩ := by
    intro tb g e4 e5 e6 e64 e66 e69
    unfold ex_174_14_37
    simp only [exT_alt, exT_one, exT_stop, and_true]
    refine ⟨?_, ?_⟩
    · rw [ro_174_14_1]
      simp [hkt, hyr, hyn, hyi, orowsD_ge, rowAt, rowB, e4, e5, e6, e64, e66, e69]
      refine n39 _ _ ?_ ?_ ?_ ?_ ?_ ?_ ?_ <;> simp [getT, e4, e5, e6, e64, e66, e69]
    · rw [ro_174_14_3]
      simp [hkt, hyr, hyn, hyi, orowsD_ge, rowAt, rowB, e4, e5, e6, e64, e66, e69]
      refine n45 _ _ ?_ ?_ ?_ ?_ ?_ ?_ ?_ <;> simp [getT, e4, e5, e6, e64, e66, e69]
  have n36 : ∀ tb g, getT tb 4 = .ptr 32 1 0 → getT tb 5 = .ptr 40 x1 0 → getT tb 6 = I64 (k : Int) → getT tb 66 = I64 (k : Int) → getT tb 69 = I64 (k : Int) → exT C0 0 (inlW C0 [fm_copyTabS] [fw_pick, fw_one] 0 0) ro_174_14 Q ex_174_14_36 ⟨tb, [⟨0, 0, .cells (RS b (p + 3))⟩, ⟨32, 1, .cells [.nil, .nil]⟩, ⟨40, x1, .cells [.arr 88 x2, .arr 136 x3]⟩, ⟨88, x2, .arr 1 (ints u)⟩, ⟨136, x3, .arr 1 (orowsD t)⟩], g⟩ := by
    intro tb g e4 e5 e6 e66 e69
    unfold ex_174_14_36
    simp only [exT_alt, exT_one, exT_stop, and_true]
    refine ⟨?_, ?_⟩
    · rw [ro_174_14_0]
      simp [hkt, hyr, hyn, hyi, orowsD_ge, rowAt, rowB, e4, e5, e6, e66, e69]
      refine n37 _ _ ?_ ?_ ?_ ?_ ?_ ?_ <;> simp [getT, e4, e5, e6, e66, e69]
    · rw [ro_174_14_3]
      simp [hkt, hyr, hyn, hyi, orowsD_ge, rowAt, rowB, e4, e5, e6, e66, e69]
      refine n44 _ _ ?_ ?_ ?_ ?_ ?_ ?_ <;> simp [getT, e4, e5, e6, e66, e69]
  have n4 : ∀ tb g, getT tb 4 = .ptr 32 1 0 → getT tb 5 = .ptr 40 x1 0 → getT tb 6 = I64 (k : Int) → getT tb 66 = I64 (k : Int) → exT C0 0 (inlW C0 [fm_copyTabS] [fw_pick, fw_one] 0 0) ro_174_14 Q ex_174_14_4 ⟨tb, [⟨0, 0, .cells (RS b (p + 3))⟩, ⟨32, 1, .cells [.nil, .nil]⟩, ⟨40, x1, .cells [.arr 88 x2, .arr 136 x3]⟩, ⟨88, x2, .arr 1 (ints u)⟩, ⟨136, x3, .arr 1 (orowsD t)⟩], g⟩ := by
    intro tb g e4 e5 e6 e66
    unfold ex_174_14_4
    simp only [exT_alt, exT_one, exT_stop, and_true]
    rw [ro_174_14_5]
    simp [hkt, hyr, hyn, hyi, orowsD_ge, rowAt, rowB, e4, e5, e6, e66]
    refine n36 _ _ ?_ ?_ ?_ ?_ ?_ <;> simp [getT, e4, e5, e6, e66]
  have n0 : ∀ tb g, getT tb 4 = .ptr 32 1 0 → getT tb 5 = .ptr 40 x1 0 → getT tb 6 = I64 (k : Int) → exT C0 0 (inlW C0 [fm_copyTabS] [fw_pick, fw_one] 0 0) ro_174_14 Q ex_174_14_0 ⟨tb, [⟨0, 0, .cells (RS b (p + 3))⟩, ⟨32, 1, .cells [.nil, .nil]⟩, ⟨40, x1, .cells [.arr 88 x2, .arr 136 x3]⟩, ⟨88, x2, .arr 1 (ints u)⟩, ⟨136, x3, .arr 1 (orowsD t)⟩], g⟩ := by
    intro tb g e4 e5 e6
    unfold ex_174_14_0
    simp only [exT_alt, exT_one, exT_stop, and_true]
    rw [ro_174_14_2]
    simp [hkt, hyr, hyn, hyi, orowsD_ge, rowAt, rowB, e4, e5, e6]
    refine n4 _ _ ?_ ?_ ?_ ?_ <;> simp [getT, e4, e5, e6]
  exact n0

end Go.PS
end

section
-- Contracts: algebras that are drawn and may be invalid: the walk.
set_option maxRecDepth 100000
set_option linter.unusedVariables false
set_option linter.unusedSimpArgs false
namespace Go.PS
open Go.Proofs

set_option maxHeartbeats 4000000 in
theorem bent_pc (b : List Int) (p : Nat) (u : List Int) (t : List (List Int)) (hb : BB b) (hp : p ≤ 1000000) (hp2 : p ≤ 970000) (ga : GA (u, t)) : PC Try.prog 174 (.ptr 0 0 0 :: [AL u t]) (some (RS b p)) false (fun r c => imm 5 r = imm 5 (AL (bnM b p u t).1.1 (bnM b p u t).1.2) ∧ c = (RS b ((bnM b p u t).2))) := by
  have h1 : 1 ≤ u.length := ga.pos
  have h6 : u.length ≤ 6 := ga.six
  have sq : SQ u.length t := ga.sq
  have r0 := pkM_rng hb (p := p) (by omega) (n := 16) (by omega)
  refine pcW [fm_copyTabS] [fw_pick, fw_one] fok_174 ?_
  by_cases c0 : 0 < pkM b p 16
  · have e : bnM b p u t = ((u, t), p + 1) := by unfold bnM; rw [if_pos c0]
    rw [e]
    simp [fa_174, callOW, hb, hp, c0]
  · have lt := fm_copyTabS_look t ga.bigR
    have r1 := pkM_rng hb (p := p + 1) (by omega) (n := u.length) (by omega)
    have r2 := pkM_rng hb (p := p + 2) (by omega) (n := 5) (by omega)
    have z0 : pkM b p 16 = 0 := by omega
    simp [fa_174, callOW, hb, hp, z0]
    refine cutE (α := Nat × Nat × Nat) (fun x => [(0, .ptr 0 0 0), (4, .ptr 32 1 0), (5, .ptr 40 x.1 0)]) (fun x => [⟨0, 0, .cells (RS b (p + 1))⟩, ⟨32, 1, .cells [.nil, .nil]⟩, ⟨40, x.1, .cells [.arr 88 x.2.1, .arr 136 x.2.2]⟩, ⟨88, x.2.1, .arr 1 (ints u)⟩, ⟨136, x.2.2, .arr 1 (orowsD t)⟩]) ?_ (fun x g0 => ?_)
    · simp
      repeat' first
        | refine And.intro ?_ ?_
        | exact le_big (by omega)
        | (refine callDO1 fm_copyTabS (by simp) (by simp) (v := RO t) (by simp; exact lt) ?_; simp)
    · obtain ⟨x1, x2, x3⟩ := x
      have n1 : p + 1 + 1 = p + 2 := rfl
      have n2 : p + 2 + 1 = p + 3 := rfl
      have n3 : p + 3 + 1 = p + 4 := rfl
      have n4 : p + 4 + 1 = p + 5 := rfl
      have b1 : p + 1 ≤ 1000000 := by omega
      have b2 : p + 2 ≤ 1000000 := by omega
      have b3 : p + 3 ≤ 1000000 := by omega
      have b4 : p + 4 ≤ 1000000 := by omega
      have hul : (u.length : Int) ≤ 1099511627776 := by omega
      obtain ⟨k, hk⟩ : ∃ k : Nat, pkM b (p + 1) u.length = k := ⟨(pkM b (p + 1) u.length).toNat, by omega⟩
      have hku : k < u.length := by omega
      have hkt : k < t.length := by rw [sq.len]; exact hku
      have r3 := pkM_rng hb (p := p + 3) (by omega) (n := u.length) (by omega)
      have e0 : bnM b p u t = (let c := pkM b (p + 2) 5
    if c = 0 then ((u, t.set k ((gr t k).set (pkM b (p + 3) u.length).toNat (gi [0, 1, -1, 6] (pkM b (p + 4) 4).toNat))), p + 5)
    else if c = 1 then ((u.set k (gi [0, 3, -1] (pkM b (p + 3) 3).toNat), t), p + 4)
    else if c = 2 then ((u, t.tail), p + 3)
    else if c = 3 then ((u, t.set k ((gr t k).tail)), p + 3)
    else ((u ++ [64], t), p + 3)) := by unfold bnM; rw [if_neg c0, hk, Int.toNat_natCast]
      rw [e0]
      clear e0
      simp [callOW, hb, b1, b2, n1, n2, hul, hk]
      refine ⟨fun c => ?_, fun c => ?_⟩
      · have l1 : fw_one.look [.ptr 0 0 0, .list 1 [.int .i64 0, .int .i64 1, .int .i64 (-1), .int .i64 6]] (RS b (p + 4)) = some (I64 (gi [0, 1, -1, 6] (pkM b (p + 4) 4).toNat), RS b (p + 5)) := fw_one_look b (p + 4) [0, 1, -1, 6] hb (by omega) (by unfold Big; simp) (by simp)
        obtain ⟨y, hy⟩ : ∃ y : Nat, pkM b (p + 3) u.length = y := ⟨(pkM b (p + 3) u.length).toNat, by omega⟩
        have hyu : y < u.length := by omega
        have l0 : fw_pick.look [.ptr 0 0 0, I64 u.length] (RS b (p + 3)) = some (I64 y, RS b (p + 4)) := by rw [← hy]; exact fw_pick_look b (p + 3) u.length hb (by omega) hul
        generalize gi [0, 1, -1, 6] (pkM b (p + 4) 4).toNat = z at *
        simp only [c, if_true, hy, Int.toNat_natCast]
        refine cutE (α := Unit) (fun _ => [(4, .ptr 32 1 0), (5, .ptr 40 x1 0)]) (fun _ => [⟨0, 0, .cells (RS b (p + 5))⟩, ⟨32, 1, .cells [.nil, .nil]⟩, ⟨40, x1, .cells [.arr 88 x2, .arr 136 x3]⟩, ⟨88, x2, .arr 1 (ints u)⟩, ⟨136, x3, .arr 1 (orowsD (t.set k ((gr t k).set y z)))⟩]) ?_ (fun _ g0 => ?_)
        · refine bent_dag8 hkt (by rw [sq.rows k hku]; exact hyu) l0 l1 (fun tb g q4 q5 => ?_) _ _ (by simp) (by simp) (by simp) (by simp)
          simp [q4, q5]
        · simp
      · have c' : ¬ pkM b (p + 2) 5 = 0 := c
        simp only [c', if_false]
        refine ⟨fun d => ?_, fun d => ?_⟩
        · have l1 : fw_one.look [.ptr 0 0 0, .list 1 [.int .i64 0, .int .i64 3, .int .i64 (-1)]] (RS b (p + 3)) = some (I64 (gi [0, 3, -1] (pkM b (p + 3) 3).toNat), RS b (p + 4)) := fw_one_look b (p + 3) [0, 3, -1] hb (by omega) (by unfold Big; simp) (by simp)
          generalize gi [0, 3, -1] (pkM b (p + 3) 3).toNat = z at *
          simp only [d, if_true]
          refine cutE (α := Unit) (fun _ => [(4, .ptr 32 1 0), (5, .ptr 40 x1 0)]) (fun _ => [⟨0, 0, .cells (RS b (p + 4))⟩, ⟨32, 1, .cells [.nil, .nil]⟩, ⟨40, x1, .cells [.arr 88 x2, .arr 136 x3]⟩, ⟨88, x2, .arr 1 (ints (u.set k z))⟩, ⟨136, x3, .arr 1 (orowsD t)⟩]) ?_ (fun _ g0 => ?_)
          · refine bent_dag10 hku l1 (fun tb g q4 q5 => ?_) _ _ (by simp) (by simp) (by simp) (by simp)
            simp [q4, q5]
          · simp
        · have d' : ¬ pkM b (p + 2) 5 = 1 := d
          simp only [d', if_false]
          refine ⟨fun e => ?_, fun e => ?_⟩
          · simp only [e, if_true]
            exact ⟨by omega, ⟨trivial, by rw [← rowsD_length (r := t), List.take_length]; simp [rowsD]⟩, trivial⟩
          · have e' : ¬ pkM b (p + 2) 5 = 2 := e
            simp only [e', if_false]
            refine ⟨fun f => ?_, fun f => ?_⟩
            · simp only [f, if_true]
              refine cutE (α := Unit) (fun _ => [(4, .ptr 32 1 0), (5, .ptr 40 x1 0)]) (fun _ => [⟨0, 0, .cells (RS b (p + 3))⟩, ⟨32, 1, .cells [.nil, .nil]⟩, ⟨40, x1, .cells [.arr 88 x2, .arr 136 x3]⟩, ⟨88, x2, .arr 1 (ints u)⟩, ⟨136, x3, .arr 1 ((orowsD t).set k (IL ((gr t k).tail)))⟩]) ?_ (fun _ g0 => ?_)
              · refine bent_dag14 hkt (by rw [sq.rows k hku]; exact h1) (fun e => by have := sq.rows k hku; rw [e] at this; simp at this; omega) (by rw [sq.rows k hku]; omega) (fun tb g q4 q5 => ?_) _ _ (by simp) (by simp) (by simp)
                simp [q4, q5]
              · simp
                simp [rowsD, List.map_set]
            · have f' : ¬ pkM b (p + 2) 5 = 3 := f
              simp only [f', if_false]
              exact ⟨le_big (by omega), ⟨trivial, trivial⟩, trivial⟩
noncomputable def fw_bent : FamW Try.prog := mkFamW (X := List Int × Nat × List Int × List (List Int)) 174 (fun (b, p, u, t) => (.ptr 0 0 0 :: [AL u t])) (fun (b, p, u, t) => (RS b p)) (fun (b, p, u, t) => (BB b) ∧ (p ≤ 1000000) ∧ (p ≤ 970000) ∧ (GA (u, t))) (fun (b, p, u, t) => AL (bnM b p u t).1.1 (bnM b p u t).1.2) (fun (b, p, u, t) => (RS b ((bnM b p u t).2))) (by
  rintro ⟨b, p, u, t⟩ ⟨hb, hp, hp2, ga⟩
  exact bent_pc b p u t hb hp hp2 ga)
@[simp] theorem fw_bent_id : fw_bent.id = 174 := rfl
@[simp] theorem fw_bent_look (b : List Int) (p : Nat) (u : List Int) (t : List (List Int)) (hb : BB b) (hp : p ≤ 1000000) (hp2 : p ≤ 970000) (ga : GA (u, t)) : fw_bent.look (.ptr 0 0 0 :: [AL u t]) (RS b p) = some (AL (bnM b p u t).1.1 (bnM b p u t).1.2, (RS b ((bnM b p u t).2))) :=
  lookG_of (X := List Int × Nat × List Int × List (List Int)) (args := fun (b, p, u, t) => (.ptr 0 0 0 :: [AL u t])) (cell := fun (b, p, u, t) => (RS b p)) (pre := fun (b, p, u, t) => (BB b) ∧ (p ≤ 1000000) ∧ (p ≤ 970000) ∧ (GA (u, t))) (val := fun (b, p, u, t) => AL (bnM b p u t).1.1 (bnM b p u t).1.2) (cell' := fun (b, p, u, t) => (RS b ((bnM b p u t).2))) (by
  rintro ⟨b, p, u, t⟩ ⟨b', p', u', t'⟩ h h2
  simp at h h2
  try simp only [and_assoc] at h
  obtain ⟨rfl, rfl⟩ := h2
  obtain ⟨rfl, rfl⟩ := h
  exact ⟨rfl, rfl⟩) (b, p, u, t) ⟨hb, hp, hp2, ga⟩
attribute [irreducible] fw_bent
end Go.PS
end

section
-- Functions run in place.
set_option maxRecDepth 100000
set_option linter.unusedVariables false
set_option linter.unusedSimpArgs false
namespace Go.PS
open Go.Proofs
/-- The program with some functions run in place. -/
noncomputable def CI (f : Nat → Option FnA) : Ctx := ⟨Try.prog, tyOf Try.prog, f⟩
@[simp] theorem CI_P {f : Nat → Option FnA} : (CI f).P = Try.prog := rfl
@[simp] theorem CI_tt {f : Nat → Option FnA} (T : Nat) : (CI f).tt T = tyOf Try.prog T := rfl
@[simp] theorem CI_inl {f : Nat → Option FnA} : (CI f).inl = f := rfl
theorem pcI (g : Nat → Option FnA) (hg : ∀ id fa, g id = some fa → ∃ A, FnOk Try.prog id fa A) (T : List (Fam Try.prog)) (n : Nat) {f : Nat} {fa : FnA} {A : Ann} (hf : FnOk Try.prog f fa A) {ds : List D} {fresh : Bool} {R : D → List D → Prop}
    (h : run (CI g) 0 (inlT (CI g) T n 0) fa.ac (retQ (CI g).tt fresh fa.res R false) ⟨args0 0 ds, [], 1⟩) : PC Try.prog f ds none fresh R :=
  pc_of_run (C := CI g) (kb := 0) (io := none) hty0 Try.checked.mixed (inlT_ok (C := CI g) hty0 Try.checked.mixed hg T n 0) hf h

end Go.PS
end

section
-- PRINTED by gen.py: clean texts of functions, and their tie to the program.
set_option maxRecDepth 100000
namespace Go.PS
open Go.Proofs
/-- spec.DrawValidAlgebra -/
def an_35 : Ann := ⟨[(1, 1, 16), (1, 2, 16)], [(0, [0, 2]), (1, [2])], [], []⟩
def fa_35 : FnA := ⟨6, [.c 2 28],
  (.seq
    (.region false [⟨some 2, (.alloc 28), 0, none, 0⟩] (some [0, 2]))
    (.seq
      (.region false [⟨some 3, (.mv (.t 0)), 42, none, 0⟩, ⟨some 4, (.call (.f 107) [(.t 3)]), 88, none, 16⟩, ⟨some 5, (.call (.f 106) [(.t 4)]), 28, none, 16⟩, ⟨none, (.store 28 (.t 2) (.t 5)), 0, none, 0⟩] (some [2]))
      .ret))⟩
theorem fok_35 : FnOk Try.prog 35 fa_35 an_35 := ⟨Try.f35, _, Try.func35, rfl, by kernel_rfl, rfl, rfl, by decide, by kernel_rfl⟩
/-- spec.DrawImplyOf -/
def ex_48_3_16383 : Ex := .fin
def ex_48_3_8191 : Ex := .one 13 ex_48_3_16383
def ex_48_3_4095 : Ex := .one 12 ex_48_3_8191
def ex_48_3_2047 : Ex := (.alt 11 ex_48_3_4095 .stop)
def ex_48_3_2046 : Ex := (.alt 0 ex_48_3_2047 .stop)
def ex_48_3_1023 : Ex := (.alt 10 ex_48_3_2047 .stop)
def ex_48_3_1022 : Ex := (.alt 0 ex_48_3_1023 (.alt 10 ex_48_3_2046 .stop))
def ex_48_3_991 : Ex := (.alt 5 ex_48_3_1023 .stop)
def ex_48_3_990 : Ex := (.alt 0 ex_48_3_991 (.alt 5 ex_48_3_1022 .stop))
def ex_48_3_975 : Ex := (.alt 4 ex_48_3_991 .stop)
def ex_48_3_974 : Ex := (.alt 0 ex_48_3_975 (.alt 4 ex_48_3_990 .stop))
def ex_48_3_967 : Ex := (.alt 3 ex_48_3_975 .stop)
def ex_48_3_966 : Ex := (.alt 0 ex_48_3_967 (.alt 3 ex_48_3_974 .stop))
def ex_48_3_963 : Ex := (.alt 2 ex_48_3_967 .stop)
def ex_48_3_962 : Ex := (.alt 0 ex_48_3_963 (.alt 2 ex_48_3_966 .stop))
def ex_48_3_511 : Ex := (.alt 9 ex_48_3_1023 .stop)
def ex_48_3_510 : Ex := (.alt 0 ex_48_3_511 (.alt 9 ex_48_3_1022 .stop))
def ex_48_3_479 : Ex := (.alt 5 ex_48_3_511 (.alt 9 ex_48_3_991 .stop))
def ex_48_3_478 : Ex := (.alt 0 ex_48_3_479 (.alt 5 ex_48_3_510 (.alt 9 ex_48_3_990 .stop)))
def ex_48_3_463 : Ex := (.alt 4 ex_48_3_479 (.alt 9 ex_48_3_975 .stop))
def ex_48_3_462 : Ex := (.alt 0 ex_48_3_463 (.alt 4 ex_48_3_478 (.alt 9 ex_48_3_974 .stop)))
def ex_48_3_455 : Ex := (.alt 3 ex_48_3_463 (.alt 9 ex_48_3_967 .stop))
def ex_48_3_454 : Ex := (.alt 0 ex_48_3_455 (.alt 3 ex_48_3_462 (.alt 9 ex_48_3_966 .stop)))
def ex_48_3_451 : Ex := (.alt 2 ex_48_3_455 (.alt 9 ex_48_3_963 .stop))
def ex_48_3_450 : Ex := (.alt 0 ex_48_3_451 (.alt 2 ex_48_3_454 (.alt 9 ex_48_3_962 .stop)))
def ex_48_3_255 : Ex := (.alt 8 ex_48_3_511 .stop)
def ex_48_3_254 : Ex := (.alt 0 ex_48_3_255 (.alt 8 ex_48_3_510 .stop))
def ex_48_3_223 : Ex := (.alt 5 ex_48_3_255 (.alt 8 ex_48_3_479 .stop))
def ex_48_3_222 : Ex := (.alt 0 ex_48_3_223 (.alt 5 ex_48_3_254 (.alt 8 ex_48_3_478 .stop)))
def ex_48_3_207 : Ex := (.alt 4 ex_48_3_223 (.alt 8 ex_48_3_463 .stop))
def ex_48_3_206 : Ex := (.alt 0 ex_48_3_207 (.alt 4 ex_48_3_222 (.alt 8 ex_48_3_462 .stop)))
def ex_48_3_199 : Ex := (.alt 3 ex_48_3_207 (.alt 8 ex_48_3_455 .stop))
def ex_48_3_198 : Ex := (.alt 0 ex_48_3_199 (.alt 3 ex_48_3_206 (.alt 8 ex_48_3_454 .stop)))
def ex_48_3_195 : Ex := (.alt 2 ex_48_3_199 (.alt 8 ex_48_3_451 .stop))
def ex_48_3_194 : Ex := (.alt 0 ex_48_3_195 (.alt 2 ex_48_3_198 (.alt 8 ex_48_3_450 .stop)))
def ex_48_3_127 : Ex := (.alt 7 ex_48_3_255 .stop)
def ex_48_3_126 : Ex := (.alt 0 ex_48_3_127 (.alt 7 ex_48_3_254 .stop))
def ex_48_3_95 : Ex := (.alt 5 ex_48_3_127 (.alt 7 ex_48_3_223 .stop))
def ex_48_3_94 : Ex := (.alt 0 ex_48_3_95 (.alt 5 ex_48_3_126 (.alt 7 ex_48_3_222 .stop)))
def ex_48_3_79 : Ex := (.alt 4 ex_48_3_95 (.alt 7 ex_48_3_207 .stop))
def ex_48_3_78 : Ex := (.alt 0 ex_48_3_79 (.alt 4 ex_48_3_94 (.alt 7 ex_48_3_206 .stop)))
def ex_48_3_71 : Ex := (.alt 3 ex_48_3_79 (.alt 7 ex_48_3_199 .stop))
def ex_48_3_70 : Ex := (.alt 0 ex_48_3_71 (.alt 3 ex_48_3_78 (.alt 7 ex_48_3_198 .stop)))
def ex_48_3_67 : Ex := (.alt 2 ex_48_3_71 (.alt 7 ex_48_3_195 .stop))
def ex_48_3_66 : Ex := (.alt 0 ex_48_3_67 (.alt 2 ex_48_3_70 (.alt 7 ex_48_3_194 .stop)))
def ex_48_3_2 : Ex := .one 6 ex_48_3_66
def ex_48_3_0 : Ex := .one 1 ex_48_3_2
def ro_48_3 : List AOper := [⟨some 11, (.load 28 (.t 6)), 28, none, 0⟩, ⟨some 12, (.mv (.t 5)), 88, none, 0⟩, ⟨some 13, (.faddr 28 (.t 6) 0), 0, none, 0⟩, ⟨some 14, (.load 22 (.t 13)), 22, none, 0⟩, ⟨some 15, (.len 22 (.t 14)), 3, none, 0⟩, ⟨some 16, (.call (.f 119) [(.t 12), (.t 15)]), 3, none, 16⟩, ⟨some 17, (.mv (.t 5)), 88, none, 0⟩, ⟨some 18, (.faddr 28 (.t 6) 0), 0, none, 0⟩, ⟨some 19, (.load 22 (.t 18)), 22, none, 0⟩, ⟨some 20, (.len 22 (.t 19)), 3, none, 0⟩, ⟨some 21, (.call (.f 119) [(.t 17), (.t 20)]), 3, none, 16⟩, ⟨none, (.store 28 (.t 2) (.t 11)), 0, none, 0⟩, ⟨some 3, (.mv (.t 16)), 3, none, 0⟩, ⟨some 4, (.mv (.t 21)), 3, none, 0⟩]
theorem ro_48_3_0 : ro_48_3[0]? = some ⟨some 11, (.load 28 (.t 6)), 28, none, 0⟩ := (rfl)
theorem ro_48_3_1 : ro_48_3[1]? = some ⟨some 12, (.mv (.t 5)), 88, none, 0⟩ := (rfl)
theorem ro_48_3_2 : ro_48_3[2]? = some ⟨some 13, (.faddr 28 (.t 6) 0), 0, none, 0⟩ := (rfl)
theorem ro_48_3_3 : ro_48_3[3]? = some ⟨some 14, (.load 22 (.t 13)), 22, none, 0⟩ := (rfl)
theorem ro_48_3_4 : ro_48_3[4]? = some ⟨some 15, (.len 22 (.t 14)), 3, none, 0⟩ := (rfl)
theorem ro_48_3_5 : ro_48_3[5]? = some ⟨some 16, (.call (.f 119) [(.t 12), (.t 15)]), 3, none, 16⟩ := (rfl)
theorem ro_48_3_6 : ro_48_3[6]? = some ⟨some 17, (.mv (.t 5)), 88, none, 0⟩ := (rfl)
theorem ro_48_3_7 : ro_48_3[7]? = some ⟨some 18, (.faddr 28 (.t 6) 0), 0, none, 0⟩ := (rfl)
theorem ro_48_3_8 : ro_48_3[8]? = some ⟨some 19, (.load 22 (.t 18)), 22, none, 0⟩ := (rfl)
theorem ro_48_3_9 : ro_48_3[9]? = some ⟨some 20, (.len 22 (.t 19)), 3, none, 0⟩ := (rfl)
theorem ro_48_3_10 : ro_48_3[10]? = some ⟨some 21, (.call (.f 119) [(.t 17), (.t 20)]), 3, none, 16⟩ := (rfl)
theorem ro_48_3_11 : ro_48_3[11]? = some ⟨none, (.store 28 (.t 2) (.t 11)), 0, none, 0⟩ := (rfl)
theorem ro_48_3_12 : ro_48_3[12]? = some ⟨some 3, (.mv (.t 16)), 3, none, 0⟩ := (rfl)
theorem ro_48_3_13 : ro_48_3[13]? = some ⟨some 4, (.mv (.t 21)), 3, none, 0⟩ := (rfl)
def an_48 : Ann := ⟨[(1, 1, 16), (2, 1, 16), (3, 5, 16), (3, 10, 16)], [(0, [0, 2]), (1, [2, 5]), (2, [2, 5, 6]), (3, [2, 3, 4])], [], [(3, ex_48_3_0, [16, 80, 128, 168])]⟩
def fa_48 : FnA := ⟨22, [.c 2 28, .t 3, .t 4],
  (.seq
    (.region false [⟨some 2, (.alloc 28), 0, none, 0⟩, ⟨some 3, (.mv (.c (.int .i64 0))), 3, none, 0⟩, ⟨some 4, (.mv (.c (.int .i64 0))), 3, none, 0⟩] (some [0, 2]))
    (.seq
      (.region false [⟨some 7, (.mv (.t 0)), 42, none, 0⟩, ⟨some 8, (.call (.f 107) [(.t 7)]), 88, none, 16⟩, ⟨some 5, (.mv (.t 8)), 88, none, 0⟩] (some [2, 5]))
      (.seq
        (.region false [⟨some 9, (.mv (.t 5)), 88, none, 0⟩, ⟨some 10, (.call (.f 106) [(.t 9)]), 28, none, 16⟩, ⟨some 6, (.alloc 28), 0, none, 0⟩, ⟨none, (.store 28 (.t 6) (.t 10)), 0, none, 0⟩] (some [2, 5, 6]))
        (.seq
          (.expl ro_48_3 ex_48_3_0 [2, 3, 4] [16, 80, 128, 168])
          .ret))))⟩
theorem fok_48 : FnOk Try.prog 48 fa_48 an_48 := ⟨Try.f48, _, Try.func48, rfl, by kernel_rfl, rfl, rfl, by decide, by kernel_rfl⟩
/-- spec.DrawNotOf -/
def ex_54_3_255 : Ex := .fin
def ex_54_3_127 : Ex := .one 7 ex_54_3_255
def ex_54_3_63 : Ex := (.alt 6 ex_54_3_127 .stop)
def ex_54_3_62 : Ex := (.alt 0 ex_54_3_63 .stop)
def ex_54_3_31 : Ex := (.alt 5 ex_54_3_63 .stop)
def ex_54_3_30 : Ex := (.alt 0 ex_54_3_31 (.alt 5 ex_54_3_62 .stop))
def ex_54_3_15 : Ex := (.alt 4 ex_54_3_31 .stop)
def ex_54_3_14 : Ex := (.alt 0 ex_54_3_15 (.alt 4 ex_54_3_30 .stop))
def ex_54_3_7 : Ex := (.alt 3 ex_54_3_15 .stop)
def ex_54_3_6 : Ex := (.alt 0 ex_54_3_7 (.alt 3 ex_54_3_14 .stop))
def ex_54_3_3 : Ex := (.alt 2 ex_54_3_7 .stop)
def ex_54_3_2 : Ex := (.alt 0 ex_54_3_3 (.alt 2 ex_54_3_6 .stop))
def ex_54_3_0 : Ex := .one 1 ex_54_3_2
def ro_54_3 : List AOper := [⟨some 10, (.load 28 (.t 5)), 28, none, 0⟩, ⟨some 11, (.mv (.t 4)), 88, none, 0⟩, ⟨some 12, (.faddr 28 (.t 5) 0), 0, none, 0⟩, ⟨some 13, (.load 22 (.t 12)), 22, none, 0⟩, ⟨some 14, (.len 22 (.t 13)), 3, none, 0⟩, ⟨some 15, (.call (.f 119) [(.t 11), (.t 14)]), 3, none, 16⟩, ⟨none, (.store 28 (.t 2) (.t 10)), 0, none, 0⟩, ⟨some 3, (.mv (.t 15)), 3, none, 0⟩]
theorem ro_54_3_0 : ro_54_3[0]? = some ⟨some 10, (.load 28 (.t 5)), 28, none, 0⟩ := (rfl)
theorem ro_54_3_1 : ro_54_3[1]? = some ⟨some 11, (.mv (.t 4)), 88, none, 0⟩ := (rfl)
theorem ro_54_3_2 : ro_54_3[2]? = some ⟨some 12, (.faddr 28 (.t 5) 0), 0, none, 0⟩ := (rfl)
theorem ro_54_3_3 : ro_54_3[3]? = some ⟨some 13, (.load 22 (.t 12)), 22, none, 0⟩ := (rfl)
theorem ro_54_3_4 : ro_54_3[4]? = some ⟨some 14, (.len 22 (.t 13)), 3, none, 0⟩ := (rfl)
theorem ro_54_3_5 : ro_54_3[5]? = some ⟨some 15, (.call (.f 119) [(.t 11), (.t 14)]), 3, none, 16⟩ := (rfl)
theorem ro_54_3_6 : ro_54_3[6]? = some ⟨none, (.store 28 (.t 2) (.t 10)), 0, none, 0⟩ := (rfl)
theorem ro_54_3_7 : ro_54_3[7]? = some ⟨some 3, (.mv (.t 15)), 3, none, 0⟩ := (rfl)
def an_54 : Ann := ⟨[(1, 1, 16), (2, 1, 16), (3, 5, 16)], [(0, [0, 2]), (1, [2, 4]), (2, [2, 4, 5]), (3, [2, 3])], [], [(3, ex_54_3_0, [16, 72, 120])]⟩
def fa_54 : FnA := ⟨16, [.c 2 28, .t 3],
  (.seq
    (.region false [⟨some 2, (.alloc 28), 0, none, 0⟩, ⟨some 3, (.mv (.c (.int .i64 0))), 3, none, 0⟩] (some [0, 2]))
    (.seq
      (.region false [⟨some 6, (.mv (.t 0)), 42, none, 0⟩, ⟨some 7, (.call (.f 107) [(.t 6)]), 88, none, 16⟩, ⟨some 4, (.mv (.t 7)), 88, none, 0⟩] (some [2, 4]))
      (.seq
        (.region false [⟨some 8, (.mv (.t 4)), 88, none, 0⟩, ⟨some 9, (.call (.f 106) [(.t 8)]), 28, none, 16⟩, ⟨some 5, (.alloc 28), 0, none, 0⟩, ⟨none, (.store 28 (.t 5) (.t 9)), 0, none, 0⟩] (some [2, 4, 5]))
        (.seq
          (.expl ro_54_3 ex_54_3_0 [2, 3] [16, 72, 120])
          .ret))))⟩
theorem fok_54 : FnOk Try.prog 54 fa_54 an_54 := ⟨Try.f54, _, Try.func54, rfl, by kernel_rfl, rfl, rfl, by decide, by kernel_rfl⟩
/-- spec.DrawNearOf -/
def ex_51_3_16383 : Ex := .fin
def ex_51_3_8191 : Ex := .one 13 ex_51_3_16383
def ex_51_3_4095 : Ex := .one 12 ex_51_3_8191
def ex_51_3_2047 : Ex := (.alt 11 ex_51_3_4095 .stop)
def ex_51_3_2046 : Ex := (.alt 0 ex_51_3_2047 .stop)
def ex_51_3_1023 : Ex := (.alt 10 ex_51_3_2047 .stop)
def ex_51_3_1022 : Ex := (.alt 0 ex_51_3_1023 (.alt 10 ex_51_3_2046 .stop))
def ex_51_3_991 : Ex := (.alt 5 ex_51_3_1023 .stop)
def ex_51_3_990 : Ex := (.alt 0 ex_51_3_991 (.alt 5 ex_51_3_1022 .stop))
def ex_51_3_975 : Ex := (.alt 4 ex_51_3_991 .stop)
def ex_51_3_974 : Ex := (.alt 0 ex_51_3_975 (.alt 4 ex_51_3_990 .stop))
def ex_51_3_967 : Ex := (.alt 3 ex_51_3_975 .stop)
def ex_51_3_966 : Ex := (.alt 0 ex_51_3_967 (.alt 3 ex_51_3_974 .stop))
def ex_51_3_963 : Ex := (.alt 2 ex_51_3_967 .stop)
def ex_51_3_962 : Ex := (.alt 0 ex_51_3_963 (.alt 2 ex_51_3_966 .stop))
def ex_51_3_511 : Ex := (.alt 9 ex_51_3_1023 .stop)
def ex_51_3_510 : Ex := (.alt 0 ex_51_3_511 (.alt 9 ex_51_3_1022 .stop))
def ex_51_3_479 : Ex := (.alt 5 ex_51_3_511 (.alt 9 ex_51_3_991 .stop))
def ex_51_3_478 : Ex := (.alt 0 ex_51_3_479 (.alt 5 ex_51_3_510 (.alt 9 ex_51_3_990 .stop)))
def ex_51_3_463 : Ex := (.alt 4 ex_51_3_479 (.alt 9 ex_51_3_975 .stop))
def ex_51_3_462 : Ex := (.alt 0 ex_51_3_463 (.alt 4 ex_51_3_478 (.alt 9 ex_51_3_974 .stop)))
def ex_51_3_455 : Ex := (.alt 3 ex_51_3_463 (.alt 9 ex_51_3_967 .stop))
def ex_51_3_454 : Ex := (.alt 0 ex_51_3_455 (.alt 3 ex_51_3_462 (.alt 9 ex_51_3_966 .stop)))
def ex_51_3_451 : Ex := (.alt 2 ex_51_3_455 (.alt 9 ex_51_3_963 .stop))
def ex_51_3_450 : Ex := (.alt 0 ex_51_3_451 (.alt 2 ex_51_3_454 (.alt 9 ex_51_3_962 .stop)))
def ex_51_3_255 : Ex := (.alt 8 ex_51_3_511 .stop)
def ex_51_3_254 : Ex := (.alt 0 ex_51_3_255 (.alt 8 ex_51_3_510 .stop))
def ex_51_3_223 : Ex := (.alt 5 ex_51_3_255 (.alt 8 ex_51_3_479 .stop))
def ex_51_3_222 : Ex := (.alt 0 ex_51_3_223 (.alt 5 ex_51_3_254 (.alt 8 ex_51_3_478 .stop)))
def ex_51_3_207 : Ex := (.alt 4 ex_51_3_223 (.alt 8 ex_51_3_463 .stop))
def ex_51_3_206 : Ex := (.alt 0 ex_51_3_207 (.alt 4 ex_51_3_222 (.alt 8 ex_51_3_462 .stop)))
def ex_51_3_199 : Ex := (.alt 3 ex_51_3_207 (.alt 8 ex_51_3_455 .stop))
def ex_51_3_198 : Ex := (.alt 0 ex_51_3_199 (.alt 3 ex_51_3_206 (.alt 8 ex_51_3_454 .stop)))
def ex_51_3_195 : Ex := (.alt 2 ex_51_3_199 (.alt 8 ex_51_3_451 .stop))
def ex_51_3_194 : Ex := (.alt 0 ex_51_3_195 (.alt 2 ex_51_3_198 (.alt 8 ex_51_3_450 .stop)))
def ex_51_3_127 : Ex := (.alt 7 ex_51_3_255 .stop)
def ex_51_3_126 : Ex := (.alt 0 ex_51_3_127 (.alt 7 ex_51_3_254 .stop))
def ex_51_3_95 : Ex := (.alt 5 ex_51_3_127 (.alt 7 ex_51_3_223 .stop))
def ex_51_3_94 : Ex := (.alt 0 ex_51_3_95 (.alt 5 ex_51_3_126 (.alt 7 ex_51_3_222 .stop)))
def ex_51_3_79 : Ex := (.alt 4 ex_51_3_95 (.alt 7 ex_51_3_207 .stop))
def ex_51_3_78 : Ex := (.alt 0 ex_51_3_79 (.alt 4 ex_51_3_94 (.alt 7 ex_51_3_206 .stop)))
def ex_51_3_71 : Ex := (.alt 3 ex_51_3_79 (.alt 7 ex_51_3_199 .stop))
def ex_51_3_70 : Ex := (.alt 0 ex_51_3_71 (.alt 3 ex_51_3_78 (.alt 7 ex_51_3_198 .stop)))
def ex_51_3_67 : Ex := (.alt 2 ex_51_3_71 (.alt 7 ex_51_3_195 .stop))
def ex_51_3_66 : Ex := (.alt 0 ex_51_3_67 (.alt 2 ex_51_3_70 (.alt 7 ex_51_3_194 .stop)))
def ex_51_3_2 : Ex := .one 6 ex_51_3_66
def ex_51_3_0 : Ex := .one 1 ex_51_3_2
def ro_51_3 : List AOper := [⟨some 11, (.load 28 (.t 6)), 28, none, 0⟩, ⟨some 12, (.mv (.t 5)), 88, none, 0⟩, ⟨some 13, (.faddr 28 (.t 6) 0), 0, none, 0⟩, ⟨some 14, (.load 22 (.t 13)), 22, none, 0⟩, ⟨some 15, (.len 22 (.t 14)), 3, none, 0⟩, ⟨some 16, (.call (.f 119) [(.t 12), (.t 15)]), 3, none, 16⟩, ⟨some 17, (.mv (.t 5)), 88, none, 0⟩, ⟨some 18, (.faddr 28 (.t 6) 0), 0, none, 0⟩, ⟨some 19, (.load 22 (.t 18)), 22, none, 0⟩, ⟨some 20, (.len 22 (.t 19)), 3, none, 0⟩, ⟨some 21, (.call (.f 119) [(.t 17), (.t 20)]), 3, none, 16⟩, ⟨none, (.store 28 (.t 2) (.t 11)), 0, none, 0⟩, ⟨some 3, (.mv (.t 16)), 3, none, 0⟩, ⟨some 4, (.mv (.t 21)), 3, none, 0⟩]
theorem ro_51_3_0 : ro_51_3[0]? = some ⟨some 11, (.load 28 (.t 6)), 28, none, 0⟩ := (rfl)
theorem ro_51_3_1 : ro_51_3[1]? = some ⟨some 12, (.mv (.t 5)), 88, none, 0⟩ := (rfl)
theorem ro_51_3_2 : ro_51_3[2]? = some ⟨some 13, (.faddr 28 (.t 6) 0), 0, none, 0⟩ := (rfl)
theorem ro_51_3_3 : ro_51_3[3]? = some ⟨some 14, (.load 22 (.t 13)), 22, none, 0⟩ := (rfl)
theorem ro_51_3_4 : ro_51_3[4]? = some ⟨some 15, (.len 22 (.t 14)), 3, none, 0⟩ := (rfl)
theorem ro_51_3_5 : ro_51_3[5]? = some ⟨some 16, (.call (.f 119) [(.t 12), (.t 15)]), 3, none, 16⟩ := (rfl)
theorem ro_51_3_6 : ro_51_3[6]? = some ⟨some 17, (.mv (.t 5)), 88, none, 0⟩ := (rfl)
theorem ro_51_3_7 : ro_51_3[7]? = some ⟨some 18, (.faddr 28 (.t 6) 0), 0, none, 0⟩ := (rfl)
theorem ro_51_3_8 : ro_51_3[8]? = some ⟨some 19, (.load 22 (.t 18)), 22, none, 0⟩ := (rfl)
theorem ro_51_3_9 : ro_51_3[9]? = some ⟨some 20, (.len 22 (.t 19)), 3, none, 0⟩ := (rfl)
theorem ro_51_3_10 : ro_51_3[10]? = some ⟨some 21, (.call (.f 119) [(.t 17), (.t 20)]), 3, none, 16⟩ := (rfl)
theorem ro_51_3_11 : ro_51_3[11]? = some ⟨none, (.store 28 (.t 2) (.t 11)), 0, none, 0⟩ := (rfl)
theorem ro_51_3_12 : ro_51_3[12]? = some ⟨some 3, (.mv (.t 16)), 3, none, 0⟩ := (rfl)
theorem ro_51_3_13 : ro_51_3[13]? = some ⟨some 4, (.mv (.t 21)), 3, none, 0⟩ := (rfl)
def an_51 : Ann := ⟨[(1, 1, 16), (2, 1, 16), (3, 5, 16), (3, 10, 16)], [(0, [0, 2]), (1, [2, 5]), (2, [2, 5, 6]), (3, [2, 3, 4])], [], [(3, ex_51_3_0, [16, 80, 128, 168])]⟩
def fa_51 : FnA := ⟨22, [.c 2 28, .t 3, .t 4],
  (.seq
    (.region false [⟨some 2, (.alloc 28), 0, none, 0⟩, ⟨some 3, (.mv (.c (.int .i64 0))), 3, none, 0⟩, ⟨some 4, (.mv (.c (.int .i64 0))), 3, none, 0⟩] (some [0, 2]))
    (.seq
      (.region false [⟨some 7, (.mv (.t 0)), 42, none, 0⟩, ⟨some 8, (.call (.f 107) [(.t 7)]), 88, none, 16⟩, ⟨some 5, (.mv (.t 8)), 88, none, 0⟩] (some [2, 5]))
      (.seq
        (.region false [⟨some 9, (.mv (.t 5)), 88, none, 0⟩, ⟨some 10, (.call (.f 106) [(.t 9)]), 28, none, 16⟩, ⟨some 6, (.alloc 28), 0, none, 0⟩, ⟨none, (.store 28 (.t 6) (.t 10)), 0, none, 0⟩] (some [2, 5, 6]))
        (.seq
          (.expl ro_51_3 ex_51_3_0 [2, 3, 4] [16, 80, 128, 168])
          .ret))))⟩
theorem fok_51 : FnOk Try.prog 51 fa_51 an_51 := ⟨Try.f51, _, Try.func51, rfl, by kernel_rfl, rfl, rfl, by decide, by kernel_rfl⟩
/-- spec.DrawPowerOf -/
def ex_45_3_4095 : Ex := .fin
def ex_45_3_2047 : Ex := .one 11 ex_45_3_4095
def ex_45_3_1023 : Ex := .one 10 ex_45_3_2047
def ex_45_3_511 : Ex := (.alt 9 ex_45_3_1023 .stop)
def ex_45_3_510 : Ex := (.alt 0 ex_45_3_511 .stop)
def ex_45_3_255 : Ex := (.alt 8 ex_45_3_511 .stop)
def ex_45_3_254 : Ex := (.alt 0 ex_45_3_255 (.alt 8 ex_45_3_510 .stop))
def ex_45_3_223 : Ex := (.alt 5 ex_45_3_255 .stop)
def ex_45_3_222 : Ex := (.alt 0 ex_45_3_223 (.alt 5 ex_45_3_254 .stop))
def ex_45_3_207 : Ex := (.alt 4 ex_45_3_223 .stop)
def ex_45_3_206 : Ex := (.alt 0 ex_45_3_207 (.alt 4 ex_45_3_222 .stop))
def ex_45_3_199 : Ex := (.alt 3 ex_45_3_207 .stop)
def ex_45_3_198 : Ex := (.alt 0 ex_45_3_199 (.alt 3 ex_45_3_206 .stop))
def ex_45_3_195 : Ex := (.alt 2 ex_45_3_199 .stop)
def ex_45_3_194 : Ex := (.alt 0 ex_45_3_195 (.alt 2 ex_45_3_198 .stop))
def ex_45_3_66 : Ex := .one 7 ex_45_3_194
def ex_45_3_2 : Ex := .one 6 ex_45_3_66
def ex_45_3_0 : Ex := .one 1 ex_45_3_2
def ro_45_3 : List AOper := [⟨some 11, (.load 28 (.t 6)), 28, none, 0⟩, ⟨some 12, (.mv (.t 5)), 88, none, 0⟩, ⟨some 13, (.faddr 28 (.t 6) 0), 0, none, 0⟩, ⟨some 14, (.load 22 (.t 13)), 22, none, 0⟩, ⟨some 15, (.len 22 (.t 14)), 3, none, 0⟩, ⟨some 16, (.call (.f 119) [(.t 12), (.t 15)]), 3, none, 16⟩, ⟨some 17, (.mv (.t 5)), 88, none, 0⟩, ⟨some 18, (.bslice 22 8 [(0, (.c (.int .i64 2))), (1, (.c (.int .i64 1))), (2, (.c (.int .i64 3))), (3, (.c (.int .i64 0))), (4, (.c (.int .i64 5))), (5, (.c (.int .i64 20))), (6, (.c (.int .i64 21))), (7, (.c (.int .i64 (-1))))]), 22, none, 0⟩, ⟨some 19, (.call (.f 120) [(.t 17), (.t 18)]), 3, none, 16⟩, ⟨none, (.store 28 (.t 2) (.t 11)), 0, none, 0⟩, ⟨some 3, (.mv (.t 16)), 3, none, 0⟩, ⟨some 4, (.mv (.t 19)), 3, none, 0⟩]
theorem ro_45_3_0 : ro_45_3[0]? = some ⟨some 11, (.load 28 (.t 6)), 28, none, 0⟩ := (rfl)
theorem ro_45_3_1 : ro_45_3[1]? = some ⟨some 12, (.mv (.t 5)), 88, none, 0⟩ := (rfl)
theorem ro_45_3_2 : ro_45_3[2]? = some ⟨some 13, (.faddr 28 (.t 6) 0), 0, none, 0⟩ := (rfl)
theorem ro_45_3_3 : ro_45_3[3]? = some ⟨some 14, (.load 22 (.t 13)), 22, none, 0⟩ := (rfl)
theorem ro_45_3_4 : ro_45_3[4]? = some ⟨some 15, (.len 22 (.t 14)), 3, none, 0⟩ := (rfl)
theorem ro_45_3_5 : ro_45_3[5]? = some ⟨some 16, (.call (.f 119) [(.t 12), (.t 15)]), 3, none, 16⟩ := (rfl)
theorem ro_45_3_6 : ro_45_3[6]? = some ⟨some 17, (.mv (.t 5)), 88, none, 0⟩ := (rfl)
theorem ro_45_3_7 : ro_45_3[7]? = some ⟨some 18, (.bslice 22 8 [(0, (.c (.int .i64 2))), (1, (.c (.int .i64 1))), (2, (.c (.int .i64 3))), (3, (.c (.int .i64 0))), (4, (.c (.int .i64 5))), (5, (.c (.int .i64 20))), (6, (.c (.int .i64 21))), (7, (.c (.int .i64 (-1))))]), 22, none, 0⟩ := (rfl)
theorem ro_45_3_8 : ro_45_3[8]? = some ⟨some 19, (.call (.f 120) [(.t 17), (.t 18)]), 3, none, 16⟩ := (rfl)
theorem ro_45_3_9 : ro_45_3[9]? = some ⟨none, (.store 28 (.t 2) (.t 11)), 0, none, 0⟩ := (rfl)
theorem ro_45_3_10 : ro_45_3[10]? = some ⟨some 3, (.mv (.t 16)), 3, none, 0⟩ := (rfl)
theorem ro_45_3_11 : ro_45_3[11]? = some ⟨some 4, (.mv (.t 19)), 3, none, 0⟩ := (rfl)
def an_45 : Ann := ⟨[(1, 1, 16), (2, 1, 16), (3, 5, 16), (3, 8, 16)], [(0, [0, 2]), (1, [2, 5]), (2, [2, 5, 6]), (3, [2, 3, 4])], [], [(3, ex_45_3_0, [16, 80, 128, 152])]⟩
def fa_45 : FnA := ⟨20, [.c 2 28, .t 3, .t 4],
  (.seq
    (.region false [⟨some 2, (.alloc 28), 0, none, 0⟩, ⟨some 3, (.mv (.c (.int .i64 0))), 3, none, 0⟩, ⟨some 4, (.mv (.c (.int .i64 0))), 3, none, 0⟩] (some [0, 2]))
    (.seq
      (.region false [⟨some 7, (.mv (.t 0)), 42, none, 0⟩, ⟨some 8, (.call (.f 107) [(.t 7)]), 88, none, 16⟩, ⟨some 5, (.mv (.t 8)), 88, none, 0⟩] (some [2, 5]))
      (.seq
        (.region false [⟨some 9, (.mv (.t 5)), 88, none, 0⟩, ⟨some 10, (.call (.f 106) [(.t 9)]), 28, none, 16⟩, ⟨some 6, (.alloc 28), 0, none, 0⟩, ⟨none, (.store 28 (.t 6) (.t 10)), 0, none, 0⟩] (some [2, 5, 6]))
        (.seq
          (.expl ro_45_3 ex_45_3_0 [2, 3, 4] [16, 80, 128, 152])
          .ret))))⟩
theorem fok_45 : FnOk Try.prog 45 fa_45 an_45 := ⟨Try.f45, _, Try.func45, rfl, by kernel_rfl, rfl, rfl, by decide, by kernel_rfl⟩
/-- spec.DrawFixedOf -/
def an_61 : Ann := ⟨[(1, 1, 16), (1, 2, 16)], [(0, [0, 2]), (1, [2])], [], []⟩
def fa_61 : FnA := ⟨6, [.c 2 28],
  (.seq
    (.region false [⟨some 2, (.alloc 28), 0, none, 0⟩] (some [0, 2]))
    (.seq
      (.region false [⟨some 3, (.mv (.t 0)), 42, none, 0⟩, ⟨some 4, (.call (.f 107) [(.t 3)]), 88, none, 16⟩, ⟨some 5, (.call (.f 106) [(.t 4)]), 28, none, 16⟩, ⟨none, (.store 28 (.t 2) (.t 5)), 0, none, 0⟩] (some [2]))
      .ret))⟩
theorem fok_61 : FnOk Try.prog 61 fa_61 an_61 := ⟨Try.f61, _, Try.func61, rfl, by kernel_rfl, rfl, rfl, by decide, by kernel_rfl⟩
/-- spec.has -/
def an_123 : Ann := ⟨[(1, 1, 3), (1, 8, 3), (1, 16, 3)], [(0, [1, 2, 3]), (1, [6])], [], []⟩
def fa_123 : FnA := ⟨25, [.t 6],
  (.seq
    (.region false [⟨some 3, (.box 28 (.t 0)), 0, none, 0⟩, ⟨some 6, (.mv (.c (.bool false))), 4, none, 0⟩] (some [1, 2, 3]))
    (.seq
      (.region false (gops (seg [2, 3, 16] [⟨some 7, (.load 28 (.t 3)), 28, none, 0⟩, ⟨some 8, (.call (.f 88) [(.t 7)]), 4, none, 3⟩, ⟨some 9, (.mv (.t 8)), 4, none, 0⟩, ⟨some 10, (.mv (.t 1)), 3, some (9, true), 0⟩, ⟨some 11, (.faddr 28 (.t 3) 0), 0, some (9, true), 0⟩, ⟨some 12, (.load 22 (.t 11)), 22, some (9, true), 0⟩, ⟨some 13, (.len 22 (.t 12)), 3, some (9, true), 0⟩, ⟨some 14, (.bin .sub 3 (.t 13) (.c (.int .i64 1))), 3, some (9, true), 0⟩, ⟨some 15, (.call (.f 99) [(.t 10), (.c (.int .i64 0)), (.t 14)]), 4, some (9, true), 3⟩, ⟨some 16, (.pick (.t 9) (.t 15) (.c (.bool false))), 4, none, 0⟩]
      [⟨some 17, (.mv (.t 16)), 4, none, 0⟩, ⟨some 18, (.mv (.t 2)), 3, some (17, true), 0⟩, ⟨some 19, (.faddr 28 (.t 3) 0), 0, some (17, true), 0⟩, ⟨some 20, (.load 22 (.t 19)), 22, some (17, true), 0⟩, ⟨some 21, (.len 22 (.t 20)), 3, some (17, true), 0⟩, ⟨some 22, (.bin .sub 3 (.t 21) (.c (.int .i64 1))), 3, some (17, true), 0⟩, ⟨some 23, (.call (.f 99) [(.t 18), (.c (.int .i64 0)), (.t 22)]), 4, some (17, true), 3⟩, ⟨some 24, (.pick (.t 17) (.t 23) (.c (.bool false))), 4, none, 0⟩, ⟨some 6, (.mv (.t 24)), 4, none, 0⟩] [6] (by decide))) (some [6]))
      .ret))⟩
theorem fok_123 : FnOk Try.prog 123 fa_123 an_123 := ⟨Try.f123, _, Try.func123, rfl, by kernel_rfl, rfl, rfl, by decide, by kernel_rfl⟩
/-- spec.near -/
def an_128 : Ann := ⟨[(1, 5, 3), (1, 11, 3)], [(0, [1, 2, 3]), (1, [6])], [], []⟩
def fa_128 : FnA := ⟨21, [.t 6],
  (.seq
    (.region false [⟨some 3, (.box 28 (.t 0)), 0, none, 0⟩, ⟨some 6, (.mv (.c (.int .i64 0))), 3, none, 0⟩] (some [1, 2, 3]))
    (.seq
      (.region true [⟨some 7, (.faddr 28 (.t 3) 1), 0, none, 0⟩, ⟨some 8, (.load 23 (.t 7)), 23, none, 0⟩, ⟨some 9, (.load 28 (.t 3)), 28, none, 0⟩, ⟨some 10, (.mv (.t 1)), 3, none, 0⟩, ⟨some 11, (.mv (.t 2)), 3, none, 0⟩, ⟨some 12, (.call (.f 126) [(.t 9), (.t 10), (.t 11)]), 3, none, 3⟩, ⟨some 13, (.iaddr 23 (.t 8) (.t 12)), 0, none, 0⟩, ⟨some 14, (.load 22 (.t 13)), 22, none, 0⟩, ⟨some 15, (.load 28 (.t 3)), 28, none, 0⟩, ⟨some 16, (.mv (.t 2)), 3, none, 0⟩, ⟨some 17, (.mv (.t 1)), 3, none, 0⟩, ⟨some 18, (.call (.f 126) [(.t 15), (.t 16), (.t 17)]), 3, none, 3⟩, ⟨some 19, (.iaddr 22 (.t 14) (.t 18)), 0, none, 0⟩, ⟨some 20, (.load 3 (.t 19)), 3, none, 0⟩, ⟨some 6, (.mv (.t 20)), 3, none, 0⟩] (some [6]))
      .ret))⟩
theorem fok_128 : FnOk Try.prog 128 fa_128 an_128 := ⟨Try.f128, _, Try.func128, rfl, by kernel_rfl, rfl, rfl, by decide, by kernel_rfl⟩
/-- spec.ImplyOf -/
def an_50 : Ann := ⟨[(1, 3, 3), (3, 3, 3)], [(0, [1, 2, 3]), (1, [1, 2, 3, 11]), (2, [6]), (3, [6])], [], []⟩
def fa_50 : FnA := ⟨16, [.t 6],
  (.seq
    (.region false [⟨some 3, (.box 28 (.t 0)), 0, none, 0⟩, ⟨some 6, (.mv (.c (.int .i64 0))), 3, none, 0⟩] (some [1, 2, 3]))
    (.seq
      (.seq
        (.region false [⟨some 7, (.load 28 (.t 3)), 28, none, 0⟩, ⟨some 8, (.mv (.t 1)), 3, none, 0⟩, ⟨some 9, (.mv (.t 2)), 3, none, 0⟩, ⟨some 10, (.call (.f 123) [(.t 7), (.t 8), (.t 9)]), 4, none, 3⟩, ⟨some 11, (.un .not (.t 10)), 4, none, 0⟩] (some [1, 2, 3, 11]))
        (.cond (.t 11)
          (.seq
            (.region false [⟨some 6, (.mv (.c (.int .i64 (-1)))), 3, none, 0⟩] (some [6]))
            .ret)
          .skip))
      (.seq
        (.region false [⟨some 12, (.load 28 (.t 3)), 28, none, 0⟩, ⟨some 13, (.mv (.t 1)), 3, none, 0⟩, ⟨some 14, (.mv (.t 2)), 3, none, 0⟩, ⟨some 15, (.call (.f 126) [(.t 12), (.t 13), (.t 14)]), 3, none, 3⟩, ⟨some 6, (.mv (.t 15)), 3, none, 0⟩] (some [6]))
        .ret)))⟩
theorem fok_50 : FnOk Try.prog 50 fa_50 an_50 := ⟨Try.f50, _, Try.func50, rfl, by kernel_rfl, rfl, rfl, by decide, by kernel_rfl⟩
/-- spec.NotOf -/
def an_56 : Ann := ⟨[(1, 3, 3), (3, 2, 3)], [(0, [1, 2]), (1, [1, 2, 9]), (2, [4]), (3, [4])], [], []⟩
def fa_56 : FnA := ⟨13, [.t 4],
  (.seq
    (.region false [⟨some 2, (.box 28 (.t 0)), 0, none, 0⟩, ⟨some 4, (.mv (.c (.int .i64 0))), 3, none, 0⟩] (some [1, 2]))
    (.seq
      (.seq
        (.region false [⟨some 5, (.load 28 (.t 2)), 28, none, 0⟩, ⟨some 6, (.mv (.t 1)), 3, none, 0⟩, ⟨some 7, (.mv (.t 1)), 3, none, 0⟩, ⟨some 8, (.call (.f 123) [(.t 5), (.t 6), (.t 7)]), 4, none, 3⟩, ⟨some 9, (.un .not (.t 8)), 4, none, 0⟩] (some [1, 2, 9]))
        (.cond (.t 9)
          (.seq
            (.region false [⟨some 4, (.mv (.c (.int .i64 (-1)))), 3, none, 0⟩] (some [4]))
            .ret)
          .skip))
      (.seq
        (.region false [⟨some 10, (.load 28 (.t 2)), 28, none, 0⟩, ⟨some 11, (.mv (.t 1)), 3, none, 0⟩, ⟨some 12, (.call (.f 126) [(.t 10), (.t 11), (.c (.int .i64 0))]), 3, none, 3⟩, ⟨some 4, (.mv (.t 12)), 3, none, 0⟩] (some [4]))
        .ret)))⟩
theorem fok_56 : FnOk Try.prog 56 fa_56 an_56 := ⟨Try.f56, _, Try.func56, rfl, by kernel_rfl, rfl, rfl, by decide, by kernel_rfl⟩
/-- spec.NearOf -/
def an_53 : Ann := ⟨[(1, 3, 3), (3, 3, 3)], [(0, [1, 2, 3]), (1, [1, 2, 3, 11]), (2, [6]), (3, [6])], [], []⟩
def fa_53 : FnA := ⟨16, [.t 6],
  (.seq
    (.region false [⟨some 3, (.box 28 (.t 0)), 0, none, 0⟩, ⟨some 6, (.mv (.c (.int .i64 0))), 3, none, 0⟩] (some [1, 2, 3]))
    (.seq
      (.seq
        (.region false [⟨some 7, (.load 28 (.t 3)), 28, none, 0⟩, ⟨some 8, (.mv (.t 1)), 3, none, 0⟩, ⟨some 9, (.mv (.t 2)), 3, none, 0⟩, ⟨some 10, (.call (.f 123) [(.t 7), (.t 8), (.t 9)]), 4, none, 3⟩, ⟨some 11, (.un .not (.t 10)), 4, none, 0⟩] (some [1, 2, 3, 11]))
        (.cond (.t 11)
          (.seq
            (.region false [⟨some 6, (.mv (.c (.int .i64 (-1)))), 3, none, 0⟩] (some [6]))
            .ret)
          .skip))
      (.seq
        (.region false [⟨some 12, (.load 28 (.t 3)), 28, none, 0⟩, ⟨some 13, (.mv (.t 1)), 3, none, 0⟩, ⟨some 14, (.mv (.t 2)), 3, none, 0⟩, ⟨some 15, (.call (.f 128) [(.t 12), (.t 13), (.t 14)]), 3, none, 3⟩, ⟨some 6, (.mv (.t 15)), 3, none, 0⟩] (some [6]))
        .ret)))⟩
theorem fok_53 : FnOk Try.prog 53 fa_53 an_53 := ⟨Try.f53, _, Try.func53, rfl, by kernel_rfl, rfl, rfl, by decide, by kernel_rfl⟩
/-- spec.PowerOf -/
def an_47 : Ann := ⟨[(1, 3, 3), (1, 7, 3), (3, 3, 3)], [(0, [1, 2, 3]), (1, [1, 2, 3, 16]), (2, [6]), (3, [6])], [], []⟩
def fa_47 : FnA := ⟨21, [.t 6],
  (.seq
    (.region false [⟨some 3, (.box 28 (.t 0)), 0, none, 0⟩, ⟨some 6, (.mv (.c (.int .i64 0))), 3, none, 0⟩] (some [1, 2, 3]))
    (.seq
      (.seq
        (.region false (gops [⟨some 7, (.load 28 (.t 3)), 28, none, 0⟩, ⟨some 8, (.mv (.t 1)), 3, none, 0⟩, ⟨some 9, (.mv (.t 1)), 3, none, 0⟩, ⟨some 10, (.call (.f 123) [(.t 7), (.t 8), (.t 9)]), 4, none, 3⟩, ⟨some 11, (.un .not (.t 10)), 4, none, 0⟩, ⟨some 12, (.mv (.t 11)), 4, none, 0⟩, ⟨some 13, (.mv (.t 2)), 3, some (12, false), 0⟩, ⟨some 14, (.call (.f 99) [(.t 13), (.c (.int .i64 0)), (.c (.int .i64 20))]), 4, some (12, false), 3⟩, ⟨some 15, (.un .not (.t 14)), 4, some (12, false), 0⟩, ⟨some 16, (.pick (.t 12) (.c (.bool true)) (.t 15)), 4, none, 0⟩]) (some [1, 2, 3, 16]))
        (.cond (.t 16)
          (.seq
            (.region false [⟨some 6, (.mv (.c (.int .i64 (-1)))), 3, none, 0⟩] (some [6]))
            .ret)
          .skip))
      (.seq
        (.region false [⟨some 17, (.load 28 (.t 3)), 28, none, 0⟩, ⟨some 18, (.mv (.t 1)), 3, none, 0⟩, ⟨some 19, (.mv (.t 2)), 3, none, 0⟩, ⟨some 20, (.call (.f 124) [(.t 17), (.t 18), (.t 19)]), 3, none, 3⟩, ⟨some 6, (.mv (.t 20)), 3, none, 0⟩] (some [6]))
        .ret)))⟩
theorem fok_47 : FnOk Try.prog 47 fa_47 an_47 := ⟨Try.f47, _, Try.func47, rfl, by kernel_rfl, rfl, rfl, by decide, by kernel_rfl⟩
/-- spec.ValidAlgebra -/
def an_37 : Ann := ⟨[(1, 1, 3)], [(0, [1]), (1, [2])], [], []⟩
def fa_37 : FnA := ⟨5, [.t 2],
  (.seq
    (.region false [⟨some 1, (.box 28 (.t 0)), 0, none, 0⟩, ⟨some 2, (.mv (.c (.bool false))), 4, none, 0⟩] (some [1]))
    (.seq
      (.region false [⟨some 3, (.load 28 (.t 1)), 28, none, 0⟩, ⟨some 4, (.call (.f 88) [(.t 3)]), 4, none, 3⟩, ⟨some 2, (.mv (.t 4)), 4, none, 0⟩] (some [2]))
      .ret))⟩
theorem fok_37 : FnOk Try.prog 37 fa_37 an_37 := ⟨Try.f37, _, Try.func37, rfl, by kernel_rfl, rfl, rfl, by decide, by kernel_rfl⟩
/-- impl.near -/
def an_127 : Ann := ⟨[(1, 5, 3), (1, 11, 3)], [(0, [1, 2, 3]), (1, [6])], [], []⟩
def fa_127 : FnA := ⟨21, [.t 6],
  (.seq
    (.region false [⟨some 3, (.box 28 (.t 0)), 0, none, 0⟩, ⟨some 6, (.mv (.c (.int .i64 0))), 3, none, 0⟩] (some [1, 2, 3]))
    (.seq
      (.region true [⟨some 7, (.faddr 28 (.t 3) 1), 0, none, 0⟩, ⟨some 8, (.load 23 (.t 7)), 23, none, 0⟩, ⟨some 9, (.load 28 (.t 3)), 28, none, 0⟩, ⟨some 10, (.mv (.t 1)), 3, none, 0⟩, ⟨some 11, (.mv (.t 2)), 3, none, 0⟩, ⟨some 12, (.call (.f 125) [(.t 9), (.t 10), (.t 11)]), 3, none, 3⟩, ⟨some 13, (.iaddr 23 (.t 8) (.t 12)), 0, none, 0⟩, ⟨some 14, (.load 22 (.t 13)), 22, none, 0⟩, ⟨some 15, (.load 28 (.t 3)), 28, none, 0⟩, ⟨some 16, (.mv (.t 2)), 3, none, 0⟩, ⟨some 17, (.mv (.t 1)), 3, none, 0⟩, ⟨some 18, (.call (.f 125) [(.t 15), (.t 16), (.t 17)]), 3, none, 3⟩, ⟨some 19, (.iaddr 22 (.t 14) (.t 18)), 0, none, 0⟩, ⟨some 20, (.load 3 (.t 19)), 3, none, 0⟩, ⟨some 6, (.mv (.t 20)), 3, none, 0⟩] (some [6]))
      .ret))⟩
theorem fok_127 : FnOk Try.prog 127 fa_127 an_127 := ⟨Try.f127, _, Try.func127, rfl, by kernel_rfl, rfl, rfl, by decide, by kernel_rfl⟩
/-- impl.ImplyOf -/
def an_49 : Ann := ⟨[(1, 4, 3), (3, 3, 3)], [(0, [1, 2, 3]), (1, [1, 2, 3, 12]), (2, [6]), (3, [6])], [], []⟩
def fa_49 : FnA := ⟨17, [.t 6],
  (.seq
    (.region false [⟨some 3, (.box 28 (.t 0)), 0, none, 0⟩, ⟨some 6, (.mv (.c (.int .i64 0))), 3, none, 0⟩] (some [1, 2, 3]))
    (.seq
      (.seq
        (.region false [⟨some 7, (.load 28 (.t 3)), 28, none, 0⟩, ⟨some 8, (.mv (.t 1)), 3, none, 0⟩, ⟨some 9, (.mv (.t 2)), 3, none, 0⟩, ⟨some 10, (.bslice 22 2 [(0, (.t 8)), (1, (.t 9))]), 22, none, 0⟩, ⟨some 11, (.call (.f 121) [(.t 7), (.t 10)]), 4, none, 3⟩, ⟨some 12, (.un .not (.t 11)), 4, none, 0⟩] (some [1, 2, 3, 12]))
        (.cond (.t 12)
          (.seq
            (.region false [⟨some 6, (.mv (.c (.int .i64 (-1)))), 3, none, 0⟩] (some [6]))
            .ret)
          .skip))
      (.seq
        (.region false [⟨some 13, (.load 28 (.t 3)), 28, none, 0⟩, ⟨some 14, (.mv (.t 1)), 3, none, 0⟩, ⟨some 15, (.mv (.t 2)), 3, none, 0⟩, ⟨some 16, (.call (.f 125) [(.t 13), (.t 14), (.t 15)]), 3, none, 3⟩, ⟨some 6, (.mv (.t 16)), 3, none, 0⟩] (some [6]))
        .ret)))⟩
theorem fok_49 : FnOk Try.prog 49 fa_49 an_49 := ⟨Try.f49, _, Try.func49, rfl, by kernel_rfl, rfl, rfl, by decide, by kernel_rfl⟩
/-- impl.NotOf -/
def an_55 : Ann := ⟨[(1, 3, 3), (3, 2, 3)], [(0, [1, 2]), (1, [1, 2, 9]), (2, [4]), (3, [4])], [], []⟩
def fa_55 : FnA := ⟨13, [.t 4],
  (.seq
    (.region false [⟨some 2, (.box 28 (.t 0)), 0, none, 0⟩, ⟨some 4, (.mv (.c (.int .i64 0))), 3, none, 0⟩] (some [1, 2]))
    (.seq
      (.seq
        (.region false [⟨some 5, (.load 28 (.t 2)), 28, none, 0⟩, ⟨some 6, (.mv (.t 1)), 3, none, 0⟩, ⟨some 7, (.bslice 22 1 [(0, (.t 6))]), 22, none, 0⟩, ⟨some 8, (.call (.f 121) [(.t 5), (.t 7)]), 4, none, 3⟩, ⟨some 9, (.un .not (.t 8)), 4, none, 0⟩] (some [1, 2, 9]))
        (.cond (.t 9)
          (.seq
            (.region false [⟨some 4, (.mv (.c (.int .i64 (-1)))), 3, none, 0⟩] (some [4]))
            .ret)
          .skip))
      (.seq
        (.region false [⟨some 10, (.load 28 (.t 2)), 28, none, 0⟩, ⟨some 11, (.mv (.t 1)), 3, none, 0⟩, ⟨some 12, (.call (.f 129) [(.t 10), (.t 11)]), 3, none, 3⟩, ⟨some 4, (.mv (.t 12)), 3, none, 0⟩] (some [4]))
        .ret)))⟩
theorem fok_55 : FnOk Try.prog 55 fa_55 an_55 := ⟨Try.f55, _, Try.func55, rfl, by kernel_rfl, rfl, rfl, by decide, by kernel_rfl⟩
/-- impl.NearOf -/
def an_52 : Ann := ⟨[(1, 4, 3), (3, 3, 3)], [(0, [1, 2, 3]), (1, [1, 2, 3, 12]), (2, [6]), (3, [6])], [], []⟩
def fa_52 : FnA := ⟨17, [.t 6],
  (.seq
    (.region false [⟨some 3, (.box 28 (.t 0)), 0, none, 0⟩, ⟨some 6, (.mv (.c (.int .i64 0))), 3, none, 0⟩] (some [1, 2, 3]))
    (.seq
      (.seq
        (.region false [⟨some 7, (.load 28 (.t 3)), 28, none, 0⟩, ⟨some 8, (.mv (.t 1)), 3, none, 0⟩, ⟨some 9, (.mv (.t 2)), 3, none, 0⟩, ⟨some 10, (.bslice 22 2 [(0, (.t 8)), (1, (.t 9))]), 22, none, 0⟩, ⟨some 11, (.call (.f 121) [(.t 7), (.t 10)]), 4, none, 3⟩, ⟨some 12, (.un .not (.t 11)), 4, none, 0⟩] (some [1, 2, 3, 12]))
        (.cond (.t 12)
          (.seq
            (.region false [⟨some 6, (.mv (.c (.int .i64 (-1)))), 3, none, 0⟩] (some [6]))
            .ret)
          .skip))
      (.seq
        (.region false [⟨some 13, (.load 28 (.t 3)), 28, none, 0⟩, ⟨some 14, (.mv (.t 1)), 3, none, 0⟩, ⟨some 15, (.mv (.t 2)), 3, none, 0⟩, ⟨some 16, (.call (.f 127) [(.t 13), (.t 14), (.t 15)]), 3, none, 3⟩, ⟨some 6, (.mv (.t 16)), 3, none, 0⟩] (some [6]))
        .ret)))⟩
theorem fok_52 : FnOk Try.prog 52 fa_52 an_52 := ⟨Try.f52, _, Try.func52, rfl, by kernel_rfl, rfl, rfl, by decide, by kernel_rfl⟩
/-- impl.PowerOf -/
def an_46 : Ann := ⟨[(1, 3, 3), (1, 7, 3), (3, 3, 3)], [(0, [1, 2, 3]), (1, [1, 2, 3, 16]), (2, [6]), (3, [6])], [], []⟩
def fa_46 : FnA := ⟨21, [.t 6],
  (.seq
    (.region false [⟨some 3, (.box 28 (.t 0)), 0, none, 0⟩, ⟨some 6, (.mv (.c (.int .i64 0))), 3, none, 0⟩] (some [1, 2, 3]))
    (.seq
      (.seq
        (.region false (gops [⟨some 7, (.load 28 (.t 3)), 28, none, 0⟩, ⟨some 8, (.mv (.t 1)), 3, none, 0⟩, ⟨some 9, (.bslice 22 1 [(0, (.t 8))]), 22, none, 0⟩, ⟨some 10, (.call (.f 121) [(.t 7), (.t 9)]), 4, none, 3⟩, ⟨some 11, (.un .not (.t 10)), 4, none, 0⟩, ⟨some 12, (.mv (.t 11)), 4, none, 0⟩, ⟨some 13, (.mv (.t 2)), 3, some (12, false), 0⟩, ⟨some 14, (.call (.f 101) [(.t 13), (.c (.int .i64 0)), (.c (.int .i64 20))]), 4, some (12, false), 3⟩, ⟨some 15, (.un .not (.t 14)), 4, some (12, false), 0⟩, ⟨some 16, (.pick (.t 12) (.c (.bool true)) (.t 15)), 4, none, 0⟩]) (some [1, 2, 3, 16]))
        (.cond (.t 16)
          (.seq
            (.region false [⟨some 6, (.mv (.c (.int .i64 (-1)))), 3, none, 0⟩] (some [6]))
            .ret)
          .skip))
      (.seq
        (.region false [⟨some 17, (.load 28 (.t 3)), 28, none, 0⟩, ⟨some 18, (.mv (.t 1)), 3, none, 0⟩, ⟨some 19, (.mv (.t 2)), 3, none, 0⟩, ⟨some 20, (.call (.f 122) [(.t 17), (.t 18), (.t 19)]), 3, none, 3⟩, ⟨some 6, (.mv (.t 20)), 3, none, 0⟩] (some [6]))
        .ret)))⟩
theorem fok_46 : FnOk Try.prog 46 fa_46 an_46 := ⟨Try.f46, _, Try.func46, rfl, by kernel_rfl, rfl, rfl, by decide, by kernel_rfl⟩
/-- impl.latticeAt$1 -/
def an_176 : Ann := ⟨[(1, 4, 3)], [(0, [0, 1]), (1, [3])], [], []⟩
def fa_176 : FnA := ⟨10, [.t 3],
  (.seq
    (.region false [⟨some 3, (.mv (.c (.bool false))), 4, none, 0⟩] (some [0, 1]))
    (.seq
      (.region false [⟨some 4, (.mv (.t 0)), 3, none, 0⟩, ⟨some 5, (.load 22 (.t 1)), 22, none, 0⟩, ⟨some 6, (.len 22 (.t 5)), 3, none, 0⟩, ⟨some 7, (.bin .sub 3 (.t 6) (.c (.int .i64 1))), 3, none, 0⟩, ⟨some 8, (.call (.f 101) [(.t 4), (.c (.int .i64 0)), (.t 7)]), 4, none, 3⟩, ⟨some 9, (.un .not (.t 8)), 4, none, 0⟩, ⟨some 3, (.mv (.t 9)), 4, none, 0⟩] (some [3]))
      .ret))⟩
theorem fok_176 : FnOk Try.prog 176 fa_176 an_176 := ⟨Try.f176, _, Try.func176, rfl, by kernel_rfl, rfl, rfl, by decide, by kernel_rfl⟩
/-- impl.latticeAt -/
def an_110 : Ann := ⟨[(1, 1, 3), (1, 5, 3)], [(0, [1, 2]), (1, [4])], [], []⟩
def fa_110 : FnA := ⟨13, [.t 4],
  (.seq
    (.region false [⟨some 2, (.box 22 (.t 0)), 0, none, 0⟩, ⟨some 4, (.mv (.c (.bool false))), 4, none, 0⟩] (some [1, 2]))
    (.seq
      (.region false (gops [⟨some 5, (.load 22 (.t 2)), 22, none, 0⟩, ⟨some 6, (.call (.f 40) [(.t 5)]), 4, none, 3⟩, ⟨some 7, (.mv (.t 6)), 4, none, 0⟩, ⟨some 8, (.mv (.t 1)), 22, some (7, true), 0⟩, ⟨some 9, (.mkfn 176 [(.t 2)]), 39, some (7, true), 0⟩, ⟨some 10, (.call (.f 108) [(.t 8), (.t 9)]), 4, some (7, true), 3⟩, ⟨some 11, (.un .not (.t 10)), 4, some (7, true), 0⟩, ⟨some 12, (.pick (.t 7) (.t 11) (.c (.bool false))), 4, none, 0⟩, ⟨some 4, (.mv (.t 12)), 4, none, 0⟩]) (some [4]))
      .ret))⟩
theorem fok_110 : FnOk Try.prog 110 fa_110 an_110 := ⟨Try.f110, _, Try.func110, rfl, by kernel_rfl, rfl, rfl, by decide, by kernel_rfl⟩
/-- impl.IsBelow -/
def an_38 : Ann := ⟨[(1, 4, 3), (1, 9, 3)], [(0, [0, 1, 2]), (1, [6])], [], []⟩
def fa_38 : FnA := ⟨18, [.t 6],
  (.seq
    (.region false [⟨some 6, (.mv (.c (.bool false))), 4, none, 0⟩] (some [0, 1, 2]))
    (.seq
      (.region false (gops [⟨some 7, (.mv (.t 0)), 22, none, 0⟩, ⟨some 8, (.mv (.t 1)), 3, none, 0⟩, ⟨some 9, (.mv (.t 2)), 3, none, 0⟩, ⟨some 10, (.bslice 22 2 [(0, (.t 8)), (1, (.t 9))]), 22, none, 0⟩, ⟨some 11, (.call (.f 110) [(.t 7), (.t 10)]), 4, none, 3⟩, ⟨some 12, (.mv (.t 11)), 4, none, 0⟩, ⟨some 13, (.mv (.t 0)), 22, some (12, true), 0⟩, ⟨some 14, (.mv (.t 1)), 3, some (12, true), 0⟩, ⟨some 15, (.mv (.t 2)), 3, some (12, true), 0⟩, ⟨some 16, (.call (.f 111) [(.t 13), (.t 14), (.t 15)]), 4, some (12, true), 3⟩, ⟨some 17, (.pick (.t 12) (.t 16) (.c (.bool false))), 4, none, 0⟩, ⟨some 6, (.mv (.t 17)), 4, none, 0⟩]) (some [6]))
      .ret))⟩
theorem fok_38 : FnOk Try.prog 38 fa_38 an_38 := ⟨Try.f38, _, Try.func38, rfl, by kernel_rfl, rfl, rfl, by decide, by kernel_rfl⟩
/-- impl.MeetOf -/
def an_39 : Ann := ⟨[(1, 4, 3), (3, 3, 3)], [(0, [0, 1, 2]), (1, [0, 1, 2, 12]), (2, [6]), (3, [6])], [], []⟩
def fa_39 : FnA := ⟨17, [.t 6],
  (.seq
    (.region false [⟨some 6, (.mv (.c (.int .i64 0))), 3, none, 0⟩] (some [0, 1, 2]))
    (.seq
      (.seq
        (.region false [⟨some 7, (.mv (.t 0)), 22, none, 0⟩, ⟨some 8, (.mv (.t 1)), 3, none, 0⟩, ⟨some 9, (.mv (.t 2)), 3, none, 0⟩, ⟨some 10, (.bslice 22 2 [(0, (.t 8)), (1, (.t 9))]), 22, none, 0⟩, ⟨some 11, (.call (.f 110) [(.t 7), (.t 10)]), 4, none, 3⟩, ⟨some 12, (.un .not (.t 11)), 4, none, 0⟩] (some [0, 1, 2, 12]))
        (.cond (.t 12)
          (.seq
            (.region false [⟨some 6, (.mv (.c (.int .i64 (-1)))), 3, none, 0⟩] (some [6]))
            .ret)
          .skip))
      (.seq
        (.region false [⟨some 13, (.mv (.t 0)), 22, none, 0⟩, ⟨some 14, (.mv (.t 1)), 3, none, 0⟩, ⟨some 15, (.mv (.t 2)), 3, none, 0⟩, ⟨some 16, (.call (.f 112) [(.t 13), (.t 14), (.t 15)]), 3, none, 3⟩, ⟨some 6, (.mv (.t 16)), 3, none, 0⟩] (some [6]))
        .ret)))⟩
theorem fok_39 : FnOk Try.prog 39 fa_39 an_39 := ⟨Try.f39, _, Try.func39, rfl, by kernel_rfl, rfl, rfl, by decide, by kernel_rfl⟩
/-- impl.JoinOf -/
def an_66 : Ann := ⟨[(1, 4, 3), (3, 3, 3)], [(0, [0, 1, 2]), (1, [0, 1, 2, 12]), (2, [6]), (3, [6])], [], []⟩
def fa_66 : FnA := ⟨17, [.t 6],
  (.seq
    (.region false [⟨some 6, (.mv (.c (.int .i64 0))), 3, none, 0⟩] (some [0, 1, 2]))
    (.seq
      (.seq
        (.region false [⟨some 7, (.mv (.t 0)), 22, none, 0⟩, ⟨some 8, (.mv (.t 1)), 3, none, 0⟩, ⟨some 9, (.mv (.t 2)), 3, none, 0⟩, ⟨some 10, (.bslice 22 2 [(0, (.t 8)), (1, (.t 9))]), 22, none, 0⟩, ⟨some 11, (.call (.f 110) [(.t 7), (.t 10)]), 4, none, 3⟩, ⟨some 12, (.un .not (.t 11)), 4, none, 0⟩] (some [0, 1, 2, 12]))
        (.cond (.t 12)
          (.seq
            (.region false [⟨some 6, (.mv (.c (.int .i64 (-1)))), 3, none, 0⟩] (some [6]))
            .ret)
          .skip))
      (.seq
        (.region false [⟨some 13, (.mv (.t 0)), 22, none, 0⟩, ⟨some 14, (.mv (.t 1)), 3, none, 0⟩, ⟨some 15, (.mv (.t 2)), 3, none, 0⟩, ⟨some 16, (.call (.f 96) [(.t 13), (.t 14), (.t 15)]), 3, none, 3⟩, ⟨some 6, (.mv (.t 16)), 3, none, 0⟩] (some [6]))
        .ret)))⟩
theorem fok_66 : FnOk Try.prog 66 fa_66 an_66 := ⟨Try.f66, _, Try.func66, rfl, by kernel_rfl, rfl, rfl, by decide, by kernel_rfl⟩
/-- laws.FnValidAlgebra -/
def an_6 : Ann := ⟨[(3, 1, 3), (4, 1, 3), (5, 2, 3), (6, 2, 3), (14, 14, 3), (14, 15, 3), (16, 2, 3)], [(0, [0]), (1, [0, 10]), (2, [2]), (3, [3]), (4, [3, 4]), (5, [3, 4, 22]), (6, [2]), (7, [3, 5]), (8, [3, 5, 6]), (9, [3, 5, 6, 32]), (11, [3, 5, 6, 7]), (12, [3, 5, 6, 7, 37]), (14, [3, 5, 6, 7, 56]), (15, [2]), (13, [3, 5, 6, 7]), (10, [3, 5, 6]), (16, [2])], [(9, [3, 5, 6], [24]), (12, [3, 5, 6, 7], [24])], []⟩
def lb_6_12 : AC :=
  (.seq
    (.seq
      (.region false [⟨some 35, (.mv (.t 7)), 3, none, 0⟩, ⟨some 36, (.mv (.t 5)), 3, none, 0⟩, ⟨some 37, (.bin .lss 3 (.t 35) (.t 36)), 4, none, 0⟩] (some [3, 5, 6, 7, 37]))
      (.cond (.t 37)
        .skip
        (.exit 2)))
    (.seq
      (.block 3
        (.seq
          (.region true [⟨some 40, (.faddr 28 (.t 3) 0), 0, none, 0⟩, ⟨some 41, (.load 22 (.t 40)), 22, none, 0⟩, ⟨some 42, (.faddr 28 (.t 3) 1), 0, none, 0⟩, ⟨some 43, (.load 23 (.t 42)), 23, none, 0⟩, ⟨some 44, (.mv (.t 6)), 3, none, 0⟩, ⟨some 45, (.iaddr 23 (.t 43) (.t 44)), 0, none, 0⟩, ⟨some 46, (.load 22 (.t 45)), 22, none, 0⟩, ⟨some 47, (.mv (.t 7)), 3, none, 0⟩, ⟨some 48, (.iaddr 22 (.t 46) (.t 47)), 0, none, 0⟩, ⟨some 49, (.load 3 (.t 48)), 3, none, 0⟩, ⟨some 50, (.faddr 28 (.t 3) 0), 0, none, 0⟩, ⟨some 51, (.load 22 (.t 50)), 22, none, 0⟩, ⟨some 52, (.mv (.t 6)), 3, none, 0⟩, ⟨some 53, (.mv (.t 7)), 3, none, 0⟩, ⟨some 54, (.call (.f 39) [(.t 51), (.t 52), (.t 53)]), 3, none, 3⟩, ⟨some 55, (.call (.f 38) [(.t 41), (.t 49), (.t 54)]), 4, none, 3⟩, ⟨some 56, (.un .not (.t 55)), 4, none, 0⟩] (some [3, 5, 6, 7, 56]))
          (.cond (.t 56)
            (.seq
              (.region false [⟨some 2, (.mv (.c (.bool false))), 4, none, 0⟩] (some [2]))
              .ret)
            .skip)))
      (.region false [⟨some 38, (.mv (.t 7)), 3, none, 0⟩, ⟨some 39, (.bin .add 3 (.t 38) (.c (.int .i64 1))), 3, none, 0⟩, ⟨some 7, (.mv (.t 39)), 3, none, 0⟩] (some [3, 5, 6, 7]))))
def lb_6_9 : AC :=
  (.seq
    (.seq
      (.region false [⟨some 30, (.mv (.t 6)), 3, none, 0⟩, ⟨some 31, (.mv (.t 5)), 3, none, 0⟩, ⟨some 32, (.bin .lss 3 (.t 30) (.t 31)), 4, none, 0⟩] (some [3, 5, 6, 32]))
      (.cond (.t 32)
        .skip
        (.exit 0)))
    (.seq
      (.block 1
        (.seq
          (.region false [⟨some 7, (.mv (.c (.int .i64 0))), 3, none, 0⟩] (some [3, 5, 6, 7]))
          (.block 2
            (.loop [3, 5, 6, 7] [24] lb_6_12))))
      (.region false [⟨some 33, (.mv (.t 6)), 3, none, 0⟩, ⟨some 34, (.bin .add 3 (.t 33) (.c (.int .i64 1))), 3, none, 0⟩, ⟨some 6, (.mv (.t 34)), 3, none, 0⟩] (some [3, 5, 6]))))
def fa_6 : FnA := ⟨60, [.t 2],
  (.seq
    (.region false [⟨some 2, (.mv (.c (.bool false))), 4, none, 0⟩] (some [0]))
    (.seq
      (.seq
        (.region false [⟨some 8, (.mv (.t 0)), 42, none, 0⟩, ⟨some 9, (.len 42 (.t 8)), 3, none, 0⟩, ⟨some 10, (.bin .gtr 3 (.t 9) (.c (.int .i64 1048576))), 4, none, 0⟩] (some [0, 10]))
        (.cond (.t 10)
          (.seq
            (.region false [⟨some 2, (.mv (.c (.bool true))), 4, none, 0⟩] (some [2]))
            .ret)
          .skip))
      (.seq
        (.region false [⟨some 11, (.mv (.t 0)), 42, none, 0⟩, ⟨some 12, (.call (.f 35) [(.t 11)]), 28, none, 3⟩, ⟨some 3, (.alloc 28), 0, none, 0⟩, ⟨none, (.store 28 (.t 3) (.t 12)), 0, none, 0⟩] (some [3]))
        (.seq
          (.region false [⟨some 13, (.load 28 (.t 3)), 28, none, 0⟩, ⟨some 14, (.call (.f 36) [(.t 13)]), 4, none, 3⟩, ⟨some 4, (.mv (.t 14)), 4, none, 0⟩] (some [3, 4]))
          (.seq
            (.seq
              (.region false (gops [⟨some 15, (.mv (.t 4)), 4, none, 0⟩, ⟨some 16, (.load 28 (.t 3)), 28, none, 0⟩, ⟨some 17, (.call (.f 37) [(.t 16)]), 4, none, 3⟩, ⟨some 18, (.bin .neq 4 (.t 15) (.t 17)), 4, none, 0⟩, ⟨some 19, (.mv (.t 18)), 4, none, 0⟩, ⟨some 20, (.mv (.t 4)), 4, some (19, false), 0⟩, ⟨some 21, (.un .not (.t 20)), 4, some (19, false), 0⟩, ⟨some 22, (.pick (.t 19) (.c (.bool true)) (.t 21)), 4, none, 0⟩]) (some [3, 4, 22]))
              (.cond (.t 22)
                (.seq
                  (.region false [⟨some 23, (.mv (.t 4)), 4, none, 0⟩, ⟨some 24, (.load 28 (.t 3)), 28, none, 0⟩, ⟨some 25, (.call (.f 37) [(.t 24)]), 4, none, 3⟩, ⟨some 26, (.bin .eql 4 (.t 23) (.t 25)), 4, none, 0⟩, ⟨some 2, (.mv (.t 26)), 4, none, 0⟩] (some [2]))
                  .ret)
                .skip))
            (.seq
              (.region false [⟨some 27, (.faddr 28 (.t 3) 0), 0, none, 0⟩, ⟨some 28, (.load 22 (.t 27)), 22, none, 0⟩, ⟨some 29, (.len 22 (.t 28)), 3, none, 0⟩, ⟨some 5, (.mv (.t 29)), 3, none, 0⟩] (some [3, 5]))
              (.seq
                (.seq
                  (.region false [⟨some 6, (.mv (.c (.int .i64 0))), 3, none, 0⟩] (some [3, 5, 6]))
                  (.block 0
                    (.loop [3, 5, 6] [24] lb_6_9)))
                (.seq
                  (.region false [⟨some 57, (.faddr 28 (.t 3) 0), 0, none, 0⟩, ⟨some 58, (.load 22 (.t 57)), 22, none, 0⟩, ⟨some 59, (.call (.f 40) [(.t 58)]), 4, none, 3⟩, ⟨some 2, (.mv (.t 59)), 4, none, 0⟩] (some [2]))
                  .ret))))))))⟩
theorem fok_6 : FnOk Try.prog 6 fa_6 an_6 := ⟨Try.f6, _, Try.func6, rfl, by kernel_rfl, rfl, rfl, by decide, by kernel_rfl⟩
/-- laws.FnImplyOf -/
def an_9 : Ann := ⟨[(3, 1, 3), (4, 3, 3), (5, 4, 3), (6, 4, 3), (10, 11, 3), (10, 16, 3), (12, 10, 3)], [(0, [0]), (1, [0, 10]), (2, [2]), (3, [3, 4, 5]), (4, [3, 4, 5, 6]), (5, [3, 4, 5, 6, 30]), (6, [2]), (7, [3, 4, 5, 6, 7]), (8, [3, 4, 5, 6, 7, 41]), (10, [3, 4, 5, 6, 7, 61]), (11, [2]), (9, [3, 4, 5, 6, 7]), (12, [2])], [(8, [3, 4, 5, 6, 7], [24])], []⟩
def lb_9_8 : AC :=
  (.seq
    (.seq
      (.region false [⟨some 37, (.mv (.t 7)), 3, none, 0⟩, ⟨some 38, (.faddr 28 (.t 3) 0), 0, none, 0⟩, ⟨some 39, (.load 22 (.t 38)), 22, none, 0⟩, ⟨some 40, (.len 22 (.t 39)), 3, none, 0⟩, ⟨some 41, (.bin .lss 3 (.t 37) (.t 40)), 4, none, 0⟩] (some [3, 4, 5, 6, 7, 41]))
      (.cond (.t 41)
        .skip
        (.exit 0)))
    (.seq
      (.block 1
        (.seq
          (.region true [⟨some 44, (.faddr 28 (.t 3) 0), 0, none, 0⟩, ⟨some 45, (.load 22 (.t 44)), 22, none, 0⟩, ⟨some 46, (.faddr 28 (.t 3) 1), 0, none, 0⟩, ⟨some 47, (.load 23 (.t 46)), 23, none, 0⟩, ⟨some 48, (.mv (.t 4)), 3, none, 0⟩, ⟨some 49, (.iaddr 23 (.t 47) (.t 48)), 0, none, 0⟩, ⟨some 50, (.load 22 (.t 49)), 22, none, 0⟩, ⟨some 51, (.mv (.t 7)), 3, none, 0⟩, ⟨some 52, (.iaddr 22 (.t 50) (.t 51)), 0, none, 0⟩, ⟨some 53, (.load 3 (.t 52)), 3, none, 0⟩, ⟨some 54, (.mv (.t 5)), 3, none, 0⟩, ⟨some 55, (.call (.f 38) [(.t 45), (.t 53), (.t 54)]), 4, none, 3⟩, ⟨some 56, (.faddr 28 (.t 3) 0), 0, none, 0⟩, ⟨some 57, (.load 22 (.t 56)), 22, none, 0⟩, ⟨some 58, (.mv (.t 7)), 3, none, 0⟩, ⟨some 59, (.mv (.t 6)), 3, none, 0⟩, ⟨some 60, (.call (.f 38) [(.t 57), (.t 58), (.t 59)]), 4, none, 3⟩, ⟨some 61, (.bin .neq 4 (.t 55) (.t 60)), 4, none, 0⟩] (some [3, 4, 5, 6, 7, 61]))
          (.cond (.t 61)
            (.seq
              (.region false [⟨some 2, (.mv (.c (.bool false))), 4, none, 0⟩] (some [2]))
              .ret)
            .skip)))
      (.region false [⟨some 42, (.mv (.t 7)), 3, none, 0⟩, ⟨some 43, (.bin .add 3 (.t 42) (.c (.int .i64 1))), 3, none, 0⟩, ⟨some 7, (.mv (.t 43)), 3, none, 0⟩] (some [3, 4, 5, 6, 7]))))
def fa_9 : FnA := ⟨74, [.t 2],
  (.seq
    (.region false [⟨some 2, (.mv (.c (.bool false))), 4, none, 0⟩] (some [0]))
    (.seq
      (.seq
        (.region false [⟨some 8, (.mv (.t 0)), 42, none, 0⟩, ⟨some 9, (.len 42 (.t 8)), 3, none, 0⟩, ⟨some 10, (.bin .gtr 3 (.t 9) (.c (.int .i64 1048576))), 4, none, 0⟩] (some [0, 10]))
        (.cond (.t 10)
          (.seq
            (.region false [⟨some 2, (.mv (.c (.bool true))), 4, none, 0⟩] (some [2]))
            .ret)
          .skip))
      (.seq
        (.region false [⟨some 12, (.mv (.t 0)), 42, none, 0⟩, ⟨some 13, (.call (.f 48) [(.t 12)]), 53, none, 3⟩, ⟨some 11, (.mv (.t 13)), 53, none, 0⟩, ⟨some 14, (.ext (.t 11) 0), 28, none, 0⟩, ⟨some 15, (.ext (.t 11) 1), 3, none, 0⟩, ⟨some 16, (.ext (.t 11) 2), 3, none, 0⟩, ⟨some 3, (.alloc 28), 0, none, 0⟩, ⟨none, (.store 28 (.t 3) (.t 14)), 0, none, 0⟩, ⟨some 4, (.mv (.t 15)), 3, none, 0⟩, ⟨some 5, (.mv (.t 16)), 3, none, 0⟩] (some [3, 4, 5]))
        (.seq
          (.region false [⟨some 17, (.load 28 (.t 3)), 28, none, 0⟩, ⟨some 18, (.mv (.t 4)), 3, none, 0⟩, ⟨some 19, (.mv (.t 5)), 3, none, 0⟩, ⟨some 20, (.call (.f 49) [(.t 17), (.t 18), (.t 19)]), 3, none, 3⟩, ⟨some 6, (.mv (.t 20)), 3, none, 0⟩] (some [3, 4, 5, 6]))
          (.seq
            (.seq
              (.region false (gops [⟨some 21, (.mv (.t 6)), 3, none, 0⟩, ⟨some 22, (.load 28 (.t 3)), 28, none, 0⟩, ⟨some 23, (.mv (.t 4)), 3, none, 0⟩, ⟨some 24, (.mv (.t 5)), 3, none, 0⟩, ⟨some 25, (.call (.f 50) [(.t 22), (.t 23), (.t 24)]), 3, none, 3⟩, ⟨some 26, (.bin .neq 3 (.t 21) (.t 25)), 4, none, 0⟩, ⟨some 27, (.mv (.t 26)), 4, none, 0⟩, ⟨some 28, (.mv (.t 6)), 3, some (27, false), 0⟩, ⟨some 29, (.bin .lss 3 (.t 28) (.c (.int .i64 0))), 4, some (27, false), 0⟩, ⟨some 30, (.pick (.t 27) (.c (.bool true)) (.t 29)), 4, none, 0⟩]) (some [3, 4, 5, 6, 30]))
              (.cond (.t 30)
                (.seq
                  (.region false [⟨some 31, (.mv (.t 6)), 3, none, 0⟩, ⟨some 32, (.load 28 (.t 3)), 28, none, 0⟩, ⟨some 33, (.mv (.t 4)), 3, none, 0⟩, ⟨some 34, (.mv (.t 5)), 3, none, 0⟩, ⟨some 35, (.call (.f 50) [(.t 32), (.t 33), (.t 34)]), 3, none, 3⟩, ⟨some 36, (.bin .eql 3 (.t 31) (.t 35)), 4, none, 0⟩, ⟨some 2, (.mv (.t 36)), 4, none, 0⟩] (some [2]))
                  .ret)
                .skip))
            (.seq
              (.seq
                (.region false [⟨some 7, (.mv (.c (.int .i64 0))), 3, none, 0⟩] (some [3, 4, 5, 6, 7]))
                (.block 0
                  (.loop [3, 4, 5, 6, 7] [24] lb_9_8)))
              (.seq
                (.region true [⟨some 62, (.mv (.t 6)), 3, none, 0⟩, ⟨some 63, (.faddr 28 (.t 3) 0), 0, none, 0⟩, ⟨some 64, (.load 22 (.t 63)), 22, none, 0⟩, ⟨some 65, (.len 22 (.t 64)), 3, none, 0⟩, ⟨some 66, (.bin .sub 3 (.t 65) (.c (.int .i64 1))), 3, none, 0⟩, ⟨some 67, (.bin .eql 3 (.t 62) (.t 66)), 4, none, 0⟩, ⟨some 68, (.faddr 28 (.t 3) 0), 0, none, 0⟩, ⟨some 69, (.load 22 (.t 68)), 22, none, 0⟩, ⟨some 70, (.mv (.t 4)), 3, none, 0⟩, ⟨some 71, (.mv (.t 5)), 3, none, 0⟩, ⟨some 72, (.call (.f 38) [(.t 69), (.t 70), (.t 71)]), 4, none, 3⟩, ⟨some 73, (.bin .eql 4 (.t 67) (.t 72)), 4, none, 0⟩, ⟨some 2, (.mv (.t 73)), 4, none, 0⟩] (some [2]))
                .ret)))))))⟩
theorem fok_9 : FnOk Try.prog 9 fa_9 an_9 := ⟨Try.f9, _, Try.func9, rfl, by kernel_rfl, rfl, rfl, by decide, by kernel_rfl⟩
/-- laws.FnNotOf -/
def an_11 : Ann := ⟨[(3, 1, 3), (4, 2, 3), (5, 3, 3), (6, 3, 3), (7, 2, 3), (8, 3, 3), (8, 10, 3), (8, 15, 3)], [(0, [0]), (1, [0, 9]), (2, [2]), (3, [3, 4]), (4, [3, 4, 5]), (5, [3, 4, 5, 26]), (6, [2]), (7, [3, 4, 5, 6]), (8, [2])], [], []⟩
def fa_11 : FnA := ⟨65, [.t 2],
  (.seq
    (.region false [⟨some 2, (.mv (.c (.bool false))), 4, none, 0⟩] (some [0]))
    (.seq
      (.seq
        (.region false [⟨some 7, (.mv (.t 0)), 42, none, 0⟩, ⟨some 8, (.len 42 (.t 7)), 3, none, 0⟩, ⟨some 9, (.bin .gtr 3 (.t 8) (.c (.int .i64 1048576))), 4, none, 0⟩] (some [0, 9]))
        (.cond (.t 9)
          (.seq
            (.region false [⟨some 2, (.mv (.c (.bool true))), 4, none, 0⟩] (some [2]))
            .ret)
          .skip))
      (.seq
        (.region false [⟨some 11, (.mv (.t 0)), 42, none, 0⟩, ⟨some 12, (.call (.f 54) [(.t 11)]), 56, none, 3⟩, ⟨some 10, (.mv (.t 12)), 56, none, 0⟩, ⟨some 13, (.ext (.t 10) 0), 28, none, 0⟩, ⟨some 14, (.ext (.t 10) 1), 3, none, 0⟩, ⟨some 3, (.alloc 28), 0, none, 0⟩, ⟨none, (.store 28 (.t 3) (.t 13)), 0, none, 0⟩, ⟨some 4, (.mv (.t 14)), 3, none, 0⟩] (some [3, 4]))
        (.seq
          (.region false [⟨some 15, (.load 28 (.t 3)), 28, none, 0⟩, ⟨some 16, (.mv (.t 4)), 3, none, 0⟩, ⟨some 17, (.call (.f 55) [(.t 15), (.t 16)]), 3, none, 3⟩, ⟨some 5, (.mv (.t 17)), 3, none, 0⟩] (some [3, 4, 5]))
          (.seq
            (.seq
              (.region false (gops [⟨some 18, (.mv (.t 5)), 3, none, 0⟩, ⟨some 19, (.load 28 (.t 3)), 28, none, 0⟩, ⟨some 20, (.mv (.t 4)), 3, none, 0⟩, ⟨some 21, (.call (.f 56) [(.t 19), (.t 20)]), 3, none, 3⟩, ⟨some 22, (.bin .neq 3 (.t 18) (.t 21)), 4, none, 0⟩, ⟨some 23, (.mv (.t 22)), 4, none, 0⟩, ⟨some 24, (.mv (.t 5)), 3, some (23, false), 0⟩, ⟨some 25, (.bin .lss 3 (.t 24) (.c (.int .i64 0))), 4, some (23, false), 0⟩, ⟨some 26, (.pick (.t 23) (.c (.bool true)) (.t 25)), 4, none, 0⟩]) (some [3, 4, 5, 26]))
              (.cond (.t 26)
                (.seq
                  (.region false [⟨some 27, (.mv (.t 5)), 3, none, 0⟩, ⟨some 28, (.load 28 (.t 3)), 28, none, 0⟩, ⟨some 29, (.mv (.t 4)), 3, none, 0⟩, ⟨some 30, (.call (.f 56) [(.t 28), (.t 29)]), 3, none, 3⟩, ⟨some 31, (.bin .eql 3 (.t 27) (.t 30)), 4, none, 0⟩, ⟨some 2, (.mv (.t 31)), 4, none, 0⟩] (some [2]))
                  .ret)
                .skip))
            (.seq
              (.region false [⟨some 32, (.load 28 (.t 3)), 28, none, 0⟩, ⟨some 33, (.mv (.t 5)), 3, none, 0⟩, ⟨some 34, (.call (.f 55) [(.t 32), (.t 33)]), 3, none, 3⟩, ⟨some 6, (.mv (.t 34)), 3, none, 0⟩] (some [3, 4, 5, 6]))
              (.seq
                (.region false (gops (seg [3, 4, 5, 6, 40, 42, 43, 44] [⟨some 35, (.mv (.t 5)), 3, none, 0⟩, ⟨some 36, (.load 28 (.t 3)), 28, none, 0⟩, ⟨some 37, (.mv (.t 4)), 3, none, 0⟩, ⟨some 38, (.call (.f 49) [(.t 36), (.t 37), (.c (.int .i64 0))]), 3, none, 3⟩, ⟨some 39, (.bin .eql 3 (.t 35) (.t 38)), 4, none, 0⟩, ⟨some 40, (.mv (.t 39)), 4, none, 0⟩, ⟨some 41, (.faddr 28 (.t 3) 0), 0, some (40, true), 0⟩, ⟨some 42, (.load 22 (.t 41)), 22, some (40, true), 0⟩, ⟨some 43, (.mv (.t 4)), 3, some (40, true), 0⟩, ⟨some 44, (.mv (.t 6)), 3, some (40, true), 0⟩]
                (seg [3, 4, 5, 54] [⟨some 45, (.call (.f 38) [(.t 42), (.t 43), (.t 44)]), 4, some (40, true), 3⟩, ⟨some 46, (.pick (.t 40) (.t 45) (.c (.bool false))), 4, none, 0⟩, ⟨some 47, (.mv (.t 46)), 4, none, 0⟩, ⟨some 48, (.load 28 (.t 3)), 28, some (47, true), 0⟩, ⟨some 49, (.mv (.t 6)), 3, some (47, true), 0⟩, ⟨some 50, (.call (.f 55) [(.t 48), (.t 49)]), 3, some (47, true), 3⟩, ⟨some 51, (.mv (.t 5)), 3, some (47, true), 0⟩, ⟨some 52, (.bin .eql 3 (.t 50) (.t 51)), 4, some (47, true), 0⟩, ⟨some 53, (.pick (.t 47) (.t 52) (.c (.bool false))), 4, none, 0⟩, ⟨some 54, (.mv (.t 53)), 4, none, 0⟩]
                [⟨some 55, (.faddr 28 (.t 3) 1), 0, some (54, true), 0⟩, ⟨some 56, (.load 23 (.t 55)), 23, some (54, true), 0⟩, ⟨some 57, (.mv (.t 4)), 3, some (54, true), 0⟩, ⟨some 58, (.iaddr 23 (.t 56) (.t 57)), 0, some (54, true), 0⟩, ⟨some 59, (.load 22 (.t 58)), 22, some (54, true), 0⟩, ⟨some 60, (.mv (.t 5)), 3, some (54, true), 0⟩, ⟨some 61, (.iaddr 22 (.t 59) (.t 60)), 0, some (54, true), 0⟩, ⟨some 62, (.load 3 (.t 61)), 3, some (54, true), 0⟩, ⟨some 63, (.bin .eql 3 (.t 62) (.c (.int .i64 0))), 4, some (54, true), 0⟩, ⟨some 64, (.pick (.t 54) (.t 63) (.c (.bool false))), 4, none, 0⟩, ⟨some 2, (.mv (.t 64)), 4, none, 0⟩] [2] (by decide)) [2] (by decide))) (some [2]))
                .ret)))))))⟩
theorem fok_11 : FnOk Try.prog 11 fa_11 an_11 := ⟨Try.f11, _, Try.func11, rfl, by kernel_rfl, rfl, rfl, by decide, by kernel_rfl⟩
/-- laws.FnNearOf -/
def an_10 : Ann := ⟨[(3, 1, 3), (4, 3, 3), (5, 4, 3), (6, 4, 3), (10, 10, 3), (10, 16, 3), (10, 17, 3), (12, 3, 3)], [(0, [0]), (1, [0, 10]), (2, [2]), (3, [3, 4, 5]), (4, [3, 4, 5, 6]), (5, [3, 4, 5, 6, 30]), (6, [2]), (7, [3, 4, 5, 6, 7]), (8, [3, 4, 5, 6, 7, 41]), (10, [3, 4, 5, 6, 7, 62]), (11, [2]), (9, [3, 4, 5, 6, 7]), (12, [2])], [(8, [3, 4, 5, 6, 7], [24])], []⟩
def lb_10_8 : AC :=
  (.seq
    (.seq
      (.region false [⟨some 37, (.mv (.t 7)), 3, none, 0⟩, ⟨some 38, (.faddr 28 (.t 3) 0), 0, none, 0⟩, ⟨some 39, (.load 22 (.t 38)), 22, none, 0⟩, ⟨some 40, (.len 22 (.t 39)), 3, none, 0⟩, ⟨some 41, (.bin .lss 3 (.t 37) (.t 40)), 4, none, 0⟩] (some [3, 4, 5, 6, 7, 41]))
      (.cond (.t 41)
        .skip
        (.exit 0)))
    (.seq
      (.block 1
        (.seq
          (.region true (seg [3, 4, 5, 6, 7, 45, 50, 51, 52, 53] [⟨some 44, (.faddr 28 (.t 3) 0), 0, none, 0⟩, ⟨some 45, (.load 22 (.t 44)), 22, none, 0⟩, ⟨some 46, (.faddr 28 (.t 3) 1), 0, none, 0⟩, ⟨some 47, (.load 23 (.t 46)), 23, none, 0⟩, ⟨some 48, (.mv (.t 6)), 3, none, 0⟩, ⟨some 49, (.iaddr 23 (.t 47) (.t 48)), 0, none, 0⟩, ⟨some 50, (.load 22 (.t 49)), 22, none, 0⟩, ⟨some 51, (.load 28 (.t 3)), 28, none, 0⟩, ⟨some 52, (.mv (.t 5)), 3, none, 0⟩, ⟨some 53, (.mv (.t 7)), 3, none, 0⟩]
          [⟨some 54, (.call (.f 52) [(.t 51), (.t 52), (.t 53)]), 3, none, 3⟩, ⟨some 55, (.iaddr 22 (.t 50) (.t 54)), 0, none, 0⟩, ⟨some 56, (.load 3 (.t 55)), 3, none, 0⟩, ⟨some 57, (.load 28 (.t 3)), 28, none, 0⟩, ⟨some 58, (.mv (.t 4)), 3, none, 0⟩, ⟨some 59, (.mv (.t 7)), 3, none, 0⟩, ⟨some 60, (.call (.f 52) [(.t 57), (.t 58), (.t 59)]), 3, none, 3⟩, ⟨some 61, (.call (.f 38) [(.t 45), (.t 56), (.t 60)]), 4, none, 3⟩, ⟨some 62, (.un .not (.t 61)), 4, none, 0⟩] [3, 4, 5, 6, 7, 62] (by decide)) (some [3, 4, 5, 6, 7, 62]))
          (.cond (.t 62)
            (.seq
              (.region false [⟨some 2, (.mv (.c (.bool false))), 4, none, 0⟩] (some [2]))
              .ret)
            .skip)))
      (.region false [⟨some 42, (.mv (.t 7)), 3, none, 0⟩, ⟨some 43, (.bin .add 3 (.t 42) (.c (.int .i64 1))), 3, none, 0⟩, ⟨some 7, (.mv (.t 43)), 3, none, 0⟩] (some [3, 4, 5, 6, 7]))))
def fa_10 : FnA := ⟨81, [.t 2],
  (.seq
    (.region false [⟨some 2, (.mv (.c (.bool false))), 4, none, 0⟩] (some [0]))
    (.seq
      (.seq
        (.region false [⟨some 8, (.mv (.t 0)), 42, none, 0⟩, ⟨some 9, (.len 42 (.t 8)), 3, none, 0⟩, ⟨some 10, (.bin .gtr 3 (.t 9) (.c (.int .i64 1048576))), 4, none, 0⟩] (some [0, 10]))
        (.cond (.t 10)
          (.seq
            (.region false [⟨some 2, (.mv (.c (.bool true))), 4, none, 0⟩] (some [2]))
            .ret)
          .skip))
      (.seq
        (.region false [⟨some 12, (.mv (.t 0)), 42, none, 0⟩, ⟨some 13, (.call (.f 51) [(.t 12)]), 53, none, 3⟩, ⟨some 11, (.mv (.t 13)), 53, none, 0⟩, ⟨some 14, (.ext (.t 11) 0), 28, none, 0⟩, ⟨some 15, (.ext (.t 11) 1), 3, none, 0⟩, ⟨some 16, (.ext (.t 11) 2), 3, none, 0⟩, ⟨some 3, (.alloc 28), 0, none, 0⟩, ⟨none, (.store 28 (.t 3) (.t 14)), 0, none, 0⟩, ⟨some 4, (.mv (.t 15)), 3, none, 0⟩, ⟨some 5, (.mv (.t 16)), 3, none, 0⟩] (some [3, 4, 5]))
        (.seq
          (.region false [⟨some 17, (.load 28 (.t 3)), 28, none, 0⟩, ⟨some 18, (.mv (.t 4)), 3, none, 0⟩, ⟨some 19, (.mv (.t 5)), 3, none, 0⟩, ⟨some 20, (.call (.f 52) [(.t 17), (.t 18), (.t 19)]), 3, none, 3⟩, ⟨some 6, (.mv (.t 20)), 3, none, 0⟩] (some [3, 4, 5, 6]))
          (.seq
            (.seq
              (.region false (gops [⟨some 21, (.mv (.t 6)), 3, none, 0⟩, ⟨some 22, (.load 28 (.t 3)), 28, none, 0⟩, ⟨some 23, (.mv (.t 4)), 3, none, 0⟩, ⟨some 24, (.mv (.t 5)), 3, none, 0⟩, ⟨some 25, (.call (.f 53) [(.t 22), (.t 23), (.t 24)]), 3, none, 3⟩, ⟨some 26, (.bin .neq 3 (.t 21) (.t 25)), 4, none, 0⟩, ⟨some 27, (.mv (.t 26)), 4, none, 0⟩, ⟨some 28, (.mv (.t 6)), 3, some (27, false), 0⟩, ⟨some 29, (.bin .lss 3 (.t 28) (.c (.int .i64 0))), 4, some (27, false), 0⟩, ⟨some 30, (.pick (.t 27) (.c (.bool true)) (.t 29)), 4, none, 0⟩]) (some [3, 4, 5, 6, 30]))
              (.cond (.t 30)
                (.seq
                  (.region false [⟨some 31, (.mv (.t 6)), 3, none, 0⟩, ⟨some 32, (.load 28 (.t 3)), 28, none, 0⟩, ⟨some 33, (.mv (.t 4)), 3, none, 0⟩, ⟨some 34, (.mv (.t 5)), 3, none, 0⟩, ⟨some 35, (.call (.f 53) [(.t 32), (.t 33), (.t 34)]), 3, none, 3⟩, ⟨some 36, (.bin .eql 3 (.t 31) (.t 35)), 4, none, 0⟩, ⟨some 2, (.mv (.t 36)), 4, none, 0⟩] (some [2]))
                  .ret)
                .skip))
            (.seq
              (.seq
                (.region false [⟨some 7, (.mv (.c (.int .i64 0))), 3, none, 0⟩] (some [3, 4, 5, 6, 7]))
                (.block 0
                  (.loop [3, 4, 5, 6, 7] [24] lb_10_8)))
              (.seq
                (.region false (gops (seg [4, 5, 69, 70, 72] [⟨some 63, (.load 28 (.t 3)), 28, none, 0⟩, ⟨some 64, (.mv (.t 5)), 3, none, 0⟩, ⟨some 65, (.mv (.t 4)), 3, none, 0⟩, ⟨some 66, (.call (.f 52) [(.t 63), (.t 64), (.t 65)]), 3, none, 3⟩, ⟨some 67, (.mv (.t 6)), 3, none, 0⟩, ⟨some 68, (.bin .eql 3 (.t 66) (.t 67)), 4, none, 0⟩, ⟨some 69, (.mv (.t 68)), 4, none, 0⟩, ⟨some 70, (.mv (.t 6)), 3, some (69, true), 0⟩, ⟨some 71, (.faddr 28 (.t 3) 0), 0, some (69, true), 0⟩, ⟨some 72, (.load 22 (.t 71)), 22, some (69, true), 0⟩]
                [⟨some 73, (.len 22 (.t 72)), 3, some (69, true), 0⟩, ⟨some 74, (.bin .sub 3 (.t 73) (.c (.int .i64 1))), 3, some (69, true), 0⟩, ⟨some 75, (.bin .eql 3 (.t 70) (.t 74)), 4, some (69, true), 0⟩, ⟨some 76, (.mv (.t 4)), 3, some (69, true), 0⟩, ⟨some 77, (.mv (.t 5)), 3, some (69, true), 0⟩, ⟨some 78, (.bin .eql 3 (.t 76) (.t 77)), 4, some (69, true), 0⟩, ⟨some 79, (.bin .eql 4 (.t 75) (.t 78)), 4, some (69, true), 0⟩, ⟨some 80, (.pick (.t 69) (.t 79) (.c (.bool false))), 4, none, 0⟩, ⟨some 2, (.mv (.t 80)), 4, none, 0⟩] [2] (by decide))) (some [2]))
                .ret)))))))⟩
theorem fok_10 : FnOk Try.prog 10 fa_10 an_10 := ⟨Try.f10, _, Try.func10, rfl, by kernel_rfl, rfl, rfl, by decide, by kernel_rfl⟩
/-- laws.FnPowerOf -/
def an_8 : Ann := ⟨[(3, 1, 3), (4, 3, 3), (5, 4, 3), (6, 4, 3), (7, 2, 3), (7, 11, 3), (7, 23, 3), (7, 45, 3)], [(0, [0]), (1, [0, 9]), (2, [2]), (3, [3, 4, 5]), (4, [3, 4, 5, 6]), (5, [3, 4, 5, 6, 29]), (6, [2]), (7, [2])], [], []⟩
def fa_8 : FnA := ⟨85, [.t 2],
  (.seq
    (.region false [⟨some 2, (.mv (.c (.bool false))), 4, none, 0⟩] (some [0]))
    (.seq
      (.seq
        (.region false [⟨some 7, (.mv (.t 0)), 42, none, 0⟩, ⟨some 8, (.len 42 (.t 7)), 3, none, 0⟩, ⟨some 9, (.bin .gtr 3 (.t 8) (.c (.int .i64 1048576))), 4, none, 0⟩] (some [0, 9]))
        (.cond (.t 9)
          (.seq
            (.region false [⟨some 2, (.mv (.c (.bool true))), 4, none, 0⟩] (some [2]))
            .ret)
          .skip))
      (.seq
        (.region false [⟨some 11, (.mv (.t 0)), 42, none, 0⟩, ⟨some 12, (.call (.f 45) [(.t 11)]), 53, none, 3⟩, ⟨some 10, (.mv (.t 12)), 53, none, 0⟩, ⟨some 13, (.ext (.t 10) 0), 28, none, 0⟩, ⟨some 14, (.ext (.t 10) 1), 3, none, 0⟩, ⟨some 15, (.ext (.t 10) 2), 3, none, 0⟩, ⟨some 3, (.alloc 28), 0, none, 0⟩, ⟨none, (.store 28 (.t 3) (.t 13)), 0, none, 0⟩, ⟨some 4, (.mv (.t 14)), 3, none, 0⟩, ⟨some 5, (.mv (.t 15)), 3, none, 0⟩] (some [3, 4, 5]))
        (.seq
          (.region false [⟨some 16, (.load 28 (.t 3)), 28, none, 0⟩, ⟨some 17, (.mv (.t 4)), 3, none, 0⟩, ⟨some 18, (.mv (.t 5)), 3, none, 0⟩, ⟨some 19, (.call (.f 46) [(.t 16), (.t 17), (.t 18)]), 3, none, 3⟩, ⟨some 6, (.mv (.t 19)), 3, none, 0⟩] (some [3, 4, 5, 6]))
          (.seq
            (.seq
              (.region false (gops [⟨some 20, (.mv (.t 6)), 3, none, 0⟩, ⟨some 21, (.load 28 (.t 3)), 28, none, 0⟩, ⟨some 22, (.mv (.t 4)), 3, none, 0⟩, ⟨some 23, (.mv (.t 5)), 3, none, 0⟩, ⟨some 24, (.call (.f 47) [(.t 21), (.t 22), (.t 23)]), 3, none, 3⟩, ⟨some 25, (.bin .neq 3 (.t 20) (.t 24)), 4, none, 0⟩, ⟨some 26, (.mv (.t 25)), 4, none, 0⟩, ⟨some 27, (.mv (.t 6)), 3, some (26, false), 0⟩, ⟨some 28, (.bin .lss 3 (.t 27) (.c (.int .i64 0))), 4, some (26, false), 0⟩, ⟨some 29, (.pick (.t 26) (.c (.bool true)) (.t 28)), 4, none, 0⟩]) (some [3, 4, 5, 6, 29]))
              (.cond (.t 29)
                (.seq
                  (.region false [⟨some 30, (.mv (.t 6)), 3, none, 0⟩, ⟨some 31, (.load 28 (.t 3)), 28, none, 0⟩, ⟨some 32, (.mv (.t 4)), 3, none, 0⟩, ⟨some 33, (.mv (.t 5)), 3, none, 0⟩, ⟨some 34, (.call (.f 47) [(.t 31), (.t 32), (.t 33)]), 3, none, 3⟩, ⟨some 35, (.bin .eql 3 (.t 30) (.t 34)), 4, none, 0⟩, ⟨some 2, (.mv (.t 35)), 4, none, 0⟩] (some [2]))
                  .ret)
                .skip))
            (.seq
              (.region true (gops (seg [3, 4, 5, 6, 44, 45] [⟨some 36, (.load 28 (.t 3)), 28, none, 0⟩, ⟨some 37, (.mv (.t 4)), 3, none, 0⟩, ⟨some 38, (.call (.f 46) [(.t 36), (.t 37), (.c (.int .i64 0))]), 3, none, 3⟩, ⟨some 39, (.faddr 28 (.t 3) 0), 0, none, 0⟩, ⟨some 40, (.load 22 (.t 39)), 22, none, 0⟩, ⟨some 41, (.len 22 (.t 40)), 3, none, 0⟩, ⟨some 42, (.bin .sub 3 (.t 41) (.c (.int .i64 1))), 3, none, 0⟩, ⟨some 43, (.bin .eql 3 (.t 38) (.t 42)), 4, none, 0⟩, ⟨some 44, (.mv (.t 43)), 4, none, 0⟩, ⟨some 45, (.load 28 (.t 3)), 28, some (44, true), 0⟩]
              (seg [3, 4, 5, 6, 51, 54, 55] [⟨some 46, (.mv (.t 4)), 3, some (44, true), 0⟩, ⟨some 47, (.call (.f 46) [(.t 45), (.t 46), (.c (.int .i64 1))]), 3, some (44, true), 3⟩, ⟨some 48, (.mv (.t 4)), 3, some (44, true), 0⟩, ⟨some 49, (.bin .eql 3 (.t 47) (.t 48)), 4, some (44, true), 0⟩, ⟨some 50, (.pick (.t 44) (.t 49) (.c (.bool false))), 4, none, 0⟩, ⟨some 51, (.mv (.t 50)), 4, none, 0⟩, ⟨some 52, (.mv (.t 5)), 3, some (51, true), 0⟩, ⟨some 53, (.bin .eql 3 (.t 52) (.c (.int .i64 20))), 4, some (51, true), 0⟩, ⟨some 54, (.mv (.t 53)), 4, some (51, true), 0⟩, ⟨some 55, (.load 28 (.t 3)), 28, some (54, false), 0⟩]
              (seg [3, 4, 6, 51, 54, 59, 64, 65] [⟨some 56, (.mv (.t 4)), 3, some (54, false), 0⟩, ⟨some 57, (.mv (.t 5)), 3, some (54, false), 0⟩, ⟨some 58, (.bin .add 3 (.t 57) (.c (.int .i64 1))), 3, some (54, false), 0⟩, ⟨some 59, (.call (.f 46) [(.t 55), (.t 56), (.t 58)]), 3, some (54, false), 3⟩, ⟨some 60, (.faddr 28 (.t 3) 1), 0, some (54, false), 0⟩, ⟨some 61, (.load 23 (.t 60)), 23, some (54, false), 0⟩, ⟨some 62, (.mv (.t 6)), 3, some (54, false), 0⟩, ⟨some 63, (.iaddr 23 (.t 61) (.t 62)), 0, some (54, false), 0⟩, ⟨some 64, (.load 22 (.t 63)), 22, some (54, false), 0⟩, ⟨some 65, (.mv (.t 4)), 3, some (54, false), 0⟩]
              (seg [4, 6, 51, 54, 69, 71, 75] [⟨some 66, (.iaddr 22 (.t 64) (.t 65)), 0, some (54, false), 0⟩, ⟨some 67, (.load 3 (.t 66)), 3, some (54, false), 0⟩, ⟨some 68, (.bin .eql 3 (.t 59) (.t 67)), 4, some (54, false), 0⟩, ⟨some 69, (.mv (.t 68)), 4, some (54, false), 0⟩, ⟨some 70, (.faddr 28 (.t 3) 0), 0, some (69, true), 0⟩, ⟨some 71, (.load 22 (.t 70)), 22, some (69, true), 0⟩, ⟨some 72, (.faddr 28 (.t 3) 1), 0, some (69, true), 0⟩, ⟨some 73, (.load 23 (.t 72)), 23, some (69, true), 0⟩, ⟨some 74, (.mv (.t 6)), 3, some (69, true), 0⟩, ⟨some 75, (.iaddr 23 (.t 73) (.t 74)), 0, some (69, true), 0⟩]
              [⟨some 76, (.load 22 (.t 75)), 22, some (69, true), 0⟩, ⟨some 77, (.mv (.t 4)), 3, some (69, true), 0⟩, ⟨some 78, (.iaddr 22 (.t 76) (.t 77)), 0, some (69, true), 0⟩, ⟨some 79, (.load 3 (.t 78)), 3, some (69, true), 0⟩, ⟨some 80, (.mv (.t 6)), 3, some (69, true), 0⟩, ⟨some 81, (.call (.f 38) [(.t 71), (.t 79), (.t 80)]), 4, some (69, true), 3⟩, ⟨some 82, (.pick (.t 69) (.t 81) (.c (.bool false))), 4, some (54, false), 0⟩, ⟨some 83, (.pick (.t 54) (.c (.bool true)) (.t 82)), 4, some (51, true), 0⟩, ⟨some 84, (.pick (.t 51) (.t 83) (.c (.bool false))), 4, none, 0⟩, ⟨some 2, (.mv (.t 84)), 4, none, 0⟩] [2] (by decide)) [2] (by decide)) [2] (by decide)) [2] (by decide))) (some [2]))
              .ret))))))⟩
theorem fok_8 : FnOk Try.prog 8 fa_8 an_8 := ⟨Try.f8, _, Try.func8, rfl, by kernel_rfl, rfl, rfl, by decide, by kernel_rfl⟩
end Go.PS
end

section
-- Contracts: some algebra; a new reader, in place.
set_option maxRecDepth 100000
set_option linter.unusedVariables false
set_option linter.unusedSimpArgs false
namespace Go.PS
open Go.Proofs

/-- Some algebra, and how many numbers have been drawn. -/
def saM (b : List Int) (p : Nat) : Alg × Nat := bnM b (gaM b p).2 (gaM b p).1.1 (gaM b p).1.2
/-- Of few elements. -/
structure Few (a : Alg) : Prop where
  u : a.1.length ≤ 7
  t : a.2.length ≤ 6
  r : ∀ x ∈ a.2, x.length ≤ 6
theorem Few.big {a : Alg} (g : Few a) : Big a.1.length := by unfold Big; have := g.u; omega
theorem Few.bigR {a : Alg} (g : Few a) : BigR a.2 := ⟨by unfold Big; have := g.t; omega, fun x hx => by unfold Big; have := g.r x hx; omega⟩
theorem GA.few {a : Alg} (g : GA a) : Few a := by
  refine ⟨by have := g.six; omega, by rw [g.sq.len]; exact g.six, fun x hx => ?_⟩
  obtain ⟨i, hi, rfl⟩ := List.mem_iff_getElem.1 hx
  have := g.sq.rows i (by rw [← g.sq.len]; exact hi)
  simp [gr, List.getElem?_eq_getElem hi] at this
  have := g.six
  omega
theorem few_set {u : List Int} {t : List (List Int)} {k : Nat} {r : List Int} (g : Few (u, t)) (hr : r.length ≤ 6) : Few (u, t.set k r) :=
  ⟨g.u, by simpa using g.t, fun x hx => by
    rcases List.mem_or_eq_of_mem_set hx with h | h
    · exact g.r x h
    · rw [h]; exact hr⟩
theorem bnM_few {b : List Int} {p : Nat} {u : List Int} {t : List (List Int)} (g : GA (u, t)) : Few (bnM b p u t).1 ∧ (bnM b p u t).2 ≤ p + 5 := by
  have f := g.few
  have hrow : ∀ k, (gr t k).length ≤ 6 := fun k => by
    by_cases h : k < t.length
    · exact f.r _ (gr_mem h)
    · simp [gr, List.getElem?_eq_none (Nat.le_of_not_lt h)]
  unfold bnM
  split
  · exact ⟨f, by show p + 1 ≤ p + 5; omega⟩
  · dsimp only
    split
    · exact ⟨few_set f (by rw [List.length_set]; exact hrow _), Nat.le_refl _⟩
    · split
      · exact ⟨⟨by have := f.u; simpa using this, f.t, f.r⟩, by show p + 4 ≤ p + 5; omega⟩
      · split
        · exact ⟨⟨f.u, by have := f.t; simp at this ⊢; omega, fun x hx => f.r x (List.mem_of_mem_tail hx)⟩, by show p + 3 ≤ p + 5; omega⟩
        · split
          · exact ⟨few_set f (by have := hrow (pkM b (p + 1) u.length).toNat; simp; omega), by show p + 3 ≤ p + 5; omega⟩
          · exact ⟨⟨by have := g.six; simp at this ⊢; omega, f.t, f.r⟩, by show p + 3 ≤ p + 5; omega⟩
theorem saM_few {b : List Int} (hb : BB b) {p : Nat} (hp : p ≤ 960000) : Few (saM b p).1 ∧ (saM b p).2 ≤ p + 15 := by
  obtain ⟨g, q⟩ := gaM_ga hb (p := p) (by omega)
  have h := bnM_few (b := b) (p := (gaM b p).2) (u := (gaM b p).1.1) (t := (gaM b p).1.2) g
  exact ⟨h.1, by have := h.2; unfold saM; omega⟩

theorem someAlg_pc (b : List Int) (p : Nat) (hb : BB b) (hp : p ≤ 1000000) (hp2 : p ≤ 960000) : PC Try.prog 106 (.ptr 0 0 0 :: []) (some (RS b p)) false (fun r c => imm 5 r = imm 5 (AL (saM b p).1.1 (saM b p).1.2) ∧ c = (RS b ((saM b p).2))) := by
  obtain ⟨g, q⟩ := gaM_ga hb (p := p) (by omega)
  have l1 := fw_goodAlg_look b p hb (by omega) (by omega)
  have l2 := fw_bent_look b (gaM b p).2 (gaM b p).1.1 (gaM b p).1.2 hb (by omega) (by omega) g
  unfold saM
  generalize gaM b p = A at *
  obtain ⟨⟨u, t⟩, p1⟩ := A
  dsimp only at *
  generalize bnM b p1 u t = B at *
  obtain ⟨⟨u2, t2⟩, p2⟩ := B
  dsimp only at *
  refine pcW [] [fw_goodAlg, fw_bent] fok_106 ?_
  simp [fa_106, callOW, hb, hp, l1, l2]
noncomputable def fw_someAlg : FamW Try.prog := mkFamW (X := List Int × Nat) 106 (fun (b, p) => (.ptr 0 0 0 :: [])) (fun (b, p) => (RS b p)) (fun (b, p) => (BB b) ∧ (p ≤ 1000000) ∧ (p ≤ 960000)) (fun (b, p) => AL (saM b p).1.1 (saM b p).1.2) (fun (b, p) => (RS b ((saM b p).2))) (by
  rintro ⟨b, p⟩ ⟨hb, hp, hp2⟩
  exact someAlg_pc b p hb hp hp2)
@[simp] theorem fw_someAlg_id : fw_someAlg.id = 106 := rfl
@[simp] theorem fw_someAlg_look (b : List Int) (p : Nat) (hb : BB b) (hp : p ≤ 1000000) (hp2 : p ≤ 960000) : fw_someAlg.look (.ptr 0 0 0 :: []) (RS b p) = some (AL (saM b p).1.1 (saM b p).1.2, (RS b ((saM b p).2))) :=
  lookG_of (X := List Int × Nat) (args := fun (b, p) => (.ptr 0 0 0 :: [])) (cell := fun (b, p) => (RS b p)) (pre := fun (b, p) => (BB b) ∧ (p ≤ 1000000) ∧ (p ≤ 960000)) (val := fun (b, p) => AL (saM b p).1.1 (saM b p).1.2) (cell' := fun (b, p) => (RS b ((saM b p).2))) (by
  rintro ⟨b, p⟩ ⟨b', p'⟩ h h2
  simp at h h2
  try simp only [and_assoc] at h
  obtain ⟨rfl, rfl⟩ := h2
  exact ⟨rfl, rfl⟩) (b, p) ⟨hb, hp, hp2⟩
attribute [irreducible] fw_someAlg

/-- What a reader reads. -/
def rdB (code : List Int) : List Int := code.take 2000
def Byt (code : List Int) : Prop := ∀ x ∈ code, 0 ≤ x ∧ x ≤ 255
theorem rdB_ok {code : List Int} (h : Byt code) : BB (rdB code) := ⟨by simp [rdB]; omega, fun x hx => h x (List.mem_of_mem_take hx)⟩
def inlR (id : Nat) : Option FnA := if id = 107 then some fa_107 else none
theorem inlR_ok (id : Nat) (fa : FnA) (h : inlR id = some fa) : ∃ A, FnOk Try.prog id fa A := by
  unfold inlR at h
  split at h
  · rename_i e; injection h with h; subst h; exact ⟨_, e ▸ fok_107⟩
  · cases h
theorem pcR (T : List (Fam Try.prog)) (TW : List (FamW Try.prog)) {f : Nat} {fa : FnA} {A : Ann} (hf : FnOk Try.prog f fa A) {ds : List D} {fresh : Bool} {R : D → List D → Prop}
    (h : run (CI inlR) 0 (inlW (CI inlR) T TW 1 0) fa.ac (retQ (CI inlR).tt fresh fa.res R false) ⟨args0 0 ds, [], 1⟩) : PC Try.prog f ds none fresh R :=
  pc_of_run (C := CI inlR) (kb := 0) (io := none) hty0 Try.checked.mixed (inlW_ok (C := CI inlR) hty0 Try.checked.mixed (by intro f fa h; exact inlR_ok f fa h) T TW 1 0) hf h
section
variable {T : List (Fam Try.prog)} {TW : List (FamW Try.prog)} {n kb kb' id : Nat} {caps args : List D} {σ : St} {d : Option Nat} {ops : List AOper} {Q : St → Prop}
theorem callOWR (hn : (id == 107) = false) (hw : (findW id TW).isSome = true) : callO (CI inlR) kb' (inlW (CI inlR) T TW n kb) d 16 (.fn id caps) args σ ops Q = tabW2 (findW id TW) (args ++ caps) σ.h (fun v h => opsK (CI inlR) kb' (inlW (CI inlR) T TW n kb) ops ⟨put σ.t d (imm 5 v), h, σ.g⟩ Q) :=
  callO16W' (by show inlR id = none; unfold inlR; rw [if_neg (by simpa using hn)]) hw
theorem callDOWR (hn : (id == 107) = false) (hw : (findW id TW).isSome = true) : callDO (CI inlR) kb' (inlW (CI inlR) T TW n kb) d 16 (.fn id caps) args σ ops Q = tabW2 (findW id TW) (args ++ caps) σ.h (fun v h => opsKc (CI inlR) kb' (inlW (CI inlR) T TW n kb) ops ⟨put σ.t d (imm 5 v), h, σ.g⟩ Q) :=
  callDO16W' (by show inlR id = none; unfold inlR; rw [if_neg (by simpa using hn)]) hw
theorem callOTR (hn : (id == 107) = false) (hw : (findW id TW).isNone = true) : callO (CI inlR) kb' (inlW (CI inlR) T TW n kb) d 3 (.fn id caps) args σ ops Q = tab2 (findF id T) (args ++ caps) σ.h (fun v => opsK (CI inlR) kb' (inlW (CI inlR) T TW n kb) ops ⟨put σ.t d (imm 5 v), σ.h, σ.g⟩ Q) :=
  callO3W' (by show inlR id = none; unfold inlR; rw [if_neg (by simpa using hn)]) hw
theorem callON : callO (CI inlR) kb' (inlW (CI inlR) T TW 1 kb) d 16 (.fn 107 caps) args σ ops Q =
    run (CI inlR) (kb + 4000) (inlW (CI inlR) T TW 0 (kb + 4000)) fa_107.ac (inlQ (CI inlR).tt fa_107.res (backK (CI inlR) kb' (inlW (CI inlR) T TW 1 kb) σ.t d ops Q)) ⟨args0 0 (args ++ caps), σ.h, σ.g⟩ := callO16I (by rfl)
end

/-- A new reader. -/
theorem newR {T : List (Fam Try.prog)} {TW : List (FamW Try.prog)} {σ : St} {d : Option Nat} {ops : List AOper} {Q : St → Prop} {c : List Int} (hl : c.length ≤ 1099511627776)
    (h : opsK (CI inlR) 0 (inlW (CI inlR) T TW 1 0) ops ⟨put σ.t d (.ptr 4080 σ.g 0), ⟨4080, σ.g, .cells (RS (rdB c) 0)⟩ :: hdel σ.h 4080, σ.g + 1⟩ Q) :
    callO (CI inlR) 0 (inlW (CI inlR) T TW 1 0) d 16 (.fn 107 []) [BL c] σ ops Q := by
  rw [callON]
  rcases Nat.lt_or_ge 2000 c.length with q | q
  · simp [fa_107, show ((2000 : Int) < c.length) by omega, show ((2000 : Int) ≤ c.length) by omega, show ¬ ((c.length : Int) ≤ 2000) by omega]
    exact h
  · have e : rdB c = c := by unfold rdB; exact List.take_of_length_le q
    rw [e] at h
    simp [fa_107, show ¬ ((2000 : Int) < c.length) by omega, show ((c.length : Int) ≤ 2000) by omega]
    exact h

theorem drVA_pc (c : List Int) (hc : Byt c) (hl : Big c.length) : PC Try.prog 35 [BL c] none false (fun r _ => r = AL (saM (rdB c) 0).1.1 (saM (rdB c) 0).1.2) := by
  have hl := hl.le
  have hb := rdB_ok hc
  have l1 := fw_someAlg_look (rdB c) 0 hb (by omega) (by omega)
  refine pcR [] [fw_someAlg] fok_35 ?_
  generalize saM (rdB c) 0 = A at *
  obtain ⟨⟨u, t⟩, p1⟩ := A
  dsimp only at *
  simp [fa_35]
  refine newR hl ?_
  simp [callOWR, l1]
noncomputable def fm_drVA : Fam Try.prog := mkFam (X := List Int) 35 false (fun c => [BL c]) (fun c => (Byt c) ∧ (Big c.length)) (fun c => AL (saM (rdB c) 0).1.1 (saM (rdB c) 0).1.2) (by
  rintro c ⟨hc, hl⟩
  exact drVA_pc c hc hl)
@[simp] theorem fm_drVA_id : fm_drVA.id = 35 := rfl
@[simp] theorem fm_drVA_fresh : fm_drVA.fresh = false := rfl
@[simp] theorem fm_drVA_look (c : List Int) (hc : Byt c) (hl : Big c.length) : fm_drVA.look [BL c] = some (AL (saM (rdB c) 0).1.1 (saM (rdB c) 0).1.2) :=
  lookF_of (X := List Int) (args := fun c => [BL c]) (pre := fun c => (Byt c) ∧ (Big c.length)) (val := fun c => AL (saM (rdB c) 0).1.1 (saM (rdB c) 0).1.2) (by
  intro c c' h
  simp at h
  subst h
  rfl) c ⟨hc, hl⟩
attribute [irreducible] fm_drVA
theorem drFixed_pc (c : List Int) (hc : Byt c) (hl : Big c.length) : PC Try.prog 61 [BL c] none false (fun r _ => r = AL (saM (rdB c) 0).1.1 (saM (rdB c) 0).1.2) := by
  have hl := hl.le
  have hb := rdB_ok hc
  have l1 := fw_someAlg_look (rdB c) 0 hb (by omega) (by omega)
  refine pcR [] [fw_someAlg] fok_61 ?_
  generalize saM (rdB c) 0 = A at *
  obtain ⟨⟨u, t⟩, p1⟩ := A
  dsimp only at *
  simp [fa_61]
  refine newR hl ?_
  simp [callOWR, l1]
noncomputable def fm_drFixed : Fam Try.prog := mkFam (X := List Int) 61 false (fun c => [BL c]) (fun c => (Byt c) ∧ (Big c.length)) (fun c => AL (saM (rdB c) 0).1.1 (saM (rdB c) 0).1.2) (by
  rintro c ⟨hc, hl⟩
  exact drFixed_pc c hc hl)
@[simp] theorem fm_drFixed_id : fm_drFixed.id = 61 := rfl
@[simp] theorem fm_drFixed_fresh : fm_drFixed.fresh = false := rfl
@[simp] theorem fm_drFixed_look (c : List Int) (hc : Byt c) (hl : Big c.length) : fm_drFixed.look [BL c] = some (AL (saM (rdB c) 0).1.1 (saM (rdB c) 0).1.2) :=
  lookF_of (X := List Int) (args := fun c => [BL c]) (pre := fun c => (Byt c) ∧ (Big c.length)) (val := fun c => AL (saM (rdB c) 0).1.1 (saM (rdB c) 0).1.2) (by
  intro c c' h
  simp at h
  subst h
  rfl) c ⟨hc, hl⟩
attribute [irreducible] fm_drFixed

end Go.PS
end

section
-- PRINTED by gen.py: clean texts of functions, and their tie to the program.
set_option maxRecDepth 100000
namespace Go.PS
open Go.Proofs
/-- spec.assignments -/
def an_159 : Ann := ⟨[(5, 0, 1), (12, 1, 1), (12, 10, 2), (13, 1, 2)], [(0, [0]), (1, [0, 3]), (2, [0, 3, 4]), (3, [0, 3, 4, 11]), (5, [0, 3, 4, 5]), (6, [0, 3, 4, 5, 6]), (7, [0, 3, 4, 5, 6, 18]), (9, [0, 3, 4, 5, 6, 7]), (10, [0, 3, 4, 5, 6, 7, 23]), (12, [0, 3, 4, 5, 6, 7]), (11, [0, 3, 4, 5, 6, 7]), (8, [0, 3, 4, 5, 6]), (13, [0, 3, 4]), (4, [0, 3, 4]), (14, [2])], [(3, [0, 3, 4], [112, 296]), (7, [0, 3, 4, 5, 6], [112, 296]), (10, [0, 3, 4, 5, 6, 7], [112, 296])], []⟩
def lb_159_10 : AC :=
  (.seq
    (.seq
      (.region false [⟨some 21, (.mv (.t 7)), 3, none, 0⟩, ⟨some 22, (.mv (.t 0)), 3, none, 0⟩, ⟨some 23, (.bin .lss 3 (.t 21) (.t 22)), 4, none, 0⟩] (some [0, 3, 4, 5, 6, 7, 23]))
      (.cond (.t 23)
        .skip
        (.exit 4)))
    (.seq
      (.block 5
        (.region false [⟨some 26, (.mv (.t 5)), 23, none, 0⟩, ⟨some 27, (.bslice 22 0 []), 22, none, 1⟩, ⟨some 28, (.mv (.t 3)), 23, none, 0⟩, ⟨some 29, (.mv (.t 6)), 3, none, 0⟩, ⟨some 30, (.iaddr 23 (.t 28) (.t 29)), 0, none, 0⟩, ⟨some 31, (.load 22 (.t 30)), 22, none, 0⟩, ⟨some 32, (.app 22 22 (.t 27) (.t 31)), 22, none, 0⟩, ⟨some 33, (.mv (.t 7)), 3, none, 0⟩, ⟨some 34, (.bslice 22 1 [(0, (.t 33))]), 22, none, 0⟩, ⟨some 35, (.app 22 22 (.t 32) (.t 34)), 22, none, 0⟩, ⟨some 36, (.bslice 23 1 [(0, (.t 35))]), 23, none, 2⟩, ⟨some 37, (.app 23 23 (.t 26) (.t 36)), 23, none, 0⟩, ⟨some 5, (.mv (.t 37)), 23, none, 0⟩] (some [0, 3, 4, 5, 6, 7])))
      (.region false [⟨some 24, (.mv (.t 7)), 3, none, 0⟩, ⟨some 25, (.bin .add 3 (.t 24) (.c (.int .i64 1))), 3, none, 0⟩, ⟨some 7, (.mv (.t 25)), 3, none, 0⟩] (some [0, 3, 4, 5, 6, 7]))))
def lb_159_7 : AC :=
  (.seq
    (.seq
      (.region false [⟨some 15, (.mv (.t 6)), 3, none, 0⟩, ⟨some 16, (.mv (.t 3)), 23, none, 0⟩, ⟨some 17, (.len 23 (.t 16)), 3, none, 0⟩, ⟨some 18, (.bin .lss 3 (.t 15) (.t 17)), 4, none, 0⟩] (some [0, 3, 4, 5, 6, 18]))
      (.cond (.t 18)
        .skip
        (.exit 2)))
    (.seq
      (.block 3
        (.seq
          (.region false [⟨some 7, (.mv (.c (.int .i64 0))), 3, none, 0⟩] (some [0, 3, 4, 5, 6, 7]))
          (.block 4
            (.loop [0, 3, 4, 5, 6, 7] [112, 296] lb_159_10))))
      (.region false [⟨some 19, (.mv (.t 6)), 3, none, 0⟩, ⟨some 20, (.bin .add 3 (.t 19) (.c (.int .i64 1))), 3, none, 0⟩, ⟨some 6, (.mv (.t 20)), 3, none, 0⟩] (some [0, 3, 4, 5, 6]))))
def lb_159_3 : AC :=
  (.seq
    (.seq
      (.region false [⟨some 10, (.mv (.t 4)), 3, none, 0⟩, ⟨some 11, (.bin .lss 3 (.t 10) (.c (.int .i64 3))), 4, none, 0⟩] (some [0, 3, 4, 11]))
      (.cond (.t 11)
        .skip
        (.exit 0)))
    (.seq
      (.block 1
        (.seq
          (.region false [⟨some 14, (.bslice 23 0 []), 23, none, 1⟩, ⟨some 5, (.mv (.t 14)), 23, none, 0⟩] (some [0, 3, 4, 5]))
          (.seq
            (.seq
              (.region false [⟨some 6, (.mv (.c (.int .i64 0))), 3, none, 0⟩] (some [0, 3, 4, 5, 6]))
              (.block 2
                (.loop [0, 3, 4, 5, 6] [112, 296] lb_159_7)))
            (.region false [⟨some 38, (.mv (.t 5)), 23, none, 0⟩, ⟨some 3, (.mv (.t 38)), 23, none, 2⟩] (some [0, 3, 4])))))
      (.region false [⟨some 12, (.mv (.t 4)), 3, none, 0⟩, ⟨some 13, (.bin .add 3 (.t 12) (.c (.int .i64 1))), 3, none, 0⟩, ⟨some 4, (.mv (.t 13)), 3, none, 0⟩] (some [0, 3, 4]))))
def fa_159 : FnA := ⟨40, [.t 2],
  (.seq
    (.region false [⟨some 2, (.mv (.c .nil)), 23, none, 0⟩] (some [0]))
    (.seq
      (.region false [⟨some 8, (.bslice 22 0 []), 22, none, 0⟩, ⟨some 9, (.bslice 23 1 [(0, (.t 8))]), 23, none, 0⟩, ⟨some 3, (.mv (.t 9)), 23, none, 0⟩] (some [0, 3]))
      (.seq
        (.seq
          (.region false [⟨some 4, (.mv (.c (.int .i64 0))), 3, none, 0⟩] (some [0, 3, 4]))
          (.block 0
            (.loop [0, 3, 4] [112, 296] lb_159_3)))
        (.seq
          (.region false [⟨some 39, (.mv (.t 3)), 23, none, 0⟩, ⟨some 2, (.mv (.t 39)), 23, none, 0⟩] (some [2]))
          .ret))))⟩
theorem fok_159 : FnOk Try.prog 159 fa_159 an_159 := ⟨Try.f159, _, Try.func159, rfl, by kernel_rfl, rfl, rfl, by decide, by kernel_rfl⟩
/-- spec.pow -/
def an_124 : Ann := ⟨[], [(0, [1, 2, 3]), (1, [1, 2, 3, 7]), (2, [1, 2, 3, 7, 13]), (4, [1, 2, 3, 7]), (3, [1, 2, 3, 7]), (5, [6])], [(2, [1, 2, 3, 7], [])], []⟩
def lb_124_2 : AC :=
  (.seq
    (.seq
      (.region false [⟨some 12, (.mv (.t 2)), 3, none, 0⟩, ⟨some 13, (.bin .gtr 3 (.t 12) (.c (.int .i64 0))), 4, none, 0⟩] (some [1, 2, 3, 7, 13]))
      (.cond (.t 13)
        .skip
        (.exit 0)))
    (.seq
      (.block 1
        (.region false [⟨some 16, (.faddr 28 (.t 3) 1), 0, none, 0⟩, ⟨some 17, (.load 23 (.t 16)), 23, none, 0⟩, ⟨some 18, (.mv (.t 7)), 3, none, 0⟩, ⟨some 19, (.iaddr 23 (.t 17) (.t 18)), 0, none, 0⟩, ⟨some 20, (.load 22 (.t 19)), 22, none, 0⟩, ⟨some 21, (.mv (.t 1)), 3, none, 0⟩, ⟨some 22, (.iaddr 22 (.t 20) (.t 21)), 0, none, 0⟩, ⟨some 23, (.load 3 (.t 22)), 3, none, 0⟩, ⟨some 7, (.mv (.t 23)), 3, none, 0⟩] (some [1, 2, 3, 7])))
      (.region false [⟨some 14, (.mv (.t 2)), 3, none, 0⟩, ⟨some 15, (.bin .sub 3 (.t 14) (.c (.int .i64 1))), 3, none, 0⟩, ⟨some 2, (.mv (.t 15)), 3, none, 0⟩] (some [1, 2, 3, 7]))))
def fa_124 : FnA := ⟨25, [.t 6],
  (.seq
    (.region false [⟨some 3, (.box 28 (.t 0)), 0, none, 0⟩, ⟨some 6, (.mv (.c (.int .i64 0))), 3, none, 0⟩] (some [1, 2, 3]))
    (.seq
      (.region false [⟨some 8, (.faddr 28 (.t 3) 0), 0, none, 0⟩, ⟨some 9, (.load 22 (.t 8)), 22, none, 0⟩, ⟨some 10, (.len 22 (.t 9)), 3, none, 0⟩, ⟨some 11, (.bin .sub 3 (.t 10) (.c (.int .i64 1))), 3, none, 0⟩, ⟨some 7, (.mv (.t 11)), 3, none, 0⟩] (some [1, 2, 3, 7]))
      (.seq
        (.block 0
          (.loop [1, 2, 3, 7] [] lb_124_2))
        (.seq
          (.region false [⟨some 24, (.mv (.t 7)), 3, none, 0⟩, ⟨some 6, (.mv (.t 24)), 3, none, 0⟩] (some [6]))
          .ret))))⟩
theorem fok_124 : FnOk Try.prog 124 fa_124 an_124 := ⟨Try.f124, _, Try.func124, rfl, by kernel_rfl, rfl, rfl, by decide, by kernel_rfl⟩
/-- impl.power -/
def an_122 : Ann := ⟨[], [(0, [1, 2, 3]), (1, [1, 2, 3, 7]), (2, [1, 2, 3, 7, 13]), (4, [1, 2, 3, 7]), (3, [1, 2, 3, 7]), (5, [6])], [(2, [1, 2, 3, 7], [])], []⟩
def lb_122_2 : AC :=
  (.seq
    (.seq
      (.region false [⟨some 12, (.mv (.t 2)), 3, none, 0⟩, ⟨some 13, (.bin .gtr 3 (.t 12) (.c (.int .i64 0))), 4, none, 0⟩] (some [1, 2, 3, 7, 13]))
      (.cond (.t 13)
        .skip
        (.exit 0)))
    (.seq
      (.block 1
        (.region false [⟨some 16, (.faddr 28 (.t 3) 1), 0, none, 0⟩, ⟨some 17, (.load 23 (.t 16)), 23, none, 0⟩, ⟨some 18, (.mv (.t 7)), 3, none, 0⟩, ⟨some 19, (.iaddr 23 (.t 17) (.t 18)), 0, none, 0⟩, ⟨some 20, (.load 22 (.t 19)), 22, none, 0⟩, ⟨some 21, (.mv (.t 1)), 3, none, 0⟩, ⟨some 22, (.iaddr 22 (.t 20) (.t 21)), 0, none, 0⟩, ⟨some 23, (.load 3 (.t 22)), 3, none, 0⟩, ⟨some 7, (.mv (.t 23)), 3, none, 0⟩] (some [1, 2, 3, 7])))
      (.region false [⟨some 14, (.mv (.t 2)), 3, none, 0⟩, ⟨some 15, (.bin .sub 3 (.t 14) (.c (.int .i64 1))), 3, none, 0⟩, ⟨some 2, (.mv (.t 15)), 3, none, 0⟩] (some [1, 2, 3, 7]))))
def fa_122 : FnA := ⟨25, [.t 6],
  (.seq
    (.region false [⟨some 3, (.box 28 (.t 0)), 0, none, 0⟩, ⟨some 6, (.mv (.c (.int .i64 0))), 3, none, 0⟩] (some [1, 2, 3]))
    (.seq
      (.region false [⟨some 8, (.faddr 28 (.t 3) 0), 0, none, 0⟩, ⟨some 9, (.load 22 (.t 8)), 22, none, 0⟩, ⟨some 10, (.len 22 (.t 9)), 3, none, 0⟩, ⟨some 11, (.bin .sub 3 (.t 10) (.c (.int .i64 1))), 3, none, 0⟩, ⟨some 7, (.mv (.t 11)), 3, none, 0⟩] (some [1, 2, 3, 7]))
      (.seq
        (.block 0
          (.loop [1, 2, 3, 7] [] lb_122_2))
        (.seq
          (.region false [⟨some 24, (.mv (.t 7)), 3, none, 0⟩, ⟨some 6, (.mv (.t 24)), 3, none, 0⟩] (some [6]))
          .ret))))⟩
theorem fok_122 : FnOk Try.prog 122 fa_122 an_122 := ⟨Try.f122, _, Try.func122, rfl, by kernel_rfl, rfl, rfl, by decide, by kernel_rfl⟩
/-- impl.eachList -/
def an_151 : Ann := ⟨[(1, 2, 16)], [(0, [0, 1, 4]), (1, [0, 1, 4]), (2, [0, 1, 4, 5]), (3, [0, 1, 4, 5, 27]), (4, [0, 1, 4, 5]), (5, [0, 1, 4, 5]), (6, [0, 1, 4, 5, 34]), (7, [0, 1, 4])], [(1, [0, 1, 4], [12160, 8064, 4064, 8, 16, 24, 32, 40, 48, 56, 64, 72, 80, 88, 96, 104, 112, 120, 128]), (3, [0, 1, 4, 5], [12160, 8064, 4064, 8, 16, 24, 32, 40, 48, 56, 64, 72, 80, 88, 96, 104, 112, 120, 128])], []⟩
def lb_151_3 : AC :=
  (.seq
    (.seq
      (.region true (gops [⟨some 15, (.mv (.t 5)), 3, none, 0⟩, ⟨some 16, (.bin .geq 3 (.t 15) (.c (.int .i64 0))), 4, none, 0⟩, ⟨some 17, (.mv (.t 16)), 4, none, 0⟩, ⟨some 18, (.mv (.t 4)), 22, some (17, true), 0⟩, ⟨some 19, (.mv (.t 5)), 3, some (17, true), 0⟩, ⟨some 20, (.iaddr 22 (.t 18) (.t 19)), 0, some (17, true), 0⟩, ⟨some 21, (.load 3 (.t 20)), 3, some (17, true), 0⟩, ⟨some 22, (.mv (.t 0)), 22, some (17, true), 0⟩, ⟨some 23, (.mv (.t 5)), 3, some (17, true), 0⟩, ⟨some 24, (.iaddr 22 (.t 22) (.t 23)), 0, some (17, true), 0⟩, ⟨some 25, (.load 3 (.t 24)), 3, some (17, true), 0⟩, ⟨some 26, (.bin .eql 3 (.t 21) (.t 25)), 4, some (17, true), 0⟩, ⟨some 27, (.pick (.t 17) (.t 26) (.c (.bool false))), 4, none, 0⟩]) (some [0, 1, 4, 5, 27]))
      (.cond (.t 27)
        .skip
        (.exit 2)))
    (.block 3
      (.seq
        (.region false [⟨some 28, (.mv (.t 4)), 22, none, 0⟩, ⟨some 29, (.mv (.t 5)), 3, none, 0⟩, ⟨some 30, (.iaddr 22 (.t 28) (.t 29)), 0, none, 0⟩, ⟨none, (.store 3 (.t 30) (.c (.int .i64 0))), 0, none, 0⟩] (some [0, 1, 4, 5]))
        (.region false [⟨some 31, (.mv (.t 5)), 3, none, 0⟩, ⟨some 32, (.bin .sub 3 (.t 31) (.c (.int .i64 1))), 3, none, 0⟩, ⟨some 5, (.mv (.t 32)), 3, none, 0⟩] (some [0, 1, 4, 5])))))
def lb_151_1 : AC :=
  (.block 1
    (.seq
      (.region false [⟨some 9, (.mv (.t 1)), 112, none, 0⟩, ⟨some 10, (.mv (.t 4)), 22, none, 0⟩, ⟨some 11, (.call (.t 9) [(.t 10)]), 0, none, 16⟩] (some [0, 1, 4]))
      (.seq
        (.region false [⟨some 12, (.mv (.t 4)), 22, none, 0⟩, ⟨some 13, (.len 22 (.t 12)), 3, none, 0⟩, ⟨some 14, (.bin .sub 3 (.t 13) (.c (.int .i64 1))), 3, none, 0⟩, ⟨some 5, (.mv (.t 14)), 3, none, 0⟩] (some [0, 1, 4, 5]))
        (.seq
          (.block 2
            (.loop [0, 1, 4, 5] [12160, 8064, 4064, 8, 16, 24, 32, 40, 48, 56, 64, 72, 80, 88, 96, 104, 112, 120, 128] lb_151_3))
          (.seq
            (.seq
              (.region false [⟨some 33, (.mv (.t 5)), 3, none, 0⟩, ⟨some 34, (.bin .lss 3 (.t 33) (.c (.int .i64 0))), 4, none, 0⟩] (some [0, 1, 4, 5, 34]))
              (.cond (.t 34)
                .ret
                .skip))
            (.region false [⟨some 35, (.mv (.t 4)), 22, none, 0⟩, ⟨some 36, (.mv (.t 5)), 3, none, 0⟩, ⟨some 37, (.iaddr 22 (.t 35) (.t 36)), 0, none, 0⟩, ⟨some 38, (.load 3 (.t 37)), 3, none, 0⟩, ⟨some 39, (.bin .add 3 (.t 38) (.c (.int .i64 1))), 3, none, 0⟩, ⟨some 40, (.iaddr 22 (.t 35) (.t 36)), 0, none, 0⟩, ⟨none, (.store 3 (.t 40) (.t 39)), 0, none, 0⟩] (some [0, 1, 4])))))))
def fa_151 : FnA := ⟨41, [],
  (.seq
    (.region false [⟨some 6, (.mv (.t 0)), 22, none, 0⟩, ⟨some 7, (.len 22 (.t 6)), 3, none, 0⟩, ⟨some 8, (.make 22 (.t 7) (.t 7)), 22, none, 0⟩, ⟨some 4, (.mv (.t 8)), 22, none, 0⟩] (some [0, 1, 4]))
    (.block 0
      (.loop [0, 1, 4] [12160, 8064, 4064, 8, 16, 24, 32, 40, 48, 56, 64, 72, 80, 88, 96, 104, 112, 120, 128] lb_151_1)))⟩
theorem fok_151 : FnOk Try.prog 151 fa_151 an_151 := ⟨Try.f151, _, Try.func151, rfl, by kernel_rfl, rfl, rfl, by decide, by kernel_rfl⟩
/-- impl.eachNames -/
def an_157 : Ann := ⟨[(1, 5, 3), (1, 7, 16)], [(0, [1, 2]), (1, [])], [], []⟩
def fa_157 : FnA := ⟨12, [],
  (.seq
    (.region false [⟨some 2, (.box 28 (.t 0)), 0, none, 0⟩] (some [1, 2]))
    (.region false [⟨some 4, (.faddr 28 (.t 2) 0), 0, none, 0⟩, ⟨some 5, (.load 22 (.t 4)), 22, none, 0⟩, ⟨some 6, (.len 22 (.t 5)), 3, none, 0⟩, ⟨some 7, (.bin .sub 3 (.t 6) (.c (.int .i64 1))), 3, none, 0⟩, ⟨some 8, (.bslice 22 1 [(0, (.t 7))]), 22, none, 0⟩, ⟨some 9, (.call (.f 152) [(.t 8), (.c (.int .i64 3))]), 22, none, 3⟩, ⟨some 10, (.mv (.t 1)), 112, none, 0⟩, ⟨some 11, (.call (.f 151) [(.t 9), (.t 10)]), 0, none, 16⟩] (some [])))⟩
theorem fok_157 : FnOk Try.prog 157 fa_157 an_157 := ⟨Try.f157, _, Try.func157, rfl, by kernel_rfl, rfl, rfl, by decide, by kernel_rfl⟩
end Go.PS
end

section
-- Contracts: lists of elements for the names, powers, the least power of the reference.
set_option maxRecDepth 100000
set_option linter.unusedVariables false
set_option linter.unusedSimpArgs false
namespace Go.PS
open Go.Proofs

theorem powS_pc (u : List Int) (t : List (List Int)) (x k : Int) (f : TF u t) (hx0 : 0 ≤ x) (hx : x.toNat < u.length) (hk0 : 0 ≤ k) (hk : k ≤ 1000000) : PC Try.prog 124 [AL u t, I64 x, I64 k] none true (fun r _ => r = I64 (powM u t x.toNat k.toNat)) := by
  obtain ⟨x, rfl⟩ := Int.eq_ofNat_of_zero_le hx0
  obtain ⟨k, rfl⟩ := Int.eq_ofNat_of_zero_le hk0
  simp at hx
  have h6 := f.lat.six
  refine pcT [] fok_124 ?_
  simp [fa_124, wrap64 (n := (u.length : Int) - 1) (by omega) (by omega)]
  refine loopA (tabK_mono _) k (fun i => [(2, I64 ((k : Int) - i)), (7, I64 (powM u t x i))]) (fun _ => []) (fun _ => True) (by simp [powM]) (by simp) (fun i g hi _ => ?_)
  have hr := powM_rng f hx i
  simp [lb_124_2, f.len, f.rows, hr, hx, show (powM u t x i).toNat < u.length by omega, wrap64 (n := (k : Int) - i - 1) (by omega) (by omega), powM]
  refine ⟨fun h => ⟨by omega, by omega⟩, fun h => by rw [show i = k by omega]⟩
noncomputable def fm_powS : Fam Try.prog := mkFam (X := List Int × List (List Int) × Int × Int) 124 true (fun (u, t, x, k) => [AL u t, I64 x, I64 k]) (fun (u, t, x, k) => (TF u t) ∧ (0 ≤ x) ∧ (x.toNat < u.length) ∧ (0 ≤ k) ∧ (k ≤ 1000000)) (fun (u, t, x, k) => I64 (powM u t x.toNat k.toNat)) (by
  rintro ⟨u, t, x, k⟩ ⟨f, hx0, hx, hk0, hk⟩
  exact powS_pc u t x k f hx0 hx hk0 hk)
@[simp] theorem fm_powS_id : fm_powS.id = 124 := rfl
@[simp] theorem fm_powS_fresh : fm_powS.fresh = true := rfl
@[simp] theorem fm_powS_look (u : List Int) (t : List (List Int)) (x k : Int) (f : TF u t) (hx0 : 0 ≤ x) (hx : x.toNat < u.length) (hk0 : 0 ≤ k) (hk : k ≤ 1000000) : fm_powS.look [AL u t, I64 x, I64 k] = some (I64 (powM u t x.toNat k.toNat)) :=
  lookF_of (X := List Int × List (List Int) × Int × Int) (args := fun (u, t, x, k) => [AL u t, I64 x, I64 k]) (pre := fun (u, t, x, k) => (TF u t) ∧ (0 ≤ x) ∧ (x.toNat < u.length) ∧ (0 ≤ k) ∧ (k ≤ 1000000)) (val := fun (u, t, x, k) => I64 (powM u t x.toNat k.toNat)) (by
  rintro ⟨u, t, x, k⟩ ⟨u', t', x', k'⟩ h
  simp at h
  try simp only [and_assoc] at h
  obtain ⟨rfl, rfl, rfl, rfl⟩ := h
  rfl) (u, t, x, k) ⟨f, hx0, hx, hk0, hk⟩
attribute [irreducible] fm_powS

theorem powI_pc (u : List Int) (t : List (List Int)) (x k : Int) (f : TF u t) (hx0 : 0 ≤ x) (hx : x.toNat < u.length) (hk0 : 0 ≤ k) (hk : k ≤ 1000000) : PC Try.prog 122 [AL u t, I64 x, I64 k] none true (fun r _ => r = I64 (powM u t x.toNat k.toNat)) := by
  obtain ⟨x, rfl⟩ := Int.eq_ofNat_of_zero_le hx0
  obtain ⟨k, rfl⟩ := Int.eq_ofNat_of_zero_le hk0
  simp at hx
  have h6 := f.lat.six
  refine pcT [] fok_122 ?_
  simp [fa_122, wrap64 (n := (u.length : Int) - 1) (by omega) (by omega)]
  refine loopA (tabK_mono _) k (fun i => [(2, I64 ((k : Int) - i)), (7, I64 (powM u t x i))]) (fun _ => []) (fun _ => True) (by simp [powM]) (by simp) (fun i g hi _ => ?_)
  have hr := powM_rng f hx i
  simp [lb_122_2, f.len, f.rows, hr, hx, show (powM u t x i).toNat < u.length by omega, wrap64 (n := (k : Int) - i - 1) (by omega) (by omega), powM]
  refine ⟨fun h => ⟨by omega, by omega⟩, fun h => by rw [show i = k by omega]⟩
noncomputable def fm_powI : Fam Try.prog := mkFam (X := List Int × List (List Int) × Int × Int) 122 true (fun (u, t, x, k) => [AL u t, I64 x, I64 k]) (fun (u, t, x, k) => (TF u t) ∧ (0 ≤ x) ∧ (x.toNat < u.length) ∧ (0 ≤ k) ∧ (k ≤ 1000000)) (fun (u, t, x, k) => I64 (powM u t x.toNat k.toNat)) (by
  rintro ⟨u, t, x, k⟩ ⟨f, hx0, hx, hk0, hk⟩
  exact powI_pc u t x k f hx0 hx hk0 hk)
@[simp] theorem fm_powI_id : fm_powI.id = 122 := rfl
@[simp] theorem fm_powI_fresh : fm_powI.fresh = true := rfl
@[simp] theorem fm_powI_look (u : List Int) (t : List (List Int)) (x k : Int) (f : TF u t) (hx0 : 0 ≤ x) (hx : x.toNat < u.length) (hk0 : 0 ≤ k) (hk : k ≤ 1000000) : fm_powI.look [AL u t, I64 x, I64 k] = some (I64 (powM u t x.toNat k.toNat)) :=
  lookF_of (X := List Int × List (List Int) × Int × Int) (args := fun (u, t, x, k) => [AL u t, I64 x, I64 k]) (pre := fun (u, t, x, k) => (TF u t) ∧ (0 ≤ x) ∧ (x.toNat < u.length) ∧ (0 ≤ k) ∧ (k ≤ 1000000)) (val := fun (u, t, x, k) => I64 (powM u t x.toNat k.toNat)) (by
  rintro ⟨u, t, x, k⟩ ⟨u', t', x', k'⟩ h
  simp at h
  try simp only [and_assoc] at h
  obtain ⟨rfl, rfl, rfl, rfl⟩ := h
  rfl) (u, t, x, k) ⟨f, hx0, hx, hk0, hk⟩
attribute [irreducible] fm_powI

theorem assignments_pc (n : Int) (h0 : 0 ≤ n) (h6 : n ≤ 6) : PC Try.prog 159 [I64 n] none false (fun r _ => r = RL (asgK n.toNat 3)) := by
  obtain ⟨n, rfl⟩ := Int.eq_ofNat_of_zero_le h0
  have h6 : n ≤ 6 := by omega
  refine pcT [] fok_159 ?_
  simp [fa_159]
  refine loopA (tabK_mono _) 3 (fun i => [(3, RL (asgK n i)), (4, I64 i)]) (fun _ => []) (fun _ => True) (by simp [asgK, rowsD, ints]) (by simp) (fun i g hi _ => ?_)
  simp [lb_159_3, wrap_succ hi (by omega)]
  refine ⟨fun h => ?_, fun h => by rw [show i = 3 by omega]⟩
  have hlen : (asgK n i).length ≤ 36 := by
    rw [asgK_length]
    have : i = 0 ∨ i = 1 ∨ i = 2 := by omega
    rcases this with rfl | rfl | rfl
    · simp
    · simp; omega
    · have := Nat.pow_le_pow_left h6 2; omega
  have hrow : ∀ j, j < (asgK n i).length → (gr (asgK n i) j).length = i := fun j hj => asgK_row n i _ (by simp [gr, List.getElem?_eq_getElem hj])
  have hnx : asgK n (i + 1) = nxt n (asgK n i) := rfl
  generalize asgK n i = o at *
  refine loopX (tabK_mono _) o.length (fun j γ => [(5, .arr 112 γ), (6, I64 j)]) (fun j γ => [⟨112, γ, .arr 1 (orowsD (nxt n (o.take j)))⟩]) (fun _ _ => True) g (by simp) (by simp [nxt, orowsD]) trivial (fun j γ g2 hj _ => ?_)
  simp [lb_159_7, wrap_succ hj (by omega)]
  refine ⟨fun h2 => ?_, fun h2 => ?_⟩
  · refine loopX (tabK_mono _) n (fun x γ => [(5, .arr 112 γ), (7, I64 x)]) (fun x γ => [⟨112, γ, .arr 1 (orowsD (nxt n (o.take j) ++ (List.range x).map fun (z : Nat) => gr o j ++ [(z : Int)]))⟩]) (fun _ _ => True) γ (by simp) (by simp) trivial (fun x γ g3 hx _ => ?_)
    simp [lb_159_10, wrap_succ hx (by omega)]
    refine ⟨fun h3 => ?_, fun h3 => ?_⟩
    · have e1 := hrow j h2
      have e2 : j * n ≤ 36 * 6 := Nat.mul_le_mul (by omega) h6
      have e3 : (nxt n (List.take j o)).length = j * n := by rw [nxt_length, List.length_take, Nat.min_eq_left hj]
      have e4 : big = 1048576 * 1048576 := rfl
      refine ⟨h2, by omega, by omega, by omega, h3, by rw [List.range_succ, List.map_append]; rfl⟩
    · obtain rfl : x = n := by omega
      rw [← nxt_take h2]
      exact ⟨h2, γ, ⟨rfl, wrap_succ hj (by omega)⟩, rfl, rfl⟩
  · obtain rfl : j = o.length := by omega
    rw [List.take_length]
    exact ⟨by omega, hnx.symm, wrap_succ hi (by omega)⟩
noncomputable def fm_assignments : Fam Try.prog := mkFam (X := Int) 159 false (fun n => [I64 n]) (fun n => (0 ≤ n) ∧ (n ≤ 6)) (fun n => RL (asgK n.toNat 3)) (by
  rintro n ⟨h0, h6⟩
  exact assignments_pc n h0 h6)
@[simp] theorem fm_assignments_id : fm_assignments.id = 159 := rfl
@[simp] theorem fm_assignments_fresh : fm_assignments.fresh = false := rfl
@[simp] theorem fm_assignments_look (n : Int) (h0 : 0 ≤ n) (h6 : n ≤ 6) : fm_assignments.look [I64 n] = some (RL (asgK n.toNat 3)) :=
  lookF_of (X := Int) (args := fun n => [I64 n]) (pre := fun n => (0 ≤ n) ∧ (n ≤ 6)) (val := fun n => RL (asgK n.toNat 3)) (by
  intro n n' h
  simp at h
  subst h
  rfl) n ⟨h0, h6⟩
attribute [irreducible] fm_assignments

theorem all_gr {A : List (List Int)} {p : List Int → Bool} : A.all p = true ↔ ∀ j, j < A.length → p (gr A j) = true := by
  rw [List.all_eq_true]
  constructor
  · intro h j hj
    exact h _ (by simp [gr, List.getElem?_eq_getElem hj])
  · intro h x hx
    obtain ⟨j, hj, rfl⟩ := List.getElem_of_mem hx
    have := h j hj
    simpa [gr, List.getElem?_eq_getElem hj] using this

theorem okP_up {u : List Int} {t : List (List Int)} (a : VA u t) {p q nm : List Int} (hp : validT p) (hq : validT q) (hn : NmOk nm u.length) {k : Nat} (h : okP u t p q k nm = true) : ∀ i, okP u t p q (k + i) nm = true
  | 0 => h
  | i + 1 => okP_mono a hp hq hn (okP_up a hp hq hn h i)


end Go.PS
end

section
-- Contracts: implications, nearness, powers; orders, meets and joins, of any numbers.
set_option maxRecDepth 100000
set_option linter.unusedVariables false
set_option linter.unusedSimpArgs false
namespace Go.PS
open Go.Proofs

/-- Is a number an element? -/
def inE (n : Nat) (x : Int) : Bool := decide (0 ≤ x ∧ x < n)
theorem inE_iff {n : Nat} {x : Int} : inE n x = true ↔ 0 ≤ x ∧ x.toNat < n := by simp [inE]; omega
theorem inE_rng {n : Nat} {x : Int} : (decide (0 ≤ x) && decide (x ≤ (n : Int) - 1)) = inE n x := by
  rw [Bool.eq_iff_iff]; simp [inE]; omega
theorem allE_two {n : Nat} {x y : Int} : decide (allE [x, y] n) = (inE n x && inE n y) := by
  rw [Bool.eq_iff_iff]; simp [allE, inE]
theorem allE_one {n : Nat} {x : Int} : decide (allE [x] n) = inE n x := by
  rw [Bool.eq_iff_iff]; simp [allE, inE]

theorem hasS_pc (u : List Int) (t : List (List Int)) (x y : Int) (hu : Big u.length) (ht : BigR t) : PC Try.prog 123 [AL u t, I64 x, I64 y] none true (fun r _ => r = .bool (decide (VA u t) && (inE u.length x && inE u.length y))) := by
  have hl := hu.le
  have w1 : IntKind.i64.wrap ((u.length : Int) - 1) = u.length - 1 := wrap64 (by omega) (by omega)
  refine pcT [fm_validAlgebraS, fm_inRange] fok_123 ?_
  simp [fa_123]
  refine cutW (tabK_mono _) [(6, .bool (decide (VA u t) && (inE u.length x && inE u.length y)))] (by
    rw [← inE_rng, ← inE_rng]
    cases hb : decide (VA u t)
    · simp [hu, ht, hb]
    · cases hb2 : (decide (0 ≤ x) && decide (x ≤ (u.length : Int) - 1))
      · simp [hu, ht, hb, w1, hb2]
      · simp [hu, ht, hb, w1, hb2]) ?_
  simp
noncomputable def fm_hasS : Fam Try.prog := mkFam (X := List Int × List (List Int) × Int × Int) 123 true (fun (u, t, x, y) => [AL u t, I64 x, I64 y]) (fun (u, t, x, y) => (Big u.length) ∧ (BigR t)) (fun (u, t, x, y) => .bool (decide (VA u t) && (inE u.length x && inE u.length y))) (by
  rintro ⟨u, t, x, y⟩ ⟨hu, ht⟩
  exact hasS_pc u t x y hu ht)
@[simp] theorem fm_hasS_id : fm_hasS.id = 123 := rfl
@[simp] theorem fm_hasS_fresh : fm_hasS.fresh = true := rfl
@[simp] theorem fm_hasS_look (u : List Int) (t : List (List Int)) (x y : Int) (hu : Big u.length) (ht : BigR t) : fm_hasS.look [AL u t, I64 x, I64 y] = some (.bool (decide (VA u t) && (inE u.length x && inE u.length y))) :=
  lookF_of (X := List Int × List (List Int) × Int × Int) (args := fun (u, t, x, y) => [AL u t, I64 x, I64 y]) (pre := fun (u, t, x, y) => (Big u.length) ∧ (BigR t)) (val := fun (u, t, x, y) => .bool (decide (VA u t) && (inE u.length x && inE u.length y))) (by
  rintro ⟨u, t, x, y⟩ ⟨u', t', x', y'⟩ h
  simp at h
  try simp only [and_assoc] at h
  obtain ⟨rfl, rfl, rfl, rfl⟩ := h
  rfl) (u, t, x, y) ⟨hu, ht⟩
attribute [irreducible] fm_hasS

theorem nearS_pc (u : List Int) (t : List (List Int)) (x y : Int) (f : TF u t) (hx0 : 0 ≤ x) (hx : x.toNat < u.length) (hy0 : 0 ≤ y) (hy : y.toNat < u.length) : PC Try.prog 128 [AL u t, I64 x, I64 y] none true (fun r _ => r = I64 (tm t (implyM u t x.toNat y.toNat).toNat (implyM u t y.toNat x.toNat).toNat)) := by
  have v := f.lat
  have r1 := v.imply_rng (t := t) (x := x.toNat) (y := y.toNat)
  have r2 := v.imply_rng (t := t) (x := y.toNat) (y := x.toNat)
  refine pcT [fm_implyS] fok_128 ?_
  simp [fa_128, f, hx0, hx, hy0, hy, r1, r2, f.len, f.rows, show (implyM u t x.toNat y.toNat).toNat < u.length by omega]
noncomputable def fm_nearS : Fam Try.prog := mkFam (X := List Int × List (List Int) × Int × Int) 128 true (fun (u, t, x, y) => [AL u t, I64 x, I64 y]) (fun (u, t, x, y) => (TF u t) ∧ (0 ≤ x) ∧ (x.toNat < u.length) ∧ (0 ≤ y) ∧ (y.toNat < u.length)) (fun (u, t, x, y) => I64 (tm t (implyM u t x.toNat y.toNat).toNat (implyM u t y.toNat x.toNat).toNat)) (by
  rintro ⟨u, t, x, y⟩ ⟨f, hx0, hx, hy0, hy⟩
  exact nearS_pc u t x y f hx0 hx hy0 hy)
@[simp] theorem fm_nearS_id : fm_nearS.id = 128 := rfl
@[simp] theorem fm_nearS_fresh : fm_nearS.fresh = true := rfl
@[simp] theorem fm_nearS_look (u : List Int) (t : List (List Int)) (x y : Int) (f : TF u t) (hx0 : 0 ≤ x) (hx : x.toNat < u.length) (hy0 : 0 ≤ y) (hy : y.toNat < u.length) : fm_nearS.look [AL u t, I64 x, I64 y] = some (I64 (tm t (implyM u t x.toNat y.toNat).toNat (implyM u t y.toNat x.toNat).toNat)) :=
  lookF_of (X := List Int × List (List Int) × Int × Int) (args := fun (u, t, x, y) => [AL u t, I64 x, I64 y]) (pre := fun (u, t, x, y) => (TF u t) ∧ (0 ≤ x) ∧ (x.toNat < u.length) ∧ (0 ≤ y) ∧ (y.toNat < u.length)) (val := fun (u, t, x, y) => I64 (tm t (implyM u t x.toNat y.toNat).toNat (implyM u t y.toNat x.toNat).toNat)) (by
  rintro ⟨u, t, x, y⟩ ⟨u', t', x', y'⟩ h
  simp at h
  try simp only [and_assoc] at h
  obtain ⟨rfl, rfl, rfl, rfl⟩ := h
  rfl) (u, t, x, y) ⟨f, hx0, hx, hy0, hy⟩
attribute [irreducible] fm_nearS
theorem nearI_pc (u : List Int) (t : List (List Int)) (x y : Int) (f : TF u t) (hx0 : 0 ≤ x) (hx : x.toNat < u.length) (hy0 : 0 ≤ y) (hy : y.toNat < u.length) : PC Try.prog 127 [AL u t, I64 x, I64 y] none true (fun r _ => r = I64 (tm t (implyM u t x.toNat y.toNat).toNat (implyM u t y.toNat x.toNat).toNat)) := by
  have v := f.lat
  have r1 := v.imply_rng (t := t) (x := x.toNat) (y := y.toNat)
  have r2 := v.imply_rng (t := t) (x := y.toNat) (y := x.toNat)
  refine pcT [fm_implyI] fok_127 ?_
  simp [fa_127, f, hx0, hx, hy0, hy, r1, r2, f.len, f.rows, show (implyM u t x.toNat y.toNat).toNat < u.length by omega]
noncomputable def fm_nearI : Fam Try.prog := mkFam (X := List Int × List (List Int) × Int × Int) 127 true (fun (u, t, x, y) => [AL u t, I64 x, I64 y]) (fun (u, t, x, y) => (TF u t) ∧ (0 ≤ x) ∧ (x.toNat < u.length) ∧ (0 ≤ y) ∧ (y.toNat < u.length)) (fun (u, t, x, y) => I64 (tm t (implyM u t x.toNat y.toNat).toNat (implyM u t y.toNat x.toNat).toNat)) (by
  rintro ⟨u, t, x, y⟩ ⟨f, hx0, hx, hy0, hy⟩
  exact nearI_pc u t x y f hx0 hx hy0 hy)
@[simp] theorem fm_nearI_id : fm_nearI.id = 127 := rfl
@[simp] theorem fm_nearI_fresh : fm_nearI.fresh = true := rfl
@[simp] theorem fm_nearI_look (u : List Int) (t : List (List Int)) (x y : Int) (f : TF u t) (hx0 : 0 ≤ x) (hx : x.toNat < u.length) (hy0 : 0 ≤ y) (hy : y.toNat < u.length) : fm_nearI.look [AL u t, I64 x, I64 y] = some (I64 (tm t (implyM u t x.toNat y.toNat).toNat (implyM u t y.toNat x.toNat).toNat)) :=
  lookF_of (X := List Int × List (List Int) × Int × Int) (args := fun (u, t, x, y) => [AL u t, I64 x, I64 y]) (pre := fun (u, t, x, y) => (TF u t) ∧ (0 ≤ x) ∧ (x.toNat < u.length) ∧ (0 ≤ y) ∧ (y.toNat < u.length)) (val := fun (u, t, x, y) => I64 (tm t (implyM u t x.toNat y.toNat).toNat (implyM u t y.toNat x.toNat).toNat)) (by
  rintro ⟨u, t, x, y⟩ ⟨u', t', x', y'⟩ h
  simp at h
  try simp only [and_assoc] at h
  obtain ⟨rfl, rfl, rfl, rfl⟩ := h
  rfl) (u, t, x, y) ⟨f, hx0, hx, hy0, hy⟩
attribute [irreducible] fm_nearI

noncomputable def ImM (u : List Int) (t : List (List Int)) (x y : Int) : Int := if decide (VA u t) && (inE u.length x && inE u.length y) then implyM u t x.toNat y.toNat else -1
noncomputable def NoM (u : List Int) (t : List (List Int)) (x : Int) : Int := if decide (VA u t) && inE u.length x then implyM u t x.toNat 0 else -1
noncomputable def NeM (u : List Int) (t : List (List Int)) (x y : Int) : Int := if decide (VA u t) && (inE u.length x && inE u.length y) then tm t (implyM u t x.toNat y.toNat).toNat (implyM u t y.toNat x.toNat).toNat else -1
noncomputable def PoM (u : List Int) (t : List (List Int)) (x k : Int) : Int := if decide (VA u t) && inE u.length x && (decide (0 ≤ k) && decide (k ≤ 20)) then powM u t x.toNat k.toNat else -1

theorem ImplyS_pc (u : List Int) (t : List (List Int)) (x y : Int) (hu : Big u.length) (ht : BigR t) : PC Try.prog 50 [AL u t, I64 x, I64 y] none true (fun r _ => r = I64 (ImM u t x y)) := by
  refine pcT [fm_hasS, fm_implyS] fok_50 ?_
  unfold ImM
  cases hb : (decide (VA u t) && (inE u.length x && inE u.length y))
  · simp [fa_50, hu, ht, hb]
  · have h := hb
    simp only [Bool.and_eq_true, decide_eq_true_eq, inE_iff] at h
    simp [fa_50, hu, ht, hb, h.1.tf, h.2]
noncomputable def fm_ImplyS : Fam Try.prog := mkFam (X := List Int × List (List Int) × Int × Int) 50 true (fun (u, t, x, y) => [AL u t, I64 x, I64 y]) (fun (u, t, x, y) => (Big u.length) ∧ (BigR t)) (fun (u, t, x, y) => I64 (ImM u t x y)) (by
  rintro ⟨u, t, x, y⟩ ⟨hu, ht⟩
  exact ImplyS_pc u t x y hu ht)
@[simp] theorem fm_ImplyS_id : fm_ImplyS.id = 50 := rfl
@[simp] theorem fm_ImplyS_fresh : fm_ImplyS.fresh = true := rfl
@[simp] theorem fm_ImplyS_look (u : List Int) (t : List (List Int)) (x y : Int) (hu : Big u.length) (ht : BigR t) : fm_ImplyS.look [AL u t, I64 x, I64 y] = some (I64 (ImM u t x y)) :=
  lookF_of (X := List Int × List (List Int) × Int × Int) (args := fun (u, t, x, y) => [AL u t, I64 x, I64 y]) (pre := fun (u, t, x, y) => (Big u.length) ∧ (BigR t)) (val := fun (u, t, x, y) => I64 (ImM u t x y)) (by
  rintro ⟨u, t, x, y⟩ ⟨u', t', x', y'⟩ h
  simp at h
  try simp only [and_assoc] at h
  obtain ⟨rfl, rfl, rfl, rfl⟩ := h
  rfl) (u, t, x, y) ⟨hu, ht⟩
attribute [irreducible] fm_ImplyS
theorem ImplyI_pc (u : List Int) (t : List (List Int)) (x y : Int) (hu : Big u.length) (ht : BigR t) : PC Try.prog 49 [AL u t, I64 x, I64 y] none true (fun r _ => r = I64 (ImM u t x y)) := by
  have l1 : fm_atI.look [AL u t, .list 1 [.int .i64 x, .int .i64 y]] = some (.bool (decide (VA u t) && decide (allE [x, y] u.length))) := fm_atI_look u t [x, y] hu ht (by unfold Big; simp)
  rw [allE_two] at l1
  refine pcT [fm_atI, fm_implyI] fok_49 ?_
  unfold ImM
  cases hb : (decide (VA u t) && (inE u.length x && inE u.length y))
  · rw [hb] at l1
    simp [fa_49, l1, show List.range 2 = [0, 1] from rfl]
  · have h := hb
    rw [hb] at l1
    simp only [Bool.and_eq_true, decide_eq_true_eq, inE_iff] at h
    simp [fa_49, l1, h.1.tf, h.2, show List.range 2 = [0, 1] from rfl]
noncomputable def fm_ImplyI : Fam Try.prog := mkFam (X := List Int × List (List Int) × Int × Int) 49 true (fun (u, t, x, y) => [AL u t, I64 x, I64 y]) (fun (u, t, x, y) => (Big u.length) ∧ (BigR t)) (fun (u, t, x, y) => I64 (ImM u t x y)) (by
  rintro ⟨u, t, x, y⟩ ⟨hu, ht⟩
  exact ImplyI_pc u t x y hu ht)
@[simp] theorem fm_ImplyI_id : fm_ImplyI.id = 49 := rfl
@[simp] theorem fm_ImplyI_fresh : fm_ImplyI.fresh = true := rfl
@[simp] theorem fm_ImplyI_look (u : List Int) (t : List (List Int)) (x y : Int) (hu : Big u.length) (ht : BigR t) : fm_ImplyI.look [AL u t, I64 x, I64 y] = some (I64 (ImM u t x y)) :=
  lookF_of (X := List Int × List (List Int) × Int × Int) (args := fun (u, t, x, y) => [AL u t, I64 x, I64 y]) (pre := fun (u, t, x, y) => (Big u.length) ∧ (BigR t)) (val := fun (u, t, x, y) => I64 (ImM u t x y)) (by
  rintro ⟨u, t, x, y⟩ ⟨u', t', x', y'⟩ h
  simp at h
  try simp only [and_assoc] at h
  obtain ⟨rfl, rfl, rfl, rfl⟩ := h
  rfl) (u, t, x, y) ⟨hu, ht⟩
attribute [irreducible] fm_ImplyI
theorem NotS_pc (u : List Int) (t : List (List Int)) (x : Int) (hu : Big u.length) (ht : BigR t) : PC Try.prog 56 [AL u t, I64 x] none true (fun r _ => r = I64 (NoM u t x)) := by
  have l1 := fm_hasS_look u t x x hu ht
  rw [Bool.and_self] at l1
  refine pcT [fm_hasS, fm_implyS] fok_56 ?_
  unfold NoM
  cases hb : (decide (VA u t) && inE u.length x)
  · rw [hb] at l1
    simp [fa_56, l1]
  · have h := hb
    rw [hb] at l1
    simp only [Bool.and_eq_true, decide_eq_true_eq, inE_iff] at h
    simp [fa_56, l1, h.1.tf, h.2, h.1.lat.pos]
noncomputable def fm_NotS : Fam Try.prog := mkFam (X := List Int × List (List Int) × Int) 56 true (fun (u, t, x) => [AL u t, I64 x]) (fun (u, t, x) => (Big u.length) ∧ (BigR t)) (fun (u, t, x) => I64 (NoM u t x)) (by
  rintro ⟨u, t, x⟩ ⟨hu, ht⟩
  exact NotS_pc u t x hu ht)
@[simp] theorem fm_NotS_id : fm_NotS.id = 56 := rfl
@[simp] theorem fm_NotS_fresh : fm_NotS.fresh = true := rfl
@[simp] theorem fm_NotS_look (u : List Int) (t : List (List Int)) (x : Int) (hu : Big u.length) (ht : BigR t) : fm_NotS.look [AL u t, I64 x] = some (I64 (NoM u t x)) :=
  lookF_of (X := List Int × List (List Int) × Int) (args := fun (u, t, x) => [AL u t, I64 x]) (pre := fun (u, t, x) => (Big u.length) ∧ (BigR t)) (val := fun (u, t, x) => I64 (NoM u t x)) (by
  rintro ⟨u, t, x⟩ ⟨u', t', x'⟩ h
  simp at h
  try simp only [and_assoc] at h
  obtain ⟨rfl, rfl, rfl⟩ := h
  rfl) (u, t, x) ⟨hu, ht⟩
attribute [irreducible] fm_NotS
theorem NotI_pc (u : List Int) (t : List (List Int)) (x : Int) (hu : Big u.length) (ht : BigR t) : PC Try.prog 55 [AL u t, I64 x] none true (fun r _ => r = I64 (NoM u t x)) := by
  have l1 : fm_atI.look [AL u t, .list 1 [.int .i64 x]] = some (.bool (decide (VA u t) && decide (allE [x] u.length))) := fm_atI_look u t [x] hu ht (by unfold Big; simp)
  rw [allE_one] at l1
  refine pcT [fm_atI, fm_notI] fok_55 ?_
  unfold NoM
  cases hb : (decide (VA u t) && inE u.length x)
  · rw [hb] at l1
    simp [fa_55, l1, show List.range 1 = [0] from rfl]
  · have h := hb
    rw [hb] at l1
    simp only [Bool.and_eq_true, decide_eq_true_eq, inE_iff] at h
    simp [fa_55, l1, h.1.tf, h.2, show List.range 1 = [0] from rfl]
noncomputable def fm_NotI : Fam Try.prog := mkFam (X := List Int × List (List Int) × Int) 55 true (fun (u, t, x) => [AL u t, I64 x]) (fun (u, t, x) => (Big u.length) ∧ (BigR t)) (fun (u, t, x) => I64 (NoM u t x)) (by
  rintro ⟨u, t, x⟩ ⟨hu, ht⟩
  exact NotI_pc u t x hu ht)
@[simp] theorem fm_NotI_id : fm_NotI.id = 55 := rfl
@[simp] theorem fm_NotI_fresh : fm_NotI.fresh = true := rfl
@[simp] theorem fm_NotI_look (u : List Int) (t : List (List Int)) (x : Int) (hu : Big u.length) (ht : BigR t) : fm_NotI.look [AL u t, I64 x] = some (I64 (NoM u t x)) :=
  lookF_of (X := List Int × List (List Int) × Int) (args := fun (u, t, x) => [AL u t, I64 x]) (pre := fun (u, t, x) => (Big u.length) ∧ (BigR t)) (val := fun (u, t, x) => I64 (NoM u t x)) (by
  rintro ⟨u, t, x⟩ ⟨u', t', x'⟩ h
  simp at h
  try simp only [and_assoc] at h
  obtain ⟨rfl, rfl, rfl⟩ := h
  rfl) (u, t, x) ⟨hu, ht⟩
attribute [irreducible] fm_NotI
theorem NearS_pc (u : List Int) (t : List (List Int)) (x y : Int) (hu : Big u.length) (ht : BigR t) : PC Try.prog 53 [AL u t, I64 x, I64 y] none true (fun r _ => r = I64 (NeM u t x y)) := by
  refine pcT [fm_hasS, fm_nearS] fok_53 ?_
  unfold NeM
  cases hb : (decide (VA u t) && (inE u.length x && inE u.length y))
  · simp [fa_53, hu, ht, hb]
  · have h := hb
    simp only [Bool.and_eq_true, decide_eq_true_eq, inE_iff] at h
    simp [fa_53, hu, ht, hb, h.1.tf, h.2]
noncomputable def fm_NearS : Fam Try.prog := mkFam (X := List Int × List (List Int) × Int × Int) 53 true (fun (u, t, x, y) => [AL u t, I64 x, I64 y]) (fun (u, t, x, y) => (Big u.length) ∧ (BigR t)) (fun (u, t, x, y) => I64 (NeM u t x y)) (by
  rintro ⟨u, t, x, y⟩ ⟨hu, ht⟩
  exact NearS_pc u t x y hu ht)
@[simp] theorem fm_NearS_id : fm_NearS.id = 53 := rfl
@[simp] theorem fm_NearS_fresh : fm_NearS.fresh = true := rfl
@[simp] theorem fm_NearS_look (u : List Int) (t : List (List Int)) (x y : Int) (hu : Big u.length) (ht : BigR t) : fm_NearS.look [AL u t, I64 x, I64 y] = some (I64 (NeM u t x y)) :=
  lookF_of (X := List Int × List (List Int) × Int × Int) (args := fun (u, t, x, y) => [AL u t, I64 x, I64 y]) (pre := fun (u, t, x, y) => (Big u.length) ∧ (BigR t)) (val := fun (u, t, x, y) => I64 (NeM u t x y)) (by
  rintro ⟨u, t, x, y⟩ ⟨u', t', x', y'⟩ h
  simp at h
  try simp only [and_assoc] at h
  obtain ⟨rfl, rfl, rfl, rfl⟩ := h
  rfl) (u, t, x, y) ⟨hu, ht⟩
attribute [irreducible] fm_NearS
theorem NearI_pc (u : List Int) (t : List (List Int)) (x y : Int) (hu : Big u.length) (ht : BigR t) : PC Try.prog 52 [AL u t, I64 x, I64 y] none true (fun r _ => r = I64 (NeM u t x y)) := by
  have l1 : fm_atI.look [AL u t, .list 1 [.int .i64 x, .int .i64 y]] = some (.bool (decide (VA u t) && decide (allE [x, y] u.length))) := fm_atI_look u t [x, y] hu ht (by unfold Big; simp)
  rw [allE_two] at l1
  refine pcT [fm_atI, fm_nearI] fok_52 ?_
  unfold NeM
  cases hb : (decide (VA u t) && (inE u.length x && inE u.length y))
  · rw [hb] at l1
    simp [fa_52, l1, show List.range 2 = [0, 1] from rfl]
  · have h := hb
    rw [hb] at l1
    simp only [Bool.and_eq_true, decide_eq_true_eq, inE_iff] at h
    simp [fa_52, l1, h.1.tf, h.2, show List.range 2 = [0, 1] from rfl]
noncomputable def fm_NearI : Fam Try.prog := mkFam (X := List Int × List (List Int) × Int × Int) 52 true (fun (u, t, x, y) => [AL u t, I64 x, I64 y]) (fun (u, t, x, y) => (Big u.length) ∧ (BigR t)) (fun (u, t, x, y) => I64 (NeM u t x y)) (by
  rintro ⟨u, t, x, y⟩ ⟨hu, ht⟩
  exact NearI_pc u t x y hu ht)
@[simp] theorem fm_NearI_id : fm_NearI.id = 52 := rfl
@[simp] theorem fm_NearI_fresh : fm_NearI.fresh = true := rfl
@[simp] theorem fm_NearI_look (u : List Int) (t : List (List Int)) (x y : Int) (hu : Big u.length) (ht : BigR t) : fm_NearI.look [AL u t, I64 x, I64 y] = some (I64 (NeM u t x y)) :=
  lookF_of (X := List Int × List (List Int) × Int × Int) (args := fun (u, t, x, y) => [AL u t, I64 x, I64 y]) (pre := fun (u, t, x, y) => (Big u.length) ∧ (BigR t)) (val := fun (u, t, x, y) => I64 (NeM u t x y)) (by
  rintro ⟨u, t, x, y⟩ ⟨u', t', x', y'⟩ h
  simp at h
  try simp only [and_assoc] at h
  obtain ⟨rfl, rfl, rfl, rfl⟩ := h
  rfl) (u, t, x, y) ⟨hu, ht⟩
attribute [irreducible] fm_NearI
theorem PowerS_pc (u : List Int) (t : List (List Int)) (x k : Int) (hu : Big u.length) (ht : BigR t) : PC Try.prog 47 [AL u t, I64 x, I64 k] none true (fun r _ => r = I64 (PoM u t x k)) := by
  refine pcT [fm_hasS, fm_powS, fm_inRange] fok_47 ?_
  simp [fa_47]
  refine cutW (tabK_mono _) [(16, .bool (!(decide (VA u t) && inE u.length x && (decide (0 ≤ k) && decide (k ≤ 20)))))] (by
    have l1 := fm_hasS_look u t x x hu ht
    rw [Bool.and_self] at l1
    cases hb : (decide (VA u t) && inE u.length x)
    · rw [hb] at l1
      simp [l1]
    · rw [hb] at l1
      simp [l1]) ?_
  unfold PoM
  cases hb : (decide (VA u t) && inE u.length x && (decide (0 ≤ k) && decide (k ≤ 20)))
  · simp
  · have h := hb
    simp only [Bool.and_eq_true, decide_eq_true_eq, inE_iff] at h
    simp [h.1.1.tf, h.1.2, h.2, show k ≤ 1000000 by omega]
noncomputable def fm_PowerS : Fam Try.prog := mkFam (X := List Int × List (List Int) × Int × Int) 47 true (fun (u, t, x, k) => [AL u t, I64 x, I64 k]) (fun (u, t, x, k) => (Big u.length) ∧ (BigR t)) (fun (u, t, x, k) => I64 (PoM u t x k)) (by
  rintro ⟨u, t, x, k⟩ ⟨hu, ht⟩
  exact PowerS_pc u t x k hu ht)
@[simp] theorem fm_PowerS_id : fm_PowerS.id = 47 := rfl
@[simp] theorem fm_PowerS_fresh : fm_PowerS.fresh = true := rfl
@[simp] theorem fm_PowerS_look (u : List Int) (t : List (List Int)) (x k : Int) (hu : Big u.length) (ht : BigR t) : fm_PowerS.look [AL u t, I64 x, I64 k] = some (I64 (PoM u t x k)) :=
  lookF_of (X := List Int × List (List Int) × Int × Int) (args := fun (u, t, x, k) => [AL u t, I64 x, I64 k]) (pre := fun (u, t, x, k) => (Big u.length) ∧ (BigR t)) (val := fun (u, t, x, k) => I64 (PoM u t x k)) (by
  rintro ⟨u, t, x, k⟩ ⟨u', t', x', k'⟩ h
  simp at h
  try simp only [and_assoc] at h
  obtain ⟨rfl, rfl, rfl, rfl⟩ := h
  rfl) (u, t, x, k) ⟨hu, ht⟩
attribute [irreducible] fm_PowerS
theorem PowerI_pc (u : List Int) (t : List (List Int)) (x k : Int) (hu : Big u.length) (ht : BigR t) : PC Try.prog 46 [AL u t, I64 x, I64 k] none true (fun r _ => r = I64 (PoM u t x k)) := by
  have l1 : fm_atI.look [AL u t, .list 1 [.int .i64 x]] = some (.bool (decide (VA u t) && decide (allE [x] u.length))) := fm_atI_look u t [x] hu ht (by unfold Big; simp)
  rw [allE_one] at l1
  refine pcT [fm_atI, fm_powI, fm_within] fok_46 ?_
  simp [fa_46]
  refine cutW (tabK_mono _) [(16, .bool (!(decide (VA u t) && inE u.length x && (decide (0 ≤ k) && decide (k ≤ 20)))))] (by
    cases hb : (decide (VA u t) && inE u.length x)
    · rw [hb] at l1
      simp [l1, show List.range 1 = [0] from rfl]
    · rw [hb] at l1
      simp [l1, show List.range 1 = [0] from rfl]) ?_
  unfold PoM
  cases hb : (decide (VA u t) && inE u.length x && (decide (0 ≤ k) && decide (k ≤ 20)))
  · simp
  · have h := hb
    simp only [Bool.and_eq_true, decide_eq_true_eq, inE_iff] at h
    simp [h.1.1.tf, h.1.2, h.2, show k ≤ 1000000 by omega]
noncomputable def fm_PowerI : Fam Try.prog := mkFam (X := List Int × List (List Int) × Int × Int) 46 true (fun (u, t, x, k) => [AL u t, I64 x, I64 k]) (fun (u, t, x, k) => (Big u.length) ∧ (BigR t)) (fun (u, t, x, k) => I64 (PoM u t x k)) (by
  rintro ⟨u, t, x, k⟩ ⟨hu, ht⟩
  exact PowerI_pc u t x k hu ht)
@[simp] theorem fm_PowerI_id : fm_PowerI.id = 46 := rfl
@[simp] theorem fm_PowerI_fresh : fm_PowerI.fresh = true := rfl
@[simp] theorem fm_PowerI_look (u : List Int) (t : List (List Int)) (x k : Int) (hu : Big u.length) (ht : BigR t) : fm_PowerI.look [AL u t, I64 x, I64 k] = some (I64 (PoM u t x k)) :=
  lookF_of (X := List Int × List (List Int) × Int × Int) (args := fun (u, t, x, k) => [AL u t, I64 x, I64 k]) (pre := fun (u, t, x, k) => (Big u.length) ∧ (BigR t)) (val := fun (u, t, x, k) => I64 (PoM u t x k)) (by
  rintro ⟨u, t, x, k⟩ ⟨u', t', x', k'⟩ h
  simp at h
  try simp only [and_assoc] at h
  obtain ⟨rfl, rfl, rfl, rfl⟩ := h
  rfl) (u, t, x, k) ⟨hu, ht⟩
attribute [irreducible] fm_PowerI

theorem latC_pc (x : Int) (u : List Int) (h2 : Big u.length) : PC Try.prog 176 [I64 x, .iptr (IL u)] none true (fun r _ => r = .bool (outR u.length x)) := by
  have h2 := h2.le
  refine pcT [fm_within] fok_176 ?_
  simp [fa_176, outR, wrap64 (n := (u.length : Int) - 1) (by omega) (by omega)]
noncomputable def fm_latC : Fam Try.prog := mkFam (X := Int × List Int) 176 true (fun (x, u) => [I64 x, .iptr (IL u)]) (fun (x, u) => (Big u.length)) (fun (x, u) => .bool (outR u.length x)) (by
  rintro ⟨x, u⟩ h2
  exact latC_pc x u h2)
@[simp] theorem fm_latC_id : fm_latC.id = 176 := rfl
@[simp] theorem fm_latC_fresh : fm_latC.fresh = true := rfl
@[simp] theorem fm_latC_look (x : Int) (u : List Int) (h2 : Big u.length) : fm_latC.look [I64 x, .iptr (IL u)] = some (.bool (outR u.length x)) :=
  lookF_of (X := Int × List Int) (args := fun (x, u) => [I64 x, .iptr (IL u)]) (pre := fun (x, u) => (Big u.length)) (val := fun (x, u) => .bool (outR u.length x)) (by
  rintro ⟨x, u⟩ ⟨x', u'⟩ h
  simp at h
  try simp only [and_assoc] at h
  obtain ⟨rfl, rfl⟩ := h
  rfl) (x, u) h2
attribute [irreducible] fm_latC
theorem contLat_pc (xs : List Int) (u : List Int) (hl : Big xs.length) (h2 : Big u.length) : PC Try.prog 108 [IL xs, .fn 176 [.iptr (IL u)]] none true (fun r _ => r = .bool (xs.any (outR u.length))) := by
  exact containsFunc_pc hl (by simp) (by simp) (outR u.length) (fun x hx => latC_pc x u h2)
noncomputable def fm_contLat : Fam Try.prog := mkFam (X := List Int × List Int) 108 true (fun (xs, u) => [IL xs, .fn 176 [.iptr (IL u)]]) (fun (xs, u) => (Big xs.length) ∧ (Big u.length)) (fun (xs, u) => .bool (xs.any (outR u.length))) (by
  rintro ⟨xs, u⟩ ⟨hl, h2⟩
  exact contLat_pc xs u hl h2)
@[simp] theorem fm_contLat_id : fm_contLat.id = 108 := rfl
@[simp] theorem fm_contLat_fresh : fm_contLat.fresh = true := rfl
@[simp] theorem fm_contLat_look (xs : List Int) (u : List Int) (hl : Big xs.length) (h2 : Big u.length) : fm_contLat.look [IL xs, .fn 176 [.iptr (IL u)]] = some (.bool (xs.any (outR u.length))) :=
  lookF_of (X := List Int × List Int) (args := fun (xs, u) => [IL xs, .fn 176 [.iptr (IL u)]]) (pre := fun (xs, u) => (Big xs.length) ∧ (Big u.length)) (val := fun (xs, u) => .bool (xs.any (outR u.length))) (by
  rintro ⟨xs, u⟩ ⟨xs', u'⟩ h
  simp at h
  try simp only [and_assoc] at h
  obtain ⟨rfl, rfl⟩ := h
  rfl) (xs, u) ⟨hl, h2⟩
attribute [irreducible] fm_contLat
theorem latAt_pc (u : List Int) (xs : List Int) (hu : Big u.length) (hx : Big xs.length) : PC Try.prog 110 [IL u, IL xs] none true (fun r _ => r = .bool (decide (VL u) && decide (allE xs u.length))) := by
  refine pcT [fm_validLatticeI, fm_contLat] fok_110 ?_
  simp [fa_110]
  refine cutW (tabK_mono _) [(4, .bool (decide (VL u) && decide (allE xs u.length)))] (by rw [← allE_any]; simp [hu, hx]; grind) ?_
  simp
noncomputable def fm_latAt : Fam Try.prog := mkFam (X := List Int × List Int) 110 true (fun (u, xs) => [IL u, IL xs]) (fun (u, xs) => (Big u.length) ∧ (Big xs.length)) (fun (u, xs) => .bool (decide (VL u) && decide (allE xs u.length))) (by
  rintro ⟨u, xs⟩ ⟨hu, hx⟩
  exact latAt_pc u xs hu hx)
@[simp] theorem fm_latAt_id : fm_latAt.id = 110 := rfl
@[simp] theorem fm_latAt_fresh : fm_latAt.fresh = true := rfl
@[simp] theorem fm_latAt_look (u : List Int) (xs : List Int) (hu : Big u.length) (hx : Big xs.length) : fm_latAt.look [IL u, IL xs] = some (.bool (decide (VL u) && decide (allE xs u.length))) :=
  lookF_of (X := List Int × List Int) (args := fun (u, xs) => [IL u, IL xs]) (pre := fun (u, xs) => (Big u.length) ∧ (Big xs.length)) (val := fun (u, xs) => .bool (decide (VL u) && decide (allE xs u.length))) (by
  rintro ⟨u, xs⟩ ⟨u', xs'⟩ h
  simp at h
  try simp only [and_assoc] at h
  obtain ⟨rfl, rfl⟩ := h
  rfl) (u, xs) ⟨hu, hx⟩
attribute [irreducible] fm_latAt
noncomputable def BeM (u : List Int) (x y : Int) : Bool := decide (VL u) && (inE u.length x && inE u.length y) && tb u x.toNat y.toNat
noncomputable def MeM (u : List Int) (x y : Int) : Int := if decide (VL u) && (inE u.length x && inE u.length y) then meetM u x.toNat y.toNat else -1
noncomputable def JoM (u : List Int) (x y : Int) : Int := if decide (VL u) && (inE u.length x && inE u.length y) then joinM u x.toNat y.toNat else -1
theorem BelowI_pc (u : List Int) (x y : Int) (hu : Big u.length) : PC Try.prog 38 [IL u, I64 x, I64 y] none true (fun r _ => r = .bool (BeM u x y)) := by
  have l1 : fm_latAt.look [IL u, .list 1 [.int .i64 x, .int .i64 y]] = some (.bool (decide (VL u) && decide (allE [x, y] u.length))) := fm_latAt_look u [x, y] hu (by unfold Big; simp)
  rw [allE_two] at l1
  refine pcT [fm_latAt, fm_belowI] fok_38 ?_
  simp [fa_38]
  unfold BeM
  refine cutW (tabK_mono _) [(6, .bool (decide (VL u) && (inE u.length x && inE u.length y) && tb u x.toNat y.toNat))] (by
    cases hb : (decide (VL u) && (inE u.length x && inE u.length y))
    · rw [hb] at l1
      simp [l1, show List.range 2 = [0, 1] from rfl]
    · have h := hb
      rw [hb] at l1
      simp only [Bool.and_eq_true, decide_eq_true_eq, inE_iff] at h
      simp [l1, h.1.six, h.2, show List.range 2 = [0, 1] from rfl]) ?_
  simp
noncomputable def fm_BelowI : Fam Try.prog := mkFam (X := List Int × Int × Int) 38 true (fun (u, x, y) => [IL u, I64 x, I64 y]) (fun (u, x, y) => (Big u.length)) (fun (u, x, y) => .bool (BeM u x y)) (by
  rintro ⟨u, x, y⟩ hu
  exact BelowI_pc u x y hu)
@[simp] theorem fm_BelowI_id : fm_BelowI.id = 38 := rfl
@[simp] theorem fm_BelowI_fresh : fm_BelowI.fresh = true := rfl
@[simp] theorem fm_BelowI_look (u : List Int) (x y : Int) (hu : Big u.length) : fm_BelowI.look [IL u, I64 x, I64 y] = some (.bool (BeM u x y)) :=
  lookF_of (X := List Int × Int × Int) (args := fun (u, x, y) => [IL u, I64 x, I64 y]) (pre := fun (u, x, y) => (Big u.length)) (val := fun (u, x, y) => .bool (BeM u x y)) (by
  rintro ⟨u, x, y⟩ ⟨u', x', y'⟩ h
  simp at h
  try simp only [and_assoc] at h
  obtain ⟨rfl, rfl, rfl⟩ := h
  rfl) (u, x, y) hu
attribute [irreducible] fm_BelowI
theorem MeetI_pc (u : List Int) (x y : Int) (hu : Big u.length) : PC Try.prog 39 [IL u, I64 x, I64 y] none true (fun r _ => r = I64 (MeM u x y)) := by
  have l1 : fm_latAt.look [IL u, .list 1 [.int .i64 x, .int .i64 y]] = some (.bool (decide (VL u) && decide (allE [x, y] u.length))) := fm_latAt_look u [x, y] hu (by unfold Big; simp)
  rw [allE_two] at l1
  refine pcT [fm_latAt, fm_meetI] fok_39 ?_
  unfold MeM
  cases hb : (decide (VL u) && (inE u.length x && inE u.length y))
  · rw [hb] at l1
    simp [fa_39, l1, show List.range 2 = [0, 1] from rfl]
  · have h := hb
    rw [hb] at l1
    simp only [Bool.and_eq_true, decide_eq_true_eq, inE_iff] at h
    simp [fa_39, l1, h.1.six, h.2, show List.range 2 = [0, 1] from rfl]
noncomputable def fm_MeetI : Fam Try.prog := mkFam (X := List Int × Int × Int) 39 true (fun (u, x, y) => [IL u, I64 x, I64 y]) (fun (u, x, y) => (Big u.length)) (fun (u, x, y) => I64 (MeM u x y)) (by
  rintro ⟨u, x, y⟩ hu
  exact MeetI_pc u x y hu)
@[simp] theorem fm_MeetI_id : fm_MeetI.id = 39 := rfl
@[simp] theorem fm_MeetI_fresh : fm_MeetI.fresh = true := rfl
@[simp] theorem fm_MeetI_look (u : List Int) (x y : Int) (hu : Big u.length) : fm_MeetI.look [IL u, I64 x, I64 y] = some (I64 (MeM u x y)) :=
  lookF_of (X := List Int × Int × Int) (args := fun (u, x, y) => [IL u, I64 x, I64 y]) (pre := fun (u, x, y) => (Big u.length)) (val := fun (u, x, y) => I64 (MeM u x y)) (by
  rintro ⟨u, x, y⟩ ⟨u', x', y'⟩ h
  simp at h
  try simp only [and_assoc] at h
  obtain ⟨rfl, rfl, rfl⟩ := h
  rfl) (u, x, y) hu
attribute [irreducible] fm_MeetI
theorem JoinI_pc (u : List Int) (x y : Int) (hu : Big u.length) : PC Try.prog 66 [IL u, I64 x, I64 y] none true (fun r _ => r = I64 (JoM u x y)) := by
  have l1 : fm_latAt.look [IL u, .list 1 [.int .i64 x, .int .i64 y]] = some (.bool (decide (VL u) && decide (allE [x, y] u.length))) := fm_latAt_look u [x, y] hu (by unfold Big; simp)
  rw [allE_two] at l1
  refine pcT [fm_latAt, fm_joinI] fok_66 ?_
  unfold JoM
  cases hb : (decide (VL u) && (inE u.length x && inE u.length y))
  · rw [hb] at l1
    simp [fa_66, l1, show List.range 2 = [0, 1] from rfl]
  · have h := hb
    rw [hb] at l1
    simp only [Bool.and_eq_true, decide_eq_true_eq, inE_iff] at h
    simp [fa_66, l1, h.1.sm, h.2, show List.range 2 = [0, 1] from rfl]
noncomputable def fm_JoinI : Fam Try.prog := mkFam (X := List Int × Int × Int) 66 true (fun (u, x, y) => [IL u, I64 x, I64 y]) (fun (u, x, y) => (Big u.length)) (fun (u, x, y) => I64 (JoM u x y)) (by
  rintro ⟨u, x, y⟩ hu
  exact JoinI_pc u x y hu)
@[simp] theorem fm_JoinI_id : fm_JoinI.id = 66 := rfl
@[simp] theorem fm_JoinI_fresh : fm_JoinI.fresh = true := rfl
@[simp] theorem fm_JoinI_look (u : List Int) (x y : Int) (hu : Big u.length) : fm_JoinI.look [IL u, I64 x, I64 y] = some (I64 (JoM u x y)) :=
  lookF_of (X := List Int × Int × Int) (args := fun (u, x, y) => [IL u, I64 x, I64 y]) (pre := fun (u, x, y) => (Big u.length)) (val := fun (u, x, y) => I64 (JoM u x y)) (by
  rintro ⟨u, x, y⟩ ⟨u', x', y'⟩ h
  simp at h
  try simp only [and_assoc] at h
  obtain ⟨rfl, rfl, rfl⟩ := h
  rfl) (u, x, y) hu
attribute [irreducible] fm_JoinI
theorem ValidS_pc (u : List Int) (t : List (List Int)) (hu : Big u.length) (ht : BigR t) : PC Try.prog 37 [AL u t] none true (fun r _ => r = .bool (decide (VA u t))) := by
  refine pcT [fm_validAlgebraS] fok_37 ?_
  simp [fa_37, hu, ht]
noncomputable def fm_ValidS : Fam Try.prog := mkFam (X := List Int × List (List Int)) 37 true (fun (u, t) => [AL u t]) (fun (u, t) => (Big u.length) ∧ (BigR t)) (fun (u, t) => .bool (decide (VA u t))) (by
  rintro ⟨u, t⟩ ⟨hu, ht⟩
  exact ValidS_pc u t hu ht)
@[simp] theorem fm_ValidS_id : fm_ValidS.id = 37 := rfl
@[simp] theorem fm_ValidS_fresh : fm_ValidS.fresh = true := rfl
@[simp] theorem fm_ValidS_look (u : List Int) (t : List (List Int)) (hu : Big u.length) (ht : BigR t) : fm_ValidS.look [AL u t] = some (.bool (decide (VA u t))) :=
  lookF_of (X := List Int × List (List Int)) (args := fun (u, t) => [AL u t]) (pre := fun (u, t) => (Big u.length) ∧ (BigR t)) (val := fun (u, t) => .bool (decide (VA u t))) (by
  rintro ⟨u, t⟩ ⟨u', t'⟩ h
  simp at h
  try simp only [and_assoc] at h
  obtain ⟨rfl, rfl⟩ := h
  rfl) (u, t) ⟨hu, ht⟩
attribute [irreducible] fm_ValidS
end Go.PS
end

section
-- What the laws of elements have in common; the law of products.
set_option maxRecDepth 100000
set_option linter.unusedVariables false
set_option linter.unusedSimpArgs false
namespace Go.PS
open Go.Proofs

section
variable {u : List Int} {t : List (List Int)} {x y z : Nat}
theorem inE_nat (h : x < u.length) : inE u.length (x : Int) = true := by simp [inE, h]
theorem BeM_nat (v : VL u) (hx : x < u.length) (hy : y < u.length) : BeM u x y = tb u x y := by simp [BeM, v, inE_nat hx, inE_nat hy]
theorem MeM_nat (v : VL u) (hx : x < u.length) (hy : y < u.length) : MeM u x y = (mt u x y : Nat) := by simp [MeM, v, inE_nat hx, inE_nat hy, ← v.mt_int hx hy]
theorem ImM_nat (a : VA u t) (hx : x < u.length) (hy : y < u.length) : ImM u t x y = (im u t x y : Nat) := by simp [ImM, a, inE_nat hx, inE_nat hy, ← a.im_int]
theorem NoM_nat (a : VA u t) (hx : x < u.length) : NoM u t x = (im u t x 0 : Nat) := by simp [NoM, a, inE_nat hx, ← a.im_int]
theorem NeM_nat (a : VA u t) (hx : x < u.length) (hy : y < u.length) : NeM u t x y = (nr u t x y : Nat) := by
  have h1 : (nr u t x y : Int) = tm t (im u t x y) (im u t y x) := (a.tn_int a.im_lt a.im_lt).symm
  simp only [NeM, a, inE_nat hx, inE_nat hy, decide_true, Bool.and_self, if_true, Int.toNat_natCast, h1]
theorem elems (h : (inE u.length x = true)) : True := trivial
end
theorem inE_ex {n : Nat} {x : Int} (h : inE n x = true) : ∃ k : Nat, x = k ∧ k < n := by
  rw [inE_iff] at h
  exact ⟨x.toNat, by omega, h.2⟩
theorem ImM_ex {u : List Int} {t : List (List Int)} {x y : Int} (h : ¬ ImM u t x y < 0) : ∃ (i j : Nat), x = i ∧ y = j ∧ i < u.length ∧ j < u.length ∧ VA u t := by
  unfold ImM at h
  split at h
  · rename_i hb
    simp only [Bool.and_eq_true, decide_eq_true_eq] at hb
    obtain ⟨i, rfl, hi⟩ := inE_ex hb.2.1
    obtain ⟨j, rfl, hj⟩ := inE_ex hb.2.2
    exact ⟨i, j, rfl, rfl, hi, hj, hb.1⟩
  · exact absurd (by decide) h

theorem NoM_ex {u : List Int} {t : List (List Int)} {x : Int} (h : ¬ NoM u t x < 0) : ∃ (i : Nat), x = i ∧ i < u.length ∧ VA u t := by
  unfold NoM at h
  split at h
  · rename_i hb
    simp only [Bool.and_eq_true, decide_eq_true_eq] at hb
    obtain ⟨i, rfl, hi⟩ := inE_ex hb.2
    exact ⟨i, rfl, hi, hb.1⟩
  · exact absurd (by decide) h
theorem NeM_ex {u : List Int} {t : List (List Int)} {x y : Int} (h : ¬ NeM u t x y < 0) : ∃ (i j : Nat), x = i ∧ y = j ∧ i < u.length ∧ j < u.length ∧ VA u t := by
  unfold NeM at h
  split at h
  · rename_i hb
    simp only [Bool.and_eq_true, decide_eq_true_eq] at hb
    obtain ⟨i, rfl, hi⟩ := inE_ex hb.2.1
    obtain ⟨j, rfl, hj⟩ := inE_ex hb.2.2
    exact ⟨i, j, rfl, rfl, hi, hj, hb.1⟩
  · exact absurd (by decide) h
theorem PoM_ex {u : List Int} {t : List (List Int)} {x k : Int} (h : ¬ PoM u t x k < 0) : ∃ (i e : Nat), x = i ∧ k = e ∧ i < u.length ∧ e ≤ 20 ∧ VA u t := by
  unfold PoM at h
  split at h
  · rename_i hb
    simp only [Bool.and_eq_true, decide_eq_true_eq] at hb
    obtain ⟨i, rfl, hi⟩ := inE_ex hb.1.2
    exact ⟨i, k.toNat, rfl, by omega, hi, by omega, hb.1.1⟩
  · exact absurd (by decide) h
theorem PoM_nat {u : List Int} {t : List (List Int)} {x e : Nat} (a : VA u t) (hx : x < u.length) (he : e ≤ 20) : PoM u t x e = powM u t x e := by
  simp [PoM, a, inE_nat hx]; omega


set_option maxHeartbeats 2000000 in
theorem FnValidAlgebra_pc (c : List Int) (hl : Hu c.length) (hc : Byt c) : PC Try.prog 6 [BL c] none true (fun r _ => r = .bool true) := by
  have hl' := hl.le
  refine pcT [fm_drVA, fm_validAlgebraI, fm_ValidS, fm_BelowI, fm_MeetI, fm_validLatticeI] fok_6 ?_
  rcases Nat.lt_or_ge 1048576 c.length with q | q
  · simp [fa_6, show ((1048576 : Int) < c.length) by omega]
  · have hbig : Big c.length := by unfold Big; omega
    have l1 := fm_drVA_look c hc hbig
    obtain ⟨g, _⟩ := saM_few (rdB_ok hc) (p := 0) (by omega)
    have hu := g.big
    have ht := g.bigR
    generalize saM (rdB c) 0 = A at *
    obtain ⟨⟨u, t⟩, p1⟩ := A
    dsimp only at *
    simp [fa_6, show ¬ ((1048576 : Int) < c.length) by omega, show ((c.length : Int) ≤ 1048576) by omega, l1, hu, ht]
    refine cutW (tabK_mono _) [(22, .bool (!decide (VA u t)))] (by simp [hu, ht]) ?_
    simp [hu, ht]
    refine fun a => ?_
    have v := a.lat
    have hul := hu.le
    refine loopA (tabK_mono _) u.length (fun z => [(6, I64 z)]) (fun _ => [⟨24, 1, .cells [IL u, RL t]⟩]) (fun _ => True) (by simp) (by simp) (fun i g hi0 _ => ?_)
    simp [lb_6_9, wrap_succ hi0 hul]
    refine ⟨fun hi => ?_, fun _ => ?_⟩
    · refine loopA (tabK_mono _) u.length (fun z => [(7, I64 z)]) (fun _ => [⟨24, 1, .cells [IL u, RL t]⟩]) (fun _ => True) (by simp) (by simp) (fun j g2 hj0 _ => ?_)
      simp [lb_6_12, wrap_succ hj0 hul]
      refine ⟨fun hj => ?_, fun _ => ?_⟩
      · have m1 := fm_MeetI_look u i j hu
        rw [MeM_nat v hi hj] at m1
        have s1 := v.mt_lt hi hj
        have s2 := a.tn_lt hi hj
        have s3 := a.tn_int hi hj
        have s4 : tb u (tn t i j) (mt u i j) = true := v.le_mt hi hj s2 (a.le_l hi hj) (a.le_r hi hj)
        generalize mt u i j = k at *
        generalize tn t i j = w at *
        have m2 := fm_BelowI_look u w k hu
        rw [BeM_nat v s2 s1, s4] at m2
        simp [hi, hj, a.len, a.rows, m1, m2, s3, wrap_succ hj0 hul]
      · simp [wrap_succ hi0 hul, hi]
    · simp [hu, v]
end Go.PS
end
