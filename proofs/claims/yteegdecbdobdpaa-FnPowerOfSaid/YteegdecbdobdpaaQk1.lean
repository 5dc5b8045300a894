/- Part 1 of what the last text proves: Powers fall: the law holds at every input. -/
import Derived.Test.YteegdecbdobdpaaQg8
section
-- PRINTED by mkdraw.py: the draw of an algebra and an element and an exponent.
set_option maxRecDepth 100000
set_option linter.unusedVariables false
set_option linter.unusedSimpArgs false
namespace Go.PS
open Go.Proofs
set_option maxHeartbeats 4000000 in
theorem power_dag {Q : St → Prop} {b : List Int} {p : Nat} {u : List Int} {t : List (List Int)} {y z : Int} (l0 : fw_element.look [.ptr 0 0 0, I64 u.length] (RS b p) = some (I64 y, RS b (p + 2))) (l1 : fw_one.look [.ptr 0 0 0, .list 1 [.int .i64 2, .int .i64 1, .int .i64 3, .int .i64 0, .int .i64 5, .int .i64 20, .int .i64 21, .int .i64 (-1)]] (RS b (p + 2)) = some (I64 z, RS b (p + 3)))
    (hQ : ∀ tb g, getT tb 2 = .ptr 16 1 0 → getT tb 3 = I64 y → getT tb 4 = I64 z → Q ⟨tb, [⟨48, 3,  .cells [IL u, RL t]⟩, ⟨4080, 2, .cells (RS b (p + 3))⟩, ⟨16, 1, .cells [IL u, RL t]⟩], g⟩) : ∀ tb g, getT tb 2 = .ptr 16 1 0 → getT tb 5 = .ptr 4080 2 0 → getT tb 6 = .ptr 48 3 0 → exT (CI inlR) 0 (inlW (CI inlR) [] [fw_someAlg, fw_element, fw_one] 1 0) ro_45_3 Q ex_45_3_0 ⟨tb, [⟨48, 3,  .cells [IL u, RL t]⟩, ⟨4080, 2, .cells (RS b (p))⟩, ⟨16, 1, .cells [.nil, .nil]⟩], g⟩ := by
  have n4095 : ∀ tb g, getT tb 2 = .ptr 16 1 0 → getT tb 5 = .ptr 4080 2 0 → getT tb 6 = .ptr 48 3 0 → getT tb 11 = AL u t → getT tb 12 = .ptr 4080 2 0 → getT tb 13 = .ptr 48 3 0 → getT tb 14 = IL u → getT tb 15 = I64 (u.length : Int) → getT tb 16 = I64 y → getT tb 17 = .ptr 4080 2 0 → getT tb 18 = .list 1 [.int .i64 2, .int .i64 1, .int .i64 3, .int .i64 0, .int .i64 5, .int .i64 20, .int .i64 21, .int .i64 (-1)] → getT tb 19 = I64 z → getT tb 3 = I64 y → getT tb 4 = I64 z → exT (CI inlR) 0 (inlW (CI inlR) [] [fw_someAlg, fw_element, fw_one] 1 0) ro_45_3 Q ex_45_3_4095 ⟨tb, [⟨48, 3,  .cells [IL u, RL t]⟩, ⟨4080, 2, .cells (RS b (p + 3))⟩, ⟨16, 1, .cells [IL u, RL t]⟩], g⟩ := by
    intro tb g e2 e5 e6 e11 e12 e13 e14 e15 e16 e17 e18 e19 e3 e4
    unfold ex_45_3_4095
    exact hQ tb g e2 e3 e4
  have n2047 : ∀ tb g, getT tb 2 = .ptr 16 1 0 → getT tb 5 = .ptr 4080 2 0 → getT tb 6 = .ptr 48 3 0 → getT tb 11 = AL u t → getT tb 12 = .ptr 4080 2 0 → getT tb 13 = .ptr 48 3 0 → getT tb 14 = IL u → getT tb 15 = I64 (u.length : Int) → getT tb 16 = I64 y → getT tb 17 = .ptr 4080 2 0 → getT tb 18 = .list 1 [.int .i64 2, .int .i64 1, .int .i64 3, .int .i64 0, .int .i64 5, .int .i64 20, .int .i64 21, .int .i64 (-1)] → getT tb 19 = I64 z → getT tb 3 = I64 y → exT (CI inlR) 0 (inlW (CI inlR) [] [fw_someAlg, fw_element, fw_one] 1 0) ro_45_3 Q ex_45_3_2047 ⟨tb, [⟨48, 3,  .cells [IL u, RL t]⟩, ⟨4080, 2, .cells (RS b (p + 3))⟩, ⟨16, 1, .cells [IL u, RL t]⟩], g⟩ := by
    intro tb g e2 e5 e6 e11 e12 e13 e14 e15 e16 e17 e18 e19 e3
    unfold ex_45_3_2047
    simp only [exT_alt, exT_one, exT_stop, and_true]
    rw [ro_45_3_11]
    simp [callDOWR, l0, l1, rg8, e2, e5, e6, e11, e12, e13, e14, e15, e16, e17, e18, e19, e3]
    refine n4095 _ _ ?_ ?_ ?_ ?_ ?_ ?_ ?_ ?_ ?_ ?_ ?_ ?_ ?_ ?_ <;> simp [getT, e2, e5, e6, e11, e12, e13, e14, e15, e16, e17, e18, e19, e3]
  have n1023 : ∀ tb g, getT tb 2 = .ptr 16 1 0 → getT tb 5 = .ptr 4080 2 0 → getT tb 6 = .ptr 48 3 0 → getT tb 11 = AL u t → getT tb 12 = .ptr 4080 2 0 → getT tb 13 = .ptr 48 3 0 → getT tb 14 = IL u → getT tb 15 = I64 (u.length : Int) → getT tb 16 = I64 y → getT tb 17 = .ptr 4080 2 0 → getT tb 18 = .list 1 [.int .i64 2, .int .i64 1, .int .i64 3, .int .i64 0, .int .i64 5, .int .i64 20, .int .i64 21, .int .i64 (-1)] → getT tb 19 = I64 z → exT (CI inlR) 0 (inlW (CI inlR) [] [fw_someAlg, fw_element, fw_one] 1 0) ro_45_3 Q ex_45_3_1023 ⟨tb, [⟨48, 3,  .cells [IL u, RL t]⟩, ⟨4080, 2, .cells (RS b (p + 3))⟩, ⟨16, 1, .cells [IL u, RL t]⟩], g⟩ := by
    intro tb g e2 e5 e6 e11 e12 e13 e14 e15 e16 e17 e18 e19
    unfold ex_45_3_1023
    simp only [exT_alt, exT_one, exT_stop, and_true]
    rw [ro_45_3_10]
    simp [callDOWR, l0, l1, rg8, e2, e5, e6, e11, e12, e13, e14, e15, e16, e17, e18, e19]
    refine n2047 _ _ ?_ ?_ ?_ ?_ ?_ ?_ ?_ ?_ ?_ ?_ ?_ ?_ ?_ <;> simp [getT, e2, e5, e6, e11, e12, e13, e14, e15, e16, e17, e18, e19]
  have n511 : ∀ tb g, getT tb 2 = .ptr 16 1 0 → getT tb 5 = .ptr 4080 2 0 → getT tb 6 = .ptr 48 3 0 → getT tb 11 = AL u t → getT tb 12 = .ptr 4080 2 0 → getT tb 13 = .ptr 48 3 0 → getT tb 14 = IL u → getT tb 15 = I64 (u.length : Int) → getT tb 16 = I64 y → getT tb 17 = .ptr 4080 2 0 → getT tb 18 = .list 1 [.int .i64 2, .int .i64 1, .int .i64 3, .int .i64 0, .int .i64 5, .int .i64 20, .int .i64 21, .int .i64 (-1)] → getT tb 19 = I64 z → exT (CI inlR) 0 (inlW (CI inlR) [] [fw_someAlg, fw_element, fw_one] 1 0) ro_45_3 Q ex_45_3_511 ⟨tb, [⟨48, 3,  .cells [IL u, RL t]⟩, ⟨4080, 2, .cells (RS b (p + 3))⟩, ⟨16, 1, .cells [.nil, .nil]⟩], g⟩ := by
    intro tb g e2 e5 e6 e11 e12 e13 e14 e15 e16 e17 e18 e19
    unfold ex_45_3_511
    simp only [exT_alt, exT_one, exT_stop, and_true]
    rw [ro_45_3_9]
    simp [callDOWR, l0, l1, rg8, e2, e5, e6, e11, e12, e13, e14, e15, e16, e17, e18, e19]
    refine n1023 _ _ ?_ ?_ ?_ ?_ ?_ ?_ ?_ ?_ ?_ ?_ ?_ ?_ <;> simp [getT, e2, e5, e6, e11, e12, e13, e14, e15, e16, e17, e18, e19]
  have n510 : ∀ tb g, getT tb 2 = .ptr 16 1 0 → getT tb 5 = .ptr 4080 2 0 → getT tb 6 = .ptr 48 3 0 → getT tb 12 = .ptr 4080 2 0 → getT tb 13 = .ptr 48 3 0 → getT tb 14 = IL u → getT tb 15 = I64 (u.length : Int) → getT tb 16 = I64 y → getT tb 17 = .ptr 4080 2 0 → getT tb 18 = .list 1 [.int .i64 2, .int .i64 1, .int .i64 3, .int .i64 0, .int .i64 5, .int .i64 20, .int .i64 21, .int .i64 (-1)] → getT tb 19 = I64 z → exT (CI inlR) 0 (inlW (CI inlR) [] [fw_someAlg, fw_element, fw_one] 1 0) ro_45_3 Q ex_45_3_510 ⟨tb, [⟨48, 3,  .cells [IL u, RL t]⟩, ⟨4080, 2, .cells (RS b (p + 3))⟩, ⟨16, 1, .cells [.nil, .nil]⟩], g⟩ := by
    intro tb g e2 e5 e6 e12 e13 e14 e15 e16 e17 e18 e19
    unfold ex_45_3_510
    simp only [exT_alt, exT_one, exT_stop, and_true]
    rw [ro_45_3_0]
    simp [callDOWR, l0, l1, rg8, e2, e5, e6, e12, e13, e14, e15, e16, e17, e18, e19]
    refine n511 _ _ ?_ ?_ ?_ ?_ ?_ ?_ ?_ ?_ ?_ ?_ ?_ ?_ <;> simp [getT, e2, e5, e6, e12, e13, e14, e15, e16, e17, e18, e19]
  have n255 : ∀ tb g, getT tb 2 = .ptr 16 1 0 → getT tb 5 = .ptr 4080 2 0 → getT tb 6 = .ptr 48 3 0 → getT tb 11 = AL u t → getT tb 12 = .ptr 4080 2 0 → getT tb 13 = .ptr 48 3 0 → getT tb 14 = IL u → getT tb 15 = I64 (u.length : Int) → getT tb 16 = I64 y → getT tb 17 = .ptr 4080 2 0 → getT tb 18 = .list 1 [.int .i64 2, .int .i64 1, .int .i64 3, .int .i64 0, .int .i64 5, .int .i64 20, .int .i64 21, .int .i64 (-1)] → exT (CI inlR) 0 (inlW (CI inlR) [] [fw_someAlg, fw_element, fw_one] 1 0) ro_45_3 Q ex_45_3_255 ⟨tb, [⟨48, 3,  .cells [IL u, RL t]⟩, ⟨4080, 2, .cells (RS b (p + 2))⟩, ⟨16, 1, .cells [.nil, .nil]⟩], g⟩ := by
    intro tb g e2 e5 e6 e11 e12 e13 e14 e15 e16 e17 e18
    unfold ex_45_3_255
    simp only [exT_alt, exT_one, exT_stop, and_true]
    rw [ro_45_3_8]
    simp [callDOWR, l0, l1, rg8, e2, e5, e6, e11, e12, e13, e14, e15, e16, e17, e18]
    refine n511 _ _ ?_ ?_ ?_ ?_ ?_ ?_ ?_ ?_ ?_ ?_ ?_ ?_ <;> simp [getT, e2, e5, e6, e11, e12, e13, e14, e15, e16, e17, e18]
  have n254 : ∀ tb g, getT tb 2 = .ptr 16 1 0 → getT tb 5 = .ptr 4080 2 0 → getT tb 6 = .ptr 48 3 0 → getT tb 12 = .ptr 4080 2 0 → getT tb 13 = .ptr 48 3 0 → getT tb 14 = IL u → getT tb 15 = I64 (u.length : Int) → getT tb 16 = I64 y → getT tb 17 = .ptr 4080 2 0 → getT tb 18 = .list 1 [.int .i64 2, .int .i64 1, .int .i64 3, .int .i64 0, .int .i64 5, .int .i64 20, .int .i64 21, .int .i64 (-1)] → exT (CI inlR) 0 (inlW (CI inlR) [] [fw_someAlg, fw_element, fw_one] 1 0) ro_45_3 Q ex_45_3_254 ⟨tb, [⟨48, 3,  .cells [IL u, RL t]⟩, ⟨4080, 2, .cells (RS b (p + 2))⟩, ⟨16, 1, .cells [.nil, .nil]⟩], g⟩ := by
    intro tb g e2 e5 e6 e12 e13 e14 e15 e16 e17 e18
    unfold ex_45_3_254
    simp only [exT_alt, exT_one, exT_stop, and_true]
    refine ⟨?_, ?_⟩
    · rw [ro_45_3_0]
      simp [callDOWR, l0, l1, rg8, e2, e5, e6, e12, e13, e14, e15, e16, e17, e18]
      refine n255 _ _ ?_ ?_ ?_ ?_ ?_ ?_ ?_ ?_ ?_ ?_ ?_ <;> simp [getT, e2, e5, e6, e12, e13, e14, e15, e16, e17, e18]
    · rw [ro_45_3_8]
      simp [callDOWR, l0, l1, rg8, e2, e5, e6, e12, e13, e14, e15, e16, e17, e18]
      refine n510 _ _ ?_ ?_ ?_ ?_ ?_ ?_ ?_ ?_ ?_ ?_ ?_ <;> simp [getT, e2, e5, e6, e12, e13, e14, e15, e16, e17, e18]
  have n223 : ∀ tb g, getT tb 2 = .ptr 16 1 0 → getT tb 5 = .ptr 4080 2 0 → getT tb 6 = .ptr 48 3 0 → getT tb 11 = AL u t → getT tb 12 = .ptr 4080 2 0 → getT tb 13 = .ptr 48 3 0 → getT tb 14 = IL u → getT tb 15 = I64 (u.length : Int) → getT tb 17 = .ptr 4080 2 0 → getT tb 18 = .list 1 [.int .i64 2, .int .i64 1, .int .i64 3, .int .i64 0, .int .i64 5, .int .i64 20, .int .i64 21, .int .i64 (-1)] → exT (CI inlR) 0 (inlW (CI inlR) [] [fw_someAlg, fw_element, fw_one] 1 0) ro_45_3 Q ex_45_3_223 ⟨tb, [⟨48, 3,  .cells [IL u, RL t]⟩, ⟨4080, 2, .cells (RS b (p))⟩, ⟨16, 1, .cells [.nil, .nil]⟩], g⟩ := by
    intro tb g e2 e5 e6 e11 e12 e13 e14 e15 e17 e18
    unfold ex_45_3_223
    simp only [exT_alt, exT_one, exT_stop, and_true]
    rw [ro_45_3_5]
    simp [callDOWR, l0, l1, rg8, e2, e5, e6, e11, e12, e13, e14, e15, e17, e18]
    refine n255 _ _ ?_ ?_ ?_ ?_ ?_ ?_ ?_ ?_ ?_ ?_ ?_ <;> simp [getT, e2, e5, e6, e11, e12, e13, e14, e15, e17, e18]
  have n222 : ∀ tb g, getT tb 2 = .ptr 16 1 0 → getT tb 5 = .ptr 4080 2 0 → getT tb 6 = .ptr 48 3 0 → getT tb 12 = .ptr 4080 2 0 → getT tb 13 = .ptr 48 3 0 → getT tb 14 = IL u → getT tb 15 = I64 (u.length : Int) → getT tb 17 = .ptr 4080 2 0 → getT tb 18 = .list 1 [.int .i64 2, .int .i64 1, .int .i64 3, .int .i64 0, .int .i64 5, .int .i64 20, .int .i64 21, .int .i64 (-1)] → exT (CI inlR) 0 (inlW (CI inlR) [] [fw_someAlg, fw_element, fw_one] 1 0) ro_45_3 Q ex_45_3_222 ⟨tb, [⟨48, 3,  .cells [IL u, RL t]⟩, ⟨4080, 2, .cells (RS b (p))⟩, ⟨16, 1, .cells [.nil, .nil]⟩], g⟩ := by
    intro tb g e2 e5 e6 e12 e13 e14 e15 e17 e18
    unfold ex_45_3_222
    simp only [exT_alt, exT_one, exT_stop, and_true]
    refine ⟨?_, ?_⟩
    · rw [ro_45_3_0]
      simp [callDOWR, l0, l1, rg8, e2, e5, e6, e12, e13, e14, e15, e17, e18]
      refine n223 _ _ ?_ ?_ ?_ ?_ ?_ ?_ ?_ ?_ ?_ ?_ <;> simp [getT, e2, e5, e6, e12, e13, e14, e15, e17, e18]
    · rw [ro_45_3_5]
      simp [callDOWR, l0, l1, rg8, e2, e5, e6, e12, e13, e14, e15, e17, e18]
      refine n254 _ _ ?_ ?_ ?_ ?_ ?_ ?_ ?_ ?_ ?_ ?_ <;> simp [getT, e2, e5, e6, e12, e13, e14, e15, e17, e18]
  have n207 : ∀ tb g, getT tb 2 = .ptr 16 1 0 → getT tb 5 = .ptr 4080 2 0 → getT tb 6 = .ptr 48 3 0 → getT tb 11 = AL u t → getT tb 12 = .ptr 4080 2 0 → getT tb 13 = .ptr 48 3 0 → getT tb 14 = IL u → getT tb 17 = .ptr 4080 2 0 → getT tb 18 = .list 1 [.int .i64 2, .int .i64 1, .int .i64 3, .int .i64 0, .int .i64 5, .int .i64 20, .int .i64 21, .int .i64 (-1)] → exT (CI inlR) 0 (inlW (CI inlR) [] [fw_someAlg, fw_element, fw_one] 1 0) ro_45_3 Q ex_45_3_207 ⟨tb, [⟨48, 3,  .cells [IL u, RL t]⟩, ⟨4080, 2, .cells (RS b (p))⟩, ⟨16, 1, .cells [.nil, .nil]⟩], g⟩ := by
    intro tb g e2 e5 e6 e11 e12 e13 e14 e17 e18
    unfold ex_45_3_207
    simp only [exT_alt, exT_one, exT_stop, and_true]
    rw [ro_45_3_4]
    simp [callDOWR, l0, l1, rg8, e2, e5, e6, e11, e12, e13, e14, e17, e18]
    refine n223 _ _ ?_ ?_ ?_ ?_ ?_ ?_ ?_ ?_ ?_ ?_ <;> simp [getT, e2, e5, e6, e11, e12, e13, e14, e17, e18]
  have n206 : ∀ tb g, getT tb 2 = .ptr 16 1 0 → getT tb 5 = .ptr 4080 2 0 → getT tb 6 = .ptr 48 3 0 → getT tb 12 = .ptr 4080 2 0 → getT tb 13 = .ptr 48 3 0 → getT tb 14 = IL u → getT tb 17 = .ptr 4080 2 0 → getT tb 18 = .list 1 [.int .i64 2, .int .i64 1, .int .i64 3, .int .i64 0, .int .i64 5, .int .i64 20, .int .i64 21, .int .i64 (-1)] → exT (CI inlR) 0 (inlW (CI inlR) [] [fw_someAlg, fw_element, fw_one] 1 0) ro_45_3 Q ex_45_3_206 ⟨tb, [⟨48, 3,  .cells [IL u, RL t]⟩, ⟨4080, 2, .cells (RS b (p))⟩, ⟨16, 1, .cells [.nil, .nil]⟩], g⟩ := by
    intro tb g e2 e5 e6 e12 e13 e14 e17 e18
    unfold ex_45_3_206
    simp only [exT_alt, exT_one, exT_stop, and_true]
    refine ⟨?_, ?_⟩
    · rw [ro_45_3_0]
      simp [callDOWR, l0, l1, rg8, e2, e5, e6, e12, e13, e14, e17, e18]
      refine n207 _ _ ?_ ?_ ?_ ?_ ?_ ?_ ?_ ?_ ?_ <;> simp [getT, e2, e5, e6, e12, e13, e14, e17, e18]
    · rw [ro_45_3_4]
      simp [callDOWR, l0, l1, rg8, e2, e5, e6, e12, e13, e14, e17, e18]
      refine n222 _ _ ?_ ?_ ?_ ?_ ?_ ?_ ?_ ?_ ?_ <;> simp [getT, e2, e5, e6, e12, e13, e14, e17, e18]
  have n199 : ∀ tb g, getT tb 2 = .ptr 16 1 0 → getT tb 5 = .ptr 4080 2 0 → getT tb 6 = .ptr 48 3 0 → getT tb 11 = AL u t → getT tb 12 = .ptr 4080 2 0 → getT tb 13 = .ptr 48 3 0 → getT tb 17 = .ptr 4080 2 0 → getT tb 18 = .list 1 [.int .i64 2, .int .i64 1, .int .i64 3, .int .i64 0, .int .i64 5, .int .i64 20, .int .i64 21, .int .i64 (-1)] → exT (CI inlR) 0 (inlW (CI inlR) [] [fw_someAlg, fw_element, fw_one] 1 0) ro_45_3 Q ex_45_3_199 ⟨tb, [⟨48, 3,  .cells [IL u, RL t]⟩, ⟨4080, 2, .cells (RS b (p))⟩, ⟨16, 1, .cells [.nil, .nil]⟩], g⟩ := by
    intro tb g e2 e5 e6 e11 e12 e13 e17 e18
    unfold ex_45_3_199
    simp only [exT_alt, exT_one, exT_stop, and_true]
    rw [ro_45_3_3]
    simp [callDOWR, l0, l1, rg8, e2, e5, e6, e11, e12, e13, e17, e18]
    refine n207 _ _ ?_ ?_ ?_ ?_ ?_ ?_ ?_ ?_ ?_ <;> simp [getT, e2, e5, e6, e11, e12, e13, e17, e18]
  have n198 : ∀ tb g, getT tb 2 = .ptr 16 1 0 → getT tb 5 = .ptr 4080 2 0 → getT tb 6 = .ptr 48 3 0 → getT tb 12 = .ptr 4080 2 0 → getT tb 13 = .ptr 48 3 0 → getT tb 17 = .ptr 4080 2 0 → getT tb 18 = .list 1 [.int .i64 2, .int .i64 1, .int .i64 3, .int .i64 0, .int .i64 5, .int .i64 20, .int .i64 21, .int .i64 (-1)] → exT (CI inlR) 0 (inlW (CI inlR) [] [fw_someAlg, fw_element, fw_one] 1 0) ro_45_3 Q ex_45_3_198 ⟨tb, [⟨48, 3,  .cells [IL u, RL t]⟩, ⟨4080, 2, .cells (RS b (p))⟩, ⟨16, 1, .cells [.nil, .nil]⟩], g⟩ := by
    intro tb g e2 e5 e6 e12 e13 e17 e18
    unfold ex_45_3_198
    simp only [exT_alt, exT_one, exT_stop, and_true]
    refine ⟨?_, ?_⟩
    · rw [ro_45_3_0]
      simp [callDOWR, l0, l1, rg8, e2, e5, e6, e12, e13, e17, e18]
      refine n199 _ _ ?_ ?_ ?_ ?_ ?_ ?_ ?_ ?_ <;> simp [getT, e2, e5, e6, e12, e13, e17, e18]
    · rw [ro_45_3_3]
      simp [callDOWR, l0, l1, rg8, e2, e5, e6, e12, e13, e17, e18]
      refine n206 _ _ ?_ ?_ ?_ ?_ ?_ ?_ ?_ ?_ <;> simp [getT, e2, e5, e6, e12, e13, e17, e18]
  have n195 : ∀ tb g, getT tb 2 = .ptr 16 1 0 → getT tb 5 = .ptr 4080 2 0 → getT tb 6 = .ptr 48 3 0 → getT tb 11 = AL u t → getT tb 12 = .ptr 4080 2 0 → getT tb 17 = .ptr 4080 2 0 → getT tb 18 = .list 1 [.int .i64 2, .int .i64 1, .int .i64 3, .int .i64 0, .int .i64 5, .int .i64 20, .int .i64 21, .int .i64 (-1)] → exT (CI inlR) 0 (inlW (CI inlR) [] [fw_someAlg, fw_element, fw_one] 1 0) ro_45_3 Q ex_45_3_195 ⟨tb, [⟨48, 3,  .cells [IL u, RL t]⟩, ⟨4080, 2, .cells (RS b (p))⟩, ⟨16, 1, .cells [.nil, .nil]⟩], g⟩ := by
    intro tb g e2 e5 e6 e11 e12 e17 e18
    unfold ex_45_3_195
    simp only [exT_alt, exT_one, exT_stop, and_true]
    rw [ro_45_3_2]
    simp [callDOWR, l0, l1, rg8, e2, e5, e6, e11, e12, e17, e18]
    refine n199 _ _ ?_ ?_ ?_ ?_ ?_ ?_ ?_ ?_ <;> simp [getT, e2, e5, e6, e11, e12, e17, e18]
  have n194 : ∀ tb g, getT tb 2 = .ptr 16 1 0 → getT tb 5 = .ptr 4080 2 0 → getT tb 6 = .ptr 48 3 0 → getT tb 12 = .ptr 4080 2 0 → getT tb 17 = .ptr 4080 2 0 → getT tb 18 = .list 1 [.int .i64 2, .int .i64 1, .int .i64 3, .int .i64 0, .int .i64 5, .int .i64 20, .int .i64 21, .int .i64 (-1)] → exT (CI inlR) 0 (inlW (CI inlR) [] [fw_someAlg, fw_element, fw_one] 1 0) ro_45_3 Q ex_45_3_194 ⟨tb, [⟨48, 3,  .cells [IL u, RL t]⟩, ⟨4080, 2, .cells (RS b (p))⟩, ⟨16, 1, .cells [.nil, .nil]⟩], g⟩ := by
    intro tb g e2 e5 e6 e12 e17 e18
    unfold ex_45_3_194
    simp only [exT_alt, exT_one, exT_stop, and_true]
    refine ⟨?_, ?_⟩
    · rw [ro_45_3_0]
      simp [callDOWR, l0, l1, rg8, e2, e5, e6, e12, e17, e18]
      refine n195 _ _ ?_ ?_ ?_ ?_ ?_ ?_ ?_ <;> simp [getT, e2, e5, e6, e12, e17, e18]
    · rw [ro_45_3_2]
      simp [callDOWR, l0, l1, rg8, e2, e5, e6, e12, e17, e18]
      refine n198 _ _ ?_ ?_ ?_ ?_ ?_ ?_ ?_ <;> simp [getT, e2, e5, e6, e12, e17, e18]
  have n66 : ∀ tb g, getT tb 2 = .ptr 16 1 0 → getT tb 5 = .ptr 4080 2 0 → getT tb 6 = .ptr 48 3 0 → getT tb 12 = .ptr 4080 2 0 → getT tb 17 = .ptr 4080 2 0 → exT (CI inlR) 0 (inlW (CI inlR) [] [fw_someAlg, fw_element, fw_one] 1 0) ro_45_3 Q ex_45_3_66 ⟨tb, [⟨48, 3,  .cells [IL u, RL t]⟩, ⟨4080, 2, .cells (RS b (p))⟩, ⟨16, 1, .cells [.nil, .nil]⟩], g⟩ := by
    intro tb g e2 e5 e6 e12 e17
    unfold ex_45_3_66
    simp only [exT_alt, exT_one, exT_stop, and_true]
    rw [ro_45_3_7]
    simp [callDOWR, l0, l1, rg8, e2, e5, e6, e12, e17]
    refine n194 _ _ ?_ ?_ ?_ ?_ ?_ ?_ <;> simp [getT, e2, e5, e6, e12, e17]
  have n2 : ∀ tb g, getT tb 2 = .ptr 16 1 0 → getT tb 5 = .ptr 4080 2 0 → getT tb 6 = .ptr 48 3 0 → getT tb 12 = .ptr 4080 2 0 → exT (CI inlR) 0 (inlW (CI inlR) [] [fw_someAlg, fw_element, fw_one] 1 0) ro_45_3 Q ex_45_3_2 ⟨tb, [⟨48, 3,  .cells [IL u, RL t]⟩, ⟨4080, 2, .cells (RS b (p))⟩, ⟨16, 1, .cells [.nil, .nil]⟩], g⟩ := by
    intro tb g e2 e5 e6 e12
    unfold ex_45_3_2
    simp only [exT_alt, exT_one, exT_stop, and_true]
    rw [ro_45_3_6]
    simp [callDOWR, l0, l1, rg8, e2, e5, e6, e12]
    refine n66 _ _ ?_ ?_ ?_ ?_ ?_ <;> simp [getT, e2, e5, e6, e12]
  have n0 : ∀ tb g, getT tb 2 = .ptr 16 1 0 → getT tb 5 = .ptr 4080 2 0 → getT tb 6 = .ptr 48 3 0 → exT (CI inlR) 0 (inlW (CI inlR) [] [fw_someAlg, fw_element, fw_one] 1 0) ro_45_3 Q ex_45_3_0 ⟨tb, [⟨48, 3,  .cells [IL u, RL t]⟩, ⟨4080, 2, .cells (RS b (p))⟩, ⟨16, 1, .cells [.nil, .nil]⟩], g⟩ := by
    intro tb g e2 e5 e6
    unfold ex_45_3_0
    simp only [exT_alt, exT_one, exT_stop, and_true]
    rw [ro_45_3_1]
    simp [callDOWR, l0, l1, rg8, e2, e5, e6]
    refine n2 _ _ ?_ ?_ ?_ ?_ <;> simp [getT, e2, e5, e6]
  exact n0

theorem drPower_pc (c : List Int) (hc : Byt c) (hl : Big c.length) : PC Try.prog 45 [BL c] none false (fun r _ => r = .tup [AL (saM (rdB c) 0).1.1 (saM (rdB c) 0).1.2, I64 (elM (rdB c) (saM (rdB c) 0).2 (saM (rdB c) 0).1.1.length), I64 (gi [2, 1, 3, 0, 5, 20, 21, -1] (pkM (rdB c) ((saM (rdB c) 0).2 + 2) 8).toNat)]) := by
  have hl := hl.le
  have hb := rdB_ok hc
  have l1 := fw_someAlg_look (rdB c) 0 hb (by omega) (by omega)
  obtain ⟨g, q⟩ := saM_few hb (p := 0) (by omega)
  have hu := g.u
  have l2 := fw_element_look (rdB c) (saM (rdB c) 0).2 (saM (rdB c) 0).1.1.length hb (by omega) (by omega) (by omega)
  have l3 : fw_one.look [.ptr 0 0 0, .list 1 [.int .i64 2, .int .i64 1, .int .i64 3, .int .i64 0, .int .i64 5, .int .i64 20, .int .i64 21, .int .i64 (-1)]] (RS (rdB c) ((saM (rdB c) 0).2 + 2)) = some (I64 (gi [2, 1, 3, 0, 5, 20, 21, -1] (pkM (rdB c) ((saM (rdB c) 0).2 + 2) 8).toNat), RS (rdB c) ((saM (rdB c) 0).2 + 3)) := fw_one_look (rdB c) ((saM (rdB c) 0).2 + 2) [2, 1, 3, 0, 5, 20, 21, -1] hb (by omega) (by unfold Big; simp) (by simp)
  refine pcR [] [fw_someAlg, fw_element, fw_one] fok_45 ?_
  generalize saM (rdB c) 0 = A at *
  obtain ⟨⟨u, t⟩, p1⟩ := A
  dsimp only at *
  generalize elM (rdB c) p1 u.length = y at *
  generalize gi [2, 1, 3, 0, 5, 20, 21, -1] (pkM (rdB c) (p1 + 2) 8).toNat = z at *
  simp [fa_45]
  refine newR hl ?_
  simp [callOWR, l1]
  refine cutE (α := Unit) (fun _ => [(2, .ptr 16 1 0), (3, I64 y), (4, I64 z)]) (fun _ => [⟨16, 1, .cells [IL u, RL t]⟩]) ?_ (fun _ g0 => ?_)
  · refine power_dag (p := p1) l2 l3 (fun tb g q2 q3 q4 => ?_) _ _ (by simp) (by simp) (by simp)
    simp [q2, q3, q4]
  · simp
noncomputable def fm_drPower : Fam Try.prog := mkFam (X := List Int) 45 false (fun c => [BL c]) (fun c => (Byt c) ∧ (Big c.length)) (fun c => .tup [AL (saM (rdB c) 0).1.1 (saM (rdB c) 0).1.2, I64 (elM (rdB c) (saM (rdB c) 0).2 (saM (rdB c) 0).1.1.length), I64 (gi [2, 1, 3, 0, 5, 20, 21, -1] (pkM (rdB c) ((saM (rdB c) 0).2 + 2) 8).toNat)]) (by
  rintro c ⟨hc, hl⟩
  exact drPower_pc c hc hl)
@[simp] theorem fm_drPower_id : fm_drPower.id = 45 := rfl
@[simp] theorem fm_drPower_fresh : fm_drPower.fresh = false := rfl
@[simp] theorem fm_drPower_look (c : List Int) (hc : Byt c) (hl : Big c.length) : fm_drPower.look [BL c] = some (.tup [AL (saM (rdB c) 0).1.1 (saM (rdB c) 0).1.2, I64 (elM (rdB c) (saM (rdB c) 0).2 (saM (rdB c) 0).1.1.length), I64 (gi [2, 1, 3, 0, 5, 20, 21, -1] (pkM (rdB c) ((saM (rdB c) 0).2 + 2) 8).toNat)]) :=
  lookF_of (X := List Int) (args := fun c => [BL c]) (pre := fun c => (Byt c) ∧ (Big c.length)) (val := fun c => .tup [AL (saM (rdB c) 0).1.1 (saM (rdB c) 0).1.2, I64 (elM (rdB c) (saM (rdB c) 0).2 (saM (rdB c) 0).1.1.length), I64 (gi [2, 1, 3, 0, 5, 20, 21, -1] (pkM (rdB c) ((saM (rdB c) 0).2 + 2) 8).toNat)]) (by
  intro c c' h
  simp at h
  subst h
  rfl) c ⟨hc, hl⟩
attribute [irreducible] fm_drPower
end Go.PS
end

section
-- A region with guards, in parts.
set_option linter.unusedVariables false
set_option linter.unusedSimpArgs false
namespace Go.PS
section
variable {C : Ctx} {kb : Nat} {i : Nat → List D → List Ent → Nat → (D → List Ent → Nat → Prop) → Prop}
theorem midWc {ops : List AOper} {KS : List Nat} {ws : List (Nat × D)} {σ σ0 : St} (n : Nat) (ks : List Nat) (w1 : List (Nat × D)) (ok : segOk ks (ops.drop n) KS = true)
    (h1 : opsKc C kb i (ops.take n) σ (cutQ ks w1 σ)) (h2 : opsKc C kb i (ops.drop n) ⟨updL w1 (keepT ks σ.t), σ.h, σ.g⟩ (cutQ KS ws σ0)) : opsKc C kb i ops σ (cutQ KS ws σ0) := by
  have hin : ∀ n' ∈ liveS (ops.drop n) KS, n' ∈ ks := by simpa [segOk] using ok
  rw [← List.take_append_drop n ops, opsKc_append]
  refine opsKc_mono _ (fun σ' hs => ?_) h1
  obtain ⟨e1, e2, e3⟩ := hs
  rw [← e1, ← e2, ← e3] at h2
  exact opsKc_agree cutQ_dep _ (keepT ks σ'.t) σ'.t σ'.h σ'.g (fun n hn => getT_keep (hin n hn)) h2
end
end Go.PS
end

section
-- The law of powers.
set_option maxRecDepth 100000
set_option linter.unusedVariables false
set_option linter.unusedSimpArgs false
namespace Go.PS
open Go.Proofs

set_option maxHeartbeats 2000000 in
theorem FnPowerOf_pc (c : List Int) (hl : Hu c.length) (hc : Byt c) : PC Try.prog 8 [BL c] none true (fun r _ => r = .bool true) := by
  have hl' := hl.le
  refine pcT [fm_drPower, fm_PowerI, fm_PowerS, fm_BelowI] fok_8 ?_
  rcases Nat.lt_or_ge 1048576 c.length with q | q
  · simp [fa_8, show ((1048576 : Int) < c.length) by omega]
  · have hbig : Big c.length := by unfold Big; omega
    have l1 := fm_drPower_look c hc hbig
    obtain ⟨g, _⟩ := saM_few (rdB_ok hc) (p := 0) (by omega)
    have hu := g.big
    have ht := g.bigR
    generalize saM (rdB c) 0 = A at *
    obtain ⟨⟨u, t⟩, p1⟩ := A
    dsimp only at *
    generalize elM (rdB c) p1 u.length = x at *
    generalize gi [2, 1, 3, 0, 5, 20, 21, -1] (pkM (rdB c) (p1 + 2) 8).toNat = k at *
    simp [fa_8, show ¬ ((1048576 : Int) < c.length) by omega, show ((c.length : Int) ≤ 1048576) by omega, l1, hu, ht]
    refine cutW (tabK_mono _) [(29, .bool (decide (PoM u t x k < 0)))] (by simp [hu, ht]) ?_
    simp [hu, ht]
    refine fun h => ?_
    obtain ⟨i, e, rfl, rfl, hi, he, a⟩ := PoM_ex (u := u) (t := t) (x := x) (k := k) (by omega)
    rw [PoM_nat a hi he]
    have v := a.lat
    have hul := hu.le
    have hr := powM_rng a.tf hi e
    obtain ⟨w, hw⟩ : ∃ w : Nat, powM u t i e = w := ⟨(powM u t i e).toNat, by omega⟩
    have hwl : w < u.length := by omega
    have m0 : fm_PowerI.look [AL u t, I64 i, I64 0] = _ := fm_PowerI_look u t i (0 : Nat) hu ht
    have m1 : fm_PowerI.look [AL u t, I64 i, I64 1] = _ := fm_PowerI_look u t i (1 : Nat) hu ht
    rw [PoM_nat a hi (by omega)] at m0 m1
    have e0 : powM u t i 0 = (u.length : Int) - 1 := rfl
    have e1 : powM u t i 1 = i := by
      show tm t ((u.length : Int) - 1).toNat i = i
      rw [show ((u.length : Int) - 1).toNat = u.length - 1 by omega, a.comm _ (by omega) i hi]
      exact (a.top i hi).1
    rw [e0] at m0
    rw [e1] at m1
    have w1 : IntKind.i64.wrap ((u.length : Int) - 1) = u.length - 1 := wrap64 (by omega) (by omega)
    rw [hw]
    have s3 := a.tn_lt hwl hi
    have s4 := a.tn_int hwl hi
    have s5 := a.le_l hwl hi
    have s6 : powM u t i (e + 1) = (tn t w i : Nat) := by
      show tm t (powM u t i e).toNat i = _
      rw [hw, Int.toNat_natCast, s4]
    generalize tn t w i = r at *
    have m4 := fm_BelowI_look u r w hu
    rw [BeM_nat v s3 hwl, s5] at m4
    rcases Nat.lt_or_ge e 20 with c | c
    · have m5 : fm_PowerI.look [AL u t, I64 i, I64 ((e : Int) + 1)] = _ := fm_PowerI_look u t i ((e + 1 : Nat) : Int) hu ht
      rw [PoM_nat a hi (by omega), s6] at m5
      refine cutWc (tabK_mono _) [(2, .bool true)] ?_ ?_
      · simp only [seg, List.cons_append, List.nil_append]
        refine midWc 16 [3, 4, 5, 6, 51] [(51, .bool true)] rfl (by simp [m0, m1, w1]) ?_
        refine midWc 18 [3, 4, 5, 6, 51, 54, 69] [(54, .bool false), (69, .bool true)] rfl (by simp [m5, s4, hi, hwl, a.len, a.rows, show ¬ ((e : Int) = 20) by omega, wrap64 (n := (e : Int) + 1) (by omega) (by omega)]) ?_
        simp [m4, s4, hi, hwl, a.len, a.rows]
      · simp
    · refine cutWc (tabK_mono _) [(2, .bool true)] ?_ ?_
      · simp only [seg, List.cons_append, List.nil_append]
        refine midWc 16 [3, 4, 5, 6, 51] [(51, .bool true)] rfl (by simp [m0, m1, w1]) ?_
        simp [show (e : Int) = 20 by omega]
      · simp
end Go.PS
end
