/- Part 1 of what the last text proves: Nearness goes over products: the law holds at every input. -/
import Derived.Test.YteegdecbdobdpaaQg8
section
-- PRINTED by mkdraw.py: the draw of an algebra and two elements, for nearness.
set_option maxRecDepth 100000
set_option linter.unusedVariables false
set_option linter.unusedSimpArgs false
namespace Go.PS
open Go.Proofs
set_option maxHeartbeats 4000000 in
theorem near_dag {Q : St → Prop} {b : List Int} {p : Nat} {u : List Int} {t : List (List Int)} {y z : Int} (l0 : fw_element.look [.ptr 0 0 0, I64 u.length] (RS b p) = some (I64 y, RS b (p + 2))) (l1 : fw_element.look [.ptr 0 0 0, I64 u.length] (RS b (p + 2)) = some (I64 z, RS b (p + 4)))
    (hQ : ∀ tb g, getT tb 2 = .ptr 16 1 0 → getT tb 3 = I64 y → getT tb 4 = I64 z → Q ⟨tb, [⟨48, 3,  .cells [IL u, RL t]⟩, ⟨4080, 2, .cells (RS b (p + 4))⟩, ⟨16, 1, .cells [IL u, RL t]⟩], g⟩) : ∀ tb g, getT tb 2 = .ptr 16 1 0 → getT tb 5 = .ptr 4080 2 0 → getT tb 6 = .ptr 48 3 0 → exT (CI inlR) 0 (inlW (CI inlR) [] [fw_someAlg, fw_element] 1 0) ro_51_3 Q ex_51_3_0 ⟨tb, [⟨48, 3,  .cells [IL u, RL t]⟩, ⟨4080, 2, .cells (RS b (p))⟩, ⟨16, 1, .cells [.nil, .nil]⟩], g⟩ := by
  have n16383 : ∀ tb g, getT tb 2 = .ptr 16 1 0 → getT tb 5 = .ptr 4080 2 0 → getT tb 6 = .ptr 48 3 0 → getT tb 11 = AL u t → getT tb 12 = .ptr 4080 2 0 → getT tb 13 = .ptr 48 3 0 → getT tb 14 = IL u → getT tb 15 = I64 (u.length : Int) → getT tb 16 = I64 y → getT tb 17 = .ptr 4080 2 0 → getT tb 18 = .ptr 48 3 0 → getT tb 19 = IL u → getT tb 20 = I64 (u.length : Int) → getT tb 21 = I64 z → getT tb 3 = I64 y → getT tb 4 = I64 z → exT (CI inlR) 0 (inlW (CI inlR) [] [fw_someAlg, fw_element] 1 0) ro_51_3 Q ex_51_3_16383 ⟨tb, [⟨48, 3,  .cells [IL u, RL t]⟩, ⟨4080, 2, .cells (RS b (p + 4))⟩, ⟨16, 1, .cells [IL u, RL t]⟩], g⟩ := by
    intro tb g e2 e5 e6 e11 e12 e13 e14 e15 e16 e17 e18 e19 e20 e21 e3 e4
    unfold ex_51_3_16383
    exact hQ tb g e2 e3 e4
  have n8191 : ∀ tb g, getT tb 2 = .ptr 16 1 0 → getT tb 5 = .ptr 4080 2 0 → getT tb 6 = .ptr 48 3 0 → getT tb 11 = AL u t → getT tb 12 = .ptr 4080 2 0 → getT tb 13 = .ptr 48 3 0 → getT tb 14 = IL u → getT tb 15 = I64 (u.length : Int) → getT tb 16 = I64 y → getT tb 17 = .ptr 4080 2 0 → getT tb 18 = .ptr 48 3 0 → getT tb 19 = IL u → getT tb 20 = I64 (u.length : Int) → getT tb 21 = I64 z → getT tb 3 = I64 y → exT (CI inlR) 0 (inlW (CI inlR) [] [fw_someAlg, fw_element] 1 0) ro_51_3 Q ex_51_3_8191 ⟨tb, [⟨48, 3,  .cells [IL u, RL t]⟩, ⟨4080, 2, .cells (RS b (p + 4))⟩, ⟨16, 1, .cells [IL u, RL t]⟩], g⟩ := by
    intro tb g e2 e5 e6 e11 e12 e13 e14 e15 e16 e17 e18 e19 e20 e21 e3
    unfold ex_51_3_8191
    simp only [exT_alt, exT_one, exT_stop, and_true]
    rw [ro_51_3_13]
    simp [callDOWR, l0, l1, e2, e5, e6, e11, e12, e13, e14, e15, e16, e17, e18, e19, e20, e21, e3]
    refine n16383 _ _ ?_ ?_ ?_ ?_ ?_ ?_ ?_ ?_ ?_ ?_ ?_ ?_ ?_ ?_ ?_ ?_ <;> simp [getT, e2, e5, e6, e11, e12, e13, e14, e15, e16, e17, e18, e19, e20, e21, e3]
  have n4095 : ∀ tb g, getT tb 2 = .ptr 16 1 0 → getT tb 5 = .ptr 4080 2 0 → getT tb 6 = .ptr 48 3 0 → getT tb 11 = AL u t → getT tb 12 = .ptr 4080 2 0 → getT tb 13 = .ptr 48 3 0 → getT tb 14 = IL u → getT tb 15 = I64 (u.length : Int) → getT tb 16 = I64 y → getT tb 17 = .ptr 4080 2 0 → getT tb 18 = .ptr 48 3 0 → getT tb 19 = IL u → getT tb 20 = I64 (u.length : Int) → getT tb 21 = I64 z → exT (CI inlR) 0 (inlW (CI inlR) [] [fw_someAlg, fw_element] 1 0) ro_51_3 Q ex_51_3_4095 ⟨tb, [⟨48, 3,  .cells [IL u, RL t]⟩, ⟨4080, 2, .cells (RS b (p + 4))⟩, ⟨16, 1, .cells [IL u, RL t]⟩], g⟩ := by
    intro tb g e2 e5 e6 e11 e12 e13 e14 e15 e16 e17 e18 e19 e20 e21
    unfold ex_51_3_4095
    simp only [exT_alt, exT_one, exT_stop, and_true]
    rw [ro_51_3_12]
    simp [callDOWR, l0, l1, e2, e5, e6, e11, e12, e13, e14, e15, e16, e17, e18, e19, e20, e21]
    refine n8191 _ _ ?_ ?_ ?_ ?_ ?_ ?_ ?_ ?_ ?_ ?_ ?_ ?_ ?_ ?_ ?_ <;> simp [getT, e2, e5, e6, e11, e12, e13, e14, e15, e16, e17, e18, e19, e20, e21]
  have n2047 : ∀ tb g, getT tb 2 = .ptr 16 1 0 → getT tb 5 = .ptr 4080 2 0 → getT tb 6 = .ptr 48 3 0 → getT tb 11 = AL u t → getT tb 12 = .ptr 4080 2 0 → getT tb 13 = .ptr 48 3 0 → getT tb 14 = IL u → getT tb 15 = I64 (u.length : Int) → getT tb 16 = I64 y → getT tb 17 = .ptr 4080 2 0 → getT tb 18 = .ptr 48 3 0 → getT tb 19 = IL u → getT tb 20 = I64 (u.length : Int) → getT tb 21 = I64 z → exT (CI inlR) 0 (inlW (CI inlR) [] [fw_someAlg, fw_element] 1 0) ro_51_3 Q ex_51_3_2047 ⟨tb, [⟨48, 3,  .cells [IL u, RL t]⟩, ⟨4080, 2, .cells (RS b (p + 4))⟩, ⟨16, 1, .cells [.nil, .nil]⟩], g⟩ := by
    intro tb g e2 e5 e6 e11 e12 e13 e14 e15 e16 e17 e18 e19 e20 e21
    unfold ex_51_3_2047
    simp only [exT_alt, exT_one, exT_stop, and_true]
    rw [ro_51_3_11]
    simp [callDOWR, l0, l1, e2, e5, e6, e11, e12, e13, e14, e15, e16, e17, e18, e19, e20, e21]
    refine n4095 _ _ ?_ ?_ ?_ ?_ ?_ ?_ ?_ ?_ ?_ ?_ ?_ ?_ ?_ ?_ <;> simp [getT, e2, e5, e6, e11, e12, e13, e14, e15, e16, e17, e18, e19, e20, e21]
  have n2046 : ∀ tb g, getT tb 2 = .ptr 16 1 0 → getT tb 5 = .ptr 4080 2 0 → getT tb 6 = .ptr 48 3 0 → getT tb 12 = .ptr 4080 2 0 → getT tb 13 = .ptr 48 3 0 → getT tb 14 = IL u → getT tb 15 = I64 (u.length : Int) → getT tb 16 = I64 y → getT tb 17 = .ptr 4080 2 0 → getT tb 18 = .ptr 48 3 0 → getT tb 19 = IL u → getT tb 20 = I64 (u.length : Int) → getT tb 21 = I64 z → exT (CI inlR) 0 (inlW (CI inlR) [] [fw_someAlg, fw_element] 1 0) ro_51_3 Q ex_51_3_2046 ⟨tb, [⟨48, 3,  .cells [IL u, RL t]⟩, ⟨4080, 2, .cells (RS b (p + 4))⟩, ⟨16, 1, .cells [.nil, .nil]⟩], g⟩ := by
    intro tb g e2 e5 e6 e12 e13 e14 e15 e16 e17 e18 e19 e20 e21
    unfold ex_51_3_2046
    simp only [exT_alt, exT_one, exT_stop, and_true]
    rw [ro_51_3_0]
    simp [callDOWR, l0, l1, e2, e5, e6, e12, e13, e14, e15, e16, e17, e18, e19, e20, e21]
    refine n2047 _ _ ?_ ?_ ?_ ?_ ?_ ?_ ?_ ?_ ?_ ?_ ?_ ?_ ?_ ?_ <;> simp [getT, e2, e5, e6, e12, e13, e14, e15, e16, e17, e18, e19, e20, e21]
  have n1023 : ∀ tb g, getT tb 2 = .ptr 16 1 0 → getT tb 5 = .ptr 4080 2 0 → getT tb 6 = .ptr 48 3 0 → getT tb 11 = AL u t → getT tb 12 = .ptr 4080 2 0 → getT tb 13 = .ptr 48 3 0 → getT tb 14 = IL u → getT tb 15 = I64 (u.length : Int) → getT tb 16 = I64 y → getT tb 17 = .ptr 4080 2 0 → getT tb 18 = .ptr 48 3 0 → getT tb 19 = IL u → getT tb 20 = I64 (u.length : Int) → exT (CI inlR) 0 (inlW (CI inlR) [] [fw_someAlg, fw_element] 1 0) ro_51_3 Q ex_51_3_1023 ⟨tb, [⟨48, 3,  .cells [IL u, RL t]⟩, ⟨4080, 2, .cells (RS b (p + 2))⟩, ⟨16, 1, .cells [.nil, .nil]⟩], g⟩ := by
    intro tb g e2 e5 e6 e11 e12 e13 e14 e15 e16 e17 e18 e19 e20
    unfold ex_51_3_1023
    simp only [exT_alt, exT_one, exT_stop, and_true]
    rw [ro_51_3_10]
    simp [callDOWR, l0, l1, e2, e5, e6, e11, e12, e13, e14, e15, e16, e17, e18, e19, e20]
    refine n2047 _ _ ?_ ?_ ?_ ?_ ?_ ?_ ?_ ?_ ?_ ?_ ?_ ?_ ?_ ?_ <;> simp [getT, e2, e5, e6, e11, e12, e13, e14, e15, e16, e17, e18, e19, e20]
  have n1022 : ∀ tb g, getT tb 2 = .ptr 16 1 0 → getT tb 5 = .ptr 4080 2 0 → getT tb 6 = .ptr 48 3 0 → getT tb 12 = .ptr 4080 2 0 → getT tb 13 = .ptr 48 3 0 → getT tb 14 = IL u → getT tb 15 = I64 (u.length : Int) → getT tb 16 = I64 y → getT tb 17 = .ptr 4080 2 0 → getT tb 18 = .ptr 48 3 0 → getT tb 19 = IL u → getT tb 20 = I64 (u.length : Int) → exT (CI inlR) 0 (inlW (CI inlR) [] [fw_someAlg, fw_element] 1 0) ro_51_3 Q ex_51_3_1022 ⟨tb, [⟨48, 3,  .cells [IL u, RL t]⟩, ⟨4080, 2, .cells (RS b (p + 2))⟩, ⟨16, 1, .cells [.nil, .nil]⟩], g⟩ := by
    intro tb g e2 e5 e6 e12 e13 e14 e15 e16 e17 e18 e19 e20
    unfold ex_51_3_1022
    simp only [exT_alt, exT_one, exT_stop, and_true]
    refine ⟨?_, ?_⟩
    · rw [ro_51_3_0]
      simp [callDOWR, l0, l1, e2, e5, e6, e12, e13, e14, e15, e16, e17, e18, e19, e20]
      refine n1023 _ _ ?_ ?_ ?_ ?_ ?_ ?_ ?_ ?_ ?_ ?_ ?_ ?_ ?_ <;> simp [getT, e2, e5, e6, e12, e13, e14, e15, e16, e17, e18, e19, e20]
    · rw [ro_51_3_10]
      simp [callDOWR, l0, l1, e2, e5, e6, e12, e13, e14, e15, e16, e17, e18, e19, e20]
      refine n2046 _ _ ?_ ?_ ?_ ?_ ?_ ?_ ?_ ?_ ?_ ?_ ?_ ?_ ?_ <;> simp [getT, e2, e5, e6, e12, e13, e14, e15, e16, e17, e18, e19, e20]
  have n991 : ∀ tb g, getT tb 2 = .ptr 16 1 0 → getT tb 5 = .ptr 4080 2 0 → getT tb 6 = .ptr 48 3 0 → getT tb 11 = AL u t → getT tb 12 = .ptr 4080 2 0 → getT tb 13 = .ptr 48 3 0 → getT tb 14 = IL u → getT tb 15 = I64 (u.length : Int) → getT tb 17 = .ptr 4080 2 0 → getT tb 18 = .ptr 48 3 0 → getT tb 19 = IL u → getT tb 20 = I64 (u.length : Int) → exT (CI inlR) 0 (inlW (CI inlR) [] [fw_someAlg, fw_element] 1 0) ro_51_3 Q ex_51_3_991 ⟨tb, [⟨48, 3,  .cells [IL u, RL t]⟩, ⟨4080, 2, .cells (RS b (p))⟩, ⟨16, 1, .cells [.nil, .nil]⟩], g⟩ := by
    intro tb g e2 e5 e6 e11 e12 e13 e14 e15 e17 e18 e19 e20
    unfold ex_51_3_991
    simp only [exT_alt, exT_one, exT_stop, and_true]
    rw [ro_51_3_5]
    simp [callDOWR, l0, l1, e2, e5, e6, e11, e12, e13, e14, e15, e17, e18, e19, e20]
    refine n1023 _ _ ?_ ?_ ?_ ?_ ?_ ?_ ?_ ?_ ?_ ?_ ?_ ?_ ?_ <;> simp [getT, e2, e5, e6, e11, e12, e13, e14, e15, e17, e18, e19, e20]
  have n990 : ∀ tb g, getT tb 2 = .ptr 16 1 0 → getT tb 5 = .ptr 4080 2 0 → getT tb 6 = .ptr 48 3 0 → getT tb 12 = .ptr 4080 2 0 → getT tb 13 = .ptr 48 3 0 → getT tb 14 = IL u → getT tb 15 = I64 (u.length : Int) → getT tb 17 = .ptr 4080 2 0 → getT tb 18 = .ptr 48 3 0 → getT tb 19 = IL u → getT tb 20 = I64 (u.length : Int) → exT (CI inlR) 0 (inlW (CI inlR) [] [fw_someAlg, fw_element] 1 0) ro_51_3 Q ex_51_3_990 ⟨tb, [⟨48, 3,  .cells [IL u, RL t]⟩, ⟨4080, 2, .cells (RS b (p))⟩, ⟨16, 1, .cells [.nil, .nil]⟩], g⟩ := by
    intro tb g e2 e5 e6 e12 e13 e14 e15 e17 e18 e19 e20
    unfold ex_51_3_990
    simp only [exT_alt, exT_one, exT_stop, and_true]
    refine ⟨?_, ?_⟩
    · rw [ro_51_3_0]
      simp [callDOWR, l0, l1, e2, e5, e6, e12, e13, e14, e15, e17, e18, e19, e20]
      refine n991 _ _ ?_ ?_ ?_ ?_ ?_ ?_ ?_ ?_ ?_ ?_ ?_ ?_ <;> simp [getT, e2, e5, e6, e12, e13, e14, e15, e17, e18, e19, e20]
    · rw [ro_51_3_5]
      simp [callDOWR, l0, l1, e2, e5, e6, e12, e13, e14, e15, e17, e18, e19, e20]
      refine n1022 _ _ ?_ ?_ ?_ ?_ ?_ ?_ ?_ ?_ ?_ ?_ ?_ ?_ <;> simp [getT, e2, e5, e6, e12, e13, e14, e15, e17, e18, e19, e20]
  have n975 : ∀ tb g, getT tb 2 = .ptr 16 1 0 → getT tb 5 = .ptr 4080 2 0 → getT tb 6 = .ptr 48 3 0 → getT tb 11 = AL u t → getT tb 12 = .ptr 4080 2 0 → getT tb 13 = .ptr 48 3 0 → getT tb 14 = IL u → getT tb 17 = .ptr 4080 2 0 → getT tb 18 = .ptr 48 3 0 → getT tb 19 = IL u → getT tb 20 = I64 (u.length : Int) → exT (CI inlR) 0 (inlW (CI inlR) [] [fw_someAlg, fw_element] 1 0) ro_51_3 Q ex_51_3_975 ⟨tb, [⟨48, 3,  .cells [IL u, RL t]⟩, ⟨4080, 2, .cells (RS b (p))⟩, ⟨16, 1, .cells [.nil, .nil]⟩], g⟩ := by
    intro tb g e2 e5 e6 e11 e12 e13 e14 e17 e18 e19 e20
    unfold ex_51_3_975
    simp only [exT_alt, exT_one, exT_stop, and_true]
    rw [ro_51_3_4]
    simp [callDOWR, l0, l1, e2, e5, e6, e11, e12, e13, e14, e17, e18, e19, e20]
    refine n991 _ _ ?_ ?_ ?_ ?_ ?_ ?_ ?_ ?_ ?_ ?_ ?_ ?_ <;> simp [getT, e2, e5, e6, e11, e12, e13, e14, e17, e18, e19, e20]
  have n974 : ∀ tb g, getT tb 2 = .ptr 16 1 0 → getT tb 5 = .ptr 4080 2 0 → getT tb 6 = .ptr 48 3 0 → getT tb 12 = .ptr 4080 2 0 → getT tb 13 = .ptr 48 3 0 → getT tb 14 = IL u → getT tb 17 = .ptr 4080 2 0 → getT tb 18 = .ptr 48 3 0 → getT tb 19 = IL u → getT tb 20 = I64 (u.length : Int) → exT (CI inlR) 0 (inlW (CI inlR) [] [fw_someAlg, fw_element] 1 0) ro_51_3 Q ex_51_3_974 ⟨tb, [⟨48, 3,  .cells [IL u, RL t]⟩, ⟨4080, 2, .cells (RS b (p))⟩, ⟨16, 1, .cells [.nil, .nil]⟩], g⟩ := by
    intro tb g e2 e5 e6 e12 e13 e14 e17 e18 e19 e20
    unfold ex_51_3_974
    simp only [exT_alt, exT_one, exT_stop, and_true]
    refine ⟨?_, ?_⟩
    · rw [ro_51_3_0]
      simp [callDOWR, l0, l1, e2, e5, e6, e12, e13, e14, e17, e18, e19, e20]
      refine n975 _ _ ?_ ?_ ?_ ?_ ?_ ?_ ?_ ?_ ?_ ?_ ?_ <;> simp [getT, e2, e5, e6, e12, e13, e14, e17, e18, e19, e20]
    · rw [ro_51_3_4]
      simp [callDOWR, l0, l1, e2, e5, e6, e12, e13, e14, e17, e18, e19, e20]
      refine n990 _ _ ?_ ?_ ?_ ?_ ?_ ?_ ?_ ?_ ?_ ?_ ?_ <;> simp [getT, e2, e5, e6, e12, e13, e14, e17, e18, e19, e20]
  have n967 : ∀ tb g, getT tb 2 = .ptr 16 1 0 → getT tb 5 = .ptr 4080 2 0 → getT tb 6 = .ptr 48 3 0 → getT tb 11 = AL u t → getT tb 12 = .ptr 4080 2 0 → getT tb 13 = .ptr 48 3 0 → getT tb 17 = .ptr 4080 2 0 → getT tb 18 = .ptr 48 3 0 → getT tb 19 = IL u → getT tb 20 = I64 (u.length : Int) → exT (CI inlR) 0 (inlW (CI inlR) [] [fw_someAlg, fw_element] 1 0) ro_51_3 Q ex_51_3_967 ⟨tb, [⟨48, 3,  .cells [IL u, RL t]⟩, ⟨4080, 2, .cells (RS b (p))⟩, ⟨16, 1, .cells [.nil, .nil]⟩], g⟩ := by
    intro tb g e2 e5 e6 e11 e12 e13 e17 e18 e19 e20
    unfold ex_51_3_967
    simp only [exT_alt, exT_one, exT_stop, and_true]
    rw [ro_51_3_3]
    simp [callDOWR, l0, l1, e2, e5, e6, e11, e12, e13, e17, e18, e19, e20]
    refine n975 _ _ ?_ ?_ ?_ ?_ ?_ ?_ ?_ ?_ ?_ ?_ ?_ <;> simp [getT, e2, e5, e6, e11, e12, e13, e17, e18, e19, e20]
  have n966 : ∀ tb g, getT tb 2 = .ptr 16 1 0 → getT tb 5 = .ptr 4080 2 0 → getT tb 6 = .ptr 48 3 0 → getT tb 12 = .ptr 4080 2 0 → getT tb 13 = .ptr 48 3 0 → getT tb 17 = .ptr 4080 2 0 → getT tb 18 = .ptr 48 3 0 → getT tb 19 = IL u → getT tb 20 = I64 (u.length : Int) → exT (CI inlR) 0 (inlW (CI inlR) [] [fw_someAlg, fw_element] 1 0) ro_51_3 Q ex_51_3_966 ⟨tb, [⟨48, 3,  .cells [IL u, RL t]⟩, ⟨4080, 2, .cells (RS b (p))⟩, ⟨16, 1, .cells [.nil, .nil]⟩], g⟩ := by
    intro tb g e2 e5 e6 e12 e13 e17 e18 e19 e20
    unfold ex_51_3_966
    simp only [exT_alt, exT_one, exT_stop, and_true]
    refine ⟨?_, ?_⟩
    · rw [ro_51_3_0]
      simp [callDOWR, l0, l1, e2, e5, e6, e12, e13, e17, e18, e19, e20]
      refine n967 _ _ ?_ ?_ ?_ ?_ ?_ ?_ ?_ ?_ ?_ ?_ <;> simp [getT, e2, e5, e6, e12, e13, e17, e18, e19, e20]
    · rw [ro_51_3_3]
      simp [callDOWR, l0, l1, e2, e5, e6, e12, e13, e17, e18, e19, e20]
      refine n974 _ _ ?_ ?_ ?_ ?_ ?_ ?_ ?_ ?_ ?_ ?_ <;> simp [getT, e2, e5, e6, e12, e13, e17, e18, e19, e20]
  have n963 : ∀ tb g, getT tb 2 = .ptr 16 1 0 → getT tb 5 = .ptr 4080 2 0 → getT tb 6 = .ptr 48 3 0 → getT tb 11 = AL u t → getT tb 12 = .ptr 4080 2 0 → getT tb 17 = .ptr 4080 2 0 → getT tb 18 = .ptr 48 3 0 → getT tb 19 = IL u → getT tb 20 = I64 (u.length : Int) → exT (CI inlR) 0 (inlW (CI inlR) [] [fw_someAlg, fw_element] 1 0) ro_51_3 Q ex_51_3_963 ⟨tb, [⟨48, 3,  .cells [IL u, RL t]⟩, ⟨4080, 2, .cells (RS b (p))⟩, ⟨16, 1, .cells [.nil, .nil]⟩], g⟩ := by
    intro tb g e2 e5 e6 e11 e12 e17 e18 e19 e20
    unfold ex_51_3_963
    simp only [exT_alt, exT_one, exT_stop, and_true]
    rw [ro_51_3_2]
    simp [callDOWR, l0, l1, e2, e5, e6, e11, e12, e17, e18, e19, e20]
    refine n967 _ _ ?_ ?_ ?_ ?_ ?_ ?_ ?_ ?_ ?_ ?_ <;> simp [getT, e2, e5, e6, e11, e12, e17, e18, e19, e20]
  have n962 : ∀ tb g, getT tb 2 = .ptr 16 1 0 → getT tb 5 = .ptr 4080 2 0 → getT tb 6 = .ptr 48 3 0 → getT tb 12 = .ptr 4080 2 0 → getT tb 17 = .ptr 4080 2 0 → getT tb 18 = .ptr 48 3 0 → getT tb 19 = IL u → getT tb 20 = I64 (u.length : Int) → exT (CI inlR) 0 (inlW (CI inlR) [] [fw_someAlg, fw_element] 1 0) ro_51_3 Q ex_51_3_962 ⟨tb, [⟨48, 3,  .cells [IL u, RL t]⟩, ⟨4080, 2, .cells (RS b (p))⟩, ⟨16, 1, .cells [.nil, .nil]⟩], g⟩ := by
    intro tb g e2 e5 e6 e12 e17 e18 e19 e20
    unfold ex_51_3_962
    simp only [exT_alt, exT_one, exT_stop, and_true]
    refine ⟨?_, ?_⟩
    · rw [ro_51_3_0]
      simp [callDOWR, l0, l1, e2, e5, e6, e12, e17, e18, e19, e20]
      refine n963 _ _ ?_ ?_ ?_ ?_ ?_ ?_ ?_ ?_ ?_ <;> simp [getT, e2, e5, e6, e12, e17, e18, e19, e20]
    · rw [ro_51_3_2]
      simp [callDOWR, l0, l1, e2, e5, e6, e12, e17, e18, e19, e20]
      refine n966 _ _ ?_ ?_ ?_ ?_ ?_ ?_ ?_ ?_ ?_ <;> simp [getT, e2, e5, e6, e12, e17, e18, e19, e20]
  have n511 : ∀ tb g, getT tb 2 = .ptr 16 1 0 → getT tb 5 = .ptr 4080 2 0 → getT tb 6 = .ptr 48 3 0 → getT tb 11 = AL u t → getT tb 12 = .ptr 4080 2 0 → getT tb 13 = .ptr 48 3 0 → getT tb 14 = IL u → getT tb 15 = I64 (u.length : Int) → getT tb 16 = I64 y → getT tb 17 = .ptr 4080 2 0 → getT tb 18 = .ptr 48 3 0 → getT tb 19 = IL u → exT (CI inlR) 0 (inlW (CI inlR) [] [fw_someAlg, fw_element] 1 0) ro_51_3 Q ex_51_3_511 ⟨tb, [⟨48, 3,  .cells [IL u, RL t]⟩, ⟨4080, 2, .cells (RS b (p + 2))⟩, ⟨16, 1, .cells [.nil, .nil]⟩], g⟩ := by
    intro tb g e2 e5 e6 e11 e12 e13 e14 e15 e16 e17 e18 e19
    unfold ex_51_3_511
    simp only [exT_alt, exT_one, exT_stop, and_true]
    rw [ro_51_3_9]
    simp [callDOWR, l0, l1, e2, e5, e6, e11, e12, e13, e14, e15, e16, e17, e18, e19]
    refine n1023 _ _ ?_ ?_ ?_ ?_ ?_ ?_ ?_ ?_ ?_ ?_ ?_ ?_ ?_ <;> simp [getT, e2, e5, e6, e11, e12, e13, e14, e15, e16, e17, e18, e19]
  have n510 : ∀ tb g, getT tb 2 = .ptr 16 1 0 → getT tb 5 = .ptr 4080 2 0 → getT tb 6 = .ptr 48 3 0 → getT tb 12 = .ptr 4080 2 0 → getT tb 13 = .ptr 48 3 0 → getT tb 14 = IL u → getT tb 15 = I64 (u.length : Int) → getT tb 16 = I64 y → getT tb 17 = .ptr 4080 2 0 → getT tb 18 = .ptr 48 3 0 → getT tb 19 = IL u → exT (CI inlR) 0 (inlW (CI inlR) [] [fw_someAlg, fw_element] 1 0) ro_51_3 Q ex_51_3_510 ⟨tb, [⟨48, 3,  .cells [IL u, RL t]⟩, ⟨4080, 2, .cells (RS b (p + 2))⟩, ⟨16, 1, .cells [.nil, .nil]⟩], g⟩ := by
    intro tb g e2 e5 e6 e12 e13 e14 e15 e16 e17 e18 e19
    unfold ex_51_3_510
    simp only [exT_alt, exT_one, exT_stop, and_true]
    refine ⟨?_, ?_⟩
    · rw [ro_51_3_0]
      simp [callDOWR, l0, l1, e2, e5, e6, e12, e13, e14, e15, e16, e17, e18, e19]
      refine n511 _ _ ?_ ?_ ?_ ?_ ?_ ?_ ?_ ?_ ?_ ?_ ?_ ?_ <;> simp [getT, e2, e5, e6, e12, e13, e14, e15, e16, e17, e18, e19]
    · rw [ro_51_3_9]
      simp [callDOWR, l0, l1, e2, e5, e6, e12, e13, e14, e15, e16, e17, e18, e19]
      refine n1022 _ _ ?_ ?_ ?_ ?_ ?_ ?_ ?_ ?_ ?_ ?_ ?_ ?_ <;> simp [getT, e2, e5, e6, e12, e13, e14, e15, e16, e17, e18, e19]
  have n479 : ∀ tb g, getT tb 2 = .ptr 16 1 0 → getT tb 5 = .ptr 4080 2 0 → getT tb 6 = .ptr 48 3 0 → getT tb 11 = AL u t → getT tb 12 = .ptr 4080 2 0 → getT tb 13 = .ptr 48 3 0 → getT tb 14 = IL u → getT tb 15 = I64 (u.length : Int) → getT tb 17 = .ptr 4080 2 0 → getT tb 18 = .ptr 48 3 0 → getT tb 19 = IL u → exT (CI inlR) 0 (inlW (CI inlR) [] [fw_someAlg, fw_element] 1 0) ro_51_3 Q ex_51_3_479 ⟨tb, [⟨48, 3,  .cells [IL u, RL t]⟩, ⟨4080, 2, .cells (RS b (p))⟩, ⟨16, 1, .cells [.nil, .nil]⟩], g⟩ := by
    intro tb g e2 e5 e6 e11 e12 e13 e14 e15 e17 e18 e19
    unfold ex_51_3_479
    simp only [exT_alt, exT_one, exT_stop, and_true]
    refine ⟨?_, ?_⟩
    · rw [ro_51_3_5]
      simp [callDOWR, l0, l1, e2, e5, e6, e11, e12, e13, e14, e15, e17, e18, e19]
      refine n511 _ _ ?_ ?_ ?_ ?_ ?_ ?_ ?_ ?_ ?_ ?_ ?_ ?_ <;> simp [getT, e2, e5, e6, e11, e12, e13, e14, e15, e17, e18, e19]
    · rw [ro_51_3_9]
      simp [callDOWR, l0, l1, e2, e5, e6, e11, e12, e13, e14, e15, e17, e18, e19]
      refine n991 _ _ ?_ ?_ ?_ ?_ ?_ ?_ ?_ ?_ ?_ ?_ ?_ ?_ <;> simp [getT, e2, e5, e6, e11, e12, e13, e14, e15, e17, e18, e19]
  have n478 : ∀ tb g, getT tb 2 = .ptr 16 1 0 → getT tb 5 = .ptr 4080 2 0 → getT tb 6 = .ptr 48 3 0 → getT tb 12 = .ptr 4080 2 0 → getT tb 13 = .ptr 48 3 0 → getT tb 14 = IL u → getT tb 15 = I64 (u.length : Int) → getT tb 17 = .ptr 4080 2 0 → getT tb 18 = .ptr 48 3 0 → getT tb 19 = IL u → exT (CI inlR) 0 (inlW (CI inlR) [] [fw_someAlg, fw_element] 1 0) ro_51_3 Q ex_51_3_478 ⟨tb, [⟨48, 3,  .cells [IL u, RL t]⟩, ⟨4080, 2, .cells (RS b (p))⟩, ⟨16, 1, .cells [.nil, .nil]⟩], g⟩ := by
    intro tb g e2 e5 e6 e12 e13 e14 e15 e17 e18 e19
    unfold ex_51_3_478
    simp only [exT_alt, exT_one, exT_stop, and_true]
    refine ⟨?_, ?_, ?_⟩
    · rw [ro_51_3_0]
      simp [callDOWR, l0, l1, e2, e5, e6, e12, e13, e14, e15, e17, e18, e19]
      refine n479 _ _ ?_ ?_ ?_ ?_ ?_ ?_ ?_ ?_ ?_ ?_ ?_ <;> simp [getT, e2, e5, e6, e12, e13, e14, e15, e17, e18, e19]
    · rw [ro_51_3_5]
      simp [callDOWR, l0, l1, e2, e5, e6, e12, e13, e14, e15, e17, e18, e19]
      refine n510 _ _ ?_ ?_ ?_ ?_ ?_ ?_ ?_ ?_ ?_ ?_ ?_ <;> simp [getT, e2, e5, e6, e12, e13, e14, e15, e17, e18, e19]
    · rw [ro_51_3_9]
      simp [callDOWR, l0, l1, e2, e5, e6, e12, e13, e14, e15, e17, e18, e19]
      refine n990 _ _ ?_ ?_ ?_ ?_ ?_ ?_ ?_ ?_ ?_ ?_ ?_ <;> simp [getT, e2, e5, e6, e12, e13, e14, e15, e17, e18, e19]
  have n463 : ∀ tb g, getT tb 2 = .ptr 16 1 0 → getT tb 5 = .ptr 4080 2 0 → getT tb 6 = .ptr 48 3 0 → getT tb 11 = AL u t → getT tb 12 = .ptr 4080 2 0 → getT tb 13 = .ptr 48 3 0 → getT tb 14 = IL u → getT tb 17 = .ptr 4080 2 0 → getT tb 18 = .ptr 48 3 0 → getT tb 19 = IL u → exT (CI inlR) 0 (inlW (CI inlR) [] [fw_someAlg, fw_element] 1 0) ro_51_3 Q ex_51_3_463 ⟨tb, [⟨48, 3,  .cells [IL u, RL t]⟩, ⟨4080, 2, .cells (RS b (p))⟩, ⟨16, 1, .cells [.nil, .nil]⟩], g⟩ := by
    intro tb g e2 e5 e6 e11 e12 e13 e14 e17 e18 e19
    unfold ex_51_3_463
    simp only [exT_alt, exT_one, exT_stop, and_true]
    refine ⟨?_, ?_⟩
    · rw [ro_51_3_4]
      simp [callDOWR, l0, l1, e2, e5, e6, e11, e12, e13, e14, e17, e18, e19]
      refine n479 _ _ ?_ ?_ ?_ ?_ ?_ ?_ ?_ ?_ ?_ ?_ ?_ <;> simp [getT, e2, e5, e6, e11, e12, e13, e14, e17, e18, e19]
    · rw [ro_51_3_9]
      simp [callDOWR, l0, l1, e2, e5, e6, e11, e12, e13, e14, e17, e18, e19]
      refine n975 _ _ ?_ ?_ ?_ ?_ ?_ ?_ ?_ ?_ ?_ ?_ ?_ <;> simp [getT, e2, e5, e6, e11, e12, e13, e14, e17, e18, e19]
  have n462 : ∀ tb g, getT tb 2 = .ptr 16 1 0 → getT tb 5 = .ptr 4080 2 0 → getT tb 6 = .ptr 48 3 0 → getT tb 12 = .ptr 4080 2 0 → getT tb 13 = .ptr 48 3 0 → getT tb 14 = IL u → getT tb 17 = .ptr 4080 2 0 → getT tb 18 = .ptr 48 3 0 → getT tb 19 = IL u → exT (CI inlR) 0 (inlW (CI inlR) [] [fw_someAlg, fw_element] 1 0) ro_51_3 Q ex_51_3_462 ⟨tb, [⟨48, 3,  .cells [IL u, RL t]⟩, ⟨4080, 2, .cells (RS b (p))⟩, ⟨16, 1, .cells [.nil, .nil]⟩], g⟩ := by
    intro tb g e2 e5 e6 e12 e13 e14 e17 e18 e19
    unfold ex_51_3_462
    simp only [exT_alt, exT_one, exT_stop, and_true]
    refine ⟨?_, ?_, ?_⟩
    · rw [ro_51_3_0]
      simp [callDOWR, l0, l1, e2, e5, e6, e12, e13, e14, e17, e18, e19]
      refine n463 _ _ ?_ ?_ ?_ ?_ ?_ ?_ ?_ ?_ ?_ ?_ <;> simp [getT, e2, e5, e6, e12, e13, e14, e17, e18, e19]
    · rw [ro_51_3_4]
      simp [callDOWR, l0, l1, e2, e5, e6, e12, e13, e14, e17, e18, e19]
      refine n478 _ _ ?_ ?_ ?_ ?_ ?_ ?_ ?_ ?_ ?_ ?_ <;> simp [getT, e2, e5, e6, e12, e13, e14, e17, e18, e19]
    · rw [ro_51_3_9]
      simp [callDOWR, l0, l1, e2, e5, e6, e12, e13, e14, e17, e18, e19]
      refine n974 _ _ ?_ ?_ ?_ ?_ ?_ ?_ ?_ ?_ ?_ ?_ <;> simp [getT, e2, e5, e6, e12, e13, e14, e17, e18, e19]
  have n455 : ∀ tb g, getT tb 2 = .ptr 16 1 0 → getT tb 5 = .ptr 4080 2 0 → getT tb 6 = .ptr 48 3 0 → getT tb 11 = AL u t → getT tb 12 = .ptr 4080 2 0 → getT tb 13 = .ptr 48 3 0 → getT tb 17 = .ptr 4080 2 0 → getT tb 18 = .ptr 48 3 0 → getT tb 19 = IL u → exT (CI inlR) 0 (inlW (CI inlR) [] [fw_someAlg, fw_element] 1 0) ro_51_3 Q ex_51_3_455 ⟨tb, [⟨48, 3,  .cells [IL u, RL t]⟩, ⟨4080, 2, .cells (RS b (p))⟩, ⟨16, 1, .cells [.nil, .nil]⟩], g⟩ := by
    intro tb g e2 e5 e6 e11 e12 e13 e17 e18 e19
    unfold ex_51_3_455
    simp only [exT_alt, exT_one, exT_stop, and_true]
    refine ⟨?_, ?_⟩
    · rw [ro_51_3_3]
      simp [callDOWR, l0, l1, e2, e5, e6, e11, e12, e13, e17, e18, e19]
      refine n463 _ _ ?_ ?_ ?_ ?_ ?_ ?_ ?_ ?_ ?_ ?_ <;> simp [getT, e2, e5, e6, e11, e12, e13, e17, e18, e19]
    · rw [ro_51_3_9]
      simp [callDOWR, l0, l1, e2, e5, e6, e11, e12, e13, e17, e18, e19]
      refine n967 _ _ ?_ ?_ ?_ ?_ ?_ ?_ ?_ ?_ ?_ ?_ <;> simp [getT, e2, e5, e6, e11, e12, e13, e17, e18, e19]
  have n454 : ∀ tb g, getT tb 2 = .ptr 16 1 0 → getT tb 5 = .ptr 4080 2 0 → getT tb 6 = .ptr 48 3 0 → getT tb 12 = .ptr 4080 2 0 → getT tb 13 = .ptr 48 3 0 → getT tb 17 = .ptr 4080 2 0 → getT tb 18 = .ptr 48 3 0 → getT tb 19 = IL u → exT (CI inlR) 0 (inlW (CI inlR) [] [fw_someAlg, fw_element] 1 0) ro_51_3 Q ex_51_3_454 ⟨tb, [⟨48, 3,  .cells [IL u, RL t]⟩, ⟨4080, 2, .cells (RS b (p))⟩, ⟨16, 1, .cells [.nil, .nil]⟩], g⟩ := by
    intro tb g e2 e5 e6 e12 e13 e17 e18 e19
    unfold ex_51_3_454
    simp only [exT_alt, exT_one, exT_stop, and_true]
    refine ⟨?_, ?_, ?_⟩
    · rw [ro_51_3_0]
      simp [callDOWR, l0, l1, e2, e5, e6, e12, e13, e17, e18, e19]
      refine n455 _ _ ?_ ?_ ?_ ?_ ?_ ?_ ?_ ?_ ?_ <;> simp [getT, e2, e5, e6, e12, e13, e17, e18, e19]
    · rw [ro_51_3_3]
      simp [callDOWR, l0, l1, e2, e5, e6, e12, e13, e17, e18, e19]
      refine n462 _ _ ?_ ?_ ?_ ?_ ?_ ?_ ?_ ?_ ?_ <;> simp [getT, e2, e5, e6, e12, e13, e17, e18, e19]
    · rw [ro_51_3_9]
      simp [callDOWR, l0, l1, e2, e5, e6, e12, e13, e17, e18, e19]
      refine n966 _ _ ?_ ?_ ?_ ?_ ?_ ?_ ?_ ?_ ?_ <;> simp [getT, e2, e5, e6, e12, e13, e17, e18, e19]
  have n451 : ∀ tb g, getT tb 2 = .ptr 16 1 0 → getT tb 5 = .ptr 4080 2 0 → getT tb 6 = .ptr 48 3 0 → getT tb 11 = AL u t → getT tb 12 = .ptr 4080 2 0 → getT tb 17 = .ptr 4080 2 0 → getT tb 18 = .ptr 48 3 0 → getT tb 19 = IL u → exT (CI inlR) 0 (inlW (CI inlR) [] [fw_someAlg, fw_element] 1 0) ro_51_3 Q ex_51_3_451 ⟨tb, [⟨48, 3,  .cells [IL u, RL t]⟩, ⟨4080, 2, .cells (RS b (p))⟩, ⟨16, 1, .cells [.nil, .nil]⟩], g⟩ := by
    intro tb g e2 e5 e6 e11 e12 e17 e18 e19
    unfold ex_51_3_451
    simp only [exT_alt, exT_one, exT_stop, and_true]
    refine ⟨?_, ?_⟩
    · rw [ro_51_3_2]
      simp [callDOWR, l0, l1, e2, e5, e6, e11, e12, e17, e18, e19]
      refine n455 _ _ ?_ ?_ ?_ ?_ ?_ ?_ ?_ ?_ ?_ <;> simp [getT, e2, e5, e6, e11, e12, e17, e18, e19]
    · rw [ro_51_3_9]
      simp [callDOWR, l0, l1, e2, e5, e6, e11, e12, e17, e18, e19]
      refine n963 _ _ ?_ ?_ ?_ ?_ ?_ ?_ ?_ ?_ ?_ <;> simp [getT, e2, e5, e6, e11, e12, e17, e18, e19]
  have n450 : ∀ tb g, getT tb 2 = .ptr 16 1 0 → getT tb 5 = .ptr 4080 2 0 → getT tb 6 = .ptr 48 3 0 → getT tb 12 = .ptr 4080 2 0 → getT tb 17 = .ptr 4080 2 0 → getT tb 18 = .ptr 48 3 0 → getT tb 19 = IL u → exT (CI inlR) 0 (inlW (CI inlR) [] [fw_someAlg, fw_element] 1 0) ro_51_3 Q ex_51_3_450 ⟨tb, [⟨48, 3,  .cells [IL u, RL t]⟩, ⟨4080, 2, .cells (RS b (p))⟩, ⟨16, 1, .cells [.nil, .nil]⟩], g⟩ := by
    intro tb g e2 e5 e6 e12 e17 e18 e19
    unfold ex_51_3_450
    simp only [exT_alt, exT_one, exT_stop, and_true]
    refine ⟨?_, ?_, ?_⟩
    · rw [ro_51_3_0]
      simp [callDOWR, l0, l1, e2, e5, e6, e12, e17, e18, e19]
      refine n451 _ _ ?_ ?_ ?_ ?_ ?_ ?_ ?_ ?_ <;> simp [getT, e2, e5, e6, e12, e17, e18, e19]
    · rw [ro_51_3_2]
      simp [callDOWR, l0, l1, e2, e5, e6, e12, e17, e18, e19]
      refine n454 _ _ ?_ ?_ ?_ ?_ ?_ ?_ ?_ ?_ <;> simp [getT, e2, e5, e6, e12, e17, e18, e19]
    · rw [ro_51_3_9]
      simp [callDOWR, l0, l1, e2, e5, e6, e12, e17, e18, e19]
      refine n962 _ _ ?_ ?_ ?_ ?_ ?_ ?_ ?_ ?_ <;> simp [getT, e2, e5, e6, e12, e17, e18, e19]
  have n255 : ∀ tb g, getT tb 2 = .ptr 16 1 0 → getT tb 5 = .ptr 4080 2 0 → getT tb 6 = .ptr 48 3 0 → getT tb 11 = AL u t → getT tb 12 = .ptr 4080 2 0 → getT tb 13 = .ptr 48 3 0 → getT tb 14 = IL u → getT tb 15 = I64 (u.length : Int) → getT tb 16 = I64 y → getT tb 17 = .ptr 4080 2 0 → getT tb 18 = .ptr 48 3 0 → exT (CI inlR) 0 (inlW (CI inlR) [] [fw_someAlg, fw_element] 1 0) ro_51_3 Q ex_51_3_255 ⟨tb, [⟨48, 3,  .cells [IL u, RL t]⟩, ⟨4080, 2, .cells (RS b (p + 2))⟩, ⟨16, 1, .cells [.nil, .nil]⟩], g⟩ := by
    intro tb g e2 e5 e6 e11 e12 e13 e14 e15 e16 e17 e18
    unfold ex_51_3_255
    simp only [exT_alt, exT_one, exT_stop, and_true]
    rw [ro_51_3_8]
    simp [callDOWR, l0, l1, e2, e5, e6, e11, e12, e13, e14, e15, e16, e17, e18]
    refine n511 _ _ ?_ ?_ ?_ ?_ ?_ ?_ ?_ ?_ ?_ ?_ ?_ ?_ <;> simp [getT, e2, e5, e6, e11, e12, e13, e14, e15, e16, e17, e18]
  have n254 : ∀ tb g, getT tb 2 = .ptr 16 1 0 → getT tb 5 = .ptr 4080 2 0 → getT tb 6 = .ptr 48 3 0 → getT tb 12 = .ptr 4080 2 0 → getT tb 13 = .ptr 48 3 0 → getT tb 14 = IL u → getT tb 15 = I64 (u.length : Int) → getT tb 16 = I64 y → getT tb 17 = .ptr 4080 2 0 → getT tb 18 = .ptr 48 3 0 → exT (CI inlR) 0 (inlW (CI inlR) [] [fw_someAlg, fw_element] 1 0) ro_51_3 Q ex_51_3_254 ⟨tb, [⟨48, 3,  .cells [IL u, RL t]⟩, ⟨4080, 2, .cells (RS b (p + 2))⟩, ⟨16, 1, .cells [.nil, .nil]⟩], g⟩ := by
    intro tb g e2 e5 e6 e12 e13 e14 e15 e16 e17 e18
    unfold ex_51_3_254
    simp only [exT_alt, exT_one, exT_stop, and_true]
    refine ⟨?_, ?_⟩
    · rw [ro_51_3_0]
      simp [callDOWR, l0, l1, e2, e5, e6, e12, e13, e14, e15, e16, e17, e18]
      refine n255 _ _ ?_ ?_ ?_ ?_ ?_ ?_ ?_ ?_ ?_ ?_ ?_ <;> simp [getT, e2, e5, e6, e12, e13, e14, e15, e16, e17, e18]
    · rw [ro_51_3_8]
      simp [callDOWR, l0, l1, e2, e5, e6, e12, e13, e14, e15, e16, e17, e18]
      refine n510 _ _ ?_ ?_ ?_ ?_ ?_ ?_ ?_ ?_ ?_ ?_ ?_ <;> simp [getT, e2, e5, e6, e12, e13, e14, e15, e16, e17, e18]
  have n223 : ∀ tb g, getT tb 2 = .ptr 16 1 0 → getT tb 5 = .ptr 4080 2 0 → getT tb 6 = .ptr 48 3 0 → getT tb 11 = AL u t → getT tb 12 = .ptr 4080 2 0 → getT tb 13 = .ptr 48 3 0 → getT tb 14 = IL u → getT tb 15 = I64 (u.length : Int) → getT tb 17 = .ptr 4080 2 0 → getT tb 18 = .ptr 48 3 0 → exT (CI inlR) 0 (inlW (CI inlR) [] [fw_someAlg, fw_element] 1 0) ro_51_3 Q ex_51_3_223 ⟨tb, [⟨48, 3,  .cells [IL u, RL t]⟩, ⟨4080, 2, .cells (RS b (p))⟩, ⟨16, 1, .cells [.nil, .nil]⟩], g⟩ := by
    intro tb g e2 e5 e6 e11 e12 e13 e14 e15 e17 e18
    unfold ex_51_3_223
    simp only [exT_alt, exT_one, exT_stop, and_true]
    refine ⟨?_, ?_⟩
    · rw [ro_51_3_5]
      simp [callDOWR, l0, l1, e2, e5, e6, e11, e12, e13, e14, e15, e17, e18]
      refine n255 _ _ ?_ ?_ ?_ ?_ ?_ ?_ ?_ ?_ ?_ ?_ ?_ <;> simp [getT, e2, e5, e6, e11, e12, e13, e14, e15, e17, e18]
    · rw [ro_51_3_8]
      simp [callDOWR, l0, l1, e2, e5, e6, e11, e12, e13, e14, e15, e17, e18]
      refine n479 _ _ ?_ ?_ ?_ ?_ ?_ ?_ ?_ ?_ ?_ ?_ ?_ <;> simp [getT, e2, e5, e6, e11, e12, e13, e14, e15, e17, e18]
  have n222 : ∀ tb g, getT tb 2 = .ptr 16 1 0 → getT tb 5 = .ptr 4080 2 0 → getT tb 6 = .ptr 48 3 0 → getT tb 12 = .ptr 4080 2 0 → getT tb 13 = .ptr 48 3 0 → getT tb 14 = IL u → getT tb 15 = I64 (u.length : Int) → getT tb 17 = .ptr 4080 2 0 → getT tb 18 = .ptr 48 3 0 → exT (CI inlR) 0 (inlW (CI inlR) [] [fw_someAlg, fw_element] 1 0) ro_51_3 Q ex_51_3_222 ⟨tb, [⟨48, 3,  .cells [IL u, RL t]⟩, ⟨4080, 2, .cells (RS b (p))⟩, ⟨16, 1, .cells [.nil, .nil]⟩], g⟩ := by
    intro tb g e2 e5 e6 e12 e13 e14 e15 e17 e18
    unfold ex_51_3_222
    simp only [exT_alt, exT_one, exT_stop, and_true]
    refine ⟨?_, ?_, ?_⟩
    · rw [ro_51_3_0]
      simp [callDOWR, l0, l1, e2, e5, e6, e12, e13, e14, e15, e17, e18]
      refine n223 _ _ ?_ ?_ ?_ ?_ ?_ ?_ ?_ ?_ ?_ ?_ <;> simp [getT, e2, e5, e6, e12, e13, e14, e15, e17, e18]
    · rw [ro_51_3_5]
      simp [callDOWR, l0, l1, e2, e5, e6, e12, e13, e14, e15, e17, e18]
      refine n254 _ _ ?_ ?_ ?_ ?_ ?_ ?_ ?_ ?_ ?_ ?_ <;> simp [getT, e2, e5, e6, e12, e13, e14, e15, e17, e18]
    · rw [ro_51_3_8]
      simp [callDOWR, l0, l1, e2, e5, e6, e12, e13, e14, e15, e17, e18]
      refine n478 _ _ ?_ ?_ ?_ ?_ ?_ ?_ ?_ ?_ ?_ ?_ <;> simp [getT, e2, e5, e6, e12, e13, e14, e15, e17, e18]
  have n207 : ∀ tb g, getT tb 2 = .ptr 16 1 0 → getT tb 5 = .ptr 4080 2 0 → getT tb 6 = .ptr 48 3 0 → getT tb 11 = AL u t → getT tb 12 = .ptr 4080 2 0 → getT tb 13 = .ptr 48 3 0 → getT tb 14 = IL u → getT tb 17 = .ptr 4080 2 0 → getT tb 18 = .ptr 48 3 0 → exT (CI inlR) 0 (inlW (CI inlR) [] [fw_someAlg, fw_element] 1 0) ro_51_3 Q ex_51_3_207 ⟨tb, [⟨48, 3,  .cells [IL u, RL t]⟩, ⟨4080, 2, .cells (RS b (p))⟩, ⟨16, 1, .cells [.nil, .nil]⟩], g⟩ := by
    intro tb g e2 e5 e6 e11 e12 e13 e14 e17 e18
    unfold ex_51_3_207
    simp only [exT_alt, exT_one, exT_stop, and_true]
    refine ⟨?_, ?_⟩
    · rw [ro_51_3_4]
      simp [callDOWR, l0, l1, e2, e5, e6, e11, e12, e13, e14, e17, e18]
      refine n223 _ _ ?_ ?_ ?_ ?_ ?_ ?_ ?_ ?_ ?_ ?_ <;> simp [getT, e2, e5, e6, e11, e12, e13, e14, e17, e18]
    · rw [ro_51_3_8]
      simp [callDOWR, l0, l1, e2, e5, e6, e11, e12, e13, e14, e17, e18]
      refine n463 _ _ ?_ ?_ ?_ ?_ ?_ ?_ ?_ ?_ ?_ ?_ <;> simp [getT, e2, e5, e6, e11, e12, e13, e14, e17, e18]
  have n206 : ∀ tb g, getT tb 2 = .ptr 16 1 0 → getT tb 5 = .ptr 4080 2 0 → getT tb 6 = .ptr 48 3 0 → getT tb 12 = .ptr 4080 2 0 → getT tb 13 = .ptr 48 3 0 → getT tb 14 = IL u → getT tb 17 = .ptr 4080 2 0 → getT tb 18 = .ptr 48 3 0 → exT (CI inlR) 0 (inlW (CI inlR) [] [fw_someAlg, fw_element] 1 0) ro_51_3 Q ex_51_3_206 ⟨tb, [⟨48, 3,  .cells [IL u, RL t]⟩, ⟨4080, 2, .cells (RS b (p))⟩, ⟨16, 1, .cells [.nil, .nil]⟩], g⟩ := by
    intro tb g e2 e5 e6 e12 e13 e14 e17 e18
    unfold ex_51_3_206
    simp only [exT_alt, exT_one, exT_stop, and_true]
    refine ⟨?_, ?_, ?_⟩
    · rw [ro_51_3_0]
      simp [callDOWR, l0, l1, e2, e5, e6, e12, e13, e14, e17, e18]
      refine n207 _ _ ?_ ?_ ?_ ?_ ?_ ?_ ?_ ?_ ?_ <;> simp [getT, e2, e5, e6, e12, e13, e14, e17, e18]
    · rw [ro_51_3_4]
      simp [callDOWR, l0, l1, e2, e5, e6, e12, e13, e14, e17, e18]
      refine n222 _ _ ?_ ?_ ?_ ?_ ?_ ?_ ?_ ?_ ?_ <;> simp [getT, e2, e5, e6, e12, e13, e14, e17, e18]
    · rw [ro_51_3_8]
      simp [callDOWR, l0, l1, e2, e5, e6, e12, e13, e14, e17, e18]
      refine n462 _ _ ?_ ?_ ?_ ?_ ?_ ?_ ?_ ?_ ?_ <;> simp [getT, e2, e5, e6, e12, e13, e14, e17, e18]
  have n199 : ∀ tb g, getT tb 2 = .ptr 16 1 0 → getT tb 5 = .ptr 4080 2 0 → getT tb 6 = .ptr 48 3 0 → getT tb 11 = AL u t → getT tb 12 = .ptr 4080 2 0 → getT tb 13 = .ptr 48 3 0 → getT tb 17 = .ptr 4080 2 0 → getT tb 18 = .ptr 48 3 0 → exT (CI inlR) 0 (inlW (CI inlR) [] [fw_someAlg, fw_element] 1 0) ro_51_3 Q ex_51_3_199 ⟨tb, [⟨48, 3,  .cells [IL u, RL t]⟩, ⟨4080, 2, .cells (RS b (p))⟩, ⟨16, 1, .cells [.nil, .nil]⟩], g⟩ := by
    intro tb g e2 e5 e6 e11 e12 e13 e17 e18
    unfold ex_51_3_199
    simp only [exT_alt, exT_one, exT_stop, and_true]
    refine ⟨?_, ?_⟩
    · rw [ro_51_3_3]
      simp [callDOWR, l0, l1, e2, e5, e6, e11, e12, e13, e17, e18]
      refine n207 _ _ ?_ ?_ ?_ ?_ ?_ ?_ ?_ ?_ ?_ <;> simp [getT, e2, e5, e6, e11, e12, e13, e17, e18]
    · rw [ro_51_3_8]
      simp [callDOWR, l0, l1, e2, e5, e6, e11, e12, e13, e17, e18]
      refine n455 _ _ ?_ ?_ ?_ ?_ ?_ ?_ ?_ ?_ ?_ <;> simp [getT, e2, e5, e6, e11, e12, e13, e17, e18]
  have n198 : ∀ tb g, getT tb 2 = .ptr 16 1 0 → getT tb 5 = .ptr 4080 2 0 → getT tb 6 = .ptr 48 3 0 → getT tb 12 = .ptr 4080 2 0 → getT tb 13 = .ptr 48 3 0 → getT tb 17 = .ptr 4080 2 0 → getT tb 18 = .ptr 48 3 0 → exT (CI inlR) 0 (inlW (CI inlR) [] [fw_someAlg, fw_element] 1 0) ro_51_3 Q ex_51_3_198 ⟨tb, [⟨48, 3,  .cells [IL u, RL t]⟩, ⟨4080, 2, .cells (RS b (p))⟩, ⟨16, 1, .cells [.nil, .nil]⟩], g⟩ := by
    intro tb g e2 e5 e6 e12 e13 e17 e18
    unfold ex_51_3_198
    simp only [exT_alt, exT_one, exT_stop, and_true]
    refine ⟨?_, ?_, ?_⟩
    · rw [ro_51_3_0]
      simp [callDOWR, l0, l1, e2, e5, e6, e12, e13, e17, e18]
      refine n199 _ _ ?_ ?_ ?_ ?_ ?_ ?_ ?_ ?_ <;> simp [getT, e2, e5, e6, e12, e13, e17, e18]
    · rw [ro_51_3_3]
      simp [callDOWR, l0, l1, e2, e5, e6, e12, e13, e17, e18]
      refine n206 _ _ ?_ ?_ ?_ ?_ ?_ ?_ ?_ ?_ <;> simp [getT, e2, e5, e6, e12, e13, e17, e18]
    · rw [ro_51_3_8]
      simp [callDOWR, l0, l1, e2, e5, e6, e12, e13, e17, e18]
      refine n454 _ _ ?_ ?_ ?_ ?_ ?_ ?_ ?_ ?_ <;> simp [getT, e2, e5, e6, e12, e13, e17, e18]
  have n195 : ∀ tb g, getT tb 2 = .ptr 16 1 0 → getT tb 5 = .ptr 4080 2 0 → getT tb 6 = .ptr 48 3 0 → getT tb 11 = AL u t → getT tb 12 = .ptr 4080 2 0 → getT tb 17 = .ptr 4080 2 0 → getT tb 18 = .ptr 48 3 0 → exT (CI inlR) 0 (inlW (CI inlR) [] [fw_someAlg, fw_element] 1 0) ro_51_3 Q ex_51_3_195 ⟨tb, [⟨48, 3,  .cells [IL u, RL t]⟩, ⟨4080, 2, .cells (RS b (p))⟩, ⟨16, 1, .cells [.nil, .nil]⟩], g⟩ := by
    intro tb g e2 e5 e6 e11 e12 e17 e18
    unfold ex_51_3_195
    simp only [exT_alt, exT_one, exT_stop, and_true]
    refine ⟨?_, ?_⟩
    · rw [ro_51_3_2]
      simp [callDOWR, l0, l1, e2, e5, e6, e11, e12, e17, e18]
      refine n199 _ _ ?_ ?_ ?_ ?_ ?_ ?_ ?_ ?_ <;> simp [getT, e2, e5, e6, e11, e12, e17, e18]
    · rw [ro_51_3_8]
      simp [callDOWR, l0, l1, e2, e5, e6, e11, e12, e17, e18]
      refine n451 _ _ ?_ ?_ ?_ ?_ ?_ ?_ ?_ ?_ <;> simp [getT, e2, e5, e6, e11, e12, e17, e18]
  have n194 : ∀ tb g, getT tb 2 = .ptr 16 1 0 → getT tb 5 = .ptr 4080 2 0 → getT tb 6 = .ptr 48 3 0 → getT tb 12 = .ptr 4080 2 0 → getT tb 17 = .ptr 4080 2 0 → getT tb 18 = .ptr 48 3 0 → exT (CI inlR) 0 (inlW (CI inlR) [] [fw_someAlg, fw_element] 1 0) ro_51_3 Q ex_51_3_194 ⟨tb, [⟨48, 3,  .cells [IL u, RL t]⟩, ⟨4080, 2, .cells (RS b (p))⟩, ⟨16, 1, .cells [.nil, .nil]⟩], g⟩ := by
    intro tb g e2 e5 e6 e12 e17 e18
    unfold ex_51_3_194
    simp only [exT_alt, exT_one, exT_stop, and_true]
    refine ⟨?_, ?_, ?_⟩
    · rw [ro_51_3_0]
      simp [callDOWR, l0, l1, e2, e5, e6, e12, e17, e18]
      refine n195 _ _ ?_ ?_ ?_ ?_ ?_ ?_ ?_ <;> simp [getT, e2, e5, e6, e12, e17, e18]
    · rw [ro_51_3_2]
      simp [callDOWR, l0, l1, e2, e5, e6, e12, e17, e18]
      refine n198 _ _ ?_ ?_ ?_ ?_ ?_ ?_ ?_ <;> simp [getT, e2, e5, e6, e12, e17, e18]
    · rw [ro_51_3_8]
      simp [callDOWR, l0, l1, e2, e5, e6, e12, e17, e18]
      refine n450 _ _ ?_ ?_ ?_ ?_ ?_ ?_ ?_ <;> simp [getT, e2, e5, e6, e12, e17, e18]
  have n127 : ∀ tb g, getT tb 2 = .ptr 16 1 0 → getT tb 5 = .ptr 4080 2 0 → getT tb 6 = .ptr 48 3 0 → getT tb 11 = AL u t → getT tb 12 = .ptr 4080 2 0 → getT tb 13 = .ptr 48 3 0 → getT tb 14 = IL u → getT tb 15 = I64 (u.length : Int) → getT tb 16 = I64 y → getT tb 17 = .ptr 4080 2 0 → exT (CI inlR) 0 (inlW (CI inlR) [] [fw_someAlg, fw_element] 1 0) ro_51_3 Q ex_51_3_127 ⟨tb, [⟨48, 3,  .cells [IL u, RL t]⟩, ⟨4080, 2, .cells (RS b (p + 2))⟩, ⟨16, 1, .cells [.nil, .nil]⟩], g⟩ := by
    intro tb g e2 e5 e6 e11 e12 e13 e14 e15 e16 e17
    unfold ex_51_3_127
    simp only [exT_alt, exT_one, exT_stop, and_true]
    rw [ro_51_3_7]
    simp [callDOWR, l0, l1, e2, e5, e6, e11, e12, e13, e14, e15, e16, e17]
    refine n255 _ _ ?_ ?_ ?_ ?_ ?_ ?_ ?_ ?_ ?_ ?_ ?_ <;> simp [getT, e2, e5, e6, e11, e12, e13, e14, e15, e16, e17]
  have n126 : ∀ tb g, getT tb 2 = .ptr 16 1 0 → getT tb 5 = .ptr 4080 2 0 → getT tb 6 = .ptr 48 3 0 → getT tb 12 = .ptr 4080 2 0 → getT tb 13 = .ptr 48 3 0 → getT tb 14 = IL u → getT tb 15 = I64 (u.length : Int) → getT tb 16 = I64 y → getT tb 17 = .ptr 4080 2 0 → exT (CI inlR) 0 (inlW (CI inlR) [] [fw_someAlg, fw_element] 1 0) ro_51_3 Q ex_51_3_126 ⟨tb, [⟨48, 3,  .cells [IL u, RL t]⟩, ⟨4080, 2, .cells (RS b (p + 2))⟩, ⟨16, 1, .cells [.nil, .nil]⟩], g⟩ := by
    intro tb g e2 e5 e6 e12 e13 e14 e15 e16 e17
    unfold ex_51_3_126
    simp only [exT_alt, exT_one, exT_stop, and_true]
    refine ⟨?_, ?_⟩
    · rw [ro_51_3_0]
      simp [callDOWR, l0, l1, e2, e5, e6, e12, e13, e14, e15, e16, e17]
      refine n127 _ _ ?_ ?_ ?_ ?_ ?_ ?_ ?_ ?_ ?_ ?_ <;> simp [getT, e2, e5, e6, e12, e13, e14, e15, e16, e17]
    · rw [ro_51_3_7]
      simp [callDOWR, l0, l1, e2, e5, e6, e12, e13, e14, e15, e16, e17]
      refine n254 _ _ ?_ ?_ ?_ ?_ ?_ ?_ ?_ ?_ ?_ ?_ <;> simp [getT, e2, e5, e6, e12, e13, e14, e15, e16, e17]
  have n95 : ∀ tb g, getT tb 2 = .ptr 16 1 0 → getT tb 5 = .ptr 4080 2 0 → getT tb 6 = .ptr 48 3 0 → getT tb 11 = AL u t → getT tb 12 = .ptr 4080 2 0 → getT tb 13 = .ptr 48 3 0 → getT tb 14 = IL u → getT tb 15 = I64 (u.length : Int) → getT tb 17 = .ptr 4080 2 0 → exT (CI inlR) 0 (inlW (CI inlR) [] [fw_someAlg, fw_element] 1 0) ro_51_3 Q ex_51_3_95 ⟨tb, [⟨48, 3,  .cells [IL u, RL t]⟩, ⟨4080, 2, .cells (RS b (p))⟩, ⟨16, 1, .cells [.nil, .nil]⟩], g⟩ := by
    intro tb g e2 e5 e6 e11 e12 e13 e14 e15 e17
    unfold ex_51_3_95
    simp only [exT_alt, exT_one, exT_stop, and_true]
    refine ⟨?_, ?_⟩
    · rw [ro_51_3_5]
      simp [callDOWR, l0, l1, e2, e5, e6, e11, e12, e13, e14, e15, e17]
      refine n127 _ _ ?_ ?_ ?_ ?_ ?_ ?_ ?_ ?_ ?_ ?_ <;> simp [getT, e2, e5, e6, e11, e12, e13, e14, e15, e17]
    · rw [ro_51_3_7]
      simp [callDOWR, l0, l1, e2, e5, e6, e11, e12, e13, e14, e15, e17]
      refine n223 _ _ ?_ ?_ ?_ ?_ ?_ ?_ ?_ ?_ ?_ ?_ <;> simp [getT, e2, e5, e6, e11, e12, e13, e14, e15, e17]
  have n94 : ∀ tb g, getT tb 2 = .ptr 16 1 0 → getT tb 5 = .ptr 4080 2 0 → getT tb 6 = .ptr 48 3 0 → getT tb 12 = .ptr 4080 2 0 → getT tb 13 = .ptr 48 3 0 → getT tb 14 = IL u → getT tb 15 = I64 (u.length : Int) → getT tb 17 = .ptr 4080 2 0 → exT (CI inlR) 0 (inlW (CI inlR) [] [fw_someAlg, fw_element] 1 0) ro_51_3 Q ex_51_3_94 ⟨tb, [⟨48, 3,  .cells [IL u, RL t]⟩, ⟨4080, 2, .cells (RS b (p))⟩, ⟨16, 1, .cells [.nil, .nil]⟩], g⟩ := by
    intro tb g e2 e5 e6 e12 e13 e14 e15 e17
    unfold ex_51_3_94
    simp only [exT_alt, exT_one, exT_stop, and_true]
    refine ⟨?_, ?_, ?_⟩
    · rw [ro_51_3_0]
      simp [callDOWR, l0, l1, e2, e5, e6, e12, e13, e14, e15, e17]
      refine n95 _ _ ?_ ?_ ?_ ?_ ?_ ?_ ?_ ?_ ?_ <;> simp [getT, e2, e5, e6, e12, e13, e14, e15, e17]
    · rw [ro_51_3_5]
      simp [callDOWR, l0, l1, e2, e5, e6, e12, e13, e14, e15, e17]
      refine n126 _ _ ?_ ?_ ?_ ?_ ?_ ?_ ?_ ?_ ?_ <;> simp [getT, e2, e5, e6, e12, e13, e14, e15, e17]
    · rw [ro_51_3_7]
      simp [callDOWR, l0, l1, e2, e5, e6, e12, e13, e14, e15, e17]
      refine n222 _ _ ?_ ?_ ?_ ?_ ?_ ?_ ?_ ?_ ?_ <;> simp [getT, e2, e5, e6, e12, e13, e14, e15, e17]
  have n79 : ∀ tb g, getT tb 2 = .ptr 16 1 0 → getT tb 5 = .ptr 4080 2 0 → getT tb 6 = .ptr 48 3 0 → getT tb 11 = AL u t → getT tb 12 = .ptr 4080 2 0 → getT tb 13 = .ptr 48 3 0 → getT tb 14 = IL u → getT tb 17 = .ptr 4080 2 0 → exT (CI inlR) 0 (inlW (CI inlR) [] [fw_someAlg, fw_element] 1 0) ro_51_3 Q ex_51_3_79 ⟨tb, [⟨48, 3,  .cells [IL u, RL t]⟩, ⟨4080, 2, .cells (RS b (p))⟩, ⟨16, 1, .cells [.nil, .nil]⟩], g⟩ := by
    intro tb g e2 e5 e6 e11 e12 e13 e14 e17
    unfold ex_51_3_79
    simp only [exT_alt, exT_one, exT_stop, and_true]
    refine ⟨?_, ?_⟩
    · rw [ro_51_3_4]
      simp [callDOWR, l0, l1, e2, e5, e6, e11, e12, e13, e14, e17]
      refine n95 _ _ ?_ ?_ ?_ ?_ ?_ ?_ ?_ ?_ ?_ <;> simp [getT, e2, e5, e6, e11, e12, e13, e14, e17]
    · rw [ro_51_3_7]
      simp [callDOWR, l0, l1, e2, e5, e6, e11, e12, e13, e14, e17]
      refine n207 _ _ ?_ ?_ ?_ ?_ ?_ ?_ ?_ ?_ ?_ <;> simp [getT, e2, e5, e6, e11, e12, e13, e14, e17]
  have n78 : ∀ tb g, getT tb 2 = .ptr 16 1 0 → getT tb 5 = .ptr 4080 2 0 → getT tb 6 = .ptr 48 3 0 → getT tb 12 = .ptr 4080 2 0 → getT tb 13 = .ptr 48 3 0 → getT tb 14 = IL u → getT tb 17 = .ptr 4080 2 0 → exT (CI inlR) 0 (inlW (CI inlR) [] [fw_someAlg, fw_element] 1 0) ro_51_3 Q ex_51_3_78 ⟨tb, [⟨48, 3,  .cells [IL u, RL t]⟩, ⟨4080, 2, .cells (RS b (p))⟩, ⟨16, 1, .cells [.nil, .nil]⟩], g⟩ := by
    intro tb g e2 e5 e6 e12 e13 e14 e17
    unfold ex_51_3_78
    simp only [exT_alt, exT_one, exT_stop, and_true]
    refine ⟨?_, ?_, ?_⟩
    · rw [ro_51_3_0]
      simp [callDOWR, l0, l1, e2, e5, e6, e12, e13, e14, e17]
      refine n79 _ _ ?_ ?_ ?_ ?_ ?_ ?_ ?_ ?_ <;> simp [getT, e2, e5, e6, e12, e13, e14, e17]
    · rw [ro_51_3_4]
      simp [callDOWR, l0, l1, e2, e5, e6, e12, e13, e14, e17]
      refine n94 _ _ ?_ ?_ ?_ ?_ ?_ ?_ ?_ ?_ <;> simp [getT, e2, e5, e6, e12, e13, e14, e17]
    · rw [ro_51_3_7]
      simp [callDOWR, l0, l1, e2, e5, e6, e12, e13, e14, e17]
      refine n206 _ _ ?_ ?_ ?_ ?_ ?_ ?_ ?_ ?_ <;> simp [getT, e2, e5, e6, e12, e13, e14, e17]
  have n71 : ∀ tb g, getT tb 2 = .ptr 16 1 0 → getT tb 5 = .ptr 4080 2 0 → getT tb 6 = .ptr 48 3 0 → getT tb 11 = AL u t → getT tb 12 = .ptr 4080 2 0 → getT tb 13 = .ptr 48 3 0 → getT tb 17 = .ptr 4080 2 0 → exT (CI inlR) 0 (inlW (CI inlR) [] [fw_someAlg, fw_element] 1 0) ro_51_3 Q ex_51_3_71 ⟨tb, [⟨48, 3,  .cells [IL u, RL t]⟩, ⟨4080, 2, .cells (RS b (p))⟩, ⟨16, 1, .cells [.nil, .nil]⟩], g⟩ := by
    intro tb g e2 e5 e6 e11 e12 e13 e17
    unfold ex_51_3_71
    simp only [exT_alt, exT_one, exT_stop, and_true]
    refine ⟨?_, ?_⟩
    · rw [ro_51_3_3]
      simp [callDOWR, l0, l1, e2, e5, e6, e11, e12, e13, e17]
      refine n79 _ _ ?_ ?_ ?_ ?_ ?_ ?_ ?_ ?_ <;> simp [getT, e2, e5, e6, e11, e12, e13, e17]
    · rw [ro_51_3_7]
      simp [callDOWR, l0, l1, e2, e5, e6, e11, e12, e13, e17]
      refine n199 _ _ ?_ ?_ ?_ ?_ ?_ ?_ ?_ ?_ <;> simp [getT, e2, e5, e6, e11, e12, e13, e17]
  have n70 : ∀ tb g, getT tb 2 = .ptr 16 1 0 → getT tb 5 = .ptr 4080 2 0 → getT tb 6 = .ptr 48 3 0 → getT tb 12 = .ptr 4080 2 0 → getT tb 13 = .ptr 48 3 0 → getT tb 17 = .ptr 4080 2 0 → exT (CI inlR) 0 (inlW (CI inlR) [] [fw_someAlg, fw_element] 1 0) ro_51_3 Q ex_51_3_70 ⟨tb, [⟨48, 3,  .cells [IL u, RL t]⟩, ⟨4080, 2, .cells (RS b (p))⟩, ⟨16, 1, .cells [.nil, .nil]⟩], g⟩ := by
    intro tb g e2 e5 e6 e12 e13 e17
    unfold ex_51_3_70
    simp only [exT_alt, exT_one, exT_stop, and_true]
    refine ⟨?_, ?_, ?_⟩
    · rw [ro_51_3_0]
      simp [callDOWR, l0, l1, e2, e5, e6, e12, e13, e17]
      refine n71 _ _ ?_ ?_ ?_ ?_ ?_ ?_ ?_ <;> simp [getT, e2, e5, e6, e12, e13, e17]
    · rw [ro_51_3_3]
      simp [callDOWR, l0, l1, e2, e5, e6, e12, e13, e17]
      refine n78 _ _ ?_ ?_ ?_ ?_ ?_ ?_ ?_ <;> simp [getT, e2, e5, e6, e12, e13, e17]
    · rw [ro_51_3_7]
      simp [callDOWR, l0, l1, e2, e5, e6, e12, e13, e17]
      refine n198 _ _ ?_ ?_ ?_ ?_ ?_ ?_ ?_ <;> simp [getT, e2, e5, e6, e12, e13, e17]
  have n67 : ∀ tb g, getT tb 2 = .ptr 16 1 0 → getT tb 5 = .ptr 4080 2 0 → getT tb 6 = .ptr 48 3 0 → getT tb 11 = AL u t → getT tb 12 = .ptr 4080 2 0 → getT tb 17 = .ptr 4080 2 0 → exT (CI inlR) 0 (inlW (CI inlR) [] [fw_someAlg, fw_element] 1 0) ro_51_3 Q ex_51_3_67 ⟨tb, [⟨48, 3,  .cells [IL u, RL t]⟩, ⟨4080, 2, .cells (RS b (p))⟩, ⟨16, 1, .cells [.nil, .nil]⟩], g⟩ := by
    intro tb g e2 e5 e6 e11 e12 e17
    unfold ex_51_3_67
    simp only [exT_alt, exT_one, exT_stop, and_true]
    refine ⟨?_, ?_⟩
    · rw [ro_51_3_2]
      simp [callDOWR, l0, l1, e2, e5, e6, e11, e12, e17]
      refine n71 _ _ ?_ ?_ ?_ ?_ ?_ ?_ ?_ <;> simp [getT, e2, e5, e6, e11, e12, e17]
    · rw [ro_51_3_7]
      simp [callDOWR, l0, l1, e2, e5, e6, e11, e12, e17]
      refine n195 _ _ ?_ ?_ ?_ ?_ ?_ ?_ ?_ <;> simp [getT, e2, e5, e6, e11, e12, e17]
  have n66 : ∀ tb g, getT tb 2 = .ptr 16 1 0 → getT tb 5 = .ptr 4080 2 0 → getT tb 6 = .ptr 48 3 0 → getT tb 12 = .ptr 4080 2 0 → getT tb 17 = .ptr 4080 2 0 → exT (CI inlR) 0 (inlW (CI inlR) [] [fw_someAlg, fw_element] 1 0) ro_51_3 Q ex_51_3_66 ⟨tb, [⟨48, 3,  .cells [IL u, RL t]⟩, ⟨4080, 2, .cells (RS b (p))⟩, ⟨16, 1, .cells [.nil, .nil]⟩], g⟩ := by
    intro tb g e2 e5 e6 e12 e17
    unfold ex_51_3_66
    simp only [exT_alt, exT_one, exT_stop, and_true]
    refine ⟨?_, ?_, ?_⟩
    · rw [ro_51_3_0]
      simp [callDOWR, l0, l1, e2, e5, e6, e12, e17]
      refine n67 _ _ ?_ ?_ ?_ ?_ ?_ ?_ <;> simp [getT, e2, e5, e6, e12, e17]
    · rw [ro_51_3_2]
      simp [callDOWR, l0, l1, e2, e5, e6, e12, e17]
      refine n70 _ _ ?_ ?_ ?_ ?_ ?_ ?_ <;> simp [getT, e2, e5, e6, e12, e17]
    · rw [ro_51_3_7]
      simp [callDOWR, l0, l1, e2, e5, e6, e12, e17]
      refine n194 _ _ ?_ ?_ ?_ ?_ ?_ ?_ <;> simp [getT, e2, e5, e6, e12, e17]
  have n2 : ∀ tb g, getT tb 2 = .ptr 16 1 0 → getT tb 5 = .ptr 4080 2 0 → getT tb 6 = .ptr 48 3 0 → getT tb 12 = .ptr 4080 2 0 → exT (CI inlR) 0 (inlW (CI inlR) [] [fw_someAlg, fw_element] 1 0) ro_51_3 Q ex_51_3_2 ⟨tb, [⟨48, 3,  .cells [IL u, RL t]⟩, ⟨4080, 2, .cells (RS b (p))⟩, ⟨16, 1, .cells [.nil, .nil]⟩], g⟩ := by
    intro tb g e2 e5 e6 e12
    unfold ex_51_3_2
    simp only [exT_alt, exT_one, exT_stop, and_true]
    rw [ro_51_3_6]
    simp [callDOWR, l0, l1, e2, e5, e6, e12]
    refine n66 _ _ ?_ ?_ ?_ ?_ ?_ <;> simp [getT, e2, e5, e6, e12]
  have n0 : ∀ tb g, getT tb 2 = .ptr 16 1 0 → getT tb 5 = .ptr 4080 2 0 → getT tb 6 = .ptr 48 3 0 → exT (CI inlR) 0 (inlW (CI inlR) [] [fw_someAlg, fw_element] 1 0) ro_51_3 Q ex_51_3_0 ⟨tb, [⟨48, 3,  .cells [IL u, RL t]⟩, ⟨4080, 2, .cells (RS b (p))⟩, ⟨16, 1, .cells [.nil, .nil]⟩], g⟩ := by
    intro tb g e2 e5 e6
    unfold ex_51_3_0
    simp only [exT_alt, exT_one, exT_stop, and_true]
    rw [ro_51_3_1]
    simp [callDOWR, l0, l1, e2, e5, e6]
    refine n2 _ _ ?_ ?_ ?_ ?_ <;> simp [getT, e2, e5, e6]
  exact n0

theorem drNear_pc (c : List Int) (hc : Byt c) (hl : Big c.length) : PC Try.prog 51 [BL c] none false (fun r _ => r = .tup [AL (saM (rdB c) 0).1.1 (saM (rdB c) 0).1.2, I64 (elM (rdB c) (saM (rdB c) 0).2 (saM (rdB c) 0).1.1.length), I64 (elM (rdB c) ((saM (rdB c) 0).2 + 2) (saM (rdB c) 0).1.1.length)]) := by
  have hl := hl.le
  have hb := rdB_ok hc
  have l1 := fw_someAlg_look (rdB c) 0 hb (by omega) (by omega)
  obtain ⟨g, q⟩ := saM_few hb (p := 0) (by omega)
  have hu := g.u
  have l2 := fw_element_look (rdB c) (saM (rdB c) 0).2 (saM (rdB c) 0).1.1.length hb (by omega) (by omega) (by omega)
  have l3 := fw_element_look (rdB c) ((saM (rdB c) 0).2 + 2) (saM (rdB c) 0).1.1.length hb (by omega) (by omega) (by omega)
  refine pcR [] [fw_someAlg, fw_element] fok_51 ?_
  generalize saM (rdB c) 0 = A at *
  obtain ⟨⟨u, t⟩, p1⟩ := A
  dsimp only at *
  generalize elM (rdB c) p1 u.length = y at *
  generalize elM (rdB c) (p1 + 2) u.length = z at *
  rw [show p1 + 2 + 2 = p1 + 4 from rfl] at l3
  simp [fa_51]
  refine newR hl ?_
  simp [callOWR, l1]
  refine cutE (α := Unit) (fun _ => [(2, .ptr 16 1 0), (3, I64 y), (4, I64 z)]) (fun _ => [⟨16, 1, .cells [IL u, RL t]⟩]) ?_ (fun _ g0 => ?_)
  · refine near_dag (p := p1) l2 l3 (fun tb g q2 q3 q4 => ?_) _ _ (by simp) (by simp) (by simp)
    simp [q2, q3, q4]
  · simp
noncomputable def fm_drNear : Fam Try.prog := mkFam (X := List Int) 51 false (fun c => [BL c]) (fun c => (Byt c) ∧ (Big c.length)) (fun c => .tup [AL (saM (rdB c) 0).1.1 (saM (rdB c) 0).1.2, I64 (elM (rdB c) (saM (rdB c) 0).2 (saM (rdB c) 0).1.1.length), I64 (elM (rdB c) ((saM (rdB c) 0).2 + 2) (saM (rdB c) 0).1.1.length)]) (by
  rintro c ⟨hc, hl⟩
  exact drNear_pc c hc hl)
@[simp] theorem fm_drNear_id : fm_drNear.id = 51 := rfl
@[simp] theorem fm_drNear_fresh : fm_drNear.fresh = false := rfl
@[simp] theorem fm_drNear_look (c : List Int) (hc : Byt c) (hl : Big c.length) : fm_drNear.look [BL c] = some (.tup [AL (saM (rdB c) 0).1.1 (saM (rdB c) 0).1.2, I64 (elM (rdB c) (saM (rdB c) 0).2 (saM (rdB c) 0).1.1.length), I64 (elM (rdB c) ((saM (rdB c) 0).2 + 2) (saM (rdB c) 0).1.1.length)]) :=
  lookF_of (X := List Int) (args := fun c => [BL c]) (pre := fun c => (Byt c) ∧ (Big c.length)) (val := fun c => .tup [AL (saM (rdB c) 0).1.1 (saM (rdB c) 0).1.2, I64 (elM (rdB c) (saM (rdB c) 0).2 (saM (rdB c) 0).1.1.length), I64 (elM (rdB c) ((saM (rdB c) 0).2 + 2) (saM (rdB c) 0).1.1.length)]) (by
  intro c c' h
  simp at h
  subst h
  rfl) c ⟨hc, hl⟩
attribute [irreducible] fm_drNear
end Go.PS
end

section
-- The law of nearness.
set_option maxRecDepth 100000
set_option linter.unusedVariables false
set_option linter.unusedSimpArgs false
namespace Go.PS
open Go.Proofs

set_option maxHeartbeats 2000000 in
theorem FnNearOf_pc (c : List Int) (hl : Hu c.length) (hc : Byt c) : PC Try.prog 10 [BL c] none true (fun r _ => r = .bool true) := by
  have hl' := hl.le
  refine pcT [fm_drNear, fm_NearI, fm_NearS, fm_BelowI] fok_10 ?_
  rcases Nat.lt_or_ge 1048576 c.length with q | q
  · simp [fa_10, show ((1048576 : Int) < c.length) by omega]
  · have hbig : Big c.length := by unfold Big; omega
    have l1 := fm_drNear_look c hc hbig
    obtain ⟨g, _⟩ := saM_few (rdB_ok hc) (p := 0) (by omega)
    have hu := g.big
    have ht := g.bigR
    generalize saM (rdB c) 0 = A at *
    obtain ⟨⟨u, t⟩, p1⟩ := A
    dsimp only at *
    generalize elM (rdB c) p1 u.length = x at *
    generalize elM (rdB c) (p1 + 2) u.length = y at *
    simp [fa_10, show ¬ ((1048576 : Int) < c.length) by omega, show ((c.length : Int) ≤ 1048576) by omega, l1, hu, ht]
    refine cutW (tabK_mono _) [(30, .bool (decide (NeM u t x y < 0)))] (by simp [hu, ht]) ?_
    simp [hu, ht]
    refine fun h => ?_
    obtain ⟨i, j, rfl, rfl, hi, hj, a⟩ := NeM_ex (u := u) (t := t) (x := x) (y := y) (by omega)
    rw [NeM_nat a hi hj]
    have v := a.lat
    have hul := hu.le
    have hk := a.nr_lt (x := i) (y := j)
    have hr : ∀ z, z < u.length → tb u (tn t (nr u t i j) (nr u t j z)) (nr u t i z) = true := fun z hz => a.nr_tr hi hj hz
    have htop := a.nr_top hi hj
    have hcm := a.nr_comm (x := j) (y := i)
    have m1 := fm_NearI_look u t j i hu ht
    rw [NeM_nat a hj hi, hcm] at m1
    generalize nr u t i j = k at *
    refine loopA (tabK_mono _) u.length (fun z => [(7, I64 z)]) (fun _ => [⟨24, 1, .cells [IL u, RL t]⟩]) (fun _ => True) (by simp) (by simp) (fun z g hz _ => ?_)
    simp [lb_10_8, wrap_succ hz hul]
    refine ⟨fun h2 => ?_, fun h2 => ?_⟩
    · have e2 := hr z h2
      have m2 := fm_NearI_look u t j z hu ht
      have m3 := fm_NearI_look u t i z hu ht
      rw [NeM_nat a hj h2] at m2
      rw [NeM_nat a hi h2] at m3
      have s1 := a.nr_lt (x := j) (y := z)
      have s2 := a.nr_lt (x := i) (y := z)
      generalize nr u t j z = r1 at *
      generalize nr u t i z = r2 at *
      have s3 := a.tn_lt hk s1
      have s4 := a.tn_int hk s1
      generalize tn t k r1 = w at *
      have m4 := fm_BelowI_look u w r2 hu
      rw [BeM_nat v s3 s2, e2] at m4
      simp [h2, hk, s1, a.len, a.rows, m2, m3, m4, s4, wrap_succ hz hul]
    · refine cutW (tabK_mono _) [(2, .bool true)] (by
        simp [m1, wrap64 (n := (u.length : Int) - 1) (by omega) (by omega)]
        omega) ?_
      simp

end Go.PS
end
