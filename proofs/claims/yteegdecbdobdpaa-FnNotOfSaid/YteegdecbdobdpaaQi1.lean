/- Part 1 of what the last text proves: Three times not is once: the law holds at every input. -/
import Derived.Test.YteegdecbdobdpaaQg8
section
-- PRINTED by mkdraw.py: the draw of an algebra and an element.
set_option maxRecDepth 100000
set_option linter.unusedVariables false
set_option linter.unusedSimpArgs false
namespace Go.PS
open Go.Proofs
set_option maxHeartbeats 4000000 in
theorem not_dag {Q : St → Prop} {b : List Int} {p : Nat} {u : List Int} {t : List (List Int)} {y : Int} (l0 : fw_element.look [.ptr 0 0 0, I64 u.length] (RS b p) = some (I64 y, RS b (p + 2)))
    (hQ : ∀ tb g, getT tb 2 = .ptr 16 1 0 → getT tb 3 = I64 y → Q ⟨tb, [⟨40, 3,  .cells [IL u, RL t]⟩, ⟨4080, 2, .cells (RS b (p + 2))⟩, ⟨16, 1, .cells [IL u, RL t]⟩], g⟩) : ∀ tb g, getT tb 2 = .ptr 16 1 0 → getT tb 4 = .ptr 4080 2 0 → getT tb 5 = .ptr 40 3 0 → exT (CI inlR) 0 (inlW (CI inlR) [] [fw_someAlg, fw_element] 1 0) ro_54_3 Q ex_54_3_0 ⟨tb, [⟨40, 3,  .cells [IL u, RL t]⟩, ⟨4080, 2, .cells (RS b (p))⟩, ⟨16, 1, .cells [.nil, .nil]⟩], g⟩ := by
  have n255 : ∀ tb g, getT tb 2 = .ptr 16 1 0 → getT tb 4 = .ptr 4080 2 0 → getT tb 5 = .ptr 40 3 0 → getT tb 10 = AL u t → getT tb 11 = .ptr 4080 2 0 → getT tb 12 = .ptr 40 3 0 → getT tb 13 = IL u → getT tb 14 = I64 (u.length : Int) → getT tb 15 = I64 y → getT tb 3 = I64 y → exT (CI inlR) 0 (inlW (CI inlR) [] [fw_someAlg, fw_element] 1 0) ro_54_3 Q ex_54_3_255 ⟨tb, [⟨40, 3,  .cells [IL u, RL t]⟩, ⟨4080, 2, .cells (RS b (p + 2))⟩, ⟨16, 1, .cells [IL u, RL t]⟩], g⟩ := by
    intro tb g e2 e4 e5 e10 e11 e12 e13 e14 e15 e3
    unfold ex_54_3_255
    exact hQ tb g e2 e3
  have n127 : ∀ tb g, getT tb 2 = .ptr 16 1 0 → getT tb 4 = .ptr 4080 2 0 → getT tb 5 = .ptr 40 3 0 → getT tb 10 = AL u t → getT tb 11 = .ptr 4080 2 0 → getT tb 12 = .ptr 40 3 0 → getT tb 13 = IL u → getT tb 14 = I64 (u.length : Int) → getT tb 15 = I64 y → exT (CI inlR) 0 (inlW (CI inlR) [] [fw_someAlg, fw_element] 1 0) ro_54_3 Q ex_54_3_127 ⟨tb, [⟨40, 3,  .cells [IL u, RL t]⟩, ⟨4080, 2, .cells (RS b (p + 2))⟩, ⟨16, 1, .cells [IL u, RL t]⟩], g⟩ := by
    intro tb g e2 e4 e5 e10 e11 e12 e13 e14 e15
    unfold ex_54_3_127
    simp only [exT_alt, exT_one, exT_stop, and_true]
    rw [ro_54_3_7]
    simp [callDOWR, l0, e2, e4, e5, e10, e11, e12, e13, e14, e15]
    refine n255 _ _ ?_ ?_ ?_ ?_ ?_ ?_ ?_ ?_ ?_ ?_ <;> simp [getT, e2, e4, e5, e10, e11, e12, e13, e14, e15]
  have n63 : ∀ tb g, getT tb 2 = .ptr 16 1 0 → getT tb 4 = .ptr 4080 2 0 → getT tb 5 = .ptr 40 3 0 → getT tb 10 = AL u t → getT tb 11 = .ptr 4080 2 0 → getT tb 12 = .ptr 40 3 0 → getT tb 13 = IL u → getT tb 14 = I64 (u.length : Int) → getT tb 15 = I64 y → exT (CI inlR) 0 (inlW (CI inlR) [] [fw_someAlg, fw_element] 1 0) ro_54_3 Q ex_54_3_63 ⟨tb, [⟨40, 3,  .cells [IL u, RL t]⟩, ⟨4080, 2, .cells (RS b (p + 2))⟩, ⟨16, 1, .cells [.nil, .nil]⟩], g⟩ := by
    intro tb g e2 e4 e5 e10 e11 e12 e13 e14 e15
    unfold ex_54_3_63
    simp only [exT_alt, exT_one, exT_stop, and_true]
    rw [ro_54_3_6]
    simp [callDOWR, l0, e2, e4, e5, e10, e11, e12, e13, e14, e15]
    refine n127 _ _ ?_ ?_ ?_ ?_ ?_ ?_ ?_ ?_ ?_ <;> simp [getT, e2, e4, e5, e10, e11, e12, e13, e14, e15]
  have n62 : ∀ tb g, getT tb 2 = .ptr 16 1 0 → getT tb 4 = .ptr 4080 2 0 → getT tb 5 = .ptr 40 3 0 → getT tb 11 = .ptr 4080 2 0 → getT tb 12 = .ptr 40 3 0 → getT tb 13 = IL u → getT tb 14 = I64 (u.length : Int) → getT tb 15 = I64 y → exT (CI inlR) 0 (inlW (CI inlR) [] [fw_someAlg, fw_element] 1 0) ro_54_3 Q ex_54_3_62 ⟨tb, [⟨40, 3,  .cells [IL u, RL t]⟩, ⟨4080, 2, .cells (RS b (p + 2))⟩, ⟨16, 1, .cells [.nil, .nil]⟩], g⟩ := by
    intro tb g e2 e4 e5 e11 e12 e13 e14 e15
    unfold ex_54_3_62
    simp only [exT_alt, exT_one, exT_stop, and_true]
    rw [ro_54_3_0]
    simp [callDOWR, l0, e2, e4, e5, e11, e12, e13, e14, e15]
    refine n63 _ _ ?_ ?_ ?_ ?_ ?_ ?_ ?_ ?_ ?_ <;> simp [getT, e2, e4, e5, e11, e12, e13, e14, e15]
  have n31 : ∀ tb g, getT tb 2 = .ptr 16 1 0 → getT tb 4 = .ptr 4080 2 0 → getT tb 5 = .ptr 40 3 0 → getT tb 10 = AL u t → getT tb 11 = .ptr 4080 2 0 → getT tb 12 = .ptr 40 3 0 → getT tb 13 = IL u → getT tb 14 = I64 (u.length : Int) → exT (CI inlR) 0 (inlW (CI inlR) [] [fw_someAlg, fw_element] 1 0) ro_54_3 Q ex_54_3_31 ⟨tb, [⟨40, 3,  .cells [IL u, RL t]⟩, ⟨4080, 2, .cells (RS b (p))⟩, ⟨16, 1, .cells [.nil, .nil]⟩], g⟩ := by
    intro tb g e2 e4 e5 e10 e11 e12 e13 e14
    unfold ex_54_3_31
    simp only [exT_alt, exT_one, exT_stop, and_true]
    rw [ro_54_3_5]
    simp [callDOWR, l0, e2, e4, e5, e10, e11, e12, e13, e14]
    refine n63 _ _ ?_ ?_ ?_ ?_ ?_ ?_ ?_ ?_ ?_ <;> simp [getT, e2, e4, e5, e10, e11, e12, e13, e14]
  have n30 : ∀ tb g, getT tb 2 = .ptr 16 1 0 → getT tb 4 = .ptr 4080 2 0 → getT tb 5 = .ptr 40 3 0 → getT tb 11 = .ptr 4080 2 0 → getT tb 12 = .ptr 40 3 0 → getT tb 13 = IL u → getT tb 14 = I64 (u.length : Int) → exT (CI inlR) 0 (inlW (CI inlR) [] [fw_someAlg, fw_element] 1 0) ro_54_3 Q ex_54_3_30 ⟨tb, [⟨40, 3,  .cells [IL u, RL t]⟩, ⟨4080, 2, .cells (RS b (p))⟩, ⟨16, 1, .cells [.nil, .nil]⟩], g⟩ := by
    intro tb g e2 e4 e5 e11 e12 e13 e14
    unfold ex_54_3_30
    simp only [exT_alt, exT_one, exT_stop, and_true]
    refine ⟨?_, ?_⟩
    · rw [ro_54_3_0]
      simp [callDOWR, l0, e2, e4, e5, e11, e12, e13, e14]
      refine n31 _ _ ?_ ?_ ?_ ?_ ?_ ?_ ?_ ?_ <;> simp [getT, e2, e4, e5, e11, e12, e13, e14]
    · rw [ro_54_3_5]
      simp [callDOWR, l0, e2, e4, e5, e11, e12, e13, e14]
      refine n62 _ _ ?_ ?_ ?_ ?_ ?_ ?_ ?_ ?_ <;> simp [getT, e2, e4, e5, e11, e12, e13, e14]
  have n15 : ∀ tb g, getT tb 2 = .ptr 16 1 0 → getT tb 4 = .ptr 4080 2 0 → getT tb 5 = .ptr 40 3 0 → getT tb 10 = AL u t → getT tb 11 = .ptr 4080 2 0 → getT tb 12 = .ptr 40 3 0 → getT tb 13 = IL u → exT (CI inlR) 0 (inlW (CI inlR) [] [fw_someAlg, fw_element] 1 0) ro_54_3 Q ex_54_3_15 ⟨tb, [⟨40, 3,  .cells [IL u, RL t]⟩, ⟨4080, 2, .cells (RS b (p))⟩, ⟨16, 1, .cells [.nil, .nil]⟩], g⟩ := by
    intro tb g e2 e4 e5 e10 e11 e12 e13
    unfold ex_54_3_15
    simp only [exT_alt, exT_one, exT_stop, and_true]
    rw [ro_54_3_4]
    simp [callDOWR, l0, e2, e4, e5, e10, e11, e12, e13]
    refine n31 _ _ ?_ ?_ ?_ ?_ ?_ ?_ ?_ ?_ <;> simp [getT, e2, e4, e5, e10, e11, e12, e13]
  have n14 : ∀ tb g, getT tb 2 = .ptr 16 1 0 → getT tb 4 = .ptr 4080 2 0 → getT tb 5 = .ptr 40 3 0 → getT tb 11 = .ptr 4080 2 0 → getT tb 12 = .ptr 40 3 0 → getT tb 13 = IL u → exT (CI inlR) 0 (inlW (CI inlR) [] [fw_someAlg, fw_element] 1 0) ro_54_3 Q ex_54_3_14 ⟨tb, [⟨40, 3,  .cells [IL u, RL t]⟩, ⟨4080, 2, .cells (RS b (p))⟩, ⟨16, 1, .cells [.nil, .nil]⟩], g⟩ := by
    intro tb g e2 e4 e5 e11 e12 e13
    unfold ex_54_3_14
    simp only [exT_alt, exT_one, exT_stop, and_true]
    refine ⟨?_, ?_⟩
    · rw [ro_54_3_0]
      simp [callDOWR, l0, e2, e4, e5, e11, e12, e13]
      refine n15 _ _ ?_ ?_ ?_ ?_ ?_ ?_ ?_ <;> simp [getT, e2, e4, e5, e11, e12, e13]
    · rw [ro_54_3_4]
      simp [callDOWR, l0, e2, e4, e5, e11, e12, e13]
      refine n30 _ _ ?_ ?_ ?_ ?_ ?_ ?_ ?_ <;> simp [getT, e2, e4, e5, e11, e12, e13]
  have n7 : ∀ tb g, getT tb 2 = .ptr 16 1 0 → getT tb 4 = .ptr 4080 2 0 → getT tb 5 = .ptr 40 3 0 → getT tb 10 = AL u t → getT tb 11 = .ptr 4080 2 0 → getT tb 12 = .ptr 40 3 0 → exT (CI inlR) 0 (inlW (CI inlR) [] [fw_someAlg, fw_element] 1 0) ro_54_3 Q ex_54_3_7 ⟨tb, [⟨40, 3,  .cells [IL u, RL t]⟩, ⟨4080, 2, .cells (RS b (p))⟩, ⟨16, 1, .cells [.nil, .nil]⟩], g⟩ := by
    intro tb g e2 e4 e5 e10 e11 e12
    unfold ex_54_3_7
    simp only [exT_alt, exT_one, exT_stop, and_true]
    rw [ro_54_3_3]
    simp [callDOWR, l0, e2, e4, e5, e10, e11, e12]
    refine n15 _ _ ?_ ?_ ?_ ?_ ?_ ?_ ?_ <;> simp [getT, e2, e4, e5, e10, e11, e12]
  have n6 : ∀ tb g, getT tb 2 = .ptr 16 1 0 → getT tb 4 = .ptr 4080 2 0 → getT tb 5 = .ptr 40 3 0 → getT tb 11 = .ptr 4080 2 0 → getT tb 12 = .ptr 40 3 0 → exT (CI inlR) 0 (inlW (CI inlR) [] [fw_someAlg, fw_element] 1 0) ro_54_3 Q ex_54_3_6 ⟨tb, [⟨40, 3,  .cells [IL u, RL t]⟩, ⟨4080, 2, .cells (RS b (p))⟩, ⟨16, 1, .cells [.nil, .nil]⟩], g⟩ := by
    intro tb g e2 e4 e5 e11 e12
    unfold ex_54_3_6
    simp only [exT_alt, exT_one, exT_stop, and_true]
    refine ⟨?_, ?_⟩
    · rw [ro_54_3_0]
      simp [callDOWR, l0, e2, e4, e5, e11, e12]
      refine n7 _ _ ?_ ?_ ?_ ?_ ?_ ?_ <;> simp [getT, e2, e4, e5, e11, e12]
    · rw [ro_54_3_3]
      simp [callDOWR, l0, e2, e4, e5, e11, e12]
      refine n14 _ _ ?_ ?_ ?_ ?_ ?_ ?_ <;> simp [getT, e2, e4, e5, e11, e12]
  have n3 : ∀ tb g, getT tb 2 = .ptr 16 1 0 → getT tb 4 = .ptr 4080 2 0 → getT tb 5 = .ptr 40 3 0 → getT tb 10 = AL u t → getT tb 11 = .ptr 4080 2 0 → exT (CI inlR) 0 (inlW (CI inlR) [] [fw_someAlg, fw_element] 1 0) ro_54_3 Q ex_54_3_3 ⟨tb, [⟨40, 3,  .cells [IL u, RL t]⟩, ⟨4080, 2, .cells (RS b (p))⟩, ⟨16, 1, .cells [.nil, .nil]⟩], g⟩ := by
    intro tb g e2 e4 e5 e10 e11
    unfold ex_54_3_3
    simp only [exT_alt, exT_one, exT_stop, and_true]
    rw [ro_54_3_2]
    simp [callDOWR, l0, e2, e4, e5, e10, e11]
    refine n7 _ _ ?_ ?_ ?_ ?_ ?_ ?_ <;> simp [getT, e2, e4, e5, e10, e11]
  have n2 : ∀ tb g, getT tb 2 = .ptr 16 1 0 → getT tb 4 = .ptr 4080 2 0 → getT tb 5 = .ptr 40 3 0 → getT tb 11 = .ptr 4080 2 0 → exT (CI inlR) 0 (inlW (CI inlR) [] [fw_someAlg, fw_element] 1 0) ro_54_3 Q ex_54_3_2 ⟨tb, [⟨40, 3,  .cells [IL u, RL t]⟩, ⟨4080, 2, .cells (RS b (p))⟩, ⟨16, 1, .cells [.nil, .nil]⟩], g⟩ := by
    intro tb g e2 e4 e5 e11
    unfold ex_54_3_2
    simp only [exT_alt, exT_one, exT_stop, and_true]
    refine ⟨?_, ?_⟩
    · rw [ro_54_3_0]
      simp [callDOWR, l0, e2, e4, e5, e11]
      refine n3 _ _ ?_ ?_ ?_ ?_ ?_ <;> simp [getT, e2, e4, e5, e11]
    · rw [ro_54_3_2]
      simp [callDOWR, l0, e2, e4, e5, e11]
      refine n6 _ _ ?_ ?_ ?_ ?_ ?_ <;> simp [getT, e2, e4, e5, e11]
  have n0 : ∀ tb g, getT tb 2 = .ptr 16 1 0 → getT tb 4 = .ptr 4080 2 0 → getT tb 5 = .ptr 40 3 0 → exT (CI inlR) 0 (inlW (CI inlR) [] [fw_someAlg, fw_element] 1 0) ro_54_3 Q ex_54_3_0 ⟨tb, [⟨40, 3,  .cells [IL u, RL t]⟩, ⟨4080, 2, .cells (RS b (p))⟩, ⟨16, 1, .cells [.nil, .nil]⟩], g⟩ := by
    intro tb g e2 e4 e5
    unfold ex_54_3_0
    simp only [exT_alt, exT_one, exT_stop, and_true]
    rw [ro_54_3_1]
    simp [callDOWR, l0, e2, e4, e5]
    refine n2 _ _ ?_ ?_ ?_ ?_ <;> simp [getT, e2, e4, e5]
  exact n0

theorem drNot_pc (c : List Int) (hc : Byt c) (hl : Big c.length) : PC Try.prog 54 [BL c] none false (fun r _ => r = .tup [AL (saM (rdB c) 0).1.1 (saM (rdB c) 0).1.2, I64 (elM (rdB c) (saM (rdB c) 0).2 (saM (rdB c) 0).1.1.length)]) := by
  have hl := hl.le
  have hb := rdB_ok hc
  have l1 := fw_someAlg_look (rdB c) 0 hb (by omega) (by omega)
  obtain ⟨g, q⟩ := saM_few hb (p := 0) (by omega)
  have hu := g.u
  have l2 := fw_element_look (rdB c) (saM (rdB c) 0).2 (saM (rdB c) 0).1.1.length hb (by omega) (by omega) (by omega)
  refine pcR [] [fw_someAlg, fw_element] fok_54 ?_
  generalize saM (rdB c) 0 = A at *
  obtain ⟨⟨u, t⟩, p1⟩ := A
  dsimp only at *
  generalize elM (rdB c) p1 u.length = y at *
  simp [fa_54]
  refine newR hl ?_
  simp [callOWR, l1]
  refine cutE (α := Unit) (fun _ => [(2, .ptr 16 1 0), (3, I64 y)]) (fun _ => [⟨16, 1, .cells [IL u, RL t]⟩]) ?_ (fun _ g0 => ?_)
  · refine not_dag l2 (fun tb g q2 q3 => ?_) _ _ (by simp) (by simp) (by simp)
    simp [q2, q3]
  · simp
noncomputable def fm_drNot : Fam Try.prog := mkFam (X := List Int) 54 false (fun c => [BL c]) (fun c => (Byt c) ∧ (Big c.length)) (fun c => .tup [AL (saM (rdB c) 0).1.1 (saM (rdB c) 0).1.2, I64 (elM (rdB c) (saM (rdB c) 0).2 (saM (rdB c) 0).1.1.length)]) (by
  rintro c ⟨hc, hl⟩
  exact drNot_pc c hc hl)
@[simp] theorem fm_drNot_id : fm_drNot.id = 54 := rfl
@[simp] theorem fm_drNot_fresh : fm_drNot.fresh = false := rfl
@[simp] theorem fm_drNot_look (c : List Int) (hc : Byt c) (hl : Big c.length) : fm_drNot.look [BL c] = some (.tup [AL (saM (rdB c) 0).1.1 (saM (rdB c) 0).1.2, I64 (elM (rdB c) (saM (rdB c) 0).2 (saM (rdB c) 0).1.1.length)]) :=
  lookF_of (X := List Int) (args := fun c => [BL c]) (pre := fun c => (Byt c) ∧ (Big c.length)) (val := fun c => .tup [AL (saM (rdB c) 0).1.1 (saM (rdB c) 0).1.2, I64 (elM (rdB c) (saM (rdB c) 0).2 (saM (rdB c) 0).1.1.length)]) (by
  intro c c' h
  simp at h
  subst h
  rfl) c ⟨hc, hl⟩
attribute [irreducible] fm_drNot
end Go.PS
end

section
-- The law of opposites.
set_option maxRecDepth 100000
set_option linter.unusedVariables false
set_option linter.unusedSimpArgs false
namespace Go.PS
open Go.Proofs

set_option maxHeartbeats 2000000 in
theorem FnNotOf_pc (c : List Int) (hl : Hu c.length) (hc : Byt c) : PC Try.prog 11 [BL c] none true (fun r _ => r = .bool true) := by
  have hl' := hl.le
  refine pcT [fm_drNot, fm_NotI, fm_NotS, fm_ImplyI, fm_BelowI] fok_11 ?_
  rcases Nat.lt_or_ge 1048576 c.length with q | q
  · simp [fa_11, show ((1048576 : Int) < c.length) by omega]
  · have hbig : Big c.length := by unfold Big; omega
    have l1 := fm_drNot_look c hc hbig
    obtain ⟨g, _⟩ := saM_few (rdB_ok hc) (p := 0) (by omega)
    have hu := g.big
    have ht := g.bigR
    generalize saM (rdB c) 0 = A at *
    obtain ⟨⟨u, t⟩, p1⟩ := A
    dsimp only at *
    generalize elM (rdB c) p1 u.length = x at *
    simp [fa_11, show ¬ ((1048576 : Int) < c.length) by omega, show ((c.length : Int) ≤ 1048576) by omega, l1, hu, ht]
    refine cutW (tabK_mono _) [(26, .bool (decide (NoM u t x < 0)))] (by simp [hu, ht]) ?_
    simp [hu, ht]
    refine fun h => ?_
    obtain ⟨i, rfl, hi, a⟩ := NoM_ex (u := u) (t := t) (x := x) (by omega)
    have v := a.lat
    have hk := a.im_lt (x := i) (y := 0)
    have hk2 := a.im_lt (x := im u t i 0) (y := 0)
    have n1 := fm_NotI_look u t i hu ht
    have n2 := fm_NotI_look u t (im u t i 0 : Nat) hu ht
    have n3 := fm_NotI_look u t (im u t (im u t i 0) 0 : Nat) hu ht
    have n4 : fm_ImplyI.look [AL u t, I64 i, I64 0] = _ := fm_ImplyI_look u t i (0 : Nat) hu ht
    have n5 := fm_BelowI_look u i (im u t (im u t i 0) 0 : Nat) hu
    have n6 := a.not_mul hi
    have n7 := a.tn_int hi hk
    rw [n6] at n7
    rw [NoM_nat a hi] at n1
    rw [NoM_nat a hk] at n2
    rw [NoM_nat a hk2, a.nnn hi] at n3
    rw [ImM_nat a hi v.pos] at n4
    rw [BeM_nat v hi hk2, a.nn_le hi] at n5
    rw [NoM_nat a hi, NoM_nat a hk]
    generalize im u t (im u t i 0) 0 = k2 at *
    generalize im u t i 0 = k at *
    refine cutW (tabK_mono _) [(2, .bool true)] (by simp [n1, n2, n3, n4, n5, n7, hi, hk, a.len, a.rows]) ?_
    simp

end Go.PS
end
