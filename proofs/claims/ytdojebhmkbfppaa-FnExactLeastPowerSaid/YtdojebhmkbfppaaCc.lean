/- Contracts of both lattices. -/
import Derived.Test.YtdojebhmkbfppaaCb
set_option maxRecDepth 100000
set_option linter.unusedVariables false
set_option linter.unusedSimpArgs false
namespace Go.PS
open Go.Proofs

theorem Sm.le {up : List Int} (s : Sm up) : up.length ≤ 1099511627776 := by have := s.six; omega

theorem all_succ {i : Nat} {f : Nat → Bool} : (List.range (i + 1)).all f = ((List.range i).all f && f i) := by
  simp [List.range_succ]

theorem meetS_pc (up : List Int) (x y : Int) (s : Sm up) (hx0 : 0 ≤ x) (hx : x.toNat < up.length) (hy0 : 0 ≤ y) (hy : y.toNat < up.length) : PC Try.prog 127 [IL up, I64 x, I64 y] none true (fun r _ => r = I64 (meetM up x.toNat y.toNat)) := by
  obtain ⟨x, rfl⟩ := Int.eq_ofNat_of_zero_le hx0
  obtain ⟨y, rfl⟩ := Int.eq_ofNat_of_zero_le hy0
  simp at hx hy
  refine pcT [fm_belowS] fok_127 ?_
  simp [fa_127]
  refine loopA (tabK_mono _) up.length (fun i => [(7, I64 i)]) (fun _ => []) (fun z => isM up x y z = false) (by simp) (by simp) (fun z g hz hP => ?_)
  simp [lb_127_2, wrap_succ hz s.le]
  refine ⟨fun h => ?_, fun h => by rw [meetM, firstI_none (fun j hj => hP j (by omega))]⟩
  refine cutW (tabK_mono _) [(8, .bool (tb up z x && tb up z y))] (by simp [s, h, hx, hy]; grind) ?_
  simp
  refine loopA (tabK_mono _) up.length (fun i => [(8, .bool (tb up z x && tb up z y && (List.range i).all fun w => !tb up w x || !tb up w y || tb up w z)), (9, I64 i)]) (fun _ => []) (fun _ => True) (by simp) (by simp) (fun w g hw _ => ?_)
  generalize ha : (tb up z x && tb up z y && (List.range w).all fun w => !tb up w x || !tb up w y || tb up w z) = acc
  simp [lb_127_6, wrap_succ hw s.le]
  refine cutW (tabK_mono _) [(32, .bool (decide (w < up.length) && acc))] (by simp; grind) ?_
  simp
  refine ⟨fun h2 h3 => ?_, fun h2 => ?_⟩
  · refine cutW (tabK_mono _) [(8, .bool (!tb up w x || !tb up w y || tb up w z))] (by simp [s, h, h2, hx, hy]; grind) ?_
    simp [wrap_succ hw s.le, all_succ, h2]
    grind
  · have e : acc = isM up x y z := by
      by_cases h3 : w < up.length
      · rw [h2 h3] at ha ⊢
        rw [Bool.eq_false_iff] at ha
        symm; rw [Bool.eq_false_iff]; intro h4; apply ha
        simp only [isM, Bool.and_eq_true, List.all_eq_true, List.mem_range] at h4 ⊢
        exact ⟨h4.1, fun v hv => h4.2 v (by omega)⟩
      · obtain rfl : w = up.length := by omega
        exact ha.symm
    simp [e, wrap_succ hz s.le]
    exact ⟨fun h4 => (firstI_some h h4 hP).symm, fun h4 => ⟨h, h4⟩⟩
noncomputable def fm_meetS : Fam Try.prog := mkFam (X := List Int × Int × Int) 127 true (fun (up, x, y) => [IL up, I64 x, I64 y]) (fun (up, x, y) => (Sm up) ∧ (0 ≤ x) ∧ (x.toNat < up.length) ∧ (0 ≤ y) ∧ (y.toNat < up.length)) (fun (up, x, y) => I64 (meetM up x.toNat y.toNat)) (by
  rintro ⟨up, x, y⟩ ⟨s, hx0, hx, hy0, hy⟩
  exact meetS_pc up x y s hx0 hx hy0 hy)
@[simp] theorem fm_meetS_id : fm_meetS.id = 127 := rfl
@[simp] theorem fm_meetS_fresh : fm_meetS.fresh = true := rfl
@[simp] theorem fm_meetS_look (up : List Int) (x y : Int) (s : Sm up) (hx0 : 0 ≤ x) (hx : x.toNat < up.length) (hy0 : 0 ≤ y) (hy : y.toNat < up.length) : fm_meetS.look [IL up, I64 x, I64 y] = some (I64 (meetM up x.toNat y.toNat)) :=
  lookF_of (X := List Int × Int × Int) (args := fun (up, x, y) => [IL up, I64 x, I64 y]) (pre := fun (up, x, y) => (Sm up) ∧ (0 ≤ x) ∧ (x.toNat < up.length) ∧ (0 ≤ y) ∧ (y.toNat < up.length)) (val := fun (up, x, y) => I64 (meetM up x.toNat y.toNat)) (by
  rintro ⟨up, x, y⟩ ⟨up', x', y'⟩ h
  simp at h
  try simp only [and_assoc] at h
  obtain ⟨rfl, rfl, rfl⟩ := h
  rfl) (up, x, y) ⟨s, hx0, hx, hy0, hy⟩
attribute [irreducible] fm_meetS

theorem joinS_pc (up : List Int) (x y : Int) (s : Sm up) (hx0 : 0 ≤ x) (hx : x.toNat < up.length) (hy0 : 0 ≤ y) (hy : y.toNat < up.length) : PC Try.prog 124 [IL up, I64 x, I64 y] none true (fun r _ => r = I64 (joinM up x.toNat y.toNat)) := by
  obtain ⟨x, rfl⟩ := Int.eq_ofNat_of_zero_le hx0
  obtain ⟨y, rfl⟩ := Int.eq_ofNat_of_zero_le hy0
  simp at hx hy
  refine pcT [fm_belowS] fok_124 ?_
  simp [fa_124]
  refine loopA (tabK_mono _) up.length (fun i => [(7, I64 i)]) (fun _ => []) (fun z => isJ up x y z = false) (by simp) (by simp) (fun z g hz hP => ?_)
  simp [lb_124_2, wrap_succ hz s.le]
  refine ⟨fun h => ?_, fun h => by rw [joinM, firstI_none (fun j hj => hP j (by omega))]⟩
  refine cutW (tabK_mono _) [(8, .bool (tb up x z && tb up y z))] (by simp [s, h, hx, hy]; grind) ?_
  simp
  refine loopA (tabK_mono _) up.length (fun i => [(8, .bool (tb up x z && tb up y z && (List.range i).all fun w => !tb up x w || !tb up y w || tb up z w)), (9, I64 i)]) (fun _ => []) (fun _ => True) (by simp) (by simp) (fun w g hw _ => ?_)
  generalize ha : (tb up x z && tb up y z && (List.range w).all fun w => !tb up x w || !tb up y w || tb up z w) = acc
  simp [lb_124_6, wrap_succ hw s.le]
  refine cutW (tabK_mono _) [(32, .bool (decide (w < up.length) && acc))] (by simp; grind) ?_
  simp
  refine ⟨fun h2 h3 => ?_, fun h2 => ?_⟩
  · refine cutW (tabK_mono _) [(8, .bool (!tb up x w || !tb up y w || tb up z w))] (by simp [s, h, h2, hx, hy]; grind) ?_
    simp [wrap_succ hw s.le, all_succ, h2]
    grind
  · have e : acc = isJ up x y z := by
      by_cases h3 : w < up.length
      · rw [h2 h3] at ha ⊢
        rw [Bool.eq_false_iff] at ha
        symm; rw [Bool.eq_false_iff]; intro h4; apply ha
        simp only [isJ, Bool.and_eq_true, List.all_eq_true, List.mem_range] at h4 ⊢
        exact ⟨h4.1, fun v hv => h4.2 v (by omega)⟩
      · obtain rfl : w = up.length := by omega
        exact ha.symm
    simp [e, wrap_succ hz s.le]
    exact ⟨fun h4 => (firstI_some h h4 hP).symm, fun h4 => ⟨h, h4⟩⟩
noncomputable def fm_joinS : Fam Try.prog := mkFam (X := List Int × Int × Int) 124 true (fun (up, x, y) => [IL up, I64 x, I64 y]) (fun (up, x, y) => (Sm up) ∧ (0 ≤ x) ∧ (x.toNat < up.length) ∧ (0 ≤ y) ∧ (y.toNat < up.length)) (fun (up, x, y) => I64 (joinM up x.toNat y.toNat)) (by
  rintro ⟨up, x, y⟩ ⟨s, hx0, hx, hy0, hy⟩
  exact joinS_pc up x y s hx0 hx hy0 hy)
@[simp] theorem fm_joinS_id : fm_joinS.id = 124 := rfl
@[simp] theorem fm_joinS_fresh : fm_joinS.fresh = true := rfl
@[simp] theorem fm_joinS_look (up : List Int) (x y : Int) (s : Sm up) (hx0 : 0 ≤ x) (hx : x.toNat < up.length) (hy0 : 0 ≤ y) (hy : y.toNat < up.length) : fm_joinS.look [IL up, I64 x, I64 y] = some (I64 (joinM up x.toNat y.toNat)) :=
  lookF_of (X := List Int × Int × Int) (args := fun (up, x, y) => [IL up, I64 x, I64 y]) (pre := fun (up, x, y) => (Sm up) ∧ (0 ≤ x) ∧ (x.toNat < up.length) ∧ (0 ≤ y) ∧ (y.toNat < up.length)) (val := fun (up, x, y) => I64 (joinM up x.toNat y.toNat)) (by
  rintro ⟨up, x, y⟩ ⟨up', x', y'⟩ h
  simp at h
  try simp only [and_assoc] at h
  obtain ⟨rfl, rfl, rfl⟩ := h
  rfl) (up, x, y) ⟨s, hx0, hx, hy0, hy⟩
attribute [irreducible] fm_joinS

theorem validLatticeS_pc (up : List Int) (hl : Big up.length) : PC Try.prog 123 [IL up] none true (fun r _ => r = .bool (decide (VL up))) := by
  have hl := hl.le
  refine pcT [fm_validOrder, fm_meetS, fm_joinS] fok_123 ?_
  simp [fa_123, hl]
  refine ⟨fun h v => h v.ord, fun v => ?_⟩
  have s := v.sm
  refine loopA (tabK_mono _) up.length (fun i => [(3, I64 i)]) (fun _ => []) (fun x => ∀ y, y < up.length → 0 ≤ meetM up x y ∧ 0 ≤ joinM up x y) (by simp) (by simp) (fun x g hx hP => ?_)
  simp [lb_123_4, wrap_succ hx hl]
  refine ⟨fun h => ?_, fun h => ⟨v, fun x hx => hP x (by omega)⟩⟩
  refine loopA (tabK_mono _) up.length (fun i => [(4, I64 i)]) (fun _ => []) (fun y => 0 ≤ meetM up x y ∧ 0 ≤ joinM up x y) (by simp) (by simp) (fun y g hy hQ => ?_)
  simp [lb_123_7, wrap_succ hx hl, wrap_succ hy hl]
  refine ⟨fun h2 => ?_, fun h2 => ⟨h, fun y hy => hQ y (by omega)⟩⟩
  refine cutW (tabK_mono _) [(31, .bool (decide (meetM up x y < 0) || decide (joinM up x y < 0)))] (by simp [s, h, h2]; grind) ?_
  simp [wrap_succ hy hl]
  refine ⟨fun h3 w => ?_, fun h3 h4 => ⟨h2, h3, h4⟩⟩
  have := w.mj x h y h2
  omega
noncomputable def fm_validLatticeS : Fam Try.prog := mkFam (X := List Int) 123 true (fun up => [IL up]) (fun up => (Big up.length)) (fun up => .bool (decide (VL up))) (by
  rintro up hl
  exact validLatticeS_pc up hl)
@[simp] theorem fm_validLatticeS_id : fm_validLatticeS.id = 123 := rfl
@[simp] theorem fm_validLatticeS_fresh : fm_validLatticeS.fresh = true := rfl
@[simp] theorem fm_validLatticeS_look (up : List Int) (hl : Big up.length) : fm_validLatticeS.look [IL up] = some (.bool (decide (VL up))) :=
  lookF_of (X := List Int) (args := fun up => [IL up]) (pre := fun up => (Big up.length)) (val := fun up => .bool (decide (VL up))) (by
  intro up up' h
  simp at h
  subst h
  rfl) up hl
attribute [irreducible] fm_validLatticeS

theorem within_pc (n lo hi : Int)  : PC Try.prog 80 [I64 n, I64 lo, I64 hi] none true (fun r _ => r = .bool (decide (lo ≤ n) && decide (n ≤ hi))) := by
  refine pcT [] fok_80 ?_
  simp [fa_80, gops]
  omega
noncomputable def fm_within : Fam Try.prog := mkFam (X := Int × Int × Int) 80 true (fun (n, lo, hi) => [I64 n, I64 lo, I64 hi]) (fun (n, lo, hi) => True) (fun (n, lo, hi) => .bool (decide (lo ≤ n) && decide (n ≤ hi))) (by
  rintro ⟨n, lo, hi⟩ _
  exact within_pc n lo hi)
@[simp] theorem fm_within_id : fm_within.id = 80 := rfl
@[simp] theorem fm_within_fresh : fm_within.fresh = true := rfl
@[simp] theorem fm_within_look (n lo hi : Int)  : fm_within.look [I64 n, I64 lo, I64 hi] = some (.bool (decide (lo ≤ n) && decide (n ≤ hi))) :=
  lookF_of (X := Int × Int × Int) (args := fun (n, lo, hi) => [I64 n, I64 lo, I64 hi]) (pre := fun (n, lo, hi) => True) (val := fun (n, lo, hi) => .bool (decide (lo ≤ n) && decide (n ≤ hi))) (by
  rintro ⟨n, lo, hi⟩ ⟨n', lo', hi'⟩ h
  simp at h
  try simp only [and_assoc] at h
  obtain ⟨rfl, rfl, rfl⟩ := h
  rfl) (n, lo, hi) trivial
attribute [irreducible] fm_within

theorem belowI_pc (up : List Int) (x y : Int) (h6 : up.length ≤ 6) (hx0 : 0 ≤ x) (hx : x.toNat < up.length) (hy0 : 0 ≤ y) (hy : y.toNat < up.length) : PC Try.prog 88 [IL up, I64 x, I64 y] none true (fun r _ => r = .bool (tb up x.toNat y.toNat)) := by
  obtain ⟨x, rfl⟩ := Int.eq_ofNat_of_zero_le hx0
  obtain ⟨y, rfl⟩ := Int.eq_ofNat_of_zero_le hy0
  simp at hx hy
  refine pcT [] fok_88 ?_
  simp [fa_88, hx]
  rw [Bool.eq_iff_iff]
  simp [shr_bit _ (show y ≤ 63 by omega), tb]
noncomputable def fm_belowI : Fam Try.prog := mkFam (X := List Int × Int × Int) 88 true (fun (up, x, y) => [IL up, I64 x, I64 y]) (fun (up, x, y) => (up.length ≤ 6) ∧ (0 ≤ x) ∧ (x.toNat < up.length) ∧ (0 ≤ y) ∧ (y.toNat < up.length)) (fun (up, x, y) => .bool (tb up x.toNat y.toNat)) (by
  rintro ⟨up, x, y⟩ ⟨h6, hx0, hx, hy0, hy⟩
  exact belowI_pc up x y h6 hx0 hx hy0 hy)
@[simp] theorem fm_belowI_id : fm_belowI.id = 88 := rfl
@[simp] theorem fm_belowI_fresh : fm_belowI.fresh = true := rfl
@[simp] theorem fm_belowI_look (up : List Int) (x y : Int) (h6 : up.length ≤ 6) (hx0 : 0 ≤ x) (hx : x.toNat < up.length) (hy0 : 0 ≤ y) (hy : y.toNat < up.length) : fm_belowI.look [IL up, I64 x, I64 y] = some (.bool (tb up x.toNat y.toNat)) :=
  lookF_of (X := List Int × Int × Int) (args := fun (up, x, y) => [IL up, I64 x, I64 y]) (pre := fun (up, x, y) => (up.length ≤ 6) ∧ (0 ≤ x) ∧ (x.toNat < up.length) ∧ (0 ≤ y) ∧ (y.toNat < up.length)) (val := fun (up, x, y) => .bool (tb up x.toNat y.toNat)) (by
  rintro ⟨up, x, y⟩ ⟨up', x', y'⟩ h
  simp at h
  try simp only [and_assoc] at h
  obtain ⟨rfl, rfl, rfl⟩ := h
  rfl) (up, x, y) ⟨h6, hx0, hx, hy0, hy⟩
attribute [irreducible] fm_belowI

end Go.PS
