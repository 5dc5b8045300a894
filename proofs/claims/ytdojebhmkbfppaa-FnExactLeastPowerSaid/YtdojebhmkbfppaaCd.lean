/- Contracts of the program's lattices. -/
import Derived.Test.YtdojebhmkbfppaaCc
set_option maxRecDepth 100000
set_option linter.unusedVariables false
set_option linter.unusedSimpArgs false
namespace Go.PS
open Go.Proofs

theorem meetI_pc (up : List Int) (x y : Int) (h6 : up.length ≤ 6) (hx0 : 0 ≤ x) (hx : x.toNat < up.length) (hy0 : 0 ≤ y) (hy : y.toNat < up.length) : PC Try.prog 162 [IL up, I64 x, I64 y] none true (fun r _ => r = I64 (meetM up x.toNat y.toNat)) := by
  obtain ⟨x, rfl⟩ := Int.eq_ofNat_of_zero_le hx0
  obtain ⟨y, rfl⟩ := Int.eq_ofNat_of_zero_le hy0
  simp at hx hy
  have hl : up.length ≤ 1099511627776 := by omega
  refine pcT [fm_belowI] fok_162 ?_
  simp [fa_162]
  refine loopA (tabK_mono _) up.length (fun i => [(12, I64 i)]) (fun _ => []) (fun z => isM up x y z = false) (by simp) (by simp) (fun z g hz hP => ?_)
  simp [lb_162_2, wrap_succ hz hl]
  refine ⟨fun h => ?_, fun h => by rw [meetM, firstI_none (fun j hj => hP j (by omega))]⟩
  refine cutW (tabK_mono _) [(26, .bool (!tb up z x || !tb up z y))] (by simp [h6, h, hx, hy]; grind) ?_
  simp [wrap_succ hz hl]
  refine ⟨fun h2 => ⟨h, by simp only [isM]; grind⟩, fun h2 h3 => ?_⟩
  refine loopA (tabK_mono _) up.length (fun i => [(8, .bool ((List.range i).all fun w => !tb up w x || !tb up w y || tb up w z)), (29, I64 i)]) (fun _ => []) (fun _ => True) (by simp) (by simp) (fun w g hw _ => ?_)
  generalize ha : ((List.range w).all fun w => !tb up w x || !tb up w y || tb up w z) = acc
  simp [lb_162_7, wrap_succ hw hl, wrap_succ hz hl]
  refine ⟨fun h4 => ?_, fun h4 => ?_⟩
  · refine cutW (tabK_mono _) [(8, .bool (acc && (!tb up w x || !tb up w y || tb up w z)))] (by simp [h6, h, h4, hx, hy]; grind) ?_
    simp [wrap_succ hw hl, all_succ, h4, ha]
  · obtain rfl : w = up.length := by omega
    have e : acc = isM up x y z := by simp only [isM, h2, h3, ha, Bool.true_and]
    simp [e, wrap_succ hz hl]
    exact ⟨fun h5 => (firstI_some h h5 hP).symm, fun h5 => ⟨h, h5⟩⟩
noncomputable def fm_meetI : Fam Try.prog := mkFam (X := List Int × Int × Int) 162 true (fun (up, x, y) => [IL up, I64 x, I64 y]) (fun (up, x, y) => (up.length ≤ 6) ∧ (0 ≤ x) ∧ (x.toNat < up.length) ∧ (0 ≤ y) ∧ (y.toNat < up.length)) (fun (up, x, y) => I64 (meetM up x.toNat y.toNat)) (by
  rintro ⟨up, x, y⟩ ⟨h6, hx0, hx, hy0, hy⟩
  exact meetI_pc up x y h6 hx0 hx hy0 hy)
@[simp] theorem fm_meetI_id : fm_meetI.id = 162 := rfl
@[simp] theorem fm_meetI_fresh : fm_meetI.fresh = true := rfl
@[simp] theorem fm_meetI_look (up : List Int) (x y : Int) (h6 : up.length ≤ 6) (hx0 : 0 ≤ x) (hx : x.toNat < up.length) (hy0 : 0 ≤ y) (hy : y.toNat < up.length) : fm_meetI.look [IL up, I64 x, I64 y] = some (I64 (meetM up x.toNat y.toNat)) :=
  lookF_of (X := List Int × Int × Int) (args := fun (up, x, y) => [IL up, I64 x, I64 y]) (pre := fun (up, x, y) => (up.length ≤ 6) ∧ (0 ≤ x) ∧ (x.toNat < up.length) ∧ (0 ≤ y) ∧ (y.toNat < up.length)) (val := fun (up, x, y) => I64 (meetM up x.toNat y.toNat)) (by
  rintro ⟨up, x, y⟩ ⟨up', x', y'⟩ h
  simp at h
  try simp only [and_assoc] at h
  obtain ⟨rfl, rfl, rfl⟩ := h
  rfl) (up, x, y) ⟨h6, hx0, hx, hy0, hy⟩
attribute [irreducible] fm_meetI

theorem joinI_pc (up : List Int) (x y : Int) (s : Sm up) (hx0 : 0 ≤ x) (hx : x.toNat < up.length) (hy0 : 0 ≤ y) (hy : y.toNat < up.length) : PC Try.prog 77 [IL up, I64 x, I64 y] none true (fun r _ => r = I64 (joinM up x.toNat y.toNat)) := by
  obtain ⟨x, rfl⟩ := Int.eq_ofNat_of_zero_le hx0
  obtain ⟨y, rfl⟩ := Int.eq_ofNat_of_zero_le hy0
  simp at hx hy
  have hl := s.le
  refine pcT [] fok_77 ?_
  simp [fa_77, hx, hy]
  refine loopA (tabK_mono _) up.length (fun i => [(20, I64 i)]) (fun _ => []) (fun z => isJ up x y z = false) (by simp) (by simp) (fun z g hz hP => ?_)
  simp [lb_77_3, wrap_succ hz hl]
  refine ⟨fun h => ?_, fun h => by rw [joinM, firstI_none (fun j hj => hP j (by omega))]⟩
  refine cutW (tabK_mono _) [(36, .bool (isJ up x y z))] (by rw [← isJ_bits s hx hy h]; simp [h]; grind) ?_
  simp [wrap_succ hz hl]
  exact ⟨fun h4 => (firstI_some h h4 hP).symm, fun h4 => ⟨h, h4⟩⟩
noncomputable def fm_joinI : Fam Try.prog := mkFam (X := List Int × Int × Int) 77 true (fun (up, x, y) => [IL up, I64 x, I64 y]) (fun (up, x, y) => (Sm up) ∧ (0 ≤ x) ∧ (x.toNat < up.length) ∧ (0 ≤ y) ∧ (y.toNat < up.length)) (fun (up, x, y) => I64 (joinM up x.toNat y.toNat)) (by
  rintro ⟨up, x, y⟩ ⟨s, hx0, hx, hy0, hy⟩
  exact joinI_pc up x y s hx0 hx hy0 hy)
@[simp] theorem fm_joinI_id : fm_joinI.id = 77 := rfl
@[simp] theorem fm_joinI_fresh : fm_joinI.fresh = true := rfl
@[simp] theorem fm_joinI_look (up : List Int) (x y : Int) (s : Sm up) (hx0 : 0 ≤ x) (hx : x.toNat < up.length) (hy0 : 0 ≤ y) (hy : y.toNat < up.length) : fm_joinI.look [IL up, I64 x, I64 y] = some (I64 (joinM up x.toNat y.toNat)) :=
  lookF_of (X := List Int × Int × Int) (args := fun (up, x, y) => [IL up, I64 x, I64 y]) (pre := fun (up, x, y) => (Sm up) ∧ (0 ≤ x) ∧ (x.toNat < up.length) ∧ (0 ≤ y) ∧ (y.toNat < up.length)) (val := fun (up, x, y) => I64 (joinM up x.toNat y.toNat)) (by
  rintro ⟨up, x, y⟩ ⟨up', x', y'⟩ h
  simp at h
  try simp only [and_assoc] at h
  obtain ⟨rfl, rfl, rfl⟩ := h
  rfl) (up, x, y) ⟨s, hx0, hx, hy0, hy⟩
attribute [irreducible] fm_joinI

theorem shl1 {n : Nat} (h : n ≤ 6) : IntKind.i64.wrap (bShl .i64 1 (n : Int) - 1) = 2 ^ n - 1 := by
  have hp : (2 : Int) ^ n ≤ 64 := by
    have := Nat.pow_le_pow_right (n := 2) (by omega) h
    exact_mod_cast this
  have hp0 : (0 : Int) < 2 ^ n := Int.pow_pos (by omega)
  have e : bShl .i64 1 (n : Int) = 2 ^ n := by
    unfold bShl
    rw [show min (n : Int).toNat IntKind.i64.bits = n from by simp [IntKind.bits]; omega, wrap64 (by omega) (by omega)]
    omega
  rw [e, wrap64 (by omega) (by omega)]

theorem validLatticeI_pc (up : List Int) (hl : Big up.length) : PC Try.prog 133 [IL up] none true (fun r _ => r = .bool (decide (VL up))) := by
  have hl := hl.le
  refine pcT [fm_within, fm_belowI, fm_meetI, fm_joinI] fok_133 ?_
  simp [fa_133]
  refine ⟨fun h v => ?_, fun h1 h6 => ?_⟩
  · have := v.ord.one; have := v.ord.six; omega
  have hN : up.length ≤ 6 := by omega
  obtain ⟨m, hm, el⟩ : ∃ m : Nat, m + 1 = up.length ∧ IntKind.i64.wrap ((up.length : Int) - 1) = (m : Int) := ⟨up.length - 1, by omega, by rw [wrap64 (by omega) (by omega)]; omega⟩
  have hml : m < up.length := by omega
  have h0l : 0 < up.length := by omega
  have em : up.length - 1 = m := by omega
  refine loopA (tabK_mono _) up.length (fun i => [(16, I64 i)]) (fun _ => []) (fun x => okRow up x = true ∧ ∀ y, y < up.length → okPair up x y = true) (by simp) (by simp) (fun x g hx hP => ?_)
  simp [lb_133_5, wrap_succ hx hl]
  refine ⟨fun h => ⟨h, ?_⟩, fun h => ?_⟩
  · refine cutW (tabK_mono _) [(47, .bool (!okRow up x))] (by simp [hN, h, el, h0l, hml, shl1 hN, okRow, em]; grind) ?_
    simp
    refine ⟨fun h2 v => (by rw [(ok_of_vo v.ord h).1] at h2; cases h2), fun h2 => ?_⟩
    refine loopA (tabK_mono _) up.length (fun i => [(50, I64 i)]) (fun _ => []) (fun y => okPair up x y = true) (by simp) (by simp) (fun y g hy hQ => ?_)
    simp [lb_133_10, wrap_succ hx hl, wrap_succ hy hl]
    refine ⟨fun h3 => ?_, fun h3 => ⟨h, h2, fun y hy => hQ y (by omega)⟩⟩
    refine cutW (tabK_mono _) [(76, .bool (!okPair up x y))] (by simp [hN, h, h3, okPair]; grind) ?_
    simp [wrap_succ hy hl]
    exact ⟨fun h4 v => (by rw [(ok_of_vo v.ord h).2 y h3] at h4; cases h4), fun h4 => ⟨h3, h4⟩⟩
  have v : VO up := vo_of_ok (by omega) hN (fun x hx => hP x (by omega))
  have s := v.sm
  clear hP hx h x
  refine loopA (tabK_mono _) up.length (fun i => [(81, I64 i)]) (fun _ => []) (fun x => ∀ y, y < up.length → 0 ≤ meetM up x y ∧ 0 ≤ joinM up x y) (by simp) (by simp) (fun x g hx hP => ?_)
  simp [lb_133_17, wrap_succ hx hl]
  refine ⟨fun h => ?_, fun h => ⟨v, fun x hx => hP x (by omega)⟩⟩
  refine loopA (tabK_mono _) up.length (fun i => [(86, I64 i)]) (fun _ => []) (fun y => 0 ≤ meetM up x y ∧ 0 ≤ joinM up x y) (by simp) (by simp) (fun y g hy hQ => ?_)
  simp [lb_133_20, wrap_succ hx hl, wrap_succ hy hl]
  refine ⟨fun h2 => ?_, fun h2 => ⟨h, fun y hy => hQ y (by omega)⟩⟩
  refine cutW (tabK_mono _) [(100, .bool (decide (meetM up x y < 0) || decide (joinM up x y < 0)))] (by simp [s, hN, h, h2]; grind) ?_
  simp [wrap_succ hy hl]
  refine ⟨fun h3 w => ?_, fun h3 h4 => ⟨h2, h3, h4⟩⟩
  have := w.mj x h y h2
  omega
noncomputable def fm_validLatticeI : Fam Try.prog := mkFam (X := List Int) 133 true (fun up => [IL up]) (fun up => (Big up.length)) (fun up => .bool (decide (VL up))) (by
  rintro up hl
  exact validLatticeI_pc up hl)
@[simp] theorem fm_validLatticeI_id : fm_validLatticeI.id = 133 := rfl
@[simp] theorem fm_validLatticeI_fresh : fm_validLatticeI.fresh = true := rfl
@[simp] theorem fm_validLatticeI_look (up : List Int) (hl : Big up.length) : fm_validLatticeI.look [IL up] = some (.bool (decide (VL up))) :=
  lookF_of (X := List Int) (args := fun up => [IL up]) (pre := fun up => (Big up.length)) (val := fun up => .bool (decide (VL up))) (by
  intro up up' h
  simp at h
  subst h
  rfl) up hl
attribute [irreducible] fm_validLatticeI

end Go.PS
