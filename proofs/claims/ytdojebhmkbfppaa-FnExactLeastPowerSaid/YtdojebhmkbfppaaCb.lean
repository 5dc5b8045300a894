/- Contracts of the reference's lattices. -/
import Derived.Test.YtdojebhmkbfppaaMa
set_option maxRecDepth 100000
set_option linter.unusedVariables false
set_option linter.unusedSimpArgs false
namespace Go.PS
open Go.Proofs

theorem inRange_pc (n lo hi : Int)  : PC Try.prog 78 [I64 n, I64 lo, I64 hi] none true (fun r _ => r = .bool (decide (lo ≤ n) && decide (n ≤ hi))) := by
  refine pcT [] fok_78 ?_
  simp [fa_78, gops]
  omega
noncomputable def fm_inRange : Fam Try.prog := mkFam (X := Int × Int × Int) 78 true (fun (n, lo, hi) => [I64 n, I64 lo, I64 hi]) (fun (n, lo, hi) => True) (fun (n, lo, hi) => .bool (decide (lo ≤ n) && decide (n ≤ hi))) (by
  rintro ⟨n, lo, hi⟩ _
  exact inRange_pc n lo hi)
@[simp] theorem fm_inRange_id : fm_inRange.id = 78 := rfl
@[simp] theorem fm_inRange_fresh : fm_inRange.fresh = true := rfl
@[simp] theorem fm_inRange_look (n lo hi : Int)  : fm_inRange.look [I64 n, I64 lo, I64 hi] = some (.bool (decide (lo ≤ n) && decide (n ≤ hi))) :=
  lookF_of (X := Int × Int × Int) (args := fun (n, lo, hi) => [I64 n, I64 lo, I64 hi]) (pre := fun (n, lo, hi) => True) (val := fun (n, lo, hi) => .bool (decide (lo ≤ n) && decide (n ≤ hi))) (by
  rintro ⟨n, lo, hi⟩ ⟨n', lo', hi'⟩ h
  simp at h
  try simp only [and_assoc] at h
  obtain ⟨rfl, rfl, rfl⟩ := h
  rfl) (n, lo, hi) trivial
attribute [irreducible] fm_inRange

theorem power_pc (n : Int) (h0 : 0 ≤ n) (h1 : n ≤ 61) : PC Try.prog 105 [I64 n] none true (fun r _ => r = I64 (2 ^ n.toNat)) := by
  obtain ⟨k, rfl⟩ := Int.eq_ofNat_of_zero_le h0
  refine pcT [] fok_105 ?_
  simp [fa_105]
  refine loopA (tabK_mono _) k (fun i => [(0, I64 ((k : Int) - i)), (3, I64 (2 ^ i))]) (fun _ => []) (fun _ => True) (by simp) (by simp) (fun i g hi _ => ?_)
  have h1 : (2 : Int) ^ i ≤ 2 ^ 61 := by
    have := Nat.pow_le_pow_right (n := 2) (by omega) (show i ≤ 61 by omega)
    exact_mod_cast this
  have h2 : (0 : Int) < 2 ^ i := Int.pow_pos (by omega)
  simp [lb_105_2, wrap64 (n := 2 * 2 ^ i) (by omega) (by omega), wrap64 (n := (k : Int) - i - 1) (by omega) (by omega)]
  refine ⟨fun h => ⟨by omega, by omega, ?_⟩, fun h => ?_⟩
  · rw [Int.pow_succ]; omega
  · rw [show i = k by omega]
noncomputable def fm_power : Fam Try.prog := mkFam (X := Int) 105 true (fun n => [I64 n]) (fun n => (0 ≤ n) ∧ (n ≤ 61)) (fun n => I64 (2 ^ n.toNat)) (by
  rintro n ⟨h0, h1⟩
  exact power_pc n h0 h1)
@[simp] theorem fm_power_id : fm_power.id = 105 := rfl
@[simp] theorem fm_power_fresh : fm_power.fresh = true := rfl
@[simp] theorem fm_power_look (n : Int) (h0 : 0 ≤ n) (h1 : n ≤ 61) : fm_power.look [I64 n] = some (I64 (2 ^ n.toNat)) :=
  lookF_of (X := Int) (args := fun n => [I64 n]) (pre := fun n => (0 ≤ n) ∧ (n ≤ 61)) (val := fun n => I64 (2 ^ n.toNat)) (by
  intro n n' h
  simp at h
  subst h
  rfl) n ⟨h0, h1⟩
attribute [irreducible] fm_power

theorem bit_pc (x j : Int) (h0 : 0 ≤ x) (h1 : x < 64) (h2 : 0 ≤ j) (h3 : j ≤ 61) : PC Try.prog 132 [I64 x, I64 j] none true (fun r _ => r = I64 ((x.tdiv (2 ^ j.toNat)).tmod 2)) := by
  refine pcT [fm_power] fok_132 ?_
  have h4 : (0 : Int) < 2 ^ j.toNat := Int.pow_pos (by omega)
  have h5 : x.tdiv (2 ^ j.toNat) ≤ x := by
    rw [Int.tdiv_eq_ediv_of_nonneg h0]; exact Int.ediv_le_self _ h0
  have h6 : 0 ≤ x.tdiv (2 ^ j.toNat) := Int.tdiv_nonneg h0 (by omega)
  simp [fa_132, h2, h3, wrap64 (n := x.tdiv (2 ^ j.toNat)) (by omega) (by omega)]
  omega
noncomputable def fm_bit : Fam Try.prog := mkFam (X := Int × Int) 132 true (fun (x, j) => [I64 x, I64 j]) (fun (x, j) => (0 ≤ x) ∧ (x < 64) ∧ (0 ≤ j) ∧ (j ≤ 61)) (fun (x, j) => I64 ((x.tdiv (2 ^ j.toNat)).tmod 2)) (by
  rintro ⟨x, j⟩ ⟨h0, h1, h2, h3⟩
  exact bit_pc x j h0 h1 h2 h3)
@[simp] theorem fm_bit_id : fm_bit.id = 132 := rfl
@[simp] theorem fm_bit_fresh : fm_bit.fresh = true := rfl
@[simp] theorem fm_bit_look (x j : Int) (h0 : 0 ≤ x) (h1 : x < 64) (h2 : 0 ≤ j) (h3 : j ≤ 61) : fm_bit.look [I64 x, I64 j] = some (I64 ((x.tdiv (2 ^ j.toNat)).tmod 2)) :=
  lookF_of (X := Int × Int) (args := fun (x, j) => [I64 x, I64 j]) (pre := fun (x, j) => (0 ≤ x) ∧ (x < 64) ∧ (0 ≤ j) ∧ (j ≤ 61)) (val := fun (x, j) => I64 ((x.tdiv (2 ^ j.toNat)).tmod 2)) (by
  rintro ⟨x, j⟩ ⟨x', j'⟩ h
  simp at h
  try simp only [and_assoc] at h
  obtain ⟨rfl, rfl⟩ := h
  rfl) (x, j) ⟨h0, h1, h2, h3⟩
attribute [irreducible] fm_bit

theorem belowS_pc (up : List Int) (x y : Int) (s : Sm up) (hx0 : 0 ≤ x) (hx : x.toNat < up.length) (hy0 : 0 ≤ y) (hy : y.toNat < up.length) : PC Try.prog 113 [IL up, I64 x, I64 y] none true (fun r _ => r = .bool (tb up x.toNat y.toNat)) := by
  obtain ⟨x, rfl⟩ := Int.eq_ofNat_of_zero_le hx0
  obtain ⟨y, rfl⟩ := Int.eq_ofNat_of_zero_le hy0
  simp at hx hy
  have h1 := s.lt hx
  have h6 := s.six
  refine pcT [fm_bit] fok_113 ?_
  simp [fa_113, h1.1, h1.2, hx, show (y : Int) ≤ 61 by omega]
  rw [Bool.eq_iff_iff]
  simp [bit_math h1.1, tb]
noncomputable def fm_belowS : Fam Try.prog := mkFam (X := List Int × Int × Int) 113 true (fun (up, x, y) => [IL up, I64 x, I64 y]) (fun (up, x, y) => (Sm up) ∧ (0 ≤ x) ∧ (x.toNat < up.length) ∧ (0 ≤ y) ∧ (y.toNat < up.length)) (fun (up, x, y) => .bool (tb up x.toNat y.toNat)) (by
  rintro ⟨up, x, y⟩ ⟨s, hx0, hx, hy0, hy⟩
  exact belowS_pc up x y s hx0 hx hy0 hy)
@[simp] theorem fm_belowS_id : fm_belowS.id = 113 := rfl
@[simp] theorem fm_belowS_fresh : fm_belowS.fresh = true := rfl
@[simp] theorem fm_belowS_look (up : List Int) (x y : Int) (s : Sm up) (hx0 : 0 ≤ x) (hx : x.toNat < up.length) (hy0 : 0 ≤ y) (hy : y.toNat < up.length) : fm_belowS.look [IL up, I64 x, I64 y] = some (.bool (tb up x.toNat y.toNat)) :=
  lookF_of (X := List Int × Int × Int) (args := fun (up, x, y) => [IL up, I64 x, I64 y]) (pre := fun (up, x, y) => (Sm up) ∧ (0 ≤ x) ∧ (x.toNat < up.length) ∧ (0 ≤ y) ∧ (y.toNat < up.length)) (val := fun (up, x, y) => .bool (tb up x.toNat y.toNat)) (by
  rintro ⟨up, x, y⟩ ⟨up', x', y'⟩ h
  simp at h
  try simp only [and_assoc] at h
  obtain ⟨rfl, rfl, rfl⟩ := h
  rfl) (up, x, y) ⟨s, hx0, hx, hy0, hy⟩
attribute [irreducible] fm_belowS

theorem validOrder_pc (up : List Int) (hl : up.length ≤ 1099511627776) : PC Try.prog 160 [IL up] none true (fun r _ => r = .bool (decide (VO up))) := by
  refine pcT [fm_inRange, fm_power, fm_belowS] fok_160 ?_
  simp [fa_160]
  refine ⟨fun h v => ?_, fun h1 h6 => ?_⟩
  · have := v.one; have := v.six; omega
  have hN : up.length ≤ 6 := by omega
  have hp : (2 : Int) ^ up.length ≤ 64 := by
    have := Nat.pow_le_pow_right (n := 2) (by omega) hN
    exact_mod_cast this
  have hp0 : (0 : Int) < 2 ^ up.length := Int.pow_pos (by omega)
  refine loopA (tabK_mono _) up.length (fun i => [(4, I64 i)]) (fun _ => []) (fun x => 0 ≤ gi up x ∧ gi up x < 2 ^ up.length) (by simp) (by simp) (fun i g hi hP => ?_)
  simp [lb_160_5, wrap_succ hi hl, show (up.length : Int) ≤ 61 by omega, wrap64 (n := 2 ^ up.length - 1) (by omega) (by omega)]
  refine ⟨fun h => ⟨h, ?_⟩, fun h => ?_⟩
  · refine ⟨fun h2 v => ?_, fun h2 h3 => ⟨h, h2, by omega⟩⟩
    have := v.rng i h
    omega
  have s : Sm up := ⟨hN, fun x hx => hP x (by omega)⟩
  clear hP hi h i
  obtain ⟨m, hm, el⟩ : ∃ m : Nat, m + 1 = up.length ∧ IntKind.i64.wrap ((up.length : Int) - 1) = (m : Int) := ⟨up.length - 1, by omega, by rw [wrap64 (by omega) (by omega)]; omega⟩
  have hml : m < up.length := by omega
  have h0l : 0 < up.length := by omega
  have em : up.length - 1 = m := by omega
  refine loopA (tabK_mono _) up.length (fun i => [(5, I64 i)]) (fun _ => []) (fun x => (tb up x x = true ∧ tb up 0 x = true ∧ tb up x m = true) ∧ ∀ y, y < up.length → (x ≠ y → tb up x y = true → tb up y x = false) ∧ ∀ z, z < up.length → tb up x y = true → tb up y z = true → tb up x z = true) (by simp) (by simp) (fun i g hi hP => ?_)
  simp [lb_160_10, wrap_succ hi hl, el]
  refine ⟨fun h => ?_, fun h => ?_⟩
  · refine cutW (tabK_mono _) [(50, .bool (!tb up i i || !tb up 0 i || !tb up i m))] (by simp [el, s, h, h0l, hml]; grind) ?_
    simp
    refine ⟨fun q v => ?_, fun q1 q2 q3 => ?_⟩
    · have := v.row i h; rw [em] at this; grind
    refine loopA (tabK_mono _) up.length (fun i => [(6, I64 i)]) (fun _ => []) (fun y => (i ≠ y → tb up i y = true → tb up y i = false) ∧ ∀ z, z < up.length → tb up i y = true → tb up y z = true → tb up i z = true) (by simp) (by simp) (fun j g hj hQ => ?_)
    simp [lb_160_15, wrap_succ hi hl, wrap_succ hj hl]
    refine ⟨fun h2 => ?_, fun h2 => ⟨h, ⟨q1, q2, q3⟩, fun y hy => hQ y (by omega)⟩⟩
    refine cutW (tabK_mono _) [(70, .bool (decide (i ≠ j) && tb up i j && tb up j i))] (by simp [s, h, h2]; grind) ?_
    simp
    refine ⟨fun r1 r2 r3 v => ?_, fun r => ?_⟩
    · have := v.anti i h j h2 r1 r2; rw [r3] at this; cases this
    refine loopA (tabK_mono _) up.length (fun i => [(7, I64 i)]) (fun _ => []) (fun z => tb up i j = true → tb up j z = true → tb up i z = true) (by simp) (by simp) (fun k g hk hR => ?_)
    simp [lb_160_20, wrap_succ hj hl, wrap_succ hk hl]
    refine ⟨fun h3 => ?_, fun h3 => ⟨h2, by grind, fun z hz => hR z (by omega)⟩⟩
    refine cutW (tabK_mono _) [(92, .bool (tb up i j && tb up j k && !tb up i k))] (by simp [s, h, h2, h3]; grind) ?_
    simp [wrap_succ hk hl]
    refine ⟨fun r1 r2 r3 v => ?_, fun r => ⟨h3, by grind⟩⟩
    have := v.trans i h j h2 k h3 r1 r2; rw [r3] at this; cases this
  · exact ⟨by omega, hN, s.rng, fun x hx => em ▸ (hP x (by omega)).1, fun x hx y hy hne => ((hP x (by omega)).2 y hy).1 hne, fun x hx y hy z hz => ((hP x (by omega)).2 y hy).2 z hz⟩
noncomputable def fm_validOrder : Fam Try.prog := mkFam (X := List Int) 160 true (fun up => [IL up]) (fun up => (up.length ≤ 1099511627776)) (fun up => .bool (decide (VO up))) (by
  rintro up hl
  exact validOrder_pc up hl)
@[simp] theorem fm_validOrder_id : fm_validOrder.id = 160 := rfl
@[simp] theorem fm_validOrder_fresh : fm_validOrder.fresh = true := rfl
@[simp] theorem fm_validOrder_look (up : List Int) (hl : up.length ≤ 1099511627776) : fm_validOrder.look [IL up] = some (.bool (decide (VO up))) :=
  lookF_of (X := List Int) (args := fun up => [IL up]) (pre := fun up => (up.length ≤ 1099511627776)) (val := fun up => .bool (decide (VO up))) (by
  intro up up' h
  simp at h
  subst h
  rfl) up hl
attribute [irreducible] fm_validOrder
end Go.PS
