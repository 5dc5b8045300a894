/- Contracts of terms. -/
import Derived.Test.YtdojebhmkbfppaaCf
set_option maxRecDepth 100000
set_option linter.unusedVariables false
set_option linter.unusedSimpArgs false
namespace Go.PS
open Go.Proofs

theorem endM_out {t : List Int} {i : Int} (h : i < 0 ∨ t.length ≤ i) : endM t i = -1 := by simp [endM, h]

theorem endM_of {t r : List Int} {i : Nat} (h : sk (t.drop i) 1 = some r) : i < t.length ∧ endM t i = ((t.length - r.length : Nat) : Int) ∧ r = t.drop (t.length - r.length) ∧ i < t.length - r.length := by
  obtain ⟨⟨p, hp⟩, hlt⟩ := sk_suf _ _ _ h
  have hlt := hlt (Nat.le_refl _)
  rw [List.length_drop] at hlt
  have hr := sk_drop h
  rw [List.drop_drop, List.length_drop] at hr
  refine ⟨by omega, ?_, ?_, by omega⟩
  · rw [endM, if_neg (by omega)]
    simp [h]
    omega
  · rw [show i + (t.length - i - r.length) = t.length - r.length by omega] at hr
    exact hr
theorem endM_no {t : List Int} {i : Nat} (h : sk (t.drop i) 1 = none) : endM t i = -1 := by
  unfold endM
  split
  · rfl
  · simp [h]

theorem endM_rng (t : List Int) (i : Int) : endM t i = -1 ∨ (i < endM t i ∧ endM t i ≤ t.length) := by
  by_cases h : i < 0 ∨ t.length ≤ i
  · exact .inl (endM_out h)
  · obtain ⟨k, rfl⟩ := Int.eq_ofNat_of_zero_le (show 0 ≤ i by omega)
    cases hs : sk (t.drop k) 1 with
    | none => exact .inl (endM_no hs)
    | some r =>
      obtain ⟨_, h2, _, h4⟩ := endM_of hs
      rw [h2]
      exact .inr ⟨by omega, by omega⟩

theorem arity_eq (x : Int) : arity x = if x = 12 then some 1 else if isBin x then some 2 else if isLeaf x then some 0 else none := rfl

theorem endM_step {t : List Int} {i : Nat} (h : i < t.length) : endM t i = if gi t i = 12 then endM t (i + 1) else if isBin (gi t i) then endM t (endM t (i + 1)) else if isLeaf (gi t i) then i + 1 else -1 := by
  have e0 : endM t i = endR t.length (sk (t.drop i) 1) := by
    rw [endM, if_neg (by omega)]
    simp
  have e1 : ∀ l : List Int, sk (gi t i :: l) 1 = match arity (gi t i) with | none => none | some a => sk l (0 + a) := fun l => rfl
  rw [e0, gi_drop h, e1, arity_eq]
  have ei : ((i : Int) + 1) = ((i + 1 : Nat) : Int) := by omega
  have l1 : (t.drop (i + 1)).length = t.length - (i + 1) := List.length_drop ..
  by_cases h1 : gi t i = 12
  · simp only [if_pos h1, Nat.zero_add]
    rw [ei]
    cases hs : sk (t.drop (i + 1)) 1 with
    | none => rw [endM_no hs]; rfl
    | some r =>
      obtain ⟨q1, q2, q3, q4⟩ := endM_of hs
      rw [q2, endR_some]; omega
  by_cases h2 : isBin (gi t i)
  · simp only [if_neg h1, if_pos h2, Nat.zero_add]
    rw [ei, show (2 : Nat) = 1 + 1 from rfl, sk_add]
    cases hs : sk (t.drop (i + 1)) 1 with
    | none => rw [endM_no hs, endM_out (.inl (by omega))]; rfl
    | some r =>
      obtain ⟨q1, q2, q3, q4⟩ := endM_of hs
      rw [q2]
      simp only [Option.bind_some]
      generalize hn : t.length - r.length = e at *
      rw [q3]
      cases hs2 : sk (t.drop e) 1 with
      | none => rw [endM_no hs2]; rfl
      | some r2 =>
        obtain ⟨s1, s2, s3, s4⟩ := endM_of hs2
        rw [s2, endR_some]; omega
  by_cases h3 : isLeaf (gi t i)
  · simp only [if_neg h1, if_neg h2, if_pos h3]
    simp only [Nat.zero_add, sk_zero, endR_some, l1]; omega
  · simp only [if_neg h1, if_neg h2, if_neg h3]
    rfl

theorem endS_out {t : List Int} {i : Int} (h : i < 0 ∨ t.length ≤ i) : PC Try.prog 125 [IL t, I64 i] none true (fun r _ => r = I64 (endM t i)) := by
  rw [endM_out h]
  refine pcT [] fok_125 ?_
  simp [fa_125]
  refine cutW (tabK_mono _) [(12, .bool true)] (by simp; omega) ?_
  simp

theorem endS_aux {t : List Int} (hl : Big t.length) : ∀ (n : Nat) (i : Nat), i < t.length → t.length - i ≤ n → PC Try.prog 125 [IL t, I64 i] none true (fun r _ => r = I64 (endM t i))
  | 0, i, h1, h2 => by omega
  | n + 1, i, h1, h2 => by
    have hl' := hl.le
    obtain ⟨fm, hid, hfr, hlk⟩ := famE (P := Try.prog) (X := Int) 125 true (fun j => [IL t, I64 j]) (fun j => j = -1 ∨ (i < j ∧ j ≤ t.length)) (fun j => I64 (endM t j)) (by
      intro x y h
      simp at h
      rw [h]) (fun j hj => by
      by_cases h : j < 0 ∨ t.length ≤ j
      · exact endS_out h
      · obtain ⟨k, rfl⟩ := Int.eq_ofNat_of_zero_le (show 0 ≤ j by omega)
        exact endS_aux hl n k (by omega) (by omega))
    have r1 := endM_rng t (i + 1)
    have l1 := hlk (i + 1) (.inr ⟨by omega, by omega⟩)
    have l2 := hlk (endM t (i + 1)) (by omega)
    have hs := endM_step h1
    refine pcT [fm, fm_inRange] fok_125 ?_
    simp [fa_125]
    refine cutW (tabK_mono _) [(12, .bool false)] (by simp; omega) ?_
    have hw := wrap_succ (Nat.le_of_lt h1) hl'
    generalize hx : gi t i = x at hs
    rcases Classical.em (x = 12) with c1 | c1
    · simp [h1, hid, hfr, hw, l1, l2, hx, hs, c1]
    rcases Classical.em (isBin x) with c2 | c2
    · rw [if_neg c1, if_pos c2] at hs
      rcases c2 with c | c | c | c <;> simp [h1, hid, hfr, hw, l1, l2, hx, hs, c]
    have c3 : x ≠ 13 ∧ x ≠ 14 ∧ x ≠ 15 ∧ x ≠ 16 := by unfold isBin at c2; omega
    simp [h1, hid, hfr, hw, l1, l2, hx, c1, c3]
    refine cutW (tabK_mono _) [(52, .bool (decide (isLeaf x)))] (by simp [h1, hx, hid, isLeaf]; grind) ?_
    simp [hw, hs, c1, c2]
    grind

theorem endS_pc (t : List Int) (i : Int) (hl : Big t.length) (h1 : -1 ≤ i) : PC Try.prog 125 [IL t, I64 i] none true (fun r _ => r = I64 (endM t i)) := by
  by_cases h : i < 0 ∨ t.length ≤ i
  · exact endS_out h
  · obtain ⟨k, rfl⟩ := Int.eq_ofNat_of_zero_le (show 0 ≤ i by omega)
    exact endS_aux hl _ k (by omega) (Nat.le_refl _)
noncomputable def fm_endS : Fam Try.prog := mkFam (X := List Int × Int) 125 true (fun (t, i) => [IL t, I64 i]) (fun (t, i) => (Big t.length) ∧ (-1 ≤ i)) (fun (t, i) => I64 (endM t i)) (by
  rintro ⟨t, i⟩ ⟨hl, h1⟩
  exact endS_pc t i hl h1)
@[simp] theorem fm_endS_id : fm_endS.id = 125 := rfl
@[simp] theorem fm_endS_fresh : fm_endS.fresh = true := rfl
@[simp] theorem fm_endS_look (t : List Int) (i : Int) (hl : Big t.length) (h1 : -1 ≤ i) : fm_endS.look [IL t, I64 i] = some (I64 (endM t i)) :=
  lookF_of (X := List Int × Int) (args := fun (t, i) => [IL t, I64 i]) (pre := fun (t, i) => (Big t.length) ∧ (-1 ≤ i)) (val := fun (t, i) => I64 (endM t i)) (by
  rintro ⟨t, i⟩ ⟨t', i'⟩ h
  simp at h
  try simp only [and_assoc] at h
  obtain ⟨rfl, rfl⟩ := h
  rfl) (t, i) ⟨hl, h1⟩
attribute [irreducible] fm_endS

theorem validT_end {t : List Int} : (decide (1 ≤ (t.length : Int)) && decide ((t.length : Int) ≤ 15) && decide (endM t 0 = t.length)) = decide (validT t) := by
  rw [Bool.eq_iff_iff]
  simp only [Bool.and_eq_true, decide_eq_true_eq]
  unfold validT
  constructor
  · rintro ⟨⟨h1, h2⟩, h3⟩
    refine ⟨by omega, ?_⟩
    have h3 : endM t ((0 : Nat) : Int) = t.length := h3
    cases hs : sk (t.drop 0) 1 with
    | none => rw [endM_no hs] at h3; omega
    | some r =>
      obtain ⟨q1, q2, q3, q4⟩ := endM_of hs
      have : r = [] := by
        apply List.eq_nil_of_length_eq_zero
        rw [q2] at h3; omega
      rw [List.drop_zero] at hs
      rw [hs, this]
  · rintro ⟨h1, h2⟩
    have h2' : sk (t.drop 0) 1 = some [] := h2
    obtain ⟨q1, q2, q3, q4⟩ := endM_of h2'
    refine ⟨⟨by omega, by omega⟩, ?_⟩
    show endM t ((0 : Nat) : Int) = _
    rw [q2]; simp

theorem validTermS_pc (t : List Int) (hl : Big t.length) : PC Try.prog 63 [IL t] none true (fun r _ => r = .bool (decide (validT t))) := by
  refine pcT [fm_inRange, fm_endS] fok_63 ?_
  simp [fa_63]
  refine cutW (tabK_mono _) [(2, .bool (decide (validT t)))] (by rw [← validT_end]; simp [hl]; grind) ?_
  simp
noncomputable def fm_validTermS : Fam Try.prog := mkFam (X := List Int) 63 true (fun t => [IL t]) (fun t => (Big t.length)) (fun t => .bool (decide (validT t))) (by
  rintro t hl
  exact validTermS_pc t hl)
@[simp] theorem fm_validTermS_id : fm_validTermS.id = 63 := rfl
@[simp] theorem fm_validTermS_fresh : fm_validTermS.fresh = true := rfl
@[simp] theorem fm_validTermS_look (t : List Int) (hl : Big t.length) : fm_validTermS.look [IL t] = some (.bool (decide (validT t))) :=
  lookF_of (X := List Int) (args := fun t => [IL t]) (pre := fun t => (Big t.length)) (val := fun t => .bool (decide (validT t))) (by
  intro t t' h
  simp at h
  subst h
  rfl) t hl
attribute [irreducible] fm_validTermS

theorem validNamesS_pc (u : List Int) (t : List (List Int)) (nm : List Int) (hu : Big u.length) (hl : Big nm.length) : PC Try.prog 64 [AL u t, IL nm] none true (fun r _ => r = .bool (decide (allE nm u.length) && decide (nm.length = 3))) := by
  have hu := hu.le
  have hl := hl.le
  refine pcT [fm_inRange] fok_64 ?_
  simp [fa_64]
  refine loopA (tabK_mono _) nm.length (fun i => [(5, I64 i)]) (fun _ => []) (fun i => 0 ≤ gi nm i ∧ gi nm i < u.length) (by simp) (by simp) (fun i g hi hP => ?_)
  simp [lb_64_2, wrap_succ hi hl, wrap64 (n := (u.length : Int) - 1) (by omega) (by omega)]
  refine ⟨fun h => ⟨h, fun h2 h3 => ?_, fun h2 h3 => ⟨h, h2, by omega⟩⟩, fun h => ?_⟩
  · have := h3 _ (gi_mem h); omega
  · have : allE nm u.length := by
      intro x hx
      obtain ⟨j, hj, rfl⟩ := List.mem_iff_getElem.1 hx
      have := hP j (by omega)
      rwa [gi, List.getElem?_eq_getElem hj] at this
    rw [Bool.eq_iff_iff]
    simp [this]
    omega
noncomputable def fm_validNamesS : Fam Try.prog := mkFam (X := List Int × List (List Int) × List Int) 64 true (fun (u, t, nm) => [AL u t, IL nm]) (fun (u, t, nm) => (Big u.length) ∧ (Big nm.length)) (fun (u, t, nm) => .bool (decide (allE nm u.length) && decide (nm.length = 3))) (by
  rintro ⟨u, t, nm⟩ ⟨hu, hl⟩
  exact validNamesS_pc u t nm hu hl)
@[simp] theorem fm_validNamesS_id : fm_validNamesS.id = 64 := rfl
@[simp] theorem fm_validNamesS_fresh : fm_validNamesS.fresh = true := rfl
@[simp] theorem fm_validNamesS_look (u : List Int) (t : List (List Int)) (nm : List Int) (hu : Big u.length) (hl : Big nm.length) : fm_validNamesS.look [AL u t, IL nm] = some (.bool (decide (allE nm u.length) && decide (nm.length = 3))) :=
  lookF_of (X := List Int × List (List Int) × List Int) (args := fun (u, t, nm) => [AL u t, IL nm]) (pre := fun (u, t, nm) => (Big u.length) ∧ (Big nm.length)) (val := fun (u, t, nm) => .bool (decide (allE nm u.length) && decide (nm.length = 3))) (by
  rintro ⟨u, t, nm⟩ ⟨u', t', nm'⟩ h
  simp at h
  try simp only [and_assoc] at h
  obtain ⟨rfl, rfl, rfl⟩ := h
  rfl) (u, t, nm) ⟨hu, hl⟩
attribute [irreducible] fm_validNamesS

def arI (x : Int) : Int := match arity x with | some a => a | none => -1
theorem takesI_pc (x : Int)  : PC Try.prog 128 [I64 x] none true (fun r _ => r = I64 (arI x)) := by
  refine pcT [fm_within] fok_128 ?_
  unfold arI
  rw [arity_eq]
  rcases Classical.em (x = 12) with c1 | c1
  · simp [fa_128, c1]
  rcases Classical.em (isBin x) with c2 | c2
  · rw [if_neg c1, if_pos c2]
    rcases c2 with c | c | c | c <;> simp [fa_128, c]
  have c3 : x ≠ 13 ∧ x ≠ 14 ∧ x ≠ 15 ∧ x ≠ 16 := by unfold isBin at c2; omega
  rw [if_neg c1, if_neg c2]
  simp [fa_128, c1, c3]
  grind [isLeaf]
noncomputable def fm_takesI : Fam Try.prog := mkFam (X := Int) 128 true (fun x => [I64 x]) (fun x => True) (fun x => I64 (arI x)) (by
  rintro x _
  exact takesI_pc x)
@[simp] theorem fm_takesI_id : fm_takesI.id = 128 := rfl
@[simp] theorem fm_takesI_fresh : fm_takesI.fresh = true := rfl
@[simp] theorem fm_takesI_look (x : Int)  : fm_takesI.look [I64 x] = some (I64 (arI x)) :=
  lookF_of (X := Int) (args := fun x => [I64 x]) (pre := fun x => True) (val := fun x => I64 (arI x)) (by
  intro x x' h
  simp at h
  subst h
  rfl) x trivial
attribute [irreducible] fm_takesI

end Go.PS
