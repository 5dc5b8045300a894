/- Part 5 of what the last text proves: The program's RefuteTerm returns what the reference's returns, for all arguments. -/
import Derived.Test.YtdojebhmkbfppaaQb4
section
-- Contracts of values of terms.
set_option maxRecDepth 100000
set_option linter.unusedVariables false
set_option linter.unusedSimpArgs false
namespace Go.PS
open Go.Proofs

theorem isSome_of {α : Type} {o : Option α} {r : α} (h : o = some r) : o.isSome = true := by rw [h]; rfl

theorem opM_meet {u : List Int} {t : List (List Int)} {p q : Nat} : opM u t 13 p q = meetM u p q := by simp [opM]
theorem opM_join {u : List Int} {t : List (List Int)} {p q : Nat} : opM u t 14 p q = joinM u p q := by simp [opM]
theorem opM_times {u : List Int} {t : List (List Int)} {p q : Nat} : opM u t 15 p q = tm t p q := by simp [opM]
theorem opM_imply {u : List Int} {t : List (List Int)} {p q : Nat} : opM u t 16 p q = implyM u t p q := by simp [opM]

set_option maxHeartbeats 2000000 in
theorem valueS_aux {u : List Int} {t : List (List Int)} {l nm : List Int} (f : TF u t) (hn : NmOk nm u.length) (hl : Big l.length) : ∀ (n : Nat) (i : Nat), l.length - i ≤ n → (sk (l.drop i) 1).isSome = true →
    PC Try.prog 65 [AL u t, IL l, I64 i, IL nm] none true (fun r _ => r = I64 (ev1 u t nm (l.drop i)).1)
  | n, i, h1, h2 => by
    obtain ⟨r, hr⟩ := Option.isSome_iff_exists.1 h2
    obtain ⟨hi, -, -, -⟩ := endM_of hr
    have hl' := hl.le
    have hpos := f.lat.pos
    have hsm := f.lat.sm
    obtain ⟨n, rfl⟩ : ∃ n', n = n' + 1 := ⟨n - 1, by omega⟩
    obtain ⟨fm, hid, hfr, hlk'⟩ := famE (P := Try.prog) (X := Int) 65 true (fun j => [AL u t, IL l, I64 j, IL nm]) (fun j => i < j ∧ (sk (l.drop j.toNat) 1).isSome = true) (fun j => I64 (ev1 u t nm (l.drop j.toNat)).1) (by
      intro x y h
      simp at h
      rw [h]) (fun j hj => by
      obtain ⟨k, rfl⟩ := Int.eq_ofNat_of_zero_le (show 0 ≤ j by omega)
      exact valueS_aux f hn hl n k (by omega) hj.2)
    have hlk : ∀ j : Int, i < j → (sk (l.drop j.toNat) 1).isSome = true → fm.look [AL u t, IL l, I64 j, IL nm] = some (I64 (ev1 u t nm (l.drop j.toNat)).1) := fun j hj hj2 => hlk' j ⟨hj, hj2⟩
    have hw := wrap_succ (Nat.le_of_lt hi) hl'
    have ei : ((i : Int) + 1).toNat = i + 1 := by omega
    have hul : u.length ≤ 6 := f.lat.six
    have hwu : IntKind.i64.wrap ((u.length : Int) - 1) = u.length - 1 := wrap64 (by omega) (by omega)
    rw [gi_drop hi] at hr ⊢
    rw [ev1_cons]
    refine pcT [fm, fm_endS, fm_meetS, fm_joinS, fm_implyS] fok_65 ?_
    generalize hx : gi l i = x at *
    rcases sk_cons hr with ⟨c, rfl⟩ | ⟨c, h3⟩ | ⟨c, r1, h3, h4⟩
    · rcases c with c | c | c
      · have := hn.three
        simp [fa_65, hi, hx, show x ≠ 10 ∧ x ≠ 11 ∧ x ≠ 12 by omega, show x < 3 by omega]
        omega
      · simp [fa_65, hi, hx, c]
      · simp [fa_65, hi, hx, c, hwu]
    · have hs1 : (sk (l.drop (i + 1)) 1).isSome = true := isSome_of h3
      have l1 := hlk (i + 1) (by omega) (by rw [ei]; exact hs1)
      rw [ei] at l1
      have ho := (ev1_ok f hn _ _ _ (Nat.le_refl _) h3).1
      simp [fa_65, hi, hx, c, hid, hfr, hw, l1, f, ho, show (ev1 u t nm (l.drop (i + 1))).1.toNat < u.length by omega, hpos]
    · have hs1 : (sk (l.drop (i + 1)) 1).isSome = true := isSome_of h3
      have l1 := hlk (i + 1) (by omega) (by rw [ei]; exact hs1)
      rw [ei] at l1
      obtain ⟨q1, q2, q3, q4⟩ := endM_of h3
      have q2 : endM l (i + 1) = ((l.length - r1.length : Nat) : Int) := q2
      have l2 := hlk (endM l (i + 1)) (by rw [q2]; omega) (by rw [q2, Int.toNat_natCast, ← q3]; exact isSome_of h4)
      rw [q2] at l2
      have ho := ev1_ok f hn _ _ _ (Nat.le_refl _) h3
      have ho2 := (ev1_ok f hn _ _ _ (Nat.le_refl _) h4).1
      rw [ho.2]
      have ho1 := ho.1
      rw [Int.toNat_natCast, ← q3] at l2
      generalize (ev1 u t nm (l.drop (i + 1))).1 = p at *
      generalize (ev1 u t nm r1).1 = q at *
      rcases c with c | c | c | c
      all_goals simp (maxSteps := 1000000) [fa_65, hi, hx, c, hid, hfr, hw, l1, l2, q2, hl, show (-1 : Int) ≤ i + 1 by omega, f, hsm, ho1, ho2, show p.toNat < u.length by omega, show q.toNat < u.length by omega, f.len, f.rows, opM_meet, opM_join, opM_times, opM_imply]

theorem valueS_pc (u : List Int) (t : List (List Int)) (l : List Int) (i : Int) (nm : List Int) (f : TF u t) (hn : NmOk nm u.length) (hl : Big l.length) (h0 : 0 ≤ i) (hs : (sk (l.drop i.toNat) 1).isSome = true) : PC Try.prog 65 [AL u t, IL l, I64 i, IL nm] none true (fun r _ => r = I64 (ev1 u t nm (l.drop i.toNat)).1) := by
  obtain ⟨k, rfl⟩ := Int.eq_ofNat_of_zero_le h0
  exact valueS_aux f hn hl _ k (Nat.le_refl _) hs
noncomputable def fm_valueS : Fam Try.prog := mkFam (X := List Int × List (List Int) × List Int × Int × List Int) 65 true (fun (u, t, l, i, nm) => [AL u t, IL l, I64 i, IL nm]) (fun (u, t, l, i, nm) => (TF u t) ∧ (NmOk nm u.length) ∧ (Big l.length) ∧ (0 ≤ i) ∧ ((sk (l.drop i.toNat) 1).isSome = true)) (fun (u, t, l, i, nm) => I64 (ev1 u t nm (l.drop i.toNat)).1) (by
  rintro ⟨u, t, l, i, nm⟩ ⟨f, hn, hl, h0, hs⟩
  exact valueS_pc u t l i nm f hn hl h0 hs)
@[simp] theorem fm_valueS_id : fm_valueS.id = 65 := rfl
@[simp] theorem fm_valueS_fresh : fm_valueS.fresh = true := rfl
@[simp] theorem fm_valueS_look (u : List Int) (t : List (List Int)) (l : List Int) (i : Int) (nm : List Int) (f : TF u t) (hn : NmOk nm u.length) (hl : Big l.length) (h0 : 0 ≤ i) (hs : (sk (l.drop i.toNat) 1).isSome = true) : fm_valueS.look [AL u t, IL l, I64 i, IL nm] = some (I64 (ev1 u t nm (l.drop i.toNat)).1) :=
  lookF_of (X := List Int × List (List Int) × List Int × Int × List Int) (args := fun (u, t, l, i, nm) => [AL u t, IL l, I64 i, IL nm]) (pre := fun (u, t, l, i, nm) => (TF u t) ∧ (NmOk nm u.length) ∧ (Big l.length) ∧ (0 ≤ i) ∧ ((sk (l.drop i.toNat) 1).isSome = true)) (val := fun (u, t, l, i, nm) => I64 (ev1 u t nm (l.drop i.toNat)).1) (by
  rintro ⟨u, t, l, i, nm⟩ ⟨u', t', l', i', nm'⟩ h
  simp at h
  try simp only [and_assoc] at h
  obtain ⟨rfl, rfl, rfl, rfl, rfl⟩ := h
  rfl) (u, t, l, i, nm) ⟨f, hn, hl, h0, hs⟩
attribute [irreducible] fm_valueS

theorem gi_cons0 {x : Int} {l : List Int} : gi (x :: l) 0 = x := rfl

set_option maxHeartbeats 2000000 in
theorem valueI_aux {u : List Int} {t : List (List Int)} {nm : List Int} (f : TF u t) (hn : NmOk nm u.length) : ∀ (n : Nat) (l : List Int), l.length ≤ n → Big l.length → (sk l 1).isSome = true →
    PC Try.prog 131 [AL u t, IL l, IL nm] none false (fun r _ => r = .tup [I64 (ev1 u t nm l).1, IL (ev1 u t nm l).2])
  | n, [], h1, hl, h2 => by cases h2
  | 0, x :: l, h1, hl, h2 => by simp at h1
  | n + 1, x :: l, h1, hl, h2 => by
    obtain ⟨r, hr⟩ := Option.isSome_iff_exists.1 h2
    have hl' := hl.le
    have hpos := f.lat.pos
    have hsm := f.lat.sm
    have h6 := f.lat.six
    simp only [List.length_cons] at h1 hl'
    obtain ⟨fm, hid, hfr, hlk'⟩ := famE (P := Try.prog) (X := List Int) 131 false (fun k => [AL u t, IL k, IL nm]) (fun k => k.length ≤ l.length ∧ (sk k 1).isSome = true) (fun k => .tup [I64 (ev1 u t nm k).1, IL (ev1 u t nm k).2]) (by
      intro x y h
      simp at h
      rw [h]) (fun k hk =>
      valueI_aux f hn n k (by omega) (by unfold Big; omega) hk.2)
    have hlk : ∀ k : List Int, k.length ≤ l.length → (sk k 1).isSome = true → fm.look [AL u t, IL k, IL nm] = some (.tup [I64 (ev1 u t nm k).1, IL (ev1 u t nm k).2]) := fun k hk hk2 => hlk' k ⟨hk, hk2⟩
    have hwu : IntKind.i64.wrap ((u.length : Int) - 1) = u.length - 1 := wrap64 (by omega) (by omega)
    rw [ev1_cons]
    have hg : ∀ y : Int, gi (y :: l) 0 = y := fun _ => rfl
    have h0 : (1 : Int) ≤ l.length + 1 := by omega
    refine pcT [fm, fm_notI, fm_meetI, fm_joinI, fm_implyI] fok_131 ?_
    rcases sk_cons hr with ⟨c, rfl⟩ | ⟨c, h3⟩ | ⟨c, r1, h3, h4⟩
    · rcases c with c | c | c
      · have := hn.three
        simp [fa_131, hg, h0, show x < 3 by omega]
        omega
      · simp [fa_131, hg, h0, c]
      · simp [fa_131, hg, h0, c, hwu]
    · have l1 := hlk l (Nat.le_refl _) (isSome_of h3)
      have ho := (ev1_ok f hn _ _ _ (Nat.le_refl _) h3).1
      simp [fa_131, hg, h0, c, hid, hfr, l1, f, ho, show (ev1 u t nm l).1.toNat < u.length by omega, hpos]
    · have l1 := hlk l (Nat.le_refl _) (isSome_of h3)
      have ho := ev1_ok f hn _ _ _ (Nat.le_refl _) h3
      have hlt := (sk_suf _ _ _ h3).2 (Nat.le_refl _)
      have l2 := hlk r1 (by omega) (isSome_of h4)
      have ho2 := (ev1_ok f hn _ _ _ (Nat.le_refl _) h4).1
      rw [ho.2] at l1 ⊢
      have ho1 := ho.1
      generalize (ev1 u t nm l).1 = p at *
      generalize (ev1 u t nm r1) = q at *
      rcases c with c | c | c | c
      all_goals simp (maxSteps := 1000000) [fa_131, hg, h0, c, hid, hfr, l1, l2, f, hsm, h6, ho1, ho2, show p.toNat < u.length by omega, show q.1.toNat < u.length by omega, f.len, f.rows, opM_meet, opM_join, opM_times, opM_imply]

theorem valueI_pc (u : List Int) (t : List (List Int)) (l nm : List Int) (f : TF u t) (hn : NmOk nm u.length) (hl : Big l.length) (hs : (sk l 1).isSome = true) : PC Try.prog 131 [AL u t, IL l, IL nm] none false (fun r _ => r = .tup [I64 (ev1 u t nm l).1, IL (ev1 u t nm l).2]) := by
  exact valueI_aux f hn _ l (Nat.le_refl _) hl hs
noncomputable def fm_valueI : Fam Try.prog := mkFam (X := List Int × List (List Int) × List Int × List Int) 131 false (fun (u, t, l, nm) => [AL u t, IL l, IL nm]) (fun (u, t, l, nm) => (TF u t) ∧ (NmOk nm u.length) ∧ (Big l.length) ∧ ((sk l 1).isSome = true)) (fun (u, t, l, nm) => .tup [I64 (ev1 u t nm l).1, IL (ev1 u t nm l).2]) (by
  rintro ⟨u, t, l, nm⟩ ⟨f, hn, hl, hs⟩
  exact valueI_pc u t l nm f hn hl hs)
@[simp] theorem fm_valueI_id : fm_valueI.id = 131 := rfl
@[simp] theorem fm_valueI_fresh : fm_valueI.fresh = false := rfl
@[simp] theorem fm_valueI_look (u : List Int) (t : List (List Int)) (l nm : List Int) (f : TF u t) (hn : NmOk nm u.length) (hl : Big l.length) (hs : (sk l 1).isSome = true) : fm_valueI.look [AL u t, IL l, IL nm] = some (.tup [I64 (ev1 u t nm l).1, IL (ev1 u t nm l).2]) :=
  lookF_of (X := List Int × List (List Int) × List Int × List Int) (args := fun (u, t, l, nm) => [AL u t, IL l, IL nm]) (pre := fun (u, t, l, nm) => (TF u t) ∧ (NmOk nm u.length) ∧ (Big l.length) ∧ ((sk l 1).isSome = true)) (val := fun (u, t, l, nm) => .tup [I64 (ev1 u t nm l).1, IL (ev1 u t nm l).2]) (by
  rintro ⟨u, t, l, nm⟩ ⟨u', t', l', nm'⟩ h
  simp at h
  try simp only [and_assoc] at h
  obtain ⟨rfl, rfl, rfl, rfl⟩ := h
  rfl) (u, t, l, nm) ⟨f, hn, hl, hs⟩
attribute [irreducible] fm_valueI

theorem valueOfI_pc (u : List Int) (t : List (List Int)) (l nm : List Int) (f : TF u t) (hn : NmOk nm u.length) (hl : Big l.length) (hs : (sk l 1).isSome = true) : PC Try.prog 69 [AL u t, IL l, IL nm] none true (fun r _ => r = I64 (ev1 u t nm l).1) := by
  refine pcT [fm_valueI] fok_69 ?_
  simp [fa_69, f, hn, hl, hs]
noncomputable def fm_valueOfI : Fam Try.prog := mkFam (X := List Int × List (List Int) × List Int × List Int) 69 true (fun (u, t, l, nm) => [AL u t, IL l, IL nm]) (fun (u, t, l, nm) => (TF u t) ∧ (NmOk nm u.length) ∧ (Big l.length) ∧ ((sk l 1).isSome = true)) (fun (u, t, l, nm) => I64 (ev1 u t nm l).1) (by
  rintro ⟨u, t, l, nm⟩ ⟨f, hn, hl, hs⟩
  exact valueOfI_pc u t l nm f hn hl hs)
@[simp] theorem fm_valueOfI_id : fm_valueOfI.id = 69 := rfl
@[simp] theorem fm_valueOfI_fresh : fm_valueOfI.fresh = true := rfl
@[simp] theorem fm_valueOfI_look (u : List Int) (t : List (List Int)) (l nm : List Int) (f : TF u t) (hn : NmOk nm u.length) (hl : Big l.length) (hs : (sk l 1).isSome = true) : fm_valueOfI.look [AL u t, IL l, IL nm] = some (I64 (ev1 u t nm l).1) :=
  lookF_of (X := List Int × List (List Int) × List Int × List Int) (args := fun (u, t, l, nm) => [AL u t, IL l, IL nm]) (pre := fun (u, t, l, nm) => (TF u t) ∧ (NmOk nm u.length) ∧ (Big l.length) ∧ ((sk l 1).isSome = true)) (val := fun (u, t, l, nm) => I64 (ev1 u t nm l).1) (by
  rintro ⟨u, t, l, nm⟩ ⟨u', t', l', nm'⟩ h
  simp at h
  try simp only [and_assoc] at h
  obtain ⟨rfl, rfl, rfl, rfl⟩ := h
  rfl) (u, t, l, nm) ⟨f, hn, hl, hs⟩
attribute [irreducible] fm_valueOfI

/-- The value of a term where all is well, -1 otherwise. -/
noncomputable def valueOfM (u : List Int) (t : List (List Int)) (l nm : List Int) : Int := if decide (VA u t) && decide (validT l) && (decide (nm.length = 3) && decide (allE nm u.length)) then (ev1 u t nm l).1 else -1

theorem validT.some {l : List Int} (h : validT l) : (sk l 1).isSome = true := isSome_of h.2

theorem ValueOfS_pc (u : List Int) (t : List (List Int)) (l nm : List Int) (hu : Big u.length) (ht : BigR t) (hl : Big l.length) (hm : Big nm.length) : PC Try.prog 18 [AL u t, IL l, IL nm] none true (fun r _ => r = I64 (valueOfM u t l nm)) := by
  refine pcT [fm_validAlgebraS, fm_validTermS, fm_validNamesS, fm_valueS] fok_18 ?_
  simp [fa_18]
  refine cutW (tabK_mono _) [(20, .bool (!(decide (VA u t) && decide (validT l) && (decide (nm.length = 3) && decide (allE nm u.length)))))] (by simp [hu, ht, hl, hm]; grind) ?_
  cases hb : (decide (VA u t) && decide (validT l) && (decide (nm.length = 3) && decide (allE nm u.length)))
  · simp [valueOfM, hb]
  · simp only [Bool.and_eq_true, decide_eq_true_eq] at hb
    simp [valueOfM, hb, hb.1.1.tf, hl, hb.1.2.some, NmOk.mk hb.2.1 hb.2.2]
noncomputable def fm_ValueOfS : Fam Try.prog := mkFam (X := List Int × List (List Int) × List Int × List Int) 18 true (fun (u, t, l, nm) => [AL u t, IL l, IL nm]) (fun (u, t, l, nm) => (Big u.length) ∧ (BigR t) ∧ (Big l.length) ∧ (Big nm.length)) (fun (u, t, l, nm) => I64 (valueOfM u t l nm)) (by
  rintro ⟨u, t, l, nm⟩ ⟨hu, ht, hl, hm⟩
  exact ValueOfS_pc u t l nm hu ht hl hm)
@[simp] theorem fm_ValueOfS_id : fm_ValueOfS.id = 18 := rfl
@[simp] theorem fm_ValueOfS_fresh : fm_ValueOfS.fresh = true := rfl
@[simp] theorem fm_ValueOfS_look (u : List Int) (t : List (List Int)) (l nm : List Int) (hu : Big u.length) (ht : BigR t) (hl : Big l.length) (hm : Big nm.length) : fm_ValueOfS.look [AL u t, IL l, IL nm] = some (I64 (valueOfM u t l nm)) :=
  lookF_of (X := List Int × List (List Int) × List Int × List Int) (args := fun (u, t, l, nm) => [AL u t, IL l, IL nm]) (pre := fun (u, t, l, nm) => (Big u.length) ∧ (BigR t) ∧ (Big l.length) ∧ (Big nm.length)) (val := fun (u, t, l, nm) => I64 (valueOfM u t l nm)) (by
  rintro ⟨u, t, l, nm⟩ ⟨u', t', l', nm'⟩ h
  simp at h
  try simp only [and_assoc] at h
  obtain ⟨rfl, rfl, rfl, rfl⟩ := h
  rfl) (u, t, l, nm) ⟨hu, ht, hl, hm⟩
attribute [irreducible] fm_ValueOfS

theorem ValueOfI_pc (u : List Int) (t : List (List Int)) (l nm : List Int) (hu : Big u.length) (ht : BigR t) (hl : Big l.length) (hm : Big nm.length) : PC Try.prog 21 [AL u t, IL l, IL nm] none true (fun r _ => r = I64 (valueOfM u t l nm)) := by
  refine pcT [fm_atI, fm_validTermI, fm_valueOfI] fok_21 ?_
  simp [fa_21]
  refine cutW (tabK_mono _) [(20, .bool (!(decide (VA u t) && decide (validT l) && (decide (nm.length = 3) && decide (allE nm u.length)))))] (by simp [hu, ht, hl, hm]; grind) ?_
  cases hb : (decide (VA u t) && decide (validT l) && (decide (nm.length = 3) && decide (allE nm u.length)))
  · simp [valueOfM, hb]
  · simp only [Bool.and_eq_true, decide_eq_true_eq] at hb
    simp [valueOfM, hb, hb.1.1.tf, hl, hb.1.2.some, NmOk.mk hb.2.1 hb.2.2]
noncomputable def fm_ValueOfI : Fam Try.prog := mkFam (X := List Int × List (List Int) × List Int × List Int) 21 true (fun (u, t, l, nm) => [AL u t, IL l, IL nm]) (fun (u, t, l, nm) => (Big u.length) ∧ (BigR t) ∧ (Big l.length) ∧ (Big nm.length)) (fun (u, t, l, nm) => I64 (valueOfM u t l nm)) (by
  rintro ⟨u, t, l, nm⟩ ⟨hu, ht, hl, hm⟩
  exact ValueOfI_pc u t l nm hu ht hl hm)
@[simp] theorem fm_ValueOfI_id : fm_ValueOfI.id = 21 := rfl
@[simp] theorem fm_ValueOfI_fresh : fm_ValueOfI.fresh = true := rfl
@[simp] theorem fm_ValueOfI_look (u : List Int) (t : List (List Int)) (l nm : List Int) (hu : Big u.length) (ht : BigR t) (hl : Big l.length) (hm : Big nm.length) : fm_ValueOfI.look [AL u t, IL l, IL nm] = some (I64 (valueOfM u t l nm)) :=
  lookF_of (X := List Int × List (List Int) × List Int × List Int) (args := fun (u, t, l, nm) => [AL u t, IL l, IL nm]) (pre := fun (u, t, l, nm) => (Big u.length) ∧ (BigR t) ∧ (Big l.length) ∧ (Big nm.length)) (val := fun (u, t, l, nm) => I64 (valueOfM u t l nm)) (by
  rintro ⟨u, t, l, nm⟩ ⟨u', t', l', nm'⟩ h
  simp at h
  try simp only [and_assoc] at h
  obtain ⟨rfl, rfl, rfl, rfl⟩ := h
  rfl) (u, t, l, nm) ⟨hu, ht, hl, hm⟩
attribute [irreducible] fm_ValueOfI

end Go.PS
end

section
-- The laws' functions.
set_option maxRecDepth 100000
set_option linter.unusedVariables false
set_option linter.unusedSimpArgs false
namespace Go.PS
open Go.Proofs

theorem szR_le : ∀ (a : List (List Int)) (n : Int), 0 ≤ szR a n → ∀ r ∈ a, (r.length : Int) ≤ n
  | [], n, h, r, hr => by cases hr
  | x :: a, n, h, r, hr => by
    simp only [szR] at h
    split at h
    · omega
    · rename_i hx
      have h1 : szI x n = n - x.length ∧ (x.length : Int) ≤ n := by
        unfold szI at hx ⊢
        split
        · rename_i h2; rw [if_pos h2] at hx; omega
        · omega
      rcases List.mem_cons.1 hr with rfl | hr
      · exact h1.2
      · have := szR_le a _ h r hr
        omega

theorem sz_ok {u : List Int} {t : List (List Int)} (h : 0 ≤ szA u t 1048576) : Big u.length ∧ BigR t := by
  unfold szA at h
  split at h
  · omega
  · rename_i h1
    have h2 : szI u 1048576 = 1048576 - u.length ∧ (u.length : Int) ≤ 1048576 := by
      unfold szI at h1 ⊢
      split
      · rename_i h2; rw [if_pos h2] at h1; omega
      · omega
    unfold szII at h
    split at h
    · omega
    · refine ⟨by unfold Big; omega, by unfold Big; omega, fun r hr => ?_⟩
      have := szR_le _ _ h r hr
      unfold Big; omega

theorem FnExactValueOf_pc (u : List Int) (t : List (List Int)) (l nm : List Int) (hu : Hu u.length) (ht : HuR t) (hl : Hu l.length) (hm : Hu nm.length) : PC Try.prog 3 [AL u t, IL l, IL nm] none true (fun r _ => r = .bool true) := by
  refine pcT [fm_szAlgebra, fm_toAlgebra, fm_toIntS, fm_ValueOfS, fm_ValueOfI, fm_eqAlgebra, fm_eqIntS] fok_3 ?_
  simp [fa_3, hu, ht]
  intro h1 h2 h3
  have hl : Big l.length := by unfold Big; omega
  have hm : Big nm.length := by unfold Big; omega
  have hb := sz_ok h3
  simp [hb.1, hb.2, hl, hm]

end Go.PS
end
