/- Contracts of the laws' helpers. -/
import Derived.Test.YtdojebhmkbfppaaGa
set_option maxRecDepth 10000
set_option linter.unusedVariables false
set_option linter.unusedSimpArgs false
namespace Go.PS
open Go.Proofs

/-- Of a size that the machine holds. -/
def Big (n : Nat) : Prop := n ≤ 1099511627776
theorem Big.le {n : Nat} (h : Big n) : n ≤ 1099511627776 := h
def BigR (t : List (List Int)) : Prop := Big t.length ∧ ∀ r ∈ t, Big r.length
/-- Of any size. -/
def Hu (n : Nat) : Prop := n ≤ 9223372036854775807
theorem Hu.le {n : Nat} (h : Hu n) : n ≤ 9223372036854775807 := h
def HuR (t : List (List Int)) : Prop := Hu t.length ∧ ∀ r ∈ t, Hu r.length
theorem HuR.row {t : List (List Int)} (h : HuR t) {i : Nat} (hi : i < t.length) : Hu (gr t i).length := h.2 _ (gr_mem hi)
theorem BigR.row {t : List (List Int)} (h : BigR t) {i : Nat} (hi : i < t.length) : Big (gr t i).length := h.2 _ (gr_mem hi)

theorem eqIntS_pc (a b : List Int) (ha : Big a.length) : PC Try.prog 23 [IL a, IL b] none true (fun r _ => r = .bool (decide (a = b))) := by
  refine pcT [] fok_23 ?_
  simp [fa_23]
  refine ⟨fun h e => h (by rw [e]), fun hl => ?_⟩
  refine loopA (tabK_mono _) a.length (fun i => [(5, I64 i)]) (fun _ => []) (fun j => gi a j = gi b j) (by simp) (by simp) (fun i g hi hP => ?_)
  simp [lb_23_4, wrap_succ hi ha]
  refine ⟨by grind, fun h => gi_ext (by omega) (fun j hj => hP j (by omega))⟩
noncomputable def fm_eqIntS : Fam Try.prog := mkFam (X := List Int × List Int) 23 true (fun (a, b) => [IL a, IL b]) (fun (a, b) => (Big a.length)) (fun (a, b) => .bool (decide (a = b))) (by
  rintro ⟨a, b⟩ ha
  exact eqIntS_pc a b ha)
@[simp] theorem fm_eqIntS_id : fm_eqIntS.id = 23 := rfl
@[simp] theorem fm_eqIntS_fresh : fm_eqIntS.fresh = true := rfl
@[simp] theorem fm_eqIntS_look (a b : List Int) (ha : Big a.length) : fm_eqIntS.look [IL a, IL b] = some (.bool (decide (a = b))) :=
  lookF_of (X := List Int × List Int) (args := fun (a, b) => [IL a, IL b]) (pre := fun (a, b) => (Big a.length)) (val := fun (a, b) => .bool (decide (a = b))) (by
  rintro ⟨a, b⟩ ⟨a', b'⟩ h
  simp at h
  try simp only [and_assoc] at h
  obtain ⟨rfl, rfl⟩ := h
  rfl) (a, b) ha
attribute [irreducible] fm_eqIntS

theorem toIntS_pc (a : List Int) (ha : Big a.length) : PC Try.prog 20 [IL a] none true (fun r _ => r = IO1 a) := by
  refine pcT [] fok_20 ?_
  simp [fa_20]
  refine ⟨ha, ?_⟩
  refine loopA (tabK_mono _) a.length (fun i => [(4, I64 i)]) (fun i => [⟨56, 1, .arr 1 (ints (fillL 0 a i))⟩]) (fun _ => True) (by simp) (by simp) (fun i g hi hP => ?_)
  simp [lb_20_3, wrap_succ hi ha, fillL_length hi]
  refine ⟨fun h => ⟨h, fillL_gi h⟩, fun h => fillL_all h⟩
noncomputable def fm_toIntS : Fam Try.prog := mkFam (X := List Int) 20 true (fun a => [IL a]) (fun a => (Big a.length)) (fun a => IO1 a) (by
  rintro a ha
  exact toIntS_pc a ha)
@[simp] theorem fm_toIntS_id : fm_toIntS.id = 20 := rfl
@[simp] theorem fm_toIntS_fresh : fm_toIntS.fresh = true := rfl
@[simp] theorem fm_toIntS_look (a : List Int) (ha : Big a.length) : fm_toIntS.look [IL a] = some (IO1 a) :=
  lookF_of (X := List Int) (args := fun a => [IL a]) (pre := fun a => (Big a.length)) (val := fun a => IO1 a) (by
  intro a a' h
  simp at h
  subst h
  rfl) a ha
attribute [irreducible] fm_toIntS

def szI (a : List Int) (n : Int) : Int := if n < a.length then -1 else n - a.length
theorem szIntS_pc (a : List Int) (n : Int) (hn : -1 ≤ n) (hn2 : n ≤ 1048576) (ha : Hu a.length) : PC Try.prog 60 [IL a, I64 n] none true (fun r _ => r = I64 (szI a n)) := by
  have ha := ha.le
  refine pcT [] fok_60 ?_
  simp [fa_60, szI, wrap64 (n := n - a.length) (by omega) (by omega)]
  omega
noncomputable def fm_szIntS : Fam Try.prog := mkFam (X := List Int × Int) 60 true (fun (a, n) => [IL a, I64 n]) (fun (a, n) => (-1 ≤ n) ∧ (n ≤ 1048576) ∧ (Hu a.length)) (fun (a, n) => I64 (szI a n)) (by
  rintro ⟨a, n⟩ ⟨hn, hn2, ha⟩
  exact szIntS_pc a n hn hn2 ha)
@[simp] theorem fm_szIntS_id : fm_szIntS.id = 60 := rfl
@[simp] theorem fm_szIntS_fresh : fm_szIntS.fresh = true := rfl
@[simp] theorem fm_szIntS_look (a : List Int) (n : Int) (hn : -1 ≤ n) (hn2 : n ≤ 1048576) (ha : Hu a.length) : fm_szIntS.look [IL a, I64 n] = some (I64 (szI a n)) :=
  lookF_of (X := List Int × Int) (args := fun (a, n) => [IL a, I64 n]) (pre := fun (a, n) => (-1 ≤ n) ∧ (n ≤ 1048576) ∧ (Hu a.length)) (val := fun (a, n) => I64 (szI a n)) (by
  rintro ⟨a, n⟩ ⟨a', n'⟩ h
  simp at h
  try simp only [and_assoc] at h
  obtain ⟨rfl, rfl⟩ := h
  rfl) (a, n) ⟨hn, hn2, ha⟩
attribute [irreducible] fm_szIntS

def szR : List (List Int) → Int → Int
  | [], n => n
  | r :: rs, n => if szI r n < 0 then -1 else szR rs (szI r n)
def szII (a : List (List Int)) (n : Int) : Int := if n < a.length then -1 else szR a (n - a.length)
theorem szI_rng {a : List Int} {n : Int} (hn : -1 ≤ n) : -1 ≤ szI a n ∧ szI a n ≤ max n (-1) := by
  unfold szI; split <;> omega

theorem szIntSS_pc (a : List (List Int)) (n : Int) (hn : -1 ≤ n) (hn2 : n ≤ 1048576) (hr : HuR a) : PC Try.prog 61 [RL a, I64 n] none true (fun r _ => r = I64 (szII a n)) := by
  have ha0 := hr.1.le
  refine pcT [fm_szIntS] fok_61 ?_
  simp [fa_61, szII, wrap64 (n := n - a.length) (by omega) (by omega)]
  refine ⟨by omega, fun h => ?_⟩
  have ha : a.length ≤ 1099511627776 := by omega
  refine loopX (tabK_mono _) a.length (fun i x => [(1, I64 x), (5, I64 i)]) (fun _ _ => []) (fun i x => 0 ≤ x ∧ x ≤ 1048576 ∧ szR (a.drop i) x = szII a n) (n - a.length) (by simp) (by simp) (by simp [szII]; omega) (fun i x g hi hP => ?_)
  simp [lb_61_5, wrap_succ hi ha]
  refine ⟨fun h1 => ⟨h1, ?_⟩, fun h1 => ?_⟩
  · have e : szR (a.drop i) x = if szI (gr a i) x < 0 then -1 else szR (a.drop (i + 1)) (szI (gr a i) x) := by rw [gr_drop h1, szR]
    have h3 := szI_rng (a := gr a i) (n := x) (by omega)
    simp [show -1 ≤ x by omega, show x ≤ 1048576 by omega, hr.row h1]
    refine ⟨fun h2 => ?_, fun h2 => ⟨h1, szI (gr a i) x, by simp [wrap_succ hi ha], by omega, by omega, ?_⟩⟩
    · rw [e, if_pos h2] at hP
      have := hP.2.2
      simp only [szII] at this
      rw [if_neg (by omega)] at this
      intro _; exact this
    · rw [e, if_neg (by omega)] at hP
      exact hP.2.2
  · rw [List.drop_of_length_le h1] at hP
    have := hP.2.2
    simp only [szII, szR] at this ⊢
    exact this
noncomputable def fm_szIntSS : Fam Try.prog := mkFam (X := List (List Int) × Int) 61 true (fun (a, n) => [RL a, I64 n]) (fun (a, n) => (-1 ≤ n) ∧ (n ≤ 1048576) ∧ (HuR a)) (fun (a, n) => I64 (szII a n)) (by
  rintro ⟨a, n⟩ ⟨hn, hn2, hr⟩
  exact szIntSS_pc a n hn hn2 hr)
@[simp] theorem fm_szIntSS_id : fm_szIntSS.id = 61 := rfl
@[simp] theorem fm_szIntSS_fresh : fm_szIntSS.fresh = true := rfl
@[simp] theorem fm_szIntSS_look (a : List (List Int)) (n : Int) (hn : -1 ≤ n) (hn2 : n ≤ 1048576) (hr : HuR a) : fm_szIntSS.look [RL a, I64 n] = some (I64 (szII a n)) :=
  lookF_of (X := List (List Int) × Int) (args := fun (a, n) => [RL a, I64 n]) (pre := fun (a, n) => (-1 ≤ n) ∧ (n ≤ 1048576) ∧ (HuR a)) (val := fun (a, n) => I64 (szII a n)) (by
  rintro ⟨a, n⟩ ⟨a', n'⟩ h
  simp at h
  try simp only [and_assoc] at h
  obtain ⟨rfl, rfl⟩ := h
  rfl) (a, n) ⟨hn, hn2, hr⟩
attribute [irreducible] fm_szIntSS

def szA (u : List Int) (t : List (List Int)) (n : Int) : Int := if szI u n < 0 then -1 else szII t (szI u n)
abbrev AL (u : List Int) (t : List (List Int)) : D := .agg [IL u, RL t]
theorem szR_neg : ∀ (a : List (List Int)) (n : Int), -1 ≤ n → -1 ≤ szR a n
  | [], n, h => h
  | r :: rs, n, h => by
    simp only [szR]
    split
    · omega
    · exact szR_neg rs _ (by omega)

theorem szAlgebra_pc (u : List Int) (t : List (List Int)) (n : Int) (hn : -1 ≤ n) (hn2 : n ≤ 1048576) (hu : Hu u.length) (ht : HuR t) : PC Try.prog 17 [AL u t, I64 n] none true (fun r _ => r = I64 (szA u t n)) := by
  refine pcT [fm_szIntS, fm_szIntSS] fok_17 ?_
  have h1 := szI_rng (a := u) (n := n) hn
  have h2 : -1 ≤ szII t (szI u n) := by
    unfold szII; split
    · omega
    · exact szR_neg _ _ (by omega)
  simp [fa_17, hn, hn2, hu, ht, show -1 ≤ szI u n by omega, show szI u n ≤ 1048576 by omega]
  refine ⟨fun h => by simp [szA, h], fun h => ?_⟩
  simp only [szA]
  rw [if_neg (by omega)]
  omega
noncomputable def fm_szAlgebra : Fam Try.prog := mkFam (X := List Int × List (List Int) × Int) 17 true (fun (u, t, n) => [AL u t, I64 n]) (fun (u, t, n) => (-1 ≤ n) ∧ (n ≤ 1048576) ∧ (Hu u.length) ∧ (HuR t)) (fun (u, t, n) => I64 (szA u t n)) (by
  rintro ⟨u, t, n⟩ ⟨hn, hn2, hu, ht⟩
  exact szAlgebra_pc u t n hn hn2 hu ht)
@[simp] theorem fm_szAlgebra_id : fm_szAlgebra.id = 17 := rfl
@[simp] theorem fm_szAlgebra_fresh : fm_szAlgebra.fresh = true := rfl
@[simp] theorem fm_szAlgebra_look (u : List Int) (t : List (List Int)) (n : Int) (hn : -1 ≤ n) (hn2 : n ≤ 1048576) (hu : Hu u.length) (ht : HuR t) : fm_szAlgebra.look [AL u t, I64 n] = some (I64 (szA u t n)) :=
  lookF_of (X := List Int × List (List Int) × Int) (args := fun (u, t, n) => [AL u t, I64 n]) (pre := fun (u, t, n) => (-1 ≤ n) ∧ (n ≤ 1048576) ∧ (Hu u.length) ∧ (HuR t)) (val := fun (u, t, n) => I64 (szA u t n)) (by
  rintro ⟨u, t, n⟩ ⟨u', t', n'⟩ h
  simp at h
  try simp only [and_assoc] at h
  obtain ⟨rfl, rfl, rfl⟩ := h
  rfl) (u, t, n) ⟨hn, hn2, hu, ht⟩
attribute [irreducible] fm_szAlgebra

theorem toIntSS_pc (a : List (List Int)) (hr : BigR a) : PC Try.prog 66 [RL a] none false (fun r _ => r = RL a) := by
  have ha := hr.1.le
  refine pcT [fm_toIntS] fok_66 ?_
  simp [fa_66]
  refine ⟨ha, ?_⟩
  refine loopA (tabK_mono _) a.length (fun i => [(4, I64 i)]) (fun i => [⟨56, 1, .arr 1 (fillL .nil (rowsD a) i)⟩]) (fun _ => True) (by simp) (by simp) (fun i g hi hP => ?_)
  have hi' : i ≤ (rowsD a).length := by simpa using hi
  simp [lb_66_3, wrap_succ hi ha, fillL_length hi']
  refine ⟨fun h => ⟨h, ?_⟩, fun h => ?_⟩
  · simp [hr.row h, h, fillL_length hi', wrap_succ hi ha, fillL_gr h]
  · rw [fillL_all (by simpa using h)]
    simp
noncomputable def fm_toIntSS : Fam Try.prog := mkFam (X := List (List Int)) 66 false (fun a => [RL a]) (fun a => (BigR a)) (fun a => RL a) (by
  rintro a hr
  exact toIntSS_pc a hr)
@[simp] theorem fm_toIntSS_id : fm_toIntSS.id = 66 := rfl
@[simp] theorem fm_toIntSS_fresh : fm_toIntSS.fresh = false := rfl
@[simp] theorem fm_toIntSS_look (a : List (List Int)) (hr : BigR a) : fm_toIntSS.look [RL a] = some (RL a) :=
  lookF_of (X := List (List Int)) (args := fun a => [RL a]) (pre := fun a => (BigR a)) (val := fun a => RL a) (by
  intro a a' h
  simp at h
  subst h
  rfl) a hr
attribute [irreducible] fm_toIntSS

theorem toAlgebra_pc (u : List Int) (t : List (List Int)) (hu : Big u.length) (ht : BigR t) : PC Try.prog 19 [AL u t] none false (fun r _ => r = AL u t) := by
  refine pcT [fm_toIntS, fm_toIntSS] fok_19 ?_
  simp [fa_19, hu, ht]
noncomputable def fm_toAlgebra : Fam Try.prog := mkFam (X := List Int × List (List Int)) 19 false (fun (u, t) => [AL u t]) (fun (u, t) => (Big u.length) ∧ (BigR t)) (fun (u, t) => AL u t) (by
  rintro ⟨u, t⟩ ⟨hu, ht⟩
  exact toAlgebra_pc u t hu ht)
@[simp] theorem fm_toAlgebra_id : fm_toAlgebra.id = 19 := rfl
@[simp] theorem fm_toAlgebra_fresh : fm_toAlgebra.fresh = false := rfl
@[simp] theorem fm_toAlgebra_look (u : List Int) (t : List (List Int)) (hu : Big u.length) (ht : BigR t) : fm_toAlgebra.look [AL u t] = some (AL u t) :=
  lookF_of (X := List Int × List (List Int)) (args := fun (u, t) => [AL u t]) (pre := fun (u, t) => (Big u.length) ∧ (BigR t)) (val := fun (u, t) => AL u t) (by
  rintro ⟨u, t⟩ ⟨u', t'⟩ h
  simp at h
  try simp only [and_assoc] at h
  obtain ⟨rfl, rfl⟩ := h
  rfl) (u, t) ⟨hu, ht⟩
attribute [irreducible] fm_toAlgebra

theorem eqIntSS_pc (a b : List (List Int)) (hr : BigR a) : PC Try.prog 41 [RL a, RL b] none true (fun r _ => r = .bool (decide (a = b))) := by
  have ha := hr.1.le
  refine pcT [fm_eqIntS] fok_41 ?_
  simp [fa_41]
  refine ⟨fun h e => h (by rw [e]), fun hl => ?_⟩
  refine loopA (tabK_mono _) a.length (fun i => [(5, I64 i)]) (fun _ => []) (fun j => gr a j = gr b j) (by simp) (by simp) (fun i g hi hP => ?_)
  simp [lb_41_4, wrap_succ hi ha]
  refine ⟨fun h1 => ⟨h1, by omega, ?_⟩, fun h => gr_ext (by omega) (fun j hj => hP j (by omega))⟩
  simp [hr.row h1, wrap_succ hi ha, h1]
  grind
noncomputable def fm_eqIntSS : Fam Try.prog := mkFam (X := List (List Int) × List (List Int)) 41 true (fun (a, b) => [RL a, RL b]) (fun (a, b) => (BigR a)) (fun (a, b) => .bool (decide (a = b))) (by
  rintro ⟨a, b⟩ hr
  exact eqIntSS_pc a b hr)
@[simp] theorem fm_eqIntSS_id : fm_eqIntSS.id = 41 := rfl
@[simp] theorem fm_eqIntSS_fresh : fm_eqIntSS.fresh = true := rfl
@[simp] theorem fm_eqIntSS_look (a b : List (List Int)) (hr : BigR a) : fm_eqIntSS.look [RL a, RL b] = some (.bool (decide (a = b))) :=
  lookF_of (X := List (List Int) × List (List Int)) (args := fun (a, b) => [RL a, RL b]) (pre := fun (a, b) => (BigR a)) (val := fun (a, b) => .bool (decide (a = b))) (by
  rintro ⟨a, b⟩ ⟨a', b'⟩ h
  simp at h
  try simp only [and_assoc] at h
  obtain ⟨rfl, rfl⟩ := h
  rfl) (a, b) hr
attribute [irreducible] fm_eqIntSS

theorem eqAlgebra_pc (u : List Int) (t : List (List Int)) (u' : List Int) (t' : List (List Int)) (hu : Big u.length) (ht : BigR t) : PC Try.prog 22 [AL u t, AL u' t'] none true (fun r _ => r = .bool (decide (u = u' ∧ t = t'))) := by
  refine pcT [fm_eqIntS, fm_eqIntSS] fok_22 ?_
  simp [fa_22, hu, ht]
  grind
noncomputable def fm_eqAlgebra : Fam Try.prog := mkFam (X := List Int × List (List Int) × List Int × List (List Int)) 22 true (fun (u, t, u', t') => [AL u t, AL u' t']) (fun (u, t, u', t') => (Big u.length) ∧ (BigR t)) (fun (u, t, u', t') => .bool (decide (u = u' ∧ t = t'))) (by
  rintro ⟨u, t, u', t'⟩ ⟨hu, ht⟩
  exact eqAlgebra_pc u t u' t' hu ht)
@[simp] theorem fm_eqAlgebra_id : fm_eqAlgebra.id = 22 := rfl
@[simp] theorem fm_eqAlgebra_fresh : fm_eqAlgebra.fresh = true := rfl
@[simp] theorem fm_eqAlgebra_look (u : List Int) (t : List (List Int)) (u' : List Int) (t' : List (List Int)) (hu : Big u.length) (ht : BigR t) : fm_eqAlgebra.look [AL u t, AL u' t'] = some (.bool (decide (u = u' ∧ t = t'))) :=
  lookF_of (X := List Int × List (List Int) × List Int × List (List Int)) (args := fun (u, t, u', t') => [AL u t, AL u' t']) (pre := fun (u, t, u', t') => (Big u.length) ∧ (BigR t)) (val := fun (u, t, u', t') => .bool (decide (u = u' ∧ t = t'))) (by
  rintro ⟨u, t, u', t'⟩ ⟨u', t', u'', t''⟩ h
  simp at h
  try simp only [and_assoc] at h
  obtain ⟨rfl, rfl, rfl, rfl⟩ := h
  rfl) (u, t, u', t') ⟨hu, ht⟩
attribute [irreducible] fm_eqAlgebra

end Go.PS
