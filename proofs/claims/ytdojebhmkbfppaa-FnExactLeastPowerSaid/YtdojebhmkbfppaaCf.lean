/- Contracts of algebras: the program. -/
import Derived.Test.YtdojebhmkbfppaaCe
set_option maxRecDepth 100000
set_option linter.unusedVariables false
set_option linter.unusedSimpArgs false
namespace Go.PS
open Go.Proofs

/-- The place of the first with 'p', -1 if there is none. -/
def findI (p : Int → Bool) (xs : List Int) : Int := firstI xs.length fun i => p (gi xs i)
theorem findI_any {p : Int → Bool} {xs : List Int} : decide (0 ≤ findI p xs) = xs.any p := by
  rw [Bool.eq_iff_iff, decide_eq_true_eq, List.any_eq_true]
  constructor
  · intro h
    rcases firstI_range (n := xs.length) (p := fun i => p (gi xs i)) with h1 | ⟨z, hz, hp, h1⟩
    · rw [findI, h1] at h; omega
    · exact ⟨gi xs z, gi_mem hz, hp⟩
  · rintro ⟨x, hx, hp⟩
    obtain ⟨i, hi, rfl⟩ := List.mem_iff_getElem.1 hx
    rcases firstI_range (n := xs.length) (p := fun i => p (gi xs i)) with h1 | ⟨z, hz, hp, h1⟩
    · exfalso
      have : ∀ j, j < xs.length → p (gi xs j) = false := by
        intro j hj
        cases h2 : p (gi xs j)
        · rfl
        · exfalso
          have h3 : (List.range xs.length).find? (fun i => p (gi xs i)) = none := by
            unfold firstI at h1; split at h1
            · omega
            · assumption
          rw [List.find?_eq_none] at h3
          exact h3 j (by simpa using hj) h2
      have := this i hi
      rw [gi, List.getElem?_eq_getElem hi] at this
      simp [hp] at this
    · rw [findI, h1]; omega

theorem indexFunc_pc {xs : List Int} (hl : Big xs.length) {cid : Nat} {caps : List D} (hc : ∀ h, caps.map (der h 5) = caps) (p : Int → Bool)
    (hp : ∀ x, x ∈ xs → PC Try.prog cid (I64 x :: caps) none true (fun r _ => r = .bool (p x))) : PC Try.prog 135 [IL xs, .fn cid caps] none true (fun r _ => r = I64 (findI p xs)) := by
  have hl := hl.le
  obtain ⟨fm, hid, hfr, hlk⟩ := famE (P := Try.prog) (X := Int) cid true (fun x => I64 x :: caps) (fun x => x ∈ xs) (fun x => .bool (p x)) (by
    intro x y h
    simp at h
    simp [h]) (fun x hx => hp x hx)
  refine pcT [fm] fok_135 ?_
  simp [fa_135]
  refine loopA (tabK_mono _) xs.length (fun i => [(8, I64 i)]) (fun _ => []) (fun i => p (gi xs i) = false) (by simp) (by simp) (fun i g hi hP => ?_)
  simp [lb_135_2, wrap_succ hi hl]
  refine ⟨fun h => ?_, fun h => by rw [findI, firstI_none (fun j hj => hP j (by omega))]⟩
  simp [h, hid, hfr, hc, hlk _ (gi_mem h), wrap_succ hi hl]
  exact fun h2 => (firstI_some (p := fun i => p (gi xs i)) h h2 hP).symm

theorem containsFunc_pc {xs : List Int} (hl : Big xs.length) {cid : Nat} {caps : List D} (hc : ∀ h, caps.map (der h 4) = caps) (hc5 : ∀ h, caps.map (der h 5) = caps) (p : Int → Bool)
    (hp : ∀ x, x ∈ xs → PC Try.prog cid (I64 x :: caps) none true (fun r _ => r = .bool (p x))) : PC Try.prog 129 [IL xs, .fn cid caps] none true (fun r _ => r = .bool (xs.any p)) := by
  obtain ⟨fm, hid, hfr, hlk⟩ := famE (P := Try.prog) (X := Unit) 135 true (fun _ => [IL xs, .fn cid caps]) (fun _ => True) (fun _ => I64 (findI p xs)) (fun _ _ _ => rfl) (fun _ _ => indexFunc_pc hl hc5 p hp)
  have hlk := hlk () trivial
  refine pcT [fm] fok_129 ?_
  simp [fa_129, hid, hfr, hc, hlk]
  exact findI_any

/-- Outside a range. -/
def outR (n : Int) (x : Int) : Bool := !(decide (0 ≤ x) && decide (x ≤ n - 1))

theorem vaC_pc (x n : Int) (h1 : 0 ≤ n) (h2 : n ≤ 1099511627776) : PC Try.prog 134 [I64 x, .iptr (I64 n)] none true (fun r _ => r = .bool (outR n x)) := by
  refine pcT [fm_within] fok_134 ?_
  simp [fa_134, outR, wrap64 (n := n - 1) (by omega) (by omega)]
noncomputable def fm_vaC : Fam Try.prog := mkFam (X := Int × Int) 134 true (fun (x, n) => [I64 x, .iptr (I64 n)]) (fun (x, n) => (0 ≤ n) ∧ (n ≤ 1099511627776)) (fun (x, n) => .bool (outR n x)) (by
  rintro ⟨x, n⟩ ⟨h1, h2⟩
  exact vaC_pc x n h1 h2)
@[simp] theorem fm_vaC_id : fm_vaC.id = 134 := rfl
@[simp] theorem fm_vaC_fresh : fm_vaC.fresh = true := rfl
@[simp] theorem fm_vaC_look (x n : Int) (h1 : 0 ≤ n) (h2 : n ≤ 1099511627776) : fm_vaC.look [I64 x, .iptr (I64 n)] = some (.bool (outR n x)) :=
  lookF_of (X := Int × Int) (args := fun (x, n) => [I64 x, .iptr (I64 n)]) (pre := fun (x, n) => (0 ≤ n) ∧ (n ≤ 1099511627776)) (val := fun (x, n) => .bool (outR n x)) (by
  rintro ⟨x, n⟩ ⟨x', n'⟩ h
  simp at h
  try simp only [and_assoc] at h
  obtain ⟨rfl, rfl⟩ := h
  rfl) (x, n) ⟨h1, h2⟩
attribute [irreducible] fm_vaC

theorem contVA_pc (xs : List Int) (n : Int) (hl : Big xs.length) (h1 : 0 ≤ n) (h2 : n ≤ 1099511627776) : PC Try.prog 129 [IL xs, .fn 134 [.iptr (I64 n)]] none true (fun r _ => r = .bool (xs.any (outR n))) := by
  exact containsFunc_pc hl (by simp) (by simp) (outR n) (fun x hx => vaC_pc x n h1 h2)
noncomputable def fm_contVA : Fam Try.prog := mkFam (X := List Int × Int) 129 true (fun (xs, n) => [IL xs, .fn 134 [.iptr (I64 n)]]) (fun (xs, n) => (Big xs.length) ∧ (0 ≤ n) ∧ (n ≤ 1099511627776)) (fun (xs, n) => .bool (xs.any (outR n))) (by
  rintro ⟨xs, n⟩ ⟨hl, h1, h2⟩
  exact contVA_pc xs n hl h1 h2)
@[simp] theorem fm_contVA_id : fm_contVA.id = 129 := rfl
@[simp] theorem fm_contVA_fresh : fm_contVA.fresh = true := rfl
@[simp] theorem fm_contVA_look (xs : List Int) (n : Int) (hl : Big xs.length) (h1 : 0 ≤ n) (h2 : n ≤ 1099511627776) : fm_contVA.look [IL xs, .fn 134 [.iptr (I64 n)]] = some (.bool (xs.any (outR n))) :=
  lookF_of (X := List Int × Int) (args := fun (xs, n) => [IL xs, .fn 134 [.iptr (I64 n)]]) (pre := fun (xs, n) => (Big xs.length) ∧ (0 ≤ n) ∧ (n ≤ 1099511627776)) (val := fun (xs, n) => .bool (xs.any (outR n))) (by
  rintro ⟨xs, n⟩ ⟨xs', n'⟩ h
  simp at h
  try simp only [and_assoc] at h
  obtain ⟨rfl, rfl⟩ := h
  rfl) (xs, n) ⟨hl, h1, h2⟩
attribute [irreducible] fm_contVA

theorem atC_pc (x : Int) (u : List Int) (t : List (List Int)) (h2 : Big u.length) : PC Try.prog 130 [I64 x, .iptr (AL u t)] none true (fun r _ => r = .bool (outR u.length x)) := by
  have h2 := h2.le
  refine pcT [fm_within] fok_130 ?_
  simp [fa_130, outR, wrap64 (n := (u.length : Int) - 1) (by omega) (by omega)]
noncomputable def fm_atC : Fam Try.prog := mkFam (X := Int × List Int × List (List Int)) 130 true (fun (x, u, t) => [I64 x, .iptr (AL u t)]) (fun (x, u, t) => (Big u.length)) (fun (x, u, t) => .bool (outR u.length x)) (by
  rintro ⟨x, u, t⟩ h2
  exact atC_pc x u t h2)
@[simp] theorem fm_atC_id : fm_atC.id = 130 := rfl
@[simp] theorem fm_atC_fresh : fm_atC.fresh = true := rfl
@[simp] theorem fm_atC_look (x : Int) (u : List Int) (t : List (List Int)) (h2 : Big u.length) : fm_atC.look [I64 x, .iptr (AL u t)] = some (.bool (outR u.length x)) :=
  lookF_of (X := Int × List Int × List (List Int)) (args := fun (x, u, t) => [I64 x, .iptr (AL u t)]) (pre := fun (x, u, t) => (Big u.length)) (val := fun (x, u, t) => .bool (outR u.length x)) (by
  rintro ⟨x, u, t⟩ ⟨x', u', t'⟩ h
  simp at h
  try simp only [and_assoc] at h
  obtain ⟨rfl, rfl, rfl⟩ := h
  rfl) (x, u, t) h2
attribute [irreducible] fm_atC

theorem contAt_pc (xs : List Int) (u : List Int) (t : List (List Int)) (hl : Big xs.length) (h2 : Big u.length) : PC Try.prog 129 [IL xs, .fn 130 [.iptr (AL u t)]] none true (fun r _ => r = .bool (xs.any (outR u.length))) := by
  exact containsFunc_pc hl (by simp) (by simp) (outR u.length) (fun x hx => atC_pc x u t h2)
noncomputable def fm_contAt : Fam Try.prog := mkFam (X := List Int × List Int × List (List Int)) 129 true (fun (xs, u, t) => [IL xs, .fn 130 [.iptr (AL u t)]]) (fun (xs, u, t) => (Big xs.length) ∧ (Big u.length)) (fun (xs, u, t) => .bool (xs.any (outR u.length))) (by
  rintro ⟨xs, u, t⟩ ⟨hl, h2⟩
  exact contAt_pc xs u t hl h2)
@[simp] theorem fm_contAt_id : fm_contAt.id = 129 := rfl
@[simp] theorem fm_contAt_fresh : fm_contAt.fresh = true := rfl
@[simp] theorem fm_contAt_look (xs : List Int) (u : List Int) (t : List (List Int)) (hl : Big xs.length) (h2 : Big u.length) : fm_contAt.look [IL xs, .fn 130 [.iptr (AL u t)]] = some (.bool (xs.any (outR u.length))) :=
  lookF_of (X := List Int × List Int × List (List Int)) (args := fun (xs, u, t) => [IL xs, .fn 130 [.iptr (AL u t)]]) (pre := fun (xs, u, t) => (Big xs.length) ∧ (Big u.length)) (val := fun (xs, u, t) => .bool (xs.any (outR u.length))) (by
  rintro ⟨xs, u, t⟩ ⟨xs', u', t'⟩ h
  simp at h
  try simp only [and_assoc] at h
  obtain ⟨rfl, rfl, rfl⟩ := h
  rfl) (xs, u, t) ⟨hl, h2⟩
attribute [irreducible] fm_contAt

theorem any_outR {xs : List Int} {n : Nat} (h : xs.any (outR n) = false) : ∀ y, y < xs.length → 0 ≤ gi xs y ∧ gi xs y < n := by
  intro y hy
  rw [List.any_eq_false] at h
  have := h _ (gi_mem hy)
  simp [outR] at this
  omega

set_option maxHeartbeats 2000000 in
theorem validAlgebraI_pc (u : List Int) (t : List (List Int)) (hu : Big u.length) (ht : BigR t) : PC Try.prog 72 [AL u t] none true (fun r _ => r = .bool (decide (VA u t))) := by
  have hl := hu.le
  refine pcT [fm_validLatticeI, fm_contVA, fm_joinI] fok_72 ?_
  simp [fa_72]
  refine cutW (tabK_mono _) [(22, .bool (!decide (VL u) || decide ((t.length : Int) ≠ u.length)))] (by simp [hu]; grind) ?_
  simp
  refine ⟨fun h w => (by have := w.lat; have := w.len; grind), fun v hlen => ?_⟩
  have hlen : t.length = u.length := by omega
  obtain ⟨m, hm, el⟩ := top_ex v.ord.one hl
  have hml : m < u.length := by omega
  have h0l := v.pos
  have em : u.length - 1 = m := by omega
  refine loopA (tabK_mono _) u.length (fun i => [(26, I64 i)]) (fun _ => [⟨24, 1, .cells [I64 u.length]⟩]) (fun x => (gr t x).length = u.length ∧ ∀ y, y < u.length → 0 ≤ tm t x y ∧ tm t x y < u.length) (by simp) (by simp) (fun x g hx hP => ?_)
  simp [lb_72_5, wrap_succ hx hl, hlen]
  refine ⟨fun h => ⟨h, ?_⟩, fun h => ?_⟩
  · refine cutW (tabK_mono _) [(38, .bool (decide ((gr t x).length ≠ u.length) || (gr t x).any (outR u.length)))] (by simp [show Big (gr t x).length from ht.row (by omega), show (u.length : Int) ≤ 1099511627776 by omega]; grind) ?_
    simp [wrap_succ hx hl]
    refine ⟨fun h2 w => ?_, fun h2 h3 => ⟨h, by omega, fun y hy => ?_⟩⟩
    · have h3 := h2.resolve_left (fun q => q (w.rows x h))
      obtain ⟨z, hz, h4⟩ := h3
      obtain ⟨y, hy, rfl⟩ := List.mem_iff_getElem.1 hz
      have h5 := w.rng x h y (by rw [← w.rows x h]; exact hy)
      rw [show (gr t x)[y] = tm t x y from by rw [tm, gi, List.getElem?_eq_getElem hy]; rfl] at h4
      simp [outR] at h4
      omega
    · have h4 := any_outR (xs := gr t x) (n := u.length) (by rw [List.any_eq_false]; intro z hz; simpa using h3 z hz) y (by omega)
      exact h4
  have f : TF u t := ⟨v, hlen, fun x hx => (hP x (by omega)).1, fun x y hx hy => ((hP x (by omega)).2 y hy).1, fun x y hx hy => ((hP x (by omega)).2 y hy).2⟩
  clear hP hx h x
  refine loopA (tabK_mono _) u.length (fun i => [(43, I64 i)]) (fun _ => [⟨24, 1, .cells [I64 u.length]⟩]) (fun x => (tm t x m = x ∧ tm t x 0 = 0) ∧ ∀ y, y < u.length → tm t x y = tm t y x ∧ ∀ z, z < u.length → tm t (tn t x y) z = tm t x (tn t y z) ∧ tm t x (joinM u y z).toNat = joinM u (tn t x y) (tn t x z)) (by simp) (by simp) (fun x g hx hP => ?_)
  simp [lb_72_11, wrap_succ hx hl]
  refine ⟨fun h => ?_, fun h => ?_⟩
  · refine cutWc (tabK_mono _) [(66, .bool (decide (tm t x m ≠ x) || decide (tm t x 0 ≠ 0)))] (by simp [hlen, h, el, f.rows, h0l, hml]; grind) ?_
    simp
    refine ⟨fun h2 w => (by have := w.top x h; rw [em] at this; grind), fun h2 h3 => ?_⟩
    refine loopA (tabK_mono _) u.length (fun i => [(70, I64 i)]) (fun _ => [⟨24, 1, .cells [I64 u.length]⟩]) (fun y => tm t x y = tm t y x ∧ ∀ z, z < u.length → tm t (tn t x y) z = tm t x (tn t y z) ∧ tm t x (joinM u y z).toNat = joinM u (tn t x y) (tn t x z)) (by simp) (by simp) (fun y g hy hQ => ?_)
    simp [lb_72_16, wrap_succ hx hl, wrap_succ hy hl]
    refine ⟨fun h4 => ?_, fun h4 => ⟨h, ⟨h2, h3⟩, fun y hy => hQ y (by omega)⟩⟩
    simp [hlen, h, h4, f.rows]
    refine ⟨fun h5 w => h5 (w.comm x h y h4), fun h5 => ?_⟩
    refine loopA (tabK_mono _) u.length (fun i => [(93, I64 i)]) (fun _ => [⟨24, 1, .cells [I64 u.length]⟩]) (fun z => tm t (tn t x y) z = tm t x (tn t y z) ∧ tm t x (joinM u y z).toNat = joinM u (tn t x y) (tn t x z)) (by simp) (by simp) (fun z g hz hR => ?_)
    simp [lb_72_21, wrap_succ hy hl, wrap_succ hz hl]
    refine ⟨fun h6 => ?_, fun h6 => ⟨h4, h5, fun z hz => hR z (by omega)⟩⟩
    refine cutWc (tabK_mono _) [(160, .bool (decide (tm t (tn t x y) z ≠ tm t x (tn t y z)) || decide (tm t x (joinM u y z).toNat ≠ joinM u (tn t x y) (tn t x z))))] (by simp (maxSteps := 2000000) [hlen, h, h4, h6, f.rows, f.nn, f.lt, f.ltN, v.jn, v.jl, v.jN, v.sm]; grind) ?_
    simp [wrap_succ hz hl]
    refine ⟨fun h7 w => ?_, fun h7 h8 => ⟨h6, h7, h8⟩⟩
    have := w.dist x h y h4 z h6; have := w.assoc x h y h4 z h6; grind
  · exact ⟨v, hlen, f.rows, fun x hx y hy => ⟨f.nn x y hx hy, f.lt x y hx hy⟩, fun x hx => em ▸ (hP x (by omega)).1, fun x hx y hy => ((hP x (by omega)).2 y hy).1, fun x hx y hy z hz => (((hP x (by omega)).2 y hy).2 z hz).1, fun x hx y hy z hz => (((hP x (by omega)).2 y hy).2 z hz).2⟩
noncomputable def fm_validAlgebraI : Fam Try.prog := mkFam (X := List Int × List (List Int)) 72 true (fun (u, t) => [AL u t]) (fun (u, t) => (Big u.length) ∧ (BigR t)) (fun (u, t) => .bool (decide (VA u t))) (by
  rintro ⟨u, t⟩ ⟨hu, ht⟩
  exact validAlgebraI_pc u t hu ht)
@[simp] theorem fm_validAlgebraI_id : fm_validAlgebraI.id = 72 := rfl
@[simp] theorem fm_validAlgebraI_fresh : fm_validAlgebraI.fresh = true := rfl
@[simp] theorem fm_validAlgebraI_look (u : List Int) (t : List (List Int)) (hu : Big u.length) (ht : BigR t) : fm_validAlgebraI.look [AL u t] = some (.bool (decide (VA u t))) :=
  lookF_of (X := List Int × List (List Int)) (args := fun (u, t) => [AL u t]) (pre := fun (u, t) => (Big u.length) ∧ (BigR t)) (val := fun (u, t) => .bool (decide (VA u t))) (by
  rintro ⟨u, t⟩ ⟨u', t'⟩ h
  simp at h
  try simp only [and_assoc] at h
  obtain ⟨rfl, rfl⟩ := h
  rfl) (u, t) ⟨hu, ht⟩
attribute [irreducible] fm_validAlgebraI

/-- Elements all. -/
def allE (xs : List Int) (n : Nat) : Prop := ∀ x ∈ xs, 0 ≤ x ∧ x < n
instance (xs : List Int) (n : Nat) : Decidable (allE xs n) := by unfold allE; infer_instance
theorem allE_any {xs : List Int} {n : Nat} : (!xs.any (outR n)) = decide (allE xs n) := by
  rw [Bool.eq_iff_iff, decide_eq_true_eq]
  simp [allE, outR]
  refine forall_congr' fun x => forall_congr' fun _ => ?_
  omega

theorem atI_pc (u : List Int) (t : List (List Int)) (xs : List Int) (hu : Big u.length) (ht : BigR t) (hx : Big xs.length) : PC Try.prog 68 [AL u t, IL xs] none true (fun r _ => r = .bool (decide (VA u t) && decide (allE xs u.length))) := by
  refine pcT [fm_validAlgebraI, fm_contAt] fok_68 ?_
  simp [fa_68]
  refine cutW (tabK_mono _) [(4, .bool (decide (VA u t) && decide (allE xs u.length)))] (by rw [← allE_any]; simp [hu, ht, hx]; grind) ?_
  simp
noncomputable def fm_atI : Fam Try.prog := mkFam (X := List Int × List (List Int) × List Int) 68 true (fun (u, t, xs) => [AL u t, IL xs]) (fun (u, t, xs) => (Big u.length) ∧ (BigR t) ∧ (Big xs.length)) (fun (u, t, xs) => .bool (decide (VA u t) && decide (allE xs u.length))) (by
  rintro ⟨u, t, xs⟩ ⟨hu, ht, hx⟩
  exact atI_pc u t xs hu ht hx)
@[simp] theorem fm_atI_id : fm_atI.id = 68 := rfl
@[simp] theorem fm_atI_fresh : fm_atI.fresh = true := rfl
@[simp] theorem fm_atI_look (u : List Int) (t : List (List Int)) (xs : List Int) (hu : Big u.length) (ht : BigR t) (hx : Big xs.length) : fm_atI.look [AL u t, IL xs] = some (.bool (decide (VA u t) && decide (allE xs u.length))) :=
  lookF_of (X := List Int × List (List Int) × List Int) (args := fun (u, t, xs) => [AL u t, IL xs]) (pre := fun (u, t, xs) => (Big u.length) ∧ (BigR t) ∧ (Big xs.length)) (val := fun (u, t, xs) => .bool (decide (VA u t) && decide (allE xs u.length))) (by
  rintro ⟨u, t, xs⟩ ⟨u', t', xs'⟩ h
  simp at h
  try simp only [and_assoc] at h
  obtain ⟨rfl, rfl, rfl⟩ := h
  rfl) (u, t, xs) ⟨hu, ht, hx⟩
attribute [irreducible] fm_atI

theorem implyI_pc (u : List Int) (t : List (List Int)) (x y : Int) (f : TF u t) (hx0 : 0 ≤ x) (hx : x.toNat < u.length) (hy0 : 0 ≤ y) (hy : y.toNat < u.length) : PC Try.prog 111 [AL u t, I64 x, I64 y] none true (fun r _ => r = I64 (implyM u t x.toNat y.toNat)) := by
  obtain ⟨x, rfl⟩ := Int.eq_ofNat_of_zero_le hx0
  obtain ⟨y, rfl⟩ := Int.eq_ofNat_of_zero_le hy0
  simp at hx hy
  have v := f.lat
  refine pcT [fm_belowI, fm_joinI] fok_111 ?_
  simp [fa_111]
  refine loopA (tabK_mono _) u.length (fun i => [(7, I64 (impAcc u t x y i)), (12, I64 i)]) (fun _ => []) (fun _ => True) (by simp [impAcc_zero]) (by simp) (fun z g hz _ => ?_)
  have hA := v.impAcc_rng (t := t) (x := x) (y := y) z hz
  simp [lb_111_3, wrap_succ hz v.sm.le, impAcc_succ]
  refine ⟨fun h => ?_, fun h => by rw [implyM, show z = u.length by omega]⟩
  simp [f.len, hx, hy, h, f.rows, f.nn, f.lt, f.ltN, v.sm, v.six, hA, show (impAcc u t x y z).toNat < u.length by omega, wrap_succ hz v.sm.le, impAcc_succ]
  grind
noncomputable def fm_implyI : Fam Try.prog := mkFam (X := List Int × List (List Int) × Int × Int) 111 true (fun (u, t, x, y) => [AL u t, I64 x, I64 y]) (fun (u, t, x, y) => (TF u t) ∧ (0 ≤ x) ∧ (x.toNat < u.length) ∧ (0 ≤ y) ∧ (y.toNat < u.length)) (fun (u, t, x, y) => I64 (implyM u t x.toNat y.toNat)) (by
  rintro ⟨u, t, x, y⟩ ⟨f, hx0, hx, hy0, hy⟩
  exact implyI_pc u t x y f hx0 hx hy0 hy)
@[simp] theorem fm_implyI_id : fm_implyI.id = 111 := rfl
@[simp] theorem fm_implyI_fresh : fm_implyI.fresh = true := rfl
@[simp] theorem fm_implyI_look (u : List Int) (t : List (List Int)) (x y : Int) (f : TF u t) (hx0 : 0 ≤ x) (hx : x.toNat < u.length) (hy0 : 0 ≤ y) (hy : y.toNat < u.length) : fm_implyI.look [AL u t, I64 x, I64 y] = some (I64 (implyM u t x.toNat y.toNat)) :=
  lookF_of (X := List Int × List (List Int) × Int × Int) (args := fun (u, t, x, y) => [AL u t, I64 x, I64 y]) (pre := fun (u, t, x, y) => (TF u t) ∧ (0 ≤ x) ∧ (x.toNat < u.length) ∧ (0 ≤ y) ∧ (y.toNat < u.length)) (val := fun (u, t, x, y) => I64 (implyM u t x.toNat y.toNat)) (by
  rintro ⟨u, t, x, y⟩ ⟨u', t', x', y'⟩ h
  simp at h
  try simp only [and_assoc] at h
  obtain ⟨rfl, rfl, rfl, rfl⟩ := h
  rfl) (u, t, x, y) ⟨f, hx0, hx, hy0, hy⟩
attribute [irreducible] fm_implyI

theorem notI_pc (u : List Int) (t : List (List Int)) (x : Int) (f : TF u t) (hx0 : 0 ≤ x) (hx : x.toNat < u.length) : PC Try.prog 161 [AL u t, I64 x] none true (fun r _ => r = I64 (implyM u t x.toNat 0)) := by
  refine pcT [fm_implyI] fok_161 ?_
  simp [fa_161, f, hx0, hx, f.lat.pos]
noncomputable def fm_notI : Fam Try.prog := mkFam (X := List Int × List (List Int) × Int) 161 true (fun (u, t, x) => [AL u t, I64 x]) (fun (u, t, x) => (TF u t) ∧ (0 ≤ x) ∧ (x.toNat < u.length)) (fun (u, t, x) => I64 (implyM u t x.toNat 0)) (by
  rintro ⟨u, t, x⟩ ⟨f, hx0, hx⟩
  exact notI_pc u t x f hx0 hx)
@[simp] theorem fm_notI_id : fm_notI.id = 161 := rfl
@[simp] theorem fm_notI_fresh : fm_notI.fresh = true := rfl
@[simp] theorem fm_notI_look (u : List Int) (t : List (List Int)) (x : Int) (f : TF u t) (hx0 : 0 ≤ x) (hx : x.toNat < u.length) : fm_notI.look [AL u t, I64 x] = some (I64 (implyM u t x.toNat 0)) :=
  lookF_of (X := List Int × List (List Int) × Int) (args := fun (u, t, x) => [AL u t, I64 x]) (pre := fun (u, t, x) => (TF u t) ∧ (0 ≤ x) ∧ (x.toNat < u.length)) (val := fun (u, t, x) => I64 (implyM u t x.toNat 0)) (by
  rintro ⟨u, t, x⟩ ⟨u', t', x'⟩ h
  simp at h
  try simp only [and_assoc] at h
  obtain ⟨rfl, rfl, rfl⟩ := h
  rfl) (u, t, x) ⟨f, hx0, hx⟩
attribute [irreducible] fm_notI

end Go.PS
