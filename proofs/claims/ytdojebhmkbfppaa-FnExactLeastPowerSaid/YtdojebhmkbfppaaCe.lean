/- Contracts of algebras: the reference. -/
import Derived.Test.YtdojebhmkbfppaaCd
import Derived.Test.YtdojebhmkbfppaaMb
set_option maxRecDepth 100000
set_option linter.unusedVariables false
set_option linter.unusedSimpArgs false
namespace Go.PS
open Go.Proofs

@[simp] theorem tm_fold {t : List (List Int)} {x y : Nat} : gi (gr t x) y = tm t x y := rfl

/-- A table of elements over a lattice. -/
structure TF (u : List Int) (t : List (List Int)) : Prop where
  lat : VL u
  len : t.length = u.length
  rows : ∀ x, x < u.length → (gr t x).length = u.length
  nn : ∀ x y, x < u.length → y < u.length → 0 ≤ tm t x y
  lt : ∀ x y, x < u.length → y < u.length → tm t x y < u.length

theorem TF.ltN {u : List Int} {t : List (List Int)} (f : TF u t) (x y : Nat) (hx : x < u.length) (hy : y < u.length) : (tm t x y).toNat < u.length := by
  have := f.nn x y hx hy; have := f.lt x y hx hy; omega
theorem VA.tf {u : List Int} {t : List (List Int)} (a : VA u t) : TF u t := ⟨a.lat, a.len, a.rows, fun x y hx hy => (a.rng x hx y hy).1, fun x y hx hy => (a.rng x hx y hy).2⟩
theorem VL.sm {u : List Int} (v : VL u) : Sm u := v.ord.sm
theorem VL.six {u : List Int} (v : VL u) : u.length ≤ 6 := v.ord.six
theorem VL.pos {u : List Int} (v : VL u) : 0 < u.length := v.ord.one
theorem VL.jn {u : List Int} (v : VL u) (x y : Nat) (hx : x < u.length) (hy : y < u.length) : 0 ≤ joinM u x y := (v.join_rng hx hy).1
theorem VL.jl {u : List Int} (v : VL u) (x y : Nat) (hx : x < u.length) (hy : y < u.length) : joinM u x y < u.length := (v.join_rng hx hy).2
theorem VL.jN {u : List Int} (v : VL u) (x y : Nat) (hx : x < u.length) (hy : y < u.length) : (joinM u x y).toNat < u.length := by have := v.join_rng hx hy; omega
theorem VL.mn {u : List Int} (v : VL u) (x y : Nat) (hx : x < u.length) (hy : y < u.length) : 0 ≤ meetM u x y := (v.meet_rng hx hy).1
theorem VL.ml {u : List Int} (v : VL u) (x y : Nat) (hx : x < u.length) (hy : y < u.length) : meetM u x y < u.length := (v.meet_rng hx hy).2
theorem VL.mN {u : List Int} (v : VL u) (x y : Nat) (hx : x < u.length) (hy : y < u.length) : (meetM u x y).toNat < u.length := by have := v.meet_rng hx hy; omega

/-- The number of the greatest element. -/
theorem top_ex {n : Nat} (h1 : 1 ≤ n) (h2 : n ≤ 1099511627776) : ∃ m : Nat, m + 1 = n ∧ IntKind.i64.wrap ((n : Int) - 1) = (m : Int) := ⟨n - 1, by omega, by rw [wrap64 (by omega) (by omega)]; omega⟩

set_option maxHeartbeats 2000000 in
theorem validAlgebraS_pc (u : List Int) (t : List (List Int)) (hu : Big u.length) (ht : BigR t) : PC Try.prog 62 [AL u t] none true (fun r _ => r = .bool (decide (VA u t))) := by
  have hl := hu.le
  refine pcT [fm_validLatticeS, fm_inRange, fm_joinS] fok_62 ?_
  simp [fa_62]
  refine cutW (tabK_mono _) [(22, .bool (!decide (VL u) || decide ((t.length : Int) ≠ u.length)))] (by simp [hu]; grind) ?_
  simp
  refine ⟨fun h w => (by have := w.lat; have := w.len; grind), fun v hlen => ?_⟩
  have hlen : t.length = u.length := by omega
  obtain ⟨m, hm, el⟩ := top_ex v.ord.one hl
  have hml : m < u.length := by omega
  have h0l := v.pos
  have em : u.length - 1 = m := by omega
  refine loopA (tabK_mono _) u.length (fun i => [(4, I64 i)]) (fun _ => []) (fun x => (gr t x).length = u.length ∧ ∀ y, y < u.length → 0 ≤ tm t x y ∧ tm t x y ≤ m) (by simp) (by simp) (fun x g hx hP => ?_)
  simp [lb_62_5, wrap_succ hx hl, hlen]
  refine ⟨fun h => ⟨h, fun h2 w => h2 (by exact_mod_cast w.rows x h), fun h2 => ?_⟩, fun h => ?_⟩
  · have h2 : (gr t x).length = u.length := by omega
    refine loopA (tabK_mono _) u.length (fun i => [(5, I64 i)]) (fun _ => []) (fun y => 0 ≤ tm t x y ∧ tm t x y ≤ m) (by simp) (by simp) (fun y g hy hQ => ?_)
    simp [lb_62_10, wrap_succ hx hl, wrap_succ hy hl, hlen, h, h2, el]
    refine ⟨fun h3 => ⟨h3, fun h4 w => ?_, fun h4 h5 => ⟨h3, h4, h5⟩⟩, fun h3 y hy => hQ y (by omega)⟩
    have := w.rng x h y h3
    omega
  have f : TF u t := ⟨v, hlen, fun x hx => (hP x (by omega)).1, fun x y hx hy => ((hP x (by omega)).2 y hy).1, fun x y hx hy => by have := ((hP x (by omega)).2 y hy).2; omega⟩
  clear hP hx h x
  refine loopA (tabK_mono _) u.length (fun i => [(6, I64 i)]) (fun _ => []) (fun x => (tm t x m = x ∧ tm t x 0 = 0) ∧ ∀ y, y < u.length → tm t x y = tm t y x ∧ ∀ z, z < u.length → tm t (tn t x y) z = tm t x (tn t y z) ∧ tm t x (joinM u y z).toNat = joinM u (tn t x y) (tn t x z)) (by simp) (by simp) (fun x g hx hP => ?_)
  simp [lb_62_15, wrap_succ hx hl]
  refine ⟨fun h => ?_, fun h => ?_⟩
  · refine cutW (tabK_mono _) [(78, .bool (decide (tm t x m ≠ x) || decide (tm t x 0 ≠ 0)))] (by simp [hlen, h, el, f.rows, h0l, hml]; grind) ?_
    simp
    refine ⟨fun h2 w => (by have := w.top x h; rw [em] at this; grind), fun h2 h3 => ?_⟩
    refine loopA (tabK_mono _) u.length (fun i => [(7, I64 i)]) (fun _ => []) (fun y => tm t x y = tm t y x ∧ ∀ z, z < u.length → tm t (tn t x y) z = tm t x (tn t y z) ∧ tm t x (joinM u y z).toNat = joinM u (tn t x y) (tn t x z)) (by simp) (by simp) (fun y g hy hQ => ?_)
    simp [lb_62_20, wrap_succ hx hl, wrap_succ hy hl]
    refine ⟨fun h4 => ?_, fun h4 => ⟨h, ⟨h2, h3⟩, fun y hy => hQ y (by omega)⟩⟩
    simp [hlen, h, h4, f.rows]
    refine ⟨fun h5 w => h5 (w.comm x h y h4), fun h5 => ?_⟩
    refine loopA (tabK_mono _) u.length (fun i => [(8, I64 i)]) (fun _ => []) (fun z => tm t (tn t x y) z = tm t x (tn t y z) ∧ tm t x (joinM u y z).toNat = joinM u (tn t x y) (tn t x z)) (by simp) (by simp) (fun z g hz hR => ?_)
    simp [lb_62_25, wrap_succ hy hl, wrap_succ hz hl]
    refine ⟨fun h6 => ?_, fun h6 => ⟨h4, h5, fun z hz => hR z (by omega)⟩⟩
    refine cutWc (tabK_mono _) [(170, .bool (decide (tm t (tn t x y) z ≠ tm t x (tn t y z)) || decide (tm t x (joinM u y z).toNat ≠ joinM u (tn t x y) (tn t x z))))] (by simp (maxSteps := 2000000) [hlen, h, h4, h6, f.rows, f.nn, f.lt, f.ltN, v.jn, v.jl, v.jN, v.sm]; grind) ?_
    simp [wrap_succ hz hl]
    refine ⟨fun h7 w => ?_, fun h7 h8 => ⟨h6, h7, h8⟩⟩
    have := w.dist x h y h4 z h6; have := w.assoc x h y h4 z h6; grind
  · exact ⟨v, hlen, f.rows, fun x hx y hy => ⟨f.nn x y hx hy, f.lt x y hx hy⟩, fun x hx => em ▸ (hP x (by omega)).1, fun x hx y hy => ((hP x (by omega)).2 y hy).1, fun x hx y hy z hz => (((hP x (by omega)).2 y hy).2 z hz).1, fun x hx y hy z hz => (((hP x (by omega)).2 y hy).2 z hz).2⟩
noncomputable def fm_validAlgebraS : Fam Try.prog := mkFam (X := List Int × List (List Int)) 62 true (fun (u, t) => [AL u t]) (fun (u, t) => (Big u.length) ∧ (BigR t)) (fun (u, t) => .bool (decide (VA u t))) (by
  rintro ⟨u, t⟩ ⟨hu, ht⟩
  exact validAlgebraS_pc u t hu ht)
@[simp] theorem fm_validAlgebraS_id : fm_validAlgebraS.id = 62 := rfl
@[simp] theorem fm_validAlgebraS_fresh : fm_validAlgebraS.fresh = true := rfl
@[simp] theorem fm_validAlgebraS_look (u : List Int) (t : List (List Int)) (hu : Big u.length) (ht : BigR t) : fm_validAlgebraS.look [AL u t] = some (.bool (decide (VA u t))) :=
  lookF_of (X := List Int × List (List Int)) (args := fun (u, t) => [AL u t]) (pre := fun (u, t) => (Big u.length) ∧ (BigR t)) (val := fun (u, t) => .bool (decide (VA u t))) (by
  rintro ⟨u, t⟩ ⟨u', t'⟩ h
  simp at h
  try simp only [and_assoc] at h
  obtain ⟨rfl, rfl⟩ := h
  rfl) (u, t) ⟨hu, ht⟩
attribute [irreducible] fm_validAlgebraS

theorem implyS_pc (u : List Int) (t : List (List Int)) (x y : Int) (f : TF u t) (hx0 : 0 ≤ x) (hx : x.toNat < u.length) (hy0 : 0 ≤ y) (hy : y.toNat < u.length) : PC Try.prog 126 [AL u t, I64 x, I64 y] none true (fun r _ => r = I64 (implyM u t x.toNat y.toNat)) := by
  obtain ⟨x, rfl⟩ := Int.eq_ofNat_of_zero_le hx0
  obtain ⟨y, rfl⟩ := Int.eq_ofNat_of_zero_le hy0
  simp at hx hy
  have v := f.lat
  refine pcT [fm_belowS, fm_joinS] fok_126 ?_
  simp [fa_126]
  refine loopA (tabK_mono _) u.length (fun i => [(7, I64 (impAcc u t x y i)), (8, I64 i)]) (fun _ => []) (fun _ => True) (by simp [impAcc_zero]) (by simp) (fun z g hz _ => ?_)
  have hA := v.impAcc_rng (t := t) (x := x) (y := y) z hz
  simp [lb_126_3, wrap_succ hz v.sm.le, impAcc_succ]
  refine ⟨fun h => ?_, fun h => by rw [implyM, show z = u.length by omega]⟩
  simp [f.len, hx, hy, h, f.rows, f.nn, f.lt, f.ltN, v.sm, hA, show (impAcc u t x y z).toNat < u.length by omega, wrap_succ hz v.sm.le, impAcc_succ]
  grind
noncomputable def fm_implyS : Fam Try.prog := mkFam (X := List Int × List (List Int) × Int × Int) 126 true (fun (u, t, x, y) => [AL u t, I64 x, I64 y]) (fun (u, t, x, y) => (TF u t) ∧ (0 ≤ x) ∧ (x.toNat < u.length) ∧ (0 ≤ y) ∧ (y.toNat < u.length)) (fun (u, t, x, y) => I64 (implyM u t x.toNat y.toNat)) (by
  rintro ⟨u, t, x, y⟩ ⟨f, hx0, hx, hy0, hy⟩
  exact implyS_pc u t x y f hx0 hx hy0 hy)
@[simp] theorem fm_implyS_id : fm_implyS.id = 126 := rfl
@[simp] theorem fm_implyS_fresh : fm_implyS.fresh = true := rfl
@[simp] theorem fm_implyS_look (u : List Int) (t : List (List Int)) (x y : Int) (f : TF u t) (hx0 : 0 ≤ x) (hx : x.toNat < u.length) (hy0 : 0 ≤ y) (hy : y.toNat < u.length) : fm_implyS.look [AL u t, I64 x, I64 y] = some (I64 (implyM u t x.toNat y.toNat)) :=
  lookF_of (X := List Int × List (List Int) × Int × Int) (args := fun (u, t, x, y) => [AL u t, I64 x, I64 y]) (pre := fun (u, t, x, y) => (TF u t) ∧ (0 ≤ x) ∧ (x.toNat < u.length) ∧ (0 ≤ y) ∧ (y.toNat < u.length)) (val := fun (u, t, x, y) => I64 (implyM u t x.toNat y.toNat)) (by
  rintro ⟨u, t, x, y⟩ ⟨u', t', x', y'⟩ h
  simp at h
  try simp only [and_assoc] at h
  obtain ⟨rfl, rfl, rfl, rfl⟩ := h
  rfl) (u, t, x, y) ⟨f, hx0, hx, hy0, hy⟩
attribute [irreducible] fm_implyS

end Go.PS
