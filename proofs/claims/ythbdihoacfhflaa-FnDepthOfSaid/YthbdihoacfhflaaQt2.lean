/- Part 2 of what the last text proves: Depths: the law holds at every input. -/
import Derived.Test.YthbdihoacfhflaaQt1
section
-- The law of depths.
set_option maxRecDepth 100000
set_option linter.unusedVariables false
set_option linter.unusedSimpArgs false
namespace Go.PS
open Go.Proofs

noncomputable def dpM (u : List Int) (t : List (List Int)) (x : Int) : Int × Bool :=
  if decide (VA u t) && inE u.length x then (if 0 ≤ depM u t x.toNat u.length then (depM u t x.toNat u.length, true) else (0, false)) else (0, false)
theorem dep_none {u : List Int} {t : List (List Int)} {x m : Nat} (h : ∀ j, j < m + 1 → decide (powM u t x j = 0) = false) : depM u t x m = -1 := firstI_none h
theorem DepS_pc (u : List Int) (t : List (List Int)) (x : Int) (hu : Big u.length) (ht : BigR t) : PC Try.prog 45 [AL u t, I64 x] none true (fun r _ => r = .tup [I64 (dpM u t x).1, .bool (dpM u t x).2]) := by
  have l1 := fm_hasS_look u t x x hu ht
  rw [Bool.and_self] at l1
  refine pcT [fm_hasS, fm_powS] fok_45 ?_
  unfold dpM
  cases hb : (decide (VA u t) && inE u.length x)
  · rw [hb] at l1
    simp [fa_45, l1]
  · have h := hb
    rw [hb] at l1
    simp only [Bool.and_eq_true, decide_eq_true_eq] at h
    obtain ⟨i, rfl, hi⟩ := inE_ex h.2
    have f := h.1.tf
    have h6 := h.1.lat.six
    simp [fa_45, l1]
    refine loopA (tabK_mono _) (u.length + 1) (fun k => [(6, I64 k)]) (fun _ => []) (fun k => decide (powM u t i k = 0) = false) (by simp) (by simp) (fun k g hk hP => ?_)
    simp [lb_45_4]
    refine ⟨fun h2 => ?_, fun h2 => ?_⟩
    · simp [f, hi, show (k : Int) ≤ 1000000 by omega, wrap64 (n := (k : Int) + 1) (by omega) (by omega)]
      refine ⟨fun hz => ?_, fun hz => ⟨by omega, hz⟩⟩
      have er : depM u t i u.length = k := firstI_some (by omega) (by simp [hz]) hP
      simp [er]
    · have er := dep_none (u := u) (t := t) (x := i) (m := u.length) (fun j hj => hP j (by omega))
      simp [er]
noncomputable def fm_DepS : Fam Try.prog := mkFam (X := List Int × List (List Int) × Int) 45 true (fun (u, t, x) => [AL u t, I64 x]) (fun (u, t, x) => (Big u.length) ∧ (BigR t)) (fun (u, t, x) => .tup [I64 (dpM u t x).1, .bool (dpM u t x).2]) (by
  rintro ⟨u, t, x⟩ ⟨hu, ht⟩
  exact DepS_pc u t x hu ht)
@[simp] theorem fm_DepS_id : fm_DepS.id = 45 := rfl
@[simp] theorem fm_DepS_fresh : fm_DepS.fresh = true := rfl
@[simp] theorem fm_DepS_look (u : List Int) (t : List (List Int)) (x : Int) (hu : Big u.length) (ht : BigR t) : fm_DepS.look [AL u t, I64 x] = some (.tup [I64 (dpM u t x).1, .bool (dpM u t x).2]) :=
  lookF_of (X := List Int × List (List Int) × Int) (args := fun (u, t, x) => [AL u t, I64 x]) (pre := fun (u, t, x) => (Big u.length) ∧ (BigR t)) (val := fun (u, t, x) => .tup [I64 (dpM u t x).1, .bool (dpM u t x).2]) (by
  rintro ⟨u, t, x⟩ ⟨u', t', x'⟩ h
  simp at h
  try simp only [and_assoc] at h
  obtain ⟨rfl, rfl, rfl⟩ := h
  rfl) (u, t, x) ⟨hu, ht⟩
attribute [irreducible] fm_DepS
theorem DepI_pc (u : List Int) (t : List (List Int)) (x : Int) (hu : Big u.length) (ht : BigR t) : PC Try.prog 44 [AL u t, I64 x] none true (fun r _ => r = .tup [I64 (dpM u t x).1, .bool (dpM u t x).2]) := by
  have l1 : fm_atI.look [AL u t, .list 1 [.int .i64 x]] = some (.bool (decide (VA u t) && decide (allE [x] u.length))) := fm_atI_look u t [x] hu ht (by unfold Big; simp)
  rw [allE_one] at l1
  refine pcT [fm_atI, fm_powI] fok_44 ?_
  unfold dpM
  cases hb : (decide (VA u t) && inE u.length x)
  · rw [hb] at l1
    simp [fa_44, l1, show List.range 1 = [0] from rfl]
  · have h := hb
    rw [hb] at l1
    simp only [Bool.and_eq_true, decide_eq_true_eq] at h
    obtain ⟨i, rfl, hi⟩ := inE_ex h.2
    have a := h.1
    have f := a.tf
    have h6 := a.lat.six
    have ed := a.dep_eq hi (m := 20) (by omega)
    rw [Int.toNat_natCast, ← ed]
    simp [fa_44, l1, show List.range 1 = [0] from rfl]
    refine loopA (tabK_mono _) 21 (fun k => [(6, I64 k)]) (fun _ => []) (fun k => decide (powM u t i k = 0) = false) (by simp) (by simp) (fun k g hk hP => ?_)
    simp [lb_44_4]
    refine ⟨fun h2 => ?_, fun h2 => ?_⟩
    · simp [f, hi, show (k : Int) ≤ 1000000 by omega, wrap64 (n := (k : Int) + 1) (by omega) (by omega)]
      refine ⟨fun hz => ?_, fun hz => ⟨by omega, hz⟩⟩
      have er : depM u t i 20 = k := firstI_some (by omega) (by simp [hz]) hP
      simp [er]
    · have er := dep_none (u := u) (t := t) (x := i) (m := 20) (fun j hj => hP j (by omega))
      simp [er]
noncomputable def fm_DepI : Fam Try.prog := mkFam (X := List Int × List (List Int) × Int) 44 true (fun (u, t, x) => [AL u t, I64 x]) (fun (u, t, x) => (Big u.length) ∧ (BigR t)) (fun (u, t, x) => .tup [I64 (dpM u t x).1, .bool (dpM u t x).2]) (by
  rintro ⟨u, t, x⟩ ⟨hu, ht⟩
  exact DepI_pc u t x hu ht)
@[simp] theorem fm_DepI_id : fm_DepI.id = 44 := rfl
@[simp] theorem fm_DepI_fresh : fm_DepI.fresh = true := rfl
@[simp] theorem fm_DepI_look (u : List Int) (t : List (List Int)) (x : Int) (hu : Big u.length) (ht : BigR t) : fm_DepI.look [AL u t, I64 x] = some (.tup [I64 (dpM u t x).1, .bool (dpM u t x).2]) :=
  lookF_of (X := List Int × List (List Int) × Int) (args := fun (u, t, x) => [AL u t, I64 x]) (pre := fun (u, t, x) => (Big u.length) ∧ (BigR t)) (val := fun (u, t, x) => .tup [I64 (dpM u t x).1, .bool (dpM u t x).2]) (by
  rintro ⟨u, t, x⟩ ⟨u', t', x'⟩ h
  simp at h
  try simp only [and_assoc] at h
  obtain ⟨rfl, rfl, rfl⟩ := h
  rfl) (u, t, x) ⟨hu, ht⟩
attribute [irreducible] fm_DepI
theorem dp_law {u : List Int} {t : List (List Int)} {x : Nat} (a : VA u t) (hx : x < u.length) :
    (dpM u t x).2 = (genN u t (2 ^ x)).testBit 0 ∧ ((dpM u t x).2 = true → ∃ k : Nat, (dpM u t x).1 = k ∧ k ≤ 20 ∧ pw u t x k = 0 ∧ (k = 0 ∨ ∃ m, k = m + 1 ∧ pw u t x m ≠ 0)) := by
  have h6 := a.lat.six
  have h := a.dep_bit hx (Nat.le_refl _)
  have e : dpM u t x = if 0 ≤ depM u t x u.length then (depM u t x u.length, true) else (0, false) := by
    unfold dpM
    rw [if_pos (by simp [a, inE_nat hx]), Int.toNat_natCast]
  rw [gen_one a hx a.lat.pos, e]
  by_cases c : 0 ≤ depM u t x u.length
  · rw [if_pos c, h.1 c]
    refine ⟨rfl, fun _ => ?_⟩
    obtain ⟨k, hk⟩ := Int.eq_ofNat_of_zero_le c
    have q := firstI_least hk
    refine ⟨k, hk, by omega, ?_, ?_⟩
    · have := of_decide_eq_true q.2.1
      show (powM u t x k).toNat = 0
      rw [this]; rfl
    · rcases k with _ | m
      · exact .inl rfl
      · refine .inr ⟨m, rfl, fun hz => ?_⟩
        have := q.2.2 m (by omega)
        rw [a.pw_int hx, hz] at this
        simp at this
  · rw [if_neg c]
    refine ⟨?_, fun h => by cases h⟩
    cases hb : tb u (pw u t x u.length) 0
    · rfl
    · exact absurd (h.2 hb) c
set_option maxHeartbeats 2000000 in
theorem FnDepthOf_pc (c : List Int) (hl : Hu c.length) (hc : Byt c) : PC Try.prog 8 [BL c] none true (fun r _ => r = .bool true) := by
  have hl' := hl.le
  refine pcT [fm_drDep, fm_DepI, fm_DepS, fm_NotI, fm_FiByI, fm_PowerI, fm_bitL, fm_powerL] fok_8 ?_
  rcases Nat.lt_or_ge 1048576 c.length with q | q
  · simp [fa_8, show ((1048576 : Int) < c.length) by omega]
  · have hbig : Big c.length := by unfold Big; omega
    have l1 := fm_drDep_look c hc hbig
    obtain ⟨g, _⟩ := saM_few (rdB_ok hc) (p := 0) (by omega)
    have hu := g.big
    have ht := g.bigR
    generalize saM (rdB c) 0 = A at *
    obtain ⟨⟨u, t⟩, p1⟩ := A
    dsimp only at *
    generalize elM (rdB c) p1 u.length = x at *
    have hul := hu.le
    simp [fa_8, show ¬ ((1048576 : Int) < c.length) by omega, show ((c.length : Int) ≤ 1048576) by omega, l1, hu, ht]
    refine cutW (tabK_mono _) [(42, .bool (decide (NoM u t x < 0)))] (by simp [hu, ht]) ?_
    simp [hu, ht]
    refine ⟨fun h => ?_, fun h => ?_⟩
    · simp [gops]
    obtain ⟨i, rfl, hi, a⟩ := NoM_ex (u := u) (t := t) (x := x) (by omega)
    have v := a.lat
    have h6 := v.six
    have h64 := p2le h6
    have hlt : 2 ^ i < 2 ^ u.length := Nat.pow_lt_pow_right (by omega) hi
    have D := dp_law a hi
    have m1 := fm_FiByI_look u t (2 ^ i : Nat) hu ht
    have m2 := fm_powerL_look (i : Int) (by omega) (by omega)
    rw [fbM_lt hlt a, ← p2i] at m1
    rw [Int.toNat_natCast] at m2
    have hgl := (gen_fi a (s := 2 ^ i)).lt
    generalize genN u t (2 ^ i) = o at *
    generalize dpM u t i = d at *
    obtain ⟨d, ok⟩ := d
    dsimp only at D ⊢
    refine cutWc (tabK_mono _) [(2, .bool true)] (by
      cases ok with
      | false =>
        simp [m1, m2, ← D.1, show (o : Int) < 64 by omega]
      | true =>
        obtain ⟨k, rfl, hk, hz, hm⟩ := D.2 rfl
        have m3 := fm_PowerI_look u t i k hu ht
        rw [PoM_nat a hi hk, a.pw_int hi, hz] at m3
        rcases hm with rfl | ⟨m, rfl, hne⟩
        · have m3 : fm_PowerI.look [AL u t, I64 i, I64 0] = some (I64 0) := m3
          simp [m1, m2, m3, ← D.1, show (o : Int) < 64 by omega]
        · have m3 : fm_PowerI.look [AL u t, I64 i, I64 ((m : Int) + 1)] = some (I64 0) := m3
          have m4 := fm_PowerI_look u t i m hu ht
          rw [PoM_nat a hi (by omega), a.pw_int hi] at m4
          generalize pw u t i m = w0 at hne m4
          have w : IntKind.i64.wrap (m : Int) = m := wrap64 (by omega) (by omega)
          have hz1 : ¬ ((m : Int) + 1 = 0) := by omega
          simp [m1, m2, m3, m4, ← D.1, hne, w, hz1, show (o : Int) < 64 by omega]) ?_
    simp
end Go.PS
end
