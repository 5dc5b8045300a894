/- Contracts: lists of elements for the names, powers, the least power of the reference. -/
import Derived.Test.YtdojebhmkbfppaaMc
import Derived.Test.YtdojebhmkbfppaaGb
set_option maxRecDepth 100000
set_option linter.unusedVariables false
set_option linter.unusedSimpArgs false
namespace Go.PS
open Go.Proofs

theorem powS_pc (u : List Int) (t : List (List Int)) (x k : Int) (f : TF u t) (hx0 : 0 ≤ x) (hx : x.toNat < u.length) (hk0 : 0 ≤ k) (hk : k ≤ 1000000) : PC Try.prog 114 [AL u t, I64 x, I64 k] none true (fun r _ => r = I64 (powM u t x.toNat k.toNat)) := by
  obtain ⟨x, rfl⟩ := Int.eq_ofNat_of_zero_le hx0
  obtain ⟨k, rfl⟩ := Int.eq_ofNat_of_zero_le hk0
  simp at hx
  have h6 := f.lat.six
  refine pcT [] fok_114 ?_
  simp [fa_114, wrap64 (n := (u.length : Int) - 1) (by omega) (by omega)]
  refine loopA (tabK_mono _) k (fun i => [(2, I64 ((k : Int) - i)), (7, I64 (powM u t x i))]) (fun _ => []) (fun _ => True) (by simp [powM]) (by simp) (fun i g hi _ => ?_)
  have hr := powM_rng f hx i
  simp [lb_114_2, f.len, f.rows, hr, hx, show (powM u t x i).toNat < u.length by omega, wrap64 (n := (k : Int) - i - 1) (by omega) (by omega), powM]
  refine ⟨fun h => ⟨by omega, by omega⟩, fun h => by rw [show i = k by omega]⟩
noncomputable def fm_powS : Fam Try.prog := mkFam (X := List Int × List (List Int) × Int × Int) 114 true (fun (u, t, x, k) => [AL u t, I64 x, I64 k]) (fun (u, t, x, k) => (TF u t) ∧ (0 ≤ x) ∧ (x.toNat < u.length) ∧ (0 ≤ k) ∧ (k ≤ 1000000)) (fun (u, t, x, k) => I64 (powM u t x.toNat k.toNat)) (by
  rintro ⟨u, t, x, k⟩ ⟨f, hx0, hx, hk0, hk⟩
  exact powS_pc u t x k f hx0 hx hk0 hk)
@[simp] theorem fm_powS_id : fm_powS.id = 114 := rfl
@[simp] theorem fm_powS_fresh : fm_powS.fresh = true := rfl
@[simp] theorem fm_powS_look (u : List Int) (t : List (List Int)) (x k : Int) (f : TF u t) (hx0 : 0 ≤ x) (hx : x.toNat < u.length) (hk0 : 0 ≤ k) (hk : k ≤ 1000000) : fm_powS.look [AL u t, I64 x, I64 k] = some (I64 (powM u t x.toNat k.toNat)) :=
  lookF_of (X := List Int × List (List Int) × Int × Int) (args := fun (u, t, x, k) => [AL u t, I64 x, I64 k]) (pre := fun (u, t, x, k) => (TF u t) ∧ (0 ≤ x) ∧ (x.toNat < u.length) ∧ (0 ≤ k) ∧ (k ≤ 1000000)) (val := fun (u, t, x, k) => I64 (powM u t x.toNat k.toNat)) (by
  rintro ⟨u, t, x, k⟩ ⟨u', t', x', k'⟩ h
  simp at h
  try simp only [and_assoc] at h
  obtain ⟨rfl, rfl, rfl, rfl⟩ := h
  rfl) (u, t, x, k) ⟨f, hx0, hx, hk0, hk⟩
attribute [irreducible] fm_powS

theorem powI_pc (u : List Int) (t : List (List Int)) (x k : Int) (f : TF u t) (hx0 : 0 ≤ x) (hx : x.toNat < u.length) (hk0 : 0 ≤ k) (hk : k ≤ 1000000) : PC Try.prog 116 [AL u t, I64 x, I64 k] none true (fun r _ => r = I64 (powM u t x.toNat k.toNat)) := by
  obtain ⟨x, rfl⟩ := Int.eq_ofNat_of_zero_le hx0
  obtain ⟨k, rfl⟩ := Int.eq_ofNat_of_zero_le hk0
  simp at hx
  have h6 := f.lat.six
  refine pcT [] fok_116 ?_
  simp [fa_116, wrap64 (n := (u.length : Int) - 1) (by omega) (by omega)]
  refine loopA (tabK_mono _) k (fun i => [(2, I64 ((k : Int) - i)), (7, I64 (powM u t x i))]) (fun _ => []) (fun _ => True) (by simp [powM]) (by simp) (fun i g hi _ => ?_)
  have hr := powM_rng f hx i
  simp [lb_116_2, f.len, f.rows, hr, hx, show (powM u t x i).toNat < u.length by omega, wrap64 (n := (k : Int) - i - 1) (by omega) (by omega), powM]
  refine ⟨fun h => ⟨by omega, by omega⟩, fun h => by rw [show i = k by omega]⟩
noncomputable def fm_powI : Fam Try.prog := mkFam (X := List Int × List (List Int) × Int × Int) 116 true (fun (u, t, x, k) => [AL u t, I64 x, I64 k]) (fun (u, t, x, k) => (TF u t) ∧ (0 ≤ x) ∧ (x.toNat < u.length) ∧ (0 ≤ k) ∧ (k ≤ 1000000)) (fun (u, t, x, k) => I64 (powM u t x.toNat k.toNat)) (by
  rintro ⟨u, t, x, k⟩ ⟨f, hx0, hx, hk0, hk⟩
  exact powI_pc u t x k f hx0 hx hk0 hk)
@[simp] theorem fm_powI_id : fm_powI.id = 116 := rfl
@[simp] theorem fm_powI_fresh : fm_powI.fresh = true := rfl
@[simp] theorem fm_powI_look (u : List Int) (t : List (List Int)) (x k : Int) (f : TF u t) (hx0 : 0 ≤ x) (hx : x.toNat < u.length) (hk0 : 0 ≤ k) (hk : k ≤ 1000000) : fm_powI.look [AL u t, I64 x, I64 k] = some (I64 (powM u t x.toNat k.toNat)) :=
  lookF_of (X := List Int × List (List Int) × Int × Int) (args := fun (u, t, x, k) => [AL u t, I64 x, I64 k]) (pre := fun (u, t, x, k) => (TF u t) ∧ (0 ≤ x) ∧ (x.toNat < u.length) ∧ (0 ≤ k) ∧ (k ≤ 1000000)) (val := fun (u, t, x, k) => I64 (powM u t x.toNat k.toNat)) (by
  rintro ⟨u, t, x, k⟩ ⟨u', t', x', k'⟩ h
  simp at h
  try simp only [and_assoc] at h
  obtain ⟨rfl, rfl, rfl, rfl⟩ := h
  rfl) (u, t, x, k) ⟨f, hx0, hx, hk0, hk⟩
attribute [irreducible] fm_powI

theorem assignments_pc (n : Int) (h0 : 0 ≤ n) (h6 : n ≤ 6) : PC Try.prog 101 [I64 n] none false (fun r _ => r = RL (asgK n.toNat 3)) := by
  obtain ⟨n, rfl⟩ := Int.eq_ofNat_of_zero_le h0
  have h6 : n ≤ 6 := by omega
  refine pcT [] fok_101 ?_
  simp [fa_101]
  refine loopA (tabK_mono _) 3 (fun i => [(3, RL (asgK n i)), (4, I64 i)]) (fun _ => []) (fun _ => True) (by simp [asgK, rowsD, ints]) (by simp) (fun i g hi _ => ?_)
  simp [lb_101_3, wrap_succ hi (by omega)]
  refine ⟨fun h => ?_, fun h => by rw [show i = 3 by omega]⟩
  have hlen : (asgK n i).length ≤ 36 := by
    rw [asgK_length]
    have : i = 0 ∨ i = 1 ∨ i = 2 := by omega
    rcases this with rfl | rfl | rfl
    · simp
    · simp; omega
    · have := Nat.pow_le_pow_left h6 2; omega
  have hrow : ∀ j, j < (asgK n i).length → (gr (asgK n i) j).length = i := fun j hj => asgK_row n i _ (by simp [gr, List.getElem?_eq_getElem hj])
  have hnx : asgK n (i + 1) = nxt n (asgK n i) := rfl
  generalize asgK n i = o at *
  refine loopX (tabK_mono _) o.length (fun j γ => [(5, .arr 112 γ), (6, I64 j)]) (fun j γ => [⟨112, γ, .arr 1 (orowsD (nxt n (o.take j)))⟩]) (fun _ _ => True) g (by simp) (by simp [nxt, orowsD]) trivial (fun j γ g2 hj _ => ?_)
  simp [lb_101_7, wrap_succ hj (by omega)]
  refine ⟨fun h2 => ?_, fun h2 => ?_⟩
  · refine loopX (tabK_mono _) n (fun x γ => [(5, .arr 112 γ), (7, I64 x)]) (fun x γ => [⟨112, γ, .arr 1 (orowsD (nxt n (o.take j) ++ (List.range x).map fun (z : Nat) => gr o j ++ [(z : Int)]))⟩]) (fun _ _ => True) γ (by simp) (by simp) trivial (fun x γ g3 hx _ => ?_)
    simp [lb_101_10, wrap_succ hx (by omega)]
    refine ⟨fun h3 => ?_, fun h3 => ?_⟩
    · have e1 := hrow j h2
      have e2 : j * n ≤ 36 * 6 := Nat.mul_le_mul (by omega) h6
      have e3 : (nxt n (List.take j o)).length = j * n := by rw [nxt_length, List.length_take, Nat.min_eq_left hj]
      have e4 : big = 1048576 * 1048576 := rfl
      refine ⟨h2, by omega, by omega, by omega, h3, by rw [List.range_succ, List.map_append]; rfl⟩
    · obtain rfl : x = n := by omega
      rw [← nxt_take h2]
      exact ⟨h2, γ, ⟨rfl, wrap_succ hj (by omega)⟩, rfl, rfl⟩
  · obtain rfl : j = o.length := by omega
    rw [List.take_length]
    exact ⟨by omega, hnx.symm, wrap_succ hi (by omega)⟩
noncomputable def fm_assignments : Fam Try.prog := mkFam (X := Int) 101 false (fun n => [I64 n]) (fun n => (0 ≤ n) ∧ (n ≤ 6)) (fun n => RL (asgK n.toNat 3)) (by
  rintro n ⟨h0, h6⟩
  exact assignments_pc n h0 h6)
@[simp] theorem fm_assignments_id : fm_assignments.id = 101 := rfl
@[simp] theorem fm_assignments_fresh : fm_assignments.fresh = false := rfl
@[simp] theorem fm_assignments_look (n : Int) (h0 : 0 ≤ n) (h6 : n ≤ 6) : fm_assignments.look [I64 n] = some (RL (asgK n.toNat 3)) :=
  lookF_of (X := Int) (args := fun n => [I64 n]) (pre := fun n => (0 ≤ n) ∧ (n ≤ 6)) (val := fun n => RL (asgK n.toNat 3)) (by
  intro n n' h
  simp at h
  subst h
  rfl) n ⟨h0, h6⟩
attribute [irreducible] fm_assignments

theorem all_gr {A : List (List Int)} {p : List Int → Bool} : A.all p = true ↔ ∀ j, j < A.length → p (gr A j) = true := by
  rw [List.all_eq_true]
  constructor
  · intro h j hj
    exact h _ (by simp [gr, List.getElem?_eq_getElem hj])
  · intro h x hx
    obtain ⟨j, hj, rfl⟩ := List.getElem_of_mem hx
    have := h j hj
    simpa [gr, List.getElem?_eq_getElem hj] using this

theorem okP_up {u : List Int} {t : List (List Int)} (a : VA u t) {p q nm : List Int} (hp : validT p) (hq : validT q) (hn : NmOk nm u.length) {k : Nat} (h : okP u t p q k nm = true) : ∀ i, okP u t p q (k + i) nm = true
  | 0 => h
  | i + 1 => okP_mono a hp hq hn (okP_up a hp hq hn h i)

theorem leastS_pc (u : List Int) (t : List (List Int)) (p q : List Int) (hu : Big u.length) (ht : BigR t) (hp : Big p.length) (hq : Big q.length) : PC Try.prog 52 [AL u t, IL p, IL q] none true (fun r _ => r = .tup [I64 (lpM u t p q).1, .bool (lpM u t p q).2]) := by
  have hul := hu.le
  refine pcT [fm_validAlgebraS, fm_validTermS, fm_assignments, fm_powS, fm_valueS, fm_belowS] fok_52 ?_
  simp [fa_52]
  refine cutW (tabK_mono _) [(25, .bool (!(decide (VA u t) && decide (validT p) && decide (validT q))))] (by simp [hu, ht, hp, hq]; grind) ?_
  cases hb : (decide (VA u t) && decide (validT p) && decide (validT q))
  · simp [lpM, hb]
  simp only [Bool.and_eq_true, decide_eq_true_eq] at hb
  obtain ⟨⟨a, vp⟩, vq⟩ := hb
  have f := a.tf
  have h6 := f.lat.six
  simp [h6, show (u.length : Int) ≤ 6 by omega]
  have hA : ∀ j, j < (asgK u.length 3).length → NmOk (gr (asgK u.length 3) j) u.length := fun j hj => asg3_ok (by simp [gr, List.getElem?_eq_getElem hj])
  have hAl : (asgK u.length 3).length ≤ 216 := by
    rw [asgK_length]
    exact Nat.pow_le_pow_left h6 3
  have elp : lpI u t p q = firstI 21 fun k => (asgK u.length 3).all (okP u t p q k) := rfl
  have ee : lpM u t p q = if 0 ≤ lpI u t p q then (lpI u t p q, true) else (0, false) := by simp [lpM, a, vp, vq]
  rw [ee, elp]
  clear ee elp
  have hall : ∀ k, (asgK u.length 3).all (okP u t p q k) = true ↔ ∀ j, j < (asgK u.length 3).length → okP u t p q k (gr (asgK u.length 3) j) = true := fun k => all_gr
  generalize asgK u.length 3 = A at *
  refine loopX (tabK_mono _) A.length (fun j m => [(9, I64 (m : Nat)), (10, I64 j)]) (fun _ _ => []) (fun j m => m ≤ 20 ∧ (∀ z, z < j → okP u t p q m (gr A z) = true) ∧ ∀ m', m' < m → A.all (okP u t p q m') = false) (0 : Nat) (by simp) (by simp) (by simp) (fun j m g hj hP => ?_)
  obtain ⟨hm, hP1, hP2⟩ := hP
  rcases Nat.lt_or_ge j A.length with h | h
  · have nm := hA j h
    have ho1 := (ev1_ok f nm _ _ _ (Nat.le_refl _) vp.2).1
    have ho2 := (ev1_ok f nm _ _ _ (Nat.le_refl _) vq.2).1
    have eo : ∀ k, okP u t p q k (gr A j) = tb u (powM u t (ev1 u t (gr A j) p).1.toNat k).toNat (ev1 u t (gr A j) q).1.toNat := fun _ => rfl
    simp [lb_52_6, wrap_succ hj (by omega), h, f, nm, hp, hq, vp.some, vq.some]
    generalize hx : (ev1 u t (gr A j) p).1 = x at *
    generalize hy : (ev1 u t (gr A j) q).1 = y at *
    refine loopA (tabK_mono _) (20 - m) (fun i => [(9, I64 ((m + i : Nat)))]) (fun _ => []) (fun i => okP u t p q (m + i) (gr A j) = false) (by simp) (by simp) (fun i g hi hQ => ?_)
    have hr := powM_rng f (x := x.toNat) (by omega) (m + i)
    have s := f.lat.sm
    simp [lb_52_10, f, s, hr, ho1, ho2, show x.toNat < u.length by omega, show y.toNat < u.length by omega, show (0 : Int) ≤ (m : Int) + i by omega, show (m : Int) + i ≤ 1000000 by omega, show ((m : Int) + i).toNat = m + i by omega, show (powM u t x.toNat (m + i)).toNat < u.length by omega, ← eo, wrap64 (n := (m : Int) + i + 1) (by omega) (by omega)]
    have hmem : gr A j ∈ A := by simp [gr, List.getElem?_eq_getElem h]
    have hbad : ∀ m', m' < m + i → A.all (okP u t p q m') = false := fun m' hm' => by
      rcases Nat.lt_or_ge m' m with c | c
      · exact hP2 m' c
      · have := hQ (m' - m) (by omega)
        rw [show m + (m' - m) = m' by omega] at this
        rw [List.all_eq_false]
        exact ⟨_, hmem, by simp [this]⟩
    refine ⟨fun h3 => ⟨fun h4 => ?_, fun h4 => ⟨by omega, by omega, h3⟩⟩, fun h3 => ⟨h, m + i, ⟨by simp, wrap_succ hj (by omega)⟩, by omega, fun z hz => ?_, fun m' hm' => by simpa using hbad m' hm'⟩⟩
    · have hno : (firstI 21 fun k => A.all (okP u t p q k)) = -1 := firstI_none fun k hk => by
        rcases Nat.lt_or_ge k (m + i) with c | c
        · exact hbad k c
        · obtain rfl : k = m + i := by omega
          rw [List.all_eq_false]
          exact ⟨_, hmem, by simp [h3]⟩
      rw [hno]
      simp
    · rcases Nat.lt_or_ge z j with c | c
      · exact okP_up a vp vq (hA z (by omega)) (hP1 z c) i
      · obtain rfl : z = j := by omega
        exact h3
  · obtain rfl : j = A.length := by omega
    simp [lb_52_6]
    rw [firstI_some (z := m) (by omega) ((hall m).2 hP1) hP2]
    simp
noncomputable def fm_leastS : Fam Try.prog := mkFam (X := List Int × List (List Int) × List Int × List Int) 52 true (fun (u, t, p, q) => [AL u t, IL p, IL q]) (fun (u, t, p, q) => (Big u.length) ∧ (BigR t) ∧ (Big p.length) ∧ (Big q.length)) (fun (u, t, p, q) => .tup [I64 (lpM u t p q).1, .bool (lpM u t p q).2]) (by
  rintro ⟨u, t, p, q⟩ ⟨hu, ht, hp, hq⟩
  exact leastS_pc u t p q hu ht hp hq)
@[simp] theorem fm_leastS_id : fm_leastS.id = 52 := rfl
@[simp] theorem fm_leastS_fresh : fm_leastS.fresh = true := rfl
@[simp] theorem fm_leastS_look (u : List Int) (t : List (List Int)) (p q : List Int) (hu : Big u.length) (ht : BigR t) (hp : Big p.length) (hq : Big q.length) : fm_leastS.look [AL u t, IL p, IL q] = some (.tup [I64 (lpM u t p q).1, .bool (lpM u t p q).2]) :=
  lookF_of (X := List Int × List (List Int) × List Int × List Int) (args := fun (u, t, p, q) => [AL u t, IL p, IL q]) (pre := fun (u, t, p, q) => (Big u.length) ∧ (BigR t) ∧ (Big p.length) ∧ (Big q.length)) (val := fun (u, t, p, q) => .tup [I64 (lpM u t p q).1, .bool (lpM u t p q).2]) (by
  rintro ⟨u, t, p, q⟩ ⟨u', t', p', q'⟩ h
  simp at h
  try simp only [and_assoc] at h
  obtain ⟨rfl, rfl, rfl, rfl⟩ := h
  rfl) (u, t, p, q) ⟨hu, ht, hp, hq⟩
attribute [irreducible] fm_leastS

end Go.PS
