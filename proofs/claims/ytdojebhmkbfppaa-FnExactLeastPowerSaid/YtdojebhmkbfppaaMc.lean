/- Powers, and lists of elements for the names, in plain Lean. -/
import Derived.Test.YtdojebhmkbfppaaCi
set_option linter.unusedVariables false
set_option linter.unusedSimpArgs false
namespace Go.PS

/-- All lists with one more element. -/
def nxt (n : Nat) (o : List (List Int)) : List (List Int) := o.flatMap fun l => (List.range n).map fun (x : Nat) => l ++ [(x : Int)]
def asgK (n : Nat) : Nat → List (List Int)
  | 0 => [[]]
  | k + 1 => nxt n (asgK n k)

theorem nxt_length (n : Nat) (o : List (List Int)) : (nxt n o).length = o.length * n := by
  unfold nxt
  induction o with
  | nil => simp
  | cons a o ih => simp [ih, Nat.add_mul, Nat.add_comm]
theorem asgK_length (n : Nat) : ∀ k, (asgK n k).length = n ^ k
  | 0 => rfl
  | k + 1 => by rw [asgK, nxt_length, asgK_length n k, Nat.pow_succ]
theorem nxt_take {n j : Nat} {o : List (List Int)} (h : j < o.length) : nxt n (o.take (j + 1)) = nxt n (o.take j) ++ (List.range n).map fun (x : Nat) => gr o j ++ [(x : Int)] := by
  unfold nxt
  rw [List.take_succ_eq_append_getElem h, List.flatMap_append]
  simp [gr, List.getElem?_eq_getElem h]
theorem mem_nxt {n : Nat} {o : List (List Int)} {l : List Int} : l ∈ nxt n o ↔ ∃ a, a ∈ o ∧ ∃ x : Nat, x < n ∧ l = a ++ [(x : Int)] := by
  unfold nxt
  simp only [List.mem_flatMap, List.mem_map, List.mem_range]
  constructor
  · rintro ⟨a, ha, x, hx, rfl⟩; exact ⟨a, ha, x, hx, rfl⟩
  · rintro ⟨a, ha, x, hx, rfl⟩; exact ⟨a, ha, x, hx, rfl⟩
theorem mem_asg3 {n : Nat} {l : List Int} : l ∈ asgK n 3 ↔ ∃ x y z : Nat, x < n ∧ y < n ∧ z < n ∧ l = [(x : Int), (y : Int), (z : Int)] := by
  simp only [asgK, mem_nxt]
  constructor
  · rintro ⟨a, ⟨b, ⟨c, hc, x, hx, rfl⟩, y, hy, rfl⟩, z, hz, rfl⟩
    simp at hc; subst hc
    exact ⟨x, y, z, hx, hy, hz, rfl⟩
  · rintro ⟨x, y, z, hx, hy, hz, rfl⟩
    exact ⟨_, ⟨_, ⟨[], by simp, x, hx, rfl⟩, y, hy, rfl⟩, z, hz, rfl⟩
theorem asgK_row (n : Nat) : ∀ k, ∀ l ∈ asgK n k, l.length = k
  | 0, l, h => by simp [asgK] at h; rw [h]; rfl
  | k + 1, l, h => by
    obtain ⟨a, ha, x, _, rfl⟩ := mem_nxt.1 h
    rw [List.length_append, asgK_row n k a ha]; rfl
theorem asg3_ok {n : Nat} {l : List Int} (h : l ∈ asgK n 3) : NmOk l n := by
  obtain ⟨x, y, z, hx, hy, hz, rfl⟩ := mem_asg3.1 h
  refine ⟨rfl, fun v hv => ?_⟩
  simp at hv
  omega

/-- The product of an element with itself. -/
def powM (u : List Int) (t : List (List Int)) (x : Nat) : Nat → Int
  | 0 => (u.length : Int) - 1
  | k + 1 => tm t (powM u t x k).toNat x
theorem powM_rng {u : List Int} {t : List (List Int)} (f : TF u t) {x : Nat} (hx : x < u.length) : ∀ k, 0 ≤ powM u t x k ∧ powM u t x k < u.length
  | 0 => by have := f.lat.pos; simp only [powM]; omega
  | k + 1 => by
    have ih := powM_rng f hx k
    simp only [powM]
    exact ⟨f.nn _ _ (by omega) hx, f.lt _ _ (by omega) hx⟩

/-- What a join is. -/
theorem VL.join_spec {u : List Int} (v : VL u) {x y : Nat} (hx : x < u.length) (hy : y < u.length) : isJ u x y (joinM u x y).toNat = true ∧ (joinM u x y).toNat < u.length := by
  have h := (v.mj x hx y hy).2
  rcases firstI_range (n := u.length) (p := isJ u x y) with h1 | ⟨z, hz, hp, h1⟩
  · rw [joinM, h1] at h; omega
  · rw [joinM, h1, Int.toNat_natCast]; exact ⟨hp, hz⟩
theorem isJ_ub {u : List Int} {x y z : Nat} (h : isJ u x y z = true) : tb u x z = true ∧ tb u y z = true := by
  simp only [isJ, Bool.and_eq_true] at h; exact h.1
theorem VA.le {u : List Int} {t : List (List Int)} (a : VA u t) {x y : Nat} (hx : x < u.length) (hy : y < u.length) : tb u (tn t x y) x = true := by
  have v := a.lat
  have hp := v.pos
  have htop : u.length - 1 < u.length := by omega
  have j1 := v.join_spec hy htop
  have e1 : (joinM u y (u.length - 1)).toNat = u.length - 1 := by
    have b := isJ_ub j1.1
    have hz := j1.2
    generalize (joinM u y (u.length - 1)).toNat = z at *
    by_cases h : z = u.length - 1
    · exact h
    · have := v.ord.anti z hz (u.length - 1) htop h (v.ord.row z hz).2.2
      rw [b.2] at this; cases this
  have d := a.dist x hx y hy (u.length - 1) htop
  rw [e1, (a.top x hx).1] at d
  have e2 : tn t x (u.length - 1) = x := by rw [tn, (a.top x hx).1]; simp
  rw [e2] at d
  have hxy := a.tf.ltN x y hx hy
  have j2 := v.join_spec hxy hx
  rw [← d, Int.toNat_natCast] at j2
  exact (isJ_ub j2.1).1

/-- Does the power of one term imply the other term with these elements? -/
def okP (u : List Int) (t : List (List Int)) (p q : List Int) (k : Nat) (nm : List Int) : Bool := tb u (powM u t (ev1 u t nm p).1.toNat k).toNat (ev1 u t nm q).1.toNat
theorem okP_mono {u : List Int} {t : List (List Int)} (a : VA u t) {p q nm : List Int} (hp : validT p) (hq : validT q) (hn : NmOk nm u.length) {k : Nat} (h : okP u t p q k nm = true) : okP u t p q (k + 1) nm = true := by
  have f := a.tf
  have h1 := (ev1_ok f hn _ _ _ (Nat.le_refl _) hp.2).1
  have h2 := (ev1_ok f hn _ _ _ (Nat.le_refl _) hq.2).1
  unfold okP at *
  generalize (ev1 u t nm p).1 = x at *
  generalize (ev1 u t nm q).1 = y at *
  have hpw := powM_rng f (x := x.toNat) (by omega) k
  have hpw2 := powM_rng f (x := x.toNat) (by omega) (k + 1)
  have hle := a.le (x := (powM u t x.toNat k).toNat) (y := x.toNat) (by omega) (by omega)
  exact a.lat.ord.trans _ (by omega) (powM u t x.toNat k).toNat (by omega) _ (by omega) hle h

/-- The least power with which one term implies the other one. -/
noncomputable def lpI (u : List Int) (t : List (List Int)) (p q : List Int) : Int := firstI 21 fun k => (asgK u.length 3).all (okP u t p q k)
noncomputable def lpM (u : List Int) (t : List (List Int)) (p q : List Int) : Int × Bool := if decide (VA u t) && decide (validT p) && decide (validT q) && decide (0 ≤ lpI u t p q) then (lpI u t p q, true) else (0, false)

end Go.PS
