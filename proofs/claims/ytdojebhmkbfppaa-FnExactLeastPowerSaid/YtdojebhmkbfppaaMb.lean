/- Algebras and terms: what the functions compute, in plain Lean. -/
import Derived.Test.YtdojebhmkbfppaaMa
set_option linter.unusedVariables false
set_option linter.unusedSimpArgs false
namespace Go.PS

/-- A product by the table. -/
def tm (t : List (List Int)) (x y : Nat) : Int := gi (gr t x) y
abbrev tn (t : List (List Int)) (x y : Nat) : Nat := (tm t x y).toNat

structure VA (u : List Int) (t : List (List Int)) : Prop where
  lat : VL u
  len : t.length = u.length
  rows : ∀ x, x < u.length → (gr t x).length = u.length
  rng : ∀ x, x < u.length → ∀ y, y < u.length → 0 ≤ tm t x y ∧ tm t x y < u.length
  top : ∀ x, x < u.length → tm t x (u.length - 1) = x ∧ tm t x 0 = 0
  comm : ∀ x, x < u.length → ∀ y, y < u.length → tm t x y = tm t y x
  assoc : ∀ x, x < u.length → ∀ y, y < u.length → ∀ z, z < u.length → tm t (tn t x y) z = tm t x (tn t y z)
  dist : ∀ x, x < u.length → ∀ y, y < u.length → ∀ z, z < u.length → tm t x (joinM u y z).toNat = joinM u (tn t x y) (tn t x z)

noncomputable instance (u : List Int) (t : List (List Int)) : Decidable (VA u t) := Classical.propDecidable _

def impAcc (u : List Int) (t : List (List Int)) (x y i : Nat) : Int := (List.range i).foldl (fun o z => if tb u (tn t x z) y then joinM u o.toNat z else o) 0
def implyM (u : List Int) (t : List (List Int)) (x y : Nat) : Int := impAcc u t x y u.length
theorem impAcc_zero {u : List Int} {t : List (List Int)} {x y : Nat} : impAcc u t x y 0 = 0 := rfl
theorem impAcc_succ {u : List Int} {t : List (List Int)} {x y i : Nat} : impAcc u t x y (i + 1) = if tb u (tn t x i) y then joinM u (impAcc u t x y i).toNat i else impAcc u t x y i := by
  simp [impAcc, List.range_succ, List.foldl_append]

theorem VL.join_rng {u : List Int} (v : VL u) {x y : Nat} (hx : x < u.length) (hy : y < u.length) : 0 ≤ joinM u x y ∧ joinM u x y < u.length := by
  have h := (v.mj x hx y hy).2
  rcases firstI_range (n := u.length) (p := isJ u x y) with h1 | ⟨z, hz, _, h1⟩
  · rw [joinM, h1] at h; omega
  · rw [joinM, h1]; omega
theorem VL.meet_rng {u : List Int} (v : VL u) {x y : Nat} (hx : x < u.length) (hy : y < u.length) : 0 ≤ meetM u x y ∧ meetM u x y < u.length := by
  have h := (v.mj x hx y hy).1
  rcases firstI_range (n := u.length) (p := isM u x y) with h1 | ⟨z, hz, _, h1⟩
  · rw [meetM, h1] at h; omega
  · rw [meetM, h1]; omega
theorem VL.impAcc_rng {u : List Int} {t : List (List Int)} (v : VL u) {x y : Nat} : ∀ i, i ≤ u.length → 0 ≤ impAcc u t x y i ∧ impAcc u t x y i < u.length
  | 0, _ => by have := v.ord.one; rw [impAcc_zero]; omega
  | i + 1, h => by
    have ih := VL.impAcc_rng (t := t) (x := x) (y := y) v i (by omega)
    rw [impAcc_succ]
    split
    · exact v.join_rng (by omega) (by omega)
    · exact ih
theorem VL.imply_rng {u : List Int} {t : List (List Int)} (v : VL u) {x y : Nat} : 0 ≤ implyM u t x y ∧ implyM u t x y < u.length := v.impAcc_rng _ (Nat.le_refl _)

-- terms

def isBin (x : Int) : Prop := x = 13 ∨ x = 14 ∨ x = 15 ∨ x = 16
def isLeaf (x : Int) : Prop := (0 ≤ x ∧ x ≤ 2) ∨ x = 10 ∨ x = 11
instance (x : Int) : Decidable (isBin x) := by unfold isBin; infer_instance
instance (x : Int) : Decidable (isLeaf x) := by unfold isLeaf; infer_instance
def arity (x : Int) : Option Nat := if x = 12 then some 1 else if isBin x then some 2 else if isLeaf x then some 0 else none

/-- What is behind so many terms. -/
def sk : List Int → Nat → Option (List Int)
  | l, 0 => some l
  | [], _ + 1 => none
  | x :: l, k + 1 => match arity x with
    | none => none
    | some a => sk l (k + a)

theorem sk_zero (l : List Int) : sk l 0 = some l := by cases l <;> rfl

theorem sk_add : ∀ (l : List Int) (a b : Nat), sk l (a + b) = (sk l a).bind fun r => sk r b
  | l, 0, b => by simp [sk_zero]
  | [], a + 1, b => by rw [show a + 1 + b = (a + b) + 1 by omega]; simp [sk]
  | x :: l, a + 1, b => by
    rw [show a + 1 + b = (a + b) + 1 by omega]
    simp only [sk]
    split
    · rfl
    · rename_i c _
      rw [show a + b + c = (a + c) + b by omega]
      exact sk_add l (a + c) b

/-- It is a tail. -/
theorem sk_suf : ∀ (l : List Int) (k : Nat) (r : List Int), sk l k = some r → (∃ p, l = p ++ r) ∧ (1 ≤ k → r.length < l.length)
  | l, 0, r, h => by rw [sk_zero] at h; injection h with h; subst h; exact ⟨⟨[], rfl⟩, fun h => by omega⟩
  | [], k + 1, r, h => by simp [sk] at h
  | x :: l, k + 1, r, h => by
    simp only [sk] at h
    split at h
    · cases h
    · rename_i a _
      obtain ⟨⟨p, hp⟩, _⟩ := sk_suf l (k + a) r h
      refine ⟨⟨x :: p, by rw [hp]; rfl⟩, fun _ => ?_⟩
      rw [hp]; simp; omega

theorem sk_drop {l r : List Int} {k : Nat} (h : sk l k = some r) : r = l.drop (l.length - r.length) := by
  obtain ⟨⟨p, hp⟩, _⟩ := sk_suf l k r h
  rw [hp]; simp

/-- The index behind the term that begins at one. -/
def endR (n : Nat) : Option (List Int) → Int
  | some r => n - r.length
  | none => -1
@[simp] theorem endR_some {n : Nat} {r : List Int} : endR n (some r) = n - r.length := rfl
@[simp] theorem endR_none {n : Nat} : endR n none = -1 := rfl
def endM (t : List Int) (i : Int) : Int := if i < 0 ∨ t.length ≤ i then -1 else endR t.length (sk (t.drop i.toNat) 1)

def validT (t : List Int) : Prop := t.length ≤ 15 ∧ sk t 1 = some []
instance (t : List Int) : Decidable (validT t) := by unfold validT; infer_instance

/-- What a binary symbol makes of two elements. -/
def opM (u : List Int) (t : List (List Int)) (x : Int) (p q : Nat) : Int := if x = 13 then meetM u p q else if x = 14 then joinM u p q else if x = 15 then tm t p q else implyM u t p q

/-- The value of the first term, and what is behind it. -/
def evM (u : List Int) (t : List (List Int)) (nm : List Int) : Nat → List Int → Int × List Int
  | 0, l => (0, l)
  | _ + 1, [] => (0, [])
  | n + 1, x :: l =>
    if x < 3 then (gi nm x.toNat, l) else if x = 10 then (0, l) else if x = 11 then (u.length - 1, l)
    else if x = 12 then (implyM u t (evM u t nm n l).1.toNat 0, (evM u t nm n l).2)
    else (opM u t x (evM u t nm n l).1.toNat (evM u t nm n (evM u t nm n l).2).1.toNat, (evM u t nm n (evM u t nm n l).2).2)

end Go.PS
