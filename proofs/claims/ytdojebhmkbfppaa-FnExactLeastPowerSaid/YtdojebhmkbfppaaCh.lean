/- Contracts of values of terms. -/
import Derived.Test.YtdojebhmkbfppaaCg
set_option maxRecDepth 100000
set_option linter.unusedVariables false
set_option linter.unusedSimpArgs false
namespace Go.PS
open Go.Proofs

theorem arity_le {x : Int} {a : Nat} (h : arity x = some a) : a ≤ 2 := by
  rw [arity_eq] at h
  split at h
  · injection h; omega
  · split at h
    · injection h; omega
    · split at h
      · injection h; omega
      · cases h

theorem validTermI_pc (t : List Int) (hl : Big t.length) : PC Try.prog 67 [IL t] none true (fun r _ => r = .bool (decide (validT t))) := by
  have hl := hl.le
  refine pcT [fm_takesI] fok_67 ?_
  simp [fa_67]
  refine loopX (tabK_mono _) t.length (fun i k => [(3, I64 ((k : Nat) : Int)), (9, I64 i)]) (fun _ _ => []) (fun i k => (sk t 1 = some [] ↔ sk (t.drop i) k = some []) ∧ k ≤ i + 1) 1 (by simp) (by simp) (by simp) (fun i k g hi hP => ?_)
  simp [lb_67_3, wrap_succ hi hl]
  refine ⟨fun h => ⟨h, ?_⟩, fun h => ?_⟩
  · refine cutW (tabK_mono _) [(20, .bool (decide (k = 0) || decide (arI (gi t i) < 0)))] (by simp; grind) ?_
    have h2 : arI (gi t i) ≤ 2 ∧ -1 ≤ arI (gi t i) := by
      unfold arI; split
      · rename_i a ha; have := arity_le ha; omega
      · omega
    rw [gi_drop h] at hP
    have ew : IntKind.i64.wrap ((k : Int) + IntKind.i64.wrap (arI (gi t i) - 1)) = (k : Int) + (arI (gi t i) - 1) := by
      rw [wrap64 (n := arI (gi t i) - 1) (by omega) (by omega), wrap64 (by omega) (by omega)]
    simp [ew, wrap_succ hi hl]
    refine ⟨fun h3 hv => ?_, fun h3 h4 => ⟨h, k - 1 + (arI (gi t i)).toNat, by omega, ?_, ?_⟩⟩
    · have hv := hP.1.1 hv.2
      rcases h3 with rfl | h3
      · rw [sk_zero] at hv; cases hv
      · cases k with
        | zero => rw [sk_zero] at hv; cases hv
        | succ k =>
          simp only [sk] at hv
          unfold arI at h3
          split at hv
          · cases hv
          · rename_i a ha
            rw [ha] at h3
            simp only [] at h3
            omega
    · rw [hP.1]
      obtain ⟨k, rfl⟩ : ∃ k', k = k' + 1 := ⟨k - 1, by omega⟩
      simp only [sk]
      cases ha : arity (gi t i) with
      | none => unfold arI at h4; rw [ha] at h4; simp only [] at h4; omega
      | some a =>
        unfold arI
        rw [ha]
        simp
    · omega
  · rw [List.drop_of_length_le h] at hP
    refine cutW (tabK_mono _) [(2, .bool (decide (validT t)))] ?_ (by simp)
    have e : validT t ↔ t.length ≤ 15 ∧ k = 0 := by
      unfold validT
      rw [hP.1]
      refine and_congr_right (fun _ => ?_)
      cases k with
      | zero => simp [sk_zero]
      | succ k => simp [sk]
    simp only [e]
    simp
    grind
noncomputable def fm_validTermI : Fam Try.prog := mkFam (X := List Int) 67 true (fun t => [IL t]) (fun t => (Big t.length)) (fun t => .bool (decide (validT t))) (by
  rintro t hl
  exact validTermI_pc t hl)
@[simp] theorem fm_validTermI_id : fm_validTermI.id = 67 := rfl
@[simp] theorem fm_validTermI_fresh : fm_validTermI.fresh = true := rfl
@[simp] theorem fm_validTermI_look (t : List Int) (hl : Big t.length) : fm_validTermI.look [IL t] = some (.bool (decide (validT t))) :=
  lookF_of (X := List Int) (args := fun t => [IL t]) (pre := fun t => (Big t.length)) (val := fun t => .bool (decide (validT t))) (by
  intro t t' h
  simp at h
  subst h
  rfl) t hl
attribute [irreducible] fm_validTermI

-- the value of the first term

section
variable {u : List Int} {t : List (List Int)} {nm : List Int}
theorem evM_len : ∀ (n : Nat) (l : List Int), (evM u t nm n l).2.length ≤ l.length
  | 0, l => Nat.le_refl _
  | n + 1, [] => Nat.le_refl _
  | n + 1, x :: l => by
    have h1 := evM_len n l
    have h2 := evM_len n (evM u t nm n l).2
    unfold evM
    repeat' split
    all_goals simp; try omega
theorem evM_fuel : ∀ (n m : Nat) (l : List Int), l.length ≤ n → l.length ≤ m → evM u t nm n l = evM u t nm m l
  | 0, m, [], _, _ => by cases m <;> rfl
  | n + 1, m, [], _, _ => by cases m <;> rfl
  | n + 1, m + 1, x :: l, hn, hm => by
    simp only [List.length_cons] at hn hm
    have e1 := evM_fuel n m l (by omega) (by omega)
    have h1 := evM_len (u := u) (t := t) (nm := nm) m l
    have e2 := evM_fuel n m (evM u t nm m l).2 (by omega) (by omega)
    simp only [evM]
    rw [e1, e2]
  | 0, m, x :: l, hn, _ => by simp at hn
  | n + 1, 0, x :: l, _, hm => by simp at hm
end

/-- The value of the first term, and what is behind it. -/
def ev1 (u : List Int) (t : List (List Int)) (nm l : List Int) : Int × List Int := evM u t nm l.length l

theorem ev1_cons {u : List Int} {t : List (List Int)} {nm : List Int} {x : Int} {l : List Int} : ev1 u t nm (x :: l) =
    if x < 3 then (gi nm x.toNat, l) else if x = 10 then (0, l) else if x = 11 then (u.length - 1, l)
    else if x = 12 then (implyM u t (ev1 u t nm l).1.toNat 0, (ev1 u t nm l).2)
    else (opM u t x (ev1 u t nm l).1.toNat (ev1 u t nm (ev1 u t nm l).2).1.toNat, (ev1 u t nm (ev1 u t nm l).2).2) := by
  have h := evM_len (u := u) (t := t) (nm := nm) l.length l
  unfold ev1
  rw [evM_fuel (evM u t nm l.length l).2.length l.length _ (Nat.le_refl _) h]
  rfl

/-- Elements for the names. -/
structure NmOk (nm : List Int) (n : Nat) : Prop where
  three : nm.length = 3
  all : allE nm n

theorem NmOk.get {nm : List Int} {n : Nat} (h : NmOk nm n) {i : Nat} (hi : i < 3) : 0 ≤ gi nm i ∧ gi nm i < n := h.all _ (gi_mem (by rw [h.three]; exact hi))

theorem sk_cons {x : Int} {l r : List Int} (h : sk (x :: l) 1 = some r) : (isLeaf x ∧ r = l) ∨ (x = 12 ∧ sk l 1 = some r) ∨ (isBin x ∧ ∃ r1, sk l 1 = some r1 ∧ sk r1 1 = some r) := by
  have h' : (match arity x with | none => none | some a => sk l (0 + a)) = some r := h
  rw [arity_eq] at h'
  by_cases h1 : x = 12
  · rw [if_pos h1] at h'
    exact .inr (.inl ⟨h1, h'⟩)
  · rw [if_neg h1] at h'
    by_cases h2 : isBin x
    · rw [if_pos h2] at h'
      have h' : sk l (1 + 1) = some r := h'
      rw [sk_add] at h'
      cases hs : sk l 1 with
      | none => rw [hs] at h'; cases h'
      | some r1 => rw [hs] at h'; exact .inr (.inr ⟨h2, r1, rfl, h'⟩)
    · rw [if_neg h2] at h'
      by_cases h3 : isLeaf x
      · rw [if_pos h3] at h'
        have h' : sk l 0 = some r := h'
        rw [sk_zero] at h'
        injection h' with h'
        exact .inl ⟨h3, h'.symm⟩
      · rw [if_neg h3] at h'; cases h'

theorem opM_rng {u : List Int} {t : List (List Int)} (f : TF u t) {x : Int} {p q : Nat} (hp : p < u.length) (hq : q < u.length) : 0 ≤ opM u t x p q ∧ opM u t x p q < u.length := by
  unfold opM
  repeat' split
  · exact f.lat.meet_rng hp hq
  · exact f.lat.join_rng hp hq
  · exact ⟨f.nn _ _ hp hq, f.lt _ _ hp hq⟩
  · exact f.lat.imply_rng

/-- A term's value is an element; what is behind it is what is behind the term. -/
theorem ev1_ok {u : List Int} {t : List (List Int)} {nm : List Int} (f : TF u t) (hn : NmOk nm u.length) : ∀ (n : Nat) (l r : List Int), l.length ≤ n → sk l 1 = some r → (0 ≤ (ev1 u t nm l).1 ∧ (ev1 u t nm l).1 < u.length) ∧ (ev1 u t nm l).2 = r
  | n, [], r, _, h => by cases h
  | 0, x :: l, r, hl, h => by simp at hl
  | n + 1, x :: l, r, hl, h => by
    have hp := f.lat.pos
    simp only [List.length_cons] at hl
    rw [ev1_cons]
    rcases sk_cons h with ⟨h1, rfl⟩ | ⟨h1, h2⟩ | ⟨h1, r1, h2, h3⟩
    · by_cases c1 : x < 3
      · rw [if_pos c1]
        exact ⟨hn.get (by omega), rfl⟩
      · rw [if_neg c1]
        by_cases c2 : x = 10
        · rw [if_pos c2]; exact ⟨⟨by simp, by simpa using hp⟩, rfl⟩
        · rw [if_neg c2, if_pos (by unfold isLeaf at h1; omega)]
          exact ⟨⟨by simp; omega, by simp; omega⟩, rfl⟩
    · rw [if_neg (by omega), if_neg (by omega), if_neg (by omega), if_pos h1]
      exact ⟨f.lat.imply_rng, (ev1_ok f hn n l r (by omega) h2).2⟩
    · have i1 := ev1_ok f hn n l r1 (by omega) h2
      have hlt := (sk_suf _ _ _ h2).2 (Nat.le_refl _)
      have i2 := ev1_ok f hn n r1 r (by omega) h3
      have hb : ¬ x < 3 ∧ x ≠ 10 ∧ x ≠ 11 ∧ x ≠ 12 := by unfold isBin at h1; omega
      rw [if_neg hb.1, if_neg hb.2.1, if_neg hb.2.2.1, if_neg hb.2.2.2, i1.2]
      exact ⟨opM_rng f (by omega) (by omega), i2.2⟩

end Go.PS
