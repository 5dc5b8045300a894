/- Regions whose order Go leaves open: every order comes to what the text's own order comes to. -/
import Derived.Test.YtdojebhmkbfppaaPsS
set_option linter.unusedVariables false
set_option linter.unusedSimpArgs false
set_option linter.unusedSectionVars false
namespace Go.PS

/-- The last write among the first 'm' of a set. -/
def gF {V : Type} (u : Nat → Option V) (S : Nat → Bool) (v0 : V) : Nat → V
  | 0 => v0
  | m + 1 => if S m = true then (u m).getD (gF u S v0 m) else gF u S v0 m

theorem gF_comm {V : Type} {u : Nat → Option V} {S : Nat → Bool} {v0 : V} {i : Nat} : ∀ m, (∀ j, j < m → u j ≠ none → (S j = true ↔ j < i)) → gF u S v0 m = gF u (fun _ => true) v0 (min m i)
  | 0, _ => by simp [gF]
  | m + 1, h => by
    have ih := gF_comm (v0 := v0) m (fun j hj => h j (by omega))
    have hm := h m (by omega)
    simp only [gF]
    by_cases hmi : m < i
    · have e1 : min (m + 1) i = m + 1 := by omega
      have e2 : min m i = m := by omega
      rw [e1]
      rw [e2] at ih
      simp only [gF]
      rw [ih]
      cases hu : u m with
      | none => simp
      | some v => rw [if_pos ((hm (by rw [hu]; simp)).2 hmi)]; simp
    · have e1 : min (m + 1) i = i := by omega
      have e2 : min m i = i := by omega
      rw [e1]
      rw [e2] at ih
      rw [ih]
      cases hu : u m with
      | none => simp
      | some v =>
        have : S m = false := by
          cases hS : S m with
          | false => rfl
          | true => exact absurd ((hm (by rw [hu]; simp)).1 hS) hmi
        rw [this]; simp

theorem gF_none {V : Type} {u : Nat → Option V} {S S' : Nat → Bool} {v0 : V} {i : Nat} (hS : ∀ j, j ≠ i → S' j = S j) (hi : u i = none) : ∀ m, gF u S' v0 m = gF u S v0 m
  | 0 => rfl
  | m + 1 => by
    have ih := gF_none (V := V) (u := u) (v0 := v0) hS hi m
    simp only [gF, ih]
    by_cases hm : m = i
    · subst hm; rw [hi]; simp
    · rw [hS m hm]

theorem gF_some {V : Type} {u : Nat → Option V} {S' : Nat → Bool} {v0 v : V} {i : Nat} (hi : u i = some v) (hSi : S' i = true) : ∀ m, i < m → (∀ j, i < j → j < m → u j ≠ none → S' j = false) → gF u S' v0 m = v
  | 0, h, _ => by omega
  | m + 1, h, hj => by
    simp only [gF]
    by_cases hm : m = i
    · subst hm; rw [if_pos hSi, hi]; rfl
    · have ih := gF_some (V := V) (v0 := v0) hi hSi m (by omega) (fun j a b => hj j a (by omega))
      rw [ih]
      cases hu : u m with
      | none => simp
      | some x =>
        have := hj m (by omega) (by omega) (by rw [hu]; simp)
        rw [this]; simp

theorem gF_ext {V : Type} {u u' : Nat → Option V} {S : Nat → Bool} {v0 : V} : ∀ m, (∀ j, j < m → u j = u' j) → gF u S v0 m = gF u' S v0 m
  | 0, _ => rfl
  | m + 1, h => by simp only [gF]; rw [gF_ext m (fun j hj => h j (by omega)), h m (by omega)]

abbrev Out1 := Option (D × List Ent × Nat)

def valO : Out1 → D
  | some r => r.1
  | none => .undef

/-- What operation 'm' writes to slot 'x', and to the run's own. -/
def wT (aops : List AOper) (outs : List Out1) (x m : Nat) : Option D :=
  match aops[m]?, outs[m]? with
  | some a, some o => if a.d = some x then some (valO o) else none
  | _, _ => none

def wH (aops : List AOper) (outs : List Out1) (m : Nat) : Option (List Ent × Nat) :=
  match aops[m]?, outs[m]? with
  | some a, some (some r) => if wr a = true then some r.2 else none
  | _, _ => none

def tF (aops : List AOper) (outs : List Out1) (S : Nat → Bool) (τ0 : Nat → D) (m x : Nat) : D := gF (wT aops outs x) S (τ0 x) m
def hF (aops : List AOper) (outs : List Out1) (S : Nat → Bool) (h0 : List Ent × Nat) (m : Nat) : List Ent × Nat := gF (wH aops outs) S h0 m

abbrev all1 : Nat → Bool := fun _ => true

def runG (τ : Nat → D) : Option (Nat × Bool) → Prop
  | none => True
  | some (j, want) => τ j = .bool want

def skipG (τ : Nat → D) : Option (Nat × Bool) → Prop
  | none => False
  | some (j, want) => τ j = .bool (!want) ∨ τ j = .undef

section
variable {C : Ctx} {kb : Nat} {inlK : Nat → List D → List Ent → Nat → (D → List Ent → Nat → Prop) → Prop}

/-- What each operation gives, in the text's own order. -/
def TOk (C : Ctx) (kb : Nat) (inlK : Nat → List D → List Ent → Nat → (D → List Ent → Nat → Prop) → Prop) (aops : List AOper) (outs : List Out1) (τ0 : Nat → D) (h0 : List Ent × Nat) (i : Nat) : Prop :=
  ∀ (a : AOper) (o : Out1), aops[i]? = some a → outs[i]? = some o →
    match o with
    | none => skipG (tF aops outs all1 τ0 i) a.gd
    | some r => runG (tF aops outs all1 τ0 i) a.gd ∧ (∃ t, getT t = tF aops outs all1 τ0 i ∧ opC C kb inlK a ⟨t, (hF aops outs all1 h0 i).1, (hF aops outs all1 h0 i).2⟩ (Eq3 r.1 r.2.1 r.2.2)) ∧ (wr a = true ∨ r.2 = hF aops outs all1 h0 i)

theorem getT_put {t : List (Nat × D)} {d : Option Nat} {v : D} (x : Nat) : getT (put t d v) x = if d = some x then v else getT t x := by
  cases d with
  | none => simp [put]
  | some k => simp only [put, getT, Option.some.injEq]

theorem wT_pre {f f' : List AOper} {p p' : List Out1} {x j : Nat} (h1 : j < f.length) (h2 : j < p.length) : wT (f ++ f') (p ++ p') x j = wT f p x j := by
  simp only [wT, List.getElem?_append_left h1, List.getElem?_append_left h2]

theorem wH_pre {f f' : List AOper} {p p' : List Out1} {j : Nat} (h1 : j < f.length) (h2 : j < p.length) : wH (f ++ f') (p ++ p') j = wH f p j := by
  simp only [wH, List.getElem?_append_left h1, List.getElem?_append_left h2]

theorem tF_pre {f f' : List AOper} {p p' : List Out1} {S : Nat → Bool} {τ0 : Nat → D} {m : Nat} (h1 : m ≤ f.length) (h2 : m ≤ p.length) : tF (f ++ f') (p ++ p') S τ0 m = tF f p S τ0 m := by
  funext x
  exact gF_ext m (fun j hj => wT_pre (by omega) (by omega))

theorem hF_pre {f f' : List AOper} {p p' : List Out1} {S : Nat → Bool} {h0 : List Ent × Nat} {m : Nat} (h1 : m ≤ f.length) (h2 : m ≤ p.length) : hF (f ++ f') (p ++ p') S h0 m = hF f p S h0 m :=
  gF_ext m (fun j hj => wH_pre (by omega) (by omega))

theorem tF_snoc {f : List AOper} {p : List Out1} {a : AOper} {o : Out1} {τ0 : Nat → D} (hl : p.length = f.length) (x : Nat) : tF (f ++ [a]) (p ++ [o]) all1 τ0 (f.length + 1) x = if a.d = some x then valO o else tF f p all1 τ0 f.length x := by
  simp only [tF, gF, if_true]
  have e1 : gF (wT (f ++ [a]) (p ++ [o]) x) all1 (τ0 x) f.length = gF (wT f p x) all1 (τ0 x) f.length := gF_ext _ (fun j hj => wT_pre hj (by omega))
  have e2 : wT (f ++ [a]) (p ++ [o]) x f.length = if a.d = some x then some (valO o) else none := by
    simp only [wT]
    rw [List.getElem?_append_right (Nat.le_refl _), List.getElem?_append_right (by omega), hl, Nat.sub_self]
    rfl
  rw [e1, e2]
  split <;> rfl

theorem hF_snoc {f : List AOper} {p : List Out1} {a : AOper} {o : Out1} {h0 : List Ent × Nat} (hl : p.length = f.length) : hF (f ++ [a]) (p ++ [o]) all1 h0 (f.length + 1) = (match o with | some r => if wr a = true then r.2 else hF f p all1 h0 f.length | none => hF f p all1 h0 f.length) := by
  simp only [hF, gF, if_true]
  have e1 : gF (wH (f ++ [a]) (p ++ [o])) all1 h0 f.length = gF (wH f p) all1 h0 f.length := gF_ext _ (fun j hj => wH_pre hj (by omega))
  have e2 : wH (f ++ [a]) (p ++ [o]) f.length = (match o with | some r => if wr a = true then some r.2 else none | none => none) := by
    simp only [wH]
    rw [List.getElem?_append_right (Nat.le_refl _), List.getElem?_append_right (by omega), hl, Nat.sub_self]
    cases o <;> rfl
  rw [e1, e2]
  cases o with
  | none => rfl
  | some r =>
    simp only []
    split <;> rfl

theorem trace_of {R : St → Prop} {τ0 : Nat → D} {h0 : List Ent × Nat} : ∀ (l front : List AOper) (pre : List Out1) (σ : St), pre.length = front.length → getT σ.t = tF front pre all1 τ0 front.length → (σ.h, σ.g) = hF front pre all1 h0 front.length →
    opsKd C kb inlK l σ R → ∃ (suf : List Out1) (σf : St), suf.length = l.length ∧ R σf ∧ (∀ i, front.length ≤ i → i < front.length + l.length → TOk C kb inlK (front ++ l) (pre ++ suf) τ0 h0 i) ∧
      getT σf.t = tF (front ++ l) (pre ++ suf) all1 τ0 (front.length + l.length) ∧ (σf.h, σf.g) = hF (front ++ l) (pre ++ suf) all1 h0 (front.length + l.length)
  | [], front, pre, σ, hl, ht, hh, hk => ⟨[], σ, rfl, hk, fun i h1 h2 => by simp at h2; omega, by simpa using ht, by simpa using hh⟩
  | a :: l, front, pre, σ, hl, ht, hh, hk => by
    -- one step, then the rest
    have step : ∀ (o : Out1) (t' : List (Nat × D)) (h' : List Ent) (g' : Nat), getT t' = getT σ.t → (h', g') = (match o with | some r => if wr a = true then r.2 else (σ.h, σ.g) | none => (σ.h, σ.g)) →
        (∀ (pp : List Out1) (ll : List AOper), match o with
          | none => skipG (tF (front ++ a :: ll) (pre ++ o :: pp) all1 τ0 front.length) a.gd
          | some r => runG (tF (front ++ a :: ll) (pre ++ o :: pp) all1 τ0 front.length) a.gd ∧ (∃ t, getT t = tF (front ++ a :: ll) (pre ++ o :: pp) all1 τ0 front.length ∧ opC C kb inlK a ⟨t, (hF (front ++ a :: ll) (pre ++ o :: pp) all1 h0 front.length).1, (hF (front ++ a :: ll) (pre ++ o :: pp) all1 h0 front.length).2⟩ (Eq3 r.1 r.2.1 r.2.2)) ∧ (wr a = true ∨ r.2 = hF (front ++ a :: ll) (pre ++ o :: pp) all1 h0 front.length)) →
        opsKd C kb inlK l ⟨put t' a.d (valO o), h', g'⟩ R →
        ∃ (suf : List Out1) (σf : St), suf.length = (a :: l).length ∧ R σf ∧ (∀ i, front.length ≤ i → i < front.length + (a :: l).length → TOk C kb inlK (front ++ a :: l) (pre ++ suf) τ0 h0 i) ∧
          getT σf.t = tF (front ++ a :: l) (pre ++ suf) all1 τ0 (front.length + (a :: l).length) ∧ (σf.h, σf.g) = hF (front ++ a :: l) (pre ++ suf) all1 h0 (front.length + (a :: l).length) := by
      intro o t' h' g' ht' hh' hto hk'
      obtain ⟨suf, σf, hs, hR, hT, hf1, hf2⟩ := trace_of (R := R) (τ0 := τ0) (h0 := h0) l (front ++ [a]) (pre ++ [o]) ⟨put t' a.d (valO o), h', g'⟩ (by simp [hl])
        (by
          funext x
          rw [List.length_append, List.length_singleton, tF_snoc hl x, getT_put, ht', ht])
        (by
          rw [List.length_append, List.length_singleton, hF_snoc hl, hh']
          cases o with
          | none => exact hh
          | some r => simp only []; split <;> first | rfl | exact hh) hk'
      simp only [List.append_assoc, List.singleton_append, List.length_append, List.length_singleton] at hT hf1 hf2
      refine ⟨o :: suf, σf, by simp [hs], hR, fun i h1 h2 => ?_, ?_, ?_⟩
      · by_cases hi : i = front.length
        · subst hi
          intro a' o' ha' ho'
          rw [List.getElem?_append_right (Nat.le_refl _), Nat.sub_self] at ha'
          rw [List.getElem?_append_right (by omega), hl, Nat.sub_self] at ho'
          obtain rfl : a = a' := by simpa using ha'
          obtain rfl : o = o' := by simpa using ho'
          exact hto suf l
        · exact hT i (by omega) (by simp only [List.length_cons] at h2; omega)
      · rw [hf1]; congr 1; simp only [List.length_cons]; omega
      · rw [hf2]; congr 1; simp only [List.length_cons]; omega
    have htp : ∀ (o : Out1) (pp : List Out1) (ll : List AOper), tF (front ++ a :: ll) (pre ++ o :: pp) all1 τ0 front.length = getT σ.t := fun o pp ll => by rw [tF_pre (Nat.le_refl _) (by omega), ht]
    have hhp : ∀ (o : Out1) (pp : List Out1) (ll : List AOper), hF (front ++ a :: ll) (pre ++ o :: pp) all1 h0 front.length = (σ.h, σ.g) := fun o pp ll => by rw [hF_pre (Nat.le_refl _) (by omega), hh]
    have runC : ∀ t', getT t' = getT σ.t → runG (getT σ.t) a.gd → (∃ d h g, opC C kb inlK a ⟨t', σ.h, σ.g⟩ (Eq3 d h g) ∧ (wr a = true ∨ (h = σ.h ∧ g = σ.g)) ∧ opsKd C kb inlK l ⟨put t' a.d d, h, g⟩ R) →
        ∃ (suf : List Out1) (σf : St), suf.length = (a :: l).length ∧ R σf ∧ (∀ i, front.length ≤ i → i < front.length + (a :: l).length → TOk C kb inlK (front ++ a :: l) (pre ++ suf) τ0 h0 i) ∧
          getT σf.t = tF (front ++ a :: l) (pre ++ suf) all1 τ0 (front.length + (a :: l).length) ∧ (σf.h, σf.g) = hF (front ++ a :: l) (pre ++ suf) all1 h0 (front.length + (a :: l).length) := by
      rintro t' ht' hg ⟨d, h, g, hop, hw, hrest⟩
      refine step (some (d, h, g)) t' h g ht' ?_ (fun pp ll => ?_) hrest
      · simp only []
        split
        · rfl
        · rename_i hne
          obtain ⟨rfl, rfl⟩ := hw.resolve_left hne
          rfl
      · simp only [htp, hhp]
        exact ⟨hg, ⟨t', ht', hop⟩, hw.imp (fun h => h) (fun h => by rw [h.1, h.2])⟩
    have skipC : ∀ t', getT t' = getT σ.t → skipG (getT σ.t) a.gd → opsKd C kb inlK l ⟨put t' a.d .undef, σ.h, σ.g⟩ R →
        ∃ (suf : List Out1) (σf : St), suf.length = (a :: l).length ∧ R σf ∧ (∀ i, front.length ≤ i → i < front.length + (a :: l).length → TOk C kb inlK (front ++ a :: l) (pre ++ suf) τ0 h0 i) ∧
          getT σf.t = tF (front ++ a :: l) (pre ++ suf) all1 τ0 (front.length + (a :: l).length) ∧ (σf.h, σf.g) = hF (front ++ a :: l) (pre ++ suf) all1 h0 (front.length + (a :: l).length) := by
      intro t' ht' hg hrest
      refine step none t' σ.h σ.g ht' rfl (fun pp ll => ?_) hrest
      simp only [htp]
      exact hg
    simp only [opsKd, guardK] at hk
    cases hgd : a.gd with
    | none =>
      rw [hgd] at hk
      exact runC σ.t rfl (by rw [hgd]; trivial) hk
    | some p =>
      obtain ⟨j, want⟩ := p
      rw [hgd] at hk
      simp only [] at hk
      have hcons : ∀ b, getT σ.t j = .bool b → getT ((j, .bool b) :: σ.t) = getT σ.t := by
        intro b hb
        funext x
        simp only [getT]
        by_cases hx : j = x
        · subst hx; rw [if_pos rfl, hb]
        · rw [if_neg hx]
      split at hk
      · rename_i b hb
        by_cases hbw : b = want
        · subst hbw
          exact runC _ (hcons b hb) (by rw [hgd]; exact hb) (hk.1 rfl)
        · have hbn : b = !want := by cases b <;> cases want <;> simp_all
          subst hbn
          exact skipC _ (hcons _ hb) (by rw [hgd]; exact .inl hb) (hk.2 rfl)
      · rename_i hb
        exact skipC σ.t rfl (by rw [hgd]; exact .inr hb) hk
      · exact hk.elim

end
end Go.PS
