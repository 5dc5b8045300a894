/- Regions whose order Go leaves open: what the operations mention, and that they do not hang on the order. -/
import Derived.Test.YtdojebhmkbfppaaPsR
set_option linter.unusedVariables false
set_option linter.unusedSimpArgs false
set_option linter.unusedSectionVars false
namespace Go.PS

theorem ev_congr {t t' : List (Nat × D)} {x : Opd} (h : ∀ n ∈ opdT x, getT t n = getT t' n) : ev t x = ev t' x := by
  cases x with
  | t n => exact h n (by simp [opdT])
  | _ => rfl

theorem evL_congr {t t' : List (Nat × D)} : ∀ {xs : List Opd}, (∀ n ∈ (xs.map opdT).flatten, getT t n = getT t' n) → evL t xs = evL t' xs
  | [], _ => rfl
  | x :: xs, h => by
    simp only [evL]
    rw [ev_congr (fun n hn => h n (by simp [hn])), evL_congr (fun n hn => h n (by simp only [List.map_cons, List.flatten_cons, List.mem_append]; exact .inr hn))]

theorem optI_congr {t t' : List (Nat × D)} {d : Int} {o : Option Opd} {K : Int → Prop} (h : ∀ n ∈ optT o, getT t n = getT t' n) : optI t d o K = optI t' d o K := by
  cases o with
  | none => rfl
  | some x => simp only [optI]; rw [ev_congr h]

theorem fillP_congr {tt : Nat → Ty} {fs : List (Nat × Nat)} {t t' : List (Nat × D)} : ∀ {ps : List (Nat × Opd)} {cs : List D}, (∀ n ∈ (ps.map fun p => opdT p.2).flatten, getT t n = getT t' n) → fillP tt fs t cs ps = fillP tt fs t' cs ps
  | [], cs, _ => rfl
  | (i, x) :: ps, cs, h => by
    simp only [fillP]
    rw [ev_congr (t := t) (t' := t') (fun n hn => h n (by simp [hn]))]
    have : ∀ cs, fillP tt fs t cs ps = fillP tt fs t' cs ps := fun cs => fillP_congr (fun n hn => h n (by simp only [List.map_cons, List.flatten_cons, List.mem_append]; exact .inr hn))
    simp only [this]

theorem opK_congr {tt : Nat → Ty} {k : Nat} {a : AOper} {t t' : List (Nat × D)} {h : List Ent} {g : Nat} {K : D → List Ent → Nat → Prop} (hh : ∀ n ∈ aopT a.o, getT t n = getT t' n) (hk : opK tt k a ⟨t, h, g⟩ K) : opK tt k a ⟨t', h, g⟩ K := by
  obtain ⟨d, o, T, gd, fl⟩ := a
  cases o with
  | mv x => have e := ev_congr (t := t) (t' := t') (x := x) (fun n hn => hh n (by simpa [aopT] using hn)); simp only [opK, e] at hk ⊢; exact hk
  | pick c x y =>
    have e1 := ev_congr (t := t) (t' := t') (x := c) (fun n hn => hh n (by simp [aopT, hn])); have e2 := ev_congr (t := t) (t' := t') (x := x) (fun n hn => hh n (by simp [aopT, hn])); have e3 := ev_congr (t := t) (t' := t') (x := y) (fun n hn => hh n (by simp [aopT, hn]))
    simp only [opK, e1, e2, e3] at hk ⊢; exact hk
  | box T x => have e := ev_congr (t := t) (t' := t') (x := x) (fun n hn => hh n (by simpa [aopT] using hn)); simp only [opK, e] at hk ⊢; exact hk
  | alloc T => exact hk
  | build T ps =>
    have e : ∀ fs cs, fillP tt fs t cs ps = fillP tt fs t' cs ps := fun fs cs => fillP_congr (fun n hn => hh n (by simpa [aopT] using hn))
    simp only [opK, e] at hk ⊢; exact hk
  | bslice T n ps =>
    have e : ps.map (fun p => ev t p.2) = ps.map (fun p => ev t' p.2) := List.map_congr_left (fun p hp => ev_congr (fun n hn => hh n (by
      simp only [aopT]; exact List.mem_flatten.2 ⟨_, List.mem_map.2 ⟨p, hp, rfl⟩, hn⟩)))
    simp only [opK, e] at hk ⊢; exact hk
  | load T x => have e := ev_congr (t := t) (t' := t') (x := x) (fun n hn => hh n (by simpa [aopT] using hn)); simp only [opK, e] at hk ⊢; exact hk
  | store T x y =>
    have e1 := ev_congr (t := t) (t' := t') (x := x) (fun n hn => hh n (by simp [aopT, hn])); have e2 := ev_congr (t := t) (t' := t') (x := y) (fun n hn => hh n (by simp [aopT, hn]))
    simp only [opK, e1, e2] at hk ⊢; exact hk
  | nilck x => have e := ev_congr (t := t) (t' := t') (x := x) (fun n hn => hh n (by simpa [aopT] using hn)); simp only [opK, e] at hk ⊢; exact hk
  | bin op T x y =>
    have e1 := ev_congr (t := t) (t' := t') (x := x) (fun n hn => hh n (by simp [aopT, hn])); have e2 := ev_congr (t := t) (t' := t') (x := y) (fun n hn => hh n (by simp [aopT, hn]))
    simp only [opK, e1, e2] at hk ⊢; exact hk
  | un op x => have e := ev_congr (t := t) (t' := t') (x := x) (fun n hn => hh n (by simpa [aopT] using hn)); simp only [opK, e] at hk ⊢; exact hk
  | conv S T x => have e := ev_congr (t := t) (t' := t') (x := x) (fun n hn => hh n (by simpa [aopT] using hn)); simp only [opK, e] at hk ⊢; exact hk
  | mkfn f cs => have e := evL_congr (t := t) (t' := t') (xs := cs) (fun n hn => hh n (by simpa [aopT] using hn)); simp only [opK, e] at hk ⊢; exact hk
  | make T x y =>
    have e1 := ev_congr (t := t) (t' := t') (x := x) (fun n hn => hh n (by simp [aopT, hn])); have e2 := ev_congr (t := t) (t' := t') (x := y) (fun n hn => hh n (by simp [aopT, hn]))
    simp only [opK, e1, e2] at hk ⊢; exact hk
  | slice T x lo hi =>
    have e1 := ev_congr (t := t) (t' := t') (x := x) (fun n hn => hh n (by simp [aopT, hn]))
    have e2 : ∀ d K, optI t d lo K = optI t' d lo K := fun d K => optI_congr (fun n hn => hh n (by simp [aopT, hn]))
    have e3 : ∀ d K, optI t d hi K = optI t' d hi K := fun d K => optI_congr (fun n hn => hh n (by simp [aopT, hn]))
    simp only [opK, e1, e2, e3] at hk ⊢; exact hk
  | faddr T x i => have e := ev_congr (t := t) (t' := t') (x := x) (fun n hn => hh n (by simpa [aopT] using hn)); simp only [opK, e] at hk ⊢; exact hk
  | field T x i => have e := ev_congr (t := t) (t' := t') (x := x) (fun n hn => hh n (by simpa [aopT] using hn)); simp only [opK, e] at hk ⊢; exact hk
  | iaddr T x y =>
    have e1 := ev_congr (t := t) (t' := t') (x := x) (fun n hn => hh n (by simp [aopT, hn])); have e2 := ev_congr (t := t) (t' := t') (x := y) (fun n hn => hh n (by simp [aopT, hn]))
    simp only [opK, e1, e2] at hk ⊢; exact hk
  | index T x y =>
    have e1 := ev_congr (t := t) (t' := t') (x := x) (fun n hn => hh n (by simp [aopT, hn])); have e2 := ev_congr (t := t) (t' := t') (x := y) (fun n hn => hh n (by simp [aopT, hn]))
    simp only [opK, e1, e2] at hk ⊢; exact hk
  | ext x i => have e := ev_congr (t := t) (t' := t') (x := x) (fun n hn => hh n (by simpa [aopT] using hn)); simp only [opK, e] at hk ⊢; exact hk
  | len T x => have e := ev_congr (t := t) (t' := t') (x := x) (fun n hn => hh n (by simpa [aopT] using hn)); simp only [opK, e] at hk ⊢; exact hk
  | app T S x y =>
    have e1 := ev_congr (t := t) (t' := t') (x := x) (fun n hn => hh n (by simp [aopT, hn])); have e2 := ev_congr (t := t) (t' := t') (x := y) (fun n hn => hh n (by simp [aopT, hn]))
    simp only [opK, opK.appK, e1, e2] at hk ⊢; exact hk
  | copy T S x y => exact hk
  | clear T x => exact hk
  | max x y =>
    have e1 := ev_congr (t := t) (t' := t') (x := x) (fun n hn => hh n (by simp [aopT, hn])); have e2 := ev_congr (t := t) (t' := t') (x := y) (fun n hn => hh n (by simp [aopT, hn]))
    simp only [opK, e1, e2] at hk ⊢; exact hk
  | min x y =>
    have e1 := ev_congr (t := t) (t' := t') (x := x) (fun n hn => hh n (by simp [aopT, hn])); have e2 := ev_congr (t := t) (t' := t') (x := y) (fun n hn => hh n (by simp [aopT, hn]))
    simp only [opK, e1, e2] at hk ⊢; exact hk
  | call f as => exact hk

theorem callK_t {C : Ctx} {k : Nat} {inlK : Nat → List D → List Ent → Nat → (D → List Ent → Nat → Prop) → Prop} {fl : Nat} {f : D} {as : List D} {t t' : List (Nat × D)} {h : List Ent} {g : Nat} {K : D → List Ent → Nat → Prop} :
    callK C k inlK fl f as ⟨t, h, g⟩ K = callK C k inlK fl f as ⟨t', h, g⟩ K := rfl

theorem opC_congr {C : Ctx} {kb : Nat} {inlK : Nat → List D → List Ent → Nat → (D → List Ent → Nat → Prop) → Prop} {a : AOper} {t t' : List (Nat × D)} {h : List Ent} {g : Nat} {K : D → List Ent → Nat → Prop} (hh : ∀ n ∈ aopT a.o, getT t n = getT t' n)
    (hk : opC C kb inlK a ⟨t, h, g⟩ K) : opC C kb inlK a ⟨t', h, g⟩ K := by
  unfold opC at hk ⊢
  split
  · rename_i f as ho
    rw [ho] at hk
    simp only [] at hk
    rw [ev_congr (t := t) (t' := t') (fun n hn => hh n (by rw [ho]; simp [aopT, hn])), evL_congr (t := t) (t' := t') (fun n hn => hh n (by rw [ho]; simp only [aopT, List.mem_append]; exact .inr hn))] at hk
    exact hk
  · rename_i hne
    split at hk
    · rename_i f as ho; exact absurd ho (hne f as)
    · exact opK_congr hh hk

/-- What does not look at the run's own gives the same whatever that is, and leaves it. -/
theorem opC_free {C : Ctx} {kb : Nat} {inlK : Nat → List D → List Ent → Nat → (D → List Ent → Nat → Prop) → Prop} {a : AOper} (ha : acc a = false) {t : List (Nat × D)} {h h' : List Ent} {g g' : Nat} {d : D}
    (hk : opC C kb inlK a ⟨t, h, g⟩ (Eq3 d h' g')) : h' = h ∧ g' = g ∧ ∀ h2 g2, opC C kb inlK a ⟨t, h2, g2⟩ (Eq3 d h2 g2) := by
  obtain ⟨ad, o, T, gd, fl⟩ := a
  cases o with
  | call f as => simp [acc] at ha
  | mv x =>
    have : fl = 0 := by simpa [acc] using ha
    subst this
    simp only [opC, opK] at hk ⊢
    obtain ⟨h1, h2, h3⟩ := hk
    exact ⟨h2.symm, h3.symm, fun _ _ => ⟨h1, rfl, rfl⟩⟩
  | box T x =>
    have : fl = 0 := by simpa [acc] using ha
    subst this
    simp only [opC, opK] at hk ⊢
    obtain ⟨p1, p2, h1, h2, h3⟩ := hk
    exact ⟨h2.symm, h3.symm, fun _ _ => ⟨p1, p2, h1, rfl, rfl⟩⟩
  | bslice T n ps =>
    have hf : fl ≠ 1 := by simpa [acc] using ha
    simp only [opC, opK] at hk ⊢
    split at hk
    · rename_i E hE
      obtain ⟨q1, q2, q3, q4, q5, hk⟩ := hk
      split at hk
      · obtain ⟨p1, h1, h2, h3⟩ := hk
        exact ⟨h2.symm, h3.symm, fun _ _ => ⟨q1, q2, q3, q4, q5, p1, h1, rfl, rfl⟩⟩
      · exact absurd rfl hf
      · rename_i hf0 hf1
        obtain ⟨h1, h2, h3⟩ := hk
        refine ⟨h2.symm, h3.symm, fun _ _ => ⟨q1, q2, q3, q4, q5, ?_⟩⟩
        exact ⟨h1, rfl, rfl⟩
    · exact hk.elim
  | pick c x y =>
    simp only [opC, opK] at hk ⊢
    split at hk
    · obtain ⟨h1, h2, h3⟩ := hk; exact ⟨h2.symm, h3.symm, fun _ _ => ⟨h1, rfl, rfl⟩⟩
    · exact hk.elim
  | bin op T x y =>
    simp only [opC, opK, binK] at hk ⊢
    split at hk
    · obtain ⟨p1, hk⟩ := hk
      cases op <;> simp only [binI] at hk ⊢ <;> first
        | (obtain ⟨h1, h2, h3⟩ := hk; exact ⟨h2.symm, h3.symm, fun _ _ => ⟨p1, h1, rfl, rfl⟩⟩)
        | (obtain ⟨p2, h1, h2, h3⟩ := hk; exact ⟨h2.symm, h3.symm, fun _ _ => ⟨p1, p2, h1, rfl, rfl⟩⟩)
    · cases op <;> simp only [binS] at hk ⊢ <;> first
        | exact hk.elim
        | (obtain ⟨h1, h2, h3⟩ := hk; exact ⟨h2.symm, h3.symm, fun _ _ => ⟨h1, rfl, rfl⟩⟩)
        | (obtain ⟨p2, h1, h2, h3⟩ := hk; exact ⟨h2.symm, h3.symm, fun _ _ => ⟨p2, h1, rfl, rfl⟩⟩)
    · obtain ⟨p1, hk⟩ := hk
      cases op <;> simp only [binL] at hk ⊢ <;> first
        | exact hk.elim
        | (obtain ⟨h1, h2, h3⟩ := hk; exact ⟨h2.symm, h3.symm, fun _ _ => ⟨p1, h1, rfl, rfl⟩⟩)
    · exact hk.elim
  | un op x =>
    simp only [opC, opK] at hk ⊢
    split at hk
    · obtain ⟨h1, h2, h3⟩ := hk; exact ⟨h2.symm, h3.symm, fun _ _ => ⟨h1, rfl, rfl⟩⟩
    · obtain ⟨h1, h2, h3⟩ := hk; exact ⟨h2.symm, h3.symm, fun _ _ => ⟨h1, rfl, rfl⟩⟩
    · exact hk.elim
  | conv S T x =>
    simp only [opC, opK] at hk ⊢
    split at hk
    · obtain ⟨p, h1, h2, h3⟩ := hk; exact ⟨h2.symm, h3.symm, fun _ _ => ⟨p, h1, rfl, rfl⟩⟩
    · exact hk.elim
  | mkfn f cs =>
    simp only [opC, opK] at hk ⊢
    obtain ⟨h1, h2, h3⟩ := hk; exact ⟨h2.symm, h3.symm, fun _ _ => ⟨h1, rfl, rfl⟩⟩
  | field T x i =>
    simp only [opC, opK] at hk ⊢
    split at hk
    · split at hk
      · obtain ⟨p1, p2, hk⟩ := hk
        split at hk
        · obtain ⟨p3, h1, h2, h3⟩ := hk; exact ⟨h2.symm, h3.symm, fun _ _ => ⟨p1, p2, p3, h1, rfl, rfl⟩⟩
        · exact hk.elim
      · exact hk.elim
    · exact hk.elim
  | index T x y =>
    simp only [opC, opK] at hk ⊢
    split at hk
    · obtain ⟨p1, p2, h1, h2, h3⟩ := hk; exact ⟨h2.symm, h3.symm, fun _ _ => ⟨p1, p2, h1, rfl, rfl⟩⟩
    · exact hk.elim
  | ext x i =>
    simp only [opC, opK] at hk ⊢
    split at hk
    · obtain ⟨p1, h1, h2, h3⟩ := hk; exact ⟨h2.symm, h3.symm, fun _ _ => ⟨p1, h1, rfl, rfl⟩⟩
    · exact hk.elim
  | max x y =>
    simp only [opC, opK] at hk ⊢
    split at hk
    · obtain ⟨h1, h2, h3⟩ := hk; exact ⟨h2.symm, h3.symm, fun _ _ => ⟨h1, rfl, rfl⟩⟩
    · exact hk.elim
  | min x y =>
    simp only [opC, opK] at hk ⊢
    split at hk
    · obtain ⟨h1, h2, h3⟩ := hk; exact ⟨h2.symm, h3.symm, fun _ _ => ⟨h1, rfl, rfl⟩⟩
    · exact hk.elim
  | build T ps =>
    simp only [opC, opK] at hk ⊢
    split at hk
    · split at hk
      · obtain ⟨h1, h2, h3⟩ := hk; exact ⟨h2.symm, h3.symm, fun _ _ => ⟨h1, rfl, rfl⟩⟩
      · exact hk.elim
    · exact hk.elim
  | slice T x lo hi =>
    have : fl = 0 := by simpa [acc] using ha
    subst this
    simp only [opC, opK] at hk ⊢
    have opt : ∀ (d0 : Int) (o : Option Opd) (Q1 Q2 : Int → Prop), optI t d0 o Q1 → (∀ n, Q1 n → Q2 n) → optI t d0 o Q2 := by
      intro d0 o Q1 Q2 h1 h2
      cases o with
      | none => exact h2 _ h1
      | some x => simp only [optI] at h1 ⊢; split at h1 <;> first | exact h2 _ h1 | exact h1.elim
    have ex : ∀ (d0 : Int) (o : Option Opd) (Q : Int → Prop), optI t d0 o Q → ∃ n, Q n := by
      intro d0 o Q h1
      cases o with
      | none => exact ⟨_, h1⟩
      | some x => simp only [optI] at h1; split at h1 <;> first | exact ⟨_, h1⟩ | exact h1.elim
    split at hk
    · split at hk
      · exact absurd hk.1 (by decide)
      · exact hk.elim
    · obtain ⟨p1, hk⟩ := hk
      obtain ⟨l, hl⟩ := ex _ _ _ hk
      obtain ⟨u, hu⟩ := ex _ _ _ hl
      obtain ⟨_, _, _, _, e1, e2⟩ := hu
      refine ⟨e1.symm, e2.symm, fun _ _ => ⟨p1, opt _ _ _ _ hk (fun l hl => opt _ _ _ _ hl (fun u hu => ⟨hu.1, hu.2.1, hu.2.2.1, hu.2.2.2.1, rfl, rfl⟩))⟩⟩
    · obtain ⟨p1, hk⟩ := hk
      obtain ⟨l, hl⟩ := ex _ _ _ hk
      obtain ⟨u, hu⟩ := ex _ _ _ hl
      obtain ⟨_, _, _, _, e1, e2⟩ := hu
      refine ⟨e1.symm, e2.symm, fun _ _ => ⟨p1, opt _ _ _ _ hk (fun l hl => opt _ _ _ _ hl (fun u hu => ⟨hu.1, hu.2.1, hu.2.2.1, hu.2.2.2.1, rfl, rfl⟩))⟩⟩
    · exact hk.elim
  | _ => simp [acc] at ha

end Go.PS
