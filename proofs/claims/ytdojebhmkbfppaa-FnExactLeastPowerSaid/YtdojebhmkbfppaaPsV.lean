/- A text against the clean run. -/
import Derived.Test.YtdojebhmkbfppaaPsU
set_option linter.unusedVariables false
set_option linter.unusedSimpArgs false
set_option linter.unusedSectionVars false
namespace Go.PS

/-- Each operation but a call gives one thing. -/
theorem opK_one {tt : Nat → Ty} {k : Nat} {a : AOper} {σ : St} {K : D → List Ent → Nat → Prop} (hk : opK tt k a σ K) :
    ∃ d h g, (∀ K' : D → List Ent → Nat → Prop, K' d h g → opK tt k a σ K') ∧ K d h g ∧ (wr a = true ∨ (h = σ.h ∧ g = σ.g)) := by
  obtain ⟨ad, o, T, gd, fl⟩ := a
  cases o with
  | call f as => exact hk.elim
  | copy T S x y => exact hk.elim
  | clear T x => exact hk.elim
  | mv x =>
    simp only [opK] at hk ⊢
    split at hk
    · exact ⟨_, _, _, fun K' hk' => hk', hk, .inr ⟨rfl, rfl⟩⟩
    · split at hk
      · exact ⟨_, _, _, fun K' hk' => hk', hk, .inl rfl⟩
      · exact hk.elim
    · rename_i h0 h1
      split at hk
      · split at hk
        · exact ⟨_, _, _, fun K' hk' => hk', hk, .inl (by simpa [wr] using h0)⟩
        · exact hk.elim
      · exact hk.elim
  | pick c x y =>
    simp only [opK] at hk ⊢
    split at hk
    · exact ⟨_, _, _, fun K' hk' => hk', hk, .inr ⟨rfl, rfl⟩⟩
    · exact hk.elim
  | box T x =>
    simp only [opK] at hk ⊢
    split at hk
    · exact ⟨_, _, _, fun K' hk' => ⟨hk.1, hk.2.1, hk'⟩, hk.2.2, .inr ⟨rfl, rfl⟩⟩
    · rename_i h0
      exact ⟨_, _, _, fun K' hk' => ⟨hk.1, hk'⟩, hk.2, .inl (by simpa [wr] using h0)⟩
  | alloc T =>
    simp only [opK] at hk ⊢
    split at hk
    · exact ⟨_, _, _, fun K' hk' => ⟨hk.1, hk'⟩, hk.2, .inl rfl⟩
    · exact hk.elim
  | build T ps =>
    simp only [opK] at hk ⊢
    split at hk
    · split at hk
      · exact ⟨_, _, _, fun K' hk' => hk', hk, .inr ⟨rfl, rfl⟩⟩
      · exact hk.elim
    · exact hk.elim
  | bslice T n ps =>
    simp only [opK] at hk ⊢
    split at hk
    · obtain ⟨q1, q2, q3, q4, q5, hk⟩ := hk
      split at hk
      · exact ⟨_, _, _, fun K' hk' => ⟨q1, q2, q3, q4, q5, hk.1, hk'⟩, hk.2, .inr ⟨rfl, rfl⟩⟩
      · exact ⟨_, _, _, fun K' hk' => ⟨q1, q2, q3, q4, q5, hk.1, hk'⟩, hk.2, .inl rfl⟩
      · exact ⟨_, _, _, fun K' hk' => ⟨q1, q2, q3, q4, q5, hk'⟩, hk, .inr ⟨rfl, rfl⟩⟩
    · exact hk.elim
  | load T x =>
    simp only [opK] at hk ⊢
    split at hk
    · exact ⟨_, _, _, fun K' hk' => ⟨hk.1, hk'⟩, hk.2, .inr ⟨rfl, rfl⟩⟩
    · split at hk
      · split at hk
        · rename_i hs
          simp only [hs, if_true]
          exact ⟨_, _, _, fun K' hk' => ⟨hk.1, hk'⟩, hk.2, .inr ⟨rfl, rfl⟩⟩
        · rename_i hs
          simp only [hs, if_false]
          exact ⟨_, _, _, fun K' hk' => ⟨hk.1, hk.2.1, hk'⟩, hk.2.2, .inr ⟨rfl, rfl⟩⟩
      · obtain ⟨p1, p2, hk⟩ := hk
        split at hk
        · exact ⟨_, _, _, fun K' hk' => ⟨p1, p2, hk.1, hk.2.1, hk'⟩, hk.2.2, .inr ⟨rfl, rfl⟩⟩
        · rename_i hfl
          unfold rowK at hk ⊢
          split at hk
          · split at hk
            · exact ⟨_, _, _, fun K' hk' => ⟨p1, p2, hk'⟩, hk, .inr ⟨rfl, rfl⟩⟩
            · rename_i hf1
              exact ⟨_, _, _, fun K' hk' => ⟨p1, p2, hk'⟩, hk, .inl (by simp [wr]; exact ⟨hfl, hf1⟩)⟩
          · exact hk.elim
      · exact hk.elim
    · split at hk
      · exact ⟨_, _, _, fun K' hk' => ⟨hk.1, hk.2.1, hk.2.2.1, hk.2.2.2.1, hk'⟩, hk.2.2.2.2, .inr ⟨rfl, rfl⟩⟩
      · exact hk.elim
    · exact hk.elim
  | store T x v =>
    simp only [opK] at hk ⊢
    split at hk
    · obtain ⟨q1, hk⟩ := hk
      split at hk
      · exact ⟨_, _, _, fun K' hk' => ⟨q1, hk.1, hk'⟩, hk.2, .inl rfl⟩
      · exact ⟨_, _, _, fun K' hk' => ⟨q1, hk.1, hk.2.1, hk.2.2.1, hk.2.2.2.1, hk'⟩, hk.2.2.2.2, .inl rfl⟩
      · exact hk.elim
    · obtain ⟨q1, hk⟩ := hk
      split at hk
      · split at hk
        · obtain ⟨p1, p2, p3, p4, p5, hk⟩ := hk
          exact ⟨_, _, _, fun K' hk' => ⟨q1, p1, p2, p3, p4, p5, hk'⟩, hk, .inl rfl⟩
        · exact hk.elim
      · exact hk.elim
    · exact hk.elim
  | nilck x =>
    simp only [opK] at hk ⊢
    split at hk
    · exact ⟨_, _, _, fun K' hk' => hk', hk, .inr ⟨rfl, rfl⟩⟩
    · exact ⟨_, _, _, fun K' hk' => hk', hk, .inr ⟨rfl, rfl⟩⟩
    · exact ⟨_, _, _, fun K' hk' => ⟨hk.1, hk'⟩, hk.2, .inr ⟨rfl, rfl⟩⟩
    · exact hk.elim
  | bin op T x y =>
    simp only [opK, binK] at hk ⊢
    split at hk
    · obtain ⟨p1, hk⟩ := hk
      cases op <;> simp only [binI] at hk ⊢ <;> first
        | exact ⟨_, _, _, fun K' hk' => ⟨p1, hk'⟩, hk, .inr ⟨rfl, rfl⟩⟩
        | exact ⟨_, _, _, fun K' hk' => ⟨p1, hk.1, hk'⟩, hk.2, .inr ⟨rfl, rfl⟩⟩
    · cases op <;> simp only [binS] at hk ⊢ <;> first
        | exact hk.elim
        | exact ⟨_, _, _, fun K' hk' => hk', hk, .inr ⟨rfl, rfl⟩⟩
        | exact ⟨_, _, _, fun K' hk' => ⟨hk.1, hk'⟩, hk.2, .inr ⟨rfl, rfl⟩⟩
    · obtain ⟨p1, hk⟩ := hk
      cases op <;> simp only [binL] at hk ⊢ <;> first
        | exact hk.elim
        | exact ⟨_, _, _, fun K' hk' => ⟨p1, hk'⟩, hk, .inr ⟨rfl, rfl⟩⟩
    · exact hk.elim
  | un op x =>
    simp only [opK] at hk ⊢
    split at hk
    · exact ⟨_, _, _, fun K' hk' => hk', hk, .inr ⟨rfl, rfl⟩⟩
    · exact ⟨_, _, _, fun K' hk' => hk', hk, .inr ⟨rfl, rfl⟩⟩
    · exact hk.elim
  | conv S T x =>
    simp only [opK] at hk ⊢
    split at hk
    · exact ⟨_, _, _, fun K' hk' => ⟨hk.1, hk'⟩, hk.2, .inr ⟨rfl, rfl⟩⟩
    · exact hk.elim
  | mkfn f cs =>
    simp only [opK] at hk ⊢
    exact ⟨_, _, _, fun K' hk' => hk', hk, .inr ⟨rfl, rfl⟩⟩
  | make T l c =>
    simp only [opK] at hk ⊢
    split at hk
    · obtain ⟨q1, q2, q3, q4, q5, hk⟩ := hk
      exact ⟨_, _, _, fun K' hk' => ⟨q1, q2, q3, q4, q5, hk'⟩, hk, .inl rfl⟩
    · exact hk.elim
  | slice T x lo hi =>
    simp only [opK] at hk ⊢
    have opt : ∀ (d : Int) (o : Option Opd) (K1 : Int → Prop), optI σ.t d o K1 → ∃ n, (∀ K2 : Int → Prop, K2 n → optI σ.t d o K2) ∧ K1 n := by
      intro d o K1 h
      unfold optI at h ⊢
      split at h
      · exact ⟨_, fun _ h => h, h⟩
      · split at h
        · exact ⟨_, fun _ h => h, h⟩
        · exact h.elim
    split at hk
    · split at hk
      · obtain ⟨q0, q1, hk⟩ := hk
        obtain ⟨l, h1, hk⟩ := opt _ _ _ hk
        obtain ⟨u, h2, hk⟩ := opt _ _ _ hk
        exact ⟨_, _, _, fun K' hk' => ⟨q0, q1, h1 _ (h2 _ ⟨hk.1, hk.2.1, hk.2.2.1, hk'⟩)⟩, hk.2.2.2, .inl (by simp [wr]; omega)⟩
      · exact hk.elim
    · obtain ⟨q1, hk⟩ := hk
      obtain ⟨l, h1, hk⟩ := opt _ _ _ hk
      obtain ⟨u, h2, hk⟩ := opt _ _ _ hk
      exact ⟨_, _, _, fun K' hk' => ⟨q1, h1 _ (h2 _ ⟨hk.1, hk.2.1, hk.2.2.1, hk'⟩)⟩, hk.2.2.2, .inr ⟨rfl, rfl⟩⟩
    · obtain ⟨q1, hk⟩ := hk
      obtain ⟨l, h1, hk⟩ := opt _ _ _ hk
      obtain ⟨u, h2, hk⟩ := opt _ _ _ hk
      exact ⟨_, _, _, fun K' hk' => ⟨q1, h1 _ (h2 _ ⟨hk.1, hk.2.1, hk.2.2.1, hk'⟩)⟩, hk.2.2.2, .inr ⟨rfl, rfl⟩⟩
    · exact hk.elim
  | faddr T x i =>
    simp only [opK] at hk ⊢
    split at hk
    · split at hk
      · obtain ⟨p1, p2, hk⟩ := hk
        split at hk
        · exact ⟨_, _, _, fun K' hk' => ⟨p1, p2, hk.1, hk'⟩, hk.2, .inr ⟨rfl, rfl⟩⟩
        · exact ⟨_, _, _, fun K' hk' => ⟨p1, p2, hk.1, hk'⟩, hk.2, .inr ⟨rfl, rfl⟩⟩
        · exact hk.elim
      · exact hk.elim
    · exact hk.elim
  | field T x i =>
    simp only [opK] at hk ⊢
    split at hk
    · split at hk
      · obtain ⟨p1, p2, hk⟩ := hk
        split at hk
        · exact ⟨_, _, _, fun K' hk' => ⟨p1, p2, hk.1, hk'⟩, hk.2, .inr ⟨rfl, rfl⟩⟩
        · exact hk.elim
      · exact hk.elim
    · exact hk.elim
  | iaddr T x y =>
    simp only [opK] at hk ⊢
    split at hk
    · split at hk
      · obtain ⟨p1, p2, p3, hk⟩ := hk
        exact ⟨_, _, _, fun K' hk' => ⟨p1, p2, p3, hk'⟩, hk, .inr ⟨rfl, rfl⟩⟩
      · split at hk
        · obtain ⟨p1, p2, p3, p4, hk⟩ := hk
          exact ⟨_, _, _, fun K' hk' => ⟨p1, p2, p3, p4, hk'⟩, hk, .inr ⟨rfl, rfl⟩⟩
        · exact hk.elim
      · split at hk
        · obtain ⟨p1, p2, p3, p4, hk⟩ := hk
          exact ⟨_, _, _, fun K' hk' => ⟨p1, p2, p3, p4, hk'⟩, hk, .inr ⟨rfl, rfl⟩⟩
        · exact hk.elim
      · exact hk.elim
    · exact hk.elim
  | index T x y =>
    simp only [opK] at hk ⊢
    split at hk
    · exact ⟨_, _, _, fun K' hk' => ⟨hk.1, hk.2.1, hk'⟩, hk.2.2, .inr ⟨rfl, rfl⟩⟩
    · exact hk.elim
  | ext x i =>
    simp only [opK] at hk ⊢
    split at hk
    · exact ⟨_, _, _, fun K' hk' => ⟨hk.1, hk'⟩, hk.2, .inr ⟨rfl, rfl⟩⟩
    · exact hk.elim
  | len T x =>
    simp only [opK] at hk ⊢
    split at hk
    · split at hk
      · exact ⟨_, _, _, fun K' hk' => hk', hk, .inr ⟨rfl, rfl⟩⟩
      · exact hk.elim
    · split at hk
      · exact ⟨_, _, _, fun K' hk' => hk', hk, .inr ⟨rfl, rfl⟩⟩
      · exact hk.elim
    · exact hk.elim
  | max x y =>
    simp only [opK] at hk ⊢
    split at hk
    · exact ⟨_, _, _, fun K' hk' => hk', hk, .inr ⟨rfl, rfl⟩⟩
    · exact hk.elim
  | min x y =>
    simp only [opK] at hk ⊢
    split at hk
    · exact ⟨_, _, _, fun K' hk' => hk', hk, .inr ⟨rfl, rfl⟩⟩
    · exact hk.elim
  | app T S x y =>
    have appDet : ∀ (sz : Nat) (x : D) (es : List D) (ks : List Nat), opK.appK k sz σ x es ks K → ∃ d h g, (∀ K' : D → List Ent → Nat → Prop, K' d h g → opK.appK k sz σ x es ks K') ∧ K d h g := by
      intro sz x es ks hk
      unfold opK.appK at hk ⊢
      split at hk
      · exact ⟨_, _, _, fun K' hk' => ⟨hk.1, hk'⟩, hk.2⟩
      · split at hk
        · exact ⟨_, _, _, fun K' hk' => ⟨hk.1, hk.2.1, hk.2.2.1, hk'⟩, hk.2.2.2⟩
        · exact hk.elim
      · exact hk.elim
    simp only [opK] at hk ⊢
    split at hk
    · exact hk.elim
    · obtain ⟨p1, p2, hk⟩ := hk
      split at hk
      · obtain ⟨d, h, g, h1, h2⟩ := appDet _ _ _ _ hk
        exact ⟨d, h, g, fun K' hk' => ⟨p1, p2, h1 K' hk'⟩, h2, .inl rfl⟩
      · obtain ⟨q1, hk⟩ := hk
        obtain ⟨d, h, g, h1, h2⟩ := appDet _ _ _ _ hk
        exact ⟨d, h, g, fun K' hk' => ⟨p1, p2, q1, h1 K' hk'⟩, h2, .inl rfl⟩
      · obtain ⟨q1, q2, hk⟩ := hk
        obtain ⟨d, h, g, h1, h2⟩ := appDet _ _ _ _ hk
        exact ⟨d, h, g, fun K' hk' => ⟨p1, p2, q1, q2, h1 K' hk'⟩, h2, .inl rfl⟩
      · split at hk
        · obtain ⟨q1, q2, q3, hk⟩ := hk
          obtain ⟨d, h, g, h1, h2⟩ := appDet _ _ _ _ hk
          exact ⟨d, h, g, fun K' hk' => ⟨p1, p2, q1, q2, q3, h1 K' hk'⟩, h2, .inl rfl⟩
        · exact hk.elim
      · exact hk.elim

theorem opK_det {tt : Nat → Ty} {k : Nat} {a : AOper} {σ : St} {K : D → List Ent → Nat → Prop} (hk : opK tt k a σ K) :
    ∃ d h g, opK tt k a σ (Eq3 d h g) ∧ K d h g ∧ (wr a = true ∨ (h = σ.h ∧ g = σ.g)) :=
  let ⟨d, h, g, h1, h2, h3⟩ := opK_one hk
  ⟨d, h, g, h1 _ ⟨rfl, rfl, rfl⟩, h2, h3⟩

theorem opK_mono {tt : Nat → Ty} {k : Nat} {a : AOper} {σ : St} {K K' : D → List Ent → Nat → Prop} (hk : opK tt k a σ K) (h : ∀ d h g, K d h g → K' d h g) : opK tt k a σ K' :=
  let ⟨_, _, _, h1, h2, _⟩ := opK_one hk
  h1 _ (h _ _ _ h2)

theorem callOf_some {o : AOp} {f : Opd} {as : List Opd} (h : callOf o = some (f, as)) : o = .call f as := by
  cases o <;> simp [callOf] at h
  rw [h.1, h.2]

theorem callOf_none {o : AOp} (h : callOf o = none) (f : Opd) (as : List Opd) : o ≠ .call f as := by
  intro e; rw [e] at h; cases h

theorem opsKd_of {C : Ctx} {kb : Nat} {inlK : Nat → List D → List Ent → Nat → (D → List Ent → Nat → Prop) → Prop} {Q : St → Prop} : ∀ (as : List AOper) (σ : St), opsKc C kb inlK as σ Q → opsKd C kb inlK as σ Q
  | [], σ, h => h
  | a :: as, σ, h => by
    have go : ∀ t, (match callOf a.o with
        | some (f, args) => callD C (kb + 8 * a.d.getD 0) inlK a.fl (ev t f) (evL t args) ⟨t, σ.h, σ.g⟩ fun d h g => opsKc C kb inlK as ⟨put t a.d d, h, g⟩ Q
        | none => opK C.tt (kb + 8 * a.d.getD 0) a ⟨t, σ.h, σ.g⟩ fun d h g => opsKc C kb inlK as ⟨put t a.d d, h, g⟩ Q) →
        ∃ d h g, opC C kb inlK a ⟨t, σ.h, σ.g⟩ (Eq3 d h g) ∧ (wr a = true ∨ (h = σ.h ∧ g = σ.g)) ∧ opsKd C kb inlK as ⟨put t a.d d, h, g⟩ Q := by
      intro t ht
      unfold opC
      split at ht
      · rename_i f args hao
        have hao := callOf_some hao
        obtain ⟨d, h, g, h1, h2, h3⟩ := ht
        refine ⟨d, h, g, ?_, ?_, opsKd_of as _ h3⟩
        · simp only [hao]; exact h1
        · unfold wr; simp only [hao]; exact h2
      · rename_i hne
        have hne := callOf_none hne
        obtain ⟨d, h, g, h1, h2, h3⟩ := opK_det ht
        refine ⟨d, h, g, ?_, h3, opsKd_of as _ h2⟩
        split
        · rename_i f args hao; exact absurd hao (hne f args)
        · exact h1
    simp only [opsKc, opsKd, guardK] at h ⊢
    split at h
    · exact go _ h
    · split at h
      · exact ⟨fun e => go _ (h.1 e), fun e => opsKd_of as _ (h.2 e)⟩
      · exact opsKd_of as _ h
      · exact h.elim

end Go.PS
