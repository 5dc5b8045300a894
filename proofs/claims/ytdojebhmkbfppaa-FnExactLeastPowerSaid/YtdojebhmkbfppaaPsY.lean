/- The clean run is monotone; loops by what holds at their head. -/
import Derived.Test.YtdojebhmkbfppaaPsX
set_option linter.unusedVariables false
set_option linter.unusedSimpArgs false
set_option linter.unusedSectionVars false
namespace Go.PS

def InlMono (inlK : Nat → List D → List Ent → Nat → (D → List Ent → Nat → Prop) → Prop) : Prop :=
  ∀ f ds h g (K K' : D → List Ent → Nat → Prop), (∀ d h g, K d h g → K' d h g) → inlK f ds h g K → inlK f ds h g K'

section
variable {C : Ctx} {kb : Nat} {inlK : Nat → List D → List Ent → Nat → (D → List Ent → Nat → Prop) → Prop}

theorem callK_mono (hi : InlMono inlK) {k fl : Nat} {f : D} {args : List D} {σ : St} {K K' : D → List Ent → Nat → Prop} (h : ∀ d h g, K d h g → K' d h g) (hk : callK C k inlK fl f args σ K) : callK C k inlK fl f args σ K' := by
  unfold callK at hk ⊢
  split at hk
  · split at hk
    · obtain ⟨R, h1, h2⟩ := hk; exact ⟨R, h1, fun r cs hr => h _ _ _ (h2 r cs hr)⟩
    · obtain ⟨R, h1, h2⟩ := hk; exact ⟨R, h1, fun r cs hr => h _ _ _ (h2 r cs hr)⟩
    · obtain ⟨R, h1, h2⟩ := hk; exact ⟨R, h1, fun r cs hr => h _ _ _ (h2 r cs hr)⟩
    · obtain ⟨v, h1, h2⟩ := hk; exact ⟨v, h1, h _ _ _ h2⟩
    · exact hi _ _ _ _ _ _ h hk
    · split at hk
      · split at hk
        · obtain ⟨hp, hk⟩ := hk
          refine ⟨hp, ?_⟩
          split at hk
          · obtain ⟨R, h1, h2⟩ := hk; exact ⟨R, h1, fun r cs hr => h _ _ _ (h2 r cs hr)⟩
          · exact hk.elim
          · obtain ⟨R, h1, h2⟩ := hk; exact ⟨R, h1, fun r cs hr => h _ _ _ (h2 r cs hr)⟩
        · exact hk.elim
      · exact hk.elim
  · exact hk.elim

theorem opC_mono (hi : InlMono inlK) {a : AOper} {σ : St} {K K' : D → List Ent → Nat → Prop} (h : ∀ d h g, K d h g → K' d h g) (hk : opC C kb inlK a σ K) : opC C kb inlK a σ K' := by
  unfold opC at hk ⊢
  split at hk
  · exact callK_mono hi h hk
  · exact opK_mono hk h

theorem guardK_mono {gd : Option (Nat × Bool)} {t : List (Nat × D)} {K1 K2 K1' K2' : List (Nat × D) → Prop} (h1 : ∀ t, K1 t → K1' t) (h2 : ∀ t, K2 t → K2' t) (hk : guardK gd t K1 K2) : guardK gd t K1' K2' := by
  unfold guardK at hk ⊢
  split at hk
  · exact h1 _ hk
  · split at hk
    · exact ⟨fun e => h1 _ (hk.1 e), fun e => h2 _ (hk.2 e)⟩
    · exact h2 _ hk
    · exact hk.elim

theorem opsK_mono (hi : InlMono inlK) : ∀ (as : List AOper) {σ : St} {Q Q' : St → Prop}, (∀ σ, Q σ → Q' σ) → opsK C kb inlK as σ Q → opsK C kb inlK as σ Q'
  | [], σ, Q, Q', h, hk => h _ hk
  | a :: as, σ, Q, Q', h, hk => guardK_mono (fun t ht => opC_mono hi (fun d h' g hr => opsK_mono hi as h hr) ht) (fun t ht => opsK_mono hi as h ht) hk

theorem opsKc_mono : ∀ (as : List AOper) {σ : St} {Q Q' : St → Prop}, (∀ σ, Q σ → Q' σ) → opsKc C kb inlK as σ Q → opsKc C kb inlK as σ Q'
  | [], σ, Q, Q', h, hk => h _ hk
  | a :: as, σ, Q, Q', h, hk => by
    simp only [opsKc] at hk ⊢
    refine guardK_mono (fun t ht => ?_) (fun t ht => opsKc_mono as h ht) hk
    split at ht
    · obtain ⟨d, h', g, h1, h2, h3⟩ := ht
      exact ⟨d, h', g, h1, h2, opsKc_mono as h h3⟩
    · exact opK_mono ht (fun d h' g hr => opsKc_mono as h hr)

theorem thenQ_mono {n n' : St → Prop} {Q Q' : AExit → St → Prop} (h1 : ∀ σ, n σ → n' σ) (h2 : ∀ e σ, Q e σ → Q' e σ) : ∀ e σ, thenQ n Q e σ → thenQ n' Q' e σ := by
  intro e σ h
  cases e with
  | normal => exact h1 σ h
  | exit id => exact h2 _ σ h
  | ret => exact h2 _ σ h

theorem iter_mono {body : (AExit → St → Prop) → St → Prop} (hb : ∀ (Q Q' : AExit → St → Prop) σ, (∀ e σ, Q e σ → Q' e σ) → body Q σ → body Q' σ) {keep kh : List Nat} {Q Q' : AExit → St → Prop} (h : ∀ e σ, Q e σ → Q' e σ) :
    ∀ n σ, iter body keep kh Q n σ → iter body keep kh Q' n σ
  | 0, σ, hk => hk.elim
  | n + 1, σ, hk => hb _ _ _ (thenQ_mono (fun σ hs => iter_mono hb h n σ hs) h) hk

theorem run_mono (hi : InlMono inlK) : ∀ (c : AC) (Q Q' : AExit → St → Prop) (σ : St), (∀ e σ, Q e σ → Q' e σ) → run C kb inlK c Q σ → run C kb inlK c Q' σ := by
  intro c
  induction c with
  | skip => intro Q Q' σ h hk; exact h _ _ hk
  | ret => intro Q Q' σ h hk; exact h _ _ hk
  | exit id => intro Q Q' σ h hk; exact h _ _ hk
  | region draw ops keep =>
    intro Q Q' σ h hk
    cases draw with
    | false => exact opsK_mono hi ops (fun σ' hs => h _ _ hs) hk
    | true => exact opsKc_mono ops (fun σ' hs => h _ _ hs) hk
  | seq a b iha ihb =>
    intro Q Q' σ h hk
    simp only [run] at hk ⊢
    exact iha _ _ σ (thenQ_mono (fun σ hs => ihb _ _ σ h hs) h) hk
  | cond c a b iha ihb =>
    intro Q Q' σ h hk
    simp only [run] at hk ⊢
    split at hk
    · exact ⟨fun e => iha _ _ σ h (hk.1 e), fun e => ihb _ _ σ h (hk.2 e)⟩
    · exact hk.elim
  | block id a iha =>
    intro Q Q' σ h hk
    simp only [run] at hk ⊢
    refine iha _ _ σ (fun e σ' hs => ?_) hk
    cases e with
    | normal => exact h _ _ hs
    | exit id' =>
      simp only [inBlockQ] at hs ⊢
      split <;> rename_i e
      · rw [if_pos e] at hs; exact h _ _ hs
      · rw [if_neg e] at hs; exact h _ _ hs
    | ret => exact h _ _ hs
  | loop keep kh a iha =>
    intro Q Q' σ h hk
    simp only [run] at hk ⊢
    obtain ⟨n, hk⟩ := hk
    exact ⟨n, iter_mono (fun Q Q' σ hq hb => iha Q Q' σ hq hb) h n σ hk⟩
  | bad => intro Q Q' σ h hk; exact hk.elim

end

theorem inl_mono (C : Ctx) : ∀ n kb, InlMono (inl C n kb) := by
  intro n
  induction n with
  | zero => intro kb f ds h g K K' hm hk; exact hk.elim
  | succ n ih =>
    intro kb f ds h g K K' hm hk
    simp only [inl] at hk ⊢
    split at hk
    · exact hk.elim
    · refine run_mono (ih _) _ _ _ _ (fun e σ hs => ?_) hk
      cases e with
      | exit id => exact hs
      | normal => exact resK_mono (fun d hd => hm _ _ _ hd) hs
      | ret => exact resK_mono (fun d hd => hm _ _ _ hd) hs

section
variable {C : Ctx} {kb n : Nat}

theorem run_mono' {c : AC} {Q Q' : AExit → St → Prop} {σ : St} (h : ∀ e σ, Q e σ → Q' e σ) (hk : run C kb (inl C n kb) c Q σ) : run C kb (inl C n kb) c Q' σ := run_mono (inl_mono C n kb) c Q Q' σ h hk

/-- A loop by what holds at its head, 'm' turns before its end at most. -/
theorem loop_inv {keep kh : List Nat} {a : AC} {Q : AExit → St → Prop} {σ : St} (I : Nat → St → Prop) (m0 : Nat) (h0 : I m0 ⟨keepT keep σ.t, keepH kh σ.h, σ.g⟩)
    (step : ∀ m σ, I m σ → run C kb (inl C n kb) a (fun e σ' => match e with
      | .normal => ∃ m', m' < m ∧ I m' ⟨keepT keep σ'.t, keepH kh σ'.h, σ'.g⟩
      | e => Q e σ') σ) : run C kb (inl C n kb) (.loop keep kh a) Q σ := by
  have key : ∀ m σ, I m ⟨keepT keep σ.t, keepH kh σ.h, σ.g⟩ → iter (run C kb (inl C n kb) a) keep kh Q (m + 1) σ := by
    intro m
    induction m using Nat.strongRecOn with
    | _ m ih =>
      intro σ hI
      simp only [iter]
      refine run_mono' (fun e σ' hs => ?_) (step m _ hI)
      cases e with
      | normal =>
        obtain ⟨m', hm, hI'⟩ := hs
        have h1 := ih m' hm σ' hI'
        -- more turns do no harm
        have more : ∀ k k' σ, k ≤ k' → iter (run C kb (inl C n kb) a) keep kh Q k σ → iter (run C kb (inl C n kb) a) keep kh Q k' σ := by
          intro k
          induction k with
          | zero => intro k' σ _ h; exact h.elim
          | succ k ihk =>
            intro k' σ hle h
            cases k' with
            | zero => omega
            | succ k' =>
              simp only [iter] at h ⊢
              exact run_mono' (thenQ_mono (fun σ hs => ihk k' σ (by omega) hs) (fun _ _ h => h)) h
        exact more _ _ σ' (by omega) h1
      | exit id => exact hs
      | ret => exact hs
  exact ⟨m0 + 1, key m0 σ h0⟩

end
end Go.PS
