/- Calls run in place beside calls by tables. -/
import Derived.Test.YtdojebhmkbfppaaPta
set_option linter.unusedVariables false
set_option linter.unusedSimpArgs false
namespace Go.PS

/-- The end of a call that is run in place. -/
def inlQ (tt : Nat → Ty) (res : List RV) (K : D → List Ent → Nat → Prop) (e : AExit) (σ : St) : Prop := match e with
  | .exit _ => False
  | _ => resK tt res σ fun d => K d σ.h σ.g

/-- The functions of 'C.inl' are run in place, to the depth 'n'; all others go by the tables. -/
def inlT {P : Program} (C : Ctx) (T : List (Fam P)) : Nat → Nat → Nat → List D → List Ent → Nat → (D → List Ent → Nat → Prop) → Prop
  | 0, _, f, ds, h, g, K => tabK T f ds h g K
  | n + 1, kb, f, ds, h, g, K => match C.inl f with
    | none => tabK T f ds h g K
    | some fa => run C (kb + 4000) (inlT C T n (kb + 4000)) fa.ac (inlQ C.tt fa.res K) ⟨args0 0 ds, h, g⟩

theorem inlT_mono {P : Program} (C : Ctx) (T : List (Fam P)) : ∀ n kb, InlMono (inlT C T n kb) := by
  intro n
  induction n with
  | zero => intro kb; exact tabK_mono T
  | succ n ih =>
    intro kb f ds h g K K' hm hk
    simp only [inlT] at hk ⊢
    split at hk
    · exact tabK_mono T _ _ _ _ _ _ hm hk
    · refine run_mono (ih _) _ _ _ _ (fun e σ hs => ?_) hk
      cases e with
      | exit id => exact hs
      | normal => exact resK_mono (fun d hd => hm _ _ _ hd) hs
      | ret => exact resK_mono (fun d hd => hm _ _ _ hd) hs

theorem inlT_ok {C : Ctx} (hty : TyOk C.P C.tt) (hm : C.P.follows .mixedOrders = true) (hinl : ∀ f fa, C.inl f = some fa → ∃ A, FnOk C.P f fa A) (T : List (Fam C.P)) : ∀ n kb, InlOk C (inlT C T n kb) := by
  intro n
  induction n with
  | zero => intro kb; exact tabK_ok T
  | succ n ih =>
    intro kb id ds h G K hk
    simp only [inlT] at hk
    split at hk
    · exact tabK_ok T id ds h G K hk
    · rename_i fa hfa
      obtain ⟨A, hf⟩ := hinl id fa hfa
      refine ⟨hf.enters, fun w0 Fo B w μ own vs I hl hr => ?_⟩
      refine body_sound hty hm (ih (kb + 4000)) hf I hl hr hk (K := fun σ d => K d σ.h σ.g) (fun e σ' q => ?_) (fun σ' w' μ' o' d v q1 q2 q3 => ⟨v, _, _, _, _, _, rfl, q1, q2, q3⟩)
      cases e with
      | exit id => exact q.elim
      | normal => exact ⟨(fun _ h => by cases h), q⟩
      | ret => exact ⟨(fun _ h => by cases h), q⟩

section
variable {P : Program} {C : Ctx} {T : List (Fam P)} {n kb kb' id : Nat} {caps args : List D} {σ : St} {d : Option Nat} {as : List AOper} {Q : St → Prop}

@[congr] theorem inlQ_congr {tt : Nat → Ty} {res : List RV} {K : D → List Ent → Nat → Prop} {e e' : AExit} {σ σ' : St} (h : e = e') (h2 : σ = σ') : inlQ tt res K e σ = inlQ tt res K e' σ' := by rw [h, h2]
@[simp] theorem inlQ_normal {tt : Nat → Ty} {res : List RV} {K : D → List Ent → Nat → Prop} : inlQ tt res K .normal σ = resK tt res σ fun d => K d σ.h σ.g := (rfl)
@[simp] theorem inlQ_ret {tt : Nat → Ty} {res : List RV} {K : D → List Ent → Nat → Prop} : inlQ tt res K .ret σ = resK tt res σ fun d => K d σ.h σ.g := (rfl)

theorem inlT_tab (hi : C.inl id = none) {ds : List D} {h : List Ent} {g : Nat} {K : D → List Ent → Nat → Prop} : inlT C T n kb id ds h g K = tabK T id ds h g K := by
  cases n with
  | zero => rfl
  | succ n => simp only [inlT]; rw [hi]

theorem callO3T (hi : C.inl id = none) : callO C kb' (inlT C T n kb) d 3 (.fn id caps) args σ as Q = tab2 (findF id T) (args ++ caps) σ.h (fun v => opsK C kb' (inlT C T n kb) as ⟨put σ.t d (imm 5 v), σ.h, σ.g⟩ Q) := by
  apply propext
  show (∃ v, inlT C T n kb id (args ++ caps) σ.h σ.g (fun d h g => d = v ∧ h = σ.h ∧ g = σ.g) ∧ opsK C kb' (inlT C T n kb) as ⟨put σ.t d v, σ.h, σ.g⟩ Q) ↔ _
  simp only [inlT_tab hi]
  unfold tabK tab2
  cases findF id T with
  | none => exact ⟨fun ⟨_, h, _⟩ => h.elim, fun h => h.elim⟩
  | some f =>
    simp only [lookK_ex]
    constructor
    · rintro ⟨v, ⟨u, h1, h2, _, _⟩, h3⟩
      subst h2
      exact ⟨u, h1, h3⟩
    · rintro ⟨u, h1, h3⟩
      exact ⟨_, ⟨u, h1, rfl, trivial, trivial⟩, h3⟩

theorem callDO3T (hi : C.inl id = none) : callDO C kb' (inlT C T n kb) d 3 (.fn id caps) args σ as Q = tab2 (findF id T) (args ++ caps) σ.h (fun v => opsKc C kb' (inlT C T n kb) as ⟨put σ.t d (imm 5 v), σ.h, σ.g⟩ Q) := by
  apply propext
  show (∃ d1 h1 g1, (∃ v, inlT C T n kb id (args ++ caps) σ.h σ.g (fun d h g => d = v ∧ h = σ.h ∧ g = σ.g) ∧ (v = d1 ∧ σ.h = h1 ∧ σ.g = g1)) ∧ _ ∧ opsKc C kb' (inlT C T n kb) as ⟨put σ.t d d1, h1, g1⟩ Q) ↔ _
  simp only [inlT_tab hi]
  unfold tabK tab2
  cases findF id T with
  | none => exact ⟨fun ⟨_, _, _, ⟨_, h, _⟩, _⟩ => h.elim, fun h => h.elim⟩
  | some f =>
    simp only [lookK_ex]
    constructor
    · rintro ⟨d1, h1, g1, ⟨v, ⟨u, q1, q2, _, _⟩, rfl, rfl, rfl⟩, _, h3⟩
      subst q2
      exact ⟨u, q1, h3⟩
    · rintro ⟨u, q1, h3⟩
      exact ⟨_, _, _, ⟨_, ⟨u, q1, rfl, trivial, trivial⟩, rfl, rfl, rfl⟩, .inr ⟨rfl, rfl⟩, h3⟩

/-- What follows a call that is run in place. -/
def backK (C : Ctx) (kb : Nat) (i : Nat → List D → List Ent → Nat → (D → List Ent → Nat → Prop) → Prop) (t : List (Nat × D)) (d : Option Nat) (as : List AOper) (Q : St → Prop) (v : D) (h : List Ent) (g : Nat) : Prop := opsK C kb i as ⟨put t d v, h, g⟩ Q
@[simp] theorem backK_app {i : Nat → List D → List Ent → Nat → (D → List Ent → Nat → Prop) → Prop} {t : List (Nat × D)} {v : D} {h : List Ent} {g : Nat} : backK C kb i t d as Q v h g = opsK C kb i as ⟨put t d v, h, g⟩ Q := (rfl)
theorem callO16 {fa : FnA} (hi : C.inl id = some fa) : callO C kb' (inlT C T (n + 1) kb) d 16 (.fn id caps) args σ as Q =
    run C (kb + 4000) (inlT C T n (kb + 4000)) fa.ac (inlQ C.tt fa.res (backK C kb' (inlT C T (n + 1) kb) σ.t d as Q)) ⟨args0 0 (args ++ caps), σ.h, σ.g⟩ := by
  show inlT C T (n + 1) kb id (args ++ caps) σ.h σ.g (fun v h g => opsK C kb' (inlT C T (n + 1) kb) as ⟨put σ.t d v, h, g⟩ Q) = _
  simp only [inlT]
  rw [hi]
  rfl

variable {ks KS : List Nat} {rest : List AOper} {σ0 : St} {ok : segOk ks rest KS = true} {Q1 : AExit → St → Prop} {ws : List (Nat × D)}
@[simp] theorem opsK_segRT : opsK C kb' (inlT C T n kb) (seg ks as rest KS ok) σ (regQ KS Q1) = opsK C kb' (inlT C T n kb) as σ (segQ C kb' (inlT C T n kb) ks rest (regQ KS Q1)) := opsK_seg (inlT_mono C T n kb) regQ_dep
@[simp] theorem opsK_segCT : opsK C kb' (inlT C T n kb) (seg ks as rest KS ok) σ (cutQ KS ws σ0) = opsK C kb' (inlT C T n kb) as σ (segQ C kb' (inlT C T n kb) ks rest (cutQ KS ws σ0)) := opsK_seg (inlT_mono C T n kb) cutQ_dep
end

theorem args0_nil {n : Nat} : args0 n [] = [] := rfl
end Go.PS
