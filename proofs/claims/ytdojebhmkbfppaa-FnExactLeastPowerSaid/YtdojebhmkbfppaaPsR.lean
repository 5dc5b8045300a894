/- Regions against the clean run. -/
import Derived.Test.YtdojebhmkbfppaaPsQ
set_option linter.unusedVariables false
set_option linter.unusedSimpArgs false
set_option linter.unusedSectionVars false
namespace Go.PS

/-- What is known between two operations of a text. -/
structure SInv (nt : Nat) (w0 : World) (Fo : Nat → Prop) (B : Option Nat) (σ : St) (a : Act) (w : World) (μ : Nat → Value) (own : List Nat) : Prop where
  inv : HInv w0 Fo B w σ.h μ σ.g own
  tmps : TRel w (FF own Fo) σ.h μ σ.g σ.t a.tmps
  size : nt ≤ a.tmps.size
  defers : a.defers = []

/-- The operations of a region and the clean ones. -/
structure OpOk (ops : Array Oper) (nt : Nat) (o : Oper) (a : AOper) : Prop where
  op : cop o.op = some a.o
  ty : o.type = a.T
  dst : o.dst = a.d
  gd : cgd ops o.guard = some a.gd
  lt : ∀ d, a.d = some d → d < nt

theorem cper_ok {ops : Array Oper} {nt fl : Nat} {o : Oper} {a : AOper} (h : cper ops nt fl o = some a) : OpOk ops nt o a := by
  unfold cper at h
  split at h
  · rename_i ao gd h1 h2
    split at h
    · rename_i h3
      injection h with h
      subst h
      exact ⟨h1, rfl, rfl, h2, fun d hd => by
        simp only [] at hd
        rw [hd] at h3
        simpa using h3⟩
    · cases h
  · cases h

section
variable {C : Ctx} {nt : Nat} {w0 : World} {Fo : Nat → Prop} {B : Option Nat} {σ : St} {a : Act} {w : World} {μ : Nat → Value} {own : List Nat} {Q : Exit → Act → World → Prop}

theorem call_run {P : Program} {o : Oper} {ρ : Operand → Value} {f : Operand} {args : List Operand} {tys : Array TypeId} {id : Nat} {cvs : List Value} (hop : o.op = .call ⟨.value f, ⟨args⟩, tys⟩)
    (hf : ρ f = .func (.func id) #[] cvs.toArray) (he : Enters P id) : (execOp ρ o).run P w = .ok (.enter id (args.map ρ ++ cvs).toArray) w := by
  obtain ⟨fn, h1, h2, h3⟩ := he
  have h2 : fn.body ≠ none := by intro e; rw [e] at h2; cases h2
  have h3 : fn.name ≠ "runtime.NumGoroutine" := by simpa using h3
  simp [execOp, hop, resolve, hf, Deferred.ofValue, invoke, callFunc, h1, h2, h3]

/-- One operation. -/
theorem step_sound (hty : TyOk C.P C.tt) (S : SInv nt w0 Fo B σ a w μ own) {ops : Array Oper} {o : Oper} {ao : AOper} (hok : OpOk ops nt o ao) {kb : Nat} {inlK : Nat → List D → List Ent → Nat → (D → List Ent → Nat → Prop) → Prop} (hin : InlOk C inlK)
    {K : D → List Ent → Nat → Prop} (hk : opC C kb inlK ao σ K) :
    o.wp C.P a w (fun a' w' => ∃ (d : D) (h' : List Ent) (μ' : Nat → Value) (G' : Nat) (o' : List Nat), K d h' G' ∧ Out w0 Fo B w σ.h μ σ.g own w' h' μ' G' o' ∧ SInv nt w0 Fo B ⟨put σ.t ao.d d, h', G'⟩ a' w' μ' o') Q := by
  have hρ : ∀ x, VRep w (FF own Fo) σ.h μ σ.g (ev σ.t (co x)) (a.eval x) := S.tmps.eval
  have fin : ∀ (v : Value) (d : D) (w' : World) (h' : List Ent) (μ' : Nat → Value) (G' : Nat) (o' : List Nat), K d h' G' → Out w0 Fo B w σ.h μ σ.g own w' h' μ' G' o' → VRep w' (FF o' Fo) h' μ' G' d v →
      ∃ (d : D) (h' : List Ent) (μ' : Nat → Value) (G' : Nat) (o' : List Nat), K d h' G' ∧ Out w0 Fo B w σ.h μ σ.g own w' h' μ' G' o' ∧ SInv nt w0 Fo B ⟨put σ.t ao.d d, h', G'⟩ (a.put o.dst v) w' μ' o' := by
    intro v d w' h' μ' G' o' h1 h2 h3
    refine ⟨d, h', μ', G', o', h1, h2, h2.1, ?_, ?_, ?_⟩
    · have := TRel.put (S.tmps.evo h2.2) ao.d (fun d hd => by exact Nat.lt_of_lt_of_le (hok.lt d hd) S.size) h3
      rw [hok.dst]
      exact this
    · cases o.dst <;> simp [Act.put, S.size]
    · cases o.dst <;> simp [Act.put, S.defers]
  unfold opC at hk
  split at hk
  · rename_i f args hao
    -- a call
    have hop := hok.op
    rw [hao] at hop
    cases hoo : o.op with
    | call c =>
      rw [hoo] at hop
      simp only [cop] at hop
      obtain ⟨ca, ⟨ar⟩, ⟨ty⟩⟩ := c
      simp only [] at hop
      cases ca with
      | value fo =>
        simp only [ccall, Option.some.injEq, AOp.call.injEq] at hop
        obtain ⟨rfl, rfl⟩ := hop
        obtain ⟨id, cvs, hfv, hen, hcalls⟩ := call_sound S.inv hin (hρ fo) (avs := ar.map a.eval) (by simp [evL_length]) (by
          intro i d v hd hv
          exact evL_rel hρ S.inv hty ar i d v hd hv) hk
        unfold Oper.wp
        rw [call_run hoo hfv hen, Oper.upon_enter]
        refine hcalls.mono ?_
        rintro e w' ⟨v, d, h', μ', G', o', rfl, h1, h2, h3⟩
        exact fin v d w' h' μ' G' o' h1 h2 h3
      | builtin b =>
        unfold ccall at hop
        split at hop <;> first | (rename_i e; cases e; done) | (simp at hop; done) | skip
        all_goals (rename_i e; cases e)
      | invoke r m => simp [ccall] at hop
    | makeFunc fn first caps =>
      rw [hoo] at hop
      cases fn with
      | func f => simp only [cop] at hop; split at hop <;> simp at hop
      | _ => simp [cop] at hop
    | slice T x lo hi mx =>
      rw [hoo] at hop
      cases mx <;> simp [cop] at hop
    | _ => rw [hoo] at hop; simp [cop] at hop
  · rename_i hne
    obtain ⟨n, v, w', d, h', μ', G', o', hr, hn, h1, h2, h3⟩ := op_sound hρ S.inv hty hok.op (fun f args e => hne f args e) hok.ty hk
    unfold Oper.wp
    rw [hr]
    rcases hn with rfl | ⟨rfl, rfl⟩
    · rw [Oper.upon_value]; exact fin v d w' h' μ' G' o' h1 h2 h3
    · rw [Oper.upon_skip]; exact fin undef d w' h' μ' G' o' h1 h2 h3

/-- A guard, decided. -/
theorem guard_sound (S : SInv nt w0 Fo B σ a w μ own) {ops : Array Oper} {o : Oper} {ao : AOper} (hok : OpOk ops nt o ao) {K1 K2 : List (Nat × D) → Prop} (hk : guardK ao.gd σ.t K1 K2) :
    ∃ t', SInv nt w0 Fo B ⟨t', σ.h, σ.g⟩ a w μ own ∧ ((Region.wanted o (yielded ops a.tmps) = true ∧ K1 t') ∨ (Region.wanted o (yielded ops a.tmps) = false ∧ K2 t')) := by
  have hg := hok.gd
  cases hog : o.guard with
  | none =>
    rw [hog] at hg
    simp only [cgd, Option.some.injEq] at hg
    rw [← hg] at hk
    exact ⟨σ.t, S, .inl ⟨by simp [Region.wanted, hog], hk⟩⟩
  | some p =>
    obtain ⟨j, want⟩ := p
    rw [hog] at hg
    simp only [cgd, Option.map_eq_some_iff] at hg
    obtain ⟨dj, hdj, hg⟩ := hg
    rw [← hg] at hk
    simp only [guardK] at hk
    have hrep := S.tmps dj
    split at hk
    · rename_i b hb
      rw [hb] at hrep
      have hv := hrep.asBool
      have hlt : dj < a.tmps.size := by
        rcases Nat.lt_or_ge dj a.tmps.size with h | h
        · exact h
        · rw [Array.getD_eq_getD_getElem?, Array.getElem?_eq_none h] at hv
          cases hv
      have hy : yielded ops a.tmps j = some b := by
        unfold yielded
        rw [hdj]
        simp only [Option.bind_some]
        rw [Array.getD_eq_getD_getElem?, Array.getElem?_eq_getElem hlt] at hv
        rw [Array.getElem?_eq_getElem hlt]
        simp only [Option.getD_some] at hv
        rw [hv]
      have hT : ∀ b', b = b' → TRel w (FF own Fo) σ.h μ σ.g ((dj, .bool b') :: σ.t) a.tmps := by
        intro b' e k
        subst e
        simp only [getT]
        by_cases hk : dj = k
        · subst hk; rw [if_pos rfl, hv]; exact .imm _ _ (.bool b)
        · rw [if_neg hk]; exact S.tmps k
      by_cases hbw : b = want
      · exact ⟨(dj, .bool want) :: σ.t, ⟨S.inv, hT want hbw, S.size, S.defers⟩, .inl ⟨by simp [Region.wanted, hog, hy, hbw], hk.1 hbw⟩⟩
      · have hbn : b = !want := by cases b <;> cases want <;> simp_all
        exact ⟨(dj, .bool !want) :: σ.t, ⟨S.inv, hT _ hbn, S.size, S.defers⟩, .inr ⟨by simp [Region.wanted, hog, hy, hbw], hk.2 hbn⟩⟩
    · rename_i hb
      rw [hb] at hrep
      have hv : a.tmps.getD dj undef = undef := by
        revert hrep
        generalize a.tmps.getD dj undef = u
        intro hrep
        cases hrep with
        | imm _ _ r => cases r
        | undef => rfl
      refine ⟨σ.t, S, .inr ⟨?_, hk⟩⟩
      have hy : yielded ops a.tmps j = none := by
        unfold yielded
        rw [hdj]
        simp only [Option.bind_some]
        rw [Array.getD_eq_getD_getElem?] at hv
        cases h0 : a.tmps[dj]? with
        | none => rfl
        | some u => rw [h0] at hv; simp only [Option.getD_some] at hv; rw [hv]; rfl
      simp [Region.wanted, hog, hy]
    · exact hk.elim

/-- A slot that a skipped operation leaves. -/
theorem SInv.skipped (S : SInv nt w0 Fo B σ a w μ own) {o : Oper} {ao : AOper} {ops : Array Oper} (hok : OpOk ops nt o ao) : SInv nt w0 Fo B ⟨put σ.t ao.d .undef, σ.h, σ.g⟩ (a.put o.dst undef) w μ own := by
  refine ⟨S.inv, ?_, ?_, ?_⟩
  · have := TRel.put S.tmps ao.d (fun d hd => by exact Nat.lt_of_lt_of_le (hok.lt d hd) S.size) (d := .undef) (v := undef) .undef
    rw [hok.dst]; exact this
  · cases o.dst <;> simp [Act.put, S.size]
  · cases o.dst <;> simp [Act.put, S.defers]

/-- The end of a piece of a text, as the clean run has it. -/
def After (nt : Nat) (w0 : World) (Fo : Nat → Prop) (B : Option Nat) (w : World) (h : List Ent) (μ : Nat → Value) (G : Nat) (own : List Nat) (R : St → Prop) (a' : Act) (w' : World) : Prop :=
  ∃ (σ' : St) (μ' : Nat → Value) (o' : List Nat), R σ' ∧ Out w0 Fo B w h μ G own w' σ'.h μ' σ'.g o' ∧ SInv nt w0 Fo B σ' a' w' μ' o'

theorem ops_sound (hty : TyOk C.P C.tt) {ops : Array Oper} {aops : List AOper} (hlen : aops.length = ops.size) (hok : ∀ (i : Nat) (o : Oper) (ao : AOper), ops[i]? = some o → aops[i]? = some ao → OpOk ops nt o ao)
    {kb : Nat} {inlK : Nat → List D → List Ent → Nat → (D → List Ent → Nat → Prop) → Prop} (hin : InlOk C inlK) {R : St → Prop} :
    ∀ (l : List AOper) (k : Nat), (∀ j, l[j]? = aops[k + j]?) → ∀ (σ : St) (a : Act) (w : World) (μ : Nat → Value) (own : List Nat), SInv nt w0 Fo B σ a w μ own → opsK C kb inlK l σ R →
      (∀ a' w', After nt w0 Fo B w σ.h μ σ.g own R a' w' → Q .normal a' w') → wpOps C.P ops Q (List.range' k l.length) a w
  | [], k, hl, σ, a, w, μ, own, S, hk, hQ' => by
    simp only [List.length_nil, List.range'_zero, wpOps]
    exact hQ' a w ⟨σ, μ, own, hk, S.inv.refl, S⟩
  | ao :: l, k, hl, σ, a, w, μ, own, S, hk, hQ' => by
    simp only [List.length_cons, List.range'_succ]
    have hao : aops[k]? = some ao := by have := hl 0; simpa using this.symm
    have hkl : k < ops.size := by rw [← hlen]; exact (List.getElem?_eq_some_iff.1 hao).1
    have ho : ops[k]? = some ops[k] := Array.getElem?_eq_getElem hkl
    have hokk := hok k _ ao ho hao
    have hl' : ∀ j, l[j]? = aops[k + 1 + j]? := fun j => by have := hl (j + 1); simpa [Nat.add_assoc, Nat.add_comm 1 j] using this
    rw [wpOps_cons]
    unfold wpOp
    rw [ho]
    simp only [opsK] at hk
    obtain ⟨t', S', hd⟩ := guard_sound S hokk hk
    rcases hd with ⟨hw, hk⟩ | ⟨hw, hk⟩
    · simp only [hw, if_true]
      refine .inl (Oper.wp_mono ?_ (step_sound (Q := Q) hty S' hokk hin hk))
      rintro a' w' ⟨d, h', μ', G', o', hk', out, S''⟩
      refine ops_sound hty hlen hok hin l (k + 1) hl' ⟨put t' ao.d d, h', G'⟩ a' w' μ' o' S'' hk' (fun a2 w2 hA => hQ' a2 w2 ?_)
      obtain ⟨σ2, μ2, o2, hR, out2, S2⟩ := hA
      exact ⟨σ2, μ2, o2, hR, Out.trans out out2, S2⟩
    · simp only [hw, Bool.false_eq_true, if_false]
      exact ops_sound hty hlen hok hin l (k + 1) hl' ⟨put t' ao.d .undef, σ.h, σ.g⟩ _ w μ own (S'.skipped hokk) hk hQ'

end
end Go.PS
