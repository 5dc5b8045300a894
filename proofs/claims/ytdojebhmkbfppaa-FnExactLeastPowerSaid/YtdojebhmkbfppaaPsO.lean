/- Every operation of the machine but a call against the clean one. -/
import Derived.Test.YtdojebhmkbfppaaPsN
set_option linter.unusedVariables false
set_option linter.unusedSimpArgs false
set_option linter.unusedSectionVars false
namespace Go.PS

section
variable {P : Program} {tt : Nat → Ty} {o : Oper} {ρ : Operand → Value} {w0 : World} {Fo : Nat → Prop} {B : Option Nat} {w : World} {h : List Ent} {μ : Nat → Value} {G : Nat} {own : List Nat} {K : D → List Ent → Nat → Prop} {t : List (Nat × D)}
variable (hρ : ∀ x, VRep w (FF own Fo) h μ G (ev t (co x)) (ρ x)) (I : HInv w0 Fo B w h μ G own) (hty : TyOk P tt)
include hρ I hty

omit hρ I hty in
theorem oreps_base {w : World} {F : Nat → Prop} {lo : Nat} {xs : List D} {vs : List Value} (hr : ∀ (i : Nat) (d : D) (v : Value), xs[i]? = some d → vs[i]? = some v → Rep w F d v) :
    OReps w F lo xs vs (List.replicate xs.length []) := by
  intro i d v q hd hv hq
  rw [List.getElem?_replicate] at hq
  split at hq
  · injection hq with hq; subst hq; exact .base _ _ (hr i d v hd hv)
  · cases hq

omit hρ I hty in
theorem flatten_nils (n : Nat) : (List.replicate n ([] : List Nat)).flatten = [] := by simp

theorem sound_app {T S : Nat} {x y : Operand} (hop : o.op = .call ⟨.builtin .append, #[x, y], #[T, S]⟩) {a : AOper} (ha : a.o = .app T S (co x) (co y)) {k : Nat} (hk : opK tt k a ⟨t, h, G⟩ K) : Res P o ρ w0 Fo B w h μ G own K := by
  have hy := hρ y
  simp only [opK, ha] at hk
  split at hk
  · exact hk.elim
  · rename_i sz hsz
    obtain ⟨rfl, hz, hk⟩ := hk
    simp only [esz] at hsz
    split at hsz
    · rename_i e hT
      split at hsz
      · rename_i hkn
        injection hsz with hsz
        subst hsz
        have hkn := known_of hkn
        have hz : (tt e).zero.isSome = true := by simpa [ezero, hT] using hz
        have plain : ∀ (es : List D) (vs2 : List Value), Src P w (tt e).sz (ρ y) es.length vs2 → (∀ (i : Nat) (d : D) (v : Value), es[i]? = some d → vs2[i]? = some v → Rep w (FF own Fo) d v) →
            opK.appK k (tt e).sz ⟨t, h, G⟩ (ev t (co x)) es [] K → Res P o ρ w0 Fo B w h μ G own K := fun es vs2 hs hr hk =>
          sound_appK hρ I hty hT hkn hz hop (es := es) (ks := []) (vs2 := vs2) (os2 := List.replicate es.length []) (rest := own) hs (by simp) (oreps_base hr) I.hok (by simpa using I.nodup) (by simp) hk
        split at hk
        · rename_i hev
          rw [hev] at hy
          refine plain [] [] ?_ (by simp) hk
          rw [hy.asNil]
          exact Src.empty none 0
        · rename_i s ys hev
          rw [hev] at hy
          obtain ⟨rfl, hk⟩ := hk
          cases hy with
          | imm _ _ r => cases hyr : ρ y with
            | slice aa ln cp =>
              rw [hyr] at r
              cases r with
              | listE _ a c => exact plain [] [] (by rw [hyr]; exact Src.empty aa cp) (by simp) hk
              | list _ _ vs b q cap g1 g2 g3 g4 g5 g6 g7 =>
                refine plain ys vs ?_ g4 hk
                rw [hyr]
                have := Src.of_row (P := P) (cap := cp) g5
                rwa [g1] at this
            | _ => rw [hyr] at r; cases r
        · rename_i s ys hev
          rw [hev] at hy
          obtain ⟨rfl, hks, hk⟩ := hk
          cases hyr : ρ y with
          | slice aa ln cp =>
            rw [hyr] at hy
            cases hy with
            | imm _ _ r => cases r
            | lit _ _ vs b cap g1 g2 g3 g4 g5 g6 g7 =>
              obtain ⟨os, rest, hl, hr, hrest, hnd, hmem⟩ := ownL_at (n := 5) ys vs g1 (fun i d v hd hv => own_at 5 d v (g4 i d v hd hv)) h own I.hok I.nodup (fun _ _ _ => rfl) hks
              refine sound_appK hρ I hty hT hkn hz hop (vs2 := vs) (os2 := os) (rest := rest) ?_ (by simpa using hl) hr hrest hnd hmem hk
              rw [hyr, List.length_map]
              have := Src.of_row (P := P) (cap := cp) g5
              rwa [g1] at this
          | _ => rw [hyr] at hy; cases hy with | imm _ _ r => cases r
        · rename_i j g hev
          rw [hev] at hy
          split at hk
          · rename_i s ys hf
            obtain ⟨rfl, hsc, _, hk⟩ := hk
            obtain ⟨_, hg, hm⟩ := hy.asArr
            have hm := hm (by rw [hf]; simp)
            obtain ⟨o1, he, _⟩ := I.hok.has h own hf
            rcases he.arrOf.olist_inv with ⟨h1, h2, _⟩ | ⟨vs, os, b', cap, cur, E, hm', _, g1, g2, g3, g4, g5, g6, g7, g8, g9⟩
            · subst h2
              refine plain [] [] ?_ (by simp) hk
              rw [hm, h1]
              exact Src.empty none 0
            · refine plain ys vs ?_ (fun i d v hd hv => ?_) hk
              · rw [hm, hm']
                have := Src.of_row (P := P) (cap := cap) g8
                rwa [g1] at this
              · have hi : i < ys.length := (List.getElem?_eq_some_iff.1 hd).1
                have := g3 i d v _ hd hv (List.getElem?_eq_getElem (by omega))
                have hs := hsc d (List.mem_of_getElem? hd)
                revert this
                generalize os[i]'(by omega) = q
                intro this
                cases this with
                | base _ _ hr => exact hr
                | _ => simp [scal] at hs
          · exact hk.elim
        · exact hk.elim
      · cases hsz
    · cases hsz

/-- All operations but calls. -/
theorem op_sound {a : AOper} (hc : cop o.op = some a.o) (hcall : ∀ f args, a.o ≠ .call f args) (hT : o.type = a.T) {k : Nat} (hk : opK tt k a ⟨t, h, G⟩ K) : Res P o ρ w0 Fo B w h μ G own K := by
  cases hop : o.op with
  | move x => rw [hop] at hc; simp only [cop, Option.some.injEq] at hc; exact sound_mv hρ I (.inl hop) hc.symm hT hk
  | assign x => rw [hop] at hc; simp only [cop, Option.some.injEq] at hc; exact sound_mv hρ I (.inr hop) hc.symm hT hk
  | pick c x y => rw [hop] at hc; simp only [cop, Option.some.injEq] at hc; exact sound_pick hρ I hop hc.symm hk
  | alloc T => rw [hop] at hc; simp only [cop, Option.some.injEq] at hc; exact sound_alloc hρ I hty hop hc.symm hk
  | box T x => rw [hop] at hc; simp only [cop, Option.some.injEq] at hc; exact sound_box hρ I hty hop hc.symm hk
  | build T ps => rw [hop] at hc; simp only [cop, Option.some.injEq] at hc; exact sound_build hρ I hty hop hc.symm hk
  | buildSlice T n ps => rw [hop] at hc; simp only [cop, Option.some.injEq] at hc; exact sound_bslice hρ I hty hop hc.symm hk
  | load T x => rw [hop] at hc; simp only [cop, Option.some.injEq] at hc; exact sound_load hρ I hty hop hc.symm hk
  | store T x v => rw [hop] at hc; simp only [cop, Option.some.injEq] at hc; exact sound_store hρ I hty hop hc.symm hk
  | nilCheck x => rw [hop] at hc; simp only [cop, Option.some.injEq] at hc; exact sound_nilck hρ I hty hop hc.symm hk
  | binOp op T x y T' => rw [hop] at hc; simp only [cop, Option.some.injEq] at hc; exact sound_bin hρ I hty hop hc.symm hk
  | unOp op T x => rw [hop] at hc; simp only [cop, Option.some.injEq] at hc; exact sound_un hρ I hty hop hc.symm hk
  | convert S T x => rw [hop] at hc; simp only [cop, Option.some.injEq] at hc; exact sound_conv hρ I hty hop hc.symm hk
  | makeFunc fn first caps =>
    rw [hop] at hc
    cases fn with
    | func f =>
      simp only [cop] at hc
      split at hc
      · rename_i h0
        simp only [Option.some.injEq] at hc
        exact sound_mkfn hρ I hty hop h0 hc.symm hk
      · cases hc
    | _ => simp [cop] at hc
  | makeSlice T l c => rw [hop] at hc; simp only [cop, Option.some.injEq] at hc; exact sound_make hρ I hty hop hc.symm hk
  | slice T x lo hi mx =>
    rw [hop] at hc
    cases mx with
    | none => simp only [cop, Option.some.injEq] at hc; exact sound_slice hρ I hty hop hc.symm hk
    | some m => simp [cop] at hc
  | fieldAddr T x i => rw [hop] at hc; simp only [cop, Option.some.injEq] at hc; exact sound_faddr hρ I hty hop hc.symm hk
  | field T x i => rw [hop] at hc; simp only [cop, Option.some.injEq] at hc; exact sound_field hρ I hty hop hc.symm hk
  | indexAddr T x i => rw [hop] at hc; simp only [cop, Option.some.injEq] at hc; exact sound_iaddr hρ I hty hop hc.symm hk
  | index T x i => rw [hop] at hc; simp only [cop, Option.some.injEq] at hc; exact sound_index hρ I hty hop hc.symm hk
  | extract x i => rw [hop] at hc; simp only [cop, Option.some.injEq] at hc; exact sound_ext hρ I hty hop hc.symm hk
  | call c =>
    rw [hop] at hc
    simp only [cop] at hc
    obtain ⟨ca, ar, ty⟩ := c
    simp only [] at hc
    obtain ⟨ar⟩ := ar
    obtain ⟨ty⟩ := ty
    simp only [] at hc
    cases ca with
    | value f => simp only [ccall, Option.some.injEq] at hc; exact absurd hc.symm (hcall _ _)
    | invoke r m => simp [ccall] at hc
    | builtin b =>
      unfold ccall at hc
      split at hc
      · rename_i x T e
        simp only [Callee.builtin.injEq] at e
        subst e
        simp only [Option.some.injEq] at hc
        exact sound_len hρ I hty hop hc.symm hk
      · rename_i x y T S e
        simp only [Callee.builtin.injEq] at e
        subst e
        simp only [Option.some.injEq] at hc
        exact sound_app hρ I hty hop hc.symm hk
      · rename_i x y e
        simp only [Callee.builtin.injEq] at e
        subst e
        simp only [Option.some.injEq] at hc
        exact sound_max hρ I hty hop hc.symm hk
      · rename_i x y e
        simp only [Callee.builtin.injEq] at e
        subst e
        simp only [Option.some.injEq] at hc
        exact sound_min hρ I hty hop hc.symm hk
      · rename_i e; cases e
      · cases hc
  | _ => rw [hop] at hc; simp [cop] at hc

end
end Go.PS
