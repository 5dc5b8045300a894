/- The program's SameBy returns what the reference's returns, for all arguments. -/
import Derived.Test.YtdojebhmkbfppaaQf1
import Derived.OpenShut
import Derived.ShutString
import Derived.ChangeOld
import Derived.SizedLaws
section
-- The program's SameBy returns what the reference's returns, for all arguments.
set_option linter.unusedVariables false
set_option linter.unusedSimpArgs false
namespace Go.Proofs.Ytdojebhmkbfppaa.fnExactSameBy
open Go.ChangeShapes Go.WideShapes Go.ChangeAt Go.RowKit Go.PS
open Go.ChangeMaps (open_string shut_string)
theorem own : ownKnob Try.prog.godebug = none := by kernel_rfl
theorem laidOut : laidOutB Try.prog = true := by kernel_rfl
set_option maxRecDepth 100000 in
theorem lifted (os : Os) (started : os.Started) (H : Type) (enc : TypeId × Value → H) :
    ReturnsInHanded {} Try.checked os 11 .any (Rows.fnExactSameBySpec.pre6 enc Try.prog Try.f11 Rows.fnExactSameByRow.domain false) (Rows.fnExactSameBySpec.post enc Try.prog Try.f11 false true false false) := by
  refine returnsInHanded_of_change (C := Try.checked) own started (by kernel_rfl) Try.func11
    (ChangeSpec.witness6 (enc := enc) (C := Try.checked) false ⟨#[], #[.agg #[.slice none 0 0, .slice none 0 0], .agg #[.slice none 0 0, .slice none 0 0]], []⟩ 8 (by kernel_rfl) (by kernel_rfl) (by kernel_rfl) (by kernel_rfl)) ?_
  intro W base args ds gs before hval0 hW hcnd _
  have hval : ∀ (j : Nat) t v, Try.f11.params[j]? = some t → args[j]? = some v → Value.okWide Try.prog W .any base t v := hval0
  have hW' := hW
  obtain ⟨p, q, hA0, hV, rfl, hfz, hnd⟩ := hW
  have hA : DataW.TrodAll enc Try.prog W 0 (fun _ => true) true Try.f11.params.toList args.toList ds p := hA0
  rw [Try.params11] at hA hval
  obtain ⟨v0, vs0, d0, ds0, p0, q0, hargs, rfl, rfl, h0, r0⟩ := trodAll_cons hA
  obtain ⟨v1, vs1, d1, ds1, p1, q1, rfl, rfl, rfl, h1, r1⟩ := trodAll_cons r0
  obtain ⟨rfl, rfl, rfl⟩ := trodAll_nil r1
  obtain rfl : args = #[v0, v1] := by cases args; simp_all
  obtain ⟨rfl, rfl⟩ := trodVars_none hV
  have k0 := h0
  have lt0 : ∀ x ∈ p0, x.block < W.heap.size := by obtain ⟨m, hm⟩ := k0; exact DataW.trod_lt m _ _ _ hm
  obtain ⟨u0, t0, rp0, su0, st0⟩ : ∃ (u : List Int) (tt : List (List Int)), Rep W (fun _ => False) (AL u tt) v0 ∧ Hu u.length ∧ HuR tt := by
    have hv := (hval 0 25 v0 rfl rfl)
    obtain ⟨fuel, hf⟩ := h0
    exact open_al Try.underlying25 (by kernel_rfl) rfl rfl (by kernel_rfl) (by kernel_rfl) Try.underlying22 Try.underlying23 Try.underlying22 Try.underlying3 (by kernel_rfl) (by kernel_rfl) hv hf
  have k1 := h1
  have lt1 : ∀ x ∈ p1, x.block < W.heap.size := by obtain ⟨m, hm⟩ := k1; exact DataW.trod_lt m _ _ _ hm
  obtain ⟨u1, t1, rp1, su1, st1⟩ : ∃ (u : List Int) (tt : List (List Int)), Rep W (fun _ => False) (AL u tt) v1 ∧ Hu u.length ∧ HuR tt := by
    have hv := (hval 1 25 v1 rfl rfl)
    obtain ⟨fuel, hf⟩ := h1
    exact open_al Try.underlying25 (by kernel_rfl) rfl rfl (by kernel_rfl) (by kernel_rfl) Try.underlying22 Try.underlying23 Try.underlying22 Try.underlying3 (by kernel_rfl) (by kernel_rfl) hv hf
  clear hA0 hval0
  refine (call_true (vs := [v0, v1]) (FnExactSameBy_pc u0 t0 u1 t1 su0 st0 su1 st1) rfl (fun i d v hd hv => ?_)).mono fun e W' ⟨he, bel⟩ => ?_
  · match i with
    | 0 => simp at hd hv; subst hd; subst hv; exact rp0
    | 1 => simp at hd hv; subst hd; subst hv; exact rp1
    | k + 2 => simp at hd
  · subst he
    exact ⟨_, rfl, _, _, _, [], _, [], hW', trodAll_mk1 (shut_bool Try.underlying4 _), (trodAll_cons_mk (Below.trod laidOut (by kernel_rfl) (of_decide_eq_true (by kernel_rfl)) k0 bel lt0) (trodAll_cons_mk (Below.trod laidOut (by kernel_rfl) (of_decide_eq_true (by kernel_rfl)) k1 bel lt1) trodAll_mk0)), rfl, bel.frame _, fun h => by cases h⟩
set_option maxRecDepth 100000 in
theorem closed : joinedFacts Try.prog 11 Try.f11 Rows.fnExactSameBySpec Rows.fnExactSameByRow = true := by
  unfold joinedFacts
  rw [Facts.me, Facts.lf, Facts.mk]
  kernel_rfl
theorem over : Rows.fnExactSameByRow.holds Try.pinned (OpenSpec.ofChange Rows.fnExactSameBySpec) :=
  OpenClaim.holds_of_wide 11 Try.f11 rfl rfl rfl rfl rfl rfl rfl ⟨rfl, rfl, rfl, rfl, rfl⟩ rfl rfl rfl rfl rfl (by kernel_rfl) Try.func11 closed
    (of_decide_eq_true (by kernel_rfl)) (by unfold Func.isWrapper; first | (rw [if_pos (by decide +kernel)]; kernel_rfl) | (rw [if_neg (by decide +kernel)]; exact ⟨rfl, rfl⟩))
    (fun os started H enc _ => lifted os started H enc)
theorem proved : Rows.FnExactSameBySaid := over
#print axioms proved
end Go.Proofs.Ytdojebhmkbfppaa.fnExactSameBy
namespace Go.Proofs.Ytdojebhmkbfppaa
/-- The row, under a short name, for the claim. -/
theorem fnExactSameBy_holds : Rows.FnExactSameBySaid := fnExactSameBy.proved
end Go.Proofs.Ytdojebhmkbfppaa
end
