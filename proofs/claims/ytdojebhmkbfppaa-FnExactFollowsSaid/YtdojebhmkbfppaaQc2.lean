/- The program's Follows returns what the reference's returns, for all arguments. -/
import Derived.Test.YtdojebhmkbfppaaQc1
import Derived.OpenShut
import Derived.ShutString
import Derived.ChangeOld
import Derived.SizedLaws
section
-- The program's Follows returns what the reference's returns, for all arguments.
set_option linter.unusedVariables false
set_option linter.unusedSimpArgs false
namespace Go.Proofs.Ytdojebhmkbfppaa.fnExactFollows
open Go.ChangeShapes Go.WideShapes Go.ChangeAt Go.RowKit Go.PS
open Go.ChangeMaps (open_string shut_string)
theorem own : ownKnob Try.prog.godebug = none := by kernel_rfl
theorem laidOut : laidOutB Try.prog = true := by kernel_rfl
set_option maxRecDepth 100000 in
theorem lifted (os : Os) (started : os.Started) (H : Type) (enc : TypeId × Value → H) :
    ReturnsInHanded {} Try.checked os 10 .any (Rows.fnExactFollowsSpec.pre6 enc Try.prog Try.f10 Rows.fnExactFollowsRow.domain false) (Rows.fnExactFollowsSpec.post enc Try.prog Try.f10 false true false false) := by
  refine returnsInHanded_of_change (C := Try.checked) own started (by kernel_rfl) Try.func10
    (ChangeSpec.witness6 (enc := enc) (C := Try.checked) false ⟨#[], #[.agg #[.slice none 0 0, .slice none 0 0], .slice none 0 0, .slice none 0 0], []⟩ 8 (by kernel_rfl) (by kernel_rfl) (by kernel_rfl) (by kernel_rfl)) ?_
  intro W base args ds gs before hval0 hW hcnd _
  have hval : ∀ (j : Nat) t v, Try.f10.params[j]? = some t → args[j]? = some v → Value.okWide Try.prog W .any base t v := hval0
  have hW' := hW
  obtain ⟨p, q, hA0, hV, rfl, hfz, hnd⟩ := hW
  have hA : DataW.TrodAll enc Try.prog W 0 (fun _ => true) true Try.f10.params.toList args.toList ds p := hA0
  rw [Try.params10] at hA hval
  obtain ⟨v0, vs0, d0, ds0, p0, q0, hargs, rfl, rfl, h0, r0⟩ := trodAll_cons hA
  obtain ⟨v1, vs1, d1, ds1, p1, q1, rfl, rfl, rfl, h1, r1⟩ := trodAll_cons r0
  obtain ⟨v2, vs2, d2, ds2, p2, q2, rfl, rfl, rfl, h2, r2⟩ := trodAll_cons r1
  obtain ⟨rfl, rfl, rfl⟩ := trodAll_nil r2
  obtain rfl : args = #[v0, v1, v2] := by cases args; simp_all
  obtain ⟨rfl, rfl⟩ := trodVars_none hV
  have k0 := h0
  have lt0 : ∀ x ∈ p0, x.block < W.heap.size := by obtain ⟨m, hm⟩ := k0; exact DataW.trod_lt m _ _ _ hm
  obtain ⟨u0, t0, rp0, su0, st0⟩ : ∃ (u : List Int) (tt : List (List Int)), Rep W (fun _ => False) (AL u tt) v0 ∧ Hu u.length ∧ HuR tt := by
    have hv := (hval 0 25 v0 rfl rfl)
    obtain ⟨fuel, hf⟩ := h0
    exact open_al Try.underlying25 (by kernel_rfl) rfl rfl (by kernel_rfl) (by kernel_rfl) Try.underlying22 Try.underlying23 Try.underlying22 Try.underlying3 (by kernel_rfl) (by kernel_rfl) hv hf
  have k1 := h1
  have lt1 : ∀ x ∈ p1, x.block < W.heap.size := by obtain ⟨m, hm⟩ := k1; exact DataW.trod_lt m _ _ _ hm
  obtain ⟨a1, len1, cap1, rfl⟩ := okWide_slice Try.underlying22 (hval 1 22 v1 rfl rfl)
  obtain ⟨xs1, rp1, sz1⟩ : ∃ xs : List Int, Rep W (fun _ => False) (IL xs) (.slice a1 len1 cap1) ∧ Hu xs.length := by
    obtain ⟨fuel, hf⟩ := h1
    exact open_il Try.underlying22 Try.underlying3 (by kernel_rfl) hf
  have k2 := h2
  have lt2 : ∀ x ∈ p2, x.block < W.heap.size := by obtain ⟨m, hm⟩ := k2; exact DataW.trod_lt m _ _ _ hm
  obtain ⟨a2, len2, cap2, rfl⟩ := okWide_slice Try.underlying22 (hval 2 22 v2 rfl rfl)
  obtain ⟨xs2, rp2, sz2⟩ : ∃ xs : List Int, Rep W (fun _ => False) (IL xs) (.slice a2 len2 cap2) ∧ Hu xs.length := by
    obtain ⟨fuel, hf⟩ := h2
    exact open_il Try.underlying22 Try.underlying3 (by kernel_rfl) hf
  clear hA0 hval0
  refine (call_true (vs := [v0, .slice a1 len1 cap1, .slice a2 len2 cap2]) (FnExactFollows_pc u0 t0 xs1 xs2 su0 st0 sz1 sz2) rfl (fun i d v hd hv => ?_)).mono fun e W' ⟨he, bel⟩ => ?_
  · match i with
    | 0 => simp at hd hv; subst hd; subst hv; exact rp0
    | 1 => simp at hd hv; subst hd; subst hv; exact rp1
    | 2 => simp at hd hv; subst hd; subst hv; exact rp2
    | k + 3 => simp at hd
  · subst he
    exact ⟨_, rfl, _, _, _, [], _, [], hW', trodAll_mk1 (shut_bool Try.underlying4 _), (trodAll_cons_mk (Below.trod laidOut (by kernel_rfl) (of_decide_eq_true (by kernel_rfl)) k0 bel lt0) (trodAll_cons_mk (Below.trod laidOut (by kernel_rfl) (of_decide_eq_true (by kernel_rfl)) k1 bel lt1) (trodAll_cons_mk (Below.trod laidOut (by kernel_rfl) (of_decide_eq_true (by kernel_rfl)) k2 bel lt2) trodAll_mk0))), rfl, bel.frame _, fun h => by cases h⟩
set_option maxRecDepth 100000 in
theorem closed : joinedFacts Try.prog 10 Try.f10 Rows.fnExactFollowsSpec Rows.fnExactFollowsRow = true := by
  unfold joinedFacts
  rw [Facts.me, Facts.lf, Facts.mk]
  kernel_rfl
theorem over : Rows.fnExactFollowsRow.holds Try.pinned (OpenSpec.ofChange Rows.fnExactFollowsSpec) :=
  OpenClaim.holds_of_wide 10 Try.f10 rfl rfl rfl rfl rfl rfl rfl ⟨rfl, rfl, rfl, rfl, rfl⟩ rfl rfl rfl rfl rfl (by kernel_rfl) Try.func10 closed
    (of_decide_eq_true (by kernel_rfl)) (by unfold Func.isWrapper; first | (rw [if_pos (by decide +kernel)]; kernel_rfl) | (rw [if_neg (by decide +kernel)]; exact ⟨rfl, rfl⟩))
    (fun os started H enc _ => lifted os started H enc)
theorem proved : Rows.FnExactFollowsSaid := over
#print axioms proved
end Go.Proofs.Ytdojebhmkbfppaa.fnExactFollows
namespace Go.Proofs.Ytdojebhmkbfppaa
/-- The row, under a short name, for the claim. -/
theorem fnExactFollows_holds : Rows.FnExactFollowsSaid := fnExactFollows.proved
end Go.Proofs.Ytdojebhmkbfppaa
end
