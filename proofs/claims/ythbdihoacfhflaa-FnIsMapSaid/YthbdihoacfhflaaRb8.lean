/- Maps keep opposites: the law holds at every input. -/
import Derived.Test.YthbdihoacfhflaaRb7
import Derived.OpenShut
import Derived.ShutString
import Derived.ChangeOld
import Derived.SizedLaws
section
-- Maps keep opposites: the law holds at every input.
set_option linter.unusedVariables false
set_option linter.unusedSimpArgs false
namespace Go.Proofs.Ythbdihoacfhflaa.fnIsMap
open Go.ChangeShapes Go.WideShapes Go.ChangeAt Go.RowKit Go.PS
open Go.ChangeMaps (open_string shut_string)
theorem own : ownKnob Try.prog.godebug = none := by kernel_rfl
theorem laidOut : laidOutB Try.prog = true := by kernel_rfl
set_option maxRecDepth 100000 in
theorem lifted (os : Os) (started : os.Started) (H : Type) (enc : TypeId × Value → H) :
    ReturnsInHanded {} Try.checked os 13 .any (Rows.fnIsMapSpec.pre6 enc Try.prog Try.f13 Rows.fnIsMapRow.domain false) (Rows.fnIsMapSpec.post enc Try.prog Try.f13 false true false false) := by
  refine returnsInHanded_of_change (C := Try.checked) own started (by kernel_rfl) Try.func13
    (ChangeSpec.witness6 (enc := enc) (C := Try.checked) false ⟨#[], #[.slice none 0 0], []⟩ 8 (by kernel_rfl) (by kernel_rfl) (by kernel_rfl) (by kernel_rfl)) ?_
  intro W base args ds gs before hval0 hW hcnd _
  have hval : ∀ (j : Nat) t v, Try.f13.params[j]? = some t → args[j]? = some v → Value.okWide Try.prog W .any base t v := hval0
  have hW' := hW
  obtain ⟨p, q, hA0, hV, rfl, hfz, hnd⟩ := hW
  have hA : DataW.TrodAll enc Try.prog W 0 (fun _ => true) true Try.f13.params.toList args.toList ds p := hA0
  rw [Try.params13] at hA hval
  obtain ⟨v0, vs0, d0, ds0, p0, q0, hargs, rfl, rfl, h0, r0⟩ := trodAll_cons hA
  obtain ⟨rfl, rfl, rfl⟩ := trodAll_nil r0
  obtain rfl : args = #[v0] := by cases args; simp_all
  obtain ⟨rfl, rfl⟩ := trodVars_none hV
  have k0 := h0
  have lt0 : ∀ x ∈ p0, x.block < W.heap.size := by obtain ⟨m, hm⟩ := k0; exact DataW.trod_lt m _ _ _ hm
  obtain ⟨a0, len0, cap0, rfl⟩ := okWide_slice Try.underlying22 (hval 0 22 v0 rfl rfl)
  obtain ⟨xs0, rp0, sz0, by0⟩ : ∃ xs : List Int, Rep W (fun _ => False) (BL xs) (.slice a0 len0 cap0) ∧ Hu xs.length ∧ ∀ z ∈ xs, 0 ≤ z ∧ z ≤ 255 := by
    obtain ⟨fuel, hf⟩ := h0
    exact open_bl Try.underlying22 Try.underlying5 (by kernel_rfl) hf
  clear hA0 hval0
  refine (call_true (vs := [.slice a0 len0 cap0]) (FnIsMap_pc xs0 sz0 by0) rfl (fun i d v hd hv => ?_)).mono fun e W' ⟨he, bel⟩ => ?_
  · match i with
    | 0 => simp at hd hv; subst hd; subst hv; exact rp0
    | k + 1 => simp at hd
  · subst he
    exact ⟨_, rfl, _, _, _, [], _, [], hW', trodAll_mk1 (shut_bool Try.underlying4 _), (trodAll_cons_mk (Below.trod laidOut (by kernel_rfl) (of_decide_eq_true (by kernel_rfl)) k0 bel lt0) trodAll_mk0), rfl, bel.frame _, fun h => by cases h⟩
set_option maxRecDepth 100000 in
theorem closed : joinedFacts Try.prog 13 Try.f13 Rows.fnIsMapSpec Rows.fnIsMapRow = true := by
  unfold joinedFacts
  rw [Facts.me, Facts.lf, Facts.mk]
  kernel_rfl
theorem over : Rows.fnIsMapRow.holds Try.pinned (OpenSpec.ofChange Rows.fnIsMapSpec) :=
  OpenClaim.holds_of_wide 13 Try.f13 rfl rfl rfl rfl rfl rfl rfl ⟨rfl, rfl, rfl, rfl, rfl⟩ rfl rfl rfl rfl rfl (by kernel_rfl) Try.func13 closed
    (of_decide_eq_true (by kernel_rfl)) (by unfold Func.isWrapper; first | (rw [if_pos (by decide +kernel)]; kernel_rfl) | (rw [if_neg (by decide +kernel)]; exact ⟨rfl, rfl⟩))
    (fun os started H enc _ => lifted os started H enc)
theorem proved : Rows.FnIsMapSaid := over
#print axioms proved
end Go.Proofs.Ythbdihoacfhflaa.fnIsMap
namespace Go.Proofs.Ythbdihoacfhflaa
/-- The row, under a short name, for the claim. -/
theorem fnIsMap_holds : Rows.FnIsMapSaid := fnIsMap.proved
end Go.Proofs.Ythbdihoacfhflaa
end
