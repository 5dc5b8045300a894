/- The laws' functions. -/
import Derived.Test.YtdojebhmkbfppaaCi
set_option maxRecDepth 100000
set_option linter.unusedVariables false
set_option linter.unusedSimpArgs false
namespace Go.PS
open Go.Proofs

theorem szR_le : ∀ (a : List (List Int)) (n : Int), 0 ≤ szR a n → ∀ r ∈ a, (r.length : Int) ≤ n
  | [], n, h, r, hr => by cases hr
  | x :: a, n, h, r, hr => by
    simp only [szR] at h
    split at h
    · omega
    · rename_i hx
      have h1 : szI x n = n - x.length ∧ (x.length : Int) ≤ n := by
        unfold szI at hx ⊢
        split
        · rename_i h2; rw [if_pos h2] at hx; omega
        · omega
      rcases List.mem_cons.1 hr with rfl | hr
      · exact h1.2
      · have := szR_le a _ h r hr
        omega

theorem sz_ok {u : List Int} {t : List (List Int)} (h : 0 ≤ szA u t 1048576) : Big u.length ∧ BigR t := by
  unfold szA at h
  split at h
  · omega
  · rename_i h1
    have h2 : szI u 1048576 = 1048576 - u.length ∧ (u.length : Int) ≤ 1048576 := by
      unfold szI at h1 ⊢
      split
      · rename_i h2; rw [if_pos h2] at h1; omega
      · omega
    unfold szII at h
    split at h
    · omega
    · refine ⟨by unfold Big; omega, by unfold Big; omega, fun r hr => ?_⟩
      have := szR_le _ _ h r hr
      unfold Big; omega

theorem FnExactValueOf_pc (u : List Int) (t : List (List Int)) (l nm : List Int) (hu : Hu u.length) (ht : HuR t) (hl : Hu l.length) (hm : Hu nm.length) : PC Try.prog 3 [AL u t, IL l, IL nm] none true (fun r _ => r = .bool true) := by
  refine pcT [fm_szAlgebra, fm_toAlgebra, fm_toIntS, fm_ValueOfS, fm_ValueOfI, fm_eqAlgebra, fm_eqIntS] fok_3 ?_
  simp [fa_3, hu, ht]
  intro h1 h2 h3
  have hl : Big l.length := by unfold Big; omega
  have hm : Big nm.length := by unfold Big; omega
  have hb := sz_ok h3
  simp [hb.1, hb.2, hl, hm]

end Go.PS
