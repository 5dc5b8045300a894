/- The law of the least power. -/
import Derived.Test.YtdojebhmkbfppaaLb
import Derived.Test.YtdojebhmkbfppaaCk
set_option maxRecDepth 100000
set_option linter.unusedVariables false
set_option linter.unusedSimpArgs false
namespace Go.PS
open Go.Proofs

theorem FnExactLeastPower_pc (u : List Int) (t : List (List Int)) (l m : List Int) (hu : Hu u.length) (ht : HuR t) (hl : Hu l.length) (hm : Hu m.length) : PC Try.prog 13 [AL u t, IL l, IL m] none true (fun r _ => r = .bool true) := by
  refine pcT [fm_szAlgebra, fm_toAlgebra, fm_toIntS, fm_leastS, fm_leastI, fm_eqAlgebra, fm_eqIntS] fok_13 ?_
  simp [fa_13, hu, ht]
  intro h1 h2 h3
  have hl : Big l.length := by unfold Big; omega
  have hm : Big m.length := by unfold Big; omega
  have hb := sz_ok h3
  simp [hb.1, hb.2, hl, hm]
  refine cutW (tabK_mono _) [(56, .bool false)] (by simp) ?_
  simp [hb.1, hb.2, hl, hm]

end Go.PS
