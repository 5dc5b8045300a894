/- Part 4 of what the last text proves: Nuclei are found: the law holds at every input. -/
import Derived.Test.YteegdecbdobdpaaQn3
import Derived.Test.YteegdecbdobdpaaRows
import Derived.Test.YteegdecbdobdpaaChecked
import Derived.WalkKit
import Derived.ProofKit
import Derived.JoinedOf
section
-- Facts of the program's head that every row asks, proved without unfolding the whole.
set_option maxRecDepth 100000
namespace Go.Proofs.Yteegdecbdobdpaa.Facts
open Go Go.Proofs
/-- The head's words, sign by sign. -/
def codes : List Nat := [104, 97, 114, 110, 101, 115, 115, 32, 102, 48, 100, 102, 48, 98, 101, 99, 52, 48, 99, 54, 48, 53, 97, 52, 97, 52, 99, 100, 51, 52, 55, 102, 48, 51, 102, 52, 98, 49, 98, 55, 102, 51, 52, 101, 56, 56, 55, 48, 57, 55, 101, 100, 100, 56, 100, 100, 55, 100, 101, 97, 48, 51, 51, 56, 102, 55, 55, 97, 101, 97, 98, 99, 32, 99, 117, 116, 32, 97, 116, 32, 108, 111, 111, 112, 46, 101, 120, 97, 109, 112, 108, 101, 47, 114, 101, 115, 105, 100, 117, 97, 116, 101, 100, 116, 97, 98, 108, 101, 115, 47, 108, 97, 119, 115, 46, 70, 110, 69, 120, 97, 99, 116, 80, 114, 105, 109, 101, 70, 105, 108, 116, 101, 114, 115, 32, 108, 111, 111, 112, 46, 101, 120, 97, 109, 112, 108, 101, 47, 114, 101, 115, 105, 100, 117, 97, 116, 101, 100, 116, 97, 98, 108, 101, 115, 47, 108, 97, 119, 115, 46, 70, 110, 69, 120, 97, 99, 116, 67, 104, 97, 105, 110, 115, 79, 102, 32, 108, 111, 111, 112, 46, 101, 120, 97, 109, 112, 108, 101, 47, 114, 101, 115, 105, 100, 117, 97, 116, 101, 100, 116, 97, 98, 108, 101, 115, 47, 108, 97, 119, 115, 46, 70, 110, 69, 120, 97, 99, 116, 67, 104, 97, 105, 110, 67, 111, 117, 110, 116, 32, 108, 111, 111, 112, 46, 101, 120, 97, 109, 112, 108, 101, 47, 114, 101, 115, 105, 100, 117, 97, 116, 101, 100, 116, 97, 98, 108, 101, 115, 47, 108, 97, 119, 115, 46, 70, 110, 86, 97, 108, 105, 100, 65, 108, 103, 101, 98, 114, 97, 32, 108, 111, 111, 112, 46, 101, 120, 97, 109, 112, 108, 101, 47, 114, 101, 115, 105, 100, 117, 97, 116, 101, 100, 116, 97, 98, 108, 101, 115, 47, 108, 97, 119, 115, 46, 70, 110, 69, 120, 97, 99, 116, 70, 105, 120, 101, 100, 66, 121, 32, 108, 111, 111, 112, 46, 101, 120, 97, 109, 112, 108, 101, 47, 114, 101, 115, 105, 100, 117, 97, 116, 101, 100, 116, 97, 98, 108, 101, 115, 47, 108, 97, 119, 115, 46, 70, 110, 80, 111, 119, 101, 114, 79, 102, 32, 108, 111, 111, 112, 46, 101, 120, 97, 109, 112, 108, 101, 47, 114, 101, 115, 105, 100, 117, 97, 116, 101, 100, 116, 97, 98, 108, 101, 115, 47, 108, 97, 119, 115, 46, 70, 110, 73, 109, 112, 108, 121, 79, 102, 32, 108, 111, 111, 112, 46, 101, 120, 97, 109, 112, 108, 101, 47, 114, 101, 115, 105, 100, 117, 97, 116, 101, 100, 116, 97, 98, 108, 101, 115, 47, 108, 97, 119, 115, 46, 70, 110, 78, 101, 97, 114, 79, 102, 32, 108, 111, 111, 112, 46, 101, 120, 97, 109, 112, 108, 101, 47, 114, 101, 115, 105, 100, 117, 97, 116, 101, 100, 116, 97, 98, 108, 101, 115, 47, 108, 97, 119, 115, 46, 70, 110, 78, 111, 116, 79, 102, 32, 108, 111, 111, 112, 46, 101, 120, 97, 109, 112, 108, 101, 47, 114, 101, 115, 105, 100, 117, 97, 116, 101, 100, 116, 97, 98, 108, 101, 115, 47, 108, 97, 119, 115, 46, 70, 110, 69, 120, 97, 99, 116, 81, 117, 111, 116, 105, 101, 110, 116, 79, 102, 32, 108, 111, 111, 112, 46, 101, 120, 97, 109, 112, 108, 101, 47, 114, 101, 115, 105, 100, 117, 97, 116, 101, 100, 116, 97, 98, 108, 101, 115, 47, 108, 97, 119, 115, 46, 70, 110, 69, 120, 97, 99, 116, 83, 105, 122, 101, 115, 79, 102, 32, 108, 111, 111, 112, 46, 101, 120, 97, 109, 112, 108, 101, 47, 114, 101, 115, 105, 100, 117, 97, 116, 101, 100, 116, 97, 98, 108, 101, 115, 47, 108, 97, 119, 115, 46, 70, 110, 70, 105, 120, 101, 100, 79, 102, 32, 108, 111, 111, 112, 46, 101, 120, 97, 109, 112, 108, 101, 47, 114, 101, 115, 105, 100, 117, 97, 116, 101, 100, 116, 97, 98, 108, 101, 115, 47, 108, 97, 119, 115, 46, 70, 110, 72, 97, 115, 80, 114, 111, 112, 101, 114, 116, 121, 32, 108, 111, 111, 112, 46, 101, 120, 97, 109, 112, 108, 101, 47, 114, 101, 115, 105, 100, 117, 97, 116, 101, 100, 116, 97, 98, 108, 101, 115, 47, 108, 97, 119, 115, 46, 70, 110, 86, 97, 108, 117, 101, 79, 102, 32, 108, 111, 111, 112, 46, 101, 120, 97, 109, 112, 108, 101, 47, 114, 101, 115, 105, 100, 117, 97, 116, 101, 100, 116, 97, 98, 108, 101, 115, 47, 108, 97, 119, 115, 46, 70, 110, 78, 117, 99, 108, 101, 105, 79, 102, 32, 108, 111, 111, 112, 46, 101, 120, 97, 109, 112, 108, 101, 47, 114, 101, 115, 105, 100, 117, 97, 116, 101, 100, 116, 97, 98, 108, 101, 115, 47, 108, 97, 119, 115, 46, 70, 110, 82, 101, 102, 117, 116, 101, 84, 101, 114, 109]
theorem ini : Try.prog.initOrder = String.ofList (codes.map Char.ofNat) := by kernel_rfl
theorem iniL : Try.prog.initOrder.toList = codes.map Char.ofNat := by rw [ini, String.toList_ofList]
theorem ws0 : (behindMainWord (wordsSigns (codes.map Char.ofNat))).head? = some "cut".toList := by kernel_rfl
theorem ws : ∃ rest, behindMainWord (wordsSigns Try.prog.initOrder.toList) = "cut".toList :: rest := by
  rw [iniL]
  have h := ws0
  revert h
  generalize behindMainWord (wordsSigns (codes.map Char.ofNat)) = X
  intro h
  cases X with
  | nil => cases h
  | cons a r => simp only [List.head?_cons, Option.some.injEq] at h; exact ⟨r, by rw [h]⟩
theorem later : Try.prog.laysLater = false := by kernel_rfl
theorem refl0 : Try.prog.bearsReflect = false := by kernel_rfl
theorem strip (rest : List (List Char)) : stripLifts liftWords ("cut".toList :: rest) = ([], "cut".toList :: rest) := by kernel_rfl
theorem fits : Try.prog.doorFits [] = true := by kernel_rfl
theorem cuts : ("cut".toList == "gc".toList) = false ∧ ("cut".toList == "spec".toList) = false ∧ ("cut".toList == "carried".toList) = false ∧ ("cut".toList == "cut".toList) = true := by decide
theorem me_of {P : Program} {rest : List (List Char)} (h : behindMainWord (wordsSigns P.initOrder.toList) = "cut".toList :: rest) (later : P.laysLater = false) (hrefl : P.bearsReflect = false) (fits : P.doorFits [] = true) : P.mayEnter = true := by
  unfold Program.mayEnter
  rw [h]
  simp only [strip, later, hrefl, fits, cuts]
  rfl
theorem mk_of {P : Program} {rest : List (List Char)} (h : behindMainWord (wordsSigns P.initOrder.toList) = "cut".toList :: rest) : P.make = some .cut := by
  unfold Program.make
  rw [h]
  simp only [cuts]
  rfl
theorem me : Try.prog.mayEnter = true := by
  obtain ⟨rest, h⟩ := ws
  exact me_of h later refl0 fits
theorem mk : Try.prog.make = some .cut := by
  obtain ⟨rest, h⟩ := ws
  exact mk_of h
theorem hl : Try.prog.headLifts = [] := by
  obtain ⟨rest, h⟩ := ws
  unfold Program.headLifts
  rw [h, strip]
  rfl
theorem lf : Try.prog.liftsFinal = false := by
  obtain ⟨rest, h⟩ := ws
  unfold Program.liftsFinal
  rw [h, hl]
  rfl
end Go.Proofs.Yteegdecbdobdpaa.Facts
end
