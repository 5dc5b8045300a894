/- Part 6 of what the last text proves: Maps keep opposites: the law holds at every input. -/
import Derived.Test.YthbdihoacfhflaaRb5
import Derived.Test.YthbdihoacfhflaaRows
import Derived.Test.YthbdihoacfhflaaChecked
import Derived.WalkKit
import Derived.ProofKit
import Derived.JoinedOf
section
-- Facts of the program's head that every row asks, proved without unfolding the whole.
set_option maxRecDepth 100000
namespace Go.Proofs.Ythbdihoacfhflaa.Facts
open Go Go.Proofs
/-- The head's words, sign by sign. -/
def codes : List Nat := [104, 97, 114, 110, 101, 115, 115, 32, 53, 102, 56, 51, 48, 56, 102, 51, 53, 53, 98, 52, 99, 56, 100, 102, 51, 99, 99, 98, 52, 55, 100, 99, 97, 54, 97, 55, 55, 48, 56, 52, 51, 54, 57, 101, 101, 101, 55, 48, 49, 52, 51, 100, 54, 97, 100, 51, 52, 55, 99, 100, 56, 51, 57, 97, 49, 53, 56, 52, 53, 49, 57, 48, 32, 99, 117, 116, 32, 97, 116, 32, 108, 111, 111, 112, 46, 101, 120, 97, 109, 112, 108, 101, 47, 114, 101, 115, 105, 100, 117, 97, 116, 101, 100, 116, 97, 98, 108, 101, 115, 47, 108, 97, 119, 115, 46, 70, 110, 77, 101, 101, 116, 65, 108, 103, 101, 98, 114, 97, 32, 108, 111, 111, 112, 46, 101, 120, 97, 109, 112, 108, 101, 47, 114, 101, 115, 105, 100, 117, 97, 116, 101, 100, 116, 97, 98, 108, 101, 115, 47, 108, 97, 119, 115, 46, 70, 110, 73, 115, 70, 105, 108, 116, 101, 114, 32, 108, 111, 111, 112, 46, 101, 120, 97, 109, 112, 108, 101, 47, 114, 101, 115, 105, 100, 117, 97, 116, 101, 100, 116, 97, 98, 108, 101, 115, 47, 108, 97, 119, 115, 46, 70, 110, 73, 115, 78, 117, 99, 108, 101, 117, 115, 32, 108, 111, 111, 112, 46, 101, 120, 97, 109, 112, 108, 101, 47, 114, 101, 115, 105, 100, 117, 97, 116, 101, 100, 116, 97, 98, 108, 101, 115, 47, 108, 97, 119, 115, 46, 70, 110, 70, 105, 108, 116, 101, 114, 115, 79, 102, 32, 108, 111, 111, 112, 46, 101, 120, 97, 109, 112, 108, 101, 47, 114, 101, 115, 105, 100, 117, 97, 116, 101, 100, 116, 97, 98, 108, 101, 115, 47, 108, 97, 119, 115, 46, 70, 110, 80, 97, 114, 116, 115, 79, 102, 32, 108, 111, 111, 112, 46, 101, 120, 97, 109, 112, 108, 101, 47, 114, 101, 115, 105, 100, 117, 97, 116, 101, 100, 116, 97, 98, 108, 101, 115, 47, 108, 97, 119, 115, 46, 70, 110, 68, 101, 112, 116, 104, 79, 102, 32, 108, 111, 111, 112, 46, 101, 120, 97, 109, 112, 108, 101, 47, 114, 101, 115, 105, 100, 117, 97, 116, 101, 100, 116, 97, 98, 108, 101, 115, 47, 108, 97, 119, 115, 46, 70, 110, 70, 105, 108, 116, 101, 114, 66, 121, 32, 108, 111, 111, 112, 46, 101, 120, 97, 109, 112, 108, 101, 47, 114, 101, 115, 105, 100, 117, 97, 116, 101, 100, 116, 97, 98, 108, 101, 115, 47, 108, 97, 119, 115, 46, 70, 110, 67, 108, 97, 115, 115, 101, 115, 79, 102, 32, 108, 111, 111, 112, 46, 101, 120, 97, 109, 112, 108, 101, 47, 114, 101, 115, 105, 100, 117, 97, 116, 101, 100, 116, 97, 98, 108, 101, 115, 47, 108, 97, 119, 115, 46, 70, 110, 83, 104, 97, 114, 112, 79, 102, 32, 108, 111, 111, 112, 46, 101, 120, 97, 109, 112, 108, 101, 47, 114, 101, 115, 105, 100, 117, 97, 116, 101, 100, 116, 97, 98, 108, 101, 115, 47, 108, 97, 119, 115, 46, 70, 110, 86, 97, 108, 117, 101, 79, 102, 32, 108, 111, 111, 112, 46, 101, 120, 97, 109, 112, 108, 101, 47, 114, 101, 115, 105, 100, 117, 97, 116, 101, 100, 116, 97, 98, 108, 101, 115, 47, 108, 97, 119, 115, 46, 70, 110, 73, 115, 77, 97, 112, 32, 108, 111, 111, 112, 46, 101, 120, 97, 109, 112, 108, 101, 47, 114, 101, 115, 105, 100, 117, 97, 116, 101, 100, 116, 97, 98, 108, 101, 115, 47, 108, 97, 119, 115, 46, 70, 110, 73, 109, 97, 103, 101, 79, 102, 32, 108, 111, 111, 112, 46, 101, 120, 97, 109, 112, 108, 101, 47, 114, 101, 115, 105, 100, 117, 97, 116, 101, 100, 116, 97, 98, 108, 101, 115, 47, 108, 97, 119, 115, 46, 70, 110, 70, 111, 108, 108, 111, 119, 115, 32, 108, 111, 111, 112, 46, 101, 120, 97, 109, 112, 108, 101, 47, 114, 101, 115, 105, 100, 117, 97, 116, 101, 100, 116, 97, 98, 108, 101, 115, 47, 108, 97, 119, 115, 46, 70, 110, 82, 101, 102, 117, 116, 101, 84, 101, 114, 109, 32, 108, 111, 111, 112, 46, 101, 120, 97, 109, 112, 108, 101, 47, 114, 101, 115, 105, 100, 117, 97, 116, 101, 100, 116, 97, 98, 108, 101, 115, 47, 108, 97, 119, 115, 46, 70, 110, 76, 101, 97, 115, 116, 80, 111, 119, 101, 114, 32, 108, 111, 111, 112, 46, 101, 120, 97, 109, 112, 108, 101, 47, 114, 101, 115, 105, 100, 117, 97, 116, 101, 100, 116, 97, 98, 108, 101, 115, 47, 108, 97, 119, 115, 46, 70, 110, 77, 97, 112, 115, 79, 102]
theorem ini : Try.prog.initOrder = String.ofList (codes.map Char.ofNat) := by kernel_rfl
theorem iniL : Try.prog.initOrder.toList = codes.map Char.ofNat := by rw [ini, String.toList_ofList]
theorem ws0 : (behindMainWord (wordsSigns (codes.map Char.ofNat))).head? = some "cut".toList := by kernel_rfl
theorem ws : ∃ rest, behindMainWord (wordsSigns Try.prog.initOrder.toList) = "cut".toList :: rest := by
  rw [iniL]
  have h := ws0
  revert h
  generalize behindMainWord (wordsSigns (codes.map Char.ofNat)) = X
  intro h
  cases X with
  | nil => cases h
  | cons a r => simp only [List.head?_cons, Option.some.injEq] at h; exact ⟨r, by rw [h]⟩
theorem later : Try.prog.laysLater = false := by kernel_rfl
theorem refl0 : Try.prog.bearsReflect = false := by kernel_rfl
theorem strip (rest : List (List Char)) : stripLifts liftWords ("cut".toList :: rest) = ([], "cut".toList :: rest) := by kernel_rfl
theorem fits : Try.prog.doorFits [] = true := by kernel_rfl
theorem cuts : ("cut".toList == "gc".toList) = false ∧ ("cut".toList == "spec".toList) = false ∧ ("cut".toList == "carried".toList) = false ∧ ("cut".toList == "cut".toList) = true := by decide
theorem me_of {P : Program} {rest : List (List Char)} (h : behindMainWord (wordsSigns P.initOrder.toList) = "cut".toList :: rest) (later : P.laysLater = false) (hrefl : P.bearsReflect = false) (fits : P.doorFits [] = true) : P.mayEnter = true := by
  unfold Program.mayEnter
  rw [h]
  simp only [strip, later, hrefl, fits, cuts]
  rfl
theorem mk_of {P : Program} {rest : List (List Char)} (h : behindMainWord (wordsSigns P.initOrder.toList) = "cut".toList :: rest) : P.make = some .cut := by
  unfold Program.make
  rw [h]
  simp only [cuts]
  rfl
theorem me : Try.prog.mayEnter = true := by
  obtain ⟨rest, h⟩ := ws
  exact me_of h later refl0 fits
theorem mk : Try.prog.make = some .cut := by
  obtain ⟨rest, h⟩ := ws
  exact mk_of h
theorem hl : Try.prog.headLifts = [] := by
  obtain ⟨rest, h⟩ := ws
  unfold Program.headLifts
  rw [h, strip]
  rfl
theorem lf : Try.prog.liftsFinal = false := by
  obtain ⟨rest, h⟩ := ws
  unfold Program.liftsFinal
  rw [h, hl]
  rfl
end Go.Proofs.Ythbdihoacfhflaa.Facts
end
