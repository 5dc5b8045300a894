/- Part 7 of what the last text proves: Maps keep opposites: the law holds at every input. -/
import Derived.Test.YthbdihoacfhflaaRb6
import Derived.WalkKit
import Derived.ProofKit
import Derived.Deep.Matrix
section
-- From a call's contract to the row that is given: how the arguments are read.
set_option linter.unusedVariables false
set_option linter.unusedSimpArgs false
namespace Go.PS
open Go.Proofs Go.ChangeShapes Go.WideShapes Go.ChangeAt Go.RowKit

theorem below_grown {a b : World} (h : a.grownBy b none) : Below a.heap.size a b := ⟨h.os, h.tape, h.output, h.size, fun k hk => h.block k hk (by simp)⟩

section
variable {H : Type} {enc : TypeId × Value → H} {P : Program} {W : World} {base : Nat}

theorem row_lt {b k : Nat} {v : Value} (h : W.cell? ⟨b, k, none⟩ = some v) : b < W.heap.size := by
  unfold World.cell? at h
  cases hb : W.heap[b]? with
  | none => simp [hb] at h
  | some o => exact (Array.getElem?_eq_some_iff.1 hb).1

/-- The bytes of a row. -/
theorem rep_bytes {a : Addr} {len cap : Nat} {zs : List Int} (hl : len ≤ cap) (hm : cap ≤ maxLen) (hz : zs.length = cap) (hcell : ∀ i, i < zs.length → W.cell? (a.add i) = some (.int .u8 (zs.getD i 0))) :
    Rep W (fun _ => False) (.list 1 ((zs.take len).map (D.int .u8))) (.slice (some a) len cap) ∧ (zs.take len).length = len := by
  have hlen : (zs.take len).length = len := by rw [List.length_take]; omega
  refine ⟨?_, hlen⟩
  rcases Nat.eq_zero_or_pos len with h0 | hpos
  · subst h0
    exact .listE 1 (some a) cap
  · have hs := World.cell?_spot (hcell 0 (by omega))
    obtain ⟨b, o, sp⟩ := a
    have hsp : sp = none := hs
    subst hsp
    have hc : ∀ i, i < len → W.cell? ⟨b, o + i, none⟩ = some (.int .u8 (gi zs i)) := fun i hi => by
      have := hcell i (by omega)
      rw [show zs.getD i 0 = gi zs i from by simp [gi, List.getD_eq_getElem?_getD]] at this
      rwa [add_plain] at this
    have := Rep.list (w := W) (F := fun _ => False) 1 ((zs.take len).map (D.int .u8)) ((List.range len).map fun i => .int .u8 (gi zs i)) b o cap (by simp; omega) (by simp; omega) (by simp; omega) (fun i d v hd hv => by
      have hi : i < len := by have := (List.getElem?_eq_some_iff.1 hv).1; simpa using this
      rw [List.getElem?_map, List.getElem?_range hi] at hv
      injection hv with hv
      subst hv
      rw [List.getElem?_map, List.getElem?_take, if_pos hi] at hd
      obtain ⟨z, hz1, rfl⟩ := Option.map_eq_some_iff.1 hd
      have hz2 : gi zs i = z := by simp [gi, hz1]
      show Rep W _ _ (.int .u8 (gi zs i))
      rw [hz2]
      exact .int _ _) (fun i v hv => by
      have hi : i < len := by have := (List.getElem?_eq_some_iff.1 hv).1; simpa using this
      rw [List.getElem?_map, List.getElem?_range hi] at hv
      injection hv with hv
      subst hv
      refine ⟨rfl, fun j w hw => ?_⟩
      have hj : j = 0 := by
        have := (Array.getElem?_eq_some_iff.1 hw).1
        simp [Value.cells] at this
        omega
      subst hj
      have : w = .int .u8 (gi zs i) := by simpa [Value.cells] using hw.symm
      subst this
      refine ⟨rfl, ?_⟩
      rw [Nat.mul_one, Nat.add_zero]
      exact hc i hi) (row_lt (hc 0 hpos)) (fun h => h)
    rw [show ((zs.take len).map (D.int .u8)).length = len by simpa using hlen] at this
    exact this

theorem open_bl {t e : TypeId} {fuel : Nat} {v : Value} {x : DataW H × List MemPlace} (ht : P.underlying t = some (.slice e)) (he : P.underlying e = some (.int .u8)) (hc : P.cellsOf e = 1)
    (h : DataW.trod enc P W 0 (fun _ => true) true fuel t [v] = some x) : ∃ xs : List Int, Rep W (fun _ => False) (.list 1 (xs.map (D.int .u8))) v ∧ Hu xs.length ∧ ∀ z ∈ xs, 0 ≤ z ∧ z ≤ 255 := by
  rcases open_ints ht he hc h with ⟨hcs, _⟩ | ⟨a, len, cap, zs, hcs, _, hl, hm, hz, _, hcell, hwz⟩
  · have : v = .slice none 0 0 := by simpa using hcs
    subst this
    exact ⟨[], .listE 1 none 0, Nat.zero_le _, fun z hz => by cases hz⟩
  · have : v = .slice (some a) len cap := by simpa using hcs
    subst this
    have hz' : zs.length = cap := by simpa using hz
    obtain ⟨h1, h2⟩ := rep_bytes hl hm hz' hcell
    have hmx : maxLen = 9223372036854775807 := rfl
    refine ⟨zs.take len, h1, by unfold Hu; omega, fun z hz => ?_⟩
    have hw := hwz z (List.mem_of_mem_take hz)
    have hw : (decide (IntKind.u8.min ≤ z) && decide (z ≤ IntKind.u8.max)) = true := hw
    have e1 : IntKind.u8.min = 0 := by decide
    have e2 : IntKind.u8.max = 255 := by decide
    rw [e1, e2] at hw
    simpa using hw

end

/-- What a contract says of a call with arguments as they were read. -/
theorem call_true {P : Program} {f : Nat} {ds : List D} {W : World} {vs : List Value} (hp : PC P f ds none true (fun r _ => r = .bool true)) (hl : vs.length = ds.length) (hr : ∀ (i : Nat) (d : D) (v : Value), ds[i]? = some d → vs[i]? = some v → Rep W (fun _ => False) d v) :
    Calls P f vs.toArray W fun e W' => e = .returned (.bool true) ∧ Below W.heap.size W W' := by
  refine (hp.2 W vs (fun _ => False) none (fun _ h => h.elim) hl (fun i d v hd hv => .inl (hr i d v hd hv)) rfl).mono ?_
  rintro e W' ⟨v, r, cs', o, rfl, rfl, _, hg, ho, _, _⟩
  refine ⟨?_, below_grown hg⟩
  cases ho with
  | base _ _ h => cases h; rfl

end Go.PS
end
