/- Rows of cells: what a list's elements are in memory, and appending. -/
import Derived.Test.YtdojebhmkbfppaaPsE
set_option linter.unusedVariables false
set_option linter.unusedSimpArgs false
namespace Go.PS

def flat (vs : List Value) : List Value := (vs.map fun v => v.cells.toList).flatten

theorem flat_nil : flat [] = [] := rfl
theorem flat_cons (v : Value) (vs : List Value) : flat (v :: vs) = v.cells.toList ++ flat vs := by simp [flat]
theorem flat_append (a b : List Value) : flat (a ++ b) = flat a ++ flat b := by simp [flat]

theorem flat_length {sz : Nat} : ∀ (vs : List Value), (∀ v ∈ vs, v.cells.size = sz) → (flat vs).length = vs.length * sz
  | [], _ => by simp [flat]
  | v :: vs, h => by
    rw [flat_cons, List.length_append, flat_length vs (fun u hu => h u (by simp [hu])), Array.length_toList, h v (by simp), List.length_cons, Nat.add_mul]
    omega

theorem flat_get {sz : Nat} : ∀ (vs : List Value), (∀ v ∈ vs, v.cells.size = sz) → ∀ (i j : Nat) (v u : Value), vs[i]? = some v → v.cells[j]? = some u → (flat vs)[i * sz + j]? = some u
  | [], _, i, j, v, u, hv, _ => by simp at hv
  | w :: vs, h, i, j, v, u, hv, hu => by
    have hw := h w (by simp)
    have hj : j < v.cells.size := (Array.getElem?_eq_some_iff.1 hu).1
    rw [flat_cons]
    cases i with
    | zero =>
      obtain rfl : w = v := by simpa using hv
      rw [Nat.zero_mul, Nat.zero_add, List.getElem?_append_left (by simpa using hj)]
      simpa using hu
    | succ i =>
      rw [List.getElem?_append_right (by rw [Array.length_toList, hw, Nat.add_mul]; omega), Array.length_toList, hw, Nat.add_mul]
      rw [show i * sz + 1 * sz + j - sz = i * sz + j from by omega]
      exact flat_get vs (fun u hu => h u (by simp [hu])) i j v u (by simpa using hv) hu

theorem flat_inv {sz : Nat} : ∀ (vs : List Value), (∀ v ∈ vs, v.cells.size = sz) → ∀ (k : Nat) (u : Value), (flat vs)[k]? = some u → ∃ i j v, k = i * sz + j ∧ vs[i]? = some v ∧ v.cells[j]? = some u
  | [], _, k, u, h => by simp [flat] at h
  | w :: vs, h, k, u, hk => by
    have hw := h w (by simp)
    rw [flat_cons] at hk
    by_cases hlt : k < sz
    · rw [List.getElem?_append_left (by rw [Array.length_toList, hw]; exact hlt)] at hk
      exact ⟨0, k, w, by simp, rfl, by simpa using hk⟩
    · rw [List.getElem?_append_right (by rw [Array.length_toList, hw]; omega), Array.length_toList, hw] at hk
      obtain ⟨i, j, v, he, hv, hu⟩ := flat_inv vs (fun u hu => h u (by simp [hu])) (k - sz) u hk
      exact ⟨i + 1, j, v, by rw [Nat.add_mul]; omega, by simpa using hv, hu⟩

theorem Row.size {w : World} {b o sz : Nat} {vs : List Value} (h : Row w b o sz vs) : ∀ v ∈ vs, v.cells.size = sz := fun v hv => by
  obtain ⟨i, hi⟩ := List.mem_iff_getElem?.1 hv
  exact (h i v hi).1

theorem Row.flat {w : World} {b o sz : Nat} {vs : List Value} (h : Row w b o sz vs) (k : Nat) (u : Value) (hk : (flat vs)[k]? = some u) : u.oneCell' = true ∧ w.cell? ⟨b, o + k, none⟩ = some u := by
  obtain ⟨i, j, v, rfl, hv, hu⟩ := flat_inv vs h.size k u hk
  have := (h i v hv).2 j u hu
  rwa [Nat.add_assoc] at this

theorem Row.of_flat {w : World} {b o sz : Nat} {vs : List Value} (hs : ∀ v ∈ vs, v.cells.size = sz) (h : ∀ (k : Nat) (u : Value), (PS.flat vs)[k]? = some u → u.oneCell' = true ∧ w.cell? ⟨b, o + k, none⟩ = some u) : Row w b o sz vs :=
  fun i v hv => ⟨hs v (List.mem_of_getElem? hv), fun j u hu => by
    have := h (i * sz + j) u (flat_get vs hs i j v u hv hu)
    rwa [← Nat.add_assoc] at this⟩

theorem Row.nil {w : World} {b o sz : Nat} : Row w b o sz [] := fun i v hv => by simp at hv

theorem Row.drop {w : World} {b o sz : Nat} {vs : List Value} (h : Row w b o sz vs) (l : Nat) : Row w b (o + l * sz) sz (vs.drop l) := fun i v hv => by
  rw [List.getElem?_drop] at hv
  refine ⟨(h _ v hv).1, fun j u hu => ?_⟩
  have := (h _ v hv).2 j u hu
  rw [Nat.add_mul, ← Nat.add_assoc o] at this
  exact this

theorem Row.take {w : World} {b o sz : Nat} {vs : List Value} (h : Row w b o sz vs) (n : Nat) : Row w b o sz (vs.take n) := fun i v hv => by
  rw [List.getElem?_take] at hv
  split at hv
  · exact h i v hv
  · cases hv

/-- What 'append' and 'copy' read of their source. -/
def Src (P : Program) (w : World) (sz : Nat) (v : Value) (m : Nat) (vs : List Value) : Prop :=
  (∃ a c, v = .slice a m c) ∧ vs.length = m ∧ (∀ u ∈ vs, u.cells.size = sz) ∧ (∀ u ∈ flat vs, u.oneCell' = true) ∧ ∀ W : World, W.heap = w.heap → (Builtin.firstCells sz m v).run P W = .ok (flat vs).toArray W

theorem Src.of_row {P : Program} {w : World} {sz b o cap : Nat} {vs : List Value} (h : Row w b o sz vs) : Src P w sz (.slice (some ⟨b, o, none⟩) vs.length cap) vs.length vs := by
  refine ⟨⟨_, _, rfl⟩, rfl, h.size, fun u hu => ?_, ?_⟩
  · obtain ⟨k, hk⟩ := List.mem_iff_getElem?.1 hu
    exact (h.flat k u hk).1
  · intro W hW
    refine run_firstCells_some W sz vs.length ⟨b, o, none⟩ vs.length cap (flat vs) (flat_length vs h.size) (fun j v hv => ?_)
    rw [Addr.add_lit, cell?_of_heap (w := w) (by rw [hW])]
    exact (h.flat j v hv).2

theorem Src.empty {P : Program} {w : World} {sz : Nat} (a : Option Addr) (c : Nat) : Src P w sz (.slice a 0 c) 0 [] := by
  refine ⟨⟨_, _, rfl⟩, rfl, by simp, by simp [flat], fun W _ => ?_⟩
  cases a with
  | none => exact run_firstCells_none W sz 0 0 c
  | some a => exact run_firstCells_some W sz 0 a 0 c [] (by simp) (by simp)

section
variable {P : Program} {w : World}

theorem run_append_roomE (t ty e : TypeId) (i : TypeInfo) (ht : P.underlying t = some (.slice e)) (hi : P.info? e = some i)
    (g sLen sCap : Nat) (cur : Array Value) (E : TypeId) (hg : w.heap[g]? = some (.cells cur E (0, 0)))
    (x : Value) (m : Nat) (vs : List Value) (hs : Src P w i.size x m vs)
    (hroom : sLen + m ≤ sCap) (hfit : sLen * i.size + (flat vs).length ≤ cur.size) :
    (Builtin.append_ #[t, t] ty #[.slice (some ⟨g, 0, none⟩) sLen sCap, x]).run P w =
      .ok (.slice (some ⟨g, 0, none⟩) (sLen + m) sCap) (w.setRow g (cur.toList.take (sLen * i.size) ++ flat vs ++ cur.toList.drop (sLen * i.size + (flat vs).length)).toArray) := by
  obtain ⟨⟨a, c, rfl⟩, _, _, h1, hf⟩ := hs
  have hf := hf w rfl
  have hst := run_storeCells_at P g (sLen * i.size) E (flat vs) 0 cur w hg (by simpa using hfit) h1
  simp only [Nat.add_zero] at hst
  simp [Builtin.append_, run_underlying ht, sizeOf, typeInfo, hi, Builtin.lenOf, hroom, hf, Addr.add_lit, hst]

theorem run_append_growE (t ty e : TypeId) (i : TypeInfo) (z : Value) (ht : P.underlying t = some (.slice e)) (hi : P.info? e = some i) (hz : i.zero = some z)
    (a0 : Option Addr) (sLen sCap : Nat) (vs0 : List Value) (hs0 : Src P w i.size (.slice a0 sLen sCap) sLen vs0)
    (x : Value) (m : Nat) (vs : List Value) (hs : Src P w i.size x m vs) (hgrow : sCap < sLen + m) (h63 : sLen + m ≤ 9223372036854775807) (hb : (sLen + m) * i.bytes ≤ 140737488355328) :
    (Builtin.append_ #[t, t] ty #[.slice a0 sLen sCap, x]).run P w =
      .ok (.slice (some ⟨w.heap.size, 0, none⟩) (sLen + m) (grownCap w (sLen + m) sCap e))
        (w.drew.alloc (.cells ((flat vs0).toArray ++ (flat vs).toArray ++ Builtin.zeroCells z.cells (grownCap w (sLen + m) sCap e - (sLen + m))) e)) := by
  obtain ⟨⟨a, c, rfl⟩, _, _, _, hf⟩ := hs
  obtain ⟨_, _, _, _, hf0⟩ := hs0
  have hfit := growslice_fits hgrow hb
  have hn : ¬ (sLen + m ≤ sCap) := by omega
  have h63' : ¬ (9223372036854775807 < ((sLen : Int) + (m : Int))) := by omega
  have h48' : ¬ (281474976710656 < Builtin.nextslicecap (sLen + m) sCap * i.bytes) := by omega
  have hf1 := hf w.drew rfl
  have hf2 := hf0 w.drew rfl
  simp [Builtin.append_, run_underlying ht, sizeOf, typeInfo, zeroValue, hi, hz, Builtin.lenOf, hn, h63', h48', Question.forced, hf1, hf2, newRow, grownCap]
  congr 2
  apply Array.ext'
  simp [List.append_assoc]

end
end Go.PS
