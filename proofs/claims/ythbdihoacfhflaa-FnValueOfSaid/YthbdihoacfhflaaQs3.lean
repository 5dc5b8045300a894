/- Part 3 of what the last text proves: Values of terms: the law holds at every input. -/
import Derived.Test.YthbdihoacfhflaaQs2
import Derived.WalkKit
import Derived.ProofKit
import Derived.Deep.Matrix
section
-- From a call's contract to the row that is given: how the arguments are read.
set_option linter.unusedVariables false
set_option linter.unusedSimpArgs false
namespace Go.PS
open Go.Proofs Go.ChangeShapes Go.WideShapes Go.ChangeAt Go.RowKit

theorem below_grown {a b : World} (h : a.grownBy b none) : Below a.heap.size a b := ⟨h.os, h.tape, h.output, h.size, fun k hk => h.block k hk (by simp)⟩

section
variable {H : Type} {enc : TypeId × Value → H} {P : Program} {W : World} {base : Nat}

theorem row_lt {b k : Nat} {v : Value} (h : W.cell? ⟨b, k, none⟩ = some v) : b < W.heap.size := by
  unfold World.cell? at h
  cases hb : W.heap[b]? with
  | none => simp [hb] at h
  | some o => exact (Array.getElem?_eq_some_iff.1 hb).1

/-- The numbers of a row. -/
theorem rep_ints {a : Addr} {len cap : Nat} {zs : List Int} (hl : len ≤ cap) (hm : cap ≤ maxLen) (hz : zs.length = cap) (hcell : ∀ i, i < zs.length → W.cell? (a.add i) = some (.int .i64 (zs.getD i 0))) :
    Rep W (fun _ => False) (IL (zs.take len)) (.slice (some a) len cap) ∧ (zs.take len).length = len := by
  have hlen : (zs.take len).length = len := by rw [List.length_take]; omega
  refine ⟨?_, hlen⟩
  rcases Nat.eq_zero_or_pos len with h0 | hpos
  · subst h0
    exact .listE 1 (some a) cap
  · have hs := World.cell?_spot (hcell 0 (by omega))
    obtain ⟨b, o, sp⟩ := a
    have hsp : sp = none := hs
    subst hsp
    have hc : ∀ i, i < len → W.cell? ⟨b, o + i, none⟩ = some (.int .i64 (gi zs i)) := fun i hi => by
      have := hcell i (by omega)
      rw [show zs.getD i 0 = gi zs i from by simp [gi, List.getD_eq_getElem?_getD]] at this
      rwa [add_plain] at this
    have := Rep.list (w := W) (F := fun _ => False) 1 (ints (zs.take len)) ((List.range len).map fun i => .int .i64 (gi zs i)) b o cap (by simp; omega) (by simp; omega) (by simp; omega) (fun i d v hd hv => by
      have hi : i < len := by have := (List.getElem?_eq_some_iff.1 hv).1; simpa using this
      rw [List.getElem?_map, List.getElem?_range hi] at hv
      injection hv with hv
      subst hv
      unfold ints at hd
      rw [List.getElem?_map, List.getElem?_take, if_pos hi] at hd
      obtain ⟨z, hz1, rfl⟩ := Option.map_eq_some_iff.1 hd
      have hz2 : gi zs i = z := by simp [gi, hz1]
      show Rep W _ _ (.int .i64 (gi zs i))
      rw [hz2]
      exact .int _ _) (fun i v hv => by
      have hi : i < len := by have := (List.getElem?_eq_some_iff.1 hv).1; simpa using this
      rw [List.getElem?_map, List.getElem?_range hi] at hv
      injection hv with hv
      subst hv
      refine ⟨rfl, fun j w hw => ?_⟩
      have hj : j = 0 := by
        have := (Array.getElem?_eq_some_iff.1 hw).1
        simp [Value.cells] at this
        omega
      subst hj
      have : w = .int .i64 (gi zs i) := by simpa [Value.cells] using hw.symm
      subst this
      refine ⟨rfl, ?_⟩
      rw [Nat.mul_one, Nat.add_zero]
      exact hc i hi) (row_lt (hc 0 hpos)) (fun h => h)
    rw [show (ints (zs.take len)).length = len by simpa using hlen] at this
    exact this

theorem open_il {t e : TypeId} {fuel : Nat} {v : Value} {x : DataW H × List MemPlace} (ht : P.underlying t = some (.slice e)) (he : P.underlying e = some (.int .i64)) (hc : P.cellsOf e = 1)
    (h : DataW.trod enc P W 0 (fun _ => true) true fuel t [v] = some x) : ∃ xs : List Int, Rep W (fun _ => False) (IL xs) v ∧ Hu xs.length := by
  rcases open_ints ht he hc h with ⟨hcs, _⟩ | ⟨a, len, cap, zs, hcs, _, hl, hm, hz, _, hcell, hwz⟩
  · have : v = .slice none 0 0 := by simpa using hcs
    subst this
    exact ⟨[], .listE 1 none 0, Nat.zero_le _⟩
  · have : v = .slice (some a) len cap := by simpa using hcs
    subst this
    have hz' : zs.length = cap := by simpa using hz
    obtain ⟨h1, h2⟩ := rep_ints hl hm hz' hcell
    have : maxLen = 9223372036854775807 := rfl
    exact ⟨zs.take len, h1, by unfold Hu; omega⟩

/-- The bytes of a row. -/
theorem rep_bytes {a : Addr} {len cap : Nat} {zs : List Int} (hl : len ≤ cap) (hm : cap ≤ maxLen) (hz : zs.length = cap) (hcell : ∀ i, i < zs.length → W.cell? (a.add i) = some (.int .u8 (zs.getD i 0))) :
    Rep W (fun _ => False) (.list 1 ((zs.take len).map (D.int .u8))) (.slice (some a) len cap) ∧ (zs.take len).length = len := by
  have hlen : (zs.take len).length = len := by rw [List.length_take]; omega
  refine ⟨?_, hlen⟩
  rcases Nat.eq_zero_or_pos len with h0 | hpos
  · subst h0
    exact .listE 1 (some a) cap
  · have hs := World.cell?_spot (hcell 0 (by omega))
    obtain ⟨b, o, sp⟩ := a
    have hsp : sp = none := hs
    subst hsp
    have hc : ∀ i, i < len → W.cell? ⟨b, o + i, none⟩ = some (.int .u8 (gi zs i)) := fun i hi => by
      have := hcell i (by omega)
      rw [show zs.getD i 0 = gi zs i from by simp [gi, List.getD_eq_getElem?_getD]] at this
      rwa [add_plain] at this
    have := Rep.list (w := W) (F := fun _ => False) 1 ((zs.take len).map (D.int .u8)) ((List.range len).map fun i => .int .u8 (gi zs i)) b o cap (by simp; omega) (by simp; omega) (by simp; omega) (fun i d v hd hv => by
      have hi : i < len := by have := (List.getElem?_eq_some_iff.1 hv).1; simpa using this
      rw [List.getElem?_map, List.getElem?_range hi] at hv
      injection hv with hv
      subst hv
      rw [List.getElem?_map, List.getElem?_take, if_pos hi] at hd
      obtain ⟨z, hz1, rfl⟩ := Option.map_eq_some_iff.1 hd
      have hz2 : gi zs i = z := by simp [gi, hz1]
      show Rep W _ _ (.int .u8 (gi zs i))
      rw [hz2]
      exact .int _ _) (fun i v hv => by
      have hi : i < len := by have := (List.getElem?_eq_some_iff.1 hv).1; simpa using this
      rw [List.getElem?_map, List.getElem?_range hi] at hv
      injection hv with hv
      subst hv
      refine ⟨rfl, fun j w hw => ?_⟩
      have hj : j = 0 := by
        have := (Array.getElem?_eq_some_iff.1 hw).1
        simp [Value.cells] at this
        omega
      subst hj
      have : w = .int .u8 (gi zs i) := by simpa [Value.cells] using hw.symm
      subst this
      refine ⟨rfl, ?_⟩
      rw [Nat.mul_one, Nat.add_zero]
      exact hc i hi) (row_lt (hc 0 hpos)) (fun h => h)
    rw [show ((zs.take len).map (D.int .u8)).length = len by simpa using hlen] at this
    exact this

theorem open_bl {t e : TypeId} {fuel : Nat} {v : Value} {x : DataW H × List MemPlace} (ht : P.underlying t = some (.slice e)) (he : P.underlying e = some (.int .u8)) (hc : P.cellsOf e = 1)
    (h : DataW.trod enc P W 0 (fun _ => true) true fuel t [v] = some x) : ∃ xs : List Int, Rep W (fun _ => False) (.list 1 (xs.map (D.int .u8))) v ∧ Hu xs.length ∧ ∀ z ∈ xs, 0 ≤ z ∧ z ≤ 255 := by
  rcases open_ints ht he hc h with ⟨hcs, _⟩ | ⟨a, len, cap, zs, hcs, _, hl, hm, hz, _, hcell, hwz⟩
  · have : v = .slice none 0 0 := by simpa using hcs
    subst this
    exact ⟨[], .listE 1 none 0, Nat.zero_le _, fun z hz => by cases hz⟩
  · have : v = .slice (some a) len cap := by simpa using hcs
    subst this
    have hz' : zs.length = cap := by simpa using hz
    obtain ⟨h1, h2⟩ := rep_bytes hl hm hz' hcell
    have hmx : maxLen = 9223372036854775807 := rfl
    refine ⟨zs.take len, h1, by unfold Hu; omega, fun z hz => ?_⟩
    have hw := hwz z (List.mem_of_mem_take hz)
    have hw : (decide (IntKind.u8.min ≤ z) && decide (z ≤ IntKind.u8.max)) = true := hw
    have e1 : IntKind.u8.min = 0 := by decide
    have e2 : IntKind.u8.max = 255 := by decide
    rw [e1, e2] at hw
    simpa using hw

theorem open_rl {t e q : TypeId} {fuel : Nat} {v : Value} {x : DataW H × List MemPlace} (ht : P.underlying t = some (.slice e)) (he : P.underlying e = some (.slice q)) (hq : P.underlying q = some (.int .i64)) (ce : P.cellsOf e = 1) (cq : P.cellsOf q = 1)
    (h : DataW.trod enc P W 0 (fun _ => true) true fuel t [v] = some x) : ∃ xs : List (List Int), Rep W (fun _ => False) (RL xs) v ∧ HuR xs := by
  have hmx : maxLen = 9223372036854775807 := rfl
  rcases Deep.open_int_rows ht he hq ce cq h with ⟨hcs, _⟩ | ⟨a, len, cap, A, L, C, Z, hcs, _, hl, hm, _, hrow⟩
  · have : v = .slice none 0 0 := by simpa using hcs
    subst this
    exact ⟨[], .listE 1 none 0, Nat.zero_le _, fun r hr => by cases hr⟩
  · have : v = .slice (some a) len cap := by simpa using hcs
    subst this
    have each : ∀ r, r < cap → Rep W (fun _ => False) (IL ((Z r).take (L r))) (.slice (A r) (L r) (C r)) ∧ Hu ((Z r).take (L r)).length := by
      intro r hr
      obtain ⟨_, r1, r2, r3, _, r5, r6⟩ := hrow r hr
      cases hA : A r with
      | none =>
        have h0 := r5 hA
        rw [show L r = 0 by omega, h0]
        exact ⟨.listE 1 none 0, Nat.zero_le _⟩
      | some a' =>
        obtain ⟨q1, q2⟩ := rep_ints r1 r2 r3 (fun i hi => (r6 a' hA).2 i (by omega))
        exact ⟨q1, by unfold Hu; omega⟩
    refine ⟨(List.range len).map fun r => (Z r).take (L r), ?_, by unfold Hu; simp; omega, fun r hr => ?_⟩
    · rcases Nat.eq_zero_or_pos len with h0 | hpos
      · subst h0
        exact .listE 1 (some a) cap
      · have hs := World.cell?_spot (hrow 0 (by omega)).1
        obtain ⟨b, o, sp⟩ := a
        have hsp : sp = none := hs
        subst hsp
        have hc : ∀ i, i < len → W.cell? ⟨b, o + i, none⟩ = some (.slice (A i) (L i) (C i)) := fun i hi => (by have := (hrow i (by omega)).1; rwa [add_plain] at this)
        have := Rep.list (w := W) (F := fun _ => False) 1 (rowsD ((List.range len).map fun r => (Z r).take (L r))) ((List.range len).map fun i => .slice (A i) (L i) (C i)) b o cap (by simp) (by simp; omega) (by simp; omega) (fun i d v hd hv => by
          have hi : i < len := by have := (List.getElem?_eq_some_iff.1 hv).1; simpa using this
          rw [List.getElem?_map, List.getElem?_range hi] at hv
          injection hv with hv
          subst hv
          unfold rowsD at hd
          rw [List.getElem?_map, List.getElem?_map, List.getElem?_range hi] at hd
          injection hd with hd
          subst hd
          exact (each i (by omega)).1) (fun i v hv => by
          have hi : i < len := by have := (List.getElem?_eq_some_iff.1 hv).1; simpa using this
          rw [List.getElem?_map, List.getElem?_range hi] at hv
          injection hv with hv
          subst hv
          refine ⟨rfl, fun j w hw => ?_⟩
          have hj : j = 0 := by
            have := (Array.getElem?_eq_some_iff.1 hw).1
            simp [Value.cells] at this
            omega
          subst hj
          have : w = .slice (A i) (L i) (C i) := by simpa [Value.cells] using hw.symm
          subst this
          refine ⟨rfl, ?_⟩
          rw [Nat.mul_one, Nat.add_zero]
          exact hc i hi) (row_lt (hc 0 hpos)) (fun h => h)
        simpa using this
    · obtain ⟨i, hi, rfl⟩ := List.mem_map.1 hr
      exact (each i (by have := List.mem_range.1 hi; omega)).2

theorem open_al {t : TypeId} {f0 f1 : Field} {e q : TypeId} {fuel : Nat} {v : Value} {x : DataW H × List MemPlace} (ht : P.underlying t = some (.struct #[f0, f1])) (hC : P.cellsOf t = 2) (o0 : f0.offset = 0) (o1 : f1.offset = 1) (c0 : P.cellsOf f0.type = 1) (c1 : P.cellsOf f1.type = 1)
    (h0 : P.underlying f0.type = some (.slice q)) (h1 : P.underlying f1.type = some (.slice e)) (he : P.underlying e = some (.slice q)) (hq : P.underlying q = some (.int .i64)) (ce : P.cellsOf e = 1) (cq : P.cellsOf q = 1)
    (hval : Value.okWide P W .any base t v) (h : DataW.trod enc P W 0 (fun _ => true) true fuel t v.cells.toList = some x) : ∃ (u : List Int) (tt : List (List Int)), Rep W (fun _ => False) (AL u tt) v ∧ Hu u.length ∧ HuR tt := by
  obtain ⟨cs, rfl, hsz⟩ := okWide_struct ht hval
  rw [hC] at hsz
  obtain ⟨y0, y1, n, _, _, t0, t1⟩ := trod_struct2 ht h
  obtain ⟨a, b, rfl⟩ : ∃ a b, cs = #[a, b] := by
    obtain ⟨l⟩ := cs
    match l, hsz with
    | [a, b], _ => exact ⟨a, b, rfl⟩
  rw [o0, c0] at t0
  rw [o1, c1] at t1
  obtain ⟨u, r0, l0⟩ := open_il h0 hq cq (v := a) t0
  obtain ⟨tt, r1, l1⟩ := open_rl h1 he hq ce cq (v := b) t1
  refine ⟨u, tt, ?_, l0, l1⟩
  refine Rep.agg [IL u, RL tt] [a, b] rfl (fun i d v hd hv => ?_) (fun v hv => ?_)
  · match i with
    | 0 => simp at hd hv; subst hd; subst hv; exact r0
    | 1 => simp at hd hv; subst hd; subst hv; exact r1
    | k + 2 => simp at hd
  · have one : ∀ {sz : Nat} {xs : List D} {v : Value}, Rep W (fun _ => False) (.list sz xs) v → v.oneCell' = true := by
      intro sz xs v r
      cases r <;> rfl
    simp at hv
    rcases hv with rfl | rfl
    · exact one r0
    · exact one r1
end

/-- What a contract says of a call with arguments as they were read. -/
theorem call_true {P : Program} {f : Nat} {ds : List D} {W : World} {vs : List Value} (hp : PC P f ds none true (fun r _ => r = .bool true)) (hl : vs.length = ds.length) (hr : ∀ (i : Nat) (d : D) (v : Value), ds[i]? = some d → vs[i]? = some v → Rep W (fun _ => False) d v) :
    Calls P f vs.toArray W fun e W' => e = .returned (.bool true) ∧ Below W.heap.size W W' := by
  refine (hp.2 W vs (fun _ => False) none (fun _ h => h.elim) hl (fun i d v hd hv => .inl (hr i d v hd hv)) rfl).mono ?_
  rintro e W' ⟨v, r, cs', o, rfl, rfl, _, hg, ho, _, _⟩
  refine ⟨?_, below_grown hg⟩
  cases ho with
  | base _ _ h => cases h; rfl

end Go.PS
end
