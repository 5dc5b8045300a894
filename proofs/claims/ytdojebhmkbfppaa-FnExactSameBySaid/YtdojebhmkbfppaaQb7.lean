/- Part 7 of what the last text proves: The program's RefuteTerm returns what the reference's returns, for all arguments. -/
import Derived.Test.YtdojebhmkbfppaaQb6
import Derived.WalkKit
import Derived.ProofKit
import Derived.Deep.Matrix
section
-- From a call's contract to the row that is given: how the arguments are read.
set_option linter.unusedVariables false
set_option linter.unusedSimpArgs false
namespace Go.PS
open Go.Proofs Go.ChangeShapes Go.WideShapes Go.ChangeAt Go.RowKit

theorem below_grown {a b : World} (h : a.grownBy b none) : Below a.heap.size a b := ⟨h.os, h.tape, h.output, h.size, fun k hk => h.block k hk (by simp)⟩

section
variable {H : Type} {enc : TypeId × Value → H} {P : Program} {W : World} {base : Nat}

theorem row_lt {b k : Nat} {v : Value} (h : W.cell? ⟨b, k, none⟩ = some v) : b < W.heap.size := by
  unfold World.cell? at h
  cases hb : W.heap[b]? with
  | none => simp [hb] at h
  | some o => exact (Array.getElem?_eq_some_iff.1 hb).1

/-- The numbers of a row. -/
theorem rep_ints {a : Addr} {len cap : Nat} {zs : List Int} (hl : len ≤ cap) (hm : cap ≤ maxLen) (hz : zs.length = cap) (hcell : ∀ i, i < zs.length → W.cell? (a.add i) = some (.int .i64 (zs.getD i 0))) :
    Rep W (fun _ => False) (IL (zs.take len)) (.slice (some a) len cap) ∧ (zs.take len).length = len := by
  have hlen : (zs.take len).length = len := by rw [List.length_take]; omega
  refine ⟨?_, hlen⟩
  rcases Nat.eq_zero_or_pos len with h0 | hpos
  · subst h0
    exact .listE 1 (some a) cap
  · have hs := World.cell?_spot (hcell 0 (by omega))
    obtain ⟨b, o, sp⟩ := a
    have hsp : sp = none := hs
    subst hsp
    have hc : ∀ i, i < len → W.cell? ⟨b, o + i, none⟩ = some (.int .i64 (gi zs i)) := fun i hi => by
      have := hcell i (by omega)
      rw [show zs.getD i 0 = gi zs i from by simp [gi, List.getD_eq_getElem?_getD]] at this
      rwa [add_plain] at this
    have := Rep.list (w := W) (F := fun _ => False) 1 (ints (zs.take len)) ((List.range len).map fun i => .int .i64 (gi zs i)) b o cap (by simp; omega) (by simp; omega) (by simp; omega) (fun i d v hd hv => by
      have hi : i < len := by have := (List.getElem?_eq_some_iff.1 hv).1; simpa using this
      rw [List.getElem?_map, List.getElem?_range hi] at hv
      injection hv with hv
      subst hv
      unfold ints at hd
      rw [List.getElem?_map, List.getElem?_take, if_pos hi] at hd
      obtain ⟨z, hz1, rfl⟩ := Option.map_eq_some_iff.1 hd
      have hz2 : gi zs i = z := by simp [gi, hz1]
      show Rep W _ _ (.int .i64 (gi zs i))
      rw [hz2]
      exact .int _ _) (fun i v hv => by
      have hi : i < len := by have := (List.getElem?_eq_some_iff.1 hv).1; simpa using this
      rw [List.getElem?_map, List.getElem?_range hi] at hv
      injection hv with hv
      subst hv
      refine ⟨rfl, fun j w hw => ?_⟩
      have hj : j = 0 := by
        have := (Array.getElem?_eq_some_iff.1 hw).1
        simp [Value.cells] at this
        omega
      subst hj
      have : w = .int .i64 (gi zs i) := by simpa [Value.cells] using hw.symm
      subst this
      refine ⟨rfl, ?_⟩
      rw [Nat.mul_one, Nat.add_zero]
      exact hc i hi) (row_lt (hc 0 hpos)) (fun h => h)
    rw [show (ints (zs.take len)).length = len by simpa using hlen] at this
    exact this

theorem open_il {t e : TypeId} {fuel : Nat} {v : Value} {x : DataW H × List MemPlace} (ht : P.underlying t = some (.slice e)) (he : P.underlying e = some (.int .i64)) (hc : P.cellsOf e = 1)
    (h : DataW.trod enc P W 0 (fun _ => true) true fuel t [v] = some x) : ∃ xs : List Int, Rep W (fun _ => False) (IL xs) v ∧ Hu xs.length := by
  rcases open_ints ht he hc h with ⟨hcs, _⟩ | ⟨a, len, cap, zs, hcs, _, hl, hm, hz, _, hcell, hwz⟩
  · have : v = .slice none 0 0 := by simpa using hcs
    subst this
    exact ⟨[], .listE 1 none 0, Nat.zero_le _⟩
  · have : v = .slice (some a) len cap := by simpa using hcs
    subst this
    have hz' : zs.length = cap := by simpa using hz
    obtain ⟨h1, h2⟩ := rep_ints hl hm hz' hcell
    have : maxLen = 9223372036854775807 := rfl
    exact ⟨zs.take len, h1, by unfold Hu; omega⟩

theorem open_rl {t e q : TypeId} {fuel : Nat} {v : Value} {x : DataW H × List MemPlace} (ht : P.underlying t = some (.slice e)) (he : P.underlying e = some (.slice q)) (hq : P.underlying q = some (.int .i64)) (ce : P.cellsOf e = 1) (cq : P.cellsOf q = 1)
    (h : DataW.trod enc P W 0 (fun _ => true) true fuel t [v] = some x) : ∃ xs : List (List Int), Rep W (fun _ => False) (RL xs) v ∧ HuR xs := by
  have hmx : maxLen = 9223372036854775807 := rfl
  rcases Deep.open_int_rows ht he hq ce cq h with ⟨hcs, _⟩ | ⟨a, len, cap, A, L, C, Z, hcs, _, hl, hm, _, hrow⟩
  · have : v = .slice none 0 0 := by simpa using hcs
    subst this
    exact ⟨[], .listE 1 none 0, Nat.zero_le _, fun r hr => by cases hr⟩
  · have : v = .slice (some a) len cap := by simpa using hcs
    subst this
    have each : ∀ r, r < cap → Rep W (fun _ => False) (IL ((Z r).take (L r))) (.slice (A r) (L r) (C r)) ∧ Hu ((Z r).take (L r)).length := by
      intro r hr
      obtain ⟨_, r1, r2, r3, _, r5, r6⟩ := hrow r hr
      cases hA : A r with
      | none =>
        have h0 := r5 hA
        rw [show L r = 0 by omega, h0]
        exact ⟨.listE 1 none 0, Nat.zero_le _⟩
      | some a' =>
        obtain ⟨q1, q2⟩ := rep_ints r1 r2 r3 (fun i hi => (r6 a' hA).2 i (by omega))
        exact ⟨q1, by unfold Hu; omega⟩
    refine ⟨(List.range len).map fun r => (Z r).take (L r), ?_, by unfold Hu; simp; omega, fun r hr => ?_⟩
    · rcases Nat.eq_zero_or_pos len with h0 | hpos
      · subst h0
        exact .listE 1 (some a) cap
      · have hs := World.cell?_spot (hrow 0 (by omega)).1
        obtain ⟨b, o, sp⟩ := a
        have hsp : sp = none := hs
        subst hsp
        have hc : ∀ i, i < len → W.cell? ⟨b, o + i, none⟩ = some (.slice (A i) (L i) (C i)) := fun i hi => (by have := (hrow i (by omega)).1; rwa [add_plain] at this)
        have := Rep.list (w := W) (F := fun _ => False) 1 (rowsD ((List.range len).map fun r => (Z r).take (L r))) ((List.range len).map fun i => .slice (A i) (L i) (C i)) b o cap (by simp) (by simp; omega) (by simp; omega) (fun i d v hd hv => by
          have hi : i < len := by have := (List.getElem?_eq_some_iff.1 hv).1; simpa using this
          rw [List.getElem?_map, List.getElem?_range hi] at hv
          injection hv with hv
          subst hv
          unfold rowsD at hd
          rw [List.getElem?_map, List.getElem?_map, List.getElem?_range hi] at hd
          injection hd with hd
          subst hd
          exact (each i (by omega)).1) (fun i v hv => by
          have hi : i < len := by have := (List.getElem?_eq_some_iff.1 hv).1; simpa using this
          rw [List.getElem?_map, List.getElem?_range hi] at hv
          injection hv with hv
          subst hv
          refine ⟨rfl, fun j w hw => ?_⟩
          have hj : j = 0 := by
            have := (Array.getElem?_eq_some_iff.1 hw).1
            simp [Value.cells] at this
            omega
          subst hj
          have : w = .slice (A i) (L i) (C i) := by simpa [Value.cells] using hw.symm
          subst this
          refine ⟨rfl, ?_⟩
          rw [Nat.mul_one, Nat.add_zero]
          exact hc i hi) (row_lt (hc 0 hpos)) (fun h => h)
        simpa using this
    · obtain ⟨i, hi, rfl⟩ := List.mem_map.1 hr
      exact (each i (by have := List.mem_range.1 hi; omega)).2

theorem open_al {t : TypeId} {f0 f1 : Field} {e q : TypeId} {fuel : Nat} {v : Value} {x : DataW H × List MemPlace} (ht : P.underlying t = some (.struct #[f0, f1])) (hC : P.cellsOf t = 2) (o0 : f0.offset = 0) (o1 : f1.offset = 1) (c0 : P.cellsOf f0.type = 1) (c1 : P.cellsOf f1.type = 1)
    (h0 : P.underlying f0.type = some (.slice q)) (h1 : P.underlying f1.type = some (.slice e)) (he : P.underlying e = some (.slice q)) (hq : P.underlying q = some (.int .i64)) (ce : P.cellsOf e = 1) (cq : P.cellsOf q = 1)
    (hval : Value.okWide P W .any base t v) (h : DataW.trod enc P W 0 (fun _ => true) true fuel t v.cells.toList = some x) : ∃ (u : List Int) (tt : List (List Int)), Rep W (fun _ => False) (AL u tt) v ∧ Hu u.length ∧ HuR tt := by
  obtain ⟨cs, rfl, hsz⟩ := okWide_struct ht hval
  rw [hC] at hsz
  obtain ⟨y0, y1, n, _, _, t0, t1⟩ := trod_struct2 ht h
  obtain ⟨a, b, rfl⟩ : ∃ a b, cs = #[a, b] := by
    obtain ⟨l⟩ := cs
    match l, hsz with
    | [a, b], _ => exact ⟨a, b, rfl⟩
  rw [o0, c0] at t0
  rw [o1, c1] at t1
  obtain ⟨u, r0, l0⟩ := open_il h0 hq cq (v := a) t0
  obtain ⟨tt, r1, l1⟩ := open_rl h1 he hq ce cq (v := b) t1
  refine ⟨u, tt, ?_, l0, l1⟩
  refine Rep.agg [IL u, RL tt] [a, b] rfl (fun i d v hd hv => ?_) (fun v hv => ?_)
  · match i with
    | 0 => simp at hd hv; subst hd; subst hv; exact r0
    | 1 => simp at hd hv; subst hd; subst hv; exact r1
    | k + 2 => simp at hd
  · have one : ∀ {sz : Nat} {xs : List D} {v : Value}, Rep W (fun _ => False) (.list sz xs) v → v.oneCell' = true := by
      intro sz xs v r
      cases r <;> rfl
    simp at hv
    rcases hv with rfl | rfl
    · exact one r0
    · exact one r1
end

/-- What a contract says of a call with arguments as they were read. -/
theorem call_true {P : Program} {f : Nat} {ds : List D} {W : World} {vs : List Value} (hp : PC P f ds none true (fun r _ => r = .bool true)) (hl : vs.length = ds.length) (hr : ∀ (i : Nat) (d : D) (v : Value), ds[i]? = some d → vs[i]? = some v → Rep W (fun _ => False) d v) :
    Calls P f vs.toArray W fun e W' => e = .returned (.bool true) ∧ Below W.heap.size W W' := by
  refine (hp.2 W vs (fun _ => False) none (fun _ h => h.elim) hl (fun i d v hd hv => .inl (hr i d v hd hv)) rfl).mono ?_
  rintro e W' ⟨v, r, cs', o, rfl, rfl, _, hg, ho, _, _⟩
  refine ⟨?_, below_grown hg⟩
  cases ho with
  | base _ _ h => cases h; rfl

end Go.PS
end

section
-- Powers, and lists of elements for the names, in plain Lean.
set_option linter.unusedVariables false
set_option linter.unusedSimpArgs false
namespace Go.PS

/-- All lists with one more element. -/
def nxt (n : Nat) (o : List (List Int)) : List (List Int) := o.flatMap fun l => (List.range n).map fun (x : Nat) => l ++ [(x : Int)]
def asgK (n : Nat) : Nat → List (List Int)
  | 0 => [[]]
  | k + 1 => nxt n (asgK n k)

theorem nxt_length (n : Nat) (o : List (List Int)) : (nxt n o).length = o.length * n := by
  unfold nxt
  induction o with
  | nil => simp
  | cons a o ih => simp [ih, Nat.add_mul, Nat.add_comm]
theorem asgK_length (n : Nat) : ∀ k, (asgK n k).length = n ^ k
  | 0 => rfl
  | k + 1 => by rw [asgK, nxt_length, asgK_length n k, Nat.pow_succ]
theorem nxt_take {n j : Nat} {o : List (List Int)} (h : j < o.length) : nxt n (o.take (j + 1)) = nxt n (o.take j) ++ (List.range n).map fun (x : Nat) => gr o j ++ [(x : Int)] := by
  unfold nxt
  rw [List.take_succ_eq_append_getElem h, List.flatMap_append]
  simp [gr, List.getElem?_eq_getElem h]
theorem mem_nxt {n : Nat} {o : List (List Int)} {l : List Int} : l ∈ nxt n o ↔ ∃ a, a ∈ o ∧ ∃ x : Nat, x < n ∧ l = a ++ [(x : Int)] := by
  unfold nxt
  simp only [List.mem_flatMap, List.mem_map, List.mem_range]
  constructor
  · rintro ⟨a, ha, x, hx, rfl⟩; exact ⟨a, ha, x, hx, rfl⟩
  · rintro ⟨a, ha, x, hx, rfl⟩; exact ⟨a, ha, x, hx, rfl⟩
theorem mem_asg3 {n : Nat} {l : List Int} : l ∈ asgK n 3 ↔ ∃ x y z : Nat, x < n ∧ y < n ∧ z < n ∧ l = [(x : Int), (y : Int), (z : Int)] := by
  simp only [asgK, mem_nxt]
  constructor
  · rintro ⟨a, ⟨b, ⟨c, hc, x, hx, rfl⟩, y, hy, rfl⟩, z, hz, rfl⟩
    simp at hc; subst hc
    exact ⟨x, y, z, hx, hy, hz, rfl⟩
  · rintro ⟨x, y, z, hx, hy, hz, rfl⟩
    exact ⟨_, ⟨_, ⟨[], by simp, x, hx, rfl⟩, y, hy, rfl⟩, z, hz, rfl⟩
theorem asgK_row (n : Nat) : ∀ k, ∀ l ∈ asgK n k, l.length = k
  | 0, l, h => by simp [asgK] at h; rw [h]; rfl
  | k + 1, l, h => by
    obtain ⟨a, ha, x, _, rfl⟩ := mem_nxt.1 h
    rw [List.length_append, asgK_row n k a ha]; rfl
theorem asg3_ok {n : Nat} {l : List Int} (h : l ∈ asgK n 3) : NmOk l n := by
  obtain ⟨x, y, z, hx, hy, hz, rfl⟩ := mem_asg3.1 h
  refine ⟨rfl, fun v hv => ?_⟩
  simp at hv
  omega

/-- The product of an element with itself. -/
def powM (u : List Int) (t : List (List Int)) (x : Nat) : Nat → Int
  | 0 => (u.length : Int) - 1
  | k + 1 => tm t (powM u t x k).toNat x
theorem powM_rng {u : List Int} {t : List (List Int)} (f : TF u t) {x : Nat} (hx : x < u.length) : ∀ k, 0 ≤ powM u t x k ∧ powM u t x k < u.length
  | 0 => by have := f.lat.pos; simp only [powM]; omega
  | k + 1 => by
    have ih := powM_rng f hx k
    simp only [powM]
    exact ⟨f.nn _ _ (by omega) hx, f.lt _ _ (by omega) hx⟩

/-- What a join is. -/
theorem VL.join_spec {u : List Int} (v : VL u) {x y : Nat} (hx : x < u.length) (hy : y < u.length) : isJ u x y (joinM u x y).toNat = true ∧ (joinM u x y).toNat < u.length := by
  have h := (v.mj x hx y hy).2
  rcases firstI_range (n := u.length) (p := isJ u x y) with h1 | ⟨z, hz, hp, h1⟩
  · rw [joinM, h1] at h; omega
  · rw [joinM, h1, Int.toNat_natCast]; exact ⟨hp, hz⟩
theorem isJ_ub {u : List Int} {x y z : Nat} (h : isJ u x y z = true) : tb u x z = true ∧ tb u y z = true := by
  simp only [isJ, Bool.and_eq_true] at h; exact h.1
theorem VA.le {u : List Int} {t : List (List Int)} (a : VA u t) {x y : Nat} (hx : x < u.length) (hy : y < u.length) : tb u (tn t x y) x = true := by
  have v := a.lat
  have hp := v.pos
  have htop : u.length - 1 < u.length := by omega
  have j1 := v.join_spec hy htop
  have e1 : (joinM u y (u.length - 1)).toNat = u.length - 1 := by
    have b := isJ_ub j1.1
    have hz := j1.2
    generalize (joinM u y (u.length - 1)).toNat = z at *
    by_cases h : z = u.length - 1
    · exact h
    · have := v.ord.anti z hz (u.length - 1) htop h (v.ord.row z hz).2.2
      rw [b.2] at this; cases this
  have d := a.dist x hx y hy (u.length - 1) htop
  rw [e1, (a.top x hx).1] at d
  have e2 : tn t x (u.length - 1) = x := by rw [tn, (a.top x hx).1]; simp
  rw [e2] at d
  have hxy := a.tf.ltN x y hx hy
  have j2 := v.join_spec hxy hx
  rw [← d, Int.toNat_natCast] at j2
  exact (isJ_ub j2.1).1

/-- Does the power of one term imply the other term with these elements? -/
def okP (u : List Int) (t : List (List Int)) (p q : List Int) (k : Nat) (nm : List Int) : Bool := tb u (powM u t (ev1 u t nm p).1.toNat k).toNat (ev1 u t nm q).1.toNat
theorem okP_mono {u : List Int} {t : List (List Int)} (a : VA u t) {p q nm : List Int} (hp : validT p) (hq : validT q) (hn : NmOk nm u.length) {k : Nat} (h : okP u t p q k nm = true) : okP u t p q (k + 1) nm = true := by
  have f := a.tf
  have h1 := (ev1_ok f hn _ _ _ (Nat.le_refl _) hp.2).1
  have h2 := (ev1_ok f hn _ _ _ (Nat.le_refl _) hq.2).1
  unfold okP at *
  generalize (ev1 u t nm p).1 = x at *
  generalize (ev1 u t nm q).1 = y at *
  have hpw := powM_rng f (x := x.toNat) (by omega) k
  have hpw2 := powM_rng f (x := x.toNat) (by omega) (k + 1)
  have hle := a.le (x := (powM u t x.toNat k).toNat) (y := x.toNat) (by omega) (by omega)
  exact a.lat.ord.trans _ (by omega) (powM u t x.toNat k).toNat (by omega) _ (by omega) hle h

/-- The least power with which one term implies the other one. -/
noncomputable def lpI (u : List Int) (t : List (List Int)) (p q : List Int) : Int := firstI 21 fun k => (asgK u.length 3).all (okP u t p q k)
noncomputable def lpM (u : List Int) (t : List (List Int)) (p q : List Int) : Int × Bool := if decide (VA u t) && decide (validT p) && decide (validT q) && decide (0 ≤ lpI u t p q) then (lpI u t p q, true) else (0, false)

end Go.PS
end

section
-- PRINTED by gen.py: clean texts of functions, and their tie to the program.
set_option maxRecDepth 100000
namespace Go.PS
open Go.Proofs
/-- spec.assignments -/
def an_101 : Ann := ⟨[(5, 0, 1), (12, 1, 1), (12, 10, 2), (13, 1, 2)], [(0, [0]), (1, [0, 3]), (2, [0, 3, 4]), (3, [0, 3, 4, 11]), (5, [0, 3, 4, 5]), (6, [0, 3, 4, 5, 6]), (7, [0, 3, 4, 5, 6, 18]), (9, [0, 3, 4, 5, 6, 7]), (10, [0, 3, 4, 5, 6, 7, 23]), (12, [0, 3, 4, 5, 6, 7]), (11, [0, 3, 4, 5, 6, 7]), (8, [0, 3, 4, 5, 6]), (13, [0, 3, 4]), (4, [0, 3, 4]), (14, [2])], [(3, [0, 3, 4], [112, 296]), (7, [0, 3, 4, 5, 6], [112, 296]), (10, [0, 3, 4, 5, 6, 7], [112, 296])], []⟩
def lb_101_10 : AC :=
  (.seq
    (.seq
      (.region false [⟨some 21, (.mv (.t 7)), 3, none, 0⟩, ⟨some 22, (.mv (.t 0)), 3, none, 0⟩, ⟨some 23, (.bin .lss 3 (.t 21) (.t 22)), 4, none, 0⟩] (some [0, 3, 4, 5, 6, 7, 23]))
      (.cond (.t 23)
        .skip
        (.exit 4)))
    (.seq
      (.block 5
        (.region false [⟨some 26, (.mv (.t 5)), 23, none, 0⟩, ⟨some 27, (.bslice 22 0 []), 22, none, 1⟩, ⟨some 28, (.mv (.t 3)), 23, none, 0⟩, ⟨some 29, (.mv (.t 6)), 3, none, 0⟩, ⟨some 30, (.iaddr 23 (.t 28) (.t 29)), 0, none, 0⟩, ⟨some 31, (.load 22 (.t 30)), 22, none, 0⟩, ⟨some 32, (.app 22 22 (.t 27) (.t 31)), 22, none, 0⟩, ⟨some 33, (.mv (.t 7)), 3, none, 0⟩, ⟨some 34, (.bslice 22 1 [(0, (.t 33))]), 22, none, 0⟩, ⟨some 35, (.app 22 22 (.t 32) (.t 34)), 22, none, 0⟩, ⟨some 36, (.bslice 23 1 [(0, (.t 35))]), 23, none, 2⟩, ⟨some 37, (.app 23 23 (.t 26) (.t 36)), 23, none, 0⟩, ⟨some 5, (.mv (.t 37)), 23, none, 0⟩] (some [0, 3, 4, 5, 6, 7])))
      (.region false [⟨some 24, (.mv (.t 7)), 3, none, 0⟩, ⟨some 25, (.bin .add 3 (.t 24) (.c (.int .i64 1))), 3, none, 0⟩, ⟨some 7, (.mv (.t 25)), 3, none, 0⟩] (some [0, 3, 4, 5, 6, 7]))))
def lb_101_7 : AC :=
  (.seq
    (.seq
      (.region false [⟨some 15, (.mv (.t 6)), 3, none, 0⟩, ⟨some 16, (.mv (.t 3)), 23, none, 0⟩, ⟨some 17, (.len 23 (.t 16)), 3, none, 0⟩, ⟨some 18, (.bin .lss 3 (.t 15) (.t 17)), 4, none, 0⟩] (some [0, 3, 4, 5, 6, 18]))
      (.cond (.t 18)
        .skip
        (.exit 2)))
    (.seq
      (.block 3
        (.seq
          (.region false [⟨some 7, (.mv (.c (.int .i64 0))), 3, none, 0⟩] (some [0, 3, 4, 5, 6, 7]))
          (.block 4
            (.loop [0, 3, 4, 5, 6, 7] [112, 296] lb_101_10))))
      (.region false [⟨some 19, (.mv (.t 6)), 3, none, 0⟩, ⟨some 20, (.bin .add 3 (.t 19) (.c (.int .i64 1))), 3, none, 0⟩, ⟨some 6, (.mv (.t 20)), 3, none, 0⟩] (some [0, 3, 4, 5, 6]))))
def lb_101_3 : AC :=
  (.seq
    (.seq
      (.region false [⟨some 10, (.mv (.t 4)), 3, none, 0⟩, ⟨some 11, (.bin .lss 3 (.t 10) (.c (.int .i64 3))), 4, none, 0⟩] (some [0, 3, 4, 11]))
      (.cond (.t 11)
        .skip
        (.exit 0)))
    (.seq
      (.block 1
        (.seq
          (.region false [⟨some 14, (.bslice 23 0 []), 23, none, 1⟩, ⟨some 5, (.mv (.t 14)), 23, none, 0⟩] (some [0, 3, 4, 5]))
          (.seq
            (.seq
              (.region false [⟨some 6, (.mv (.c (.int .i64 0))), 3, none, 0⟩] (some [0, 3, 4, 5, 6]))
              (.block 2
                (.loop [0, 3, 4, 5, 6] [112, 296] lb_101_7)))
            (.region false [⟨some 38, (.mv (.t 5)), 23, none, 0⟩, ⟨some 3, (.mv (.t 38)), 23, none, 2⟩] (some [0, 3, 4])))))
      (.region false [⟨some 12, (.mv (.t 4)), 3, none, 0⟩, ⟨some 13, (.bin .add 3 (.t 12) (.c (.int .i64 1))), 3, none, 0⟩, ⟨some 4, (.mv (.t 13)), 3, none, 0⟩] (some [0, 3, 4]))))
def fa_101 : FnA := ⟨40, [.t 2],
  (.seq
    (.region false [⟨some 2, (.mv (.c .nil)), 23, none, 0⟩] (some [0]))
    (.seq
      (.region false [⟨some 8, (.bslice 22 0 []), 22, none, 0⟩, ⟨some 9, (.bslice 23 1 [(0, (.t 8))]), 23, none, 0⟩, ⟨some 3, (.mv (.t 9)), 23, none, 0⟩] (some [0, 3]))
      (.seq
        (.seq
          (.region false [⟨some 4, (.mv (.c (.int .i64 0))), 3, none, 0⟩] (some [0, 3, 4]))
          (.block 0
            (.loop [0, 3, 4] [112, 296] lb_101_3)))
        (.seq
          (.region false [⟨some 39, (.mv (.t 3)), 23, none, 0⟩, ⟨some 2, (.mv (.t 39)), 23, none, 0⟩] (some [2]))
          .ret))))⟩
theorem fok_101 : FnOk Try.prog 101 fa_101 an_101 := ⟨Try.f101, _, Try.func101, rfl, by kernel_rfl, rfl, rfl, by decide, by kernel_rfl⟩
/-- spec.pow -/
def an_114 : Ann := ⟨[], [(0, [1, 2, 3]), (1, [1, 2, 3, 7]), (2, [1, 2, 3, 7, 13]), (4, [1, 2, 3, 7]), (3, [1, 2, 3, 7]), (5, [6])], [(2, [1, 2, 3, 7], [])], []⟩
def lb_114_2 : AC :=
  (.seq
    (.seq
      (.region false [⟨some 12, (.mv (.t 2)), 3, none, 0⟩, ⟨some 13, (.bin .gtr 3 (.t 12) (.c (.int .i64 0))), 4, none, 0⟩] (some [1, 2, 3, 7, 13]))
      (.cond (.t 13)
        .skip
        (.exit 0)))
    (.seq
      (.block 1
        (.region false [⟨some 16, (.faddr 28 (.t 3) 1), 0, none, 0⟩, ⟨some 17, (.load 23 (.t 16)), 23, none, 0⟩, ⟨some 18, (.mv (.t 7)), 3, none, 0⟩, ⟨some 19, (.iaddr 23 (.t 17) (.t 18)), 0, none, 0⟩, ⟨some 20, (.load 22 (.t 19)), 22, none, 0⟩, ⟨some 21, (.mv (.t 1)), 3, none, 0⟩, ⟨some 22, (.iaddr 22 (.t 20) (.t 21)), 0, none, 0⟩, ⟨some 23, (.load 3 (.t 22)), 3, none, 0⟩, ⟨some 7, (.mv (.t 23)), 3, none, 0⟩] (some [1, 2, 3, 7])))
      (.region false [⟨some 14, (.mv (.t 2)), 3, none, 0⟩, ⟨some 15, (.bin .sub 3 (.t 14) (.c (.int .i64 1))), 3, none, 0⟩, ⟨some 2, (.mv (.t 15)), 3, none, 0⟩] (some [1, 2, 3, 7]))))
def fa_114 : FnA := ⟨25, [.t 6],
  (.seq
    (.region false [⟨some 3, (.box 28 (.t 0)), 0, none, 0⟩, ⟨some 6, (.mv (.c (.int .i64 0))), 3, none, 0⟩] (some [1, 2, 3]))
    (.seq
      (.region false [⟨some 8, (.faddr 28 (.t 3) 0), 0, none, 0⟩, ⟨some 9, (.load 22 (.t 8)), 22, none, 0⟩, ⟨some 10, (.len 22 (.t 9)), 3, none, 0⟩, ⟨some 11, (.bin .sub 3 (.t 10) (.c (.int .i64 1))), 3, none, 0⟩, ⟨some 7, (.mv (.t 11)), 3, none, 0⟩] (some [1, 2, 3, 7]))
      (.seq
        (.block 0
          (.loop [1, 2, 3, 7] [] lb_114_2))
        (.seq
          (.region false [⟨some 24, (.mv (.t 7)), 3, none, 0⟩, ⟨some 6, (.mv (.t 24)), 3, none, 0⟩] (some [6]))
          .ret))))⟩
theorem fok_114 : FnOk Try.prog 114 fa_114 an_114 := ⟨Try.f114, _, Try.func114, rfl, by kernel_rfl, rfl, rfl, by decide, by kernel_rfl⟩
/-- spec.LeastPower -/
def an_52 : Ann := ⟨[(1, 1, 3), (1, 5, 3), (1, 10, 3), (3, 3, 3), (8, 6, 3), (9, 6, 3), (10, 5, 3), (10, 7, 3)], [(0, [1, 2, 3]), (1, [1, 2, 3, 25]), (2, [6, 7]), (3, [1, 2, 3, 8]), (4, [1, 2, 3, 8, 9]), (5, [1, 2, 3, 8, 9, 10]), (6, [1, 2, 3, 8, 9, 10, 33]), (8, [1, 2, 3, 8, 9, 10, 11]), (9, [1, 2, 3, 8, 9, 10, 11, 12]), (10, [1, 2, 3, 8, 9, 10, 11, 12, 58]), (11, [1, 2, 3, 8, 9, 10, 11, 12]), (12, [1, 2, 3, 8, 9, 10, 11, 12, 62]), (13, [6, 7]), (7, [1, 2, 3, 8, 9, 10]), (14, [6, 7])], [(6, [1, 2, 3, 8, 9, 10], []), (10, [1, 2, 3, 8, 9, 10, 11, 12], [])], []⟩
def lb_52_10 : AC :=
  (.seq
    (.seq
      (.region true [⟨some 50, (.faddr 28 (.t 3) 0), 0, none, 0⟩, ⟨some 51, (.load 22 (.t 50)), 22, none, 0⟩, ⟨some 52, (.load 28 (.t 3)), 28, none, 0⟩, ⟨some 53, (.mv (.t 11)), 3, none, 0⟩, ⟨some 54, (.mv (.t 9)), 3, none, 0⟩, ⟨some 55, (.call (.f 114) [(.t 52), (.t 53), (.t 54)]), 3, none, 3⟩, ⟨some 56, (.mv (.t 12)), 3, none, 0⟩, ⟨some 57, (.call (.f 113) [(.t 51), (.t 55), (.t 56)]), 4, none, 3⟩, ⟨some 58, (.un .not (.t 57)), 4, none, 0⟩] (some [1, 2, 3, 8, 9, 10, 11, 12, 58]))
      (.cond (.t 58)
        .skip
        (.exit 2)))
    (.block 3
      (.seq
        (.region false [⟨some 59, (.mv (.t 9)), 3, none, 0⟩, ⟨some 60, (.bin .add 3 (.t 59) (.c (.int .i64 1))), 3, none, 0⟩, ⟨some 9, (.mv (.t 60)), 3, none, 0⟩] (some [1, 2, 3, 8, 9, 10, 11, 12]))
        (.seq
          (.region false [⟨some 61, (.mv (.t 9)), 3, none, 0⟩, ⟨some 62, (.bin .gtr 3 (.t 61) (.c (.int .i64 20))), 4, none, 0⟩] (some [1, 2, 3, 8, 9, 10, 11, 12, 62]))
          (.cond (.t 62)
            (.seq
              (.region false [⟨some 6, (.mv (.c (.int .i64 0))), 3, none, 0⟩, ⟨some 7, (.mv (.c (.bool false))), 4, none, 0⟩] (some [6, 7]))
              .ret)
            .skip)))))
def lb_52_6 : AC :=
  (.seq
    (.seq
      (.region false [⟨some 30, (.mv (.t 10)), 3, none, 0⟩, ⟨some 31, (.mv (.t 8)), 23, none, 0⟩, ⟨some 32, (.len 23 (.t 31)), 3, none, 0⟩, ⟨some 33, (.bin .lss 3 (.t 30) (.t 32)), 4, none, 0⟩] (some [1, 2, 3, 8, 9, 10, 33]))
      (.cond (.t 33)
        .skip
        (.exit 0)))
    (.seq
      (.block 1
        (.seq
          (.region true [⟨some 36, (.load 28 (.t 3)), 28, none, 0⟩, ⟨some 37, (.mv (.t 1)), 22, none, 0⟩, ⟨some 38, (.mv (.t 8)), 23, none, 0⟩, ⟨some 39, (.mv (.t 10)), 3, none, 0⟩, ⟨some 40, (.iaddr 23 (.t 38) (.t 39)), 0, none, 0⟩, ⟨some 41, (.load 22 (.t 40)), 22, none, 0⟩, ⟨some 42, (.call (.f 65) [(.t 36), (.t 37), (.c (.int .i64 0)), (.t 41)]), 3, none, 3⟩, ⟨some 11, (.mv (.t 42)), 3, none, 0⟩] (some [1, 2, 3, 8, 9, 10, 11]))
          (.seq
            (.region true [⟨some 43, (.load 28 (.t 3)), 28, none, 0⟩, ⟨some 44, (.mv (.t 2)), 22, none, 0⟩, ⟨some 45, (.mv (.t 8)), 23, none, 0⟩, ⟨some 46, (.mv (.t 10)), 3, none, 0⟩, ⟨some 47, (.iaddr 23 (.t 45) (.t 46)), 0, none, 0⟩, ⟨some 48, (.load 22 (.t 47)), 22, none, 0⟩, ⟨some 49, (.call (.f 65) [(.t 43), (.t 44), (.c (.int .i64 0)), (.t 48)]), 3, none, 3⟩, ⟨some 12, (.mv (.t 49)), 3, none, 0⟩] (some [1, 2, 3, 8, 9, 10, 11, 12]))
            (.block 2
              (.loop [1, 2, 3, 8, 9, 10, 11, 12] [] lb_52_10)))))
      (.region false [⟨some 34, (.mv (.t 10)), 3, none, 0⟩, ⟨some 35, (.bin .add 3 (.t 34) (.c (.int .i64 1))), 3, none, 0⟩, ⟨some 10, (.mv (.t 35)), 3, none, 0⟩] (some [1, 2, 3, 8, 9, 10]))))
def fa_52 : FnA := ⟨64, [.t 6, .t 7],
  (.seq
    (.region false [⟨some 3, (.box 28 (.t 0)), 0, none, 0⟩, ⟨some 6, (.mv (.c (.int .i64 0))), 3, none, 0⟩, ⟨some 7, (.mv (.c (.bool false))), 4, none, 0⟩] (some [1, 2, 3]))
    (.seq
      (.seq
        (.region false (gops [⟨some 13, (.load 28 (.t 3)), 28, none, 0⟩, ⟨some 14, (.call (.f 62) [(.t 13)]), 4, none, 3⟩, ⟨some 15, (.un .not (.t 14)), 4, none, 0⟩, ⟨some 16, (.mv (.t 15)), 4, none, 0⟩, ⟨some 17, (.mv (.t 1)), 22, some (16, false), 0⟩, ⟨some 18, (.call (.f 63) [(.t 17)]), 4, some (16, false), 3⟩, ⟨some 19, (.un .not (.t 18)), 4, some (16, false), 0⟩, ⟨some 20, (.pick (.t 16) (.c (.bool true)) (.t 19)), 4, none, 0⟩, ⟨some 21, (.mv (.t 20)), 4, none, 0⟩, ⟨some 22, (.mv (.t 2)), 22, some (21, false), 0⟩, ⟨some 23, (.call (.f 63) [(.t 22)]), 4, some (21, false), 3⟩, ⟨some 24, (.un .not (.t 23)), 4, some (21, false), 0⟩, ⟨some 25, (.pick (.t 21) (.c (.bool true)) (.t 24)), 4, none, 0⟩]) (some [1, 2, 3, 25]))
        (.cond (.t 25)
          (.seq
            (.region false [⟨some 6, (.mv (.c (.int .i64 0))), 3, none, 0⟩, ⟨some 7, (.mv (.c (.bool false))), 4, none, 0⟩] (some [6, 7]))
            .ret)
          .skip))
      (.seq
        (.region false [⟨some 26, (.faddr 28 (.t 3) 0), 0, none, 0⟩, ⟨some 27, (.load 22 (.t 26)), 22, none, 0⟩, ⟨some 28, (.len 22 (.t 27)), 3, none, 0⟩, ⟨some 29, (.call (.f 101) [(.t 28)]), 23, none, 3⟩, ⟨some 8, (.mv (.t 29)), 23, none, 0⟩] (some [1, 2, 3, 8]))
        (.seq
          (.region false [⟨some 9, (.mv (.c (.int .i64 0))), 3, none, 0⟩] (some [1, 2, 3, 8, 9]))
          (.seq
            (.seq
              (.region false [⟨some 10, (.mv (.c (.int .i64 0))), 3, none, 0⟩] (some [1, 2, 3, 8, 9, 10]))
              (.block 0
                (.loop [1, 2, 3, 8, 9, 10] [] lb_52_6)))
            (.seq
              (.region false [⟨some 63, (.mv (.t 9)), 3, none, 0⟩, ⟨some 6, (.mv (.t 63)), 3, none, 0⟩, ⟨some 7, (.mv (.c (.bool true))), 4, none, 0⟩] (some [6, 7]))
              .ret))))))⟩
theorem fok_52 : FnOk Try.prog 52 fa_52 an_52 := ⟨Try.f52, _, Try.func52, rfl, by kernel_rfl, rfl, rfl, by decide, by kernel_rfl⟩
/-- impl.power -/
def an_116 : Ann := ⟨[], [(0, [1, 2, 3]), (1, [1, 2, 3, 7]), (2, [1, 2, 3, 7, 13]), (4, [1, 2, 3, 7]), (3, [1, 2, 3, 7]), (5, [6])], [(2, [1, 2, 3, 7], [])], []⟩
def lb_116_2 : AC :=
  (.seq
    (.seq
      (.region false [⟨some 12, (.mv (.t 2)), 3, none, 0⟩, ⟨some 13, (.bin .gtr 3 (.t 12) (.c (.int .i64 0))), 4, none, 0⟩] (some [1, 2, 3, 7, 13]))
      (.cond (.t 13)
        .skip
        (.exit 0)))
    (.seq
      (.block 1
        (.region false [⟨some 16, (.faddr 28 (.t 3) 1), 0, none, 0⟩, ⟨some 17, (.load 23 (.t 16)), 23, none, 0⟩, ⟨some 18, (.mv (.t 7)), 3, none, 0⟩, ⟨some 19, (.iaddr 23 (.t 17) (.t 18)), 0, none, 0⟩, ⟨some 20, (.load 22 (.t 19)), 22, none, 0⟩, ⟨some 21, (.mv (.t 1)), 3, none, 0⟩, ⟨some 22, (.iaddr 22 (.t 20) (.t 21)), 0, none, 0⟩, ⟨some 23, (.load 3 (.t 22)), 3, none, 0⟩, ⟨some 7, (.mv (.t 23)), 3, none, 0⟩] (some [1, 2, 3, 7])))
      (.region false [⟨some 14, (.mv (.t 2)), 3, none, 0⟩, ⟨some 15, (.bin .sub 3 (.t 14) (.c (.int .i64 1))), 3, none, 0⟩, ⟨some 2, (.mv (.t 15)), 3, none, 0⟩] (some [1, 2, 3, 7]))))
def fa_116 : FnA := ⟨25, [.t 6],
  (.seq
    (.region false [⟨some 3, (.box 28 (.t 0)), 0, none, 0⟩, ⟨some 6, (.mv (.c (.int .i64 0))), 3, none, 0⟩] (some [1, 2, 3]))
    (.seq
      (.region false [⟨some 8, (.faddr 28 (.t 3) 0), 0, none, 0⟩, ⟨some 9, (.load 22 (.t 8)), 22, none, 0⟩, ⟨some 10, (.len 22 (.t 9)), 3, none, 0⟩, ⟨some 11, (.bin .sub 3 (.t 10) (.c (.int .i64 1))), 3, none, 0⟩, ⟨some 7, (.mv (.t 11)), 3, none, 0⟩] (some [1, 2, 3, 7]))
      (.seq
        (.block 0
          (.loop [1, 2, 3, 7] [] lb_116_2))
        (.seq
          (.region false [⟨some 24, (.mv (.t 7)), 3, none, 0⟩, ⟨some 6, (.mv (.t 24)), 3, none, 0⟩] (some [6]))
          .ret))))⟩
theorem fok_116 : FnOk Try.prog 116 fa_116 an_116 := ⟨Try.f116, _, Try.func116, rfl, by kernel_rfl, rfl, rfl, by decide, by kernel_rfl⟩
/-- impl.LeastPower$1 -/
def an_115 : Ann := ⟨[(0, 8, 3), (0, 10, 3), (0, 14, 3), (0, 15, 3)], [(0, [])], [], []⟩
def fa_115 : FnA := ⟨24, [],
  (.region true (gops [⟨some 7, (.load 4 (.t 1)), 4, none, 0⟩, ⟨some 8, (.mv (.t 7)), 4, none, 0⟩, ⟨some 9, (.faddr 28 (.t 2) 0), 0, some (8, true), 0⟩, ⟨some 10, (.load 22 (.t 9)), 22, some (8, true), 0⟩, ⟨some 11, (.load 28 (.t 2)), 28, some (8, true), 0⟩, ⟨some 12, (.load 28 (.t 2)), 28, some (8, true), 0⟩, ⟨some 13, (.load 22 (.t 3)), 22, some (8, true), 0⟩, ⟨some 14, (.mv (.t 0)), 22, some (8, true), 0⟩, ⟨some 15, (.call (.f 69) [(.t 12), (.t 13), (.t 14)]), 3, some (8, true), 3⟩, ⟨some 16, (.load 3 (.t 4)), 3, some (8, true), 0⟩, ⟨some 17, (.call (.f 116) [(.t 11), (.t 15), (.t 16)]), 3, some (8, true), 3⟩, ⟨some 18, (.load 28 (.t 2)), 28, some (8, true), 0⟩, ⟨some 19, (.load 22 (.t 5)), 22, some (8, true), 0⟩, ⟨some 20, (.mv (.t 0)), 22, some (8, true), 0⟩, ⟨some 21, (.call (.f 69) [(.t 18), (.t 19), (.t 20)]), 3, some (8, true), 3⟩, ⟨some 22, (.call (.f 88) [(.t 10), (.t 17), (.t 21)]), 4, some (8, true), 3⟩, ⟨some 23, (.pick (.t 8) (.t 22) (.c (.bool false))), 4, none, 0⟩, ⟨none, (.store 4 (.t 1) (.t 23)), 0, none, 0⟩]) (some []))⟩
theorem fok_115 : FnOk Try.prog 115 fa_115 an_115 := ⟨Try.f115, _, Try.func115, rfl, by kernel_rfl, rfl, rfl, by decide, by kernel_rfl⟩
/-- impl.eachList -/
def an_94 : Ann := ⟨[(1, 2, 16)], [(0, [0, 1, 4]), (1, [0, 1, 4]), (2, [0, 1, 4, 5]), (3, [0, 1, 4, 5, 27]), (4, [0, 1, 4, 5]), (5, [0, 1, 4, 5]), (6, [0, 1, 4, 5, 34]), (7, [0, 1, 4])], [(1, [0, 1, 4], [12160, 8064, 4064, 8, 16, 24, 32, 40, 48, 56, 64, 72, 80, 88, 96, 104, 112, 120, 128]), (3, [0, 1, 4, 5], [12160, 8064, 4064, 8, 16, 24, 32, 40, 48, 56, 64, 72, 80, 88, 96, 104, 112, 120, 128])], []⟩
def lb_94_3 : AC :=
  (.seq
    (.seq
      (.region true (gops [⟨some 15, (.mv (.t 5)), 3, none, 0⟩, ⟨some 16, (.bin .geq 3 (.t 15) (.c (.int .i64 0))), 4, none, 0⟩, ⟨some 17, (.mv (.t 16)), 4, none, 0⟩, ⟨some 18, (.mv (.t 4)), 22, some (17, true), 0⟩, ⟨some 19, (.mv (.t 5)), 3, some (17, true), 0⟩, ⟨some 20, (.iaddr 22 (.t 18) (.t 19)), 0, some (17, true), 0⟩, ⟨some 21, (.load 3 (.t 20)), 3, some (17, true), 0⟩, ⟨some 22, (.mv (.t 0)), 22, some (17, true), 0⟩, ⟨some 23, (.mv (.t 5)), 3, some (17, true), 0⟩, ⟨some 24, (.iaddr 22 (.t 22) (.t 23)), 0, some (17, true), 0⟩, ⟨some 25, (.load 3 (.t 24)), 3, some (17, true), 0⟩, ⟨some 26, (.bin .eql 3 (.t 21) (.t 25)), 4, some (17, true), 0⟩, ⟨some 27, (.pick (.t 17) (.t 26) (.c (.bool false))), 4, none, 0⟩]) (some [0, 1, 4, 5, 27]))
      (.cond (.t 27)
        .skip
        (.exit 2)))
    (.block 3
      (.seq
        (.region false [⟨some 28, (.mv (.t 4)), 22, none, 0⟩, ⟨some 29, (.mv (.t 5)), 3, none, 0⟩, ⟨some 30, (.iaddr 22 (.t 28) (.t 29)), 0, none, 0⟩, ⟨none, (.store 3 (.t 30) (.c (.int .i64 0))), 0, none, 0⟩] (some [0, 1, 4, 5]))
        (.region false [⟨some 31, (.mv (.t 5)), 3, none, 0⟩, ⟨some 32, (.bin .sub 3 (.t 31) (.c (.int .i64 1))), 3, none, 0⟩, ⟨some 5, (.mv (.t 32)), 3, none, 0⟩] (some [0, 1, 4, 5])))))
def lb_94_1 : AC :=
  (.block 1
    (.seq
      (.region false [⟨some 9, (.mv (.t 1)), 86, none, 0⟩, ⟨some 10, (.mv (.t 4)), 22, none, 0⟩, ⟨some 11, (.call (.t 9) [(.t 10)]), 0, none, 16⟩] (some [0, 1, 4]))
      (.seq
        (.region false [⟨some 12, (.mv (.t 4)), 22, none, 0⟩, ⟨some 13, (.len 22 (.t 12)), 3, none, 0⟩, ⟨some 14, (.bin .sub 3 (.t 13) (.c (.int .i64 1))), 3, none, 0⟩, ⟨some 5, (.mv (.t 14)), 3, none, 0⟩] (some [0, 1, 4, 5]))
        (.seq
          (.block 2
            (.loop [0, 1, 4, 5] [12160, 8064, 4064, 8, 16, 24, 32, 40, 48, 56, 64, 72, 80, 88, 96, 104, 112, 120, 128] lb_94_3))
          (.seq
            (.seq
              (.region false [⟨some 33, (.mv (.t 5)), 3, none, 0⟩, ⟨some 34, (.bin .lss 3 (.t 33) (.c (.int .i64 0))), 4, none, 0⟩] (some [0, 1, 4, 5, 34]))
              (.cond (.t 34)
                .ret
                .skip))
            (.region false [⟨some 35, (.mv (.t 4)), 22, none, 0⟩, ⟨some 36, (.mv (.t 5)), 3, none, 0⟩, ⟨some 37, (.iaddr 22 (.t 35) (.t 36)), 0, none, 0⟩, ⟨some 38, (.load 3 (.t 37)), 3, none, 0⟩, ⟨some 39, (.bin .add 3 (.t 38) (.c (.int .i64 1))), 3, none, 0⟩, ⟨some 40, (.iaddr 22 (.t 35) (.t 36)), 0, none, 0⟩, ⟨none, (.store 3 (.t 40) (.t 39)), 0, none, 0⟩] (some [0, 1, 4])))))))
def fa_94 : FnA := ⟨41, [],
  (.seq
    (.region false [⟨some 6, (.mv (.t 0)), 22, none, 0⟩, ⟨some 7, (.len 22 (.t 6)), 3, none, 0⟩, ⟨some 8, (.make 22 (.t 7) (.t 7)), 22, none, 0⟩, ⟨some 4, (.mv (.t 8)), 22, none, 0⟩] (some [0, 1, 4]))
    (.block 0
      (.loop [0, 1, 4] [12160, 8064, 4064, 8, 16, 24, 32, 40, 48, 56, 64, 72, 80, 88, 96, 104, 112, 120, 128] lb_94_1)))⟩
theorem fok_94 : FnOk Try.prog 94 fa_94 an_94 := ⟨Try.f94, _, Try.func94, rfl, by kernel_rfl, rfl, rfl, by decide, by kernel_rfl⟩
/-- impl.eachNames -/
def an_102 : Ann := ⟨[(1, 5, 3), (1, 7, 16)], [(0, [1, 2]), (1, [])], [], []⟩
def fa_102 : FnA := ⟨12, [],
  (.seq
    (.region false [⟨some 2, (.box 28 (.t 0)), 0, none, 0⟩] (some [1, 2]))
    (.region false [⟨some 4, (.faddr 28 (.t 2) 0), 0, none, 0⟩, ⟨some 5, (.load 22 (.t 4)), 22, none, 0⟩, ⟨some 6, (.len 22 (.t 5)), 3, none, 0⟩, ⟨some 7, (.bin .sub 3 (.t 6) (.c (.int .i64 1))), 3, none, 0⟩, ⟨some 8, (.bslice 22 1 [(0, (.t 7))]), 22, none, 0⟩, ⟨some 9, (.call (.f 95) [(.t 8), (.c (.int .i64 3))]), 22, none, 3⟩, ⟨some 10, (.mv (.t 1)), 86, none, 0⟩, ⟨some 11, (.call (.f 94) [(.t 9), (.t 10)]), 0, none, 16⟩] (some [])))⟩
theorem fok_102 : FnOk Try.prog 102 fa_102 an_102 := ⟨Try.f102, _, Try.func102, rfl, by kernel_rfl, rfl, rfl, by decide, by kernel_rfl⟩
/-- impl.LeastPower -/
def an_53 : Ann := ⟨[(1, 1, 3), (1, 5, 3), (1, 10, 3), (7, 2, 16)], [(0, [3, 4, 5]), (1, [3, 4, 5, 22]), (2, [6, 7]), (3, [3, 4, 5, 8]), (4, [3, 4, 5, 8, 24]), (6, [3, 4, 5, 8, 9]), (7, [3, 4, 5, 8, 9]), (8, [3, 4, 5, 8, 30]), (9, [6, 7]), (10, [3, 4, 5, 32]), (11, [3, 4, 5, 8]), (5, [3, 4, 5, 8]), (12, [6, 7])], [(4, [3, 4, 5, 8], [64])], []⟩
def lb_53_4 : AC :=
  (.seq
    (.seq
      (.region false [⟨some 23, (.load 3 (.t 8)), 3, none, 0⟩, ⟨some 24, (.bin .leq 3 (.t 23) (.c (.int .i64 20))), 4, none, 0⟩] (some [3, 4, 5, 8, 24]))
      (.cond (.t 24)
        .skip
        (.exit 0)))
    (.seq
      (.block 1
        (.seq
          (.region false [⟨some 9, (.alloc 4), 0, none, 0⟩, ⟨none, (.store 4 (.t 9) (.c (.bool true))), 0, none, 0⟩] (some [3, 4, 5, 8, 9]))
          (.seq
            (.region false [⟨some 27, (.load 28 (.t 3)), 28, none, 0⟩, ⟨some 28, (.mkfn 115 [(.t 9), (.t 3), (.t 4), (.t 8), (.t 5)]), 86, none, 0⟩, ⟨some 29, (.call (.f 102) [(.t 27), (.t 28)]), 0, none, 16⟩] (some [3, 4, 5, 8, 9]))
            (.seq
              (.region false [⟨some 30, (.load 4 (.t 9)), 4, none, 0⟩] (some [3, 4, 5, 8, 30]))
              (.cond (.t 30)
                (.seq
                  (.region false [⟨some 31, (.load 3 (.t 8)), 3, none, 0⟩, ⟨some 6, (.mv (.t 31)), 3, none, 0⟩, ⟨some 7, (.mv (.c (.bool true))), 4, none, 0⟩] (some [6, 7]))
                  .ret)
                .skip)))))
      (.seq
        (.seq
          (.region false [⟨some 32, (.load 3 (.t 8)), 3, none, 0⟩] (some [3, 4, 5, 32]))
          (.region false [⟨some 8, (.alloc 3), 0, none, 0⟩, ⟨none, (.store 3 (.t 8) (.t 32)), 0, none, 0⟩] (some [3, 4, 5, 8])))
        (.region false [⟨some 25, (.load 3 (.t 8)), 3, none, 0⟩, ⟨some 26, (.bin .add 3 (.t 25) (.c (.int .i64 1))), 3, none, 0⟩, ⟨none, (.store 3 (.t 8) (.t 26)), 0, none, 0⟩] (some [3, 4, 5, 8])))))
def fa_53 : FnA := ⟨33, [.t 6, .t 7],
  (.seq
    (.region false [⟨some 3, (.box 28 (.t 0)), 0, none, 0⟩, ⟨some 4, (.box 22 (.t 1)), 0, none, 0⟩, ⟨some 5, (.box 22 (.t 2)), 0, none, 0⟩, ⟨some 6, (.mv (.c (.int .i64 0))), 3, none, 0⟩, ⟨some 7, (.mv (.c (.bool false))), 4, none, 0⟩] (some [3, 4, 5]))
    (.seq
      (.seq
        (.region false (gops [⟨some 10, (.load 28 (.t 3)), 28, none, 0⟩, ⟨some 11, (.call (.f 72) [(.t 10)]), 4, none, 3⟩, ⟨some 12, (.un .not (.t 11)), 4, none, 0⟩, ⟨some 13, (.mv (.t 12)), 4, none, 0⟩, ⟨some 14, (.load 22 (.t 4)), 22, some (13, false), 0⟩, ⟨some 15, (.call (.f 67) [(.t 14)]), 4, some (13, false), 3⟩, ⟨some 16, (.un .not (.t 15)), 4, some (13, false), 0⟩, ⟨some 17, (.pick (.t 13) (.c (.bool true)) (.t 16)), 4, none, 0⟩, ⟨some 18, (.mv (.t 17)), 4, none, 0⟩, ⟨some 19, (.load 22 (.t 5)), 22, some (18, false), 0⟩, ⟨some 20, (.call (.f 67) [(.t 19)]), 4, some (18, false), 3⟩, ⟨some 21, (.un .not (.t 20)), 4, some (18, false), 0⟩, ⟨some 22, (.pick (.t 18) (.c (.bool true)) (.t 21)), 4, none, 0⟩]) (some [3, 4, 5, 22]))
        (.cond (.t 22)
          (.seq
            (.region false [⟨some 6, (.mv (.c (.int .i64 0))), 3, none, 0⟩, ⟨some 7, (.mv (.c (.bool false))), 4, none, 0⟩] (some [6, 7]))
            .ret)
          .skip))
      (.seq
        (.seq
          (.region false [⟨some 8, (.alloc 3), 0, none, 0⟩, ⟨none, (.store 3 (.t 8) (.c (.int .i64 0))), 0, none, 0⟩] (some [3, 4, 5, 8]))
          (.block 0
            (.loop [3, 4, 5, 8] [64] lb_53_4)))
        (.seq
          (.region false [⟨some 6, (.mv (.c (.int .i64 0))), 3, none, 0⟩, ⟨some 7, (.mv (.c (.bool false))), 4, none, 0⟩] (some [6, 7]))
          .ret))))⟩
theorem fok_53 : FnOk Try.prog 53 fa_53 an_53 := ⟨Try.f53, _, Try.func53, rfl, by kernel_rfl, rfl, rfl, by decide, by kernel_rfl⟩
/-- laws.FnExactLeastPower -/
def an_13 : Ann := ⟨[(6, 2, 3), (9, 1, 3), (9, 3, 3), (9, 5, 3), (9, 6, 3), (10, 1, 3), (11, 1, 3), (12, 1, 3), (13, 3, 3), (16, 2, 3), (16, 3, 3), (18, 2, 3), (18, 3, 3), (20, 2, 3), (20, 3, 3)], [(0, [1, 2, 3]), (1, [1, 2, 3, 17]), (2, [6]), (3, [1, 2, 3, 20]), (4, [6]), (5, [1, 2, 3, 7]), (6, [1, 2, 3, 7]), (7, [1, 2, 3, 25]), (8, [6]), (9, [1, 2, 3, 8, 9]), (10, [1, 2, 3, 8, 9, 10]), (11, [1, 2, 3, 8, 9, 10, 11]), (12, [1, 2, 3, 8, 9, 10, 11, 12]), (13, [1, 2, 3, 8, 9, 10, 11, 12, 13, 14]), (14, [1, 2, 3, 10, 11, 12, 56]), (15, [6]), (16, [1, 2, 11, 12, 61]), (17, [6]), (18, [2, 12, 66]), (19, [6]), (20, [71]), (21, [6]), (22, [6])], [], []⟩
def fa_13 : FnA := ⟨72, [.t 6],
  (.seq
    (.region false [⟨some 3, (.box 25 (.t 0)), 0, none, 0⟩, ⟨some 6, (.mv (.c (.bool false))), 4, none, 0⟩] (some [1, 2, 3]))
    (.seq
      (.seq
        (.region false [⟨some 15, (.mv (.t 1)), 22, none, 0⟩, ⟨some 16, (.len 22 (.t 15)), 3, none, 0⟩, ⟨some 17, (.bin .gtr 3 (.t 16) (.c (.int .i64 1048576))), 4, none, 0⟩] (some [1, 2, 3, 17]))
        (.cond (.t 17)
          (.seq
            (.region false [⟨some 6, (.mv (.c (.bool true))), 4, none, 0⟩] (some [6]))
            .ret)
          .skip))
      (.seq
        (.seq
          (.region false [⟨some 18, (.mv (.t 2)), 22, none, 0⟩, ⟨some 19, (.len 22 (.t 18)), 3, none, 0⟩, ⟨some 20, (.bin .gtr 3 (.t 19) (.c (.int .i64 1048576))), 4, none, 0⟩] (some [1, 2, 3, 20]))
          (.cond (.t 20)
            (.seq
              (.region false [⟨some 6, (.mv (.c (.bool true))), 4, none, 0⟩] (some [6]))
              .ret)
            .skip))
        (.seq
          (.region false [⟨some 7, (.mv (.c (.int .i64 1048576))), 3, none, 0⟩] (some [1, 2, 3, 7]))
          (.seq
            (.region false [⟨some 21, (.load 25 (.t 3)), 25, none, 0⟩, ⟨some 22, (.mv (.t 7)), 3, none, 0⟩, ⟨some 23, (.call (.f 17) [(.t 21), (.t 22)]), 3, none, 3⟩, ⟨some 7, (.mv (.t 23)), 3, none, 0⟩] (some [1, 2, 3, 7]))
            (.seq
              (.seq
                (.region false [⟨some 24, (.mv (.t 7)), 3, none, 0⟩, ⟨some 25, (.bin .lss 3 (.t 24) (.c (.int .i64 0))), 4, none, 0⟩] (some [1, 2, 3, 25]))
                (.cond (.t 25)
                  (.seq
                    (.region false [⟨some 6, (.mv (.c (.bool true))), 4, none, 0⟩] (some [6]))
                    .ret)
                  .skip))
              (.seq
                (.region false [⟨some 27, (.load 25 (.t 3)), 25, none, 0⟩, ⟨some 28, (.call (.f 19) [(.t 27)]), 28, none, 3⟩, ⟨some 29, (.mv (.t 1)), 22, none, 0⟩, ⟨some 30, (.call (.f 20) [(.t 29)]), 22, none, 3⟩, ⟨some 31, (.mv (.t 2)), 22, none, 0⟩, ⟨some 32, (.call (.f 20) [(.t 31)]), 22, none, 3⟩, ⟨some 33, (.call (.f 52) [(.t 28), (.t 30), (.t 32)]), 59, none, 3⟩, ⟨some 26, (.mv (.t 33)), 59, none, 0⟩, ⟨some 34, (.ext (.t 26) 0), 3, none, 0⟩, ⟨some 35, (.ext (.t 26) 1), 4, none, 0⟩, ⟨some 8, (.mv (.t 34)), 3, none, 0⟩, ⟨some 9, (.mv (.t 35)), 4, none, 0⟩] (some [1, 2, 3, 8, 9]))
                (.seq
                  (.region false [⟨some 36, (.load 25 (.t 3)), 25, none, 0⟩, ⟨some 37, (.call (.f 19) [(.t 36)]), 28, none, 3⟩, ⟨some 10, (.alloc 28), 0, none, 0⟩, ⟨none, (.store 28 (.t 10) (.t 37)), 0, none, 0⟩] (some [1, 2, 3, 8, 9, 10]))
                  (.seq
                    (.region false [⟨some 38, (.mv (.t 1)), 22, none, 0⟩, ⟨some 39, (.call (.f 20) [(.t 38)]), 22, none, 3⟩, ⟨some 11, (.mv (.t 39)), 22, none, 0⟩] (some [1, 2, 3, 8, 9, 10, 11]))
                    (.seq
                      (.region false [⟨some 40, (.mv (.t 2)), 22, none, 0⟩, ⟨some 41, (.call (.f 20) [(.t 40)]), 22, none, 3⟩, ⟨some 12, (.mv (.t 41)), 22, none, 0⟩] (some [1, 2, 3, 8, 9, 10, 11, 12]))
                      (.seq
                        (.region false [⟨some 43, (.load 28 (.t 10)), 28, none, 0⟩, ⟨some 44, (.mv (.t 11)), 22, none, 0⟩, ⟨some 45, (.mv (.t 12)), 22, none, 0⟩, ⟨some 46, (.call (.f 53) [(.t 43), (.t 44), (.t 45)]), 59, none, 3⟩, ⟨some 42, (.mv (.t 46)), 59, none, 0⟩, ⟨some 47, (.ext (.t 42) 0), 3, none, 0⟩, ⟨some 48, (.ext (.t 42) 1), 4, none, 0⟩, ⟨some 13, (.mv (.t 47)), 3, none, 0⟩, ⟨some 14, (.mv (.t 48)), 4, none, 0⟩] (some [1, 2, 3, 8, 9, 10, 11, 12, 13, 14]))
                        (.seq
                          (.seq
                            (.region false (gops [⟨some 49, (.mv (.t 13)), 3, none, 0⟩, ⟨some 50, (.mv (.t 8)), 3, none, 0⟩, ⟨some 51, (.bin .neq 3 (.t 49) (.t 50)), 4, none, 0⟩, ⟨some 52, (.mv (.t 51)), 4, none, 0⟩, ⟨some 53, (.mv (.t 14)), 4, some (52, false), 0⟩, ⟨some 54, (.mv (.t 9)), 4, some (52, false), 0⟩, ⟨some 55, (.bin .neq 4 (.t 53) (.t 54)), 4, some (52, false), 0⟩, ⟨some 56, (.pick (.t 52) (.c (.bool true)) (.t 55)), 4, none, 0⟩]) (some [1, 2, 3, 10, 11, 12, 56]))
                            (.cond (.t 56)
                              (.seq
                                (.region false [⟨some 6, (.mv (.c (.bool false))), 4, none, 0⟩] (some [6]))
                                .ret)
                              .skip))
                          (.seq
                            (.seq
                              (.region true [⟨some 57, (.load 28 (.t 10)), 28, none, 0⟩, ⟨some 58, (.load 25 (.t 3)), 25, none, 0⟩, ⟨some 59, (.call (.f 19) [(.t 58)]), 28, none, 3⟩, ⟨some 60, (.call (.f 22) [(.t 57), (.t 59)]), 4, none, 3⟩, ⟨some 61, (.un .not (.t 60)), 4, none, 0⟩] (some [1, 2, 11, 12, 61]))
                              (.cond (.t 61)
                                (.seq
                                  (.region false [⟨some 6, (.mv (.c (.bool false))), 4, none, 0⟩] (some [6]))
                                  .ret)
                                .skip))
                            (.seq
                              (.seq
                                (.region false [⟨some 62, (.mv (.t 11)), 22, none, 0⟩, ⟨some 63, (.mv (.t 1)), 22, none, 0⟩, ⟨some 64, (.call (.f 20) [(.t 63)]), 22, none, 3⟩, ⟨some 65, (.call (.f 23) [(.t 62), (.t 64)]), 4, none, 3⟩, ⟨some 66, (.un .not (.t 65)), 4, none, 0⟩] (some [2, 12, 66]))
                                (.cond (.t 66)
                                  (.seq
                                    (.region false [⟨some 6, (.mv (.c (.bool false))), 4, none, 0⟩] (some [6]))
                                    .ret)
                                  .skip))
                              (.seq
                                (.seq
                                  (.region false [⟨some 67, (.mv (.t 12)), 22, none, 0⟩, ⟨some 68, (.mv (.t 2)), 22, none, 0⟩, ⟨some 69, (.call (.f 20) [(.t 68)]), 22, none, 3⟩, ⟨some 70, (.call (.f 23) [(.t 67), (.t 69)]), 4, none, 3⟩, ⟨some 71, (.un .not (.t 70)), 4, none, 0⟩] (some [71]))
                                  (.cond (.t 71)
                                    (.seq
                                      (.region false [⟨some 6, (.mv (.c (.bool false))), 4, none, 0⟩] (some [6]))
                                      .ret)
                                    .skip))
                                (.seq
                                  (.region false [⟨some 6, (.mv (.c (.bool true))), 4, none, 0⟩] (some [6]))
                                  .ret))))))))))))))))⟩
theorem fok_13 : FnOk Try.prog 13 fa_13 an_13 := ⟨Try.f13, _, Try.func13, rfl, by kernel_rfl, rfl, rfl, by decide, by kernel_rfl⟩
theorem tt_4 : tyOf Try.prog 4 = ⟨.bool, 1, 1, (some (.bool false))⟩ := by kernel_rfl
attribute [simp] tt_4 
end Go.PS
end

section
-- Contracts: lists of elements for the names, powers, the least power of the reference.
set_option maxRecDepth 100000
set_option linter.unusedVariables false
set_option linter.unusedSimpArgs false
namespace Go.PS
open Go.Proofs

theorem powS_pc (u : List Int) (t : List (List Int)) (x k : Int) (f : TF u t) (hx0 : 0 ≤ x) (hx : x.toNat < u.length) (hk0 : 0 ≤ k) (hk : k ≤ 1000000) : PC Try.prog 114 [AL u t, I64 x, I64 k] none true (fun r _ => r = I64 (powM u t x.toNat k.toNat)) := by
  obtain ⟨x, rfl⟩ := Int.eq_ofNat_of_zero_le hx0
  obtain ⟨k, rfl⟩ := Int.eq_ofNat_of_zero_le hk0
  simp at hx
  have h6 := f.lat.six
  refine pcT [] fok_114 ?_
  simp [fa_114, wrap64 (n := (u.length : Int) - 1) (by omega) (by omega)]
  refine loopA (tabK_mono _) k (fun i => [(2, I64 ((k : Int) - i)), (7, I64 (powM u t x i))]) (fun _ => []) (fun _ => True) (by simp [powM]) (by simp) (fun i g hi _ => ?_)
  have hr := powM_rng f hx i
  simp [lb_114_2, f.len, f.rows, hr, hx, show (powM u t x i).toNat < u.length by omega, wrap64 (n := (k : Int) - i - 1) (by omega) (by omega), powM]
  refine ⟨fun h => ⟨by omega, by omega⟩, fun h => by rw [show i = k by omega]⟩
noncomputable def fm_powS : Fam Try.prog := mkFam (X := List Int × List (List Int) × Int × Int) 114 true (fun (u, t, x, k) => [AL u t, I64 x, I64 k]) (fun (u, t, x, k) => (TF u t) ∧ (0 ≤ x) ∧ (x.toNat < u.length) ∧ (0 ≤ k) ∧ (k ≤ 1000000)) (fun (u, t, x, k) => I64 (powM u t x.toNat k.toNat)) (by
  rintro ⟨u, t, x, k⟩ ⟨f, hx0, hx, hk0, hk⟩
  exact powS_pc u t x k f hx0 hx hk0 hk)
@[simp] theorem fm_powS_id : fm_powS.id = 114 := rfl
@[simp] theorem fm_powS_fresh : fm_powS.fresh = true := rfl
@[simp] theorem fm_powS_look (u : List Int) (t : List (List Int)) (x k : Int) (f : TF u t) (hx0 : 0 ≤ x) (hx : x.toNat < u.length) (hk0 : 0 ≤ k) (hk : k ≤ 1000000) : fm_powS.look [AL u t, I64 x, I64 k] = some (I64 (powM u t x.toNat k.toNat)) :=
  lookF_of (X := List Int × List (List Int) × Int × Int) (args := fun (u, t, x, k) => [AL u t, I64 x, I64 k]) (pre := fun (u, t, x, k) => (TF u t) ∧ (0 ≤ x) ∧ (x.toNat < u.length) ∧ (0 ≤ k) ∧ (k ≤ 1000000)) (val := fun (u, t, x, k) => I64 (powM u t x.toNat k.toNat)) (by
  rintro ⟨u, t, x, k⟩ ⟨u', t', x', k'⟩ h
  simp at h
  try simp only [and_assoc] at h
  obtain ⟨rfl, rfl, rfl, rfl⟩ := h
  rfl) (u, t, x, k) ⟨f, hx0, hx, hk0, hk⟩
attribute [irreducible] fm_powS

theorem powI_pc (u : List Int) (t : List (List Int)) (x k : Int) (f : TF u t) (hx0 : 0 ≤ x) (hx : x.toNat < u.length) (hk0 : 0 ≤ k) (hk : k ≤ 1000000) : PC Try.prog 116 [AL u t, I64 x, I64 k] none true (fun r _ => r = I64 (powM u t x.toNat k.toNat)) := by
  obtain ⟨x, rfl⟩ := Int.eq_ofNat_of_zero_le hx0
  obtain ⟨k, rfl⟩ := Int.eq_ofNat_of_zero_le hk0
  simp at hx
  have h6 := f.lat.six
  refine pcT [] fok_116 ?_
  simp [fa_116, wrap64 (n := (u.length : Int) - 1) (by omega) (by omega)]
  refine loopA (tabK_mono _) k (fun i => [(2, I64 ((k : Int) - i)), (7, I64 (powM u t x i))]) (fun _ => []) (fun _ => True) (by simp [powM]) (by simp) (fun i g hi _ => ?_)
  have hr := powM_rng f hx i
  simp [lb_116_2, f.len, f.rows, hr, hx, show (powM u t x i).toNat < u.length by omega, wrap64 (n := (k : Int) - i - 1) (by omega) (by omega), powM]
  refine ⟨fun h => ⟨by omega, by omega⟩, fun h => by rw [show i = k by omega]⟩
noncomputable def fm_powI : Fam Try.prog := mkFam (X := List Int × List (List Int) × Int × Int) 116 true (fun (u, t, x, k) => [AL u t, I64 x, I64 k]) (fun (u, t, x, k) => (TF u t) ∧ (0 ≤ x) ∧ (x.toNat < u.length) ∧ (0 ≤ k) ∧ (k ≤ 1000000)) (fun (u, t, x, k) => I64 (powM u t x.toNat k.toNat)) (by
  rintro ⟨u, t, x, k⟩ ⟨f, hx0, hx, hk0, hk⟩
  exact powI_pc u t x k f hx0 hx hk0 hk)
@[simp] theorem fm_powI_id : fm_powI.id = 116 := rfl
@[simp] theorem fm_powI_fresh : fm_powI.fresh = true := rfl
@[simp] theorem fm_powI_look (u : List Int) (t : List (List Int)) (x k : Int) (f : TF u t) (hx0 : 0 ≤ x) (hx : x.toNat < u.length) (hk0 : 0 ≤ k) (hk : k ≤ 1000000) : fm_powI.look [AL u t, I64 x, I64 k] = some (I64 (powM u t x.toNat k.toNat)) :=
  lookF_of (X := List Int × List (List Int) × Int × Int) (args := fun (u, t, x, k) => [AL u t, I64 x, I64 k]) (pre := fun (u, t, x, k) => (TF u t) ∧ (0 ≤ x) ∧ (x.toNat < u.length) ∧ (0 ≤ k) ∧ (k ≤ 1000000)) (val := fun (u, t, x, k) => I64 (powM u t x.toNat k.toNat)) (by
  rintro ⟨u, t, x, k⟩ ⟨u', t', x', k'⟩ h
  simp at h
  try simp only [and_assoc] at h
  obtain ⟨rfl, rfl, rfl, rfl⟩ := h
  rfl) (u, t, x, k) ⟨f, hx0, hx, hk0, hk⟩
attribute [irreducible] fm_powI

theorem assignments_pc (n : Int) (h0 : 0 ≤ n) (h6 : n ≤ 6) : PC Try.prog 101 [I64 n] none false (fun r _ => r = RL (asgK n.toNat 3)) := by
  obtain ⟨n, rfl⟩ := Int.eq_ofNat_of_zero_le h0
  have h6 : n ≤ 6 := by omega
  refine pcT [] fok_101 ?_
  simp [fa_101]
  refine loopA (tabK_mono _) 3 (fun i => [(3, RL (asgK n i)), (4, I64 i)]) (fun _ => []) (fun _ => True) (by simp [asgK, rowsD, ints]) (by simp) (fun i g hi _ => ?_)
  simp [lb_101_3, wrap_succ hi (by omega)]
  refine ⟨fun h => ?_, fun h => by rw [show i = 3 by omega]⟩
  have hlen : (asgK n i).length ≤ 36 := by
    rw [asgK_length]
    have : i = 0 ∨ i = 1 ∨ i = 2 := by omega
    rcases this with rfl | rfl | rfl
    · simp
    · simp; omega
    · have := Nat.pow_le_pow_left h6 2; omega
  have hrow : ∀ j, j < (asgK n i).length → (gr (asgK n i) j).length = i := fun j hj => asgK_row n i _ (by simp [gr, List.getElem?_eq_getElem hj])
  have hnx : asgK n (i + 1) = nxt n (asgK n i) := rfl
  generalize asgK n i = o at *
  refine loopX (tabK_mono _) o.length (fun j γ => [(5, .arr 112 γ), (6, I64 j)]) (fun j γ => [⟨112, γ, .arr 1 (orowsD (nxt n (o.take j)))⟩]) (fun _ _ => True) g (by simp) (by simp [nxt, orowsD]) trivial (fun j γ g2 hj _ => ?_)
  simp [lb_101_7, wrap_succ hj (by omega)]
  refine ⟨fun h2 => ?_, fun h2 => ?_⟩
  · refine loopX (tabK_mono _) n (fun x γ => [(5, .arr 112 γ), (7, I64 x)]) (fun x γ => [⟨112, γ, .arr 1 (orowsD (nxt n (o.take j) ++ (List.range x).map fun (z : Nat) => gr o j ++ [(z : Int)]))⟩]) (fun _ _ => True) γ (by simp) (by simp) trivial (fun x γ g3 hx _ => ?_)
    simp [lb_101_10, wrap_succ hx (by omega)]
    refine ⟨fun h3 => ?_, fun h3 => ?_⟩
    · have e1 := hrow j h2
      have e2 : j * n ≤ 36 * 6 := Nat.mul_le_mul (by omega) h6
      have e3 : (nxt n (List.take j o)).length = j * n := by rw [nxt_length, List.length_take, Nat.min_eq_left hj]
      have e4 : big = 1048576 * 1048576 := rfl
      refine ⟨h2, by omega, by omega, by omega, h3, by rw [List.range_succ, List.map_append]; rfl⟩
    · obtain rfl : x = n := by omega
      rw [← nxt_take h2]
      exact ⟨h2, γ, ⟨rfl, wrap_succ hj (by omega)⟩, rfl, rfl⟩
  · obtain rfl : j = o.length := by omega
    rw [List.take_length]
    exact ⟨by omega, hnx.symm, wrap_succ hi (by omega)⟩
noncomputable def fm_assignments : Fam Try.prog := mkFam (X := Int) 101 false (fun n => [I64 n]) (fun n => (0 ≤ n) ∧ (n ≤ 6)) (fun n => RL (asgK n.toNat 3)) (by
  rintro n ⟨h0, h6⟩
  exact assignments_pc n h0 h6)
@[simp] theorem fm_assignments_id : fm_assignments.id = 101 := rfl
@[simp] theorem fm_assignments_fresh : fm_assignments.fresh = false := rfl
@[simp] theorem fm_assignments_look (n : Int) (h0 : 0 ≤ n) (h6 : n ≤ 6) : fm_assignments.look [I64 n] = some (RL (asgK n.toNat 3)) :=
  lookF_of (X := Int) (args := fun n => [I64 n]) (pre := fun n => (0 ≤ n) ∧ (n ≤ 6)) (val := fun n => RL (asgK n.toNat 3)) (by
  intro n n' h
  simp at h
  subst h
  rfl) n ⟨h0, h6⟩
attribute [irreducible] fm_assignments

theorem all_gr {A : List (List Int)} {p : List Int → Bool} : A.all p = true ↔ ∀ j, j < A.length → p (gr A j) = true := by
  rw [List.all_eq_true]
  constructor
  · intro h j hj
    exact h _ (by simp [gr, List.getElem?_eq_getElem hj])
  · intro h x hx
    obtain ⟨j, hj, rfl⟩ := List.getElem_of_mem hx
    have := h j hj
    simpa [gr, List.getElem?_eq_getElem hj] using this

theorem okP_up {u : List Int} {t : List (List Int)} (a : VA u t) {p q nm : List Int} (hp : validT p) (hq : validT q) (hn : NmOk nm u.length) {k : Nat} (h : okP u t p q k nm = true) : ∀ i, okP u t p q (k + i) nm = true
  | 0 => h
  | i + 1 => okP_mono a hp hq hn (okP_up a hp hq hn h i)

theorem leastS_pc (u : List Int) (t : List (List Int)) (p q : List Int) (hu : Big u.length) (ht : BigR t) (hp : Big p.length) (hq : Big q.length) : PC Try.prog 52 [AL u t, IL p, IL q] none true (fun r _ => r = .tup [I64 (lpM u t p q).1, .bool (lpM u t p q).2]) := by
  have hul := hu.le
  refine pcT [fm_validAlgebraS, fm_validTermS, fm_assignments, fm_powS, fm_valueS, fm_belowS] fok_52 ?_
  simp [fa_52]
  refine cutW (tabK_mono _) [(25, .bool (!(decide (VA u t) && decide (validT p) && decide (validT q))))] (by simp [hu, ht, hp, hq]; grind) ?_
  cases hb : (decide (VA u t) && decide (validT p) && decide (validT q))
  · simp [lpM, hb]
  simp only [Bool.and_eq_true, decide_eq_true_eq] at hb
  obtain ⟨⟨a, vp⟩, vq⟩ := hb
  have f := a.tf
  have h6 := f.lat.six
  simp [h6, show (u.length : Int) ≤ 6 by omega]
  have hA : ∀ j, j < (asgK u.length 3).length → NmOk (gr (asgK u.length 3) j) u.length := fun j hj => asg3_ok (by simp [gr, List.getElem?_eq_getElem hj])
  have hAl : (asgK u.length 3).length ≤ 216 := by
    rw [asgK_length]
    exact Nat.pow_le_pow_left h6 3
  have elp : lpI u t p q = firstI 21 fun k => (asgK u.length 3).all (okP u t p q k) := rfl
  have ee : lpM u t p q = if 0 ≤ lpI u t p q then (lpI u t p q, true) else (0, false) := by simp [lpM, a, vp, vq]
  rw [ee, elp]
  clear ee elp
  have hall : ∀ k, (asgK u.length 3).all (okP u t p q k) = true ↔ ∀ j, j < (asgK u.length 3).length → okP u t p q k (gr (asgK u.length 3) j) = true := fun k => all_gr
  generalize asgK u.length 3 = A at *
  refine loopX (tabK_mono _) A.length (fun j m => [(9, I64 (m : Nat)), (10, I64 j)]) (fun _ _ => []) (fun j m => m ≤ 20 ∧ (∀ z, z < j → okP u t p q m (gr A z) = true) ∧ ∀ m', m' < m → A.all (okP u t p q m') = false) (0 : Nat) (by simp) (by simp) (by simp) (fun j m g hj hP => ?_)
  obtain ⟨hm, hP1, hP2⟩ := hP
  rcases Nat.lt_or_ge j A.length with h | h
  · have nm := hA j h
    have ho1 := (ev1_ok f nm _ _ _ (Nat.le_refl _) vp.2).1
    have ho2 := (ev1_ok f nm _ _ _ (Nat.le_refl _) vq.2).1
    have eo : ∀ k, okP u t p q k (gr A j) = tb u (powM u t (ev1 u t (gr A j) p).1.toNat k).toNat (ev1 u t (gr A j) q).1.toNat := fun _ => rfl
    simp [lb_52_6, wrap_succ hj (by omega), h, f, nm, hp, hq, vp.some, vq.some]
    generalize hx : (ev1 u t (gr A j) p).1 = x at *
    generalize hy : (ev1 u t (gr A j) q).1 = y at *
    refine loopA (tabK_mono _) (20 - m) (fun i => [(9, I64 ((m + i : Nat)))]) (fun _ => []) (fun i => okP u t p q (m + i) (gr A j) = false) (by simp) (by simp) (fun i g hi hQ => ?_)
    have hr := powM_rng f (x := x.toNat) (by omega) (m + i)
    have s := f.lat.sm
    simp [lb_52_10, f, s, hr, ho1, ho2, show x.toNat < u.length by omega, show y.toNat < u.length by omega, show (0 : Int) ≤ (m : Int) + i by omega, show (m : Int) + i ≤ 1000000 by omega, show ((m : Int) + i).toNat = m + i by omega, show (powM u t x.toNat (m + i)).toNat < u.length by omega, ← eo, wrap64 (n := (m : Int) + i + 1) (by omega) (by omega)]
    have hmem : gr A j ∈ A := by simp [gr, List.getElem?_eq_getElem h]
    have hbad : ∀ m', m' < m + i → A.all (okP u t p q m') = false := fun m' hm' => by
      rcases Nat.lt_or_ge m' m with c | c
      · exact hP2 m' c
      · have := hQ (m' - m) (by omega)
        rw [show m + (m' - m) = m' by omega] at this
        rw [List.all_eq_false]
        exact ⟨_, hmem, by simp [this]⟩
    refine ⟨fun h3 => ⟨fun h4 => ?_, fun h4 => ⟨by omega, by omega, h3⟩⟩, fun h3 => ⟨h, m + i, ⟨by simp, wrap_succ hj (by omega)⟩, by omega, fun z hz => ?_, fun m' hm' => by simpa using hbad m' hm'⟩⟩
    · have hno : (firstI 21 fun k => A.all (okP u t p q k)) = -1 := firstI_none fun k hk => by
        rcases Nat.lt_or_ge k (m + i) with c | c
        · exact hbad k c
        · obtain rfl : k = m + i := by omega
          rw [List.all_eq_false]
          exact ⟨_, hmem, by simp [h3]⟩
      rw [hno]
      simp
    · rcases Nat.lt_or_ge z j with c | c
      · exact okP_up a vp vq (hA z (by omega)) (hP1 z c) i
      · obtain rfl : z = j := by omega
        exact h3
  · obtain rfl : j = A.length := by omega
    simp [lb_52_6]
    rw [firstI_some (z := m) (by omega) ((hall m).2 hP1) hP2]
    simp
noncomputable def fm_leastS : Fam Try.prog := mkFam (X := List Int × List (List Int) × List Int × List Int) 52 true (fun (u, t, p, q) => [AL u t, IL p, IL q]) (fun (u, t, p, q) => (Big u.length) ∧ (BigR t) ∧ (Big p.length) ∧ (Big q.length)) (fun (u, t, p, q) => .tup [I64 (lpM u t p q).1, .bool (lpM u t p q).2]) (by
  rintro ⟨u, t, p, q⟩ ⟨hu, ht, hp, hq⟩
  exact leastS_pc u t p q hu ht hp hq)
@[simp] theorem fm_leastS_id : fm_leastS.id = 52 := rfl
@[simp] theorem fm_leastS_fresh : fm_leastS.fresh = true := rfl
@[simp] theorem fm_leastS_look (u : List Int) (t : List (List Int)) (p q : List Int) (hu : Big u.length) (ht : BigR t) (hp : Big p.length) (hq : Big q.length) : fm_leastS.look [AL u t, IL p, IL q] = some (.tup [I64 (lpM u t p q).1, .bool (lpM u t p q).2]) :=
  lookF_of (X := List Int × List (List Int) × List Int × List Int) (args := fun (u, t, p, q) => [AL u t, IL p, IL q]) (pre := fun (u, t, p, q) => (Big u.length) ∧ (BigR t) ∧ (Big p.length) ∧ (Big q.length)) (val := fun (u, t, p, q) => .tup [I64 (lpM u t p q).1, .bool (lpM u t p q).2]) (by
  rintro ⟨u, t, p, q⟩ ⟨u', t', p', q'⟩ h
  simp at h
  try simp only [and_assoc] at h
  obtain ⟨rfl, rfl, rfl, rfl⟩ := h
  rfl) (u, t, p, q) ⟨hu, ht, hp, hq⟩
attribute [irreducible] fm_leastS

end Go.PS
end
