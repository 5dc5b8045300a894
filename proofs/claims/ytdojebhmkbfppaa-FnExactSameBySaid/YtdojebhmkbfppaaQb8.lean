/- Part 8 of what the last text proves: The program's RefuteTerm returns what the reference's returns, for all arguments. -/
import Derived.Test.YtdojebhmkbfppaaQb7
import Derived.WalkKit
import Derived.ProofKit
import Derived.Shelf.RegionOpenPlain
import Derived.Deep.LoopGhost
import Derived.Lib.Walk
import Derived.Lib.SliceRun
import Derived.Laws.CopyOwn
import Derived.Laws.MakeOwn
import Derived.LoopN
import Derived.Shelf.Spec.SlicesInsert
section
-- PRINTED by rep.py: slices.Repeat of a row of one number, up to six times.
set_option linter.unusedVariables false
set_option linter.unusedSimpArgs false
open Go Go.Proofs Go.RowKit Go.Lib
namespace Go.PS
theorem made1 (z : Value) (n : Nat) (hz : z.cells = #[z]) : madeCells z.cells n = (List.replicate n z).toArray := by
  apply Array.ext
  · simp [madeCells]
  · intro i h1 h2
    simp [madeCells, hz, Nat.mod_one]

theorem copyEq (W : World) {g o dLen dCap sLen sCap : Nat} {a : Addr} {L cs : List Value} (hg : W.heap[g]? = some (.cells L.toArray 3 (0, 0))) (hn : cs.length = Nat.min sLen dLen)
    (hsrc : ∀ j v, cs[j]? = some v → W.cell? (a.add j) = some v) (hfit : o + cs.length ≤ L.length) (h1 : ∀ v ∈ cs, v.oneCell' = true) :
    ∃ W', (Builtin.copy_ #[22, 22] 3 #[.slice (some ⟨g, o, none⟩) dLen dCap, .slice (some a) sLen sCap]).run Try.prog W = .ok (goInt cs.length) W' ∧
      W'.heap[g]? = some (.cells (L.take o ++ cs ++ L.drop (o + cs.length)).toArray 3 (0, 0)) ∧ Below g W W' := by
  have h := run_copy_row (P := Try.prog) W 22 22 3 3 g o dLen dCap a sLen sCap L.toArray 3 cs Try.underlying22 (by kernel_rfl) hg hn hsrc (by simpa using hfit) h1
  exact ⟨_, h, setRow_heap W g _ _ 3 _ hg, below_setRow (Below.refl _ _) (Nat.le_refl _) _⟩

theorem cell_at {W : World} {g k : Nat} {L : List Value} {u : Value} (hg : W.heap[g]? = some (.cells L.toArray 3 (0, 0))) (hu : L[k]? = some u) : W.cell? ⟨g, k, none⟩ = some u := by
  simp [World.cell?, hg, hu]

theorem src_one {W : World} {a : Addr} {u : Value} (h : W.cell? a = some u) : ∀ j v, [u][j]? = some v → W.cell? (a.add j) = some v := by
  intro j v hj
  have hj0 : j = 0 := by have := (List.getElem?_eq_some_iff.1 hj).1; simpa using this
  subst hj0
  have hu : v = u := by simpa using hj.symm
  subst hu
  simpa [Addr.add] using h

theorem src_row {W : World} {g : Nat} {cs rest : List Value} (hg : W.heap[g]? = some (.cells (cs ++ rest).toArray 3 (0, 0))) : ∀ j v, cs[j]? = some v → W.cell? ((⟨g, 0, none⟩ : Addr).add j) = some v := by
  intro j v hj
  rw [Go.WideShapes.add_plain, Nat.zero_add]
  exact cell_at hg (by rw [List.getElem?_append_left (List.getElem?_eq_some_iff.1 hj).1]; exact hj)
set_option maxRecDepth 100000

set_option maxHeartbeats 1000000 in
theorem mul1_0 (w : World) : Calls Try.prog 145 #[.int .u64 1, .int .u64 0] w fun e w' => e = .returned (.tuple #[.int .u64 0, .int .u64 0]) ∧ w = w' := by
  have e1 : bits BinOp.and IntKind.u64 1 4294967295 = 1 := by decide
  have e2 : bits BinOp.and IntKind.u64 0 4294967295 = 0 := by decide
  have e3 : bits BinOp.and IntKind.u64 0 4294967295 = 0 := by decide
  have e4 : IntKind.u64.wrap 0 = 0 := by decide
  have e5 : IntKind.u64.wrap 0 = 0 := by decide
  have e6 : (0 : Int) / 4294967296 = 0 := by decide
  have e7 : IntKind.u64.wrap 1 = 1 := by decide
  have e8 : (0 : Int) / 4294967296 = 0 := by decide
  go_enter Try.func145, Try.ntmps145
  go_wp2
  go_ret2
  exact ⟨rfl, rfl⟩

set_option maxHeartbeats 2000000 in
theorem rep_0 (v : Int) (b o cap : Nat) (w : World) (hc : w.cell? ⟨b, o, none⟩ = some (.int .i64 v)) (hbl : b < w.heap.size) :
    Calls Try.prog 95 #[.slice (some ⟨b, o, none⟩) 1 cap, .int .i64 0] w fun e w' => e = .returned (.slice (some ⟨w.heap.size, 0, none⟩) 0 0) ∧ w'.heap[w.heap.size]? = some (.cells (List.replicate 0 (Value.int .i64 v)).toArray 3 (0, 0)) ∧ Below w.heap.size w w' := by
  have e4 : IntKind.u64.wrap 0 = 0 := by decide
  obtain ⟨i, hi⟩ : ∃ i, Try.prog.info? 3 = some i := Option.isSome_iff_exists.1 (by kernel_rfl)
  have hz : i.zero = some (.int .i64 0) := by
    have h : (Try.prog.info? 3).bind (·.zero) = some (.int .i64 0) := by kernel_rfl
    rw [hi] at h; simpa using h
  have hsz : i.size = 1 := by
    have h : (Try.prog.info? 3).map (·.size) = some 1 := by kernel_rfl
    rw [hi] at h; simpa using h
  have hby : i.bytes = 8 := by
    have h : (Try.prog.info? 3).map (·.bytes) = some 8 := by kernel_rfl
    rw [hi] at h; simpa using h
  obtain ⟨W1, hmk, g1, b1⟩ : ∃ W1, (Instr.makeSlice 22 (.int .i64 0) (.int .i64 0)).run Try.prog w = .ok (.slice (some ⟨w.heap.size, 0, none⟩) 0 0) W1 ∧ W1.heap[w.heap.size]? = some (.cells (List.replicate 0 (Value.int .i64 0)).toArray 3 (0, 0)) ∧ Below w.heap.size w W1 := by
    refine ⟨w.alloc (.cells (List.replicate 0 (Value.int .i64 0)).toArray 3), ?_, ?_, (Below.refl _ _).alloc (Nat.le_refl _) _⟩
    · rw [run_make (P := Try.prog) w 22 3 i _ Try.underlying22 hi hz .i64 .i64 0 0 (by decide) (by decide) (by rw [hby]; decide) (by decide), hsz, made1 _ _ rfl]
      rfl
    · unfold World.alloc; exact Array.getElem?_push_size
  clear hi hz hsz hby i
  have hc1 : W1.cell? ⟨b, o, none⟩ = some (.int .i64 v) := by rw [← hc]; unfold World.cell?; rw [b1.block b hbl]
  generalize w.heap.size = g at *
  obtain ⟨W2, c1, g2, b2⟩ := copyEq W1 (o := 0) (dLen := 0) (dCap := 0) (sLen := 1) (sCap := cap) (a := ⟨b, o, none⟩) (cs := []) g1 rfl (fun j v h => by simp at h) (by simp) (by simp)
  have g2 : W2.heap[g]? = some (.cells ([] : List Value).toArray 3 (0, 0)) := g2
  simp only [List.length_nil, List.length_cons, Nat.zero_add, Nat.reduceAdd] at c1
  have G : Aside (W2.heap[g]? = some (.cells (List.replicate 0 (Value.int .i64 v)).toArray 3 (0, 0)) ∧ Below g w W2) := ⟨g2, b1.trans b2⟩
  clear g1 g2 b1 b2 hc hc1 hbl
  have mixed := Try.checked.mixed
  go_enter Try.func95, Try.ntmps95
  go_wp2_with (go_at_call 145; refine (mul1_0 _).mono ?_; rintro e w' ⟨rfl, rfl⟩)
  refine wp_loop_rounds 2 ?_
  simp only [rounds_succ]
  go_wp2
  go_ret
  exact ⟨rfl, G.out⟩

set_option maxHeartbeats 1000000 in
theorem mul1_1 (w : World) : Calls Try.prog 145 #[.int .u64 1, .int .u64 1] w fun e w' => e = .returned (.tuple #[.int .u64 0, .int .u64 1]) ∧ w = w' := by
  have e1 : bits BinOp.and IntKind.u64 1 4294967295 = 1 := by decide
  have e2 : bits BinOp.and IntKind.u64 1 4294967295 = 1 := by decide
  have e3 : bits BinOp.and IntKind.u64 0 4294967295 = 0 := by decide
  have e4 : IntKind.u64.wrap 1 = 1 := by decide
  have e5 : IntKind.u64.wrap 0 = 0 := by decide
  have e6 : (1 : Int) / 4294967296 = 0 := by decide
  have e7 : IntKind.u64.wrap 1 = 1 := by decide
  have e8 : (0 : Int) / 4294967296 = 0 := by decide
  go_enter Try.func145, Try.ntmps145
  go_wp2
  go_ret2
  exact ⟨rfl, rfl⟩

set_option maxHeartbeats 2000000 in
theorem rep_1 (v : Int) (b o cap : Nat) (w : World) (hc : w.cell? ⟨b, o, none⟩ = some (.int .i64 v)) (hbl : b < w.heap.size) :
    Calls Try.prog 95 #[.slice (some ⟨b, o, none⟩) 1 cap, .int .i64 1] w fun e w' => e = .returned (.slice (some ⟨w.heap.size, 0, none⟩) 1 1) ∧ w'.heap[w.heap.size]? = some (.cells (List.replicate 1 (Value.int .i64 v)).toArray 3 (0, 0)) ∧ Below w.heap.size w w' := by
  have e4 : IntKind.u64.wrap 1 = 1 := by decide
  obtain ⟨i, hi⟩ : ∃ i, Try.prog.info? 3 = some i := Option.isSome_iff_exists.1 (by kernel_rfl)
  have hz : i.zero = some (.int .i64 0) := by
    have h : (Try.prog.info? 3).bind (·.zero) = some (.int .i64 0) := by kernel_rfl
    rw [hi] at h; simpa using h
  have hsz : i.size = 1 := by
    have h : (Try.prog.info? 3).map (·.size) = some 1 := by kernel_rfl
    rw [hi] at h; simpa using h
  have hby : i.bytes = 8 := by
    have h : (Try.prog.info? 3).map (·.bytes) = some 8 := by kernel_rfl
    rw [hi] at h; simpa using h
  obtain ⟨W1, hmk, g1, b1⟩ : ∃ W1, (Instr.makeSlice 22 (.int .i64 1) (.int .i64 1)).run Try.prog w = .ok (.slice (some ⟨w.heap.size, 0, none⟩) 1 1) W1 ∧ W1.heap[w.heap.size]? = some (.cells (List.replicate 1 (Value.int .i64 0)).toArray 3 (0, 0)) ∧ Below w.heap.size w W1 := by
    refine ⟨w.alloc (.cells (List.replicate 1 (Value.int .i64 0)).toArray 3), ?_, ?_, (Below.refl _ _).alloc (Nat.le_refl _) _⟩
    · rw [run_make (P := Try.prog) w 22 3 i _ Try.underlying22 hi hz .i64 .i64 1 1 (by decide) (by decide) (by rw [hby]; decide) (by decide), hsz, made1 _ _ rfl]
      rfl
    · unfold World.alloc; exact Array.getElem?_push_size
  clear hi hz hsz hby i
  have hc1 : W1.cell? ⟨b, o, none⟩ = some (.int .i64 v) := by rw [← hc]; unfold World.cell?; rw [b1.block b hbl]
  generalize w.heap.size = g at *
  obtain ⟨W2, c1, g2, b2⟩ := copyEq W1 (o := 0) (dLen := 1) (dCap := 1) (sLen := 1) (sCap := cap) (cs := [.int .i64 v]) g1 rfl (src_one hc1) (by simp) (by simp [Value.oneCell'])
  have g2 : W2.heap[g]? = some (.cells ([.int .i64 v] : List Value).toArray 3 (0, 0)) := g2
  simp only [List.length_nil, List.length_cons, Nat.zero_add, Nat.reduceAdd] at c1
  have G : Aside (W2.heap[g]? = some (.cells (List.replicate 1 (Value.int .i64 v)).toArray 3 (0, 0)) ∧ Below g w W2) := ⟨g2, b1.trans b2⟩
  clear g1 g2 b1 b2 hc hc1 hbl
  have mixed := Try.checked.mixed
  go_enter Try.func95, Try.ntmps95
  go_wp2_with (go_at_call 145; refine (mul1_1 _).mono ?_; rintro e w' ⟨rfl, rfl⟩)
  refine wp_loop_rounds 2 ?_
  simp only [rounds_succ]
  go_wp2
  go_ret
  exact ⟨rfl, G.out⟩

set_option maxHeartbeats 1000000 in
theorem mul1_2 (w : World) : Calls Try.prog 145 #[.int .u64 1, .int .u64 2] w fun e w' => e = .returned (.tuple #[.int .u64 0, .int .u64 2]) ∧ w = w' := by
  have e1 : bits BinOp.and IntKind.u64 1 4294967295 = 1 := by decide
  have e2 : bits BinOp.and IntKind.u64 2 4294967295 = 2 := by decide
  have e3 : bits BinOp.and IntKind.u64 0 4294967295 = 0 := by decide
  have e4 : IntKind.u64.wrap 2 = 2 := by decide
  have e5 : IntKind.u64.wrap 0 = 0 := by decide
  have e6 : (2 : Int) / 4294967296 = 0 := by decide
  have e7 : IntKind.u64.wrap 1 = 1 := by decide
  have e8 : (0 : Int) / 4294967296 = 0 := by decide
  go_enter Try.func145, Try.ntmps145
  go_wp2
  go_ret2
  exact ⟨rfl, rfl⟩

set_option maxHeartbeats 2000000 in
theorem rep_2 (v : Int) (b o cap : Nat) (w : World) (hc : w.cell? ⟨b, o, none⟩ = some (.int .i64 v)) (hbl : b < w.heap.size) :
    Calls Try.prog 95 #[.slice (some ⟨b, o, none⟩) 1 cap, .int .i64 2] w fun e w' => e = .returned (.slice (some ⟨w.heap.size, 0, none⟩) 2 2) ∧ w'.heap[w.heap.size]? = some (.cells (List.replicate 2 (Value.int .i64 v)).toArray 3 (0, 0)) ∧ Below w.heap.size w w' := by
  have e4 : IntKind.u64.wrap 2 = 2 := by decide
  obtain ⟨i, hi⟩ : ∃ i, Try.prog.info? 3 = some i := Option.isSome_iff_exists.1 (by kernel_rfl)
  have hz : i.zero = some (.int .i64 0) := by
    have h : (Try.prog.info? 3).bind (·.zero) = some (.int .i64 0) := by kernel_rfl
    rw [hi] at h; simpa using h
  have hsz : i.size = 1 := by
    have h : (Try.prog.info? 3).map (·.size) = some 1 := by kernel_rfl
    rw [hi] at h; simpa using h
  have hby : i.bytes = 8 := by
    have h : (Try.prog.info? 3).map (·.bytes) = some 8 := by kernel_rfl
    rw [hi] at h; simpa using h
  obtain ⟨W1, hmk, g1, b1⟩ : ∃ W1, (Instr.makeSlice 22 (.int .i64 2) (.int .i64 2)).run Try.prog w = .ok (.slice (some ⟨w.heap.size, 0, none⟩) 2 2) W1 ∧ W1.heap[w.heap.size]? = some (.cells (List.replicate 2 (Value.int .i64 0)).toArray 3 (0, 0)) ∧ Below w.heap.size w W1 := by
    refine ⟨w.alloc (.cells (List.replicate 2 (Value.int .i64 0)).toArray 3), ?_, ?_, (Below.refl _ _).alloc (Nat.le_refl _) _⟩
    · rw [run_make (P := Try.prog) w 22 3 i _ Try.underlying22 hi hz .i64 .i64 2 2 (by decide) (by decide) (by rw [hby]; decide) (by decide), hsz, made1 _ _ rfl]
      rfl
    · unfold World.alloc; exact Array.getElem?_push_size
  clear hi hz hsz hby i
  have hc1 : W1.cell? ⟨b, o, none⟩ = some (.int .i64 v) := by rw [← hc]; unfold World.cell?; rw [b1.block b hbl]
  generalize w.heap.size = g at *
  obtain ⟨W2, c1, g2, b2⟩ := copyEq W1 (o := 0) (dLen := 2) (dCap := 2) (sLen := 1) (sCap := cap) (cs := [.int .i64 v]) g1 rfl (src_one hc1) (by simp) (by simp [Value.oneCell'])
  have g2 : W2.heap[g]? = some (.cells ([.int .i64 v, .int .i64 0] : List Value).toArray 3 (0, 0)) := g2
  obtain ⟨W3, c2, g3, b3⟩ := copyEq W2.drew (o := 1) (dLen := 1) (dCap := 1) (sLen := 1) (sCap := 2) (a := ⟨g, 0, none⟩) (cs := [.int .i64 v]) g2 rfl (src_row (cs := [.int .i64 v]) (rest := [.int .i64 0]) g2) (by simp) (by simp [Value.oneCell'])
  have g3 : W3.heap[g]? = some (.cells ([.int .i64 v, .int .i64 v] : List Value).toArray 3 (0, 0)) := g3
  simp only [List.length_nil, List.length_cons, Nat.zero_add, Nat.reduceAdd] at c1 c2
  have G : Aside (W3.heap[g]? = some (.cells (List.replicate 2 (Value.int .i64 v)).toArray 3 (0, 0)) ∧ Below g w W3) := ⟨g3, (b1.trans b2).drew.trans b3⟩
  clear g1 g2 g3 b1 b2 b3 hc hc1 hbl
  have mixed := Try.checked.mixed
  go_enter Try.func95, Try.ntmps95
  go_wp2_with (go_at_call 145; refine (mul1_2 _).mono ?_; rintro e w' ⟨rfl, rfl⟩)
  refine wp_loop_rounds 3 ?_
  simp only [rounds_succ]
  go_wp2
  go_region_law_o (refine step_copy_runI rfl _ _ 22 22 rfl _ _ (by simp [Act.eval, Act.put]) (by simp [Act.eval, Act.put]) c2 ?_)
  go_wp2
  simp only [rounds_succ]
  go_wp2
  go_ret
  exact ⟨rfl, G.out⟩

set_option maxHeartbeats 1000000 in
theorem mul1_3 (w : World) : Calls Try.prog 145 #[.int .u64 1, .int .u64 3] w fun e w' => e = .returned (.tuple #[.int .u64 0, .int .u64 3]) ∧ w = w' := by
  have e1 : bits BinOp.and IntKind.u64 1 4294967295 = 1 := by decide
  have e2 : bits BinOp.and IntKind.u64 3 4294967295 = 3 := by decide
  have e3 : bits BinOp.and IntKind.u64 0 4294967295 = 0 := by decide
  have e4 : IntKind.u64.wrap 3 = 3 := by decide
  have e5 : IntKind.u64.wrap 0 = 0 := by decide
  have e6 : (3 : Int) / 4294967296 = 0 := by decide
  have e7 : IntKind.u64.wrap 1 = 1 := by decide
  have e8 : (0 : Int) / 4294967296 = 0 := by decide
  go_enter Try.func145, Try.ntmps145
  go_wp2
  go_ret2
  exact ⟨rfl, rfl⟩

set_option maxHeartbeats 2000000 in
theorem rep_3 (v : Int) (b o cap : Nat) (w : World) (hc : w.cell? ⟨b, o, none⟩ = some (.int .i64 v)) (hbl : b < w.heap.size) :
    Calls Try.prog 95 #[.slice (some ⟨b, o, none⟩) 1 cap, .int .i64 3] w fun e w' => e = .returned (.slice (some ⟨w.heap.size, 0, none⟩) 3 3) ∧ w'.heap[w.heap.size]? = some (.cells (List.replicate 3 (Value.int .i64 v)).toArray 3 (0, 0)) ∧ Below w.heap.size w w' := by
  have e4 : IntKind.u64.wrap 3 = 3 := by decide
  obtain ⟨i, hi⟩ : ∃ i, Try.prog.info? 3 = some i := Option.isSome_iff_exists.1 (by kernel_rfl)
  have hz : i.zero = some (.int .i64 0) := by
    have h : (Try.prog.info? 3).bind (·.zero) = some (.int .i64 0) := by kernel_rfl
    rw [hi] at h; simpa using h
  have hsz : i.size = 1 := by
    have h : (Try.prog.info? 3).map (·.size) = some 1 := by kernel_rfl
    rw [hi] at h; simpa using h
  have hby : i.bytes = 8 := by
    have h : (Try.prog.info? 3).map (·.bytes) = some 8 := by kernel_rfl
    rw [hi] at h; simpa using h
  obtain ⟨W1, hmk, g1, b1⟩ : ∃ W1, (Instr.makeSlice 22 (.int .i64 3) (.int .i64 3)).run Try.prog w = .ok (.slice (some ⟨w.heap.size, 0, none⟩) 3 3) W1 ∧ W1.heap[w.heap.size]? = some (.cells (List.replicate 3 (Value.int .i64 0)).toArray 3 (0, 0)) ∧ Below w.heap.size w W1 := by
    refine ⟨w.alloc (.cells (List.replicate 3 (Value.int .i64 0)).toArray 3), ?_, ?_, (Below.refl _ _).alloc (Nat.le_refl _) _⟩
    · rw [run_make (P := Try.prog) w 22 3 i _ Try.underlying22 hi hz .i64 .i64 3 3 (by decide) (by decide) (by rw [hby]; decide) (by decide), hsz, made1 _ _ rfl]
      rfl
    · unfold World.alloc; exact Array.getElem?_push_size
  clear hi hz hsz hby i
  have hc1 : W1.cell? ⟨b, o, none⟩ = some (.int .i64 v) := by rw [← hc]; unfold World.cell?; rw [b1.block b hbl]
  generalize w.heap.size = g at *
  obtain ⟨W2, c1, g2, b2⟩ := copyEq W1 (o := 0) (dLen := 3) (dCap := 3) (sLen := 1) (sCap := cap) (cs := [.int .i64 v]) g1 rfl (src_one hc1) (by simp) (by simp [Value.oneCell'])
  have g2 : W2.heap[g]? = some (.cells ([.int .i64 v, .int .i64 0, .int .i64 0] : List Value).toArray 3 (0, 0)) := g2
  obtain ⟨W3, c2, g3, b3⟩ := copyEq W2.drew (o := 1) (dLen := 2) (dCap := 2) (sLen := 1) (sCap := 3) (a := ⟨g, 0, none⟩) (cs := [.int .i64 v]) g2 rfl (src_row (cs := [.int .i64 v]) (rest := [.int .i64 0, .int .i64 0]) g2) (by simp) (by simp [Value.oneCell'])
  have g3 : W3.heap[g]? = some (.cells ([.int .i64 v, .int .i64 v, .int .i64 0] : List Value).toArray 3 (0, 0)) := g3
  obtain ⟨W4, c3, g4, b4⟩ := copyEq W3.drew (o := 2) (dLen := 1) (dCap := 1) (sLen := 2) (sCap := 3) (a := ⟨g, 0, none⟩) (cs := [.int .i64 v]) g3 rfl (src_row (cs := [.int .i64 v]) (rest := [.int .i64 v, .int .i64 0]) g3) (by simp) (by simp [Value.oneCell'])
  have g4 : W4.heap[g]? = some (.cells ([.int .i64 v, .int .i64 v, .int .i64 v] : List Value).toArray 3 (0, 0)) := g4
  simp only [List.length_nil, List.length_cons, Nat.zero_add, Nat.reduceAdd] at c1 c2 c3
  have G : Aside (W4.heap[g]? = some (.cells (List.replicate 3 (Value.int .i64 v)).toArray 3 (0, 0)) ∧ Below g w W4) := ⟨g4, ((b1.trans b2).drew.trans b3).drew.trans b4⟩
  clear g1 g2 g3 g4 b1 b2 b3 b4 hc hc1 hbl
  have mixed := Try.checked.mixed
  go_enter Try.func95, Try.ntmps95
  go_wp2_with (go_at_call 145; refine (mul1_3 _).mono ?_; rintro e w' ⟨rfl, rfl⟩)
  refine wp_loop_rounds 4 ?_
  simp only [rounds_succ]
  go_wp2
  go_region_law_o (refine step_copy_runI rfl _ _ 22 22 rfl _ _ (by simp [Act.eval, Act.put]) (by simp [Act.eval, Act.put]) c2 ?_)
  go_wp2
  simp only [rounds_succ]
  go_wp2
  go_region_law_o (refine step_copy_runI rfl _ _ 22 22 rfl _ _ (by simp [Act.eval, Act.put]) (by simp [Act.eval, Act.put]) c3 ?_)
  go_wp2
  simp only [rounds_succ]
  go_wp2
  go_ret
  exact ⟨rfl, G.out⟩

set_option maxHeartbeats 1000000 in
theorem mul1_4 (w : World) : Calls Try.prog 145 #[.int .u64 1, .int .u64 4] w fun e w' => e = .returned (.tuple #[.int .u64 0, .int .u64 4]) ∧ w = w' := by
  have e1 : bits BinOp.and IntKind.u64 1 4294967295 = 1 := by decide
  have e2 : bits BinOp.and IntKind.u64 4 4294967295 = 4 := by decide
  have e3 : bits BinOp.and IntKind.u64 0 4294967295 = 0 := by decide
  have e4 : IntKind.u64.wrap 4 = 4 := by decide
  have e5 : IntKind.u64.wrap 0 = 0 := by decide
  have e6 : (4 : Int) / 4294967296 = 0 := by decide
  have e7 : IntKind.u64.wrap 1 = 1 := by decide
  have e8 : (0 : Int) / 4294967296 = 0 := by decide
  go_enter Try.func145, Try.ntmps145
  go_wp2
  go_ret2
  exact ⟨rfl, rfl⟩

set_option maxHeartbeats 2000000 in
theorem rep_4 (v : Int) (b o cap : Nat) (w : World) (hc : w.cell? ⟨b, o, none⟩ = some (.int .i64 v)) (hbl : b < w.heap.size) :
    Calls Try.prog 95 #[.slice (some ⟨b, o, none⟩) 1 cap, .int .i64 4] w fun e w' => e = .returned (.slice (some ⟨w.heap.size, 0, none⟩) 4 4) ∧ w'.heap[w.heap.size]? = some (.cells (List.replicate 4 (Value.int .i64 v)).toArray 3 (0, 0)) ∧ Below w.heap.size w w' := by
  have e4 : IntKind.u64.wrap 4 = 4 := by decide
  obtain ⟨i, hi⟩ : ∃ i, Try.prog.info? 3 = some i := Option.isSome_iff_exists.1 (by kernel_rfl)
  have hz : i.zero = some (.int .i64 0) := by
    have h : (Try.prog.info? 3).bind (·.zero) = some (.int .i64 0) := by kernel_rfl
    rw [hi] at h; simpa using h
  have hsz : i.size = 1 := by
    have h : (Try.prog.info? 3).map (·.size) = some 1 := by kernel_rfl
    rw [hi] at h; simpa using h
  have hby : i.bytes = 8 := by
    have h : (Try.prog.info? 3).map (·.bytes) = some 8 := by kernel_rfl
    rw [hi] at h; simpa using h
  obtain ⟨W1, hmk, g1, b1⟩ : ∃ W1, (Instr.makeSlice 22 (.int .i64 4) (.int .i64 4)).run Try.prog w = .ok (.slice (some ⟨w.heap.size, 0, none⟩) 4 4) W1 ∧ W1.heap[w.heap.size]? = some (.cells (List.replicate 4 (Value.int .i64 0)).toArray 3 (0, 0)) ∧ Below w.heap.size w W1 := by
    refine ⟨w.alloc (.cells (List.replicate 4 (Value.int .i64 0)).toArray 3), ?_, ?_, (Below.refl _ _).alloc (Nat.le_refl _) _⟩
    · rw [run_make (P := Try.prog) w 22 3 i _ Try.underlying22 hi hz .i64 .i64 4 4 (by decide) (by decide) (by rw [hby]; decide) (by decide), hsz, made1 _ _ rfl]
      rfl
    · unfold World.alloc; exact Array.getElem?_push_size
  clear hi hz hsz hby i
  have hc1 : W1.cell? ⟨b, o, none⟩ = some (.int .i64 v) := by rw [← hc]; unfold World.cell?; rw [b1.block b hbl]
  generalize w.heap.size = g at *
  obtain ⟨W2, c1, g2, b2⟩ := copyEq W1 (o := 0) (dLen := 4) (dCap := 4) (sLen := 1) (sCap := cap) (cs := [.int .i64 v]) g1 rfl (src_one hc1) (by simp) (by simp [Value.oneCell'])
  have g2 : W2.heap[g]? = some (.cells ([.int .i64 v, .int .i64 0, .int .i64 0, .int .i64 0] : List Value).toArray 3 (0, 0)) := g2
  obtain ⟨W3, c2, g3, b3⟩ := copyEq W2.drew (o := 1) (dLen := 3) (dCap := 3) (sLen := 1) (sCap := 4) (a := ⟨g, 0, none⟩) (cs := [.int .i64 v]) g2 rfl (src_row (cs := [.int .i64 v]) (rest := [.int .i64 0, .int .i64 0, .int .i64 0]) g2) (by simp) (by simp [Value.oneCell'])
  have g3 : W3.heap[g]? = some (.cells ([.int .i64 v, .int .i64 v, .int .i64 0, .int .i64 0] : List Value).toArray 3 (0, 0)) := g3
  obtain ⟨W4, c3, g4, b4⟩ := copyEq W3.drew (o := 2) (dLen := 2) (dCap := 2) (sLen := 2) (sCap := 4) (a := ⟨g, 0, none⟩) (cs := [.int .i64 v, .int .i64 v]) g3 rfl (src_row (cs := [.int .i64 v, .int .i64 v]) (rest := [.int .i64 0, .int .i64 0]) g3) (by simp) (by simp [Value.oneCell'])
  have g4 : W4.heap[g]? = some (.cells ([.int .i64 v, .int .i64 v, .int .i64 v, .int .i64 v] : List Value).toArray 3 (0, 0)) := g4
  simp only [List.length_nil, List.length_cons, Nat.zero_add, Nat.reduceAdd] at c1 c2 c3
  have G : Aside (W4.heap[g]? = some (.cells (List.replicate 4 (Value.int .i64 v)).toArray 3 (0, 0)) ∧ Below g w W4) := ⟨g4, ((b1.trans b2).drew.trans b3).drew.trans b4⟩
  clear g1 g2 g3 g4 b1 b2 b3 b4 hc hc1 hbl
  have mixed := Try.checked.mixed
  go_enter Try.func95, Try.ntmps95
  go_wp2_with (go_at_call 145; refine (mul1_4 _).mono ?_; rintro e w' ⟨rfl, rfl⟩)
  refine wp_loop_rounds 4 ?_
  simp only [rounds_succ]
  go_wp2
  go_region_law_o (refine step_copy_runI rfl _ _ 22 22 rfl _ _ (by simp [Act.eval, Act.put]) (by simp [Act.eval, Act.put]) c2 ?_)
  go_wp2
  simp only [rounds_succ]
  go_wp2
  go_region_law_o (refine step_copy_runI rfl _ _ 22 22 rfl _ _ (by simp [Act.eval, Act.put]) (by simp [Act.eval, Act.put]) c3 ?_)
  go_wp2
  simp only [rounds_succ]
  go_wp2
  go_ret
  exact ⟨rfl, G.out⟩

set_option maxHeartbeats 1000000 in
theorem mul1_5 (w : World) : Calls Try.prog 145 #[.int .u64 1, .int .u64 5] w fun e w' => e = .returned (.tuple #[.int .u64 0, .int .u64 5]) ∧ w = w' := by
  have e1 : bits BinOp.and IntKind.u64 1 4294967295 = 1 := by decide
  have e2 : bits BinOp.and IntKind.u64 5 4294967295 = 5 := by decide
  have e3 : bits BinOp.and IntKind.u64 0 4294967295 = 0 := by decide
  have e4 : IntKind.u64.wrap 5 = 5 := by decide
  have e5 : IntKind.u64.wrap 0 = 0 := by decide
  have e6 : (5 : Int) / 4294967296 = 0 := by decide
  have e7 : IntKind.u64.wrap 1 = 1 := by decide
  have e8 : (0 : Int) / 4294967296 = 0 := by decide
  go_enter Try.func145, Try.ntmps145
  go_wp2
  go_ret2
  exact ⟨rfl, rfl⟩

set_option maxHeartbeats 2000000 in
theorem rep_5 (v : Int) (b o cap : Nat) (w : World) (hc : w.cell? ⟨b, o, none⟩ = some (.int .i64 v)) (hbl : b < w.heap.size) :
    Calls Try.prog 95 #[.slice (some ⟨b, o, none⟩) 1 cap, .int .i64 5] w fun e w' => e = .returned (.slice (some ⟨w.heap.size, 0, none⟩) 5 5) ∧ w'.heap[w.heap.size]? = some (.cells (List.replicate 5 (Value.int .i64 v)).toArray 3 (0, 0)) ∧ Below w.heap.size w w' := by
  have e4 : IntKind.u64.wrap 5 = 5 := by decide
  obtain ⟨i, hi⟩ : ∃ i, Try.prog.info? 3 = some i := Option.isSome_iff_exists.1 (by kernel_rfl)
  have hz : i.zero = some (.int .i64 0) := by
    have h : (Try.prog.info? 3).bind (·.zero) = some (.int .i64 0) := by kernel_rfl
    rw [hi] at h; simpa using h
  have hsz : i.size = 1 := by
    have h : (Try.prog.info? 3).map (·.size) = some 1 := by kernel_rfl
    rw [hi] at h; simpa using h
  have hby : i.bytes = 8 := by
    have h : (Try.prog.info? 3).map (·.bytes) = some 8 := by kernel_rfl
    rw [hi] at h; simpa using h
  obtain ⟨W1, hmk, g1, b1⟩ : ∃ W1, (Instr.makeSlice 22 (.int .i64 5) (.int .i64 5)).run Try.prog w = .ok (.slice (some ⟨w.heap.size, 0, none⟩) 5 5) W1 ∧ W1.heap[w.heap.size]? = some (.cells (List.replicate 5 (Value.int .i64 0)).toArray 3 (0, 0)) ∧ Below w.heap.size w W1 := by
    refine ⟨w.alloc (.cells (List.replicate 5 (Value.int .i64 0)).toArray 3), ?_, ?_, (Below.refl _ _).alloc (Nat.le_refl _) _⟩
    · rw [run_make (P := Try.prog) w 22 3 i _ Try.underlying22 hi hz .i64 .i64 5 5 (by decide) (by decide) (by rw [hby]; decide) (by decide), hsz, made1 _ _ rfl]
      rfl
    · unfold World.alloc; exact Array.getElem?_push_size
  clear hi hz hsz hby i
  have hc1 : W1.cell? ⟨b, o, none⟩ = some (.int .i64 v) := by rw [← hc]; unfold World.cell?; rw [b1.block b hbl]
  generalize w.heap.size = g at *
  obtain ⟨W2, c1, g2, b2⟩ := copyEq W1 (o := 0) (dLen := 5) (dCap := 5) (sLen := 1) (sCap := cap) (cs := [.int .i64 v]) g1 rfl (src_one hc1) (by simp) (by simp [Value.oneCell'])
  have g2 : W2.heap[g]? = some (.cells ([.int .i64 v, .int .i64 0, .int .i64 0, .int .i64 0, .int .i64 0] : List Value).toArray 3 (0, 0)) := g2
  obtain ⟨W3, c2, g3, b3⟩ := copyEq W2.drew (o := 1) (dLen := 4) (dCap := 4) (sLen := 1) (sCap := 5) (a := ⟨g, 0, none⟩) (cs := [.int .i64 v]) g2 rfl (src_row (cs := [.int .i64 v]) (rest := [.int .i64 0, .int .i64 0, .int .i64 0, .int .i64 0]) g2) (by simp) (by simp [Value.oneCell'])
  have g3 : W3.heap[g]? = some (.cells ([.int .i64 v, .int .i64 v, .int .i64 0, .int .i64 0, .int .i64 0] : List Value).toArray 3 (0, 0)) := g3
  obtain ⟨W4, c3, g4, b4⟩ := copyEq W3.drew (o := 2) (dLen := 3) (dCap := 3) (sLen := 2) (sCap := 5) (a := ⟨g, 0, none⟩) (cs := [.int .i64 v, .int .i64 v]) g3 rfl (src_row (cs := [.int .i64 v, .int .i64 v]) (rest := [.int .i64 0, .int .i64 0, .int .i64 0]) g3) (by simp) (by simp [Value.oneCell'])
  have g4 : W4.heap[g]? = some (.cells ([.int .i64 v, .int .i64 v, .int .i64 v, .int .i64 v, .int .i64 0] : List Value).toArray 3 (0, 0)) := g4
  obtain ⟨W5, c4, g5, b5⟩ := copyEq W4.drew (o := 4) (dLen := 1) (dCap := 1) (sLen := 4) (sCap := 5) (a := ⟨g, 0, none⟩) (cs := [.int .i64 v]) g4 rfl (src_row (cs := [.int .i64 v]) (rest := [.int .i64 v, .int .i64 v, .int .i64 v, .int .i64 0]) g4) (by simp) (by simp [Value.oneCell'])
  have g5 : W5.heap[g]? = some (.cells ([.int .i64 v, .int .i64 v, .int .i64 v, .int .i64 v, .int .i64 v] : List Value).toArray 3 (0, 0)) := g5
  simp only [List.length_nil, List.length_cons, Nat.zero_add, Nat.reduceAdd] at c1 c2 c3 c4
  have G : Aside (W5.heap[g]? = some (.cells (List.replicate 5 (Value.int .i64 v)).toArray 3 (0, 0)) ∧ Below g w W5) := ⟨g5, (((b1.trans b2).drew.trans b3).drew.trans b4).drew.trans b5⟩
  clear g1 g2 g3 g4 g5 b1 b2 b3 b4 b5 hc hc1 hbl
  have mixed := Try.checked.mixed
  go_enter Try.func95, Try.ntmps95
  go_wp2_with (go_at_call 145; refine (mul1_5 _).mono ?_; rintro e w' ⟨rfl, rfl⟩)
  refine wp_loop_rounds 5 ?_
  simp only [rounds_succ]
  go_wp2
  go_region_law_o (refine step_copy_runI rfl _ _ 22 22 rfl _ _ (by simp [Act.eval, Act.put]) (by simp [Act.eval, Act.put]) c2 ?_)
  go_wp2
  simp only [rounds_succ]
  go_wp2
  go_region_law_o (refine step_copy_runI rfl _ _ 22 22 rfl _ _ (by simp [Act.eval, Act.put]) (by simp [Act.eval, Act.put]) c3 ?_)
  go_wp2
  simp only [rounds_succ]
  go_wp2
  go_region_law_o (refine step_copy_runI rfl _ _ 22 22 rfl _ _ (by simp [Act.eval, Act.put]) (by simp [Act.eval, Act.put]) c4 ?_)
  go_wp2
  simp only [rounds_succ]
  go_wp2
  go_ret
  exact ⟨rfl, G.out⟩

set_option maxHeartbeats 1000000 in
theorem mul1_6 (w : World) : Calls Try.prog 145 #[.int .u64 1, .int .u64 6] w fun e w' => e = .returned (.tuple #[.int .u64 0, .int .u64 6]) ∧ w = w' := by
  have e1 : bits BinOp.and IntKind.u64 1 4294967295 = 1 := by decide
  have e2 : bits BinOp.and IntKind.u64 6 4294967295 = 6 := by decide
  have e3 : bits BinOp.and IntKind.u64 0 4294967295 = 0 := by decide
  have e4 : IntKind.u64.wrap 6 = 6 := by decide
  have e5 : IntKind.u64.wrap 0 = 0 := by decide
  have e6 : (6 : Int) / 4294967296 = 0 := by decide
  have e7 : IntKind.u64.wrap 1 = 1 := by decide
  have e8 : (0 : Int) / 4294967296 = 0 := by decide
  go_enter Try.func145, Try.ntmps145
  go_wp2
  go_ret2
  exact ⟨rfl, rfl⟩

set_option maxHeartbeats 2000000 in
theorem rep_6 (v : Int) (b o cap : Nat) (w : World) (hc : w.cell? ⟨b, o, none⟩ = some (.int .i64 v)) (hbl : b < w.heap.size) :
    Calls Try.prog 95 #[.slice (some ⟨b, o, none⟩) 1 cap, .int .i64 6] w fun e w' => e = .returned (.slice (some ⟨w.heap.size, 0, none⟩) 6 6) ∧ w'.heap[w.heap.size]? = some (.cells (List.replicate 6 (Value.int .i64 v)).toArray 3 (0, 0)) ∧ Below w.heap.size w w' := by
  have e4 : IntKind.u64.wrap 6 = 6 := by decide
  obtain ⟨i, hi⟩ : ∃ i, Try.prog.info? 3 = some i := Option.isSome_iff_exists.1 (by kernel_rfl)
  have hz : i.zero = some (.int .i64 0) := by
    have h : (Try.prog.info? 3).bind (·.zero) = some (.int .i64 0) := by kernel_rfl
    rw [hi] at h; simpa using h
  have hsz : i.size = 1 := by
    have h : (Try.prog.info? 3).map (·.size) = some 1 := by kernel_rfl
    rw [hi] at h; simpa using h
  have hby : i.bytes = 8 := by
    have h : (Try.prog.info? 3).map (·.bytes) = some 8 := by kernel_rfl
    rw [hi] at h; simpa using h
  obtain ⟨W1, hmk, g1, b1⟩ : ∃ W1, (Instr.makeSlice 22 (.int .i64 6) (.int .i64 6)).run Try.prog w = .ok (.slice (some ⟨w.heap.size, 0, none⟩) 6 6) W1 ∧ W1.heap[w.heap.size]? = some (.cells (List.replicate 6 (Value.int .i64 0)).toArray 3 (0, 0)) ∧ Below w.heap.size w W1 := by
    refine ⟨w.alloc (.cells (List.replicate 6 (Value.int .i64 0)).toArray 3), ?_, ?_, (Below.refl _ _).alloc (Nat.le_refl _) _⟩
    · rw [run_make (P := Try.prog) w 22 3 i _ Try.underlying22 hi hz .i64 .i64 6 6 (by decide) (by decide) (by rw [hby]; decide) (by decide), hsz, made1 _ _ rfl]
      rfl
    · unfold World.alloc; exact Array.getElem?_push_size
  clear hi hz hsz hby i
  have hc1 : W1.cell? ⟨b, o, none⟩ = some (.int .i64 v) := by rw [← hc]; unfold World.cell?; rw [b1.block b hbl]
  generalize w.heap.size = g at *
  obtain ⟨W2, c1, g2, b2⟩ := copyEq W1 (o := 0) (dLen := 6) (dCap := 6) (sLen := 1) (sCap := cap) (cs := [.int .i64 v]) g1 rfl (src_one hc1) (by simp) (by simp [Value.oneCell'])
  have g2 : W2.heap[g]? = some (.cells ([.int .i64 v, .int .i64 0, .int .i64 0, .int .i64 0, .int .i64 0, .int .i64 0] : List Value).toArray 3 (0, 0)) := g2
  obtain ⟨W3, c2, g3, b3⟩ := copyEq W2.drew (o := 1) (dLen := 5) (dCap := 5) (sLen := 1) (sCap := 6) (a := ⟨g, 0, none⟩) (cs := [.int .i64 v]) g2 rfl (src_row (cs := [.int .i64 v]) (rest := [.int .i64 0, .int .i64 0, .int .i64 0, .int .i64 0, .int .i64 0]) g2) (by simp) (by simp [Value.oneCell'])
  have g3 : W3.heap[g]? = some (.cells ([.int .i64 v, .int .i64 v, .int .i64 0, .int .i64 0, .int .i64 0, .int .i64 0] : List Value).toArray 3 (0, 0)) := g3
  obtain ⟨W4, c3, g4, b4⟩ := copyEq W3.drew (o := 2) (dLen := 4) (dCap := 4) (sLen := 2) (sCap := 6) (a := ⟨g, 0, none⟩) (cs := [.int .i64 v, .int .i64 v]) g3 rfl (src_row (cs := [.int .i64 v, .int .i64 v]) (rest := [.int .i64 0, .int .i64 0, .int .i64 0, .int .i64 0]) g3) (by simp) (by simp [Value.oneCell'])
  have g4 : W4.heap[g]? = some (.cells ([.int .i64 v, .int .i64 v, .int .i64 v, .int .i64 v, .int .i64 0, .int .i64 0] : List Value).toArray 3 (0, 0)) := g4
  obtain ⟨W5, c4, g5, b5⟩ := copyEq W4.drew (o := 4) (dLen := 2) (dCap := 2) (sLen := 4) (sCap := 6) (a := ⟨g, 0, none⟩) (cs := [.int .i64 v, .int .i64 v]) g4 rfl (src_row (cs := [.int .i64 v, .int .i64 v]) (rest := [.int .i64 v, .int .i64 v, .int .i64 0, .int .i64 0]) g4) (by simp) (by simp [Value.oneCell'])
  have g5 : W5.heap[g]? = some (.cells ([.int .i64 v, .int .i64 v, .int .i64 v, .int .i64 v, .int .i64 v, .int .i64 v] : List Value).toArray 3 (0, 0)) := g5
  simp only [List.length_nil, List.length_cons, Nat.zero_add, Nat.reduceAdd] at c1 c2 c3 c4
  have G : Aside (W5.heap[g]? = some (.cells (List.replicate 6 (Value.int .i64 v)).toArray 3 (0, 0)) ∧ Below g w W5) := ⟨g5, (((b1.trans b2).drew.trans b3).drew.trans b4).drew.trans b5⟩
  clear g1 g2 g3 g4 g5 b1 b2 b3 b4 b5 hc hc1 hbl
  have mixed := Try.checked.mixed
  go_enter Try.func95, Try.ntmps95
  go_wp2_with (go_at_call 145; refine (mul1_6 _).mono ?_; rintro e w' ⟨rfl, rfl⟩)
  refine wp_loop_rounds 5 ?_
  simp only [rounds_succ]
  go_wp2
  go_region_law_o (refine step_copy_runI rfl _ _ 22 22 rfl _ _ (by simp [Act.eval, Act.put]) (by simp [Act.eval, Act.put]) c2 ?_)
  go_wp2
  simp only [rounds_succ]
  go_wp2
  go_region_law_o (refine step_copy_runI rfl _ _ 22 22 rfl _ _ (by simp [Act.eval, Act.put]) (by simp [Act.eval, Act.put]) c3 ?_)
  go_wp2
  simp only [rounds_succ]
  go_wp2
  go_region_law_o (refine step_copy_runI rfl _ _ 22 22 rfl _ _ (by simp [Act.eval, Act.put]) (by simp [Act.eval, Act.put]) c4 ?_)
  go_wp2
  simp only [rounds_succ]
  go_wp2
  go_ret
  exact ⟨rfl, G.out⟩


theorem row_rep {w : World} {g c : Nat} {v : Int} (hg : w.heap[g]? = some (.cells (List.replicate c (Value.int .i64 v)).toArray 3 (0, 0))) : Row w g 0 1 (List.replicate c (.int .i64 v)) := by
  intro i x hx
  have hi : i < c := by have := (List.getElem?_eq_some_iff.1 hx).1; simpa using this
  rw [List.getElem?_replicate, if_pos hi] at hx
  injection hx with hx
  subst hx
  refine ⟨rfl, fun j u hu => ?_⟩
  have hj : j = 0 := by
    have := (Array.getElem?_eq_some_iff.1 hu).1
    simp [Value.cells] at this
    omega
  subst hj
  have : u = .int .i64 v := by simpa [Value.cells] using hu.symm
  subst this
  refine ⟨rfl, ?_⟩
  rw [Nat.zero_add, Nat.mul_one, Nat.add_zero]
  exact cell_at hg (by rw [List.getElem?_replicate, if_pos hi])

theorem repeatI_pc (v c : Int) (h0 : 0 ≤ c) (h6 : c ≤ 6) : PC Try.prog 95 [IL [v], I64 c] none true (fun r _ => r = IO1 (List.replicate c.toNat v)) := by
  refine ⟨⟨_, Try.func95, by kernel_rfl, by kernel_rfl⟩, fun w vs F B hF hl hr hio => ?_⟩
  obtain ⟨v1, v2, rfl⟩ : ∃ v1 v2, vs = [v1, v2] := by
    match vs, hl with
    | [a, b], _ => exact ⟨a, b, rfl⟩
  have r1 := hr 0 _ v1 rfl rfl
  have r2 := hr 1 _ v2 rfl rfl
  have r1 : Rep w F (IL [v]) v1 := r1.elim id (fun h => by cases h.1)
  have r2 : Rep w F (I64 c) v2 := r2.elim id (fun h => by cases h.1)
  cases r2
  obtain ⟨b, o, cap, rfl, hc, hbl⟩ : ∃ b o cap, v1 = .slice (some ⟨b, o, none⟩) 1 cap ∧ w.cell? ⟨b, o, none⟩ = some (.int .i64 v) ∧ b < w.heap.size := by
    generalize hd : IL [v] = d at r1
    cases r1 with
    | list sz xs us b o cap q1 q2 q3 q4 q5 q6 q7 =>
      injection hd with hd1 hd2
      subst hd1; subst hd2
      obtain ⟨u, rfl⟩ : ∃ u, us = [u] := by
        match us, q1 with
        | [u], _ => exact ⟨u, rfl⟩
      have hu := q4 0 (I64 v) u rfl rfl
      cases hu
      have := (q5 0 _ rfl).2 0 (.int .i64 v) rfl
      exact ⟨b, o, cap, rfl, by simpa using this.2, q6⟩
    | listE sz a cap => injection hd with _ hd2; cases hd2
    | _ => cases hd
  have key : Calls Try.prog 95 #[.slice (some ⟨b, o, none⟩) 1 cap, .int .i64 c] w fun e w' => e = .returned (.slice (some ⟨w.heap.size, 0, none⟩) c.toNat c.toNat) ∧ w'.heap[w.heap.size]? = some (.cells (List.replicate c.toNat (Value.int .i64 v)).toArray 3 (0, 0)) ∧ Below w.heap.size w w' := by
    have : c = 0 ∨ c = 1 ∨ c = 2 ∨ c = 3 ∨ c = 4 ∨ c = 5 ∨ c = 6 := by omega
    rcases this with rfl | rfl | rfl | rfl | rfl | rfl | rfl
    · exact rep_0 v b o cap w hc hbl
    · exact rep_1 v b o cap w hc hbl
    · exact rep_2 v b o cap w hc hbl
    · exact rep_3 v b o cap w hc hbl
    · exact rep_4 v b o cap w hc hbl
    · exact rep_5 v b o cap w hc hbl
    · exact rep_6 v b o cap w hc hbl
  refine key.mono ?_
  rintro e w' ⟨rfl, hg, hb⟩
  have hn6 : c.toNat ≤ 6 := by omega
  generalize c.toNat = n at *
  have hor := ORep.olist (w := w') (F := fun k => k < w.heap.size) (lo := w.heap.size) 1 (ints (List.replicate n v)) (List.replicate n (.int .i64 v)) (List.replicate n []) w.heap.size n (List.replicate n (Value.int .i64 v)).toArray 3 (by simp) (by simp) (fun i d u os hd hu ho => by
    have hi : i < n := by have := (List.getElem?_eq_some_iff.1 hu).1; simpa using this
    rw [List.getElem?_replicate, if_pos hi] at hu ho
    unfold ints at hd
    rw [List.getElem?_map, List.getElem?_replicate, if_pos hi] at hd
    injection hu with hu; injection ho with ho; injection hd with hd
    subst hu; subst ho; subst hd
    exact .base _ _ (.int _ _)) hg (by simp) (by simp) (by have : maxLen = 9223372036854775807 := rfl; omega) (row_rep hg) (Nat.le_refl _)
  rw [show (ints (List.replicate n v)).length = n by simp] at hor
  refine ⟨_, IO1 (List.replicate n v), [], _, rfl, rfl, fun _ => by simp, ⟨hb.os, hb.tape, hb.output, hb.size, fun k hk _ => hb.block k hk⟩, by simpa using hor, by simp, trivial⟩
noncomputable def fm_repeatI : Fam Try.prog := mkFam (X := Int × Int) 95 true (fun (v, c) => [IL [v], I64 c]) (fun (v, c) => (0 ≤ c) ∧ (c ≤ 6)) (fun (v, c) => IO1 (List.replicate c.toNat v)) (by
  rintro ⟨v, c⟩ ⟨h0, h6⟩
  exact repeatI_pc v c h0 h6)
@[simp] theorem fm_repeatI_id : fm_repeatI.id = 95 := rfl
@[simp] theorem fm_repeatI_fresh : fm_repeatI.fresh = true := rfl
@[simp] theorem fm_repeatI_look (v c : Int) (h0 : 0 ≤ c) (h6 : c ≤ 6) : fm_repeatI.look [IL [v], I64 c] = some (IO1 (List.replicate c.toNat v)) :=
  lookF_of (X := Int × Int) (args := fun (v, c) => [IL [v], I64 c]) (pre := fun (v, c) => (0 ≤ c) ∧ (c ≤ 6)) (val := fun (v, c) => IO1 (List.replicate c.toNat v)) (by
  rintro ⟨v, c⟩ ⟨v', c'⟩ h
  simp at h
  try simp only [and_assoc] at h
  obtain ⟨rfl, rfl⟩ := h
  rfl) (v, c) ⟨h0, h6⟩
attribute [irreducible] fm_repeatI
end Go.PS
end

section
-- The least power of the implementation: its loops over all lists, run in place.
set_option maxRecDepth 100000
set_option linter.unusedVariables false
set_option linter.unusedSimpArgs false
namespace Go.PS
open Go.Proofs

/-- The program with some functions run in place. -/
noncomputable def CI (f : Nat → Option FnA) : Ctx := ⟨Try.prog, tyOf Try.prog, f⟩
@[simp] theorem CI_P {f : Nat → Option FnA} : (CI f).P = Try.prog := rfl
@[simp] theorem CI_tt {f : Nat → Option FnA} (T : Nat) : (CI f).tt T = tyOf Try.prog T := rfl
@[simp] theorem CI_inl {f : Nat → Option FnA} : (CI f).inl = f := rfl
theorem pcI (g : Nat → Option FnA) (hg : ∀ id fa, g id = some fa → ∃ A, FnOk Try.prog id fa A) (T : List (Fam Try.prog)) (n : Nat) {f : Nat} {fa : FnA} {A : Ann} (hf : FnOk Try.prog f fa A) {ds : List D} {fresh : Bool} {R : D → List D → Prop}
    (h : run (CI g) 0 (inlT (CI g) T n 0) fa.ac (retQ (CI g).tt fresh fa.res R false) ⟨args0 0 ds, [], 1⟩) : PC Try.prog f ds none fresh R :=
  pc_of_run (C := CI g) (kb := 0) (io := none) hty0 Try.checked.mixed (inlT_ok (C := CI g) hty0 Try.checked.mixed hg T n 0) hf h

def inlA (id : Nat) : Option FnA := if id = 102 then some fa_102 else if id = 94 then some fa_94 else if id = 115 then some fa_115 else none
theorem inlA_ok (id : Nat) (fa : FnA) (h : inlA id = some fa) : ∃ A, FnOk Try.prog id fa A := by
  unfold inlA at h
  split at h
  · rename_i e; subst e; injection h with h; subst h; exact ⟨_, fok_102⟩
  split at h
  · rename_i e; subst e; injection h with h; subst h; exact ⟨_, fok_94⟩
  split at h
  · rename_i e; subst e; injection h with h; subst h; exact ⟨_, fok_115⟩
  · cases h

/-- The list after resets, and what the resets look at. -/
def rs (x y z : Int) : Nat → List Int
  | 0 => [x, y, z]
  | 1 => [x, y, 0]
  | 2 => [x, 0, 0]
  | _ => [0, 0, 0]
def dg (x y z : Int) : Nat → Int
  | 0 => z
  | 1 => y
  | _ => x

theorem rs0 {x y z : Int} : rs x y z 0 = [x, y, z] := rfl
theorem rs1 {x y z : Int} : rs x y z 1 = [x, y, 0] := rfl
theorem rs2 {x y z : Int} : rs x y z 2 = [x, 0, 0] := rfl
theorem rs3 {x y z : Int} : rs x y z 3 = [0, 0, 0] := rfl
theorem w2 : IntKind.i64.wrap 2 = 2 := rfl
theorem w1 : IntKind.i64.wrap 1 = 1 := rfl
theorem w0 : IntKind.i64.wrap 0 = 0 := rfl
theorem wm : IntKind.i64.wrap (-1) = -1 := rfl
theorem idx_lt {n x y z i : Nat} (hx : x < n) (hy : y < n) (hz : z < n) (e : i = (x * n + y) * n + z) : i < n * n * n := by
  have h1 : x * n + y < n * n := by
    calc x * n + y < x * n + n := by omega
      _ = (x + 1) * n := by rw [Nat.add_mul, Nat.one_mul]
      _ ≤ n * n := Nat.mul_le_mul_right _ (by omega)
  subst e
  generalize x * n + y = a at *
  calc a * n + z < a * n + n := by omega
    _ = (a + 1) * n := by rw [Nat.add_mul, Nat.one_mul]
    _ ≤ n * n * n := Nat.mul_le_mul_right _ (by omega)
theorem idx_y {n x y z i : Nat} (e : i = (x * n + y) * n + z) (hz : z + 1 = n) : i + 1 = (x * n + (y + 1)) * n + 0 := by
  rw [← Nat.add_assoc, Nat.add_mul (x * n + y) 1 n, Nat.one_mul]; omega
theorem idx_x {n x y z i : Nat} (e : i = (x * n + y) * n + z) (hy : y + 1 = n) (hz : z + 1 = n) : i + 1 = ((x + 1) * n + 0) * n + 0 := by
  rw [idx_y e hz, hy, Nat.add_mul x 1 n, Nat.one_mul]; rfl
theorem idx_last {n x y z i : Nat} (e : i = (x * n + y) * n + z) (hx : x + 1 = n) (hy : y + 1 = n) (hz : z + 1 = n) : i + 1 = n * n * n := by
  rw [idx_x e hy hz, hx]; rfl
theorem all_rng {A : List (List Int)} {p : List Int → Bool} : A.all p = (List.range A.length).all fun j => p (gr A j) := by
  rw [Bool.eq_iff_iff, all_gr, List.all_eq_true]
  simp
theorem gr_nxt {n j x : Nat} {o : List (List Int)} (hj : j < o.length) (hx : x < n) : gr (nxt n o) (j * n + x) = gr o j ++ [(x : Int)] := by
  have e : nxt n o = nxt n (o.take j) ++ ((List.range n).map fun (x : Nat) => gr o j ++ [(x : Int)]) ++ nxt n (o.drop (j + 1)) := by
    rw [← nxt_take hj]
    conv => lhs; rw [← List.take_append_drop (j + 1) o]
    unfold nxt
    rw [List.flatMap_append]
  have el : (nxt n (o.take j)).length = j * n := by rw [nxt_length, List.length_take, Nat.min_eq_left (by omega)]
  rw [e]
  unfold gr
  rw [List.append_assoc, List.getElem?_append_right (by omega), el, Nat.add_sub_cancel_left, List.getElem?_append_left (by simpa using hx)]
  simp [hx]
theorem gr_asg3 {n x y z : Nat} (hx : x < n) (hy : y < n) (hz : z < n) : gr (asgK n 3) ((x * n + y) * n + z) = [(x : Int), (y : Int), (z : Int)] := by
  have h1 : x < (asgK n 1).length := by rw [asgK_length, Nat.pow_one]; omega
  have h2 : x * n + y < (asgK n 2).length := by
    rw [asgK_length, Nat.pow_two]
    calc x * n + y < x * n + n := by omega
      _ = (x + 1) * n := by rw [Nat.add_mul, Nat.one_mul]
      _ ≤ n * n := Nat.mul_le_mul_right _ (by omega)
  have e1 : gr (asgK n 1) x = [(x : Int)] := by
    have := gr_nxt (j := 0) (o := asgK n 0) (x := x) (by simp [asgK]) hx
    simpa [asgK, gr] using this
  have e2 : gr (asgK n 2) (x * n + y) = [(x : Int), (y : Int)] := by
    rw [show asgK n 2 = nxt n (asgK n 1) from rfl, gr_nxt h1 hy, e1]; rfl
  rw [show asgK n 3 = nxt n (asgK n 2) from rfl, gr_nxt h2 hz, e2]; rfl

set_option maxHeartbeats 2000000 in
theorem leastI_pc (u : List Int) (t : List (List Int)) (p q : List Int) (hu : Big u.length) (ht : BigR t) (hp : Big p.length) (hq : Big q.length) : PC Try.prog 53 [AL u t, IL p, IL q] none true (fun r _ => r = .tup [I64 (lpM u t p q).1, .bool (lpM u t p q).2]) := by
  have hul := hu.le
  refine pcI inlA inlA_ok [fm_validAlgebraI, fm_validTermI, fm_repeatI, fm_valueOfI, fm_powI, fm_belowI] 3 fok_53 ?_
  simp [fa_53]
  refine cutW (inlT_mono _ _ _ _) [(22, .bool (!(decide (VA u t) && decide (validT p) && decide (validT q))))] (by simp [callO3T, inlA, hu, ht, hp, hq]; grind) ?_
  cases hb : (decide (VA u t) && decide (validT p) && decide (validT q))
  · simp [lpM, hb]
  simp only [Bool.and_eq_true, decide_eq_true_eq] at hb
  obtain ⟨⟨a, vp⟩, vq⟩ := hb
  have f := a.tf
  have h6 := f.lat.six
  have elp : lpI u t p q = firstI 21 fun k => (asgK u.length 3).all (okP u t p q k) := rfl
  have ee : lpM u t p q = if 0 ≤ lpI u t p q then (lpI u t p q, true) else (0, false) := by simp [lpM, a, vp, vq]
  rw [ee, elp]
  clear ee elp
  simp
  refine loopX (inlT_mono _ _ _ _) 21 (fun i γ => [(8, .ptr 64 γ 0)]) (fun i γ => [⟨64, γ, .cells [I64 i]⟩]) (fun i _ => ∀ k, k < i → (asgK u.length 3).all (okP u t p q k) = false) 1 (by simp) (by simp) (by simp) (fun k γ g hk hP => ?_)
  simp [lb_53_4, wrap64 (n := (k : Int) + 1) (by omega) (by omega)]
  have lr : fm_repeatI.look [D.list 1 [D.int .i64 ((u.length : Int) - 1)], D.int .i64 3] = some (IO1 [(u.length : Int) - 1, (u.length : Int) - 1, (u.length : Int) - 1]) := fm_repeatI_look ((u.length : Int) - 1) 3 (by omega) (by omega)
  refine ⟨fun hk2 => ?_, fun hk2 => ?_⟩
  · simp [lr, callO16 (C := CI inlA) (id := 102) (fa := fa_102) rfl, fa_102, callO3T, inlA, wrap64 (n := (u.length : Int) - 1) (by omega) (by omega), callO16 (C := CI inlA) (id := 94) (fa := fa_94) rfl, fa_94]
    have hn0 := f.lat.pos
    have ebig : big = 1048576 * 1048576 := rfl
    refine ⟨by omega, ?_⟩
    refine loopX (inlT_mono _ _ _ _) (u.length * u.length * u.length) (fun _ _ => []) (fun i (s : Nat × Nat × Nat) => [⟨8064, g + 1, .arr 1 (ints [(s.1 : Int), (s.2.1 : Int), (s.2.2 : Int)])⟩, ⟨64, γ, .cells [I64 k]⟩, ⟨72, g, .cells [.bool ((List.range i).all fun j => okP u t p q k (gr (asgK u.length 3) j))]⟩]) (fun i s => s.1 < u.length ∧ s.2.1 < u.length ∧ s.2.2 < u.length ∧ i = (s.1 * u.length + s.2.1) * u.length + s.2.2) (0, 0, 0) (by simp) (by simp) ⟨hn0, hn0, hn0, by simp⟩ (fun i s g2 hi hS => ?_)
    obtain ⟨x, y, z⟩ := s
    obtain ⟨hx, hy, hz, ei⟩ := hS
    simp only at hx hy hz ei
    have eg := gr_asg3 hx hy hz
    rw [← ei] at eg
    have nm : NmOk (gr (asgK u.length 3) i) u.length := asg3_ok (mem_asg3.2 ⟨x, y, z, hx, hy, hz, eg⟩)
    generalize hacc : ((List.range i).all fun j => okP u t p q k (gr (asgK u.length 3) j)) = b
    have hvp : (ev1 u t (gr (asgK u.length 3) i) p).1 = (ev1 u t [(x : Int), (y : Int), (z : Int)] p).1 := by rw [eg]
    have ho1 := (ev1_ok f nm _ _ _ (Nat.le_refl _) vp.2).1
    have ho2 := (ev1_ok f nm _ _ _ (Nat.le_refl _) vq.2).1
    have eo : okP u t p q k (gr (asgK u.length 3) i) = tb u (powM u t (ev1 u t (gr (asgK u.length 3) i) p).1.toNat k).toNat (ev1 u t (gr (asgK u.length 3) i) q).1.toNat := rfl
    have hr := powM_rng f (x := (ev1 u t (gr (asgK u.length 3) i) p).1.toNat) (by omega) k
    rw [eg] at nm ho1 ho2 eo hr
    simp [lb_94_1, callO16 (C := CI inlA) (id := 115) (fa := fa_115) rfl, fa_115]
    have key : (b && okP u t p q k [(x : Int), (y : Int), (z : Int)]) = ((List.range (i + 1)).all fun j => okP u t p q k (gr (asgK u.length 3) j)) := by rw [all_succ, hacc, eg]
    generalize hb2 : ((List.range (i + 1)).all fun j => okP u t p q k (gr (asgK u.length 3) j)) = b2 at key
    have sm := f.lat.sm
    have l1 : (ev1 u t [(x : Int), (y : Int), (z : Int)] p).1.toNat < u.length := by omega
    have l2 : (ev1 u t [(x : Int), (y : Int), (z : Int)] q).1.toNat < u.length := by omega
    have l3 : (powM u t (ev1 u t [(x : Int), (y : Int), (z : Int)] p).1.toNat k).toNat < u.length := by omega
    cases b
    case' false =>
      obtain rfl : false = b2 := key
      simp [gops]
    case' false =>
      refine loopA (inlT_mono _ _ _ _) 3 (fun c => [(5, I64 (2 - (c : Int)))]) (fun c => [⟨8064, g + 1, .arr 1 (ints (rs x y z c))⟩, ⟨64, γ, .cells [I64 k]⟩, ⟨72, g, .cells [.bool ((List.range (i + 1)).all fun j => okP u t p q k (gr (asgK u.length 3) j))]⟩]) (fun c => dg x y z c = (u.length : Int) - 1) (by simp [w2]) (by simp [rs0, hb2]) (fun c g3 hc hQ => ?_)
      have c4 : c = 0 ∨ c = 1 ∨ c = 2 ∨ c = 3 := by omega
      simp only [hb2]
      rcases c4 with rfl | rfl | rfl | rfl
      · simp [lb_94_3, rs0, w2, w1, w0]
        refine cutWc (inlT_mono _ _ _ _) [(27, .bool (decide ((z : Int) = (u.length : Int) - 1)))] (by simp [gi, w2, w1, w0]) ?_
        rcases Classical.em ((z : Int) = (u.length : Int) - 1) with cz | cz
        · simp only [eq_true cz, decide_true]
          generalize hK : vQ _ _ _ _ _ _ _ _ _ = K0
          simp [w2, w1, w0, wm]
          subst hK
          rw [vQ_normal]
          refine ⟨by omega, ⟨by simp, by simp [rs1]⟩, cz⟩
        · simp only [eq_false cz, decide_false]
          generalize hK : wQ _ _ _ _ _ _ _ _ _ = K0
          simp [w2, w1, w0, wm]
          subst hK
          rw [wQ_normal]
          refine ⟨idx_lt hx hy hz ei, (x, y, z + 1), ⟨by simp, by simp [gi, hb2, wrap_succ (Nat.le_of_lt hz) hul]⟩, hx, hy, by show z + 1 < _; omega, by rw [ei]; rfl⟩
      · simp [lb_94_3, rs1, w2, w1, w0]
        refine cutWc (inlT_mono _ _ _ _) [(27, .bool (decide ((y : Int) = (u.length : Int) - 1)))] (by simp [gi, w2, w1, w0]) ?_
        rcases Classical.em ((y : Int) = (u.length : Int) - 1) with cz | cz
        · simp only [eq_true cz, decide_true]
          generalize hK : vQ _ _ _ _ _ _ _ _ _ = K0
          simp [w2, w1, w0, wm]
          subst hK
          rw [vQ_normal]
          refine ⟨by omega, ⟨by simp, by simp [rs2]⟩, cz⟩
        · simp only [eq_false cz, decide_false]
          generalize hK : wQ _ _ _ _ _ _ _ _ _ = K0
          simp [w2, w1, w0, wm]
          subst hK
          rw [wQ_normal]
          refine ⟨idx_lt hx hy hz ei, (x, y + 1, 0), ⟨by simp, by simp [gi, hb2, wrap_succ (Nat.le_of_lt hy) hul]⟩, hx, by show y + 1 < _; omega, hn0, idx_y ei (by have h0 : (z : Int) = (u.length : Int) - 1 := hQ 0 (by omega); omega)⟩
      · simp [lb_94_3, rs2, w2, w1, w0]
        refine cutWc (inlT_mono _ _ _ _) [(27, .bool (decide ((x : Int) = (u.length : Int) - 1)))] (by simp [gi, w2, w1, w0]) ?_
        rcases Classical.em ((x : Int) = (u.length : Int) - 1) with cz | cz
        · simp only [eq_true cz, decide_true]
          generalize hK : vQ _ _ _ _ _ _ _ _ _ = K0
          simp [w2, w1, w0, wm]
          subst hK
          rw [vQ_normal]
          refine ⟨by omega, ⟨by simp, by simp [rs3]⟩, cz⟩
        · simp only [eq_false cz, decide_false]
          generalize hK : wQ _ _ _ _ _ _ _ _ _ = K0
          simp [w2, w1, w0, wm]
          subst hK
          rw [wQ_normal]
          refine ⟨idx_lt hx hy hz ei, (x + 1, 0, 0), ⟨by simp, by simp [gi, hb2, wrap_succ (Nat.le_of_lt hx) hul]⟩, by show x + 1 < _; omega, hn0, hn0, idx_x ei (by have h0 : (y : Int) = (u.length : Int) - 1 := hQ 1 (by omega); omega) (by have h0 : (z : Int) = (u.length : Int) - 1 := hQ 0 (by omega); omega)⟩
      · simp [lb_94_3, rs3, w2, w1, w0, wm]
        refine cutWc (inlT_mono _ _ _ _) [(27, .bool false)] (by simp [gi, w2, w1, w0, wm]) ?_
        generalize hK : wQ _ _ _ _ _ _ _ _ _ = K0
        simp [w2, w1, w0, wm]
        subst hK
        rw [wQ_ret]
        have hA : (asgK u.length 3).all (okP u t p q k) = ((List.range (i + 1)).all fun j => okP u t p q k (gr (asgK u.length 3) j)) := by
          have e3 := idx_last ei (by have h0 : (x : Int) = (u.length : Int) - 1 := hQ 2 (by omega); omega) (by have h0 : (y : Int) = (u.length : Int) - 1 := hQ 1 (by omega); omega) (by have h0 : (z : Int) = (u.length : Int) - 1 := hQ 0 (by omega); omega)
          rw [all_rng, asgK_length, e3, Nat.pow_succ, Nat.pow_two]
        rw [hb2] at hA
        generalize hK : wQ _ _ _ _ _ _ _ _ _ = K1
        simp
        subst hK
        rw [wQ_normal]
        refine ⟨by omega, g3, ⟨by simp, by simp [wrap64 (n := (k : Int) + 1) (by omega) (by omega)]⟩, fun k' hk' => ?_⟩
        rcases Nat.lt_or_ge k' k with h | h
        · exact (by simpa using hP k' h)
        · obtain rfl : k' = k := by omega
          exact (by simpa using hA)
    case' true =>
      obtain rfl : okP u t p q k [(x : Int), (y : Int), (z : Int)] = b2 := by simpa using key
      simp [gops, callO3T, callDO3T, inlA, f, nm, hp, hq, vp.some, vq.some, h6, ho1, ho2, hr, l1, l2, l3, ← eo, show ((k : Int) ≤ 1000000) by omega]
      refine loopA (inlT_mono _ _ _ _) 3 (fun c => [(5, I64 (2 - (c : Int)))]) (fun c => [⟨8064, g + 1, .arr 1 (ints (rs x y z c))⟩, ⟨64, γ, .cells [I64 k]⟩, ⟨72, g, .cells [.bool ((List.range (i + 1)).all fun j => okP u t p q k (gr (asgK u.length 3) j))]⟩]) (fun c => dg x y z c = (u.length : Int) - 1) (by simp [w2]) (by simp [rs0, hb2]) (fun c g3 hc hQ => ?_)
      have c4 : c = 0 ∨ c = 1 ∨ c = 2 ∨ c = 3 := by omega
      simp only [hb2]
      rcases c4 with rfl | rfl | rfl | rfl
      · simp [lb_94_3, rs0, w2, w1, w0]
        refine cutWc (inlT_mono _ _ _ _) [(27, .bool (decide ((z : Int) = (u.length : Int) - 1)))] (by simp [gi, w2, w1, w0]) ?_
        rcases Classical.em ((z : Int) = (u.length : Int) - 1) with cz | cz
        · simp only [eq_true cz, decide_true]
          generalize hK : vQ _ _ _ _ _ _ _ _ _ = K0
          simp [w2, w1, w0, wm]
          subst hK
          rw [vQ_normal]
          refine ⟨by omega, ⟨by simp, by simp [rs1]⟩, cz⟩
        · simp only [eq_false cz, decide_false]
          generalize hK : wQ _ _ _ _ _ _ _ _ _ = K0
          simp [w2, w1, w0, wm]
          subst hK
          rw [wQ_normal]
          refine ⟨idx_lt hx hy hz ei, (x, y, z + 1), ⟨by simp, by simp [gi, hb2, wrap_succ (Nat.le_of_lt hz) hul]⟩, hx, hy, by show z + 1 < _; omega, by rw [ei]; rfl⟩
      · simp [lb_94_3, rs1, w2, w1, w0]
        refine cutWc (inlT_mono _ _ _ _) [(27, .bool (decide ((y : Int) = (u.length : Int) - 1)))] (by simp [gi, w2, w1, w0]) ?_
        rcases Classical.em ((y : Int) = (u.length : Int) - 1) with cz | cz
        · simp only [eq_true cz, decide_true]
          generalize hK : vQ _ _ _ _ _ _ _ _ _ = K0
          simp [w2, w1, w0, wm]
          subst hK
          rw [vQ_normal]
          refine ⟨by omega, ⟨by simp, by simp [rs2]⟩, cz⟩
        · simp only [eq_false cz, decide_false]
          generalize hK : wQ _ _ _ _ _ _ _ _ _ = K0
          simp [w2, w1, w0, wm]
          subst hK
          rw [wQ_normal]
          refine ⟨idx_lt hx hy hz ei, (x, y + 1, 0), ⟨by simp, by simp [gi, hb2, wrap_succ (Nat.le_of_lt hy) hul]⟩, hx, by show y + 1 < _; omega, hn0, idx_y ei (by have h0 : (z : Int) = (u.length : Int) - 1 := hQ 0 (by omega); omega)⟩
      · simp [lb_94_3, rs2, w2, w1, w0]
        refine cutWc (inlT_mono _ _ _ _) [(27, .bool (decide ((x : Int) = (u.length : Int) - 1)))] (by simp [gi, w2, w1, w0]) ?_
        rcases Classical.em ((x : Int) = (u.length : Int) - 1) with cz | cz
        · simp only [eq_true cz, decide_true]
          generalize hK : vQ _ _ _ _ _ _ _ _ _ = K0
          simp [w2, w1, w0, wm]
          subst hK
          rw [vQ_normal]
          refine ⟨by omega, ⟨by simp, by simp [rs3]⟩, cz⟩
        · simp only [eq_false cz, decide_false]
          generalize hK : wQ _ _ _ _ _ _ _ _ _ = K0
          simp [w2, w1, w0, wm]
          subst hK
          rw [wQ_normal]
          refine ⟨idx_lt hx hy hz ei, (x + 1, 0, 0), ⟨by simp, by simp [gi, hb2, wrap_succ (Nat.le_of_lt hx) hul]⟩, by show x + 1 < _; omega, hn0, hn0, idx_x ei (by have h0 : (y : Int) = (u.length : Int) - 1 := hQ 1 (by omega); omega) (by have h0 : (z : Int) = (u.length : Int) - 1 := hQ 0 (by omega); omega)⟩
      · simp [lb_94_3, rs3, w2, w1, w0, wm]
        refine cutWc (inlT_mono _ _ _ _) [(27, .bool false)] (by simp [gi, w2, w1, w0, wm]) ?_
        generalize hK : wQ _ _ _ _ _ _ _ _ _ = K0
        simp [w2, w1, w0, wm]
        subst hK
        rw [wQ_ret]
        have hA : (asgK u.length 3).all (okP u t p q k) = ((List.range (i + 1)).all fun j => okP u t p q k (gr (asgK u.length 3) j)) := by
          have e3 := idx_last ei (by have h0 : (x : Int) = (u.length : Int) - 1 := hQ 2 (by omega); omega) (by have h0 : (y : Int) = (u.length : Int) - 1 := hQ 1 (by omega); omega) (by have h0 : (z : Int) = (u.length : Int) - 1 := hQ 0 (by omega); omega)
          rw [all_rng, asgK_length, e3, Nat.pow_succ, Nat.pow_two]
        rw [hb2] at hA
        generalize hK : wQ _ _ _ _ _ _ _ _ _ = K1
        simp
        refine ⟨fun hX => ?_, fun hX => ?_⟩
        · subst hK
          rw [wQ_ret, firstI_some (z := k) (by omega) (hA.trans hX) hP]
          simp
        · subst hK
          rw [wQ_normal]
          refine ⟨by omega, g3, ⟨by simp, by simp [wrap64 (n := (k : Int) + 1) (by omega) (by omega)]⟩, fun k' hk' => ?_⟩
          rcases Nat.lt_or_ge k' k with h | h
          · exact (by simpa using hP k' h)
          · obtain rfl : k' = k := by omega
            exact (by simpa using hA.trans hX)
  · obtain rfl : k = 21 := by omega
    rw [firstI_none (fun j hj => hP j hj)]
    simp
noncomputable def fm_leastI : Fam Try.prog := mkFam (X := List Int × List (List Int) × List Int × List Int) 53 true (fun (u, t, p, q) => [AL u t, IL p, IL q]) (fun (u, t, p, q) => (Big u.length) ∧ (BigR t) ∧ (Big p.length) ∧ (Big q.length)) (fun (u, t, p, q) => .tup [I64 (lpM u t p q).1, .bool (lpM u t p q).2]) (by
  rintro ⟨u, t, p, q⟩ ⟨hu, ht, hp, hq⟩
  exact leastI_pc u t p q hu ht hp hq)
@[simp] theorem fm_leastI_id : fm_leastI.id = 53 := rfl
@[simp] theorem fm_leastI_fresh : fm_leastI.fresh = true := rfl
@[simp] theorem fm_leastI_look (u : List Int) (t : List (List Int)) (p q : List Int) (hu : Big u.length) (ht : BigR t) (hp : Big p.length) (hq : Big q.length) : fm_leastI.look [AL u t, IL p, IL q] = some (.tup [I64 (lpM u t p q).1, .bool (lpM u t p q).2]) :=
  lookF_of (X := List Int × List (List Int) × List Int × List Int) (args := fun (u, t, p, q) => [AL u t, IL p, IL q]) (pre := fun (u, t, p, q) => (Big u.length) ∧ (BigR t) ∧ (Big p.length) ∧ (Big q.length)) (val := fun (u, t, p, q) => .tup [I64 (lpM u t p q).1, .bool (lpM u t p q).2]) (by
  rintro ⟨u, t, p, q⟩ ⟨u', t', p', q'⟩ h
  simp at h
  try simp only [and_assoc] at h
  obtain ⟨rfl, rfl, rfl, rfl⟩ := h
  rfl) (u, t, p, q) ⟨hu, ht, hp, hq⟩
attribute [irreducible] fm_leastI

end Go.PS
end

section
-- All lists of so many numbers, one after the other: eachList, run in place for any function.
set_option maxRecDepth 100000
set_option linter.unusedVariables false
set_option linter.unusedSimpArgs false
namespace Go.PS
open Go.Proofs

/-- The digits of a number. -/
def dig (n : Nat) : Nat → Nat → List Int
  | 0, _ => []
  | m + 1, i => dig n m (i / n) ++ [((i % n : Nat) : Int)]
theorem dig_length (n : Nat) : ∀ m i, (dig n m i).length = m
  | 0, _ => rfl
  | m + 1, i => by simp [dig, dig_length n m]
theorem gr_asgK {n : Nat} (hn : 1 ≤ n) : ∀ m i, i < n ^ m → gr (asgK n m) i = dig n m i
  | 0, i, h => by
    obtain rfl : i = 0 := by simpa using h
    rfl
  | m + 1, i, h => by
    rw [Nat.pow_succ] at h
    have h1 : i / n < n ^ m := (Nat.div_lt_iff_lt_mul (by omega)).2 h
    have h2 : i % n < n := Nat.mod_lt _ (by omega)
    have e : i = i / n * n + i % n := by rw [Nat.mul_comm]; exact (Nat.div_add_mod i n).symm
    rw [asgK, dig, ← gr_asgK hn m (i / n) h1]
    conv => lhs; rw [e]
    exact gr_nxt (by rw [asgK_length]; exact h1) h2
theorem dig_zero (n : Nat) : ∀ m, dig n m 0 = List.replicate m 0
  | 0 => rfl
  | m + 1 => by rw [dig, Nat.zero_div, Nat.zero_mod, dig_zero n m, List.replicate_succ']; rfl
theorem dig_mul {n : Nat} (hn : 1 ≤ n) : ∀ c m q, c ≤ m → dig n m (q * n ^ c) = dig n (m - c) q ++ List.replicate c 0
  | 0, m, q, _ => by simp
  | c + 1, 0, q, h => by omega
  | c + 1, m + 1, q, h => by
    have e : q * n ^ (c + 1) = q * n ^ c * n := by rw [Nat.pow_succ, Nat.mul_assoc]
    rw [dig, e, Nat.mul_div_cancel _ (by omega), Nat.mul_mod_left, dig_mul hn c m q (by omega), List.append_assoc, show m + 1 - (c + 1) = m - c by omega, List.replicate_succ']
    rfl

/-- The list after resets. -/
def rsD (n m c i : Nat) : List Int := dig n (m - c) (i / n ^ c) ++ List.replicate c 0
theorem rsD_length {n m c i : Nat} (hc : c ≤ m) : (rsD n m c i).length = m := by simp [rsD, dig_length]; omega
theorem rsD_zero {n m i : Nat} : rsD n m 0 i = dig n m i := by simp [rsD]
theorem rsD_split {n m c i : Nat} (hc : c < m) : rsD n m c i = dig n (m - (c + 1)) (i / n ^ (c + 1)) ++ ((i / n ^ c % n : Nat) : Int) :: List.replicate c 0 := by
  have e : m - c = (m - (c + 1)) + 1 := by omega
  rw [rsD, e, dig, Nat.div_div_eq_div_mul, ← Nat.pow_succ, List.append_assoc]
  rfl
theorem rsD_gi {n m c i : Nat} (hc : c < m) : gi (rsD n m c i) (m - (c + 1)) = ((i / n ^ c % n : Nat) : Int) := by
  rw [rsD_split hc, gi, List.getElem?_append_right (by rw [dig_length]; exact Nat.le_refl _), dig_length, Nat.sub_self]
  rfl
theorem rsD_set {n m c i : Nat} (hc : c < m) (v : Int) : (rsD n m c i).set (m - (c + 1)) v = dig n (m - (c + 1)) (i / n ^ (c + 1)) ++ v :: List.replicate c 0 := by
  rw [rsD_split hc, List.set_append_right _ _ (by rw [dig_length]; exact Nat.le_refl _), dig_length, Nat.sub_self]
  rfl
theorem rsD_succ {n m c i : Nat} (hc : c < m) : (rsD n m c i).set (m - (c + 1)) 0 = rsD n m (c + 1) i := by
  rw [rsD_set hc, rsD, List.replicate_succ]
/-- All digits that were reset were the greatest. -/
def allT (n i c : Nat) : Prop := i + 1 = (i / n ^ c + 1) * n ^ c
theorem allT_zero {n i : Nat} : allT n i 0 := by simp [allT]
theorem allT_succ {n i c : Nat} (hn : 1 ≤ n) (h : allT n i c) (hd : i / n ^ c % n + 1 = n) : allT n i (c + 1) := by
  unfold allT at *
  have e : i / n ^ (c + 1) = i / n ^ c / n := by rw [Nat.div_div_eq_div_mul, ← Nat.pow_succ]
  have h1 : i / n ^ c + 1 = (i / n ^ c / n + 1) * n := by
    have := Nat.div_add_mod (i / n ^ c) n
    rw [Nat.add_mul, Nat.one_mul, Nat.mul_comm]
    omega
  rw [e, Nat.pow_succ, Nat.mul_comm (n ^ c) n, ← Nat.mul_assoc, ← h1]
  exact h
theorem allT_end {n i m : Nat} (h : allT n i m) (hi : i < n ^ m) : i + 1 = n ^ m := by
  unfold allT at h
  rw [Nat.div_eq_of_lt hi] at h
  omega
theorem rsD_next {n i c m : Nat} (hn : 1 ≤ n) (hc : c < m) (h : allT n i c) (hd : i / n ^ c % n + 1 < n) : (rsD n m c i).set (m - (c + 1)) (((i / n ^ c % n : Nat) : Int) + 1) = dig n m (i + 1) := by
  rw [rsD_set hc]
  rw [show i + 1 = (i / n ^ c + 1) * n ^ c from h, dig_mul hn c m _ (by omega), show m - c = (m - (c + 1)) + 1 by omega, dig]
  have e1 : (i / n ^ c + 1) % n = i / n ^ c % n + 1 := by rw [Nat.add_mod, Nat.mod_eq_of_lt (show 1 < n by omega), Nat.mod_eq_of_lt hd]
  have e2 : (i / n ^ c + 1) / n = i / n ^ (c + 1) := by
    have h1 := Nat.div_add_mod (i / n ^ c) n
    have h2 := Nat.div_add_mod (i / n ^ c + 1) n
    rw [Nat.pow_succ, ← Nat.div_div_eq_div_mul]
    rw [e1] at h2
    have : n * ((i / n ^ c + 1) / n) = n * (i / n ^ c / n) := by omega
    exact Nat.eq_of_mul_eq_mul_left (by omega) this
  rw [e1, e2, List.append_assoc]
  rfl
theorem next_lt {n i c m : Nat} (hn : 1 ≤ n) (hc : c < m) (hi : i < n ^ m) (h : allT n i c) (hd : i / n ^ c % n + 1 < n) : i + 1 < n ^ m := by
  have e : n ^ m = n ^ (m - c) * n ^ c := by rw [← Nat.pow_add]; congr 1; omega
  have hp : 0 < n ^ c := Nat.pow_pos (by omega)
  rw [show i + 1 = (i / n ^ c + 1) * n ^ c from h, e]
  refine (Nat.mul_lt_mul_right hp).2 ?_
  have h1 : i / n ^ c < n ^ (m - c) := (Nat.div_lt_iff_lt_mul hp).2 (by rw [← e]; exact hi)
  rcases Nat.lt_or_ge (i / n ^ c + 1) (n ^ (m - c)) with q | q
  · exact q
  · exfalso
    have e2 : i / n ^ c + 1 = n ^ (m - (c + 1)) * n := by rw [← Nat.pow_succ, show (m - (c + 1)).succ = m - c by omega]; omega
    have e1 : (i / n ^ c + 1) % n = i / n ^ c % n + 1 := by rw [Nat.add_mod, Nat.mod_eq_of_lt (show 1 < n by omega), Nat.mod_eq_of_lt hd]
    rw [e2, Nat.mul_mod_left] at e1
    omega
theorem digit_lt {n i c : Nat} (hn : 1 ≤ n) : i / n ^ c % n < n := Nat.mod_lt _ (by omega)

/-- What eachList's loops keep. -/
def KL : List Nat := [12160, 8064, 4064, 8, 16, 24, 32, 40, 48, 56, 64, 72, 80, 88, 96, 104, 112, 120, 128]

set_option maxHeartbeats 1000000 in
theorem eachList_run {f : Nat → Option FnA} {T : List (Fam Try.prog)} {dep kb : Nat} {K : D → List Ent → Nat → Prop} {α : Type} {n m : Nat} (hn : 1 ≤ n) (h6 : n ≤ 6) (hm6 : m ≤ 6) {fid : Nat} {caps : List D} {h0 : List Ent} {g0 : Nat}
    (H : α → List Int → List Ent) (P : Nat → α → Prop) (x0 : α)
    (hH0 : keepH KL (⟨kb + 64, g0, .arr 1 (ints (List.replicate m 0))⟩ :: hdel h0 (kb + 64)) = H x0 (List.replicate m 0))
    (hset1 : ∀ x l l', hset (H x l) (kb + 64) g0 (.arr 1 (ints l')) = H x l') (hfind : ∀ x l, find (H x l) (kb + 64) g0 = some (.arr 1 (ints l))) (hkeep : ∀ x l, keepH KL (H x l) = H x l) (hP0 : P 0 x0)
    (step : ∀ i x t g (Q : St → Prop), i < n ^ m → P i x → (∀ x' d h' g', P (i + 1) x' → find h' (kb + 64) g0 = some (.arr 1 (ints (dig n m i))) → keepH KL h' = H x' (dig n m i) → Q ⟨put t (some 11) d, h', g'⟩) →
      callO (CI f) kb (inlT (CI f) T dep kb) (some 11) 16 (.fn fid caps) [.arr (kb + 64) g0] ⟨t, H x (dig n m i), g⟩ [] Q)
    (fin : ∀ x g, P (n ^ m) x → K (.tup []) (H x (List.replicate m 0)) g) :
    run (CI f) kb (inlT (CI f) T dep kb) fa_94.ac (inlQ (CI f).tt fa_94.res K) ⟨args0 0 [IL (List.replicate m ((n : Int) - 1)), .fn fid caps], h0, g0⟩ := by
  have ebig : big = 1048576 * 1048576 := rfl
  have eKL : [12160, 8064, 4064, 8, 16, 24, 32, 40, 48, 56, 64, 72, 80, 88, 96, 104, 112, 120, 128] = KL := rfl
  have hpow : 0 < n ^ m := Nat.pow_pos (by omega)
  simp [fa_94, -keepH, eKL]
  refine ⟨by omega, ?_⟩
  refine loopX (inlT_mono _ _ _ _) (n ^ m) (fun _ _ => []) (fun i x => H x (dig n m i)) (fun i x => i < n ^ m ∧ P i x) x0 (by simp) (by simp only [hH0, dig_zero]) ⟨hpow, hP0⟩ (fun i x g hi hS => ?_)
  have hi0 := hi
  obtain ⟨hi, hP⟩ := hS
  have hi0 : i < n ^ m := hi
  simp [lb_94_1, -keepH, eKL]
  refine step i x _ g _ hi hP (fun x' d h' g' hP' hf' hk' => ?_)
  simp [hf', dig_length, wrap64 (n := (m : Int) - 1) (by omega) (by omega), -keepH, eKL]
  refine loopA (inlT_mono _ _ _ _) m (fun c => [(5, I64 ((m : Int) - 1 - c))]) (fun c => H x' (rsD n m c i)) (fun c => i / n ^ c % n + 1 = n) (by simp) (by simp only [hk', rsD_zero]) (fun c g3 hc hQ => ?_)
  have hall : allT n i c := by
    clear hc
    induction c with
    | zero => exact allT_zero
    | succ c ih => exact allT_succ hn (ih (fun j hj => hQ j (by omega))) (hQ c (by omega))
  have hdl := digit_lt (n := n) (i := i) (c := c) hn
  have etn : ((m : Int) - 1 - c).toNat = m - (c + 1) := by omega
  simp [lb_94_3, -keepH, eKL]
  rcases Nat.lt_or_ge c m with hcm | hcm
  · have hge : (0 : Int) ≤ (m : Int) - 1 - c := by omega
    have hge2 : (c : Int) ≤ (m : Int) - 1 := by omega
    have hlt : (m : Int) - 1 - c < m := by omega
    have hgm : gi (List.replicate m ((n : Int) - 1)) (m - (c + 1)) = (n : Int) - 1 := by simp [gi, List.getElem?_replicate, show m - (c + 1) < m by omega]
    have hgi := rsD_gi (n := n) (i := i) hcm
    have hnx : i / n ^ c % n + 1 < n → (rsD n m c i).set (m - (c + 1)) (((i / n ^ c % n : Nat) : Int) + 1) = dig n m (i + 1) := fun h => rsD_next hn hcm hall h
    have hlt2 : i / n ^ c % n + 1 < n → i + 1 < n ^ m := fun h => next_lt hn hcm hi hall h
    have hQc : i / n ^ c % n + 1 = n → ((fun c => i / n ^ c % n + 1 = n) c) := fun h => h
    generalize hdv : i / n ^ c % n = dv at *
    refine cutWc (inlT_mono _ _ _ _) [(27, .bool (decide (dv + 1 = n)))] (by
      simp [hfind, rsD_length hc, hge, hge2, hlt, etn, hgm, hgi, show m - (c + 1) < m by omega, -keepH, eKL]
      omega) ?_
    rcases Classical.em (dv + 1 = n) with cz | cz
    · simp only [eq_true cz, decide_true]
      generalize hK : vQ _ _ _ _ _ _ _ _ _ = K0
      simp [hfind, hset1, rsD_length hc, hge, hge2, hlt, etn, rsD_succ hcm, show m - (c + 1) < m by omega, wrap64 (n := (m : Int) - 1 - c - 1) (by omega) (by omega), -keepH, eKL]
      subst hK
      rw [vQ_normal]
      refine ⟨hcm, ⟨by simp; omega, by simp only [hkeep]⟩, hQc cz⟩
    · simp only [eq_false cz, decide_false]
      have hnx := hnx (by omega)
      have hlt2 := hlt2 (by omega)
      generalize hK : wQ _ _ _ _ _ _ _ _ _ = K0
      simp [hfind, hset1, rsD_length hc, hge, hge2, hlt, etn, hgi, show m - (c + 1) < m by omega, show ¬ ((m : Int) - 1 - c < 0) by omega, show ¬ ((m : Int) - 1 < c) by omega, wrap64 (n := (dv : Int) + 1) (by omega) (by omega), -keepH, eKL]
      subst hK
      rw [wQ_normal]
      refine ⟨hi0, x', ⟨by simp, ?_⟩, hlt2, hP'⟩
      simp only [hkeep, hnx]
  · obtain rfl : c = m := by omega
    have hend := allT_end hall hi
    have hneg : ¬ ((0 : Int) ≤ (c : Int) - 1 - c) := by omega
    have hneg2 : ¬ ((c : Int) ≤ (c : Int) - 1) := by omega
    refine cutWc (inlT_mono _ _ _ _) [(27, .bool false)] (by simp [hneg, hneg2, -keepH, eKL]) ?_
    generalize hK : wQ _ _ _ _ _ _ _ _ _ = K0
    simp [show ((c : Int) - 1 - c < 0) by omega, show ((c : Int) - 1 < c) by omega, -keepH, eKL]
    subst hK
    rw [wQ_ret]
    have e : rsD n c c i = List.replicate c 0 := by simp [rsD, dig]
    simp [e]
    refine fin x' g3 ?_
    rw [← hend]; exact hP'
end Go.PS
end

section
-- PRINTED by gen.py: clean texts of functions, and their tie to the program.
set_option maxRecDepth 100000
namespace Go.PS
open Go.Proofs
/-- spec.RefuteTerm -/
def an_58 : Ann := ⟨[(1, 1, 3), (1, 5, 3), (3, 3, 3), (7, 6, 3)], [(0, [1, 2]), (1, [1, 2, 15]), (2, [4, 5]), (3, [1, 2, 6]), (4, [1, 2, 6, 7]), (5, [1, 2, 6, 7, 23]), (7, [1, 2, 6, 7, 37]), (8, [4, 5]), (6, [1, 2, 6, 7]), (9, [4, 5])], [(5, [1, 2, 6, 7], [])], []⟩
def lb_58_5 : AC :=
  (.seq
    (.seq
      (.region false [⟨some 20, (.mv (.t 7)), 3, none, 0⟩, ⟨some 21, (.mv (.t 6)), 23, none, 0⟩, ⟨some 22, (.len 23 (.t 21)), 3, none, 0⟩, ⟨some 23, (.bin .lss 3 (.t 20) (.t 22)), 4, none, 0⟩] (some [1, 2, 6, 7, 23]))
      (.cond (.t 23)
        .skip
        (.exit 0)))
    (.seq
      (.block 1
        (.seq
          (.region true [⟨some 26, (.load 28 (.t 2)), 28, none, 0⟩, ⟨some 27, (.mv (.t 1)), 22, none, 0⟩, ⟨some 28, (.mv (.t 6)), 23, none, 0⟩, ⟨some 29, (.mv (.t 7)), 3, none, 0⟩, ⟨some 30, (.iaddr 23 (.t 28) (.t 29)), 0, none, 0⟩, ⟨some 31, (.load 22 (.t 30)), 22, none, 0⟩, ⟨some 32, (.call (.f 65) [(.t 26), (.t 27), (.c (.int .i64 0)), (.t 31)]), 3, none, 3⟩, ⟨some 33, (.faddr 28 (.t 2) 0), 0, none, 0⟩, ⟨some 34, (.load 22 (.t 33)), 22, none, 0⟩, ⟨some 35, (.len 22 (.t 34)), 3, none, 0⟩, ⟨some 36, (.bin .sub 3 (.t 35) (.c (.int .i64 1))), 3, none, 0⟩, ⟨some 37, (.bin .neq 3 (.t 32) (.t 36)), 4, none, 0⟩] (some [1, 2, 6, 7, 37]))
          (.cond (.t 37)
            (.seq
              (.region false [⟨some 38, (.mv (.t 6)), 23, none, 0⟩, ⟨some 39, (.mv (.t 7)), 3, none, 0⟩, ⟨some 40, (.iaddr 23 (.t 38) (.t 39)), 0, none, 0⟩, ⟨some 41, (.load 22 (.t 40)), 22, none, 0⟩, ⟨some 4, (.mv (.t 41)), 22, none, 0⟩, ⟨some 5, (.mv (.c (.bool true))), 4, none, 0⟩] (some [4, 5]))
              .ret)
            .skip)))
      (.region false [⟨some 24, (.mv (.t 7)), 3, none, 0⟩, ⟨some 25, (.bin .add 3 (.t 24) (.c (.int .i64 1))), 3, none, 0⟩, ⟨some 7, (.mv (.t 25)), 3, none, 0⟩] (some [1, 2, 6, 7]))))
def fa_58 : FnA := ⟨42, [.t 4, .t 5],
  (.seq
    (.region false [⟨some 2, (.box 28 (.t 0)), 0, none, 0⟩, ⟨some 4, (.mv (.c .nil)), 22, none, 0⟩, ⟨some 5, (.mv (.c (.bool false))), 4, none, 0⟩] (some [1, 2]))
    (.seq
      (.seq
        (.region false (gops [⟨some 8, (.load 28 (.t 2)), 28, none, 0⟩, ⟨some 9, (.call (.f 62) [(.t 8)]), 4, none, 3⟩, ⟨some 10, (.un .not (.t 9)), 4, none, 0⟩, ⟨some 11, (.mv (.t 10)), 4, none, 0⟩, ⟨some 12, (.mv (.t 1)), 22, some (11, false), 0⟩, ⟨some 13, (.call (.f 63) [(.t 12)]), 4, some (11, false), 3⟩, ⟨some 14, (.un .not (.t 13)), 4, some (11, false), 0⟩, ⟨some 15, (.pick (.t 11) (.c (.bool true)) (.t 14)), 4, none, 0⟩]) (some [1, 2, 15]))
        (.cond (.t 15)
          (.seq
            (.region false [⟨some 4, (.mv (.c .nil)), 22, none, 0⟩, ⟨some 5, (.mv (.c (.bool false))), 4, none, 0⟩] (some [4, 5]))
            .ret)
          .skip))
      (.seq
        (.region false [⟨some 16, (.faddr 28 (.t 2) 0), 0, none, 0⟩, ⟨some 17, (.load 22 (.t 16)), 22, none, 0⟩, ⟨some 18, (.len 22 (.t 17)), 3, none, 0⟩, ⟨some 19, (.call (.f 101) [(.t 18)]), 23, none, 3⟩, ⟨some 6, (.mv (.t 19)), 23, none, 0⟩] (some [1, 2, 6]))
        (.seq
          (.seq
            (.region false [⟨some 7, (.mv (.c (.int .i64 0))), 3, none, 0⟩] (some [1, 2, 6, 7]))
            (.block 0
              (.loop [1, 2, 6, 7] [] lb_58_5)))
          (.seq
            (.region false [⟨some 4, (.mv (.c .nil)), 22, none, 0⟩, ⟨some 5, (.mv (.c (.bool false))), 4, none, 0⟩] (some [4, 5]))
            .ret)))))⟩
theorem fok_58 : FnOk Try.prog 58 fa_58 an_58 := ⟨Try.f58, _, Try.func58, rfl, by kernel_rfl, rfl, rfl, by decide, by kernel_rfl⟩
/-- spec.IsTrue -/
def an_54 : Ann := ⟨[(1, 1, 3), (1, 5, 3), (3, 2, 3)], [(0, [1, 2]), (1, [1, 2, 14]), (2, [4]), (3, [6]), (4, [4])], [], []⟩
def fa_54 : FnA := ⟨23, [.t 4],
  (.seq
    (.region false [⟨some 2, (.box 28 (.t 0)), 0, none, 0⟩, ⟨some 4, (.mv (.c (.bool false))), 4, none, 0⟩] (some [1, 2]))
    (.seq
      (.seq
        (.region false (gops [⟨some 7, (.load 28 (.t 2)), 28, none, 0⟩, ⟨some 8, (.call (.f 62) [(.t 7)]), 4, none, 3⟩, ⟨some 9, (.un .not (.t 8)), 4, none, 0⟩, ⟨some 10, (.mv (.t 9)), 4, none, 0⟩, ⟨some 11, (.mv (.t 1)), 22, some (10, false), 0⟩, ⟨some 12, (.call (.f 63) [(.t 11)]), 4, some (10, false), 3⟩, ⟨some 13, (.un .not (.t 12)), 4, some (10, false), 0⟩, ⟨some 14, (.pick (.t 10) (.c (.bool true)) (.t 13)), 4, none, 0⟩]) (some [1, 2, 14]))
        (.cond (.t 14)
          (.seq
            (.region false [⟨some 4, (.mv (.c (.bool false))), 4, none, 0⟩] (some [4]))
            .ret)
          .skip))
      (.seq
        (.region false [⟨some 16, (.load 28 (.t 2)), 28, none, 0⟩, ⟨some 17, (.mv (.t 1)), 22, none, 0⟩, ⟨some 18, (.call (.f 58) [(.t 16), (.t 17)]), 54, none, 3⟩, ⟨some 15, (.mv (.t 18)), 54, none, 0⟩, ⟨some 19, (.ext (.t 15) 0), 22, none, 0⟩, ⟨some 20, (.ext (.t 15) 1), 4, none, 0⟩, ⟨some 5, (.mv (.t 19)), 22, none, 0⟩, ⟨some 6, (.mv (.t 20)), 4, none, 0⟩] (some [6]))
        (.seq
          (.region false [⟨some 21, (.mv (.t 6)), 4, none, 0⟩, ⟨some 22, (.un .not (.t 21)), 4, none, 0⟩, ⟨some 4, (.mv (.t 22)), 4, none, 0⟩] (some [4]))
          .ret))))⟩
theorem fok_54 : FnOk Try.prog 54 fa_54 an_54 := ⟨Try.f54, _, Try.func54, rfl, by kernel_rfl, rfl, rfl, by decide, by kernel_rfl⟩
/-- slices.Clone(()int,int) -/
def an_98 : Ann := ⟨[(3, 0, 1)], [(0, [0]), (1, [0, 4]), (2, [2]), (3, [2])], [], []⟩
def fa_98 : FnA := ⟨8, [.t 2],
  (.seq
    (.region false [⟨some 2, (.mv (.c .nil)), 22, none, 0⟩] (some [0]))
    (.seq
      (.seq
        (.region false [⟨some 3, (.mv (.t 0)), 22, none, 0⟩, ⟨some 4, (.bin .eql 22 (.t 3) (.c .nil)), 4, none, 0⟩] (some [0, 4]))
        (.cond (.t 4)
          (.seq
            (.region false [⟨some 2, (.mv (.c .nil)), 22, none, 0⟩] (some [2]))
            .ret)
          .skip))
      (.seq
        (.region false [⟨some 5, (.bslice 22 0 []), 22, none, 1⟩, ⟨some 6, (.mv (.t 0)), 22, none, 0⟩, ⟨some 7, (.app 22 22 (.t 5) (.t 6)), 22, none, 0⟩, ⟨some 2, (.mv (.t 7)), 22, none, 0⟩] (some [2]))
        .ret)))⟩
theorem fok_98 : FnOk Try.prog 98 fa_98 an_98 := ⟨Try.f98, _, Try.func98, rfl, by kernel_rfl, rfl, rfl, by decide, by kernel_rfl⟩
/-- impl.RefuteTerm$1 -/
def an_122 : Ann := ⟨[(0, 6, 3), (1, 1, 1)], [(0, [0, 1, 4, 18]), (1, [])], [], []⟩
def fa_122 : FnA := ⟨21, [],
  (.seq
    (.region true (gops [⟨some 6, (.load 4 (.t 1)), 4, none, 0⟩, ⟨some 7, (.un .not (.t 6)), 4, none, 0⟩, ⟨some 8, (.mv (.t 7)), 4, none, 0⟩, ⟨some 9, (.load 28 (.t 2)), 28, some (8, true), 0⟩, ⟨some 10, (.load 22 (.t 3)), 22, some (8, true), 0⟩, ⟨some 11, (.mv (.t 0)), 22, some (8, true), 0⟩, ⟨some 12, (.call (.f 69) [(.t 9), (.t 10), (.t 11)]), 3, some (8, true), 3⟩, ⟨some 13, (.faddr 28 (.t 2) 0), 0, some (8, true), 0⟩, ⟨some 14, (.load 22 (.t 13)), 22, some (8, true), 0⟩, ⟨some 15, (.len 22 (.t 14)), 3, some (8, true), 0⟩, ⟨some 16, (.bin .sub 3 (.t 15) (.c (.int .i64 1))), 3, some (8, true), 0⟩, ⟨some 17, (.bin .neq 3 (.t 12) (.t 16)), 4, some (8, true), 0⟩, ⟨some 18, (.pick (.t 8) (.t 17) (.c (.bool false))), 4, none, 0⟩]) (some [0, 1, 4, 18]))
    (.cond (.t 18)
      (.region false [⟨some 19, (.mv (.t 0)), 22, none, 0⟩, ⟨some 20, (.call (.f 98) [(.t 19)]), 22, none, 1⟩, ⟨none, (.store 22 (.t 4) (.t 20)), 0, none, 0⟩, ⟨none, (.store 4 (.t 1) (.c (.bool true))), 0, none, 0⟩] (some []))
      .skip))⟩
theorem fok_122 : FnOk Try.prog 122 fa_122 an_122 := ⟨Try.f122, _, Try.func122, rfl, by kernel_rfl, rfl, rfl, by decide, by kernel_rfl⟩
/-- impl.RefuteTerm -/
def an_59 : Ann := ⟨[(1, 1, 3), (1, 5, 3), (4, 2, 16)], [(0, [2, 3]), (1, [2, 3, 15]), (2, [4, 5]), (3, [2, 3, 6, 7]), (4, [6, 7]), (5, [6, 21]), (6, [4, 5]), (7, [4, 5])], [], []⟩
def fa_59 : FnA := ⟨23, [.t 4, .t 5],
  (.seq
    (.region false [⟨some 2, (.box 28 (.t 0)), 0, none, 0⟩, ⟨some 3, (.box 22 (.t 1)), 0, none, 0⟩, ⟨some 4, (.mv (.c .nil)), 22, none, 0⟩, ⟨some 5, (.mv (.c (.bool false))), 4, none, 0⟩] (some [2, 3]))
    (.seq
      (.seq
        (.region false (gops [⟨some 8, (.load 28 (.t 2)), 28, none, 0⟩, ⟨some 9, (.call (.f 72) [(.t 8)]), 4, none, 3⟩, ⟨some 10, (.un .not (.t 9)), 4, none, 0⟩, ⟨some 11, (.mv (.t 10)), 4, none, 0⟩, ⟨some 12, (.load 22 (.t 3)), 22, some (11, false), 0⟩, ⟨some 13, (.call (.f 67) [(.t 12)]), 4, some (11, false), 3⟩, ⟨some 14, (.un .not (.t 13)), 4, some (11, false), 0⟩, ⟨some 15, (.pick (.t 11) (.c (.bool true)) (.t 14)), 4, none, 0⟩]) (some [2, 3, 15]))
        (.cond (.t 15)
          (.seq
            (.region false [⟨some 4, (.mv (.c .nil)), 22, none, 0⟩, ⟨some 5, (.mv (.c (.bool false))), 4, none, 0⟩] (some [4, 5]))
            .ret)
          .skip))
      (.seq
        (.region false [⟨some 16, (.bslice 22 0 []), 22, none, 0⟩, ⟨some 6, (.alloc 22), 0, none, 0⟩, ⟨some 7, (.alloc 4), 0, none, 0⟩, ⟨none, (.store 22 (.t 6) (.t 16)), 0, none, 0⟩, ⟨none, (.store 4 (.t 7) (.c (.bool false))), 0, none, 0⟩] (some [2, 3, 6, 7]))
        (.seq
          (.region false [⟨some 17, (.load 28 (.t 2)), 28, none, 0⟩, ⟨some 18, (.mkfn 122 [(.t 7), (.t 2), (.t 3), (.t 6)]), 86, none, 0⟩, ⟨some 19, (.call (.f 102) [(.t 17), (.t 18)]), 0, none, 16⟩] (some [6, 7]))
          (.seq
            (.seq
              (.region false [⟨some 20, (.load 4 (.t 7)), 4, none, 0⟩, ⟨some 21, (.un .not (.t 20)), 4, none, 0⟩] (some [6, 21]))
              (.cond (.t 21)
                (.seq
                  (.region false [⟨some 4, (.mv (.c .nil)), 22, none, 0⟩, ⟨some 5, (.mv (.c (.bool false))), 4, none, 0⟩] (some [4, 5]))
                  .ret)
                .skip))
            (.seq
              (.region false [⟨some 22, (.load 22 (.t 6)), 22, none, 0⟩, ⟨some 4, (.mv (.t 22)), 22, none, 0⟩, ⟨some 5, (.mv (.c (.bool true))), 4, none, 0⟩] (some [4, 5]))
              .ret))))))⟩
theorem fok_59 : FnOk Try.prog 59 fa_59 an_59 := ⟨Try.f59, _, Try.func59, rfl, by kernel_rfl, rfl, rfl, by decide, by kernel_rfl⟩
/-- impl.IsTrue -/
def an_55 : Ann := ⟨[(1, 2, 3), (2, 1, 3), (2, 4, 3)], [(0, [1, 2]), (1, [1, 2, 6]), (2, [4])], [], []⟩
def fa_55 : FnA := ⟨23, [.t 4],
  (.seq
    (.region false [⟨some 2, (.box 28 (.t 0)), 0, none, 0⟩, ⟨some 4, (.mv (.c (.bool false))), 4, none, 0⟩] (some [1, 2]))
    (.seq
      (.region false [⟨some 8, (.load 28 (.t 2)), 28, none, 0⟩, ⟨some 9, (.mv (.t 1)), 22, none, 0⟩, ⟨some 10, (.call (.f 59) [(.t 8), (.t 9)]), 54, none, 3⟩, ⟨some 7, (.mv (.t 10)), 54, none, 0⟩, ⟨some 11, (.ext (.t 7) 0), 22, none, 0⟩, ⟨some 12, (.ext (.t 7) 1), 4, none, 0⟩, ⟨some 5, (.mv (.t 11)), 22, none, 0⟩, ⟨some 6, (.mv (.t 12)), 4, none, 0⟩] (some [1, 2, 6]))
      (.seq
        (.region false (gops [⟨some 13, (.load 28 (.t 2)), 28, none, 0⟩, ⟨some 14, (.call (.f 72) [(.t 13)]), 4, none, 3⟩, ⟨some 15, (.mv (.t 14)), 4, none, 0⟩, ⟨some 16, (.mv (.t 1)), 22, some (15, true), 0⟩, ⟨some 17, (.call (.f 67) [(.t 16)]), 4, some (15, true), 3⟩, ⟨some 18, (.pick (.t 15) (.t 17) (.c (.bool false))), 4, none, 0⟩, ⟨some 19, (.mv (.t 18)), 4, none, 0⟩, ⟨some 20, (.mv (.t 6)), 4, some (19, true), 0⟩, ⟨some 21, (.un .not (.t 20)), 4, some (19, true), 0⟩, ⟨some 22, (.pick (.t 19) (.t 21) (.c (.bool false))), 4, none, 0⟩, ⟨some 4, (.mv (.t 22)), 4, none, 0⟩]) (some [4]))
        .ret)))⟩
theorem fok_55 : FnOk Try.prog 55 fa_55 an_55 := ⟨Try.f55, _, Try.func55, rfl, by kernel_rfl, rfl, rfl, by decide, by kernel_rfl⟩
/-- laws.FnExactIsTrue -/
def an_14 : Ann := ⟨[(4, 2, 3), (7, 1, 3), (7, 3, 3), (7, 4, 3), (8, 1, 3), (9, 1, 3), (10, 2, 3), (13, 2, 3), (13, 3, 3), (15, 2, 3), (15, 3, 3)], [(0, [1, 2]), (1, [1, 2, 12]), (2, [4]), (3, [1, 2, 5]), (4, [1, 2, 5]), (5, [1, 2, 17]), (6, [4]), (7, [1, 2, 6]), (8, [1, 2, 6, 7]), (9, [1, 2, 6, 7, 8]), (10, [1, 2, 6, 7, 8, 9]), (11, [1, 2, 7, 8, 32]), (12, [4]), (13, [1, 8, 37]), (14, [4]), (15, [42]), (16, [4]), (17, [4])], [], []⟩
def fa_14 : FnA := ⟨43, [.t 4],
  (.seq
    (.region false [⟨some 2, (.box 25 (.t 0)), 0, none, 0⟩, ⟨some 4, (.mv (.c (.bool false))), 4, none, 0⟩] (some [1, 2]))
    (.seq
      (.seq
        (.region false [⟨some 10, (.mv (.t 1)), 22, none, 0⟩, ⟨some 11, (.len 22 (.t 10)), 3, none, 0⟩, ⟨some 12, (.bin .gtr 3 (.t 11) (.c (.int .i64 1048576))), 4, none, 0⟩] (some [1, 2, 12]))
        (.cond (.t 12)
          (.seq
            (.region false [⟨some 4, (.mv (.c (.bool true))), 4, none, 0⟩] (some [4]))
            .ret)
          .skip))
      (.seq
        (.region false [⟨some 5, (.mv (.c (.int .i64 1048576))), 3, none, 0⟩] (some [1, 2, 5]))
        (.seq
          (.region false [⟨some 13, (.load 25 (.t 2)), 25, none, 0⟩, ⟨some 14, (.mv (.t 5)), 3, none, 0⟩, ⟨some 15, (.call (.f 17) [(.t 13), (.t 14)]), 3, none, 3⟩, ⟨some 5, (.mv (.t 15)), 3, none, 0⟩] (some [1, 2, 5]))
          (.seq
            (.seq
              (.region false [⟨some 16, (.mv (.t 5)), 3, none, 0⟩, ⟨some 17, (.bin .lss 3 (.t 16) (.c (.int .i64 0))), 4, none, 0⟩] (some [1, 2, 17]))
              (.cond (.t 17)
                (.seq
                  (.region false [⟨some 4, (.mv (.c (.bool true))), 4, none, 0⟩] (some [4]))
                  .ret)
                .skip))
            (.seq
              (.region false [⟨some 18, (.load 25 (.t 2)), 25, none, 0⟩, ⟨some 19, (.call (.f 19) [(.t 18)]), 28, none, 3⟩, ⟨some 20, (.mv (.t 1)), 22, none, 0⟩, ⟨some 21, (.call (.f 20) [(.t 20)]), 22, none, 3⟩, ⟨some 22, (.call (.f 54) [(.t 19), (.t 21)]), 4, none, 3⟩, ⟨some 6, (.mv (.t 22)), 4, none, 0⟩] (some [1, 2, 6]))
              (.seq
                (.region false [⟨some 23, (.load 25 (.t 2)), 25, none, 0⟩, ⟨some 24, (.call (.f 19) [(.t 23)]), 28, none, 3⟩, ⟨some 7, (.alloc 28), 0, none, 0⟩, ⟨none, (.store 28 (.t 7) (.t 24)), 0, none, 0⟩] (some [1, 2, 6, 7]))
                (.seq
                  (.region false [⟨some 25, (.mv (.t 1)), 22, none, 0⟩, ⟨some 26, (.call (.f 20) [(.t 25)]), 22, none, 3⟩, ⟨some 8, (.mv (.t 26)), 22, none, 0⟩] (some [1, 2, 6, 7, 8]))
                  (.seq
                    (.region false [⟨some 27, (.load 28 (.t 7)), 28, none, 0⟩, ⟨some 28, (.mv (.t 8)), 22, none, 0⟩, ⟨some 29, (.call (.f 55) [(.t 27), (.t 28)]), 4, none, 3⟩, ⟨some 9, (.mv (.t 29)), 4, none, 0⟩] (some [1, 2, 6, 7, 8, 9]))
                    (.seq
                      (.seq
                        (.region false [⟨some 30, (.mv (.t 9)), 4, none, 0⟩, ⟨some 31, (.mv (.t 6)), 4, none, 0⟩, ⟨some 32, (.bin .neq 4 (.t 30) (.t 31)), 4, none, 0⟩] (some [1, 2, 7, 8, 32]))
                        (.cond (.t 32)
                          (.seq
                            (.region false [⟨some 4, (.mv (.c (.bool false))), 4, none, 0⟩] (some [4]))
                            .ret)
                          .skip))
                      (.seq
                        (.seq
                          (.region true [⟨some 33, (.load 28 (.t 7)), 28, none, 0⟩, ⟨some 34, (.load 25 (.t 2)), 25, none, 0⟩, ⟨some 35, (.call (.f 19) [(.t 34)]), 28, none, 3⟩, ⟨some 36, (.call (.f 22) [(.t 33), (.t 35)]), 4, none, 3⟩, ⟨some 37, (.un .not (.t 36)), 4, none, 0⟩] (some [1, 8, 37]))
                          (.cond (.t 37)
                            (.seq
                              (.region false [⟨some 4, (.mv (.c (.bool false))), 4, none, 0⟩] (some [4]))
                              .ret)
                            .skip))
                        (.seq
                          (.seq
                            (.region false [⟨some 38, (.mv (.t 8)), 22, none, 0⟩, ⟨some 39, (.mv (.t 1)), 22, none, 0⟩, ⟨some 40, (.call (.f 20) [(.t 39)]), 22, none, 3⟩, ⟨some 41, (.call (.f 23) [(.t 38), (.t 40)]), 4, none, 3⟩, ⟨some 42, (.un .not (.t 41)), 4, none, 0⟩] (some [42]))
                            (.cond (.t 42)
                              (.seq
                                (.region false [⟨some 4, (.mv (.c (.bool false))), 4, none, 0⟩] (some [4]))
                                .ret)
                              .skip))
                          (.seq
                            (.region false [⟨some 4, (.mv (.c (.bool true))), 4, none, 0⟩] (some [4]))
                            .ret)))))))))))))⟩
theorem fok_14 : FnOk Try.prog 14 fa_14 an_14 := ⟨Try.f14, _, Try.func14, rfl, by kernel_rfl, rfl, rfl, by decide, by kernel_rfl⟩
end Go.PS
end

section
-- PRINTED by gen.py: clean texts of functions, and their tie to the program.
set_option maxRecDepth 100000
namespace Go.PS
open Go.Proofs
/-- laws.markIntS -/
def an_27 : Ann := ⟨[], [(0, [0, 1]), (1, [0, 1, 5]), (2, [0, 1, 5, 9]), (4, [0, 1, 5]), (5, [0, 1, 5]), (3, [0, 1, 5]), (6, [4])], [(2, [0, 1, 5], [999999999])], []⟩
def lb_27_2 : AC :=
  (.seq
    (.seq
      (.region false [⟨some 6, (.mv (.t 5)), 3, none, 0⟩, ⟨some 7, (.mv (.t 0)), 22, none, 0⟩, ⟨some 8, (.len 22 (.t 7)), 3, none, 0⟩, ⟨some 9, (.bin .lss 3 (.t 6) (.t 8)), 4, none, 0⟩] (some [0, 1, 5, 9]))
      (.cond (.t 9)
        .skip
        (.exit 0)))
    (.seq
      (.block 1
        (.seq
          (.region false [⟨some 12, (.mv (.t 0)), 22, none, 0⟩, ⟨some 13, (.mv (.t 5)), 3, none, 0⟩, ⟨some 14, (.mv (.t 1)), 3, none, 0⟩, ⟨some 15, (.iaddr 22 (.t 12) (.t 13)), 0, none, 0⟩, ⟨none, (.store 3 (.t 15) (.t 14)), 0, none, 0⟩] (some [0, 1, 5]))
          (.region false [⟨some 16, (.mv (.t 1)), 3, none, 0⟩, ⟨some 17, (.bin .add 3 (.t 16) (.c (.int .i64 1))), 3, none, 0⟩, ⟨some 1, (.mv (.t 17)), 3, none, 0⟩] (some [0, 1, 5]))))
      (.region false [⟨some 10, (.mv (.t 5)), 3, none, 0⟩, ⟨some 11, (.bin .add 3 (.t 10) (.c (.int .i64 1))), 3, none, 0⟩, ⟨some 5, (.mv (.t 11)), 3, none, 0⟩] (some [0, 1, 5]))))
def fa_27 : FnA := ⟨19, [.t 4],
  (.seq
    (.region false [⟨some 4, (.mv (.c (.int .i64 0))), 3, none, 0⟩] (some [0, 1]))
    (.seq
      (.seq
        (.region false [⟨some 5, (.mv (.c (.int .i64 0))), 3, none, 0⟩] (some [0, 1, 5]))
        (.block 0
          (.loop [0, 1, 5] [999999999] lb_27_2)))
      (.seq
        (.region false [⟨some 18, (.mv (.t 1)), 3, none, 0⟩, ⟨some 4, (.mv (.t 18)), 3, none, 0⟩] (some [4]))
        .ret)))⟩
theorem fok_27 : FnOk Try.prog 27 fa_27 an_27 := ⟨Try.f27, _, Try.func27, rfl, by kernel_rfl, rfl, rfl, by decide, by kernel_rfl⟩
/-- laws.markIntSS -/
def an_42 : Ann := ⟨[(4, 3, 1), (4, 5, 16)], [(0, [0, 1]), (1, [0, 1, 5]), (2, [0, 1, 5, 9]), (4, [0, 1, 5]), (3, [0, 1, 5]), (5, [4])], [(2, [0, 1, 5], [999999999])], []⟩
def lb_42_2 : AC :=
  (.seq
    (.seq
      (.region false [⟨some 6, (.mv (.t 5)), 3, none, 0⟩, ⟨some 7, (.mv (.t 0)), 23, none, 0⟩, ⟨some 8, (.len 23 (.t 7)), 3, none, 0⟩, ⟨some 9, (.bin .lss 3 (.t 6) (.t 8)), 4, none, 0⟩] (some [0, 1, 5, 9]))
      (.cond (.t 9)
        .skip
        (.exit 0)))
    (.seq
      (.block 1
        (.region false [⟨some 12, (.mv (.t 0)), 23, none, 0⟩, ⟨some 13, (.mv (.t 5)), 3, none, 0⟩, ⟨some 14, (.iaddr 23 (.t 12) (.t 13)), 0, none, 0⟩, ⟨some 15, (.load 22 (.t 14)), 22, none, 1⟩, ⟨some 16, (.mv (.t 1)), 3, none, 0⟩, ⟨some 17, (.call (.f 27) [(.t 15), (.t 16)]), 3, none, 16⟩, ⟨some 1, (.mv (.t 17)), 3, none, 0⟩] (some [0, 1, 5])))
      (.region false [⟨some 10, (.mv (.t 5)), 3, none, 0⟩, ⟨some 11, (.bin .add 3 (.t 10) (.c (.int .i64 1))), 3, none, 0⟩, ⟨some 5, (.mv (.t 11)), 3, none, 0⟩] (some [0, 1, 5]))))
def fa_42 : FnA := ⟨19, [.t 4],
  (.seq
    (.region false [⟨some 4, (.mv (.c (.int .i64 0))), 3, none, 0⟩] (some [0, 1]))
    (.seq
      (.seq
        (.region false [⟨some 5, (.mv (.c (.int .i64 0))), 3, none, 0⟩] (some [0, 1, 5]))
        (.block 0
          (.loop [0, 1, 5] [999999999] lb_42_2)))
      (.seq
        (.region false [⟨some 18, (.mv (.t 1)), 3, none, 0⟩, ⟨some 4, (.mv (.t 18)), 3, none, 0⟩] (some [4]))
        .ret)))⟩
theorem fok_42 : FnOk Try.prog 42 fa_42 an_42 := ⟨Try.f42, _, Try.func42, rfl, by kernel_rfl, rfl, rfl, by decide, by kernel_rfl⟩
/-- laws.markAlgebra -/
def an_26 : Ann := ⟨[(0, 0, 1), (1, 3, 16), (2, 3, 16)], [(0, [1, 2]), (1, [1, 2]), (2, [1]), (3, [4])], [], []⟩
def fa_26 : FnA := ⟨14, [.t 4],
  (.seq
    (.region false [⟨some 2, (.box 28 (.t 0)), 0, none, 1⟩, ⟨some 4, (.mv (.c (.int .i64 0))), 3, none, 0⟩] (some [1, 2]))
    (.seq
      (.region false [⟨some 5, (.faddr 28 (.t 2) 0), 0, none, 0⟩, ⟨some 6, (.load 22 (.t 5)), 22, none, 0⟩, ⟨some 7, (.mv (.t 1)), 3, none, 0⟩, ⟨some 8, (.call (.f 27) [(.t 6), (.t 7)]), 3, none, 16⟩, ⟨some 1, (.mv (.t 8)), 3, none, 0⟩] (some [1, 2]))
      (.seq
        (.region false [⟨some 9, (.faddr 28 (.t 2) 1), 0, none, 0⟩, ⟨some 10, (.load 23 (.t 9)), 23, none, 0⟩, ⟨some 11, (.mv (.t 1)), 3, none, 0⟩, ⟨some 12, (.call (.f 42) [(.t 10), (.t 11)]), 3, none, 16⟩, ⟨some 1, (.mv (.t 12)), 3, none, 0⟩] (some [1]))
        (.seq
          (.region false [⟨some 13, (.mv (.t 1)), 3, none, 0⟩, ⟨some 4, (.mv (.t 13)), 3, none, 0⟩] (some [4]))
          .ret))))⟩
theorem fok_26 : FnOk Try.prog 26 fa_26 an_26 := ⟨Try.f26, _, Try.func26, rfl, by kernel_rfl, rfl, rfl, by decide, by kernel_rfl⟩
/-- laws.heldIntS -/
def an_28 : Ann := ⟨[], [(0, [0, 1]), (1, [0, 1, 5]), (2, [0, 1, 5, 9]), (4, [0, 1, 5, 17]), (5, [4]), (6, [0, 1, 5]), (3, [0, 1, 5]), (7, [4])], [(2, [0, 1, 5], [])], []⟩
def lb_28_2 : AC :=
  (.seq
    (.seq
      (.region false [⟨some 6, (.mv (.t 5)), 3, none, 0⟩, ⟨some 7, (.mv (.t 0)), 22, none, 0⟩, ⟨some 8, (.len 22 (.t 7)), 3, none, 0⟩, ⟨some 9, (.bin .lss 3 (.t 6) (.t 8)), 4, none, 0⟩] (some [0, 1, 5, 9]))
      (.cond (.t 9)
        .skip
        (.exit 0)))
    (.seq
      (.block 1
        (.seq
          (.seq
            (.region false [⟨some 12, (.mv (.t 0)), 22, none, 0⟩, ⟨some 13, (.mv (.t 5)), 3, none, 0⟩, ⟨some 14, (.iaddr 22 (.t 12) (.t 13)), 0, none, 0⟩, ⟨some 15, (.load 3 (.t 14)), 3, none, 0⟩, ⟨some 16, (.mv (.t 1)), 3, none, 0⟩, ⟨some 17, (.bin .neq 3 (.t 15) (.t 16)), 4, none, 0⟩] (some [0, 1, 5, 17]))
            (.cond (.t 17)
              (.seq
                (.region false [⟨some 4, (.mv (.c (.int .i64 (-1)))), 3, none, 0⟩] (some [4]))
                .ret)
              .skip))
          (.region false [⟨some 18, (.mv (.t 1)), 3, none, 0⟩, ⟨some 19, (.bin .add 3 (.t 18) (.c (.int .i64 1))), 3, none, 0⟩, ⟨some 1, (.mv (.t 19)), 3, none, 0⟩] (some [0, 1, 5]))))
      (.region false [⟨some 10, (.mv (.t 5)), 3, none, 0⟩, ⟨some 11, (.bin .add 3 (.t 10) (.c (.int .i64 1))), 3, none, 0⟩, ⟨some 5, (.mv (.t 11)), 3, none, 0⟩] (some [0, 1, 5]))))
def fa_28 : FnA := ⟨21, [.t 4],
  (.seq
    (.region false [⟨some 4, (.mv (.c (.int .i64 0))), 3, none, 0⟩] (some [0, 1]))
    (.seq
      (.seq
        (.region false [⟨some 5, (.mv (.c (.int .i64 0))), 3, none, 0⟩] (some [0, 1, 5]))
        (.block 0
          (.loop [0, 1, 5] [] lb_28_2)))
      (.seq
        (.region false [⟨some 20, (.mv (.t 1)), 3, none, 0⟩, ⟨some 4, (.mv (.t 20)), 3, none, 0⟩] (some [4]))
        .ret)))⟩
theorem fok_28 : FnOk Try.prog 28 fa_28 an_28 := ⟨Try.f28, _, Try.func28, rfl, by kernel_rfl, rfl, rfl, by decide, by kernel_rfl⟩
/-- laws.FnExactRefuteTerm -/
def an_16 : Ann := ⟨[(4, 2, 3), (7, 1, 3), (7, 3, 3), (7, 4, 3), (8, 1, 1), (9, 1, 1), (10, 2, 1), (11, 2, 3), (13, 2, 3), (13, 3, 3), (15, 2, 3), (15, 3, 3), (18, 2, 16), (19, 2, 16), (20, 5, 3), (23, 2, 16), (25, 2, 3), (30, 1, 3), (30, 3, 3), (30, 4, 3), (31, 2, 3), (34, 2, 3)], [(0, [1, 2]), (1, [1, 2, 19]), (2, [4]), (3, [1, 2, 5]), (4, [1, 2, 5]), (5, [1, 2, 24]), (6, [4]), (7, [1, 2, 6, 7]), (8, [1, 2, 6, 7, 8]), (9, [1, 2, 6, 7, 8, 9]), (10, [1, 2, 6, 7, 8, 9, 10, 11]), (11, [1, 2, 6, 7, 8, 9, 10, 11, 51]), (12, [4]), (13, [1, 2, 6, 7, 8, 9, 10, 11, 56]), (14, [4]), (15, [1, 2, 6, 7, 8, 9, 10, 11, 61]), (16, [4]), (17, [1, 2, 6, 7, 8, 9, 10, 11, 12]), (18, [1, 2, 6, 7, 9, 10, 11, 12]), (19, [1, 2, 6, 7, 10, 11, 12]), (20, [1, 2, 6, 7, 10, 80]), (21, [4]), (22, [1, 2, 6, 7, 10, 13]), (23, [1, 2, 6, 7, 10, 13]), (24, [1, 2, 6, 7, 10, 13, 14]), (25, [1, 2, 6, 7, 10, 13, 14]), (26, [1, 2, 6, 7, 10, 13, 14, 88]), (27, [4]), (28, [1, 2, 6, 7, 10, 13, 91]), (29, [4]), (30, [6, 7, 10, 13, 15, 16]), (31, [10, 13, 108]), (32, [4]), (33, [10, 13, 14]), (34, [13, 14]), (35, [13, 14, 113]), (36, [4]), (37, [116]), (38, [4]), (39, [4])], [], []⟩
def fa_16 : FnA := ⟨117, [.t 4],
  (.seq
    (.region false [⟨some 2, (.box 25 (.t 0)), 0, none, 0⟩, ⟨some 4, (.mv (.c (.bool false))), 4, none, 0⟩] (some [1, 2]))
    (.seq
      (.seq
        (.region false [⟨some 17, (.mv (.t 1)), 22, none, 0⟩, ⟨some 18, (.len 22 (.t 17)), 3, none, 0⟩, ⟨some 19, (.bin .gtr 3 (.t 18) (.c (.int .i64 1048576))), 4, none, 0⟩] (some [1, 2, 19]))
        (.cond (.t 19)
          (.seq
            (.region false [⟨some 4, (.mv (.c (.bool true))), 4, none, 0⟩] (some [4]))
            .ret)
          .skip))
      (.seq
        (.region false [⟨some 5, (.mv (.c (.int .i64 1048576))), 3, none, 0⟩] (some [1, 2, 5]))
        (.seq
          (.region false [⟨some 20, (.load 25 (.t 2)), 25, none, 0⟩, ⟨some 21, (.mv (.t 5)), 3, none, 0⟩, ⟨some 22, (.call (.f 17) [(.t 20), (.t 21)]), 3, none, 3⟩, ⟨some 5, (.mv (.t 22)), 3, none, 0⟩] (some [1, 2, 5]))
          (.seq
            (.seq
              (.region false [⟨some 23, (.mv (.t 5)), 3, none, 0⟩, ⟨some 24, (.bin .lss 3 (.t 23) (.c (.int .i64 0))), 4, none, 0⟩] (some [1, 2, 24]))
              (.cond (.t 24)
                (.seq
                  (.region false [⟨some 4, (.mv (.c (.bool true))), 4, none, 0⟩] (some [4]))
                  .ret)
                .skip))
            (.seq
              (.region false [⟨some 26, (.load 25 (.t 2)), 25, none, 0⟩, ⟨some 27, (.call (.f 19) [(.t 26)]), 28, none, 3⟩, ⟨some 28, (.mv (.t 1)), 22, none, 0⟩, ⟨some 29, (.call (.f 20) [(.t 28)]), 22, none, 3⟩, ⟨some 30, (.call (.f 58) [(.t 27), (.t 29)]), 54, none, 3⟩, ⟨some 25, (.mv (.t 30)), 54, none, 0⟩, ⟨some 31, (.ext (.t 25) 0), 22, none, 0⟩, ⟨some 32, (.ext (.t 25) 1), 4, none, 0⟩, ⟨some 6, (.mv (.t 31)), 22, none, 0⟩, ⟨some 7, (.mv (.t 32)), 4, none, 0⟩] (some [1, 2, 6, 7]))
              (.seq
                (.region false [⟨some 33, (.load 25 (.t 2)), 25, none, 0⟩, ⟨some 34, (.call (.f 19) [(.t 33)]), 28, none, 1⟩, ⟨some 8, (.alloc 28), 0, none, 0⟩, ⟨none, (.store 28 (.t 8) (.t 34)), 0, none, 0⟩] (some [1, 2, 6, 7, 8]))
                (.seq
                  (.region false [⟨some 35, (.mv (.t 1)), 22, none, 0⟩, ⟨some 36, (.call (.f 20) [(.t 35)]), 22, none, 1⟩, ⟨some 9, (.mv (.t 36)), 22, none, 0⟩] (some [1, 2, 6, 7, 8, 9]))
                  (.seq
                    (.region false [⟨some 38, (.load 28 (.t 8)), 28, none, 0⟩, ⟨some 39, (.mv (.t 9)), 22, none, 0⟩, ⟨some 40, (.call (.f 59) [(.t 38), (.t 39)]), 54, none, 1⟩, ⟨some 37, (.mv (.t 40)), 54, none, 0⟩, ⟨some 41, (.ext (.t 37) 0), 22, none, 0⟩, ⟨some 42, (.ext (.t 37) 1), 4, none, 0⟩, ⟨some 10, (.mv (.t 41)), 22, none, 0⟩, ⟨some 11, (.mv (.t 42)), 4, none, 0⟩] (some [1, 2, 6, 7, 8, 9, 10, 11]))
                    (.seq
                      (.seq
                        (.region false (gops [⟨some 43, (.mv (.t 10)), 22, none, 0⟩, ⟨some 44, (.mv (.t 6)), 22, none, 0⟩, ⟨some 45, (.call (.f 23) [(.t 43), (.t 44)]), 4, none, 3⟩, ⟨some 46, (.un .not (.t 45)), 4, none, 0⟩, ⟨some 47, (.mv (.t 46)), 4, none, 0⟩, ⟨some 48, (.mv (.t 11)), 4, some (47, false), 0⟩, ⟨some 49, (.mv (.t 7)), 4, some (47, false), 0⟩, ⟨some 50, (.bin .neq 4 (.t 48) (.t 49)), 4, some (47, false), 0⟩, ⟨some 51, (.pick (.t 47) (.c (.bool true)) (.t 50)), 4, none, 0⟩]) (some [1, 2, 6, 7, 8, 9, 10, 11, 51]))
                        (.cond (.t 51)
                          (.seq
                            (.region false [⟨some 4, (.mv (.c (.bool false))), 4, none, 0⟩] (some [4]))
                            .ret)
                          .skip))
                      (.seq
                        (.seq
                          (.region true [⟨some 52, (.load 28 (.t 8)), 28, none, 0⟩, ⟨some 53, (.load 25 (.t 2)), 25, none, 0⟩, ⟨some 54, (.call (.f 19) [(.t 53)]), 28, none, 3⟩, ⟨some 55, (.call (.f 22) [(.t 52), (.t 54)]), 4, none, 3⟩, ⟨some 56, (.un .not (.t 55)), 4, none, 0⟩] (some [1, 2, 6, 7, 8, 9, 10, 11, 56]))
                          (.cond (.t 56)
                            (.seq
                              (.region false [⟨some 4, (.mv (.c (.bool false))), 4, none, 0⟩] (some [4]))
                              .ret)
                            .skip))
                        (.seq
                          (.seq
                            (.region false [⟨some 57, (.mv (.t 9)), 22, none, 0⟩, ⟨some 58, (.mv (.t 1)), 22, none, 0⟩, ⟨some 59, (.call (.f 20) [(.t 58)]), 22, none, 3⟩, ⟨some 60, (.call (.f 23) [(.t 57), (.t 59)]), 4, none, 3⟩, ⟨some 61, (.un .not (.t 60)), 4, none, 0⟩] (some [1, 2, 6, 7, 8, 9, 10, 11, 61]))
                            (.cond (.t 61)
                              (.seq
                                (.region false [⟨some 4, (.mv (.c (.bool false))), 4, none, 0⟩] (some [4]))
                                .ret)
                              .skip))
                          (.seq
                            (.region false [⟨some 12, (.mv (.c (.int .i64 1))), 3, none, 0⟩] (some [1, 2, 6, 7, 8, 9, 10, 11, 12]))
                            (.seq
                              (.region false [⟨some 62, (.load 28 (.t 8)), 28, none, 0⟩, ⟨some 63, (.mv (.t 12)), 3, none, 0⟩, ⟨some 64, (.call (.f 26) [(.t 62), (.t 63)]), 3, none, 16⟩, ⟨some 12, (.mv (.t 64)), 3, none, 0⟩] (some [1, 2, 6, 7, 9, 10, 11, 12]))
                              (.seq
                                (.region false [⟨some 65, (.mv (.t 9)), 22, none, 0⟩, ⟨some 66, (.mv (.t 12)), 3, none, 0⟩, ⟨some 67, (.call (.f 27) [(.t 65), (.t 66)]), 3, none, 16⟩, ⟨some 12, (.mv (.t 67)), 3, none, 0⟩] (some [1, 2, 6, 7, 10, 11, 12]))
                                (.seq
                                  (.seq
                                    (.region false (gops [⟨some 68, (.mv (.t 12)), 3, none, 0⟩, ⟨some 69, (.bin .lss 3 (.t 68) (.c (.int .i64 0))), 4, none, 0⟩, ⟨some 70, (.mv (.t 69)), 4, none, 0⟩, ⟨some 71, (.mv (.t 10)), 22, some (70, false), 0⟩, ⟨some 72, (.mv (.t 6)), 22, some (70, false), 0⟩, ⟨some 73, (.call (.f 23) [(.t 71), (.t 72)]), 4, some (70, false), 3⟩, ⟨some 74, (.un .not (.t 73)), 4, some (70, false), 0⟩, ⟨some 75, (.pick (.t 70) (.c (.bool true)) (.t 74)), 4, none, 0⟩, ⟨some 76, (.mv (.t 75)), 4, none, 0⟩, ⟨some 77, (.mv (.t 11)), 4, some (76, false), 0⟩, ⟨some 78, (.mv (.t 7)), 4, some (76, false), 0⟩, ⟨some 79, (.bin .neq 4 (.t 77) (.t 78)), 4, some (76, false), 0⟩, ⟨some 80, (.pick (.t 76) (.c (.bool true)) (.t 79)), 4, none, 0⟩]) (some [1, 2, 6, 7, 10, 80]))
                                    (.cond (.t 80)
                                      (.seq
                                        (.region false [⟨some 4, (.mv (.c (.bool false))), 4, none, 0⟩] (some [4]))
                                        .ret)
                                      .skip))
                                  (.seq
                                    (.region false [⟨some 13, (.mv (.c (.int .i64 1))), 3, none, 0⟩] (some [1, 2, 6, 7, 10, 13]))
                                    (.seq
                                      (.region false [⟨some 81, (.mv (.t 10)), 22, none, 0⟩, ⟨some 82, (.mv (.t 13)), 3, none, 0⟩, ⟨some 83, (.call (.f 27) [(.t 81), (.t 82)]), 3, none, 16⟩, ⟨some 13, (.mv (.t 83)), 3, none, 0⟩] (some [1, 2, 6, 7, 10, 13]))
                                      (.seq
                                        (.region false [⟨some 14, (.mv (.c (.int .i64 1))), 3, none, 0⟩] (some [1, 2, 6, 7, 10, 13, 14]))
                                        (.seq
                                          (.region false [⟨some 84, (.mv (.t 10)), 22, none, 0⟩, ⟨some 85, (.mv (.t 14)), 3, none, 0⟩, ⟨some 86, (.call (.f 28) [(.t 84), (.t 85)]), 3, none, 3⟩, ⟨some 14, (.mv (.t 86)), 3, none, 0⟩] (some [1, 2, 6, 7, 10, 13, 14]))
                                          (.seq
                                            (.seq
                                              (.region false [⟨some 87, (.mv (.t 14)), 3, none, 0⟩, ⟨some 88, (.bin .lss 3 (.t 87) (.c (.int .i64 0))), 4, none, 0⟩] (some [1, 2, 6, 7, 10, 13, 14, 88]))
                                              (.cond (.t 88)
                                                (.seq
                                                  (.region false [⟨some 4, (.mv (.c (.bool false))), 4, none, 0⟩] (some [4]))
                                                  .ret)
                                                .skip))
                                            (.seq
                                              (.seq
                                                (.region false [⟨some 89, (.mv (.t 14)), 3, none, 0⟩, ⟨some 90, (.mv (.t 13)), 3, none, 0⟩, ⟨some 91, (.bin .neq 3 (.t 89) (.t 90)), 4, none, 0⟩] (some [1, 2, 6, 7, 10, 13, 91]))
                                                (.cond (.t 91)
                                                  (.seq
                                                    (.region false [⟨some 4, (.mv (.c (.bool false))), 4, none, 0⟩] (some [4]))
                                                    .ret)
                                                  .skip))
                                              (.seq
                                                (.region false [⟨some 93, (.load 25 (.t 2)), 25, none, 0⟩, ⟨some 94, (.call (.f 19) [(.t 93)]), 28, none, 3⟩, ⟨some 95, (.mv (.t 1)), 22, none, 0⟩, ⟨some 96, (.call (.f 20) [(.t 95)]), 22, none, 3⟩, ⟨some 97, (.call (.f 59) [(.t 94), (.t 96)]), 54, none, 3⟩, ⟨some 92, (.mv (.t 97)), 54, none, 0⟩, ⟨some 98, (.ext (.t 92) 0), 22, none, 0⟩, ⟨some 99, (.ext (.t 92) 1), 4, none, 0⟩, ⟨some 15, (.mv (.t 98)), 22, none, 0⟩, ⟨some 16, (.mv (.t 99)), 4, none, 0⟩] (some [6, 7, 10, 13, 15, 16]))
                                                (.seq
                                                  (.seq
                                                    (.region false (gops [⟨some 100, (.mv (.t 15)), 22, none, 0⟩, ⟨some 101, (.mv (.t 6)), 22, none, 0⟩, ⟨some 102, (.call (.f 23) [(.t 100), (.t 101)]), 4, none, 3⟩, ⟨some 103, (.un .not (.t 102)), 4, none, 0⟩, ⟨some 104, (.mv (.t 103)), 4, none, 0⟩, ⟨some 105, (.mv (.t 16)), 4, some (104, false), 0⟩, ⟨some 106, (.mv (.t 7)), 4, some (104, false), 0⟩, ⟨some 107, (.bin .neq 4 (.t 105) (.t 106)), 4, some (104, false), 0⟩, ⟨some 108, (.pick (.t 104) (.c (.bool true)) (.t 107)), 4, none, 0⟩]) (some [10, 13, 108]))
                                                    (.cond (.t 108)
                                                      (.seq
                                                        (.region false [⟨some 4, (.mv (.c (.bool false))), 4, none, 0⟩] (some [4]))
                                                        .ret)
                                                      .skip))
                                                  (.seq
                                                    (.region false [⟨some 14, (.mv (.c (.int .i64 1))), 3, none, 0⟩] (some [10, 13, 14]))
                                                    (.seq
                                                      (.region false [⟨some 109, (.mv (.t 10)), 22, none, 0⟩, ⟨some 110, (.mv (.t 14)), 3, none, 0⟩, ⟨some 111, (.call (.f 28) [(.t 109), (.t 110)]), 3, none, 3⟩, ⟨some 14, (.mv (.t 111)), 3, none, 0⟩] (some [13, 14]))
                                                      (.seq
                                                        (.seq
                                                          (.region false [⟨some 112, (.mv (.t 14)), 3, none, 0⟩, ⟨some 113, (.bin .lss 3 (.t 112) (.c (.int .i64 0))), 4, none, 0⟩] (some [13, 14, 113]))
                                                          (.cond (.t 113)
                                                            (.seq
                                                              (.region false [⟨some 4, (.mv (.c (.bool false))), 4, none, 0⟩] (some [4]))
                                                              .ret)
                                                            .skip))
                                                        (.seq
                                                          (.seq
                                                            (.region false [⟨some 114, (.mv (.t 14)), 3, none, 0⟩, ⟨some 115, (.mv (.t 13)), 3, none, 0⟩, ⟨some 116, (.bin .neq 3 (.t 114) (.t 115)), 4, none, 0⟩] (some [116]))
                                                            (.cond (.t 116)
                                                              (.seq
                                                                (.region false [⟨some 4, (.mv (.c (.bool false))), 4, none, 0⟩] (some [4]))
                                                                .ret)
                                                              .skip))
                                                          (.seq
                                                            (.region false [⟨some 4, (.mv (.c (.bool true))), 4, none, 0⟩] (some [4]))
                                                            .ret)))))))))))))))))))))))))))))⟩
theorem fok_16 : FnOk Try.prog 16 fa_16 an_16 := ⟨Try.f16, _, Try.func16, rfl, by kernel_rfl, rfl, rfl, by decide, by kernel_rfl⟩
end Go.PS
end

section
-- Contracts: what refutes a term, what is true.
set_option maxRecDepth 100000
set_option linter.unusedVariables false
set_option linter.unusedSimpArgs false
namespace Go.PS
open Go.Proofs

theorem binK_nil_ints {e sz : Nat} {l : List Int} {K : D → Prop} (h : l ≠ []) : binK (.slice e) .eql (.list sz (ints l)) .nil K = K (.bool false) := by
  cases l with
  | nil => exact absurd rfl h
  | cons a l => exact binK_nil

theorem cloneI_pc (l : List Int) (hl : Big l.length) (hne : l ≠ []) : PC Try.prog 98 [IL l] none true (fun r _ => r = IO1 l) := by
  have hl := hl.le
  refine pcT [] fok_98 ?_
  simp [fa_98, binK_nil_ints hne]
  exact hl
noncomputable def fm_cloneI : Fam Try.prog := mkFam (X := List Int) 98 true (fun l => [IL l]) (fun l => (Big l.length) ∧ (l ≠ [])) (fun l => IO1 l) (by
  rintro l ⟨hl, hne⟩
  exact cloneI_pc l hl hne)
@[simp] theorem fm_cloneI_id : fm_cloneI.id = 98 := rfl
@[simp] theorem fm_cloneI_fresh : fm_cloneI.fresh = true := rfl
@[simp] theorem fm_cloneI_look (l : List Int) (hl : Big l.length) (hne : l ≠ []) : fm_cloneI.look [IL l] = some (IO1 l) :=
  lookF_of (X := List Int) (args := fun l => [IL l]) (pre := fun l => (Big l.length) ∧ (l ≠ [])) (val := fun l => IO1 l) (by
  intro l l' h
  simp at h
  subst h
  rfl) l ⟨hl, hne⟩
attribute [irreducible] fm_cloneI

/-- Is the term's value not the greatest element? -/
def badP (u : List Int) (t : List (List Int)) (p nm : List Int) : Bool := decide ((ev1 u t nm p).1 ≠ (u.length : Int) - 1)
def rfI (u : List Int) (t : List (List Int)) (p : List Int) : Int := firstI (u.length ^ 3) fun j => badP u t p (dig u.length 3 j)
noncomputable def rfM (u : List Int) (t : List (List Int)) (p : List Int) : List Int × Bool := if decide (VA u t) && decide (validT p) then (if 0 ≤ rfI u t p then (dig u.length 3 (rfI u t p).toNat, true) else ([], false)) else ([], false)

theorem dig3_ok {n i : Nat} (hn : 1 ≤ n) (hi : i < n ^ 3) : NmOk (dig n 3 i) n := by
  rw [← gr_asgK hn 3 i hi]
  exact asg3_ok (by simp [gr, List.getElem?_eq_getElem (show i < (asgK n 3).length by rw [asgK_length]; exact hi)])

theorem refuteS_pc (u : List Int) (t : List (List Int)) (p : List Int) (hu : Big u.length) (ht : BigR t) (hp : Big p.length) : PC Try.prog 58 [AL u t, IL p] none false (fun r _ => r = .tup [IL (rfM u t p).1, .bool (rfM u t p).2]) := by
  have hul := hu.le
  refine pcT [fm_validAlgebraS, fm_validTermS, fm_assignments, fm_valueS] fok_58 ?_
  simp [fa_58]
  refine cutW (tabK_mono _) [(15, .bool (!(decide (VA u t) && decide (validT p))))] (by simp [hu, ht, hp]; grind) ?_
  cases hb : (decide (VA u t) && decide (validT p))
  · simp [rfM, hb]
    rfl
  simp only [Bool.and_eq_true, decide_eq_true_eq] at hb
  obtain ⟨a, vp⟩ := hb
  have f := a.tf
  have h6 := f.lat.six
  have h1 := f.lat.pos
  simp [h6, show (u.length : Int) ≤ 6 by omega]
  have h216 : u.length ^ 3 ≤ 216 := Nat.pow_le_pow_left h6 3
  have eM : rfM u t p = if 0 ≤ rfI u t p then (dig u.length 3 (rfI u t p).toNat, true) else ([], false) := by simp [rfM, a, vp]
  have eI : rfI u t p = firstI (u.length ^ 3) fun j => badP u t p (dig u.length 3 j) := rfl
  have hAl : (asgK u.length 3).length = u.length ^ 3 := asgK_length _ _
  have hdg : ∀ i, i < u.length ^ 3 → gr (asgK u.length 3) i = dig u.length 3 i ∧ NmOk (dig u.length 3 i) u.length := fun i hi => ⟨gr_asgK h1 3 i hi, dig3_ok h1 hi⟩
  generalize u.length ^ 3 = N at *
  refine loopA (tabK_mono _) N (fun i => [(7, I64 i)]) (fun _ => []) (fun i => badP u t p (dig u.length 3 i) = false) (by simp) (by simp) (fun i g hi hP => ?_)
  simp [lb_58_5, hAl, wrap_succ hi (by omega)]
  refine ⟨fun h => ⟨h, ?_⟩, fun h => ?_⟩
  · obtain ⟨eg, nm⟩ := hdg i h
    have ho := (ev1_ok f nm _ _ _ (Nat.le_refl _) vp.2).1
    simp [eg, f, nm, hp, vp.some, hAl, h, wrap64 (n := (u.length : Int) - 1) (by omega) (by omega), wrap_succ hi (by omega)]
    refine ⟨fun hb => ?_, fun hb => by simp [badP, hb]⟩
    have hz : badP u t p (dig u.length 3 i) = true := by simp [badP, hb]
    rw [eM, eI, firstI_some h hz hP]
    simp
  · rw [eM, eI, firstI_none (fun j hj => hP j (by omega))]
    simp; rfl
noncomputable def fm_refuteS : Fam Try.prog := mkFam (X := List Int × List (List Int) × List Int) 58 false (fun (u, t, p) => [AL u t, IL p]) (fun (u, t, p) => (Big u.length) ∧ (BigR t) ∧ (Big p.length)) (fun (u, t, p) => .tup [IL (rfM u t p).1, .bool (rfM u t p).2]) (by
  rintro ⟨u, t, p⟩ ⟨hu, ht, hp⟩
  exact refuteS_pc u t p hu ht hp)
@[simp] theorem fm_refuteS_id : fm_refuteS.id = 58 := rfl
@[simp] theorem fm_refuteS_fresh : fm_refuteS.fresh = false := rfl
@[simp] theorem fm_refuteS_look (u : List Int) (t : List (List Int)) (p : List Int) (hu : Big u.length) (ht : BigR t) (hp : Big p.length) : fm_refuteS.look [AL u t, IL p] = some (.tup [IL (rfM u t p).1, .bool (rfM u t p).2]) :=
  lookF_of (X := List Int × List (List Int) × List Int) (args := fun (u, t, p) => [AL u t, IL p]) (pre := fun (u, t, p) => (Big u.length) ∧ (BigR t) ∧ (Big p.length)) (val := fun (u, t, p) => .tup [IL (rfM u t p).1, .bool (rfM u t p).2]) (by
  rintro ⟨u, t, p⟩ ⟨u', t', p'⟩ h
  simp at h
  try simp only [and_assoc] at h
  obtain ⟨rfl, rfl, rfl⟩ := h
  rfl) (u, t, p) ⟨hu, ht, hp⟩
attribute [irreducible] fm_refuteS

def inlR (id : Nat) : Option FnA := if id = 102 then some fa_102 else if id = 94 then some fa_94 else if id = 122 then some fa_122 else none
theorem inlR_ok (id : Nat) (fa : FnA) (h : inlR id = some fa) : ∃ A, FnOk Try.prog id fa A := by
  unfold inlR at h
  split at h
  · rename_i e; subst e; injection h with h; subst h; exact ⟨_, fok_102⟩
  split at h
  · rename_i e; subst e; injection h with h; subst h; exact ⟨_, fok_94⟩
  split at h
  · rename_i e; subst e; injection h with h; subst h; exact ⟨_, fok_122⟩
  · cases h

theorem refuteI_pc (u : List Int) (t : List (List Int)) (p : List Int) (hu : Big u.length) (ht : BigR t) (hp : Big p.length) : PC Try.prog 59 [AL u t, IL p] none true (fun r _ => r = .tup [IO1 (rfM u t p).1, .bool (rfM u t p).2]) := by
  have hul := hu.le
  refine pcI inlR inlR_ok [fm_validAlgebraI, fm_validTermI, fm_repeatI, fm_valueOfI] 3 fok_59 ?_
  simp [fa_59]
  refine cutW (inlT_mono _ _ _ _) [(15, .bool (!(decide (VA u t) && decide (validT p))))] (by simp [callO3T, inlR, hu, ht, hp]; grind) ?_
  cases hb : (decide (VA u t) && decide (validT p))
  · simp [rfM, hb]
    rfl
  simp only [Bool.and_eq_true, decide_eq_true_eq] at hb
  obtain ⟨a, vp⟩ := hb
  have f := a.tf
  have h6 := f.lat.six
  have h1 := f.lat.pos
  have eM : rfM u t p = if 0 ≤ rfI u t p then (dig u.length 3 (rfI u t p).toNat, true) else ([], false) := by simp [rfM, a, vp]
  have eI : rfI u t p = firstI (u.length ^ 3) fun j => badP u t p (dig u.length 3 j) := rfl
  have lr : fm_repeatI.look [D.list 1 [D.int .i64 ((u.length : Int) - 1)], D.int .i64 3] = some (IO1 [(u.length : Int) - 1, (u.length : Int) - 1, (u.length : Int) - 1]) := fm_repeatI_look ((u.length : Int) - 1) 3 (by omega) (by omega)
  simp [lr, callO16 (C := CI inlR) (id := 102) (fa := fa_102) rfl, fa_102, callO3T, inlR, wrap64 (n := (u.length : Int) - 1) (by omega) (by omega), callO16 (C := CI inlR) (id := 94) (fa := fa_94) rfl]
  refine eachList_run (α := Option Nat) (n := u.length) (m := 3) h1 h6 (by omega) (fun x l => match x with
      | none => [⟨8064, 3, .arr 1 (ints l)⟩, ⟨48, 1, .cells [.list 1 []]⟩, ⟨56, 2, .cells [.bool false]⟩]
      | some γ => [⟨12160, γ, .arr 1 (ints (rfM u t p).1)⟩, ⟨8064, 3, .arr 1 (ints l)⟩, ⟨48, 1, .cells [.arr 12160 γ]⟩, ⟨56, 2, .cells [.bool true]⟩])
    (fun i x => match x with
      | none => ∀ j, j < i → badP u t p (dig u.length 3 j) = false
      | some _ => 0 ≤ rfI u t p) none (by simp [KL]) (by rintro (_ | γ) l l' <;> simp) (by rintro (_ | γ) l <;> simp) (by rintro (_ | γ) l <;> simp [KL]) (by simp) (fun i x tt g Q hi hP hQ => ?_) (fun x g hP => ?_)
  · have nm := dig3_ok h1 hi
    have ho := (ev1_ok f nm _ _ _ (Nat.le_refl _) vp.2).1
    cases x with
    | none =>
      simp [callO16 (C := CI inlR) (id := 122) (fa := fa_122) rfl, fa_122]
      refine cutWc (inlT_mono _ _ _ _) [(18, .bool (badP u t p (dig u.length 3 i)))] (by simp [callO3T, callDO3T, inlR, f, nm, hp, vp.some, badP, wrap64 (n := (u.length : Int) - 1) (by omega) (by omega)]) ?_
      cases hbd : badP u t p (dig u.length 3 i)
      · simp
        refine hQ none _ _ _ (fun j hj => ?_) (by simp) (by simp [KL])
        rcases Nat.lt_or_ge j i with h | h
        · exact hP j h
        · obtain rfl : j = i := by omega
          exact hbd
      · have er : rfI u t p = i := by rw [eI]; exact firstI_some hi hbd hP
        have hne : dig u.length 3 i ≠ [] := fun h => by have := dig_length u.length 3 i; rw [h] at this; cases this
        simp
        refine callO1 fm_cloneI (by simp) (by simp) (v := IO1 (dig u.length 3 i)) (by simp; exact fm_cloneI_look _ (by rw [dig_length]; unfold Big; omega) hne) ?_
        simp
        refine hQ (some g) _ _ _ (by show 0 ≤ rfI u t p; omega) (by simp) ?_
        simp [KL, eM, er]
    | some γ =>
      simp [callO16 (C := CI inlR) (id := 122) (fa := fa_122) rfl, fa_122]
      refine cutWc (inlT_mono _ _ _ _) [(18, .bool false)] (by simp) ?_
      simp
      exact hQ (some γ) _ _ _ hP (by simp) (by simp [KL])
  · cases x with
    | none =>
      have er : rfI u t p = -1 := by rw [eI]; exact firstI_none hP
      simp [eM, er]
      try rfl
    | some γ =>
      have h0 : 0 ≤ rfI u t p := hP
      simp [eM, h0]
noncomputable def fm_refuteI : Fam Try.prog := mkFam (X := List Int × List (List Int) × List Int) 59 true (fun (u, t, p) => [AL u t, IL p]) (fun (u, t, p) => (Big u.length) ∧ (BigR t) ∧ (Big p.length)) (fun (u, t, p) => .tup [IO1 (rfM u t p).1, .bool (rfM u t p).2]) (by
  rintro ⟨u, t, p⟩ ⟨hu, ht, hp⟩
  exact refuteI_pc u t p hu ht hp)
@[simp] theorem fm_refuteI_id : fm_refuteI.id = 59 := rfl
@[simp] theorem fm_refuteI_fresh : fm_refuteI.fresh = true := rfl
@[simp] theorem fm_refuteI_look (u : List Int) (t : List (List Int)) (p : List Int) (hu : Big u.length) (ht : BigR t) (hp : Big p.length) : fm_refuteI.look [AL u t, IL p] = some (.tup [IO1 (rfM u t p).1, .bool (rfM u t p).2]) :=
  lookF_of (X := List Int × List (List Int) × List Int) (args := fun (u, t, p) => [AL u t, IL p]) (pre := fun (u, t, p) => (Big u.length) ∧ (BigR t) ∧ (Big p.length)) (val := fun (u, t, p) => .tup [IO1 (rfM u t p).1, .bool (rfM u t p).2]) (by
  rintro ⟨u, t, p⟩ ⟨u', t', p'⟩ h
  simp at h
  try simp only [and_assoc] at h
  obtain ⟨rfl, rfl, rfl⟩ := h
  rfl) (u, t, p) ⟨hu, ht, hp⟩
attribute [irreducible] fm_refuteI

theorem isTrueS_pc (u : List Int) (t : List (List Int)) (p : List Int) (hu : Big u.length) (ht : BigR t) (hp : Big p.length) : PC Try.prog 54 [AL u t, IL p] none true (fun r _ => r = .bool (decide (VA u t) && decide (validT p) && !(rfM u t p).2)) := by
  refine pcT [fm_validAlgebraS, fm_validTermS, fm_refuteS] fok_54 ?_
  simp [fa_54]
  refine cutW (tabK_mono _) [(14, .bool (!(decide (VA u t) && decide (validT p))))] (by simp [hu, ht, hp]; grind) ?_
  cases hb : (decide (VA u t) && decide (validT p))
  · simp
  · simp [hu, ht, hp]
noncomputable def fm_isTrueS : Fam Try.prog := mkFam (X := List Int × List (List Int) × List Int) 54 true (fun (u, t, p) => [AL u t, IL p]) (fun (u, t, p) => (Big u.length) ∧ (BigR t) ∧ (Big p.length)) (fun (u, t, p) => .bool (decide (VA u t) && decide (validT p) && !(rfM u t p).2)) (by
  rintro ⟨u, t, p⟩ ⟨hu, ht, hp⟩
  exact isTrueS_pc u t p hu ht hp)
@[simp] theorem fm_isTrueS_id : fm_isTrueS.id = 54 := rfl
@[simp] theorem fm_isTrueS_fresh : fm_isTrueS.fresh = true := rfl
@[simp] theorem fm_isTrueS_look (u : List Int) (t : List (List Int)) (p : List Int) (hu : Big u.length) (ht : BigR t) (hp : Big p.length) : fm_isTrueS.look [AL u t, IL p] = some (.bool (decide (VA u t) && decide (validT p) && !(rfM u t p).2)) :=
  lookF_of (X := List Int × List (List Int) × List Int) (args := fun (u, t, p) => [AL u t, IL p]) (pre := fun (u, t, p) => (Big u.length) ∧ (BigR t) ∧ (Big p.length)) (val := fun (u, t, p) => .bool (decide (VA u t) && decide (validT p) && !(rfM u t p).2)) (by
  rintro ⟨u, t, p⟩ ⟨u', t', p'⟩ h
  simp at h
  try simp only [and_assoc] at h
  obtain ⟨rfl, rfl, rfl⟩ := h
  rfl) (u, t, p) ⟨hu, ht, hp⟩
attribute [irreducible] fm_isTrueS

theorem isTrueI_pc (u : List Int) (t : List (List Int)) (p : List Int) (hu : Big u.length) (ht : BigR t) (hp : Big p.length) : PC Try.prog 55 [AL u t, IL p] none true (fun r _ => r = .bool (decide (VA u t) && decide (validT p) && !(rfM u t p).2)) := by
  refine pcT [fm_validAlgebraI, fm_validTermI, fm_refuteI] fok_55 ?_
  simp [fa_55, hu, ht, hp]
  refine cutW (tabK_mono _) [(4, .bool (decide (VA u t) && decide (validT p) && !(rfM u t p).2))] (by simp [hu, ht, hp]; grind) ?_
  simp
noncomputable def fm_isTrueI : Fam Try.prog := mkFam (X := List Int × List (List Int) × List Int) 55 true (fun (u, t, p) => [AL u t, IL p]) (fun (u, t, p) => (Big u.length) ∧ (BigR t) ∧ (Big p.length)) (fun (u, t, p) => .bool (decide (VA u t) && decide (validT p) && !(rfM u t p).2)) (by
  rintro ⟨u, t, p⟩ ⟨hu, ht, hp⟩
  exact isTrueI_pc u t p hu ht hp)
@[simp] theorem fm_isTrueI_id : fm_isTrueI.id = 55 := rfl
@[simp] theorem fm_isTrueI_fresh : fm_isTrueI.fresh = true := rfl
@[simp] theorem fm_isTrueI_look (u : List Int) (t : List (List Int)) (p : List Int) (hu : Big u.length) (ht : BigR t) (hp : Big p.length) : fm_isTrueI.look [AL u t, IL p] = some (.bool (decide (VA u t) && decide (validT p) && !(rfM u t p).2)) :=
  lookF_of (X := List Int × List (List Int) × List Int) (args := fun (u, t, p) => [AL u t, IL p]) (pre := fun (u, t, p) => (Big u.length) ∧ (BigR t) ∧ (Big p.length)) (val := fun (u, t, p) => .bool (decide (VA u t) && decide (validT p) && !(rfM u t p).2)) (by
  rintro ⟨u, t, p⟩ ⟨u', t', p'⟩ h
  simp at h
  try simp only [and_assoc] at h
  obtain ⟨rfl, rfl, rfl⟩ := h
  rfl) (u, t, p) ⟨hu, ht, hp⟩
attribute [irreducible] fm_isTrueI
end Go.PS
end

section
-- Contracts: the laws' marks, run in place; what is held.
set_option maxRecDepth 100000
set_option linter.unusedVariables false
set_option linter.unusedSimpArgs false
namespace Go.PS
open Go.Proofs

/-- The marks from a number on. -/
def mk (k : Int) (n : Nat) : List Int := (List.range n).map fun (i : Nat) => k + i
@[simp] theorem mk_length {k : Int} {n : Nat} : (mk k n).length = n := by simp [mk]
theorem gi_mk {k : Int} {n i : Nat} (h : i < n) : gi (mk k n) i = k + i := by simp [gi, mk, h]
/-- The first marked, the others as they were. -/
def mkL (k : Int) (a : List Int) (i : Nat) : List Int := mk k i ++ a.drop i
theorem mkL_zero {k : Int} {a : List Int} : mkL k a 0 = a := by simp [mkL, mk]
theorem mkL_length {k : Int} {a : List Int} {i : Nat} (h : i ≤ a.length) : (mkL k a i).length = a.length := by simp [mkL]; omega
theorem mkL_all {k : Int} {a : List Int} : mkL k a a.length = mk k a.length := by simp [mkL]
theorem mkL_set {k : Int} {a : List Int} {i : Nat} (h : i < a.length) : (mkL k a i).set i (k + i) = mkL k a (i + 1) := by
  unfold mkL
  rw [List.set_append_right _ _ (by simp), mk_length, Nat.sub_self, List.drop_eq_getElem_cons h, List.set_cons_zero]
  unfold mk
  rw [List.range_succ, List.map_append]
  simp

/-- The run of 'markIntS' on a list of the run's own. -/
theorem markI_run {f : Nat → Option FnA} {T : List (Fam Try.prog)} {dep kb : Nat} {K : D → List Ent → Nat → Prop} {h : List Ent} {j γ : Nat} {a : List Int} {k : Int} {g : Nat} (ha : Big a.length) (hk0 : 0 ≤ k) (hk1 : k + a.length ≤ 4611686018427387904)
    (hf : find h j γ = some (.arr 1 (ints a))) (hK : ∀ g, K (I64 (k + a.length)) (hset h j γ (.arr 1 (ints (mk k a.length)))) g) :
    run (CI f) kb (inlT (CI f) T dep kb) fa_27.ac (inlQ (CI f).tt fa_27.res K) ⟨args0 0 [.arr j γ, I64 k], h, g⟩ := by
  have ha := ha.le
  simp [fa_27]
  refine loopA (inlT_mono _ _ _ _) a.length (fun i => [(1, I64 (k + i)), (5, I64 i)]) (fun i => hset h j γ (.arr 1 (ints (mkL k a i)))) (fun _ => True) (by simp) (by simp [mkL_zero, hset_same hf]) (fun i g2 hi _ => ?_)
  have hf2 := find_hset (b' := .arr 1 (ints (mkL k a i))) hf
  simp [lb_27_2, hf2, mkL_length hi, wrap_succ hi ha, hset_hset]
  refine ⟨fun h2 => ?_, fun h2 => ?_⟩
  · simp [h2, mkL_set h2, wrap64 (n := k + (i : Int) + 1) (by omega) (by omega)]
    omega
  · obtain rfl : i = a.length := by omega
    rw [mkL_all]
    exact hK g2

theorem orowsD_gete {r : List (List Int)} {x : Nat} (h' : x < (orowsD r).length) : (orowsD r)[x] = IO1 (gr r x) := by
  have h : x < r.length := by simpa using h'
  have := orowsD_get h
  rw [List.getElem?_eq_getElem h'] at this
  injection this
theorem rows_get {r : List (List Int)} {x : Nat} (h : x < r.length) : (orowsD r)[x]?.getD .junk = IO1 (gr r x) := by rw [orowsD_get h]; rfl
/-- The run of 'markIntS' on a row of a list of the run's own. -/
theorem markR_run {f : Nat → Option FnA} {T : List (Fam Try.prog)} {dep kb : Nat} {K : D → List Ent → Nat → Prop} {h : List Ent} {j γ x : Nat} {r : List (List Int)} {k : Int} {g : Nat} (hx : x < r.length) (ha : Big (gr r x).length) (hk0 : 0 ≤ k) (hk1 : k + (gr r x).length ≤ 4611686018427387904)
    (hf : find h j γ = some (.arr 1 (orowsD r))) (hK : ∀ g, K (I64 (k + (gr r x).length)) (hset h j γ (.arr 1 (orowsD (r.set x (mk k (gr r x).length))))) g) :
    run (CI f) kb (inlT (CI f) T dep kb) fa_27.ac (inlQ (CI f).tt fa_27.res K) ⟨args0 0 [.row j γ x, I64 k], h, g⟩ := by
  have ha := ha.le
  have e0 : r.set x (gr r x) = r := by
    apply List.ext_getElem? 
    intro i
    rw [List.getElem?_set]
    by_cases hi : x = i
    · subst hi; simp [gr, hx]
    · rw [if_neg hi]
  simp [fa_27]
  have hgr : ∀ l, gr (r.set x l) x = l := fun l => by simp [gr, hx]
  refine loopA (inlT_mono _ _ _ _) (gr r x).length (fun i => [(1, I64 (k + i)), (5, I64 i)]) (fun i => hset h j γ (.arr 1 (orowsD (r.set x (mkL k (gr r x) i))))) (fun _ => True) (by simp) (by simp [mkL_zero, e0, hset_same hf]) (fun i g2 hi _ => ?_)
  have hf2 := find_hset (b' := .arr 1 (orowsD (r.set x (mkL k (gr r x) i)))) hf
  have hx2 : x < (r.set x (mkL k (gr r x) i)).length := by simpa using hx
  have hrow : rowAt (hset h j γ (.arr 1 (orowsD (r.set x (mkL k (gr r x) i))))) j γ x = some (1, ints (mkL k (gr r x) i)) := by rw [rowAt_of hf2, rowB_orows hx2, hgr]
  have hrb : rowB (.arr 1 (orowsD (r.set x (mkL k (gr r x) i)))) x = some (1, ints (mkL k (gr r x) i)) := by rw [rowB_orows hx2, hgr]
  simp [lb_27_2, hf2, hrow, hrb, mkL_length hi, wrap_succ hi ha, hset_hset]
  refine ⟨fun h2 => ?_, fun h2 => ?_⟩
  · simp [h2, mkL_set h2, wrap64 (n := k + (i : Int) + 1) (by omega) (by omega)]
    omega
  · obtain rfl : i = (gr r x).length := by omega
    rw [mkL_all]
    exact hK g2

/-- How many numbers. -/
def tot (r : List (List Int)) : Nat := (r.map List.length).sum
def mkK (k : Int) (r : List (List Int)) (i : Nat) : Int := k + (tot (r.take i) : Nat)
def mkR (k : Int) (r : List (List Int)) : Nat → List (List Int)
  | 0 => r
  | i + 1 => (mkR k r i).set i (mk (mkK k r i) (gr r i).length)
theorem mkR_length {k : Int} {r : List (List Int)} : ∀ i, (mkR k r i).length = r.length
  | 0 => rfl
  | i + 1 => by simp [mkR, mkR_length i]
theorem mkR_gr {k : Int} {r : List (List Int)} {x : Nat} : ∀ i, i ≤ x → gr (mkR k r i) x = gr r x
  | 0, _ => rfl
  | i + 1, h => by
    have ih := mkR_gr (k := k) (r := r) (x := x) i (by omega)
    unfold gr at ih ⊢
    simp only [mkR]
    rw [List.getElem?_set, if_neg (by omega), ih]
theorem tot_take_succ {r : List (List Int)} {i : Nat} (h : i < r.length) : tot (r.take (i + 1)) = tot (r.take i) + (gr r i).length := by
  unfold tot
  rw [List.take_succ_eq_append_getElem h, List.map_append, List.sum_append]
  simp [gr, List.getElem?_eq_getElem h]
theorem mkK_succ {k : Int} {r : List (List Int)} {i : Nat} (h : i < r.length) : mkK k r (i + 1) = mkK k r i + (gr r i).length := by
  unfold mkK; rw [tot_take_succ h]; omega
theorem tot_take_le {r : List (List Int)} {i : Nat} : tot (r.take i) ≤ tot r := by
  unfold tot
  conv => rhs; rw [← List.take_append_drop i r]
  rw [List.map_append, List.sum_append]; omega
theorem mkK_le {k : Int} {r : List (List Int)} {i : Nat} (h : i < r.length) : k ≤ mkK k r i ∧ mkK k r i + (gr r i).length ≤ k + tot r := by
  have h1 := mkK_succ (k := k) h
  have h2 := tot_take_le (r := r) (i := i + 1)
  unfold mkK at *
  omega

theorem markSS_run {f : Nat → Option FnA} (hI : f 27 = some fa_27) {T : List (Fam Try.prog)} {dep kb : Nat} {K : D → List Ent → Nat → Prop} {h : List Ent} {j γ : Nat} {r : List (List Int)} {k : Int} {g : Nat} (hr : BigR r) (hk0 : 0 ≤ k) (hk1 : k + tot r ≤ 4611686018427387904)
    (hf : find h j γ = some (.arr 1 (orowsD r))) (hK : ∀ g, K (I64 (k + tot r)) (hset h j γ (.arr 1 (orowsD (mkR k r r.length)))) g) :
    run (CI f) kb (inlT (CI f) T (dep + 1) kb) fa_42.ac (inlQ (CI f).tt fa_42.res K) ⟨args0 0 [.arr j γ, I64 k], h, g⟩ := by
  have ha := hr.1.le
  simp [fa_42]
  refine loopA (inlT_mono _ _ _ _) r.length (fun i => [(1, I64 (mkK k r i)), (5, I64 i)]) (fun i => hset h j γ (.arr 1 (orowsD (mkR k r i)))) (fun _ => True) (by simp [mkK, tot]) (by simp [mkR, hset_same hf]) (fun i g2 hi _ => ?_)
  have hf2 := find_hset (b' := .arr 1 (orowsD (mkR k r i))) hf
  simp [lb_42_2, hf2, mkR_length, wrap_succ hi ha]
  refine ⟨fun h2 => ?_, fun h2 => ?_⟩
  · have hx : i < (mkR k r i).length := by rw [mkR_length]; exact h2
    have hg := mkR_gr (k := k) (r := r) i (Nat.le_refl i)
    obtain ⟨q1, q2⟩ := mkK_le (k := k) h2
    simp [h2, mkR_length, orowsD_gete, callO16 (C := CI f) (id := 27) (fa := fa_27) hI]
    refine markR_run hx (by rw [hg]; exact hr.row h2) (by omega) (by rw [hg]; omega) hf2 (fun g3 => ?_)
    rw [hg]
    simp [wrap_succ hi ha, hset_hset]
    exact ⟨h2, (mkK_succ h2).symm, rfl⟩
  · obtain rfl : i = r.length := by omega
    have := hK g2
    simpa [mkK] using this

theorem markA_run {f : Nat → Option FnA} (hI : f 27 = some fa_27) (hII : f 42 = some fa_42) {T : List (Fam Try.prog)} {dep kb : Nat} {K : D → List Ent → Nat → Prop} {h : List Ent} {j γ j2 γ2 : Nat} {u : List Int} {r : List (List Int)} {k : Int} {g : Nat} (hu : Big u.length) (hr : BigR r) (hk0 : 0 ≤ k) (hk1 : k + u.length + tot r ≤ 4611686018427387904)
    (hj : j ≠ kb + 16) (hj2 : j2 ≠ kb + 16) (hjj : j ≠ j2) (hf : find h j γ = some (.arr 1 (ints u))) (hf2 : find h j2 γ2 = some (.arr 1 (orowsD r)))
    (hK : ∀ g', K (I64 (k + u.length + tot r)) (⟨kb + 16, g, .cells [.arr j γ, .arr j2 γ2]⟩ :: hset (hset (hdel h (kb + 16)) j γ (.arr 1 (ints (mk k u.length)))) j2 γ2 (.arr 1 (orowsD (mkR (k + u.length) r r.length)))) g') :
    run (CI f) kb (inlT (CI f) T (dep + 2) kb) fa_26.ac (inlQ (CI f).tt fa_26.res K) ⟨args0 0 [.agg [.arr j γ, .arr j2 γ2], I64 k], h, g⟩ := by
  have ha := hu.le
  have e1 : find (hdel h (kb + 16)) j γ = some (.arr 1 (ints u)) := by rw [find_hdel_ne hj]; exact hf
  have e2 : find (hdel h (kb + 16)) j2 γ2 = some (.arr 1 (orowsD r)) := by rw [find_hdel_ne hj2]; exact hf2
  have e3 : find (hset (hdel h (kb + 16)) j γ (.arr 1 (ints (mk k u.length)))) j2 γ2 = some (.arr 1 (orowsD r)) := by rw [find_hset_other (Ne.symm hjj)]; exact e2
  simp [fa_26, callO16 (C := CI f) (id := 27) (fa := fa_27) hI]
  refine markI_run hu hk0 (by omega) (by simp [find, Ne.symm hj, e1]) (fun g2 => ?_)
  simp [hset, Ne.symm hj, callO16 (C := CI f) (id := 42) (fa := fa_42) hII]
  refine markSS_run hI hr (by omega) (by omega) (by simp [find, Ne.symm hj2, e3]) (fun g3 => ?_)
  simp [hset, Ne.symm hj2]
  exact hK g3

/-- What is held of marks. -/
def hdI (a : List Int) (k : Int) : Int := if a = mk k a.length then k + a.length else -1
theorem heldIntS_pc (a : List Int) (k : Int) (ha : Big a.length) (hk0 : 0 ≤ k) (hk1 : k ≤ 4611686018427387904) : PC Try.prog 28 [IL a, I64 k] none true (fun r _ => r = I64 (hdI a k)) := by
  have ha' := ha.le
  refine pcT [] fok_28 ?_
  simp [fa_28]
  refine loopA (tabK_mono _) a.length (fun i => [(1, I64 (k + i)), (5, I64 i)]) (fun _ => []) (fun j => gi a j = k + j) (by simp) (by simp) (fun i g hi hP => ?_)
  simp [lb_28_2, wrap_succ hi ha']
  refine ⟨fun h => ⟨h, ?_⟩, fun h => ?_⟩
  · refine ⟨fun h2 => ?_, fun h2 => ?_⟩
    · have : a ≠ mk k a.length := fun e => by
        have e2 : gi a i = gi (mk k a.length) i := by rw [← e]
        rw [gi_mk h] at e2
        exact h2 e2
      simp [hdI, this]
    · simp [wrap64 (n := k + (i : Int) + 1) (by omega) (by omega), wrap_succ hi ha', h, h2]
      omega
  · obtain rfl : i = a.length := by omega
    have : a = mk k a.length := gi_ext (by simp) (fun j hj => by rw [gi_mk hj]; exact hP j hj)
    unfold hdI
    rw [if_pos this]
noncomputable def fm_heldIntS : Fam Try.prog := mkFam (X := List Int × Int) 28 true (fun (a, k) => [IL a, I64 k]) (fun (a, k) => (Big a.length) ∧ (0 ≤ k) ∧ (k ≤ 4611686018427387904)) (fun (a, k) => I64 (hdI a k)) (by
  rintro ⟨a, k⟩ ⟨ha, hk0, hk1⟩
  exact heldIntS_pc a k ha hk0 hk1)
@[simp] theorem fm_heldIntS_id : fm_heldIntS.id = 28 := rfl
@[simp] theorem fm_heldIntS_fresh : fm_heldIntS.fresh = true := rfl
@[simp] theorem fm_heldIntS_look (a : List Int) (k : Int) (ha : Big a.length) (hk0 : 0 ≤ k) (hk1 : k ≤ 4611686018427387904) : fm_heldIntS.look [IL a, I64 k] = some (I64 (hdI a k)) :=
  lookF_of (X := List Int × Int) (args := fun (a, k) => [IL a, I64 k]) (pre := fun (a, k) => (Big a.length) ∧ (0 ≤ k) ∧ (k ≤ 4611686018427387904)) (val := fun (a, k) => I64 (hdI a k)) (by
  rintro ⟨a, k⟩ ⟨a', k'⟩ h
  simp at h
  try simp only [and_assoc] at h
  obtain ⟨rfl, rfl⟩ := h
  rfl) (a, k) ⟨ha, hk0, hk1⟩
attribute [irreducible] fm_heldIntS
end Go.PS
end

section
-- The law of what refutes a term.
set_option maxRecDepth 100000
set_option linter.unusedVariables false
set_option linter.unusedSimpArgs false
namespace Go.PS
open Go.Proofs

theorem szI_eq {a : List Int} {n : Int} (h : 0 ≤ szI a n) : szI a n = n - a.length ∧ (a.length : Int) ≤ n := by
  unfold szI at h ⊢
  split
  · rename_i h2; rw [if_pos h2] at h; omega
  · omega
theorem szR_tot : ∀ (a : List (List Int)) (n : Int), 0 ≤ szR a n → (tot a : Int) ≤ n
  | [], n, h => by simpa [szR, tot] using h
  | x :: a, n, h => by
    simp only [szR] at h
    split at h
    · omega
    · rename_i hx
      obtain ⟨h1, h2⟩ := szI_eq (Int.not_lt.1 hx)
      have h3 := szR_tot a _ h
      have : tot (x :: a) = x.length + tot a := by simp [tot]
      omega
theorem sz_tot {u : List Int} {t : List (List Int)} (h : 0 ≤ szA u t 1048576) : u.length + t.length + tot t ≤ 1048576 := by
  unfold szA at h
  split at h
  · omega
  · rename_i h1
    obtain ⟨h2, h3⟩ := szI_eq (Int.not_lt.1 h1)
    unfold szII at h
    split at h
    · omega
    · have := szR_tot _ _ h
      omega

def inlM (id : Nat) : Option FnA := if id = 27 then some fa_27 else if id = 42 then some fa_42 else if id = 26 then some fa_26 else none
theorem inlM_ok (id : Nat) (fa : FnA) (h : inlM id = some fa) : ∃ A, FnOk Try.prog id fa A := by
  unfold inlM at h
  split at h
  · rename_i e; subst e; injection h with h; subst h; exact ⟨_, fok_27⟩
  split at h
  · rename_i e; subst e; injection h with h; subst h; exact ⟨_, fok_42⟩
  split at h
  · rename_i e; subst e; injection h with h; subst h; exact ⟨_, fok_26⟩
  · cases h

theorem rfM_big {u : List Int} {t : List (List Int)} {p : List Int} : (rfM u t p).1.length ≤ 3 := by
  unfold rfM
  split
  · split
    · rw [dig_length]; exact Nat.le_refl _
    · simp
  · simp

theorem FnExactRefuteTerm_pc (u : List Int) (t : List (List Int)) (l : List Int) (hu : Hu u.length) (ht : HuR t) (hl : Hu l.length) : PC Try.prog 16 [AL u t, IL l] none true (fun r _ => r = .bool true) := by
  refine pcI inlM inlM_ok [fm_szAlgebra, fm_toAlgebra, fm_toIntS, fm_refuteS, fm_refuteI, fm_eqAlgebra, fm_eqIntS, fm_heldIntS] 3 fok_16 ?_
  simp [fa_16, callO3T, inlM, hu, ht]
  intro h1 h3
  have hl : Big l.length := by unfold Big; omega
  have hb := sz_ok h3
  have hs := sz_tot h3
  have hrl : Big (rfM u t l).1.length := by have := rfM_big (u := u) (t := t) (p := l); unfold Big; omega
  simp [hb.1, hb.2, hl]
  refine callO1 fm_toAlgebra (by simp) (by simp) (v := .agg [IO1 u, RO t]) (by simp [hb.1, hb.2]) ?_
  simp
  refine callO1 fm_toIntS (by simp) (by simp) (v := IO1 l) (by simp [hl]) ?_
  simp
  refine callO1 fm_refuteI (by simp) (by simp) (v := .tup [IO1 (rfM u t l).1, .bool (rfM u t l).2]) (by simp [hb.1, hb.2, hl]) ?_
  simp [callO3T, inlM, hrl]
  refine cutW (inlT_mono _ _ _ _) [(51, .bool false)] (by simp [callO3T, inlM, hrl]) ?_
  simp [callO3T, callDO3T, inlM, hb.1, hb.2, hl, callO16 (C := CI inlM) (id := 26) (fa := fa_26) rfl, callO16 (C := CI inlM) (id := 27) (fa := fa_27) rfl]
  refine markA_run rfl rfl hb.1 hb.2 (by omega) (by omega) (by omega) (by omega) (by omega) (by simp) (by simp) (fun g1 => ?_)
  simp [callO16 (C := CI inlM) (id := 27) (fa := fa_27) rfl]
  refine markI_run hl (by omega) (by omega) (by simp) (fun g2 => ?_)
  simp
  refine cutW (inlT_mono _ _ _ _) [(80, .bool false)] (by
    simp [callO3T, inlM, hrl]
    omega) ?_
  simp [callO16 (C := CI inlM) (id := 27) (fa := fa_27) rfl]
  refine markI_run hrl (by omega) (by have := hrl.le; omega) (by simp) (fun g3 => ?_)
  have hh : hdI (mk 1 (rfM u t l).1.length) 1 = 1 + (rfM u t l).1.length := by simp [hdI]
  simp [callO3T, inlM, hrl, hh, hb.1, hb.2, hl, show ¬ (1 + ((rfM u t l).1.length : Int) < 0) by omega]
  refine cutW (inlT_mono _ _ _ _) [(108, .bool false)] (by simp [callO3T, inlM, hrl]) ?_
  simp [callO3T, inlM, hrl, hh, show ¬ (1 + ((rfM u t l).1.length : Int) < 0) by omega]
end Go.PS
end
