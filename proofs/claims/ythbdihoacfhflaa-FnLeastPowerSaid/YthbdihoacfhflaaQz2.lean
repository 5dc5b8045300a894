/- Part 2 of what the last text proves: Least powers: the law holds at every input. -/
import Derived.Test.YthbdihoacfhflaaQz1
import Derived.WalkKit
import Derived.ProofKit
import Derived.Shelf.RegionOpenPlain
import Derived.Deep.LoopGhost
import Derived.Lib.Walk
import Derived.Lib.SliceRun
import Derived.Laws.CopyOwn
import Derived.Laws.MakeOwn
import Derived.LoopN
import Derived.Shelf.Spec.SlicesInsert
section
-- PRINTED by rep.py: slices.Repeat of a row of one number, up to six times.
set_option linter.unusedVariables false
set_option linter.unusedSimpArgs false
open Go Go.Proofs Go.RowKit Go.Lib
namespace Go.PS
theorem made1 (z : Value) (n : Nat) (hz : z.cells = #[z]) : madeCells z.cells n = (List.replicate n z).toArray := by
  apply Array.ext
  · simp [madeCells]
  · intro i h1 h2
    simp [madeCells, hz, Nat.mod_one]

theorem copyEq (W : World) {g o dLen dCap sLen sCap : Nat} {a : Addr} {L cs : List Value} (hg : W.heap[g]? = some (.cells L.toArray 3 (0, 0))) (hn : cs.length = Nat.min sLen dLen)
    (hsrc : ∀ j v, cs[j]? = some v → W.cell? (a.add j) = some v) (hfit : o + cs.length ≤ L.length) (h1 : ∀ v ∈ cs, v.oneCell' = true) :
    ∃ W', (Builtin.copy_ #[23, 23] 3 #[.slice (some ⟨g, o, none⟩) dLen dCap, .slice (some a) sLen sCap]).run Try.prog W = .ok (goInt cs.length) W' ∧
      W'.heap[g]? = some (.cells (L.take o ++ cs ++ L.drop (o + cs.length)).toArray 3 (0, 0)) ∧ Below g W W' := by
  have h := run_copy_row (P := Try.prog) W 23 23 3 3 g o dLen dCap a sLen sCap L.toArray 3 cs Try.underlying23 (by kernel_rfl) hg hn hsrc (by simpa using hfit) h1
  exact ⟨_, h, setRow_heap W g _ _ 3 _ hg, below_setRow (Below.refl _ _) (Nat.le_refl _) _⟩

theorem cell_at {W : World} {g k : Nat} {L : List Value} {u : Value} (hg : W.heap[g]? = some (.cells L.toArray 3 (0, 0))) (hu : L[k]? = some u) : W.cell? ⟨g, k, none⟩ = some u := by
  simp [World.cell?, hg, hu]

theorem src_one {W : World} {a : Addr} {u : Value} (h : W.cell? a = some u) : ∀ j v, [u][j]? = some v → W.cell? (a.add j) = some v := by
  intro j v hj
  have hj0 : j = 0 := by have := (List.getElem?_eq_some_iff.1 hj).1; simpa using this
  subst hj0
  have hu : v = u := by simpa using hj.symm
  subst hu
  simpa [Addr.add] using h

theorem src_row {W : World} {g : Nat} {cs rest : List Value} (hg : W.heap[g]? = some (.cells (cs ++ rest).toArray 3 (0, 0))) : ∀ j v, cs[j]? = some v → W.cell? ((⟨g, 0, none⟩ : Addr).add j) = some v := by
  intro j v hj
  rw [Go.WideShapes.add_plain, Nat.zero_add]
  exact cell_at hg (by rw [List.getElem?_append_left (List.getElem?_eq_some_iff.1 hj).1]; exact hj)
set_option maxRecDepth 100000

set_option maxHeartbeats 1000000 in
theorem mul1_0 (w : World) : Calls Try.prog 201 #[.int .u64 1, .int .u64 0] w fun e w' => e = .returned (.tuple #[.int .u64 0, .int .u64 0]) ∧ w = w' := by
  have e1 : bits BinOp.and IntKind.u64 1 4294967295 = 1 := by decide
  have e2 : bits BinOp.and IntKind.u64 0 4294967295 = 0 := by decide
  have e3 : bits BinOp.and IntKind.u64 0 4294967295 = 0 := by decide
  have e4 : IntKind.u64.wrap 0 = 0 := by decide
  have e5 : IntKind.u64.wrap 0 = 0 := by decide
  have e6 : (0 : Int) / 4294967296 = 0 := by decide
  have e7 : IntKind.u64.wrap 1 = 1 := by decide
  have e8 : (0 : Int) / 4294967296 = 0 := by decide
  go_enter Try.func201, Try.ntmps201
  go_wp2
  go_ret2
  exact ⟨rfl, rfl⟩

set_option maxHeartbeats 2000000 in
theorem rep_0 (v : Int) (b o cap : Nat) (w : World) (hc : w.cell? ⟨b, o, none⟩ = some (.int .i64 v)) (hbl : b < w.heap.size) :
    Calls Try.prog 184 #[.slice (some ⟨b, o, none⟩) 1 cap, .int .i64 0] w fun e w' => e = .returned (.slice (some ⟨w.heap.size, 0, none⟩) 0 0) ∧ w'.heap[w.heap.size]? = some (.cells (List.replicate 0 (Value.int .i64 v)).toArray 3 (0, 0)) ∧ Below w.heap.size w w' := by
  have e4 : IntKind.u64.wrap 0 = 0 := by decide
  obtain ⟨i, hi⟩ : ∃ i, Try.prog.info? 3 = some i := Option.isSome_iff_exists.1 (by kernel_rfl)
  have hz : i.zero = some (.int .i64 0) := by
    have h : (Try.prog.info? 3).bind (·.zero) = some (.int .i64 0) := by kernel_rfl
    rw [hi] at h; simpa using h
  have hsz : i.size = 1 := by
    have h : (Try.prog.info? 3).map (·.size) = some 1 := by kernel_rfl
    rw [hi] at h; simpa using h
  have hby : i.bytes = 8 := by
    have h : (Try.prog.info? 3).map (·.bytes) = some 8 := by kernel_rfl
    rw [hi] at h; simpa using h
  obtain ⟨W1, hmk, g1, b1⟩ : ∃ W1, (Instr.makeSlice 23 (.int .i64 0) (.int .i64 0)).run Try.prog w = .ok (.slice (some ⟨w.heap.size, 0, none⟩) 0 0) W1 ∧ W1.heap[w.heap.size]? = some (.cells (List.replicate 0 (Value.int .i64 0)).toArray 3 (0, 0)) ∧ Below w.heap.size w W1 := by
    refine ⟨w.alloc (.cells (List.replicate 0 (Value.int .i64 0)).toArray 3), ?_, ?_, (Below.refl _ _).alloc (Nat.le_refl _) _⟩
    · rw [run_make (P := Try.prog) w 23 3 i _ Try.underlying23 hi hz .i64 .i64 0 0 (by decide) (by decide) (by rw [hby]; decide) (by decide), hsz, made1 _ _ rfl]
      rfl
    · unfold World.alloc; exact Array.getElem?_push_size
  clear hi hz hsz hby i
  have hc1 : W1.cell? ⟨b, o, none⟩ = some (.int .i64 v) := by rw [← hc]; unfold World.cell?; rw [b1.block b hbl]
  generalize w.heap.size = g at *
  obtain ⟨W2, c1, g2, b2⟩ := copyEq W1 (o := 0) (dLen := 0) (dCap := 0) (sLen := 1) (sCap := cap) (a := ⟨b, o, none⟩) (cs := []) g1 rfl (fun j v h => by simp at h) (by simp) (by simp)
  have g2 : W2.heap[g]? = some (.cells ([] : List Value).toArray 3 (0, 0)) := g2
  simp only [List.length_nil, List.length_cons, Nat.zero_add, Nat.reduceAdd] at c1
  have G : Aside (W2.heap[g]? = some (.cells (List.replicate 0 (Value.int .i64 v)).toArray 3 (0, 0)) ∧ Below g w W2) := ⟨g2, b1.trans b2⟩
  clear g1 g2 b1 b2 hc hc1 hbl
  have mixed := Try.checked.mixed
  go_enter Try.func184, Try.ntmps184
  go_wp2_with (go_at_call 201; refine (mul1_0 _).mono ?_; rintro e w' ⟨rfl, rfl⟩)
  refine wp_loop_rounds 2 ?_
  simp only [rounds_succ]
  go_wp2
  go_ret
  exact ⟨rfl, G.out⟩

set_option maxHeartbeats 1000000 in
theorem mul1_1 (w : World) : Calls Try.prog 201 #[.int .u64 1, .int .u64 1] w fun e w' => e = .returned (.tuple #[.int .u64 0, .int .u64 1]) ∧ w = w' := by
  have e1 : bits BinOp.and IntKind.u64 1 4294967295 = 1 := by decide
  have e2 : bits BinOp.and IntKind.u64 1 4294967295 = 1 := by decide
  have e3 : bits BinOp.and IntKind.u64 0 4294967295 = 0 := by decide
  have e4 : IntKind.u64.wrap 1 = 1 := by decide
  have e5 : IntKind.u64.wrap 0 = 0 := by decide
  have e6 : (1 : Int) / 4294967296 = 0 := by decide
  have e7 : IntKind.u64.wrap 1 = 1 := by decide
  have e8 : (0 : Int) / 4294967296 = 0 := by decide
  go_enter Try.func201, Try.ntmps201
  go_wp2
  go_ret2
  exact ⟨rfl, rfl⟩

set_option maxHeartbeats 2000000 in
theorem rep_1 (v : Int) (b o cap : Nat) (w : World) (hc : w.cell? ⟨b, o, none⟩ = some (.int .i64 v)) (hbl : b < w.heap.size) :
    Calls Try.prog 184 #[.slice (some ⟨b, o, none⟩) 1 cap, .int .i64 1] w fun e w' => e = .returned (.slice (some ⟨w.heap.size, 0, none⟩) 1 1) ∧ w'.heap[w.heap.size]? = some (.cells (List.replicate 1 (Value.int .i64 v)).toArray 3 (0, 0)) ∧ Below w.heap.size w w' := by
  have e4 : IntKind.u64.wrap 1 = 1 := by decide
  obtain ⟨i, hi⟩ : ∃ i, Try.prog.info? 3 = some i := Option.isSome_iff_exists.1 (by kernel_rfl)
  have hz : i.zero = some (.int .i64 0) := by
    have h : (Try.prog.info? 3).bind (·.zero) = some (.int .i64 0) := by kernel_rfl
    rw [hi] at h; simpa using h
  have hsz : i.size = 1 := by
    have h : (Try.prog.info? 3).map (·.size) = some 1 := by kernel_rfl
    rw [hi] at h; simpa using h
  have hby : i.bytes = 8 := by
    have h : (Try.prog.info? 3).map (·.bytes) = some 8 := by kernel_rfl
    rw [hi] at h; simpa using h
  obtain ⟨W1, hmk, g1, b1⟩ : ∃ W1, (Instr.makeSlice 23 (.int .i64 1) (.int .i64 1)).run Try.prog w = .ok (.slice (some ⟨w.heap.size, 0, none⟩) 1 1) W1 ∧ W1.heap[w.heap.size]? = some (.cells (List.replicate 1 (Value.int .i64 0)).toArray 3 (0, 0)) ∧ Below w.heap.size w W1 := by
    refine ⟨w.alloc (.cells (List.replicate 1 (Value.int .i64 0)).toArray 3), ?_, ?_, (Below.refl _ _).alloc (Nat.le_refl _) _⟩
    · rw [run_make (P := Try.prog) w 23 3 i _ Try.underlying23 hi hz .i64 .i64 1 1 (by decide) (by decide) (by rw [hby]; decide) (by decide), hsz, made1 _ _ rfl]
      rfl
    · unfold World.alloc; exact Array.getElem?_push_size
  clear hi hz hsz hby i
  have hc1 : W1.cell? ⟨b, o, none⟩ = some (.int .i64 v) := by rw [← hc]; unfold World.cell?; rw [b1.block b hbl]
  generalize w.heap.size = g at *
  obtain ⟨W2, c1, g2, b2⟩ := copyEq W1 (o := 0) (dLen := 1) (dCap := 1) (sLen := 1) (sCap := cap) (cs := [.int .i64 v]) g1 rfl (src_one hc1) (by simp) (by simp [Value.oneCell'])
  have g2 : W2.heap[g]? = some (.cells ([.int .i64 v] : List Value).toArray 3 (0, 0)) := g2
  simp only [List.length_nil, List.length_cons, Nat.zero_add, Nat.reduceAdd] at c1
  have G : Aside (W2.heap[g]? = some (.cells (List.replicate 1 (Value.int .i64 v)).toArray 3 (0, 0)) ∧ Below g w W2) := ⟨g2, b1.trans b2⟩
  clear g1 g2 b1 b2 hc hc1 hbl
  have mixed := Try.checked.mixed
  go_enter Try.func184, Try.ntmps184
  go_wp2_with (go_at_call 201; refine (mul1_1 _).mono ?_; rintro e w' ⟨rfl, rfl⟩)
  refine wp_loop_rounds 2 ?_
  simp only [rounds_succ]
  go_wp2
  go_ret
  exact ⟨rfl, G.out⟩

set_option maxHeartbeats 1000000 in
theorem mul1_2 (w : World) : Calls Try.prog 201 #[.int .u64 1, .int .u64 2] w fun e w' => e = .returned (.tuple #[.int .u64 0, .int .u64 2]) ∧ w = w' := by
  have e1 : bits BinOp.and IntKind.u64 1 4294967295 = 1 := by decide
  have e2 : bits BinOp.and IntKind.u64 2 4294967295 = 2 := by decide
  have e3 : bits BinOp.and IntKind.u64 0 4294967295 = 0 := by decide
  have e4 : IntKind.u64.wrap 2 = 2 := by decide
  have e5 : IntKind.u64.wrap 0 = 0 := by decide
  have e6 : (2 : Int) / 4294967296 = 0 := by decide
  have e7 : IntKind.u64.wrap 1 = 1 := by decide
  have e8 : (0 : Int) / 4294967296 = 0 := by decide
  go_enter Try.func201, Try.ntmps201
  go_wp2
  go_ret2
  exact ⟨rfl, rfl⟩

set_option maxHeartbeats 2000000 in
theorem rep_2 (v : Int) (b o cap : Nat) (w : World) (hc : w.cell? ⟨b, o, none⟩ = some (.int .i64 v)) (hbl : b < w.heap.size) :
    Calls Try.prog 184 #[.slice (some ⟨b, o, none⟩) 1 cap, .int .i64 2] w fun e w' => e = .returned (.slice (some ⟨w.heap.size, 0, none⟩) 2 2) ∧ w'.heap[w.heap.size]? = some (.cells (List.replicate 2 (Value.int .i64 v)).toArray 3 (0, 0)) ∧ Below w.heap.size w w' := by
  have e4 : IntKind.u64.wrap 2 = 2 := by decide
  obtain ⟨i, hi⟩ : ∃ i, Try.prog.info? 3 = some i := Option.isSome_iff_exists.1 (by kernel_rfl)
  have hz : i.zero = some (.int .i64 0) := by
    have h : (Try.prog.info? 3).bind (·.zero) = some (.int .i64 0) := by kernel_rfl
    rw [hi] at h; simpa using h
  have hsz : i.size = 1 := by
    have h : (Try.prog.info? 3).map (·.size) = some 1 := by kernel_rfl
    rw [hi] at h; simpa using h
  have hby : i.bytes = 8 := by
    have h : (Try.prog.info? 3).map (·.bytes) = some 8 := by kernel_rfl
    rw [hi] at h; simpa using h
  obtain ⟨W1, hmk, g1, b1⟩ : ∃ W1, (Instr.makeSlice 23 (.int .i64 2) (.int .i64 2)).run Try.prog w = .ok (.slice (some ⟨w.heap.size, 0, none⟩) 2 2) W1 ∧ W1.heap[w.heap.size]? = some (.cells (List.replicate 2 (Value.int .i64 0)).toArray 3 (0, 0)) ∧ Below w.heap.size w W1 := by
    refine ⟨w.alloc (.cells (List.replicate 2 (Value.int .i64 0)).toArray 3), ?_, ?_, (Below.refl _ _).alloc (Nat.le_refl _) _⟩
    · rw [run_make (P := Try.prog) w 23 3 i _ Try.underlying23 hi hz .i64 .i64 2 2 (by decide) (by decide) (by rw [hby]; decide) (by decide), hsz, made1 _ _ rfl]
      rfl
    · unfold World.alloc; exact Array.getElem?_push_size
  clear hi hz hsz hby i
  have hc1 : W1.cell? ⟨b, o, none⟩ = some (.int .i64 v) := by rw [← hc]; unfold World.cell?; rw [b1.block b hbl]
  generalize w.heap.size = g at *
  obtain ⟨W2, c1, g2, b2⟩ := copyEq W1 (o := 0) (dLen := 2) (dCap := 2) (sLen := 1) (sCap := cap) (cs := [.int .i64 v]) g1 rfl (src_one hc1) (by simp) (by simp [Value.oneCell'])
  have g2 : W2.heap[g]? = some (.cells ([.int .i64 v, .int .i64 0] : List Value).toArray 3 (0, 0)) := g2
  obtain ⟨W3, c2, g3, b3⟩ := copyEq W2.drew (o := 1) (dLen := 1) (dCap := 1) (sLen := 1) (sCap := 2) (a := ⟨g, 0, none⟩) (cs := [.int .i64 v]) g2 rfl (src_row (cs := [.int .i64 v]) (rest := [.int .i64 0]) g2) (by simp) (by simp [Value.oneCell'])
  have g3 : W3.heap[g]? = some (.cells ([.int .i64 v, .int .i64 v] : List Value).toArray 3 (0, 0)) := g3
  simp only [List.length_nil, List.length_cons, Nat.zero_add, Nat.reduceAdd] at c1 c2
  have G : Aside (W3.heap[g]? = some (.cells (List.replicate 2 (Value.int .i64 v)).toArray 3 (0, 0)) ∧ Below g w W3) := ⟨g3, (b1.trans b2).drew.trans b3⟩
  clear g1 g2 g3 b1 b2 b3 hc hc1 hbl
  have mixed := Try.checked.mixed
  go_enter Try.func184, Try.ntmps184
  go_wp2_with (go_at_call 201; refine (mul1_2 _).mono ?_; rintro e w' ⟨rfl, rfl⟩)
  refine wp_loop_rounds 3 ?_
  simp only [rounds_succ]
  go_wp2
  go_region_law_o (refine step_copy_runI rfl _ _ 23 23 rfl _ _ (by simp [Act.eval, Act.put]) (by simp [Act.eval, Act.put]) c2 ?_)
  go_wp2
  simp only [rounds_succ]
  go_wp2
  go_ret
  exact ⟨rfl, G.out⟩

set_option maxHeartbeats 1000000 in
theorem mul1_3 (w : World) : Calls Try.prog 201 #[.int .u64 1, .int .u64 3] w fun e w' => e = .returned (.tuple #[.int .u64 0, .int .u64 3]) ∧ w = w' := by
  have e1 : bits BinOp.and IntKind.u64 1 4294967295 = 1 := by decide
  have e2 : bits BinOp.and IntKind.u64 3 4294967295 = 3 := by decide
  have e3 : bits BinOp.and IntKind.u64 0 4294967295 = 0 := by decide
  have e4 : IntKind.u64.wrap 3 = 3 := by decide
  have e5 : IntKind.u64.wrap 0 = 0 := by decide
  have e6 : (3 : Int) / 4294967296 = 0 := by decide
  have e7 : IntKind.u64.wrap 1 = 1 := by decide
  have e8 : (0 : Int) / 4294967296 = 0 := by decide
  go_enter Try.func201, Try.ntmps201
  go_wp2
  go_ret2
  exact ⟨rfl, rfl⟩

set_option maxHeartbeats 2000000 in
theorem rep_3 (v : Int) (b o cap : Nat) (w : World) (hc : w.cell? ⟨b, o, none⟩ = some (.int .i64 v)) (hbl : b < w.heap.size) :
    Calls Try.prog 184 #[.slice (some ⟨b, o, none⟩) 1 cap, .int .i64 3] w fun e w' => e = .returned (.slice (some ⟨w.heap.size, 0, none⟩) 3 3) ∧ w'.heap[w.heap.size]? = some (.cells (List.replicate 3 (Value.int .i64 v)).toArray 3 (0, 0)) ∧ Below w.heap.size w w' := by
  have e4 : IntKind.u64.wrap 3 = 3 := by decide
  obtain ⟨i, hi⟩ : ∃ i, Try.prog.info? 3 = some i := Option.isSome_iff_exists.1 (by kernel_rfl)
  have hz : i.zero = some (.int .i64 0) := by
    have h : (Try.prog.info? 3).bind (·.zero) = some (.int .i64 0) := by kernel_rfl
    rw [hi] at h; simpa using h
  have hsz : i.size = 1 := by
    have h : (Try.prog.info? 3).map (·.size) = some 1 := by kernel_rfl
    rw [hi] at h; simpa using h
  have hby : i.bytes = 8 := by
    have h : (Try.prog.info? 3).map (·.bytes) = some 8 := by kernel_rfl
    rw [hi] at h; simpa using h
  obtain ⟨W1, hmk, g1, b1⟩ : ∃ W1, (Instr.makeSlice 23 (.int .i64 3) (.int .i64 3)).run Try.prog w = .ok (.slice (some ⟨w.heap.size, 0, none⟩) 3 3) W1 ∧ W1.heap[w.heap.size]? = some (.cells (List.replicate 3 (Value.int .i64 0)).toArray 3 (0, 0)) ∧ Below w.heap.size w W1 := by
    refine ⟨w.alloc (.cells (List.replicate 3 (Value.int .i64 0)).toArray 3), ?_, ?_, (Below.refl _ _).alloc (Nat.le_refl _) _⟩
    · rw [run_make (P := Try.prog) w 23 3 i _ Try.underlying23 hi hz .i64 .i64 3 3 (by decide) (by decide) (by rw [hby]; decide) (by decide), hsz, made1 _ _ rfl]
      rfl
    · unfold World.alloc; exact Array.getElem?_push_size
  clear hi hz hsz hby i
  have hc1 : W1.cell? ⟨b, o, none⟩ = some (.int .i64 v) := by rw [← hc]; unfold World.cell?; rw [b1.block b hbl]
  generalize w.heap.size = g at *
  obtain ⟨W2, c1, g2, b2⟩ := copyEq W1 (o := 0) (dLen := 3) (dCap := 3) (sLen := 1) (sCap := cap) (cs := [.int .i64 v]) g1 rfl (src_one hc1) (by simp) (by simp [Value.oneCell'])
  have g2 : W2.heap[g]? = some (.cells ([.int .i64 v, .int .i64 0, .int .i64 0] : List Value).toArray 3 (0, 0)) := g2
  obtain ⟨W3, c2, g3, b3⟩ := copyEq W2.drew (o := 1) (dLen := 2) (dCap := 2) (sLen := 1) (sCap := 3) (a := ⟨g, 0, none⟩) (cs := [.int .i64 v]) g2 rfl (src_row (cs := [.int .i64 v]) (rest := [.int .i64 0, .int .i64 0]) g2) (by simp) (by simp [Value.oneCell'])
  have g3 : W3.heap[g]? = some (.cells ([.int .i64 v, .int .i64 v, .int .i64 0] : List Value).toArray 3 (0, 0)) := g3
  obtain ⟨W4, c3, g4, b4⟩ := copyEq W3.drew (o := 2) (dLen := 1) (dCap := 1) (sLen := 2) (sCap := 3) (a := ⟨g, 0, none⟩) (cs := [.int .i64 v]) g3 rfl (src_row (cs := [.int .i64 v]) (rest := [.int .i64 v, .int .i64 0]) g3) (by simp) (by simp [Value.oneCell'])
  have g4 : W4.heap[g]? = some (.cells ([.int .i64 v, .int .i64 v, .int .i64 v] : List Value).toArray 3 (0, 0)) := g4
  simp only [List.length_nil, List.length_cons, Nat.zero_add, Nat.reduceAdd] at c1 c2 c3
  have G : Aside (W4.heap[g]? = some (.cells (List.replicate 3 (Value.int .i64 v)).toArray 3 (0, 0)) ∧ Below g w W4) := ⟨g4, ((b1.trans b2).drew.trans b3).drew.trans b4⟩
  clear g1 g2 g3 g4 b1 b2 b3 b4 hc hc1 hbl
  have mixed := Try.checked.mixed
  go_enter Try.func184, Try.ntmps184
  go_wp2_with (go_at_call 201; refine (mul1_3 _).mono ?_; rintro e w' ⟨rfl, rfl⟩)
  refine wp_loop_rounds 4 ?_
  simp only [rounds_succ]
  go_wp2
  go_region_law_o (refine step_copy_runI rfl _ _ 23 23 rfl _ _ (by simp [Act.eval, Act.put]) (by simp [Act.eval, Act.put]) c2 ?_)
  go_wp2
  simp only [rounds_succ]
  go_wp2
  go_region_law_o (refine step_copy_runI rfl _ _ 23 23 rfl _ _ (by simp [Act.eval, Act.put]) (by simp [Act.eval, Act.put]) c3 ?_)
  go_wp2
  simp only [rounds_succ]
  go_wp2
  go_ret
  exact ⟨rfl, G.out⟩

set_option maxHeartbeats 1000000 in
theorem mul1_4 (w : World) : Calls Try.prog 201 #[.int .u64 1, .int .u64 4] w fun e w' => e = .returned (.tuple #[.int .u64 0, .int .u64 4]) ∧ w = w' := by
  have e1 : bits BinOp.and IntKind.u64 1 4294967295 = 1 := by decide
  have e2 : bits BinOp.and IntKind.u64 4 4294967295 = 4 := by decide
  have e3 : bits BinOp.and IntKind.u64 0 4294967295 = 0 := by decide
  have e4 : IntKind.u64.wrap 4 = 4 := by decide
  have e5 : IntKind.u64.wrap 0 = 0 := by decide
  have e6 : (4 : Int) / 4294967296 = 0 := by decide
  have e7 : IntKind.u64.wrap 1 = 1 := by decide
  have e8 : (0 : Int) / 4294967296 = 0 := by decide
  go_enter Try.func201, Try.ntmps201
  go_wp2
  go_ret2
  exact ⟨rfl, rfl⟩

set_option maxHeartbeats 2000000 in
theorem rep_4 (v : Int) (b o cap : Nat) (w : World) (hc : w.cell? ⟨b, o, none⟩ = some (.int .i64 v)) (hbl : b < w.heap.size) :
    Calls Try.prog 184 #[.slice (some ⟨b, o, none⟩) 1 cap, .int .i64 4] w fun e w' => e = .returned (.slice (some ⟨w.heap.size, 0, none⟩) 4 4) ∧ w'.heap[w.heap.size]? = some (.cells (List.replicate 4 (Value.int .i64 v)).toArray 3 (0, 0)) ∧ Below w.heap.size w w' := by
  have e4 : IntKind.u64.wrap 4 = 4 := by decide
  obtain ⟨i, hi⟩ : ∃ i, Try.prog.info? 3 = some i := Option.isSome_iff_exists.1 (by kernel_rfl)
  have hz : i.zero = some (.int .i64 0) := by
    have h : (Try.prog.info? 3).bind (·.zero) = some (.int .i64 0) := by kernel_rfl
    rw [hi] at h; simpa using h
  have hsz : i.size = 1 := by
    have h : (Try.prog.info? 3).map (·.size) = some 1 := by kernel_rfl
    rw [hi] at h; simpa using h
  have hby : i.bytes = 8 := by
    have h : (Try.prog.info? 3).map (·.bytes) = some 8 := by kernel_rfl
    rw [hi] at h; simpa using h
  obtain ⟨W1, hmk, g1, b1⟩ : ∃ W1, (Instr.makeSlice 23 (.int .i64 4) (.int .i64 4)).run Try.prog w = .ok (.slice (some ⟨w.heap.size, 0, none⟩) 4 4) W1 ∧ W1.heap[w.heap.size]? = some (.cells (List.replicate 4 (Value.int .i64 0)).toArray 3 (0, 0)) ∧ Below w.heap.size w W1 := by
    refine ⟨w.alloc (.cells (List.replicate 4 (Value.int .i64 0)).toArray 3), ?_, ?_, (Below.refl _ _).alloc (Nat.le_refl _) _⟩
    · rw [run_make (P := Try.prog) w 23 3 i _ Try.underlying23 hi hz .i64 .i64 4 4 (by decide) (by decide) (by rw [hby]; decide) (by decide), hsz, made1 _ _ rfl]
      rfl
    · unfold World.alloc; exact Array.getElem?_push_size
  clear hi hz hsz hby i
  have hc1 : W1.cell? ⟨b, o, none⟩ = some (.int .i64 v) := by rw [← hc]; unfold World.cell?; rw [b1.block b hbl]
  generalize w.heap.size = g at *
  obtain ⟨W2, c1, g2, b2⟩ := copyEq W1 (o := 0) (dLen := 4) (dCap := 4) (sLen := 1) (sCap := cap) (cs := [.int .i64 v]) g1 rfl (src_one hc1) (by simp) (by simp [Value.oneCell'])
  have g2 : W2.heap[g]? = some (.cells ([.int .i64 v, .int .i64 0, .int .i64 0, .int .i64 0] : List Value).toArray 3 (0, 0)) := g2
  obtain ⟨W3, c2, g3, b3⟩ := copyEq W2.drew (o := 1) (dLen := 3) (dCap := 3) (sLen := 1) (sCap := 4) (a := ⟨g, 0, none⟩) (cs := [.int .i64 v]) g2 rfl (src_row (cs := [.int .i64 v]) (rest := [.int .i64 0, .int .i64 0, .int .i64 0]) g2) (by simp) (by simp [Value.oneCell'])
  have g3 : W3.heap[g]? = some (.cells ([.int .i64 v, .int .i64 v, .int .i64 0, .int .i64 0] : List Value).toArray 3 (0, 0)) := g3
  obtain ⟨W4, c3, g4, b4⟩ := copyEq W3.drew (o := 2) (dLen := 2) (dCap := 2) (sLen := 2) (sCap := 4) (a := ⟨g, 0, none⟩) (cs := [.int .i64 v, .int .i64 v]) g3 rfl (src_row (cs := [.int .i64 v, .int .i64 v]) (rest := [.int .i64 0, .int .i64 0]) g3) (by simp) (by simp [Value.oneCell'])
  have g4 : W4.heap[g]? = some (.cells ([.int .i64 v, .int .i64 v, .int .i64 v, .int .i64 v] : List Value).toArray 3 (0, 0)) := g4
  simp only [List.length_nil, List.length_cons, Nat.zero_add, Nat.reduceAdd] at c1 c2 c3
  have G : Aside (W4.heap[g]? = some (.cells (List.replicate 4 (Value.int .i64 v)).toArray 3 (0, 0)) ∧ Below g w W4) := ⟨g4, ((b1.trans b2).drew.trans b3).drew.trans b4⟩
  clear g1 g2 g3 g4 b1 b2 b3 b4 hc hc1 hbl
  have mixed := Try.checked.mixed
  go_enter Try.func184, Try.ntmps184
  go_wp2_with (go_at_call 201; refine (mul1_4 _).mono ?_; rintro e w' ⟨rfl, rfl⟩)
  refine wp_loop_rounds 4 ?_
  simp only [rounds_succ]
  go_wp2
  go_region_law_o (refine step_copy_runI rfl _ _ 23 23 rfl _ _ (by simp [Act.eval, Act.put]) (by simp [Act.eval, Act.put]) c2 ?_)
  go_wp2
  simp only [rounds_succ]
  go_wp2
  go_region_law_o (refine step_copy_runI rfl _ _ 23 23 rfl _ _ (by simp [Act.eval, Act.put]) (by simp [Act.eval, Act.put]) c3 ?_)
  go_wp2
  simp only [rounds_succ]
  go_wp2
  go_ret
  exact ⟨rfl, G.out⟩

set_option maxHeartbeats 1000000 in
theorem mul1_5 (w : World) : Calls Try.prog 201 #[.int .u64 1, .int .u64 5] w fun e w' => e = .returned (.tuple #[.int .u64 0, .int .u64 5]) ∧ w = w' := by
  have e1 : bits BinOp.and IntKind.u64 1 4294967295 = 1 := by decide
  have e2 : bits BinOp.and IntKind.u64 5 4294967295 = 5 := by decide
  have e3 : bits BinOp.and IntKind.u64 0 4294967295 = 0 := by decide
  have e4 : IntKind.u64.wrap 5 = 5 := by decide
  have e5 : IntKind.u64.wrap 0 = 0 := by decide
  have e6 : (5 : Int) / 4294967296 = 0 := by decide
  have e7 : IntKind.u64.wrap 1 = 1 := by decide
  have e8 : (0 : Int) / 4294967296 = 0 := by decide
  go_enter Try.func201, Try.ntmps201
  go_wp2
  go_ret2
  exact ⟨rfl, rfl⟩

set_option maxHeartbeats 2000000 in
theorem rep_5 (v : Int) (b o cap : Nat) (w : World) (hc : w.cell? ⟨b, o, none⟩ = some (.int .i64 v)) (hbl : b < w.heap.size) :
    Calls Try.prog 184 #[.slice (some ⟨b, o, none⟩) 1 cap, .int .i64 5] w fun e w' => e = .returned (.slice (some ⟨w.heap.size, 0, none⟩) 5 5) ∧ w'.heap[w.heap.size]? = some (.cells (List.replicate 5 (Value.int .i64 v)).toArray 3 (0, 0)) ∧ Below w.heap.size w w' := by
  have e4 : IntKind.u64.wrap 5 = 5 := by decide
  obtain ⟨i, hi⟩ : ∃ i, Try.prog.info? 3 = some i := Option.isSome_iff_exists.1 (by kernel_rfl)
  have hz : i.zero = some (.int .i64 0) := by
    have h : (Try.prog.info? 3).bind (·.zero) = some (.int .i64 0) := by kernel_rfl
    rw [hi] at h; simpa using h
  have hsz : i.size = 1 := by
    have h : (Try.prog.info? 3).map (·.size) = some 1 := by kernel_rfl
    rw [hi] at h; simpa using h
  have hby : i.bytes = 8 := by
    have h : (Try.prog.info? 3).map (·.bytes) = some 8 := by kernel_rfl
    rw [hi] at h; simpa using h
  obtain ⟨W1, hmk, g1, b1⟩ : ∃ W1, (Instr.makeSlice 23 (.int .i64 5) (.int .i64 5)).run Try.prog w = .ok (.slice (some ⟨w.heap.size, 0, none⟩) 5 5) W1 ∧ W1.heap[w.heap.size]? = some (.cells (List.replicate 5 (Value.int .i64 0)).toArray 3 (0, 0)) ∧ Below w.heap.size w W1 := by
    refine ⟨w.alloc (.cells (List.replicate 5 (Value.int .i64 0)).toArray 3), ?_, ?_, (Below.refl _ _).alloc (Nat.le_refl _) _⟩
    · rw [run_make (P := Try.prog) w 23 3 i _ Try.underlying23 hi hz .i64 .i64 5 5 (by decide) (by decide) (by rw [hby]; decide) (by decide), hsz, made1 _ _ rfl]
      rfl
    · unfold World.alloc; exact Array.getElem?_push_size
  clear hi hz hsz hby i
  have hc1 : W1.cell? ⟨b, o, none⟩ = some (.int .i64 v) := by rw [← hc]; unfold World.cell?; rw [b1.block b hbl]
  generalize w.heap.size = g at *
  obtain ⟨W2, c1, g2, b2⟩ := copyEq W1 (o := 0) (dLen := 5) (dCap := 5) (sLen := 1) (sCap := cap) (cs := [.int .i64 v]) g1 rfl (src_one hc1) (by simp) (by simp [Value.oneCell'])
  have g2 : W2.heap[g]? = some (.cells ([.int .i64 v, .int .i64 0, .int .i64 0, .int .i64 0, .int .i64 0] : List Value).toArray 3 (0, 0)) := g2
  obtain ⟨W3, c2, g3, b3⟩ := copyEq W2.drew (o := 1) (dLen := 4) (dCap := 4) (sLen := 1) (sCap := 5) (a := ⟨g, 0, none⟩) (cs := [.int .i64 v]) g2 rfl (src_row (cs := [.int .i64 v]) (rest := [.int .i64 0, .int .i64 0, .int .i64 0, .int .i64 0]) g2) (by simp) (by simp [Value.oneCell'])
  have g3 : W3.heap[g]? = some (.cells ([.int .i64 v, .int .i64 v, .int .i64 0, .int .i64 0, .int .i64 0] : List Value).toArray 3 (0, 0)) := g3
  obtain ⟨W4, c3, g4, b4⟩ := copyEq W3.drew (o := 2) (dLen := 3) (dCap := 3) (sLen := 2) (sCap := 5) (a := ⟨g, 0, none⟩) (cs := [.int .i64 v, .int .i64 v]) g3 rfl (src_row (cs := [.int .i64 v, .int .i64 v]) (rest := [.int .i64 0, .int .i64 0, .int .i64 0]) g3) (by simp) (by simp [Value.oneCell'])
  have g4 : W4.heap[g]? = some (.cells ([.int .i64 v, .int .i64 v, .int .i64 v, .int .i64 v, .int .i64 0] : List Value).toArray 3 (0, 0)) := g4
  obtain ⟨W5, c4, g5, b5⟩ := copyEq W4.drew (o := 4) (dLen := 1) (dCap := 1) (sLen := 4) (sCap := 5) (a := ⟨g, 0, none⟩) (cs := [.int .i64 v]) g4 rfl (src_row (cs := [.int .i64 v]) (rest := [.int .i64 v, .int .i64 v, .int .i64 v, .int .i64 0]) g4) (by simp) (by simp [Value.oneCell'])
  have g5 : W5.heap[g]? = some (.cells ([.int .i64 v, .int .i64 v, .int .i64 v, .int .i64 v, .int .i64 v] : List Value).toArray 3 (0, 0)) := g5
  simp only [List.length_nil, List.length_cons, Nat.zero_add, Nat.reduceAdd] at c1 c2 c3 c4
  have G : Aside (W5.heap[g]? = some (.cells (List.replicate 5 (Value.int .i64 v)).toArray 3 (0, 0)) ∧ Below g w W5) := ⟨g5, (((b1.trans b2).drew.trans b3).drew.trans b4).drew.trans b5⟩
  clear g1 g2 g3 g4 g5 b1 b2 b3 b4 b5 hc hc1 hbl
  have mixed := Try.checked.mixed
  go_enter Try.func184, Try.ntmps184
  go_wp2_with (go_at_call 201; refine (mul1_5 _).mono ?_; rintro e w' ⟨rfl, rfl⟩)
  refine wp_loop_rounds 5 ?_
  simp only [rounds_succ]
  go_wp2
  go_region_law_o (refine step_copy_runI rfl _ _ 23 23 rfl _ _ (by simp [Act.eval, Act.put]) (by simp [Act.eval, Act.put]) c2 ?_)
  go_wp2
  simp only [rounds_succ]
  go_wp2
  go_region_law_o (refine step_copy_runI rfl _ _ 23 23 rfl _ _ (by simp [Act.eval, Act.put]) (by simp [Act.eval, Act.put]) c3 ?_)
  go_wp2
  simp only [rounds_succ]
  go_wp2
  go_region_law_o (refine step_copy_runI rfl _ _ 23 23 rfl _ _ (by simp [Act.eval, Act.put]) (by simp [Act.eval, Act.put]) c4 ?_)
  go_wp2
  simp only [rounds_succ]
  go_wp2
  go_ret
  exact ⟨rfl, G.out⟩

set_option maxHeartbeats 1000000 in
theorem mul1_6 (w : World) : Calls Try.prog 201 #[.int .u64 1, .int .u64 6] w fun e w' => e = .returned (.tuple #[.int .u64 0, .int .u64 6]) ∧ w = w' := by
  have e1 : bits BinOp.and IntKind.u64 1 4294967295 = 1 := by decide
  have e2 : bits BinOp.and IntKind.u64 6 4294967295 = 6 := by decide
  have e3 : bits BinOp.and IntKind.u64 0 4294967295 = 0 := by decide
  have e4 : IntKind.u64.wrap 6 = 6 := by decide
  have e5 : IntKind.u64.wrap 0 = 0 := by decide
  have e6 : (6 : Int) / 4294967296 = 0 := by decide
  have e7 : IntKind.u64.wrap 1 = 1 := by decide
  have e8 : (0 : Int) / 4294967296 = 0 := by decide
  go_enter Try.func201, Try.ntmps201
  go_wp2
  go_ret2
  exact ⟨rfl, rfl⟩

set_option maxHeartbeats 2000000 in
theorem rep_6 (v : Int) (b o cap : Nat) (w : World) (hc : w.cell? ⟨b, o, none⟩ = some (.int .i64 v)) (hbl : b < w.heap.size) :
    Calls Try.prog 184 #[.slice (some ⟨b, o, none⟩) 1 cap, .int .i64 6] w fun e w' => e = .returned (.slice (some ⟨w.heap.size, 0, none⟩) 6 6) ∧ w'.heap[w.heap.size]? = some (.cells (List.replicate 6 (Value.int .i64 v)).toArray 3 (0, 0)) ∧ Below w.heap.size w w' := by
  have e4 : IntKind.u64.wrap 6 = 6 := by decide
  obtain ⟨i, hi⟩ : ∃ i, Try.prog.info? 3 = some i := Option.isSome_iff_exists.1 (by kernel_rfl)
  have hz : i.zero = some (.int .i64 0) := by
    have h : (Try.prog.info? 3).bind (·.zero) = some (.int .i64 0) := by kernel_rfl
    rw [hi] at h; simpa using h
  have hsz : i.size = 1 := by
    have h : (Try.prog.info? 3).map (·.size) = some 1 := by kernel_rfl
    rw [hi] at h; simpa using h
  have hby : i.bytes = 8 := by
    have h : (Try.prog.info? 3).map (·.bytes) = some 8 := by kernel_rfl
    rw [hi] at h; simpa using h
  obtain ⟨W1, hmk, g1, b1⟩ : ∃ W1, (Instr.makeSlice 23 (.int .i64 6) (.int .i64 6)).run Try.prog w = .ok (.slice (some ⟨w.heap.size, 0, none⟩) 6 6) W1 ∧ W1.heap[w.heap.size]? = some (.cells (List.replicate 6 (Value.int .i64 0)).toArray 3 (0, 0)) ∧ Below w.heap.size w W1 := by
    refine ⟨w.alloc (.cells (List.replicate 6 (Value.int .i64 0)).toArray 3), ?_, ?_, (Below.refl _ _).alloc (Nat.le_refl _) _⟩
    · rw [run_make (P := Try.prog) w 23 3 i _ Try.underlying23 hi hz .i64 .i64 6 6 (by decide) (by decide) (by rw [hby]; decide) (by decide), hsz, made1 _ _ rfl]
      rfl
    · unfold World.alloc; exact Array.getElem?_push_size
  clear hi hz hsz hby i
  have hc1 : W1.cell? ⟨b, o, none⟩ = some (.int .i64 v) := by rw [← hc]; unfold World.cell?; rw [b1.block b hbl]
  generalize w.heap.size = g at *
  obtain ⟨W2, c1, g2, b2⟩ := copyEq W1 (o := 0) (dLen := 6) (dCap := 6) (sLen := 1) (sCap := cap) (cs := [.int .i64 v]) g1 rfl (src_one hc1) (by simp) (by simp [Value.oneCell'])
  have g2 : W2.heap[g]? = some (.cells ([.int .i64 v, .int .i64 0, .int .i64 0, .int .i64 0, .int .i64 0, .int .i64 0] : List Value).toArray 3 (0, 0)) := g2
  obtain ⟨W3, c2, g3, b3⟩ := copyEq W2.drew (o := 1) (dLen := 5) (dCap := 5) (sLen := 1) (sCap := 6) (a := ⟨g, 0, none⟩) (cs := [.int .i64 v]) g2 rfl (src_row (cs := [.int .i64 v]) (rest := [.int .i64 0, .int .i64 0, .int .i64 0, .int .i64 0, .int .i64 0]) g2) (by simp) (by simp [Value.oneCell'])
  have g3 : W3.heap[g]? = some (.cells ([.int .i64 v, .int .i64 v, .int .i64 0, .int .i64 0, .int .i64 0, .int .i64 0] : List Value).toArray 3 (0, 0)) := g3
  obtain ⟨W4, c3, g4, b4⟩ := copyEq W3.drew (o := 2) (dLen := 4) (dCap := 4) (sLen := 2) (sCap := 6) (a := ⟨g, 0, none⟩) (cs := [.int .i64 v, .int .i64 v]) g3 rfl (src_row (cs := [.int .i64 v, .int .i64 v]) (rest := [.int .i64 0, .int .i64 0, .int .i64 0, .int .i64 0]) g3) (by simp) (by simp [Value.oneCell'])
  have g4 : W4.heap[g]? = some (.cells ([.int .i64 v, .int .i64 v, .int .i64 v, .int .i64 v, .int .i64 0, .int .i64 0] : List Value).toArray 3 (0, 0)) := g4
  obtain ⟨W5, c4, g5, b5⟩ := copyEq W4.drew (o := 4) (dLen := 2) (dCap := 2) (sLen := 4) (sCap := 6) (a := ⟨g, 0, none⟩) (cs := [.int .i64 v, .int .i64 v]) g4 rfl (src_row (cs := [.int .i64 v, .int .i64 v]) (rest := [.int .i64 v, .int .i64 v, .int .i64 0, .int .i64 0]) g4) (by simp) (by simp [Value.oneCell'])
  have g5 : W5.heap[g]? = some (.cells ([.int .i64 v, .int .i64 v, .int .i64 v, .int .i64 v, .int .i64 v, .int .i64 v] : List Value).toArray 3 (0, 0)) := g5
  simp only [List.length_nil, List.length_cons, Nat.zero_add, Nat.reduceAdd] at c1 c2 c3 c4
  have G : Aside (W5.heap[g]? = some (.cells (List.replicate 6 (Value.int .i64 v)).toArray 3 (0, 0)) ∧ Below g w W5) := ⟨g5, (((b1.trans b2).drew.trans b3).drew.trans b4).drew.trans b5⟩
  clear g1 g2 g3 g4 g5 b1 b2 b3 b4 b5 hc hc1 hbl
  have mixed := Try.checked.mixed
  go_enter Try.func184, Try.ntmps184
  go_wp2_with (go_at_call 201; refine (mul1_6 _).mono ?_; rintro e w' ⟨rfl, rfl⟩)
  refine wp_loop_rounds 5 ?_
  simp only [rounds_succ]
  go_wp2
  go_region_law_o (refine step_copy_runI rfl _ _ 23 23 rfl _ _ (by simp [Act.eval, Act.put]) (by simp [Act.eval, Act.put]) c2 ?_)
  go_wp2
  simp only [rounds_succ]
  go_wp2
  go_region_law_o (refine step_copy_runI rfl _ _ 23 23 rfl _ _ (by simp [Act.eval, Act.put]) (by simp [Act.eval, Act.put]) c3 ?_)
  go_wp2
  simp only [rounds_succ]
  go_wp2
  go_region_law_o (refine step_copy_runI rfl _ _ 23 23 rfl _ _ (by simp [Act.eval, Act.put]) (by simp [Act.eval, Act.put]) c4 ?_)
  go_wp2
  simp only [rounds_succ]
  go_wp2
  go_ret
  exact ⟨rfl, G.out⟩


theorem row_rep {w : World} {g c : Nat} {v : Int} (hg : w.heap[g]? = some (.cells (List.replicate c (Value.int .i64 v)).toArray 3 (0, 0))) : Row w g 0 1 (List.replicate c (.int .i64 v)) := by
  intro i x hx
  have hi : i < c := by have := (List.getElem?_eq_some_iff.1 hx).1; simpa using this
  rw [List.getElem?_replicate, if_pos hi] at hx
  injection hx with hx
  subst hx
  refine ⟨rfl, fun j u hu => ?_⟩
  have hj : j = 0 := by
    have := (Array.getElem?_eq_some_iff.1 hu).1
    simp [Value.cells] at this
    omega
  subst hj
  have : u = .int .i64 v := by simpa [Value.cells] using hu.symm
  subst this
  refine ⟨rfl, ?_⟩
  rw [Nat.zero_add, Nat.mul_one, Nat.add_zero]
  exact cell_at hg (by rw [List.getElem?_replicate, if_pos hi])

theorem repeatI_pc (v c : Int) (h0 : 0 ≤ c) (h6 : c ≤ 6) : PC Try.prog 184 [IL [v], I64 c] none true (fun r _ => r = IO1 (List.replicate c.toNat v)) := by
  refine ⟨⟨_, Try.func184, by kernel_rfl, by kernel_rfl⟩, fun w vs F B hF hl hr hio => ?_⟩
  obtain ⟨v1, v2, rfl⟩ : ∃ v1 v2, vs = [v1, v2] := by
    match vs, hl with
    | [a, b], _ => exact ⟨a, b, rfl⟩
  have r1 := hr 0 _ v1 rfl rfl
  have r2 := hr 1 _ v2 rfl rfl
  have r1 : Rep w F (IL [v]) v1 := r1.elim id (fun h => by cases h.1)
  have r2 : Rep w F (I64 c) v2 := r2.elim id (fun h => by cases h.1)
  cases r2
  obtain ⟨b, o, cap, rfl, hc, hbl⟩ : ∃ b o cap, v1 = .slice (some ⟨b, o, none⟩) 1 cap ∧ w.cell? ⟨b, o, none⟩ = some (.int .i64 v) ∧ b < w.heap.size := by
    generalize hd : IL [v] = d at r1
    cases r1 with
    | list sz xs us b o cap q1 q2 q3 q4 q5 q6 q7 =>
      injection hd with hd1 hd2
      subst hd1; subst hd2
      obtain ⟨u, rfl⟩ : ∃ u, us = [u] := by
        match us, q1 with
        | [u], _ => exact ⟨u, rfl⟩
      have hu := q4 0 (I64 v) u rfl rfl
      cases hu
      have := (q5 0 _ rfl).2 0 (.int .i64 v) rfl
      exact ⟨b, o, cap, rfl, by simpa using this.2, q6⟩
    | listE sz a cap => injection hd with _ hd2; cases hd2
    | _ => cases hd
  have key : Calls Try.prog 184 #[.slice (some ⟨b, o, none⟩) 1 cap, .int .i64 c] w fun e w' => e = .returned (.slice (some ⟨w.heap.size, 0, none⟩) c.toNat c.toNat) ∧ w'.heap[w.heap.size]? = some (.cells (List.replicate c.toNat (Value.int .i64 v)).toArray 3 (0, 0)) ∧ Below w.heap.size w w' := by
    have : c = 0 ∨ c = 1 ∨ c = 2 ∨ c = 3 ∨ c = 4 ∨ c = 5 ∨ c = 6 := by omega
    rcases this with rfl | rfl | rfl | rfl | rfl | rfl | rfl
    · exact rep_0 v b o cap w hc hbl
    · exact rep_1 v b o cap w hc hbl
    · exact rep_2 v b o cap w hc hbl
    · exact rep_3 v b o cap w hc hbl
    · exact rep_4 v b o cap w hc hbl
    · exact rep_5 v b o cap w hc hbl
    · exact rep_6 v b o cap w hc hbl
  refine key.mono ?_
  rintro e w' ⟨rfl, hg, hb⟩
  have hn6 : c.toNat ≤ 6 := by omega
  generalize c.toNat = n at *
  have hor := ORep.olist (w := w') (F := fun k => k < w.heap.size) (lo := w.heap.size) 1 (ints (List.replicate n v)) (List.replicate n (.int .i64 v)) (List.replicate n []) w.heap.size n (List.replicate n (Value.int .i64 v)).toArray 3 (by simp) (by simp) (fun i d u os hd hu ho => by
    have hi : i < n := by have := (List.getElem?_eq_some_iff.1 hu).1; simpa using this
    rw [List.getElem?_replicate, if_pos hi] at hu ho
    unfold ints at hd
    rw [List.getElem?_map, List.getElem?_replicate, if_pos hi] at hd
    injection hu with hu; injection ho with ho; injection hd with hd
    subst hu; subst ho; subst hd
    exact .base _ _ (.int _ _)) hg (by simp) (by simp) (by have : maxLen = 9223372036854775807 := rfl; omega) (row_rep hg) (Nat.le_refl _)
  rw [show (ints (List.replicate n v)).length = n by simp] at hor
  refine ⟨_, IO1 (List.replicate n v), [], _, rfl, rfl, fun _ => by simp, ⟨hb.os, hb.tape, hb.output, hb.size, fun k hk _ => hb.block k hk⟩, by simpa using hor, by simp, trivial⟩
noncomputable def fm_repeatI : Fam Try.prog := mkFam (X := Int × Int) 184 true (fun (v, c) => [IL [v], I64 c]) (fun (v, c) => (0 ≤ c) ∧ (c ≤ 6)) (fun (v, c) => IO1 (List.replicate c.toNat v)) (by
  rintro ⟨v, c⟩ ⟨h0, h6⟩
  exact repeatI_pc v c h0 h6)
@[simp] theorem fm_repeatI_id : fm_repeatI.id = 184 := rfl
@[simp] theorem fm_repeatI_fresh : fm_repeatI.fresh = true := rfl
@[simp] theorem fm_repeatI_look (v c : Int) (h0 : 0 ≤ c) (h6 : c ≤ 6) : fm_repeatI.look [IL [v], I64 c] = some (IO1 (List.replicate c.toNat v)) :=
  lookF_of (X := Int × Int) (args := fun (v, c) => [IL [v], I64 c]) (pre := fun (v, c) => (0 ≤ c) ∧ (c ≤ 6)) (val := fun (v, c) => IO1 (List.replicate c.toNat v)) (by
  rintro ⟨v, c⟩ ⟨v', c'⟩ h
  simp at h
  try simp only [and_assoc] at h
  obtain ⟨rfl, rfl⟩ := h
  rfl) (v, c) ⟨h0, h6⟩
attribute [irreducible] fm_repeatI
end Go.PS
end

section
-- The least power of the implementation: its loops over all lists, run in place.
set_option maxRecDepth 100000
set_option linter.unusedVariables false
set_option linter.unusedSimpArgs false
namespace Go.PS
open Go.Proofs

def inlA (id : Nat) : Option FnA := if id = 148 then some fa_148 else if id = 183 then some fa_183 else if id = 155 then some fa_155 else none
theorem inlA_ok (id : Nat) (fa : FnA) (h : inlA id = some fa) : ∃ A, FnOk Try.prog id fa A := by
  unfold inlA at h
  split at h
  · rename_i e; subst e; injection h with h; subst h; exact ⟨_, fok_148⟩
  split at h
  · rename_i e; subst e; injection h with h; subst h; exact ⟨_, fok_183⟩
  split at h
  · rename_i e; subst e; injection h with h; subst h; exact ⟨_, fok_155⟩
  · cases h

/-- The list after resets, and what the resets look at. -/
def rs (x y z : Int) : Nat → List Int
  | 0 => [x, y, z]
  | 1 => [x, y, 0]
  | 2 => [x, 0, 0]
  | _ => [0, 0, 0]
def dg (x y z : Int) : Nat → Int
  | 0 => z
  | 1 => y
  | _ => x

theorem rs0 {x y z : Int} : rs x y z 0 = [x, y, z] := rfl
theorem rs1 {x y z : Int} : rs x y z 1 = [x, y, 0] := rfl
theorem rs2 {x y z : Int} : rs x y z 2 = [x, 0, 0] := rfl
theorem rs3 {x y z : Int} : rs x y z 3 = [0, 0, 0] := rfl
theorem w2 : IntKind.i64.wrap 2 = 2 := rfl
theorem w1 : IntKind.i64.wrap 1 = 1 := rfl
theorem w0 : IntKind.i64.wrap 0 = 0 := rfl
theorem wm : IntKind.i64.wrap (-1) = -1 := rfl
theorem idx_lt {n x y z i : Nat} (hx : x < n) (hy : y < n) (hz : z < n) (e : i = (x * n + y) * n + z) : i < n * n * n := by
  have h1 : x * n + y < n * n := by
    calc x * n + y < x * n + n := by omega
      _ = (x + 1) * n := by rw [Nat.add_mul, Nat.one_mul]
      _ ≤ n * n := Nat.mul_le_mul_right _ (by omega)
  subst e
  generalize x * n + y = a at *
  calc a * n + z < a * n + n := by omega
    _ = (a + 1) * n := by rw [Nat.add_mul, Nat.one_mul]
    _ ≤ n * n * n := Nat.mul_le_mul_right _ (by omega)
theorem idx_y {n x y z i : Nat} (e : i = (x * n + y) * n + z) (hz : z + 1 = n) : i + 1 = (x * n + (y + 1)) * n + 0 := by
  rw [← Nat.add_assoc, Nat.add_mul (x * n + y) 1 n, Nat.one_mul]; omega
theorem idx_x {n x y z i : Nat} (e : i = (x * n + y) * n + z) (hy : y + 1 = n) (hz : z + 1 = n) : i + 1 = ((x + 1) * n + 0) * n + 0 := by
  rw [idx_y e hz, hy, Nat.add_mul x 1 n, Nat.one_mul]; rfl
theorem idx_last {n x y z i : Nat} (e : i = (x * n + y) * n + z) (hx : x + 1 = n) (hy : y + 1 = n) (hz : z + 1 = n) : i + 1 = n * n * n := by
  rw [idx_x e hy hz, hx]; rfl
theorem all_rng {A : List (List Int)} {p : List Int → Bool} : A.all p = (List.range A.length).all fun j => p (gr A j) := by
  rw [Bool.eq_iff_iff, all_gr, List.all_eq_true]
  simp
theorem gr_nxt {n j x : Nat} {o : List (List Int)} (hj : j < o.length) (hx : x < n) : gr (nxt n o) (j * n + x) = gr o j ++ [(x : Int)] := by
  have e : nxt n o = nxt n (o.take j) ++ ((List.range n).map fun (x : Nat) => gr o j ++ [(x : Int)]) ++ nxt n (o.drop (j + 1)) := by
    rw [← nxt_take hj]
    conv => lhs; rw [← List.take_append_drop (j + 1) o]
    unfold nxt
    rw [List.flatMap_append]
  have el : (nxt n (o.take j)).length = j * n := by rw [nxt_length, List.length_take, Nat.min_eq_left (by omega)]
  rw [e]
  unfold gr
  rw [List.append_assoc, List.getElem?_append_right (by omega), el, Nat.add_sub_cancel_left, List.getElem?_append_left (by simpa using hx)]
  simp [hx]
theorem gr_asg3 {n x y z : Nat} (hx : x < n) (hy : y < n) (hz : z < n) : gr (asgK n 3) ((x * n + y) * n + z) = [(x : Int), (y : Int), (z : Int)] := by
  have h1 : x < (asgK n 1).length := by rw [asgK_length, Nat.pow_one]; omega
  have h2 : x * n + y < (asgK n 2).length := by
    rw [asgK_length, Nat.pow_two]
    calc x * n + y < x * n + n := by omega
      _ = (x + 1) * n := by rw [Nat.add_mul, Nat.one_mul]
      _ ≤ n * n := Nat.mul_le_mul_right _ (by omega)
  have e1 : gr (asgK n 1) x = [(x : Int)] := by
    have := gr_nxt (j := 0) (o := asgK n 0) (x := x) (by simp [asgK]) hx
    simpa [asgK, gr] using this
  have e2 : gr (asgK n 2) (x * n + y) = [(x : Int), (y : Int)] := by
    rw [show asgK n 2 = nxt n (asgK n 1) from rfl, gr_nxt h1 hy, e1]; rfl
  rw [show asgK n 3 = nxt n (asgK n 2) from rfl, gr_nxt h2 hz, e2]; rfl

set_option maxHeartbeats 2000000 in
theorem leastI_pc (u : List Int) (t : List (List Int)) (p q : List Int) (hu : Big u.length) (ht : BigR t) (hp : Big p.length) (hq : Big q.length) : PC Try.prog 81 [AL u t, IL p, IL q] none true (fun r _ => r = .tup [I64 (lpM u t p q).1, .bool (lpM u t p q).2]) := by
  have hul := hu.le
  refine pcI inlA inlA_ok [fm_validAlgebraI, fm_validTermI, fm_repeatI, fm_valueOfI, fm_powI, fm_belowI] 3 fok_81 ?_
  simp [fa_81]
  refine cutW (inlT_mono _ _ _ _) [(22, .bool (!(decide (VA u t) && decide (validT p) && decide (validT q))))] (by simp [callO3T, inlA, hu, ht, hp, hq]; grind) ?_
  cases hb : (decide (VA u t) && decide (validT p) && decide (validT q))
  · simp [lpM, hb]
  simp only [Bool.and_eq_true, decide_eq_true_eq] at hb
  obtain ⟨⟨a, vp⟩, vq⟩ := hb
  have f := a.tf
  have h6 := f.lat.six
  have elp : lpI u t p q = firstI 21 fun k => (asgK u.length 3).all (okP u t p q k) := rfl
  have ee : lpM u t p q = if 0 ≤ lpI u t p q then (lpI u t p q, true) else (0, false) := by simp [lpM, a, vp, vq]
  rw [ee, elp]
  clear ee elp
  simp
  refine loopX (inlT_mono _ _ _ _) 21 (fun i γ => [(8, .ptr 64 γ 0)]) (fun i γ => [⟨64, γ, .cells [I64 i]⟩]) (fun i _ => ∀ k, k < i → (asgK u.length 3).all (okP u t p q k) = false) 1 (by simp) (by simp) (by simp) (fun k γ g hk hP => ?_)
  simp [lb_81_4, wrap64 (n := (k : Int) + 1) (by omega) (by omega)]
  have lr : fm_repeatI.look [D.list 1 [D.int .i64 ((u.length : Int) - 1)], D.int .i64 3] = some (IO1 [(u.length : Int) - 1, (u.length : Int) - 1, (u.length : Int) - 1]) := fm_repeatI_look ((u.length : Int) - 1) 3 (by omega) (by omega)
  refine ⟨fun hk2 => ?_, fun hk2 => ?_⟩
  · simp [lr, callO16 (C := CI inlA) (id := 148) (fa := fa_148) rfl, fa_148, callO3T, inlA, wrap64 (n := (u.length : Int) - 1) (by omega) (by omega), callO16 (C := CI inlA) (id := 183) (fa := fa_183) rfl, fa_183]
    have hn0 := f.lat.pos
    have ebig : big = 1048576 * 1048576 := rfl
    refine ⟨by omega, ?_⟩
    refine loopX (inlT_mono _ _ _ _) (u.length * u.length * u.length) (fun _ _ => []) (fun i (s : Nat × Nat × Nat) => [⟨8064, g + 1, .arr 1 (ints [(s.1 : Int), (s.2.1 : Int), (s.2.2 : Int)])⟩, ⟨64, γ, .cells [I64 k]⟩, ⟨72, g, .cells [.bool ((List.range i).all fun j => okP u t p q k (gr (asgK u.length 3) j))]⟩]) (fun i s => s.1 < u.length ∧ s.2.1 < u.length ∧ s.2.2 < u.length ∧ i = (s.1 * u.length + s.2.1) * u.length + s.2.2) (0, 0, 0) (by simp) (by simp) ⟨hn0, hn0, hn0, by simp⟩ (fun i s g2 hi hS => ?_)
    obtain ⟨x, y, z⟩ := s
    obtain ⟨hx, hy, hz, ei⟩ := hS
    simp only at hx hy hz ei
    have eg := gr_asg3 hx hy hz
    rw [← ei] at eg
    have nm : NmOk (gr (asgK u.length 3) i) u.length := asg3_ok (mem_asg3.2 ⟨x, y, z, hx, hy, hz, eg⟩)
    generalize hacc : ((List.range i).all fun j => okP u t p q k (gr (asgK u.length 3) j)) = b
    have hvp : (ev1 u t (gr (asgK u.length 3) i) p).1 = (ev1 u t [(x : Int), (y : Int), (z : Int)] p).1 := by rw [eg]
    have ho1 := (ev1_ok f nm _ _ _ (Nat.le_refl _) vp.2).1
    have ho2 := (ev1_ok f nm _ _ _ (Nat.le_refl _) vq.2).1
    have eo : okP u t p q k (gr (asgK u.length 3) i) = tb u (powM u t (ev1 u t (gr (asgK u.length 3) i) p).1.toNat k).toNat (ev1 u t (gr (asgK u.length 3) i) q).1.toNat := rfl
    have hr := powM_rng f (x := (ev1 u t (gr (asgK u.length 3) i) p).1.toNat) (by omega) k
    rw [eg] at nm ho1 ho2 eo hr
    simp [lb_183_1, callO16 (C := CI inlA) (id := 155) (fa := fa_155) rfl, fa_155]
    have key : (b && okP u t p q k [(x : Int), (y : Int), (z : Int)]) = ((List.range (i + 1)).all fun j => okP u t p q k (gr (asgK u.length 3) j)) := by rw [all_succ, hacc, eg]
    generalize hb2 : ((List.range (i + 1)).all fun j => okP u t p q k (gr (asgK u.length 3) j)) = b2 at key
    have sm := f.lat.sm
    have l1 : (ev1 u t [(x : Int), (y : Int), (z : Int)] p).1.toNat < u.length := by omega
    have l2 : (ev1 u t [(x : Int), (y : Int), (z : Int)] q).1.toNat < u.length := by omega
    have l3 : (powM u t (ev1 u t [(x : Int), (y : Int), (z : Int)] p).1.toNat k).toNat < u.length := by omega
    cases b
    case' false =>
      obtain rfl : false = b2 := key
      simp [gops]
    case' false =>
      refine loopA (inlT_mono _ _ _ _) 3 (fun c => [(5, I64 (2 - (c : Int)))]) (fun c => [⟨8064, g + 1, .arr 1 (ints (rs x y z c))⟩, ⟨64, γ, .cells [I64 k]⟩, ⟨72, g, .cells [.bool ((List.range (i + 1)).all fun j => okP u t p q k (gr (asgK u.length 3) j))]⟩]) (fun c => dg x y z c = (u.length : Int) - 1) (by simp [w2]) (by simp [rs0, hb2]) (fun c g3 hc hQ => ?_)
      have c4 : c = 0 ∨ c = 1 ∨ c = 2 ∨ c = 3 := by omega
      simp only [hb2]
      rcases c4 with rfl | rfl | rfl | rfl
      · simp [lb_183_3, rs0, w2, w1, w0]
        refine cutWc (inlT_mono _ _ _ _) [(27, .bool (decide ((z : Int) = (u.length : Int) - 1)))] (by simp [gi, w2, w1, w0]) ?_
        rcases Classical.em ((z : Int) = (u.length : Int) - 1) with cz | cz
        · simp only [eq_true cz, decide_true]
          generalize hK : vQ _ _ _ _ _ _ _ _ _ = K0
          simp [w2, w1, w0, wm]
          subst hK
          rw [vQ_normal]
          refine ⟨by omega, ⟨by simp, by simp [rs1]⟩, cz⟩
        · simp only [eq_false cz, decide_false]
          generalize hK : wQ _ _ _ _ _ _ _ _ _ = K0
          simp [w2, w1, w0, wm]
          subst hK
          rw [wQ_normal]
          refine ⟨idx_lt hx hy hz ei, (x, y, z + 1), ⟨by simp, by simp [gi, hb2, wrap_succ (Nat.le_of_lt hz) hul]⟩, hx, hy, by show z + 1 < _; omega, by rw [ei]; rfl⟩
      · simp [lb_183_3, rs1, w2, w1, w0]
        refine cutWc (inlT_mono _ _ _ _) [(27, .bool (decide ((y : Int) = (u.length : Int) - 1)))] (by simp [gi, w2, w1, w0]) ?_
        rcases Classical.em ((y : Int) = (u.length : Int) - 1) with cz | cz
        · simp only [eq_true cz, decide_true]
          generalize hK : vQ _ _ _ _ _ _ _ _ _ = K0
          simp [w2, w1, w0, wm]
          subst hK
          rw [vQ_normal]
          refine ⟨by omega, ⟨by simp, by simp [rs2]⟩, cz⟩
        · simp only [eq_false cz, decide_false]
          generalize hK : wQ _ _ _ _ _ _ _ _ _ = K0
          simp [w2, w1, w0, wm]
          subst hK
          rw [wQ_normal]
          refine ⟨idx_lt hx hy hz ei, (x, y + 1, 0), ⟨by simp, by simp [gi, hb2, wrap_succ (Nat.le_of_lt hy) hul]⟩, hx, by show y + 1 < _; omega, hn0, idx_y ei (by have h0 : (z : Int) = (u.length : Int) - 1 := hQ 0 (by omega); omega)⟩
      · simp [lb_183_3, rs2, w2, w1, w0]
        refine cutWc (inlT_mono _ _ _ _) [(27, .bool (decide ((x : Int) = (u.length : Int) - 1)))] (by simp [gi, w2, w1, w0]) ?_
        rcases Classical.em ((x : Int) = (u.length : Int) - 1) with cz | cz
        · simp only [eq_true cz, decide_true]
          generalize hK : vQ _ _ _ _ _ _ _ _ _ = K0
          simp [w2, w1, w0, wm]
          subst hK
          rw [vQ_normal]
          refine ⟨by omega, ⟨by simp, by simp [rs3]⟩, cz⟩
        · simp only [eq_false cz, decide_false]
          generalize hK : wQ _ _ _ _ _ _ _ _ _ = K0
          simp [w2, w1, w0, wm]
          subst hK
          rw [wQ_normal]
          refine ⟨idx_lt hx hy hz ei, (x + 1, 0, 0), ⟨by simp, by simp [gi, hb2, wrap_succ (Nat.le_of_lt hx) hul]⟩, by show x + 1 < _; omega, hn0, hn0, idx_x ei (by have h0 : (y : Int) = (u.length : Int) - 1 := hQ 1 (by omega); omega) (by have h0 : (z : Int) = (u.length : Int) - 1 := hQ 0 (by omega); omega)⟩
      · simp [lb_183_3, rs3, w2, w1, w0, wm]
        refine cutWc (inlT_mono _ _ _ _) [(27, .bool false)] (by simp [gi, w2, w1, w0, wm]) ?_
        generalize hK : wQ _ _ _ _ _ _ _ _ _ = K0
        simp [w2, w1, w0, wm]
        subst hK
        rw [wQ_ret]
        have hA : (asgK u.length 3).all (okP u t p q k) = ((List.range (i + 1)).all fun j => okP u t p q k (gr (asgK u.length 3) j)) := by
          have e3 := idx_last ei (by have h0 : (x : Int) = (u.length : Int) - 1 := hQ 2 (by omega); omega) (by have h0 : (y : Int) = (u.length : Int) - 1 := hQ 1 (by omega); omega) (by have h0 : (z : Int) = (u.length : Int) - 1 := hQ 0 (by omega); omega)
          rw [all_rng, asgK_length, e3, Nat.pow_succ, Nat.pow_two]
        rw [hb2] at hA
        generalize hK : wQ _ _ _ _ _ _ _ _ _ = K1
        simp
        subst hK
        rw [wQ_normal]
        refine ⟨by omega, g3, ⟨by simp, by simp [wrap64 (n := (k : Int) + 1) (by omega) (by omega)]⟩, fun k' hk' => ?_⟩
        rcases Nat.lt_or_ge k' k with h | h
        · exact (by simpa using hP k' h)
        · obtain rfl : k' = k := by omega
          exact (by simpa using hA)
    case' true =>
      obtain rfl : okP u t p q k [(x : Int), (y : Int), (z : Int)] = b2 := by simpa using key
      simp [gops, callO3T, callDO3T, inlA, f, nm, hp, hq, vp.some, vq.some, h6, ho1, ho2, hr, l1, l2, l3, ← eo, show ((k : Int) ≤ 1000000) by omega]
      refine loopA (inlT_mono _ _ _ _) 3 (fun c => [(5, I64 (2 - (c : Int)))]) (fun c => [⟨8064, g + 1, .arr 1 (ints (rs x y z c))⟩, ⟨64, γ, .cells [I64 k]⟩, ⟨72, g, .cells [.bool ((List.range (i + 1)).all fun j => okP u t p q k (gr (asgK u.length 3) j))]⟩]) (fun c => dg x y z c = (u.length : Int) - 1) (by simp [w2]) (by simp [rs0, hb2]) (fun c g3 hc hQ => ?_)
      have c4 : c = 0 ∨ c = 1 ∨ c = 2 ∨ c = 3 := by omega
      simp only [hb2]
      rcases c4 with rfl | rfl | rfl | rfl
      · simp [lb_183_3, rs0, w2, w1, w0]
        refine cutWc (inlT_mono _ _ _ _) [(27, .bool (decide ((z : Int) = (u.length : Int) - 1)))] (by simp [gi, w2, w1, w0]) ?_
        rcases Classical.em ((z : Int) = (u.length : Int) - 1) with cz | cz
        · simp only [eq_true cz, decide_true]
          generalize hK : vQ _ _ _ _ _ _ _ _ _ = K0
          simp [w2, w1, w0, wm]
          subst hK
          rw [vQ_normal]
          refine ⟨by omega, ⟨by simp, by simp [rs1]⟩, cz⟩
        · simp only [eq_false cz, decide_false]
          generalize hK : wQ _ _ _ _ _ _ _ _ _ = K0
          simp [w2, w1, w0, wm]
          subst hK
          rw [wQ_normal]
          refine ⟨idx_lt hx hy hz ei, (x, y, z + 1), ⟨by simp, by simp [gi, hb2, wrap_succ (Nat.le_of_lt hz) hul]⟩, hx, hy, by show z + 1 < _; omega, by rw [ei]; rfl⟩
      · simp [lb_183_3, rs1, w2, w1, w0]
        refine cutWc (inlT_mono _ _ _ _) [(27, .bool (decide ((y : Int) = (u.length : Int) - 1)))] (by simp [gi, w2, w1, w0]) ?_
        rcases Classical.em ((y : Int) = (u.length : Int) - 1) with cz | cz
        · simp only [eq_true cz, decide_true]
          generalize hK : vQ _ _ _ _ _ _ _ _ _ = K0
          simp [w2, w1, w0, wm]
          subst hK
          rw [vQ_normal]
          refine ⟨by omega, ⟨by simp, by simp [rs2]⟩, cz⟩
        · simp only [eq_false cz, decide_false]
          generalize hK : wQ _ _ _ _ _ _ _ _ _ = K0
          simp [w2, w1, w0, wm]
          subst hK
          rw [wQ_normal]
          refine ⟨idx_lt hx hy hz ei, (x, y + 1, 0), ⟨by simp, by simp [gi, hb2, wrap_succ (Nat.le_of_lt hy) hul]⟩, hx, by show y + 1 < _; omega, hn0, idx_y ei (by have h0 : (z : Int) = (u.length : Int) - 1 := hQ 0 (by omega); omega)⟩
      · simp [lb_183_3, rs2, w2, w1, w0]
        refine cutWc (inlT_mono _ _ _ _) [(27, .bool (decide ((x : Int) = (u.length : Int) - 1)))] (by simp [gi, w2, w1, w0]) ?_
        rcases Classical.em ((x : Int) = (u.length : Int) - 1) with cz | cz
        · simp only [eq_true cz, decide_true]
          generalize hK : vQ _ _ _ _ _ _ _ _ _ = K0
          simp [w2, w1, w0, wm]
          subst hK
          rw [vQ_normal]
          refine ⟨by omega, ⟨by simp, by simp [rs3]⟩, cz⟩
        · simp only [eq_false cz, decide_false]
          generalize hK : wQ _ _ _ _ _ _ _ _ _ = K0
          simp [w2, w1, w0, wm]
          subst hK
          rw [wQ_normal]
          refine ⟨idx_lt hx hy hz ei, (x + 1, 0, 0), ⟨by simp, by simp [gi, hb2, wrap_succ (Nat.le_of_lt hx) hul]⟩, by show x + 1 < _; omega, hn0, hn0, idx_x ei (by have h0 : (y : Int) = (u.length : Int) - 1 := hQ 1 (by omega); omega) (by have h0 : (z : Int) = (u.length : Int) - 1 := hQ 0 (by omega); omega)⟩
      · simp [lb_183_3, rs3, w2, w1, w0, wm]
        refine cutWc (inlT_mono _ _ _ _) [(27, .bool false)] (by simp [gi, w2, w1, w0, wm]) ?_
        generalize hK : wQ _ _ _ _ _ _ _ _ _ = K0
        simp [w2, w1, w0, wm]
        subst hK
        rw [wQ_ret]
        have hA : (asgK u.length 3).all (okP u t p q k) = ((List.range (i + 1)).all fun j => okP u t p q k (gr (asgK u.length 3) j)) := by
          have e3 := idx_last ei (by have h0 : (x : Int) = (u.length : Int) - 1 := hQ 2 (by omega); omega) (by have h0 : (y : Int) = (u.length : Int) - 1 := hQ 1 (by omega); omega) (by have h0 : (z : Int) = (u.length : Int) - 1 := hQ 0 (by omega); omega)
          rw [all_rng, asgK_length, e3, Nat.pow_succ, Nat.pow_two]
        rw [hb2] at hA
        generalize hK : wQ _ _ _ _ _ _ _ _ _ = K1
        simp
        refine ⟨fun hX => ?_, fun hX => ?_⟩
        · subst hK
          rw [wQ_ret, firstI_some (z := k) (by omega) (hA.trans hX) hP]
          simp
        · subst hK
          rw [wQ_normal]
          refine ⟨by omega, g3, ⟨by simp, by simp [wrap64 (n := (k : Int) + 1) (by omega) (by omega)]⟩, fun k' hk' => ?_⟩
          rcases Nat.lt_or_ge k' k with h | h
          · exact (by simpa using hP k' h)
          · obtain rfl : k' = k := by omega
            exact (by simpa using hA.trans hX)
  · obtain rfl : k = 21 := by omega
    rw [firstI_none (fun j hj => hP j hj)]
    simp
noncomputable def fm_leastI : Fam Try.prog := mkFam (X := List Int × List (List Int) × List Int × List Int) 81 true (fun (u, t, p, q) => [AL u t, IL p, IL q]) (fun (u, t, p, q) => (Big u.length) ∧ (BigR t) ∧ (Big p.length) ∧ (Big q.length)) (fun (u, t, p, q) => .tup [I64 (lpM u t p q).1, .bool (lpM u t p q).2]) (by
  rintro ⟨u, t, p, q⟩ ⟨hu, ht, hp, hq⟩
  exact leastI_pc u t p q hu ht hp hq)
@[simp] theorem fm_leastI_id : fm_leastI.id = 81 := rfl
@[simp] theorem fm_leastI_fresh : fm_leastI.fresh = true := rfl
@[simp] theorem fm_leastI_look (u : List Int) (t : List (List Int)) (p q : List Int) (hu : Big u.length) (ht : BigR t) (hp : Big p.length) (hq : Big q.length) : fm_leastI.look [AL u t, IL p, IL q] = some (.tup [I64 (lpM u t p q).1, .bool (lpM u t p q).2]) :=
  lookF_of (X := List Int × List (List Int) × List Int × List Int) (args := fun (u, t, p, q) => [AL u t, IL p, IL q]) (pre := fun (u, t, p, q) => (Big u.length) ∧ (BigR t) ∧ (Big p.length) ∧ (Big q.length)) (val := fun (u, t, p, q) => .tup [I64 (lpM u t p q).1, .bool (lpM u t p q).2]) (by
  rintro ⟨u, t, p, q⟩ ⟨u', t', p', q'⟩ h
  simp at h
  try simp only [and_assoc] at h
  obtain ⟨rfl, rfl, rfl, rfl⟩ := h
  rfl) (u, t, p, q) ⟨hu, ht, hp, hq⟩
attribute [irreducible] fm_leastI

end Go.PS
end

section
-- All lists of so many numbers, one after the other: eachList, run in place for any function.
set_option maxRecDepth 100000
set_option linter.unusedVariables false
set_option linter.unusedSimpArgs false
namespace Go.PS
open Go.Proofs

/-- The digits of a number. -/
def dig (n : Nat) : Nat → Nat → List Int
  | 0, _ => []
  | m + 1, i => dig n m (i / n) ++ [((i % n : Nat) : Int)]
theorem dig_length (n : Nat) : ∀ m i, (dig n m i).length = m
  | 0, _ => rfl
  | m + 1, i => by simp [dig, dig_length n m]
theorem gr_asgK {n : Nat} (hn : 1 ≤ n) : ∀ m i, i < n ^ m → gr (asgK n m) i = dig n m i
  | 0, i, h => by
    obtain rfl : i = 0 := by simpa using h
    rfl
  | m + 1, i, h => by
    rw [Nat.pow_succ] at h
    have h1 : i / n < n ^ m := (Nat.div_lt_iff_lt_mul (by omega)).2 h
    have h2 : i % n < n := Nat.mod_lt _ (by omega)
    have e : i = i / n * n + i % n := by rw [Nat.mul_comm]; exact (Nat.div_add_mod i n).symm
    rw [asgK, dig, ← gr_asgK hn m (i / n) h1]
    conv => lhs; rw [e]
    exact gr_nxt (by rw [asgK_length]; exact h1) h2
theorem dig_zero (n : Nat) : ∀ m, dig n m 0 = List.replicate m 0
  | 0 => rfl
  | m + 1 => by rw [dig, Nat.zero_div, Nat.zero_mod, dig_zero n m, List.replicate_succ']; rfl
theorem dig_mul {n : Nat} (hn : 1 ≤ n) : ∀ c m q, c ≤ m → dig n m (q * n ^ c) = dig n (m - c) q ++ List.replicate c 0
  | 0, m, q, _ => by simp
  | c + 1, 0, q, h => by omega
  | c + 1, m + 1, q, h => by
    have e : q * n ^ (c + 1) = q * n ^ c * n := by rw [Nat.pow_succ, Nat.mul_assoc]
    rw [dig, e, Nat.mul_div_cancel _ (by omega), Nat.mul_mod_left, dig_mul hn c m q (by omega), List.append_assoc, show m + 1 - (c + 1) = m - c by omega, List.replicate_succ']
    rfl

/-- The list after resets. -/
def rsD (n m c i : Nat) : List Int := dig n (m - c) (i / n ^ c) ++ List.replicate c 0
theorem rsD_length {n m c i : Nat} (hc : c ≤ m) : (rsD n m c i).length = m := by simp [rsD, dig_length]; omega
theorem rsD_zero {n m i : Nat} : rsD n m 0 i = dig n m i := by simp [rsD]
theorem rsD_split {n m c i : Nat} (hc : c < m) : rsD n m c i = dig n (m - (c + 1)) (i / n ^ (c + 1)) ++ ((i / n ^ c % n : Nat) : Int) :: List.replicate c 0 := by
  have e : m - c = (m - (c + 1)) + 1 := by omega
  rw [rsD, e, dig, Nat.div_div_eq_div_mul, ← Nat.pow_succ, List.append_assoc]
  rfl
theorem rsD_gi {n m c i : Nat} (hc : c < m) : gi (rsD n m c i) (m - (c + 1)) = ((i / n ^ c % n : Nat) : Int) := by
  rw [rsD_split hc, gi, List.getElem?_append_right (by rw [dig_length]; exact Nat.le_refl _), dig_length, Nat.sub_self]
  rfl
theorem rsD_set {n m c i : Nat} (hc : c < m) (v : Int) : (rsD n m c i).set (m - (c + 1)) v = dig n (m - (c + 1)) (i / n ^ (c + 1)) ++ v :: List.replicate c 0 := by
  rw [rsD_split hc, List.set_append_right _ _ (by rw [dig_length]; exact Nat.le_refl _), dig_length, Nat.sub_self]
  rfl
theorem rsD_succ {n m c i : Nat} (hc : c < m) : (rsD n m c i).set (m - (c + 1)) 0 = rsD n m (c + 1) i := by
  rw [rsD_set hc, rsD, List.replicate_succ]
/-- All digits that were reset were the greatest. -/
def allT (n i c : Nat) : Prop := i + 1 = (i / n ^ c + 1) * n ^ c
theorem allT_zero {n i : Nat} : allT n i 0 := by simp [allT]
theorem allT_succ {n i c : Nat} (hn : 1 ≤ n) (h : allT n i c) (hd : i / n ^ c % n + 1 = n) : allT n i (c + 1) := by
  unfold allT at *
  have e : i / n ^ (c + 1) = i / n ^ c / n := by rw [Nat.div_div_eq_div_mul, ← Nat.pow_succ]
  have h1 : i / n ^ c + 1 = (i / n ^ c / n + 1) * n := by
    have := Nat.div_add_mod (i / n ^ c) n
    rw [Nat.add_mul, Nat.one_mul, Nat.mul_comm]
    omega
  rw [e, Nat.pow_succ, Nat.mul_comm (n ^ c) n, ← Nat.mul_assoc, ← h1]
  exact h
theorem allT_end {n i m : Nat} (h : allT n i m) (hi : i < n ^ m) : i + 1 = n ^ m := by
  unfold allT at h
  rw [Nat.div_eq_of_lt hi] at h
  omega
theorem rsD_next {n i c m : Nat} (hn : 1 ≤ n) (hc : c < m) (h : allT n i c) (hd : i / n ^ c % n + 1 < n) : (rsD n m c i).set (m - (c + 1)) (((i / n ^ c % n : Nat) : Int) + 1) = dig n m (i + 1) := by
  rw [rsD_set hc]
  rw [show i + 1 = (i / n ^ c + 1) * n ^ c from h, dig_mul hn c m _ (by omega), show m - c = (m - (c + 1)) + 1 by omega, dig]
  have e1 : (i / n ^ c + 1) % n = i / n ^ c % n + 1 := by rw [Nat.add_mod, Nat.mod_eq_of_lt (show 1 < n by omega), Nat.mod_eq_of_lt hd]
  have e2 : (i / n ^ c + 1) / n = i / n ^ (c + 1) := by
    have h1 := Nat.div_add_mod (i / n ^ c) n
    have h2 := Nat.div_add_mod (i / n ^ c + 1) n
    rw [Nat.pow_succ, ← Nat.div_div_eq_div_mul]
    rw [e1] at h2
    have : n * ((i / n ^ c + 1) / n) = n * (i / n ^ c / n) := by omega
    exact Nat.eq_of_mul_eq_mul_left (by omega) this
  rw [e1, e2, List.append_assoc]
  rfl
theorem next_lt {n i c m : Nat} (hn : 1 ≤ n) (hc : c < m) (hi : i < n ^ m) (h : allT n i c) (hd : i / n ^ c % n + 1 < n) : i + 1 < n ^ m := by
  have e : n ^ m = n ^ (m - c) * n ^ c := by rw [← Nat.pow_add]; congr 1; omega
  have hp : 0 < n ^ c := Nat.pow_pos (by omega)
  rw [show i + 1 = (i / n ^ c + 1) * n ^ c from h, e]
  refine (Nat.mul_lt_mul_right hp).2 ?_
  have h1 : i / n ^ c < n ^ (m - c) := (Nat.div_lt_iff_lt_mul hp).2 (by rw [← e]; exact hi)
  rcases Nat.lt_or_ge (i / n ^ c + 1) (n ^ (m - c)) with q | q
  · exact q
  · exfalso
    have e2 : i / n ^ c + 1 = n ^ (m - (c + 1)) * n := by rw [← Nat.pow_succ, show (m - (c + 1)).succ = m - c by omega]; omega
    have e1 : (i / n ^ c + 1) % n = i / n ^ c % n + 1 := by rw [Nat.add_mod, Nat.mod_eq_of_lt (show 1 < n by omega), Nat.mod_eq_of_lt hd]
    rw [e2, Nat.mul_mod_left] at e1
    omega
theorem digit_lt {n i c : Nat} (hn : 1 ≤ n) : i / n ^ c % n < n := Nat.mod_lt _ (by omega)

/-- What eachList's loops keep. -/
def KL : List Nat := [12160, 8064, 4064, 8, 16, 24, 32, 40, 48, 56, 64, 72, 80, 88, 96, 104, 112, 120, 128]

set_option maxHeartbeats 1000000 in
theorem eachList_run {f : Nat → Option FnA} {T : List (Fam Try.prog)} {dep kb : Nat} {K : D → List Ent → Nat → Prop} {α : Type} {n m : Nat} (hn : 1 ≤ n) (h6 : n ≤ 6) (hm6 : m ≤ 6) {fid : Nat} {caps : List D} {h0 : List Ent} {g0 : Nat}
    (H : α → List Int → List Ent) (P : Nat → α → Prop) (x0 : α)
    (hH0 : keepH KL (⟨kb + 64, g0, .arr 1 (ints (List.replicate m 0))⟩ :: hdel h0 (kb + 64)) = H x0 (List.replicate m 0))
    (hset1 : ∀ x l l', hset (H x l) (kb + 64) g0 (.arr 1 (ints l')) = H x l') (hfind : ∀ x l, find (H x l) (kb + 64) g0 = some (.arr 1 (ints l))) (hkeep : ∀ x l, keepH KL (H x l) = H x l) (hP0 : P 0 x0)
    (step : ∀ i x t g (Q : St → Prop), i < n ^ m → P i x → (∀ x' d h' g', P (i + 1) x' → find h' (kb + 64) g0 = some (.arr 1 (ints (dig n m i))) → keepH KL h' = H x' (dig n m i) → Q ⟨put t (some 11) d, h', g'⟩) →
      callO (CI f) kb (inlT (CI f) T dep kb) (some 11) 16 (.fn fid caps) [.arr (kb + 64) g0] ⟨t, H x (dig n m i), g⟩ [] Q)
    (fin : ∀ x g, P (n ^ m) x → K (.tup []) (H x (List.replicate m 0)) g) :
    run (CI f) kb (inlT (CI f) T dep kb) fa_183.ac (inlQ (CI f).tt fa_183.res K) ⟨args0 0 [IL (List.replicate m ((n : Int) - 1)), .fn fid caps], h0, g0⟩ := by
  have ebig : big = 1048576 * 1048576 := rfl
  have eKL : [12160, 8064, 4064, 8, 16, 24, 32, 40, 48, 56, 64, 72, 80, 88, 96, 104, 112, 120, 128] = KL := rfl
  have hpow : 0 < n ^ m := Nat.pow_pos (by omega)
  simp [fa_183, -keepH, eKL]
  refine ⟨by omega, ?_⟩
  refine loopX (inlT_mono _ _ _ _) (n ^ m) (fun _ _ => []) (fun i x => H x (dig n m i)) (fun i x => i < n ^ m ∧ P i x) x0 (by simp) (by simp only [hH0, dig_zero]) ⟨hpow, hP0⟩ (fun i x g hi hS => ?_)
  have hi0 := hi
  obtain ⟨hi, hP⟩ := hS
  have hi0 : i < n ^ m := hi
  simp [lb_183_1, -keepH, eKL]
  refine step i x _ g _ hi hP (fun x' d h' g' hP' hf' hk' => ?_)
  simp [hf', dig_length, wrap64 (n := (m : Int) - 1) (by omega) (by omega), -keepH, eKL]
  refine loopA (inlT_mono _ _ _ _) m (fun c => [(5, I64 ((m : Int) - 1 - c))]) (fun c => H x' (rsD n m c i)) (fun c => i / n ^ c % n + 1 = n) (by simp) (by simp only [hk', rsD_zero]) (fun c g3 hc hQ => ?_)
  have hall : allT n i c := by
    clear hc
    induction c with
    | zero => exact allT_zero
    | succ c ih => exact allT_succ hn (ih (fun j hj => hQ j (by omega))) (hQ c (by omega))
  have hdl := digit_lt (n := n) (i := i) (c := c) hn
  have etn : ((m : Int) - 1 - c).toNat = m - (c + 1) := by omega
  simp [lb_183_3, -keepH, eKL]
  rcases Nat.lt_or_ge c m with hcm | hcm
  · have hge : (0 : Int) ≤ (m : Int) - 1 - c := by omega
    have hge2 : (c : Int) ≤ (m : Int) - 1 := by omega
    have hlt : (m : Int) - 1 - c < m := by omega
    have hgm : gi (List.replicate m ((n : Int) - 1)) (m - (c + 1)) = (n : Int) - 1 := by simp [gi, List.getElem?_replicate, show m - (c + 1) < m by omega]
    have hgi := rsD_gi (n := n) (i := i) hcm
    have hnx : i / n ^ c % n + 1 < n → (rsD n m c i).set (m - (c + 1)) (((i / n ^ c % n : Nat) : Int) + 1) = dig n m (i + 1) := fun h => rsD_next hn hcm hall h
    have hlt2 : i / n ^ c % n + 1 < n → i + 1 < n ^ m := fun h => next_lt hn hcm hi hall h
    have hQc : i / n ^ c % n + 1 = n → ((fun c => i / n ^ c % n + 1 = n) c) := fun h => h
    generalize hdv : i / n ^ c % n = dv at *
    refine cutWc (inlT_mono _ _ _ _) [(27, .bool (decide (dv + 1 = n)))] (by
      simp [hfind, rsD_length hc, hge, hge2, hlt, etn, hgm, hgi, show m - (c + 1) < m by omega, -keepH, eKL]
      omega) ?_
    rcases Classical.em (dv + 1 = n) with cz | cz
    · simp only [eq_true cz, decide_true]
      generalize hK : vQ _ _ _ _ _ _ _ _ _ = K0
      simp [hfind, hset1, rsD_length hc, hge, hge2, hlt, etn, rsD_succ hcm, show m - (c + 1) < m by omega, wrap64 (n := (m : Int) - 1 - c - 1) (by omega) (by omega), -keepH, eKL]
      subst hK
      rw [vQ_normal]
      refine ⟨hcm, ⟨by simp; omega, by simp only [hkeep]⟩, hQc cz⟩
    · simp only [eq_false cz, decide_false]
      have hnx := hnx (by omega)
      have hlt2 := hlt2 (by omega)
      generalize hK : wQ _ _ _ _ _ _ _ _ _ = K0
      simp [hfind, hset1, rsD_length hc, hge, hge2, hlt, etn, hgi, show m - (c + 1) < m by omega, show ¬ ((m : Int) - 1 - c < 0) by omega, show ¬ ((m : Int) - 1 < c) by omega, wrap64 (n := (dv : Int) + 1) (by omega) (by omega), -keepH, eKL]
      subst hK
      rw [wQ_normal]
      refine ⟨hi0, x', ⟨by simp, ?_⟩, hlt2, hP'⟩
      simp only [hkeep, hnx]
  · obtain rfl : c = m := by omega
    have hend := allT_end hall hi
    have hneg : ¬ ((0 : Int) ≤ (c : Int) - 1 - c) := by omega
    have hneg2 : ¬ ((c : Int) ≤ (c : Int) - 1) := by omega
    refine cutWc (inlT_mono _ _ _ _) [(27, .bool false)] (by simp [hneg, hneg2, -keepH, eKL]) ?_
    generalize hK : wQ _ _ _ _ _ _ _ _ _ = K0
    simp [show ((c : Int) - 1 - c < 0) by omega, show ((c : Int) - 1 < c) by omega, -keepH, eKL]
    subst hK
    rw [wQ_ret]
    have e : rsD n c c i = List.replicate c 0 := by simp [rsD, dig]
    simp [e]
    refine fin x' g3 ?_
    rw [← hend]; exact hP'
end Go.PS
end

section
-- PRINTED by gen.py: clean texts of functions, and their tie to the program.
set_option maxRecDepth 100000
namespace Go.PS
open Go.Proofs
/-- spec.RefuteTerm -/
def an_79 : Ann := ⟨[(1, 1, 3), (1, 5, 3), (3, 3, 3), (7, 6, 3)], [(0, [1, 2]), (1, [1, 2, 15]), (2, [4, 5]), (3, [1, 2, 6]), (4, [1, 2, 6, 7]), (5, [1, 2, 6, 7, 23]), (7, [1, 2, 6, 7, 37]), (8, [4, 5]), (6, [1, 2, 6, 7]), (9, [4, 5])], [(5, [1, 2, 6, 7], [])], []⟩
def lb_79_5 : AC :=
  (.seq
    (.seq
      (.region false [⟨some 20, (.mv (.t 7)), 3, none, 0⟩, ⟨some 21, (.mv (.t 6)), 25, none, 0⟩, ⟨some 22, (.len 25 (.t 21)), 3, none, 0⟩, ⟨some 23, (.bin .lss 3 (.t 20) (.t 22)), 4, none, 0⟩] (some [1, 2, 6, 7, 23]))
      (.cond (.t 23)
        .skip
        (.exit 0)))
    (.seq
      (.block 1
        (.seq
          (.region true [⟨some 26, (.load 27 (.t 2)), 27, none, 0⟩, ⟨some 27, (.mv (.t 1)), 23, none, 0⟩, ⟨some 28, (.mv (.t 6)), 25, none, 0⟩, ⟨some 29, (.mv (.t 7)), 3, none, 0⟩, ⟨some 30, (.iaddr 25 (.t 28) (.t 29)), 0, none, 0⟩, ⟨some 31, (.load 23 (.t 30)), 23, none, 0⟩, ⟨some 32, (.call (.f 142) [(.t 26), (.t 27), (.c (.int .i64 0)), (.t 31)]), 3, none, 3⟩, ⟨some 33, (.faddr 27 (.t 2) 0), 0, none, 0⟩, ⟨some 34, (.load 23 (.t 33)), 23, none, 0⟩, ⟨some 35, (.len 23 (.t 34)), 3, none, 0⟩, ⟨some 36, (.bin .sub 3 (.t 35) (.c (.int .i64 1))), 3, none, 0⟩, ⟨some 37, (.bin .neq 3 (.t 32) (.t 36)), 4, none, 0⟩] (some [1, 2, 6, 7, 37]))
          (.cond (.t 37)
            (.seq
              (.region false [⟨some 38, (.mv (.t 6)), 25, none, 0⟩, ⟨some 39, (.mv (.t 7)), 3, none, 0⟩, ⟨some 40, (.iaddr 25 (.t 38) (.t 39)), 0, none, 0⟩, ⟨some 41, (.load 23 (.t 40)), 23, none, 0⟩, ⟨some 4, (.mv (.t 41)), 23, none, 0⟩, ⟨some 5, (.mv (.c (.bool true))), 4, none, 0⟩] (some [4, 5]))
              .ret)
            .skip)))
      (.region false [⟨some 24, (.mv (.t 7)), 3, none, 0⟩, ⟨some 25, (.bin .add 3 (.t 24) (.c (.int .i64 1))), 3, none, 0⟩, ⟨some 7, (.mv (.t 25)), 3, none, 0⟩] (some [1, 2, 6, 7]))))
def fa_79 : FnA := ⟨42, [.t 4, .t 5],
  (.seq
    (.region false [⟨some 2, (.box 27 (.t 0)), 0, none, 0⟩, ⟨some 4, (.mv (.c .nil)), 23, none, 0⟩, ⟨some 5, (.mv (.c (.bool false))), 4, none, 0⟩] (some [1, 2]))
    (.seq
      (.seq
        (.region false (gops [⟨some 8, (.load 27 (.t 2)), 27, none, 0⟩, ⟨some 9, (.call (.f 111) [(.t 8)]), 4, none, 3⟩, ⟨some 10, (.un .not (.t 9)), 4, none, 0⟩, ⟨some 11, (.mv (.t 10)), 4, none, 0⟩, ⟨some 12, (.mv (.t 1)), 23, some (11, false), 0⟩, ⟨some 13, (.call (.f 140) [(.t 12)]), 4, some (11, false), 3⟩, ⟨some 14, (.un .not (.t 13)), 4, some (11, false), 0⟩, ⟨some 15, (.pick (.t 11) (.c (.bool true)) (.t 14)), 4, none, 0⟩]) (some [1, 2, 15]))
        (.cond (.t 15)
          (.seq
            (.region false [⟨some 4, (.mv (.c .nil)), 23, none, 0⟩, ⟨some 5, (.mv (.c (.bool false))), 4, none, 0⟩] (some [4, 5]))
            .ret)
          .skip))
      (.seq
        (.region false [⟨some 16, (.faddr 27 (.t 2) 0), 0, none, 0⟩, ⟨some 17, (.load 23 (.t 16)), 23, none, 0⟩, ⟨some 18, (.len 23 (.t 17)), 3, none, 0⟩, ⟨some 19, (.call (.f 150) [(.t 18)]), 25, none, 3⟩, ⟨some 6, (.mv (.t 19)), 25, none, 0⟩] (some [1, 2, 6]))
        (.seq
          (.seq
            (.region false [⟨some 7, (.mv (.c (.int .i64 0))), 3, none, 0⟩] (some [1, 2, 6, 7]))
            (.block 0
              (.loop [1, 2, 6, 7] [] lb_79_5)))
          (.seq
            (.region false [⟨some 4, (.mv (.c .nil)), 23, none, 0⟩, ⟨some 5, (.mv (.c (.bool false))), 4, none, 0⟩] (some [4, 5]))
            .ret)))))⟩
theorem fok_79 : FnOk Try.prog 79 fa_79 an_79 := ⟨Try.f79, _, Try.func79, rfl, by kernel_rfl, rfl, rfl, by decide, by kernel_rfl⟩
/-- slices.Clone(()int,int) -/
def an_154 : Ann := ⟨[(3, 0, 1)], [(0, [0]), (1, [0, 4]), (2, [2]), (3, [2])], [], []⟩
def fa_154 : FnA := ⟨8, [.t 2],
  (.seq
    (.region false [⟨some 2, (.mv (.c .nil)), 23, none, 0⟩] (some [0]))
    (.seq
      (.seq
        (.region false [⟨some 3, (.mv (.t 0)), 23, none, 0⟩, ⟨some 4, (.bin .eql 23 (.t 3) (.c .nil)), 4, none, 0⟩] (some [0, 4]))
        (.cond (.t 4)
          (.seq
            (.region false [⟨some 2, (.mv (.c .nil)), 23, none, 0⟩] (some [2]))
            .ret)
          .skip))
      (.seq
        (.region false [⟨some 5, (.bslice 23 0 []), 23, none, 1⟩, ⟨some 6, (.mv (.t 0)), 23, none, 0⟩, ⟨some 7, (.app 23 23 (.t 5) (.t 6)), 23, none, 0⟩, ⟨some 2, (.mv (.t 7)), 23, none, 0⟩] (some [2]))
        .ret)))⟩
theorem fok_154 : FnOk Try.prog 154 fa_154 an_154 := ⟨Try.f154, _, Try.func154, rfl, by kernel_rfl, rfl, rfl, by decide, by kernel_rfl⟩
/-- impl.RefuteTerm$1 -/
def an_153 : Ann := ⟨[(0, 6, 3), (1, 1, 1)], [(0, [0, 1, 4, 18]), (1, [])], [], []⟩
def fa_153 : FnA := ⟨21, [],
  (.seq
    (.region true (gops [⟨some 6, (.load 4 (.t 1)), 4, none, 0⟩, ⟨some 7, (.un .not (.t 6)), 4, none, 0⟩, ⟨some 8, (.mv (.t 7)), 4, none, 0⟩, ⟨some 9, (.load 27 (.t 2)), 27, some (8, true), 0⟩, ⟨some 10, (.load 23 (.t 3)), 23, some (8, true), 0⟩, ⟨some 11, (.mv (.t 0)), 23, some (8, true), 0⟩, ⟨some 12, (.call (.f 139) [(.t 9), (.t 10), (.t 11)]), 3, some (8, true), 3⟩, ⟨some 13, (.faddr 27 (.t 2) 0), 0, some (8, true), 0⟩, ⟨some 14, (.load 23 (.t 13)), 23, some (8, true), 0⟩, ⟨some 15, (.len 23 (.t 14)), 3, some (8, true), 0⟩, ⟨some 16, (.bin .sub 3 (.t 15) (.c (.int .i64 1))), 3, some (8, true), 0⟩, ⟨some 17, (.bin .neq 3 (.t 12) (.t 16)), 4, some (8, true), 0⟩, ⟨some 18, (.pick (.t 8) (.t 17) (.c (.bool false))), 4, none, 0⟩]) (some [0, 1, 4, 18]))
    (.cond (.t 18)
      (.region false [⟨some 19, (.mv (.t 0)), 23, none, 0⟩, ⟨some 20, (.call (.f 154) [(.t 19)]), 23, none, 1⟩, ⟨none, (.store 23 (.t 4) (.t 20)), 0, none, 0⟩, ⟨none, (.store 4 (.t 1) (.c (.bool true))), 0, none, 0⟩] (some []))
      .skip))⟩
theorem fok_153 : FnOk Try.prog 153 fa_153 an_153 := ⟨Try.f153, _, Try.func153, rfl, by kernel_rfl, rfl, rfl, by decide, by kernel_rfl⟩
/-- impl.RefuteTerm -/
def an_78 : Ann := ⟨[(1, 1, 3), (1, 5, 3), (4, 2, 16)], [(0, [2, 3]), (1, [2, 3, 15]), (2, [4, 5]), (3, [2, 3, 6, 7]), (4, [6, 7]), (5, [6, 21]), (6, [4, 5]), (7, [4, 5])], [], []⟩
def fa_78 : FnA := ⟨23, [.t 4, .t 5],
  (.seq
    (.region false [⟨some 2, (.box 27 (.t 0)), 0, none, 0⟩, ⟨some 3, (.box 23 (.t 1)), 0, none, 0⟩, ⟨some 4, (.mv (.c .nil)), 23, none, 0⟩, ⟨some 5, (.mv (.c (.bool false))), 4, none, 0⟩] (some [2, 3]))
    (.seq
      (.seq
        (.region false (gops [⟨some 8, (.load 27 (.t 2)), 27, none, 0⟩, ⟨some 9, (.call (.f 23) [(.t 8)]), 4, none, 3⟩, ⟨some 10, (.un .not (.t 9)), 4, none, 0⟩, ⟨some 11, (.mv (.t 10)), 4, none, 0⟩, ⟨some 12, (.load 23 (.t 3)), 23, some (11, false), 0⟩, ⟨some 13, (.call (.f 75) [(.t 12)]), 4, some (11, false), 3⟩, ⟨some 14, (.un .not (.t 13)), 4, some (11, false), 0⟩, ⟨some 15, (.pick (.t 11) (.c (.bool true)) (.t 14)), 4, none, 0⟩]) (some [2, 3, 15]))
        (.cond (.t 15)
          (.seq
            (.region false [⟨some 4, (.mv (.c .nil)), 23, none, 0⟩, ⟨some 5, (.mv (.c (.bool false))), 4, none, 0⟩] (some [4, 5]))
            .ret)
          .skip))
      (.seq
        (.region false [⟨some 16, (.bslice 23 0 []), 23, none, 0⟩, ⟨some 6, (.alloc 23), 0, none, 0⟩, ⟨some 7, (.alloc 4), 0, none, 0⟩, ⟨none, (.store 23 (.t 6) (.t 16)), 0, none, 0⟩, ⟨none, (.store 4 (.t 7) (.c (.bool false))), 0, none, 0⟩] (some [2, 3, 6, 7]))
        (.seq
          (.region false [⟨some 17, (.load 27 (.t 2)), 27, none, 0⟩, ⟨some 18, (.mkfn 153 [(.t 7), (.t 2), (.t 3), (.t 6)]), 94, none, 0⟩, ⟨some 19, (.call (.f 148) [(.t 17), (.t 18)]), 0, none, 16⟩] (some [6, 7]))
          (.seq
            (.seq
              (.region false [⟨some 20, (.load 4 (.t 7)), 4, none, 0⟩, ⟨some 21, (.un .not (.t 20)), 4, none, 0⟩] (some [6, 21]))
              (.cond (.t 21)
                (.seq
                  (.region false [⟨some 4, (.mv (.c .nil)), 23, none, 0⟩, ⟨some 5, (.mv (.c (.bool false))), 4, none, 0⟩] (some [4, 5]))
                  .ret)
                .skip))
            (.seq
              (.region false [⟨some 22, (.load 23 (.t 6)), 23, none, 0⟩, ⟨some 4, (.mv (.t 22)), 23, none, 0⟩, ⟨some 5, (.mv (.c (.bool true))), 4, none, 0⟩] (some [4, 5]))
              .ret))))))⟩
theorem fok_78 : FnOk Try.prog 78 fa_78 an_78 := ⟨Try.f78, _, Try.func78, rfl, by kernel_rfl, rfl, rfl, by decide, by kernel_rfl⟩
/-- impl.IsTrue -/
def an_76 : Ann := ⟨[(1, 2, 3), (2, 1, 3), (2, 4, 3)], [(0, [1, 2]), (1, [1, 2, 6]), (2, [4])], [], []⟩
def fa_76 : FnA := ⟨23, [.t 4],
  (.seq
    (.region false [⟨some 2, (.box 27 (.t 0)), 0, none, 0⟩, ⟨some 4, (.mv (.c (.bool false))), 4, none, 0⟩] (some [1, 2]))
    (.seq
      (.region false [⟨some 8, (.load 27 (.t 2)), 27, none, 0⟩, ⟨some 9, (.mv (.t 1)), 23, none, 0⟩, ⟨some 10, (.call (.f 78) [(.t 8), (.t 9)]), 62, none, 3⟩, ⟨some 7, (.mv (.t 10)), 62, none, 0⟩, ⟨some 11, (.ext (.t 7) 0), 23, none, 0⟩, ⟨some 12, (.ext (.t 7) 1), 4, none, 0⟩, ⟨some 5, (.mv (.t 11)), 23, none, 0⟩, ⟨some 6, (.mv (.t 12)), 4, none, 0⟩] (some [1, 2, 6]))
      (.seq
        (.region false (gops [⟨some 13, (.load 27 (.t 2)), 27, none, 0⟩, ⟨some 14, (.call (.f 23) [(.t 13)]), 4, none, 3⟩, ⟨some 15, (.mv (.t 14)), 4, none, 0⟩, ⟨some 16, (.mv (.t 1)), 23, some (15, true), 0⟩, ⟨some 17, (.call (.f 75) [(.t 16)]), 4, some (15, true), 3⟩, ⟨some 18, (.pick (.t 15) (.t 17) (.c (.bool false))), 4, none, 0⟩, ⟨some 19, (.mv (.t 18)), 4, none, 0⟩, ⟨some 20, (.mv (.t 6)), 4, some (19, true), 0⟩, ⟨some 21, (.un .not (.t 20)), 4, some (19, true), 0⟩, ⟨some 22, (.pick (.t 19) (.t 21) (.c (.bool false))), 4, none, 0⟩, ⟨some 4, (.mv (.t 22)), 4, none, 0⟩]) (some [4]))
        .ret)))⟩
theorem fok_76 : FnOk Try.prog 76 fa_76 an_76 := ⟨Try.f76, _, Try.func76, rfl, by kernel_rfl, rfl, rfl, by decide, by kernel_rfl⟩
end Go.PS
end

section
-- PRINTED by gen.py: clean texts of functions, and their tie to the program.
set_option maxRecDepth 100000
namespace Go.PS
open Go.Proofs

end Go.PS
end

section
-- PRINTED by gen.py: clean texts of functions, and their tie to the program.
set_option maxRecDepth 100000
namespace Go.PS
open Go.Proofs
/-- spec.Follows -/
def an_74 : Ann := ⟨[(1, 1, 3), (1, 5, 3), (1, 10, 3), (4, 3, 3), (8, 6, 3), (8, 16, 3)], [(0, [1, 2, 3]), (1, [1, 2, 3, 22]), (2, [6]), (3, [1, 2, 3, 7]), (4, [1, 2, 3, 7, 8]), (5, [1, 2, 3, 7, 8, 9]), (6, [1, 2, 3, 7, 8, 9, 34]), (8, [1, 2, 3, 7, 8, 9, 56]), (9, [6]), (7, [1, 2, 3, 7, 8, 9]), (10, [6])], [(6, [1, 2, 3, 7, 8, 9], [])], []⟩
def lb_74_6 : AC :=
  (.seq
    (.seq
      (.region false [⟨some 31, (.mv (.t 9)), 3, none, 0⟩, ⟨some 32, (.mv (.t 8)), 25, none, 0⟩, ⟨some 33, (.len 25 (.t 32)), 3, none, 0⟩, ⟨some 34, (.bin .lss 3 (.t 31) (.t 33)), 4, none, 0⟩] (some [1, 2, 3, 7, 8, 9, 34]))
      (.cond (.t 34)
        .skip
        (.exit 0)))
    (.seq
      (.block 1
        (.seq
          (.region true (gops (seg [1, 2, 3, 7, 8, 9, 46] [⟨some 37, (.load 27 (.t 3)), 27, none, 0⟩, ⟨some 38, (.mv (.t 1)), 23, none, 0⟩, ⟨some 39, (.mv (.t 8)), 25, none, 0⟩, ⟨some 40, (.mv (.t 9)), 3, none, 0⟩, ⟨some 41, (.iaddr 25 (.t 39) (.t 40)), 0, none, 0⟩, ⟨some 42, (.load 23 (.t 41)), 23, none, 0⟩, ⟨some 43, (.call (.f 142) [(.t 37), (.t 38), (.c (.int .i64 0)), (.t 42)]), 3, none, 3⟩, ⟨some 44, (.mv (.t 7)), 3, none, 0⟩, ⟨some 45, (.bin .eql 3 (.t 43) (.t 44)), 4, none, 0⟩, ⟨some 46, (.mv (.t 45)), 4, none, 0⟩]
          [⟨some 47, (.load 27 (.t 3)), 27, some (46, true), 0⟩, ⟨some 48, (.mv (.t 2)), 23, some (46, true), 0⟩, ⟨some 49, (.mv (.t 8)), 25, some (46, true), 0⟩, ⟨some 50, (.mv (.t 9)), 3, some (46, true), 0⟩, ⟨some 51, (.iaddr 25 (.t 49) (.t 50)), 0, some (46, true), 0⟩, ⟨some 52, (.load 23 (.t 51)), 23, some (46, true), 0⟩, ⟨some 53, (.call (.f 142) [(.t 47), (.t 48), (.c (.int .i64 0)), (.t 52)]), 3, some (46, true), 3⟩, ⟨some 54, (.mv (.t 7)), 3, some (46, true), 0⟩, ⟨some 55, (.bin .neq 3 (.t 53) (.t 54)), 4, some (46, true), 0⟩, ⟨some 56, (.pick (.t 46) (.t 55) (.c (.bool false))), 4, none, 0⟩] [1, 2, 3, 7, 8, 9, 56] (by decide))) (some [1, 2, 3, 7, 8, 9, 56]))
          (.cond (.t 56)
            (.seq
              (.region false [⟨some 6, (.mv (.c (.bool false))), 4, none, 0⟩] (some [6]))
              .ret)
            .skip)))
      (.region false [⟨some 35, (.mv (.t 9)), 3, none, 0⟩, ⟨some 36, (.bin .add 3 (.t 35) (.c (.int .i64 1))), 3, none, 0⟩, ⟨some 9, (.mv (.t 36)), 3, none, 0⟩] (some [1, 2, 3, 7, 8, 9]))))
def fa_74 : FnA := ⟨57, [.t 6],
  (.seq
    (.region false [⟨some 3, (.box 27 (.t 0)), 0, none, 0⟩, ⟨some 6, (.mv (.c (.bool false))), 4, none, 0⟩] (some [1, 2, 3]))
    (.seq
      (.seq
        (.region false (gops [⟨some 10, (.load 27 (.t 3)), 27, none, 0⟩, ⟨some 11, (.call (.f 111) [(.t 10)]), 4, none, 3⟩, ⟨some 12, (.un .not (.t 11)), 4, none, 0⟩, ⟨some 13, (.mv (.t 12)), 4, none, 0⟩, ⟨some 14, (.mv (.t 1)), 23, some (13, false), 0⟩, ⟨some 15, (.call (.f 140) [(.t 14)]), 4, some (13, false), 3⟩, ⟨some 16, (.un .not (.t 15)), 4, some (13, false), 0⟩, ⟨some 17, (.pick (.t 13) (.c (.bool true)) (.t 16)), 4, none, 0⟩, ⟨some 18, (.mv (.t 17)), 4, none, 0⟩, ⟨some 19, (.mv (.t 2)), 23, some (18, false), 0⟩, ⟨some 20, (.call (.f 140) [(.t 19)]), 4, some (18, false), 3⟩, ⟨some 21, (.un .not (.t 20)), 4, some (18, false), 0⟩, ⟨some 22, (.pick (.t 18) (.c (.bool true)) (.t 21)), 4, none, 0⟩]) (some [1, 2, 3, 22]))
        (.cond (.t 22)
          (.seq
            (.region false [⟨some 6, (.mv (.c (.bool false))), 4, none, 0⟩] (some [6]))
            .ret)
          .skip))
      (.seq
        (.region false [⟨some 23, (.faddr 27 (.t 3) 0), 0, none, 0⟩, ⟨some 24, (.load 23 (.t 23)), 23, none, 0⟩, ⟨some 25, (.len 23 (.t 24)), 3, none, 0⟩, ⟨some 26, (.bin .sub 3 (.t 25) (.c (.int .i64 1))), 3, none, 0⟩, ⟨some 7, (.mv (.t 26)), 3, none, 0⟩] (some [1, 2, 3, 7]))
        (.seq
          (.region false [⟨some 27, (.faddr 27 (.t 3) 0), 0, none, 0⟩, ⟨some 28, (.load 23 (.t 27)), 23, none, 0⟩, ⟨some 29, (.len 23 (.t 28)), 3, none, 0⟩, ⟨some 30, (.call (.f 150) [(.t 29)]), 25, none, 3⟩, ⟨some 8, (.mv (.t 30)), 25, none, 0⟩] (some [1, 2, 3, 7, 8]))
          (.seq
            (.seq
              (.region false [⟨some 9, (.mv (.c (.int .i64 0))), 3, none, 0⟩] (some [1, 2, 3, 7, 8, 9]))
              (.block 0
                (.loop [1, 2, 3, 7, 8, 9] [] lb_74_6)))
            (.seq
              (.region false [⟨some 6, (.mv (.c (.bool true))), 4, none, 0⟩] (some [6]))
              .ret))))))⟩
theorem fok_74 : FnOk Try.prog 74 fa_74 an_74 := ⟨Try.f74, _, Try.func74, rfl, by kernel_rfl, rfl, rfl, by decide, by kernel_rfl⟩
/-- impl.Follows$1 -/
def an_149 : Ann := ⟨[(0, 5, 3), (0, 12, 3)], [(0, [])], [], []⟩
def fa_149 : FnA := ⟨24, [],
  (.region true (gops [⟨some 7, (.load 4 (.t 1)), 4, none, 0⟩, ⟨some 8, (.mv (.t 7)), 4, none, 0⟩, ⟨some 9, (.load 27 (.t 2)), 27, some (8, true), 0⟩, ⟨some 10, (.load 23 (.t 3)), 23, some (8, true), 0⟩, ⟨some 11, (.mv (.t 0)), 23, some (8, true), 0⟩, ⟨some 12, (.call (.f 139) [(.t 9), (.t 10), (.t 11)]), 3, some (8, true), 3⟩, ⟨some 13, (.load 3 (.t 4)), 3, some (8, true), 0⟩, ⟨some 14, (.bin .neq 3 (.t 12) (.t 13)), 4, some (8, true), 0⟩, ⟨some 15, (.mv (.t 14)), 4, some (8, true), 0⟩, ⟨some 16, (.load 27 (.t 2)), 27, some (15, false), 0⟩, ⟨some 17, (.load 23 (.t 5)), 23, some (15, false), 0⟩, ⟨some 18, (.mv (.t 0)), 23, some (15, false), 0⟩, ⟨some 19, (.call (.f 139) [(.t 16), (.t 17), (.t 18)]), 3, some (15, false), 3⟩, ⟨some 20, (.load 3 (.t 4)), 3, some (15, false), 0⟩, ⟨some 21, (.bin .eql 3 (.t 19) (.t 20)), 4, some (15, false), 0⟩, ⟨some 22, (.pick (.t 15) (.c (.bool true)) (.t 21)), 4, some (8, true), 0⟩, ⟨some 23, (.pick (.t 8) (.t 22) (.c (.bool false))), 4, none, 0⟩, ⟨none, (.store 4 (.t 1) (.t 23)), 0, none, 0⟩]) (some []))⟩
theorem fok_149 : FnOk Try.prog 149 fa_149 an_149 := ⟨Try.f149, _, Try.func149, rfl, by kernel_rfl, rfl, rfl, by decide, by kernel_rfl⟩
/-- impl.Follows -/
def an_73 : Ann := ⟨[(1, 1, 3), (1, 5, 3), (1, 10, 3), (4, 2, 16)], [(0, [3, 4, 5]), (1, [3, 4, 5, 21]), (2, [6]), (3, [3, 4, 5, 7, 8]), (4, [7]), (5, [6])], [], [(3, (.imm 0 (.imm 1 (.imm 2 (.one 3 (.alt 4 (.alt 5 (.alt 6 (.alt 7 .fin .stop) .stop) .stop) (.alt 5 (.alt 4 (.alt 6 (.alt 7 .fin .stop) .stop) .stop) .stop)))))), [56, 64])]⟩
def fa_73 : FnA := ⟨30, [.t 6],
  (.seq
    (.region false [⟨some 3, (.box 27 (.t 0)), 0, none, 0⟩, ⟨some 4, (.box 23 (.t 1)), 0, none, 0⟩, ⟨some 5, (.box 23 (.t 2)), 0, none, 0⟩, ⟨some 6, (.mv (.c (.bool false))), 4, none, 0⟩] (some [3, 4, 5]))
    (.seq
      (.seq
        (.region false (gops [⟨some 9, (.load 27 (.t 3)), 27, none, 0⟩, ⟨some 10, (.call (.f 23) [(.t 9)]), 4, none, 3⟩, ⟨some 11, (.un .not (.t 10)), 4, none, 0⟩, ⟨some 12, (.mv (.t 11)), 4, none, 0⟩, ⟨some 13, (.load 23 (.t 4)), 23, some (12, false), 0⟩, ⟨some 14, (.call (.f 75) [(.t 13)]), 4, some (12, false), 3⟩, ⟨some 15, (.un .not (.t 14)), 4, some (12, false), 0⟩, ⟨some 16, (.pick (.t 12) (.c (.bool true)) (.t 15)), 4, none, 0⟩, ⟨some 17, (.mv (.t 16)), 4, none, 0⟩, ⟨some 18, (.load 23 (.t 5)), 23, some (17, false), 0⟩, ⟨some 19, (.call (.f 75) [(.t 18)]), 4, some (17, false), 3⟩, ⟨some 20, (.un .not (.t 19)), 4, some (17, false), 0⟩, ⟨some 21, (.pick (.t 17) (.c (.bool true)) (.t 20)), 4, none, 0⟩]) (some [3, 4, 5, 21]))
        (.cond (.t 21)
          (.seq
            (.region false [⟨some 6, (.mv (.c (.bool false))), 4, none, 0⟩] (some [6]))
            .ret)
          .skip))
      (.seq
        (.expl [⟨some 22, (.faddr 27 (.t 3) 0), 0, none, 0⟩, ⟨some 23, (.load 23 (.t 22)), 23, none, 0⟩, ⟨some 24, (.len 23 (.t 23)), 3, none, 0⟩, ⟨some 25, (.bin .sub 3 (.t 24) (.c (.int .i64 1))), 3, none, 0⟩, ⟨some 7, (.alloc 4), 0, none, 0⟩, ⟨some 8, (.alloc 3), 0, none, 0⟩, ⟨none, (.store 4 (.t 7) (.c (.bool true))), 0, none, 0⟩, ⟨none, (.store 3 (.t 8) (.t 25)), 0, none, 0⟩] (.imm 0 (.imm 1 (.imm 2 (.one 3 (.alt 4 (.alt 5 (.alt 6 (.alt 7 .fin .stop) .stop) .stop) (.alt 5 (.alt 4 (.alt 6 (.alt 7 .fin .stop) .stop) .stop) .stop)))))) [3, 4, 5, 7, 8] [56, 64])
        (.seq
          (.region false [⟨some 26, (.load 27 (.t 3)), 27, none, 0⟩, ⟨some 27, (.mkfn 149 [(.t 7), (.t 3), (.t 4), (.t 8), (.t 5)]), 94, none, 0⟩, ⟨some 28, (.call (.f 148) [(.t 26), (.t 27)]), 0, none, 16⟩] (some [7]))
          (.seq
            (.region false [⟨some 29, (.load 4 (.t 7)), 4, none, 0⟩, ⟨some 6, (.mv (.t 29)), 4, none, 0⟩] (some [6]))
            .ret)))))⟩
theorem fok_73 : FnOk Try.prog 73 fa_73 an_73 := ⟨Try.f73, _, Try.func73, rfl, by kernel_rfl, rfl, rfl, by decide, by kernel_rfl⟩
end Go.PS
end

section
-- Contracts: what refutes a term, what is true.
set_option maxRecDepth 100000
set_option linter.unusedVariables false
set_option linter.unusedSimpArgs false
namespace Go.PS
open Go.Proofs

theorem binK_nil_ints {e sz : Nat} {l : List Int} {K : D → Prop} (h : l ≠ []) : binK (.slice e) .eql (.list sz (ints l)) .nil K = K (.bool false) := by
  cases l with
  | nil => exact absurd rfl h
  | cons a l => exact binK_nil

theorem cloneI_pc (l : List Int) (hl : Big l.length) (hne : l ≠ []) : PC Try.prog 154 [IL l] none true (fun r _ => r = IO1 l) := by
  have hl := hl.le
  refine pcT [] fok_154 ?_
  simp [fa_154, binK_nil_ints hne]
  exact hl
noncomputable def fm_cloneI : Fam Try.prog := mkFam (X := List Int) 154 true (fun l => [IL l]) (fun l => (Big l.length) ∧ (l ≠ [])) (fun l => IO1 l) (by
  rintro l ⟨hl, hne⟩
  exact cloneI_pc l hl hne)
@[simp] theorem fm_cloneI_id : fm_cloneI.id = 154 := rfl
@[simp] theorem fm_cloneI_fresh : fm_cloneI.fresh = true := rfl
@[simp] theorem fm_cloneI_look (l : List Int) (hl : Big l.length) (hne : l ≠ []) : fm_cloneI.look [IL l] = some (IO1 l) :=
  lookF_of (X := List Int) (args := fun l => [IL l]) (pre := fun l => (Big l.length) ∧ (l ≠ [])) (val := fun l => IO1 l) (by
  intro l l' h
  simp at h
  subst h
  rfl) l ⟨hl, hne⟩
attribute [irreducible] fm_cloneI

/-- Is the term's value not the greatest element? -/
def badP (u : List Int) (t : List (List Int)) (p nm : List Int) : Bool := decide ((ev1 u t nm p).1 ≠ (u.length : Int) - 1)
def rfI (u : List Int) (t : List (List Int)) (p : List Int) : Int := firstI (u.length ^ 3) fun j => badP u t p (dig u.length 3 j)
noncomputable def rfM (u : List Int) (t : List (List Int)) (p : List Int) : List Int × Bool := if decide (VA u t) && decide (validT p) then (if 0 ≤ rfI u t p then (dig u.length 3 (rfI u t p).toNat, true) else ([], false)) else ([], false)

theorem dig3_ok {n i : Nat} (hn : 1 ≤ n) (hi : i < n ^ 3) : NmOk (dig n 3 i) n := by
  rw [← gr_asgK hn 3 i hi]
  exact asg3_ok (by simp [gr, List.getElem?_eq_getElem (show i < (asgK n 3).length by rw [asgK_length]; exact hi)])

theorem refuteS_pc (u : List Int) (t : List (List Int)) (p : List Int) (hu : Big u.length) (ht : BigR t) (hp : Big p.length) : PC Try.prog 79 [AL u t, IL p] none false (fun r _ => r = .tup [IL (rfM u t p).1, .bool (rfM u t p).2]) := by
  have hul := hu.le
  refine pcT [fm_validAlgebraS, fm_validTermS, fm_assignments, fm_valueS] fok_79 ?_
  simp [fa_79]
  refine cutW (tabK_mono _) [(15, .bool (!(decide (VA u t) && decide (validT p))))] (by simp [hu, ht, hp]; grind) ?_
  cases hb : (decide (VA u t) && decide (validT p))
  · simp [rfM, hb]
    rfl
  simp only [Bool.and_eq_true, decide_eq_true_eq] at hb
  obtain ⟨a, vp⟩ := hb
  have f := a.tf
  have h6 := f.lat.six
  have h1 := f.lat.pos
  simp [h6, show (u.length : Int) ≤ 6 by omega]
  have h216 : u.length ^ 3 ≤ 216 := Nat.pow_le_pow_left h6 3
  have eM : rfM u t p = if 0 ≤ rfI u t p then (dig u.length 3 (rfI u t p).toNat, true) else ([], false) := by simp [rfM, a, vp]
  have eI : rfI u t p = firstI (u.length ^ 3) fun j => badP u t p (dig u.length 3 j) := rfl
  have hAl : (asgK u.length 3).length = u.length ^ 3 := asgK_length _ _
  have hdg : ∀ i, i < u.length ^ 3 → gr (asgK u.length 3) i = dig u.length 3 i ∧ NmOk (dig u.length 3 i) u.length := fun i hi => ⟨gr_asgK h1 3 i hi, dig3_ok h1 hi⟩
  generalize u.length ^ 3 = N at *
  refine loopA (tabK_mono _) N (fun i => [(7, I64 i)]) (fun _ => []) (fun i => badP u t p (dig u.length 3 i) = false) (by simp) (by simp) (fun i g hi hP => ?_)
  simp [lb_79_5, hAl, wrap_succ hi (by omega)]
  refine ⟨fun h => ⟨h, ?_⟩, fun h => ?_⟩
  · obtain ⟨eg, nm⟩ := hdg i h
    have ho := (ev1_ok f nm _ _ _ (Nat.le_refl _) vp.2).1
    simp [eg, f, nm, hp, vp.some, hAl, h, wrap64 (n := (u.length : Int) - 1) (by omega) (by omega), wrap_succ hi (by omega)]
    refine ⟨fun hb => ?_, fun hb => by simp [badP, hb]⟩
    have hz : badP u t p (dig u.length 3 i) = true := by simp [badP, hb]
    rw [eM, eI, firstI_some h hz hP]
    simp
  · rw [eM, eI, firstI_none (fun j hj => hP j (by omega))]
    simp; rfl
noncomputable def fm_refuteS : Fam Try.prog := mkFam (X := List Int × List (List Int) × List Int) 79 false (fun (u, t, p) => [AL u t, IL p]) (fun (u, t, p) => (Big u.length) ∧ (BigR t) ∧ (Big p.length)) (fun (u, t, p) => .tup [IL (rfM u t p).1, .bool (rfM u t p).2]) (by
  rintro ⟨u, t, p⟩ ⟨hu, ht, hp⟩
  exact refuteS_pc u t p hu ht hp)
@[simp] theorem fm_refuteS_id : fm_refuteS.id = 79 := rfl
@[simp] theorem fm_refuteS_fresh : fm_refuteS.fresh = false := rfl
@[simp] theorem fm_refuteS_look (u : List Int) (t : List (List Int)) (p : List Int) (hu : Big u.length) (ht : BigR t) (hp : Big p.length) : fm_refuteS.look [AL u t, IL p] = some (.tup [IL (rfM u t p).1, .bool (rfM u t p).2]) :=
  lookF_of (X := List Int × List (List Int) × List Int) (args := fun (u, t, p) => [AL u t, IL p]) (pre := fun (u, t, p) => (Big u.length) ∧ (BigR t) ∧ (Big p.length)) (val := fun (u, t, p) => .tup [IL (rfM u t p).1, .bool (rfM u t p).2]) (by
  rintro ⟨u, t, p⟩ ⟨u', t', p'⟩ h
  simp at h
  try simp only [and_assoc] at h
  obtain ⟨rfl, rfl, rfl⟩ := h
  rfl) (u, t, p) ⟨hu, ht, hp⟩
attribute [irreducible] fm_refuteS

def inlRf (id : Nat) : Option FnA := if id = 148 then some fa_148 else if id = 183 then some fa_183 else if id = 153 then some fa_153 else none
theorem inlRf_ok (id : Nat) (fa : FnA) (h : inlRf id = some fa) : ∃ A, FnOk Try.prog id fa A := by
  unfold inlRf at h
  split at h
  · rename_i e; subst e; injection h with h; subst h; exact ⟨_, fok_148⟩
  split at h
  · rename_i e; subst e; injection h with h; subst h; exact ⟨_, fok_183⟩
  split at h
  · rename_i e; subst e; injection h with h; subst h; exact ⟨_, fok_153⟩
  · cases h

theorem refuteI_pc (u : List Int) (t : List (List Int)) (p : List Int) (hu : Big u.length) (ht : BigR t) (hp : Big p.length) : PC Try.prog 78 [AL u t, IL p] none true (fun r _ => r = .tup [IO1 (rfM u t p).1, .bool (rfM u t p).2]) := by
  have hul := hu.le
  refine pcI inlRf inlRf_ok [fm_validAlgebraI, fm_validTermI, fm_repeatI, fm_valueOfI] 3 fok_78 ?_
  simp [fa_78]
  refine cutW (inlT_mono _ _ _ _) [(15, .bool (!(decide (VA u t) && decide (validT p))))] (by simp [callO3T, inlRf, hu, ht, hp]; grind) ?_
  cases hb : (decide (VA u t) && decide (validT p))
  · simp [rfM, hb]
    rfl
  simp only [Bool.and_eq_true, decide_eq_true_eq] at hb
  obtain ⟨a, vp⟩ := hb
  have f := a.tf
  have h6 := f.lat.six
  have h1 := f.lat.pos
  have eM : rfM u t p = if 0 ≤ rfI u t p then (dig u.length 3 (rfI u t p).toNat, true) else ([], false) := by simp [rfM, a, vp]
  have eI : rfI u t p = firstI (u.length ^ 3) fun j => badP u t p (dig u.length 3 j) := rfl
  have lr : fm_repeatI.look [D.list 1 [D.int .i64 ((u.length : Int) - 1)], D.int .i64 3] = some (IO1 [(u.length : Int) - 1, (u.length : Int) - 1, (u.length : Int) - 1]) := fm_repeatI_look ((u.length : Int) - 1) 3 (by omega) (by omega)
  simp [lr, callO16 (C := CI inlRf) (id := 148) (fa := fa_148) rfl, fa_148, callO3T, inlRf, wrap64 (n := (u.length : Int) - 1) (by omega) (by omega), callO16 (C := CI inlRf) (id := 183) (fa := fa_183) rfl]
  refine eachList_run (α := Option Nat) (n := u.length) (m := 3) h1 h6 (by omega) (fun x l => match x with
      | none => [⟨8064, 3, .arr 1 (ints l)⟩, ⟨48, 1, .cells [.list 1 []]⟩, ⟨56, 2, .cells [.bool false]⟩]
      | some γ => [⟨12160, γ, .arr 1 (ints (rfM u t p).1)⟩, ⟨8064, 3, .arr 1 (ints l)⟩, ⟨48, 1, .cells [.arr 12160 γ]⟩, ⟨56, 2, .cells [.bool true]⟩])
    (fun i x => match x with
      | none => ∀ j, j < i → badP u t p (dig u.length 3 j) = false
      | some _ => 0 ≤ rfI u t p) none (by simp [KL]) (by rintro (_ | γ) l l' <;> simp) (by rintro (_ | γ) l <;> simp) (by rintro (_ | γ) l <;> simp [KL]) (by simp) (fun i x tt g Q hi hP hQ => ?_) (fun x g hP => ?_)
  · have nm := dig3_ok h1 hi
    have ho := (ev1_ok f nm _ _ _ (Nat.le_refl _) vp.2).1
    cases x with
    | none =>
      simp [callO16 (C := CI inlRf) (id := 153) (fa := fa_153) rfl, fa_153]
      refine cutWc (inlT_mono _ _ _ _) [(18, .bool (badP u t p (dig u.length 3 i)))] (by simp [callO3T, callDO3T, inlRf, f, nm, hp, vp.some, badP, wrap64 (n := (u.length : Int) - 1) (by omega) (by omega)]) ?_
      cases hbd : badP u t p (dig u.length 3 i)
      · simp
        refine hQ none _ _ _ (fun j hj => ?_) (by simp) (by simp [KL])
        rcases Nat.lt_or_ge j i with h | h
        · exact hP j h
        · obtain rfl : j = i := by omega
          exact hbd
      · have er : rfI u t p = i := by rw [eI]; exact firstI_some hi hbd hP
        have hne : dig u.length 3 i ≠ [] := fun h => by have := dig_length u.length 3 i; rw [h] at this; cases this
        simp
        refine callO1 fm_cloneI (by simp) (by simp) (v := IO1 (dig u.length 3 i)) (by simp; exact fm_cloneI_look _ (by rw [dig_length]; unfold Big; omega) hne) ?_
        simp
        refine hQ (some g) _ _ _ (by show 0 ≤ rfI u t p; omega) (by simp) ?_
        simp [KL, eM, er]
    | some γ =>
      simp [callO16 (C := CI inlRf) (id := 153) (fa := fa_153) rfl, fa_153]
      refine cutWc (inlT_mono _ _ _ _) [(18, .bool false)] (by simp) ?_
      simp
      exact hQ (some γ) _ _ _ hP (by simp) (by simp [KL])
  · cases x with
    | none =>
      have er : rfI u t p = -1 := by rw [eI]; exact firstI_none hP
      simp [eM, er]
      try rfl
    | some γ =>
      have h0 : 0 ≤ rfI u t p := hP
      simp [eM, h0]
noncomputable def fm_refuteI : Fam Try.prog := mkFam (X := List Int × List (List Int) × List Int) 78 true (fun (u, t, p) => [AL u t, IL p]) (fun (u, t, p) => (Big u.length) ∧ (BigR t) ∧ (Big p.length)) (fun (u, t, p) => .tup [IO1 (rfM u t p).1, .bool (rfM u t p).2]) (by
  rintro ⟨u, t, p⟩ ⟨hu, ht, hp⟩
  exact refuteI_pc u t p hu ht hp)
@[simp] theorem fm_refuteI_id : fm_refuteI.id = 78 := rfl
@[simp] theorem fm_refuteI_fresh : fm_refuteI.fresh = true := rfl
@[simp] theorem fm_refuteI_look (u : List Int) (t : List (List Int)) (p : List Int) (hu : Big u.length) (ht : BigR t) (hp : Big p.length) : fm_refuteI.look [AL u t, IL p] = some (.tup [IO1 (rfM u t p).1, .bool (rfM u t p).2]) :=
  lookF_of (X := List Int × List (List Int) × List Int) (args := fun (u, t, p) => [AL u t, IL p]) (pre := fun (u, t, p) => (Big u.length) ∧ (BigR t) ∧ (Big p.length)) (val := fun (u, t, p) => .tup [IO1 (rfM u t p).1, .bool (rfM u t p).2]) (by
  rintro ⟨u, t, p⟩ ⟨u', t', p'⟩ h
  simp at h
  try simp only [and_assoc] at h
  obtain ⟨rfl, rfl, rfl⟩ := h
  rfl) (u, t, p) ⟨hu, ht, hp⟩
attribute [irreducible] fm_refuteI


theorem isTrueI_pc (u : List Int) (t : List (List Int)) (p : List Int) (hu : Big u.length) (ht : BigR t) (hp : Big p.length) : PC Try.prog 76 [AL u t, IL p] none true (fun r _ => r = .bool (decide (VA u t) && decide (validT p) && !(rfM u t p).2)) := by
  refine pcT [fm_validAlgebraI, fm_validTermI, fm_refuteI] fok_76 ?_
  simp [fa_76, hu, ht, hp]
  refine cutW (tabK_mono _) [(4, .bool (decide (VA u t) && decide (validT p) && !(rfM u t p).2))] (by simp [hu, ht, hp]; grind) ?_
  simp
noncomputable def fm_isTrueI : Fam Try.prog := mkFam (X := List Int × List (List Int) × List Int) 76 true (fun (u, t, p) => [AL u t, IL p]) (fun (u, t, p) => (Big u.length) ∧ (BigR t) ∧ (Big p.length)) (fun (u, t, p) => .bool (decide (VA u t) && decide (validT p) && !(rfM u t p).2)) (by
  rintro ⟨u, t, p⟩ ⟨hu, ht, hp⟩
  exact isTrueI_pc u t p hu ht hp)
@[simp] theorem fm_isTrueI_id : fm_isTrueI.id = 76 := rfl
@[simp] theorem fm_isTrueI_fresh : fm_isTrueI.fresh = true := rfl
@[simp] theorem fm_isTrueI_look (u : List Int) (t : List (List Int)) (p : List Int) (hu : Big u.length) (ht : BigR t) (hp : Big p.length) : fm_isTrueI.look [AL u t, IL p] = some (.bool (decide (VA u t) && decide (validT p) && !(rfM u t p).2)) :=
  lookF_of (X := List Int × List (List Int) × List Int) (args := fun (u, t, p) => [AL u t, IL p]) (pre := fun (u, t, p) => (Big u.length) ∧ (BigR t) ∧ (Big p.length)) (val := fun (u, t, p) => .bool (decide (VA u t) && decide (validT p) && !(rfM u t p).2)) (by
  rintro ⟨u, t, p⟩ ⟨u', t', p'⟩ h
  simp at h
  try simp only [and_assoc] at h
  obtain ⟨rfl, rfl, rfl⟩ := h
  rfl) (u, t, p) ⟨hu, ht, hp⟩
attribute [irreducible] fm_isTrueI
end Go.PS
end

section
-- Contracts: what follows.
set_option maxRecDepth 100000
set_option linter.unusedVariables false
set_option linter.unusedSimpArgs false
namespace Go.PS
open Go.Proofs

/-- Does the one term being the greatest element make the other one so? -/
def folP (u : List Int) (t : List (List Int)) (p q nm : List Int) : Bool := badP u t p nm || !badP u t q nm
noncomputable def folM (u : List Int) (t : List (List Int)) (p q : List Int) : Bool := decide (VA u t) && decide (validT p) && decide (validT q) && (List.range (u.length ^ 3)).all fun j => folP u t p q (dig u.length 3 j)

theorem followsS_pc (u : List Int) (t : List (List Int)) (p q : List Int) (hu : Big u.length) (ht : BigR t) (hp : Big p.length) (hq : Big q.length) : PC Try.prog 74 [AL u t, IL p, IL q] none true (fun r _ => r = .bool (folM u t p q)) := by
  have hul := hu.le
  refine pcT [fm_validAlgebraS, fm_validTermS, fm_assignments, fm_valueS] fok_74 ?_
  simp [fa_74]
  refine cutW (tabK_mono _) [(22, .bool (!(decide (VA u t) && decide (validT p) && decide (validT q))))] (by simp [hu, ht, hp, hq]; grind) ?_
  cases hb : (decide (VA u t) && decide (validT p) && decide (validT q))
  · simp [folM, hb]
  simp only [Bool.and_eq_true, decide_eq_true_eq] at hb
  obtain ⟨⟨a, vp⟩, vq⟩ := hb
  have f := a.tf
  have h6 := f.lat.six
  have h1 := f.lat.pos
  simp [h6, show (u.length : Int) ≤ 6 by omega, wrap64 (n := (u.length : Int) - 1) (by omega) (by omega)]
  have h216 : u.length ^ 3 ≤ 216 := Nat.pow_le_pow_left h6 3
  have eM : folM u t p q = (List.range (u.length ^ 3)).all fun j => folP u t p q (dig u.length 3 j) := by simp [folM, a, vp, vq]
  have hAl : (asgK u.length 3).length = u.length ^ 3 := asgK_length _ _
  have hdg : ∀ i, i < u.length ^ 3 → gr (asgK u.length 3) i = dig u.length 3 i ∧ NmOk (dig u.length 3 i) u.length := fun i hi => ⟨gr_asgK h1 3 i hi, dig3_ok h1 hi⟩
  generalize u.length ^ 3 = N at *
  refine loopA (tabK_mono _) N (fun i => [(9, I64 i)]) (fun _ => []) (fun i => folP u t p q (dig u.length 3 i) = true) (by simp) (by simp) (fun i g hi hP => ?_)
  simp [lb_74_6, hAl, wrap_succ hi (by omega)]
  refine ⟨fun h => ?_, fun h => ?_⟩
  · obtain ⟨eg, nm⟩ := hdg i h
    refine cutWc (tabK_mono _) [(56, .bool (!folP u t p q (dig u.length 3 i)))] (by
      simp [eg, f, nm, hp, hq, vp.some, vq.some, hAl, h, folP, badP]
      try grind) ?_
    cases hf : folP u t p q (dig u.length 3 i)
    · simp
      rw [eM, List.all_eq_false]
      exact ⟨i, by simpa using h, by simp [hf]⟩
    · simp [hAl, h, wrap_succ hi (by omega)]
      exact hf
  · rw [eM, List.all_eq_true]
    exact fun j hj => hP j (by have := List.mem_range.1 hj; omega)
noncomputable def fm_followsS : Fam Try.prog := mkFam (X := List Int × List (List Int) × List Int × List Int) 74 true (fun (u, t, p, q) => [AL u t, IL p, IL q]) (fun (u, t, p, q) => (Big u.length) ∧ (BigR t) ∧ (Big p.length) ∧ (Big q.length)) (fun (u, t, p, q) => .bool (folM u t p q)) (by
  rintro ⟨u, t, p, q⟩ ⟨hu, ht, hp, hq⟩
  exact followsS_pc u t p q hu ht hp hq)
@[simp] theorem fm_followsS_id : fm_followsS.id = 74 := rfl
@[simp] theorem fm_followsS_fresh : fm_followsS.fresh = true := rfl
@[simp] theorem fm_followsS_look (u : List Int) (t : List (List Int)) (p q : List Int) (hu : Big u.length) (ht : BigR t) (hp : Big p.length) (hq : Big q.length) : fm_followsS.look [AL u t, IL p, IL q] = some (.bool (folM u t p q)) :=
  lookF_of (X := List Int × List (List Int) × List Int × List Int) (args := fun (u, t, p, q) => [AL u t, IL p, IL q]) (pre := fun (u, t, p, q) => (Big u.length) ∧ (BigR t) ∧ (Big p.length) ∧ (Big q.length)) (val := fun (u, t, p, q) => .bool (folM u t p q)) (by
  rintro ⟨u, t, p, q⟩ ⟨u', t', p', q'⟩ h
  simp at h
  try simp only [and_assoc] at h
  obtain ⟨rfl, rfl, rfl, rfl⟩ := h
  rfl) (u, t, p, q) ⟨hu, ht, hp, hq⟩
attribute [irreducible] fm_followsS

def inlF (id : Nat) : Option FnA := if id = 148 then some fa_148 else if id = 183 then some fa_183 else if id = 149 then some fa_149 else none
theorem inlF_ok (id : Nat) (fa : FnA) (h : inlF id = some fa) : ∃ A, FnOk Try.prog id fa A := by
  unfold inlF at h
  split at h
  · rename_i e; subst e; injection h with h; subst h; exact ⟨_, fok_148⟩
  split at h
  · rename_i e; subst e; injection h with h; subst h; exact ⟨_, fok_183⟩
  split at h
  · rename_i e; subst e; injection h with h; subst h; exact ⟨_, fok_149⟩
  · cases h

set_option maxHeartbeats 4000000 in
theorem followsI_pc (u : List Int) (t : List (List Int)) (p q : List Int) (hu : Big u.length) (ht : BigR t) (hp : Big p.length) (hq : Big q.length) : PC Try.prog 73 [AL u t, IL p, IL q] none true (fun r _ => r = .bool (folM u t p q)) := by
  have hul := hu.le
  refine pcI inlF inlF_ok [fm_validAlgebraI, fm_validTermI, fm_repeatI, fm_valueOfI] 3 fok_73 ?_
  simp [fa_73]
  refine cutW (inlT_mono _ _ _ _) [(21, .bool (!(decide (VA u t) && decide (validT p) && decide (validT q))))] (by simp [callO3T, inlF, hu, ht, hp, hq]; grind) ?_
  cases hb : (decide (VA u t) && decide (validT p) && decide (validT q))
  · simp [folM, hb]
  simp only [Bool.and_eq_true, decide_eq_true_eq] at hb
  obtain ⟨⟨a, vp⟩, vq⟩ := hb
  have f := a.tf
  have h6 := f.lat.six
  have h1 := f.lat.pos
  simp
  refine cutE (α := Nat × Nat) (fun x => [(3, .iptr (AL u t)), (4, .iptr (IL p)), (5, .iptr (IL q)), (7, .ptr 56 x.1 0), (8, .ptr 64 x.2 0)]) (fun x => [⟨56, x.1, .cells [.bool true]⟩, ⟨64, x.2, .cells [I64 ((u.length : Int) - 1)]⟩]) (by simp [wrap64 (n := (u.length : Int) - 1) (by omega) (by omega)]) (fun x g0 => ?_)
  have eM : folM u t p q = (List.range (u.length ^ 3)).all fun j => folP u t p q (dig u.length 3 j) := by simp [folM, a, vp, vq]
  have lr : fm_repeatI.look [D.list 1 [D.int .i64 ((u.length : Int) - 1)], D.int .i64 3] = some (IO1 [(u.length : Int) - 1, (u.length : Int) - 1, (u.length : Int) - 1]) := fm_repeatI_look ((u.length : Int) - 1) 3 (by omega) (by omega)
  simp [lr, callO16 (C := CI inlF) (id := 148) (fa := fa_148) rfl, fa_148, callO3T, inlF, wrap64 (n := (u.length : Int) - 1) (by omega) (by omega), callO16 (C := CI inlF) (id := 183) (fa := fa_183) rfl]
  refine eachList_run (α := Bool) (n := u.length) (m := 3) h1 h6 (by omega) (fun b l => [⟨8064, g0, .arr 1 (ints l)⟩, ⟨56, x.1, .cells [.bool b]⟩, ⟨64, x.2, .cells [I64 ((u.length : Int) - 1)]⟩])
    (fun i b => b = (List.range i).all fun j => folP u t p q (dig u.length 3 j)) true (by simp [KL]) (by simp) (by simp) (by simp [KL]) (by simp) (fun i b tt g Q hi hP hQ => ?_) (fun b g hP => ?_)
  · have nm := dig3_ok h1 hi
    simp [callO16 (C := CI inlF) (id := 149) (fa := fa_149) rfl, fa_149]
    have e1 := all_succ (f := fun j => folP u t p q (dig u.length 3 j)) (i := i)
    cases b with
    | false =>
      simp [gops]
      refine hQ false _ _ _ ?_ (by simp) (by simp [KL])
      rw [e1, ← hP]; rfl
    | true =>
      have ef : folP u t p q (dig u.length 3 i) = (List.range (i + 1)).all fun j => folP u t p q (dig u.length 3 j) := by rw [e1, ← hP]; rfl
      have l1 : fm_valueOfI.look [AL u t, IL p, IL (dig u.length 3 i)] = some (I64 (ev1 u t (dig u.length 3 i) p).1) := fm_valueOfI_look u t p _ f nm hp vp.some
      have l2 : fm_valueOfI.look [AL u t, IL q, IL (dig u.length 3 i)] = some (I64 (ev1 u t (dig u.length 3 i) q).1) := fm_valueOfI_look u t q _ f nm hq vq.some
      have ef2 : folP u t p q (dig u.length 3 i) = (decide ((ev1 u t (dig u.length 3 i) p).1 ≠ (u.length : Int) - 1) || decide ((ev1 u t (dig u.length 3 i) q).1 = (u.length : Int) - 1)) := by simp [folP, badP]
      rw [ef] at ef2
      generalize (ev1 u t (dig u.length 3 i) p).1 = a1 at l1 ef2
      generalize (ev1 u t (dig u.length 3 i) q).1 = a2 at l2 ef2
      rcases Classical.em (a1 = (u.length : Int) - 1) with c | c
      · subst c
        simp [gops, callO3T, callDO3T, inlF, l1, l2]
        refine hQ (decide (a2 = (u.length : Int) - 1)) _ _ _ ?_ (by simp) (by simp [KL])
        rw [ef2]; simp
      · simp [gops, callO3T, callDO3T, inlF, l1, l2, eq_false c]
        refine hQ true _ _ _ ?_ (by simp) (by simp [KL])
        rw [ef2]; simp [c]
  · rw [eM, ← hP]
    simp
noncomputable def fm_followsI : Fam Try.prog := mkFam (X := List Int × List (List Int) × List Int × List Int) 73 true (fun (u, t, p, q) => [AL u t, IL p, IL q]) (fun (u, t, p, q) => (Big u.length) ∧ (BigR t) ∧ (Big p.length) ∧ (Big q.length)) (fun (u, t, p, q) => .bool (folM u t p q)) (by
  rintro ⟨u, t, p, q⟩ ⟨hu, ht, hp, hq⟩
  exact followsI_pc u t p q hu ht hp hq)
@[simp] theorem fm_followsI_id : fm_followsI.id = 73 := rfl
@[simp] theorem fm_followsI_fresh : fm_followsI.fresh = true := rfl
@[simp] theorem fm_followsI_look (u : List Int) (t : List (List Int)) (p q : List Int) (hu : Big u.length) (ht : BigR t) (hp : Big p.length) (hq : Big q.length) : fm_followsI.look [AL u t, IL p, IL q] = some (.bool (folM u t p q)) :=
  lookF_of (X := List Int × List (List Int) × List Int × List Int) (args := fun (u, t, p, q) => [AL u t, IL p, IL q]) (pre := fun (u, t, p, q) => (Big u.length) ∧ (BigR t) ∧ (Big p.length) ∧ (Big q.length)) (val := fun (u, t, p, q) => .bool (folM u t p q)) (by
  rintro ⟨u, t, p, q⟩ ⟨u', t', p', q'⟩ h
  simp at h
  try simp only [and_assoc] at h
  obtain ⟨rfl, rfl, rfl, rfl⟩ := h
  rfl) (u, t, p, q) ⟨hu, ht, hp, hq⟩
attribute [irreducible] fm_followsI
end Go.PS
end

section
-- What is true, what follows, powers that imply, in plain Lean.
set_option linter.unusedVariables false
set_option linter.unusedSimpArgs false
namespace Go.PS
open Go.Proofs

section
variable {u : List Int} {t : List (List Int)} {p q : List Int}

theorem ev_rng (a : VA u t) (vp : validT p) {j : Nat} (hj : j < u.length ^ 3) : 0 ≤ (ev1 u t (dig u.length 3 j) p).1 ∧ (ev1 u t (dig u.length 3 j) p).1 < u.length :=
  (ev1_ok a.tf (dig3_ok a.lat.pos hj) _ p [] (Nat.le_refl _) vp.2).1
theorem rf_none : rfI u t p = -1 ↔ ∀ j, j < u.length ^ 3 → badP u t p (dig u.length 3 j) = false := by
  constructor
  · intro h j hj
    unfold rfI firstI at h
    split at h
    · omega
    · rename_i hn
      rw [List.find?_eq_none] at hn
      have := hn j (by simpa using hj)
      simpa using this
  · exact fun h => firstI_none h
theorem rf_true (a : VA u t) (vp : validT p) : (rfM u t p).2 = false ↔ ∀ j, j < u.length ^ 3 → badP u t p (dig u.length 3 j) = false := by
  have e : rfM u t p = if 0 ≤ rfI u t p then (dig u.length 3 (rfI u t p).toNat, true) else ([], false) := by simp [rfM, a, vp]
  rw [e, ← rf_none]
  rcases firstI_range (n := u.length ^ 3) (p := fun j => badP u t p (dig u.length 3 j)) with h | ⟨z, _, _, h⟩
  · rw [rfI, h]; simp
  · rw [rfI, h]; simp
theorem fol_iff (a : VA u t) (vp : validT p) (vq : validT q) : folM u t p q = true ↔ ∀ j, j < u.length ^ 3 → badP u t p (dig u.length 3 j) = false → badP u t q (dig u.length 3 j) = false := by
  have e : folM u t p q = (List.range (u.length ^ 3)).all fun j => folP u t p q (dig u.length 3 j) := by simp [folM, a, vp, vq]
  rw [e, List.all_eq_true]
  simp only [List.mem_range, folP, Bool.or_eq_true, Bool.not_eq_true']
  refine forall_congr' fun j => forall_congr' fun hj => ?_
  cases badP u t p (dig u.length 3 j) <;> simp
theorem pw_topE (a : VA u t) : ∀ k, pw u t (u.length - 1) k = u.length - 1
  | 0 => a.pw_zero
  | k + 1 => by
    have := a.lat.pos
    rw [a.pw_succ, pw_topE a k, a.tn_top (by omega)]
theorem okP_iff (a : VA u t) {k : Nat} {nm : List Int} : okP u t p q k nm = tb u (pw u t (ev1 u t nm p).1.toNat k) (ev1 u t nm q).1.toNat := rfl
theorem all_dig (hn : 1 ≤ u.length) {f : List Int → Bool} : (asgK u.length 3).all f = true ↔ ∀ j, j < u.length ^ 3 → f (dig u.length 3 j) = true := by
  rw [List.all_eq_true]
  constructor
  · intro h j hj
    rw [← gr_asgK hn 3 j hj]
    exact h _ (gr_mem (by rw [asgK_length]; exact hj))
  · intro h l hl
    obtain ⟨i, hi, e⟩ := List.mem_iff_getElem.1 hl
    have hi' : i < u.length ^ 3 := by rw [asgK_length] at hi; exact hi
    have := h i hi'
    rw [← gr_asgK hn 3 i hi', gr, List.getElem?_eq_getElem hi, Option.getD_some, e] at this
    exact this
/-- What a power that implies tells. -/
theorem lp_law (a : VA u t) (vp : validT p) (vq : validT q) : ((lpM u t p q).2 = true → folM u t p q = true ∧ (lpM u t p q).1 ≤ u.length) ∧ (((lpM u t p q).2 = true ∧ (lpM u t p q).1 = 0) ↔ (rfM u t q).2 = false) := by
  have hp := a.lat.pos
  have h6 := a.lat.six
  have e : lpM u t p q = if decide (0 ≤ lpI u t p q) then (lpI u t p q, true) else (0, false) := by simp [lpM, a, vp, vq]
  have bad : ∀ {l : List Int} {j : Nat}, validT l → j < u.length ^ 3 → (badP u t l (dig u.length 3 j) = false ↔ (ev1 u t (dig u.length 3 j) l).1.toNat = u.length - 1) := fun {l j} vl hj => by
    have r := ev_rng a vl hj
    unfold badP
    simp
    omega
  have zero : (∀ j, j < u.length ^ 3 → okP u t p q 0 (dig u.length 3 j) = true) ↔ (rfM u t q).2 = false := by
    rw [rf_true a vq]
    refine forall_congr' fun j => forall_congr' fun hj => ?_
    have r := ev_rng a vq hj
    rw [bad vq hj, okP_iff a, a.pw_zero]
    constructor
    · exact fun h => a.lat.eq_top (by omega) h
    · intro h; rw [h]; exact a.lat.rf (by omega)
  rcases firstI_range (n := 21) (p := fun k => (asgK u.length 3).all (okP u t p q k)) with h | ⟨k, hk, hz, h⟩
  · have hI : lpI u t p q = -1 := h
    rw [hI] at e
    rw [e]
    refine ⟨fun c => by simp at c, ⟨fun c => by simp at c, fun c => ?_⟩⟩
    exfalso
    rw [← zero] at c
    unfold firstI at h
    split at h
    · omega
    · rename_i hn
      rw [List.find?_eq_none] at hn
      exact hn 0 (by simp) ((all_dig hp).2 c)
  · have hq := firstI_least h
    have hI : lpI u t p q = k := h
    rw [hI] at e
    have e2 : lpM u t p q = ((k : Int), true) := by rw [e]; simp
    rw [e2]
    have hz := (all_dig hp).1 hz
    refine ⟨fun _ => ⟨(fol_iff a vp vq).2 fun j hj hb => ?_, ?_⟩, ?_⟩
    · have := hz j hj
      have r := ev_rng a vq hj
      rw [bad vp hj] at hb
      rw [bad vq hj]
      rw [okP_iff a, hb, pw_topE a] at this
      exact a.lat.eq_top (by omega) this
    · show (k : Int) ≤ u.length
      rcases Nat.lt_or_ge u.length k with c | c
      · exfalso
        have := hq.2.2 u.length c
        rw [Bool.eq_false_iff] at this
        apply this
        rw [all_dig hp]
        intro j hj
        have h1 := hz j hj
        have r := ev_rng a vp hj
        rw [okP_iff a] at h1 ⊢
        obtain ⟨m, rfl⟩ := Nat.exists_eq_add_of_le (Nat.le_of_lt c)
        rw [a.pw_end (by omega)] at h1
        exact h1
      · omega
    · rw [← zero]
      constructor
      · rintro ⟨_, c⟩
        have c : (k : Int) = 0 := c
        have : k = 0 := by omega
        rw [this] at hz
        exact hz
      · intro c
        refine ⟨rfl, ?_⟩
        rcases Nat.eq_zero_or_pos k with d | d
        · rw [d]; rfl
        · exfalso
          have := hq.2.2 0 d
          rw [Bool.eq_false_iff] at this
          exact this ((all_dig hp).2 c)
end
end Go.PS
end

section
-- PRINTED by gen.py: clean texts of functions, and their tie to the program.
set_option maxRecDepth 100000
namespace Go.PS
open Go.Proofs
end Go.PS
end

section
-- Contracts: lists of the laws.
set_option maxRecDepth 100000
set_option linter.unusedVariables false
set_option linter.unusedSimpArgs false
namespace Go.PS
open Go.Proofs

end Go.PS
end

section
-- The laws of what follows, and of powers that imply.
set_option maxRecDepth 100000
set_option linter.unusedVariables false
set_option linter.unusedSimpArgs false
namespace Go.PS
open Go.Proofs

set_option maxHeartbeats 2000000 in
theorem FnLeastPower_pc (c : List Int) (hl : Hu c.length) (hc : Byt c) : PC Try.prog 17 [BL c] none true (fun r _ => r = .bool true) := by
  have hl' := hl.le
  refine pcT [fm_drLp, fm_leastI, fm_leastS, fm_followsI, fm_validAlgebraI, fm_validTermI, fm_isTrueI] fok_17 ?_
  rcases Nat.lt_or_ge 1048576 c.length with q | q
  · simp [fa_17, show ((1048576 : Int) < c.length) by omega]
  · have hbig : Big c.length := by unfold Big; omega
    have l1 := fm_drLp_look c hc hbig
    obtain ⟨g, hg⟩ := saM_few (rdB_ok hc) (p := 0) (by omega)
    have hu := g.big
    have ht := g.bigR
    generalize saM (rdB c) 0 = A at *
    obtain ⟨⟨u, t⟩, p1⟩ := A
    dsimp only at *
    have hj := dFo_len (rdB_ok hc) (p := p1) (by omega)
    generalize dFo (rdB c) p1 = B at *
    obtain ⟨x, y⟩ := B
    dsimp only at *
    have hxb : Big x.length := by unfold Big; omega
    have hyb : Big y.length := by unfold Big; omega
    have hlaw := fun (a : VA u t) vx vy => lp_law (p := x) (q := y) a vx vy
    have m0 := fm_leastI_look u t x y hu ht hxb hyb
    have m00 := fm_leastS_look u t x y hu ht hxb hyb
    generalize lpM u t x y = L at *
    obtain ⟨k, ok⟩ := L
    dsimp only at *
    simp [fa_17, show ¬ ((1048576 : Int) < c.length) by omega, show ((c.length : Int) ≤ 1048576) by omega, l1, m0, m00]
    refine cutW (tabK_mono _) [(55, .bool (!(decide (VA u t) && decide (validT x) && decide (validT y))))] (by
      by_cases a : VA u t
      · by_cases vx : validT x
        · simp [hu, ht, hxb, hyb, a, vx]
        · simp [hu, ht, hxb, hyb, a, vx]
      · simp [hu, ht, hxb, hyb, a]) ?_
    cases hv : (decide (VA u t) && decide (validT x) && decide (validT y))
    · simp [gops]
    · simp only [Bool.and_eq_true, decide_eq_true_eq] at hv
      obtain ⟨⟨a, vx⟩, vy⟩ := hv
      obtain ⟨h1, h2⟩ := hlaw a vx vy
      have m1 := fm_followsI_look u t x y hu ht hxb hyb
      have m3 := fm_isTrueI_look u t y hu ht hyb
      simp [a, vy] at m3
      simp
      refine cutW (tabK_mono _) [(2, .bool true)] (by
        cases ok with
        | false =>
          have h3 : (rfM u t y).2 = true := by
            cases hb : (rfM u t y).2
            · have := h2.2 hb
              cases this.1
            · rfl
          rw [h3] at m3
          simp [m3]
        | true =>
          obtain ⟨q1, q2⟩ := h1 rfl
          rw [q1] at m1
          by_cases hk : k = 0
          · have h3 := h2.1 ⟨rfl, hk⟩
            rw [h3] at m3
            subst hk
            simp [m1, m3]
          · have h3 : (rfM u t y).2 = true := by
              cases hb : (rfM u t y).2
              · exact absurd (h2.2 hb).2 hk
              · rfl
            rw [h3] at m3
            simp [m1, m3, hk, q2]) ?_
      simp
end Go.PS
end
