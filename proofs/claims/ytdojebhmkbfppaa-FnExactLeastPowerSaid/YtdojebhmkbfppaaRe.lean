/- PRINTED by rep.py: slices.Repeat of a row of one number, up to six times. -/
import Derived.Test.YtdojebhmkbfppaaCi
import Derived.WalkKit
import Derived.ProofKit
import Derived.Shelf.RegionOpenPlain
import Derived.Deep.LoopGhost
import Derived.Lib.Walk
import Derived.Lib.SliceRun
import Derived.Laws.CopyOwn
import Derived.Laws.MakeOwn
import Derived.LoopN
import Derived.Shelf.Spec.SlicesInsert
set_option linter.unusedVariables false
set_option linter.unusedSimpArgs false
open Go Go.Proofs Go.RowKit Go.Lib
namespace Go.PS
theorem made1 (z : Value) (n : Nat) (hz : z.cells = #[z]) : madeCells z.cells n = (List.replicate n z).toArray := by
  apply Array.ext
  · simp [madeCells]
  · intro i h1 h2
    simp [madeCells, hz, Nat.mod_one]

theorem copyEq (W : World) {g o dLen dCap sLen sCap : Nat} {a : Addr} {L cs : List Value} (hg : W.heap[g]? = some (.cells L.toArray 3 (0, 0))) (hn : cs.length = Nat.min sLen dLen)
    (hsrc : ∀ j v, cs[j]? = some v → W.cell? (a.add j) = some v) (hfit : o + cs.length ≤ L.length) (h1 : ∀ v ∈ cs, v.oneCell' = true) :
    ∃ W', (Builtin.copy_ #[22, 22] 3 #[.slice (some ⟨g, o, none⟩) dLen dCap, .slice (some a) sLen sCap]).run Try.prog W = .ok (goInt cs.length) W' ∧
      W'.heap[g]? = some (.cells (L.take o ++ cs ++ L.drop (o + cs.length)).toArray 3 (0, 0)) ∧ Below g W W' := by
  have h := run_copy_row (P := Try.prog) W 22 22 3 3 g o dLen dCap a sLen sCap L.toArray 3 cs Try.underlying22 (by kernel_rfl) hg hn hsrc (by simpa using hfit) h1
  exact ⟨_, h, setRow_heap W g _ _ 3 _ hg, below_setRow (Below.refl _ _) (Nat.le_refl _) _⟩

theorem cell_at {W : World} {g k : Nat} {L : List Value} {u : Value} (hg : W.heap[g]? = some (.cells L.toArray 3 (0, 0))) (hu : L[k]? = some u) : W.cell? ⟨g, k, none⟩ = some u := by
  simp [World.cell?, hg, hu]

theorem src_one {W : World} {a : Addr} {u : Value} (h : W.cell? a = some u) : ∀ j v, [u][j]? = some v → W.cell? (a.add j) = some v := by
  intro j v hj
  have hj0 : j = 0 := by have := (List.getElem?_eq_some_iff.1 hj).1; simpa using this
  subst hj0
  have hu : v = u := by simpa using hj.symm
  subst hu
  simpa [Addr.add] using h

theorem src_row {W : World} {g : Nat} {cs rest : List Value} (hg : W.heap[g]? = some (.cells (cs ++ rest).toArray 3 (0, 0))) : ∀ j v, cs[j]? = some v → W.cell? ((⟨g, 0, none⟩ : Addr).add j) = some v := by
  intro j v hj
  rw [Go.WideShapes.add_plain, Nat.zero_add]
  exact cell_at hg (by rw [List.getElem?_append_left (List.getElem?_eq_some_iff.1 hj).1]; exact hj)
set_option maxRecDepth 100000

set_option maxHeartbeats 1000000 in
theorem mul1_0 (w : World) : Calls Try.prog 145 #[.int .u64 1, .int .u64 0] w fun e w' => e = .returned (.tuple #[.int .u64 0, .int .u64 0]) ∧ w = w' := by
  have e1 : bits BinOp.and IntKind.u64 1 4294967295 = 1 := by decide
  have e2 : bits BinOp.and IntKind.u64 0 4294967295 = 0 := by decide
  have e3 : bits BinOp.and IntKind.u64 0 4294967295 = 0 := by decide
  have e4 : IntKind.u64.wrap 0 = 0 := by decide
  have e5 : IntKind.u64.wrap 0 = 0 := by decide
  have e6 : (0 : Int) / 4294967296 = 0 := by decide
  have e7 : IntKind.u64.wrap 1 = 1 := by decide
  have e8 : (0 : Int) / 4294967296 = 0 := by decide
  go_enter Try.func145, Try.ntmps145
  go_wp2
  go_ret2
  exact ⟨rfl, rfl⟩

set_option maxHeartbeats 2000000 in
theorem rep_0 (v : Int) (b o cap : Nat) (w : World) (hc : w.cell? ⟨b, o, none⟩ = some (.int .i64 v)) (hbl : b < w.heap.size) :
    Calls Try.prog 95 #[.slice (some ⟨b, o, none⟩) 1 cap, .int .i64 0] w fun e w' => e = .returned (.slice (some ⟨w.heap.size, 0, none⟩) 0 0) ∧ w'.heap[w.heap.size]? = some (.cells (List.replicate 0 (Value.int .i64 v)).toArray 3 (0, 0)) ∧ Below w.heap.size w w' := by
  have e4 : IntKind.u64.wrap 0 = 0 := by decide
  obtain ⟨i, hi⟩ : ∃ i, Try.prog.info? 3 = some i := Option.isSome_iff_exists.1 (by kernel_rfl)
  have hz : i.zero = some (.int .i64 0) := by
    have h : (Try.prog.info? 3).bind (·.zero) = some (.int .i64 0) := by kernel_rfl
    rw [hi] at h; simpa using h
  have hsz : i.size = 1 := by
    have h : (Try.prog.info? 3).map (·.size) = some 1 := by kernel_rfl
    rw [hi] at h; simpa using h
  have hby : i.bytes = 8 := by
    have h : (Try.prog.info? 3).map (·.bytes) = some 8 := by kernel_rfl
    rw [hi] at h; simpa using h
  obtain ⟨W1, hmk, g1, b1⟩ : ∃ W1, (Instr.makeSlice 22 (.int .i64 0) (.int .i64 0)).run Try.prog w = .ok (.slice (some ⟨w.heap.size, 0, none⟩) 0 0) W1 ∧ W1.heap[w.heap.size]? = some (.cells (List.replicate 0 (Value.int .i64 0)).toArray 3 (0, 0)) ∧ Below w.heap.size w W1 := by
    refine ⟨w.alloc (.cells (List.replicate 0 (Value.int .i64 0)).toArray 3), ?_, ?_, (Below.refl _ _).alloc (Nat.le_refl _) _⟩
    · rw [run_make (P := Try.prog) w 22 3 i _ Try.underlying22 hi hz .i64 .i64 0 0 (by decide) (by decide) (by rw [hby]; decide) (by decide), hsz, made1 _ _ rfl]
      rfl
    · unfold World.alloc; exact Array.getElem?_push_size
  clear hi hz hsz hby i
  have hc1 : W1.cell? ⟨b, o, none⟩ = some (.int .i64 v) := by rw [← hc]; unfold World.cell?; rw [b1.block b hbl]
  generalize w.heap.size = g at *
  obtain ⟨W2, c1, g2, b2⟩ := copyEq W1 (o := 0) (dLen := 0) (dCap := 0) (sLen := 1) (sCap := cap) (a := ⟨b, o, none⟩) (cs := []) g1 rfl (fun j v h => by simp at h) (by simp) (by simp)
  have g2 : W2.heap[g]? = some (.cells ([] : List Value).toArray 3 (0, 0)) := g2
  simp only [List.length_nil, List.length_cons, Nat.zero_add, Nat.reduceAdd] at c1
  have G : Aside (W2.heap[g]? = some (.cells (List.replicate 0 (Value.int .i64 v)).toArray 3 (0, 0)) ∧ Below g w W2) := ⟨g2, b1.trans b2⟩
  clear g1 g2 b1 b2 hc hc1 hbl
  have mixed := Try.checked.mixed
  go_enter Try.func95, Try.ntmps95
  go_wp2_with (go_at_call 145; refine (mul1_0 _).mono ?_; rintro e w' ⟨rfl, rfl⟩)
  refine wp_loop_rounds 2 ?_
  simp only [rounds_succ]
  go_wp2
  go_ret
  exact ⟨rfl, G.out⟩

set_option maxHeartbeats 1000000 in
theorem mul1_1 (w : World) : Calls Try.prog 145 #[.int .u64 1, .int .u64 1] w fun e w' => e = .returned (.tuple #[.int .u64 0, .int .u64 1]) ∧ w = w' := by
  have e1 : bits BinOp.and IntKind.u64 1 4294967295 = 1 := by decide
  have e2 : bits BinOp.and IntKind.u64 1 4294967295 = 1 := by decide
  have e3 : bits BinOp.and IntKind.u64 0 4294967295 = 0 := by decide
  have e4 : IntKind.u64.wrap 1 = 1 := by decide
  have e5 : IntKind.u64.wrap 0 = 0 := by decide
  have e6 : (1 : Int) / 4294967296 = 0 := by decide
  have e7 : IntKind.u64.wrap 1 = 1 := by decide
  have e8 : (0 : Int) / 4294967296 = 0 := by decide
  go_enter Try.func145, Try.ntmps145
  go_wp2
  go_ret2
  exact ⟨rfl, rfl⟩

set_option maxHeartbeats 2000000 in
theorem rep_1 (v : Int) (b o cap : Nat) (w : World) (hc : w.cell? ⟨b, o, none⟩ = some (.int .i64 v)) (hbl : b < w.heap.size) :
    Calls Try.prog 95 #[.slice (some ⟨b, o, none⟩) 1 cap, .int .i64 1] w fun e w' => e = .returned (.slice (some ⟨w.heap.size, 0, none⟩) 1 1) ∧ w'.heap[w.heap.size]? = some (.cells (List.replicate 1 (Value.int .i64 v)).toArray 3 (0, 0)) ∧ Below w.heap.size w w' := by
  have e4 : IntKind.u64.wrap 1 = 1 := by decide
  obtain ⟨i, hi⟩ : ∃ i, Try.prog.info? 3 = some i := Option.isSome_iff_exists.1 (by kernel_rfl)
  have hz : i.zero = some (.int .i64 0) := by
    have h : (Try.prog.info? 3).bind (·.zero) = some (.int .i64 0) := by kernel_rfl
    rw [hi] at h; simpa using h
  have hsz : i.size = 1 := by
    have h : (Try.prog.info? 3).map (·.size) = some 1 := by kernel_rfl
    rw [hi] at h; simpa using h
  have hby : i.bytes = 8 := by
    have h : (Try.prog.info? 3).map (·.bytes) = some 8 := by kernel_rfl
    rw [hi] at h; simpa using h
  obtain ⟨W1, hmk, g1, b1⟩ : ∃ W1, (Instr.makeSlice 22 (.int .i64 1) (.int .i64 1)).run Try.prog w = .ok (.slice (some ⟨w.heap.size, 0, none⟩) 1 1) W1 ∧ W1.heap[w.heap.size]? = some (.cells (List.replicate 1 (Value.int .i64 0)).toArray 3 (0, 0)) ∧ Below w.heap.size w W1 := by
    refine ⟨w.alloc (.cells (List.replicate 1 (Value.int .i64 0)).toArray 3), ?_, ?_, (Below.refl _ _).alloc (Nat.le_refl _) _⟩
    · rw [run_make (P := Try.prog) w 22 3 i _ Try.underlying22 hi hz .i64 .i64 1 1 (by decide) (by decide) (by rw [hby]; decide) (by decide), hsz, made1 _ _ rfl]
      rfl
    · unfold World.alloc; exact Array.getElem?_push_size
  clear hi hz hsz hby i
  have hc1 : W1.cell? ⟨b, o, none⟩ = some (.int .i64 v) := by rw [← hc]; unfold World.cell?; rw [b1.block b hbl]
  generalize w.heap.size = g at *
  obtain ⟨W2, c1, g2, b2⟩ := copyEq W1 (o := 0) (dLen := 1) (dCap := 1) (sLen := 1) (sCap := cap) (cs := [.int .i64 v]) g1 rfl (src_one hc1) (by simp) (by simp [Value.oneCell'])
  have g2 : W2.heap[g]? = some (.cells ([.int .i64 v] : List Value).toArray 3 (0, 0)) := g2
  simp only [List.length_nil, List.length_cons, Nat.zero_add, Nat.reduceAdd] at c1
  have G : Aside (W2.heap[g]? = some (.cells (List.replicate 1 (Value.int .i64 v)).toArray 3 (0, 0)) ∧ Below g w W2) := ⟨g2, b1.trans b2⟩
  clear g1 g2 b1 b2 hc hc1 hbl
  have mixed := Try.checked.mixed
  go_enter Try.func95, Try.ntmps95
  go_wp2_with (go_at_call 145; refine (mul1_1 _).mono ?_; rintro e w' ⟨rfl, rfl⟩)
  refine wp_loop_rounds 2 ?_
  simp only [rounds_succ]
  go_wp2
  go_ret
  exact ⟨rfl, G.out⟩

set_option maxHeartbeats 1000000 in
theorem mul1_2 (w : World) : Calls Try.prog 145 #[.int .u64 1, .int .u64 2] w fun e w' => e = .returned (.tuple #[.int .u64 0, .int .u64 2]) ∧ w = w' := by
  have e1 : bits BinOp.and IntKind.u64 1 4294967295 = 1 := by decide
  have e2 : bits BinOp.and IntKind.u64 2 4294967295 = 2 := by decide
  have e3 : bits BinOp.and IntKind.u64 0 4294967295 = 0 := by decide
  have e4 : IntKind.u64.wrap 2 = 2 := by decide
  have e5 : IntKind.u64.wrap 0 = 0 := by decide
  have e6 : (2 : Int) / 4294967296 = 0 := by decide
  have e7 : IntKind.u64.wrap 1 = 1 := by decide
  have e8 : (0 : Int) / 4294967296 = 0 := by decide
  go_enter Try.func145, Try.ntmps145
  go_wp2
  go_ret2
  exact ⟨rfl, rfl⟩

set_option maxHeartbeats 2000000 in
theorem rep_2 (v : Int) (b o cap : Nat) (w : World) (hc : w.cell? ⟨b, o, none⟩ = some (.int .i64 v)) (hbl : b < w.heap.size) :
    Calls Try.prog 95 #[.slice (some ⟨b, o, none⟩) 1 cap, .int .i64 2] w fun e w' => e = .returned (.slice (some ⟨w.heap.size, 0, none⟩) 2 2) ∧ w'.heap[w.heap.size]? = some (.cells (List.replicate 2 (Value.int .i64 v)).toArray 3 (0, 0)) ∧ Below w.heap.size w w' := by
  have e4 : IntKind.u64.wrap 2 = 2 := by decide
  obtain ⟨i, hi⟩ : ∃ i, Try.prog.info? 3 = some i := Option.isSome_iff_exists.1 (by kernel_rfl)
  have hz : i.zero = some (.int .i64 0) := by
    have h : (Try.prog.info? 3).bind (·.zero) = some (.int .i64 0) := by kernel_rfl
    rw [hi] at h; simpa using h
  have hsz : i.size = 1 := by
    have h : (Try.prog.info? 3).map (·.size) = some 1 := by kernel_rfl
    rw [hi] at h; simpa using h
  have hby : i.bytes = 8 := by
    have h : (Try.prog.info? 3).map (·.bytes) = some 8 := by kernel_rfl
    rw [hi] at h; simpa using h
  obtain ⟨W1, hmk, g1, b1⟩ : ∃ W1, (Instr.makeSlice 22 (.int .i64 2) (.int .i64 2)).run Try.prog w = .ok (.slice (some ⟨w.heap.size, 0, none⟩) 2 2) W1 ∧ W1.heap[w.heap.size]? = some (.cells (List.replicate 2 (Value.int .i64 0)).toArray 3 (0, 0)) ∧ Below w.heap.size w W1 := by
    refine ⟨w.alloc (.cells (List.replicate 2 (Value.int .i64 0)).toArray 3), ?_, ?_, (Below.refl _ _).alloc (Nat.le_refl _) _⟩
    · rw [run_make (P := Try.prog) w 22 3 i _ Try.underlying22 hi hz .i64 .i64 2 2 (by decide) (by decide) (by rw [hby]; decide) (by decide), hsz, made1 _ _ rfl]
      rfl
    · unfold World.alloc; exact Array.getElem?_push_size
  clear hi hz hsz hby i
  have hc1 : W1.cell? ⟨b, o, none⟩ = some (.int .i64 v) := by rw [← hc]; unfold World.cell?; rw [b1.block b hbl]
  generalize w.heap.size = g at *
  obtain ⟨W2, c1, g2, b2⟩ := copyEq W1 (o := 0) (dLen := 2) (dCap := 2) (sLen := 1) (sCap := cap) (cs := [.int .i64 v]) g1 rfl (src_one hc1) (by simp) (by simp [Value.oneCell'])
  have g2 : W2.heap[g]? = some (.cells ([.int .i64 v, .int .i64 0] : List Value).toArray 3 (0, 0)) := g2
  obtain ⟨W3, c2, g3, b3⟩ := copyEq W2.drew (o := 1) (dLen := 1) (dCap := 1) (sLen := 1) (sCap := 2) (a := ⟨g, 0, none⟩) (cs := [.int .i64 v]) g2 rfl (src_row (cs := [.int .i64 v]) (rest := [.int .i64 0]) g2) (by simp) (by simp [Value.oneCell'])
  have g3 : W3.heap[g]? = some (.cells ([.int .i64 v, .int .i64 v] : List Value).toArray 3 (0, 0)) := g3
  simp only [List.length_nil, List.length_cons, Nat.zero_add, Nat.reduceAdd] at c1 c2
  have G : Aside (W3.heap[g]? = some (.cells (List.replicate 2 (Value.int .i64 v)).toArray 3 (0, 0)) ∧ Below g w W3) := ⟨g3, (b1.trans b2).drew.trans b3⟩
  clear g1 g2 g3 b1 b2 b3 hc hc1 hbl
  have mixed := Try.checked.mixed
  go_enter Try.func95, Try.ntmps95
  go_wp2_with (go_at_call 145; refine (mul1_2 _).mono ?_; rintro e w' ⟨rfl, rfl⟩)
  refine wp_loop_rounds 3 ?_
  simp only [rounds_succ]
  go_wp2
  go_region_law_o (refine step_copy_runI rfl _ _ 22 22 rfl _ _ (by simp [Act.eval, Act.put]) (by simp [Act.eval, Act.put]) c2 ?_)
  go_wp2
  simp only [rounds_succ]
  go_wp2
  go_ret
  exact ⟨rfl, G.out⟩

set_option maxHeartbeats 1000000 in
theorem mul1_3 (w : World) : Calls Try.prog 145 #[.int .u64 1, .int .u64 3] w fun e w' => e = .returned (.tuple #[.int .u64 0, .int .u64 3]) ∧ w = w' := by
  have e1 : bits BinOp.and IntKind.u64 1 4294967295 = 1 := by decide
  have e2 : bits BinOp.and IntKind.u64 3 4294967295 = 3 := by decide
  have e3 : bits BinOp.and IntKind.u64 0 4294967295 = 0 := by decide
  have e4 : IntKind.u64.wrap 3 = 3 := by decide
  have e5 : IntKind.u64.wrap 0 = 0 := by decide
  have e6 : (3 : Int) / 4294967296 = 0 := by decide
  have e7 : IntKind.u64.wrap 1 = 1 := by decide
  have e8 : (0 : Int) / 4294967296 = 0 := by decide
  go_enter Try.func145, Try.ntmps145
  go_wp2
  go_ret2
  exact ⟨rfl, rfl⟩

set_option maxHeartbeats 2000000 in
theorem rep_3 (v : Int) (b o cap : Nat) (w : World) (hc : w.cell? ⟨b, o, none⟩ = some (.int .i64 v)) (hbl : b < w.heap.size) :
    Calls Try.prog 95 #[.slice (some ⟨b, o, none⟩) 1 cap, .int .i64 3] w fun e w' => e = .returned (.slice (some ⟨w.heap.size, 0, none⟩) 3 3) ∧ w'.heap[w.heap.size]? = some (.cells (List.replicate 3 (Value.int .i64 v)).toArray 3 (0, 0)) ∧ Below w.heap.size w w' := by
  have e4 : IntKind.u64.wrap 3 = 3 := by decide
  obtain ⟨i, hi⟩ : ∃ i, Try.prog.info? 3 = some i := Option.isSome_iff_exists.1 (by kernel_rfl)
  have hz : i.zero = some (.int .i64 0) := by
    have h : (Try.prog.info? 3).bind (·.zero) = some (.int .i64 0) := by kernel_rfl
    rw [hi] at h; simpa using h
  have hsz : i.size = 1 := by
    have h : (Try.prog.info? 3).map (·.size) = some 1 := by kernel_rfl
    rw [hi] at h; simpa using h
  have hby : i.bytes = 8 := by
    have h : (Try.prog.info? 3).map (·.bytes) = some 8 := by kernel_rfl
    rw [hi] at h; simpa using h
  obtain ⟨W1, hmk, g1, b1⟩ : ∃ W1, (Instr.makeSlice 22 (.int .i64 3) (.int .i64 3)).run Try.prog w = .ok (.slice (some ⟨w.heap.size, 0, none⟩) 3 3) W1 ∧ W1.heap[w.heap.size]? = some (.cells (List.replicate 3 (Value.int .i64 0)).toArray 3 (0, 0)) ∧ Below w.heap.size w W1 := by
    refine ⟨w.alloc (.cells (List.replicate 3 (Value.int .i64 0)).toArray 3), ?_, ?_, (Below.refl _ _).alloc (Nat.le_refl _) _⟩
    · rw [run_make (P := Try.prog) w 22 3 i _ Try.underlying22 hi hz .i64 .i64 3 3 (by decide) (by decide) (by rw [hby]; decide) (by decide), hsz, made1 _ _ rfl]
      rfl
    · unfold World.alloc; exact Array.getElem?_push_size
  clear hi hz hsz hby i
  have hc1 : W1.cell? ⟨b, o, none⟩ = some (.int .i64 v) := by rw [← hc]; unfold World.cell?; rw [b1.block b hbl]
  generalize w.heap.size = g at *
  obtain ⟨W2, c1, g2, b2⟩ := copyEq W1 (o := 0) (dLen := 3) (dCap := 3) (sLen := 1) (sCap := cap) (cs := [.int .i64 v]) g1 rfl (src_one hc1) (by simp) (by simp [Value.oneCell'])
  have g2 : W2.heap[g]? = some (.cells ([.int .i64 v, .int .i64 0, .int .i64 0] : List Value).toArray 3 (0, 0)) := g2
  obtain ⟨W3, c2, g3, b3⟩ := copyEq W2.drew (o := 1) (dLen := 2) (dCap := 2) (sLen := 1) (sCap := 3) (a := ⟨g, 0, none⟩) (cs := [.int .i64 v]) g2 rfl (src_row (cs := [.int .i64 v]) (rest := [.int .i64 0, .int .i64 0]) g2) (by simp) (by simp [Value.oneCell'])
  have g3 : W3.heap[g]? = some (.cells ([.int .i64 v, .int .i64 v, .int .i64 0] : List Value).toArray 3 (0, 0)) := g3
  obtain ⟨W4, c3, g4, b4⟩ := copyEq W3.drew (o := 2) (dLen := 1) (dCap := 1) (sLen := 2) (sCap := 3) (a := ⟨g, 0, none⟩) (cs := [.int .i64 v]) g3 rfl (src_row (cs := [.int .i64 v]) (rest := [.int .i64 v, .int .i64 0]) g3) (by simp) (by simp [Value.oneCell'])
  have g4 : W4.heap[g]? = some (.cells ([.int .i64 v, .int .i64 v, .int .i64 v] : List Value).toArray 3 (0, 0)) := g4
  simp only [List.length_nil, List.length_cons, Nat.zero_add, Nat.reduceAdd] at c1 c2 c3
  have G : Aside (W4.heap[g]? = some (.cells (List.replicate 3 (Value.int .i64 v)).toArray 3 (0, 0)) ∧ Below g w W4) := ⟨g4, ((b1.trans b2).drew.trans b3).drew.trans b4⟩
  clear g1 g2 g3 g4 b1 b2 b3 b4 hc hc1 hbl
  have mixed := Try.checked.mixed
  go_enter Try.func95, Try.ntmps95
  go_wp2_with (go_at_call 145; refine (mul1_3 _).mono ?_; rintro e w' ⟨rfl, rfl⟩)
  refine wp_loop_rounds 4 ?_
  simp only [rounds_succ]
  go_wp2
  go_region_law_o (refine step_copy_runI rfl _ _ 22 22 rfl _ _ (by simp [Act.eval, Act.put]) (by simp [Act.eval, Act.put]) c2 ?_)
  go_wp2
  simp only [rounds_succ]
  go_wp2
  go_region_law_o (refine step_copy_runI rfl _ _ 22 22 rfl _ _ (by simp [Act.eval, Act.put]) (by simp [Act.eval, Act.put]) c3 ?_)
  go_wp2
  simp only [rounds_succ]
  go_wp2
  go_ret
  exact ⟨rfl, G.out⟩

set_option maxHeartbeats 1000000 in
theorem mul1_4 (w : World) : Calls Try.prog 145 #[.int .u64 1, .int .u64 4] w fun e w' => e = .returned (.tuple #[.int .u64 0, .int .u64 4]) ∧ w = w' := by
  have e1 : bits BinOp.and IntKind.u64 1 4294967295 = 1 := by decide
  have e2 : bits BinOp.and IntKind.u64 4 4294967295 = 4 := by decide
  have e3 : bits BinOp.and IntKind.u64 0 4294967295 = 0 := by decide
  have e4 : IntKind.u64.wrap 4 = 4 := by decide
  have e5 : IntKind.u64.wrap 0 = 0 := by decide
  have e6 : (4 : Int) / 4294967296 = 0 := by decide
  have e7 : IntKind.u64.wrap 1 = 1 := by decide
  have e8 : (0 : Int) / 4294967296 = 0 := by decide
  go_enter Try.func145, Try.ntmps145
  go_wp2
  go_ret2
  exact ⟨rfl, rfl⟩

set_option maxHeartbeats 2000000 in
theorem rep_4 (v : Int) (b o cap : Nat) (w : World) (hc : w.cell? ⟨b, o, none⟩ = some (.int .i64 v)) (hbl : b < w.heap.size) :
    Calls Try.prog 95 #[.slice (some ⟨b, o, none⟩) 1 cap, .int .i64 4] w fun e w' => e = .returned (.slice (some ⟨w.heap.size, 0, none⟩) 4 4) ∧ w'.heap[w.heap.size]? = some (.cells (List.replicate 4 (Value.int .i64 v)).toArray 3 (0, 0)) ∧ Below w.heap.size w w' := by
  have e4 : IntKind.u64.wrap 4 = 4 := by decide
  obtain ⟨i, hi⟩ : ∃ i, Try.prog.info? 3 = some i := Option.isSome_iff_exists.1 (by kernel_rfl)
  have hz : i.zero = some (.int .i64 0) := by
    have h : (Try.prog.info? 3).bind (·.zero) = some (.int .i64 0) := by kernel_rfl
    rw [hi] at h; simpa using h
  have hsz : i.size = 1 := by
    have h : (Try.prog.info? 3).map (·.size) = some 1 := by kernel_rfl
    rw [hi] at h; simpa using h
  have hby : i.bytes = 8 := by
    have h : (Try.prog.info? 3).map (·.bytes) = some 8 := by kernel_rfl
    rw [hi] at h; simpa using h
  obtain ⟨W1, hmk, g1, b1⟩ : ∃ W1, (Instr.makeSlice 22 (.int .i64 4) (.int .i64 4)).run Try.prog w = .ok (.slice (some ⟨w.heap.size, 0, none⟩) 4 4) W1 ∧ W1.heap[w.heap.size]? = some (.cells (List.replicate 4 (Value.int .i64 0)).toArray 3 (0, 0)) ∧ Below w.heap.size w W1 := by
    refine ⟨w.alloc (.cells (List.replicate 4 (Value.int .i64 0)).toArray 3), ?_, ?_, (Below.refl _ _).alloc (Nat.le_refl _) _⟩
    · rw [run_make (P := Try.prog) w 22 3 i _ Try.underlying22 hi hz .i64 .i64 4 4 (by decide) (by decide) (by rw [hby]; decide) (by decide), hsz, made1 _ _ rfl]
      rfl
    · unfold World.alloc; exact Array.getElem?_push_size
  clear hi hz hsz hby i
  have hc1 : W1.cell? ⟨b, o, none⟩ = some (.int .i64 v) := by rw [← hc]; unfold World.cell?; rw [b1.block b hbl]
  generalize w.heap.size = g at *
  obtain ⟨W2, c1, g2, b2⟩ := copyEq W1 (o := 0) (dLen := 4) (dCap := 4) (sLen := 1) (sCap := cap) (cs := [.int .i64 v]) g1 rfl (src_one hc1) (by simp) (by simp [Value.oneCell'])
  have g2 : W2.heap[g]? = some (.cells ([.int .i64 v, .int .i64 0, .int .i64 0, .int .i64 0] : List Value).toArray 3 (0, 0)) := g2
  obtain ⟨W3, c2, g3, b3⟩ := copyEq W2.drew (o := 1) (dLen := 3) (dCap := 3) (sLen := 1) (sCap := 4) (a := ⟨g, 0, none⟩) (cs := [.int .i64 v]) g2 rfl (src_row (cs := [.int .i64 v]) (rest := [.int .i64 0, .int .i64 0, .int .i64 0]) g2) (by simp) (by simp [Value.oneCell'])
  have g3 : W3.heap[g]? = some (.cells ([.int .i64 v, .int .i64 v, .int .i64 0, .int .i64 0] : List Value).toArray 3 (0, 0)) := g3
  obtain ⟨W4, c3, g4, b4⟩ := copyEq W3.drew (o := 2) (dLen := 2) (dCap := 2) (sLen := 2) (sCap := 4) (a := ⟨g, 0, none⟩) (cs := [.int .i64 v, .int .i64 v]) g3 rfl (src_row (cs := [.int .i64 v, .int .i64 v]) (rest := [.int .i64 0, .int .i64 0]) g3) (by simp) (by simp [Value.oneCell'])
  have g4 : W4.heap[g]? = some (.cells ([.int .i64 v, .int .i64 v, .int .i64 v, .int .i64 v] : List Value).toArray 3 (0, 0)) := g4
  simp only [List.length_nil, List.length_cons, Nat.zero_add, Nat.reduceAdd] at c1 c2 c3
  have G : Aside (W4.heap[g]? = some (.cells (List.replicate 4 (Value.int .i64 v)).toArray 3 (0, 0)) ∧ Below g w W4) := ⟨g4, ((b1.trans b2).drew.trans b3).drew.trans b4⟩
  clear g1 g2 g3 g4 b1 b2 b3 b4 hc hc1 hbl
  have mixed := Try.checked.mixed
  go_enter Try.func95, Try.ntmps95
  go_wp2_with (go_at_call 145; refine (mul1_4 _).mono ?_; rintro e w' ⟨rfl, rfl⟩)
  refine wp_loop_rounds 4 ?_
  simp only [rounds_succ]
  go_wp2
  go_region_law_o (refine step_copy_runI rfl _ _ 22 22 rfl _ _ (by simp [Act.eval, Act.put]) (by simp [Act.eval, Act.put]) c2 ?_)
  go_wp2
  simp only [rounds_succ]
  go_wp2
  go_region_law_o (refine step_copy_runI rfl _ _ 22 22 rfl _ _ (by simp [Act.eval, Act.put]) (by simp [Act.eval, Act.put]) c3 ?_)
  go_wp2
  simp only [rounds_succ]
  go_wp2
  go_ret
  exact ⟨rfl, G.out⟩

set_option maxHeartbeats 1000000 in
theorem mul1_5 (w : World) : Calls Try.prog 145 #[.int .u64 1, .int .u64 5] w fun e w' => e = .returned (.tuple #[.int .u64 0, .int .u64 5]) ∧ w = w' := by
  have e1 : bits BinOp.and IntKind.u64 1 4294967295 = 1 := by decide
  have e2 : bits BinOp.and IntKind.u64 5 4294967295 = 5 := by decide
  have e3 : bits BinOp.and IntKind.u64 0 4294967295 = 0 := by decide
  have e4 : IntKind.u64.wrap 5 = 5 := by decide
  have e5 : IntKind.u64.wrap 0 = 0 := by decide
  have e6 : (5 : Int) / 4294967296 = 0 := by decide
  have e7 : IntKind.u64.wrap 1 = 1 := by decide
  have e8 : (0 : Int) / 4294967296 = 0 := by decide
  go_enter Try.func145, Try.ntmps145
  go_wp2
  go_ret2
  exact ⟨rfl, rfl⟩

set_option maxHeartbeats 2000000 in
theorem rep_5 (v : Int) (b o cap : Nat) (w : World) (hc : w.cell? ⟨b, o, none⟩ = some (.int .i64 v)) (hbl : b < w.heap.size) :
    Calls Try.prog 95 #[.slice (some ⟨b, o, none⟩) 1 cap, .int .i64 5] w fun e w' => e = .returned (.slice (some ⟨w.heap.size, 0, none⟩) 5 5) ∧ w'.heap[w.heap.size]? = some (.cells (List.replicate 5 (Value.int .i64 v)).toArray 3 (0, 0)) ∧ Below w.heap.size w w' := by
  have e4 : IntKind.u64.wrap 5 = 5 := by decide
  obtain ⟨i, hi⟩ : ∃ i, Try.prog.info? 3 = some i := Option.isSome_iff_exists.1 (by kernel_rfl)
  have hz : i.zero = some (.int .i64 0) := by
    have h : (Try.prog.info? 3).bind (·.zero) = some (.int .i64 0) := by kernel_rfl
    rw [hi] at h; simpa using h
  have hsz : i.size = 1 := by
    have h : (Try.prog.info? 3).map (·.size) = some 1 := by kernel_rfl
    rw [hi] at h; simpa using h
  have hby : i.bytes = 8 := by
    have h : (Try.prog.info? 3).map (·.bytes) = some 8 := by kernel_rfl
    rw [hi] at h; simpa using h
  obtain ⟨W1, hmk, g1, b1⟩ : ∃ W1, (Instr.makeSlice 22 (.int .i64 5) (.int .i64 5)).run Try.prog w = .ok (.slice (some ⟨w.heap.size, 0, none⟩) 5 5) W1 ∧ W1.heap[w.heap.size]? = some (.cells (List.replicate 5 (Value.int .i64 0)).toArray 3 (0, 0)) ∧ Below w.heap.size w W1 := by
    refine ⟨w.alloc (.cells (List.replicate 5 (Value.int .i64 0)).toArray 3), ?_, ?_, (Below.refl _ _).alloc (Nat.le_refl _) _⟩
    · rw [run_make (P := Try.prog) w 22 3 i _ Try.underlying22 hi hz .i64 .i64 5 5 (by decide) (by decide) (by rw [hby]; decide) (by decide), hsz, made1 _ _ rfl]
      rfl
    · unfold World.alloc; exact Array.getElem?_push_size
  clear hi hz hsz hby i
  have hc1 : W1.cell? ⟨b, o, none⟩ = some (.int .i64 v) := by rw [← hc]; unfold World.cell?; rw [b1.block b hbl]
  generalize w.heap.size = g at *
  obtain ⟨W2, c1, g2, b2⟩ := copyEq W1 (o := 0) (dLen := 5) (dCap := 5) (sLen := 1) (sCap := cap) (cs := [.int .i64 v]) g1 rfl (src_one hc1) (by simp) (by simp [Value.oneCell'])
  have g2 : W2.heap[g]? = some (.cells ([.int .i64 v, .int .i64 0, .int .i64 0, .int .i64 0, .int .i64 0] : List Value).toArray 3 (0, 0)) := g2
  obtain ⟨W3, c2, g3, b3⟩ := copyEq W2.drew (o := 1) (dLen := 4) (dCap := 4) (sLen := 1) (sCap := 5) (a := ⟨g, 0, none⟩) (cs := [.int .i64 v]) g2 rfl (src_row (cs := [.int .i64 v]) (rest := [.int .i64 0, .int .i64 0, .int .i64 0, .int .i64 0]) g2) (by simp) (by simp [Value.oneCell'])
  have g3 : W3.heap[g]? = some (.cells ([.int .i64 v, .int .i64 v, .int .i64 0, .int .i64 0, .int .i64 0] : List Value).toArray 3 (0, 0)) := g3
  obtain ⟨W4, c3, g4, b4⟩ := copyEq W3.drew (o := 2) (dLen := 3) (dCap := 3) (sLen := 2) (sCap := 5) (a := ⟨g, 0, none⟩) (cs := [.int .i64 v, .int .i64 v]) g3 rfl (src_row (cs := [.int .i64 v, .int .i64 v]) (rest := [.int .i64 0, .int .i64 0, .int .i64 0]) g3) (by simp) (by simp [Value.oneCell'])
  have g4 : W4.heap[g]? = some (.cells ([.int .i64 v, .int .i64 v, .int .i64 v, .int .i64 v, .int .i64 0] : List Value).toArray 3 (0, 0)) := g4
  obtain ⟨W5, c4, g5, b5⟩ := copyEq W4.drew (o := 4) (dLen := 1) (dCap := 1) (sLen := 4) (sCap := 5) (a := ⟨g, 0, none⟩) (cs := [.int .i64 v]) g4 rfl (src_row (cs := [.int .i64 v]) (rest := [.int .i64 v, .int .i64 v, .int .i64 v, .int .i64 0]) g4) (by simp) (by simp [Value.oneCell'])
  have g5 : W5.heap[g]? = some (.cells ([.int .i64 v, .int .i64 v, .int .i64 v, .int .i64 v, .int .i64 v] : List Value).toArray 3 (0, 0)) := g5
  simp only [List.length_nil, List.length_cons, Nat.zero_add, Nat.reduceAdd] at c1 c2 c3 c4
  have G : Aside (W5.heap[g]? = some (.cells (List.replicate 5 (Value.int .i64 v)).toArray 3 (0, 0)) ∧ Below g w W5) := ⟨g5, (((b1.trans b2).drew.trans b3).drew.trans b4).drew.trans b5⟩
  clear g1 g2 g3 g4 g5 b1 b2 b3 b4 b5 hc hc1 hbl
  have mixed := Try.checked.mixed
  go_enter Try.func95, Try.ntmps95
  go_wp2_with (go_at_call 145; refine (mul1_5 _).mono ?_; rintro e w' ⟨rfl, rfl⟩)
  refine wp_loop_rounds 5 ?_
  simp only [rounds_succ]
  go_wp2
  go_region_law_o (refine step_copy_runI rfl _ _ 22 22 rfl _ _ (by simp [Act.eval, Act.put]) (by simp [Act.eval, Act.put]) c2 ?_)
  go_wp2
  simp only [rounds_succ]
  go_wp2
  go_region_law_o (refine step_copy_runI rfl _ _ 22 22 rfl _ _ (by simp [Act.eval, Act.put]) (by simp [Act.eval, Act.put]) c3 ?_)
  go_wp2
  simp only [rounds_succ]
  go_wp2
  go_region_law_o (refine step_copy_runI rfl _ _ 22 22 rfl _ _ (by simp [Act.eval, Act.put]) (by simp [Act.eval, Act.put]) c4 ?_)
  go_wp2
  simp only [rounds_succ]
  go_wp2
  go_ret
  exact ⟨rfl, G.out⟩

set_option maxHeartbeats 1000000 in
theorem mul1_6 (w : World) : Calls Try.prog 145 #[.int .u64 1, .int .u64 6] w fun e w' => e = .returned (.tuple #[.int .u64 0, .int .u64 6]) ∧ w = w' := by
  have e1 : bits BinOp.and IntKind.u64 1 4294967295 = 1 := by decide
  have e2 : bits BinOp.and IntKind.u64 6 4294967295 = 6 := by decide
  have e3 : bits BinOp.and IntKind.u64 0 4294967295 = 0 := by decide
  have e4 : IntKind.u64.wrap 6 = 6 := by decide
  have e5 : IntKind.u64.wrap 0 = 0 := by decide
  have e6 : (6 : Int) / 4294967296 = 0 := by decide
  have e7 : IntKind.u64.wrap 1 = 1 := by decide
  have e8 : (0 : Int) / 4294967296 = 0 := by decide
  go_enter Try.func145, Try.ntmps145
  go_wp2
  go_ret2
  exact ⟨rfl, rfl⟩

set_option maxHeartbeats 2000000 in
theorem rep_6 (v : Int) (b o cap : Nat) (w : World) (hc : w.cell? ⟨b, o, none⟩ = some (.int .i64 v)) (hbl : b < w.heap.size) :
    Calls Try.prog 95 #[.slice (some ⟨b, o, none⟩) 1 cap, .int .i64 6] w fun e w' => e = .returned (.slice (some ⟨w.heap.size, 0, none⟩) 6 6) ∧ w'.heap[w.heap.size]? = some (.cells (List.replicate 6 (Value.int .i64 v)).toArray 3 (0, 0)) ∧ Below w.heap.size w w' := by
  have e4 : IntKind.u64.wrap 6 = 6 := by decide
  obtain ⟨i, hi⟩ : ∃ i, Try.prog.info? 3 = some i := Option.isSome_iff_exists.1 (by kernel_rfl)
  have hz : i.zero = some (.int .i64 0) := by
    have h : (Try.prog.info? 3).bind (·.zero) = some (.int .i64 0) := by kernel_rfl
    rw [hi] at h; simpa using h
  have hsz : i.size = 1 := by
    have h : (Try.prog.info? 3).map (·.size) = some 1 := by kernel_rfl
    rw [hi] at h; simpa using h
  have hby : i.bytes = 8 := by
    have h : (Try.prog.info? 3).map (·.bytes) = some 8 := by kernel_rfl
    rw [hi] at h; simpa using h
  obtain ⟨W1, hmk, g1, b1⟩ : ∃ W1, (Instr.makeSlice 22 (.int .i64 6) (.int .i64 6)).run Try.prog w = .ok (.slice (some ⟨w.heap.size, 0, none⟩) 6 6) W1 ∧ W1.heap[w.heap.size]? = some (.cells (List.replicate 6 (Value.int .i64 0)).toArray 3 (0, 0)) ∧ Below w.heap.size w W1 := by
    refine ⟨w.alloc (.cells (List.replicate 6 (Value.int .i64 0)).toArray 3), ?_, ?_, (Below.refl _ _).alloc (Nat.le_refl _) _⟩
    · rw [run_make (P := Try.prog) w 22 3 i _ Try.underlying22 hi hz .i64 .i64 6 6 (by decide) (by decide) (by rw [hby]; decide) (by decide), hsz, made1 _ _ rfl]
      rfl
    · unfold World.alloc; exact Array.getElem?_push_size
  clear hi hz hsz hby i
  have hc1 : W1.cell? ⟨b, o, none⟩ = some (.int .i64 v) := by rw [← hc]; unfold World.cell?; rw [b1.block b hbl]
  generalize w.heap.size = g at *
  obtain ⟨W2, c1, g2, b2⟩ := copyEq W1 (o := 0) (dLen := 6) (dCap := 6) (sLen := 1) (sCap := cap) (cs := [.int .i64 v]) g1 rfl (src_one hc1) (by simp) (by simp [Value.oneCell'])
  have g2 : W2.heap[g]? = some (.cells ([.int .i64 v, .int .i64 0, .int .i64 0, .int .i64 0, .int .i64 0, .int .i64 0] : List Value).toArray 3 (0, 0)) := g2
  obtain ⟨W3, c2, g3, b3⟩ := copyEq W2.drew (o := 1) (dLen := 5) (dCap := 5) (sLen := 1) (sCap := 6) (a := ⟨g, 0, none⟩) (cs := [.int .i64 v]) g2 rfl (src_row (cs := [.int .i64 v]) (rest := [.int .i64 0, .int .i64 0, .int .i64 0, .int .i64 0, .int .i64 0]) g2) (by simp) (by simp [Value.oneCell'])
  have g3 : W3.heap[g]? = some (.cells ([.int .i64 v, .int .i64 v, .int .i64 0, .int .i64 0, .int .i64 0, .int .i64 0] : List Value).toArray 3 (0, 0)) := g3
  obtain ⟨W4, c3, g4, b4⟩ := copyEq W3.drew (o := 2) (dLen := 4) (dCap := 4) (sLen := 2) (sCap := 6) (a := ⟨g, 0, none⟩) (cs := [.int .i64 v, .int .i64 v]) g3 rfl (src_row (cs := [.int .i64 v, .int .i64 v]) (rest := [.int .i64 0, .int .i64 0, .int .i64 0, .int .i64 0]) g3) (by simp) (by simp [Value.oneCell'])
  have g4 : W4.heap[g]? = some (.cells ([.int .i64 v, .int .i64 v, .int .i64 v, .int .i64 v, .int .i64 0, .int .i64 0] : List Value).toArray 3 (0, 0)) := g4
  obtain ⟨W5, c4, g5, b5⟩ := copyEq W4.drew (o := 4) (dLen := 2) (dCap := 2) (sLen := 4) (sCap := 6) (a := ⟨g, 0, none⟩) (cs := [.int .i64 v, .int .i64 v]) g4 rfl (src_row (cs := [.int .i64 v, .int .i64 v]) (rest := [.int .i64 v, .int .i64 v, .int .i64 0, .int .i64 0]) g4) (by simp) (by simp [Value.oneCell'])
  have g5 : W5.heap[g]? = some (.cells ([.int .i64 v, .int .i64 v, .int .i64 v, .int .i64 v, .int .i64 v, .int .i64 v] : List Value).toArray 3 (0, 0)) := g5
  simp only [List.length_nil, List.length_cons, Nat.zero_add, Nat.reduceAdd] at c1 c2 c3 c4
  have G : Aside (W5.heap[g]? = some (.cells (List.replicate 6 (Value.int .i64 v)).toArray 3 (0, 0)) ∧ Below g w W5) := ⟨g5, (((b1.trans b2).drew.trans b3).drew.trans b4).drew.trans b5⟩
  clear g1 g2 g3 g4 g5 b1 b2 b3 b4 b5 hc hc1 hbl
  have mixed := Try.checked.mixed
  go_enter Try.func95, Try.ntmps95
  go_wp2_with (go_at_call 145; refine (mul1_6 _).mono ?_; rintro e w' ⟨rfl, rfl⟩)
  refine wp_loop_rounds 5 ?_
  simp only [rounds_succ]
  go_wp2
  go_region_law_o (refine step_copy_runI rfl _ _ 22 22 rfl _ _ (by simp [Act.eval, Act.put]) (by simp [Act.eval, Act.put]) c2 ?_)
  go_wp2
  simp only [rounds_succ]
  go_wp2
  go_region_law_o (refine step_copy_runI rfl _ _ 22 22 rfl _ _ (by simp [Act.eval, Act.put]) (by simp [Act.eval, Act.put]) c3 ?_)
  go_wp2
  simp only [rounds_succ]
  go_wp2
  go_region_law_o (refine step_copy_runI rfl _ _ 22 22 rfl _ _ (by simp [Act.eval, Act.put]) (by simp [Act.eval, Act.put]) c4 ?_)
  go_wp2
  simp only [rounds_succ]
  go_wp2
  go_ret
  exact ⟨rfl, G.out⟩


theorem row_rep {w : World} {g c : Nat} {v : Int} (hg : w.heap[g]? = some (.cells (List.replicate c (Value.int .i64 v)).toArray 3 (0, 0))) : Row w g 0 1 (List.replicate c (.int .i64 v)) := by
  intro i x hx
  have hi : i < c := by have := (List.getElem?_eq_some_iff.1 hx).1; simpa using this
  rw [List.getElem?_replicate, if_pos hi] at hx
  injection hx with hx
  subst hx
  refine ⟨rfl, fun j u hu => ?_⟩
  have hj : j = 0 := by
    have := (Array.getElem?_eq_some_iff.1 hu).1
    simp [Value.cells] at this
    omega
  subst hj
  have : u = .int .i64 v := by simpa [Value.cells] using hu.symm
  subst this
  refine ⟨rfl, ?_⟩
  rw [Nat.zero_add, Nat.mul_one, Nat.add_zero]
  exact cell_at hg (by rw [List.getElem?_replicate, if_pos hi])

theorem repeatI_pc (v c : Int) (h0 : 0 ≤ c) (h6 : c ≤ 6) : PC Try.prog 95 [IL [v], I64 c] none true (fun r _ => r = IO1 (List.replicate c.toNat v)) := by
  refine ⟨⟨_, Try.func95, by kernel_rfl, by kernel_rfl⟩, fun w vs F B hF hl hr hio => ?_⟩
  obtain ⟨v1, v2, rfl⟩ : ∃ v1 v2, vs = [v1, v2] := by
    match vs, hl with
    | [a, b], _ => exact ⟨a, b, rfl⟩
  have r1 := hr 0 _ v1 rfl rfl
  have r2 := hr 1 _ v2 rfl rfl
  have r1 : Rep w F (IL [v]) v1 := r1.elim id (fun h => by cases h.1)
  have r2 : Rep w F (I64 c) v2 := r2.elim id (fun h => by cases h.1)
  cases r2
  obtain ⟨b, o, cap, rfl, hc, hbl⟩ : ∃ b o cap, v1 = .slice (some ⟨b, o, none⟩) 1 cap ∧ w.cell? ⟨b, o, none⟩ = some (.int .i64 v) ∧ b < w.heap.size := by
    generalize hd : IL [v] = d at r1
    cases r1 with
    | list sz xs us b o cap q1 q2 q3 q4 q5 q6 q7 =>
      injection hd with hd1 hd2
      subst hd1; subst hd2
      obtain ⟨u, rfl⟩ : ∃ u, us = [u] := by
        match us, q1 with
        | [u], _ => exact ⟨u, rfl⟩
      have hu := q4 0 (I64 v) u rfl rfl
      cases hu
      have := (q5 0 _ rfl).2 0 (.int .i64 v) rfl
      exact ⟨b, o, cap, rfl, by simpa using this.2, q6⟩
    | listE sz a cap => injection hd with _ hd2; cases hd2
    | _ => cases hd
  have key : Calls Try.prog 95 #[.slice (some ⟨b, o, none⟩) 1 cap, .int .i64 c] w fun e w' => e = .returned (.slice (some ⟨w.heap.size, 0, none⟩) c.toNat c.toNat) ∧ w'.heap[w.heap.size]? = some (.cells (List.replicate c.toNat (Value.int .i64 v)).toArray 3 (0, 0)) ∧ Below w.heap.size w w' := by
    have : c = 0 ∨ c = 1 ∨ c = 2 ∨ c = 3 ∨ c = 4 ∨ c = 5 ∨ c = 6 := by omega
    rcases this with rfl | rfl | rfl | rfl | rfl | rfl | rfl
    · exact rep_0 v b o cap w hc hbl
    · exact rep_1 v b o cap w hc hbl
    · exact rep_2 v b o cap w hc hbl
    · exact rep_3 v b o cap w hc hbl
    · exact rep_4 v b o cap w hc hbl
    · exact rep_5 v b o cap w hc hbl
    · exact rep_6 v b o cap w hc hbl
  refine key.mono ?_
  rintro e w' ⟨rfl, hg, hb⟩
  have hn6 : c.toNat ≤ 6 := by omega
  generalize c.toNat = n at *
  have hor := ORep.olist (w := w') (F := fun k => k < w.heap.size) (lo := w.heap.size) 1 (ints (List.replicate n v)) (List.replicate n (.int .i64 v)) (List.replicate n []) w.heap.size n (List.replicate n (Value.int .i64 v)).toArray 3 (by simp) (by simp) (fun i d u os hd hu ho => by
    have hi : i < n := by have := (List.getElem?_eq_some_iff.1 hu).1; simpa using this
    rw [List.getElem?_replicate, if_pos hi] at hu ho
    unfold ints at hd
    rw [List.getElem?_map, List.getElem?_replicate, if_pos hi] at hd
    injection hu with hu; injection ho with ho; injection hd with hd
    subst hu; subst ho; subst hd
    exact .base _ _ (.int _ _)) hg (by simp) (by simp) (by have : maxLen = 9223372036854775807 := rfl; omega) (row_rep hg) (Nat.le_refl _)
  rw [show (ints (List.replicate n v)).length = n by simp] at hor
  refine ⟨_, IO1 (List.replicate n v), [], _, rfl, rfl, fun _ => by simp, ⟨hb.os, hb.tape, hb.output, hb.size, fun k hk _ => hb.block k hk⟩, by simpa using hor, by simp, trivial⟩
noncomputable def fm_repeatI : Fam Try.prog := mkFam (X := Int × Int) 95 true (fun (v, c) => [IL [v], I64 c]) (fun (v, c) => (0 ≤ c) ∧ (c ≤ 6)) (fun (v, c) => IO1 (List.replicate c.toNat v)) (by
  rintro ⟨v, c⟩ ⟨h0, h6⟩
  exact repeatI_pc v c h0 h6)
@[simp] theorem fm_repeatI_id : fm_repeatI.id = 95 := rfl
@[simp] theorem fm_repeatI_fresh : fm_repeatI.fresh = true := rfl
@[simp] theorem fm_repeatI_look (v c : Int) (h0 : 0 ≤ c) (h6 : c ≤ 6) : fm_repeatI.look [IL [v], I64 c] = some (IO1 (List.replicate c.toNat v)) :=
  lookF_of (X := Int × Int) (args := fun (v, c) => [IL [v], I64 c]) (pre := fun (v, c) => (0 ≤ c) ∧ (c ≤ 6)) (val := fun (v, c) => IO1 (List.replicate c.toNat v)) (by
  rintro ⟨v, c⟩ ⟨v', c'⟩ h
  simp at h
  try simp only [and_assoc] at h
  obtain ⟨rfl, rfl⟩ := h
  rfl) (v, c) ⟨h0, h6⟩
attribute [irreducible] fm_repeatI
end Go.PS
