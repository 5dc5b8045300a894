/- The clean values, what it is that a value of the machine stands for one of them, and how this is kept while memory grows. -/
import Derived.Orders
import Derived.Laws.AppendOwn
import Derived.Below
import Derived.Eval
set_option linter.unusedVariables false
set_option linter.unusedSimpArgs false
namespace Go.PS

inductive D where
  | undef
  | junk
  | bool (b : Bool)
  | int (k : IntKind) (n : Int)
  | str (s : List UInt8)
  | nil
  | list (sz : Nat) (xs : List D)
  | olist (sz : Nat) (xs : List D)
  | lit (sz : Nat) (xs : List D)
  | agg (xs : List D)
  | tup (xs : List D)
  | fn (f : Nat) (caps : List D)
  | ptr (k g off : Nat)
  | iptr (d : D)
  | arr (k g : Nat)
  | row (k g x : Nat)
  | rptr (k g x y : Nat)
  deriving Inhabited

inductive Blk where
  | cells (cs : List D)
  | arr (sz : Nat) (xs : List D)

structure Ent where
  k : Nat
  g : Nat
  b : Blk

structure St where
  t : List (Nat × D)
  h : List Ent
  g : Nat

def getT : List (Nat × D) → Nat → D
  | [], _ => .junk
  | (k, d) :: l, j => if k = j then d else getT l j

def find : List Ent → Nat → Nat → Option Blk
  | [], _, _ => none
  | e :: l, k, g => if e.k = k then (if e.g = g then some e.b else none) else find l k g

/-- The list in the cell 'x' of a block, with the size of its elements. -/
def rowB : Blk → Nat → Option (Nat × List D)
  | .arr _ xs, x => match xs[x]? with | some (.olist s ys) => some (s, ys) | _ => none
  | .cells _, _ => none

def rowAt (h : List Ent) (k g x : Nat) : Option (Nat × List D) := match find h k g with | some b => rowB b x | none => none

def hset : List Ent → Nat → Nat → Blk → List Ent
  | [], _, _, _ => []
  | e :: l, k, g, b => if e.k = k then ⟨k, g, b⟩ :: l else e :: hset l k g b

def hdel : List Ent → Nat → List Ent
  | [], _ => []
  | e :: l, k => if e.k = k then l else e :: hdel l k

/-- One cell each: what may be laid into a cell of memory. -/
def Ones (vs : List Value) : Prop := ∀ v ∈ vs, v.oneCell' = true

/-- The cells from offset 'o' of block 'b' on hold the values one after the other, each of 'sz' cells. -/
def Row (w : World) (b o sz : Nat) (vs : List Value) : Prop :=
  ∀ (i : Nat) (v : Value), vs[i]? = some v → v.cells.size = sz ∧ ∀ (j : Nat) (u : Value), v.cells[j]? = some u → u.oneCell' = true ∧ w.cell? ⟨b, o + i * sz + j, none⟩ = some u

/-- What is never written again: the value 'v' of the machine stands for the clean value; none of its memory lies in the blocks of 'F'. -/
inductive Rep (w : World) (F : Nat → Prop) : D → Value → Prop
  | junk (v : Value) : Rep w F .junk v
  | bool (b : Bool) : Rep w F (.bool b) (.bool b)
  | int (k : IntKind) (n : Int) : Rep w F (.int k n) (.int k n)
  | str (s : List UInt8) : Rep w F (.str s) (.string ⟨s.toArray⟩)
  | nil : Rep w F .nil (.slice none 0 0)
  | listE (sz : Nat) (a : Option Addr) (cap : Nat) : Rep w F (.list sz []) (.slice a 0 cap)
  | list (sz : Nat) (xs : List D) (vs : List Value) (b o cap : Nat) : vs.length = xs.length → xs.length ≤ cap → xs.length ≤ maxLen →
      (∀ (i : Nat) (d : D) (v : Value), xs[i]? = some d → vs[i]? = some v → Rep w F d v) → Row w b o sz vs →
      b < w.heap.size → ¬ F b → Rep w F (.list sz xs) (.slice (some ⟨b, o, none⟩) xs.length cap)
  | agg (xs : List D) (vs : List Value) : vs.length = xs.length →
      (∀ (i : Nat) (d : D) (v : Value), xs[i]? = some d → vs[i]? = some v → Rep w F d v) → Ones vs → Rep w F (.agg xs) (.agg vs.toArray)
  | tup (xs : List D) (vs : List Value) : vs.length = xs.length →
      (∀ (i : Nat) (d : D) (v : Value), xs[i]? = some d → vs[i]? = some v → Rep w F d v) → Rep w F (.tup xs) (.tuple vs.toArray)
  | fn (f : Nat) (xs : List D) (vs : List Value) : vs.length = xs.length →
      (∀ (i : Nat) (d : D) (v : Value), xs[i]? = some d → vs[i]? = some v → Rep w F d v) → Rep w F (.fn f xs) (.func (.func f) #[] vs.toArray)
  | iptr (d : D) (v : Value) (b o : Nat) : Rep w F d v → (∀ (j : Nat) (u : Value), v.cells[j]? = some u → u.oneCell' = true ∧ w.cell? ⟨b, o + j, none⟩ = some u) →
      b < w.heap.size → ¬ F b → Rep w F (.iptr d) (.pointer (some ⟨b, o, none⟩))

/-- Memory goes on: what lies outside F stays. -/
structure MemEvo (w : World) (F : Nat → Prop) (w' : World) (F' : Nat → Prop) : Prop where
  own : ∀ b, F' b → b < w.heap.size → F b
  mem : ∀ b, b < w.heap.size → ¬ F b → w'.heap[b]? = w.heap[b]?
  size : w.heap.size ≤ w'.heap.size

theorem MemEvo.refl (w : World) (F : Nat → Prop) : MemEvo w F w F := ⟨fun _ h _ => h, fun _ _ _ => rfl, Nat.le_refl _⟩

theorem MemEvo.trans {w w' w'' : World} {F F' F'' : Nat → Prop} (e : MemEvo w F w' F') (e' : MemEvo w' F' w'' F'') : MemEvo w F w'' F'' where
  own := fun b hb hl => e.own b (e'.own b hb (Nat.lt_of_lt_of_le hl e.size)) hl
  mem := fun b hl hn => (e'.mem b (Nat.lt_of_lt_of_le hl e.size) (fun hf => hn (e.own b hf hl))).trans (e.mem b hl hn)
  size := Nat.le_trans e.size e'.size

theorem cell?_of_heap {w w' : World} {a : Addr} (h : w'.heap[a.block]? = w.heap[a.block]?) : w'.cell? a = w.cell? a := by simp [World.cell?, h]

theorem Row.evo {w w' : World} {b o sz : Nat} {vs : List Value} (h : Row w b o sz vs) (hb : w'.heap[b]? = w.heap[b]?) : Row w' b o sz vs :=
  fun i v hv => ⟨(h i v hv).1, fun j u hu => ⟨((h i v hv).2 j u hu).1, by
    rw [cell?_of_heap (w := w) hb]; exact ((h i v hv).2 j u hu).2⟩⟩

theorem Rep.evo {w w' : World} {F F' : Nat → Prop} {d : D} {v : Value} (r : Rep w F d v) (e : MemEvo w F w' F') : Rep w' F' d v := by
  induction r with
  | junk v => exact .junk v
  | bool b => exact .bool b
  | int k n => exact .int k n
  | str s => exact .str s
  | nil => exact .nil
  | listE sz a cap => exact .listE sz a cap
  | list sz xs vs b o cap h1 h2 h3 _ h5 h6 h7 ih =>
    exact .list sz xs vs b o cap h1 h2 h3 ih (h5.evo (e.mem b h6 h7)) (Nat.lt_of_lt_of_le h6 e.size) (fun hf => h7 (e.own b hf h6))
  | agg xs vs h1 _ h3 ih => exact .agg xs vs h1 ih h3
  | tup xs vs h1 _ ih => exact .tup xs vs h1 ih
  | fn f xs vs h1 _ ih => exact .fn f xs vs h1 ih
  | iptr d v b o _ h2 h3 h4 ih =>
    exact .iptr d v b o ih (fun j u hu => ⟨(h2 j u hu).1, by rw [cell?_of_heap (w := w) (e.mem b h3 h4)]; exact (h2 j u hu).2⟩) (Nat.lt_of_lt_of_le h3 e.size) (fun hf => h4 (e.own b hf h3))

theorem Rep.weak {w : World} {F F' : Nat → Prop} {d : D} {v : Value} (r : Rep w F d v) (h : ∀ b, F' b → b < w.heap.size → F b) : Rep w F' d v :=
  r.evo ⟨h, fun _ _ _ => rfl, Nat.le_refl _⟩

/-- A value with the blocks that it owns, each of them alone. -/
inductive ORep (w : World) (F : Nat → Prop) (lo : Nat) : D → Value → List Nat → Prop
  | base (d : D) (v : Value) : Rep w F d v → ORep w F lo d v []
  | olistE (sz : Nat) : ORep w F lo (.olist sz []) (.slice none 0 0) []
  | olist (sz : Nat) (xs : List D) (vs : List Value) (os : List (List Nat)) (b cap : Nat) (cur : Array Value) (E : TypeId) : vs.length = xs.length → os.length = xs.length →
      (∀ (i : Nat) (d : D) (v : Value) (o : List Nat), xs[i]? = some d → vs[i]? = some v → os[i]? = some o → ORep w F lo d v o) →
      w.heap[b]? = some (.cells cur E (0, 0)) → cur.size = cap * sz → xs.length ≤ cap → cap ≤ maxLen → Row w b 0 sz vs → lo ≤ b →
      ORep w F lo (.olist sz xs) (.slice (some ⟨b, 0, none⟩) xs.length cap) (b :: os.flatten)
  | agg (xs : List D) (vs : List Value) (os : List (List Nat)) : vs.length = xs.length → os.length = xs.length →
      (∀ (i : Nat) (d : D) (v : Value) (o : List Nat), xs[i]? = some d → vs[i]? = some v → os[i]? = some o → ORep w F lo d v o) → Ones vs →
      ORep w F lo (.agg xs) (.agg vs.toArray) os.flatten
  | tup (xs : List D) (vs : List Value) (os : List (List Nat)) : vs.length = xs.length → os.length = xs.length →
      (∀ (i : Nat) (d : D) (v : Value) (o : List Nat), xs[i]? = some d → vs[i]? = some v → os[i]? = some o → ORep w F lo d v o) →
      ORep w F lo (.tup xs) (.tuple vs.toArray) os.flatten

theorem mem_flatten_of {os : List (List Nat)} {i : Nat} {o : List Nat} (h : os[i]? = some o) {b : Nat} (hb : b ∈ o) : b ∈ os.flatten :=
  List.mem_flatten.2 ⟨o, List.mem_of_getElem? h, hb⟩

/-- What owns its blocks stays so where none of them is touched. -/
theorem ORep.evo {w w' : World} {F F' : Nat → Prop} {lo lo' : Nat} {d : D} {v : Value} {own : List Nat}
    (r : ORep w F lo d v own) (e : MemEvo w F w' F') (hk : ∀ b ∈ own, w'.heap[b]? = w.heap[b]?) (hlo : ∀ b ∈ own, lo' ≤ b) : ORep w' F' lo' d v own := by
  induction r with
  | base d v hr => exact .base d v (hr.evo e)
  | olistE sz => exact .olistE sz
  | olist sz xs vs os b cap cur E h1 h2 _ h4 h5 h6 h7 h8 h9 ih =>
    have hb := hk b (by simp)
    have hin : ∀ (i : Nat) (o : List Nat), os[i]? = some o → ∀ c ∈ o, c ∈ b :: os.flatten := fun i o ho c hc => List.mem_cons_of_mem _ (mem_flatten_of ho hc)
    exact .olist sz xs vs os b cap cur E h1 h2 (fun i d v o hd hv ho => ih i d v o hd hv ho (fun c hc => hk c (hin i o ho c hc)) (fun c hc => hlo c (hin i o ho c hc)))
      (hb.trans h4) h5 h6 h7 (h8.evo hb) (hlo b (by simp))
  | agg xs vs os h1 h2 _ h4 ih =>
    exact .agg xs vs os h1 h2 (fun i d v o hd hv ho => ih i d v o hd hv ho (fun c hc => hk c (mem_flatten_of ho hc)) (fun c hc => hlo c (mem_flatten_of ho hc))) h4
  | tup xs vs os h1 h2 _ ih =>
    exact .tup xs vs os h1 h2 (fun i d v o hd hv ho => ih i d v o hd hv ho (fun c hc => hk c (mem_flatten_of ho hc)) (fun c hc => hlo c (mem_flatten_of ho hc)))

theorem ORep.lt {w : World} {F : Nat → Prop} {lo : Nat} {d : D} {v : Value} {own : List Nat}
    (r : ORep w F lo d v own) : ∀ b ∈ own, lo ≤ b ∧ b < w.heap.size := by
  induction r with
  | base d v _ => intro b hb; cases hb
  | olistE sz => intro b hb; cases hb
  | olist sz xs vs os b cap cur E h1 h2 _ h4 h5 h6 h7 h8 h9 ih =>
    intro c hc
    rcases List.mem_cons.1 hc with rfl | hc
    · exact ⟨h9, (Array.getElem?_eq_some_iff.1 h4).1⟩
    · obtain ⟨o, ho, hc⟩ := List.mem_flatten.1 hc
      obtain ⟨i, hi⟩ := List.mem_iff_getElem?.1 ho
      have hlt : i < os.length := (List.getElem?_eq_some_iff.1 hi).1
      exact ih i (xs[i]'(by omega)) (vs[i]'(by omega)) o (List.getElem?_eq_getElem _) (List.getElem?_eq_getElem _) hi c hc
  | agg xs vs os h1 h2 _ h4 ih =>
    intro c hc
    obtain ⟨o, ho, hc⟩ := List.mem_flatten.1 hc
    obtain ⟨i, hi⟩ := List.mem_iff_getElem?.1 ho
    have hlt : i < os.length := (List.getElem?_eq_some_iff.1 hi).1
    exact ih i (xs[i]'(by omega)) (vs[i]'(by omega)) o (List.getElem?_eq_getElem _) (List.getElem?_eq_getElem _) hi c hc
  | tup xs vs os h1 h2 _ ih =>
    intro c hc
    obtain ⟨o, ho, hc⟩ := List.mem_flatten.1 hc
    obtain ⟨i, hi⟩ := List.mem_iff_getElem?.1 ho
    have hlt : i < os.length := (List.getElem?_eq_some_iff.1 hi).1
    exact ih i (xs[i]'(by omega)) (vs[i]'(by omega)) o (List.getElem?_eq_getElem _) (List.getElem?_eq_getElem _) hi c hc

/-- What a slot holds: what is never written again, or a way into what is the run's own ('h': its blocks; 'μ': where they lie, by their numbers; 'G': the next number). -/
inductive VRep (w : World) (F : Nat → Prop) (h : List Ent) (μ : Nat → Value) (G : Nat) : D → Value → Prop
  | imm (d : D) (v : Value) : Rep w F d v → VRep w F h μ G d v
  | undef : VRep w F h μ G .undef undef
  | lit (sz : Nat) (xs : List D) (vs : List Value) (b cap : Nat) : vs.length = xs.length → xs.length ≤ cap → xs.length ≤ maxLen →
      (∀ (i : Nat) (d : D) (v : Value), xs[i]? = some d → vs[i]? = some v → VRep w F h μ G d v) → Row w b 0 sz vs →
      b < w.heap.size → ¬ F b → VRep w F h μ G (.lit sz xs) (.slice (some ⟨b, 0, none⟩) xs.length cap)
  | agg (xs : List D) (vs : List Value) : vs.length = xs.length →
      (∀ (i : Nat) (d : D) (v : Value), xs[i]? = some d → vs[i]? = some v → VRep w F h μ G d v) → Ones vs → VRep w F h μ G (.agg xs) (.agg vs.toArray)
  | tup (xs : List D) (vs : List Value) : vs.length = xs.length →
      (∀ (i : Nat) (d : D) (v : Value), xs[i]? = some d → vs[i]? = some v → VRep w F h μ G d v) → VRep w F h μ G (.tup xs) (.tuple vs.toArray)
  | fn (f : Nat) (xs : List D) (vs : List Value) : vs.length = xs.length →
      (∀ (i : Nat) (d : D) (v : Value), xs[i]? = some d → vs[i]? = some v → VRep w F h μ G d v) → VRep w F h μ G (.fn f xs) (.func (.func f) #[] vs.toArray)
  | ptr (k g off : Nat) (a : Option Addr) : g < G → (find h k g ≠ none → ∃ b : Nat, (μ g = .pointer (some ⟨b, 0, none⟩) ∨ ∃ n c : Nat, μ g = .slice (some ⟨b, 0, none⟩) n c) ∧ a = some ⟨b, off, none⟩) → VRep w F h μ G (.ptr k g off) (.pointer a)
  | arr (k g : Nat) (a : Option Addr) (n c : Nat) : g < G → (find h k g ≠ none → .slice a n c = μ g) → VRep w F h μ G (.arr k g) (.slice a n c)
  | row (k g x : Nat) (a : Option Addr) (n c : Nat) : g < G → (rowAt h k g x ≠ none → ∃ b n' c' : Nat, μ g = .slice (some ⟨b, 0, none⟩) n' c' ∧ w.cell? ⟨b, x, none⟩ = some (.slice a n c)) → VRep w F h μ G (.row k g x) (.slice a n c)
  | rptr (k g x y : Nat) (a : Option Addr) : g < G → (rowAt h k g x ≠ none → ∃ b n' c' b' n c : Nat, μ g = .slice (some ⟨b, 0, none⟩) n' c' ∧ w.cell? ⟨b, x, none⟩ = some (.slice (some ⟨b', 0, none⟩) n c) ∧ a = some ⟨b', y, none⟩) → VRep w F h μ G (.rptr k g x y) (.pointer a)

/-- How memory and what is known of it may go on. -/
structure Evo (w : World) (F : Nat → Prop) (h : List Ent) (μ : Nat → Value) (G : Nat) (w' : World) (F' : Nat → Prop) (h' : List Ent) (μ' : Nat → Value) (G' : Nat) : Prop where
  mm : MemEvo w F w' F'
  gen : G ≤ G'
  mu : ∀ g, g < G → μ' g = μ g
  ent : ∀ k g, g < G → find h' k g ≠ none → find h k g ≠ none
  row : ∀ k g x, g < G → rowAt h' k g x ≠ none → rowAt h k g x ≠ none ∧ ∀ b n c : Nat, μ g = .slice (some ⟨b, 0, none⟩) n c → w'.cell? ⟨b, x, none⟩ = w.cell? ⟨b, x, none⟩

theorem Evo.refl (w : World) (F : Nat → Prop) (h : List Ent) (μ : Nat → Value) (G : Nat) : Evo w F h μ G w F h μ G :=
  ⟨.refl w F, Nat.le_refl _, fun _ _ => rfl, fun _ _ _ h => h, fun _ _ _ _ h => ⟨h, fun _ _ _ _ => rfl⟩⟩

theorem Evo.trans {w w' w'' : World} {F F' F'' : Nat → Prop} {h h' h'' : List Ent} {μ μ' μ'' : Nat → Value} {G G' G'' : Nat}
    (e : Evo w F h μ G w' F' h' μ' G') (e' : Evo w' F' h' μ' G' w'' F'' h'' μ'' G'') : Evo w F h μ G w'' F'' h'' μ'' G'' where
  mm := e.mm.trans e'.mm
  gen := Nat.le_trans e.gen e'.gen
  mu := fun g hg => (e'.mu g (Nat.lt_of_lt_of_le hg e.gen)).trans (e.mu g hg)
  ent := fun k g hg hh => e.ent k g hg (e'.ent k g (Nat.lt_of_lt_of_le hg e.gen) hh)
  row := fun k g x hg hh => by
    obtain ⟨h1, h2⟩ := e'.row k g x (Nat.lt_of_lt_of_le hg e.gen) hh
    obtain ⟨h3, h4⟩ := e.row k g x hg h1
    exact ⟨h3, fun b n c hm => (h2 b n c ((e.mu g hg).trans hm)).trans (h4 b n c hm)⟩

theorem VRep.evo {w w' : World} {F F' : Nat → Prop} {h h' : List Ent} {μ μ' : Nat → Value} {G G' : Nat} {d : D} {v : Value}
    (r : VRep w F h μ G d v) (e : Evo w F h μ G w' F' h' μ' G') : VRep w' F' h' μ' G' d v := by
  induction r with
  | imm d v r => exact .imm d v (r.evo e.mm)
  | undef => exact .undef
  | lit sz xs vs b cap h1 h2 h3 _ h5 h6 h7 ih =>
    exact .lit sz xs vs b cap h1 h2 h3 ih (h5.evo (e.mm.mem b h6 h7)) (Nat.lt_of_lt_of_le h6 e.mm.size) (fun hf => h7 (e.mm.own b hf h6))
  | agg xs vs h1 _ h3 ih => exact .agg xs vs h1 ih h3
  | tup xs vs h1 _ ih => exact .tup xs vs h1 ih
  | fn f xs vs h1 _ ih => exact .fn f xs vs h1 ih
  | ptr k g off a h1 h2 => exact .ptr k g off a (Nat.lt_of_lt_of_le h1 e.gen) (fun hf => by rw [e.mu g h1]; exact h2 (e.ent k g h1 hf))
  | arr k g a n c h1 h2 => exact .arr k g a n c (Nat.lt_of_lt_of_le h1 e.gen) (fun hf => by rw [e.mu g h1]; exact h2 (e.ent k g h1 hf))
  | row k g x a n c h1 h2 =>
    refine .row k g x a n c (Nat.lt_of_lt_of_le h1 e.gen) (fun hf => ?_)
    obtain ⟨h3, h4⟩ := e.row k g x h1 hf
    obtain ⟨b, n', c', hm, hc⟩ := h2 h3
    exact ⟨b, n', c', (e.mu g h1).trans hm, (h4 b n' c' hm).trans hc⟩
  | rptr k g x y a h1 h2 =>
    refine .rptr k g x y a (Nat.lt_of_lt_of_le h1 e.gen) (fun hf => ?_)
    obtain ⟨h3, h4⟩ := e.row k g x h1 hf
    obtain ⟨b, n', c', b', n, c, hm, hc, ha⟩ := h2 h3
    exact ⟨b, n', c', b', n, c, (e.mu g h1).trans hm, (h4 b n' c' hm).trans hc, ha⟩

end Go.PS
