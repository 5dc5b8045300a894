/- The clean run of a function's text: what each operation does to clean values. -/
import Derived.Test.YtdojebhmkbfppaaPsA
set_option linter.unusedVariables false
set_option linter.unusedSimpArgs false
namespace Go.PS

inductive Kd where
  | int (k : IntKind) | bool | str | slice (e : Nat) | struct (fs : List (Nat × Nat)) | ptr (e : Nat) | func | other

structure Ty where
  kd : Kd
  sz : Nat
  bytes : Nat
  zero : Option D

inductive Opd where
  | t (n : Nat)
  | c (d : D)
  | f (n : Nat)

inductive AOp where
  | mv (x : Opd)
  | pick (c a b : Opd)
  | box (T : Nat) (x : Opd)
  | alloc (T : Nat)
  | build (T : Nat) (ps : List (Nat × Opd))
  | bslice (T n : Nat) (ps : List (Nat × Opd))
  | load (T : Nat) (x : Opd)
  | store (T : Nat) (x v : Opd)
  | nilck (x : Opd)
  | bin (op : BinOp) (T : Nat) (x y : Opd)
  | un (op : UnOp) (x : Opd)
  | conv (S T : Nat) (x : Opd)
  | mkfn (f : Nat) (caps : List Opd)
  | make (T : Nat) (l c : Opd)
  | slice (T : Nat) (x : Opd) (lo hi : Option Opd)
  | faddr (T : Nat) (x : Opd) (i : Nat)
  | field (T : Nat) (x : Opd) (i : Nat)
  | iaddr (T : Nat) (x i : Opd)
  | index (T : Nat) (x i : Opd)
  | ext (x : Opd) (i : Nat)
  | len (T : Nat) (x : Opd)
  | app (T S : Nat) (x y : Opd)
  | copy (T S : Nat) (x y : Opd)
  | clear (T : Nat) (x : Opd)
  | max (x y : Opd)
  | min (x y : Opd)
  | call (f : Opd) (args : List Opd)

/-- An operation: its slot, what it is, the type of what it gives, its guard (a slot, what it must hold), a word for the clean run. -/
structure AOper where
  d : Option Nat
  o : AOp
  T : Nat
  gd : Option (Nat × Bool)
  fl : Nat

inductive AC where
  | skip
  | ret
  | exit (id : Nat)
  | region (draw : Bool) (ops : List AOper) (keep : Option (List Nat))
  | seq (a b : AC)
  | cond (c : Opd) (a b : AC)
  | block (id : Nat) (a : AC)
  | loop (keep : List Nat) (kh : List Nat) (a : AC)
  | bad

/-- Seen as what is never written again: owned lists as lists. -/
def imm : Nat → D → D
  | n + 1, .olist sz xs => .list sz (xs.map (imm n))
  | n + 1, .agg xs => .agg (xs.map (imm n))
  | n + 1, .tup xs => .tup (xs.map (imm n))
  | _, .bool b => .bool b
  | _, .int k n => .int k n
  | _, .str s => .str s
  | _, .nil => .nil
  | _, .list sz xs => .list sz xs
  | _, .fn f c => .fn f c
  | _, .iptr d => .iptr d
  | _, _ => .junk

/-- The list in a cell, as it is seen. -/
def rowD (o : Option (Nat × List D)) (n : Nat) : D := match o with | some (s, ys) => .list s (ys.map (imm n)) | none => .junk

/-- As a call sees an argument: what is the caller's own reads as a list, a variable of the caller's as what it holds. -/
def der (h : List Ent) : Nat → D → D
  | n + 1, .arr k g => match find h k g with | some (.arr sz xs) => .list sz (xs.map (imm n)) | _ => .junk
  | n + 1, .ptr k g 0 => match find h k g with | some (.cells [c]) => .iptr (der h n c) | some (.cells cs) => .iptr (.agg (cs.map (der h n))) | _ => .junk
  | n + 1, .row k g x => rowD (rowAt h k g x) n
  | n + 1, .lit sz xs => .list sz (xs.map (der h n))
  | n + 1, .agg xs => .agg (xs.map (der h n))
  | n + 1, .tup xs => .tup (xs.map (der h n))
  | n + 1, .fn f xs => .fn f (xs.map (der h n))
  | _, .nil => .list 1 []
  | _, .bool b => .bool b
  | _, .int k n => .int k n
  | _, .str s => .str s
  | _, .list sz xs => .list sz xs
  | _, .iptr d => .iptr d
  | _, _ => .junk

/-- The same where the call may hand back what it was given: nothing of the caller's own. -/
def derS : Nat → D → D
  | n + 1, .lit sz xs => .list sz (xs.map (derS n))
  | n + 1, .agg xs => .agg (xs.map (derS n))
  | n + 1, .tup xs => .tup (xs.map (derS n))
  | n + 1, .fn f xs => .fn f (xs.map (derS n))
  | _, .nil => .list 1 []
  | _, .bool b => .bool b
  | _, .int k n => .int k n
  | _, .str s => .str s
  | _, .list sz xs => .list sz xs
  | _, .iptr d => .iptr d
  | _, _ => .junk

/-- What is handed back or laid into a list, with what it owns. -/
def own (h : List Ent) : Nat → D → D
  | n + 1, .arr k g => match find h k g with | some (.arr sz xs) => .olist sz xs | _ => .junk
  | n + 1, .agg xs => .agg (xs.map (own h n))
  | n + 1, .tup xs => .tup (xs.map (own h n))
  | _, .nil => .olist 1 []
  | _, .bool b => .bool b
  | _, .int k n => .int k n
  | _, .str s => .str s
  | _, .list sz xs => .list sz xs
  | _, .fn f c => .junk
  | _, .iptr d => .iptr d
  | _, _ => .junk

def keys : Nat → D → List Nat
  | n + 1, .arr k g => [k]
  | n + 1, .agg xs => (xs.map (keys n)).flatten
  | n + 1, .tup xs => (xs.map (keys n)).flatten
  | _, _ => []

inductive OwnedD : D → Prop
  | bool (b : Bool) : OwnedD (.bool b)
  | int (k : IntKind) (n : Int) : OwnedD (.int k n)
  | str (s : List UInt8) : OwnedD (.str s)
  | olist (sz : Nat) (xs : List D) : (∀ x ∈ xs, OwnedD x) → OwnedD (.olist sz xs)
  | agg (xs : List D) : (∀ x ∈ xs, OwnedD x) → OwnedD (.agg xs)
  | tup (xs : List D) : (∀ x ∈ xs, OwnedD x) → OwnedD (.tup xs)

/-- What a call has handed back becomes the caller's own: a key for each list. -/
def thaw : Nat → Nat → Nat → D → D × List Ent × Nat × Nat
  | n + 1, k, g, .olist sz xs => (.arr k g, [⟨k, g, .arr sz xs⟩], k + 1, g + 1)
  | n + 1, k, g, .agg xs => let r := go n k g xs; (.agg r.1, r.2)
  | n + 1, k, g, .tup xs => let r := go n k g xs; (.tup r.1, r.2)
  | _, k, g, .bool b => (.bool b, [], k, g)
  | _, k, g, .int kd n => (.int kd n, [], k, g)
  | _, k, g, .str s => (.str s, [], k, g)
  | _, k, g, _ => (.junk, [], k, g)
where
  go (n k g : Nat) : List D → List D × List Ent × Nat × Nat
  | [] => ([], [], k, g)
  | x :: xs => let r := thaw n k g x; let s := go n r.2.2.1 r.2.2.2 xs; (r.1 :: s.1, r.2.1 ++ s.2.1, s.2.2)

def hdels : List Ent → List Nat → List Ent
  | h, [] => h
  | h, k :: ks => hdels (hdel h k) ks

def ev (t : List (Nat × D)) : Opd → D
  | .t n => getT t n
  | .c d => d
  | .f n => .fn n []

def evL (t : List (Nat × D)) : List Opd → List D
  | [] => []
  | x :: xs => ev t x :: evL t xs

/-- Where a result lies: in a slot, or in a variable of a struct's type whose address is in a slot. -/
inductive RV where
  | t (n : Nat)
  | c (n T : Nat)

structure FnA where
  nt : Nat
  res : List RV
  ac : AC

structure Ctx where
  P : Program
  tt : Nat → Ty
  inl : Nat → Option FnA

def isPtr0 : D → Bool
  | .ptr 0 0 0 => true
  | _ => false

/-- An argument of a call: never written again, or the one block that the call may write to. -/
def ARep (w : World) (F : Nat → Prop) (B : Option Nat) (d : D) (v : Value) : Prop :=
  Rep w F d v ∨ (d = .ptr 0 0 0 ∧ ∃ b : Nat, B = some b ∧ v = .pointer (some ⟨b, 0, none⟩))

def IoIn (w : World) (F : Nat → Prop) (B : Option Nat) : Option (List D) → Prop
  | none => B = none
  | some cs => ∃ (b : Nat) (bv : List Value) (E : TypeId), B = some b ∧ F b ∧ w.heap[b]? = some (.cells bv.toArray E (0, 0)) ∧ bv.length = cs.length ∧
      ∀ (i : Nat) (d : D) (v : Value), cs[i]? = some d → bv[i]? = some v → v.oneCell' = true ∧ Rep w F d v

def IoOut (w : World) (F : Nat → Prop) (B : Option Nat) (cs : List D) : Option (List D) → Prop
  | none => True
  | some _ => ∃ (b : Nat) (bv : List Value) (E : TypeId), B = some b ∧ w.heap[b]? = some (.cells bv.toArray E (0, 0)) ∧ bv.length = cs.length ∧
      ∀ (i : Nat) (d : D) (v : Value), cs[i]? = some d → bv[i]? = some v → v.oneCell' = true ∧ Rep w F d v

/-- A function with a text of its own. -/
def Enters (P : Program) (f : Nat) : Prop := ∃ fn, P.funcs[f]? = some fn ∧ fn.body.isNone = false ∧ (fn.name == "runtime.NumGoroutine") = false

/-- What is proved of a call, whatever the memory: its arguments read as 'ds', what it hands back reads as some 'r' with 'R r', nothing that was there has changed (but the one block that it was handed to write to: 'io').
'fresh': what it hands back lies in new memory, each list alone. -/
def PC (P : Program) (f : Nat) (ds : List D) (io : Option (List D)) (fresh : Bool) (R : D → List D → Prop) : Prop :=
  Enters P f ∧ ∀ (w : World) (vs : List Value) (F : Nat → Prop) (B : Option Nat), (∀ b, F b → b < w.heap.size) → vs.length = ds.length →
    (∀ (i : Nat) (d : D) (v : Value), ds[i]? = some d → vs[i]? = some v → ARep w F B d v) → IoIn w F B io →
    Calls P f vs.toArray w fun e w' => ∃ (v : Value) (r : D) (cs' : List D) (own : List Nat), e = .returned v ∧ R r cs' ∧ (fresh = true → OwnedD r) ∧ w.grownBy w' B ∧
      ORep w' (fun b => if fresh = true then b < w.heap.size else F b) w.heap.size r v own ∧ own.Nodup ∧ IoOut w' F B cs' io

def idxK (xs : List D) (n : Int) (K : D → Prop) : Prop := 0 ≤ n ∧ n < xs.length ∧ K (xs.getD n.toNat .junk)

def bAnd (k : IntKind) (a b : Int) : Int := k.wrap ((BitVec.ofInt k.bits a &&& BitVec.ofInt k.bits b).toNat : Nat)
def bOr (k : IntKind) (a b : Int) : Int := k.wrap ((BitVec.ofInt k.bits a ||| BitVec.ofInt k.bits b).toNat : Nat)
def bXor (k : IntKind) (a b : Int) : Int := k.wrap ((BitVec.ofInt k.bits a ^^^ BitVec.ofInt k.bits b).toNat : Nat)
def bAndNot (k : IntKind) (a b : Int) : Int := k.wrap ((BitVec.ofInt k.bits a &&& ~~~(BitVec.ofInt k.bits b)).toNat : Nat)
def bShl (k : IntKind) (a b : Int) : Int := k.wrap (a * 2 ^ min b.toNat k.bits)
def bShr (k : IntKind) (a b : Int) : Int := a.fdiv (2 ^ min b.toNat k.bits)

def big : Nat := 1099511627776

def binI (op : BinOp) (k : IntKind) (a b : Int) (K : D → Prop) : Prop :=
  match op with
  | .add => K (.int k (k.wrap (a + b)))
  | .sub => K (.int k (k.wrap (a - b)))
  | .mul => K (.int k (k.wrap (a * b)))
  | .quo => b ≠ 0 ∧ K (.int k (k.wrap (a.tdiv b)))
  | .rem => b ≠ 0 ∧ K (.int k (a.tmod b))
  | .and => K (.int k (bAnd k a b))
  | .or => K (.int k (bOr k a b))
  | .xor => K (.int k (bXor k a b))
  | .andNot => K (.int k (bAndNot k a b))
  | .eql => K (.bool (a == b))
  | .neq => K (.bool (a != b))
  | .lss => K (.bool (decide (a < b)))
  | .leq => K (.bool (decide (a ≤ b)))
  | .gtr => K (.bool (decide (a > b)))
  | .geq => K (.bool (decide (a ≥ b)))
  | .shl => 0 ≤ b ∧ K (.int k (bShl k a b))
  | .shr => 0 ≤ b ∧ K (.int k (bShr k a b))

def binS (op : BinOp) (a b : List UInt8) (K : D → Prop) : Prop :=
  match op with
  | .add => a.length + b.length ≤ big ∧ K (.str (a ++ b))
  | .eql => K (.bool (a == b))
  | .neq => K (.bool (a != b))
  | _ => False

def binL (op : BinOp) (a b : Bool) (K : D → Prop) : Prop :=
  match op with
  | .eql => K (.bool (a == b))
  | .neq => K (.bool (a != b))
  | _ => False

/-- 'kd': what the operands' type is (asked of bools alone). -/
def binK (kd : Kd) (op : BinOp) (x y : D) (K : D → Prop) : Prop :=
  match x, y with
  | .int k a, .int k' b => k = k' ∧ binI op k a b K
  | .str a, .str b => binS op a b K
  | .bool a, .bool b => kd = .bool ∧ binL op a b K
  | _, _ => False

def isAgg : D → Bool
  | .agg _ => true
  | _ => false

/-- One cell each. -/
def isCell : D → Bool
  | .bool _ | .int .. | .str _ | .nil | .list .. | .lit .. | .fn .. | .ptr .. | .iptr _ | .arr .. | .row .. | .rptr .. => true
  | _ => false

def cellsD : D → List D
  | .agg xs => xs
  | d => [d]

def pureD : Nat → D → Bool
  | _, .bool _ | _, .int .. | _, .str _ | _, .nil | _, .list .. | _, .iptr _ => true
  | n + 1, .agg xs => xs.all (pureD n)
  | n + 1, .tup xs => xs.all (pureD n)
  | n + 1, .fn _ xs => xs.all (pureD n)
  | _, _ => false

def Ty.isStruct (t : Ty) : Bool := match t.kd with | .struct _ => true | _ => false
def Ty.known (t : Ty) : Bool := match t.kd with | .other => false | _ => true
def Ty.flat (t : Ty) : Bool := match t.kd with | .struct _ | .other => false | _ => true

/-- Has a value the cells of a variable of the type? -/
def fitsT (t : Ty) : D → Prop
  | .agg xs => t.isStruct = true ∧ xs.length = t.sz
  | d => t.flat = true ∧ t.sz = 1 ∧ isCell d = true

def fillP (tt : Nat → Ty) (fs : List (Nat × Nat)) (t : List (Nat × D)) : List D → List (Nat × Opd) → Option (List D)
  | cs, [] => some cs
  | cs, (i, x) :: ps => match fs[i]? with
    | some (off, T) => if (tt T).sz = 1 then (if isCell (ev t x) = true then (if off < cs.length then fillP tt fs t (cs.set off (ev t x)) ps else none) else none) else none
    | none => none

def esz (tt : Nat → Ty) (T : Nat) : Option Nat := match (tt T).kd with | .slice e => if (tt e).known = true then some (tt e).sz else none | _ => none
def elemT (tt : Nat → Ty) (T : Nat) : Option Ty := match (tt T).kd with | .slice e => if (tt e).known = true then some (tt e) else none | _ => none
def ezero (tt : Nat → Ty) (T : Nat) : Option D := match (tt T).kd with | .slice e => (tt e).zero | _ => none

def optI (t : List (Nat × D)) (dflt : Int) (o : Option Opd) (K : Int → Prop) : Prop :=
  match o with
  | none => K dflt
  | some x => match ev t x with | .int _ n => K n | _ => False

def lenD (h : List Ent) : D → Option Nat
  | .list _ xs => some xs.length
  | .lit _ xs => some xs.length
  | .nil => some 0
  | .arr k g => match find h k g with | some (.arr _ xs) => some xs.length | _ => none
  | .row k g x => match rowAt h k g x with | some (_, ys) => some ys.length | none => none
  | _ => none

def scal : D → Bool
  | .bool _ | .int .. | .str _ => true
  | _ => false

def scalK (xs : List D) (off : Nat) (K : D → Prop) : Prop := off < xs.length ∧ scal (xs.getD off .junk) = true ∧ K (xs.getD off .junk)

/-- A list in a cell of the run's own, looked at ('1') or taken out as what is never written again ('2'). -/
def rowK (fl j g : Nat) (xs : List D) (off : Nat) (σ : St) (K : D → List Ent → Nat → Prop) : Prop :=
  match xs[off]? with
  | some (.olist s ys) => match fl with
    | 1 => K (.row j g off) σ.h σ.g
    | _ => K (.list s (ys.map (imm 5))) (hset σ.h j g (.arr 1 (xs.set off (.list s (ys.map (imm 5)))))) σ.g
  | _ => False

/-- A list in a cell of the run's own, written to. -/
def rowSet (xs : List D) (x s : Nat) (ys : List D) (y : Nat) (v : D) : Blk := .arr 1 (xs.set x (.olist s (ys.set y v)))

/-- Every operation but a call. 'k': the key for what the operation makes. -/
def opK (tt : Nat → Ty) (k : Nat) (a : AOper) (σ : St) (K : D → List Ent → Nat → Prop) : Prop :=
  match a.o with
  | .mv x =>
    match a.fl with
    | 0 => K (ev σ.t x) σ.h σ.g
    | 1 => match ev σ.t x, esz tt a.T with
      | .nil, some sz => K (.arr k σ.g) (⟨k, σ.g, .arr sz []⟩ :: hdel σ.h k) (σ.g + 1)
      | _, _ => False
    | _ => match ev σ.t x with
      | .arr j g => match find σ.h j g with
        | some (.arr sz xs) => K (.list sz (xs.map (imm 5))) (hdel σ.h j) σ.g
        | _ => False
      | _ => False
  | .pick c x y => match ev σ.t c with | .bool b => K (if b then ev σ.t x else ev σ.t y) σ.h σ.g | _ => False
  | .box T x =>
    match a.fl with
    | 0 => pureD 5 (ev σ.t x) = true ∧ fitsT (tt T) (ev σ.t x) ∧ K (.iptr (ev σ.t x)) σ.h σ.g
    | _ => fitsT (tt T) (ev σ.t x) ∧ K (.ptr k σ.g 0) (⟨k, σ.g, .cells (cellsD (ev σ.t x))⟩ :: hdel σ.h k) (σ.g + 1)
  | .alloc T =>
    match (tt T).zero with
    | some z => fitsT (tt T) z ∧ K (.ptr k σ.g 0) (⟨k, σ.g, .cells (cellsD z)⟩ :: hdel σ.h k) (σ.g + 1)
    | none => False
  | .build T ps =>
    match (tt T).kd, (tt T).zero with
    | .struct fs, some (.agg zs) => match fillP tt fs σ.t zs ps with | some cs => K (.agg cs) σ.h σ.g | none => False
    | _, _ => False
  | .bslice T n ps =>
    match elemT tt T with
    | some E =>
      ps.map Prod.fst = List.range n ∧ n ≤ 1000 ∧ E.sz ≤ 16 ∧ E.zero.isSome = true ∧ (∀ x ∈ ps.map (fun p => ev σ.t p.2), fitsT E x) ∧
      match a.fl with
      | 0 => (∀ x ∈ ps.map (fun p => ev σ.t p.2), pureD 5 x = true) ∧ K (.list E.sz (ps.map fun p => ev σ.t p.2)) σ.h σ.g
      | 1 => (∀ x ∈ ps.map (fun p => ev σ.t p.2), pureD 5 x = true) ∧ K (.arr k σ.g) (⟨k, σ.g, .arr E.sz (ps.map fun p => ev σ.t p.2)⟩ :: hdel σ.h k) (σ.g + 1)
      | _ => K (.lit E.sz (ps.map fun p => ev σ.t p.2)) σ.h σ.g
    | none => False
  | .load T x =>
    match ev σ.t x with
    | .iptr d => fitsT (tt T) d ∧ K d σ.h σ.g
    | .ptr j g off => match find σ.h j g with
      | some (.cells cs) => if (tt T).isStruct then off + (tt T).sz ≤ cs.length ∧ K (.agg ((cs.drop off).take (tt T).sz)) σ.h σ.g else (tt T).flat = true ∧ off < cs.length ∧ K (cs.getD off .junk) σ.h σ.g
      | some (.arr sz xs) => sz = 1 ∧ (tt T).flat = true ∧ match a.fl with
        | 0 => scalK xs off fun d => K d σ.h σ.g
        | fl => rowK fl j g xs off σ K
      | none => False
    | .rptr j g x y => match rowAt σ.h j g x with
      | some (s, ys) => s = 1 ∧ (tt T).flat = true ∧ scalK ys y fun d => K d σ.h σ.g
      | none => False
    | _ => False
  | .store T x v =>
    match ev σ.t x with
    | .ptr j g off => fitsT (tt T) (ev σ.t v) ∧ match find σ.h j g with
      | some (.cells cs) => off + (cellsD (ev σ.t v)).length ≤ cs.length ∧ K .undef (hset σ.h j g (.cells (cs.take off ++ cellsD (ev σ.t v) ++ cs.drop (off + (cellsD (ev σ.t v)).length)))) σ.g
      | some (.arr sz xs) => sz = 1 ∧ (tt T).flat = true ∧ off < xs.length ∧ pureD 5 (ev σ.t v) = true ∧ K .undef (hset σ.h j g (.arr sz (xs.set off (ev σ.t v)))) σ.g
      | none => False
    | .rptr j g x y => fitsT (tt T) (ev σ.t v) ∧ match find σ.h j g with
      | some (.arr sz xs) => match rowB (.arr sz xs) x with
        | some (s, ys) => sz = 1 ∧ s = 1 ∧ (tt T).flat = true ∧ y < ys.length ∧ pureD 5 (ev σ.t v) = true ∧ K .undef (hset σ.h j g (rowSet xs x s ys y (ev σ.t v))) σ.g
        | none => False
      | _ => False
    | _ => False
  | .nilck x => match ev σ.t x with | .iptr d => K (.iptr d) σ.h σ.g | .fn f c => K (.fn f c) σ.h σ.g | .ptr j g o => (find σ.h j g).isSome = true ∧ K (.ptr j g o) σ.h σ.g | _ => False
  | .bin op T x y => binK (tt T).kd op (ev σ.t x) (ev σ.t y) fun d => K d σ.h σ.g
  | .un op x =>
    match op, ev σ.t x with
    | .not, .bool b => K (.bool !b) σ.h σ.g
    | .neg, .int kd n => K (.int kd (kd.wrap (0 - n))) σ.h σ.g
    | _, _ => False
  | .conv S T x =>
    match (tt T).kd, ev σ.t x with
    | .int kd, .int _ n => (tt S).flat = true ∧ K (.int kd (kd.wrap n)) σ.h σ.g
    | _, _ => False
  | .mkfn f caps => K (.fn f (evL σ.t caps)) σ.h σ.g
  | .make T l c =>
    match elemT tt T, ezero tt T, ev σ.t l, ev σ.t c with
    | some E, some z, .int _ n, .int _ m => 0 ≤ n ∧ n = m ∧ n ≤ big ∧ fitsT E z ∧ pureD 5 z = true ∧ K (.arr k σ.g) (⟨k, σ.g, .arr E.sz (List.replicate n.toNat z)⟩ :: hdel σ.h k) (σ.g + 1)
    | _, _, _, _ => False
  | .slice T x lo hi =>
    match ev σ.t x with
    | .arr j g => match find σ.h j g with
      | some (.arr sz xs) => a.fl = 2 ∧ some sz = esz tt T ∧ optI σ.t 0 lo fun l => optI σ.t xs.length hi fun u => 0 ≤ l ∧ l ≤ u ∧ u ≤ xs.length ∧ K (.list sz (((xs.map (imm 5)).take u.toNat).drop l.toNat)) (hdel σ.h j) σ.g
      | _ => False
    | .list sz xs => some sz = esz tt T ∧ optI σ.t 0 lo fun l => optI σ.t xs.length hi fun u => 0 ≤ l ∧ l ≤ u ∧ u ≤ xs.length ∧ K (.list sz ((xs.take u.toNat).drop l.toNat)) σ.h σ.g
    | .str s => (match (tt T).kd with | .str => True | _ => False) ∧ optI σ.t 0 lo fun l => optI σ.t s.length hi fun u => 0 ≤ l ∧ l ≤ u ∧ u ≤ s.length ∧ K (.str ((s.take u.toNat).drop l.toNat)) σ.h σ.g
    | _ => False
  | .faddr T x i =>
    match (tt T).kd with
    | .struct fs => match fs[i]? with
      | some (off, E) => (tt E).sz = 1 ∧ (tt E).flat = true ∧ match ev σ.t x with
        | .iptr (.agg ds) => off < ds.length ∧ K (.iptr (ds.getD off .junk)) σ.h σ.g
        | .ptr j g o => (find σ.h j g).isSome = true ∧ K (.ptr j g (o + off)) σ.h σ.g
        | _ => False
      | none => False
    | _ => False
  | .field T x i =>
    match (tt T).kd with
    | .struct fs => match fs[i]? with
      | some (off, E) => (tt E).sz = 1 ∧ (tt E).flat = true ∧ match ev σ.t x with
        | .agg ds => off < ds.length ∧ K (ds.getD off .junk) σ.h σ.g
        | _ => False
      | none => False
    | _ => False
  | .iaddr T x i =>
    match ev σ.t i with
    | .int _ n => match ev σ.t x with
      | .list sz xs => some sz = esz tt T ∧ idxK xs n fun d => K (.iptr d) σ.h σ.g
      | .arr j g => match find σ.h j g with
        | some (.arr sz xs) => sz = 1 ∧ esz tt T = some 1 ∧ 0 ≤ n ∧ n < xs.length ∧ K (.ptr j g n.toNat) σ.h σ.g
        | _ => False
      | .row j g r => match rowAt σ.h j g r with
        | some (s, ys) => s = 1 ∧ esz tt T = some 1 ∧ 0 ≤ n ∧ n < ys.length ∧ K (.rptr j g r n.toNat) σ.h σ.g
        | none => False
      | _ => False
    | _ => False
  | .index T x i =>
    match ev σ.t x, ev σ.t i, (tt T).kd with
    | .str s, .int _ n, .str => 0 ≤ n ∧ n < s.length ∧ K (.int .u8 ((s.getD n.toNat 0).toNat : Int)) σ.h σ.g
    | _, _, _ => False
  | .ext x i => match ev σ.t x with | .tup xs => i < xs.length ∧ K (xs.getD i .junk) σ.h σ.g | _ => False
  | .len T x =>
    match (tt T).kd with
    | .str => match ev σ.t x with | .str s => K (.int .i64 s.length) σ.h σ.g | _ => False
    | .slice _ => match lenD σ.h (ev σ.t x) with | some n => K (.int .i64 n) σ.h σ.g | none => False
    | _ => False
  | .app T S x y =>
    match esz tt T with
    | none => False
    | some sz => S = T ∧ (ezero tt T).isSome = true ∧
      match ev σ.t y with
      | .nil => appK k sz σ (ev σ.t x) [] [] K
      | .list s ys => s = sz ∧ appK k sz σ (ev σ.t x) ys [] K
      | .lit s ys => s = sz ∧ ((ys.map (keys 5)).flatten).Nodup ∧ appK k sz σ (ev σ.t x) (ys.map (own σ.h 5)) ((ys.map (keys 5)).flatten) K
      | .arr j g => match find σ.h j g with
        | some (.arr s ys) => s = sz ∧ (∀ d ∈ ys, scal d = true) ∧ (match ev σ.t x with | .arr j' _ => j' ≠ j | _ => True) ∧ appK k sz σ (ev σ.t x) ys [] K
        | _ => False
      | _ => False
  | .max x y => match ev σ.t x, ev σ.t y with | .int kd n, .int _ m => K (.int kd (if m > n then m else n)) σ.h σ.g | _, _ => False
  | .min x y => match ev σ.t x, ev σ.t y with | .int kd n, .int _ m => K (.int kd (if m < n then m else n)) σ.h σ.g | _, _ => False
  | .copy T S x y => False
  | .clear T x => False
  | .call f args => False
where
  /-- 'append': what is appended ('es'), and the keys of what of it was the run's own ('ks'). -/
  appK (k sz : Nat) (σ : St) (x : D) (es : List D) (ks : List Nat) (K : D → List Ent → Nat → Prop) : Prop :=
    match x with
    | .nil => es.length ≤ big ∧ K (.arr k σ.g) (⟨k, σ.g, .arr sz es⟩ :: hdel (hdels σ.h ks) k) (σ.g + 1)
    | .arr j g => match find σ.h j g with
      | some (.arr s' xs) => s' = sz ∧ j ∉ ks ∧ xs.length + es.length ≤ big ∧ K (.arr j σ.g) (hset (hdels σ.h ks) j σ.g (.arr sz (xs ++ es))) (σ.g + 1)
      | _ => False
    | _ => False

def put (t : List (Nat × D)) (d : Option Nat) (v : D) : List (Nat × D) :=
  match d with
  | none => t
  | some k => (k, v) :: t

/-- The key and number of the one block that a call is handed to write to. -/
def ioOf : List D → Option (Nat × Nat)
  | [] => none
  | .ptr k g 0 :: _ => some (k, g)
  | _ :: l => ioOf l

def dio (k g : Nat) : D → D
  | .ptr j g' 0 => if j = k ∧ g' = g then .ptr 0 0 0 else .junk
  | d => derS 5 d

def pureL (cs : List D) : Prop := ∀ c ∈ cs, pureD 5 c = true

/-- A call. 'fl': 0 it hands back what is new; 1 that becomes the caller's own; 2 it may hand back what it was given; 3 by the table, it changes nothing; 8, 9, 10 the same where it is handed a block to write to. 16: its text is run here. -/
def callK (C : Ctx) (k : Nat) (inlK : Nat → List D → List Ent → Nat → (D → List Ent → Nat → Prop) → Prop) (fl : Nat) (f : D) (args : List D) (σ : St) (K : D → List Ent → Nat → Prop) : Prop :=
  match f with
  | .fn id caps =>
    match fl with
    | 0 => ∃ R, PC C.P id ((args ++ caps).map (der σ.h 5)) none true R ∧ ∀ r cs, R r cs → K (imm 5 r) σ.h σ.g
    | 1 => ∃ R, PC C.P id ((args ++ caps).map (der σ.h 5)) none true R ∧ ∀ r cs, R r cs → K (thaw 5 k σ.g r).1 ((thaw 5 k σ.g r).2.1 ++ hdels σ.h ((thaw 5 k σ.g r).2.1.map Ent.k)) (thaw 5 k σ.g r).2.2.2
    | 2 => ∃ R, PC C.P id ((args ++ caps).map (derS 5)) none false R ∧ ∀ r cs, R r cs → K (imm 5 r) σ.h σ.g
    | 3 => ∃ v, inlK id (args ++ caps) σ.h σ.g (fun d h g => d = v ∧ h = σ.h ∧ g = σ.g) ∧ K v σ.h σ.g
    | 16 => inlK id (args ++ caps) σ.h σ.g K
    | fl => match ioOf (args ++ caps) with
      | some (j, g) => match find σ.h j g with
        | some (.cells cs) => pureL cs ∧
          match fl with
          | 8 => ∃ R, PC C.P id ((args ++ caps).map (dio j g)) (some cs) true R ∧ ∀ r cs', R r cs' → K (imm 5 r) (hset σ.h j g (.cells cs')) σ.g
          | 9 => False
          | _ => ∃ R, PC C.P id ((args ++ caps).map (dio j g)) (some cs) false R ∧ ∀ r cs', R r cs' → K (imm 5 r) (hset σ.h j g (.cells cs')) σ.g
        | _ => False
      | none => False
  | _ => False

def opC (C : Ctx) (kb : Nat) (inlK : Nat → List D → List Ent → Nat → (D → List Ent → Nat → Prop) → Prop) (a : AOper) (σ : St) (K : D → List Ent → Nat → Prop) : Prop :=
  match a.o with
  | .call f args => callK C (kb + 8 * a.d.getD 0) inlK a.fl (ev σ.t f) (evL σ.t args) σ K
  | _ => opK C.tt (kb + 8 * a.d.getD 0) a σ K

def guardK (gd : Option (Nat × Bool)) (t : List (Nat × D)) (K1 K2 : List (Nat × D) → Prop) : Prop :=
  match gd with
  | none => K1 t
  | some (j, want) => match getT t j with
    | .bool b => (b = want → K1 ((j, .bool want) :: t)) ∧ (b = !want → K2 ((j, .bool !want) :: t))
    | .undef => K2 t
    | _ => False

def opsK (C : Ctx) (kb : Nat) (inlK : Nat → List D → List Ent → Nat → (D → List Ent → Nat → Prop) → Prop) : List AOper → St → (St → Prop) → Prop
  | [], σ, Q => Q σ
  | a :: as, σ, Q => guardK a.gd σ.t
      (fun t => opC C kb inlK a ⟨t, σ.h, σ.g⟩ fun d h g => opsK C kb inlK as ⟨put t a.d d, h, g⟩ Q)
      (fun t => opsK C kb inlK as ⟨put t a.d .undef, σ.h, σ.g⟩ Q)

def callOf : AOp → Option (Opd × List Opd)
  | .call f as => some (f, as)
  | _ => none

/-- A call that gives one thing. -/
def callD (C : Ctx) (k : Nat) (inlK : Nat → List D → List Ent → Nat → (D → List Ent → Nat → Prop) → Prop) (fl : Nat) (f : D) (args : List D) (σ : St) (K : D → List Ent → Nat → Prop) : Prop :=
  ∃ d h g, callK C k inlK fl f args σ (fun d' h' g' => d' = d ∧ h' = h ∧ g' = g) ∧ ((fl != 0 && fl != 2 && fl != 3) = true ∨ (h = σ.h ∧ g = σ.g)) ∧ K d h g

/-- The same as a run: each operation but a call gives one thing anyway. -/
def opsKc (C : Ctx) (kb : Nat) (inlK : Nat → List D → List Ent → Nat → (D → List Ent → Nat → Prop) → Prop) : List AOper → St → (St → Prop) → Prop
  | [], σ, Q => Q σ
  | a :: as, σ, Q => guardK a.gd σ.t
      (fun t => match callOf a.o with
        | some (f, args) => callD C (kb + 8 * a.d.getD 0) inlK a.fl (ev t f) (evL t args) ⟨t, σ.h, σ.g⟩ fun d h g => opsKc C kb inlK as ⟨put t a.d d, h, g⟩ Q
        | none => opK C.tt (kb + 8 * a.d.getD 0) a ⟨t, σ.h, σ.g⟩ fun d h g => opsKc C kb inlK as ⟨put t a.d d, h, g⟩ Q)
      (fun t => opsKc C kb inlK as ⟨put t a.d .undef, σ.h, σ.g⟩ Q)

def opdT : Opd → List Nat
  | .t n => [n]
  | _ => []

def optT : Option Opd → List Nat
  | some x => opdT x
  | none => []

def aopT : AOp → List Nat
  | .mv x | .box _ x | .load _ x | .nilck x | .un _ x | .conv _ _ x | .faddr _ x _ | .field _ x _ | .ext x _ | .len _ x => opdT x
  | .pick c a b => opdT c ++ opdT a ++ opdT b
  | .alloc _ => []
  | .build _ ps | .bslice _ _ ps => (ps.map fun p => opdT p.2).flatten
  | .store _ x y | .bin _ _ x y | .make _ x y | .iaddr _ x y | .index _ x y | .app _ _ x y | .max x y | .min x y | .copy _ _ x y => opdT x ++ opdT y
  | .mkfn _ cs => (cs.map opdT).flatten
  | .slice _ x lo hi => opdT x ++ optT lo ++ optT hi
  | .clear _ x => opdT x
  | .call f as => opdT f ++ (as.map opdT).flatten

def gdT : Option (Nat × Bool) → List Nat
  | some (j, _) => [j]
  | none => []

/-- The slots that an operation reads. -/
def rd (a : AOper) : List Nat := aopT a.o ++ gdT a.gd

/-- May it change what is the run's own? -/
def wr (a : AOper) : Bool :=
  match a.o with
  | .mv _ | .box _ _ => a.fl != 0
  | .bslice _ _ _ => a.fl == 1
  | .load _ _ => a.fl != 0 && a.fl != 1
  | .slice _ _ _ _ => a.fl != 0
  | .alloc _ | .store _ _ _ | .make _ _ _ | .app _ _ _ _ | .copy _ _ _ _ | .clear _ _ => true
  | .call _ _ => a.fl != 0 && a.fl != 2 && a.fl != 3
  | _ => false

/-- May it look at what is the run's own? -/
def acc (a : AOper) : Bool :=
  match a.o with
  | .mv _ | .box _ _ => a.fl != 0
  | .bslice _ _ _ => a.fl == 1
  | .slice _ _ _ _ => a.fl != 0
  | .pick _ _ _ | .bin _ _ _ _ | .un _ _ | .conv _ _ _ | .mkfn _ _ | .field _ _ _ | .index _ _ _ | .ext _ _ | .max _ _ | .min _ _ | .build _ _ => false
  | _ => true

/-- What one operation gives. -/
def Eq3 (d : D) (h : List Ent) (g : Nat) : D → List Ent → Nat → Prop := fun d' h' g' => d' = d ∧ h' = h ∧ g' = g

/-- The same where the region may be carried out in another order: each operation gives one thing. -/
def opsKd (C : Ctx) (kb : Nat) (inlK : Nat → List D → List Ent → Nat → (D → List Ent → Nat → Prop) → Prop) : List AOper → St → (St → Prop) → Prop
  | [], σ, Q => Q σ
  | a :: as, σ, Q => guardK a.gd σ.t
      (fun t => ∃ d h g, opC C kb inlK a ⟨t, σ.h, σ.g⟩ (Eq3 d h g) ∧ (wr a = true ∨ (h = σ.h ∧ g = σ.g)) ∧ opsKd C kb inlK as ⟨put t a.d d, h, g⟩ Q)
      (fun t => opsKd C kb inlK as ⟨put t a.d .undef, σ.h, σ.g⟩ Q)

def keepT (ks : List Nat) (t : List (Nat × D)) : List (Nat × D) := ks.map fun k => (k, getT t k)

def keepO : Option (List Nat) → List (Nat × D) → List (Nat × D)
  | none, t => t
  | some ks, t => keepT ks t

def keepH : List Nat → List Ent → List Ent
  | [], _ => []
  | k :: ks, h => match h.find? (fun e => e.k == k) with | some e => e :: keepH ks (hdel h k) | none => keepH ks h

inductive AExit where
  | normal
  | exit (id : Nat)
  | ret

def thenQ (next : St → Prop) (Q : AExit → St → Prop) : AExit → St → Prop
  | .normal, σ => next σ
  | e, σ => Q e σ

def inBlockQ (id : Nat) (Q : AExit → St → Prop) : AExit → St → Prop
  | .exit id', σ => if id' = id then Q .normal σ else Q (.exit id') σ
  | e, σ => Q e σ

def iter (body : (AExit → St → Prop) → St → Prop) (keep kh : List Nat) (Q : AExit → St → Prop) : Nat → St → Prop
  | 0, _ => False
  | n + 1, σ => body (thenQ (iter body keep kh Q n) Q) ⟨keepT keep σ.t, keepH kh σ.h, σ.g⟩

def run (C : Ctx) (kb : Nat) (inlK : Nat → List D → List Ent → Nat → (D → List Ent → Nat → Prop) → Prop) : AC → (AExit → St → Prop) → St → Prop
  | .skip, Q, σ => Q .normal σ
  | .ret, Q, σ => Q .ret σ
  | .exit id, Q, σ => Q (.exit id) σ
  | .region false ops keep, Q, σ => opsK C kb inlK ops σ fun σ' => Q .normal ⟨keepO keep σ'.t, σ'.h, σ'.g⟩
  | .region true ops keep, Q, σ => opsKc C kb inlK ops σ fun σ' => Q .normal ⟨keepO keep σ'.t, σ'.h, σ'.g⟩
  | .seq a b, Q, σ => run C kb inlK a (thenQ (run C kb inlK b Q) Q) σ
  | .cond c a b, Q, σ => match ev σ.t c with
    | .bool t => (t = true → run C kb inlK a Q σ) ∧ (t = false → run C kb inlK b Q σ)
    | _ => False
  | .block id a, Q, σ => run C kb inlK a (inBlockQ id Q) σ
  | .loop keep kh a, Q, σ => ∃ n, iter (run C kb inlK a) keep kh Q n σ
  | .bad, _, _ => False

def resK1 (tt : Nat → Ty) (σ : St) (K : D → Prop) : RV → Prop
  | .t r => K (getT σ.t r)
  | .c r T => match getT σ.t r with
    | .ptr j g 0 => match find σ.h j g with
      | some (.cells cs) => (tt T).isStruct = true ∧ (tt T).sz = cs.length ∧ K (.agg cs)
      | _ => False
    | _ => False

def resL (tt : Nat → Ty) (σ : St) : List RV → (List D → Prop) → Prop
  | [], K => K []
  | r :: rs, K => resK1 tt σ (fun d => resL tt σ rs fun ds => K (d :: ds)) r

/-- What a function hands back. -/
def resK (tt : Nat → Ty) (res : List RV) (σ : St) (K : D → Prop) : Prop :=
  match res with
  | [r] => resK1 tt σ K r
  | rs => resL tt σ rs fun ds => K (.tup ds)

def args0 : Nat → List D → List (Nat × D)
  | _, [] => []
  | n, d :: ds => (n, d) :: args0 (n + 1) ds

/-- The text of a function run in place, to the depth 'n'. -/
def inl (C : Ctx) : Nat → Nat → Nat → List D → List Ent → Nat → (D → List Ent → Nat → Prop) → Prop
  | 0, _, _, _, _, _, _ => False
  | n + 1, kb, f, ds, h, g, K => match C.inl f with
    | none => False
    | some fa => run C (kb + 4000) (inl C n (kb + 4000)) fa.ac (fun e σ => match e with
        | .exit _ => False
        | _ => resK C.tt fa.res σ fun d => K d σ.h σ.g) ⟨args0 0 ds, h, g⟩

def endK (fresh : Bool) (R : D → List D → Prop) (cs : List D) (h : List Ent) (d : D) : Prop :=
  match fresh with
  | true => (keys 5 d).Nodup ∧ OwnedD (own h 5 d) ∧ R (own h 5 d) cs
  | false => R (derS 5 d) cs

def retK (tt : Nat → Ty) (fresh : Bool) (res : List RV) (R : D → List D → Prop) (cs : List D) (σ : St) : Prop :=
  resK tt res σ (endK fresh R cs σ.h)

/-- The end of a call that is proved for all callers. -/
def retQ (tt : Nat → Ty) (fresh : Bool) (res : List RV) (R : D → List D → Prop) (io : Bool) : AExit → St → Prop
  | .exit _, _ => False
  | _, σ => match io with
    | false => retK tt fresh res R [] σ
    | true => match find σ.h 0 0 with
      | some (.cells cs) => pureL cs ∧ retK tt fresh res R cs σ
      | _ => False

/-- The run's own at a call's start. -/
def hio : Option (List D) → List Ent
  | none => []
  | some cs => [⟨0, 0, .cells cs⟩]

end Go.PS
