/- Part 2 of what the last text proves: The filters told by IsFilter are filters: the law holds at every input. -/
import Derived.Test.YthbdihoacfhflaaQo1
import Derived.Laws.Small
import Derived.Laws.Cover3
section
-- Every operation of the machine against the clean one: numbers, addresses, pieces.
set_option linter.unusedVariables false
set_option linter.unusedSimpArgs false
set_option linter.unusedSectionVars false
namespace Go.PS

theorem find_isSome {h : List Ent} {j g : Nat} (hs : (find h j g).isSome = true) : find h j g ≠ none := by
  intro e; rw [e] at hs; cases hs

theorem flat_known {t : Ty} (h : t.flat = true) : t.kd ≠ .other := known_ne (.inr h)

theorem bytes_toList (s : List UInt8) : (⟨s.toArray⟩ : ByteArray).data.toList = s := rfl

theorem ba_toList (s : List UInt8) : (⟨s.toArray⟩ : ByteArray).toList = s := by
  have key : ∀ (n i : Nat) (r : List UInt8), s.length - i = n → ByteArray.toList.loop ⟨s.toArray⟩ i r = r.reverse ++ s.drop i := by
    intro n
    induction n with
    | zero =>
      intro i r hn
      rw [ByteArray.toList.loop]
      have : ¬ i < (⟨s.toArray⟩ : ByteArray).size := by show ¬ i < s.toArray.size; simp; omega
      rw [if_neg this, List.drop_eq_nil_of_le (by omega)]
      simp
    | succ n ih =>
      intro i r hn
      rw [ByteArray.toList.loop]
      have hi : i < s.length := by omega
      have : i < (⟨s.toArray⟩ : ByteArray).size := by show i < s.toArray.size; simpa using hi
      rw [if_pos this, ih (i + 1) _ (by omega)]
      have hg : (⟨s.toArray⟩ : ByteArray).get! i = s[i] := by
        show s.toArray[i]! = s[i]
        simp [hi]
      rw [hg, List.reverse_cons, List.append_assoc, List.drop_eq_getElem_cons hi]
      rfl
  have := key s.length 0 [] (by simp)
  unfold ByteArray.toList
  simpa using this

section
variable {P : Program} {tt : Nat → Ty} {o : Oper} {ρ : Operand → Value} {w0 : World} {Fo : Nat → Prop} {B : Option Nat} {w : World} {h : List Ent} {μ : Nat → Value} {G : Nat} {own : List Nat} {K : D → List Ent → Nat → Prop} {t : List (Nat × D)}
variable (hρ : ∀ x, VRep w (FF own Fo) h μ G (ev t (co x)) (ρ x)) (I : HInv w0 Fo B w h μ G own) (hty : TyOk P tt)
include hρ I hty

theorem sound_nilck {x : Operand} (hop : o.op = .nilCheck x) {a : AOper} (ha : a.o = .nilck (co x)) {k : Nat} (hk : opK tt k a ⟨t, h, G⟩ K) : Res P o ρ w0 Fo B w h μ G own K := by
  have hx := hρ x
  simp only [opK, ha] at hk
  split at hk
  · rename_i d hev
    rw [hev] at hx
    obtain ⟨u, b, off, hv, _⟩ := hx.asIptr
    exact .same I (v := ρ x) (by simp [execOp, hop, hv]) hx hk
  · rename_i f c hev
    rw [hev] at hx
    obtain ⟨vs, hv, _⟩ := hx.asFn
    exact .same I (v := ρ x) (by simp [execOp, hop, hv]) hx hk
  · rename_i j g off hev
    rw [hev] at hx
    obtain ⟨hf, hk⟩ := hk
    obtain ⟨b, _, hv⟩ := hx.asPtr.2 (find_isSome hf)
    exact .same I (v := ρ x) (by simp [execOp, hop, hv]) hx hk
  · exact hk.elim

theorem sound_bin {op : BinOp} {T T' : Nat} {x y : Operand} (hop : o.op = .binOp op T x y T') {a : AOper} (ha : a.o = .bin op T (co x) (co y)) {k : Nat} (hk : opK tt k a ⟨t, h, G⟩ K) : Res P o ρ w0 Fo B w h μ G own K := by
  have hx := hρ x
  have hy := hρ y
  simp only [opK, ha, binK] at hk
  split at hk
  · rename_i kd n kd' m ex ey
    rw [ex] at hx; rw [ey] at hy
    have hx := hx.asInt; have hy := hy.asInt
    obtain ⟨rfl, hk⟩ := hk
    have hr0 : (execOp ρ o).run P w = ((binOp op T (.int kd n) (.int kd m)).run P w).andThen fun v w' => .ok (.value v) w' := by
      simp [execOp, hop, hx, hy, eqGuard_at_int]
    simp only [binI] at hk
    split at hk
    · exact .same I (by rw [hr0, binOp_add]; rfl) (.imm _ _ (.int _ _)) hk
    · exact .same I (by rw [hr0, binOp_sub]; rfl) (.imm _ _ (.int _ _)) hk
    · exact .same I (by rw [hr0, binOp_mul]; rfl) (.imm _ _ (.int _ _)) hk
    · exact .same I (by rw [hr0, binOp_quo]; simp [Op.intDiv, hk.1]) (.imm _ _ (.int _ _)) hk.2
    · exact .same I (by rw [hr0, binOp_rem]; simp [Op.intDiv, hk.1]) (.imm _ _ (.int _ _)) hk.2
    · exact .same I (by rw [hr0, binOp_and]; rfl) (.imm _ _ (.int _ _)) hk
    · exact .same I (by rw [hr0, binOp_or]; rfl) (.imm _ _ (.int _ _)) hk
    · exact .same I (by rw [hr0, binOp_xor]; rfl) (.imm _ _ (.int _ _)) hk
    · exact .same I (by rw [hr0, binOp_andNot]; rfl) (.imm _ _ (.int _ _)) hk
    · exact .same I (by rw [hr0, binOp_eql]; rfl) (.imm _ _ (.bool _)) hk
    · exact .same I (by rw [hr0, binOp_neq]; rfl) (.imm _ _ (.bool _)) hk
    · exact .same I (by rw [hr0, binOp_lss]; rfl) (.imm _ _ (.bool _)) hk
    · exact .same I (by rw [hr0, binOp_leq]; rfl) (.imm _ _ (.bool _)) hk
    · exact .same I (by rw [hr0, binOp_gtr]; rfl) (.imm _ _ (.bool _)) hk
    · exact .same I (by rw [hr0, binOp_geq]; rfl) (.imm _ _ (.bool _)) hk
    · have hm : ¬ m < 0 := by omega
      exact .same I (by rw [hr0, binOp_shl]; simp [Op.shift, hm]; rfl) (.imm _ _ (.int _ _)) hk.2
    · have hm : ¬ m < 0 := by omega
      exact .same I (by rw [hr0, binOp_shr]; simp [Op.shift, hm]; rfl) (.imm _ _ (.int _ _)) hk.2
  · rename_i s1 s2 ex ey
    rw [ex] at hx; rw [ey] at hy
    have hx := hx.asStr; have hy := hy.asStr
    have hr0 : (execOp ρ o).run P w = ((binOp op T (.string ⟨s1.toArray⟩) (.string ⟨s2.toArray⟩)).run P w).andThen fun v w' => .ok (.value v) w' := by
      simp [execOp, hop, hx, hy, eqGuard_at_string]
    simp only [binS] at hk
    split at hk
    · have hsz : ¬ (((⟨s1.toArray⟩ : ByteArray).size + (⟨s2.toArray⟩ : ByteArray).size : Nat) : Int) > IntKind.i64.max := by
        have h1 : (⟨s1.toArray⟩ : ByteArray).size = s1.length := by show s1.toArray.size = _; simp
        have h2 : (⟨s2.toArray⟩ : ByteArray).size = s2.length := by show s2.toArray.size = _; simp
        rw [h1, h2, IntKind.max_i64]
        have := hk.1
        simp only [big] at this
        omega
      refine .same I (v := .string ⟨(s1 ++ s2).toArray⟩) ?_ (.imm _ _ (.str _)) hk.2
      rw [hr0]
      simp only [binOp, Op.stringOp, if_neg hsz]
      simp only [Sem.run_pure, Result.andThen_ok]
      congr 2
    · refine .same I (v := .bool (s1 == s2)) ?_ (.imm _ _ (.bool _)) hk
      rw [hr0]
      simp [binOp, Op.stringOp, ba_toList]
    · refine .same I (v := .bool (s1 != s2)) ?_ (.imm _ _ (.bool _)) hk
      rw [hr0]
      simp [binOp, Op.stringOp, ba_toList, bne]
    · exact hk.elim
  · rename_i b1 b2 ex ey
    rw [ex] at hx; rw [ey] at hy
    have hx := hx.asBool; have hy := hy.asBool
    have hr0 : (execOp ρ o).run P w = ((binOp op T (.bool b1) (.bool b2)).run P w).andThen fun v w' => .ok (.value v) w' := by
      simp [execOp, hop, hx, hy, eqGuard_at_bool]
    obtain ⟨hkd, hk⟩ := hk
    have he := Go.run_equal_bool (P := P) w T b1 b2 (hty.bool T hkd)
    simp only [binL] at hk
    split at hk
    · exact .same I (v := .bool (b1 == b2)) (by rw [hr0]; simp [binOp, he]) (.imm _ _ (.bool _)) hk
    · exact .same I (v := .bool (b1 != b2)) (by rw [hr0]; simp [binOp, he, bne]) (.imm _ _ (.bool _)) hk
    · exact hk.elim
  · rename_i sz d1 ds ex ey
    rw [ex] at hx; rw [ey] at hy
    have hy := hy.asNil
    obtain ⟨hkd, hk⟩ := hk
    have hT : ∃ e, (tt T).kd = .slice e := by
      revert hkd; cases (tt T).kd <;> simp [Kd.isSlice]
    obtain ⟨e, hT⟩ := hT
    have hs : ∃ a n c, ρ x = .slice (some a) n c := by
      cases hx with
      | imm _ _ r => cases hxr : ρ x with
        | slice aa ln cp =>
          rw [hxr] at r
          cases r with
          | list => exact ⟨_, _, _, rfl⟩
        | _ => rw [hxr] at r; cases r
    obtain ⟨a, n, c, hs⟩ := hs
    have hr0 : (execOp ρ o).run P w = ((binOp op T (.slice (some a) n c) (.slice none 0 0)).run P w).andThen fun v w' => .ok (.value v) w' := by
      simp [execOp, hop, hs, hy, eqGuard_at_slice]
    have he := Go.run_equal_slice_nil (P := P) w T e (some a) n c (hty.slice T e hT)
    simp only [binN] at hk
    split at hk
    · exact .same I (v := .bool false) (by rw [hr0]; simp [binOp, he]) (.imm _ _ (.bool _)) hk
    · exact .same I (v := .bool true) (by rw [hr0]; simp [binOp, he]) (.imm _ _ (.bool _)) hk
    · exact hk.elim
  · exact hk.elim

theorem sound_un {op : UnOp} {T : Nat} {x : Operand} (hop : o.op = .unOp op T x) {a : AOper} (ha : a.o = .un op (co x)) {k : Nat} (hk : opK tt k a ⟨t, h, G⟩ K) : Res P o ρ w0 Fo B w h μ G own K := by
  have hx := hρ x
  simp only [opK, ha] at hk
  split at hk
  · rename_i b hev
    rw [hev] at hx
    exact .same I (v := .bool !b) (by simp [execOp, hop, hx.asBool, Op.unary]) (.imm _ _ (.bool _)) hk
  · rename_i kd n hev
    rw [hev] at hx
    exact .same I (v := .int kd (kd.wrap (0 - n))) (by simp [execOp, hop, hx.asInt, Op.unary, Op.intArith]) (.imm _ _ (.int _ _)) hk
  · exact hk.elim

theorem TyOk.some {T : Nat} (h : (tt T).flat = true) : ∃ d, P.underlying T = some d := by
  cases hk : (tt T).kd with
  | int k => exact ⟨_, hty.int T k hk⟩
  | bool => exact ⟨_, hty.bool T hk⟩
  | str => exact ⟨_, hty.str T hk⟩
  | slice e => exact ⟨_, hty.slice T e hk⟩
  | ptr e => exact ⟨_, hty.ptr T e hk⟩
  | func => obtain ⟨ps, rs, v, hu⟩ := hty.func T hk; exact ⟨_, hu⟩
  | struct fs => simp [Ty.flat, hk] at h
  | other => simp [Ty.flat, hk] at h

theorem sound_conv {S T : Nat} {x : Operand} (hop : o.op = .convert S T x) {a : AOper} (ha : a.o = .conv S T (co x)) {k : Nat} (hk : opK tt k a ⟨t, h, G⟩ K) : Res P o ρ w0 Fo B w h μ G own K := by
  have hx := hρ x
  simp only [opK, ha] at hk
  split at hk
  · rename_i kd k' n hT hev
    rw [hev] at hx
    obtain ⟨d, hd⟩ := TyOk.some hρ I hty hk.1
    exact .same I (v := .int kd (kd.wrap n)) (by simp [execOp, hop, hx.asInt, convert, run_underlying hd, run_underlying (hty.int T kd hT), Conv.intToInt]) (.imm _ _ (.int _ _)) hk.2
  · exact hk.elim

theorem evL_rel : ∀ (xs : List Operand) (i : Nat) (d : D) (v : Value), (evL t (xs.map co))[i]? = some d → (xs.map ρ)[i]? = some v → VRep w (FF own Fo) h μ G d v
  | [], i, d, v, hd, _ => by simp [evL] at hd
  | x :: xs, 0, d, v, hd, hv => by
    obtain rfl : ev t (co x) = d := by simpa [evL] using hd
    obtain rfl : ρ x = v := by simpa using hv
    exact hρ x
  | x :: xs, i + 1, d, v, hd, hv => evL_rel xs i d v (by simpa [evL] using hd) (by simpa using hv)

omit hρ I hty in
theorem evL_length : ∀ (xs : List Opd), (evL t xs).length = xs.length
  | [] => rfl
  | x :: xs => by simp [evL, evL_length xs]

theorem sound_mkfn {f : Nat} {first caps : Array Operand} (hop : o.op = .makeFunc (.func f) first caps) (h0 : first.size = 0) {a : AOper} (ha : a.o = .mkfn f (caps.toList.map co)) {k : Nat} (hk : opK tt k a ⟨t, h, G⟩ K) : Res P o ρ w0 Fo B w h μ G own K := by
  simp only [opK, ha] at hk
  have : first = #[] := Array.eq_empty_of_size_eq_zero h0
  subst this
  refine .same I (v := .func (.func f) #[] (caps.toList.map ρ).toArray) ?_ (.fn f _ (caps.toList.map ρ) (by simp [evL_length]) (evL_rel hρ I hty caps.toList)) hk
  simp only [execOp, hop, Instr.makeFunc]
  simp
  apply Array.ext'
  simp

theorem sound_max {x y : Operand} {T : Array Nat} (hop : o.op = .call ⟨.builtin .max, #[x, y], T⟩) {a : AOper} (ha : a.o = .max (co x) (co y)) {k : Nat} (hk : opK tt k a ⟨t, h, G⟩ K) : Res P o ρ w0 Fo B w h μ G own K := by
  have hx := hρ x
  have hy := hρ y
  simp only [opK, ha] at hk
  split at hk
  · rename_i kd n k' m ex ey
    rw [ex] at hx; rw [ey] at hy
    exact .same I (v := .int kd (if m > n then m else n)) (by simp [execOp, hop, resolve, invoke, builtin, Builtin.max_, Builtin.max2, hx.asInt, hy.asInt, List.foldlM]) (.imm _ _ (.int _ _)) hk
  · exact hk.elim

theorem sound_min {x y : Operand} {T : Array Nat} (hop : o.op = .call ⟨.builtin .min, #[x, y], T⟩) {a : AOper} (ha : a.o = .min (co x) (co y)) {k : Nat} (hk : opK tt k a ⟨t, h, G⟩ K) : Res P o ρ w0 Fo B w h μ G own K := by
  have hx := hρ x
  have hy := hρ y
  simp only [opK, ha] at hk
  split at hk
  · rename_i kd n k' m ex ey
    rw [ex] at hx; rw [ey] at hy
    exact .same I (v := .int kd (if m < n then m else n)) (by simp [execOp, hop, resolve, invoke, builtin, Builtin.min_, Builtin.min2, hx.asInt, hy.asInt, List.foldlM]) (.imm _ _ (.int _ _)) hk
  · exact hk.elim

theorem sound_ext {x : Operand} {i : Nat} (hop : o.op = .extract x i) {a : AOper} (ha : a.o = .ext (co x) i) {k : Nat} (hk : opK tt k a ⟨t, h, G⟩ K) : Res P o ρ w0 Fo B w h μ G own K := by
  have hx := hρ x
  simp only [opK, ha] at hk
  split at hk
  · rename_i xs hev
    rw [hev] at hx
    obtain ⟨vs, hv, hl, hr⟩ := hx.asTup
    have hi : i < vs.length := by omega
    refine .same I (v := vs[i]) (by simp [execOp, hop, hv, Instr.extract, hi]) (hr i _ _ ?_ (List.getElem?_eq_getElem hi)) hk.2
    rw [List.getD_eq_getElem?_getD, List.getElem?_eq_getElem hk.1]; rfl
  · exact hk.elim

theorem sound_len {T : Nat} {x : Operand} (hop : o.op = .call ⟨.builtin .len, #[x], #[T]⟩) {a : AOper} (ha : a.o = .len T (co x)) {k : Nat} (hk : opK tt k a ⟨t, h, G⟩ K) : Res P o ρ w0 Fo B w h μ G own K := by
  have hx := hρ x
  simp only [opK, ha] at hk
  split at hk
  · rename_i hT
    split at hk
    · rename_i s hev
      rw [hev] at hx
      refine .same I (v := .int .i64 s.length) ?_ (.imm _ _ (.int _ _)) hk
      have hsz : (⟨s.toArray⟩ : ByteArray).size = s.length := by show s.toArray.size = _; simp
      simp [execOp, hop, resolve, invoke, builtin, Builtin.len_, run_underlying (hty.str T hT), hx.asStr, goInt, hsz]
    · exact hk.elim
  · rename_i e hT
    split at hk
    · rename_i n hn
      have key : ∃ a c, ρ x = .slice a n c := by
        revert hn hx
        generalize ev t (co x) = d
        generalize ρ x = u
        intro hx hn
        cases d with
        | list sz xs =>
          obtain rfl : xs.length = n := by simpa [lenD] using hn
          cases hx with
          | imm _ _ r => cases r with
            | listE sz a c => exact ⟨_, _, rfl⟩
            | list => exact ⟨_, _, rfl⟩
        | lit sz xs =>
          obtain rfl : xs.length = n := by simpa [lenD] using hn
          cases hx with
          | imm _ _ r => cases r
          | lit => exact ⟨_, _, rfl⟩
        | nil =>
          obtain rfl : 0 = n := by simpa [lenD] using hn
          exact ⟨_, _, hx.asNil⟩
        | arr j g =>
          simp only [lenD] at hn
          cases hf : find h j g with
          | none => rw [hf] at hn; cases hn
          | some blk =>
            rw [hf] at hn
            cases blk with
            | cells cs => cases hn
            | arr sz xs =>
              obtain rfl : xs.length = n := by simpa using hn
              obtain ⟨_, _, hm⟩ := hx.asArr
              have hm := hm (by rw [hf]; simp)
              obtain ⟨o1, he, _⟩ := I.hok.has h own hf
              rcases he.arrOf.olist_inv with ⟨h1, h2, _⟩ | ⟨vs, os, b', cap, cur, E, h1, _⟩
              · rw [hm, h1, h2]; exact ⟨_, _, rfl⟩
              · rw [hm, h1]; exact ⟨_, _, rfl⟩
        | row j g x =>
          simp only [lenD] at hn
          split at hn
          · rename_i s ys hr
            obtain rfl : ys.length = n := by simpa using hn
            obtain ⟨_, _, hm⟩ := hx.asRow
            obtain ⟨b, n', c', hm, hc⟩ := hm (by rw [hr]; simp)
            obtain ⟨o1, hrow, _⟩ := I.hok.rowOf hr hm
            rcases (hrow _ hc).olist_inv with ⟨h1, h2, _⟩ | ⟨vs, os, b', cap, cur, E, h1, _⟩
            · rw [h1, h2]; exact ⟨_, _, rfl⟩
            · rw [h1]; exact ⟨_, _, rfl⟩
          · cases hn
        | _ => simp [lenD] at hn
      obtain ⟨b, c, hv⟩ := key
      refine .same I (v := .int .i64 n) ?_ (.imm _ _ (.int _ _)) hk
      simp [execOp, hop, resolve, invoke, builtin, Builtin.len_, run_underlying (hty.slice T e hT), hv, goInt]
    · exact hk.elim
  · exact hk.elim

end
end Go.PS
end

section
-- Every operation of the machine against the clean one: addresses, lists, appending.
set_option linter.unusedVariables false
set_option linter.unusedSimpArgs false
set_option linter.unusedSectionVars false
namespace Go.PS

section
variable {P : Program} {tt : Nat → Ty} {o : Oper} {ρ : Operand → Value} {w0 : World} {Fo : Nat → Prop} {B : Option Nat} {w : World} {h : List Ent} {μ : Nat → Value} {G : Nat} {own : List Nat} {K : D → List Ent → Nat → Prop} {t : List (Nat × D)}
variable (hρ : ∀ x, VRep w (FF own Fo) h μ G (ev t (co x)) (ρ x)) (I : HInv w0 Fo B w h μ G own) (hty : TyOk P tt)
include hρ I hty

theorem sound_field {T : Nat} {x : Operand} {i : Nat} (hop : o.op = .field T x i) {a : AOper} (ha : a.o = .field T (co x) i) {k : Nat} (hk : opK tt k a ⟨t, h, G⟩ K) : Res P o ρ w0 Fo B w h μ G own K := by
  have hx := hρ x
  simp only [opK, ha] at hk
  split at hk
  · rename_i fs hT
    obtain ⟨fields, hu, hfs, _⟩ := hty.struct T fs hT
    split at hk
    · rename_i off E hi
      obtain ⟨h1, h2, hk⟩ := hk
      have hfi := hfs i
      rw [hi] at hfi
      cases hf : fields[i]? with
      | none => rw [hf] at hfi; cases hfi
      | some f =>
        rw [hf] at hfi
        have e1 : f.offset = off := by simpa using congrArg (fun q => q.map Prod.fst) hfi
        have e2 : f.type = E := by simpa using congrArg (fun q => q.map Prod.snd) hfi
        have hs : (tt E).isStruct = false := by simp only [Ty.flat, Ty.isStruct] at h2 ⊢; split at h2 <;> simp_all
        split at hk
        · rename_i ds hev
          rw [hev] at hx
          obtain ⟨vs, hv, hl, _, hr⟩ := hx.asAgg
          have hlt : off < vs.length := by omega
          refine .same I (v := vs[off]) ?_ (hr off _ _ (by rw [List.getD_eq_getElem?_getD, List.getElem?_eq_getElem hk.1]; rfl) (List.getElem?_eq_getElem hlt)) hk.2
          simp [execOp, hop, hv, Instr.field, run_underlying hu, hf, Go.part, e1, e2, hty.isAgg w E (.inr h2), hs, asAgg, hlt]
        · exact hk.elim
    · exact hk.elim
  · exact hk.elim

theorem sound_faddr {T : Nat} {x : Operand} {i : Nat} (hop : o.op = .fieldAddr T x i) {a : AOper} (ha : a.o = .faddr T (co x) i) {k : Nat} (hk : opK tt k a ⟨t, h, G⟩ K) : Res P o ρ w0 Fo B w h μ G own K := by
  have hx := hρ x
  simp only [opK, ha] at hk
  split at hk
  · rename_i fs hT
    obtain ⟨fields, hu, hfs, _⟩ := hty.struct T fs hT
    split at hk
    · rename_i off E hi
      obtain ⟨h1, h2, hk⟩ := hk
      have hfi := hfs i
      rw [hi] at hfi
      cases hf : fields[i]? with
      | none => rw [hf] at hfi; cases hfi
      | some f =>
        rw [hf] at hfi
        have e1 : f.offset = off := by simpa using congrArg (fun q => q.map Prod.fst) hfi
        have e2 : f.type = E := by simpa using congrArg (fun q => q.map Prod.snd) hfi
        have hne : (tt E).kd ≠ .other := flat_known h2
        have hrun : ∀ (b q : Nat), ρ x = .pointer (some ⟨b, q, none⟩) → (execOp ρ o).run P w = .ok (.value (.pointer (some ⟨b, q + off, none⟩))) w := by
          intro b q hv
          simp [execOp, hop, hv, Instr.fieldAt, run_underlying hu, hf, Instr.sureAddr, fieldPlace, e1, e2, hty.size w E hne, h1, Addr.add_lit]
        split at hk
        · rename_i ds hev
          rw [hev] at hx
          obtain ⟨u, b, q, hv, hrep, hc, hlt, hnf⟩ := hx.asIptr
          obtain ⟨vs, rfl, hl, ho, hr⟩ := VRep.asAgg (h := h) (μ := μ) (G := G) (.imm _ _ hrep)
          have hlt' : off < vs.length := by omega
          have hone := ho _ (List.getElem_mem hlt')
          have hds : ds[off]? = some (ds.getD off .junk) := by rw [List.getD_eq_getElem?_getD, List.getElem?_eq_getElem hk.1]; rfl
          have hrep' : Rep w (FF own Fo) (ds.getD off .junk) vs[off] := by
            cases hrep with
            | agg xs vs' h1 h2 h3 => exact h2 off _ _ hds (by simp [hlt'])
          refine .same I (hrun b q hv) (.imm _ _ (.iptr _ vs[off] b (q + off) hrep' (fun j x hx => ?_) hlt hnf)) hk.2
          rw [Rep.pure_of_cell hone] at hx
          cases j with
          | zero =>
            obtain rfl : vs[off] = x := by simpa using hx
            have := (hc off vs[off] (by simp [Value.cells, hlt'])).2
            exact ⟨hone, by simpa using this⟩
          | succ j => simp at hx
        · rename_i j g q hev
          rw [hev] at hx
          obtain ⟨hf', hk⟩ := hk
          obtain ⟨hg, hp⟩ := hx.asPtr
          obtain ⟨b, hb, hv⟩ := hp (find_isSome hf')
          exact .same I (hrun b q hv) (.ptr j g (q + off) _ hg (fun _ => ⟨b, hb, rfl⟩)) hk
        · exact hk.elim
    · exact hk.elim
  · exact hk.elim

theorem sound_iaddr {T : Nat} {x i : Operand} (hop : o.op = .indexAddr T x i) {a : AOper} (ha : a.o = .iaddr T (co x) (co i)) {k : Nat} (hk : opK tt k a ⟨t, h, G⟩ K) : Res P o ρ w0 Fo B w h μ G own K := by
  have hx := hρ x
  have hi := hρ i
  simp only [opK, ha] at hk
  split at hk
  · rename_i kd n ei
    rw [ei] at hi
    have hi := hi.asInt
    have hrun : ∀ (e : Nat) (a : Addr) (len cap : Nat), (tt T).kd = .slice e → (tt e).kd ≠ .other → ρ x = .slice (some a) len cap → 0 ≤ n → n < len →
        (execOp ρ o).run P w = .ok (.value (.pointer (some (a.add (n.toNat * (tt e).sz))))) w := by
      intro e a len cap hT he hv h0 h1
      simp [execOp, hop, hv, hi, Instr.indexAt, asIntOf, run_underlying (hty.slice T e hT), h0, h1, hty.size w e he]
    split at hk
    · rename_i sz xs ex
      rw [ex] at hx
      obtain ⟨hsz, h0, h1, hk⟩ := hk
      simp only [esz] at hsz
      split at hsz
      · rename_i e hT
        split at hsz
        · rename_i hne
          injection hsz with hsz
          cases hx with
          | imm _ _ r => cases hxr : ρ x with
            | slice aa ln cp =>
              rw [hxr] at r
              cases r with
              | listE sz a c => simp at h1; omega
              | list _ _ vs b q cap g1 g2 g3 g4 g5 g6 g7 =>
                have hnl : n.toNat < vs.length := by omega
                have hvs : vs[n.toNat]? = some vs[n.toNat] := List.getElem?_eq_getElem hnl
                have hxs : xs[n.toNat]? = some (xs.getD n.toNat .junk) := by rw [List.getD_eq_getElem?_getD, List.getElem?_eq_getElem (by omega)]; rfl
                obtain ⟨r1, r2⟩ := g5 _ _ hvs
                refine .same I (hrun e ⟨b, q, none⟩ _ _ hT (known_of hne) hxr h0 h1) (.imm _ _ ?_) hk
                rw [Addr.add_lit, ← hsz]
                exact .iptr _ vs[n.toNat] b _ (g4 _ _ _ hxs hvs) r2 g6 g7
            | _ => rw [hxr] at r; cases r
        · cases hsz
      · cases hsz
    · rename_i j g ex
      rw [ex] at hx
      split at hk
      · rename_i sz xs hf
        obtain ⟨rfl, hsz, h0, h1, hk⟩ := hk
        simp only [esz] at hsz
        split at hsz
        · rename_i e hT
          split at hsz
          · rename_i hne
            injection hsz with hsz
            obtain ⟨_, hg, hm⟩ := hx.asArr
            have hm := hm (by rw [hf]; simp)
            obtain ⟨o1, he, _⟩ := I.hok.has h own hf
            rcases he.arrOf.olist_inv with ⟨_, hxs, _⟩ | ⟨vs, os, b', cap, cur, E, hm', _⟩
            · rw [hxs] at h1; simp at h1; omega
            · refine .same I (hrun e ⟨b', 0, none⟩ xs.length cap hT (known_of hne) (hm.trans hm') h0 h1) ?_ hk
              rw [Addr.add_lit, hsz, Nat.mul_one, Nat.zero_add]
              exact .ptr j g n.toNat _ hg (fun _ => ⟨b', .inr ⟨_, _, hm'⟩, rfl⟩)
          · cases hsz
        · cases hsz
      · exact hk.elim
    · rename_i j g r ex
      rw [ex] at hx
      split at hk
      · rename_i s ys hr
        obtain ⟨rfl, hsz, h0, h1, hk⟩ := hk
        simp only [esz] at hsz
        split at hsz
        · rename_i e hT
          split at hsz
          · rename_i hne
            injection hsz with hsz
            obtain ⟨_, hg, hm⟩ := hx.asRow
            have hnc := hx.row_cells
            obtain ⟨b, n', c', hm, hc⟩ := hm (by rw [hr]; simp)
            obtain ⟨o1, hrow, _⟩ := I.hok.rowOf hr hm
            rcases (hrow _ hc).olist_inv with ⟨_, hxs, _⟩ | ⟨vs, os, b', cap, cur, E, hm', _⟩
            · rw [hxs] at h1; simp at h1; omega
            · refine .same I (hrun e ⟨b', 0, none⟩ ys.length cap hT (known_of hne) hm' h0 h1) ?_ hk
              rw [Addr.add_lit, hsz, Nat.mul_one, Nat.zero_add]
              exact .rptr j g r n.toNat _ hg (fun d hd => ⟨hnc d hd, fun _ => ⟨b, _, _, b', _, _, hm, by rw [hc, hm'], rfl⟩⟩)
          · cases hsz
        · cases hsz
      · exact hk.elim
    · exact hk.elim
  · exact hk.elim

theorem sound_index {T : Nat} {x i : Operand} (hop : o.op = .index T x i) {a : AOper} (ha : a.o = .index T (co x) (co i)) {k : Nat} (hk : opK tt k a ⟨t, h, G⟩ K) : Res P o ρ w0 Fo B w h μ G own K := by
  have hx := hρ x
  have hi := hρ i
  simp only [opK, ha] at hk
  split at hk
  · rename_i s kd n ex ei hT
    rw [ex] at hx; rw [ei] at hi
    obtain ⟨h0, h1, hk⟩ := hk
    have hlt : n.toNat < s.length := by omega
    refine .same I (v := .int .u8 ((s.getD n.toNat 0).toNat : Int)) ?_ (.imm _ _ (.int _ _)) hk
    have hb : (⟨s.toArray⟩ : ByteArray)[n.toNat]? = some (s.getD n.toNat 0) := by
      have hsz : n.toNat < (⟨s.toArray⟩ : ByteArray).size := by show n.toNat < s.toArray.size; simpa using hlt
      rw [getElem?_pos (⟨s.toArray⟩ : ByteArray) n.toNat hsz]
      show some (s.toArray[n.toNat]'(by simpa using hlt)) = _
      simp [List.getD_eq_getElem?_getD, hlt]
    simp [execOp, hop, hx.asStr, hi.asInt, Instr.index, asIntOf, run_underlying (hty.str T hT), h0, hb]
  · exact hk.elim

omit hρ I hty in
theorem optI_run {lo : Option Operand} {dflt : Int} {Q : Int → Prop} (hρ : ∀ x, VRep w (FF own Fo) h μ G (ev t (co x)) (ρ x)) (hq : optI t dflt (lo.map co) Q) :
    (lo = none ∧ Q dflt) ∨ ∃ x kd n, lo = some x ∧ ρ x = .int kd n ∧ Q n := by
  cases lo with
  | none => exact .inl ⟨rfl, hq⟩
  | some x =>
    simp only [Option.map, optI] at hq
    split at hq
    · rename_i kd n e
      have := hρ x
      rw [e] at this
      exact .inr ⟨x, kd, n, rfl, this.asInt, hq⟩
    · exact hq.elim

omit hρ I hty in
theorem bounds_run (isS : Bool) (len cap l u : Nat) (lo hi : Option Value) (hlo : (lo = none ∧ l = 0) ∨ ∃ kd, lo = some (.int kd l)) (hhi : (hi = none ∧ u = len) ∨ ∃ kd, hi = some (.int kd u)) (h1 : l ≤ u) (h2 : u ≤ cap) :
    (Instr.sliceBounds isS len cap lo hi none).run P w = .ok (l, u, cap) w := by
  have e1 : (0 : Int) ≤ (u : Int) ∧ (u : Int) ≤ (cap : Int) := by omega
  have e2 : (0 : Int) ≤ (l : Int) ∧ (l : Int) ≤ (u : Int) := by omega
  rcases hhi with ⟨rfl, rfl⟩ | ⟨kd, rfl⟩
  · rcases hlo with ⟨rfl, rfl⟩ | ⟨kd, rfl⟩
    · simp [Instr.sliceBounds]
    · simp [Instr.sliceBounds, Instr.sliceBound, asIntOf, h1]
  · rcases hlo with ⟨rfl, rfl⟩ | ⟨kd, rfl⟩
    · simp [Instr.sliceBounds, Instr.sliceBound, asIntOf, h2]
    · simp [Instr.sliceBounds, Instr.sliceBound, asIntOf, h1, h2]

omit hρ I in
/-- A piece of what is never written again. -/
theorem slice_rep {F : Nat → Prop} {T e sz l u : Nat} {x : Operand} {lo hi : Option Operand} {xs : List D} (hop : o.op = .slice T x lo hi none) (hT : (tt T).kd = .slice e) (hne : (tt e).known = true) (hsz : sz = (tt e).sz) (r : Rep w F (.list sz xs) (ρ x))
    (hlo : (lo.map ρ = none ∧ l = 0) ∨ ∃ kd, lo.map ρ = some (.int kd l)) (hhi : (hi.map ρ = none ∧ u = xs.length) ∨ ∃ kd, hi.map ρ = some (.int kd u)) (hlu : l ≤ u) (hul : u ≤ xs.length) :
    ∃ v, (execOp ρ o).run P w = .ok (.value v) w ∧ Rep w F (.list sz ((xs.take u).drop l)) v := by
  have e0 : (execOp ρ o).run P w = ((Instr.sliceAt T (ρ x) (lo.map ρ) (hi.map ρ) none).run P w).andThen fun v w' => .ok (.value v) w' := by simp [execOp, hop]
  have hrun : ∀ (aa : Option Addr) (cap : Nat), ρ x = .slice aa xs.length cap → xs.length ≤ cap →
      (execOp ρ o).run P w = .ok (.value (.slice (if cap = l then aa else aa.map (·.add (l * sz))) (u - l) (cap - l))) w := by
    intro aa cap hv hc
    rw [e0, hv]
    have hb := bounds_run (P := P) (w := w) true xs.length cap l u (lo.map ρ) (hi.map ρ) hlo hhi hlu (by omega)
    simp [Instr.sliceAt, Instr.slice, run_underlying (hty.slice T e hT), hb, hty.size w e (known_of hne), hsz]
  have hlen : ((xs.take u).drop l).length = u - l := by rw [List.length_drop, List.length_take]; omega
  cases hxr : ρ x with
  | slice aa ln cp =>
    rw [hxr] at r
    cases r with
    | listE sz a c =>
      have hu0 : u = 0 := by simpa using hul
      have hl0 : l = 0 := by omega
      subst hu0; subst hl0
      -- an empty one of an empty one
      have hb := bounds_run (P := P) (w := w) true 0 cp 0 0 (lo.map ρ) (hi.map ρ) hlo (by simpa using hhi) (Nat.le_refl _) (Nat.zero_le _)
      refine ⟨.slice (if cp = 0 then aa else aa.map (·.add (0 * sz))) 0 cp, ?_, ?_⟩
      · rw [e0, hxr]
        simp [Instr.sliceAt, Instr.slice, run_underlying (hty.slice T e hT), hb, hty.size w e (known_of hne), hsz]
      · simp only [List.take_nil, List.drop_nil]
        exact .listE sz _ cp
    | list _ _ vs b q cap g1 g2 g3 g4 g5 g6 g7 =>
      refine ⟨_, hrun _ _ hxr g2, ?_⟩
      by_cases he : u = l
      · subst he
        have : (xs.take u).drop u = [] := List.drop_eq_nil_of_le (by rw [List.length_take]; omega)
        rw [this, Nat.sub_self]
        exact .listE sz _ _
      · have hcl : ¬ cp = l := by omega
        rw [if_neg hcl]
        simp only [Option.map_some, Addr.add_lit]
        have := Rep.list (w := w) (F := F) sz ((xs.take u).drop l) ((vs.take u).drop l) b (q + l * sz) (cp - l) (by rw [hlen, List.length_drop, List.length_take]; omega) (by rw [hlen]; omega) (by rw [hlen]; omega)
          (fun i d v hd hv => by
            rw [List.getElem?_drop, List.getElem?_take] at hd hv
            split at hd
            · rename_i hlt
              rw [if_pos hlt] at hv
              exact g4 _ d v hd hv
            · cases hd) ((g5.take u).drop l) g6 g7
        rw [hlen] at this
        exact this
  | _ => rw [hxr] at r; cases r

omit hρ I hty in
theorem bounds_of {lo hi : Option Operand} {n : Nat} {Q : Nat → Nat → Prop} (hρ : ∀ x, VRep w (FF own Fo) h μ G (ev t (co x)) (ρ x))
    (hk : optI t 0 (lo.map co) fun l => optI t n (hi.map co) fun u => 0 ≤ l ∧ l ≤ u ∧ u ≤ n ∧ Q l.toNat u.toNat) :
    ∃ (l u : Nat), ((lo.map ρ = none ∧ l = 0) ∨ ∃ kd, lo.map ρ = some (.int kd l)) ∧ ((hi.map ρ = none ∧ u = n) ∨ ∃ kd, hi.map ρ = some (.int kd u)) ∧ l ≤ u ∧ u ≤ n ∧ Q l u := by
  rcases optI_run hρ hk with ⟨rfl, hk1⟩ | ⟨y, kd, n1, rfl, hy, hk1⟩
  · rcases optI_run hρ hk1 with ⟨rfl, hk2⟩ | ⟨z, kd', m, rfl, hz, hk2⟩
    · exact ⟨0, n, .inl ⟨rfl, rfl⟩, .inl ⟨rfl, rfl⟩, Nat.zero_le _, Nat.le_refl _, by simpa using hk2.2.2.2⟩
    · obtain ⟨a1, a2, a3, hk3⟩ := hk2
      exact ⟨0, m.toNat, .inl ⟨rfl, rfl⟩, .inr ⟨kd', by simp [hz]; omega⟩, Nat.zero_le _, by omega, by simpa using hk3⟩
  · rcases optI_run hρ hk1 with ⟨rfl, hk2⟩ | ⟨z, kd', m, rfl, hz, hk2⟩
    · obtain ⟨a1, a2, a3, hk3⟩ := hk2
      exact ⟨n1.toNat, n, .inr ⟨kd, by simp [hy]; omega⟩, .inl ⟨rfl, rfl⟩, by omega, Nat.le_refl _, by simpa using hk3⟩
    · obtain ⟨a1, a2, a3, hk3⟩ := hk2
      exact ⟨n1.toNat, m.toNat, .inr ⟨kd, by simp [hy]; omega⟩, .inr ⟨kd', by simp [hz]; omega⟩, by omega, by omega, hk3⟩

theorem sound_slice {T : Nat} {x : Operand} {lo hi : Option Operand} (hop : o.op = .slice T x lo hi none) {a : AOper} (ha : a.o = .slice T (co x) (lo.map co) (hi.map co)) {k : Nat} (hk : opK tt k a ⟨t, h, G⟩ K) : Res P o ρ w0 Fo B w h μ G own K := by
  have hx := hρ x
  simp only [opK, ha] at hk
  have e0 : (execOp ρ o).run P w = ((Instr.sliceAt T (ρ x) (lo.map ρ) (hi.map ρ) none).run P w).andThen fun v w' => .ok (.value v) w' := by simp [execOp, hop]
  split at hk
  · rename_i j g ex
    rw [ex] at hx
    split at hk
    · rename_i sz xs hf
      obtain ⟨_, hsz, hk⟩ := hk
      simp only [esz] at hsz
      split at hsz
      · rename_i e hT
        split at hsz
        · rename_i hne
          injection hsz with hsz
          obtain ⟨l, u, hlo, hhi, hlu, hul, hk⟩ := bounds_of (Q := fun l u => K (.list sz (((xs.map (imm 5)).take u).drop l)) (hdel h j) G) hρ hk
          obtain ⟨_, hg, hm⟩ := hx.asArr
          have hm := hm (by rw [hf]; simp)
          obtain ⟨o1, rest, he, hr', hnd, hmem, out⟩ := I.takeOut hf
          have hok := ORep.imm he.arrOf (F' := FF rest Fo) (fun b hb _ => hb.imp (fun hb => hmem b (by simp [hb])) id) (fun b hb hF => by
            rcases hF with hF | hF
            · exact (List.nodup_append.1 hnd).2.2 b hb b hF rfl
            · have := I.out b hF
              have h2 := he.arrOf.lt b hb
              omega) 6
          rw [← hm] at hok
          obtain ⟨v, hrun, hrep⟩ := slice_rep (P := P) hty hop hT hne hsz (xs := xs.map (imm 5)) (by simpa [PS.imm] using hok) hlo (by simpa using hhi) hlu (by simpa using hul)
          exact ⟨_, v, w, _, _, _, _, _, hrun, .inl rfl, hk, out, .imm _ _ hrep⟩
        · cases hsz
      · cases hsz
    · exact hk.elim
  · rename_i sz xs ex
    rw [ex] at hx
    obtain ⟨hsz, hk⟩ := hk
    simp only [esz] at hsz
    split at hsz
    · rename_i e hT
      split at hsz
      · rename_i hne
        injection hsz with hsz
        obtain ⟨l, u, hlo, hhi, hlu, hul, hk⟩ := bounds_of (Q := fun l u => K (.list sz ((xs.take u).drop l)) h G) hρ hk
        cases hx with
        | imm _ _ r =>
          obtain ⟨v, hrun, hrep⟩ := slice_rep (P := P) hty hop hT hne hsz r hlo hhi hlu hul
          exact .same I hrun (.imm _ _ hrep) hk
      · cases hsz
    · cases hsz
  · rename_i s ex
    rw [ex] at hx
    obtain ⟨hT, hk⟩ := hk
    have hT' : (tt T).kd = .str := by
      revert hT; cases (tt T).kd <;> simp
    have key : ∃ (l u : Nat), ((lo.map ρ = none ∧ l = 0) ∨ ∃ kd, lo.map ρ = some (.int kd l)) ∧ ((hi.map ρ = none ∧ u = s.length) ∨ ∃ kd, hi.map ρ = some (.int kd u)) ∧ l ≤ u ∧ u ≤ s.length ∧ K (.str ((s.take u).drop l)) h G := by
      rcases optI_run hρ hk with ⟨rfl, hk1⟩ | ⟨y, kd, n, rfl, hy, hk1⟩
      · rcases optI_run hρ hk1 with ⟨rfl, hk2⟩ | ⟨z, kd', m, rfl, hz, hk2⟩
        · exact ⟨0, s.length, .inl ⟨rfl, rfl⟩, .inl ⟨rfl, rfl⟩, Nat.zero_le _, Nat.le_refl _, by simpa using hk2.2.2.2⟩
        · obtain ⟨a1, a2, a3, hk3⟩ := hk2
          exact ⟨0, m.toNat, .inl ⟨rfl, rfl⟩, .inr ⟨kd', by simp [hz]; omega⟩, Nat.zero_le _, by omega, by simpa using hk3⟩
      · rcases optI_run hρ hk1 with ⟨rfl, hk2⟩ | ⟨z, kd', m, rfl, hz, hk2⟩
        · obtain ⟨a1, a2, a3, hk3⟩ := hk2
          exact ⟨n.toNat, s.length, .inr ⟨kd, by simp [hy]; omega⟩, .inl ⟨rfl, rfl⟩, by omega, Nat.le_refl _, by simpa using hk3⟩
        · obtain ⟨a1, a2, a3, hk3⟩ := hk2
          exact ⟨n.toNat, m.toNat, .inr ⟨kd, by simp [hy]; omega⟩, .inr ⟨kd', by simp [hz]; omega⟩, by omega, by omega, hk3⟩
    obtain ⟨l, u, hlo, hhi, hlu, hul, hk⟩ := key
    have hsz : (⟨s.toArray⟩ : ByteArray).size = s.length := by show s.toArray.size = _; simp
    have hb := bounds_run (P := P) (w := w) false s.length s.length l u (lo.map ρ) (hi.map ρ) hlo hhi hlu hul
    refine .same I (v := .string ⟨((s.take u).drop l).toArray⟩) ?_ (.imm _ _ (.str _)) hk
    rw [e0, hx.asStr]
    have hex : (⟨s.toArray⟩ : ByteArray).extract l u = ⟨((s.take u).drop l).toArray⟩ := by
      apply ByteArray.ext
      simp [List.extract_eq_take_drop, List.drop_take]
    simp [Instr.sliceAt, Instr.slice, run_underlying (hty.str T hT'), hsz, hb, hex]
  · exact hk.elim

end
end Go.PS
end

section
-- Every operation of the machine against the clean one: what makes memory.
set_option linter.unusedVariables false
set_option linter.unusedSimpArgs false
set_option linter.unusedSectionVars false
namespace Go.PS

theorem foldl_set : ∀ (c : List Value) (off j : Nat) (A : Array Value), off + j + c.length ≤ A.size →
    ((c.zipIdx j).foldl (fun (cs : Array Value) (p : Value × Nat) => cs.setIfInBounds (off + p.2) p.1) A).toList = A.toList.take (off + j) ++ c ++ A.toList.drop (off + j + c.length)
  | [], off, j, A, _ => by simp
  | v :: c, off, j, A, h => by
    simp only [List.length_cons] at h
    rw [List.zipIdx_cons, List.foldl_cons, foldl_set c off (j + 1) _ (by simp; omega)]
    simp only [Array.toList_setIfInBounds]
    have := list_seg_step A.toList (off + j) v c (by simp; omega)
    simpa [Nat.add_assoc] using this

theorem fill_step (place : Nat → Option (Nat × Nat)) (A : Array Value) (i off sz : Nat) (v : Value) (rest : List (Nat × Value)) (hp : place i = some (off, sz)) (hs : v.cells.size = sz) (hfit : off + sz ≤ A.size) :
    Instr.fill place A ((i, v) :: rest) = Instr.fill place (A.toList.take off ++ v.cells.toList ++ A.toList.drop (off + sz)).toArray rest := by
  simp only [Instr.fill, hp]
  rw [if_neg (by simp [hs]; omega)]
  congr 1
  apply Array.ext'
  rw [← Array.foldl_toList, Array.toList_zipIdx]
  have := foldl_set v.cells.toList off 0 A (by simp [hs]; omega)
  simpa [hs] using this

theorem fill_all (sz : Nat) : ∀ (vs : List Value) (m : Nat) (A : Array Value), A.size = (m + vs.length) * sz → (∀ v ∈ vs, v.cells.size = sz) →
    Instr.fill (fun i => some (i * sz, sz)) A ((vs.zipIdx m).map fun p => (p.2, p.1)) = some (A.toList.take (m * sz) ++ flat vs).toArray
  | [], m, A, h, _ => by
    simp only [List.zipIdx_nil, List.map_nil, Instr.fill, flat_nil, List.append_nil]
    congr 1
    apply Array.ext'
    simp only [List.length_nil, Nat.add_zero] at h
    show A.toList = List.take (m * sz) A.toList
    rw [List.take_of_length_le (by rw [Array.length_toList]; omega)]
  | v :: vs, m, A, h, hs => by
    simp only [List.length_cons] at h
    have hsz : (m + (vs.length + 1)) * sz = m * sz + sz + vs.length * sz := by rw [Nat.add_mul, Nat.add_mul]; omega
    rw [hsz] at h
    rw [List.zipIdx_cons, List.map_cons, fill_step _ A m (m * sz) sz v _ rfl (hs v (by simp)) (by omega), fill_all sz vs (m + 1) _ (by
      simp only [List.size_toArray, List.length_append, List.length_take, List.length_drop, Array.length_toList, hs v (by simp), Nat.add_mul]
      omega) (fun u hu => hs u (by simp [hu]))]
    congr 1
    apply Array.ext'
    have hl : (A.toList.take (m * sz)).length = m * sz := by rw [List.length_take, Array.length_toList]; omega
    have hl2 : (A.toList.take (m * sz) ++ v.cells.toList).length = (m + 1) * sz := by rw [List.length_append, hl, Array.length_toList, hs v (by simp), Nat.add_mul]; omega
    show List.take ((m + 1) * sz) (A.toList.take (m * sz) ++ v.cells.toList ++ A.toList.drop (m * sz + sz)) ++ flat vs = A.toList.take (m * sz) ++ flat (v :: vs)
    rw [← hl2, List.take_left', flat_cons, List.append_assoc]
    rfl

theorem zip_range (vs : List Value) (is : List Nat) (h : is = List.range vs.length) : is.zip vs = (vs.zipIdx 0).map fun p => (p.2, p.1) := by
  subst h
  apply List.ext_getElem?
  intro i
  by_cases hi : i < vs.length
  · simp [List.getElem?_zip_eq_some, hi]
  · simp [List.getElem?_eq_none, hi]

section
variable {P : Program} {tt : Nat → Ty} {o : Oper} {ρ : Operand → Value} {w0 : World} {Fo : Nat → Prop} {B : Option Nat} {w : World} {h : List Ent} {μ : Nat → Value} {G : Nat} {own : List Nat} {K : D → List Ent → Nat → Prop} {t : List (Nat × D)}
variable (hρ : ∀ x, VRep w (FF own Fo) h μ G (ev t (co x)) (ρ x)) (I : HInv w0 Fo B w h μ G own) (hty : TyOk P tt)
include hρ I hty

theorem sound_bslice {T n : Nat} {ps : Array (Nat × Operand)} (hop : o.op = .buildSlice T n ps) {a : AOper} (ha : a.o = .bslice T n (ps.toList.map fun p => (p.1, co p.2))) {k : Nat} (hk : opK tt k a ⟨t, h, G⟩ K) : Res P o ρ w0 Fo B w h μ G own K := by
  simp only [opK, ha] at hk
  split at hk
  · rename_i E hE
    simp only [elemT] at hE
    split at hE
    · rename_i e hT
      split at hE
      · rename_i hkn
        injection hE with hE
        subst hE
        have hkn := known_of hkn
        simp only [List.map_map] at hk
        have hev : (fun p : Nat × Opd => ev t p.2) ∘ (fun p : Nat × Operand => (p.1, co p.2)) = fun p => ev t (co p.2) := rfl
        have hfst : (Prod.fst ∘ fun p : Nat × Operand => (p.1, co p.2)) = Prod.fst := rfl
        rw [hev, hfst] at hk
        obtain ⟨hidx, hn, hsz, hzero, hfit, hk⟩ := hk
        -- the values
        have hlen : ps.toList.length = n := by have := congrArg List.length hidx; simpa using this
        generalize hvs : ps.toList.map (fun p => ρ p.2) = vs at *
        generalize hxs : ps.toList.map (fun p => ev t (co p.2)) = xs at *
        have hvl : vs.length = n := by rw [← hvs, List.length_map, hlen]
        have hxl : xs.length = n := by rw [← hxs, List.length_map, hlen]
        have hrep : ∀ (i : Nat) (d : D) (v : Value), xs[i]? = some d → vs[i]? = some v → VRep w (FF own Fo) h μ G d v := by
          intro i d v hd hv
          rw [← hxs] at hd; rw [← hvs] at hv
          obtain ⟨p, hp, rfl⟩ := getElem?_map_some hd
          obtain ⟨q, hq, rfl⟩ := getElem?_map_some hv
          rw [hp] at hq
          injection hq with hq
          subst hq
          exact hρ _
        have hcells : ∀ v ∈ vs, v.cells.size = (tt e).sz ∧ ∀ (j : Nat) (u : Value), v.cells[j]? = some u → u.oneCell' = true := by
          intro v hv
          obtain ⟨i, hi⟩ := List.mem_iff_getElem?.1 hv
          have hil : i < xs.length := by have := (List.getElem?_eq_some_iff.1 hi).1; omega
          have hx := List.getElem?_eq_getElem hil
          have := (hrep i _ v hx hi).fits (hfit _ (List.mem_of_getElem? hx))
          exact ⟨this.1, this.2.1⟩
        have hones : ∀ u ∈ flat vs, u.oneCell' = true := by
          intro u hu
          obtain ⟨v, hv, hu⟩ := mem_flat hu
          obtain ⟨j, hj⟩ := List.mem_iff_getElem?.1 hu
          exact (hcells v hv).2 j u (by simpa using hj)
        have hfl : (flat vs).length = n * (tt e).sz := by rw [flat_length vs (fun v hv => (hcells v hv).1), hvl]
        have hrun : (execOp ρ o).run P w = .ok (.value (.slice (some ⟨w.heap.size, 0, none⟩) n n)) (w.alloc (.cells ((flat vs).toArray ++ #[]) e)) := by
          have hlim : ¬ (2 ^ 24 < n * (tt e).sz) := by
            have := Nat.mul_le_mul hn hsz
            omega
          have hparts : (ps.map fun p => (p.1, ρ p.2)).toList = (vs.zipIdx 0).map fun p => (p.2, p.1) := by
            rw [← zip_range vs (ps.toList.map Prod.fst) (by rw [hidx, hvl]), ← hvs]
            simp only [Array.toList_map]
            rw [List.zip_map']
          have hfill : ∀ A : Array Value, A.size = n * (tt e).sz → Instr.fill (fun i => some (i * (tt e).sz, (tt e).sz)) A (ps.map fun p => (p.1, ρ p.2)).toList = some (flat vs).toArray := by
            intro A hA
            rw [hparts, fill_all (tt e).sz vs 0 A (by rw [hA, hvl, Nat.zero_add]) (fun v hv => (hcells v hv).1)]
            simp
          obtain ⟨z, hz⟩ := Option.isSome_iff_exists.1 hzero
          obtain ⟨i, hi, his, _, _, hzz⟩ := hty.info e hkn
          obtain ⟨⟨zv, hzv, _⟩, _⟩ := hzz z hz
          have hfill' : ∀ A : Array Value, A.size = n * (tt e).sz → Instr.fill (fun i => some (i * (tt e).sz, (tt e).sz)) A (List.map (fun x => (x.fst, ρ x.snd)) ps.toList) = some (flat vs).toArray := by
            intro A hA
            have := hfill A hA
            simpa using this
          have hlim' : ¬ (16777216 < n * (tt e).sz) := by simpa using hlim
          by_cases h0 : n * (tt e).sz = 0
          · simp [execOp, hop, Instr.buildSlice, run_underlying (hty.slice T e hT), hty.size w e hkn, h0, newRow]
            rw [hfill' _ (by simp [h0])]
            simp
          · simp [execOp, hop, Instr.buildSlice, run_underlying (hty.slice T e hT), hty.size w e hkn, h0, hlim', zeroValue, typeInfo, hi, hzv, newRow]
            rw [hfill' _ (by simp)]
            simp
        have hgr := grown_alloc w (.cells ((flat vs).toArray ++ #[]) e)
        have hrow := row_alloc (w := w) (E := e) (fun v hv => (hcells v hv).1) hones #[]
        have hout := I.quiet hgr
        have hml : n ≤ maxLen := by simp only [maxLen]; omega
        have hnF : ¬ FF own Fo w.heap.size := fun hF => Nat.lt_irrefl _ (I.blk _ hF)
        split at hk
        · obtain ⟨hpu, hk⟩ := hk
          refine .quiet I hgr hrun (.imm _ _ ?_) hk
          have := Rep.list (w := w.alloc (.cells ((flat vs).toArray ++ #[]) e)) (F := FF own Fo) (tt e).sz xs vs w.heap.size 0 n (by omega) (by omega) (by omega)
            (fun i d v hd hv => ((hrep i d v hd hv).pure 5 (hpu d (List.mem_of_getElem? hd))).evo hout.2.mm) hrow (by simp) hnF
          rw [hxl] at this
          exact this
        · obtain ⟨hpu, hk⟩ := hk
          refine .addArr I hgr k ⟨_, _, _, rfl⟩ hrun (o1 := w.heap.size :: (List.replicate n ([] : List Nat)).flatten) (by simp) (by simp) (fun F' hF => ?_) hk
          have := ORep.olist (w := w.alloc (.cells ((flat vs).toArray ++ #[]) e)) (F := F') (lo := w0.heap.size) (tt e).sz xs vs (List.replicate n []) w.heap.size n _ e (by omega) (by simp [hxl])
            (fun i d v q hd hv hq => by
              have : q = [] := by
                rw [List.getElem?_replicate] at hq
                split at hq
                · injection hq with hq; exact hq.symm
                · cases hq
              subst this
              exact .base _ _ (((hrep i d v hd hv).pure 5 (hpu d (List.mem_of_getElem? hd))).evo hF)) (heap_alloc_new w _) (by simp [hfl]) (by omega) hml hrow I.grown.size
          rw [hxl] at this
          exact this
        · refine .quiet I hgr hrun ?_ hk
          have := VRep.lit (w := w.alloc (.cells ((flat vs).toArray ++ #[]) e)) (F := FF own Fo) (h := h) (μ := μ) (G := G) (tt e).sz xs vs w.heap.size n (by omega) (by omega) (by omega)
            (fun i d v hd hv => (hrep i d v hd hv).evo hout.2) hrow (by simp) hnF
          rw [hxl] at this
          exact this
      · cases hE
    · cases hE
  · exact hk.elim

end
end Go.PS
end

section
-- Every operation of the machine against the clean one: structs, made lists, appending; all together.
set_option linter.unusedVariables false
set_option linter.unusedSimpArgs false
set_option linter.unusedSectionVars false
namespace Go.PS

section
variable {P : Program} {tt : Nat → Ty} {o : Oper} {ρ : Operand → Value} {w0 : World} {Fo : Nat → Prop} {B : Option Nat} {w : World} {h : List Ent} {μ : Nat → Value} {G : Nat} {own : List Nat} {K : D → List Ent → Nat → Prop} {t : List (Nat × D)}
variable (hρ : ∀ x, VRep w (FF own Fo) h μ G (ev t (co x)) (ρ x)) (I : HInv w0 Fo B w h μ G own) (hty : TyOk P tt)
include hρ I hty

omit I hty in
theorem fillP_run {fs : List (Nat × Nat)} : ∀ (ps : List (Nat × Operand)) (cs cs' : List D) (A : Array Value), A.size = cs.length → Ones A.toList → (∀ (i : Nat) (d : D) (v : Value), cs[i]? = some d → A.toList[i]? = some v → VRep w (FF own Fo) h μ G d v) →
    fillP tt fs t cs (ps.map fun p => (p.1, co p.2)) = some cs' →
    ∃ A' : Array Value, Instr.fill ((fs.map fun p => (p.1, (tt p.2).sz)).toArray[·]?) A (ps.map fun p => (p.1, ρ p.2)) = some A' ∧ A'.size = cs'.length ∧ Ones A'.toList ∧ ∀ (i : Nat) (d : D) (v : Value), cs'[i]? = some d → A'.toList[i]? = some v → VRep w (FF own Fo) h μ G d v
  | [], cs, cs', A, h1, h2, h3, hf => by
    simp only [List.map_nil, fillP, Option.some.injEq] at hf
    subst hf
    exact ⟨A, rfl, h1, h2, h3⟩
  | (i, x) :: ps, cs, cs', A, h1, h2, h3, hf => by
    simp only [List.map_cons, fillP] at hf
    split at hf
    · rename_i off T hi
      split at hf
      · rename_i hsz
        split at hf
        · rename_i hcell
          split at hf
          · rename_i hoff
            obtain ⟨c1, c2⟩ := (hρ x).cell hcell
            have hp : ((fs.map fun p => (p.1, (tt p.2).sz)).toArray[i]?) = some (off, 1) := by simp [hi, hsz]
            have hstep := fill_step (fun j => (fs.map fun p => (p.1, (tt p.2).sz)).toArray[j]?) A i off 1 (ρ x) (ps.map fun p => (p.1, ρ p.2)) hp (by rw [c2]; rfl) (by omega)
            have hset : (A.toList.take off ++ (ρ x).cells.toList ++ A.toList.drop (off + 1)).toArray = A.setIfInBounds off (ρ x) := by
              apply Array.ext'
              rw [c2, Array.toList_setIfInBounds, List.set_eq_take_append_cons_drop, if_pos (by rw [Array.length_toList]; omega)]
              simp
            rw [hset] at hstep
            rw [List.map_cons, hstep]
            refine fillP_run ps (cs.set off (ev t (co x))) cs' (A.setIfInBounds off (ρ x)) (by simp [h1]) (fun v hv => ?_) ?_ hf
            · rw [Array.toList_setIfInBounds] at hv
              rcases List.mem_or_eq_of_mem_set hv with hv | hv
              · exact h2 v hv
              · rw [hv]; exact c1
            · rw [Array.toList_setIfInBounds]
              exact set_rel (by rw [Array.length_toList]; exact h1) h3 (hρ x)
          · cases hf
        · cases hf
      · cases hf
    · cases hf

theorem sound_build {T : Nat} {ps : Array (Nat × Operand)} (hop : o.op = .build T ps) {a : AOper} (ha : a.o = .build T (ps.toList.map fun p => (p.1, co p.2))) {k : Nat} (hk : opK tt k a ⟨t, h, G⟩ K) : Res P o ρ w0 Fo B w h μ G own K := by
  simp only [opK, ha] at hk
  split at hk
  · rename_i fs zs hT hz
    obtain ⟨fields, hu, _, hpl⟩ := hty.struct T fs hT
    obtain ⟨i, hi, _, _, _, hzz⟩ := hty.info T (by rw [hT]; simp)
    obtain ⟨⟨zv, hzv, hrep⟩, _⟩ := hzz _ hz
    obtain ⟨vs, rfl, hl, h1, h2⟩ := VRep.asAgg (w := w) (F := FF own Fo) (h := h) (μ := μ) (G := G) (.imm _ _ (hrep w (FF own Fo)))
    split at hk
    · rename_i cs hcs
      obtain ⟨A', hA, hs, ho, hr⟩ := fillP_run hρ ps.toList zs cs vs.toArray (by simpa using hl) (by simpa using h1) (by simpa using h2) hcs
      refine .same I (v := .agg A'.toList.toArray) ?_ (.agg cs A'.toList (by simpa using hs) hr ho) hk
      have hb : P.built T (ps.map fun p => (p.1, ρ p.2)).toList = some A' := by
        have hA' : Instr.fill (fun x => (fs.map fun p => (p.1, (tt p.2).sz)).toArray[x]?) (Value.agg vs.toArray).cells (ps.map fun p => (p.1, ρ p.2)).toList = some A' := by simpa [Value.cells] using hA
        simp only [Program.built, hi, hu, hzv, hpl]
        exact hA'
      simp only [execOp, hop, Sem.run_bind]
      rw [run_build w T _ A' hb]
      simp
    · exact hk.elim
  · exact hk.elim

theorem sound_make {T : Nat} {l c : Operand} (hop : o.op = .makeSlice T l c) {a : AOper} (ha : a.o = .make T (co l) (co c)) {k : Nat} (hk : opK tt k a ⟨t, h, G⟩ K) : Res P o ρ w0 Fo B w h μ G own K := by
  have hl := hρ l
  have hc := hρ c
  simp only [opK, ha] at hk
  split at hk
  · rename_i E z kl n kc m hE hz el ec
    rw [el] at hl; rw [ec] at hc
    have hl := hl.asInt; have hc := hc.asInt
    obtain ⟨h0, rfl, hbig, hfit, hpu, hk⟩ := hk
    simp only [elemT] at hE
    split at hE
    · rename_i e hT
      split at hE
      · rename_i hkn
        injection hE with hE
        subst hE
        have hkn := known_of hkn
        have hz' : (tt e).zero = some z := by simpa [ezero, hT] using hz
        obtain ⟨i, hi, his, hib, hb64, hzz⟩ := hty.info e hkn
        obtain ⟨⟨zv, hzv, hrep⟩, _, _⟩ := hzz z hz'
        obtain ⟨f1, f2, _, _⟩ := VRep.fits (w := w) (F := FF own Fo) (h := h) (μ := μ) (G := G) (.imm _ _ (hrep w (FF own Fo))) hfit
        have hrun := run_make (P := P) w T e i zv (hty.slice T e hT) hi hzv kl kc n n h0 (Int.le_refl _) (by
          have h64 : i.bytes ≤ 64 := by omega
          have : (i.bytes : Int) * n ≤ 64 * 1099511627776 := Int.mul_le_mul (by omega) (by simpa [big] using hbig) h0 (by omega)
          omega) (by simp only [big] at hbig; omega)
        have hones : ∀ u ∈ flat (List.replicate n.toNat zv), u.oneCell' = true := by
          intro u hu
          obtain ⟨v, hv, hu2⟩ := mem_flat hu
          rw [(List.mem_replicate.1 hv).2] at hu2
          obtain ⟨j, hj⟩ := List.mem_iff_getElem?.1 hu2
          exact f2 j u (by simpa using hj)
        have hss : ∀ v ∈ List.replicate n.toNat zv, v.cells.size = (tt e).sz := fun v hv => by rw [(List.mem_replicate.1 hv).2]; exact f1
        have hcells : madeCells zv.cells (n.toNat * i.size) = (flat (List.replicate n.toNat zv)).toArray ++ #[] := by
          rw [his]
          apply Array.ext'
          apply List.ext_getElem?
          intro q
          simp only [Array.append_empty]
          by_cases hq : q < n.toNat * (tt e).sz
          · have hpos : 0 < (tt e).sz := by
              rcases Nat.eq_zero_or_pos (tt e).sz with h | h
              · rw [h, Nat.mul_zero] at hq; omega
              · exact h
            have e1 : q = (q / (tt e).sz) * (tt e).sz + q % (tt e).sz := by rw [Nat.mul_comm]; exact (Nat.div_add_mod q _).symm
            have hm := Nat.mod_lt q hpos
            have hd : q / (tt e).sz < n.toNat := Nat.div_lt_of_lt_mul (by rw [Nat.mul_comm]; exact hq)
            have hg := flat_get (sz := (tt e).sz) (List.replicate n.toNat zv) hss (q / (tt e).sz) (q % (tt e).sz) zv (zv.cells[q % (tt e).sz]'(by omega)) (by simp [hd]) (Array.getElem?_eq_getElem _)
            rw [← e1] at hg
            show (madeCells zv.cells (n.toNat * (tt e).sz)).toList[q]? = (flat (List.replicate n.toNat zv))[q]?
            rw [hg]
            simp [madeCells, hq, f1, hm]
          · show (madeCells zv.cells (n.toNat * (tt e).sz)).toList[q]? = (flat (List.replicate n.toNat zv))[q]?
            rw [List.getElem?_eq_none (by simp [madeCells]; omega), List.getElem?_eq_none (by rw [flat_length _ hss]; simp; omega)]
        rw [hcells] at hrun
        have hgr := grown_alloc w (.cells ((flat (List.replicate n.toNat zv)).toArray ++ #[]) e)
        have hrow := row_alloc (w := w) (E := e) hss hones #[]
        refine .addArr I hgr k (v := .slice (some ⟨w.heap.size, 0, none⟩) n.toNat n.toNat) ⟨_, _, _, rfl⟩ (by simp [execOp, hop, hl, hc]; rw [hrun]; rfl) (o1 := w.heap.size :: (List.replicate n.toNat ([] : List Nat)).flatten) (by simp) (by simp) (fun F' hF => ?_) hk
        have := ORep.olist (w := w.alloc (.cells ((flat (List.replicate n.toNat zv)).toArray ++ #[]) e)) (F := F') (lo := w0.heap.size) (tt e).sz (List.replicate n.toNat z) (List.replicate n.toNat zv) (List.replicate n.toNat []) w.heap.size n.toNat _ e (by simp) (by simp)
          (fun i d v q hd hv hq => by
            rw [List.getElem?_replicate] at hd hv hq
            split at hd
            · rename_i hlt
              rw [if_pos hlt] at hv hq
              injection hd with hd; injection hv with hv; injection hq with hq
              subst hd; subst hv; subst hq
              exact .base _ _ (hrep _ _)
            · cases hd) (heap_alloc_new w _) (by simp [flat_length _ hss]) (by simp) (by simp only [maxLen]; simp only [big] at hbig; omega) hrow I.grown.size
        rw [List.length_replicate] at this
        exact this
      · cases hE
    · cases hE
  · exact hk.elim

omit hρ I hty in
theorem hdels_find : ∀ (ks : List Nat) (l : List Ent), (l.map Ent.k).Nodup → ∀ j γ, find (hdels l ks) j γ ≠ none → find l j γ = find (hdels l ks) j γ
  | [], l, _, j, γ, hf => rfl
  | k :: ks, l, hn, j, γ, hf => by
    have h1 := hdels_find ks (hdel l k) (nodup_hdel l hn) j γ hf
    have h2 := find_hdel_eq l hn (h1 ▸ hf)
    exact h2.trans h1

/-- 'append', what is appended being there with what it owns. -/
theorem sound_appK {T e : Nat} {x y : Operand} (hT : (tt T).kd = .slice e) (hkn : (tt e).kd ≠ .other) (hz : (tt e).zero.isSome = true)
    (hop : o.op = .call ⟨.builtin .append, #[x, y], #[T, T]⟩) {k : Nat} {es : List D} {ks : List Nat} {vs2 : List Value} {os2 : List (List Nat)} {rest : List Nat}
    (hsrc : Src P w (tt e).sz (ρ y) es.length vs2) (hl2 : os2.length = es.length) (he : OReps w (FF own Fo) w0.heap.size es vs2 os2)
    (hrest : HOk w (FF own Fo) h μ G w0.heap.size B (hdels h ks) rest) (hnd : (os2.flatten ++ rest).Nodup) (hmem : ∀ c ∈ os2.flatten ++ rest, c ∈ own)
    (hk : opK.appK k (tt e).sz ⟨t, h, G⟩ (ev t (co x)) es ks K) : Res P o ρ w0 Fo B w h μ G own K := by
  have hx := hρ x
  obtain ⟨z, hz⟩ := Option.isSome_iff_exists.1 hz
  obtain ⟨i, hi, his, hib, hb64, hzz⟩ := hty.info e hkn
  obtain ⟨⟨zv, hzv, hrep⟩, hfit, _⟩ := hzz z hz
  obtain ⟨f1, f2, _, _⟩ := VRep.fits (w := w) (F := FF own Fo) (h := h) (μ := μ) (G := G) (.imm _ _ (hrep w (FF own Fo))) hfit
  have hlo := I.grown.size
  have hrun0 : ∀ sv, ρ x = sv → (execOp ρ o).run P w = ((Builtin.append_ #[T, T] o.type #[sv, ρ y]).run P w).andThen fun v w' => .ok (.value v) w' := by
    intro sv hsv
    simp [execOp, hop, resolve, invoke, builtin, hsv]
  have hkA := nodup_hdels ks h I.keys
  have hlt : ∀ c ∈ own, c < w.heap.size := fun c hc => (I.hok.lt _ _ c hc).2
  simp only [opK.appK] at hk
  split at hk
  · rename_i hev
    obtain ⟨hbig, hk⟩ := hk
    rw [hev] at hx
    obtain ⟨rest2, hr2, hnr2, hmr2⟩ := HOk.del k _ _ hrest (List.nodup_append.1 hnd).2.1
    obtain ⟨v', w', o', hr, hT', hno, hmo, hsl, hF⟩ := app_own (P := P) (w := w) (F := FF own Fo) (lo := w0.heap.size) T o.type e i zv (hty.slice T e hT) hi hzv (by rw [f1, his]) (by omega) [] (.slice none 0 0) [] (.olistE _)
      (ρ y) es vs2 os2 hl2 (by rw [his]; exact hsrc) he (by simpa using (List.nodup_append.1 hnd).1) (by simpa using hbig) hlo
    have hgr : w.grownBy w' none := ⟨hT'.os, hT'.tape, hT'.output, hT'.size, fun c hc _ => hT'.block c hc (by simp)⟩
    have hndo : (o' ++ rest2).Nodup := by
      rw [List.nodup_append]
      refine ⟨hno, hnr2, fun a ha b hb => ?_⟩
      intro hab; subst hab
      rcases hmo a ha with h1 | h1 | h1
      · cases h1
      · exact (List.nodup_append.1 hnd).2.2 a h1 a (hmr2 a hb) rfl
      · have := hlt a (hmem a (by simp [hmr2 a hb])); omega
    have out := I.adds (hA := hdel (hdels h ks) k) (rest := rest2) hr2 (fun c hc => hmem c (by simp [hmr2 c hc])) (fun j γ hf => by
        have h1 := find_hdel_eq _ hkA hf
        exact (hdels_find ks h I.keys j γ (h1 ▸ hf)).trans h1) (w' := w')
      (grownBy.trans I.grown (grownBy.weak hgr)) hgr.size (fun c hc _ => hgr.block c hc (by simp)) (fun c hc => hgr.block c (hlt c (hmem c (by simp [hmr2 c hc]))) (by simp)) [⟨k, G, .arr (tt e).sz es⟩] o'
      (by simpa using ⟨by simpa using not_mem_hdel _ hkA, nodup_hdel _ hkA⟩) hndo (fun c hc => by
        rcases hmo c hc with h1 | h1 | h1
        · cases h1
        · exact .inl (hmem c (by simp [h1]))
        · exact .inr h1) (upd μ G v') (G + 1) (Nat.le_succ _) (fun x hx => upd_lt _ hx) (by simp)
      (fun ev => ⟨o', [], by simp, ⟨Nat.lt_succ_self _, by simp only [upd_self]; have := hF _ ev.mm; rw [his] at this; simpa using this⟩, rfl⟩)
    obtain ⟨a, n, c, rfl⟩ := hsl
    refine ⟨_, .slice a n c, w', _, _, _, _, _, ?_, .inl rfl, hk, out, .arr k G a n c (Nat.lt_succ_self _) (fun _ => by simp [upd_self])⟩
    rw [hrun0 _ hx.asNil, hr]
    rfl
  · rename_i j g hev
    rw [hev] at hx
    split at hk
    · rename_i s' xs hf
      obtain ⟨rfl, hjk, hbig, hk⟩ := hk
      obtain ⟨_, hg, hm⟩ := hx.asArr
      have hm := hm (by rw [hf]; simp)
      have hfA : find (hdels h ks) j g = some (.arr (tt e).sz xs) := by rw [find_hdels_ne ks h hjk]; exact hf
      obtain ⟨o1, rest1, hent, hr1, hnd1, hmem1⟩ := HOk.take _ _ hrest hfA (List.nodup_append.1 hnd).2.1
      have hndd : (o1 ++ os2.flatten).Nodup := by
        rw [List.nodup_append]
        exact ⟨(List.nodup_append.1 hnd1).1, (List.nodup_append.1 hnd).1, fun a ha b hb hab => (List.nodup_append.1 hnd).2.2 b hb a ((hmem1 a).2 (by simp [ha])) hab.symm⟩
      obtain ⟨v', w', o', hr, hT', hno, hmo, hsl, hF⟩ := app_own (P := P) (w := w) (F := FF own Fo) (lo := w0.heap.size) T o.type e i zv (hty.slice T e hT) hi hzv (by rw [f1, his]) (by omega) xs (μ g) o1 (by rw [his]; exact hent.arrOf)
        (ρ y) es vs2 os2 hl2 (by rw [his]; exact hsrc) he hndd hbig hlo
      have hin1 : ∀ c ∈ o1, c ∈ own := fun c hc => hmem c (List.mem_append_right _ ((hmem1 c).2 (by simp [hc])))
      have hin2 : ∀ c ∈ rest1, c ∈ own := fun c hc => hmem c (List.mem_append_right _ ((hmem1 c).2 (by simp [hc])))
      have hndo : (o' ++ rest1).Nodup := by
        rw [List.nodup_append]
        refine ⟨hno, (List.nodup_append.1 hnd1).2.1, fun a ha b hb => ?_⟩
        intro hab; subst hab
        rcases hmo a ha with h1 | h1 | h1
        · exact (List.nodup_append.1 hnd1).2.2 a h1 a hb rfl
        · exact (List.nodup_append.1 hnd).2.2 a h1 a ((hmem1 a).2 (by simp [hb])) rfl
        · have := hlt a (hin2 a hb); omega
      obtain ⟨o'', hm'', out⟩ := I.replace (hA := hdels h ks) hkA (hdels_find ks h I.keys) hfA hr1 hin2 (hT'.grown I.grown (fun c hc => (I.hok.lt _ _ c (hin1 c hc)).1.imp id id)) hT'.size
        (fun c hc hn => hT'.block c hc (fun h1 => hn (hin1 c h1))) (fun c hc => hT'.block c (hlt c (hin2 c hc)) (fun h1 => (List.nodup_append.1 hnd1).2.2 c h1 c hc rfl))
        (.arr (tt e).sz (xs ++ es)) o' hndo (fun c hc => by
          rcases hmo c hc with h1 | h1 | h1
          · exact .inl (hin1 c h1)
          · exact .inl (hmem c (by simp [h1]))
          · exact .inr h1) G (G + 1) (upd μ G v') (.inr ⟨v', rfl, rfl, rfl⟩)
        (fun o'' hm'' ev => ⟨Nat.lt_succ_self _, by simp only [upd_self]; have := hF _ ev.mm; rw [his] at this; exact this⟩)
      obtain ⟨a, n, c, rfl⟩ := hsl
      refine ⟨_, .slice a n c, w', _, _, _, _, _, ?_, .inl rfl, hk, out, .arr j G a n c (Nat.lt_succ_self _) (fun _ => by simp [upd_self])⟩
      rw [hrun0 _ hm, hr]
      rfl
    · exact hk.elim
  · exact hk.elim

end
end Go.PS
end

section
-- Every operation of the machine but a call against the clean one.
set_option linter.unusedVariables false
set_option linter.unusedSimpArgs false
set_option linter.unusedSectionVars false
namespace Go.PS

section
variable {P : Program} {tt : Nat → Ty} {o : Oper} {ρ : Operand → Value} {w0 : World} {Fo : Nat → Prop} {B : Option Nat} {w : World} {h : List Ent} {μ : Nat → Value} {G : Nat} {own : List Nat} {K : D → List Ent → Nat → Prop} {t : List (Nat × D)}
variable (hρ : ∀ x, VRep w (FF own Fo) h μ G (ev t (co x)) (ρ x)) (I : HInv w0 Fo B w h μ G own) (hty : TyOk P tt)
include hρ I hty

omit hρ I hty in
theorem oreps_base {w : World} {F : Nat → Prop} {lo : Nat} {xs : List D} {vs : List Value} (hr : ∀ (i : Nat) (d : D) (v : Value), xs[i]? = some d → vs[i]? = some v → Rep w F d v) :
    OReps w F lo xs vs (List.replicate xs.length []) := by
  intro i d v q hd hv hq
  rw [List.getElem?_replicate] at hq
  split at hq
  · injection hq with hq; subst hq; exact .base _ _ (hr i d v hd hv)
  · cases hq

omit hρ I hty in
theorem flatten_nils (n : Nat) : (List.replicate n ([] : List Nat)).flatten = [] := by simp

/-- The list that an operation gives is never written again. -/
theorem Res.frz {fl : Nat} (r : Res P o ρ w0 Fo B w h μ G own (frz fl K)) : Res P o ρ w0 Fo B w h μ G own K := by
  obtain ⟨n, v, w', d, h', μ', G', o', hr, hn, hk, out, hv⟩ := r
  unfold PS.frz at hk
  split at hk
  · split at hk
    · rename_i j γ
      split at hk
      · rename_i sz xs hf
        obtain ⟨_, _, hm⟩ := hv.asArr
        have hm := hm (by rw [hf]; simp)
        obtain ⟨o1, rest, he, hr', hnd, hmem, out2⟩ := out.1.takeOut hf
        refine ⟨n, v, w', _, _, _, _, rest, hr, hn, hk, out.trans out2, .imm _ _ ?_⟩
        rw [hm]
        have hok := ORep.imm he.arrOf (F' := FF rest Fo) (fun b hb _ => hb.imp (fun hb => hmem b (by simp [hb])) id) (fun b hb hF => by
          rcases hF with hF | hF
          · exact (List.nodup_append.1 hnd).2.2 b hb b hF rfl
          · have := out.1.out b hF
            have h2 := he.arrOf.lt b hb
            omega) 6
        simpa [PS.imm] using hok
      · exact hk.elim
    · exact hk.elim
  · exact ⟨n, v, w', d, h', μ', G', o', hr, hn, hk, out, hv⟩

theorem sound_app0 {T S : Nat} {x y : Operand} (hop : o.op = .call ⟨.builtin .append, #[x, y], #[T, S]⟩) {a : AOper} (ha : a.o = .app T S (co x) (co y)) {k : Nat} (hk : opK tt k a ⟨t, h, G⟩ K) : Res P o ρ w0 Fo B w h μ G own (frz a.fl K) := by
  have hy := hρ y
  simp only [opK, ha] at hk
  split at hk
  · exact hk.elim
  · rename_i sz hsz
    obtain ⟨rfl, hz, hk⟩ := hk
    simp only [esz] at hsz
    split at hsz
    · rename_i e hT
      split at hsz
      · rename_i hkn
        injection hsz with hsz
        subst hsz
        have hkn := known_of hkn
        have hz : (tt e).zero.isSome = true := by simpa [ezero, hT] using hz
        have plain : ∀ (es : List D) (vs2 : List Value), Src P w (tt e).sz (ρ y) es.length vs2 → (∀ (i : Nat) (d : D) (v : Value), es[i]? = some d → vs2[i]? = some v → Rep w (FF own Fo) d v) →
            opK.appK k (tt e).sz ⟨t, h, G⟩ (ev t (co x)) es [] (frz a.fl K) → Res P o ρ w0 Fo B w h μ G own (frz a.fl K) := fun es vs2 hs hr hk =>
          sound_appK hρ I hty hT hkn hz hop (es := es) (ks := []) (vs2 := vs2) (os2 := List.replicate es.length []) (rest := own) hs (by simp) (oreps_base hr) I.hok (by simpa using I.nodup) (by simp) hk
        split at hk
        · rename_i hev
          rw [hev] at hy
          refine plain [] [] ?_ (by simp) hk
          rw [hy.asNil]
          exact Src.empty none 0
        · rename_i s ys hev
          rw [hev] at hy
          obtain ⟨rfl, hk⟩ := hk
          cases hy with
          | imm _ _ r => cases hyr : ρ y with
            | slice aa ln cp =>
              rw [hyr] at r
              cases r with
              | listE _ a c => exact plain [] [] (by rw [hyr]; exact Src.empty aa cp) (by simp) hk
              | list _ _ vs b q cap g1 g2 g3 g4 g5 g6 g7 =>
                refine plain ys vs ?_ g4 hk
                rw [hyr]
                have := Src.of_row (P := P) (cap := cp) g5
                rwa [g1] at this
            | _ => rw [hyr] at r; cases r
        · rename_i s ys hev
          rw [hev] at hy
          obtain ⟨rfl, hks, hk⟩ := hk
          cases hyr : ρ y with
          | slice aa ln cp =>
            rw [hyr] at hy
            cases hy with
            | imm _ _ r => cases r
            | lit _ _ vs b cap g1 g2 g3 g4 g5 g6 g7 =>
              obtain ⟨os, rest, hl, hr, hrest, hnd, hmem⟩ := ownL_at (n := 5) ys vs g1 (fun i d v hd hv => own_at 5 d v (g4 i d v hd hv)) h own I.hok I.nodup (fun _ _ _ => rfl) hks
              refine sound_appK hρ I hty hT hkn hz hop (vs2 := vs) (os2 := os) (rest := rest) ?_ (by simpa using hl) hr hrest hnd hmem hk
              rw [hyr, List.length_map]
              have := Src.of_row (P := P) (cap := cp) g5
              rwa [g1] at this
          | _ => rw [hyr] at hy; cases hy with | imm _ _ r => cases r
        · rename_i j g hev
          rw [hev] at hy
          split at hk
          · rename_i s ys hf
            obtain ⟨rfl, hsc, _, hk⟩ := hk
            obtain ⟨_, hg, hm⟩ := hy.asArr
            have hm := hm (by rw [hf]; simp)
            obtain ⟨o1, he, _⟩ := I.hok.has h own hf
            rcases he.arrOf.olist_inv with ⟨h1, h2, _⟩ | ⟨vs, os, b', cap, cur, E, hm', _, g1, g2, g3, g4, g5, g6, g7, g8, g9⟩
            · subst h2
              refine plain [] [] ?_ (by simp) hk
              rw [hm, h1]
              exact Src.empty none 0
            · refine plain ys vs ?_ (fun i d v hd hv => ?_) hk
              · rw [hm, hm']
                have := Src.of_row (P := P) (cap := cap) g8
                rwa [g1] at this
              · have hi : i < ys.length := (List.getElem?_eq_some_iff.1 hd).1
                have := g3 i d v _ hd hv (List.getElem?_eq_getElem (by omega))
                have hs := hsc d (List.mem_of_getElem? hd)
                revert this
                generalize os[i]'(by omega) = q
                intro this
                cases this with
                | base _ _ hr => exact hr
                | _ => simp [scal] at hs
          · exact hk.elim
        · exact hk.elim
      · cases hsz
    · cases hsz

theorem sound_app {T S : Nat} {x y : Operand} (hop : o.op = .call ⟨.builtin .append, #[x, y], #[T, S]⟩) {a : AOper} (ha : a.o = .app T S (co x) (co y)) {k : Nat} (hk : opK tt k a ⟨t, h, G⟩ K) : Res P o ρ w0 Fo B w h μ G own K :=
  Res.frz hρ I hty (sound_app0 hρ I hty hop ha hk)

/-- All operations but calls. -/
theorem op_sound {a : AOper} (hc : cop o.op = some a.o) (hcall : ∀ f args, a.o ≠ .call f args) (hT : o.type = a.T) {k : Nat} (hk : opK tt k a ⟨t, h, G⟩ K) : Res P o ρ w0 Fo B w h μ G own K := by
  cases hop : o.op with
  | move x => rw [hop] at hc; simp only [cop, Option.some.injEq] at hc; exact sound_mv hρ I (.inl hop) hc.symm hT hk
  | assign x => rw [hop] at hc; simp only [cop, Option.some.injEq] at hc; exact sound_mv hρ I (.inr hop) hc.symm hT hk
  | pick c x y => rw [hop] at hc; simp only [cop, Option.some.injEq] at hc; exact sound_pick hρ I hop hc.symm hk
  | alloc T => rw [hop] at hc; simp only [cop, Option.some.injEq] at hc; exact sound_alloc hρ I hty hop hc.symm hk
  | box T x => rw [hop] at hc; simp only [cop, Option.some.injEq] at hc; exact sound_box hρ I hty hop hc.symm hk
  | build T ps => rw [hop] at hc; simp only [cop, Option.some.injEq] at hc; exact sound_build hρ I hty hop hc.symm hk
  | buildSlice T n ps => rw [hop] at hc; simp only [cop, Option.some.injEq] at hc; exact sound_bslice hρ I hty hop hc.symm hk
  | load T x => rw [hop] at hc; simp only [cop, Option.some.injEq] at hc; exact sound_load hρ I hty hop hc.symm hk
  | store T x v => rw [hop] at hc; simp only [cop, Option.some.injEq] at hc; exact sound_store hρ I hty hop hc.symm hk
  | nilCheck x => rw [hop] at hc; simp only [cop, Option.some.injEq] at hc; exact sound_nilck hρ I hty hop hc.symm hk
  | binOp op T x y T' => rw [hop] at hc; simp only [cop, Option.some.injEq] at hc; exact sound_bin hρ I hty hop hc.symm hk
  | unOp op T x => rw [hop] at hc; simp only [cop, Option.some.injEq] at hc; exact sound_un hρ I hty hop hc.symm hk
  | convert S T x => rw [hop] at hc; simp only [cop, Option.some.injEq] at hc; exact sound_conv hρ I hty hop hc.symm hk
  | makeFunc fn first caps =>
    rw [hop] at hc
    cases fn with
    | func f =>
      simp only [cop] at hc
      split at hc
      · rename_i h0
        simp only [Option.some.injEq] at hc
        exact sound_mkfn hρ I hty hop h0 hc.symm hk
      · cases hc
    | _ => simp [cop] at hc
  | makeSlice T l c => rw [hop] at hc; simp only [cop, Option.some.injEq] at hc; exact sound_make hρ I hty hop hc.symm hk
  | slice T x lo hi mx =>
    rw [hop] at hc
    cases mx with
    | none => simp only [cop, Option.some.injEq] at hc; exact sound_slice hρ I hty hop hc.symm hk
    | some m => simp [cop] at hc
  | fieldAddr T x i => rw [hop] at hc; simp only [cop, Option.some.injEq] at hc; exact sound_faddr hρ I hty hop hc.symm hk
  | field T x i => rw [hop] at hc; simp only [cop, Option.some.injEq] at hc; exact sound_field hρ I hty hop hc.symm hk
  | indexAddr T x i => rw [hop] at hc; simp only [cop, Option.some.injEq] at hc; exact sound_iaddr hρ I hty hop hc.symm hk
  | index T x i => rw [hop] at hc; simp only [cop, Option.some.injEq] at hc; exact sound_index hρ I hty hop hc.symm hk
  | extract x i => rw [hop] at hc; simp only [cop, Option.some.injEq] at hc; exact sound_ext hρ I hty hop hc.symm hk
  | call c =>
    rw [hop] at hc
    simp only [cop] at hc
    obtain ⟨ca, ar, ty⟩ := c
    simp only [] at hc
    obtain ⟨ar⟩ := ar
    obtain ⟨ty⟩ := ty
    simp only [] at hc
    cases ca with
    | value f => simp only [ccall, Option.some.injEq] at hc; exact absurd hc.symm (hcall _ _)
    | invoke r m => simp [ccall] at hc
    | builtin b =>
      unfold ccall at hc
      split at hc
      · rename_i x T e
        simp only [Callee.builtin.injEq] at e
        subst e
        simp only [Option.some.injEq] at hc
        exact sound_len hρ I hty hop hc.symm hk
      · rename_i x y T S e
        simp only [Callee.builtin.injEq] at e
        subst e
        simp only [Option.some.injEq] at hc
        exact sound_app hρ I hty hop hc.symm hk
      · rename_i x y e
        simp only [Callee.builtin.injEq] at e
        subst e
        simp only [Option.some.injEq] at hc
        exact sound_max hρ I hty hop hc.symm hk
      · rename_i x y e
        simp only [Callee.builtin.injEq] at e
        subst e
        simp only [Option.some.injEq] at hc
        exact sound_min hρ I hty hop hc.symm hk
      · rename_i e; cases e
      · cases hc
  | _ => rw [hop] at hc; simp [cop] at hc

end
end Go.PS
end

section
-- Calls.
set_option linter.unusedVariables false
set_option linter.unusedSimpArgs false
set_option linter.unusedSectionVars false
namespace Go.PS

theorem ORep.anyF {w : World} {F : Nat → Prop} {lo : Nat} {d : D} {v : Value} {o : List Nat} (r : ORep w F lo d v o) : OwnedD d → ∀ F' : Nat → Prop, ORep w F' lo d v o := by
  induction r with
  | base d v hr =>
    intro ho F'
    cases ho with
    | bool b => cases hr; exact .base _ _ (.bool b)
    | int k n => cases hr; exact .base _ _ (.int k n)
    | str s => cases hr; exact .base _ _ (.str s)
    | olist sz xs _ => cases hr
    | agg xs hx =>
      cases hr with
      | agg _ vs h1 h2 h3 =>
        have key : ∀ (i : Nat) (d : D) (v : Value), xs[i]? = some d → vs[i]? = some v → Rep w F' d v := by
          intro i d v hd hv
          have hod := hx d (List.mem_of_getElem? hd)
          have hr := h2 i d v hd hv
          clear h2 h1 h3 hd hv
          revert v
          induction hod with
          | bool b => intro v hr; cases hr; exact .bool b
          | int k n => intro v hr; cases hr; exact .int k n
          | str s => intro v hr; cases hr; exact .str s
          | olist sz xs _ _ => intro v hr; cases hr
          | agg ys _ ih =>
            intro v hr
            cases hr with
            | agg _ us g1 g2 g3 => exact .agg ys us g1 (fun j e u he hu => ih e (List.mem_of_getElem? he) u (g2 j e u he hu)) g3
          | tup ys _ ih =>
            intro v hr
            cases hr with
            | tup _ us g1 g2 => exact .tup ys us g1 (fun j e u he hu => ih e (List.mem_of_getElem? he) u (g2 j e u he hu))
        exact .base _ _ (.agg xs vs h1 key h3)
    | tup xs hx =>
      cases hr with
      | tup _ vs h1 h2 =>
        have key : ∀ (i : Nat) (d : D) (v : Value), xs[i]? = some d → vs[i]? = some v → Rep w F' d v := by
          intro i d v hd hv
          have hod := hx d (List.mem_of_getElem? hd)
          have hr := h2 i d v hd hv
          clear h2 h1 hd hv
          revert v
          induction hod with
          | bool b => intro v hr; cases hr; exact .bool b
          | int k n => intro v hr; cases hr; exact .int k n
          | str s => intro v hr; cases hr; exact .str s
          | olist sz xs _ _ => intro v hr; cases hr
          | agg ys _ ih =>
            intro v hr
            cases hr with
            | agg _ us g1 g2 g3 => exact .agg ys us g1 (fun j e u he hu => ih e (List.mem_of_getElem? he) u (g2 j e u he hu)) g3
          | tup ys _ ih =>
            intro v hr
            cases hr with
            | tup _ us g1 g2 => exact .tup ys us g1 (fun j e u he hu => ih e (List.mem_of_getElem? he) u (g2 j e u he hu))
        exact .base _ _ (.tup xs vs h1 key)
  | olistE sz => intro _ F'; exact .olistE sz
  | olist sz xs vs os b cap cur E h1 h2 _ h4 h5 h6 h7 h8 h9 ih =>
    intro ho F'
    cases ho with
    | olist _ _ hx => exact .olist sz xs vs os b cap cur E h1 h2 (fun i d v o hd hv hq => ih i d v o hd hv hq (hx d (List.mem_of_getElem? hd)) F') h4 h5 h6 h7 h8 h9
  | agg xs vs os h1 h2 _ h4 ih =>
    intro ho F'
    cases ho with
    | agg _ hx => exact .agg xs vs os h1 h2 (fun i d v o hd hv hq => ih i d v o hd hv hq (hx d (List.mem_of_getElem? hd)) F') h4
  | tup xs vs os h1 h2 _ ih =>
    intro ho F'
    cases ho with
    | tup _ hx => exact .tup xs vs os h1 h2 (fun i d v o hd hv hq => ih i d v o hd hv hq (hx d (List.mem_of_getElem? hd)) F')

/-- The pieces of a value that owns, element by element. -/
theorem ORep.parts {w : World} {F : Nat → Prop} {lo : Nat} {xs : List D} {v : Value} {o : List Nat} (r : ORep w F lo (.agg xs) v o) :
    ∃ (vs : List Value) (os : List (List Nat)), v = .agg vs.toArray ∧ o = os.flatten ∧ vs.length = xs.length ∧ os.length = xs.length ∧ OReps w F lo xs vs os ∧ Ones vs := by
  cases r with
  | base _ _ hr => cases hr with
    | agg _ vs h1 h2 h3 => exact ⟨vs, List.replicate xs.length [], rfl, by simp, h1, by simp, oreps_base h2, h3⟩
  | agg _ vs os h1 h2 h3 h4 => exact ⟨vs, os, rfl, rfl, h1, h2, h3, h4⟩

theorem ORep.partsT {w : World} {F : Nat → Prop} {lo : Nat} {xs : List D} {v : Value} {o : List Nat} (r : ORep w F lo (.tup xs) v o) :
    ∃ (vs : List Value) (os : List (List Nat)), v = .tuple vs.toArray ∧ o = os.flatten ∧ vs.length = xs.length ∧ os.length = xs.length ∧ OReps w F lo xs vs os := by
  cases r with
  | base _ _ hr => cases hr with
    | tup _ vs h1 h2 => exact ⟨vs, List.replicate xs.length [], rfl, by simp, h1, by simp, oreps_base h2⟩
  | tup _ vs os h1 h2 h3 => exact ⟨vs, os, rfl, rfl, h1, h2, h3⟩

/-- What 'thaw' promises. -/
def ThawOk (w : World) (lo k g : Nat) (q : D × List Ent × Nat × Nat) (v : Value) (o : List Nat) : Prop :=
  ∃ (val : Nat → Value) (o1 : List Nat), o1.Nodup ∧ (∀ c ∈ o1, c ∈ o) ∧ g ≤ q.2.2.2 ∧ k ≤ q.2.2.1 ∧ (∀ e ∈ q.2.1, k ≤ e.k ∧ e.k < q.2.2.1 ∧ g ≤ e.g ∧ e.g < q.2.2.2) ∧ (q.2.1.map Ent.k).Nodup ∧
    ∀ (F' : Nat → Prop) (h' : List Ent) (μ' : Nat → Value) (G' : Nat) (B : Option Nat), (∀ x, g ≤ x → x < q.2.2.2 → μ' x = val x) → q.2.2.2 ≤ G' → HOk w F' h' μ' G' lo B q.2.1 o1 ∧ VRep w F' h' μ' G' q.1 v

def ThawOkL (w : World) (lo k g : Nat) (q : List D × List Ent × Nat × Nat) (vs : List Value) (o : List Nat) : Prop :=
  ∃ (val : Nat → Value) (o1 : List Nat), o1.Nodup ∧ (∀ c ∈ o1, c ∈ o) ∧ g ≤ q.2.2.2 ∧ k ≤ q.2.2.1 ∧ (∀ e ∈ q.2.1, k ≤ e.k ∧ e.k < q.2.2.1 ∧ g ≤ e.g ∧ e.g < q.2.2.2) ∧ (q.2.1.map Ent.k).Nodup ∧ q.1.length = vs.length ∧
    ∀ (F' : Nat → Prop) (h' : List Ent) (μ' : Nat → Value) (G' : Nat) (B : Option Nat), (∀ x, g ≤ x → x < q.2.2.2 → μ' x = val x) → q.2.2.2 ≤ G' → HOk w F' h' μ' G' lo B q.2.1 o1 ∧ ∀ (i : Nat) (d : D) (v : Value), q.1[i]? = some d → vs[i]? = some v → VRep w F' h' μ' G' d v

theorem thaw_go {w : World} {F : Nat → Prop} {lo n : Nat} (ih : ∀ (k g : Nat) (r : D) (v : Value) (o : List Nat), OwnedD r → ORep w F lo r v o → o.Nodup → ThawOk w lo k g (thaw n k g r) v o) :
    ∀ (xs : List D) (vs : List Value) (os : List (List Nat)) (k g : Nat), vs.length = xs.length → os.length = xs.length → (∀ x ∈ xs, OwnedD x) → OReps w F lo xs vs os → os.flatten.Nodup → ThawOkL w lo k g (thaw.go n k g xs) vs os.flatten
  | [], [], [], k, g, _, _, _, _, _ => ⟨fun _ => undef, [], by simp, by simp, by simp [thaw.go], by simp [thaw.go], by simp [thaw.go], by simp [thaw.go], by simp [thaw.go], fun F' h' μ' G' B _ _ => ⟨rfl, by simp [thaw.go]⟩⟩
  | [], _ :: _, _, k, g, h, _, _, _, _ => by simp at h
  | [], [], _ :: _, k, g, _, h, _, _, _ => by simp at h
  | x :: xs, [], _, k, g, h, _, _, _, _ => by simp at h
  | x :: xs, _ :: _, [], k, g, _, h, _, _, _ => by simp at h
  | x :: xs, v :: vs, o :: os, k, g, hl, hl2, ho, hr, hnd => by
    rw [List.flatten_cons, List.nodup_append] at hnd
    obtain ⟨val1, p1, a1, a2, a3, a4, a5, a6, a7⟩ := ih k g x v o (ho x (by simp)) (hr 0 x v o rfl rfl rfl) hnd.1
    obtain ⟨val2, p2, b1, b2, b3, b4, b5, b6, bl, b7⟩ := thaw_go ih xs vs os (thaw n k g x).2.2.1 (thaw n k g x).2.2.2 (by simpa using hl) (by simpa using hl2) (fun y hy => ho y (by simp [hy]))
      (fun i d u q hd hu hq => hr (i + 1) d u q (by simpa using hd) (by simpa using hu) (by simpa using hq)) hnd.2.1
    simp only [thaw.go]
    refine ⟨fun y => if y < (thaw n k g x).2.2.2 then val1 y else val2 y, p1 ++ p2, ?_, ?_, by simp only; omega, by simp only; omega, ?_, ?_, by simp [bl], ?_⟩
    · rw [List.nodup_append]
      exact ⟨a1, b1, fun a ha b hb => hnd.2.2 a (a2 a ha) b (b2 b hb)⟩
    · intro c hc
      rw [List.flatten_cons]
      exact (List.mem_append.1 hc).elim (fun hc => by simp [a2 c hc]) (fun hc => List.mem_append_right _ (b2 c hc))
    · intro e he
      simp only at he ⊢
      rcases List.mem_append.1 he with he | he
      · have := a5 e he; omega
      · have := b5 e he; omega
    · simp only [List.map_append]
      rw [List.nodup_append]
      refine ⟨a6, b6, fun a ha b hb => ?_⟩
      obtain ⟨e, he, rfl⟩ := List.mem_map.1 ha
      obtain ⟨e', he', rfl⟩ := List.mem_map.1 hb
      have := a5 e he; have := b5 e' he'; omega
    · intro F' h' μ' G' B hμ hG
      simp only at hμ hG ⊢
      obtain ⟨c1, c2⟩ := a7 F' h' μ' G' B (fun y hy hy2 => by rw [hμ y hy (by omega), if_pos hy2]) (by omega)
      obtain ⟨d1, d2⟩ := b7 F' h' μ' G' B (fun y hy hy2 => by rw [hμ y (by omega) hy2, if_neg (by omega)]) hG
      refine ⟨HOk.append _ _ _ _ c1 d1, fun i d u hd hu => ?_⟩
      cases i with
      | zero =>
        obtain rfl : (thaw n k g x).1 = d := by simpa using hd
        obtain rfl : v = u := by simpa using hu
        exact c2
      | succ i => exact d2 i d u (by simpa using hd) (by simpa using hu)

theorem thaw_ok {w : World} {F : Nat → Prop} {lo : Nat} : ∀ (n k g : Nat) (r : D) (v : Value) (o : List Nat), OwnedD r → ORep w F lo r v o → o.Nodup → ThawOk w lo k g (thaw n k g r) v o := by
  intro n
  induction n with
  | zero =>
    intro k g r v o ho hr hnd
    have none : ∀ d : D, (∀ (F' : Nat → Prop) (h' : List Ent) (μ' : Nat → Value) (G' : Nat), VRep w F' h' μ' G' d v) → ThawOk w lo k g (d, [], k, g) v o := fun d hd =>
      ⟨fun _ => undef, [], by simp, by simp, Nat.le_refl _, Nat.le_refl _, by simp, by simp, fun F' h' μ' G' B _ _ => ⟨rfl, hd F' h' μ' G'⟩⟩
    cases ho with
    | bool b => cases hr with | base _ _ hr => cases hr; exact none _ (fun _ _ _ _ => .imm _ _ (.bool b))
    | int kd m => cases hr with | base _ _ hr => cases hr; exact none _ (fun _ _ _ _ => .imm _ _ (.int kd m))
    | str s => cases hr with | base _ _ hr => cases hr; exact none _ (fun _ _ _ _ => .imm _ _ (.str s))
    | olist => exact none _ (fun _ _ _ _ => .imm _ _ (.junk _))
    | agg => exact none _ (fun _ _ _ _ => .imm _ _ (.junk _))
    | tup => exact none _ (fun _ _ _ _ => .imm _ _ (.junk _))
  | succ n ih =>
    intro k g r v o ho hr hnd
    have none : ∀ d : D, (∀ (F' : Nat → Prop) (h' : List Ent) (μ' : Nat → Value) (G' : Nat), VRep w F' h' μ' G' d v) → ThawOk w lo k g (d, [], k, g) v o := fun d hd =>
      ⟨fun _ => undef, [], by simp, by simp, Nat.le_refl _, Nat.le_refl _, by simp, by simp, fun F' h' μ' G' B _ _ => ⟨rfl, hd F' h' μ' G'⟩⟩
    cases ho with
    | bool b => cases hr with | base _ _ hr => cases hr; exact none _ (fun _ _ _ _ => .imm _ _ (.bool b))
    | int kd m => cases hr with | base _ _ hr => cases hr; exact none _ (fun _ _ _ _ => .imm _ _ (.int kd m))
    | str s => cases hr with | base _ _ hr => cases hr; exact none _ (fun _ _ _ _ => .imm _ _ (.str s))
    | olist sz xs hx =>
      have hs : ∃ a m c, v = .slice a m c := by
        rcases hr.olist_inv with ⟨h1, _⟩ | ⟨vs, os, b, cap, cur, E, h1, _⟩
        · exact ⟨_, _, _, h1⟩
        · exact ⟨_, _, _, h1⟩
      obtain ⟨a, m, c, rfl⟩ := hs
      refine ⟨fun _ => .slice a m c, o, hnd, fun c hc => hc, Nat.le_succ _, Nat.le_succ _, ?_, by simp [thaw], fun F' h' μ' G' B hμ hG => ?_⟩
      · intro e he
        simp only [thaw, List.mem_singleton] at he
        subst he
        simp [thaw]
      · have hg : μ' g = .slice a m c := hμ g (Nat.le_refl _) (Nat.lt_succ_self _)
        have hG' : g < G' := hG
        exact ⟨⟨o, [], by simp, ⟨hG', by simp only [hg]; exact hr.anyF (.olist sz xs hx) F'⟩, rfl⟩, .arr k g a m c hG' (fun _ => hg.symm)⟩
    | agg xs hx =>
      obtain ⟨vs, os, rfl, rfl, h1, h2, h3, h4⟩ := hr.parts
      obtain ⟨val, o1, a1, a2, a3, a4, a5, a6, al, a7⟩ := thaw_go ih xs vs os k g h1 h2 hx h3 hnd
      exact ⟨val, o1, a1, a2, a3, a4, a5, a6, fun F' h' μ' G' B hμ hG => ⟨(a7 F' h' μ' G' B hμ hG).1, .agg _ vs al.symm (a7 F' h' μ' G' B hμ hG).2 h4⟩⟩
    | tup xs hx =>
      obtain ⟨vs, os, rfl, rfl, h1, h2, h3⟩ := hr.partsT
      obtain ⟨val, o1, a1, a2, a3, a4, a5, a6, al, a7⟩ := thaw_go ih xs vs os k g h1 h2 hx h3 hnd
      exact ⟨val, o1, a1, a2, a3, a4, a5, a6, fun F' h' μ' G' B hμ hG => ⟨(a7 F' h' μ' G' B hμ hG).1, .tup _ vs al.symm (a7 F' h' μ' G' B hμ hG).2⟩⟩

end Go.PS
end

section
-- Calls against the clean ones.
set_option linter.unusedVariables false
set_option linter.unusedSimpArgs false
set_option linter.unusedSectionVars false
namespace Go.PS

/-- What a call comes to. -/
def CPost (w0 : World) (Fo : Nat → Prop) (B : Option Nat) (w : World) (h : List Ent) (μ : Nat → Value) (G : Nat) (own : List Nat) (K : D → List Ent → Nat → Prop) (e : Ending) (w' : World) : Prop :=
  ∃ (v : Value) (d : D) (h' : List Ent) (μ' : Nat → Value) (G' : Nat) (o' : List Nat), e = .returned v ∧ K d h' G' ∧ Out w0 Fo B w h μ G own w' h' μ' G' o' ∧ VRep w' (FF o' Fo) h' μ' G' d v

theorem ioOf_find : ∀ (l : List D) (k g : Nat), ioOf l = some (k, g) → D.ptr k g 0 ∈ l
  | [], k, g, h => by simp [ioOf] at h
  | d :: l, k, g, h => by
    unfold ioOf at h
    split at h
    · rename_i e; cases e
    · rename_i k' g' l' e
      injection e with e1 e2
      simp only [Option.some.injEq, Prod.mk.injEq] at h
      obtain ⟨rfl, rfl⟩ := h
      subst e1
      simp
    · rename_i d' l' _ e
      injection e with e1 e2
      subst e2
      exact List.mem_cons_of_mem _ (ioOf_find _ k g h)

section
variable {P : Program} {w0 : World} {Fo : Nat → Prop} {B : Option Nat} {w : World} {h : List Ent} {μ : Nat → Value} {G : Nat} {own : List Nat} {K : D → List Ent → Nat → Prop}

theorem pc_plain (I : HInv w0 Fo B w h μ G own) {id : Nat} {ds : List D} {vs : List Value} {fresh : Bool} {R : D → List D → Prop} {F : Nat → Prop} (hF : ∀ b, F b → b < w.heap.size) (hFF : fresh = false → ∀ b, FF own Fo b → F b)
    (hpc : PC P id ds none fresh R) (hl : vs.length = ds.length) (hr : ∀ (i : Nat) (d : D) (v : Value), ds[i]? = some d → vs[i]? = some v → Rep w F d v) (hk : ∀ r cs, R r cs → K (imm 5 r) h G) :
    Calls P id vs.toArray w (CPost w0 Fo B w h μ G own K) := by
  refine (hpc.2 w vs F none hF hl (fun i d v hd hv => .inl (hr i d v hd hv)) rfl).mono ?_
  rintro e w' ⟨v, r, cs', o, rfl, hR, hod, hg, ho, hnd, _⟩
  have hw := hg.size
  refine ⟨v, imm 5 r, h, μ, G, own, rfl, hk r cs' hR, I.quiet hg, .imm _ _ (ho.imm (fun b hb hl => ?_) (fun b hb hf => ?_) 5)⟩
  · cases fresh with
    | true => simpa using I.blk b hb
    | false => simpa using hFF rfl b hb
  · have := (ho.lt b hb).1
    have := I.blk b hf
    omega

theorem pc_thaw (I : HInv w0 Fo B w h μ G own) {id k : Nat} {ds : List D} {vs : List Value} {R : D → List D → Prop} {F : Nat → Prop} (hF : ∀ b, F b → b < w.heap.size)
    (hpc : PC P id ds none true R) (hl : vs.length = ds.length) (hr : ∀ (i : Nat) (d : D) (v : Value), ds[i]? = some d → vs[i]? = some v → Rep w F d v)
    (hk : ∀ r cs, R r cs → K (thaw 5 k G r).1 ((thaw 5 k G r).2.1 ++ hdels h ((thaw 5 k G r).2.1.map Ent.k)) (thaw 5 k G r).2.2.2) :
    Calls P id vs.toArray w (CPost w0 Fo B w h μ G own K) := by
  refine (hpc.2 w vs F none hF hl (fun i d v hd hv => .inl (hr i d v hd hv)) rfl).mono ?_
  rintro e w' ⟨v, r, cs', o, rfl, hR, hod, hg, ho, hnd, _⟩
  obtain ⟨val, o1, a1, a2, a3, a4, a5, a6, a7⟩ := thaw_ok 5 k G r v o (hod rfl) ho hnd
  obtain ⟨rest, out1, hmr⟩ := HInv.drops ((thaw 5 k G r).2.1.map Ent.k) I
  have hlt : ∀ c ∈ own, c < w.heap.size := fun c hc => (I.hok.lt _ _ c hc).2
  have hge : ∀ c ∈ o1, w.heap.size ≤ c := fun c hc => (ho.lt c (a2 c hc)).1
  -- the kept ones, as they stood
  have hrest : HOk w (FF own Fo) h μ G w0.heap.size B (hdels h ((thaw 5 k G r).2.1.map Ent.k)) rest → True := fun _ => trivial
  have hdrop : ∃ rest, HOk w (FF own Fo) h μ G w0.heap.size B (hdels h ((thaw 5 k G r).2.1.map Ent.k)) rest ∧ rest.Nodup ∧ ∀ c ∈ rest, c ∈ own := by
    have gen : ∀ (ks : List Nat) (l : List Ent) (p : List Nat), HOk w (FF own Fo) h μ G w0.heap.size B l p → p.Nodup → ∃ rest, HOk w (FF own Fo) h μ G w0.heap.size B (hdels l ks) rest ∧ rest.Nodup ∧ ∀ c ∈ rest, c ∈ p := by
      intro ks
      induction ks with
      | nil => intro l p hp hn; exact ⟨p, hp, hn, fun c hc => hc⟩
      | cons k ks ih =>
        intro l p hp hn
        obtain ⟨q, hq, hn2, hm2⟩ := HOk.del k l p hp hn
        obtain ⟨q', hq', hn3, hm3⟩ := ih _ q hq hn2
        exact ⟨q', hq', hn3, fun c hc => hm2 c (hm3 c hc)⟩
    exact gen _ h own I.hok I.nodup
  obtain ⟨rest, hrk, hrn, hrm⟩ := hdrop
  have hkA := nodup_hdels ((thaw 5 k G r).2.1.map Ent.k) h I.keys
  refine ⟨v, _, _, fun x => if x < G then μ x else val x, _, _, rfl, hk r cs' hR, I.adds hrk hrm (hdels_find _ h I.keys) (grownBy.trans I.grown (grownBy.weak hg)) hg.size
    (fun c hc _ => hg.block c hc (by simp)) (fun c hc => hg.block c (hlt c (hrm c hc)) (by simp)) _ o1 ?_ ?_ (fun c hc => .inr (hge c hc)) _ _ a3 (fun x hx => by simp [hx]) (fun e he => (a5 e he).2.2.1) ?_, ?_⟩
  · rw [List.map_append, List.nodup_append]
    refine ⟨a6, hkA, fun a ha b hb hab => ?_⟩
    subst hab
    exact not_mem_hdels _ h I.keys ha hb
  · rw [List.nodup_append]
    exact ⟨a1, hrn, fun a ha b hb hab => by have := hge a ha; have := hlt b (hrm b hb); omega⟩
  · intro ev
    obtain ⟨b1, b2⟩ := a7 (FF (o1 ++ rest) Fo) _ (fun x => if x < G then μ x else val x) _ B (fun x hx hx2 => by rw [if_neg (by omega)]) (Nat.le_refl _)
    have lo : ∀ (l : List Ent) (p : List Nat), HOk w' (FF (o1 ++ rest) Fo) ((thaw 5 k G r).2.1 ++ hdels h ((thaw 5 k G r).2.1.map Ent.k)) (fun x => if x < G then μ x else val x) (thaw 5 k G r).2.2.2 w.heap.size B l p →
        HOk w' (FF (o1 ++ rest) Fo) ((thaw 5 k G r).2.1 ++ hdels h ((thaw 5 k G r).2.1.map Ent.k)) (fun x => if x < G then μ x else val x) (thaw 5 k G r).2.2.2 w0.heap.size B l p := by
      intro l
      induction l with
      | nil => intro p hp; exact hp
      | cons e es ih =>
        rintro p ⟨p1, p2, rfl, ⟨he1, he2⟩, hp⟩
        refine ⟨p1, p2, rfl, ⟨he1, ?_⟩, ih p2 hp⟩
        have hs := I.grown.size
        cases hb : e.b with
        | cells cs =>
          rw [hb] at he2
          obtain ⟨b, us, E, h1, h2, h3, h4, h5, h6, h7⟩ := he2
          exact ⟨b, us, E, h1, h2, h3, h4, h5, h6, h7.imp (fun h => by omega) (fun h => h)⟩
        | arr sz xs =>
          rw [hb] at he2
          exact he2.evo (.refl _ _) (fun _ _ => rfl) (fun c hc => by have := (he2.lt c hc).1; omega)
    exact lo _ _ b1
  · exact (a7 _ _ _ _ none (fun x hx hx2 => by rw [if_neg (by omega)]) (Nat.le_refl _)).2

/-- The one block that a call is handed to write to: taken out, laid in again. -/
theorem io_step (I : HInv w0 Fo B w h μ G own) {j g : Nat} {cs cs' : List D} (hf : find h j g = some (.cells cs)) (hpu : pureL cs) :
    ∃ b : Nat, b ∈ own ∧ μ g = .pointer (some ⟨b, 0, none⟩) ∧ IoIn w (FF own Fo) (some b) (some cs) ∧
      ∀ w' : World, w.grownBy w' (some b) → IoOut w' (FF own Fo) (some b) cs' (some cs) → ∃ o'', (∀ c, c ∈ o'' ↔ c ∈ own) ∧ Out w0 Fo B w h μ G own w' (hset h j g (.cells cs')) μ G o'' := by
  obtain ⟨o1, rest, he, hr', hnd, hmem, _⟩ := I.takeOut hf
  obtain ⟨o1', rest', he', hr'', hnd', hmem'⟩ := HOk.take h own I.hok hf I.nodup
  obtain ⟨b, vs, E, hm, hh, hl, h1, hr, rfl, hlo⟩ := he'.cellsOf
  have hb : b ∈ own := (hmem' b).2 (by simp)
  refine ⟨b, hb, hm, ⟨b, vs, E, rfl, .inl hb, hh, hl, fun i d v hd hv => ⟨h1 v (List.mem_of_getElem? hv), (hr i d v hd hv).pure 5 (hpu d (List.mem_of_getElem? hd))⟩⟩, fun w' hg hout => ?_⟩
  obtain ⟨b', bv, E', hbb, hh', hl', hr2⟩ := hout
  obtain rfl : b = b' := by simpa using hbb
  have hT : Touch w w' [b] := ⟨hg.os, hg.tape, hg.output, hg.size, fun c hc hn => hg.block c hc (by simp at hn; simp; exact hn)⟩
  have hrl : ∀ c ∈ rest', c ∈ own := fun c hc => (hmem' c).2 (by simp [hc])
  have hlt : ∀ c ∈ own, c < w.heap.size := fun c hc => (I.hok.lt _ _ c hc).2
  have hbr : b ∉ rest' := by have := hnd'; simp only [List.singleton_append, List.nodup_cons] at this; exact this.1
  obtain ⟨o'', hm'', out⟩ := I.replace (hA := h) I.keys (fun _ _ _ => rfl) hf hr'' hrl (hT.grown I.grown (by simpa using hlo)) hT.size
    (fun c hc hn => hT.block c hc (fun h1 => by simp at h1; subst h1; exact hn hb)) (fun c hc => hT.block c (hlt c (hrl c hc)) (fun h1 => by simp at h1; subst h1; exact hbr hc))
    (.cells cs') [b] hnd' (fun c hc => by simp at hc; subst hc; exact .inl hb) g G μ (.inl ⟨rfl, rfl, rfl, fun x d' hx => by cases hx⟩)
    (fun o'' hm'' ev => ⟨he'.1, ⟨b, bv, E', hm, hh', hl', fun v hv => by
        obtain ⟨i, hi⟩ := List.mem_iff_getElem?.1 hv
        have hil : i < cs'.length := by have := (List.getElem?_eq_some_iff.1 hi).1; omega
        exact (hr2 i _ v (List.getElem?_eq_getElem hil) hi).1, fun i d v hd hv => .imm _ _ ((hr2 i d v hd hv).2.weak (fun c hc hl => by
          rcases hc with hc | hc
          · exact .inl ((hmem' c).2 ((hm'' c).1 hc))
          · exact .inr hc)), rfl, hlo⟩⟩)
  exact ⟨o'', fun c => (hm'' c).trans (hmem' c).symm, out⟩

theorem dio_rep {ds : List D} {vs : List Value} {j g b : Nat} (I : HInv w0 Fo B w h μ G own) (hf : find h j g ≠ none) (hm : μ g = .pointer (some ⟨b, 0, none⟩))
    (hr : ∀ (i : Nat) (d : D) (v : Value), ds[i]? = some d → vs[i]? = some v → VRep w (FF own Fo) h μ G d v) :
    ∀ (i : Nat) (d : D) (v : Value), (ds.map (dio j g))[i]? = some d → vs[i]? = some v → ARep w (FF own Fo) (some b) d v := by
  intro i d v hd hv
  obtain ⟨e, he, rfl⟩ := getElem?_map_some hd
  have := hr i e v he hv
  unfold dio
  split
  · rename_i k g'
    split
    · rename_i hjg
      obtain ⟨rfl, rfl⟩ := hjg
      obtain ⟨_, hp⟩ := this.asPtr
      obtain ⟨b', hb, hv'⟩ := hp hf
      have : b' = b := by
        rcases hb with hb | ⟨n, c, hb⟩
        · rw [hm] at hb; injection hb with hb; injection hb with hb; injection hb with hb; exact hb.symm
        · rw [hm] at hb; cases hb
      subst this
      exact .inr ⟨rfl, b', rfl, hv'⟩
    · exact .inl (.junk _)
  · exact .inl (this.derS 5)

theorem pc_io (I : HInv w0 Fo B w h μ G own) {id j g : Nat} {ds : List D} {vs : List Value} {cs : List D} {fresh : Bool} {R : D → List D → Prop} (hf : find h j g = some (.cells cs)) (hpu : pureL cs)
    (hpc : PC P id (ds.map (dio j g)) (some cs) fresh R) (hl : vs.length = ds.length) (hr : ∀ (i : Nat) (d : D) (v : Value), ds[i]? = some d → vs[i]? = some v → VRep w (FF own Fo) h μ G d v)
    (hk : ∀ r cs', R r cs' → K (imm 5 r) (hset h j g (.cells cs')) G) : Calls P id vs.toArray w (CPost w0 Fo B w h μ G own K) := by
  obtain ⟨b, hb, hm, hin, _⟩ := io_step (cs' := []) I hf hpu
  refine (hpc.2 w vs (FF own Fo) (some b) (fun c hc => I.blk c hc) (by simpa using hl) (dio_rep I (by rw [hf]; simp) hm hr) hin).mono ?_
  rintro e w' ⟨v, r, cs', o, rfl, hR, hod, hg, ho, hnd, hio⟩
  obtain ⟨b', hb', hm', _, hst⟩ := io_step (cs' := cs') I hf hpu
  have hbb : b = b' := by rw [hm] at hm'; injection hm' with hm'; injection hm' with hm'; injection hm'
  subst hbb
  obtain ⟨o'', hm'', out⟩ := hst w' hg hio
  refine ⟨v, imm 5 r, _, μ, G, o'', rfl, hk r cs' hR, out, .imm _ _ (ho.imm (fun c hc hl => ?_) (fun c hc hf => ?_) 5)⟩
  · have hc' : FF own Fo c := hc.imp (fun h => (hm'' c).1 h) (fun h => h)
    cases fresh with
    | true => simpa using I.blk c hc'
    | false => simpa using hc'
  · have := (ho.lt c hc).1
    have := I.blk c (hf.imp (fun h => (hm'' c).1 h) (fun h => h))
    omega

end

section
variable {C : Ctx} {w0 : World} {Fo : Nat → Prop} {B : Option Nat} {w : World} {h : List Ent} {μ : Nat → Value} {G : Nat} {own : List Nat} {K : D → List Ent → Nat → Prop} {t : List (Nat × D)}

/-- A text run in place is sound. -/
def InlOk (C : Ctx) (inlK : Nat → List D → List Ent → Nat → (D → List Ent → Nat → Prop) → Prop) : Prop :=
  ∀ (id : Nat) (ds : List D) (h : List Ent) (G : Nat) (K : D → List Ent → Nat → Prop), inlK id ds h G K → Enters C.P id ∧
    ∀ (w0 : World) (Fo : Nat → Prop) (B : Option Nat) (w : World) (μ : Nat → Value) (own : List Nat) (vs : List Value), HInv w0 Fo B w h μ G own → vs.length = ds.length →
      (∀ (i : Nat) (d : D) (v : Value), ds[i]? = some d → vs[i]? = some v → VRep w (FF own Fo) h μ G d v) → Calls C.P id vs.toArray w (CPost w0 Fo B w h μ G own K)

theorem call_sound (I : HInv w0 Fo B w h μ G own) {inlK : Nat → List D → List Ent → Nat → (D → List Ent → Nat → Prop) → Prop} (hin : InlOk C inlK) {k fl : Nat} {fd : D} {fv : Value} {as : List D} {avs : List Value}
    (hfr : VRep w (FF own Fo) h μ G fd fv) (hl : avs.length = as.length) (hr : ∀ (i : Nat) (d : D) (v : Value), as[i]? = some d → avs[i]? = some v → VRep w (FF own Fo) h μ G d v)
    (hk : callK C k inlK fl fd as ⟨t, h, G⟩ K) :
    ∃ (id : Nat) (cvs : List Value), fv = .func (.func id) #[] cvs.toArray ∧ Enters C.P id ∧ Calls C.P id (avs ++ cvs).toArray w (CPost w0 Fo B w h μ G own K) := by
  unfold callK at hk
  split at hk
  · rename_i id caps
    obtain ⟨cvs, rfl, hcl, hcr⟩ := hfr.asFn
    have hal : (avs ++ cvs).length = (as ++ caps).length := by simp [hl, hcl]
    have har : ∀ (i : Nat) (d : D) (v : Value), (as ++ caps)[i]? = some d → (avs ++ cvs)[i]? = some v → VRep w (FF own Fo) h μ G d v := by
      intro i d v hd hv
      by_cases hi : i < as.length
      · rw [List.getElem?_append_left hi] at hd
        rw [List.getElem?_append_left (by omega)] at hv
        exact hr i d v hd hv
      · rw [List.getElem?_append_right (by omega)] at hd hv
        rw [hl] at hv
        exact hcr _ d v hd hv
    have hder : ∀ (i : Nat) (d : D) (v : Value), ((as ++ caps).map (der h 5))[i]? = some d → (avs ++ cvs)[i]? = some v → Rep w (fun _ => False) d v := by
      intro i d v hd hv
      obtain ⟨e, he, rfl⟩ := getElem?_map_some hd
      exact VRep.der I.hok 5 e v (har i e v he hv)
    have hders : ∀ (i : Nat) (d : D) (v : Value), ((as ++ caps).map (derS 5))[i]? = some d → (avs ++ cvs)[i]? = some v → Rep w (FF own Fo) d v := by
      intro i d v hd hv
      obtain ⟨e, he, rfl⟩ := getElem?_map_some hd
      exact (har i e v he hv).derS 5
    split at hk
    · obtain ⟨R, hpc, hk⟩ := hk
      exact ⟨id, cvs, rfl, hpc.1, pc_plain I (F := fun _ => False) (fun _ h => h.elim) (fun h => by cases h) hpc (by simpa using hal) hder hk⟩
    · obtain ⟨R, hpc, hk⟩ := hk
      exact ⟨id, cvs, rfl, hpc.1, pc_thaw I (F := fun _ => False) (fun _ h => h.elim) hpc (by simpa using hal) hder hk⟩
    · obtain ⟨R, hpc, hk⟩ := hk
      exact ⟨id, cvs, rfl, hpc.1, pc_plain I (F := FF own Fo) I.blk (fun _ _ h => h) hpc (by simpa using hal) hders hk⟩
    · obtain ⟨v, hi, hk⟩ := hk
      obtain ⟨hen, hc⟩ := hin id _ _ _ _ hi
      refine ⟨id, cvs, rfl, hen, Calls.mono (hc w0 Fo B w μ own _ I hal har) (fun e w' hp => ?_)⟩
      obtain ⟨v', d, h', μ', g', o', q1, q2, q3⟩ := hp
      obtain ⟨rfl, rfl, rfl⟩ := q2
      exact ⟨v', _, _, μ', _, o', q1, hk, q3⟩
    · obtain ⟨hen, hc⟩ := hin id _ _ _ _ hk
      exact ⟨id, cvs, rfl, hen, hc w0 Fo B w μ own _ I hal har⟩
    · split at hk
      · rename_i j g hio
        split at hk
        · rename_i cs hf
          obtain ⟨hpu, hk⟩ := hk
          split at hk
          · obtain ⟨R, hpc, hk⟩ := hk
            exact ⟨id, cvs, rfl, hpc.1, pc_io I hf hpu hpc hal har hk⟩
          · exact hk.elim
          · obtain ⟨R, hpc, hk⟩ := hk
            exact ⟨id, cvs, rfl, hpc.1, pc_io I hf hpu hpc hal har hk⟩
        · exact hk.elim
      · exact hk.elim
  · exact hk.elim

end
end Go.PS
end

section
-- Regions against the clean run.
set_option linter.unusedVariables false
set_option linter.unusedSimpArgs false
set_option linter.unusedSectionVars false
namespace Go.PS

/-- What is known between two operations of a text. -/
structure SInv (nt : Nat) (w0 : World) (Fo : Nat → Prop) (B : Option Nat) (σ : St) (a : Act) (w : World) (μ : Nat → Value) (own : List Nat) : Prop where
  inv : HInv w0 Fo B w σ.h μ σ.g own
  tmps : TRel w (FF own Fo) σ.h μ σ.g σ.t a.tmps
  size : nt ≤ a.tmps.size
  defers : a.defers = []

/-- The operations of a region and the clean ones. -/
structure OpOk (ops : Array Oper) (nt : Nat) (o : Oper) (a : AOper) : Prop where
  op : cop o.op = some a.o
  ty : o.type = a.T
  dst : o.dst = a.d
  gd : cgd ops o.guard = some a.gd
  lt : ∀ d, a.d = some d → d < nt

theorem cper_ok {ops : Array Oper} {nt fl : Nat} {o : Oper} {a : AOper} (h : cper ops nt fl o = some a) : OpOk ops nt o a := by
  unfold cper at h
  split at h
  · rename_i ao gd h1 h2
    split at h
    · rename_i h3
      injection h with h
      subst h
      exact ⟨h1, rfl, rfl, h2, fun d hd => by
        simp only [] at hd
        rw [hd] at h3
        simpa using h3⟩
    · cases h
  · cases h

section
variable {C : Ctx} {nt : Nat} {w0 : World} {Fo : Nat → Prop} {B : Option Nat} {σ : St} {a : Act} {w : World} {μ : Nat → Value} {own : List Nat} {Q : Exit → Act → World → Prop}

theorem call_run {P : Program} {o : Oper} {ρ : Operand → Value} {f : Operand} {args : List Operand} {tys : Array TypeId} {id : Nat} {cvs : List Value} (hop : o.op = .call ⟨.value f, ⟨args⟩, tys⟩)
    (hf : ρ f = .func (.func id) #[] cvs.toArray) (he : Enters P id) : (execOp ρ o).run P w = .ok (.enter id (args.map ρ ++ cvs).toArray) w := by
  obtain ⟨fn, h1, h2, h3⟩ := he
  have h2 : fn.body ≠ none := by intro e; rw [e] at h2; cases h2
  have h3 : fn.name ≠ "runtime.NumGoroutine" := by simpa using h3
  simp [execOp, hop, resolve, hf, Deferred.ofValue, invoke, callFunc, h1, h2, h3]

/-- One operation. -/
theorem step_sound (hty : TyOk C.P C.tt) (S : SInv nt w0 Fo B σ a w μ own) {ops : Array Oper} {o : Oper} {ao : AOper} (hok : OpOk ops nt o ao) {kb : Nat} {inlK : Nat → List D → List Ent → Nat → (D → List Ent → Nat → Prop) → Prop} (hin : InlOk C inlK)
    {K : D → List Ent → Nat → Prop} (hk : opC C kb inlK ao σ K) :
    o.wp C.P a w (fun a' w' => ∃ (d : D) (h' : List Ent) (μ' : Nat → Value) (G' : Nat) (o' : List Nat), K d h' G' ∧ Out w0 Fo B w σ.h μ σ.g own w' h' μ' G' o' ∧ SInv nt w0 Fo B ⟨put σ.t ao.d d, h', G'⟩ a' w' μ' o') Q := by
  have hρ : ∀ x, VRep w (FF own Fo) σ.h μ σ.g (ev σ.t (co x)) (a.eval x) := S.tmps.eval
  have fin : ∀ (v : Value) (d : D) (w' : World) (h' : List Ent) (μ' : Nat → Value) (G' : Nat) (o' : List Nat), K d h' G' → Out w0 Fo B w σ.h μ σ.g own w' h' μ' G' o' → VRep w' (FF o' Fo) h' μ' G' d v →
      ∃ (d : D) (h' : List Ent) (μ' : Nat → Value) (G' : Nat) (o' : List Nat), K d h' G' ∧ Out w0 Fo B w σ.h μ σ.g own w' h' μ' G' o' ∧ SInv nt w0 Fo B ⟨put σ.t ao.d d, h', G'⟩ (a.put o.dst v) w' μ' o' := by
    intro v d w' h' μ' G' o' h1 h2 h3
    refine ⟨d, h', μ', G', o', h1, h2, h2.1, ?_, ?_, ?_⟩
    · have := TRel.put (S.tmps.evo h2.2) ao.d (fun d hd => by exact Nat.lt_of_lt_of_le (hok.lt d hd) S.size) h3
      rw [hok.dst]
      exact this
    · cases o.dst <;> simp [Act.put, S.size]
    · cases o.dst <;> simp [Act.put, S.defers]
  unfold opC at hk
  split at hk
  · rename_i f args hao
    -- a call
    have hop := hok.op
    rw [hao] at hop
    cases hoo : o.op with
    | call c =>
      rw [hoo] at hop
      simp only [cop] at hop
      obtain ⟨ca, ⟨ar⟩, ⟨ty⟩⟩ := c
      simp only [] at hop
      cases ca with
      | value fo =>
        simp only [ccall, Option.some.injEq, AOp.call.injEq] at hop
        obtain ⟨rfl, rfl⟩ := hop
        obtain ⟨id, cvs, hfv, hen, hcalls⟩ := call_sound S.inv hin (hρ fo) (avs := ar.map a.eval) (by simp [evL_length]) (by
          intro i d v hd hv
          exact evL_rel hρ S.inv hty ar i d v hd hv) hk
        unfold Oper.wp
        rw [call_run hoo hfv hen, Oper.upon_enter]
        refine hcalls.mono ?_
        rintro e w' ⟨v, d, h', μ', G', o', rfl, h1, h2, h3⟩
        exact fin v d w' h' μ' G' o' h1 h2 h3
      | builtin b =>
        unfold ccall at hop
        split at hop <;> first | (rename_i e; cases e; done) | (simp at hop; done) | skip
        all_goals (rename_i e; cases e)
      | invoke r m => simp [ccall] at hop
    | makeFunc fn first caps =>
      rw [hoo] at hop
      cases fn with
      | func f => simp only [cop] at hop; split at hop <;> simp at hop
      | _ => simp [cop] at hop
    | slice T x lo hi mx =>
      rw [hoo] at hop
      cases mx <;> simp [cop] at hop
    | _ => rw [hoo] at hop; simp [cop] at hop
  · rename_i hne
    obtain ⟨n, v, w', d, h', μ', G', o', hr, hn, h1, h2, h3⟩ := op_sound hρ S.inv hty hok.op (fun f args e => hne f args e) hok.ty hk
    unfold Oper.wp
    rw [hr]
    rcases hn with rfl | ⟨rfl, rfl⟩
    · rw [Oper.upon_value]; exact fin v d w' h' μ' G' o' h1 h2 h3
    · rw [Oper.upon_skip]; exact fin undef d w' h' μ' G' o' h1 h2 h3

/-- A guard, decided. -/
theorem guard_sound (S : SInv nt w0 Fo B σ a w μ own) {ops : Array Oper} {o : Oper} {ao : AOper} (hok : OpOk ops nt o ao) {K1 K2 : List (Nat × D) → Prop} (hk : guardK ao.gd σ.t K1 K2) :
    ∃ t', SInv nt w0 Fo B ⟨t', σ.h, σ.g⟩ a w μ own ∧ ((Region.wanted o (yielded ops a.tmps) = true ∧ K1 t') ∨ (Region.wanted o (yielded ops a.tmps) = false ∧ K2 t')) := by
  have hg := hok.gd
  cases hog : o.guard with
  | none =>
    rw [hog] at hg
    simp only [cgd, Option.some.injEq] at hg
    rw [← hg] at hk
    exact ⟨σ.t, S, .inl ⟨by simp [Region.wanted, hog], hk⟩⟩
  | some p =>
    obtain ⟨j, want⟩ := p
    rw [hog] at hg
    simp only [cgd, Option.map_eq_some_iff] at hg
    obtain ⟨dj, hdj, hg⟩ := hg
    rw [← hg] at hk
    simp only [guardK] at hk
    have hrep := S.tmps dj
    split at hk
    · rename_i b hb
      rw [hb] at hrep
      have hv := hrep.asBool
      have hlt : dj < a.tmps.size := by
        rcases Nat.lt_or_ge dj a.tmps.size with h | h
        · exact h
        · rw [Array.getD_eq_getD_getElem?, Array.getElem?_eq_none h] at hv
          cases hv
      have hy : yielded ops a.tmps j = some b := by
        unfold yielded
        rw [hdj]
        simp only [Option.bind_some]
        rw [Array.getD_eq_getD_getElem?, Array.getElem?_eq_getElem hlt] at hv
        rw [Array.getElem?_eq_getElem hlt]
        simp only [Option.getD_some] at hv
        rw [hv]
      have hT : ∀ b', b = b' → TRel w (FF own Fo) σ.h μ σ.g ((dj, .bool b') :: σ.t) a.tmps := by
        intro b' e k
        subst e
        simp only [getT]
        by_cases hk : dj = k
        · subst hk; rw [if_pos rfl, hv]; exact .imm _ _ (.bool b)
        · rw [if_neg hk]; exact S.tmps k
      by_cases hbw : b = want
      · exact ⟨(dj, .bool want) :: σ.t, ⟨S.inv, hT want hbw, S.size, S.defers⟩, .inl ⟨by simp [Region.wanted, hog, hy, hbw], hk.1 hbw⟩⟩
      · have hbn : b = !want := by cases b <;> cases want <;> simp_all
        exact ⟨(dj, .bool !want) :: σ.t, ⟨S.inv, hT _ hbn, S.size, S.defers⟩, .inr ⟨by simp [Region.wanted, hog, hy, hbw], hk.2 hbn⟩⟩
    · rename_i hb
      rw [hb] at hrep
      have hv : a.tmps.getD dj undef = undef := by
        revert hrep
        generalize a.tmps.getD dj undef = u
        intro hrep
        cases hrep with
        | imm _ _ r => cases r
        | undef => rfl
      refine ⟨σ.t, S, .inr ⟨?_, hk⟩⟩
      have hy : yielded ops a.tmps j = none := by
        unfold yielded
        rw [hdj]
        simp only [Option.bind_some]
        rw [Array.getD_eq_getD_getElem?] at hv
        cases h0 : a.tmps[dj]? with
        | none => rfl
        | some u => rw [h0] at hv; simp only [Option.getD_some] at hv; rw [hv]; rfl
      simp [Region.wanted, hog, hy]
    · exact hk.elim

/-- A slot that a skipped operation leaves. -/
theorem SInv.skipped (S : SInv nt w0 Fo B σ a w μ own) {o : Oper} {ao : AOper} {ops : Array Oper} (hok : OpOk ops nt o ao) : SInv nt w0 Fo B ⟨put σ.t ao.d .undef, σ.h, σ.g⟩ (a.put o.dst undef) w μ own := by
  refine ⟨S.inv, ?_, ?_, ?_⟩
  · have := TRel.put S.tmps ao.d (fun d hd => by exact Nat.lt_of_lt_of_le (hok.lt d hd) S.size) (d := .undef) (v := undef) .undef
    rw [hok.dst]; exact this
  · cases o.dst <;> simp [Act.put, S.size]
  · cases o.dst <;> simp [Act.put, S.defers]

/-- The end of a piece of a text, as the clean run has it. -/
def After (nt : Nat) (w0 : World) (Fo : Nat → Prop) (B : Option Nat) (w : World) (h : List Ent) (μ : Nat → Value) (G : Nat) (own : List Nat) (R : St → Prop) (a' : Act) (w' : World) : Prop :=
  ∃ (σ' : St) (μ' : Nat → Value) (o' : List Nat), R σ' ∧ Out w0 Fo B w h μ G own w' σ'.h μ' σ'.g o' ∧ SInv nt w0 Fo B σ' a' w' μ' o'

theorem ops_sound (hty : TyOk C.P C.tt) {ops : Array Oper} {aops : List AOper} (hlen : aops.length = ops.size) (hok : ∀ (i : Nat) (o : Oper) (ao : AOper), ops[i]? = some o → aops[i]? = some ao → OpOk ops nt o ao)
    {kb : Nat} {inlK : Nat → List D → List Ent → Nat → (D → List Ent → Nat → Prop) → Prop} (hin : InlOk C inlK) {R : St → Prop} :
    ∀ (l : List AOper) (k : Nat), (∀ j, l[j]? = aops[k + j]?) → ∀ (σ : St) (a : Act) (w : World) (μ : Nat → Value) (own : List Nat), SInv nt w0 Fo B σ a w μ own → opsK C kb inlK l σ R →
      (∀ a' w', After nt w0 Fo B w σ.h μ σ.g own R a' w' → Q .normal a' w') → wpOps C.P ops Q (List.range' k l.length) a w
  | [], k, hl, σ, a, w, μ, own, S, hk, hQ' => by
    simp only [List.length_nil, List.range'_zero, wpOps]
    exact hQ' a w ⟨σ, μ, own, hk, S.inv.refl, S⟩
  | ao :: l, k, hl, σ, a, w, μ, own, S, hk, hQ' => by
    simp only [List.length_cons, List.range'_succ]
    have hao : aops[k]? = some ao := by have := hl 0; simpa using this.symm
    have hkl : k < ops.size := by rw [← hlen]; exact (List.getElem?_eq_some_iff.1 hao).1
    have ho : ops[k]? = some ops[k] := Array.getElem?_eq_getElem hkl
    have hokk := hok k _ ao ho hao
    have hl' : ∀ j, l[j]? = aops[k + 1 + j]? := fun j => by have := hl (j + 1); simpa [Nat.add_assoc, Nat.add_comm 1 j] using this
    rw [wpOps_cons]
    unfold wpOp
    rw [ho]
    simp only [opsK] at hk
    obtain ⟨t', S', hd⟩ := guard_sound S hokk hk
    rcases hd with ⟨hw, hk⟩ | ⟨hw, hk⟩
    · simp only [hw, if_true]
      refine .inl (Oper.wp_mono ?_ (step_sound (Q := Q) hty S' hokk hin hk))
      rintro a' w' ⟨d, h', μ', G', o', hk', out, S''⟩
      refine ops_sound hty hlen hok hin l (k + 1) hl' ⟨put t' ao.d d, h', G'⟩ a' w' μ' o' S'' hk' (fun a2 w2 hA => hQ' a2 w2 ?_)
      obtain ⟨σ2, μ2, o2, hR, out2, S2⟩ := hA
      exact ⟨σ2, μ2, o2, hR, Out.trans out out2, S2⟩
    · simp only [hw, Bool.false_eq_true, if_false]
      exact ops_sound hty hlen hok hin l (k + 1) hl' ⟨put t' ao.d .undef, σ.h, σ.g⟩ _ w μ own (S'.skipped hokk) hk hQ'

end
end Go.PS
end

section
-- Regions whose order Go leaves open: what the operations mention, and that they do not hang on the order.
set_option linter.unusedVariables false
set_option linter.unusedSimpArgs false
set_option linter.unusedSectionVars false
namespace Go.PS

theorem ev_congr {t t' : List (Nat × D)} {x : Opd} (h : ∀ n ∈ opdT x, getT t n = getT t' n) : ev t x = ev t' x := by
  cases x with
  | t n => exact h n (by simp [opdT])
  | _ => rfl

theorem evL_congr {t t' : List (Nat × D)} : ∀ {xs : List Opd}, (∀ n ∈ (xs.map opdT).flatten, getT t n = getT t' n) → evL t xs = evL t' xs
  | [], _ => rfl
  | x :: xs, h => by
    simp only [evL]
    rw [ev_congr (fun n hn => h n (by simp [hn])), evL_congr (fun n hn => h n (by simp only [List.map_cons, List.flatten_cons, List.mem_append]; exact .inr hn))]

theorem optI_congr {t t' : List (Nat × D)} {d : Int} {o : Option Opd} {K : Int → Prop} (h : ∀ n ∈ optT o, getT t n = getT t' n) : optI t d o K = optI t' d o K := by
  cases o with
  | none => rfl
  | some x => simp only [optI]; rw [ev_congr h]

theorem fillP_congr {tt : Nat → Ty} {fs : List (Nat × Nat)} {t t' : List (Nat × D)} : ∀ {ps : List (Nat × Opd)} {cs : List D}, (∀ n ∈ (ps.map fun p => opdT p.2).flatten, getT t n = getT t' n) → fillP tt fs t cs ps = fillP tt fs t' cs ps
  | [], cs, _ => rfl
  | (i, x) :: ps, cs, h => by
    simp only [fillP]
    rw [ev_congr (t := t) (t' := t') (fun n hn => h n (by simp [hn]))]
    have : ∀ cs, fillP tt fs t cs ps = fillP tt fs t' cs ps := fun cs => fillP_congr (fun n hn => h n (by simp only [List.map_cons, List.flatten_cons, List.mem_append]; exact .inr hn))
    simp only [this]

theorem opK_congr {tt : Nat → Ty} {k : Nat} {a : AOper} {t t' : List (Nat × D)} {h : List Ent} {g : Nat} {K : D → List Ent → Nat → Prop} (hh : ∀ n ∈ aopT a.o, getT t n = getT t' n) (hk : opK tt k a ⟨t, h, g⟩ K) : opK tt k a ⟨t', h, g⟩ K := by
  obtain ⟨d, o, T, gd, fl⟩ := a
  cases o with
  | mv x => have e := ev_congr (t := t) (t' := t') (x := x) (fun n hn => hh n (by simpa [aopT] using hn)); simp only [opK, e] at hk ⊢; exact hk
  | pick c x y =>
    have e1 := ev_congr (t := t) (t' := t') (x := c) (fun n hn => hh n (by simp [aopT, hn])); have e2 := ev_congr (t := t) (t' := t') (x := x) (fun n hn => hh n (by simp [aopT, hn])); have e3 := ev_congr (t := t) (t' := t') (x := y) (fun n hn => hh n (by simp [aopT, hn]))
    simp only [opK, e1, e2, e3] at hk ⊢; exact hk
  | box T x => have e := ev_congr (t := t) (t' := t') (x := x) (fun n hn => hh n (by simpa [aopT] using hn)); simp only [opK, e] at hk ⊢; exact hk
  | alloc T => exact hk
  | build T ps =>
    have e : ∀ fs cs, fillP tt fs t cs ps = fillP tt fs t' cs ps := fun fs cs => fillP_congr (fun n hn => hh n (by simpa [aopT] using hn))
    simp only [opK, e] at hk ⊢; exact hk
  | bslice T n ps =>
    have e : ps.map (fun p => ev t p.2) = ps.map (fun p => ev t' p.2) := List.map_congr_left (fun p hp => ev_congr (fun n hn => hh n (by
      simp only [aopT]; exact List.mem_flatten.2 ⟨_, List.mem_map.2 ⟨p, hp, rfl⟩, hn⟩)))
    simp only [opK, e] at hk ⊢; exact hk
  | load T x => have e := ev_congr (t := t) (t' := t') (x := x) (fun n hn => hh n (by simpa [aopT] using hn)); simp only [opK, e] at hk ⊢; exact hk
  | store T x y =>
    have e1 := ev_congr (t := t) (t' := t') (x := x) (fun n hn => hh n (by simp [aopT, hn])); have e2 := ev_congr (t := t) (t' := t') (x := y) (fun n hn => hh n (by simp [aopT, hn]))
    simp only [opK, e1, e2] at hk ⊢; exact hk
  | nilck x => have e := ev_congr (t := t) (t' := t') (x := x) (fun n hn => hh n (by simpa [aopT] using hn)); simp only [opK, e] at hk ⊢; exact hk
  | bin op T x y =>
    have e1 := ev_congr (t := t) (t' := t') (x := x) (fun n hn => hh n (by simp [aopT, hn])); have e2 := ev_congr (t := t) (t' := t') (x := y) (fun n hn => hh n (by simp [aopT, hn]))
    simp only [opK, e1, e2] at hk ⊢; exact hk
  | un op x => have e := ev_congr (t := t) (t' := t') (x := x) (fun n hn => hh n (by simpa [aopT] using hn)); simp only [opK, e] at hk ⊢; exact hk
  | conv S T x => have e := ev_congr (t := t) (t' := t') (x := x) (fun n hn => hh n (by simpa [aopT] using hn)); simp only [opK, e] at hk ⊢; exact hk
  | mkfn f cs => have e := evL_congr (t := t) (t' := t') (xs := cs) (fun n hn => hh n (by simpa [aopT] using hn)); simp only [opK, e] at hk ⊢; exact hk
  | make T x y =>
    have e1 := ev_congr (t := t) (t' := t') (x := x) (fun n hn => hh n (by simp [aopT, hn])); have e2 := ev_congr (t := t) (t' := t') (x := y) (fun n hn => hh n (by simp [aopT, hn]))
    simp only [opK, e1, e2] at hk ⊢; exact hk
  | slice T x lo hi =>
    have e1 := ev_congr (t := t) (t' := t') (x := x) (fun n hn => hh n (by simp [aopT, hn]))
    have e2 : ∀ d K, optI t d lo K = optI t' d lo K := fun d K => optI_congr (fun n hn => hh n (by simp [aopT, hn]))
    have e3 : ∀ d K, optI t d hi K = optI t' d hi K := fun d K => optI_congr (fun n hn => hh n (by simp [aopT, hn]))
    simp only [opK, e1, e2, e3] at hk ⊢; exact hk
  | faddr T x i => have e := ev_congr (t := t) (t' := t') (x := x) (fun n hn => hh n (by simpa [aopT] using hn)); simp only [opK, e] at hk ⊢; exact hk
  | field T x i => have e := ev_congr (t := t) (t' := t') (x := x) (fun n hn => hh n (by simpa [aopT] using hn)); simp only [opK, e] at hk ⊢; exact hk
  | iaddr T x y =>
    have e1 := ev_congr (t := t) (t' := t') (x := x) (fun n hn => hh n (by simp [aopT, hn])); have e2 := ev_congr (t := t) (t' := t') (x := y) (fun n hn => hh n (by simp [aopT, hn]))
    simp only [opK, e1, e2] at hk ⊢; exact hk
  | index T x y =>
    have e1 := ev_congr (t := t) (t' := t') (x := x) (fun n hn => hh n (by simp [aopT, hn])); have e2 := ev_congr (t := t) (t' := t') (x := y) (fun n hn => hh n (by simp [aopT, hn]))
    simp only [opK, e1, e2] at hk ⊢; exact hk
  | ext x i => have e := ev_congr (t := t) (t' := t') (x := x) (fun n hn => hh n (by simpa [aopT] using hn)); simp only [opK, e] at hk ⊢; exact hk
  | len T x => have e := ev_congr (t := t) (t' := t') (x := x) (fun n hn => hh n (by simpa [aopT] using hn)); simp only [opK, e] at hk ⊢; exact hk
  | app T S x y =>
    have e1 := ev_congr (t := t) (t' := t') (x := x) (fun n hn => hh n (by simp [aopT, hn])); have e2 := ev_congr (t := t) (t' := t') (x := y) (fun n hn => hh n (by simp [aopT, hn]))
    simp only [opK, opK.appK, e1, e2] at hk ⊢; exact hk
  | copy T S x y => exact hk
  | clear T x => exact hk
  | max x y =>
    have e1 := ev_congr (t := t) (t' := t') (x := x) (fun n hn => hh n (by simp [aopT, hn])); have e2 := ev_congr (t := t) (t' := t') (x := y) (fun n hn => hh n (by simp [aopT, hn]))
    simp only [opK, e1, e2] at hk ⊢; exact hk
  | min x y =>
    have e1 := ev_congr (t := t) (t' := t') (x := x) (fun n hn => hh n (by simp [aopT, hn])); have e2 := ev_congr (t := t) (t' := t') (x := y) (fun n hn => hh n (by simp [aopT, hn]))
    simp only [opK, e1, e2] at hk ⊢; exact hk
  | call f as => exact hk

theorem callK_t {C : Ctx} {k : Nat} {inlK : Nat → List D → List Ent → Nat → (D → List Ent → Nat → Prop) → Prop} {fl : Nat} {f : D} {as : List D} {t t' : List (Nat × D)} {h : List Ent} {g : Nat} {K : D → List Ent → Nat → Prop} :
    callK C k inlK fl f as ⟨t, h, g⟩ K = callK C k inlK fl f as ⟨t', h, g⟩ K := rfl

theorem opC_congr {C : Ctx} {kb : Nat} {inlK : Nat → List D → List Ent → Nat → (D → List Ent → Nat → Prop) → Prop} {a : AOper} {t t' : List (Nat × D)} {h : List Ent} {g : Nat} {K : D → List Ent → Nat → Prop} (hh : ∀ n ∈ aopT a.o, getT t n = getT t' n)
    (hk : opC C kb inlK a ⟨t, h, g⟩ K) : opC C kb inlK a ⟨t', h, g⟩ K := by
  unfold opC at hk ⊢
  split
  · rename_i f as ho
    rw [ho] at hk
    simp only [] at hk
    rw [ev_congr (t := t) (t' := t') (fun n hn => hh n (by rw [ho]; simp [aopT, hn])), evL_congr (t := t) (t' := t') (fun n hn => hh n (by rw [ho]; simp only [aopT, List.mem_append]; exact .inr hn))] at hk
    exact hk
  · rename_i hne
    split at hk
    · rename_i f as ho; exact absurd ho (hne f as)
    · exact opK_congr hh hk

/-- What does not look at the run's own gives the same whatever that is, and leaves it. -/
theorem opC_free {C : Ctx} {kb : Nat} {inlK : Nat → List D → List Ent → Nat → (D → List Ent → Nat → Prop) → Prop} {a : AOper} (ha : acc a = false) {t : List (Nat × D)} {h h' : List Ent} {g g' : Nat} {d : D}
    (hk : opC C kb inlK a ⟨t, h, g⟩ (Eq3 d h' g')) : h' = h ∧ g' = g ∧ ∀ h2 g2, opC C kb inlK a ⟨t, h2, g2⟩ (Eq3 d h2 g2) := by
  obtain ⟨ad, o, T, gd, fl⟩ := a
  cases o with
  | call f as => simp [acc] at ha
  | mv x =>
    have : fl = 0 := by simpa [acc] using ha
    subst this
    simp only [opC, opK] at hk ⊢
    obtain ⟨h1, h2, h3⟩ := hk
    exact ⟨h2.symm, h3.symm, fun _ _ => ⟨h1, rfl, rfl⟩⟩
  | box T x =>
    have : fl = 0 := by simpa [acc] using ha
    subst this
    simp only [opC, opK] at hk ⊢
    obtain ⟨p1, p2, h1, h2, h3⟩ := hk
    exact ⟨h2.symm, h3.symm, fun _ _ => ⟨p1, p2, h1, rfl, rfl⟩⟩
  | bslice T n ps =>
    have hf : fl ≠ 1 := by simpa [acc] using ha
    simp only [opC, opK] at hk ⊢
    split at hk
    · rename_i E hE
      obtain ⟨q1, q2, q3, q4, q5, hk⟩ := hk
      split at hk
      · obtain ⟨p1, h1, h2, h3⟩ := hk
        exact ⟨h2.symm, h3.symm, fun _ _ => ⟨q1, q2, q3, q4, q5, p1, h1, rfl, rfl⟩⟩
      · exact absurd rfl hf
      · rename_i hf0 hf1
        obtain ⟨h1, h2, h3⟩ := hk
        refine ⟨h2.symm, h3.symm, fun _ _ => ⟨q1, q2, q3, q4, q5, ?_⟩⟩
        exact ⟨h1, rfl, rfl⟩
    · exact hk.elim
  | pick c x y =>
    simp only [opC, opK] at hk ⊢
    split at hk
    · obtain ⟨h1, h2, h3⟩ := hk; exact ⟨h2.symm, h3.symm, fun _ _ => ⟨h1, rfl, rfl⟩⟩
    · exact hk.elim
  | bin op T x y =>
    simp only [opC, opK, binK] at hk ⊢
    split at hk
    · obtain ⟨p1, hk⟩ := hk
      cases op <;> simp only [binI] at hk ⊢ <;> first
        | (obtain ⟨h1, h2, h3⟩ := hk; exact ⟨h2.symm, h3.symm, fun _ _ => ⟨p1, h1, rfl, rfl⟩⟩)
        | (obtain ⟨p2, h1, h2, h3⟩ := hk; exact ⟨h2.symm, h3.symm, fun _ _ => ⟨p1, p2, h1, rfl, rfl⟩⟩)
    · cases op <;> simp only [binS] at hk ⊢ <;> first
        | exact hk.elim
        | (obtain ⟨h1, h2, h3⟩ := hk; exact ⟨h2.symm, h3.symm, fun _ _ => ⟨h1, rfl, rfl⟩⟩)
        | (obtain ⟨p2, h1, h2, h3⟩ := hk; exact ⟨h2.symm, h3.symm, fun _ _ => ⟨p2, h1, rfl, rfl⟩⟩)
    · obtain ⟨p1, hk⟩ := hk
      cases op <;> simp only [binL] at hk ⊢ <;> first
        | exact hk.elim
        | (obtain ⟨h1, h2, h3⟩ := hk; exact ⟨h2.symm, h3.symm, fun _ _ => ⟨p1, h1, rfl, rfl⟩⟩)
    · obtain ⟨p1, hk⟩ := hk
      cases op <;> simp only [binN] at hk ⊢ <;> first
        | exact hk.elim
        | (obtain ⟨h1, h2, h3⟩ := hk; exact ⟨h2.symm, h3.symm, fun _ _ => ⟨p1, h1, rfl, rfl⟩⟩)
    · exact hk.elim
  | un op x =>
    simp only [opC, opK] at hk ⊢
    split at hk
    · obtain ⟨h1, h2, h3⟩ := hk; exact ⟨h2.symm, h3.symm, fun _ _ => ⟨h1, rfl, rfl⟩⟩
    · obtain ⟨h1, h2, h3⟩ := hk; exact ⟨h2.symm, h3.symm, fun _ _ => ⟨h1, rfl, rfl⟩⟩
    · exact hk.elim
  | conv S T x =>
    simp only [opC, opK] at hk ⊢
    split at hk
    · obtain ⟨p, h1, h2, h3⟩ := hk; exact ⟨h2.symm, h3.symm, fun _ _ => ⟨p, h1, rfl, rfl⟩⟩
    · exact hk.elim
  | mkfn f cs =>
    simp only [opC, opK] at hk ⊢
    obtain ⟨h1, h2, h3⟩ := hk; exact ⟨h2.symm, h3.symm, fun _ _ => ⟨h1, rfl, rfl⟩⟩
  | field T x i =>
    simp only [opC, opK] at hk ⊢
    split at hk
    · split at hk
      · obtain ⟨p1, p2, hk⟩ := hk
        split at hk
        · obtain ⟨p3, h1, h2, h3⟩ := hk; exact ⟨h2.symm, h3.symm, fun _ _ => ⟨p1, p2, p3, h1, rfl, rfl⟩⟩
        · exact hk.elim
      · exact hk.elim
    · exact hk.elim
  | index T x y =>
    simp only [opC, opK] at hk ⊢
    split at hk
    · obtain ⟨p1, p2, h1, h2, h3⟩ := hk; exact ⟨h2.symm, h3.symm, fun _ _ => ⟨p1, p2, h1, rfl, rfl⟩⟩
    · exact hk.elim
  | ext x i =>
    simp only [opC, opK] at hk ⊢
    split at hk
    · obtain ⟨p1, h1, h2, h3⟩ := hk; exact ⟨h2.symm, h3.symm, fun _ _ => ⟨p1, h1, rfl, rfl⟩⟩
    · exact hk.elim
  | max x y =>
    simp only [opC, opK] at hk ⊢
    split at hk
    · obtain ⟨h1, h2, h3⟩ := hk; exact ⟨h2.symm, h3.symm, fun _ _ => ⟨h1, rfl, rfl⟩⟩
    · exact hk.elim
  | min x y =>
    simp only [opC, opK] at hk ⊢
    split at hk
    · obtain ⟨h1, h2, h3⟩ := hk; exact ⟨h2.symm, h3.symm, fun _ _ => ⟨h1, rfl, rfl⟩⟩
    · exact hk.elim
  | build T ps =>
    simp only [opC, opK] at hk ⊢
    split at hk
    · split at hk
      · obtain ⟨h1, h2, h3⟩ := hk; exact ⟨h2.symm, h3.symm, fun _ _ => ⟨h1, rfl, rfl⟩⟩
      · exact hk.elim
    · exact hk.elim
  | slice T x lo hi =>
    have : fl = 0 := by simpa [acc] using ha
    subst this
    simp only [opC, opK] at hk ⊢
    have opt : ∀ (d0 : Int) (o : Option Opd) (Q1 Q2 : Int → Prop), optI t d0 o Q1 → (∀ n, Q1 n → Q2 n) → optI t d0 o Q2 := by
      intro d0 o Q1 Q2 h1 h2
      cases o with
      | none => exact h2 _ h1
      | some x => simp only [optI] at h1 ⊢; split at h1 <;> first | exact h2 _ h1 | exact h1.elim
    have ex : ∀ (d0 : Int) (o : Option Opd) (Q : Int → Prop), optI t d0 o Q → ∃ n, Q n := by
      intro d0 o Q h1
      cases o with
      | none => exact ⟨_, h1⟩
      | some x => simp only [optI] at h1; split at h1 <;> first | exact ⟨_, h1⟩ | exact h1.elim
    split at hk
    · split at hk
      · exact absurd hk.1 (by decide)
      · exact hk.elim
    · obtain ⟨p1, hk⟩ := hk
      obtain ⟨l, hl⟩ := ex _ _ _ hk
      obtain ⟨u, hu⟩ := ex _ _ _ hl
      obtain ⟨_, _, _, _, e1, e2⟩ := hu
      refine ⟨e1.symm, e2.symm, fun _ _ => ⟨p1, opt _ _ _ _ hk (fun l hl => opt _ _ _ _ hl (fun u hu => ⟨hu.1, hu.2.1, hu.2.2.1, hu.2.2.2.1, rfl, rfl⟩))⟩⟩
    · obtain ⟨p1, hk⟩ := hk
      obtain ⟨l, hl⟩ := ex _ _ _ hk
      obtain ⟨u, hu⟩ := ex _ _ _ hl
      obtain ⟨_, _, _, _, e1, e2⟩ := hu
      refine ⟨e1.symm, e2.symm, fun _ _ => ⟨p1, opt _ _ _ _ hk (fun l hl => opt _ _ _ _ hl (fun u hu => ⟨hu.1, hu.2.1, hu.2.2.1, hu.2.2.2.1, rfl, rfl⟩))⟩⟩
    · exact hk.elim
  | _ => simp [acc] at ha

end Go.PS
end

section
-- Regions whose order Go leaves open: every order comes to what the text's own order comes to.
set_option linter.unusedVariables false
set_option linter.unusedSimpArgs false
set_option linter.unusedSectionVars false
namespace Go.PS

/-- The last write among the first 'm' of a set. -/
def gF {V : Type} (u : Nat → Option V) (S : Nat → Bool) (v0 : V) : Nat → V
  | 0 => v0
  | m + 1 => if S m = true then (u m).getD (gF u S v0 m) else gF u S v0 m

theorem gF_comm {V : Type} {u : Nat → Option V} {S : Nat → Bool} {v0 : V} {i : Nat} : ∀ m, (∀ j, j < m → u j ≠ none → (S j = true ↔ j < i)) → gF u S v0 m = gF u (fun _ => true) v0 (min m i)
  | 0, _ => by simp [gF]
  | m + 1, h => by
    have ih := gF_comm (v0 := v0) m (fun j hj => h j (by omega))
    have hm := h m (by omega)
    simp only [gF]
    by_cases hmi : m < i
    · have e1 : min (m + 1) i = m + 1 := by omega
      have e2 : min m i = m := by omega
      rw [e1]
      rw [e2] at ih
      simp only [gF]
      rw [ih]
      cases hu : u m with
      | none => simp
      | some v => rw [if_pos ((hm (by rw [hu]; simp)).2 hmi)]; simp
    · have e1 : min (m + 1) i = i := by omega
      have e2 : min m i = i := by omega
      rw [e1]
      rw [e2] at ih
      rw [ih]
      cases hu : u m with
      | none => simp
      | some v =>
        have : S m = false := by
          cases hS : S m with
          | false => rfl
          | true => exact absurd ((hm (by rw [hu]; simp)).1 hS) hmi
        rw [this]; simp

theorem gF_none {V : Type} {u : Nat → Option V} {S S' : Nat → Bool} {v0 : V} {i : Nat} (hS : ∀ j, j ≠ i → S' j = S j) (hi : u i = none) : ∀ m, gF u S' v0 m = gF u S v0 m
  | 0 => rfl
  | m + 1 => by
    have ih := gF_none (V := V) (u := u) (v0 := v0) hS hi m
    simp only [gF, ih]
    by_cases hm : m = i
    · subst hm; rw [hi]; simp
    · rw [hS m hm]

theorem gF_some {V : Type} {u : Nat → Option V} {S' : Nat → Bool} {v0 v : V} {i : Nat} (hi : u i = some v) (hSi : S' i = true) : ∀ m, i < m → (∀ j, i < j → j < m → u j ≠ none → S' j = false) → gF u S' v0 m = v
  | 0, h, _ => by omega
  | m + 1, h, hj => by
    simp only [gF]
    by_cases hm : m = i
    · subst hm; rw [if_pos hSi, hi]; rfl
    · have ih := gF_some (V := V) (v0 := v0) hi hSi m (by omega) (fun j a b => hj j a (by omega))
      rw [ih]
      cases hu : u m with
      | none => simp
      | some x =>
        have := hj m (by omega) (by omega) (by rw [hu]; simp)
        rw [this]; simp

theorem gF_ext {V : Type} {u u' : Nat → Option V} {S : Nat → Bool} {v0 : V} : ∀ m, (∀ j, j < m → u j = u' j) → gF u S v0 m = gF u' S v0 m
  | 0, _ => rfl
  | m + 1, h => by simp only [gF]; rw [gF_ext m (fun j hj => h j (by omega)), h m (by omega)]

abbrev Out1 := Option (D × List Ent × Nat)

def valO : Out1 → D
  | some r => r.1
  | none => .undef

/-- What operation 'm' writes to slot 'x', and to the run's own. -/
def wT (aops : List AOper) (outs : List Out1) (x m : Nat) : Option D :=
  match aops[m]?, outs[m]? with
  | some a, some o => if a.d = some x then some (valO o) else none
  | _, _ => none

def wH (aops : List AOper) (outs : List Out1) (m : Nat) : Option (List Ent × Nat) :=
  match aops[m]?, outs[m]? with
  | some a, some (some r) => if wr a = true then some r.2 else none
  | _, _ => none

def tF (aops : List AOper) (outs : List Out1) (S : Nat → Bool) (τ0 : Nat → D) (m x : Nat) : D := gF (wT aops outs x) S (τ0 x) m
def hF (aops : List AOper) (outs : List Out1) (S : Nat → Bool) (h0 : List Ent × Nat) (m : Nat) : List Ent × Nat := gF (wH aops outs) S h0 m

abbrev all1 : Nat → Bool := fun _ => true

def runG (τ : Nat → D) : Option (Nat × Bool) → Prop
  | none => True
  | some (j, want) => τ j = .bool want

def skipG (τ : Nat → D) : Option (Nat × Bool) → Prop
  | none => False
  | some (j, want) => τ j = .bool (!want) ∨ τ j = .undef

section
variable {C : Ctx} {kb : Nat} {inlK : Nat → List D → List Ent → Nat → (D → List Ent → Nat → Prop) → Prop}

/-- What each operation gives, in the text's own order. -/
def TOk (C : Ctx) (kb : Nat) (inlK : Nat → List D → List Ent → Nat → (D → List Ent → Nat → Prop) → Prop) (aops : List AOper) (outs : List Out1) (τ0 : Nat → D) (h0 : List Ent × Nat) (i : Nat) : Prop :=
  ∀ (a : AOper) (o : Out1), aops[i]? = some a → outs[i]? = some o →
    match o with
    | none => skipG (tF aops outs all1 τ0 i) a.gd
    | some r => runG (tF aops outs all1 τ0 i) a.gd ∧ (∃ t, getT t = tF aops outs all1 τ0 i ∧ opC C kb inlK a ⟨t, (hF aops outs all1 h0 i).1, (hF aops outs all1 h0 i).2⟩ (Eq3 r.1 r.2.1 r.2.2)) ∧ (wr a = true ∨ r.2 = hF aops outs all1 h0 i)

theorem getT_put {t : List (Nat × D)} {d : Option Nat} {v : D} (x : Nat) : getT (put t d v) x = if d = some x then v else getT t x := by
  cases d with
  | none => simp [put]
  | some k => simp only [put, getT, Option.some.injEq]

theorem wT_pre {f f' : List AOper} {p p' : List Out1} {x j : Nat} (h1 : j < f.length) (h2 : j < p.length) : wT (f ++ f') (p ++ p') x j = wT f p x j := by
  simp only [wT, List.getElem?_append_left h1, List.getElem?_append_left h2]

theorem wH_pre {f f' : List AOper} {p p' : List Out1} {j : Nat} (h1 : j < f.length) (h2 : j < p.length) : wH (f ++ f') (p ++ p') j = wH f p j := by
  simp only [wH, List.getElem?_append_left h1, List.getElem?_append_left h2]

theorem tF_pre {f f' : List AOper} {p p' : List Out1} {S : Nat → Bool} {τ0 : Nat → D} {m : Nat} (h1 : m ≤ f.length) (h2 : m ≤ p.length) : tF (f ++ f') (p ++ p') S τ0 m = tF f p S τ0 m := by
  funext x
  exact gF_ext m (fun j hj => wT_pre (by omega) (by omega))

theorem hF_pre {f f' : List AOper} {p p' : List Out1} {S : Nat → Bool} {h0 : List Ent × Nat} {m : Nat} (h1 : m ≤ f.length) (h2 : m ≤ p.length) : hF (f ++ f') (p ++ p') S h0 m = hF f p S h0 m :=
  gF_ext m (fun j hj => wH_pre (by omega) (by omega))

theorem tF_snoc {f : List AOper} {p : List Out1} {a : AOper} {o : Out1} {τ0 : Nat → D} (hl : p.length = f.length) (x : Nat) : tF (f ++ [a]) (p ++ [o]) all1 τ0 (f.length + 1) x = if a.d = some x then valO o else tF f p all1 τ0 f.length x := by
  simp only [tF, gF, if_true]
  have e1 : gF (wT (f ++ [a]) (p ++ [o]) x) all1 (τ0 x) f.length = gF (wT f p x) all1 (τ0 x) f.length := gF_ext _ (fun j hj => wT_pre hj (by omega))
  have e2 : wT (f ++ [a]) (p ++ [o]) x f.length = if a.d = some x then some (valO o) else none := by
    simp only [wT]
    rw [List.getElem?_append_right (Nat.le_refl _), List.getElem?_append_right (by omega), hl, Nat.sub_self]
    rfl
  rw [e1, e2]
  split <;> rfl

theorem hF_snoc {f : List AOper} {p : List Out1} {a : AOper} {o : Out1} {h0 : List Ent × Nat} (hl : p.length = f.length) : hF (f ++ [a]) (p ++ [o]) all1 h0 (f.length + 1) = (match o with | some r => if wr a = true then r.2 else hF f p all1 h0 f.length | none => hF f p all1 h0 f.length) := by
  simp only [hF, gF, if_true]
  have e1 : gF (wH (f ++ [a]) (p ++ [o])) all1 h0 f.length = gF (wH f p) all1 h0 f.length := gF_ext _ (fun j hj => wH_pre hj (by omega))
  have e2 : wH (f ++ [a]) (p ++ [o]) f.length = (match o with | some r => if wr a = true then some r.2 else none | none => none) := by
    simp only [wH]
    rw [List.getElem?_append_right (Nat.le_refl _), List.getElem?_append_right (by omega), hl, Nat.sub_self]
    cases o <;> rfl
  rw [e1, e2]
  cases o with
  | none => rfl
  | some r =>
    simp only []
    split <;> rfl

theorem trace_of {R : St → Prop} {τ0 : Nat → D} {h0 : List Ent × Nat} : ∀ (l front : List AOper) (pre : List Out1) (σ : St), pre.length = front.length → getT σ.t = tF front pre all1 τ0 front.length → (σ.h, σ.g) = hF front pre all1 h0 front.length →
    opsKd C kb inlK l σ R → ∃ (suf : List Out1) (σf : St), suf.length = l.length ∧ R σf ∧ (∀ i, front.length ≤ i → i < front.length + l.length → TOk C kb inlK (front ++ l) (pre ++ suf) τ0 h0 i) ∧
      getT σf.t = tF (front ++ l) (pre ++ suf) all1 τ0 (front.length + l.length) ∧ (σf.h, σf.g) = hF (front ++ l) (pre ++ suf) all1 h0 (front.length + l.length)
  | [], front, pre, σ, hl, ht, hh, hk => ⟨[], σ, rfl, hk, fun i h1 h2 => by simp at h2; omega, by simpa using ht, by simpa using hh⟩
  | a :: l, front, pre, σ, hl, ht, hh, hk => by
    -- one step, then the rest
    have step : ∀ (o : Out1) (t' : List (Nat × D)) (h' : List Ent) (g' : Nat), getT t' = getT σ.t → (h', g') = (match o with | some r => if wr a = true then r.2 else (σ.h, σ.g) | none => (σ.h, σ.g)) →
        (∀ (pp : List Out1) (ll : List AOper), match o with
          | none => skipG (tF (front ++ a :: ll) (pre ++ o :: pp) all1 τ0 front.length) a.gd
          | some r => runG (tF (front ++ a :: ll) (pre ++ o :: pp) all1 τ0 front.length) a.gd ∧ (∃ t, getT t = tF (front ++ a :: ll) (pre ++ o :: pp) all1 τ0 front.length ∧ opC C kb inlK a ⟨t, (hF (front ++ a :: ll) (pre ++ o :: pp) all1 h0 front.length).1, (hF (front ++ a :: ll) (pre ++ o :: pp) all1 h0 front.length).2⟩ (Eq3 r.1 r.2.1 r.2.2)) ∧ (wr a = true ∨ r.2 = hF (front ++ a :: ll) (pre ++ o :: pp) all1 h0 front.length)) →
        opsKd C kb inlK l ⟨put t' a.d (valO o), h', g'⟩ R →
        ∃ (suf : List Out1) (σf : St), suf.length = (a :: l).length ∧ R σf ∧ (∀ i, front.length ≤ i → i < front.length + (a :: l).length → TOk C kb inlK (front ++ a :: l) (pre ++ suf) τ0 h0 i) ∧
          getT σf.t = tF (front ++ a :: l) (pre ++ suf) all1 τ0 (front.length + (a :: l).length) ∧ (σf.h, σf.g) = hF (front ++ a :: l) (pre ++ suf) all1 h0 (front.length + (a :: l).length) := by
      intro o t' h' g' ht' hh' hto hk'
      obtain ⟨suf, σf, hs, hR, hT, hf1, hf2⟩ := trace_of (R := R) (τ0 := τ0) (h0 := h0) l (front ++ [a]) (pre ++ [o]) ⟨put t' a.d (valO o), h', g'⟩ (by simp [hl])
        (by
          funext x
          rw [List.length_append, List.length_singleton, tF_snoc hl x, getT_put, ht', ht])
        (by
          rw [List.length_append, List.length_singleton, hF_snoc hl, hh']
          cases o with
          | none => exact hh
          | some r => simp only []; split <;> first | rfl | exact hh) hk'
      simp only [List.append_assoc, List.singleton_append, List.length_append, List.length_singleton] at hT hf1 hf2
      refine ⟨o :: suf, σf, by simp [hs], hR, fun i h1 h2 => ?_, ?_, ?_⟩
      · by_cases hi : i = front.length
        · subst hi
          intro a' o' ha' ho'
          rw [List.getElem?_append_right (Nat.le_refl _), Nat.sub_self] at ha'
          rw [List.getElem?_append_right (by omega), hl, Nat.sub_self] at ho'
          obtain rfl : a = a' := by simpa using ha'
          obtain rfl : o = o' := by simpa using ho'
          exact hto suf l
        · exact hT i (by omega) (by simp only [List.length_cons] at h2; omega)
      · rw [hf1]; congr 1; simp only [List.length_cons]; omega
      · rw [hf2]; congr 1; simp only [List.length_cons]; omega
    have htp : ∀ (o : Out1) (pp : List Out1) (ll : List AOper), tF (front ++ a :: ll) (pre ++ o :: pp) all1 τ0 front.length = getT σ.t := fun o pp ll => by rw [tF_pre (Nat.le_refl _) (by omega), ht]
    have hhp : ∀ (o : Out1) (pp : List Out1) (ll : List AOper), hF (front ++ a :: ll) (pre ++ o :: pp) all1 h0 front.length = (σ.h, σ.g) := fun o pp ll => by rw [hF_pre (Nat.le_refl _) (by omega), hh]
    have runC : ∀ t', getT t' = getT σ.t → runG (getT σ.t) a.gd → (∃ d h g, opC C kb inlK a ⟨t', σ.h, σ.g⟩ (Eq3 d h g) ∧ (wr a = true ∨ (h = σ.h ∧ g = σ.g)) ∧ opsKd C kb inlK l ⟨put t' a.d d, h, g⟩ R) →
        ∃ (suf : List Out1) (σf : St), suf.length = (a :: l).length ∧ R σf ∧ (∀ i, front.length ≤ i → i < front.length + (a :: l).length → TOk C kb inlK (front ++ a :: l) (pre ++ suf) τ0 h0 i) ∧
          getT σf.t = tF (front ++ a :: l) (pre ++ suf) all1 τ0 (front.length + (a :: l).length) ∧ (σf.h, σf.g) = hF (front ++ a :: l) (pre ++ suf) all1 h0 (front.length + (a :: l).length) := by
      rintro t' ht' hg ⟨d, h, g, hop, hw, hrest⟩
      refine step (some (d, h, g)) t' h g ht' ?_ (fun pp ll => ?_) hrest
      · simp only []
        split
        · rfl
        · rename_i hne
          obtain ⟨rfl, rfl⟩ := hw.resolve_left hne
          rfl
      · simp only [htp, hhp]
        exact ⟨hg, ⟨t', ht', hop⟩, hw.imp (fun h => h) (fun h => by rw [h.1, h.2])⟩
    have skipC : ∀ t', getT t' = getT σ.t → skipG (getT σ.t) a.gd → opsKd C kb inlK l ⟨put t' a.d .undef, σ.h, σ.g⟩ R →
        ∃ (suf : List Out1) (σf : St), suf.length = (a :: l).length ∧ R σf ∧ (∀ i, front.length ≤ i → i < front.length + (a :: l).length → TOk C kb inlK (front ++ a :: l) (pre ++ suf) τ0 h0 i) ∧
          getT σf.t = tF (front ++ a :: l) (pre ++ suf) all1 τ0 (front.length + (a :: l).length) ∧ (σf.h, σf.g) = hF (front ++ a :: l) (pre ++ suf) all1 h0 (front.length + (a :: l).length) := by
      intro t' ht' hg hrest
      refine step none t' σ.h σ.g ht' rfl (fun pp ll => ?_) hrest
      simp only [htp]
      exact hg
    simp only [opsKd, guardK] at hk
    cases hgd : a.gd with
    | none =>
      rw [hgd] at hk
      exact runC σ.t rfl (by rw [hgd]; trivial) hk
    | some p =>
      obtain ⟨j, want⟩ := p
      rw [hgd] at hk
      simp only [] at hk
      have hcons : ∀ b, getT σ.t j = .bool b → getT ((j, .bool b) :: σ.t) = getT σ.t := by
        intro b hb
        funext x
        simp only [getT]
        by_cases hx : j = x
        · subst hx; rw [if_pos rfl, hb]
        · rw [if_neg hx]
      split at hk
      · rename_i b hb
        by_cases hbw : b = want
        · subst hbw
          exact runC _ (hcons b hb) (by rw [hgd]; exact hb) (hk.1 rfl)
        · have hbn : b = !want := by cases b <;> cases want <;> simp_all
          subst hbn
          exact skipC _ (hcons _ hb) (by rw [hgd]; exact .inl hb) (hk.2 rfl)
      · rename_i hb
        exact skipC σ.t rfl (by rw [hgd]; exact .inr hb) hk
      · exact hk.elim

end
end Go.PS
end

section
-- Regions whose order Go leaves open are sound.
set_option linter.unusedVariables false
set_option linter.unusedSimpArgs false
set_option linter.unusedSectionVars false
namespace Go.PS

def orOf (M : List Nat) : List Edge → Nat
  | [] => 0
  | e :: es => if Region.binds .any e = true then (2 ^ e.on ||| M.getD e.on 0) ||| orOf M es else orOf M es

theorem orOf_bit {M : List Nat} {i : Nat} : ∀ (es : List Edge), (orOf M es).testBit i = true → ∃ e ∈ es, Region.binds .any e = true ∧ (e.on = i ∨ (M.getD e.on 0).testBit i = true)
  | [], h => by simp [orOf] at h
  | e :: es, h => by
    simp only [orOf] at h
    split at h
    · rename_i hb
      rw [Nat.testBit_or, Nat.testBit_or, Bool.or_eq_true, Bool.or_eq_true, Nat.testBit_two_pow] at h
      rcases h with (h | h) | h
      · exact ⟨e, by simp, hb, .inl (by simpa using h)⟩
      · exact ⟨e, by simp, hb, .inr h⟩
      · obtain ⟨e', he, h1, h2⟩ := orOf_bit es h
        exact ⟨e', by simp [he], h1, h2⟩
    · obtain ⟨e', he, h1, h2⟩ := orOf_bit es h
      exact ⟨e', by simp [he], h1, h2⟩

def mkM : List Oper → List Nat → List Nat
  | [], M => M
  | o :: os, M => mkM os (M ++ [orOf M o.after.toList])

/-- Do two operations stand in each other's way? -/
def conf (a b : AOper) : Bool :=
  (match a.d with | some x => (rd b).contains x || b.d == some x | none => false) || (match b.d with | some x => (rd a).contains x | none => false) || (wr a && acc b) || (acc a && wr b) || (wr a && wr b)

def chk1 (cf : AOper → AOper → Bool) (M : List Nat) (ops : List Oper) (aops : List AOper) (j : Nat) : Bool :=
  match ops[j]?, aops[j]? with
  | some o, some a => (M.getD j 0 == orOf M o.after.toList) && (o.after.toList.all fun e => !(Region.binds .any e) || decide (e.on < j)) &&
      (List.range j).all fun i => match aops[i]? with | some b => !(cf b a) || (M.getD j 0).testBit i | none => false
  | _, _ => false

def drawChk (cf : AOper → AOper → Bool) (ops : List Oper) (aops : List AOper) : Bool :=
  let M := mkM ops []
  ops.length == aops.length && (List.range ops.length).all (chk1 cf M ops aops)

/-- What the look at a region says. -/
structure DOk (cf : AOper → AOper → Bool) (ops : Array Oper) (aops : List AOper) (M : List Nat) : Prop where
  len : aops.length = ops.size
  back : ∀ (j : Nat) (o : Oper), ops[j]? = some o → ∀ e ∈ o.after, Region.binds .any e = true → e.on < j
  bit : ∀ (j : Nat) (o : Oper) (i : Nat), ops[j]? = some o → (M.getD j 0).testBit i = true → ∃ e ∈ o.after, Region.binds .any e = true ∧ (e.on = i ∨ (M.getD e.on 0).testBit i = true)
  conf : ∀ (i j : Nat) (a b : AOper), i < j → aops[i]? = some a → aops[j]? = some b → cf a b = true → (M.getD j 0).testBit i = true

theorem drawChk_ok {cf : AOper → AOper → Bool} {ops : Array Oper} {aops : List AOper} (h : drawChk cf ops.toList aops = true) : ∃ M, DOk cf ops aops M := by
  simp only [drawChk, Bool.and_eq_true, beq_iff_eq, List.all_eq_true, List.mem_range] at h
  obtain ⟨hl, hc⟩ := h
  refine ⟨mkM ops.toList [], by rw [← hl]; simp, ?_, ?_, ?_⟩
  all_goals
    have key : ∀ (j : Nat) (o : Oper), ops[j]? = some o → ∃ a, aops[j]? = some a ∧ ((mkM ops.toList []).getD j 0 = orOf (mkM ops.toList []) o.after.toList) ∧ (∀ e ∈ o.after.toList, Region.binds .any e = true → e.on < j) ∧
        ∀ i, i < j → ∀ b, aops[i]? = some b → cf b a = true → ((mkM ops.toList []).getD j 0).testBit i = true := by
      intro j o ho
      have hj : j < ops.toList.length := by simpa using (Array.getElem?_eq_some_iff.1 ho).1
      have := hc j hj
      unfold chk1 at this
      have ho' : ops.toList[j]? = some o := by simpa using ho
      rw [ho'] at this
      cases ha : aops[j]? with
      | none => rw [ha] at this; cases this
      | some a =>
        rw [ha] at this
        simp only [Bool.and_eq_true, beq_iff_eq, List.all_eq_true, Bool.or_eq_true, Bool.not_eq_true', decide_eq_true_eq, List.mem_range] at this
        obtain ⟨⟨h1, h2⟩, h3⟩ := this
        refine ⟨a, rfl, h1, fun e he hb => (h2 e he).resolve_left (by simp [hb]), fun i hi b hb hconf => ?_⟩
        have := h3 i hi
        rw [hb] at this
        simp only [Bool.or_eq_true, Bool.not_eq_true'] at this
        exact this.resolve_left (by simp [hconf])
  · intro j o ho e he hb
    obtain ⟨a, _, _, h2, _⟩ := key j o ho
    exact h2 e (by simpa using he) hb
  · intro j o i ho hbit
    obtain ⟨a, _, h1, _, _⟩ := key j o ho
    rw [h1] at hbit
    obtain ⟨e, he, h2, h3⟩ := orOf_bit _ hbit
    exact ⟨e, by simpa using he, h2, h3⟩
  · intro i j a b hij ha hb hconf
    have hj : j < ops.size := by
      have h1 := (List.getElem?_eq_some_iff.1 hb).1
      rw [← hl] at h1
      simpa using h1
    obtain ⟨a', ha', _, _, h3⟩ := key j ops[j] (Array.getElem?_eq_getElem hj)
    rw [hb] at ha'
    injection ha' with ha'
    subst ha'
    exact h3 i hij a ha hconf

section
variable {ops : Array Oper} {aops : List AOper} {M : List Nat}

/-- Whatever must come before has come. -/
theorem pred_in {cf : AOper → AOper → Bool} (hd : DOk cf ops aops M) {S : Nat → Bool} (hcl : ∀ (j : Nat) (o : Oper), S j = true → ops[j]? = some o → ∀ e ∈ o.after, Region.binds .any e = true → S e.on = true) :
    ∀ (j : Nat) (o : Oper) (i : Nat), ops[j]? = some o → (∀ e ∈ o.after, Region.binds .any e = true → S e.on = true) → (M.getD j 0).testBit i = true → S i = true := by
  intro j
  induction j using Nat.strongRecOn with
  | _ j ih =>
    intro o i ho hdir hbit
    obtain ⟨e, he, hb, h⟩ := hd.bit j o i ho hbit
    rcases h with h | h
    · rw [← h]; exact hdir e he hb
    · have hlt := hd.back j o ho e he hb
      have hj : j < ops.size := (Array.getElem?_eq_some_iff.1 ho).1
      have ho2 : ops[e.on]? = some ops[e.on] := Array.getElem?_eq_getElem (by omega)
      exact ih e.on hlt _ i ho2 (hcl e.on _ (hdir e he hb) ho2) h

def cn (S : Nat → Bool) : Nat → Nat
  | 0 => 0
  | m + 1 => cn S m + if S m = true then 0 else 1

theorem cn_set {S S' : Nat → Bool} {i : Nat} (hS : ∀ j, j ≠ i → S' j = S j) (h0 : S i = false) (h1 : S' i = true) : ∀ m, cn S' m + (if i < m then 1 else 0) = cn S m
  | 0 => by simp [cn]
  | m + 1 => by
    have ih := cn_set hS h0 h1 m
    simp only [cn]
    by_cases hm : m = i
    · subst hm
      rw [h0, h1]
      simp at ih ⊢
      omega
    · have e := hS m hm
      have e2 : (if S' m = true then 0 else 1 : Nat) = (if S m = true then 0 else 1 : Nat) := by rw [e]
      rw [e2]
      by_cases hi : i < m
      · rw [if_pos hi] at ih
        have e3 : (if i < m + 1 then 1 else 0 : Nat) = 1 := if_pos (by omega)
        rw [e3]; omega
      · rw [if_neg hi] at ih
        have e3 : (if i < m + 1 then 1 else 0 : Nat) = 0 := if_neg (by omega)
        rw [e3]; omega

theorem cn_zero {S : Nat → Bool} : ∀ m, cn S m = 0 → ∀ j, j < m → S j = true
  | 0, _, j, hj => by omega
  | m + 1, h, j, hj => by
    simp only [cn] at h
    by_cases hm : j = m
    · subst hm
      cases hS : S j with
      | true => rfl
      | false => rw [hS] at h; simp at h
    · exact cn_zero m (by omega) j (by omega)

theorem cn_all {S : Nat → Bool} : ∀ m, (∀ j, j < m → S j = true) → cn S m = 0
  | 0, _ => rfl
  | m + 1, h => by simp only [cn]; rw [cn_all m (fun j hj => h j (by omega)), h m (by omega)]; simp

end

section
variable {C : Ctx} {nt : Nat} {w0 : World} {Fo : Nat → Prop} {B : Option Nat} {Q : Exit → Act → World → Prop} {kb : Nat} {inlK : Nat → List D → List Ent → Nat → (D → List Ent → Nat → Prop) → Prop}

theorem wanted_of {ops : Array Oper} {o : Oper} {a : Act} {ao : AOper} {w : World} {F : Nat → Prop} {h : List Ent} {μ : Nat → Value} {G : Nat} {t : List (Nat × D)} (hok : OpOk ops nt o ao) (hT : TRel w F h μ G t a.tmps) :
    (runG (getT t) ao.gd → Region.wanted o (yielded ops a.tmps) = true) ∧ (skipG (getT t) ao.gd → Region.wanted o (yielded ops a.tmps) = false) := by
  have hg := hok.gd
  cases hog : o.guard with
  | none =>
    rw [hog] at hg
    simp only [cgd, Option.some.injEq] at hg
    rw [← hg]
    exact ⟨fun _ => by simp [Region.wanted, hog], fun h => h.elim⟩
  | some p =>
    obtain ⟨j, want⟩ := p
    rw [hog] at hg
    simp only [cgd, Option.map_eq_some_iff] at hg
    obtain ⟨dj, hdj, hg⟩ := hg
    rw [← hg]
    have hrep := hT dj
    have hbool : ∀ b, getT t dj = .bool b → yielded ops a.tmps j = some b := by
      intro b hb
      rw [hb] at hrep
      have hv := hrep.asBool
      have hlt : dj < a.tmps.size := by
        rcases Nat.lt_or_ge dj a.tmps.size with h | h
        · exact h
        · rw [Array.getD_eq_getD_getElem?, Array.getElem?_eq_none h] at hv
          cases hv
      unfold yielded
      rw [hdj]
      simp only [Option.bind_some]
      rw [Array.getD_eq_getD_getElem?, Array.getElem?_eq_getElem hlt] at hv
      rw [Array.getElem?_eq_getElem hlt]
      simp only [Option.getD_some] at hv
      rw [hv]
    refine ⟨fun h => ?_, fun h => ?_⟩
    · have hy := hbool want h
      simp [Region.wanted, hog, hy]
    · rcases h with h | h
      · have hy := hbool _ h
        cases want <;> simp [Region.wanted, hog, hy]
      · rw [h] at hrep
        have hv : a.tmps.getD dj undef = undef := by
          revert hrep
          generalize a.tmps.getD dj undef = u
          intro hrep
          cases hrep with
          | imm _ _ r => cases r
          | undef => rfl
        have hy : yielded ops a.tmps j = none := by
          unfold yielded
          rw [hdj]
          simp only [Option.bind_some]
          rw [Array.getD_eq_getD_getElem?] at hv
          cases h0 : a.tmps[dj]? with
          | none => rfl
          | some u => rw [h0] at hv; simp only [Option.getD_some] at hv; rw [hv]; rfl
        simp [Region.wanted, hog, hy]

theorem any_sound (hty : TyOk C.P C.tt) (hin : InlOk C inlK) {ops : Array Oper} {aops : List AOper} {M : List Nat} (hd : DOk conf ops aops M) (hok : ∀ (i : Nat) (o : Oper) (ao : AOper), ops[i]? = some o → aops[i]? = some ao → OpOk ops nt o ao)
    {outs : List Out1} (hlo : outs.length = aops.length) {τ0 : Nat → D} {h0 : List Ent × Nat} (hT : ∀ i, i < ops.size → TOk C kb inlK aops outs τ0 h0 i)
    {ws : World} {hs : List Ent} {μs : Nat → Value} {gs : Nat} {os : List Nat} (hfin : ∀ (t : List (Nat × D)) (h : List Ent) (g : Nat) (a : Act) (w : World) (μ : Nat → Value) (own : List Nat),
      getT t = tF aops outs all1 τ0 ops.size → (h, g) = hF aops outs all1 h0 ops.size → SInv nt w0 Fo B ⟨t, h, g⟩ a w μ own → Out w0 Fo B ws hs μs gs os w h μ g own → Q .normal a w) :
    ∀ (fuel : Nat) (listed : Array Bool), listed.size = ops.size → (∀ (j : Nat) (o : Oper), listed.getD j false = true → ops[j]? = some o → ∀ e ∈ o.after, Region.binds .any e = true → listed.getD e.on false = true) →
      cn (fun j => listed.getD j false) ops.size ≤ fuel → ∀ (t : List (Nat × D)) (h : List Ent) (g : Nat) (a : Act) (w : World) (μ : Nat → Value) (own : List Nat),
      getT t = tF aops outs (fun j => listed.getD j false) τ0 ops.size → (h, g) = hF aops outs (fun j => listed.getD j false) h0 ops.size → SInv nt w0 Fo B ⟨t, h, g⟩ a w μ own → Out w0 Fo B ws hs μs gs os w h μ g own →
      wpAny C.P .any ops Q fuel listed a w := by
  -- where nothing is ready, all has been done
  have done : ∀ (listed : Array Bool), listed.size = ops.size → Region.ready .any ops listed = [] → ∀ j, j < ops.size → listed.getD j false = true := by
    intro listed hsz hr j
    induction j using Nat.strongRecOn with
    | _ j ih =>
      intro hj
      cases hl : listed.getD j false with
      | true => rfl
      | false =>
        exfalso
        have : j ∈ Region.ready .any ops listed := by
          rw [mem_ready]
          refine ⟨?_, ops[j], Array.getElem?_eq_getElem hj, fun e he hb => ih e.on (hd.back j _ (Array.getElem?_eq_getElem hj) e he hb) (Nat.lt_trans (hd.back j _ (Array.getElem?_eq_getElem hj) e he hb) hj)⟩
          rw [Array.getD_eq_getD_getElem?, Array.getElem?_eq_getElem (by omega)] at hl ⊢
          simpa using hl
        rw [hr] at this
        cases this
  have endOk : ∀ (listed : Array Bool), listed.size = ops.size → (∀ j, j < ops.size → listed.getD j false = true) → ∀ (t : List (Nat × D)) (h : List Ent) (g : Nat) (a : Act) (w : World) (μ : Nat → Value) (own : List Nat),
      getT t = tF aops outs (fun j => listed.getD j false) τ0 ops.size → (h, g) = hF aops outs (fun j => listed.getD j false) h0 ops.size → SInv nt w0 Fo B ⟨t, h, g⟩ a w μ own → Out w0 Fo B ws hs μs gs os w h μ g own → Q .normal a w := by
    intro listed hsz hall t h g a w μ own ht hh S out
    refine hfin t h g a w μ own (ht.trans ?_) (hh.trans ?_) S out
    · funext x
      have := gF_comm (u := wT aops outs x) (S := fun j => listed.getD j false) (v0 := τ0 x) (i := ops.size) ops.size (fun j hj _ => ⟨fun _ => hj, fun _ => hall j hj⟩)
      simpa [tF] using this
    · have := gF_comm (u := wH aops outs) (S := fun j => listed.getD j false) (v0 := h0) (i := ops.size) ops.size (fun j hj _ => ⟨fun _ => hj, fun _ => hall j hj⟩)
      simpa [hF] using this
  intro fuel
  induction fuel with
  | zero =>
    intro listed hsz hcl hcn t h g a w μ own ht hh S out
    have hall := cn_zero ops.size (by omega : cn (fun j => listed.getD j false) ops.size = 0)
    refine ⟨?_, endOk listed hsz hall t h g a w μ own ht hh S out⟩
    cases hr : Region.ready .any ops listed with
    | nil => rfl
    | cons i is =>
      exfalso
      have : i ∈ Region.ready .any ops listed := by rw [hr]; simp
      rw [mem_ready] at this
      obtain ⟨h1, o, ho, _⟩ := this
      have hi : i < ops.size := (Array.getElem?_eq_some_iff.1 ho).1
      have h2 := hall i hi
      simp only [Array.getD_eq_getD_getElem?, Array.getElem?_eq_getElem (show i < listed.size by omega)] at h1 h2
      simp at h1 h2
      rw [h1] at h2; cases h2
  | succ fuel ih =>
    intro listed hsz hcl hcn t h g a w μ own ht hh S out
    refine ⟨fun hr => endOk listed hsz (done listed hsz hr) t h g a w μ own ht hh S out, fun i hi => ?_⟩
    rw [mem_ready] at hi
    obtain ⟨hi0, o, ho, hdir⟩ := hi
    have hin' : i < ops.size := (Array.getElem?_eq_some_iff.1 ho).1
    have hil : i < aops.length := by rw [hd.len]; exact hin'
    have hao : aops[i]? = some aops[i] := List.getElem?_eq_getElem hil
    have hout : outs[i]? = some (outs[i]'(by omega)) := List.getElem?_eq_getElem _
    have hnot : listed.getD i false = false := by
      simp only [Array.getD_eq_getD_getElem?, Array.getElem?_eq_getElem (show i < listed.size by omega)] at hi0 ⊢
      simpa using hi0
    have hokk := hok i o _ ho hao
    -- who stands in the way stands where the text has it
    have order : ∀ (j : Nat) (b : AOper), aops[j]? = some b → j ≠ i → (conf b aops[i] = true ∨ conf aops[i] b = true) → conf b aops[i] = true → conf aops[i] b = true → (listed.getD j false = true ↔ j < i) := by
      intro j b hb hji _ c1 c2
      have hj : j < ops.size := by rw [← hd.len]; exact (List.getElem?_eq_some_iff.1 hb).1
      rcases Nat.lt_or_ge j i with hlt | hge
      · exact ⟨fun _ => hlt, fun _ => pred_in hd (S := fun j => listed.getD j false) hcl i o j ho hdir (hd.conf j i b _ hlt hb hao c1)⟩
      · have hgt : i < j := by omega
        refine ⟨fun hl => ?_, fun h => by omega⟩
        exfalso
        have := pred_in hd (S := fun j => listed.getD j false) hcl j _ i (Array.getElem?_eq_getElem hj) (hcl j _ hl (Array.getElem?_eq_getElem hj)) (hd.conf i j _ b hgt hao hb c2)
        have this : listed.getD i false = true := this
        rw [hnot] at this; cases this
    have symm : ∀ a b : AOper, (match a.d with | some x => (rd b).contains x | none => false) = true ∨ (match b.d with | some x => (rd a).contains x | none => false) = true ∨ (∃ x, a.d = some x ∧ b.d = some x) ∨ (wr a = true ∧ acc b = true) ∨ (acc a = true ∧ wr b = true) ∨ (wr a = true ∧ wr b = true) →
        conf a b = true := by
      intro a b h
      unfold conf
      rcases h with h | h | ⟨x, h1, h2⟩ | h | h | h
      · cases ha : a.d with
        | none => rw [ha] at h; cases h
        | some x =>
          rw [ha] at h
          have h : (rd b).contains x = true := h
          show ((((((rd b).contains x || b.d == some x) || _) || _) || _) || _) = true
          rw [h]
          simp only [Bool.true_or]
      · rw [h]; simp only [Bool.true_or, Bool.or_true]
      · rw [h1, h2]; simp
      · rw [h.1, h.2]; simp only [Bool.and_true, Bool.true_and, Bool.true_or, Bool.or_true]
      · rw [h.1, h.2]; simp only [Bool.and_true, Bool.true_and, Bool.true_or, Bool.or_true]
      · rw [h.1, h.2]; simp only [Bool.and_true, Bool.true_and, Bool.true_or, Bool.or_true]
    -- what the operation reads is what it reads in the text's order
    have hread : ∀ x, x ∈ rd aops[i] → getT t x = tF aops outs all1 τ0 i x := by
      intro x hx
      rw [ht]
      have := gF_comm (u := wT aops outs x) (S := fun j => listed.getD j false) (v0 := τ0 x) (i := i) ops.size (fun j hj hu => by
        by_cases hji : j = i
        · subst hji
          simp only [hnot]
          constructor
          · intro h; cases h
          · intro h; omega
        · have hjl : j < aops.length := by rw [hd.len]; exact hj
          have hb : aops[j]? = some aops[j] := List.getElem?_eq_getElem hjl
          have hdj : aops[j].d = some x := by
            simp only [wT, hb] at hu
            cases ho : outs[j]? with
            | none => rw [ho] at hu; exact absurd rfl hu
            | some q =>
              rw [ho] at hu
              simp only [] at hu
              split at hu
              · assumption
              · exact absurd rfl hu
          have hc : (rd aops[i]).contains x = true := by simpa using hx
          exact order j _ hb hji (.inl (symm _ _ (.inl (by rw [hdj]; exact hc)))) (symm _ _ (.inl (by rw [hdj]; exact hc))) (symm _ _ (.inr (.inl (by rw [hdj]; exact hc)))))
      have hmin : min ops.size i = i := by omega
      rw [hmin] at this
      exact this
    have hheap : acc aops[i] = true ∨ wr aops[i] = true → (h, g) = hF aops outs all1 h0 i := by
      intro hacc
      rw [hh]
      have := gF_comm (u := wH aops outs) (S := fun j => listed.getD j false) (v0 := h0) (i := i) ops.size (fun j hj hu => by
        by_cases hji : j = i
        · subst hji
          simp only [hnot]
          constructor
          · intro h; cases h
          · intro h; omega
        · have hjl : j < aops.length := by rw [hd.len]; exact hj
          have hb : aops[j]? = some aops[j] := List.getElem?_eq_getElem hjl
          have hwj : wr aops[j] = true := by
            simp only [wH, hb] at hu
            split at hu
            · split at hu
              · rename_i e1 _ hw
                injection e1 with e1
                rw [← e1] at hw
                exact hw
              · exact absurd rfl hu
            · exact absurd rfl hu
          have c1 : conf aops[j] aops[i] = true := by
            rcases hacc with h | h
            · exact symm _ _ (.inr (.inr (.inr (.inl ⟨hwj, h⟩))))
            · exact symm _ _ (.inr (.inr (.inr (.inr (.inr ⟨hwj, h⟩)))))
          have c2 : conf aops[i] aops[j] = true := by
            rcases hacc with h | h
            · exact symm _ _ (.inr (.inr (.inr (.inr (.inl ⟨h, hwj⟩)))))
            · exact symm _ _ (.inr (.inr (.inr (.inr (.inr ⟨h, hwj⟩)))))
          exact order j _ hb hji (.inl c1) c1 c2)
      have hmin : min ops.size i = i := by omega
      rw [hmin] at this
      exact this
    -- the set with 'i'
    have hS' : ∀ j, j ≠ i → (listed.setIfInBounds i true).getD j false = listed.getD j false := fun j hj => getD_set_ne false (Ne.symm hj)
    have hSi : (listed.setIfInBounds i true).getD i false = true := by simp [show i < listed.size by omega]
    have hcl' : ∀ (j : Nat) (o : Oper), (listed.setIfInBounds i true).getD j false = true → ops[j]? = some o → ∀ e ∈ o.after, Region.binds .any e = true → (listed.setIfInBounds i true).getD e.on false = true := by
      intro j o' hj ho' e he hb
      apply getD_set_true
      by_cases hji : j = i
      · subst hji
        rw [ho] at ho'
        injection ho' with ho'
        subst ho'
        exact hdir e he hb
      · rw [hS' j hji] at hj
        exact hcl j o' hj ho' e he hb
    have hcn' : cn (fun j => (listed.setIfInBounds i true).getD j false) ops.size ≤ fuel := by
      have := cn_set (S := fun j => listed.getD j false) (S' := fun j => (listed.setIfInBounds i true).getD j false) (i := i) hS' hnot hSi ops.size
      rw [if_pos hin'] at this
      omega
    -- nobody behind 'i' has written what it writes
    have after : ∀ (j : Nat) (b : AOper), aops[j]? = some b → i < j → conf aops[i] b = true → (listed.setIfInBounds i true).getD j false = false := by
      intro j b hb hij c2
      rw [hS' j (by omega)]
      have hj : j < ops.size := by rw [← hd.len]; exact (List.getElem?_eq_some_iff.1 hb).1
      cases hl : listed.getD j false with
      | false => rfl
      | true =>
        exfalso
        have := pred_in hd (S := fun j => listed.getD j false) hcl j _ i (Array.getElem?_eq_getElem hj) (hcl j _ hl (Array.getElem?_eq_getElem hj)) (hd.conf i j _ b hij hao hb c2)
        have this : listed.getD i false = true := this
        rw [hnot] at this; cases this
    have htNew : ∀ (v : D), v = valO (outs[i]'(by omega)) → getT (put t aops[i].d v) = tF aops outs (fun j => (listed.setIfInBounds i true).getD j false) τ0 ops.size := by
      intro v hv
      funext x
      rw [getT_put]
      by_cases hx : aops[i].d = some x
      · rw [if_pos hx]
        have hu : wT aops outs x i = some v := by simp only [wT, hao, hout]; rw [if_pos hx, hv]
        exact (gF_some (S' := fun j => (listed.setIfInBounds i true).getD j false) hu hSi ops.size hin' (fun j hij hj hu' => by
          have hjl : j < aops.length := by rw [hd.len]; exact hj
          have hb : aops[j]? = some aops[j] := List.getElem?_eq_getElem hjl
          have hdj : aops[j].d = some x := by
            simp only [wT, hb] at hu'
            cases ho : outs[j]? with
            | none => rw [ho] at hu'; exact absurd rfl hu'
            | some q =>
              rw [ho] at hu'
              simp only [] at hu'
              split at hu'
              · assumption
              · exact absurd rfl hu'
          exact after j _ hb hij (symm _ _ (.inr (.inr (.inl ⟨x, hx, hdj⟩)))))).symm
      · rw [if_neg hx, ht]
        have hu : wT aops outs x i = none := by simp only [wT, hao, hout]; rw [if_neg hx]
        exact (gF_none (S := fun j => listed.getD j false) (S' := fun j => (listed.setIfInBounds i true).getD j false) hS' hu ops.size).symm
    unfold wpOp
    rw [ho]
    have htok := hT i hin' aops[i] _ hao hout
    have hguard := wanted_of hokk S.tmps
    have hgd : ∀ (gd : Option (Nat × Bool)), gd = aops[i].gd → (runG (tF aops outs all1 τ0 i) gd → runG (getT t) gd) ∧ (skipG (tF aops outs all1 τ0 i) gd → skipG (getT t) gd) := by
      intro gd hgd
      cases gd with
      | none => exact ⟨fun h => h, fun h => h⟩
      | some p =>
        obtain ⟨j, want⟩ := p
        have := hread j (by simp [rd, ← hgd, gdT])
        simp only [runG, skipG, this]
        exact ⟨fun h => h, fun h => h⟩
    cases hoi : (outs[i]'(by omega)) with
    | none =>
      rw [hoi] at htok
      have hw := hguard.2 ((hgd _ rfl).2 htok)
      simp only [hw, Bool.false_eq_true, if_false]
      refine ih (listed.setIfInBounds i true) (by simp [hsz]) hcl' hcn' (put t aops[i].d .undef) h g _ w μ own (htNew _ (by rw [hoi]; rfl)) ?_ (S.skipped hokk) out
      rw [hh]
      have hu : wH aops outs i = none := by simp only [wH, hao, hout, hoi]
      exact (gF_none (S := fun j => listed.getD j false) (S' := fun j => (listed.setIfInBounds i true).getD j false) hS' hu ops.size).symm
    | some r =>
      rw [hoi] at htok
      obtain ⟨hrun, ⟨t0, ht0, hop⟩, hwr⟩ := htok
      have hw := hguard.1 ((hgd _ rfl).1 hrun)
      simp only [hw, if_true]
      have hop2 : opC C kb inlK aops[i] ⟨t, (hF aops outs all1 h0 i).1, (hF aops outs all1 h0 i).2⟩ (Eq3 r.1 r.2.1 r.2.2) :=
        opC_congr (fun x hx => by rw [ht0]; exact (hread x (by simp [rd, hx])).symm) hop
      -- at the run's own as it stands
      have hop3 : ∃ h2 g2, opC C kb inlK aops[i] ⟨t, h, g⟩ (Eq3 r.1 h2 g2) ∧ (h2, g2) = (if wr aops[i] = true then r.2 else (h, g)) := by
        by_cases hacc : acc aops[i] = true ∨ wr aops[i] = true
        · have e := hheap hacc
          have e1 : h = (hF aops outs all1 h0 i).1 := congrArg Prod.fst e
          have e2 : g = (hF aops outs all1 h0 i).2 := congrArg Prod.snd e
          refine ⟨r.2.1, r.2.2, by rw [e1, e2]; exact hop2, ?_⟩
          split
          · rfl
          · rename_i hne
            rw [e]
            exact hwr.resolve_left hne
        · simp only [not_or, Bool.not_eq_true] at hacc
          have := opC_free hacc.1 hop2
          exact ⟨h, g, this.2.2 h g, by rw [hacc.2]; simp⟩
      obtain ⟨h2, g2, hop3, he⟩ := hop3
      refine .inl (Oper.wp_mono ?_ (step_sound (Q := Q) hty S hokk hin hop3))
      rintro a' w' ⟨d, h', μ', G', o', ⟨rfl, rfl, rfl⟩, out', S'⟩
      refine ih (listed.setIfInBounds i true) (by simp [hsz]) hcl' hcn' (put t aops[i].d r.1) h' G' a' w' μ' o' (htNew _ (by rw [hoi]; rfl)) ?_ S' (Out.trans out out')
      rw [he]
      by_cases hwi : wr aops[i] = true
      · rw [if_pos hwi]
        have hu : wH aops outs i = some r.2 := by simp only [wH, hao, hout, hoi]; rw [if_pos hwi]
        exact (gF_some (S' := fun j => (listed.setIfInBounds i true).getD j false) hu hSi ops.size hin' (fun j hij hj hu' => by
          have hjl : j < aops.length := by rw [hd.len]; exact hj
          have hb : aops[j]? = some aops[j] := List.getElem?_eq_getElem hjl
          have hwj : wr aops[j] = true := by
            simp only [wH, hb] at hu'
            split at hu'
            · split at hu'
              · rename_i e1 _ hw
                injection e1 with e1
                rw [← e1] at hw
                exact hw
              · exact absurd rfl hu'
            · exact absurd rfl hu'
          exact after j _ hb hij (symm _ _ (.inr (.inr (.inr (.inr (.inr ⟨hwi, hwj⟩)))))))).symm
      · rw [if_neg hwi, hh]
        have hu : wH aops outs i = none := by simp only [wH, hao, hout, hoi]; rw [if_neg hwi]
        exact (gF_none (S := fun j => listed.getD j false) (S' := fun j => (listed.setIfInBounds i true).getD j false) hS' hu ops.size).symm

end
end Go.PS
end

section
-- A text against the clean run.
set_option linter.unusedVariables false
set_option linter.unusedSimpArgs false
set_option linter.unusedSectionVars false
namespace Go.PS

/-- Each operation but a call gives one thing. -/
theorem opK_one {tt : Nat → Ty} {k : Nat} {a : AOper} {σ : St} {K : D → List Ent → Nat → Prop} (hk : opK tt k a σ K) :
    ∃ d h g, (∀ K' : D → List Ent → Nat → Prop, K' d h g → opK tt k a σ K') ∧ K d h g ∧ (wr a = true ∨ (h = σ.h ∧ g = σ.g)) := by
  obtain ⟨ad, o, T, gd, fl⟩ := a
  cases o with
  | call f as => exact hk.elim
  | copy T S x y => exact hk.elim
  | clear T x => exact hk.elim
  | mv x =>
    simp only [opK] at hk ⊢
    split at hk
    · exact ⟨_, _, _, fun K' hk' => hk', hk, .inr ⟨rfl, rfl⟩⟩
    · split at hk
      · exact ⟨_, _, _, fun K' hk' => hk', hk, .inl rfl⟩
      · exact hk.elim
    · rename_i h0 h1
      split at hk
      · split at hk
        · exact ⟨_, _, _, fun K' hk' => hk', hk, .inl (by simpa [wr] using h0)⟩
        · exact hk.elim
      · exact hk.elim
  | pick c x y =>
    simp only [opK] at hk ⊢
    split at hk
    · exact ⟨_, _, _, fun K' hk' => hk', hk, .inr ⟨rfl, rfl⟩⟩
    · exact hk.elim
  | box T x =>
    simp only [opK] at hk ⊢
    split at hk
    · exact ⟨_, _, _, fun K' hk' => ⟨hk.1, hk.2.1, hk'⟩, hk.2.2, .inr ⟨rfl, rfl⟩⟩
    · rename_i h0
      exact ⟨_, _, _, fun K' hk' => ⟨hk.1, hk'⟩, hk.2, .inl (by simpa [wr] using h0)⟩
  | alloc T =>
    simp only [opK] at hk ⊢
    split at hk
    · exact ⟨_, _, _, fun K' hk' => ⟨hk.1, hk'⟩, hk.2, .inl rfl⟩
    · exact hk.elim
  | build T ps =>
    simp only [opK] at hk ⊢
    split at hk
    · split at hk
      · exact ⟨_, _, _, fun K' hk' => hk', hk, .inr ⟨rfl, rfl⟩⟩
      · exact hk.elim
    · exact hk.elim
  | bslice T n ps =>
    simp only [opK] at hk ⊢
    split at hk
    · obtain ⟨q1, q2, q3, q4, q5, hk⟩ := hk
      split at hk
      · exact ⟨_, _, _, fun K' hk' => ⟨q1, q2, q3, q4, q5, hk.1, hk'⟩, hk.2, .inr ⟨rfl, rfl⟩⟩
      · exact ⟨_, _, _, fun K' hk' => ⟨q1, q2, q3, q4, q5, hk.1, hk'⟩, hk.2, .inl rfl⟩
      · exact ⟨_, _, _, fun K' hk' => ⟨q1, q2, q3, q4, q5, hk'⟩, hk, .inr ⟨rfl, rfl⟩⟩
    · exact hk.elim
  | load T x =>
    simp only [opK] at hk ⊢
    split at hk
    · exact ⟨_, _, _, fun K' hk' => ⟨hk.1, hk'⟩, hk.2, .inr ⟨rfl, rfl⟩⟩
    · split at hk
      · split at hk
        · rename_i hs
          simp only [hs, if_true]
          exact ⟨_, _, _, fun K' hk' => ⟨hk.1, hk'⟩, hk.2, .inr ⟨rfl, rfl⟩⟩
        · rename_i hs
          simp only [hs, if_false]
          exact ⟨_, _, _, fun K' hk' => ⟨hk.1, hk.2.1, hk'⟩, hk.2.2, .inr ⟨rfl, rfl⟩⟩
      · obtain ⟨p1, p2, hk⟩ := hk
        split at hk
        · exact ⟨_, _, _, fun K' hk' => ⟨p1, p2, hk.1, hk.2.1, hk'⟩, hk.2.2, .inr ⟨rfl, rfl⟩⟩
        · rename_i hfl
          unfold rowK at hk ⊢
          split at hk
          · split at hk
            · exact ⟨_, _, _, fun K' hk' => ⟨p1, p2, hk'⟩, hk, .inr ⟨rfl, rfl⟩⟩
            · rename_i hf1
              exact ⟨_, _, _, fun K' hk' => ⟨p1, p2, hk'⟩, hk, .inl (by simp [wr]; exact ⟨hfl, hf1⟩)⟩
          · exact hk.elim
      · exact hk.elim
    · split at hk
      · exact ⟨_, _, _, fun K' hk' => ⟨hk.1, hk.2.1, hk.2.2.1, hk.2.2.2.1, hk'⟩, hk.2.2.2.2, .inr ⟨rfl, rfl⟩⟩
      · exact hk.elim
    · exact hk.elim
  | store T x v =>
    simp only [opK] at hk ⊢
    split at hk
    · obtain ⟨q1, hk⟩ := hk
      split at hk
      · exact ⟨_, _, _, fun K' hk' => ⟨q1, hk.1, hk'⟩, hk.2, .inl rfl⟩
      · obtain ⟨p1, p2, p3, hk⟩ := hk
        split at hk
        · exact ⟨_, _, _, fun K' hk' => ⟨q1, p1, p2, p3, hk.1, hk.2.1, hk'⟩, hk.2.2, .inl rfl⟩
        · unfold moveK at hk ⊢
          split at hk
          · split at hk
            · exact ⟨_, _, _, fun K' hk' => ⟨q1, p1, p2, p3, hk.1, hk.2.1, hk'⟩, hk.2.2, .inl rfl⟩
            · exact hk.elim
          · exact hk.elim
      · exact hk.elim
    · obtain ⟨q1, hk⟩ := hk
      split at hk
      · split at hk
        · obtain ⟨p1, p2, p3, p4, p5, hk⟩ := hk
          exact ⟨_, _, _, fun K' hk' => ⟨q1, p1, p2, p3, p4, p5, hk'⟩, hk, .inl rfl⟩
        · exact hk.elim
      · exact hk.elim
    · exact hk.elim
  | nilck x =>
    simp only [opK] at hk ⊢
    split at hk
    · exact ⟨_, _, _, fun K' hk' => hk', hk, .inr ⟨rfl, rfl⟩⟩
    · exact ⟨_, _, _, fun K' hk' => hk', hk, .inr ⟨rfl, rfl⟩⟩
    · exact ⟨_, _, _, fun K' hk' => ⟨hk.1, hk'⟩, hk.2, .inr ⟨rfl, rfl⟩⟩
    · exact hk.elim
  | bin op T x y =>
    simp only [opK, binK] at hk ⊢
    split at hk
    · obtain ⟨p1, hk⟩ := hk
      cases op <;> simp only [binI] at hk ⊢ <;> first
        | exact ⟨_, _, _, fun K' hk' => ⟨p1, hk'⟩, hk, .inr ⟨rfl, rfl⟩⟩
        | exact ⟨_, _, _, fun K' hk' => ⟨p1, hk.1, hk'⟩, hk.2, .inr ⟨rfl, rfl⟩⟩
    · cases op <;> simp only [binS] at hk ⊢ <;> first
        | exact hk.elim
        | exact ⟨_, _, _, fun K' hk' => hk', hk, .inr ⟨rfl, rfl⟩⟩
        | exact ⟨_, _, _, fun K' hk' => ⟨hk.1, hk'⟩, hk.2, .inr ⟨rfl, rfl⟩⟩
    · obtain ⟨p1, hk⟩ := hk
      cases op <;> simp only [binL] at hk ⊢ <;> first
        | exact hk.elim
        | exact ⟨_, _, _, fun K' hk' => ⟨p1, hk'⟩, hk, .inr ⟨rfl, rfl⟩⟩
    · obtain ⟨p1, hk⟩ := hk
      cases op <;> simp only [binN] at hk ⊢ <;> first
        | exact hk.elim
        | exact ⟨_, _, _, fun K' hk' => ⟨p1, hk'⟩, hk, .inr ⟨rfl, rfl⟩⟩
    · exact hk.elim
  | un op x =>
    simp only [opK] at hk ⊢
    split at hk
    · exact ⟨_, _, _, fun K' hk' => hk', hk, .inr ⟨rfl, rfl⟩⟩
    · exact ⟨_, _, _, fun K' hk' => hk', hk, .inr ⟨rfl, rfl⟩⟩
    · exact hk.elim
  | conv S T x =>
    simp only [opK] at hk ⊢
    split at hk
    · exact ⟨_, _, _, fun K' hk' => ⟨hk.1, hk'⟩, hk.2, .inr ⟨rfl, rfl⟩⟩
    · exact hk.elim
  | mkfn f cs =>
    simp only [opK] at hk ⊢
    exact ⟨_, _, _, fun K' hk' => hk', hk, .inr ⟨rfl, rfl⟩⟩
  | make T l c =>
    simp only [opK] at hk ⊢
    split at hk
    · obtain ⟨q1, q2, q3, q4, q5, hk⟩ := hk
      exact ⟨_, _, _, fun K' hk' => ⟨q1, q2, q3, q4, q5, hk'⟩, hk, .inl rfl⟩
    · exact hk.elim
  | slice T x lo hi =>
    simp only [opK] at hk ⊢
    have opt : ∀ (d : Int) (o : Option Opd) (K1 : Int → Prop), optI σ.t d o K1 → ∃ n, (∀ K2 : Int → Prop, K2 n → optI σ.t d o K2) ∧ K1 n := by
      intro d o K1 h
      unfold optI at h ⊢
      split at h
      · exact ⟨_, fun _ h => h, h⟩
      · split at h
        · exact ⟨_, fun _ h => h, h⟩
        · exact h.elim
    split at hk
    · split at hk
      · obtain ⟨q0, q1, hk⟩ := hk
        obtain ⟨l, h1, hk⟩ := opt _ _ _ hk
        obtain ⟨u, h2, hk⟩ := opt _ _ _ hk
        exact ⟨_, _, _, fun K' hk' => ⟨q0, q1, h1 _ (h2 _ ⟨hk.1, hk.2.1, hk.2.2.1, hk'⟩)⟩, hk.2.2.2, .inl (by simp [wr]; omega)⟩
      · exact hk.elim
    · obtain ⟨q1, hk⟩ := hk
      obtain ⟨l, h1, hk⟩ := opt _ _ _ hk
      obtain ⟨u, h2, hk⟩ := opt _ _ _ hk
      exact ⟨_, _, _, fun K' hk' => ⟨q1, h1 _ (h2 _ ⟨hk.1, hk.2.1, hk.2.2.1, hk'⟩)⟩, hk.2.2.2, .inr ⟨rfl, rfl⟩⟩
    · obtain ⟨q1, hk⟩ := hk
      obtain ⟨l, h1, hk⟩ := opt _ _ _ hk
      obtain ⟨u, h2, hk⟩ := opt _ _ _ hk
      exact ⟨_, _, _, fun K' hk' => ⟨q1, h1 _ (h2 _ ⟨hk.1, hk.2.1, hk.2.2.1, hk'⟩)⟩, hk.2.2.2, .inr ⟨rfl, rfl⟩⟩
    · exact hk.elim
  | faddr T x i =>
    simp only [opK] at hk ⊢
    split at hk
    · split at hk
      · obtain ⟨p1, p2, hk⟩ := hk
        split at hk
        · exact ⟨_, _, _, fun K' hk' => ⟨p1, p2, hk.1, hk'⟩, hk.2, .inr ⟨rfl, rfl⟩⟩
        · exact ⟨_, _, _, fun K' hk' => ⟨p1, p2, hk.1, hk'⟩, hk.2, .inr ⟨rfl, rfl⟩⟩
        · exact hk.elim
      · exact hk.elim
    · exact hk.elim
  | field T x i =>
    simp only [opK] at hk ⊢
    split at hk
    · split at hk
      · obtain ⟨p1, p2, hk⟩ := hk
        split at hk
        · exact ⟨_, _, _, fun K' hk' => ⟨p1, p2, hk.1, hk'⟩, hk.2, .inr ⟨rfl, rfl⟩⟩
        · exact hk.elim
      · exact hk.elim
    · exact hk.elim
  | iaddr T x y =>
    simp only [opK] at hk ⊢
    split at hk
    · split at hk
      · obtain ⟨p1, p2, p3, hk⟩ := hk
        exact ⟨_, _, _, fun K' hk' => ⟨p1, p2, p3, hk'⟩, hk, .inr ⟨rfl, rfl⟩⟩
      · split at hk
        · obtain ⟨p1, p2, p3, p4, hk⟩ := hk
          exact ⟨_, _, _, fun K' hk' => ⟨p1, p2, p3, p4, hk'⟩, hk, .inr ⟨rfl, rfl⟩⟩
        · exact hk.elim
      · split at hk
        · obtain ⟨p1, p2, p3, p4, hk⟩ := hk
          exact ⟨_, _, _, fun K' hk' => ⟨p1, p2, p3, p4, hk'⟩, hk, .inr ⟨rfl, rfl⟩⟩
        · exact hk.elim
      · exact hk.elim
    · exact hk.elim
  | index T x y =>
    simp only [opK] at hk ⊢
    split at hk
    · exact ⟨_, _, _, fun K' hk' => ⟨hk.1, hk.2.1, hk'⟩, hk.2.2, .inr ⟨rfl, rfl⟩⟩
    · exact hk.elim
  | ext x i =>
    simp only [opK] at hk ⊢
    split at hk
    · exact ⟨_, _, _, fun K' hk' => ⟨hk.1, hk'⟩, hk.2, .inr ⟨rfl, rfl⟩⟩
    · exact hk.elim
  | len T x =>
    simp only [opK] at hk ⊢
    split at hk
    · split at hk
      · exact ⟨_, _, _, fun K' hk' => hk', hk, .inr ⟨rfl, rfl⟩⟩
      · exact hk.elim
    · split at hk
      · exact ⟨_, _, _, fun K' hk' => hk', hk, .inr ⟨rfl, rfl⟩⟩
      · exact hk.elim
    · exact hk.elim
  | max x y =>
    simp only [opK] at hk ⊢
    split at hk
    · exact ⟨_, _, _, fun K' hk' => hk', hk, .inr ⟨rfl, rfl⟩⟩
    · exact hk.elim
  | min x y =>
    simp only [opK] at hk ⊢
    split at hk
    · exact ⟨_, _, _, fun K' hk' => hk', hk, .inr ⟨rfl, rfl⟩⟩
    · exact hk.elim
  | app T S x y =>
    have appDet : ∀ (sz : Nat) (x : D) (es : List D) (ks : List Nat), ∀ K : D → List Ent → Nat → Prop, opK.appK k sz σ x es ks K → ∃ d h g, (∀ K' : D → List Ent → Nat → Prop, K' d h g → opK.appK k sz σ x es ks K') ∧ K d h g := by
      intro sz x es ks K hk
      unfold opK.appK at hk ⊢
      split at hk
      · exact ⟨_, _, _, fun K' hk' => ⟨hk.1, hk'⟩, hk.2⟩
      · split at hk
        · exact ⟨_, _, _, fun K' hk' => ⟨hk.1, hk.2.1, hk.2.2.1, hk'⟩, hk.2.2.2⟩
        · exact hk.elim
      · exact hk.elim
    have frzDet : ∀ d h g, frz fl K d h g → ∃ d2 h2 g2, (∀ K' : D → List Ent → Nat → Prop, K' d2 h2 g2 → frz fl K' d h g) ∧ K d2 h2 g2 := by
      intro d h g hk
      by_cases hf : fl = 2
      · subst hf
        cases d <;> try exact hk.elim
        rename_i j γ
        cases hfind : find h j γ with
        | none => simp [frz, hfind] at hk
        | some b => cases b with
          | cells cs => simp [frz, hfind] at hk
          | arr sz xs =>
            simp only [frz, hfind] at hk ⊢
            exact ⟨_, _, _, fun K' hk' => hk', hk⟩
      · have e : ∀ K' : D → List Ent → Nat → Prop, frz fl K' = K' := by
          intro K'; unfold frz; split
          · exact absurd rfl hf
          · rfl
        simp only [e] at hk ⊢
        exact ⟨_, _, _, fun K' hk' => hk', hk⟩
    simp only [opK] at hk ⊢
    split at hk
    · exact hk.elim
    · obtain ⟨p1, p2, hk⟩ := hk
      split at hk
      · obtain ⟨d, h, g, h1, h2⟩ := appDet _ _ _ _ _ hk
        obtain ⟨d2, h2', g2, h3, h4⟩ := frzDet _ _ _ h2
        exact ⟨d2, h2', g2, fun K' hk' => ⟨p1, p2, h1 _ (h3 K' hk')⟩, h4, .inl rfl⟩
      · obtain ⟨q1, hk⟩ := hk
        obtain ⟨d, h, g, h1, h2⟩ := appDet _ _ _ _ _ hk
        obtain ⟨d2, h2', g2, h3, h4⟩ := frzDet _ _ _ h2
        exact ⟨d2, h2', g2, fun K' hk' => ⟨p1, p2, q1, h1 _ (h3 K' hk')⟩, h4, .inl rfl⟩
      · obtain ⟨q1, q2, hk⟩ := hk
        obtain ⟨d, h, g, h1, h2⟩ := appDet _ _ _ _ _ hk
        obtain ⟨d2, h2', g2, h3, h4⟩ := frzDet _ _ _ h2
        exact ⟨d2, h2', g2, fun K' hk' => ⟨p1, p2, q1, q2, h1 _ (h3 K' hk')⟩, h4, .inl rfl⟩
      · split at hk
        · obtain ⟨q1, q2, q3, hk⟩ := hk
          obtain ⟨d, h, g, h1, h2⟩ := appDet _ _ _ _ _ hk
          obtain ⟨d2, h2', g2, h3, h4⟩ := frzDet _ _ _ h2
          exact ⟨d2, h2', g2, fun K' hk' => ⟨p1, p2, q1, q2, q3, h1 _ (h3 K' hk')⟩, h4, .inl rfl⟩
        · exact hk.elim
      · exact hk.elim

theorem opK_det {tt : Nat → Ty} {k : Nat} {a : AOper} {σ : St} {K : D → List Ent → Nat → Prop} (hk : opK tt k a σ K) :
    ∃ d h g, opK tt k a σ (Eq3 d h g) ∧ K d h g ∧ (wr a = true ∨ (h = σ.h ∧ g = σ.g)) :=
  let ⟨d, h, g, h1, h2, h3⟩ := opK_one hk
  ⟨d, h, g, h1 _ ⟨rfl, rfl, rfl⟩, h2, h3⟩

theorem opK_mono {tt : Nat → Ty} {k : Nat} {a : AOper} {σ : St} {K K' : D → List Ent → Nat → Prop} (hk : opK tt k a σ K) (h : ∀ d h g, K d h g → K' d h g) : opK tt k a σ K' :=
  let ⟨_, _, _, h1, h2, _⟩ := opK_one hk
  h1 _ (h _ _ _ h2)

theorem callOf_some {o : AOp} {f : Opd} {as : List Opd} (h : callOf o = some (f, as)) : o = .call f as := by
  cases o <;> simp [callOf] at h
  rw [h.1, h.2]

theorem callOf_none {o : AOp} (h : callOf o = none) (f : Opd) (as : List Opd) : o ≠ .call f as := by
  intro e; rw [e] at h; cases h

theorem opsKd_of {C : Ctx} {kb : Nat} {inlK : Nat → List D → List Ent → Nat → (D → List Ent → Nat → Prop) → Prop} {Q : St → Prop} : ∀ (as : List AOper) (σ : St), opsKc C kb inlK as σ Q → opsKd C kb inlK as σ Q
  | [], σ, h => h
  | a :: as, σ, h => by
    have go : ∀ t, (match callOf a.o with
        | some (f, args) => callD C (kb + 8 * a.d.getD 0) inlK a.fl (ev t f) (evL t args) ⟨t, σ.h, σ.g⟩ fun d h g => opsKc C kb inlK as ⟨put t a.d d, h, g⟩ Q
        | none => opK C.tt (kb + 8 * a.d.getD 0) a ⟨t, σ.h, σ.g⟩ fun d h g => opsKc C kb inlK as ⟨put t a.d d, h, g⟩ Q) →
        ∃ d h g, opC C kb inlK a ⟨t, σ.h, σ.g⟩ (Eq3 d h g) ∧ (wr a = true ∨ (h = σ.h ∧ g = σ.g)) ∧ opsKd C kb inlK as ⟨put t a.d d, h, g⟩ Q := by
      intro t ht
      unfold opC
      split at ht
      · rename_i f args hao
        have hao := callOf_some hao
        obtain ⟨d, h, g, h1, h2, h3⟩ := ht
        refine ⟨d, h, g, ?_, ?_, opsKd_of as _ h3⟩
        · simp only [hao]; exact h1
        · unfold wr; simp only [hao]; exact h2
      · rename_i hne
        have hne := callOf_none hne
        obtain ⟨d, h, g, h1, h2, h3⟩ := opK_det ht
        refine ⟨d, h, g, ?_, h3, opsKd_of as _ h2⟩
        split
        · rename_i f args hao; exact absurd hao (hne f args)
        · exact h1
    simp only [opsKc, opsKd, guardK] at h ⊢
    split at h
    · exact go _ h
    · split at h
      · exact ⟨fun e => go _ (h.1 e), fun e => opsKd_of as _ (h.2 e)⟩
      · exact opsKd_of as _ h
      · exact h.elim

end Go.PS
end

section
-- Regions whose order Go leaves open, gone through in every order that may come to something else.
set_option linter.unusedVariables false
set_option linter.unusedSimpArgs false
set_option linter.unusedSectionVars false
namespace Go.PS

def confD (a b : AOper) : Bool := match a.d with | some x => (rd b).contains x || b.d == some x | none => false
/-- Do two operations stand in each other's way by their slots? -/
def confS (a b : AOper) : Bool := confD a b || confD b a

/-- May operation 'i' come next? -/
def rdy (ops : List Oper) (S : List Nat) (i : Nat) : Bool :=
  !(S.contains i) && match ops[i]? with | some o => o.after.toList.all fun e => !(Region.binds .any e) || S.contains e.on | none => false

def alts : Ex → List Nat
  | .alt i _ r => i :: alts r
  | _ => []

def exC (ops : List Oper) (aops : List AOper) : Bool → List Nat → Ex → Bool
  | hd, S, .fin => hd && (List.range ops.length).all fun j => S.contains j
  | hd, S, .one i t => hd && rdy ops S i && (match aops[i]? with | some a => !(acc a) && !(wr a) | none => false) && exC ops aops true (i :: S) t
  | hd, S, .imm i t => hd && rdy ops S i && exC ops aops true (i :: S) t
  | hd, S, .alt i t r => (!hd || ((List.range ops.length).all fun j => !(rdy ops S j) || (alts (.alt i t r)).contains j) && ((List.range ops.length).any fun j => !(S.contains j))) && exC ops aops true (i :: S) t && exC ops aops false S r
  | hd, _, .stop => !hd

def exChk (ops : List Oper) (aops : List AOper) (tr : Ex) : Bool := drawChk confS ops aops && (aops.all fun a => a.gd.isNone) && exC ops aops true [] tr

section
variable {C : Ctx} {kb : Nat} {inlK : Nat → List D → List Ent → Nat → (D → List Ent → Nat → Prop) → Prop} {ops : Array Oper} {aops : List AOper} {Q : St → Prop}

/-- One operation, what it gives being one thing. -/
def exD (C : Ctx) (kb : Nat) (inlK : Nat → List D → List Ent → Nat → (D → List Ent → Nat → Prop) → Prop) (aops : List AOper) (i : Nat) (σ : St) (K : St → Prop) : Prop :=
  ∃ a, aops[i]? = some a ∧ ∃ d h g, opC C kb inlK a ⟨σ.t, σ.h, σ.g⟩ (Eq3 d h g) ∧ (wr a = true ∨ (h = σ.h ∧ g = σ.g)) ∧ K ⟨put σ.t a.d d, h, g⟩

/-- All orders. -/
def exF (C : Ctx) (kb : Nat) (inlK : Nat → List D → List Ent → Nat → (D → List Ent → Nat → Prop) → Prop) (ops : Array Oper) (aops : List AOper) (Q : St → Prop) : Nat → List Nat → St → Prop
  | 0, _, σ => Q σ
  | m + 1, S, σ => ∀ i, rdy ops.toList S i = true → exD C kb inlK aops i σ (exF C kb inlK ops aops Q m (i :: S))

theorem exD_mono {i : Nat} {σ : St} {K K' : St → Prop} (h : ∀ σ, K σ → K' σ) (hk : exD C kb inlK aops i σ K) : exD C kb inlK aops i σ K' := by
  obtain ⟨a, ha, d, h1, g1, q1, q2, q3⟩ := hk
  exact ⟨a, ha, d, h1, g1, q1, q2, h _ q3⟩

theorem rdy_iff {S : List Nat} {i : Nat} : rdy ops.toList S i = true ↔ i ∉ S ∧ ∃ o, ops[i]? = some o ∧ ∀ e ∈ o.after, Region.binds .any e = true → e.on ∈ S := by
  unfold rdy
  rw [Bool.and_eq_true]
  refine and_congr (by simp) ?_
  rw [Array.getElem?_toList]
  cases ops[i]? with
  | none => simp
  | some o =>
    simp only [List.all_eq_true, Bool.or_eq_true, Bool.not_eq_true', List.contains_iff_mem, Option.some.injEq, exists_eq_left', Array.mem_toList_iff]
    constructor
    · intro h e he hb
      rcases h e he with q | q
      · rw [hb] at q; cases q
      · simpa using q
    · intro h e he
      cases hb : Region.binds .any e with
      | false => exact .inl rfl
      | true => exact .inr (by simpa using h e he hb)

theorem rdy_cons {S : List Nat} {i j : Nat} (hi : rdy ops.toList S i = true) (hne : i ≠ j) : rdy ops.toList (j :: S) i = true := by
  obtain ⟨h1, o, ho, h2⟩ := rdy_iff.1 hi
  exact rdy_iff.2 ⟨by simp [hne, h1], o, ho, fun e he hb => List.mem_cons_of_mem _ (h2 e he hb)⟩

theorem rdy_congr {S S' : List Nat} (hS : ∀ x, x ∈ S ↔ x ∈ S') {i : Nat} : rdy ops.toList S i = rdy ops.toList S' i := by
  rw [Bool.eq_iff_iff, rdy_iff, rdy_iff, hS i]
  refine and_congr_right (fun _ => ?_)
  constructor
  · rintro ⟨o, ho, h⟩; exact ⟨o, ho, fun e he hb => (hS _).1 (h e he hb)⟩
  · rintro ⟨o, ho, h⟩; exact ⟨o, ho, fun e he hb => (hS _).2 (h e he hb)⟩

theorem exF_congr (hQ : ∀ t t' h g, (∀ n, getT t n = getT t' n) → Q ⟨t, h, g⟩ → Q ⟨t', h, g⟩) : ∀ (m : Nat) (S S' : List Nat) (t t' : List (Nat × D)) (h : List Ent) (g : Nat), (∀ x, x ∈ S ↔ x ∈ S') → (∀ n, getT t n = getT t' n) →
    exF C kb inlK ops aops Q m S ⟨t, h, g⟩ → exF C kb inlK ops aops Q m S' ⟨t', h, g⟩
  | 0, S, S', t, t', h, g, hS, ht, hk => hQ t t' h g ht hk
  | m + 1, S, S', t, t', h, g, hS, ht, hk => by
    intro i hi
    rw [← rdy_congr hS] at hi
    obtain ⟨a, ha, d, h1, g1, q1, q2, q3⟩ := hk i hi
    refine ⟨a, ha, d, h1, g1, opC_congr (fun n _ => ht n) q1, q2, exF_congr hQ m _ _ _ _ _ _ (fun x => by simp [hS x]) (fun n => ?_) q3⟩
    simp only [getT_put, ht]

/-- What looks at what is never written again gives the same whatever the run's own is. -/
theorem opC_imm {a : AOper} {t : List (Nat × D)} {h h' : List Ent} {g g' : Nat} {d : D} (ha : isImm a t) (hk : opC C kb inlK a ⟨t, h, g⟩ (Eq3 d h' g')) : h' = h ∧ g' = g ∧ ∀ h2 g2, opC C kb inlK a ⟨t, h2, g2⟩ (Eq3 d h2 g2) := by
  obtain ⟨ad, o, T, gd, fl⟩ := a
  cases o with
  | load T2 x =>
    simp only [isImm] at ha
    simp only [opC, opK] at hk ⊢
    cases hx : ev t x <;> rw [hx] at ha <;> try exact ha.2.elim
    rw [hx] at hk
    obtain ⟨p1, h1, h2, h3⟩ := hk
    exact ⟨h2.symm, h3.symm, fun _ _ => ⟨p1, h1, rfl, rfl⟩⟩
  | faddr T2 x n =>
    simp only [isImm] at ha
    simp only [opC, opK] at hk ⊢
    cases hx : ev t x <;> rw [hx] at ha <;> try exact ha.elim
    rename_i d2
    rw [hx] at hk
    split at hk
    · split at hk
      · obtain ⟨p1, p2, hk⟩ := hk
        cases d2 <;> try exact hk.elim
        obtain ⟨p3, h1, h2, h3⟩ := hk
        exact ⟨h2.symm, h3.symm, fun _ _ => ⟨p1, p2, p3, h1, rfl, rfl⟩⟩
      · exact hk.elim
    · exact hk.elim
  | len T2 x =>
    simp only [isImm] at ha
    simp only [opC, opK] at hk ⊢
    cases hx : ev t x <;> rw [hx] at ha <;> try exact ha.elim
    rw [hx] at hk
    split at hk
    · exact hk.elim
    · simp only [lenD] at hk ⊢
      obtain ⟨h1, h2, h3⟩ := hk
      exact ⟨h2.symm, h3.symm, fun _ _ => ⟨h1, rfl, rfl⟩⟩
    · exact hk.elim
  | iaddr T2 x y =>
    simp only [isImm] at ha
    simp only [opC, opK] at hk ⊢
    cases hx : ev t x <;> rw [hx] at ha <;> try exact ha.elim
    rw [hx] at hk
    split at hk
    · obtain ⟨p1, p2, p3, h1, h2, h3⟩ := hk
      exact ⟨h2.symm, h3.symm, fun _ _ => ⟨p1, p2, p3, h1, rfl, rfl⟩⟩
    · exact hk.elim
  | _ => exact ha.elim

/-- An operation that no order hangs on may come first. -/
theorem ex_first {M : List Nat} (hd : DOk confS ops aops M) (hQ : ∀ t t' h g, (∀ n, getT t n = getT t' n) → Q ⟨t, h, g⟩ → Q ⟨t', h, g⟩) {i : Nat} {a : AOper} (ha : aops[i]? = some a) :
    ∀ (m : Nat) (S : List Nat) (σ : St), (∀ (j : Nat) (o : Oper), j ∈ S → ops[j]? = some o → ∀ e ∈ o.after, Region.binds .any e = true → e.on ∈ S) → rdy ops.toList S i = true → cn (fun j => S.contains j) ops.size = m + 1 →
      (∃ di, (∀ h2 g2, opC C kb inlK a ⟨σ.t, h2, g2⟩ (Eq3 di h2 g2)) ∧ exF C kb inlK ops aops Q m (i :: S) ⟨put σ.t a.d di, σ.h, σ.g⟩) → exF C kb inlK ops aops Q (m + 1) S σ := by
  intro m
  induction m with
  | zero =>
    intro S σ hcl hi hcn hk j hj
    have hij : j = i := by
      -- one is left
      obtain ⟨hi1, oi, hoi, _⟩ := rdy_iff.1 hi
      obtain ⟨hj1, oj, hoj, _⟩ := rdy_iff.1 hj
      have hil : i < ops.size := (Array.getElem?_eq_some_iff.1 hoi).1
      have hjl : j < ops.size := (Array.getElem?_eq_some_iff.1 hoj).1
      by_cases hne : j = i
      · exact hne
      · exfalso
        have c1 := cn_set (S := fun j => S.contains j) (S' := fun x => (i :: S).contains x) (i := i) (fun x hx => by simp [hx]) (by simpa using hi1) (by simp) ops.size
        have c2 := cn_set (S := fun x => (i :: S).contains x) (S' := fun x => (j :: i :: S).contains x) (i := j) (fun x hx => by simp [hx]) (by simp [hne, hj1]) (by simp) ops.size
        rw [if_pos hil] at c1
        rw [if_pos hjl] at c2
        omega
    subst hij
    obtain ⟨di, hfree, hX⟩ := hk
    exact ⟨a, ha, di, σ.h, σ.g, hfree _ _, .inr ⟨rfl, rfl⟩, hX⟩
  | succ m ih =>
    intro S σ hcl hi hcn hk j hj
    by_cases hij : j = i
    · subst hij
      obtain ⟨di, hfree, hX⟩ := hk
      exact ⟨a, ha, di, σ.h, σ.g, hfree _ _, .inr ⟨rfl, rfl⟩, hX⟩
    · obtain ⟨di, hfree, hX⟩ := hk
      obtain ⟨b, hb, dj, h2, g2, p1, p2, hY⟩ := hX j (rdy_cons hj hij)
      obtain ⟨hi1, oi, hoi, hi2⟩ := rdy_iff.1 hi
      obtain ⟨hj1, oj, hoj, hj2⟩ := rdy_iff.1 hj
      have hcl' : ∀ (j : Nat) (o : Oper), (fun j => S.contains j) j = true → ops[j]? = some o → ∀ e ∈ o.after, Region.binds .any e = true → (fun j => S.contains j) e.on = true := fun j o hj ho e he hb => by
        have := hcl j o (by simpa using hj) ho e he hb
        simpa using this
      have nc : confS a b = false := by
        cases hc : confS a b with
        | false => rfl
        | true =>
          exfalso
          rcases Nat.lt_or_gt_of_ne hij with hlt | hgt
          · have hc' : confS b a = true := by unfold confS at hc ⊢; rw [Bool.or_comm]; exact hc
            have := pred_in hd (S := fun j => S.contains j) hcl' i oi j hoi (fun e he hb => by simpa using hi2 e he hb) (hd.conf j i b a hlt hb ha hc')
            exact hj1 (by simpa using this)
          · have := pred_in hd (S := fun j => S.contains j) hcl' j oj i hoj (fun e he hb => by simpa using hj2 e he hb) (hd.conf i j a b hgt ha hb hc)
            exact hi1 (by simpa using this)
      simp only [confS, Bool.or_eq_false_iff] at nc
      have nab : ∀ x, a.d = some x → x ∉ rd b ∧ b.d ≠ some x := by
        intro x hx
        have := nc.1
        simp only [confD, hx, Bool.or_eq_false_iff] at this
        exact ⟨by simpa using this.1, by simpa using this.2⟩
      have nba : ∀ x, b.d = some x → x ∉ rd a := by
        intro x hx
        have := nc.2
        simp only [confD, hx, Bool.or_eq_false_iff] at this
        simpa using this.1
      have p1' : opC C kb inlK b ⟨σ.t, σ.h, σ.g⟩ (Eq3 dj h2 g2) := opC_congr (fun n hn => by
        rw [getT_put]
        split
        · rename_i e
          exact absurd (List.mem_append.2 (.inl hn)) (nab n e).1
        · rfl) p1
      refine ⟨b, hb, dj, h2, g2, p1', p2, ?_⟩
      have hil : i < ops.size := (Array.getElem?_eq_some_iff.1 hoi).1
      have hjl : j < ops.size := (Array.getElem?_eq_some_iff.1 hoj).1
      have c1 := cn_set (S := fun x => S.contains x) (S' := fun x => (j :: S).contains x) (i := j) (fun x hx => by simp [hx]) (by simpa using hj1) (by simp) ops.size
      rw [if_pos hjl] at c1
      refine ih (j :: S) _ (fun k o hk ho e he hbd => ?_) (rdy_cons hi (Ne.symm hij)) (by omega) ⟨di, fun h3 g3 => ?_, ?_⟩
      · rcases List.mem_cons.1 hk with rfl | hk
        · rw [hoj] at ho
          injection ho with ho
          subst ho
          exact List.mem_cons_of_mem _ (hj2 e he hbd)
        · exact List.mem_cons_of_mem _ (hcl k o hk ho e he hbd)
      · refine opC_congr (fun n hn => ?_) (hfree h3 g3)
        rw [getT_put]
        split
        · rename_i e
          exact absurd (List.mem_append.2 (.inl hn)) (nba n e)
        · rfl
      · refine exF_congr hQ m _ _ _ _ _ _ (fun x => by simp only [List.mem_cons]; constructor <;> (rintro (h | h | h) <;> simp [h])) (fun n => ?_) hY
        simp only [getT_put]
        by_cases e1 : a.d = some n
        · have e2 := (nab n e1).2
          rw [if_pos e1, if_neg e2, if_pos e1]
        · rw [if_neg e1, if_neg e1]

theorem exO_exD {i : Nat} {σ : St} {K : St → Prop} (hng : ∀ a ∈ aops, a.gd.isNone = true) (h : exO C kb inlK aops[i]? σ K) : exD C kb inlK aops i σ K := by
  unfold exO at h
  split at h
  · rename_i a ha
    have h := opsKd_of _ _ h
    have hg : a.gd = none := by have := hng a (List.mem_of_getElem? ha); simpa using this
    simp only [opsKd, hg, guardK] at h
    obtain ⟨d, h1, g1, q1, q2, q3⟩ := h
    exact ⟨a, ha, d, h1, g1, q1, q2, q3⟩
  · exact h.elim

theorem exF_of {M : List Nat} (hd : DOk confS ops aops M) (hng : ∀ a ∈ aops, a.gd.isNone = true) (hQ : ∀ t t' h g, (∀ n, getT t n = getT t' n) → Q ⟨t, h, g⟩ → Q ⟨t', h, g⟩) :
    ∀ (tr : Ex),
      (∀ (S : List Nat) (σ : St), (∀ (j : Nat) (o : Oper), j ∈ S → ops[j]? = some o → ∀ e ∈ o.after, Region.binds .any e = true → e.on ∈ S) → exC ops.toList aops true S tr = true → exT C kb inlK aops Q tr σ →
        exF C kb inlK ops aops Q (cn (fun j => S.contains j) ops.size) S σ) ∧
      (∀ (S : List Nat) (σ : St), (∀ (j : Nat) (o : Oper), j ∈ S → ops[j]? = some o → ∀ e ∈ o.after, Region.binds .any e = true → e.on ∈ S) → exC ops.toList aops false S tr = true → exT C kb inlK aops Q tr σ →
        ∀ i ∈ alts tr, rdy ops.toList S i = true → exD C kb inlK aops i σ (exF C kb inlK ops aops Q (cn (fun j => (i :: S).contains j) ops.size) (i :: S)))
  | .fin => by
    refine ⟨fun S σ hcl hc hk => ?_, fun S σ hcl hc hk i hi => by simp [alts] at hi⟩
    simp only [exC, Bool.true_and, List.all_eq_true, List.mem_range] at hc
    rw [cn_all ops.size (fun j hj => hc j (by simpa using hj))]
    exact hk
  | .stop => by
    refine ⟨fun S σ hcl hc hk => by simp [exC] at hc, fun S σ hcl hc hk i hi => by simp [alts] at hi⟩
  | .one i t => by
    refine ⟨fun S σ hcl hc hk => ?_, fun S σ hcl hc hk j hj => by simp [alts] at hj⟩
    simp only [exC, Bool.true_and, Bool.and_eq_true] at hc
    obtain ⟨⟨hr, hf⟩, hc⟩ := hc
    split at hf
    · rename_i a ha
      simp only [Bool.and_eq_true, Bool.not_eq_true'] at hf
      obtain ⟨hi1, o, ho, hi2⟩ := rdy_iff.1 hr
      have hil : i < ops.size := (Array.getElem?_eq_some_iff.1 ho).1
      have c1 := cn_set (S := fun x => S.contains x) (S' := fun x => (i :: S).contains x) (i := i) (fun x hx => by simp [hx]) (by simpa using hi1) (by simp) ops.size
      rw [if_pos hil] at c1
      rw [← c1]
      obtain ⟨a', ha', di, h1, g1, q1, q2, hX⟩ := exO_exD hng hk
      rw [ha] at ha'
      injection ha' with ha'
      subst ha'
      obtain ⟨e1, e2, hfree⟩ := opC_free hf.1 q1
      subst e1; subst e2
      exact ex_first hd hQ ha _ S σ hcl hr c1.symm ⟨di, hfree, (exF_of hd hng hQ t).1 (i :: S) _ (fun k o' hk ho' e he hbd => by
        rcases List.mem_cons.1 hk with rfl | hk
        · rw [ho] at ho'
          injection ho' with ho'
          subst ho'
          exact List.mem_cons_of_mem _ (hi2 e he hbd)
        · exact List.mem_cons_of_mem _ (hcl k o' hk ho' e he hbd)) hc hX⟩
    · cases hf
  | .imm i t => by
    refine ⟨fun S σ hcl hc hk => ?_, fun S σ hcl hc hk j hj => by simp [alts] at hj⟩
    simp only [exC, Bool.true_and, Bool.and_eq_true] at hc
    obtain ⟨hr, hc⟩ := hc
    obtain ⟨him, hk⟩ := hk
    obtain ⟨hi1, o, ho, hi2⟩ := rdy_iff.1 hr
    have hil : i < ops.size := (Array.getElem?_eq_some_iff.1 ho).1
    have c1 := cn_set (S := fun x => S.contains x) (S' := fun x => (i :: S).contains x) (i := i) (fun x hx => by simp [hx]) (by simpa using hi1) (by simp) ops.size
    rw [if_pos hil] at c1
    rw [← c1]
    obtain ⟨a, ha, di, h1, g1, q1, q2, hX⟩ := exO_exD hng hk
    have him : isImm a σ.t := by unfold isImmO at him; rw [ha] at him; exact him
    obtain ⟨e1, e2, hfree⟩ := opC_imm him q1
    subst e1; subst e2
    exact ex_first hd hQ ha _ S σ hcl hr c1.symm ⟨di, hfree, (exF_of hd hng hQ t).1 (i :: S) _ (fun k o' hk ho' e he hbd => by
      rcases List.mem_cons.1 hk with rfl | hk
      · rw [ho] at ho'
        injection ho' with ho'
        subst ho'
        exact List.mem_cons_of_mem _ (hi2 e he hbd)
      · exact List.mem_cons_of_mem _ (hcl k o' hk ho' e he hbd)) hc hX⟩
  | .alt i t r => by
    have chain : ∀ (S : List Nat) (σ : St), (∀ (j : Nat) (o : Oper), j ∈ S → ops[j]? = some o → ∀ e ∈ o.after, Region.binds .any e = true → e.on ∈ S) → exC ops.toList aops true (i :: S) t = true → exC ops.toList aops false S r = true → exT C kb inlK aops Q (.alt i t r) σ →
        ∀ j ∈ alts (.alt i t r), rdy ops.toList S j = true → exD C kb inlK aops j σ (exF C kb inlK ops aops Q (cn (fun k => (j :: S).contains k) ops.size) (j :: S)) := by
      intro S σ hcl hc1 hc2 hk j hj hr
      simp only [alts, List.mem_cons] at hj
      by_cases hji : j = i
      · subst hji
        obtain ⟨hi1, o, ho, hi2⟩ := rdy_iff.1 hr
        exact exD_mono (fun σ' hs => (exF_of hd hng hQ t).1 (j :: S) σ' (fun k o' hk ho' e he hbd => by
          rcases List.mem_cons.1 hk with rfl | hk
          · rw [ho] at ho'
            injection ho' with ho'
            subst ho'
            exact List.mem_cons_of_mem _ (hi2 e he hbd)
          · exact List.mem_cons_of_mem _ (hcl k o' hk ho' e he hbd)) hc1 hs) (exO_exD hng hk.1)
      · exact (exF_of hd hng hQ r).2 S σ hcl hc2 hk.2 j (hj.resolve_left hji) hr
    refine ⟨fun S σ hcl hc hk => ?_, fun S σ hcl hc hk => ?_⟩
    · simp only [exC, Bool.not_true, Bool.false_or, Bool.and_eq_true] at hc
      obtain ⟨⟨⟨hcov, hany⟩, hc1⟩, hc2⟩ := hc
      cases hm : cn (fun j => S.contains j) ops.size with
      | zero =>
        exfalso
        rw [List.any_eq_true] at hany
        obtain ⟨j, hj, hj2⟩ := hany
        have := cn_zero ops.size hm j (by simpa using hj)
        rw [this] at hj2
        cases hj2
      | succ m =>
        intro j hj
        obtain ⟨hj1, o, ho, _⟩ := rdy_iff.1 hj
        have hjl : j < ops.size := (Array.getElem?_eq_some_iff.1 ho).1
        rw [List.all_eq_true] at hcov
        have h1 := hcov j (by simpa using hjl)
        rw [hj] at h1
        have h2 : j ∈ alts (.alt i t r) := by simpa using h1
        have c1 := cn_set (S := fun x => S.contains x) (S' := fun x => (j :: S).contains x) (i := j) (fun x hx => by simp [hx]) (by simpa using hj1) (by simp) ops.size
        rw [if_pos hjl, hm] at c1
        have c2 : cn (fun k => (j :: S).contains k) ops.size = m := by omega
        have := chain S σ hcl hc1 hc2 hk j h2 hj
        rw [c2] at this
        exact this
    · simp only [exC, Bool.not_false, Bool.true_or, Bool.true_and, Bool.and_eq_true] at hc
      exact chain S σ hcl hc.1 hc.2 hk

end

section
variable {C : Ctx} {nt : Nat} {w0 : World} {Fo : Nat → Prop} {B : Option Nat} {Q : Exit → Act → World → Prop} {kb : Nat} {inlK : Nat → List D → List Ent → Nat → (D → List Ent → Nat → Prop) → Prop}

theorem any_soundF (hty : TyOk C.P C.tt) (hin : InlOk C inlK) {ops : Array Oper} {aops : List AOper} {M : List Nat} (hd : DOk confS ops aops M) (hng : ∀ a ∈ aops, a.gd.isNone = true) (hok : ∀ (i : Nat) (o : Oper) (ao : AOper), ops[i]? = some o → aops[i]? = some ao → OpOk ops nt o ao)
    {Qc : St → Prop} {ws : World} {hs : List Ent} {μs : Nat → Value} {gs : Nat} {os : List Nat} (hfin : ∀ (σ : St) (a : Act) (w : World) (μ : Nat → Value) (own : List Nat), Qc σ → Out w0 Fo B ws hs μs gs os w σ.h μ σ.g own → SInv nt w0 Fo B σ a w μ own → Q .normal a w) :
    ∀ (m : Nat) (S : List Nat) (listed : Array Bool), listed.size = ops.size → (∀ j, j < ops.size → (listed.getD j false = true ↔ j ∈ S)) → cn (fun j => S.contains j) ops.size = m → ∀ fuel, m ≤ fuel → ∀ (σ : St) (a : Act) (w : World) (μ : Nat → Value) (own : List Nat),
      exF C kb inlK ops aops Qc m S σ → SInv nt w0 Fo B σ a w μ own → Out w0 Fo B ws hs μs gs os w σ.h μ σ.g own → wpAny C.P .any ops Q fuel listed a w := by
  have done : ∀ (listed : Array Bool), listed.size = ops.size → Region.ready .any ops listed = [] → ∀ j, j < ops.size → listed.getD j false = true := by
    intro listed hsz hr j
    induction j using Nat.strongRecOn with
    | _ j ih =>
      intro hj
      cases hl : listed.getD j false with
      | true => rfl
      | false =>
        exfalso
        have : j ∈ Region.ready .any ops listed := by
          rw [mem_ready]
          refine ⟨?_, ops[j], Array.getElem?_eq_getElem hj, fun e he hb => ih e.on (hd.back j _ (Array.getElem?_eq_getElem hj) e he hb) (Nat.lt_trans (hd.back j _ (Array.getElem?_eq_getElem hj) e he hb) hj)⟩
          rw [Array.getD_eq_getD_getElem?, Array.getElem?_eq_getElem (by omega)] at hl ⊢
          simpa using hl
        rw [hr] at this
        cases this
  have rdyOf : ∀ (S : List Nat) (listed : Array Bool), listed.size = ops.size → (∀ j, j < ops.size → (listed.getD j false = true ↔ j ∈ S)) → ∀ i, i ∈ Region.ready .any ops listed → rdy ops.toList S i = true := by
    intro S listed hsz hS i hi
    rw [mem_ready] at hi
    obtain ⟨h1, o, ho, h2⟩ := hi
    have hil : i < ops.size := (Array.getElem?_eq_some_iff.1 ho).1
    refine rdy_iff.2 ⟨fun hm => ?_, o, ho, fun e he hb => ?_⟩
    · have h3 := (hS i hil).2 hm
      simp only [Array.getD_eq_getD_getElem?, Array.getElem?_eq_getElem (show i < listed.size by omega)] at h1 h3
      simp at h1 h3
      rw [h1] at h3; cases h3
    · have h3 := h2 e he hb
      have hel : e.on < ops.size := Nat.lt_trans (hd.back i o ho e he hb) hil
      exact (hS _ hel).1 h3
  intro m
  induction m with
  | zero =>
    intro S listed hsz hS hcn fuel hfu σ a w μ own hk SI out
    have hall : ∀ j, j < ops.size → j ∈ S := fun j hj => by simpa using cn_zero ops.size hcn j hj
    have hno : Region.ready .any ops listed = [] := by
      cases hr : Region.ready .any ops listed with
      | nil => rfl
      | cons i is =>
        exfalso
        have h1 := rdyOf S listed hsz hS i (by rw [hr]; simp)
        obtain ⟨h2, o, ho, _⟩ := rdy_iff.1 h1
        exact h2 (hall i (Array.getElem?_eq_some_iff.1 ho).1)
    cases fuel with
    | zero => exact ⟨hno, hfin σ a w μ own hk out SI⟩
    | succ fuel => exact ⟨fun _ => hfin σ a w μ own hk out SI, fun i hi => by rw [hno] at hi; cases hi⟩
  | succ m ih =>
    intro S listed hsz hS hcn fuel hfu σ a w μ own hk SI out
    cases fuel with
    | zero => omega
    | succ fuel =>
      refine ⟨fun hr => ?_, fun i hi => ?_⟩
      · exfalso
        have := cn_all (S := fun j => S.contains j) ops.size (fun j hj => by simpa using (hS j hj).1 (done listed hsz hr j hj))
        omega
      · have hr := rdyOf S listed hsz hS i hi
        obtain ⟨hi1, o, ho, hi2⟩ := rdy_iff.1 hr
        have hil : i < ops.size := (Array.getElem?_eq_some_iff.1 ho).1
        obtain ⟨ao, hao, d, h2, g2, hop, hw, hk'⟩ := hk i hr
        have hokk := hok i o ao ho hao
        have hgn : ao.gd = none := by have := hng ao (List.mem_of_getElem? hao); simpa using this
        unfold wpOp
        rw [ho]
        have hguard := (wanted_of hokk SI.tmps).1 (by rw [hgn]; trivial)
        simp only [hguard, if_true]
        refine .inl (Oper.wp_mono ?_ (step_sound (Q := Q) hty SI hokk hin hop))
        rintro a' w' ⟨d', h', μ', G', o', ⟨rfl, rfl, rfl⟩, out', S'⟩
        have c1 := cn_set (S := fun x => S.contains x) (S' := fun x => (i :: S).contains x) (i := i) (fun x hx => by simp [hx]) (by simpa using hi1) (by simp) ops.size
        rw [if_pos hil] at c1
        refine ih (i :: S) (listed.setIfInBounds i true) (by simp [hsz]) (fun j hj => ?_) (by omega) fuel (by omega) _ a' w' μ' o' hk' S' (Out.trans out out')
        by_cases hji : j = i
        · subst hji
          simp [show j < listed.size by omega]
        · rw [getD_set_ne false (Ne.symm hji), hS j hj]
          simp [hji]

/-- A region gone through in all orders is sound. -/
theorem ex_sound (hty : TyOk C.P C.tt) (hin : InlOk C inlK) {ops : Array Oper} {aops : List AOper} (hok : ∀ (i : Nat) (o : Oper) (ao : AOper), ops[i]? = some o → aops[i]? = some ao → OpOk ops nt o ao) {tr : Ex} (hc : exChk ops.toList aops tr = true)
    {Qc : St → Prop} (hQ : ∀ t t' h g, (∀ n, getT t n = getT t' n) → Qc ⟨t, h, g⟩ → Qc ⟨t', h, g⟩) {σ : St} (hr : exT C kb inlK aops Qc tr σ) {a : Act} {w : World} {μ : Nat → Value} {own : List Nat} (S : SInv nt w0 Fo B σ a w μ own)
    (hfin : ∀ (σ' : St) (a' : Act) (w' : World) (μ' : Nat → Value) (o' : List Nat), Qc σ' → Out w0 Fo B w σ.h μ σ.g own w' σ'.h μ' σ'.g o' → SInv nt w0 Fo B σ' a' w' μ' o' → Q .normal a' w') :
    wpAny C.P .any ops Q ops.size (Array.replicate ops.size false) a w := by
  unfold exChk at hc
  simp only [Bool.and_eq_true, List.all_eq_true] at hc
  obtain ⟨⟨hdc, hng⟩, hc⟩ := hc
  obtain ⟨M, hd⟩ := drawChk_ok hdc
  have hF := (exF_of (C := C) (kb := kb) (inlK := inlK) hd hng hQ tr).1 [] σ (fun j o hj => by simp at hj) hc hr
  have hcn : ∀ (S : Nat → Bool) m, cn S m ≤ m := by
    intro S m
    induction m with
    | zero => exact Nat.le_refl _
    | succ m ih => simp only [cn]; split <;> omega
  exact any_soundF hty hin hd hng hok (Qc := Qc) hfin _ [] _ (by simp) (fun j hj => by simp [hj]) rfl ops.size (hcn _ _) σ a w μ own hF S S.inv.refl
end
end Go.PS
end
