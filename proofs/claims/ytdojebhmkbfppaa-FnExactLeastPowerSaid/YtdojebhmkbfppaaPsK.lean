/- Every operation of the machine against the clean one: numbers, addresses, pieces. -/
import Derived.Test.YtdojebhmkbfppaaPsJ
import Derived.Laws.Small
set_option linter.unusedVariables false
set_option linter.unusedSimpArgs false
set_option linter.unusedSectionVars false
namespace Go.PS

theorem find_isSome {h : List Ent} {j g : Nat} (hs : (find h j g).isSome = true) : find h j g ≠ none := by
  intro e; rw [e] at hs; cases hs

theorem flat_known {t : Ty} (h : t.flat = true) : t.kd ≠ .other := known_ne (.inr h)

theorem bytes_toList (s : List UInt8) : (⟨s.toArray⟩ : ByteArray).data.toList = s := rfl

theorem ba_toList (s : List UInt8) : (⟨s.toArray⟩ : ByteArray).toList = s := by
  have key : ∀ (n i : Nat) (r : List UInt8), s.length - i = n → ByteArray.toList.loop ⟨s.toArray⟩ i r = r.reverse ++ s.drop i := by
    intro n
    induction n with
    | zero =>
      intro i r hn
      rw [ByteArray.toList.loop]
      have : ¬ i < (⟨s.toArray⟩ : ByteArray).size := by show ¬ i < s.toArray.size; simp; omega
      rw [if_neg this, List.drop_eq_nil_of_le (by omega)]
      simp
    | succ n ih =>
      intro i r hn
      rw [ByteArray.toList.loop]
      have hi : i < s.length := by omega
      have : i < (⟨s.toArray⟩ : ByteArray).size := by show i < s.toArray.size; simpa using hi
      rw [if_pos this, ih (i + 1) _ (by omega)]
      have hg : (⟨s.toArray⟩ : ByteArray).get! i = s[i] := by
        show s.toArray[i]! = s[i]
        simp [hi]
      rw [hg, List.reverse_cons, List.append_assoc, List.drop_eq_getElem_cons hi]
      rfl
  have := key s.length 0 [] (by simp)
  unfold ByteArray.toList
  simpa using this

section
variable {P : Program} {tt : Nat → Ty} {o : Oper} {ρ : Operand → Value} {w0 : World} {Fo : Nat → Prop} {B : Option Nat} {w : World} {h : List Ent} {μ : Nat → Value} {G : Nat} {own : List Nat} {K : D → List Ent → Nat → Prop} {t : List (Nat × D)}
variable (hρ : ∀ x, VRep w (FF own Fo) h μ G (ev t (co x)) (ρ x)) (I : HInv w0 Fo B w h μ G own) (hty : TyOk P tt)
include hρ I hty

theorem sound_nilck {x : Operand} (hop : o.op = .nilCheck x) {a : AOper} (ha : a.o = .nilck (co x)) {k : Nat} (hk : opK tt k a ⟨t, h, G⟩ K) : Res P o ρ w0 Fo B w h μ G own K := by
  have hx := hρ x
  simp only [opK, ha] at hk
  split at hk
  · rename_i d hev
    rw [hev] at hx
    obtain ⟨u, b, off, hv, _⟩ := hx.asIptr
    exact .same I (v := ρ x) (by simp [execOp, hop, hv]) hx hk
  · rename_i f c hev
    rw [hev] at hx
    obtain ⟨vs, hv, _⟩ := hx.asFn
    exact .same I (v := ρ x) (by simp [execOp, hop, hv]) hx hk
  · rename_i j g off hev
    rw [hev] at hx
    obtain ⟨hf, hk⟩ := hk
    obtain ⟨b, _, hv⟩ := hx.asPtr.2 (find_isSome hf)
    exact .same I (v := ρ x) (by simp [execOp, hop, hv]) hx hk
  · exact hk.elim

theorem sound_bin {op : BinOp} {T T' : Nat} {x y : Operand} (hop : o.op = .binOp op T x y T') {a : AOper} (ha : a.o = .bin op T (co x) (co y)) {k : Nat} (hk : opK tt k a ⟨t, h, G⟩ K) : Res P o ρ w0 Fo B w h μ G own K := by
  have hx := hρ x
  have hy := hρ y
  simp only [opK, ha, binK] at hk
  split at hk
  · rename_i kd n kd' m ex ey
    rw [ex] at hx; rw [ey] at hy
    have hx := hx.asInt; have hy := hy.asInt
    obtain ⟨rfl, hk⟩ := hk
    have hr0 : (execOp ρ o).run P w = ((binOp op T (.int kd n) (.int kd m)).run P w).andThen fun v w' => .ok (.value v) w' := by
      simp [execOp, hop, hx, hy, eqGuard_at_int]
    simp only [binI] at hk
    split at hk
    · exact .same I (by rw [hr0, binOp_add]; rfl) (.imm _ _ (.int _ _)) hk
    · exact .same I (by rw [hr0, binOp_sub]; rfl) (.imm _ _ (.int _ _)) hk
    · exact .same I (by rw [hr0, binOp_mul]; rfl) (.imm _ _ (.int _ _)) hk
    · exact .same I (by rw [hr0, binOp_quo]; simp [Op.intDiv, hk.1]) (.imm _ _ (.int _ _)) hk.2
    · exact .same I (by rw [hr0, binOp_rem]; simp [Op.intDiv, hk.1]) (.imm _ _ (.int _ _)) hk.2
    · exact .same I (by rw [hr0, binOp_and]; rfl) (.imm _ _ (.int _ _)) hk
    · exact .same I (by rw [hr0, binOp_or]; rfl) (.imm _ _ (.int _ _)) hk
    · exact .same I (by rw [hr0, binOp_xor]; rfl) (.imm _ _ (.int _ _)) hk
    · exact .same I (by rw [hr0, binOp_andNot]; rfl) (.imm _ _ (.int _ _)) hk
    · exact .same I (by rw [hr0, binOp_eql]; rfl) (.imm _ _ (.bool _)) hk
    · exact .same I (by rw [hr0, binOp_neq]; rfl) (.imm _ _ (.bool _)) hk
    · exact .same I (by rw [hr0, binOp_lss]; rfl) (.imm _ _ (.bool _)) hk
    · exact .same I (by rw [hr0, binOp_leq]; rfl) (.imm _ _ (.bool _)) hk
    · exact .same I (by rw [hr0, binOp_gtr]; rfl) (.imm _ _ (.bool _)) hk
    · exact .same I (by rw [hr0, binOp_geq]; rfl) (.imm _ _ (.bool _)) hk
    · have hm : ¬ m < 0 := by omega
      exact .same I (by rw [hr0, binOp_shl]; simp [Op.shift, hm]; rfl) (.imm _ _ (.int _ _)) hk.2
    · have hm : ¬ m < 0 := by omega
      exact .same I (by rw [hr0, binOp_shr]; simp [Op.shift, hm]; rfl) (.imm _ _ (.int _ _)) hk.2
  · rename_i s1 s2 ex ey
    rw [ex] at hx; rw [ey] at hy
    have hx := hx.asStr; have hy := hy.asStr
    have hr0 : (execOp ρ o).run P w = ((binOp op T (.string ⟨s1.toArray⟩) (.string ⟨s2.toArray⟩)).run P w).andThen fun v w' => .ok (.value v) w' := by
      simp [execOp, hop, hx, hy, eqGuard_at_string]
    simp only [binS] at hk
    split at hk
    · have hsz : ¬ (((⟨s1.toArray⟩ : ByteArray).size + (⟨s2.toArray⟩ : ByteArray).size : Nat) : Int) > IntKind.i64.max := by
        have h1 : (⟨s1.toArray⟩ : ByteArray).size = s1.length := by show s1.toArray.size = _; simp
        have h2 : (⟨s2.toArray⟩ : ByteArray).size = s2.length := by show s2.toArray.size = _; simp
        rw [h1, h2, IntKind.max_i64]
        have := hk.1
        simp only [big] at this
        omega
      refine .same I (v := .string ⟨(s1 ++ s2).toArray⟩) ?_ (.imm _ _ (.str _)) hk.2
      rw [hr0]
      simp only [binOp, Op.stringOp, if_neg hsz]
      simp only [Sem.run_pure, Result.andThen_ok]
      congr 2
    · refine .same I (v := .bool (s1 == s2)) ?_ (.imm _ _ (.bool _)) hk
      rw [hr0]
      simp [binOp, Op.stringOp, ba_toList]
    · refine .same I (v := .bool (s1 != s2)) ?_ (.imm _ _ (.bool _)) hk
      rw [hr0]
      simp [binOp, Op.stringOp, ba_toList, bne]
    · exact hk.elim
  · rename_i b1 b2 ex ey
    rw [ex] at hx; rw [ey] at hy
    have hx := hx.asBool; have hy := hy.asBool
    have hr0 : (execOp ρ o).run P w = ((binOp op T (.bool b1) (.bool b2)).run P w).andThen fun v w' => .ok (.value v) w' := by
      simp [execOp, hop, hx, hy, eqGuard_at_bool]
    obtain ⟨hkd, hk⟩ := hk
    have he := Go.run_equal_bool (P := P) w T b1 b2 (hty.bool T hkd)
    simp only [binL] at hk
    split at hk
    · exact .same I (v := .bool (b1 == b2)) (by rw [hr0]; simp [binOp, he]) (.imm _ _ (.bool _)) hk
    · exact .same I (v := .bool (b1 != b2)) (by rw [hr0]; simp [binOp, he, bne]) (.imm _ _ (.bool _)) hk
    · exact hk.elim
  · exact hk.elim

theorem sound_un {op : UnOp} {T : Nat} {x : Operand} (hop : o.op = .unOp op T x) {a : AOper} (ha : a.o = .un op (co x)) {k : Nat} (hk : opK tt k a ⟨t, h, G⟩ K) : Res P o ρ w0 Fo B w h μ G own K := by
  have hx := hρ x
  simp only [opK, ha] at hk
  split at hk
  · rename_i b hev
    rw [hev] at hx
    exact .same I (v := .bool !b) (by simp [execOp, hop, hx.asBool, Op.unary]) (.imm _ _ (.bool _)) hk
  · rename_i kd n hev
    rw [hev] at hx
    exact .same I (v := .int kd (kd.wrap (0 - n))) (by simp [execOp, hop, hx.asInt, Op.unary, Op.intArith]) (.imm _ _ (.int _ _)) hk
  · exact hk.elim

theorem TyOk.some {T : Nat} (h : (tt T).flat = true) : ∃ d, P.underlying T = some d := by
  cases hk : (tt T).kd with
  | int k => exact ⟨_, hty.int T k hk⟩
  | bool => exact ⟨_, hty.bool T hk⟩
  | str => exact ⟨_, hty.str T hk⟩
  | slice e => exact ⟨_, hty.slice T e hk⟩
  | ptr e => exact ⟨_, hty.ptr T e hk⟩
  | func => obtain ⟨ps, rs, v, hu⟩ := hty.func T hk; exact ⟨_, hu⟩
  | struct fs => simp [Ty.flat, hk] at h
  | other => simp [Ty.flat, hk] at h

theorem sound_conv {S T : Nat} {x : Operand} (hop : o.op = .convert S T x) {a : AOper} (ha : a.o = .conv S T (co x)) {k : Nat} (hk : opK tt k a ⟨t, h, G⟩ K) : Res P o ρ w0 Fo B w h μ G own K := by
  have hx := hρ x
  simp only [opK, ha] at hk
  split at hk
  · rename_i kd k' n hT hev
    rw [hev] at hx
    obtain ⟨d, hd⟩ := TyOk.some hρ I hty hk.1
    exact .same I (v := .int kd (kd.wrap n)) (by simp [execOp, hop, hx.asInt, convert, run_underlying hd, run_underlying (hty.int T kd hT), Conv.intToInt]) (.imm _ _ (.int _ _)) hk.2
  · exact hk.elim

theorem evL_rel : ∀ (xs : List Operand) (i : Nat) (d : D) (v : Value), (evL t (xs.map co))[i]? = some d → (xs.map ρ)[i]? = some v → VRep w (FF own Fo) h μ G d v
  | [], i, d, v, hd, _ => by simp [evL] at hd
  | x :: xs, 0, d, v, hd, hv => by
    obtain rfl : ev t (co x) = d := by simpa [evL] using hd
    obtain rfl : ρ x = v := by simpa using hv
    exact hρ x
  | x :: xs, i + 1, d, v, hd, hv => evL_rel xs i d v (by simpa [evL] using hd) (by simpa using hv)

omit hρ I hty in
theorem evL_length : ∀ (xs : List Opd), (evL t xs).length = xs.length
  | [] => rfl
  | x :: xs => by simp [evL, evL_length xs]

theorem sound_mkfn {f : Nat} {first caps : Array Operand} (hop : o.op = .makeFunc (.func f) first caps) (h0 : first.size = 0) {a : AOper} (ha : a.o = .mkfn f (caps.toList.map co)) {k : Nat} (hk : opK tt k a ⟨t, h, G⟩ K) : Res P o ρ w0 Fo B w h μ G own K := by
  simp only [opK, ha] at hk
  have : first = #[] := Array.eq_empty_of_size_eq_zero h0
  subst this
  refine .same I (v := .func (.func f) #[] (caps.toList.map ρ).toArray) ?_ (.fn f _ (caps.toList.map ρ) (by simp [evL_length]) (evL_rel hρ I hty caps.toList)) hk
  simp only [execOp, hop, Instr.makeFunc]
  simp
  apply Array.ext'
  simp

theorem sound_max {x y : Operand} {T : Array Nat} (hop : o.op = .call ⟨.builtin .max, #[x, y], T⟩) {a : AOper} (ha : a.o = .max (co x) (co y)) {k : Nat} (hk : opK tt k a ⟨t, h, G⟩ K) : Res P o ρ w0 Fo B w h μ G own K := by
  have hx := hρ x
  have hy := hρ y
  simp only [opK, ha] at hk
  split at hk
  · rename_i kd n k' m ex ey
    rw [ex] at hx; rw [ey] at hy
    exact .same I (v := .int kd (if m > n then m else n)) (by simp [execOp, hop, resolve, invoke, builtin, Builtin.max_, Builtin.max2, hx.asInt, hy.asInt, List.foldlM]) (.imm _ _ (.int _ _)) hk
  · exact hk.elim

theorem sound_min {x y : Operand} {T : Array Nat} (hop : o.op = .call ⟨.builtin .min, #[x, y], T⟩) {a : AOper} (ha : a.o = .min (co x) (co y)) {k : Nat} (hk : opK tt k a ⟨t, h, G⟩ K) : Res P o ρ w0 Fo B w h μ G own K := by
  have hx := hρ x
  have hy := hρ y
  simp only [opK, ha] at hk
  split at hk
  · rename_i kd n k' m ex ey
    rw [ex] at hx; rw [ey] at hy
    exact .same I (v := .int kd (if m < n then m else n)) (by simp [execOp, hop, resolve, invoke, builtin, Builtin.min_, Builtin.min2, hx.asInt, hy.asInt, List.foldlM]) (.imm _ _ (.int _ _)) hk
  · exact hk.elim

theorem sound_ext {x : Operand} {i : Nat} (hop : o.op = .extract x i) {a : AOper} (ha : a.o = .ext (co x) i) {k : Nat} (hk : opK tt k a ⟨t, h, G⟩ K) : Res P o ρ w0 Fo B w h μ G own K := by
  have hx := hρ x
  simp only [opK, ha] at hk
  split at hk
  · rename_i xs hev
    rw [hev] at hx
    obtain ⟨vs, hv, hl, hr⟩ := hx.asTup
    have hi : i < vs.length := by omega
    refine .same I (v := vs[i]) (by simp [execOp, hop, hv, Instr.extract, hi]) (hr i _ _ ?_ (List.getElem?_eq_getElem hi)) hk.2
    rw [List.getD_eq_getElem?_getD, List.getElem?_eq_getElem hk.1]; rfl
  · exact hk.elim

theorem sound_len {T : Nat} {x : Operand} (hop : o.op = .call ⟨.builtin .len, #[x], #[T]⟩) {a : AOper} (ha : a.o = .len T (co x)) {k : Nat} (hk : opK tt k a ⟨t, h, G⟩ K) : Res P o ρ w0 Fo B w h μ G own K := by
  have hx := hρ x
  simp only [opK, ha] at hk
  split at hk
  · rename_i hT
    split at hk
    · rename_i s hev
      rw [hev] at hx
      refine .same I (v := .int .i64 s.length) ?_ (.imm _ _ (.int _ _)) hk
      have hsz : (⟨s.toArray⟩ : ByteArray).size = s.length := by show s.toArray.size = _; simp
      simp [execOp, hop, resolve, invoke, builtin, Builtin.len_, run_underlying (hty.str T hT), hx.asStr, goInt, hsz]
    · exact hk.elim
  · rename_i e hT
    split at hk
    · rename_i n hn
      have key : ∃ a c, ρ x = .slice a n c := by
        revert hn hx
        generalize ev t (co x) = d
        generalize ρ x = u
        intro hx hn
        cases d with
        | list sz xs =>
          obtain rfl : xs.length = n := by simpa [lenD] using hn
          cases hx with
          | imm _ _ r => cases r with
            | listE sz a c => exact ⟨_, _, rfl⟩
            | list => exact ⟨_, _, rfl⟩
        | lit sz xs =>
          obtain rfl : xs.length = n := by simpa [lenD] using hn
          cases hx with
          | imm _ _ r => cases r
          | lit => exact ⟨_, _, rfl⟩
        | nil =>
          obtain rfl : 0 = n := by simpa [lenD] using hn
          exact ⟨_, _, hx.asNil⟩
        | arr j g =>
          simp only [lenD] at hn
          cases hf : find h j g with
          | none => rw [hf] at hn; cases hn
          | some blk =>
            rw [hf] at hn
            cases blk with
            | cells cs => cases hn
            | arr sz xs =>
              obtain rfl : xs.length = n := by simpa using hn
              obtain ⟨_, _, hm⟩ := hx.asArr
              have hm := hm (by rw [hf]; simp)
              obtain ⟨o1, he, _⟩ := I.hok.has h own hf
              rcases he.arrOf.olist_inv with ⟨h1, h2, _⟩ | ⟨vs, os, b', cap, cur, E, h1, _⟩
              · rw [hm, h1, h2]; exact ⟨_, _, rfl⟩
              · rw [hm, h1]; exact ⟨_, _, rfl⟩
        | row j g x =>
          simp only [lenD] at hn
          split at hn
          · rename_i s ys hr
            obtain rfl : ys.length = n := by simpa using hn
            obtain ⟨_, _, hm⟩ := hx.asRow
            obtain ⟨b, n', c', hm, hc⟩ := hm (by rw [hr]; simp)
            obtain ⟨o1, hrow, _⟩ := I.hok.rowOf hr hm
            rcases (hrow _ hc).olist_inv with ⟨h1, h2, _⟩ | ⟨vs, os, b', cap, cur, E, h1, _⟩
            · rw [h1, h2]; exact ⟨_, _, rfl⟩
            · rw [h1]; exact ⟨_, _, rfl⟩
          · cases hn
        | _ => simp [lenD] at hn
      obtain ⟨b, c, hv⟩ := key
      refine .same I (v := .int .i64 n) ?_ (.imm _ _ (.int _ _)) hk
      simp [execOp, hop, resolve, invoke, builtin, Builtin.len_, run_underlying (hty.slice T e hT), hv, goInt]
    · exact hk.elim
  · exact hk.elim

end
end Go.PS
