/- Every operation of the machine against the clean one: memory. -/
import Derived.Test.YtdojebhmkbfppaaPsH
set_option linter.unusedVariables false
set_option linter.unusedSimpArgs false
set_option linter.unusedSectionVars false
namespace Go.PS

theorem TyOk.isAgg {P : Program} {tt : Nat → Ty} (hty : TyOk P tt) (w : World) (T : Nat) (h : (tt T).isStruct = true ∨ (tt T).flat = true) : (Go.isAgg T).run P w = .ok ((tt T).isStruct) w := by
  unfold Go.isAgg
  cases hk : (tt T).kd with
  | int k => simp [run_underlying (hty.int T k hk), Ty.isStruct, hk]
  | bool => simp [run_underlying (hty.bool T hk), Ty.isStruct, hk]
  | str => simp [run_underlying (hty.str T hk), Ty.isStruct, hk]
  | slice e => simp [run_underlying (hty.slice T e hk), Ty.isStruct, hk]
  | ptr e => simp [run_underlying (hty.ptr T e hk), Ty.isStruct, hk]
  | func => obtain ⟨ps, rs, v, hu⟩ := hty.func T hk; simp [run_underlying hu, Ty.isStruct, hk]
  | struct fs => obtain ⟨fields, hu, _⟩ := hty.struct T fs hk; simp [run_underlying hu, Ty.isStruct, hk]
  | other => simp [Ty.isStruct, Ty.flat, hk] at h

theorem TyOk.size {P : Program} {tt : Nat → Ty} (hty : TyOk P tt) (w : World) (T : Nat) (h : (tt T).kd ≠ .other) : (sizeOf T).run P w = .ok ((tt T).sz) w := by
  obtain ⟨i, hi, hs, _⟩ := hty.info T h
  simp [sizeOf, typeInfo, hi, hs]

theorem fitsT_known {t : Ty} {d : D} (h : fitsT t d) : t.isStruct = true ∨ t.flat = true := by
  cases d <;> simp only [fitsT] at h <;> simp [h.1]

theorem known_of {t : Ty} (h : t.known = true) : t.kd ≠ .other := by intro e; simp [Ty.known, e] at h

theorem known_ne {t : Ty} (h : t.isStruct = true ∨ t.flat = true) : t.kd ≠ .other := by
  intro e
  rcases h with h | h
  · simp [Ty.isStruct, e] at h
  · simp [Ty.flat, e] at h

theorem set_nil_sublist : ∀ (os : List (List Nat)) (i : Nat), ((os.set i []).flatten).Sublist os.flatten
  | [], i => by simp
  | p :: ps, 0 => by simp only [List.set_cons_zero, List.flatten_cons, List.nil_append]; exact List.sublist_append_right _ _
  | p :: ps, i + 1 => by simp only [List.set_cons_succ, List.flatten_cons]; exact (List.Sublist.refl p).append (set_nil_sublist ps i)

theorem set_nil_disj : ∀ (os : List (List Nat)) (i : Nat) (p : List Nat), os[i]? = some p → os.flatten.Nodup → ∀ c ∈ p, c ∉ (os.set i []).flatten
  | [], i, p, h, _ => by simp at h
  | q :: os, 0, p, h, hn => by
    obtain rfl : q = p := by simpa using h
    intro c hc hc2
    simp only [List.set_cons_zero, List.flatten_cons, List.nil_append] at hc2
    rw [List.flatten_cons] at hn
    exact (List.nodup_append.1 hn).2.2 c hc c hc2 rfl
  | q :: os, i + 1, p, h, hn => by
    intro c hc hc2
    rw [List.flatten_cons] at hn
    have h' : os[i]? = some p := by simpa using h
    simp only [List.set_cons_succ, List.flatten_cons, List.mem_append] at hc2
    rcases hc2 with hc2 | hc2
    · exact (List.nodup_append.1 hn).2.2 c hc2 c (mem_flatten_of h' hc) rfl
    · exact set_nil_disj os i p h' (List.nodup_append.1 hn).2.1 c hc hc2

/-- A row that stands after a cell was laid anew (with no row) stood before. -/
theorem rowB_set_ne {sz sz' x off : Nat} {xs : List D} {d : D} (hx : rowB (.arr sz (xs.set off d)) x ≠ none) (hd : ∀ s ys, d ≠ .olist s ys) : rowB (.arr sz' xs) x ≠ none := by
  simp only [rowB] at hx ⊢
  rw [List.getElem?_set] at hx
  by_cases hi : off = x
  · rw [if_pos hi] at hx
    split at hx
    · rename_i s ys he
      split at he
      · injection he with he; exact absurd he (hd s ys)
      · cases he
    · exact absurd rfl hx
  · rw [if_neg hi] at hx
    exact hx

section
variable {P : Program} {tt : Nat → Ty} {o : Oper} {ρ : Operand → Value} {w0 : World} {Fo : Nat → Prop} {B : Option Nat} {w : World} {h : List Ent} {μ : Nat → Value} {G : Nat} {own : List Nat} {K : D → List Ent → Nat → Prop} {t : List (Nat × D)}
variable (hρ : ∀ x, VRep w (FF own Fo) h μ G (ev t (co x)) (ρ x)) (I : HInv w0 Fo B w h μ G own) (hty : TyOk P tt)
include hρ I hty

theorem sound_box {T : Nat} {x : Operand} (hop : o.op = .box T x) {a : AOper} (ha : a.o = .box T (co x)) {k : Nat} (hk : opK tt k a ⟨t, h, G⟩ K) : Res P o ρ w0 Fo B w h μ G own K := by
  have hr : (execOp ρ o).run P w = .ok (.value (.pointer (some ⟨w.heap.size, 0, none⟩))) (w.alloc (.cells (ρ x).cells T)) := by
    simp [execOp, hop, Instr.box, newVar, newRow]
  have hx := hρ x
  simp only [opK, ha] at hk
  split at hk
  · obtain ⟨hp, hf, hk⟩ := hk
    obtain ⟨h1, h2, _, _⟩ := hx.fits hf
    refine .quiet I (grown_alloc w _) hr (.imm _ _ (.iptr _ (ρ x) _ 0 ?_ (fun j u hu => ⟨h2 j u hu, by simp [hu]⟩) (by simp) (fun hF => Nat.lt_irrefl _ (I.blk _ hF)))) hk
    exact ((hx.pure 5 hp).evo (I.quiet (grown_alloc w (.cells (ρ x).cells T))).2.mm)
  · obtain ⟨hf, hk⟩ := hk
    obtain ⟨h1, h2, h3, h4⟩ := hx.fits hf
    refine .addCells I k (cs := cellsD (ev t (co x))) (vs := (ρ x).cells.toList) (E := T) (by simp [h3]) (fun v hv => ?_) (fun i d v hd hv => h4 i d v hd (by simpa using hv)) (by simpa using hr) hk
    obtain ⟨j, hj⟩ := List.mem_iff_getElem?.1 hv
    exact h2 j v (by simpa using hj)

theorem sound_alloc {T : Nat} (hop : o.op = .alloc T) {a : AOper} (ha : a.o = .alloc T) {k : Nat} (hk : opK tt k a ⟨t, h, G⟩ K) : Res P o ρ w0 Fo B w h μ G own K := by
  simp only [opK, ha] at hk
  split at hk
  · rename_i z hz
    obtain ⟨hf, hk⟩ := hk
    obtain ⟨i, hi, _, _, _, hzz⟩ := hty.info T (known_ne (fitsT_known hf))
    obtain ⟨⟨zv, hzv, hrep⟩, _, _⟩ := hzz z hz
    obtain ⟨h1, h2, h3, h4⟩ := VRep.fits (w := w) (F := FF own Fo) (h := h) (μ := μ) (G := G) (.imm _ _ (hrep w (FF own Fo))) hf
    refine .addCells I k (cs := cellsD z) (vs := zv.cells.toList) (E := T) (by simp [h3]) (fun v hv => ?_) (fun i d v hd hv => h4 i d v hd (by simpa using hv)) ?_ hk
    · obtain ⟨j, hj⟩ := List.mem_iff_getElem?.1 hv
      exact h2 j v (by simpa using hj)
    · simp [execOp, hop, Instr.alloc, zeroValue, typeInfo, hi, hzv, newVar, newRow]
  · exact hk.elim

theorem loadCells_run {b off n : Nat} {vs : List Value} (hl : vs.length = n) (hc : ∀ (j : Nat) (u : Value), vs[j]? = some u → w.cell? ⟨b, off + j, none⟩ = some u) : (loadCells ⟨b, off, none⟩ n).run P w = .ok vs.toArray w := by
  subst hl
  exact run_loadCells_list w ⟨b, off, none⟩ vs (fun j v hv => by rw [Addr.add_lit]; exact hc j v hv)

omit hρ I hty in
/-- What a list of plain things says of its cells. -/
theorem ORep.scalAt {F : Nat → Prop} {lo y n c b : Nat} {ys : List D} {o : List Nat} (hO : ORep w F lo (.olist 1 ys) (.slice (some ⟨b, 0, none⟩) n c) o) (hlt : y < ys.length) (hsc : scal (ys.getD y .junk) = true) :
    ∃ u, Rep w F (ys.getD y .junk) u ∧ w.cell? ⟨b, y, none⟩ = some u := by
  rcases hO.olist_inv with ⟨h1, _, _⟩ | ⟨vs, os, b', cap, cur, E, hm, _, h1, h2, h3, h4, h5, h6, h7, h8, h9⟩
  · cases h1
  · injection hm with hm; injection hm with hm; injection hm with hm
    subst hm
    have hvs : vs[y]? = some (vs[y]'(by omega)) := List.getElem?_eq_getElem _
    have hxs : ys[y]? = some (ys.getD y .junk) := by rw [List.getD_eq_getElem?_getD, List.getElem?_eq_getElem hlt]; rfl
    have hos : os[y]? = some (os[y]'(by omega)) := List.getElem?_eq_getElem _
    have hrep : Rep w F (ys.getD y .junk) (vs[y]'(by omega)) := by
      have := h3 y _ _ _ hxs hvs hos
      revert this hsc
      generalize ys.getD y .junk = d
      generalize vs[y]'(by omega) = u
      generalize os[y]'(by omega) = p
      intro hsc this
      cases this with
      | base _ _ hr => exact hr
      | _ => simp [scal] at hsc
    have hcell : isCell (ys.getD y .junk) = true := by
      revert hsc; generalize ys.getD y .junk = d; intro hsc; cases d <;> simp_all [scal, isCell]
    obtain ⟨h10, h11⟩ := VRep.cell (h := []) (μ := fun _ => undef) (G := 0) (.imm _ _ hrep) hcell
    have h12 := ((h8 y _ hvs).2 0 (vs[y]'(by omega)) (by rw [h11]; rfl)).2
    simp only [Nat.zero_add, Nat.mul_one, Nat.add_zero] at h12
    exact ⟨_, hrep, h12⟩

/-- A list in a cell of the run's own, looked at or taken out. -/
theorem sound_rowK {T : Nat} {x : Operand} (hop : o.op = .load T x) {fl j g off : Nat} {xs : List D} (hev : ev t (co x) = .ptr j g off) (hf : find h j g = some (.arr 1 xs)) (hfl : (tt T).flat = true)
    (hk : rowK fl j g xs off ⟨t, h, G⟩ K) : Res P o ρ w0 Fo B w h μ G own K := by
  have hx := hρ x
  rw [hev] at hx
  have hs : (tt T).isStruct = false := by simp only [Ty.flat, Ty.isStruct] at hfl ⊢; split at hfl <;> simp_all
  obtain ⟨hg, hp⟩ := hx.asPtr
  obtain ⟨b, hb, hv⟩ := hp (by rw [hf]; simp)
  unfold rowK at hk
  split at hk
  · rename_i s ys hoff
    have hlt : off < xs.length := (List.getElem?_eq_some_iff.1 hoff).1
    obtain ⟨o1, rest, he, hr', hnd, hmem, _⟩ := I.takeOut hf
    rcases he.arrOf.olist_inv with ⟨_, hxs, _⟩ | ⟨vs, os, b', cap, cur, E, hm, ho1, h1, h2, h3, h4, h5, h6, h7, h8, h9⟩
    · rw [hxs] at hlt; simp at hlt
    · have hbb : b' = b := by
        rcases hb with hb | ⟨n', c', hb⟩
        · rw [hm] at hb; cases hb
        · rw [hm] at hb; injection hb with hb; injection hb with hb; injection hb
      subst hbb
      have hvs : vs[off]? = some (vs[off]'(by omega)) := List.getElem?_eq_getElem _
      have hos : os[off]? = some (os[off]'(by omega)) := List.getElem?_eq_getElem _
      have hO := h3 off _ _ _ hoff hvs hos
      have hsl : ∃ a n c, vs[off]'(by omega) = .slice a n c := by
        rcases hO.olist_inv with ⟨e, _⟩ | ⟨_, _, _, _, _, _, e, _⟩ <;> rw [e] <;> exact ⟨_, _, _, rfl⟩
      have hone : (vs[off]'(by omega)).cells = #[vs[off]'(by omega)] := by obtain ⟨a, n, c, e⟩ := hsl; rw [e]; rfl
      have h12 := ((h8 off _ hvs).2 0 (vs[off]'(by omega)) (by rw [hone]; rfl)).2
      simp only [Nat.zero_add, Nat.mul_one, Nat.add_zero] at h12
      have hrun : (execOp ρ o).run P w = .ok (.value (vs[off]'(by omega))) w := by
        simp [execOp, hop, hv, Instr.loadAt, Instr.sureAddr, loadVar, hty.isAgg w T (.inr hfl), hs, h12]
      split at hk
      · refine .same I hrun ?_ hk
        obtain ⟨a, n, c, e⟩ := hsl
        rw [e] at h12 ⊢
        exact .row j g off a n c hg (fun _ => ⟨b', _, _, hm, h12⟩)
      · subst ho1
        have hsub := set_nil_sublist os off
        have hnd1 := (List.nodup_append.1 hnd).1
        have hnd' : ((b' :: (os.set off []).flatten) ++ rest).Nodup := (((hsub.cons_cons b').append (List.Sublist.refl rest))).nodup hnd
        have hin : ∀ c, c ∈ b' :: (os.set off []).flatten → c ∈ b' :: os.flatten := fun c hc => (hsub.cons_cons b').subset hc
        have hdis : ∀ c ∈ os[off]'(by omega), c ∉ b' :: (os.set off []).flatten := by
          intro c hc hc2
          rcases List.mem_cons.1 hc2 with rfl | hc2
          · exact (List.nodup_cons.1 hnd1).1 (mem_flatten_of hos hc)
          · exact set_nil_disj os off _ hos (List.nodup_cons.1 hnd1).2 c hc hc2
        have hF : ∀ o'' : List Nat, (∀ c, c ∈ o'' ↔ c ∈ (b' :: (os.set off []).flatten) ++ rest) → Rep w (FF o'' Fo) (.list s (ys.map (imm 5))) (vs[off]'(by omega)) := by
          intro o'' ho''
          have := hO.imm (F' := FF o'' Fo) (fun c hc _ => by
            rcases hc with hc | hc
            · rcases List.mem_append.1 ((ho'' c).1 hc) with hc | hc
              · exact .inl (hmem c (List.mem_append_left _ (hin c hc)))
              · exact .inl (hmem c (List.mem_append_right _ hc))
            · exact .inr hc) (fun c hc hF => by
            rcases hF with hF | hF
            · rcases List.mem_append.1 ((ho'' c).1 hF) with hF | hF
              · exact hdis c hc hF
              · exact (List.nodup_append.1 hnd).2.2 c (List.mem_cons_of_mem _ (mem_flatten_of hos hc)) c hF rfl
            · have q1 := I.out c hF
              have q2 := (hO.lt c hc).1
              omega) 6
          simpa [PS.imm] using this
        obtain ⟨o'', hm'', out⟩ := I.replace (hA := h) I.keys (fun _ _ _ => rfl) hf hr' (fun c hc => hmem c (by simp [hc])) I.grown (Nat.le_refl _) (fun _ _ _ => rfl) (fun _ _ => rfl)
          (.arr 1 (xs.set off (.list s (ys.map (imm 5))))) (b' :: (os.set off []).flatten) hnd' (fun c hc => .inl (hmem c (List.mem_append_left _ (hin c hc)))) g G μ
          (.inl ⟨rfl, rfl, rfl, fun x hx => ⟨rowB_set_ne hx (by intro _ _ h; cases h), fun _ _ _ _ => rfl⟩⟩)
          (fun o'' hm'' ev' => ⟨he.1, by
            show ORep _ _ _ _ (μ g) _
            rw [hm]
            have key := ORep.olist (w := w) (F := FF o'' Fo) (lo := w0.heap.size) 1 (xs.set off (.list s (ys.map (imm 5)))) vs (os.set off []) b' cap _ E (by simp [h1]) (by simp [h2]) ?_ h4 h5 (by simpa using h6) h7 h8 h9
            · rw [List.length_set] at key; exact key
            · intro i d u q hd hu hq
              rw [List.getElem?_set] at hd hq
              by_cases hi : off = i
              · subst hi
                rw [if_pos rfl, if_pos hlt] at hd
                rw [if_pos rfl, if_pos (by omega)] at hq
                injection hd with hd; injection hq with hq
                subst hd; subst hq
                rw [hvs] at hu
                injection hu with hu
                subst hu
                exact .base _ _ (hF o'' hm'')
              · rw [if_neg hi] at hd hq
                exact (h3 i d u q hd hu hq).evo ev'.mm (fun _ _ => rfl) (fun c hc => ((h3 i d u q hd hu hq).lt c hc).1)⟩)
        exact ⟨_, _, w, _, _, _, _, _, hrun, .inl rfl, hk, out, .imm _ _ (hF o'' hm'')⟩
  · exact hk.elim

theorem sound_load {T : Nat} {x : Operand} (hop : o.op = .load T x) {a : AOper} (ha : a.o = .load T (co x)) {k : Nat} (hk : opK tt k a ⟨t, h, G⟩ K) : Res P o ρ w0 Fo B w h μ G own K := by
  have hx := hρ x
  simp only [opK, ha] at hk
  split at hk
  · rename_i d hev
    obtain ⟨hf, hk⟩ := hk
    rw [hev] at hx
    obtain ⟨u, b, off, hv, hrep, hc, hlt, hnf⟩ := hx.asIptr
    have hkn := fitsT_known hf
    obtain ⟨h1, h2, _, _⟩ := VRep.fits (h := h) (μ := μ) (G := G) (.imm _ _ hrep) hf
    refine .same I (v := u) ?_ (.imm _ _ hrep) hk
    by_cases hs : (tt T).isStruct = true
    · have hagg : ∃ vs : List Value, u = .agg vs.toArray := by
        cases d with
        | agg xs => obtain ⟨vs, e, _⟩ := VRep.asAgg (h := h) (μ := μ) (G := G) (.imm _ _ hrep); exact ⟨vs, e⟩
        | _ =>
          simp only [fitsT, Ty.flat] at hf
          simp only [Ty.isStruct] at hs
          split at hs <;> simp_all
      obtain ⟨vs, rfl⟩ := hagg
      have hl := loadCells_run (P := P) hρ I hty (b := b) (off := off) (n := (tt T).sz) (vs := vs) (by simpa [Value.cells] using h1) (fun j u hu => (hc j u (by simpa [Value.cells] using hu)).2)
      simp [execOp, hop, hv, Instr.loadAt, Instr.sureAddr, loadVar, hty.isAgg w T hkn, hs, hty.size w T (known_ne hkn), hl]
    · have hs : (tt T).isStruct = false := by simpa using hs
      have hcell : isCell d = true := by
        cases d with
        | agg xs => simp only [fitsT] at hf; rw [hs] at hf; cases hf.1
        | _ => simp only [fitsT] at hf; exact hf.2.2
      obtain ⟨h3, h4⟩ := VRep.cell (h := h) (μ := μ) (G := G) (.imm _ _ hrep) hcell
      have h5 := (hc 0 u (by rw [h4]; rfl)).2
      rw [Nat.add_zero] at h5
      simp [execOp, hop, hv, Instr.loadAt, Instr.sureAddr, loadVar, hty.isAgg w T hkn, hs, h5]
  · rename_i j g off hev
    rw [hev] at hx
    split at hk
    · rename_i cs hf
      obtain ⟨_, hp⟩ := hx.asPtr
      obtain ⟨b, hb, hv⟩ := hp (by rw [hf]; simp)
      obtain ⟨o1, he, _⟩ := I.hok.has h own hf
      obtain ⟨b', vs, E, hm, hh, hl, h1, hr, _, _⟩ := he.cellsOf
      have hbb : b' = b := by
        rcases hb with hb | ⟨n', c', hb⟩
        · rw [hm] at hb; injection hb with hb; injection hb with hb; injection hb
        · rw [hm] at hb; cases hb
      subst hbb
      have hc : ∀ (j : Nat) (u : Value), vs[j]? = some u → w.cell? ⟨b', j, none⟩ = some u := fun j u hu => by simp [World.cell?, hh, hu]
      by_cases hs : (tt T).isStruct = true
      · rw [if_pos hs] at hk
        obtain ⟨hle, hk⟩ := hk
        have hlen : ((vs.drop off).take (tt T).sz).length = (tt T).sz := by rw [List.length_take, List.length_drop]; omega
        have hl2 := loadCells_run (P := P) hρ I hty (b := b') (off := off) (n := (tt T).sz) (vs := (vs.drop off).take (tt T).sz) hlen (fun j u hu => by
          rw [List.getElem?_take] at hu
          split at hu
          · rw [List.getElem?_drop] at hu; exact hc _ u hu
          · cases hu)
        refine .same I (v := .agg ((vs.drop off).take (tt T).sz).toArray) (by
          simp [execOp, hop, hv, Instr.loadAt, Instr.sureAddr, loadVar, hty.isAgg w T (.inl hs), hs, hty.size w T (known_ne (.inl hs)), hl2]) ?_ hk
        refine .agg _ _ (by rw [hlen, List.length_take, List.length_drop]; omega) (fun i d v hd hv => ?_) (Ones.sub h1 (fun v hv => List.mem_of_mem_drop (List.mem_of_mem_take hv)))
        rw [List.getElem?_take] at hd hv
        split at hd
        · rename_i hi
          rw [if_pos hi] at hv
          rw [List.getElem?_drop] at hd hv
          exact hr _ d v hd hv
        · cases hd
      · rw [if_neg hs] at hk
        obtain ⟨hfl, hlt, hk⟩ := hk
        have hs : (tt T).isStruct = false := by simpa using hs
        have hvs : vs[off]? = some (vs[off]'(by omega)) := List.getElem?_eq_getElem _
        refine .same I (v := vs[off]'(by omega)) (by
          simp [execOp, hop, hv, Instr.loadAt, Instr.sureAddr, loadVar, hty.isAgg w T (.inr hfl), hs, hc off _ hvs]) ?_ hk
        exact hr off _ _ (by rw [List.getD_eq_getElem?_getD, List.getElem?_eq_getElem hlt]; rfl) hvs
    · rename_i sz xs hf
      obtain ⟨hsz, hfl, hk⟩ := hk
      subst hsz
      split at hk
      case' h_2 => exact sound_rowK hρ I hty hop hev hf hfl hk
      obtain ⟨hlt, hsc, hk⟩ := hk
      obtain ⟨_, hp⟩ := hx.asPtr
      obtain ⟨b, hb, hv⟩ := hp (by rw [hf]; simp)
      obtain ⟨o1, he, _⟩ := I.hok.has h own hf
      have hs : (tt T).isStruct = false := by simp only [Ty.flat, Ty.isStruct] at hfl ⊢; split at hfl <;> simp_all
      rcases he.arrOf.olist_inv with ⟨_, hxs, _⟩ | ⟨vs, os, b', cap, cur, E, hm, _, h1, h2, h3, h4, h5, h6, h7, h8, h9⟩
      · rw [hxs] at hlt; simp at hlt
      · have hbb : b' = b := by
          rcases hb with hb | ⟨n', c', hb⟩
          · rw [hm] at hb; cases hb
          · rw [hm] at hb; injection hb with hb; injection hb with hb; injection hb
        subst hbb
        have hvs : vs[off]? = some (vs[off]'(by omega)) := List.getElem?_eq_getElem _
        have hxs : xs[off]? = some (xs.getD off .junk) := by rw [List.getD_eq_getElem?_getD, List.getElem?_eq_getElem hlt]; rfl
        have hos : os[off]? = some (os[off]'(by omega)) := List.getElem?_eq_getElem _
        have hrep : Rep w (FF own Fo) (xs.getD off .junk) (vs[off]'(by omega)) := by
          have := h3 off _ _ _ hxs hvs hos
          revert this hsc
          generalize xs.getD off .junk = d
          generalize vs[off]'(by omega) = u
          generalize os[off]'(by omega) = p
          intro hsc this
          cases this with
          | base _ _ hr => exact hr
          | _ => simp [scal] at hsc
        have hcell : isCell (xs.getD off .junk) = true := by
          revert hsc; generalize xs.getD off .junk = d; intro hsc; cases d <;> simp_all [scal, isCell]
        obtain ⟨h10, h11⟩ := VRep.cell (h := h) (μ := μ) (G := G) (.imm _ _ hrep) hcell
        have h12 := ((h8 off _ hvs).2 0 (vs[off]'(by omega)) (by rw [h11]; rfl)).2
        simp only [Nat.zero_add, Nat.mul_one, Nat.add_zero] at h12
        refine .same I (v := vs[off]'(by omega)) (by
          simp [execOp, hop, hv, Instr.loadAt, Instr.sureAddr, loadVar, hty.isAgg w T (.inr hfl), hs, h12]) (.imm _ _ hrep) hk
    · exact hk.elim
  · rename_i j g x y hev
    rw [hev] at hx
    split at hk
    · rename_i s ys hr
      obtain ⟨rfl, hfl, hlt, hsc, hk⟩ := hk
      obtain ⟨_, hp⟩ := hx.asRptr
      obtain ⟨b, n', c', b', n, c, hm, hc, hv⟩ := hp (by rw [hr]; simp)
      obtain ⟨o1, hrow, _⟩ := I.hok.rowOf hr hm
      have hO := hrow _ hc
      have hs : (tt T).isStruct = false := by simp only [Ty.flat, Ty.isStruct] at hfl ⊢; split at hfl <;> simp_all
      obtain ⟨u, hu1, hu2⟩ := hO.scalAt hlt hsc
      have hcell : isCell (ys.getD y .junk) = true := by
        revert hsc; generalize ys.getD y .junk = d; intro hsc; cases d <;> simp_all [scal, isCell]
      refine .same I (v := u) (by
          simp [execOp, hop, hv, Instr.loadAt, Instr.sureAddr, loadVar, hty.isAgg w T (.inr hfl), hs, hu2]) (.imm _ _ hu1) hk
    · exact hk.elim
  · exact hk.elim

end
end Go.PS
