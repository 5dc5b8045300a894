/- Every operation of the machine against the clean one: what makes memory. -/
import Derived.Test.YtdojebhmkbfppaaPsL
set_option linter.unusedVariables false
set_option linter.unusedSimpArgs false
set_option linter.unusedSectionVars false
namespace Go.PS

theorem foldl_set : ∀ (c : List Value) (off j : Nat) (A : Array Value), off + j + c.length ≤ A.size →
    ((c.zipIdx j).foldl (fun (cs : Array Value) (p : Value × Nat) => cs.setIfInBounds (off + p.2) p.1) A).toList = A.toList.take (off + j) ++ c ++ A.toList.drop (off + j + c.length)
  | [], off, j, A, _ => by simp
  | v :: c, off, j, A, h => by
    simp only [List.length_cons] at h
    rw [List.zipIdx_cons, List.foldl_cons, foldl_set c off (j + 1) _ (by simp; omega)]
    simp only [Array.toList_setIfInBounds]
    have := list_seg_step A.toList (off + j) v c (by simp; omega)
    simpa [Nat.add_assoc] using this

theorem fill_step (place : Nat → Option (Nat × Nat)) (A : Array Value) (i off sz : Nat) (v : Value) (rest : List (Nat × Value)) (hp : place i = some (off, sz)) (hs : v.cells.size = sz) (hfit : off + sz ≤ A.size) :
    Instr.fill place A ((i, v) :: rest) = Instr.fill place (A.toList.take off ++ v.cells.toList ++ A.toList.drop (off + sz)).toArray rest := by
  simp only [Instr.fill, hp]
  rw [if_neg (by simp [hs]; omega)]
  congr 1
  apply Array.ext'
  rw [← Array.foldl_toList, Array.toList_zipIdx]
  have := foldl_set v.cells.toList off 0 A (by simp [hs]; omega)
  simpa [hs] using this

theorem fill_all (sz : Nat) : ∀ (vs : List Value) (m : Nat) (A : Array Value), A.size = (m + vs.length) * sz → (∀ v ∈ vs, v.cells.size = sz) →
    Instr.fill (fun i => some (i * sz, sz)) A ((vs.zipIdx m).map fun p => (p.2, p.1)) = some (A.toList.take (m * sz) ++ flat vs).toArray
  | [], m, A, h, _ => by
    simp only [List.zipIdx_nil, List.map_nil, Instr.fill, flat_nil, List.append_nil]
    congr 1
    apply Array.ext'
    simp only [List.length_nil, Nat.add_zero] at h
    show A.toList = List.take (m * sz) A.toList
    rw [List.take_of_length_le (by rw [Array.length_toList]; omega)]
  | v :: vs, m, A, h, hs => by
    simp only [List.length_cons] at h
    have hsz : (m + (vs.length + 1)) * sz = m * sz + sz + vs.length * sz := by rw [Nat.add_mul, Nat.add_mul]; omega
    rw [hsz] at h
    rw [List.zipIdx_cons, List.map_cons, fill_step _ A m (m * sz) sz v _ rfl (hs v (by simp)) (by omega), fill_all sz vs (m + 1) _ (by
      simp only [List.size_toArray, List.length_append, List.length_take, List.length_drop, Array.length_toList, hs v (by simp), Nat.add_mul]
      omega) (fun u hu => hs u (by simp [hu]))]
    congr 1
    apply Array.ext'
    have hl : (A.toList.take (m * sz)).length = m * sz := by rw [List.length_take, Array.length_toList]; omega
    have hl2 : (A.toList.take (m * sz) ++ v.cells.toList).length = (m + 1) * sz := by rw [List.length_append, hl, Array.length_toList, hs v (by simp), Nat.add_mul]; omega
    show List.take ((m + 1) * sz) (A.toList.take (m * sz) ++ v.cells.toList ++ A.toList.drop (m * sz + sz)) ++ flat vs = A.toList.take (m * sz) ++ flat (v :: vs)
    rw [← hl2, List.take_left', flat_cons, List.append_assoc]
    rfl

theorem zip_range (vs : List Value) (is : List Nat) (h : is = List.range vs.length) : is.zip vs = (vs.zipIdx 0).map fun p => (p.2, p.1) := by
  subst h
  apply List.ext_getElem?
  intro i
  by_cases hi : i < vs.length
  · simp [List.getElem?_zip_eq_some, hi]
  · simp [List.getElem?_eq_none, hi]

section
variable {P : Program} {tt : Nat → Ty} {o : Oper} {ρ : Operand → Value} {w0 : World} {Fo : Nat → Prop} {B : Option Nat} {w : World} {h : List Ent} {μ : Nat → Value} {G : Nat} {own : List Nat} {K : D → List Ent → Nat → Prop} {t : List (Nat × D)}
variable (hρ : ∀ x, VRep w (FF own Fo) h μ G (ev t (co x)) (ρ x)) (I : HInv w0 Fo B w h μ G own) (hty : TyOk P tt)
include hρ I hty

theorem sound_bslice {T n : Nat} {ps : Array (Nat × Operand)} (hop : o.op = .buildSlice T n ps) {a : AOper} (ha : a.o = .bslice T n (ps.toList.map fun p => (p.1, co p.2))) {k : Nat} (hk : opK tt k a ⟨t, h, G⟩ K) : Res P o ρ w0 Fo B w h μ G own K := by
  simp only [opK, ha] at hk
  split at hk
  · rename_i E hE
    simp only [elemT] at hE
    split at hE
    · rename_i e hT
      split at hE
      · rename_i hkn
        injection hE with hE
        subst hE
        have hkn := known_of hkn
        simp only [List.map_map] at hk
        have hev : (fun p : Nat × Opd => ev t p.2) ∘ (fun p : Nat × Operand => (p.1, co p.2)) = fun p => ev t (co p.2) := rfl
        have hfst : (Prod.fst ∘ fun p : Nat × Operand => (p.1, co p.2)) = Prod.fst := rfl
        rw [hev, hfst] at hk
        obtain ⟨hidx, hn, hsz, hzero, hfit, hk⟩ := hk
        -- the values
        have hlen : ps.toList.length = n := by have := congrArg List.length hidx; simpa using this
        generalize hvs : ps.toList.map (fun p => ρ p.2) = vs at *
        generalize hxs : ps.toList.map (fun p => ev t (co p.2)) = xs at *
        have hvl : vs.length = n := by rw [← hvs, List.length_map, hlen]
        have hxl : xs.length = n := by rw [← hxs, List.length_map, hlen]
        have hrep : ∀ (i : Nat) (d : D) (v : Value), xs[i]? = some d → vs[i]? = some v → VRep w (FF own Fo) h μ G d v := by
          intro i d v hd hv
          rw [← hxs] at hd; rw [← hvs] at hv
          obtain ⟨p, hp, rfl⟩ := getElem?_map_some hd
          obtain ⟨q, hq, rfl⟩ := getElem?_map_some hv
          rw [hp] at hq
          injection hq with hq
          subst hq
          exact hρ _
        have hcells : ∀ v ∈ vs, v.cells.size = (tt e).sz ∧ ∀ (j : Nat) (u : Value), v.cells[j]? = some u → u.oneCell' = true := by
          intro v hv
          obtain ⟨i, hi⟩ := List.mem_iff_getElem?.1 hv
          have hil : i < xs.length := by have := (List.getElem?_eq_some_iff.1 hi).1; omega
          have hx := List.getElem?_eq_getElem hil
          have := (hrep i _ v hx hi).fits (hfit _ (List.mem_of_getElem? hx))
          exact ⟨this.1, this.2.1⟩
        have hones : ∀ u ∈ flat vs, u.oneCell' = true := by
          intro u hu
          obtain ⟨v, hv, hu⟩ := mem_flat hu
          obtain ⟨j, hj⟩ := List.mem_iff_getElem?.1 hu
          exact (hcells v hv).2 j u (by simpa using hj)
        have hfl : (flat vs).length = n * (tt e).sz := by rw [flat_length vs (fun v hv => (hcells v hv).1), hvl]
        have hrun : (execOp ρ o).run P w = .ok (.value (.slice (some ⟨w.heap.size, 0, none⟩) n n)) (w.alloc (.cells ((flat vs).toArray ++ #[]) e)) := by
          have hlim : ¬ (2 ^ 24 < n * (tt e).sz) := by
            have := Nat.mul_le_mul hn hsz
            omega
          have hparts : (ps.map fun p => (p.1, ρ p.2)).toList = (vs.zipIdx 0).map fun p => (p.2, p.1) := by
            rw [← zip_range vs (ps.toList.map Prod.fst) (by rw [hidx, hvl]), ← hvs]
            simp only [Array.toList_map]
            rw [List.zip_map']
          have hfill : ∀ A : Array Value, A.size = n * (tt e).sz → Instr.fill (fun i => some (i * (tt e).sz, (tt e).sz)) A (ps.map fun p => (p.1, ρ p.2)).toList = some (flat vs).toArray := by
            intro A hA
            rw [hparts, fill_all (tt e).sz vs 0 A (by rw [hA, hvl, Nat.zero_add]) (fun v hv => (hcells v hv).1)]
            simp
          obtain ⟨z, hz⟩ := Option.isSome_iff_exists.1 hzero
          obtain ⟨i, hi, his, _, _, hzz⟩ := hty.info e hkn
          obtain ⟨⟨zv, hzv, _⟩, _⟩ := hzz z hz
          have hfill' : ∀ A : Array Value, A.size = n * (tt e).sz → Instr.fill (fun i => some (i * (tt e).sz, (tt e).sz)) A (List.map (fun x => (x.fst, ρ x.snd)) ps.toList) = some (flat vs).toArray := by
            intro A hA
            have := hfill A hA
            simpa using this
          have hlim' : ¬ (16777216 < n * (tt e).sz) := by simpa using hlim
          by_cases h0 : n * (tt e).sz = 0
          · simp [execOp, hop, Instr.buildSlice, run_underlying (hty.slice T e hT), hty.size w e hkn, h0, newRow]
            rw [hfill' _ (by simp [h0])]
            simp
          · simp [execOp, hop, Instr.buildSlice, run_underlying (hty.slice T e hT), hty.size w e hkn, h0, hlim', zeroValue, typeInfo, hi, hzv, newRow]
            rw [hfill' _ (by simp)]
            simp
        have hgr := grown_alloc w (.cells ((flat vs).toArray ++ #[]) e)
        have hrow := row_alloc (w := w) (E := e) (fun v hv => (hcells v hv).1) hones #[]
        have hout := I.quiet hgr
        have hml : n ≤ maxLen := by simp only [maxLen]; omega
        have hnF : ¬ FF own Fo w.heap.size := fun hF => Nat.lt_irrefl _ (I.blk _ hF)
        split at hk
        · obtain ⟨hpu, hk⟩ := hk
          refine .quiet I hgr hrun (.imm _ _ ?_) hk
          have := Rep.list (w := w.alloc (.cells ((flat vs).toArray ++ #[]) e)) (F := FF own Fo) (tt e).sz xs vs w.heap.size 0 n (by omega) (by omega) (by omega)
            (fun i d v hd hv => ((hrep i d v hd hv).pure 5 (hpu d (List.mem_of_getElem? hd))).evo hout.2.mm) hrow (by simp) hnF
          rw [hxl] at this
          exact this
        · obtain ⟨hpu, hk⟩ := hk
          refine .addArr I hgr k ⟨_, _, _, rfl⟩ hrun (o1 := w.heap.size :: (List.replicate n ([] : List Nat)).flatten) (by simp) (by simp) (fun F' hF => ?_) hk
          have := ORep.olist (w := w.alloc (.cells ((flat vs).toArray ++ #[]) e)) (F := F') (lo := w0.heap.size) (tt e).sz xs vs (List.replicate n []) w.heap.size n _ e (by omega) (by simp [hxl])
            (fun i d v q hd hv hq => by
              have : q = [] := by
                rw [List.getElem?_replicate] at hq
                split at hq
                · injection hq with hq; exact hq.symm
                · cases hq
              subst this
              exact .base _ _ (((hrep i d v hd hv).pure 5 (hpu d (List.mem_of_getElem? hd))).evo hF)) (heap_alloc_new w _) (by simp [hfl]) (by omega) hml hrow I.grown.size
          rw [hxl] at this
          exact this
        · refine .quiet I hgr hrun ?_ hk
          have := VRep.lit (w := w.alloc (.cells ((flat vs).toArray ++ #[]) e)) (F := FF own Fo) (h := h) (μ := μ) (G := G) (tt e).sz xs vs w.heap.size n (by omega) (by omega) (by omega)
            (fun i d v hd hv => (hrep i d v hd hv).evo hout.2) hrow (by simp) hnF
          rw [hxl] at this
          exact this
      · cases hE
    · cases hE
  · exact hk.elim

end
end Go.PS
