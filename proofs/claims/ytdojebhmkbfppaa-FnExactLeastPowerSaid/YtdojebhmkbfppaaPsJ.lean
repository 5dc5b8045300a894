/- Every operation of the machine against the clean one: stores, numbers, addresses. -/
import Derived.Test.YtdojebhmkbfppaaPsI
set_option linter.unusedVariables false
set_option linter.unusedSimpArgs false
set_option linter.unusedSectionVars false
namespace Go.PS

theorem splice_rel {α β : Type} {R : α → β → Prop} {cs es : List α} {vs us : List β} {off : Nat} (hl : vs.length = cs.length) (hl2 : us.length = es.length) (hoff : off ≤ cs.length)
    (a : ∀ (i : Nat) (d : α) (v : β), cs[i]? = some d → vs[i]? = some v → R d v) (b : ∀ (i : Nat) (d : α) (v : β), es[i]? = some d → us[i]? = some v → R d v) :
    ∀ (i : Nat) (d : α) (v : β), (cs.take off ++ es ++ cs.drop (off + es.length))[i]? = some d → (vs.take off ++ us ++ vs.drop (off + us.length))[i]? = some v → R d v := by
  intro i d v hd hv
  have l1 : (cs.take off).length = off := by rw [List.length_take]; omega
  have l2 : (vs.take off).length = off := by rw [List.length_take]; omega
  rw [List.append_assoc] at hd hv
  by_cases h1 : i < off
  · rw [List.getElem?_append_left (by omega), List.getElem?_take, if_pos h1] at hd hv
    exact a i d v hd hv
  · rw [List.getElem?_append_right (by omega)] at hd hv
    rw [l1] at hd; rw [l2] at hv
    by_cases h2 : i - off < es.length
    · rw [List.getElem?_append_left (by omega)] at hd hv
      exact b _ d v hd hv
    · rw [List.getElem?_append_right (by omega), List.getElem?_drop] at hd hv
      rw [hl2] at hv
      exact a _ d v hd hv

theorem set_rel {α β : Type} {R : α → β → Prop} {cs : List α} {vs : List β} {off : Nat} {e : α} {u : β} (hl : vs.length = cs.length)
    (a : ∀ (i : Nat) (d : α) (v : β), cs[i]? = some d → vs[i]? = some v → R d v) (b : R e u) :
    ∀ (i : Nat) (d : α) (v : β), (cs.set off e)[i]? = some d → (vs.set off u)[i]? = some v → R d v := by
  intro i d v hd hv
  rw [List.getElem?_set] at hd hv
  by_cases h1 : off = i
  · rw [if_pos h1] at hd hv
    split at hd
    · split at hv
      · injection hd with hd; injection hv with hv; subst hd; subst hv; exact b
      · cases hv
    · cases hd
  · rw [if_neg h1] at hd hv
    exact a i d v hd hv

theorem set_sublist : ∀ (os : List (List Nat)) (i : Nat) (p q : List Nat), os[i]? = some p → q.Sublist p → ((os.set i q).flatten).Sublist os.flatten
  | [], i, p, q, h, _ => by simp at h
  | r :: os, 0, p, q, h, hs => by
    obtain rfl : r = p := by simpa using h
    simp only [List.set_cons_zero, List.flatten_cons]
    exact hs.append (List.Sublist.refl _)
  | r :: os, i + 1, p, q, h, hs => by
    simp only [List.set_cons_succ, List.flatten_cons]
    exact (List.Sublist.refl r).append (set_sublist os i p q (by simpa using h) hs)

theorem flatten_disj : ∀ (os : List (List Nat)) (i j : Nat) (p q : List Nat), i ≠ j → os[i]? = some p → os[j]? = some q → os.flatten.Nodup → ∀ c ∈ p, c ∉ q
  | [], i, j, p, q, _, h, _, _ => by simp at h
  | r :: os, i, j, p, q, hij, hi, hj, hn => by
    rw [List.flatten_cons] at hn
    obtain ⟨n1, n2, n3⟩ := List.nodup_append.1 hn
    intro c hc hc2
    cases i with
    | zero =>
      obtain rfl : r = p := by simpa using hi
      cases j with
      | zero => exact hij rfl
      | succ j => exact n3 c hc c (mem_flatten_of (i := j) (by simpa using hj) hc2) rfl
    | succ i =>
      cases j with
      | zero =>
        obtain rfl : r = q := by simpa using hj
        exact n3 c hc2 c (mem_flatten_of (i := i) (by simpa using hi) hc) rfl
      | succ j => exact flatten_disj os i j p q (by omega) (by simpa using hi) (by simpa using hj) n2 c hc hc2

theorem nodup_of_flatten : ∀ (os : List (List Nat)) (i : Nat) (p : List Nat), os[i]? = some p → os.flatten.Nodup → p.Nodup
  | [], i, p, h, _ => by simp at h
  | r :: os, i, p, h, hn => by
    rw [List.flatten_cons] at hn
    obtain ⟨n1, n2, _⟩ := List.nodup_append.1 hn
    cases i with
    | zero => obtain rfl : r = p := by simpa using h
              exact n1
    | succ i => exact nodup_of_flatten os i p (by simpa using h) n2

section
variable {P : Program} {tt : Nat → Ty} {o : Oper} {ρ : Operand → Value} {w0 : World} {Fo : Nat → Prop} {B : Option Nat} {w : World} {h : List Ent} {μ : Nat → Value} {G : Nat} {own : List Nat} {K : D → List Ent → Nat → Prop} {t : List (Nat × D)}
variable (hρ : ∀ x, VRep w (FF own Fo) h μ G (ev t (co x)) (ρ x)) (I : HInv w0 Fo B w h μ G own) (hty : TyOk P tt)
include hρ I hty

theorem storeVar_run {T b off : Nat} {v : Value} {cur : Array Value} {E : TypeId} (hk : (tt T).kd ≠ .other) (hh : w.heap[b]? = some (.cells cur E (0, 0))) (hs : v.cells.size = (tt T).sz)
    (h1 : ∀ (j : Nat) (u : Value), v.cells[j]? = some u → u.oneCell' = true) (hfit : off + v.cells.size ≤ cur.size) :
    (storeVar T ⟨b, off, none⟩ v).run P w = .ok () (w.setRow b (cur.toList.take off ++ v.cells.toList ++ cur.toList.drop (off + v.cells.size)).toArray) := by
  have hst := run_storeCells_at P b off E v.cells.toList 0 cur w hh (by simpa using hfit) (fun u hu => by
    obtain ⟨j, hj⟩ := List.mem_iff_getElem?.1 hu
    exact h1 j u (by simpa using hj))
  simp only [Nat.add_zero, Array.length_toList] at hst
  simp [storeVar, hty.size w T hk, hs, hst]

/-- A store into a row of the run's own. -/
theorem sound_rowSet {T : Nat} {x v : Operand} (hop : o.op = .store T x v) {j g r y : Nat} {xs ys : List D} (hev : ev t (co x) = .rptr j g r y) (hfit : fitsT (tt T) (ev t (co v))) (hf : find h j g = some (.arr 1 xs))
    (hrb : rowB (.arr 1 xs) r = some (1, ys)) (hfl : (tt T).flat = true) (hlt : y < ys.length) (hpu : pureD 5 (ev t (co v)) = true)
    (hk : K .undef (hset h j g (rowSet xs r 1 ys y (ev t (co v)))) G) : Res P o ρ w0 Fo B w h μ G own K := by
  have hx := hρ x
  have hv := hρ v
  rw [hev] at hx
  obtain ⟨f1, f2, f3, f4⟩ := hv.fits hfit
  have hkn := known_ne (fitsT_known hfit)
  have hrow : xs[r]? = some (.olist 1 ys) := by
    simp only [rowB] at hrb
    split at hrb
    · rename_i s ys' he
      injection hrb with hrb; injection hrb with e1 e2
      subst e1; subst e2; exact he
    · cases hrb
  have hra : rowAt h j g r = some (1, ys) := by unfold rowAt; rw [hf]; exact hrb
  obtain ⟨_, hp⟩ := hx.asRptr
  obtain ⟨b1, n1, c1, b2, n2, c2', hm1, hc1, hpv⟩ := hp (by rw [hra]; simp)
  obtain ⟨o1, rest, he, hr', hnd, hmem, _⟩ := I.takeOut hf
  have hs1 : (tt T).sz = 1 ∧ isCell (ev t (co v)) = true := by
    have hs : (tt T).isStruct = false := by simp only [Ty.flat, Ty.isStruct] at hfl ⊢; split at hfl <;> simp_all
    revert hfit
    generalize ev t (co v) = d
    intro hfit
    cases d <;> simp_all [fitsT]
  obtain ⟨c1', c2⟩ := hv.cell hs1.2
  have hrl : r < xs.length := (List.getElem?_eq_some_iff.1 hrow).1
  rcases he.arrOf.olist_inv with ⟨_, hxs, _⟩ | ⟨vs, os, b', cap, cur, E, hm, ho1, h1, h2, h3, h4, h5, h6, h7, h8, h9⟩
  · rw [hxs] at hrl; simp at hrl
  · obtain rfl : b' = b1 := by rw [hm] at hm1; injection hm1 with q; injection q with q; injection q
    subst ho1
    have hvs : vs[r]? = some (vs[r]'(by omega)) := List.getElem?_eq_getElem _
    have hos : os[r]? = some (os[r]'(by omega)) := List.getElem?_eq_getElem _
    have hO := h3 r _ _ _ hrow hvs hos
    have hone : (vs[r]'(by omega)).cells = #[vs[r]'(by omega)] := by
      rcases hO.olist_inv with ⟨e, _⟩ | ⟨_, _, _, _, _, _, e, _⟩ <;> rw [e] <;> rfl
    have h12 := ((h8 r _ hvs).2 0 (vs[r]'(by omega)) (by rw [hone]; rfl)).2
    simp only [Nat.zero_add, Nat.mul_one, Nat.add_zero] at h12
    rw [h12] at hc1
    injection hc1 with hc1
    have hmemO : ∀ c ∈ os[r]'(by omega), c ∈ os.flatten := fun c hc => mem_flatten_of hos hc
    rcases hO.olist_inv with ⟨e, _⟩ | ⟨us, ps, b3, cap2, cur2, E2, hm2, ho2, g1, g2, g3, g4, g5, g6, g7, g8, g9⟩
    · rw [hc1] at e; cases e
    · obtain rfl : b3 = b2 := by rw [hc1] at hm2; injection hm2 with q; injection q with q; injection q with q; exact q.symm
      have hcur : y < cur2.size := by omega
      have hrun := storeVar_run (P := P) hρ I hty (b := b3) (off := y) (v := ρ v) hkn g4 f1 f2 (by rw [c2]; simp; omega)
      have hset : cur2.toList.take y ++ (ρ v).cells.toList ++ cur2.toList.drop (y + (ρ v).cells.size) = cur2.toList.set y (ρ v) := by
        rw [c2]
        rw [List.set_eq_take_append_cons_drop, if_pos (by simpa using hcur)]
        simp
      rw [hset] at hrun
      have hnd1 := (List.nodup_append.1 hnd).1
      have hb3 : b3 ∈ os[r]'(by omega) := by rw [ho2]; simp
      have hb3f : b3 ∈ os.flatten := hmemO b3 hb3
      have hbne : b' ≠ b3 := fun e => (List.nodup_cons.1 hnd1).1 (e ▸ hb3f)
      have hT : Touch w (w.setRow b3 (cur2.toList.set y (ρ v)).toArray) (b' :: os.flatten) := by
        have t0 := setRow_touch w b3 (cur2.toList.set y (ρ v)).toArray os.flatten hb3f
        exact ⟨t0.os, t0.tape, t0.output, t0.size, fun c hc hn => t0.block c hc (fun h1 => hn (List.mem_cons_of_mem _ h1))⟩
      have hps := set_nil_sublist ps y
      have hin2 : ∀ c, c ∈ b3 :: (ps.set y []).flatten → c ∈ os[r]'(by omega) := fun c hc => by rw [ho2]; exact (hps.cons_cons b3).subset hc
      have hsub : ((os.set r (b3 :: (ps.set y []).flatten)).flatten).Sublist os.flatten := set_sublist os r _ _ hos (by rw [ho2]; exact hps.cons_cons b3)
      have hnd' : ((b' :: (os.set r (b3 :: (ps.set y []).flatten)).flatten) ++ rest).Nodup := (((hsub.cons_cons b').append (List.Sublist.refl rest))).nodup hnd
      have hin : ∀ c, c ∈ b' :: (os.set r (b3 :: (ps.set y []).flatten)).flatten → c ∈ b' :: os.flatten := fun c hc => (hsub.cons_cons b').subset hc
      have hb' : (w.setRow b3 (cur2.toList.set y (ρ v)).toArray).heap[b']? = w.heap[b']? := setRow_other w b3 b' _ hbne
      obtain ⟨o'', hm'', out⟩ := I.replace (hA := h) I.keys (fun _ _ _ => rfl) hf hr' (fun c hc => hmem c (by simp [hc])) (hT.grown I.grown (fun c hc => .inl ((he.arrOf.lt c (by rw [← hm] at *; exact hc)).1))) hT.size
          (fun c hc hn => hT.block c hc (fun hc' => hn (hmem c (List.mem_append_left _ hc')))) (fun c hc => hT.block c (I.hok.lt _ _ c (hmem c (by simp [hc]))).2 (fun hc' => (List.nodup_append.1 hnd).2.2 c hc' c hc rfl))
          (rowSet xs r 1 ys y (ev t (co v))) (b' :: (os.set r (b3 :: (ps.set y []).flatten)).flatten) hnd' (fun c hc => .inl (hmem c (List.mem_append_left _ (hin c hc)))) g G μ
          (.inl ⟨rfl, rfl, rfl, fun x hx => by
            constructor
            · simp only [rowSet, rowB] at hx ⊢
              rw [List.getElem?_set] at hx
              by_cases hi : r = x
              · subst hi; rw [hrow]; simp
              · rw [if_neg hi] at hx; exact hx
            · intro bb n c hmb
              rw [hm] at hmb
              injection hmb with hmb; injection hmb with hmb; injection hmb with hmb
              subst hmb
              exact cell?_of_heap hb'⟩)
          (fun o'' hm'' ev' => ⟨he.1, by
            show ORep _ _ _ _ (μ g) _
            rw [hm]
            have hmm := ev'.mm
            have keepQ : ∀ (i : Nat) (q : List Nat), i ≠ r → os[i]? = some q → ∀ c ∈ q, c ≠ b3 := by
              intro i q hi hq c hc e
              subst e
              exact flatten_disj os i r q _ hi hq hos (List.nodup_cons.1 hnd1).2 c hc hb3
            have key := ORep.olist (w := w.setRow b3 (cur2.toList.set y (ρ v)).toArray) (F := FF o'' Fo) (lo := w0.heap.size) 1 (xs.set r (.olist 1 (ys.set y (ev t (co v))))) vs (os.set r (b3 :: (ps.set y []).flatten)) b' cap _ E (by simp [h1]) (by simp [h2]) ?_
              (hb'.trans h4) h5 (by simpa using h6) h7 (h8.evo hb') h9
            · rw [List.length_set] at key; exact key
            · intro i d u q hd hu hq
              rw [List.getElem?_set] at hd hq
              by_cases hi : r = i
              · subst hi
                rw [if_pos rfl, if_pos hrl] at hd
                rw [if_pos rfl, if_pos (by omega)] at hq
                injection hd with hd; injection hq with hq
                subst hd; subst hq
                rw [hvs] at hu
                injection hu with hu
                subst hu
                rw [hm2]
                have hcells : ∀ k, (w.setRow b3 (cur2.toList.set y (ρ v)).toArray).cell? ⟨b3, k, none⟩ = (cur2.toList.set y (ρ v))[k]? := by
                  intro k
                  rw [cell_of_row _ b3 k _ E2 (0, 0) (setRow_heap w b3 cur2 _ E2 _ g4)]
                  simp
                have hnd2 : (b3 :: ps.flatten).Nodup := by
                  rw [← ho2]; exact nodup_of_flatten os r _ hos (List.nodup_cons.1 hnd1).2
                have key2 := ORep.olist (w := w.setRow b3 (cur2.toList.set y (ρ v)).toArray) (F := FF o'' Fo) (lo := w0.heap.size) 1 (ys.set y (ev t (co v))) (us.set y (ρ v)) (ps.set y []) b3 cap2 _ E2 (by simp [g1]) (by simp [g2]) ?_
                  (setRow_heap w b3 cur2 _ E2 _ g4) (by simpa using g5) (by simpa using g6) g7 ?_ g9
                · rw [List.length_set] at key2; exact key2
                · intro i d u q hd hu hq
                  rw [List.getElem?_set] at hd hu hq
                  by_cases hi : y = i
                  · rw [if_pos hi] at hd hu hq
                    rw [if_pos hlt] at hd
                    rw [if_pos (by omega)] at hu hq
                    injection hd with hd; injection hu with hu; injection hq with hq
                    subst hd; subst hu; subst hq
                    exact .base _ _ ((hv.pure 5 hpu).evo hmm)
                  · rw [if_neg hi] at hd hu hq
                    refine (g3 i d u q hd hu hq).evo hmm (fun c hc => setRow_other w b3 c _ (fun e => ?_)) (fun c hc => ((g3 i d u q hd hu hq).lt c hc).1)
                    subst e
                    exact (List.nodup_cons.1 hnd2).1 (mem_flatten_of hq hc)
                · intro i u hu
                  rw [List.getElem?_set] at hu
                  by_cases hi : y = i
                  · subst hi
                    rw [if_pos rfl] at hu
                    split at hu
                    · injection hu with hu; subst hu
                      refine ⟨by rw [c2]; rfl, fun j x hx => ?_⟩
                      rw [c2] at hx
                      cases j with
                      | zero =>
                        obtain rfl : ρ v = x := by simpa using hx
                        refine ⟨c1', ?_⟩
                        have : (0 + y * 1 + 0) = y := by omega
                        rw [this, hcells y, List.getElem?_set, if_pos rfl, if_pos (by simpa using hcur)]
                      | succ j => simp at hx
                    · cases hu
                  · rw [if_neg hi] at hu
                    obtain ⟨q1, q2⟩ := g8 i u hu
                    refine ⟨q1, fun j x hx => ⟨(q2 j x hx).1, ?_⟩⟩
                    have q3 := (q2 j x hx).2
                    have hj : j = 0 := by have := (Array.getElem?_eq_some_iff.1 hx).1; omega
                    subst hj
                    rw [cell_of_row w b3 _ cur2 E2 (0, 0) g4] at q3
                    rw [hcells, List.getElem?_set, if_neg (by omega)]
                    simpa using q3
              · rw [if_neg hi] at hd hq
                exact (h3 i d u q hd hu hq).evo hmm (fun c hc => setRow_other w b3 c _ (keepQ i q (fun e => hi e.symm) hq c hc)) (fun c hc => ((h3 i d u q hd hu hq).lt c hc).1)⟩)
      refine ⟨.skip, undef, _, .undef, _, _, _, _, ?_, .inr ⟨rfl, rfl⟩, hk, out, .undef⟩
      simp [execOp, hop, hpv, Instr.storeAt, Instr.sureAddr, hrun]

theorem sound_store {T : Nat} {x v : Operand} (hop : o.op = .store T x v) {a : AOper} (ha : a.o = .store T (co x) (co v)) {k : Nat} (hk : opK tt k a ⟨t, h, G⟩ K) : Res P o ρ w0 Fo B w h μ G own K := by
  have hx := hρ x
  have hv := hρ v
  simp only [opK, ha] at hk
  split at hk
  · rename_i j g off hev
    obtain ⟨hfit, hk⟩ := hk
    rw [hev] at hx
    obtain ⟨f1, f2, f3, f4⟩ := hv.fits hfit
    have hkn := known_ne (fitsT_known hfit)
    obtain ⟨_, hp⟩ := hx.asPtr
    split at hk
    · rename_i cs hf
      obtain ⟨hle, hk⟩ := hk
      obtain ⟨b, hb, hpv⟩ := hp (by rw [hf]; simp)
      obtain ⟨o1, rest, he, hr', hnd, hmem, _⟩ := I.takeOut hf
      obtain ⟨b', vs, E, hm, hh, hl, h1, hr, ho1, hlo⟩ := he.cellsOf
      have hbb : b' = b := by
        rcases hb with hb | ⟨n', c', hb⟩
        · rw [hm] at hb; injection hb with hb; injection hb with hb; injection hb
        · rw [hm] at hb; cases hb
      subst hbb
      subst ho1
      have hrun := storeVar_run (P := P) hρ I hty (b := b') (off := off) (v := ρ v) hkn hh f1 f2 (by simp; omega)
      simp only [] at hrun
      have hT : Touch w (w.setRow b' (vs.take off ++ (ρ v).cells.toList ++ vs.drop (off + (ρ v).cells.size)).toArray) [b'] := setRow_touch w b' _ _ (by simp)
      obtain ⟨o'', hm'', out⟩ := I.replace (hA := h) I.keys (fun _ _ _ => rfl) hf hr' (fun c hc => hmem c (by simp [hc])) (hT.grown I.grown (by simpa using hlo)) hT.size
        (fun c hc hn => hT.block c hc (fun hc' => hn (hmem c (by simp at hc'; simp [hc'])))) (fun c hc => hT.block c (I.hok.lt _ _ c (hmem c (by simp [hc]))).2 (fun hc' => (List.nodup_append.1 hnd).2.2 c hc' c hc rfl))
        (.cells (cs.take off ++ cellsD (ev t (co v)) ++ cs.drop (off + (cellsD (ev t (co v))).length))) [b'] hnd (fun c hc => .inl (hmem c (by simp at hc; simp [hc]))) g G μ (.inl ⟨rfl, rfl, rfl, fun x hx => absurd rfl hx⟩)
        (fun o'' hm'' ev' => ⟨he.1, by
          refine ⟨b', _, E, hm, setRow_heap w b' _ _ E _ hh, ?_, ?_, ?_, rfl, hlo⟩
          · simp only [List.length_append, List.length_take, List.length_drop, Array.length_toList]; omega
          · intro u hu
            rcases List.mem_append.1 hu with hu | hu
            · rcases List.mem_append.1 hu with hu | hu
              · exact h1 u (List.mem_of_mem_take hu)
              · obtain ⟨j, hj⟩ := List.mem_iff_getElem?.1 hu
                exact f2 j u (by simpa using hj)
            · exact h1 u (List.mem_of_mem_drop hu)
          · intro i d u hd hu
            refine VRep.evo ?_ ev'
            have hu' := hu
            rw [← Array.length_toList] at hu'
            exact splice_rel (R := fun d v => VRep w (FF own Fo) h μ G d v) (us := (ρ v).cells.toList) hl (by rw [Array.length_toList]; omega) (by omega) hr (fun i d v hd hv => f4 i d v hd (by simpa using hv)) i d u hd hu'⟩)
      refine ⟨.skip, undef, _, .undef, _, _, _, _, ?_, .inr ⟨rfl, rfl⟩, hk, out, .undef⟩
      simp [execOp, hop, hpv, Instr.storeAt, Instr.sureAddr, hrun]
    · rename_i sz xs hf
      obtain ⟨hsz, hfl, hlt, hpu, hk⟩ := hk
      subst hsz
      obtain ⟨b, hb, hpv⟩ := hp (by rw [hf]; simp)
      obtain ⟨o1, rest, he, hr', hnd, hmem, _⟩ := I.takeOut hf
      have hs1 : (tt T).sz = 1 ∧ isCell (ev t (co v)) = true := by
        have hs : (tt T).isStruct = false := by simp only [Ty.flat, Ty.isStruct] at hfl ⊢; split at hfl <;> simp_all
        revert hfit
        generalize ev t (co v) = d
        intro hfit
        cases d <;> simp_all [fitsT]
      obtain ⟨c1, c2⟩ := hv.cell hs1.2
      rcases he.arrOf.olist_inv with ⟨_, hxs, _⟩ | ⟨vs, os, b', cap, cur, E, hm, ho1, h1, h2, h3, h4, h5, h6, h7, h8, h9⟩
      · rw [hxs] at hlt; simp at hlt
      · have hbb : b' = b := by
          rcases hb with hb | ⟨n', c', hb⟩
          · rw [hm] at hb; cases hb
          · rw [hm] at hb; injection hb with hb; injection hb with hb; injection hb
        subst hbb
        subst ho1
        have hcur : off < cur.size := by omega
        have hrun := storeVar_run (P := P) hρ I hty (b := b') (off := off) (v := ρ v) hkn h4 f1 f2 (by rw [c2]; simp; omega)
        have hset : cur.toList.take off ++ (ρ v).cells.toList ++ cur.toList.drop (off + (ρ v).cells.size) = cur.toList.set off (ρ v) := by
          rw [c2]
          rw [List.set_eq_take_append_cons_drop, if_pos (by simpa using hcur)]
          simp
        rw [hset] at hrun
        have hT : Touch w (w.setRow b' (cur.toList.set off (ρ v)).toArray) (b' :: os.flatten) := setRow_touch w b' _ _ (by simp)
        have hnd1 := (List.nodup_append.1 hnd).1
        have hsl := set_nil_sublist os off
        have hnd' : ((b' :: (os.set off []).flatten) ++ rest).Nodup := (((hsl.cons_cons b').append (List.Sublist.refl rest))).nodup hnd
        have hin : ∀ c, c ∈ b' :: (os.set off []).flatten → c ∈ b' :: os.flatten := fun c hc => (hsl.cons_cons b').subset hc
        obtain ⟨o'', hm'', out⟩ := I.replace (hA := h) I.keys (fun _ _ _ => rfl) hf hr' (fun c hc => hmem c (by simp [hc])) (hT.grown I.grown (fun c hc => .inl ((he.arrOf.lt c (by rw [← hm] at *; exact hc)).1))) hT.size
          (fun c hc hn => hT.block c hc (fun hc' => hn (hmem c (List.mem_append_left _ hc')))) (fun c hc => hT.block c (I.hok.lt _ _ c (hmem c (by simp [hc]))).2 (fun hc' => (List.nodup_append.1 hnd).2.2 c hc' c hc rfl))
          (.arr 1 (xs.set off (ev t (co v)))) (b' :: (os.set off []).flatten) hnd' (fun c hc => .inl (hmem c (List.mem_append_left _ (hin c hc)))) g G μ (.inl ⟨rfl, rfl, rfl, fun x hx => by
            have hno : ∀ s ys, ev t (co v) ≠ .olist s ys := by intro s ys e; rw [e] at hpu; simp [pureD] at hpu
            refine ⟨rowB_set_ne hx hno, fun bb n c hm2 => ?_⟩
            rw [hm] at hm2
            injection hm2 with hm2; injection hm2 with hm2; injection hm2 with hm2
            subst hm2
            have hne : off ≠ x := by
              intro e; subst e
              simp only [rowB] at hx
              rw [List.getElem?_set, if_pos rfl, if_pos hlt] at hx
              split at hx
              · rename_i s ys he
                injection he with he
                exact hno s ys he
              · exact hx rfl
            rw [cell_of_row _ b' x _ E (0, 0) (setRow_heap w b' cur _ E _ h4), cell_of_row w b' x cur E (0, 0) h4]
            simp [List.getElem?_set, hne]⟩)
          (fun o'' hm'' ev' => ⟨he.1, by
            show ORep _ _ _ _ (μ g) _
            rw [hm]
            have hmm := ev'.mm
            have hcells : ∀ k, (w.setRow b' (cur.toList.set off (ρ v)).toArray).cell? ⟨b', k, none⟩ = (cur.toList.set off (ρ v))[k]? := by
              intro k
              rw [cell_of_row _ b' k _ E (0, 0) (setRow_heap w b' cur _ E _ h4)]
              simp
            have hkeepO : ∀ (i : Nat) (q : List Nat), (os.set off [])[i]? = some q → ∀ c ∈ q, c ∈ os.flatten := fun i q hq c hc => hsl.subset (List.mem_flatten.2 ⟨q, List.mem_of_getElem? hq, hc⟩)
            have key := ORep.olist (w := w.setRow b' (cur.toList.set off (ρ v)).toArray) (F := FF o'' Fo) (lo := w0.heap.size) 1 (xs.set off (ev t (co v))) (vs.set off (ρ v)) (os.set off []) b' cap _ E (by simp [h1]) (by simp [h2]) ?_
              (setRow_heap w b' cur _ E _ h4) (by simpa using h5) (by simpa using h6) h7 ?_ h9
            · rw [List.length_set] at key; exact key
            · intro i d u q hd hu hq
              rw [List.getElem?_set] at hd hu hq
              by_cases hi : off = i
              · rw [if_pos hi] at hd hu hq
                rw [if_pos hlt] at hd
                rw [if_pos (by omega)] at hu hq
                injection hd with hd; injection hu with hu; injection hq with hq
                subst hd; subst hu; subst hq
                exact .base _ _ ((hv.pure 5 hpu).evo hmm)
              · rw [if_neg hi] at hd hu hq
                refine (h3 i d u q hd hu hq).evo hmm (fun c hc => setRow_other w b' c _ (fun e => ?_)) (fun c hc => ((h3 i d u q hd hu hq).lt c hc).1)
                subst e
                exact (List.nodup_cons.1 hnd1).1 (mem_flatten_of hq hc)
            · intro i u hu
              rw [List.getElem?_set] at hu
              by_cases hi : off = i
              · subst hi
                rw [if_pos rfl] at hu
                split at hu
                · injection hu with hu; subst hu
                  refine ⟨by rw [c2]; rfl, fun j x hx => ?_⟩
                  rw [c2] at hx
                  cases j with
                  | zero =>
                    obtain rfl : ρ v = x := by simpa using hx
                    refine ⟨c1, ?_⟩
                    have : (0 + off * 1 + 0) = off := by omega
                    rw [this, hcells off, List.getElem?_set, if_pos rfl, if_pos (by simpa using hcur)]
                  | succ j => simp at hx
                · cases hu
              · rw [if_neg hi] at hu
                obtain ⟨g1, g2⟩ := h8 i u hu
                refine ⟨g1, fun j x hx => ⟨(g2 j x hx).1, ?_⟩⟩
                have g3 := (g2 j x hx).2
                have hj : j = 0 := by have := (Array.getElem?_eq_some_iff.1 hx).1; omega
                subst hj
                rw [cell_of_row w b' _ cur E (0, 0) h4] at g3
                rw [hcells, List.getElem?_set, if_neg (by omega)]
                simpa using g3⟩)
        refine ⟨.skip, undef, _, .undef, _, _, _, _, ?_, .inr ⟨rfl, rfl⟩, hk, out, .undef⟩
        simp [execOp, hop, hpv, Instr.storeAt, Instr.sureAddr, hrun]
    · exact hk.elim
  · rename_i j g r y hev
    obtain ⟨hfit, hk⟩ := hk
    split at hk
    · rename_i sz xs hf
      split at hk
      · rename_i s ys hrb
        obtain ⟨rfl, rfl, hfl, hlt, hpu, hk⟩ := hk
        exact sound_rowSet hρ I hty hop hev hfit hf hrb hfl hlt hpu hk
      · exact hk.elim
    · exact hk.elim
  · exact hk.elim

end
end Go.PS
