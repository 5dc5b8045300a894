/- Every operation of the machine against the clean one: stores, numbers, addresses. -/
import Derived.Test.YtjlhkgepbfhchaaPsI
set_option linter.unusedVariables false
set_option linter.unusedSimpArgs false
set_option linter.unusedSectionVars false
namespace Go.PS

theorem splice_rel {α β : Type} {R : α → β → Prop} {cs es : List α} {vs us : List β} {off : Nat} (hl : vs.length = cs.length) (hl2 : us.length = es.length) (hoff : off ≤ cs.length)
    (a : ∀ (i : Nat) (d : α) (v : β), cs[i]? = some d → vs[i]? = some v → R d v) (b : ∀ (i : Nat) (d : α) (v : β), es[i]? = some d → us[i]? = some v → R d v) :
    ∀ (i : Nat) (d : α) (v : β), (cs.take off ++ es ++ cs.drop (off + es.length))[i]? = some d → (vs.take off ++ us ++ vs.drop (off + us.length))[i]? = some v → R d v := by
  intro i d v hd hv
  have l1 : (cs.take off).length = off := by rw [List.length_take]; omega
  have l2 : (vs.take off).length = off := by rw [List.length_take]; omega
  rw [List.append_assoc] at hd hv
  by_cases h1 : i < off
  · rw [List.getElem?_append_left (by omega), List.getElem?_take, if_pos h1] at hd hv
    exact a i d v hd hv
  · rw [List.getElem?_append_right (by omega)] at hd hv
    rw [l1] at hd; rw [l2] at hv
    by_cases h2 : i - off < es.length
    · rw [List.getElem?_append_left (by omega)] at hd hv
      exact b _ d v hd hv
    · rw [List.getElem?_append_right (by omega), List.getElem?_drop] at hd hv
      rw [hl2] at hv
      exact a _ d v hd hv

theorem set_rel {α β : Type} {R : α → β → Prop} {cs : List α} {vs : List β} {off : Nat} {e : α} {u : β} (hl : vs.length = cs.length)
    (a : ∀ (i : Nat) (d : α) (v : β), cs[i]? = some d → vs[i]? = some v → R d v) (b : R e u) :
    ∀ (i : Nat) (d : α) (v : β), (cs.set off e)[i]? = some d → (vs.set off u)[i]? = some v → R d v := by
  intro i d v hd hv
  rw [List.getElem?_set] at hd hv
  by_cases h1 : off = i
  · rw [if_pos h1] at hd hv
    split at hd
    · split at hv
      · injection hd with hd; injection hv with hv; subst hd; subst hv; exact b
      · cases hv
    · cases hd
  · rw [if_neg h1] at hd hv
    exact a i d v hd hv

theorem set_nil_sublist : ∀ (os : List (List Nat)) (i : Nat), ((os.set i []).flatten).Sublist os.flatten
  | [], i => by simp
  | p :: ps, 0 => by simp only [List.set_cons_zero, List.flatten_cons, List.nil_append]; exact List.sublist_append_right _ _
  | p :: ps, i + 1 => by simp only [List.set_cons_succ, List.flatten_cons]; exact (List.Sublist.refl p).append (set_nil_sublist ps i)

section
variable {P : Program} {tt : Nat → Ty} {o : Oper} {ρ : Operand → Value} {w0 : World} {Fo : Nat → Prop} {B : Option Nat} {w : World} {h : List Ent} {μ : Nat → Value} {G : Nat} {own : List Nat} {K : D → List Ent → Nat → Prop} {t : List (Nat × D)}
variable (hρ : ∀ x, VRep w (FF own Fo) h μ G (ev t (co x)) (ρ x)) (I : HInv w0 Fo B w h μ G own) (hty : TyOk P tt)
include hρ I hty

theorem storeVar_run {T b off : Nat} {v : Value} {cur : Array Value} {E : TypeId} (hk : (tt T).kd ≠ .other) (hh : w.heap[b]? = some (.cells cur E (0, 0))) (hs : v.cells.size = (tt T).sz)
    (h1 : ∀ (j : Nat) (u : Value), v.cells[j]? = some u → u.oneCell' = true) (hfit : off + v.cells.size ≤ cur.size) :
    (storeVar T ⟨b, off, none⟩ v).run P w = .ok () (w.setRow b (cur.toList.take off ++ v.cells.toList ++ cur.toList.drop (off + v.cells.size)).toArray) := by
  have hst := run_storeCells_at P b off E v.cells.toList 0 cur w hh (by simpa using hfit) (fun u hu => by
    obtain ⟨j, hj⟩ := List.mem_iff_getElem?.1 hu
    exact h1 j u (by simpa using hj))
  simp only [Nat.add_zero, Array.length_toList] at hst
  simp [storeVar, hty.size w T hk, hs, hst]

theorem sound_store {T : Nat} {x v : Operand} (hop : o.op = .store T x v) {a : AOper} (ha : a.o = .store T (co x) (co v)) {k : Nat} (hk : opK tt k a ⟨t, h, G⟩ K) : Res P o ρ w0 Fo B w h μ G own K := by
  have hx := hρ x
  have hv := hρ v
  simp only [opK, ha] at hk
  split at hk
  · rename_i j g off hev
    obtain ⟨hfit, hk⟩ := hk
    rw [hev] at hx
    obtain ⟨f1, f2, f3, f4⟩ := hv.fits hfit
    have hkn := known_ne (fitsT_known hfit)
    obtain ⟨_, hp⟩ := hx.asPtr
    split at hk
    · rename_i cs hf
      obtain ⟨hle, hk⟩ := hk
      obtain ⟨b, hb, hpv⟩ := hp (by rw [hf]; simp)
      obtain ⟨o1, rest, he, hr', hnd, hmem, _⟩ := I.takeOut hf
      obtain ⟨b', vs, E, hm, hh, hl, h1, hr, ho1, hlo⟩ := he.cellsOf
      have hbb : b' = b := by
        rcases hb with hb | ⟨n', c', hb⟩
        · rw [hm] at hb; injection hb with hb; injection hb with hb; injection hb
        · rw [hm] at hb; cases hb
      subst hbb
      subst ho1
      have hrun := storeVar_run (P := P) hρ I hty (b := b') (off := off) (v := ρ v) hkn hh f1 f2 (by simp; omega)
      simp only [] at hrun
      have hT : Touch w (w.setRow b' (vs.take off ++ (ρ v).cells.toList ++ vs.drop (off + (ρ v).cells.size)).toArray) [b'] := setRow_touch w b' _ _ (by simp)
      obtain ⟨o'', hm'', out⟩ := I.replace (hA := h) I.keys (fun _ _ h => h) hf hr' (fun c hc => hmem c (by simp [hc])) (hT.grown I.grown (by simpa using hlo)) hT.size
        (fun c hc hn => hT.block c hc (fun hc' => hn (hmem c (by simp at hc'; simp [hc'])))) (fun c hc => hT.block c (I.hok.lt _ _ c (hmem c (by simp [hc]))).2 (fun hc' => (List.nodup_append.1 hnd).2.2 c hc' c hc rfl))
        (.cells (cs.take off ++ cellsD (ev t (co v)) ++ cs.drop (off + (cellsD (ev t (co v))).length))) [b'] hnd (fun c hc => .inl (hmem c (by simp at hc; simp [hc]))) g G μ (.inl ⟨rfl, rfl, rfl⟩)
        (fun o'' hm'' ev' => ⟨he.1, by
          refine ⟨b', _, E, hm, setRow_heap w b' _ _ E _ hh, ?_, ?_, ?_, rfl, hlo⟩
          · simp only [List.length_append, List.length_take, List.length_drop, Array.length_toList]; omega
          · intro u hu
            rcases List.mem_append.1 hu with hu | hu
            · rcases List.mem_append.1 hu with hu | hu
              · exact h1 u (List.mem_of_mem_take hu)
              · obtain ⟨j, hj⟩ := List.mem_iff_getElem?.1 hu
                exact f2 j u (by simpa using hj)
            · exact h1 u (List.mem_of_mem_drop hu)
          · intro i d u hd hu
            refine VRep.evo ?_ ev'
            have hu' := hu
            rw [← Array.length_toList] at hu'
            exact splice_rel (R := fun d v => VRep w (FF own Fo) h μ G d v) (us := (ρ v).cells.toList) hl (by rw [Array.length_toList]; omega) (by omega) hr (fun i d v hd hv => f4 i d v hd (by simpa using hv)) i d u hd hu'⟩)
      refine ⟨.skip, undef, _, .undef, _, _, _, _, ?_, .inr ⟨rfl, rfl⟩, hk, out, .undef⟩
      simp [execOp, hop, hpv, Instr.storeAt, Instr.sureAddr, hrun]
    · rename_i sz xs hf
      obtain ⟨hsz, hfl, hlt, hpu, hk⟩ := hk
      subst hsz
      obtain ⟨b, hb, hpv⟩ := hp (by rw [hf]; simp)
      obtain ⟨o1, rest, he, hr', hnd, hmem, _⟩ := I.takeOut hf
      have hs1 : (tt T).sz = 1 ∧ isCell (ev t (co v)) = true := by
        have hs : (tt T).isStruct = false := by simp only [Ty.flat, Ty.isStruct] at hfl ⊢; split at hfl <;> simp_all
        revert hfit
        generalize ev t (co v) = d
        intro hfit
        cases d <;> simp_all [fitsT]
      obtain ⟨c1, c2⟩ := hv.cell hs1.2
      rcases he.arrOf.olist_inv with ⟨_, hxs, _⟩ | ⟨vs, os, b', cap, cur, E, hm, ho1, h1, h2, h3, h4, h5, h6, h7, h8, h9⟩
      · rw [hxs] at hlt; simp at hlt
      · have hbb : b' = b := by
          rcases hb with hb | ⟨n', c', hb⟩
          · rw [hm] at hb; cases hb
          · rw [hm] at hb; injection hb with hb; injection hb with hb; injection hb
        subst hbb
        subst ho1
        have hcur : off < cur.size := by omega
        have hrun := storeVar_run (P := P) hρ I hty (b := b') (off := off) (v := ρ v) hkn h4 f1 f2 (by rw [c2]; simp; omega)
        have hset : cur.toList.take off ++ (ρ v).cells.toList ++ cur.toList.drop (off + (ρ v).cells.size) = cur.toList.set off (ρ v) := by
          rw [c2]
          rw [List.set_eq_take_append_cons_drop, if_pos (by simpa using hcur)]
          simp
        rw [hset] at hrun
        have hT : Touch w (w.setRow b' (cur.toList.set off (ρ v)).toArray) (b' :: os.flatten) := setRow_touch w b' _ _ (by simp)
        have hnd1 := (List.nodup_append.1 hnd).1
        have hsl := set_nil_sublist os off
        have hnd' : ((b' :: (os.set off []).flatten) ++ rest).Nodup := (((hsl.cons_cons b').append (List.Sublist.refl rest))).nodup hnd
        have hin : ∀ c, c ∈ b' :: (os.set off []).flatten → c ∈ b' :: os.flatten := fun c hc => (hsl.cons_cons b').subset hc
        obtain ⟨o'', hm'', out⟩ := I.replace (hA := h) I.keys (fun _ _ h => h) hf hr' (fun c hc => hmem c (by simp [hc])) (hT.grown I.grown (fun c hc => .inl ((he.arrOf.lt c (by rw [← hm] at *; exact hc)).1))) hT.size
          (fun c hc hn => hT.block c hc (fun hc' => hn (hmem c (List.mem_append_left _ hc')))) (fun c hc => hT.block c (I.hok.lt _ _ c (hmem c (by simp [hc]))).2 (fun hc' => (List.nodup_append.1 hnd).2.2 c hc' c hc rfl))
          (.arr 1 (xs.set off (ev t (co v)))) (b' :: (os.set off []).flatten) hnd' (fun c hc => .inl (hmem c (List.mem_append_left _ (hin c hc)))) g G μ (.inl ⟨rfl, rfl, rfl⟩)
          (fun o'' hm'' ev' => ⟨he.1, by
            show ORep _ _ _ _ (μ g) _
            rw [hm]
            have hmm := ev'.mm
            have hcells : ∀ k, (w.setRow b' (cur.toList.set off (ρ v)).toArray).cell? ⟨b', k, none⟩ = (cur.toList.set off (ρ v))[k]? := by
              intro k
              rw [cell_of_row _ b' k _ E (0, 0) (setRow_heap w b' cur _ E _ h4)]
              simp
            have hkeepO : ∀ (i : Nat) (q : List Nat), (os.set off [])[i]? = some q → ∀ c ∈ q, c ∈ os.flatten := fun i q hq c hc => hsl.subset (List.mem_flatten.2 ⟨q, List.mem_of_getElem? hq, hc⟩)
            have key := ORep.olist (w := w.setRow b' (cur.toList.set off (ρ v)).toArray) (F := FF o'' Fo) (lo := w0.heap.size) 1 (xs.set off (ev t (co v))) (vs.set off (ρ v)) (os.set off []) b' cap _ E (by simp [h1]) (by simp [h2]) ?_
              (setRow_heap w b' cur _ E _ h4) (by simpa using h5) (by simpa using h6) h7 ?_ h9
            · rw [List.length_set] at key; exact key
            · intro i d u q hd hu hq
              rw [List.getElem?_set] at hd hu hq
              by_cases hi : off = i
              · rw [if_pos hi] at hd hu hq
                rw [if_pos hlt] at hd
                rw [if_pos (by omega)] at hu hq
                injection hd with hd; injection hu with hu; injection hq with hq
                subst hd; subst hu; subst hq
                exact .base _ _ ((hv.pure 5 hpu).evo hmm)
              · rw [if_neg hi] at hd hu hq
                refine (h3 i d u q hd hu hq).evo hmm (fun c hc => setRow_other w b' c _ (fun e => ?_)) (fun c hc => ((h3 i d u q hd hu hq).lt c hc).1)
                subst e
                exact (List.nodup_cons.1 hnd1).1 (mem_flatten_of hq hc)
            · intro i u hu
              rw [List.getElem?_set] at hu
              by_cases hi : off = i
              · subst hi
                rw [if_pos rfl] at hu
                split at hu
                · injection hu with hu; subst hu
                  refine ⟨by rw [c2]; rfl, fun j x hx => ?_⟩
                  rw [c2] at hx
                  cases j with
                  | zero =>
                    obtain rfl : ρ v = x := by simpa using hx
                    refine ⟨c1, ?_⟩
                    have : (0 + off * 1 + 0) = off := by omega
                    rw [this, hcells off, List.getElem?_set, if_pos rfl, if_pos (by simpa using hcur)]
                  | succ j => simp at hx
                · cases hu
              · rw [if_neg hi] at hu
                obtain ⟨g1, g2⟩ := h8 i u hu
                refine ⟨g1, fun j x hx => ⟨(g2 j x hx).1, ?_⟩⟩
                have g3 := (g2 j x hx).2
                have hj : j = 0 := by have := (Array.getElem?_eq_some_iff.1 hx).1; omega
                subst hj
                rw [cell_of_row w b' _ cur E (0, 0) h4] at g3
                rw [hcells, List.getElem?_set, if_neg (by omega)]
                simpa using g3⟩)
        refine ⟨.skip, undef, _, .undef, _, _, _, _, ?_, .inr ⟨rfl, rfl⟩, hk, out, .undef⟩
        simp [execOp, hop, hpv, Instr.storeAt, Instr.sureAddr, hrun]
    · exact hk.elim
  · exact hk.elim

end
end Go.PS
