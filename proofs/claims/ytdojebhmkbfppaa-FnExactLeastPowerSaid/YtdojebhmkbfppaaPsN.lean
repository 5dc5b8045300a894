/- Every operation of the machine against the clean one: structs, made lists, appending; all together. -/
import Derived.Test.YtdojebhmkbfppaaPsM
set_option linter.unusedVariables false
set_option linter.unusedSimpArgs false
set_option linter.unusedSectionVars false
namespace Go.PS

section
variable {P : Program} {tt : Nat → Ty} {o : Oper} {ρ : Operand → Value} {w0 : World} {Fo : Nat → Prop} {B : Option Nat} {w : World} {h : List Ent} {μ : Nat → Value} {G : Nat} {own : List Nat} {K : D → List Ent → Nat → Prop} {t : List (Nat × D)}
variable (hρ : ∀ x, VRep w (FF own Fo) h μ G (ev t (co x)) (ρ x)) (I : HInv w0 Fo B w h μ G own) (hty : TyOk P tt)
include hρ I hty

omit I hty in
theorem fillP_run {fs : List (Nat × Nat)} : ∀ (ps : List (Nat × Operand)) (cs cs' : List D) (A : Array Value), A.size = cs.length → Ones A.toList → (∀ (i : Nat) (d : D) (v : Value), cs[i]? = some d → A.toList[i]? = some v → VRep w (FF own Fo) h μ G d v) →
    fillP tt fs t cs (ps.map fun p => (p.1, co p.2)) = some cs' →
    ∃ A' : Array Value, Instr.fill ((fs.map fun p => (p.1, (tt p.2).sz)).toArray[·]?) A (ps.map fun p => (p.1, ρ p.2)) = some A' ∧ A'.size = cs'.length ∧ Ones A'.toList ∧ ∀ (i : Nat) (d : D) (v : Value), cs'[i]? = some d → A'.toList[i]? = some v → VRep w (FF own Fo) h μ G d v
  | [], cs, cs', A, h1, h2, h3, hf => by
    simp only [List.map_nil, fillP, Option.some.injEq] at hf
    subst hf
    exact ⟨A, rfl, h1, h2, h3⟩
  | (i, x) :: ps, cs, cs', A, h1, h2, h3, hf => by
    simp only [List.map_cons, fillP] at hf
    split at hf
    · rename_i off T hi
      split at hf
      · rename_i hsz
        split at hf
        · rename_i hcell
          split at hf
          · rename_i hoff
            obtain ⟨c1, c2⟩ := (hρ x).cell hcell
            have hp : ((fs.map fun p => (p.1, (tt p.2).sz)).toArray[i]?) = some (off, 1) := by simp [hi, hsz]
            have hstep := fill_step (fun j => (fs.map fun p => (p.1, (tt p.2).sz)).toArray[j]?) A i off 1 (ρ x) (ps.map fun p => (p.1, ρ p.2)) hp (by rw [c2]; rfl) (by omega)
            have hset : (A.toList.take off ++ (ρ x).cells.toList ++ A.toList.drop (off + 1)).toArray = A.setIfInBounds off (ρ x) := by
              apply Array.ext'
              rw [c2, Array.toList_setIfInBounds, List.set_eq_take_append_cons_drop, if_pos (by rw [Array.length_toList]; omega)]
              simp
            rw [hset] at hstep
            rw [List.map_cons, hstep]
            refine fillP_run ps (cs.set off (ev t (co x))) cs' (A.setIfInBounds off (ρ x)) (by simp [h1]) (fun v hv => ?_) ?_ hf
            · rw [Array.toList_setIfInBounds] at hv
              rcases List.mem_or_eq_of_mem_set hv with hv | hv
              · exact h2 v hv
              · rw [hv]; exact c1
            · rw [Array.toList_setIfInBounds]
              exact set_rel (by rw [Array.length_toList]; exact h1) h3 (hρ x)
          · cases hf
        · cases hf
      · cases hf
    · cases hf

theorem sound_build {T : Nat} {ps : Array (Nat × Operand)} (hop : o.op = .build T ps) {a : AOper} (ha : a.o = .build T (ps.toList.map fun p => (p.1, co p.2))) {k : Nat} (hk : opK tt k a ⟨t, h, G⟩ K) : Res P o ρ w0 Fo B w h μ G own K := by
  simp only [opK, ha] at hk
  split at hk
  · rename_i fs zs hT hz
    obtain ⟨fields, hu, _, hpl⟩ := hty.struct T fs hT
    obtain ⟨i, hi, _, _, _, hzz⟩ := hty.info T (by rw [hT]; simp)
    obtain ⟨⟨zv, hzv, hrep⟩, _⟩ := hzz _ hz
    obtain ⟨vs, rfl, hl, h1, h2⟩ := VRep.asAgg (w := w) (F := FF own Fo) (h := h) (μ := μ) (G := G) (.imm _ _ (hrep w (FF own Fo)))
    split at hk
    · rename_i cs hcs
      obtain ⟨A', hA, hs, ho, hr⟩ := fillP_run hρ ps.toList zs cs vs.toArray (by simpa using hl) (by simpa using h1) (by simpa using h2) hcs
      refine .same I (v := .agg A'.toList.toArray) ?_ (.agg cs A'.toList (by simpa using hs) hr ho) hk
      have hb : P.built T (ps.map fun p => (p.1, ρ p.2)).toList = some A' := by
        have hA' : Instr.fill (fun x => (fs.map fun p => (p.1, (tt p.2).sz)).toArray[x]?) (Value.agg vs.toArray).cells (ps.map fun p => (p.1, ρ p.2)).toList = some A' := by simpa [Value.cells] using hA
        simp only [Program.built, hi, hu, hzv, hpl]
        exact hA'
      simp only [execOp, hop, Sem.run_bind]
      rw [run_build w T _ A' hb]
      simp
    · exact hk.elim
  · exact hk.elim

theorem sound_make {T : Nat} {l c : Operand} (hop : o.op = .makeSlice T l c) {a : AOper} (ha : a.o = .make T (co l) (co c)) {k : Nat} (hk : opK tt k a ⟨t, h, G⟩ K) : Res P o ρ w0 Fo B w h μ G own K := by
  have hl := hρ l
  have hc := hρ c
  simp only [opK, ha] at hk
  split at hk
  · rename_i E z kl n kc m hE hz el ec
    rw [el] at hl; rw [ec] at hc
    have hl := hl.asInt; have hc := hc.asInt
    obtain ⟨h0, rfl, hbig, hfit, hpu, hk⟩ := hk
    simp only [elemT] at hE
    split at hE
    · rename_i e hT
      split at hE
      · rename_i hkn
        injection hE with hE
        subst hE
        have hkn := known_of hkn
        have hz' : (tt e).zero = some z := by simpa [ezero, hT] using hz
        obtain ⟨i, hi, his, hib, hb64, hzz⟩ := hty.info e hkn
        obtain ⟨⟨zv, hzv, hrep⟩, _, _⟩ := hzz z hz'
        obtain ⟨f1, f2, _, _⟩ := VRep.fits (w := w) (F := FF own Fo) (h := h) (μ := μ) (G := G) (.imm _ _ (hrep w (FF own Fo))) hfit
        have hrun := run_make (P := P) w T e i zv (hty.slice T e hT) hi hzv kl kc n n h0 (Int.le_refl _) (by
          have h64 : i.bytes ≤ 64 := by omega
          have : (i.bytes : Int) * n ≤ 64 * 1099511627776 := Int.mul_le_mul (by omega) (by simpa [big] using hbig) h0 (by omega)
          omega) (by simp only [big] at hbig; omega)
        have hones : ∀ u ∈ flat (List.replicate n.toNat zv), u.oneCell' = true := by
          intro u hu
          obtain ⟨v, hv, hu2⟩ := mem_flat hu
          rw [(List.mem_replicate.1 hv).2] at hu2
          obtain ⟨j, hj⟩ := List.mem_iff_getElem?.1 hu2
          exact f2 j u (by simpa using hj)
        have hss : ∀ v ∈ List.replicate n.toNat zv, v.cells.size = (tt e).sz := fun v hv => by rw [(List.mem_replicate.1 hv).2]; exact f1
        have hcells : madeCells zv.cells (n.toNat * i.size) = (flat (List.replicate n.toNat zv)).toArray ++ #[] := by
          rw [his]
          apply Array.ext'
          apply List.ext_getElem?
          intro q
          simp only [Array.append_empty]
          by_cases hq : q < n.toNat * (tt e).sz
          · have hpos : 0 < (tt e).sz := by
              rcases Nat.eq_zero_or_pos (tt e).sz with h | h
              · rw [h, Nat.mul_zero] at hq; omega
              · exact h
            have e1 : q = (q / (tt e).sz) * (tt e).sz + q % (tt e).sz := by rw [Nat.mul_comm]; exact (Nat.div_add_mod q _).symm
            have hm := Nat.mod_lt q hpos
            have hd : q / (tt e).sz < n.toNat := Nat.div_lt_of_lt_mul (by rw [Nat.mul_comm]; exact hq)
            have hg := flat_get (sz := (tt e).sz) (List.replicate n.toNat zv) hss (q / (tt e).sz) (q % (tt e).sz) zv (zv.cells[q % (tt e).sz]'(by omega)) (by simp [hd]) (Array.getElem?_eq_getElem _)
            rw [← e1] at hg
            show (madeCells zv.cells (n.toNat * (tt e).sz)).toList[q]? = (flat (List.replicate n.toNat zv))[q]?
            rw [hg]
            simp [madeCells, hq, f1, hm]
          · show (madeCells zv.cells (n.toNat * (tt e).sz)).toList[q]? = (flat (List.replicate n.toNat zv))[q]?
            rw [List.getElem?_eq_none (by simp [madeCells]; omega), List.getElem?_eq_none (by rw [flat_length _ hss]; simp; omega)]
        rw [hcells] at hrun
        have hgr := grown_alloc w (.cells ((flat (List.replicate n.toNat zv)).toArray ++ #[]) e)
        have hrow := row_alloc (w := w) (E := e) hss hones #[]
        refine .addArr I hgr k (v := .slice (some ⟨w.heap.size, 0, none⟩) n.toNat n.toNat) ⟨_, _, _, rfl⟩ (by simp [execOp, hop, hl, hc]; rw [hrun]; rfl) (o1 := w.heap.size :: (List.replicate n.toNat ([] : List Nat)).flatten) (by simp) (by simp) (fun F' hF => ?_) hk
        have := ORep.olist (w := w.alloc (.cells ((flat (List.replicate n.toNat zv)).toArray ++ #[]) e)) (F := F') (lo := w0.heap.size) (tt e).sz (List.replicate n.toNat z) (List.replicate n.toNat zv) (List.replicate n.toNat []) w.heap.size n.toNat _ e (by simp) (by simp)
          (fun i d v q hd hv hq => by
            rw [List.getElem?_replicate] at hd hv hq
            split at hd
            · rename_i hlt
              rw [if_pos hlt] at hv hq
              injection hd with hd; injection hv with hv; injection hq with hq
              subst hd; subst hv; subst hq
              exact .base _ _ (hrep _ _)
            · cases hd) (heap_alloc_new w _) (by simp [flat_length _ hss]) (by simp) (by simp only [maxLen]; simp only [big] at hbig; omega) hrow I.grown.size
        rw [List.length_replicate] at this
        exact this
      · cases hE
    · cases hE
  · exact hk.elim

omit hρ I hty in
theorem hdels_find : ∀ (ks : List Nat) (l : List Ent), (l.map Ent.k).Nodup → ∀ j γ, find (hdels l ks) j γ ≠ none → find l j γ = find (hdels l ks) j γ
  | [], l, _, j, γ, hf => rfl
  | k :: ks, l, hn, j, γ, hf => by
    have h1 := hdels_find ks (hdel l k) (nodup_hdel l hn) j γ hf
    have h2 := find_hdel_eq l hn (h1 ▸ hf)
    exact h2.trans h1

/-- 'append', what is appended being there with what it owns. -/
theorem sound_appK {T e : Nat} {x y : Operand} (hT : (tt T).kd = .slice e) (hkn : (tt e).kd ≠ .other) (hz : (tt e).zero.isSome = true)
    (hop : o.op = .call ⟨.builtin .append, #[x, y], #[T, T]⟩) {k : Nat} {es : List D} {ks : List Nat} {vs2 : List Value} {os2 : List (List Nat)} {rest : List Nat}
    (hsrc : Src P w (tt e).sz (ρ y) es.length vs2) (hl2 : os2.length = es.length) (he : OReps w (FF own Fo) w0.heap.size es vs2 os2)
    (hrest : HOk w (FF own Fo) h μ G w0.heap.size B (hdels h ks) rest) (hnd : (os2.flatten ++ rest).Nodup) (hmem : ∀ c ∈ os2.flatten ++ rest, c ∈ own)
    (hk : opK.appK k (tt e).sz ⟨t, h, G⟩ (ev t (co x)) es ks K) : Res P o ρ w0 Fo B w h μ G own K := by
  have hx := hρ x
  obtain ⟨z, hz⟩ := Option.isSome_iff_exists.1 hz
  obtain ⟨i, hi, his, hib, hb64, hzz⟩ := hty.info e hkn
  obtain ⟨⟨zv, hzv, hrep⟩, hfit, _⟩ := hzz z hz
  obtain ⟨f1, f2, _, _⟩ := VRep.fits (w := w) (F := FF own Fo) (h := h) (μ := μ) (G := G) (.imm _ _ (hrep w (FF own Fo))) hfit
  have hlo := I.grown.size
  have hrun0 : ∀ sv, ρ x = sv → (execOp ρ o).run P w = ((Builtin.append_ #[T, T] o.type #[sv, ρ y]).run P w).andThen fun v w' => .ok (.value v) w' := by
    intro sv hsv
    simp [execOp, hop, resolve, invoke, builtin, hsv]
  have hkA := nodup_hdels ks h I.keys
  have hlt : ∀ c ∈ own, c < w.heap.size := fun c hc => (I.hok.lt _ _ c hc).2
  simp only [opK.appK] at hk
  split at hk
  · rename_i hev
    obtain ⟨hbig, hk⟩ := hk
    rw [hev] at hx
    obtain ⟨rest2, hr2, hnr2, hmr2⟩ := HOk.del k _ _ hrest (List.nodup_append.1 hnd).2.1
    obtain ⟨v', w', o', hr, hT', hno, hmo, hsl, hF⟩ := app_own (P := P) (w := w) (F := FF own Fo) (lo := w0.heap.size) T o.type e i zv (hty.slice T e hT) hi hzv (by rw [f1, his]) (by omega) [] (.slice none 0 0) [] (.olistE _)
      (ρ y) es vs2 os2 hl2 (by rw [his]; exact hsrc) he (by simpa using (List.nodup_append.1 hnd).1) (by simpa using hbig) hlo
    have hgr : w.grownBy w' none := ⟨hT'.os, hT'.tape, hT'.output, hT'.size, fun c hc _ => hT'.block c hc (by simp)⟩
    have hndo : (o' ++ rest2).Nodup := by
      rw [List.nodup_append]
      refine ⟨hno, hnr2, fun a ha b hb => ?_⟩
      intro hab; subst hab
      rcases hmo a ha with h1 | h1 | h1
      · cases h1
      · exact (List.nodup_append.1 hnd).2.2 a h1 a (hmr2 a hb) rfl
      · have := hlt a (hmem a (by simp [hmr2 a hb])); omega
    have out := I.adds (hA := hdel (hdels h ks) k) (rest := rest2) hr2 (fun c hc => hmem c (by simp [hmr2 c hc])) (fun j γ hf => by
        have h1 := find_hdel_eq _ hkA hf
        exact (hdels_find ks h I.keys j γ (h1 ▸ hf)).trans h1) (w' := w')
      (grownBy.trans I.grown (grownBy.weak hgr)) hgr.size (fun c hc _ => hgr.block c hc (by simp)) (fun c hc => hgr.block c (hlt c (hmem c (by simp [hmr2 c hc]))) (by simp)) [⟨k, G, .arr (tt e).sz es⟩] o'
      (by simpa using ⟨by simpa using not_mem_hdel _ hkA, nodup_hdel _ hkA⟩) hndo (fun c hc => by
        rcases hmo c hc with h1 | h1 | h1
        · cases h1
        · exact .inl (hmem c (by simp [h1]))
        · exact .inr h1) (upd μ G v') (G + 1) (Nat.le_succ _) (fun x hx => upd_lt _ hx) (by simp)
      (fun ev => ⟨o', [], by simp, ⟨Nat.lt_succ_self _, by simp only [upd_self]; have := hF _ ev.mm; rw [his] at this; simpa using this⟩, rfl⟩)
    obtain ⟨a, n, c, rfl⟩ := hsl
    refine ⟨_, .slice a n c, w', _, _, _, _, _, ?_, .inl rfl, hk, out, .arr k G a n c (Nat.lt_succ_self _) (fun _ => by simp [upd_self])⟩
    rw [hrun0 _ hx.asNil, hr]
    rfl
  · rename_i j g hev
    rw [hev] at hx
    split at hk
    · rename_i s' xs hf
      obtain ⟨rfl, hjk, hbig, hk⟩ := hk
      obtain ⟨_, hg, hm⟩ := hx.asArr
      have hm := hm (by rw [hf]; simp)
      have hfA : find (hdels h ks) j g = some (.arr (tt e).sz xs) := by rw [find_hdels_ne ks h hjk]; exact hf
      obtain ⟨o1, rest1, hent, hr1, hnd1, hmem1⟩ := HOk.take _ _ hrest hfA (List.nodup_append.1 hnd).2.1
      have hndd : (o1 ++ os2.flatten).Nodup := by
        rw [List.nodup_append]
        exact ⟨(List.nodup_append.1 hnd1).1, (List.nodup_append.1 hnd).1, fun a ha b hb hab => (List.nodup_append.1 hnd).2.2 b hb a ((hmem1 a).2 (by simp [ha])) hab.symm⟩
      obtain ⟨v', w', o', hr, hT', hno, hmo, hsl, hF⟩ := app_own (P := P) (w := w) (F := FF own Fo) (lo := w0.heap.size) T o.type e i zv (hty.slice T e hT) hi hzv (by rw [f1, his]) (by omega) xs (μ g) o1 (by rw [his]; exact hent.arrOf)
        (ρ y) es vs2 os2 hl2 (by rw [his]; exact hsrc) he hndd hbig hlo
      have hin1 : ∀ c ∈ o1, c ∈ own := fun c hc => hmem c (List.mem_append_right _ ((hmem1 c).2 (by simp [hc])))
      have hin2 : ∀ c ∈ rest1, c ∈ own := fun c hc => hmem c (List.mem_append_right _ ((hmem1 c).2 (by simp [hc])))
      have hndo : (o' ++ rest1).Nodup := by
        rw [List.nodup_append]
        refine ⟨hno, (List.nodup_append.1 hnd1).2.1, fun a ha b hb => ?_⟩
        intro hab; subst hab
        rcases hmo a ha with h1 | h1 | h1
        · exact (List.nodup_append.1 hnd1).2.2 a h1 a hb rfl
        · exact (List.nodup_append.1 hnd).2.2 a h1 a ((hmem1 a).2 (by simp [hb])) rfl
        · have := hlt a (hin2 a hb); omega
      obtain ⟨o'', hm'', out⟩ := I.replace (hA := hdels h ks) hkA (hdels_find ks h I.keys) hfA hr1 hin2 (hT'.grown I.grown (fun c hc => (I.hok.lt _ _ c (hin1 c hc)).1.imp id id)) hT'.size
        (fun c hc hn => hT'.block c hc (fun h1 => hn (hin1 c h1))) (fun c hc => hT'.block c (hlt c (hin2 c hc)) (fun h1 => (List.nodup_append.1 hnd1).2.2 c h1 c hc rfl))
        (.arr (tt e).sz (xs ++ es)) o' hndo (fun c hc => by
          rcases hmo c hc with h1 | h1 | h1
          · exact .inl (hin1 c h1)
          · exact .inl (hmem c (by simp [h1]))
          · exact .inr h1) G (G + 1) (upd μ G v') (.inr ⟨v', rfl, rfl, rfl⟩)
        (fun o'' hm'' ev => ⟨Nat.lt_succ_self _, by simp only [upd_self]; have := hF _ ev.mm; rw [his] at this; exact this⟩)
      obtain ⟨a, n, c, rfl⟩ := hsl
      refine ⟨_, .slice a n c, w', _, _, _, _, _, ?_, .inl rfl, hk, out, .arr j G a n c (Nat.lt_succ_self _) (fun _ => by simp [upd_self])⟩
      rw [hrun0 _ hm, hr]
      rfl
    · exact hk.elim
  · exact hk.elim

end
end Go.PS
