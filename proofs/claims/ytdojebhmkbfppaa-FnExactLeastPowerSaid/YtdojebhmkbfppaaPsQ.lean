/- Calls against the clean ones. -/
import Derived.Test.YtdojebhmkbfppaaPsP
set_option linter.unusedVariables false
set_option linter.unusedSimpArgs false
set_option linter.unusedSectionVars false
namespace Go.PS

/-- What a call comes to. -/
def CPost (w0 : World) (Fo : Nat → Prop) (B : Option Nat) (w : World) (h : List Ent) (μ : Nat → Value) (G : Nat) (own : List Nat) (K : D → List Ent → Nat → Prop) (e : Ending) (w' : World) : Prop :=
  ∃ (v : Value) (d : D) (h' : List Ent) (μ' : Nat → Value) (G' : Nat) (o' : List Nat), e = .returned v ∧ K d h' G' ∧ Out w0 Fo B w h μ G own w' h' μ' G' o' ∧ VRep w' (FF o' Fo) h' μ' G' d v

theorem ioOf_find : ∀ (l : List D) (k g : Nat), ioOf l = some (k, g) → D.ptr k g 0 ∈ l
  | [], k, g, h => by simp [ioOf] at h
  | d :: l, k, g, h => by
    unfold ioOf at h
    split at h
    · rename_i e; cases e
    · rename_i k' g' l' e
      injection e with e1 e2
      simp only [Option.some.injEq, Prod.mk.injEq] at h
      obtain ⟨rfl, rfl⟩ := h
      subst e1
      simp
    · rename_i d' l' _ e
      injection e with e1 e2
      subst e2
      exact List.mem_cons_of_mem _ (ioOf_find _ k g h)

section
variable {P : Program} {w0 : World} {Fo : Nat → Prop} {B : Option Nat} {w : World} {h : List Ent} {μ : Nat → Value} {G : Nat} {own : List Nat} {K : D → List Ent → Nat → Prop}

theorem pc_plain (I : HInv w0 Fo B w h μ G own) {id : Nat} {ds : List D} {vs : List Value} {fresh : Bool} {R : D → List D → Prop} {F : Nat → Prop} (hF : ∀ b, F b → b < w.heap.size) (hFF : fresh = false → ∀ b, FF own Fo b → F b)
    (hpc : PC P id ds none fresh R) (hl : vs.length = ds.length) (hr : ∀ (i : Nat) (d : D) (v : Value), ds[i]? = some d → vs[i]? = some v → Rep w F d v) (hk : ∀ r cs, R r cs → K (imm 5 r) h G) :
    Calls P id vs.toArray w (CPost w0 Fo B w h μ G own K) := by
  refine (hpc.2 w vs F none hF hl (fun i d v hd hv => .inl (hr i d v hd hv)) rfl).mono ?_
  rintro e w' ⟨v, r, cs', o, rfl, hR, hod, hg, ho, hnd, _⟩
  have hw := hg.size
  refine ⟨v, imm 5 r, h, μ, G, own, rfl, hk r cs' hR, I.quiet hg, .imm _ _ (ho.imm (fun b hb hl => ?_) (fun b hb hf => ?_) 5)⟩
  · cases fresh with
    | true => simpa using I.blk b hb
    | false => simpa using hFF rfl b hb
  · have := (ho.lt b hb).1
    have := I.blk b hf
    omega

theorem pc_thaw (I : HInv w0 Fo B w h μ G own) {id k : Nat} {ds : List D} {vs : List Value} {R : D → List D → Prop} {F : Nat → Prop} (hF : ∀ b, F b → b < w.heap.size)
    (hpc : PC P id ds none true R) (hl : vs.length = ds.length) (hr : ∀ (i : Nat) (d : D) (v : Value), ds[i]? = some d → vs[i]? = some v → Rep w F d v)
    (hk : ∀ r cs, R r cs → K (thaw 5 k G r).1 ((thaw 5 k G r).2.1 ++ hdels h ((thaw 5 k G r).2.1.map Ent.k)) (thaw 5 k G r).2.2.2) :
    Calls P id vs.toArray w (CPost w0 Fo B w h μ G own K) := by
  refine (hpc.2 w vs F none hF hl (fun i d v hd hv => .inl (hr i d v hd hv)) rfl).mono ?_
  rintro e w' ⟨v, r, cs', o, rfl, hR, hod, hg, ho, hnd, _⟩
  obtain ⟨val, o1, a1, a2, a3, a4, a5, a6, a7⟩ := thaw_ok 5 k G r v o (hod rfl) ho hnd
  obtain ⟨rest, out1, hmr⟩ := HInv.drops ((thaw 5 k G r).2.1.map Ent.k) I
  have hlt : ∀ c ∈ own, c < w.heap.size := fun c hc => (I.hok.lt _ _ c hc).2
  have hge : ∀ c ∈ o1, w.heap.size ≤ c := fun c hc => (ho.lt c (a2 c hc)).1
  -- the kept ones, as they stood
  have hrest : HOk w (FF own Fo) h μ G w0.heap.size B (hdels h ((thaw 5 k G r).2.1.map Ent.k)) rest → True := fun _ => trivial
  have hdrop : ∃ rest, HOk w (FF own Fo) h μ G w0.heap.size B (hdels h ((thaw 5 k G r).2.1.map Ent.k)) rest ∧ rest.Nodup ∧ ∀ c ∈ rest, c ∈ own := by
    have gen : ∀ (ks : List Nat) (l : List Ent) (p : List Nat), HOk w (FF own Fo) h μ G w0.heap.size B l p → p.Nodup → ∃ rest, HOk w (FF own Fo) h μ G w0.heap.size B (hdels l ks) rest ∧ rest.Nodup ∧ ∀ c ∈ rest, c ∈ p := by
      intro ks
      induction ks with
      | nil => intro l p hp hn; exact ⟨p, hp, hn, fun c hc => hc⟩
      | cons k ks ih =>
        intro l p hp hn
        obtain ⟨q, hq, hn2, hm2⟩ := HOk.del k l p hp hn
        obtain ⟨q', hq', hn3, hm3⟩ := ih _ q hq hn2
        exact ⟨q', hq', hn3, fun c hc => hm2 c (hm3 c hc)⟩
    exact gen _ h own I.hok I.nodup
  obtain ⟨rest, hrk, hrn, hrm⟩ := hdrop
  have hkA := nodup_hdels ((thaw 5 k G r).2.1.map Ent.k) h I.keys
  refine ⟨v, _, _, fun x => if x < G then μ x else val x, _, _, rfl, hk r cs' hR, I.adds hrk hrm (hdels_find _ h I.keys) (grownBy.trans I.grown (grownBy.weak hg)) hg.size
    (fun c hc _ => hg.block c hc (by simp)) (fun c hc => hg.block c (hlt c (hrm c hc)) (by simp)) _ o1 ?_ ?_ (fun c hc => .inr (hge c hc)) _ _ a3 (fun x hx => by simp [hx]) (fun e he => (a5 e he).2.2.1) ?_, ?_⟩
  · rw [List.map_append, List.nodup_append]
    refine ⟨a6, hkA, fun a ha b hb hab => ?_⟩
    subst hab
    exact not_mem_hdels _ h I.keys ha hb
  · rw [List.nodup_append]
    exact ⟨a1, hrn, fun a ha b hb hab => by have := hge a ha; have := hlt b (hrm b hb); omega⟩
  · intro ev
    obtain ⟨b1, b2⟩ := a7 (FF (o1 ++ rest) Fo) _ (fun x => if x < G then μ x else val x) _ B (fun x hx hx2 => by rw [if_neg (by omega)]) (Nat.le_refl _)
    have lo : ∀ (l : List Ent) (p : List Nat), HOk w' (FF (o1 ++ rest) Fo) ((thaw 5 k G r).2.1 ++ hdels h ((thaw 5 k G r).2.1.map Ent.k)) (fun x => if x < G then μ x else val x) (thaw 5 k G r).2.2.2 w.heap.size B l p →
        HOk w' (FF (o1 ++ rest) Fo) ((thaw 5 k G r).2.1 ++ hdels h ((thaw 5 k G r).2.1.map Ent.k)) (fun x => if x < G then μ x else val x) (thaw 5 k G r).2.2.2 w0.heap.size B l p := by
      intro l
      induction l with
      | nil => intro p hp; exact hp
      | cons e es ih =>
        rintro p ⟨p1, p2, rfl, ⟨he1, he2⟩, hp⟩
        refine ⟨p1, p2, rfl, ⟨he1, ?_⟩, ih p2 hp⟩
        have hs := I.grown.size
        cases hb : e.b with
        | cells cs =>
          rw [hb] at he2
          obtain ⟨b, us, E, h1, h2, h3, h4, h5, h6, h7⟩ := he2
          exact ⟨b, us, E, h1, h2, h3, h4, h5, h6, h7.imp (fun h => by omega) (fun h => h)⟩
        | arr sz xs =>
          rw [hb] at he2
          exact he2.evo (.refl _ _) (fun _ _ => rfl) (fun c hc => by have := (he2.lt c hc).1; omega)
    exact lo _ _ b1
  · exact (a7 _ _ _ _ none (fun x hx hx2 => by rw [if_neg (by omega)]) (Nat.le_refl _)).2

/-- The one block that a call is handed to write to: taken out, laid in again. -/
theorem io_step (I : HInv w0 Fo B w h μ G own) {j g : Nat} {cs cs' : List D} (hf : find h j g = some (.cells cs)) (hpu : pureL cs) :
    ∃ b : Nat, b ∈ own ∧ μ g = .pointer (some ⟨b, 0, none⟩) ∧ IoIn w (FF own Fo) (some b) (some cs) ∧
      ∀ w' : World, w.grownBy w' (some b) → IoOut w' (FF own Fo) (some b) cs' (some cs) → ∃ o'', (∀ c, c ∈ o'' ↔ c ∈ own) ∧ Out w0 Fo B w h μ G own w' (hset h j g (.cells cs')) μ G o'' := by
  obtain ⟨o1, rest, he, hr', hnd, hmem, _⟩ := I.takeOut hf
  obtain ⟨o1', rest', he', hr'', hnd', hmem'⟩ := HOk.take h own I.hok hf I.nodup
  obtain ⟨b, vs, E, hm, hh, hl, h1, hr, rfl, hlo⟩ := he'.cellsOf
  have hb : b ∈ own := (hmem' b).2 (by simp)
  refine ⟨b, hb, hm, ⟨b, vs, E, rfl, .inl hb, hh, hl, fun i d v hd hv => ⟨h1 v (List.mem_of_getElem? hv), (hr i d v hd hv).pure 5 (hpu d (List.mem_of_getElem? hd))⟩⟩, fun w' hg hout => ?_⟩
  obtain ⟨b', bv, E', hbb, hh', hl', hr2⟩ := hout
  obtain rfl : b = b' := by simpa using hbb
  have hT : Touch w w' [b] := ⟨hg.os, hg.tape, hg.output, hg.size, fun c hc hn => hg.block c hc (by simp at hn; simp; exact hn)⟩
  have hrl : ∀ c ∈ rest', c ∈ own := fun c hc => (hmem' c).2 (by simp [hc])
  have hlt : ∀ c ∈ own, c < w.heap.size := fun c hc => (I.hok.lt _ _ c hc).2
  have hbr : b ∉ rest' := by have := hnd'; simp only [List.singleton_append, List.nodup_cons] at this; exact this.1
  obtain ⟨o'', hm'', out⟩ := I.replace (hA := h) I.keys (fun _ _ _ => rfl) hf hr'' hrl (hT.grown I.grown (by simpa using hlo)) hT.size
    (fun c hc hn => hT.block c hc (fun h1 => by simp at h1; subst h1; exact hn hb)) (fun c hc => hT.block c (hlt c (hrl c hc)) (fun h1 => by simp at h1; subst h1; exact hbr hc))
    (.cells cs') [b] hnd' (fun c hc => by simp at hc; subst hc; exact .inl hb) g G μ (.inl ⟨rfl, rfl, rfl, fun x hx => absurd rfl hx⟩)
    (fun o'' hm'' ev => ⟨he'.1, ⟨b, bv, E', hm, hh', hl', fun v hv => by
        obtain ⟨i, hi⟩ := List.mem_iff_getElem?.1 hv
        have hil : i < cs'.length := by have := (List.getElem?_eq_some_iff.1 hi).1; omega
        exact (hr2 i _ v (List.getElem?_eq_getElem hil) hi).1, fun i d v hd hv => .imm _ _ ((hr2 i d v hd hv).2.weak (fun c hc hl => by
          rcases hc with hc | hc
          · exact .inl ((hmem' c).2 ((hm'' c).1 hc))
          · exact .inr hc)), rfl, hlo⟩⟩)
  exact ⟨o'', fun c => (hm'' c).trans (hmem' c).symm, out⟩

theorem dio_rep {ds : List D} {vs : List Value} {j g b : Nat} (I : HInv w0 Fo B w h μ G own) (hf : find h j g ≠ none) (hm : μ g = .pointer (some ⟨b, 0, none⟩))
    (hr : ∀ (i : Nat) (d : D) (v : Value), ds[i]? = some d → vs[i]? = some v → VRep w (FF own Fo) h μ G d v) :
    ∀ (i : Nat) (d : D) (v : Value), (ds.map (dio j g))[i]? = some d → vs[i]? = some v → ARep w (FF own Fo) (some b) d v := by
  intro i d v hd hv
  obtain ⟨e, he, rfl⟩ := getElem?_map_some hd
  have := hr i e v he hv
  unfold dio
  split
  · rename_i k g'
    split
    · rename_i hjg
      obtain ⟨rfl, rfl⟩ := hjg
      obtain ⟨_, hp⟩ := this.asPtr
      obtain ⟨b', hb, hv'⟩ := hp hf
      have : b' = b := by
        rcases hb with hb | ⟨n, c, hb⟩
        · rw [hm] at hb; injection hb with hb; injection hb with hb; injection hb with hb; exact hb.symm
        · rw [hm] at hb; cases hb
      subst this
      exact .inr ⟨rfl, b', rfl, hv'⟩
    · exact .inl (.junk _)
  · exact .inl (this.derS 5)

theorem pc_io (I : HInv w0 Fo B w h μ G own) {id j g : Nat} {ds : List D} {vs : List Value} {cs : List D} {fresh : Bool} {R : D → List D → Prop} (hf : find h j g = some (.cells cs)) (hpu : pureL cs)
    (hpc : PC P id (ds.map (dio j g)) (some cs) fresh R) (hl : vs.length = ds.length) (hr : ∀ (i : Nat) (d : D) (v : Value), ds[i]? = some d → vs[i]? = some v → VRep w (FF own Fo) h μ G d v)
    (hk : ∀ r cs', R r cs' → K (imm 5 r) (hset h j g (.cells cs')) G) : Calls P id vs.toArray w (CPost w0 Fo B w h μ G own K) := by
  obtain ⟨b, hb, hm, hin, _⟩ := io_step (cs' := []) I hf hpu
  refine (hpc.2 w vs (FF own Fo) (some b) (fun c hc => I.blk c hc) (by simpa using hl) (dio_rep I (by rw [hf]; simp) hm hr) hin).mono ?_
  rintro e w' ⟨v, r, cs', o, rfl, hR, hod, hg, ho, hnd, hio⟩
  obtain ⟨b', hb', hm', _, hst⟩ := io_step (cs' := cs') I hf hpu
  have hbb : b = b' := by rw [hm] at hm'; injection hm' with hm'; injection hm' with hm'; injection hm'
  subst hbb
  obtain ⟨o'', hm'', out⟩ := hst w' hg hio
  refine ⟨v, imm 5 r, _, μ, G, o'', rfl, hk r cs' hR, out, .imm _ _ (ho.imm (fun c hc hl => ?_) (fun c hc hf => ?_) 5)⟩
  · have hc' : FF own Fo c := hc.imp (fun h => (hm'' c).1 h) (fun h => h)
    cases fresh with
    | true => simpa using I.blk c hc'
    | false => simpa using hc'
  · have := (ho.lt c hc).1
    have := I.blk c (hf.imp (fun h => (hm'' c).1 h) (fun h => h))
    omega

end

section
variable {C : Ctx} {w0 : World} {Fo : Nat → Prop} {B : Option Nat} {w : World} {h : List Ent} {μ : Nat → Value} {G : Nat} {own : List Nat} {K : D → List Ent → Nat → Prop} {t : List (Nat × D)}

/-- A text run in place is sound. -/
def InlOk (C : Ctx) (inlK : Nat → List D → List Ent → Nat → (D → List Ent → Nat → Prop) → Prop) : Prop :=
  ∀ (id : Nat) (ds : List D) (h : List Ent) (G : Nat) (K : D → List Ent → Nat → Prop), inlK id ds h G K → Enters C.P id ∧
    ∀ (w0 : World) (Fo : Nat → Prop) (B : Option Nat) (w : World) (μ : Nat → Value) (own : List Nat) (vs : List Value), HInv w0 Fo B w h μ G own → vs.length = ds.length →
      (∀ (i : Nat) (d : D) (v : Value), ds[i]? = some d → vs[i]? = some v → VRep w (FF own Fo) h μ G d v) → Calls C.P id vs.toArray w (CPost w0 Fo B w h μ G own K)

theorem call_sound (I : HInv w0 Fo B w h μ G own) {inlK : Nat → List D → List Ent → Nat → (D → List Ent → Nat → Prop) → Prop} (hin : InlOk C inlK) {k fl : Nat} {fd : D} {fv : Value} {as : List D} {avs : List Value}
    (hfr : VRep w (FF own Fo) h μ G fd fv) (hl : avs.length = as.length) (hr : ∀ (i : Nat) (d : D) (v : Value), as[i]? = some d → avs[i]? = some v → VRep w (FF own Fo) h μ G d v)
    (hk : callK C k inlK fl fd as ⟨t, h, G⟩ K) :
    ∃ (id : Nat) (cvs : List Value), fv = .func (.func id) #[] cvs.toArray ∧ Enters C.P id ∧ Calls C.P id (avs ++ cvs).toArray w (CPost w0 Fo B w h μ G own K) := by
  unfold callK at hk
  split at hk
  · rename_i id caps
    obtain ⟨cvs, rfl, hcl, hcr⟩ := hfr.asFn
    have hal : (avs ++ cvs).length = (as ++ caps).length := by simp [hl, hcl]
    have har : ∀ (i : Nat) (d : D) (v : Value), (as ++ caps)[i]? = some d → (avs ++ cvs)[i]? = some v → VRep w (FF own Fo) h μ G d v := by
      intro i d v hd hv
      by_cases hi : i < as.length
      · rw [List.getElem?_append_left hi] at hd
        rw [List.getElem?_append_left (by omega)] at hv
        exact hr i d v hd hv
      · rw [List.getElem?_append_right (by omega)] at hd hv
        rw [hl] at hv
        exact hcr _ d v hd hv
    have hder : ∀ (i : Nat) (d : D) (v : Value), ((as ++ caps).map (der h 5))[i]? = some d → (avs ++ cvs)[i]? = some v → Rep w (fun _ => False) d v := by
      intro i d v hd hv
      obtain ⟨e, he, rfl⟩ := getElem?_map_some hd
      exact VRep.der I.hok 5 e v (har i e v he hv)
    have hders : ∀ (i : Nat) (d : D) (v : Value), ((as ++ caps).map (derS 5))[i]? = some d → (avs ++ cvs)[i]? = some v → Rep w (FF own Fo) d v := by
      intro i d v hd hv
      obtain ⟨e, he, rfl⟩ := getElem?_map_some hd
      exact (har i e v he hv).derS 5
    split at hk
    · obtain ⟨R, hpc, hk⟩ := hk
      exact ⟨id, cvs, rfl, hpc.1, pc_plain I (F := fun _ => False) (fun _ h => h.elim) (fun h => by cases h) hpc (by simpa using hal) hder hk⟩
    · obtain ⟨R, hpc, hk⟩ := hk
      exact ⟨id, cvs, rfl, hpc.1, pc_thaw I (F := fun _ => False) (fun _ h => h.elim) hpc (by simpa using hal) hder hk⟩
    · obtain ⟨R, hpc, hk⟩ := hk
      exact ⟨id, cvs, rfl, hpc.1, pc_plain I (F := FF own Fo) I.blk (fun _ _ h => h) hpc (by simpa using hal) hders hk⟩
    · obtain ⟨v, hi, hk⟩ := hk
      obtain ⟨hen, hc⟩ := hin id _ _ _ _ hi
      refine ⟨id, cvs, rfl, hen, Calls.mono (hc w0 Fo B w μ own _ I hal har) (fun e w' hp => ?_)⟩
      obtain ⟨v', d, h', μ', g', o', q1, q2, q3⟩ := hp
      obtain ⟨rfl, rfl, rfl⟩ := q2
      exact ⟨v', _, _, μ', _, o', q1, hk, q3⟩
    · obtain ⟨hen, hc⟩ := hin id _ _ _ _ hk
      exact ⟨id, cvs, rfl, hen, hc w0 Fo B w μ own _ I hal har⟩
    · split at hk
      · rename_i j g hio
        split at hk
        · rename_i cs hf
          obtain ⟨hpu, hk⟩ := hk
          split at hk
          · obtain ⟨R, hpc, hk⟩ := hk
            exact ⟨id, cvs, rfl, hpc.1, pc_io I hf hpu hpc hal har hk⟩
          · exact hk.elim
          · obtain ⟨R, hpc, hk⟩ := hk
            exact ⟨id, cvs, rfl, hpc.1, pc_io I hf hpu hpc hal har hk⟩
        · exact hk.elim
      · exact hk.elim
  · exact hk.elim

end
end Go.PS
