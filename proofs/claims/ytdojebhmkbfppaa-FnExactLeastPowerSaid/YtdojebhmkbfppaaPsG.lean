/- Appending, with what is owned. -/
import Derived.Test.YtdojebhmkbfppaaPsF
set_option linter.unusedVariables false
set_option linter.unusedSimpArgs false
namespace Go.PS

/-- From one world to a later one: the streams as they were, only blocks of 'o' touched. -/
structure Touch (w w' : World) (o : List Nat) : Prop where
  os : w'.os = w.os
  tape : w'.tape = w.tape
  output : w'.output = w.output
  size : w.heap.size ≤ w'.heap.size
  block : ∀ c, c < w.heap.size → c ∉ o → w'.heap[c]? = w.heap[c]?

theorem Touch.of_grown {w w' : World} (g : w.grownBy w' none) (o : List Nat) : Touch w w' o := ⟨g.os, g.tape, g.output, g.size, fun c hc _ => g.block c hc (by simp)⟩

theorem Touch.grown {w0 w w' : World} {o : List Nat} {B : Option Nat} (t : Touch w w' o) (g : w0.grownBy w B) (ho : ∀ c ∈ o, w0.heap.size ≤ c ∨ B = some c) : w0.grownBy w' B :=
  ⟨t.os.trans g.os, t.tape.trans g.tape, t.output.trans g.output, Nat.le_trans g.size t.size, fun k hk hn =>
    (t.block k (Nat.lt_of_lt_of_le hk g.size) (fun hm => by rcases ho k hm with h | h <;> first | omega | exact hn h.symm)).trans (g.block k hk hn)⟩

theorem grown_alloc (w : World) (o : Obj) : w.grownBy (w.alloc o) none := World.grownBy_alloc w o none
theorem grown_drew_alloc (w : World) (o : Obj) : w.grownBy (w.drew.alloc o) none := ⟨rfl, rfl, rfl, by simp, fun k hk _ => heap_alloc_old w.drew o k hk⟩
theorem grown_drew (w : World) : w.grownBy w.drew none := ⟨rfl, rfl, rfl, Nat.le_refl _, fun _ _ _ => rfl⟩

theorem row_alloc {w : World} {vs : List Value} {sz : Nat} {E : TypeId} (hs : ∀ v ∈ vs, v.cells.size = sz) (h1 : ∀ u ∈ flat vs, u.oneCell' = true) (rest : Array Value) :
    Row (w.alloc (.cells ((flat vs).toArray ++ rest) E)) w.heap.size 0 sz vs := by
  refine .of_flat hs (fun k u hk => ⟨h1 u (List.mem_of_getElem? hk), ?_⟩)
  rw [Nat.zero_add, World.cell?_alloc_new]
  rw [Array.getElem?_append_left (by simpa using (List.getElem?_eq_some_iff.1 hk).1)]
  simpa using hk

theorem mem_flat {vs : List Value} {u : Value} (h : u ∈ flat vs) : ∃ v ∈ vs, u ∈ v.cells.toList := by
  unfold flat at h
  obtain ⟨l, hl, hu⟩ := List.mem_flatten.1 h
  obtain ⟨v, hv, rfl⟩ := List.mem_map.1 hl
  exact ⟨v, hv, hu⟩

theorem Row.ones {w : World} {b o sz : Nat} {vs : List Value} (h : Row w b o sz vs) : ∀ u ∈ PS.flat vs, u.oneCell' = true := fun u hu => by
  obtain ⟨k, hk⟩ := List.mem_iff_getElem?.1 hu
  exact (h.flat k u hk).1

/-- Elements one after the other, with what each owns. -/
def OReps (w : World) (F : Nat → Prop) (lo : Nat) (xs : List D) (vs : List Value) (os : List (List Nat)) : Prop :=
  ∀ (i : Nat) (d : D) (v : Value) (o : List Nat), xs[i]? = some d → vs[i]? = some v → os[i]? = some o → ORep w F lo d v o

theorem OReps.append {w : World} {F : Nat → Prop} {lo : Nat} {xs ys : List D} {vs us : List Value} {os ps : List (List Nat)} (h1 : vs.length = xs.length) (h2 : os.length = xs.length)
    (a : OReps w F lo xs vs os) (b : OReps w F lo ys us ps) : OReps w F lo (xs ++ ys) (vs ++ us) (os ++ ps) := by
  intro i d v o hd hv ho
  by_cases hi : i < xs.length
  · rw [List.getElem?_append_left hi] at hd
    rw [List.getElem?_append_left (by omega)] at hv ho
    exact a i d v o hd hv ho
  · rw [List.getElem?_append_right (by omega)] at hd hv ho
    rw [h1] at hv; rw [h2] at ho
    exact b _ d v o hd hv ho

theorem OReps.evo {w w' : World} {F F' : Nat → Prop} {lo : Nat} {xs : List D} {vs : List Value} {os : List (List Nat)} (a : OReps w F lo xs vs os) (e : MemEvo w F w' F')
    (hk : ∀ c ∈ os.flatten, w'.heap[c]? = w.heap[c]?) : OReps w' F' lo xs vs os := fun i d v o hd hv ho =>
  (a i d v o hd hv ho).evo e (fun c hc => hk c (mem_flatten_of ho hc)) (fun c hc => ((a i d v o hd hv ho).lt c hc).1)

theorem setRow_touch (w : World) (b : Nat) (cs : Array Value) (o : List Nat) (hb : b ∈ o) : Touch w (w.setRow b cs) o where
  os := rfl
  tape := rfl
  output := rfl
  size := by simp [World.setRow]
  block := fun c _ hn => setRow_other w b c cs (fun e => hn (e ▸ hb))

/-- 'append' onto what is the run's own. -/
theorem app_own {P : Program} {w : World} {F : Nat → Prop} {lo : Nat} (t ty e : TypeId) (i : TypeInfo) (z : Value) (ht : P.underlying t = some (.slice e)) (hi : P.info? e = some i) (hz : i.zero = some z)
    (hzs : z.cells.size = i.size) (hby : i.bytes ≤ 64) (xs : List D) (sv : Value) (o1 : List Nat) (hx : ORep w F lo (.olist i.size xs) sv o1)
    (y : Value) (es : List D) (vs2 : List Value) (os2 : List (List Nat)) (hl2 : os2.length = es.length) (hsrc : Src P w i.size y es.length vs2)
    (he : OReps w F lo es vs2 os2) (hnd : (o1 ++ os2.flatten).Nodup) (hbig : xs.length + es.length ≤ big) (hlo : lo ≤ w.heap.size) :
    ∃ (v' : Value) (w' : World) (o' : List Nat), (Builtin.append_ #[t, t] ty #[sv, y]).run P w = .ok v' w' ∧ Touch w w' o1 ∧ o'.Nodup ∧ (∀ c ∈ o', c ∈ o1 ∨ c ∈ os2.flatten ∨ w.heap.size ≤ c) ∧
      (∃ a n c, v' = .slice a n c) ∧ ∀ F', MemEvo w F w' F' → ORep w' F' lo (.olist i.size (xs ++ es)) v' o' := by
  have hlv : vs2.length = es.length := hsrc.2.1
  have hbb : (xs.length + es.length) * i.bytes ≤ 140737488355328 := by
    have h1 : (xs.length + es.length) * i.bytes ≤ big * 64 := Nat.mul_le_mul hbig hby
    simp only [big] at h1; omega
  have h63 : xs.length + es.length ≤ 9223372036854775807 := by simp only [big] at hbig; omega
  have hml : xs.length + es.length ≤ maxLen := by simp only [big] at hbig; simp only [maxLen]; omega
  have hlt2 : ∀ c ∈ os2.flatten, c < w.heap.size := by
    intro c hc
    obtain ⟨o, ho, hc⟩ := List.mem_flatten.1 hc
    obtain ⟨k, hk⟩ := List.mem_iff_getElem?.1 ho
    have hkl : k < os2.length := (List.getElem?_eq_some_iff.1 hk).1
    exact ((he k (es[k]'(by omega)) (vs2[k]'(by omega)) o (List.getElem?_eq_getElem _) (List.getElem?_eq_getElem _) hk).lt c hc).2
  -- a new row
  have grown : ∀ (old : Nat) (vs1 : List Value) (os1 : List (List Nat)), vs1.length = xs.length → os1.length = xs.length → OReps w F lo xs vs1 os1 → (∀ v ∈ vs1, v.cells.size = i.size) → (∀ u ∈ flat vs1, u.oneCell' = true) → (os1.flatten ++ os2.flatten).Nodup →
      (∀ c ∈ os1.flatten, c < w.heap.size ∧ c ∈ o1) →
      ∀ (n : Nat), n = xs.length + es.length → ∃ o' : List Nat, o'.Nodup ∧ (∀ c ∈ o', c ∈ o1 ∨ c ∈ os2.flatten ∨ w.heap.size ≤ c) ∧ ∀ F', MemEvo w F (w.drew.alloc (.cells ((flat vs1).toArray ++ (flat vs2).toArray ++ Builtin.zeroCells z.cells (grownCap w (xs.length + es.length) old e - (xs.length + es.length))) e)) F' →
        ORep (w.drew.alloc (.cells ((flat vs1).toArray ++ (flat vs2).toArray ++ Builtin.zeroCells z.cells (grownCap w (xs.length + es.length) old e - (xs.length + es.length))) e)) F' lo (.olist i.size (xs ++ es))
          (.slice (some ⟨w.heap.size, 0, none⟩) n (grownCap w (xs.length + es.length) old e)) o' := by
    intro old vs1 os1 hv1 ho1 hr1 hs1 hc1 hnd1 hlt1 n hn
    have hge := grownCap_ge w (xs.length + es.length) old e
    have hcm : grownCap w (xs.length + es.length) old e ≤ maxLen := grownCap_le_maxLen w _ old e hml
    refine ⟨w.heap.size :: (os1 ++ os2).flatten, ?_, ?_, fun F' hF => ?_⟩
    · rw [List.flatten_append, List.nodup_cons]
      exact ⟨fun hm => (List.mem_append.1 hm).elim (fun hm => Nat.lt_irrefl _ (hlt1 _ hm).1) (fun hm => Nat.lt_irrefl _ (hlt2 _ hm)), hnd1⟩
    · intro c hc
      rw [List.flatten_append] at hc
      rcases List.mem_cons.1 hc with rfl | hc
      · exact .inr (.inr (Nat.le_refl _))
      · rcases List.mem_append.1 hc with hc | hc
        · exact .inl (hlt1 c hc).2
        · exact .inr (.inl hc)
    · have hall : ∀ v ∈ vs1 ++ vs2, v.cells.size = i.size := fun v hv => (List.mem_append.1 hv).elim (hs1 v) (hsrc.2.2.1 v)
      have hones : ∀ u ∈ flat (vs1 ++ vs2), u.oneCell' = true := fun u hu => by rw [flat_append] at hu; exact (List.mem_append.1 hu).elim (hc1 u) (hsrc.2.2.2.1 u)
      have hrow := row_alloc (w := w.drew) (E := e) hall hones (Builtin.zeroCells z.cells (grownCap w (xs.length + es.length) old e - (xs.length + es.length)))
      rw [flat_append] at hrow
      have hee : ((flat vs1 ++ flat vs2).toArray : Array Value) = (flat vs1).toArray ++ (flat vs2).toArray := by simp
      rw [hee] at hrow
      have hreps : OReps w F lo (xs ++ es) (vs1 ++ vs2) (os1 ++ os2) := OReps.append hv1 ho1 hr1 he
      have key := ORep.olist (w := w.drew.alloc (.cells ((flat vs1).toArray ++ (flat vs2).toArray ++ Builtin.zeroCells z.cells (grownCap w (xs.length + es.length) old e - (xs.length + es.length))) e)) (F := F') (lo := lo)
        i.size (xs ++ es) (vs1 ++ vs2) (os1 ++ os2) w.heap.size (grownCap w (xs.length + es.length) old e) _ e (by simp [hv1, hlv]) (by simp [ho1, hl2])
        (hreps.evo hF (fun c hc => heap_alloc_old w.drew _ c (by rw [List.flatten_append] at hc; exact (List.mem_append.1 hc).elim (fun hc => (hlt1 c hc).1) (fun hc => hlt2 c hc))))
        (heap_alloc_new w.drew _) ?_ (by simpa using hge) hcm hrow hlo
      · rw [List.length_append] at key
        rw [hn]
        exact key
      · simp only [Array.size_append, List.size_toArray, size_zeroCells, hzs, flat_length vs1 hs1, flat_length vs2 hsrc.2.2.1, hv1, hlv, ← Nat.add_mul]
        congr 1
        omega
  rcases hx.olist_inv with ⟨rfl, rfl, rfl⟩ | ⟨vs1, os1, b, cap, cur, E, rfl, rfl, h1, h2, h3, h4, h5, h6, h7, h8, h9⟩
  · by_cases hm : es = []
    · subst hm
      refine ⟨.slice none 0 0, w, [], ?_, ⟨rfl, rfl, rfl, Nat.le_refl _, fun _ _ _ => rfl⟩, by simp, by simp, ⟨_, _, _, rfl⟩, fun F' _ => .olistE _⟩
      obtain ⟨⟨a, c, rfl⟩, _, _, _, hf⟩ := hsrc
      have hf := hf w rfl
      have hv2 : vs2 = [] := List.eq_nil_of_length_eq_zero (by simpa using hlv)
      subst hv2
      simp only [flat_nil, List.length_nil] at hf
      simp [Builtin.append_, run_underlying ht, sizeOf, typeInfo, hi, Builtin.lenOf, hf]
    · have hm0 : 0 < es.length := List.length_pos_iff.2 hm
      have hr := run_append_growE (P := P) (w := w) t ty e i z ht hi hz none 0 0 [] (Src.empty none 0) y es.length vs2 hsrc (by omega) (by simpa using h63) (by simpa using hbb)
      obtain ⟨o', hn', hm', hF⟩ := grown 0 [] [] rfl rfl (fun i d v o hd => by simp at hd) (by simp) (by simp [flat]) (by simpa using hnd) (by simp) (0 + es.length) (by simp)
      simp only [List.length_nil] at hF
      exact ⟨_, _, o', hr, .of_grown (grown_drew_alloc w _) _, hn', hm', ⟨_, _, _, rfl⟩, hF⟩
  · have hndp := List.nodup_append.1 hnd
    by_cases hroom : xs.length + es.length ≤ cap
    · have hfl : (flat vs2).length = es.length * i.size := by rw [flat_length vs2 hsrc.2.2.1, hlv]
      have hfit : xs.length * i.size + (flat vs2).length ≤ cur.size := by rw [hfl, h5, ← Nat.add_mul]; exact Nat.mul_le_mul_right _ hroom
      have hr := run_append_roomE (P := P) (w := w) t ty e i ht hi b xs.length cap cur E h4 y es.length vs2 hsrc hroom hfit
      have hcell : ∀ k, (w.setRow b (cur.toList.take (xs.length * i.size) ++ flat vs2 ++ cur.toList.drop (xs.length * i.size + (flat vs2).length)).toArray).cell? ⟨b, k, none⟩ = (cur.toList.take (xs.length * i.size) ++ flat vs2 ++ cur.toList.drop (xs.length * i.size + (flat vs2).length))[k]? := by
        intro k
        rw [cell_of_row _ b k _ E (0, 0) (setRow_heap w b cur _ E _ h4)]
        simp
      have hle : xs.length * i.size ≤ cur.toList.length := by
        show xs.length * i.size ≤ cur.size
        rw [h5]; exact Nat.mul_le_mul_right _ h6
      have hlt : (cur.toList.take (xs.length * i.size)).length = xs.length * i.size := by rw [List.length_take]; exact Nat.min_eq_left hle
      refine ⟨_, _, b :: (os1 ++ os2).flatten, hr, setRow_touch w b _ _ (by simp), ?_, ?_, ⟨_, _, _, rfl⟩, fun F' hF => ?_⟩
      · rw [List.flatten_append]; exact hnd
      · intro c hc
        rw [List.flatten_append] at hc
        rcases List.mem_cons.1 hc with rfl | hc
        · exact .inl (by simp)
        · rcases List.mem_append.1 hc with hc | hc
          · exact .inl (by simp [hc])
          · exact .inr (.inl hc)
      · have hrow : Row (w.setRow b (cur.toList.take (xs.length * i.size) ++ flat vs2 ++ cur.toList.drop (xs.length * i.size + (flat vs2).length)).toArray) b 0 i.size (vs1 ++ vs2) := by
          refine .of_flat (fun v hv => (List.mem_append.1 hv).elim (h8.size v) (hsrc.2.2.1 v)) (fun k u hk => ?_)
          rw [flat_append] at hk
          rw [Nat.zero_add, hcell k, List.append_assoc]
          have hl1 : (flat vs1).length = xs.length * i.size := by rw [flat_length vs1 h8.size, h1]
          by_cases hk1 : k < xs.length * i.size
          · rw [List.getElem?_append_left (by omega)] at hk
            have := h8.flat k u hk
            rw [Nat.zero_add, cell_of_row w b k cur E (0, 0) h4] at this
            refine ⟨this.1, ?_⟩
            rw [List.getElem?_append_left (by omega), List.getElem?_take, if_pos hk1]
            simpa using this.2
          · rw [List.getElem?_append_right (by omega), hl1] at hk
            have hk2 : k - xs.length * i.size < (flat vs2).length := (List.getElem?_eq_some_iff.1 hk).1
            refine ⟨hsrc.2.2.2.1 u (List.mem_of_getElem? hk), ?_⟩
            rw [List.getElem?_append_right (by omega), hlt, List.getElem?_append_left hk2]
            exact hk
        have hreps : OReps w F lo (xs ++ es) (vs1 ++ vs2) (os1 ++ os2) := OReps.append h1 h2 h3 he
        have key := ORep.olist (F := F') (lo := lo) i.size (xs ++ es) (vs1 ++ vs2) (os1 ++ os2) b cap _ E (by simp [h1, hlv]) (by simp [h2, hl2])
          (hreps.evo hF (fun c hc => setRow_other w b c _ (fun eb => by
            subst eb
            rw [List.flatten_append] at hc
            rcases List.mem_append.1 hc with hc | hc
            · exact (List.nodup_cons.1 hndp.1).1 hc
            · exact hndp.2.2 c (by simp) c hc rfl)))
          (setRow_heap w b cur _ E _ h4) (by
            simp only [List.size_toArray, List.length_append, List.length_take, List.length_drop, Array.length_toList]
            omega) (by simpa using hroom) h7 hrow h9
        rw [List.length_append] at key
        exact key
    · have hs0 : Src P w i.size (.slice (some ⟨b, 0, none⟩) xs.length cap) xs.length vs1 := by
        have := Src.of_row (P := P) (cap := cap) h8
        rwa [h1] at this
      have hr := run_append_growE (P := P) (w := w) t ty e i z ht hi hz (some ⟨b, 0, none⟩) xs.length cap vs1 hs0 y es.length vs2 hsrc (by omega) h63 hbb
      obtain ⟨o', hn', hm', hF⟩ := grown cap vs1 os1 h1 h2 h3 h8.size h8.ones (by
          have := hnd; rw [List.cons_append, List.nodup_cons] at this; exact this.2) (fun c hc => ⟨by
          obtain ⟨o, ho, hc⟩ := List.mem_flatten.1 hc
          obtain ⟨k, hk⟩ := List.mem_iff_getElem?.1 ho
          have hkl : k < os1.length := (List.getElem?_eq_some_iff.1 hk).1
          exact ((h3 k (xs[k]'(by omega)) (vs1[k]'(by omega)) o (List.getElem?_eq_getElem _) (List.getElem?_eq_getElem _) hk).lt c hc).2, by simp [hc]⟩) _ rfl
      exact ⟨_, _, o', hr, .of_grown (grown_drew_alloc w _) _, hn', hm', ⟨_, _, _, rfl⟩, hF⟩

end Go.PS
