/- Every operation of the machine against the clean one: addresses, lists, appending. -/
import Derived.Test.YtdojebhmkbfppaaPsK
set_option linter.unusedVariables false
set_option linter.unusedSimpArgs false
set_option linter.unusedSectionVars false
namespace Go.PS

section
variable {P : Program} {tt : Nat → Ty} {o : Oper} {ρ : Operand → Value} {w0 : World} {Fo : Nat → Prop} {B : Option Nat} {w : World} {h : List Ent} {μ : Nat → Value} {G : Nat} {own : List Nat} {K : D → List Ent → Nat → Prop} {t : List (Nat × D)}
variable (hρ : ∀ x, VRep w (FF own Fo) h μ G (ev t (co x)) (ρ x)) (I : HInv w0 Fo B w h μ G own) (hty : TyOk P tt)
include hρ I hty

theorem sound_field {T : Nat} {x : Operand} {i : Nat} (hop : o.op = .field T x i) {a : AOper} (ha : a.o = .field T (co x) i) {k : Nat} (hk : opK tt k a ⟨t, h, G⟩ K) : Res P o ρ w0 Fo B w h μ G own K := by
  have hx := hρ x
  simp only [opK, ha] at hk
  split at hk
  · rename_i fs hT
    obtain ⟨fields, hu, hfs, _⟩ := hty.struct T fs hT
    split at hk
    · rename_i off E hi
      obtain ⟨h1, h2, hk⟩ := hk
      have hfi := hfs i
      rw [hi] at hfi
      cases hf : fields[i]? with
      | none => rw [hf] at hfi; cases hfi
      | some f =>
        rw [hf] at hfi
        have e1 : f.offset = off := by simpa using congrArg (fun q => q.map Prod.fst) hfi
        have e2 : f.type = E := by simpa using congrArg (fun q => q.map Prod.snd) hfi
        have hs : (tt E).isStruct = false := by simp only [Ty.flat, Ty.isStruct] at h2 ⊢; split at h2 <;> simp_all
        split at hk
        · rename_i ds hev
          rw [hev] at hx
          obtain ⟨vs, hv, hl, _, hr⟩ := hx.asAgg
          have hlt : off < vs.length := by omega
          refine .same I (v := vs[off]) ?_ (hr off _ _ (by rw [List.getD_eq_getElem?_getD, List.getElem?_eq_getElem hk.1]; rfl) (List.getElem?_eq_getElem hlt)) hk.2
          simp [execOp, hop, hv, Instr.field, run_underlying hu, hf, Go.part, e1, e2, hty.isAgg w E (.inr h2), hs, asAgg, hlt]
        · exact hk.elim
    · exact hk.elim
  · exact hk.elim

theorem sound_faddr {T : Nat} {x : Operand} {i : Nat} (hop : o.op = .fieldAddr T x i) {a : AOper} (ha : a.o = .faddr T (co x) i) {k : Nat} (hk : opK tt k a ⟨t, h, G⟩ K) : Res P o ρ w0 Fo B w h μ G own K := by
  have hx := hρ x
  simp only [opK, ha] at hk
  split at hk
  · rename_i fs hT
    obtain ⟨fields, hu, hfs, _⟩ := hty.struct T fs hT
    split at hk
    · rename_i off E hi
      obtain ⟨h1, h2, hk⟩ := hk
      have hfi := hfs i
      rw [hi] at hfi
      cases hf : fields[i]? with
      | none => rw [hf] at hfi; cases hfi
      | some f =>
        rw [hf] at hfi
        have e1 : f.offset = off := by simpa using congrArg (fun q => q.map Prod.fst) hfi
        have e2 : f.type = E := by simpa using congrArg (fun q => q.map Prod.snd) hfi
        have hne : (tt E).kd ≠ .other := flat_known h2
        have hrun : ∀ (b q : Nat), ρ x = .pointer (some ⟨b, q, none⟩) → (execOp ρ o).run P w = .ok (.value (.pointer (some ⟨b, q + off, none⟩))) w := by
          intro b q hv
          simp [execOp, hop, hv, Instr.fieldAt, run_underlying hu, hf, Instr.sureAddr, fieldPlace, e1, e2, hty.size w E hne, h1, Addr.add_lit]
        split at hk
        · rename_i ds hev
          rw [hev] at hx
          obtain ⟨u, b, q, hv, hrep, hc, hlt, hnf⟩ := hx.asIptr
          obtain ⟨vs, rfl, hl, ho, hr⟩ := VRep.asAgg (h := h) (μ := μ) (G := G) (.imm _ _ hrep)
          have hlt' : off < vs.length := by omega
          have hone := ho _ (List.getElem_mem hlt')
          have hds : ds[off]? = some (ds.getD off .junk) := by rw [List.getD_eq_getElem?_getD, List.getElem?_eq_getElem hk.1]; rfl
          have hrep' : Rep w (FF own Fo) (ds.getD off .junk) vs[off] := by
            cases hrep with
            | agg xs vs' h1 h2 h3 => exact h2 off _ _ hds (by simp [hlt'])
          refine .same I (hrun b q hv) (.imm _ _ (.iptr _ vs[off] b (q + off) hrep' (fun j x hx => ?_) hlt hnf)) hk.2
          rw [Rep.pure_of_cell hone] at hx
          cases j with
          | zero =>
            obtain rfl : vs[off] = x := by simpa using hx
            have := (hc off vs[off] (by simp [Value.cells, hlt'])).2
            exact ⟨hone, by simpa using this⟩
          | succ j => simp at hx
        · rename_i j g q hev
          rw [hev] at hx
          obtain ⟨hf', hk⟩ := hk
          obtain ⟨hg, hp⟩ := hx.asPtr
          obtain ⟨b, hb, hv⟩ := hp (find_isSome hf')
          exact .same I (hrun b q hv) (.ptr j g (q + off) _ hg (fun _ => ⟨b, hb, rfl⟩)) hk
        · exact hk.elim
    · exact hk.elim
  · exact hk.elim

theorem sound_iaddr {T : Nat} {x i : Operand} (hop : o.op = .indexAddr T x i) {a : AOper} (ha : a.o = .iaddr T (co x) (co i)) {k : Nat} (hk : opK tt k a ⟨t, h, G⟩ K) : Res P o ρ w0 Fo B w h μ G own K := by
  have hx := hρ x
  have hi := hρ i
  simp only [opK, ha] at hk
  split at hk
  · rename_i kd n ei
    rw [ei] at hi
    have hi := hi.asInt
    have hrun : ∀ (e : Nat) (a : Addr) (len cap : Nat), (tt T).kd = .slice e → (tt e).kd ≠ .other → ρ x = .slice (some a) len cap → 0 ≤ n → n < len →
        (execOp ρ o).run P w = .ok (.value (.pointer (some (a.add (n.toNat * (tt e).sz))))) w := by
      intro e a len cap hT he hv h0 h1
      simp [execOp, hop, hv, hi, Instr.indexAt, asIntOf, run_underlying (hty.slice T e hT), h0, h1, hty.size w e he]
    split at hk
    · rename_i sz xs ex
      rw [ex] at hx
      obtain ⟨hsz, h0, h1, hk⟩ := hk
      simp only [esz] at hsz
      split at hsz
      · rename_i e hT
        split at hsz
        · rename_i hne
          injection hsz with hsz
          cases hx with
          | imm _ _ r => cases hxr : ρ x with
            | slice aa ln cp =>
              rw [hxr] at r
              cases r with
              | listE sz a c => simp at h1; omega
              | list _ _ vs b q cap g1 g2 g3 g4 g5 g6 g7 =>
                have hnl : n.toNat < vs.length := by omega
                have hvs : vs[n.toNat]? = some vs[n.toNat] := List.getElem?_eq_getElem hnl
                have hxs : xs[n.toNat]? = some (xs.getD n.toNat .junk) := by rw [List.getD_eq_getElem?_getD, List.getElem?_eq_getElem (by omega)]; rfl
                obtain ⟨r1, r2⟩ := g5 _ _ hvs
                refine .same I (hrun e ⟨b, q, none⟩ _ _ hT (known_of hne) hxr h0 h1) (.imm _ _ ?_) hk
                rw [Addr.add_lit, ← hsz]
                exact .iptr _ vs[n.toNat] b _ (g4 _ _ _ hxs hvs) r2 g6 g7
            | _ => rw [hxr] at r; cases r
        · cases hsz
      · cases hsz
    · rename_i j g ex
      rw [ex] at hx
      split at hk
      · rename_i sz xs hf
        obtain ⟨rfl, hsz, h0, h1, hk⟩ := hk
        simp only [esz] at hsz
        split at hsz
        · rename_i e hT
          split at hsz
          · rename_i hne
            injection hsz with hsz
            obtain ⟨_, hg, hm⟩ := hx.asArr
            have hm := hm (by rw [hf]; simp)
            obtain ⟨o1, he, _⟩ := I.hok.has h own hf
            rcases he.arrOf.olist_inv with ⟨_, hxs, _⟩ | ⟨vs, os, b', cap, cur, E, hm', _⟩
            · rw [hxs] at h1; simp at h1; omega
            · refine .same I (hrun e ⟨b', 0, none⟩ xs.length cap hT (known_of hne) (hm.trans hm') h0 h1) ?_ hk
              rw [Addr.add_lit, hsz, Nat.mul_one, Nat.zero_add]
              exact .ptr j g n.toNat _ hg (fun _ => ⟨b', .inr ⟨_, _, hm'⟩, rfl⟩)
          · cases hsz
        · cases hsz
      · exact hk.elim
    · rename_i j g r ex
      rw [ex] at hx
      split at hk
      · rename_i s ys hr
        obtain ⟨rfl, hsz, h0, h1, hk⟩ := hk
        simp only [esz] at hsz
        split at hsz
        · rename_i e hT
          split at hsz
          · rename_i hne
            injection hsz with hsz
            obtain ⟨_, hg, hm⟩ := hx.asRow
            obtain ⟨b, n', c', hm, hc⟩ := hm (by rw [hr]; simp)
            obtain ⟨o1, hrow, _⟩ := I.hok.rowOf hr hm
            rcases (hrow _ hc).olist_inv with ⟨_, hxs, _⟩ | ⟨vs, os, b', cap, cur, E, hm', _⟩
            · rw [hxs] at h1; simp at h1; omega
            · refine .same I (hrun e ⟨b', 0, none⟩ ys.length cap hT (known_of hne) hm' h0 h1) ?_ hk
              rw [Addr.add_lit, hsz, Nat.mul_one, Nat.zero_add]
              exact .rptr j g r n.toNat _ hg (fun _ => ⟨b, _, _, b', _, _, hm, by rw [hc, hm'], rfl⟩)
          · cases hsz
        · cases hsz
      · exact hk.elim
    · exact hk.elim
  · exact hk.elim

theorem sound_index {T : Nat} {x i : Operand} (hop : o.op = .index T x i) {a : AOper} (ha : a.o = .index T (co x) (co i)) {k : Nat} (hk : opK tt k a ⟨t, h, G⟩ K) : Res P o ρ w0 Fo B w h μ G own K := by
  have hx := hρ x
  have hi := hρ i
  simp only [opK, ha] at hk
  split at hk
  · rename_i s kd n ex ei hT
    rw [ex] at hx; rw [ei] at hi
    obtain ⟨h0, h1, hk⟩ := hk
    have hlt : n.toNat < s.length := by omega
    refine .same I (v := .int .u8 ((s.getD n.toNat 0).toNat : Int)) ?_ (.imm _ _ (.int _ _)) hk
    have hb : (⟨s.toArray⟩ : ByteArray)[n.toNat]? = some (s.getD n.toNat 0) := by
      have hsz : n.toNat < (⟨s.toArray⟩ : ByteArray).size := by show n.toNat < s.toArray.size; simpa using hlt
      rw [getElem?_pos (⟨s.toArray⟩ : ByteArray) n.toNat hsz]
      show some (s.toArray[n.toNat]'(by simpa using hlt)) = _
      simp [List.getD_eq_getElem?_getD, hlt]
    simp [execOp, hop, hx.asStr, hi.asInt, Instr.index, asIntOf, run_underlying (hty.str T hT), h0, hb]
  · exact hk.elim

omit hρ I hty in
theorem optI_run {lo : Option Operand} {dflt : Int} {Q : Int → Prop} (hρ : ∀ x, VRep w (FF own Fo) h μ G (ev t (co x)) (ρ x)) (hq : optI t dflt (lo.map co) Q) :
    (lo = none ∧ Q dflt) ∨ ∃ x kd n, lo = some x ∧ ρ x = .int kd n ∧ Q n := by
  cases lo with
  | none => exact .inl ⟨rfl, hq⟩
  | some x =>
    simp only [Option.map, optI] at hq
    split at hq
    · rename_i kd n e
      have := hρ x
      rw [e] at this
      exact .inr ⟨x, kd, n, rfl, this.asInt, hq⟩
    · exact hq.elim

omit hρ I hty in
theorem bounds_run (isS : Bool) (len cap l u : Nat) (lo hi : Option Value) (hlo : (lo = none ∧ l = 0) ∨ ∃ kd, lo = some (.int kd l)) (hhi : (hi = none ∧ u = len) ∨ ∃ kd, hi = some (.int kd u)) (h1 : l ≤ u) (h2 : u ≤ cap) :
    (Instr.sliceBounds isS len cap lo hi none).run P w = .ok (l, u, cap) w := by
  have e1 : (0 : Int) ≤ (u : Int) ∧ (u : Int) ≤ (cap : Int) := by omega
  have e2 : (0 : Int) ≤ (l : Int) ∧ (l : Int) ≤ (u : Int) := by omega
  rcases hhi with ⟨rfl, rfl⟩ | ⟨kd, rfl⟩
  · rcases hlo with ⟨rfl, rfl⟩ | ⟨kd, rfl⟩
    · simp [Instr.sliceBounds]
    · simp [Instr.sliceBounds, Instr.sliceBound, asIntOf, h1]
  · rcases hlo with ⟨rfl, rfl⟩ | ⟨kd, rfl⟩
    · simp [Instr.sliceBounds, Instr.sliceBound, asIntOf, h2]
    · simp [Instr.sliceBounds, Instr.sliceBound, asIntOf, h1, h2]

omit hρ I in
/-- A piece of what is never written again. -/
theorem slice_rep {F : Nat → Prop} {T e sz l u : Nat} {x : Operand} {lo hi : Option Operand} {xs : List D} (hop : o.op = .slice T x lo hi none) (hT : (tt T).kd = .slice e) (hne : (tt e).known = true) (hsz : sz = (tt e).sz) (r : Rep w F (.list sz xs) (ρ x))
    (hlo : (lo.map ρ = none ∧ l = 0) ∨ ∃ kd, lo.map ρ = some (.int kd l)) (hhi : (hi.map ρ = none ∧ u = xs.length) ∨ ∃ kd, hi.map ρ = some (.int kd u)) (hlu : l ≤ u) (hul : u ≤ xs.length) :
    ∃ v, (execOp ρ o).run P w = .ok (.value v) w ∧ Rep w F (.list sz ((xs.take u).drop l)) v := by
  have e0 : (execOp ρ o).run P w = ((Instr.sliceAt T (ρ x) (lo.map ρ) (hi.map ρ) none).run P w).andThen fun v w' => .ok (.value v) w' := by simp [execOp, hop]
  have hrun : ∀ (aa : Option Addr) (cap : Nat), ρ x = .slice aa xs.length cap → xs.length ≤ cap →
      (execOp ρ o).run P w = .ok (.value (.slice (if cap = l then aa else aa.map (·.add (l * sz))) (u - l) (cap - l))) w := by
    intro aa cap hv hc
    rw [e0, hv]
    have hb := bounds_run (P := P) (w := w) true xs.length cap l u (lo.map ρ) (hi.map ρ) hlo hhi hlu (by omega)
    simp [Instr.sliceAt, Instr.slice, run_underlying (hty.slice T e hT), hb, hty.size w e (known_of hne), hsz]
  have hlen : ((xs.take u).drop l).length = u - l := by rw [List.length_drop, List.length_take]; omega
  cases hxr : ρ x with
  | slice aa ln cp =>
    rw [hxr] at r
    cases r with
    | listE sz a c =>
      have hu0 : u = 0 := by simpa using hul
      have hl0 : l = 0 := by omega
      subst hu0; subst hl0
      -- an empty one of an empty one
      have hb := bounds_run (P := P) (w := w) true 0 cp 0 0 (lo.map ρ) (hi.map ρ) hlo (by simpa using hhi) (Nat.le_refl _) (Nat.zero_le _)
      refine ⟨.slice (if cp = 0 then aa else aa.map (·.add (0 * sz))) 0 cp, ?_, ?_⟩
      · rw [e0, hxr]
        simp [Instr.sliceAt, Instr.slice, run_underlying (hty.slice T e hT), hb, hty.size w e (known_of hne), hsz]
      · simp only [List.take_nil, List.drop_nil]
        exact .listE sz _ cp
    | list _ _ vs b q cap g1 g2 g3 g4 g5 g6 g7 =>
      refine ⟨_, hrun _ _ hxr g2, ?_⟩
      by_cases he : u = l
      · subst he
        have : (xs.take u).drop u = [] := List.drop_eq_nil_of_le (by rw [List.length_take]; omega)
        rw [this, Nat.sub_self]
        exact .listE sz _ _
      · have hcl : ¬ cp = l := by omega
        rw [if_neg hcl]
        simp only [Option.map_some, Addr.add_lit]
        have := Rep.list (w := w) (F := F) sz ((xs.take u).drop l) ((vs.take u).drop l) b (q + l * sz) (cp - l) (by rw [hlen, List.length_drop, List.length_take]; omega) (by rw [hlen]; omega) (by rw [hlen]; omega)
          (fun i d v hd hv => by
            rw [List.getElem?_drop, List.getElem?_take] at hd hv
            split at hd
            · rename_i hlt
              rw [if_pos hlt] at hv
              exact g4 _ d v hd hv
            · cases hd) ((g5.take u).drop l) g6 g7
        rw [hlen] at this
        exact this
  | _ => rw [hxr] at r; cases r

omit hρ I hty in
theorem bounds_of {lo hi : Option Operand} {n : Nat} {Q : Nat → Nat → Prop} (hρ : ∀ x, VRep w (FF own Fo) h μ G (ev t (co x)) (ρ x))
    (hk : optI t 0 (lo.map co) fun l => optI t n (hi.map co) fun u => 0 ≤ l ∧ l ≤ u ∧ u ≤ n ∧ Q l.toNat u.toNat) :
    ∃ (l u : Nat), ((lo.map ρ = none ∧ l = 0) ∨ ∃ kd, lo.map ρ = some (.int kd l)) ∧ ((hi.map ρ = none ∧ u = n) ∨ ∃ kd, hi.map ρ = some (.int kd u)) ∧ l ≤ u ∧ u ≤ n ∧ Q l u := by
  rcases optI_run hρ hk with ⟨rfl, hk1⟩ | ⟨y, kd, n1, rfl, hy, hk1⟩
  · rcases optI_run hρ hk1 with ⟨rfl, hk2⟩ | ⟨z, kd', m, rfl, hz, hk2⟩
    · exact ⟨0, n, .inl ⟨rfl, rfl⟩, .inl ⟨rfl, rfl⟩, Nat.zero_le _, Nat.le_refl _, by simpa using hk2.2.2.2⟩
    · obtain ⟨a1, a2, a3, hk3⟩ := hk2
      exact ⟨0, m.toNat, .inl ⟨rfl, rfl⟩, .inr ⟨kd', by simp [hz]; omega⟩, Nat.zero_le _, by omega, by simpa using hk3⟩
  · rcases optI_run hρ hk1 with ⟨rfl, hk2⟩ | ⟨z, kd', m, rfl, hz, hk2⟩
    · obtain ⟨a1, a2, a3, hk3⟩ := hk2
      exact ⟨n1.toNat, n, .inr ⟨kd, by simp [hy]; omega⟩, .inl ⟨rfl, rfl⟩, by omega, Nat.le_refl _, by simpa using hk3⟩
    · obtain ⟨a1, a2, a3, hk3⟩ := hk2
      exact ⟨n1.toNat, m.toNat, .inr ⟨kd, by simp [hy]; omega⟩, .inr ⟨kd', by simp [hz]; omega⟩, by omega, by omega, hk3⟩

theorem sound_slice {T : Nat} {x : Operand} {lo hi : Option Operand} (hop : o.op = .slice T x lo hi none) {a : AOper} (ha : a.o = .slice T (co x) (lo.map co) (hi.map co)) {k : Nat} (hk : opK tt k a ⟨t, h, G⟩ K) : Res P o ρ w0 Fo B w h μ G own K := by
  have hx := hρ x
  simp only [opK, ha] at hk
  have e0 : (execOp ρ o).run P w = ((Instr.sliceAt T (ρ x) (lo.map ρ) (hi.map ρ) none).run P w).andThen fun v w' => .ok (.value v) w' := by simp [execOp, hop]
  split at hk
  · rename_i j g ex
    rw [ex] at hx
    split at hk
    · rename_i sz xs hf
      obtain ⟨_, hsz, hk⟩ := hk
      simp only [esz] at hsz
      split at hsz
      · rename_i e hT
        split at hsz
        · rename_i hne
          injection hsz with hsz
          obtain ⟨l, u, hlo, hhi, hlu, hul, hk⟩ := bounds_of (Q := fun l u => K (.list sz (((xs.map (imm 5)).take u).drop l)) (hdel h j) G) hρ hk
          obtain ⟨_, hg, hm⟩ := hx.asArr
          have hm := hm (by rw [hf]; simp)
          obtain ⟨o1, rest, he, hr', hnd, hmem, out⟩ := I.takeOut hf
          have hok := ORep.imm he.arrOf (F' := FF rest Fo) (fun b hb _ => hb.imp (fun hb => hmem b (by simp [hb])) id) (fun b hb hF => by
            rcases hF with hF | hF
            · exact (List.nodup_append.1 hnd).2.2 b hb b hF rfl
            · have := I.out b hF
              have h2 := he.arrOf.lt b hb
              omega) 6
          rw [← hm] at hok
          obtain ⟨v, hrun, hrep⟩ := slice_rep (P := P) hty hop hT hne hsz (xs := xs.map (imm 5)) (by simpa [PS.imm] using hok) hlo (by simpa using hhi) hlu (by simpa using hul)
          exact ⟨_, v, w, _, _, _, _, _, hrun, .inl rfl, hk, out, .imm _ _ hrep⟩
        · cases hsz
      · cases hsz
    · exact hk.elim
  · rename_i sz xs ex
    rw [ex] at hx
    obtain ⟨hsz, hk⟩ := hk
    simp only [esz] at hsz
    split at hsz
    · rename_i e hT
      split at hsz
      · rename_i hne
        injection hsz with hsz
        obtain ⟨l, u, hlo, hhi, hlu, hul, hk⟩ := bounds_of (Q := fun l u => K (.list sz ((xs.take u).drop l)) h G) hρ hk
        cases hx with
        | imm _ _ r =>
          obtain ⟨v, hrun, hrep⟩ := slice_rep (P := P) hty hop hT hne hsz r hlo hhi hlu hul
          exact .same I hrun (.imm _ _ hrep) hk
      · cases hsz
    · cases hsz
  · rename_i s ex
    rw [ex] at hx
    obtain ⟨hT, hk⟩ := hk
    have hT' : (tt T).kd = .str := by
      revert hT; cases (tt T).kd <;> simp
    have key : ∃ (l u : Nat), ((lo.map ρ = none ∧ l = 0) ∨ ∃ kd, lo.map ρ = some (.int kd l)) ∧ ((hi.map ρ = none ∧ u = s.length) ∨ ∃ kd, hi.map ρ = some (.int kd u)) ∧ l ≤ u ∧ u ≤ s.length ∧ K (.str ((s.take u).drop l)) h G := by
      rcases optI_run hρ hk with ⟨rfl, hk1⟩ | ⟨y, kd, n, rfl, hy, hk1⟩
      · rcases optI_run hρ hk1 with ⟨rfl, hk2⟩ | ⟨z, kd', m, rfl, hz, hk2⟩
        · exact ⟨0, s.length, .inl ⟨rfl, rfl⟩, .inl ⟨rfl, rfl⟩, Nat.zero_le _, Nat.le_refl _, by simpa using hk2.2.2.2⟩
        · obtain ⟨a1, a2, a3, hk3⟩ := hk2
          exact ⟨0, m.toNat, .inl ⟨rfl, rfl⟩, .inr ⟨kd', by simp [hz]; omega⟩, Nat.zero_le _, by omega, by simpa using hk3⟩
      · rcases optI_run hρ hk1 with ⟨rfl, hk2⟩ | ⟨z, kd', m, rfl, hz, hk2⟩
        · obtain ⟨a1, a2, a3, hk3⟩ := hk2
          exact ⟨n.toNat, s.length, .inr ⟨kd, by simp [hy]; omega⟩, .inl ⟨rfl, rfl⟩, by omega, Nat.le_refl _, by simpa using hk3⟩
        · obtain ⟨a1, a2, a3, hk3⟩ := hk2
          exact ⟨n.toNat, m.toNat, .inr ⟨kd, by simp [hy]; omega⟩, .inr ⟨kd', by simp [hz]; omega⟩, by omega, by omega, hk3⟩
    obtain ⟨l, u, hlo, hhi, hlu, hul, hk⟩ := key
    have hsz : (⟨s.toArray⟩ : ByteArray).size = s.length := by show s.toArray.size = _; simp
    have hb := bounds_run (P := P) (w := w) false s.length s.length l u (lo.map ρ) (hi.map ρ) hlo hhi hlu hul
    refine .same I (v := .string ⟨((s.take u).drop l).toArray⟩) ?_ (.imm _ _ (.str _)) hk
    rw [e0, hx.asStr]
    have hex : (⟨s.toArray⟩ : ByteArray).extract l u = ⟨((s.take u).drop l).toArray⟩ := by
      apply ByteArray.ext
      simp [List.extract_eq_take_drop, List.drop_take]
    simp [Instr.sliceAt, Instr.slice, run_underlying (hty.str T hT'), hsz, hb, hex]
  · exact hk.elim

end
end Go.PS
