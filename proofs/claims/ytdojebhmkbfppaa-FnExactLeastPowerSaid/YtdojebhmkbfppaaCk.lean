/- The least power of the implementation: its loops over all lists, run in place. -/
import Derived.Test.YtdojebhmkbfppaaCj
import Derived.Test.YtdojebhmkbfppaaRe
import Derived.Test.YtdojebhmkbfppaaPtb
set_option maxRecDepth 100000
set_option linter.unusedVariables false
set_option linter.unusedSimpArgs false
namespace Go.PS
open Go.Proofs

/-- The program with some functions run in place. -/
noncomputable def CI (f : Nat → Option FnA) : Ctx := ⟨Try.prog, tyOf Try.prog, f⟩
@[simp] theorem CI_P {f : Nat → Option FnA} : (CI f).P = Try.prog := rfl
@[simp] theorem CI_tt {f : Nat → Option FnA} (T : Nat) : (CI f).tt T = tyOf Try.prog T := rfl
@[simp] theorem CI_inl {f : Nat → Option FnA} : (CI f).inl = f := rfl
theorem pcI (g : Nat → Option FnA) (hg : ∀ id fa, g id = some fa → ∃ A, FnOk Try.prog id fa A) (T : List (Fam Try.prog)) (n : Nat) {f : Nat} {fa : FnA} {A : Ann} (hf : FnOk Try.prog f fa A) {ds : List D} {fresh : Bool} {R : D → List D → Prop}
    (h : run (CI g) 0 (inlT (CI g) T n 0) fa.ac (retQ (CI g).tt fresh fa.res R false) ⟨args0 0 ds, [], 1⟩) : PC Try.prog f ds none fresh R :=
  pc_of_run (C := CI g) (kb := 0) (io := none) hty0 Try.checked.mixed (inlT_ok (C := CI g) hty0 Try.checked.mixed hg T n 0) hf h

def inlA (id : Nat) : Option FnA := if id = 102 then some fa_102 else if id = 94 then some fa_94 else if id = 115 then some fa_115 else none
theorem inlA_ok (id : Nat) (fa : FnA) (h : inlA id = some fa) : ∃ A, FnOk Try.prog id fa A := by
  unfold inlA at h
  split at h
  · rename_i e; subst e; injection h with h; subst h; exact ⟨_, fok_102⟩
  split at h
  · rename_i e; subst e; injection h with h; subst h; exact ⟨_, fok_94⟩
  split at h
  · rename_i e; subst e; injection h with h; subst h; exact ⟨_, fok_115⟩
  · cases h

/-- The list after resets, and what the resets look at. -/
def rs (x y z : Int) : Nat → List Int
  | 0 => [x, y, z]
  | 1 => [x, y, 0]
  | 2 => [x, 0, 0]
  | _ => [0, 0, 0]
def dg (x y z : Int) : Nat → Int
  | 0 => z
  | 1 => y
  | _ => x

theorem rs0 {x y z : Int} : rs x y z 0 = [x, y, z] := rfl
theorem rs1 {x y z : Int} : rs x y z 1 = [x, y, 0] := rfl
theorem rs2 {x y z : Int} : rs x y z 2 = [x, 0, 0] := rfl
theorem rs3 {x y z : Int} : rs x y z 3 = [0, 0, 0] := rfl
theorem w2 : IntKind.i64.wrap 2 = 2 := rfl
theorem w1 : IntKind.i64.wrap 1 = 1 := rfl
theorem w0 : IntKind.i64.wrap 0 = 0 := rfl
theorem wm : IntKind.i64.wrap (-1) = -1 := rfl
theorem idx_lt {n x y z i : Nat} (hx : x < n) (hy : y < n) (hz : z < n) (e : i = (x * n + y) * n + z) : i < n * n * n := by
  have h1 : x * n + y < n * n := by
    calc x * n + y < x * n + n := by omega
      _ = (x + 1) * n := by rw [Nat.add_mul, Nat.one_mul]
      _ ≤ n * n := Nat.mul_le_mul_right _ (by omega)
  subst e
  generalize x * n + y = a at *
  calc a * n + z < a * n + n := by omega
    _ = (a + 1) * n := by rw [Nat.add_mul, Nat.one_mul]
    _ ≤ n * n * n := Nat.mul_le_mul_right _ (by omega)
theorem idx_y {n x y z i : Nat} (e : i = (x * n + y) * n + z) (hz : z + 1 = n) : i + 1 = (x * n + (y + 1)) * n + 0 := by
  rw [← Nat.add_assoc, Nat.add_mul (x * n + y) 1 n, Nat.one_mul]; omega
theorem idx_x {n x y z i : Nat} (e : i = (x * n + y) * n + z) (hy : y + 1 = n) (hz : z + 1 = n) : i + 1 = ((x + 1) * n + 0) * n + 0 := by
  rw [idx_y e hz, hy, Nat.add_mul x 1 n, Nat.one_mul]; rfl
theorem idx_last {n x y z i : Nat} (e : i = (x * n + y) * n + z) (hx : x + 1 = n) (hy : y + 1 = n) (hz : z + 1 = n) : i + 1 = n * n * n := by
  rw [idx_x e hy hz, hx]; rfl
theorem all_rng {A : List (List Int)} {p : List Int → Bool} : A.all p = (List.range A.length).all fun j => p (gr A j) := by
  rw [Bool.eq_iff_iff, all_gr, List.all_eq_true]
  simp
theorem gr_nxt {n j x : Nat} {o : List (List Int)} (hj : j < o.length) (hx : x < n) : gr (nxt n o) (j * n + x) = gr o j ++ [(x : Int)] := by
  have e : nxt n o = nxt n (o.take j) ++ ((List.range n).map fun (x : Nat) => gr o j ++ [(x : Int)]) ++ nxt n (o.drop (j + 1)) := by
    rw [← nxt_take hj]
    conv => lhs; rw [← List.take_append_drop (j + 1) o]
    unfold nxt
    rw [List.flatMap_append]
  have el : (nxt n (o.take j)).length = j * n := by rw [nxt_length, List.length_take, Nat.min_eq_left (by omega)]
  rw [e]
  unfold gr
  rw [List.append_assoc, List.getElem?_append_right (by omega), el, Nat.add_sub_cancel_left, List.getElem?_append_left (by simpa using hx)]
  simp [hx]
theorem gr_asg3 {n x y z : Nat} (hx : x < n) (hy : y < n) (hz : z < n) : gr (asgK n 3) ((x * n + y) * n + z) = [(x : Int), (y : Int), (z : Int)] := by
  have h1 : x < (asgK n 1).length := by rw [asgK_length, Nat.pow_one]; omega
  have h2 : x * n + y < (asgK n 2).length := by
    rw [asgK_length, Nat.pow_two]
    calc x * n + y < x * n + n := by omega
      _ = (x + 1) * n := by rw [Nat.add_mul, Nat.one_mul]
      _ ≤ n * n := Nat.mul_le_mul_right _ (by omega)
  have e1 : gr (asgK n 1) x = [(x : Int)] := by
    have := gr_nxt (j := 0) (o := asgK n 0) (x := x) (by simp [asgK]) hx
    simpa [asgK, gr] using this
  have e2 : gr (asgK n 2) (x * n + y) = [(x : Int), (y : Int)] := by
    rw [show asgK n 2 = nxt n (asgK n 1) from rfl, gr_nxt h1 hy, e1]; rfl
  rw [show asgK n 3 = nxt n (asgK n 2) from rfl, gr_nxt h2 hz, e2]; rfl

set_option maxHeartbeats 2000000 in
theorem leastI_pc (u : List Int) (t : List (List Int)) (p q : List Int) (hu : Big u.length) (ht : BigR t) (hp : Big p.length) (hq : Big q.length) : PC Try.prog 53 [AL u t, IL p, IL q] none true (fun r _ => r = .tup [I64 (lpM u t p q).1, .bool (lpM u t p q).2]) := by
  have hul := hu.le
  refine pcI inlA inlA_ok [fm_validAlgebraI, fm_validTermI, fm_repeatI, fm_valueOfI, fm_powI, fm_belowI] 3 fok_53 ?_
  simp [fa_53]
  refine cutW (inlT_mono _ _ _ _) [(22, .bool (!(decide (VA u t) && decide (validT p) && decide (validT q))))] (by simp [callO3T, inlA, hu, ht, hp, hq]; grind) ?_
  cases hb : (decide (VA u t) && decide (validT p) && decide (validT q))
  · simp [lpM, hb]
  simp only [Bool.and_eq_true, decide_eq_true_eq] at hb
  obtain ⟨⟨a, vp⟩, vq⟩ := hb
  have f := a.tf
  have h6 := f.lat.six
  have elp : lpI u t p q = firstI 21 fun k => (asgK u.length 3).all (okP u t p q k) := rfl
  have ee : lpM u t p q = if 0 ≤ lpI u t p q then (lpI u t p q, true) else (0, false) := by simp [lpM, a, vp, vq]
  rw [ee, elp]
  clear ee elp
  simp
  refine loopX (inlT_mono _ _ _ _) 21 (fun i γ => [(8, .ptr 64 γ 0)]) (fun i γ => [⟨64, γ, .cells [I64 i]⟩]) (fun i _ => ∀ k, k < i → (asgK u.length 3).all (okP u t p q k) = false) 1 (by simp) (by simp) (by simp) (fun k γ g hk hP => ?_)
  simp [lb_53_4, wrap64 (n := (k : Int) + 1) (by omega) (by omega)]
  have lr : fm_repeatI.look [D.list 1 [D.int .i64 ((u.length : Int) - 1)], D.int .i64 3] = some (IO1 [(u.length : Int) - 1, (u.length : Int) - 1, (u.length : Int) - 1]) := fm_repeatI_look ((u.length : Int) - 1) 3 (by omega) (by omega)
  refine ⟨fun hk2 => ?_, fun hk2 => ?_⟩
  · simp [lr, callO16 (C := CI inlA) (id := 102) (fa := fa_102) rfl, fa_102, callO3T, inlA, wrap64 (n := (u.length : Int) - 1) (by omega) (by omega), callO16 (C := CI inlA) (id := 94) (fa := fa_94) rfl, fa_94]
    have hn0 := f.lat.pos
    have ebig : big = 1048576 * 1048576 := rfl
    refine ⟨by omega, ?_⟩
    refine loopX (inlT_mono _ _ _ _) (u.length * u.length * u.length) (fun _ _ => []) (fun i (s : Nat × Nat × Nat) => [⟨8064, g + 1, .arr 1 (ints [(s.1 : Int), (s.2.1 : Int), (s.2.2 : Int)])⟩, ⟨64, γ, .cells [I64 k]⟩, ⟨72, g, .cells [.bool ((List.range i).all fun j => okP u t p q k (gr (asgK u.length 3) j))]⟩]) (fun i s => s.1 < u.length ∧ s.2.1 < u.length ∧ s.2.2 < u.length ∧ i = (s.1 * u.length + s.2.1) * u.length + s.2.2) (0, 0, 0) (by simp) (by simp) ⟨hn0, hn0, hn0, by simp⟩ (fun i s g2 hi hS => ?_)
    obtain ⟨x, y, z⟩ := s
    obtain ⟨hx, hy, hz, ei⟩ := hS
    simp only at hx hy hz ei
    have eg := gr_asg3 hx hy hz
    rw [← ei] at eg
    have nm : NmOk (gr (asgK u.length 3) i) u.length := asg3_ok (mem_asg3.2 ⟨x, y, z, hx, hy, hz, eg⟩)
    generalize hacc : ((List.range i).all fun j => okP u t p q k (gr (asgK u.length 3) j)) = b
    have hvp : (ev1 u t (gr (asgK u.length 3) i) p).1 = (ev1 u t [(x : Int), (y : Int), (z : Int)] p).1 := by rw [eg]
    have ho1 := (ev1_ok f nm _ _ _ (Nat.le_refl _) vp.2).1
    have ho2 := (ev1_ok f nm _ _ _ (Nat.le_refl _) vq.2).1
    have eo : okP u t p q k (gr (asgK u.length 3) i) = tb u (powM u t (ev1 u t (gr (asgK u.length 3) i) p).1.toNat k).toNat (ev1 u t (gr (asgK u.length 3) i) q).1.toNat := rfl
    have hr := powM_rng f (x := (ev1 u t (gr (asgK u.length 3) i) p).1.toNat) (by omega) k
    rw [eg] at nm ho1 ho2 eo hr
    simp [lb_94_1, callO16 (C := CI inlA) (id := 115) (fa := fa_115) rfl, fa_115]
    have key : (b && okP u t p q k [(x : Int), (y : Int), (z : Int)]) = ((List.range (i + 1)).all fun j => okP u t p q k (gr (asgK u.length 3) j)) := by rw [all_succ, hacc, eg]
    generalize hb2 : ((List.range (i + 1)).all fun j => okP u t p q k (gr (asgK u.length 3) j)) = b2 at key
    have sm := f.lat.sm
    have l1 : (ev1 u t [(x : Int), (y : Int), (z : Int)] p).1.toNat < u.length := by omega
    have l2 : (ev1 u t [(x : Int), (y : Int), (z : Int)] q).1.toNat < u.length := by omega
    have l3 : (powM u t (ev1 u t [(x : Int), (y : Int), (z : Int)] p).1.toNat k).toNat < u.length := by omega
    cases b
    case' false =>
      obtain rfl : false = b2 := key
      simp [gops]
    case' false =>
      refine loopA (inlT_mono _ _ _ _) 3 (fun c => [(5, I64 (2 - (c : Int)))]) (fun c => [⟨8064, g + 1, .arr 1 (ints (rs x y z c))⟩, ⟨64, γ, .cells [I64 k]⟩, ⟨72, g, .cells [.bool ((List.range (i + 1)).all fun j => okP u t p q k (gr (asgK u.length 3) j))]⟩]) (fun c => dg x y z c = (u.length : Int) - 1) (by simp [w2]) (by simp [rs0, hb2]) (fun c g3 hc hQ => ?_)
      have c4 : c = 0 ∨ c = 1 ∨ c = 2 ∨ c = 3 := by omega
      simp only [hb2]
      rcases c4 with rfl | rfl | rfl | rfl
      · simp [lb_94_3, rs0, w2, w1, w0]
        refine cutWc (inlT_mono _ _ _ _) [(27, .bool (decide ((z : Int) = (u.length : Int) - 1)))] (by simp [gi, w2, w1, w0]) ?_
        rcases Classical.em ((z : Int) = (u.length : Int) - 1) with cz | cz
        · simp only [eq_true cz, decide_true]
          generalize hK : vQ _ _ _ _ _ _ _ _ _ = K0
          simp [w2, w1, w0, wm]
          subst hK
          rw [vQ_normal]
          refine ⟨by omega, ⟨by simp, by simp [rs1]⟩, cz⟩
        · simp only [eq_false cz, decide_false]
          generalize hK : wQ _ _ _ _ _ _ _ _ _ = K0
          simp [w2, w1, w0, wm]
          subst hK
          rw [wQ_normal]
          refine ⟨idx_lt hx hy hz ei, (x, y, z + 1), ⟨by simp, by simp [gi, hb2, wrap_succ (Nat.le_of_lt hz) hul]⟩, hx, hy, by show z + 1 < _; omega, by rw [ei]; rfl⟩
      · simp [lb_94_3, rs1, w2, w1, w0]
        refine cutWc (inlT_mono _ _ _ _) [(27, .bool (decide ((y : Int) = (u.length : Int) - 1)))] (by simp [gi, w2, w1, w0]) ?_
        rcases Classical.em ((y : Int) = (u.length : Int) - 1) with cz | cz
        · simp only [eq_true cz, decide_true]
          generalize hK : vQ _ _ _ _ _ _ _ _ _ = K0
          simp [w2, w1, w0, wm]
          subst hK
          rw [vQ_normal]
          refine ⟨by omega, ⟨by simp, by simp [rs2]⟩, cz⟩
        · simp only [eq_false cz, decide_false]
          generalize hK : wQ _ _ _ _ _ _ _ _ _ = K0
          simp [w2, w1, w0, wm]
          subst hK
          rw [wQ_normal]
          refine ⟨idx_lt hx hy hz ei, (x, y + 1, 0), ⟨by simp, by simp [gi, hb2, wrap_succ (Nat.le_of_lt hy) hul]⟩, hx, by show y + 1 < _; omega, hn0, idx_y ei (by have h0 : (z : Int) = (u.length : Int) - 1 := hQ 0 (by omega); omega)⟩
      · simp [lb_94_3, rs2, w2, w1, w0]
        refine cutWc (inlT_mono _ _ _ _) [(27, .bool (decide ((x : Int) = (u.length : Int) - 1)))] (by simp [gi, w2, w1, w0]) ?_
        rcases Classical.em ((x : Int) = (u.length : Int) - 1) with cz | cz
        · simp only [eq_true cz, decide_true]
          generalize hK : vQ _ _ _ _ _ _ _ _ _ = K0
          simp [w2, w1, w0, wm]
          subst hK
          rw [vQ_normal]
          refine ⟨by omega, ⟨by simp, by simp [rs3]⟩, cz⟩
        · simp only [eq_false cz, decide_false]
          generalize hK : wQ _ _ _ _ _ _ _ _ _ = K0
          simp [w2, w1, w0, wm]
          subst hK
          rw [wQ_normal]
          refine ⟨idx_lt hx hy hz ei, (x + 1, 0, 0), ⟨by simp, by simp [gi, hb2, wrap_succ (Nat.le_of_lt hx) hul]⟩, by show x + 1 < _; omega, hn0, hn0, idx_x ei (by have h0 : (y : Int) = (u.length : Int) - 1 := hQ 1 (by omega); omega) (by have h0 : (z : Int) = (u.length : Int) - 1 := hQ 0 (by omega); omega)⟩
      · simp [lb_94_3, rs3, w2, w1, w0, wm]
        refine cutWc (inlT_mono _ _ _ _) [(27, .bool false)] (by simp [gi, w2, w1, w0, wm]) ?_
        generalize hK : wQ _ _ _ _ _ _ _ _ _ = K0
        simp [w2, w1, w0, wm]
        subst hK
        rw [wQ_ret]
        have hA : (asgK u.length 3).all (okP u t p q k) = ((List.range (i + 1)).all fun j => okP u t p q k (gr (asgK u.length 3) j)) := by
          have e3 := idx_last ei (by have h0 : (x : Int) = (u.length : Int) - 1 := hQ 2 (by omega); omega) (by have h0 : (y : Int) = (u.length : Int) - 1 := hQ 1 (by omega); omega) (by have h0 : (z : Int) = (u.length : Int) - 1 := hQ 0 (by omega); omega)
          rw [all_rng, asgK_length, e3, Nat.pow_succ, Nat.pow_two]
        rw [hb2] at hA
        generalize hK : wQ _ _ _ _ _ _ _ _ _ = K1
        simp
        subst hK
        rw [wQ_normal]
        refine ⟨by omega, g3, ⟨by simp, by simp [wrap64 (n := (k : Int) + 1) (by omega) (by omega)]⟩, fun k' hk' => ?_⟩
        rcases Nat.lt_or_ge k' k with h | h
        · exact (by simpa using hP k' h)
        · obtain rfl : k' = k := by omega
          exact (by simpa using hA)
    case' true =>
      obtain rfl : okP u t p q k [(x : Int), (y : Int), (z : Int)] = b2 := by simpa using key
      simp [gops, callO3T, callDO3T, inlA, f, nm, hp, hq, vp.some, vq.some, h6, ho1, ho2, hr, l1, l2, l3, ← eo, show ((k : Int) ≤ 1000000) by omega]
      refine loopA (inlT_mono _ _ _ _) 3 (fun c => [(5, I64 (2 - (c : Int)))]) (fun c => [⟨8064, g + 1, .arr 1 (ints (rs x y z c))⟩, ⟨64, γ, .cells [I64 k]⟩, ⟨72, g, .cells [.bool ((List.range (i + 1)).all fun j => okP u t p q k (gr (asgK u.length 3) j))]⟩]) (fun c => dg x y z c = (u.length : Int) - 1) (by simp [w2]) (by simp [rs0, hb2]) (fun c g3 hc hQ => ?_)
      have c4 : c = 0 ∨ c = 1 ∨ c = 2 ∨ c = 3 := by omega
      simp only [hb2]
      rcases c4 with rfl | rfl | rfl | rfl
      · simp [lb_94_3, rs0, w2, w1, w0]
        refine cutWc (inlT_mono _ _ _ _) [(27, .bool (decide ((z : Int) = (u.length : Int) - 1)))] (by simp [gi, w2, w1, w0]) ?_
        rcases Classical.em ((z : Int) = (u.length : Int) - 1) with cz | cz
        · simp only [eq_true cz, decide_true]
          generalize hK : vQ _ _ _ _ _ _ _ _ _ = K0
          simp [w2, w1, w0, wm]
          subst hK
          rw [vQ_normal]
          refine ⟨by omega, ⟨by simp, by simp [rs1]⟩, cz⟩
        · simp only [eq_false cz, decide_false]
          generalize hK : wQ _ _ _ _ _ _ _ _ _ = K0
          simp [w2, w1, w0, wm]
          subst hK
          rw [wQ_normal]
          refine ⟨idx_lt hx hy hz ei, (x, y, z + 1), ⟨by simp, by simp [gi, hb2, wrap_succ (Nat.le_of_lt hz) hul]⟩, hx, hy, by show z + 1 < _; omega, by rw [ei]; rfl⟩
      · simp [lb_94_3, rs1, w2, w1, w0]
        refine cutWc (inlT_mono _ _ _ _) [(27, .bool (decide ((y : Int) = (u.length : Int) - 1)))] (by simp [gi, w2, w1, w0]) ?_
        rcases Classical.em ((y : Int) = (u.length : Int) - 1) with cz | cz
        · simp only [eq_true cz, decide_true]
          generalize hK : vQ _ _ _ _ _ _ _ _ _ = K0
          simp [w2, w1, w0, wm]
          subst hK
          rw [vQ_normal]
          refine ⟨by omega, ⟨by simp, by simp [rs2]⟩, cz⟩
        · simp only [eq_false cz, decide_false]
          generalize hK : wQ _ _ _ _ _ _ _ _ _ = K0
          simp [w2, w1, w0, wm]
          subst hK
          rw [wQ_normal]
          refine ⟨idx_lt hx hy hz ei, (x, y + 1, 0), ⟨by simp, by simp [gi, hb2, wrap_succ (Nat.le_of_lt hy) hul]⟩, hx, by show y + 1 < _; omega, hn0, idx_y ei (by have h0 : (z : Int) = (u.length : Int) - 1 := hQ 0 (by omega); omega)⟩
      · simp [lb_94_3, rs2, w2, w1, w0]
        refine cutWc (inlT_mono _ _ _ _) [(27, .bool (decide ((x : Int) = (u.length : Int) - 1)))] (by simp [gi, w2, w1, w0]) ?_
        rcases Classical.em ((x : Int) = (u.length : Int) - 1) with cz | cz
        · simp only [eq_true cz, decide_true]
          generalize hK : vQ _ _ _ _ _ _ _ _ _ = K0
          simp [w2, w1, w0, wm]
          subst hK
          rw [vQ_normal]
          refine ⟨by omega, ⟨by simp, by simp [rs3]⟩, cz⟩
        · simp only [eq_false cz, decide_false]
          generalize hK : wQ _ _ _ _ _ _ _ _ _ = K0
          simp [w2, w1, w0, wm]
          subst hK
          rw [wQ_normal]
          refine ⟨idx_lt hx hy hz ei, (x + 1, 0, 0), ⟨by simp, by simp [gi, hb2, wrap_succ (Nat.le_of_lt hx) hul]⟩, by show x + 1 < _; omega, hn0, hn0, idx_x ei (by have h0 : (y : Int) = (u.length : Int) - 1 := hQ 1 (by omega); omega) (by have h0 : (z : Int) = (u.length : Int) - 1 := hQ 0 (by omega); omega)⟩
      · simp [lb_94_3, rs3, w2, w1, w0, wm]
        refine cutWc (inlT_mono _ _ _ _) [(27, .bool false)] (by simp [gi, w2, w1, w0, wm]) ?_
        generalize hK : wQ _ _ _ _ _ _ _ _ _ = K0
        simp [w2, w1, w0, wm]
        subst hK
        rw [wQ_ret]
        have hA : (asgK u.length 3).all (okP u t p q k) = ((List.range (i + 1)).all fun j => okP u t p q k (gr (asgK u.length 3) j)) := by
          have e3 := idx_last ei (by have h0 : (x : Int) = (u.length : Int) - 1 := hQ 2 (by omega); omega) (by have h0 : (y : Int) = (u.length : Int) - 1 := hQ 1 (by omega); omega) (by have h0 : (z : Int) = (u.length : Int) - 1 := hQ 0 (by omega); omega)
          rw [all_rng, asgK_length, e3, Nat.pow_succ, Nat.pow_two]
        rw [hb2] at hA
        generalize hK : wQ _ _ _ _ _ _ _ _ _ = K1
        simp
        refine ⟨fun hX => ?_, fun hX => ?_⟩
        · subst hK
          rw [wQ_ret, firstI_some (z := k) (by omega) (hA.trans hX) hP]
          simp
        · subst hK
          rw [wQ_normal]
          refine ⟨by omega, g3, ⟨by simp, by simp [wrap64 (n := (k : Int) + 1) (by omega) (by omega)]⟩, fun k' hk' => ?_⟩
          rcases Nat.lt_or_ge k' k with h | h
          · exact (by simpa using hP k' h)
          · obtain rfl : k' = k := by omega
            exact (by simpa using hA.trans hX)
  · obtain rfl : k = 21 := by omega
    rw [firstI_none (fun j hj => hP j hj)]
    simp
noncomputable def fm_leastI : Fam Try.prog := mkFam (X := List Int × List (List Int) × List Int × List Int) 53 true (fun (u, t, p, q) => [AL u t, IL p, IL q]) (fun (u, t, p, q) => (Big u.length) ∧ (BigR t) ∧ (Big p.length) ∧ (Big q.length)) (fun (u, t, p, q) => .tup [I64 (lpM u t p q).1, .bool (lpM u t p q).2]) (by
  rintro ⟨u, t, p, q⟩ ⟨hu, ht, hp, hq⟩
  exact leastI_pc u t p q hu ht hp hq)
@[simp] theorem fm_leastI_id : fm_leastI.id = 53 := rfl
@[simp] theorem fm_leastI_fresh : fm_leastI.fresh = true := rfl
@[simp] theorem fm_leastI_look (u : List Int) (t : List (List Int)) (p q : List Int) (hu : Big u.length) (ht : BigR t) (hp : Big p.length) (hq : Big q.length) : fm_leastI.look [AL u t, IL p, IL q] = some (.tup [I64 (lpM u t p q).1, .bool (lpM u t p q).2]) :=
  lookF_of (X := List Int × List (List Int) × List Int × List Int) (args := fun (u, t, p, q) => [AL u t, IL p, IL q]) (pre := fun (u, t, p, q) => (Big u.length) ∧ (BigR t) ∧ (Big p.length) ∧ (Big q.length)) (val := fun (u, t, p, q) => .tup [I64 (lpM u t p q).1, .bool (lpM u t p q).2]) (by
  rintro ⟨u, t, p, q⟩ ⟨u', t', p', q'⟩ h
  simp at h
  try simp only [and_assoc] at h
  obtain ⟨rfl, rfl, rfl, rfl⟩ := h
  rfl) (u, t, p, q) ⟨hu, ht, hp, hq⟩
attribute [irreducible] fm_leastI

end Go.PS
