/- Contracts of functions of the program vectorraster, each proved for all states that fit its description. No conditions. -/
import Derived.Test.YtkhplopcjkkejaaGreatPR
import Derived.Test.YtkhplopcjkkejaaGreatPY
import Derived.Test.YtkhplopcjkkejaaGreatPT
import Derived.Test.YtkhplopcjkkejaaGreatPU
set_option linter.unusedSimpArgs false
set_option linter.unusedVariables false
section
set_option maxRecDepth 100000
set_option linter.unusedSimpArgs false
set_option linter.unusedVariables false
namespace Go.Proofs.YtkhplopcjkkejaaGreat
open Go Go.VE
def spDDm_A : (List UInt8) → List AV
  | code => [.c (.sl false (byC code))]
def spDDm_pre : (List UInt8) → Prop
  | code => code.length ≤ 1048576
def spDDm_post : (List UInt8) → AV → List Box → Prop
  | code, r, bs => ∃ (s : Scn) (a : Int) (f : Fil), r = .tup [.agg (scC s), I a, .agg (flC f)] ∧ bs = [] ∧ okScn s ∧ okF f ∧ -1 ≤ a ∧ a ≤ 10
def spDDm : VE.Spec := famSpecS spDDm_A d_ly spDDm_pre spDDm_post 1800 false
theorem spDDm_q : spDDm.flat = false ∧ spDDm.mt = [] ∧ spDDm.shut = true ∧ spDDm.cost = 1800 ∧ (∀ a i, spDDm.pre a i = (i = [] ∧ famPre d_ly spDDm_A spDDm_pre a)) ∧ ∀ a i r b, spDDm.post a i r b = (famPost d_ly spDDm_post a r b) := ⟨rfl, rfl, rfl, rfl, fun _ _ => rfl, fun _ _ _ _ => rfl⟩
def tb28 : Nat → Option VE.Spec := tabOf [(44, wkIn spNew), (45, wkIn spAScn), (46, wkIn spOne), (69, wkIn spAFil)]
theorem tb28_44 : tb28 44 = some (wkIn spNew) := rfl
theorem tb28_45 : tb28 45 = some (wkIn spAScn) := rfl
theorem tb28_46 : tb28 46 = some (wkIn spOne) := rfl
theorem tb28_69 : tb28 69 = some (wkIn spAFil) := rfl
theorem tb28_ok : TabOK Tryz.prog rt0 tb28 := (tabOf_cons (by kernel_rfl) sat_spec_newReader (tabOf_cons (by kernel_rfl) sat_spec_anyScene (tabOf_cons (by kernel_rfl) sat_spec_reader_one (tabOf_cons (by kernel_rfl) sat_spec_anyFill tabOf_nil))))
set_option maxHeartbeats 4000000 in
theorem sat_spec_DrawDamageOf_0 : Sat Tryz.prog rt0 28 (wkOut spDDm) := by
  refine fn_sat hm ttok (tab := tb28) tb28_ok Tryz.func28 (c := Tryz.f28.body.getD .skip) (by kernel_rfl) (ts := [.cell 2 25, .tmp 3, .cell 4 41]) (by kernel_rfl) Tryz.ntmps28 (sq := fun _ => true) (by kernel_rfl) ?_
  intro args ins pk hpre0 hpk
  obtain ⟨rfl, hpre0⟩ := hpre0
  obtain ⟨code, rfl, hpre, hdec⟩ := famPre_ex hpre0
  clear hpre0 hdec
  try simp only [spDDm_pre] at hpre
  replace hpk : pk + 1800 ≤ pickLimit := hpk
  refine ⟨Nat.le_of_ble_eq_true rfl, ?_⟩
  simp (config := { maxSteps := 1000000 }) only [go_sem, ↓ifP_true, ↓ifP_false, ↓ifP_not, Nat.reduceLT, Nat.reduceAdd, Nat.reduceBEq, Nat.reduceSub, Nat.reduceLeDiff, Nat.reduceEqDiff, Nat.reduceMul, Int.reduceToNat, Int.reduceEq, Int.reduceLT, Int.reduceLE, Int.reduceAdd, Int.reduceSub, Int.reduceMul, reduceCtorEq, cond_true, cond_false, forall_eq', forall_eq, forall_const, implies_true, if_true, if_false, exists_eq_left', exists_eq', exists_eq, ne_eq, Tryz.f28, tb28_44, tb28_45, tb28_46, tb28_69, spDDm_q, spDDm_A, spDDm_pre, spDDm_post, spNew_q, spAScn_q, spAScn_A, spAScn_pre, spAScn_post, spOne_q, spOne_A, spOne_pre, spOne_post, spAFil_q, spAFil_A, spAFil_pre, spAFil_post]
  repeat' (first | apply And.intro | (intro _) | omega | assumption | with_reducible rfl)
  all_goals (first | (exact ⟨_, _, rfl, rfl, hpre⟩; done) | (exact trivial; done) | (assumption; done) | ((have h9 := (‹okScn _›).len; omega); done) | ((have h9 := (‹okScn _›).len; simp only [List.mem_cons, List.not_mem_nil, or_false] at *; exact ⟨_, _, _, rfl, rfl, rfl, ‹okScn _›, ‹okF _›, by omega, by omega⟩); done) | ((have h9 := (‹okScn _›).len; simp only [List.mem_cons, List.not_mem_nil, or_false] at *; exact ⟨_, _, _, rfl, rfl, rfl, rfl, ‹okScn _›, ‹okF _›, by omega, by omega⟩); done) | (rfl; done) | ((simp (config := { maxSteps := 1000000 }) only [go_sem, ↓ifP_true, ↓ifP_false, ↓ifP_not, Nat.reduceLT, Nat.reduceAdd, Nat.reduceBEq, Nat.reduceSub, Nat.reduceLeDiff, Nat.reduceEqDiff, Nat.reduceMul, Int.reduceToNat, Int.reduceEq, Int.reduceLT, Int.reduceLE, Int.reduceAdd, Int.reduceSub, Int.reduceMul, reduceCtorEq, cond_true, cond_false, forall_eq', forall_eq, forall_const, implies_true, if_true, if_false, exists_eq_left', exists_eq', exists_eq, ne_eq]; done); done))
theorem sat_spec_DrawDamageOf : Sat Tryz.prog rt0 28 (wkIn spDDm) := sat_in (sat_out sat_spec_DrawDamageOf_0)
end Go.Proofs.YtkhplopcjkkejaaGreat
end
section
set_option maxRecDepth 100000
set_option linter.unusedSimpArgs false
set_option linter.unusedVariables false
namespace Go.Proofs.YtkhplopcjkkejaaGreat
open Go Go.VE
def hiP (y : Int) (p : Pt) : Int := if y < p.y then 1 else 0
theorem stepE_hi (e : Edge) (y : Int) : stepE e y = hiP y e.q - hiP y e.p := by
  unfold stepE hiP
  split <;> split <;> (try split) <;> (try split) <;> omega
theorem sum_zip (f : Pt → Int) : ∀ (a b : List Pt), a.length = b.length → ((a.zip b).map fun p => f p.2 - f p.1).sum = (b.map f).sum - (a.map f).sum
  | [], [], _ => rfl
  | a :: r, b :: q, h => by
    have ih := sum_zip f r q (by simpa using h)
    simp only [List.zip_cons_cons, List.map_cons, List.sum_cons, ih]; omega
  | [], _ :: _, h => by simp at h
  | _ :: _, [], h => by simp at h
theorem ring_tel (y : Int) (r : List Pt) : ((ringE r).map fun e => stepE e y).sum = 0 := by
  have e : ((ringE r).map fun e => stepE e y) = ((r.zip (r.drop 1 ++ r.take 1)).map fun p => hiP y p.2 - hiP y p.1) := by
    simp only [ringE, List.map_map]
    exact List.map_congr_left fun p _ => stepE_hi _ _
  rw [e, sum_zip _ _ _ (by simp; omega)]
  cases r with
  | nil => rfl
  | cons a r => simp only [List.drop_succ_cons, List.drop_zero, List.take_succ_cons, List.take_zero, List.map_append, List.sum_append, List.map_cons, List.map_nil, List.sum_cons, List.sum_nil]; omega
theorem edges_tel (y : Int) : ∀ L : List (List Pt), ((edgesOf L).map fun e => stepE e y).sum = 0
  | [] => rfl
  | r :: L => by
    have ih := edges_tel y L
    have e : edgesOf (r :: L) = ringE r ++ edgesOf L := rfl
    rw [e, List.map_append, List.sum_append, ring_tel, ih]; rfl
theorem sum_all0 {l : List Int} (h : ∀ x ∈ l, x = 0) : l.sum = 0 := by
  induction l with
  | nil => rfl
  | cons a l ih => rw [List.sum_cons, h a (by simp), ih fun x hx => h x (by simp [hx])]; rfl
theorem wind_zero {L : List (List Pt)} {x y : Int} (h : ∀ e ∈ edgesOf L, con e x y = 0) : wind L x y = 0 := by
  refine sum_all0 fun n hn => ?_
  obtain ⟨e, he, rfl⟩ := List.mem_map.1 hn
  exact h e he
theorem wind_right {L : List (List Pt)} {x y : Int} (h : ∀ e ∈ edgesOf L, stepE e y ≠ 0 → leftE e x y = true) : wind L x y = 0 := by
  rw [← edges_tel y L]
  show ((edgesOf L).map fun e => con e x y).sum = _
  congr 1
  refine List.map_congr_left fun e he => ?_
  by_cases hs : stepE e y = 0
  · rw [con_0 hs, hs]
  · exact con_yes (h e he hs)
theorem mul_pos_nn {a b : Int} (h : 0 ≤ a) (h2 : 0 ≤ b) : 0 ≤ a * b := Int.mul_nonneg h h2
theorem left_no {e : Edge} {x y : Int} (hs : stepE e y ≠ 0) (h1 : x < e.p.x) (h2 : x < e.q.x) : leftE e x y = false := by
  obtain ⟨⟨px, py⟩, ⟨qx, qy⟩⟩ := e
  dsimp only at *
  have hb : (py ≤ y ∧ y < qy) ∨ (qy ≤ y ∧ y < py) := by
    unfold stepE at hs; dsimp only at hs; split at hs
    · exact .inl ‹_›
    · split at hs
      · exact .inr ‹_›
      · exact absurd rfl hs
  have e1 : (qx - px) * (y - py) - (x - px) * (qy - py) = (qx - x) * (y - py) + (px - x) * (qy - y) := by
    rw [show qx - px = (qx - x) - (px - x) by omega, show x - px = -(px - x) by omega, show qy - py = (qy - y) + (y - py) by omega, Int.sub_mul, Int.neg_mul, Int.mul_add]; omega
  simp only [leftE, decide_eq_false_iff_not]
  rw [e1]
  rcases hb with ⟨g1, g2⟩ | ⟨g1, g2⟩
  · rw [if_neg (by omega)]
    have m1 := Int.mul_nonneg (show 0 ≤ qx - x by omega) (show 0 ≤ y - py by omega)
    have m2 := Int.mul_pos (show 0 < px - x by omega) (show 0 < qy - y by omega)
    omega
  · rw [if_pos (by omega)]
    have m1 := Int.mul_pos (show 0 < qx - x by omega) (show 0 < py - y by omega)
    have m2 := Int.mul_nonneg (show 0 ≤ px - x by omega) (show 0 ≤ y - qy by omega)
    rw [show y - py = -(py - y) by omega, show qy - y = -(y - qy) by omega, Int.mul_neg, Int.mul_neg]; omega
theorem left_yes {e : Edge} {x y : Int} (hs : stepE e y ≠ 0) (h1 : e.p.x ≤ x) (h2 : e.q.x ≤ x) : leftE e x y = true := by
  obtain ⟨⟨px, py⟩, ⟨qx, qy⟩⟩ := e
  dsimp only at *
  have hb : (py ≤ y ∧ y < qy) ∨ (qy ≤ y ∧ y < py) := by
    unfold stepE at hs; dsimp only at hs; split at hs
    · exact .inl ‹_›
    · split at hs
      · exact .inr ‹_›
      · exact absurd rfl hs
  have e1 : (qx - px) * (y - py) - (x - px) * (qy - py) = -((x - qx) * (y - py)) - (x - px) * (qy - y) := by
    rw [show qx - px = (x - px) - (x - qx) by omega, show qy - py = (qy - y) + (y - py) by omega, Int.sub_mul, Int.mul_add]; omega
  simp only [leftE, decide_eq_true_eq]
  rw [e1]
  rcases hb with ⟨g1, g2⟩ | ⟨g1, g2⟩
  · rw [if_neg (by omega)]
    have m1 := Int.mul_nonneg (show 0 ≤ x - qx by omega) (show 0 ≤ y - py by omega)
    have m2 := Int.mul_nonneg (show 0 ≤ x - px by omega) (show 0 ≤ qy - y by omega)
    omega
  · rw [if_pos (by omega)]
    have m1 := Int.mul_nonneg (show 0 ≤ x - qx by omega) (show 0 ≤ py - y by omega)
    have m2 := Int.mul_nonneg (show 0 ≤ x - px by omega) (show 0 ≤ y - qy by omega)
    rw [show y - py = -(py - y) by omega, show qy - y = -(y - qy) by omega, Int.mul_neg, Int.mul_neg]; omega
theorem edge_ends {L : List (List Pt)} {e : Edge} (h : e ∈ edgesOf L) : e.p ∈ L.flatten ∧ e.q ∈ L.flatten := by
  obtain ⟨r, hr, hm⟩ := List.mem_flatMap.1 h
  simp only [ringE, List.mem_map] at hm
  obtain ⟨⟨a, b⟩, hm, rfl⟩ := hm
  have := List.of_mem_zip hm
  refine ⟨List.mem_flatten.2 ⟨r, hr, this.1⟩, List.mem_flatten.2 ⟨r, hr, ?_⟩⟩
  rcases List.mem_append.1 this.2 with h2 | h2
  · exact List.mem_of_mem_drop h2
  · exact List.mem_of_mem_take h2
/-- All points of polygons lie in a box. -/
def inBx (L : List (List Pt)) (b : Bx) : Prop := ∀ p ∈ L.flatten, (b.l ≤ p.x ∧ p.x ≤ b.r) ∧ b.t ≤ p.y ∧ p.y ≤ b.b
theorem wind_out {L : List (List Pt)} {b : Bx} {x y : Int} (h : inBx L b) (ho : x < b.l ∨ b.r ≤ x ∨ y < b.t ∨ b.b ≤ y) : wind L x y = 0 := by
  have hst : ∀ e ∈ edgesOf L, stepE e y ≠ 0 → b.t ≤ y ∧ y < b.b := fun e he hs => by
    obtain ⟨h1, h2⟩ := edge_ends he
    have g1 := h _ h1
    have g2 := h _ h2
    unfold stepE at hs; split at hs
    · omega
    · split at hs
      · omega
      · exact absurd rfl hs
  by_cases hr : b.r ≤ x
  · refine wind_right fun e he hs => ?_
    obtain ⟨h1, h2⟩ := edge_ends he
    exact left_yes hs (by have := h _ h1; omega) (by have := h _ h2; omega)
  · refine wind_zero fun e he => ?_
    by_cases hs : stepE e y = 0
    · exact con_0 hs
    · have g := hst e he hs
      obtain ⟨h1, h2⟩ := edge_ends he
      exact con_no (left_no hs (by have := h _ h1; omega) (by have := h _ h2; omega))
theorem insN_0 (rl : Int) : insN 0 rl = false := by unfold insN; grind
theorem sumN_0 : ∀ {f : Nat → Int} (n : Nat), (∀ j, j < n → f j = 0) → sumN f n = 0
  | f, 0, _ => rfl
  | f, n + 1, h => by rw [sumN, sumN_0 n fun j hj => h j (by omega), h n (by omega)]; rfl
/-- Outside of the pixels of a box nothing is covered. -/
theorem cov_out {L : List (List Pt)} {b : Bx} {rl c w : Int} (h : inBx L b) (ho : c < b.l / 16 ∨ b.r / 16 + 1 ≤ c ∨ w < b.t / 16 ∨ b.b / 16 + 1 ≤ w) : cov L rl c w = 0 := by
  unfold cov
  refine sumN_0 4 fun a ha => sumN_0 4 fun k hk => ?_
  unfold ins1
  rw [wind_out h (by unfold smp; omega), insN_0]; rfl
def inB (b : Bx) (c w : Int) : Prop := (b.l ≤ c ∧ c < b.r) ∧ b.t ≤ w ∧ w < b.b
theorem fl_cov {p : List Verb} {rl c w : Int} (h : ¬ inB (flB p) c w) : cov (ringsOf p) rl c w = 0 := by
  by_cases e : (ringsOf p).flatten = []
  · refine cov_out (b := ⟨16 * (c + 1), 0, 0, 0⟩) (fun p hp => by rw [e] at hp; cases hp) (.inl ?_)
    dsimp only; omega
  · rw [flB, if_neg e] at h
    refine cov_out (b := bnd (ringsOf p).flatten) (fun p hp => bnd_in p hp) ?_
    simp only [inB, pxB] at h; omega
theorem jn_has {a b : Bx} {c w : Int} (ha : prpB a) (hb : prpB b) (h : inB a c w ∨ inB b c w) : inB (jnB a b) c w := by
  unfold jnB
  split
  · rename_i h1
    rw [emB, decide_eq_true_eq] at h1
    split
    · rename_i h2
      rw [emB, decide_eq_true_eq] at h2
      simp only [inB] at *; omega
    · simp only [inB] at *; omega
  · rename_i h1
    split
    · rename_i h2
      rw [emB, decide_eq_true_eq] at h2
      simp only [inB] at *; omega
    · simp only [inB] at *; omega
theorem pix_over0 (o P : Colr) : overC (coverC P 0) o = o := by
  simp only [overC, coverC, Int.mul_zero, rnd_0 (b := 16) (by decide), Int.sub_zero, rnd_mul (b := 255) (by decide), Int.zero_add]
theorem pix1_out {f : Fil} {c w : Int} (h : ¬ inB (flB f.p) c w) (o : Colr) : pix1 c w o f = o := by rw [pix1, fl_cov h, pix_over0]
theorem pixF_set {fs : List Fil} {n : Nat} {f g : Fil} {c w : Int} (hg : fs[n]? = some g) (h1 : ¬ inB (flB g.p) c w) (h2 : ¬ inB (flB f.p) c w) : pixF (fs.set n f) c w = pixF fs c w := by
  obtain ⟨hl, rfl⟩ := List.getElem?_eq_some_iff.1 hg
  rw [List.set_eq_take_append_cons_drop, if_pos hl]
  have e : fs = fs.take n ++ fs[n] :: fs.drop (n + 1) := by
    rw [← List.drop_eq_getElem_cons hl, List.take_append_drop]
  conv => rhs; rw [e]
  simp only [pixF, List.foldl_append, List.foldl_cons, pix1_out h1, pix1_out h2]
def tile (w c r : Int) : Int := r / 4 * acr w + c / 4
theorem tile_box {w h c r : Int} (hz : szd w h = true) (hc : 0 ≤ c ∧ c < w) (hr : 0 ≤ r ∧ r < h) : (0 ≤ tile w c r ∧ tile w c r < tcnt w h) ∧ inB (tbox w h (tile w c r)) c r := by
  have hs := szd_r hz
  have ha := acr_mul hz
  have hc4 : c / 4 < acr w := by unfold acr; omega
  have hr4 : r / 4 < acr h := by unfold acr; omega
  have hA : tile w c r % acr w = c / 4 := by
    rw [tile, Int.add_comm, Int.add_mul_emod_self_right, Int.emod_eq_of_lt (by omega) hc4]
  have hB : tile w c r / acr w = r / 4 := by
    rw [tile, Int.add_comm, Int.add_mul_ediv_right _ _ (by omega), Int.ediv_eq_zero_of_lt (by omega) hc4, Int.zero_add]
  refine ⟨?_, ?_⟩
  · have h5 : 0 ≤ r / 4 * acr w := Int.mul_nonneg (by omega) (by omega)
    have h6 : (r / 4 + 1) * acr w ≤ acr h * acr w := Int.mul_le_mul_of_nonneg_right (by omega) (by omega)
    rw [Int.add_mul, Int.one_mul, Int.mul_comm (acr h)] at h6
    rw [tcnt_of hz, tile]; omega
  · simp only [inB, tbox, hA, hB]; omega
theorem dmg_pix {s : Scn} {a : Int} {f g : Fil} (hok : okRp s a f = true) (hg : s.fs[a.toNat]? = some g) {c w : Int} (hc : 0 ≤ c ∧ c < s.w) (hw : 0 ≤ w ∧ w < s.h) (hne : ¬ pixF s.fs c w = pixF (s.fs.set a.toNat f) c w) : tile s.w c w ∈ dmg s a f := by
  obtain ⟨h1, h2, h3, h4⟩ := rp_parts hok
  have hz := (vScn_parts h1).1
  obtain ⟨hT, hb⟩ := tile_box hz hc hw
  have hpg := flB_prp (vFil_pts (vScn_fil h1 hg)).2.1
  have hpf := flB_prp (vFil_pts h4).2.1
  rw [← dmg_yes hok hg]
  refine tsN_mem hT.1 (by omega) ?_
  by_cases hj : inB (jnB (flB g.p) (flB f.p)) c w
  · simp only [inB] at hj hb
    rw [ovB, decide_eq_true_eq]; omega
  · exfalso
    refine hne (pixF_set hg (fun h => hj (jn_has hpg hpf (.inl h))) (fun h => hj (jn_has hpg hpf (.inr h)))).symm
theorem dmg_len (s : Scn) (a : Int) (f : Fil) : (dmg s a f).length ≤ 9 := by
  unfold dmg
  split
  · have h1 := tsN_len (dmgB s a f) s.w s.h (tcnt s.w s.h).toNat
    have h2 := acr_mul (vScn_parts (rp_parts ‹_›).1).1
    have h3 := tcnt_of (vScn_parts (rp_parts ‹_›).1).1
    omega
  · simp
end Go.Proofs.YtkhplopcjkkejaaGreat
end
section
set_option maxRecDepth 100000
set_option linter.unusedSimpArgs false
set_option linter.unusedVariables false
namespace Go.Proofs.YtkhplopcjkkejaaGreat
open Go Go.VE
theorem eqL4_step {α : Type} {a b : List α} {i : Int} {x y : α} (ha : a[i.toNat]? = some x) (hb : b[i.toNat]? = some y) (e : x = y) (h0 : 0 ≤ i) (h : a.take i.toNat = b.take i.toNat) : a.take (i + 1).toNat = b.take (i + 1).toNat := by
  subst e; rw [takeN ha h0, takeN hb h0, h]
theorem eqL4_no {α : Type} {a b : List α} {i : Int} {x y : α} (ha : a[i.toNat]? = some x) (hb : b[i.toNat]? = some y) (h : x ≠ y) : a ≠ b := fun e => by
  rw [e, hb] at ha; exact h (Option.some.inj ha).symm
theorem eqL4_end {α : Type} {a b : List α} {i : Int} (hl : (a.length : Int) = b.length) (hi : ¬ i < (a.length : Int)) (h : a.take i.toNat = b.take i.toNat) : a = b := by
  rwa [takeA (by omega), takeA (by omega)] at h
theorem eqL4_len {α : Type} {a b : List α} (hl : ¬ (a.length : Int) = b.length) : a ≠ b := fun e => hl (by rw [e])
def spEqI_A : (List Int) × (List Int) → List AV
  | (a, b) => [.c (.sl false (a.map intC)), .c (.sl false (b.map intC))]
def spEqI_pre : (List Int) × (List Int) → Prop
  | (a, b) => a.length ≤ 1000000000 ∧ b.length ≤ 1000000000
def spEqI_post : (List Int) × (List Int) → AV → List Box → Prop
  | (a, b), r, bs => r = B (decide (a = b)) ∧ bs = []
def spEqI : VE.Spec := famSpec spEqI_A d_li_li spEqI_pre spEqI_post 0 true
theorem spEqI_q : spEqI.flat = true ∧ spEqI.mt = [] ∧ spEqI.shut = false ∧ spEqI.cost = 0 ∧ (∀ a i, spEqI.pre a i = (i = [] ∧ famPre d_li_li spEqI_A spEqI_pre a)) ∧ ∀ a i r b, spEqI.post a i r b = (famPost d_li_li spEqI_post a r b) := ⟨rfl, rfl, rfl, rfl, fun _ _ => rfl, fun _ _ _ _ => rfl⟩
def tb30 : Nat → Option VE.Spec := tabOf []
theorem tb30_ok : TabOK Tryz.prog rt0 tb30 := tabOf_nil
set_option maxHeartbeats 4000000 in
theorem sat_laws_equalInts_0 : Sat Tryz.prog rt0 30 (wkOut spEqI) := by
  refine fn_sat hm ttok (tab := tb30) tb30_ok Tryz.func30 (c := Tryz.f30.body.getD .skip) (by kernel_rfl) (ts := [.tmp 4]) (by kernel_rfl) Tryz.ntmps30 (sq := fun _ => true) (by kernel_rfl) ?_
  intro args ins pk hpre0 hpk
  obtain ⟨rfl, hpre0⟩ := hpre0
  obtain ⟨⟨a, b⟩, rfl, hpre, hdec⟩ := famPre_ex hpre0
  clear hpre0 hdec
  try simp only [spEqI_pre] at hpre
  replace hpk : pk + 0 ≤ pickLimit := hpk
  refine ⟨Nat.le_of_ble_eq_true rfl, ?_⟩
  simp (config := { maxSteps := 1000000 }) only [go_sem, ↓ifP_true, ↓ifP_false, ↓ifP_not, Nat.reduceLT, Nat.reduceAdd, Nat.reduceBEq, Nat.reduceSub, Nat.reduceLeDiff, Nat.reduceEqDiff, Nat.reduceMul, Int.reduceToNat, Int.reduceEq, Int.reduceLT, Int.reduceLE, Int.reduceAdd, Int.reduceSub, Int.reduceMul, reduceCtorEq, cond_true, cond_false, forall_eq', forall_eq, forall_const, implies_true, if_true, if_false, exists_eq_left', exists_eq', exists_eq, ne_eq, Tryz.f30, spEqI_q, spEqI_A, spEqI_pre, spEqI_post]
  repeat' (first | apply And.intro | (intro _) | omega | assumption | with_reducible rfl)
  any_goals
    refine loopS (α := Int) false [2, 3, 4, 5, 6, 7, 8, 9, 10, 11, 12, 13, 14, 15, 16, 17, 18, 19, 20, 21, 22, 23, 24, 25] (fun σ => []) (fun σ x => [(5, I x)]) (fun σ x => []) (fun i => 0) (fun σ => gI (σ.get 5)) (fun σ τ => []) (fun i => 0 ≤ i ∧ i ≤ a.length ∧ a.take i.toNat = b.take i.toNat) (fun i => (a.length - i).toNat) ⟨by (simp (config := { maxSteps := 1000000 }) only [go_sem, ↓ifP_true, ↓ifP_false, ↓ifP_not, Nat.reduceLT, Nat.reduceAdd, Nat.reduceBEq, Nat.reduceSub, Nat.reduceLeDiff, Nat.reduceEqDiff, Nat.reduceMul, Int.reduceToNat, Int.reduceEq, Int.reduceLT, Int.reduceLE, Int.reduceAdd, Int.reduceSub, Int.reduceMul, reduceCtorEq, cond_true, cond_false, forall_eq', forall_eq, forall_const, implies_true, if_true, if_false, exists_eq_left', exists_eq', exists_eq, ne_eq, Tryz.f30, spEqI_q, spEqI_A, spEqI_pre, spEqI_post]; (repeat' (first | apply And.intro | (intro _) | omega | assumption | with_reducible rfl)); all_goals (first | rfl)), ?_⟩
    rintro i hinv
    try dsimp only at hinv
    simp (config := { maxSteps := 1000000 }) only [go_sem, ↓ifP_true, ↓ifP_false, ↓ifP_not, Nat.reduceLT, Nat.reduceAdd, Nat.reduceBEq, Nat.reduceSub, Nat.reduceLeDiff, Nat.reduceEqDiff, Nat.reduceMul, Int.reduceToNat, Int.reduceEq, Int.reduceLT, Int.reduceLE, Int.reduceAdd, Int.reduceSub, Int.reduceMul, reduceCtorEq, cond_true, cond_false, forall_eq', forall_eq, forall_const, implies_true, if_true, if_false, exists_eq_left', exists_eq', exists_eq, ne_eq, Tryz.f30, spEqI_q, spEqI_A, spEqI_pre, spEqI_post]
    repeat' (first | apply And.intro | (intro _) | omega | assumption | with_reducible rfl)
  
  all_goals (first | (exact eqL4_step ‹_› ‹_› ‹_› hinv.1 hinv.2.2; done) | (exact (decide_eq_false (eqL4_no ‹_› ‹_› ‹_›)).symm; done) | (exact (decide_eq_true (eqL4_end ‹_› ‹_› hinv.2.2)).symm; done) | (exact (decide_eq_false (eqL4_len ‹_›)).symm; done))
theorem sat_laws_equalInts : Sat Tryz.prog rt0 30 (wkIn spEqI) := sat_in (sat_out sat_laws_equalInts_0)
def spIsIn_A : (List Int) × Int → List AV
  | (l, n) => [.c (.sl false (l.map intC)), I n]
def spIsIn_pre : (List Int) × Int → Prop
  | (l, n) => l.length ≤ 1000000
def spIsIn_post : (List Int) × Int → AV → List Box → Prop
  | (l, n), r, bs => r = B (decide (n ∈ l)) ∧ bs = []
def spIsIn : VE.Spec := famSpec spIsIn_A d_li_i spIsIn_pre spIsIn_post 0 true
theorem spIsIn_q : spIsIn.flat = true ∧ spIsIn.mt = [] ∧ spIsIn.shut = false ∧ spIsIn.cost = 0 ∧ (∀ a i, spIsIn.pre a i = (i = [] ∧ famPre d_li_i spIsIn_A spIsIn_pre a)) ∧ ∀ a i r b, spIsIn.post a i r b = (famPost d_li_i spIsIn_post a r b) := ⟨rfl, rfl, rfl, rfl, fun _ _ => rfl, fun _ _ _ _ => rfl⟩
def inL (n : Int) (l : List Int) : Bool := decide (n ∈ l)
theorem isin_yes {l : List Int} {i n : Int} (h : l[i.toNat]? = some n) : true = decide (n ∈ l) := (decide_eq_true (List.mem_of_getElem? h)).symm
theorem isin_st {l : List Int} {i n k : Int} (h0 : 0 ≤ i) (hk : l[i.toNat]? = some k) (hn : ¬ k = n) (h : inL n (l.take i.toNat) = false) : inL n (l.take (i + 1).toNat) = false := by
  simp only [inL, decide_eq_false_iff_not] at *
  rw [takeN hk h0, List.mem_append, List.mem_singleton]
  rintro (h1 | h1)
  · exact h h1
  · exact hn h1.symm
theorem isin_no {l : List Int} {i n : Int} (hi : (l.length : Int) ≤ i) (h : inL n (l.take i.toNat) = false) : false = decide (n ∈ l) := by
  rw [takeA (by omega)] at h
  exact h.symm
def tb32 : Nat → Option VE.Spec := tabOf []
theorem tb32_ok : TabOK Tryz.prog rt0 tb32 := tabOf_nil
set_option maxHeartbeats 4000000 in
theorem sat_laws_isIn_0 : Sat Tryz.prog rt0 32 (wkOut spIsIn) := by
  refine fn_sat hm ttok (tab := tb32) tb32_ok Tryz.func32 (c := Tryz.f32.body.getD .skip) (by kernel_rfl) (ts := [.tmp 4]) (by kernel_rfl) Tryz.ntmps32 (sq := fun _ => true) (by kernel_rfl) ?_
  intro args ins pk hpre0 hpk
  obtain ⟨rfl, hpre0⟩ := hpre0
  obtain ⟨⟨l, n⟩, rfl, hpre, hdec⟩ := famPre_ex hpre0
  clear hpre0 hdec
  try simp only [spIsIn_pre] at hpre
  replace hpk : pk + 0 ≤ pickLimit := hpk
  refine ⟨Nat.le_of_ble_eq_true rfl, ?_⟩
  simp (config := { maxSteps := 1000000 }) only [go_sem, ↓ifP_true, ↓ifP_false, ↓ifP_not, Nat.reduceLT, Nat.reduceAdd, Nat.reduceBEq, Nat.reduceSub, Nat.reduceLeDiff, Nat.reduceEqDiff, Nat.reduceMul, Int.reduceToNat, Int.reduceEq, Int.reduceLT, Int.reduceLE, Int.reduceAdd, Int.reduceSub, Int.reduceMul, reduceCtorEq, cond_true, cond_false, forall_eq', forall_eq, forall_const, implies_true, if_true, if_false, exists_eq_left', exists_eq', exists_eq, ne_eq, Tryz.f32, spIsIn_q, spIsIn_A, spIsIn_pre, spIsIn_post]
  repeat' (first | apply And.intro | (intro _) | omega | assumption | with_reducible rfl)
  refine loopS (α := Int) false [2, 3, 4, 5, 6, 7, 8, 9, 10, 11, 12, 13, 14, 15, 16, 17] (fun σ => []) (fun σ x => [(5, I x)]) (fun σ x => []) (fun i => 0) (fun σ => gI (σ.get 5)) (fun σ τ => []) (fun i => (0 ≤ i ∧ i ≤ l.length) ∧ inL n (l.take i.toNat) = false) (fun i => (l.length - i).toNat) ⟨by (simp (config := { maxSteps := 1000000 }) only [go_sem, ↓ifP_true, ↓ifP_false, ↓ifP_not, Nat.reduceLT, Nat.reduceAdd, Nat.reduceBEq, Nat.reduceSub, Nat.reduceLeDiff, Nat.reduceEqDiff, Nat.reduceMul, Int.reduceToNat, Int.reduceEq, Int.reduceLT, Int.reduceLE, Int.reduceAdd, Int.reduceSub, Int.reduceMul, reduceCtorEq, cond_true, cond_false, forall_eq', forall_eq, forall_const, implies_true, if_true, if_false, exists_eq_left', exists_eq', exists_eq, ne_eq, Tryz.f32, spIsIn_q, spIsIn_A, spIsIn_pre, spIsIn_post]; (repeat' (first | apply And.intro | (intro _) | omega | assumption | with_reducible rfl)); all_goals (first | rfl)), ?_⟩
  rintro i hinv
  try dsimp only at hinv
  rcases elemAt l i (by omega) with ⟨hlt, k, hk⟩ | hlt
  all_goals (first | ((have hlt2 := of_eq_true hlt); all_goals simp (config := { maxSteps := 1000000 }) only [go_sem, ↓ifP_true, ↓ifP_false, ↓ifP_not, Nat.reduceLT, Nat.reduceAdd, Nat.reduceBEq, Nat.reduceSub, Nat.reduceLeDiff, Nat.reduceEqDiff, Nat.reduceMul, Int.reduceToNat, Int.reduceEq, Int.reduceLT, Int.reduceLE, Int.reduceAdd, Int.reduceSub, Int.reduceMul, reduceCtorEq, cond_true, cond_false, forall_eq', forall_eq, forall_const, implies_true, if_true, if_false, exists_eq_left', exists_eq', exists_eq, ne_eq, Tryz.f32, spIsIn_q, spIsIn_A, spIsIn_pre, spIsIn_post, hlt, hk]) | (have hlt2 := of_eq_false hlt; simp (config := { maxSteps := 1000000 }) only [go_sem, ↓ifP_true, ↓ifP_false, ↓ifP_not, Nat.reduceLT, Nat.reduceAdd, Nat.reduceBEq, Nat.reduceSub, Nat.reduceLeDiff, Nat.reduceEqDiff, Nat.reduceMul, Int.reduceToNat, Int.reduceEq, Int.reduceLT, Int.reduceLE, Int.reduceAdd, Int.reduceSub, Int.reduceMul, reduceCtorEq, cond_true, cond_false, forall_eq', forall_eq, forall_const, implies_true, if_true, if_false, exists_eq_left', exists_eq', exists_eq, ne_eq, Tryz.f32, spIsIn_q, spIsIn_A, spIsIn_pre, spIsIn_post, hlt]))
  all_goals
    repeat' (first | apply And.intro | (intro _) | omega | assumption | with_reducible rfl)
  all_goals (first | ((subst_vars; exact isin_yes hk); done) | (exact isin_yes (by simp_all); done) | (exact isin_st hinv.1.1 hk ‹_› hinv.2; done) | (exact isin_no (by omega) hinv.2; done) | (skip; done))
theorem sat_laws_isIn : Sat Tryz.prog rt0 32 (wkIn spIsIn) := sat_in (sat_out sat_laws_isIn_0)
end Go.Proofs.YtkhplopcjkkejaaGreat
end
