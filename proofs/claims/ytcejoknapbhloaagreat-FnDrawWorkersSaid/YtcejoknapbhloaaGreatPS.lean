/- Contracts of functions of the program vectorraster, each proved for all states that fit its description. No conditions. -/
import Derived.Test.YtcejoknapbhloaaGreatPR
import Derived.Test.YtcejoknapbhloaaGreatPQ
import Derived.Test.YtcejoknapbhloaaGreatKS
import Derived.Test.YtcejoknapbhloaaGreatPA
set_option linter.unusedSimpArgs false
set_option linter.unusedVariables false
set_option maxRecDepth 100000
namespace Go.Proofs.YtcejoknapbhloaaGreat
open Go Go.VE
theorem rnd_mono {a a' b : Int} (h : a ≤ a') (hb : 0 < b) : rnd a b ≤ rnd a' b := Int.ediv_le_ediv (by omega) (by omega)
theorem rnd_0 {b : Int} (hb : 0 < b) : rnd 0 b = 0 := by
  unfold rnd
  exact Int.ediv_eq_zero_of_lt (by omega) (by omega)
theorem rnd_nn {a b : Int} (ha : 0 ≤ a) (hb : 0 < b) : 0 ≤ rnd a b := by rw [← rnd_0 hb]; exact rnd_mono ha hb
theorem rnd_mul {a b : Int} (hb : 0 < b) : rnd (a * b) b = a := by
  unfold rnd
  rw [show 2 * (a * b) + b = b + a * (2 * b) by grind, Int.add_mul_ediv_right _ _ (by omega), Int.ediv_eq_zero_of_lt (by omega) (by omega)]
  omega
def coverC (c : Colr) (n : Int) : Colr := ⟨rnd (c.r * n) 16, rnd (c.g * n) 16, rnd (c.b * n) 16, rnd (c.a * n) 16⟩
def overC (a b : Colr) : Colr := ⟨a.r + rnd (b.r * (255 - a.a)) 255, a.g + rnd (b.g * (255 - a.a)) 255, a.b + rnd (b.b * (255 - a.a)) 255, a.a + rnd (b.a * (255 - a.a)) 255⟩
def mixC (a b : Colr) (t : Int) : Colr := ⟨rnd (a.r * (256 - t) + b.r * t) 256, rnd (a.g * (256 - t) + b.g * t) 256, rnd (a.b * (256 - t) + b.b * t) 256, rnd (a.a * (256 - t) + b.a * t) 256⟩
theorem vCol_iff {c : Colr} : vCol c = true ↔ (0 ≤ c.a ∧ c.a ≤ 255) ∧ (0 ≤ c.r ∧ c.r ≤ c.a) ∧ (0 ≤ c.g ∧ c.g ≤ c.a) ∧ 0 ≤ c.b ∧ c.b ≤ c.a := by
  simp only [vCol, Bool.and_eq_true, decide_eq_true_eq, and_assoc]
theorem vCol_0 : vCol ⟨0, 0, 0, 0⟩ = true := by decide
theorem part_le {x a n b : Int} (h0 : 0 ≤ x) (h1 : x ≤ a) (hn : 0 ≤ n) (hb : 0 < b) : 0 ≤ rnd (x * n) b ∧ rnd (x * n) b ≤ rnd (a * n) b :=
  ⟨rnd_nn (Int.mul_nonneg h0 hn) hb, rnd_mono (Int.mul_le_mul_of_nonneg_right h1 hn) hb⟩
theorem part_top {a n b m : Int} (h0 : 0 ≤ a) (h1 : a ≤ m) (hn : 0 ≤ n) (hnb : n ≤ b) (hb : 0 < b) : rnd (a * n) b ≤ m := by
  have h2 : rnd (a * n) b ≤ rnd (m * b) b := rnd_mono (Int.mul_le_mul h1 hnb hn (by omega)) hb
  rwa [rnd_mul hb] at h2
theorem coverC_ok {c : Colr} {n : Int} (h : vCol c = true) (hn : 0 ≤ n ∧ n ≤ 16) : vCol (coverC c n) = true := by
  rw [vCol_iff] at *
  obtain ⟨⟨a0, a1⟩, ⟨r0, r1⟩, ⟨g0, g1⟩, b0, b1⟩ := h
  exact ⟨⟨rnd_nn (Int.mul_nonneg a0 hn.1) (by decide), part_top a0 a1 hn.1 hn.2 (by decide)⟩, part_le r0 r1 hn.1 (by decide), part_le g0 g1 hn.1 (by decide), part_le b0 b1 hn.1 (by decide)⟩
theorem over_le {x a y b n : Int} (hx : 0 ≤ x ∧ x ≤ a) (hy : 0 ≤ y ∧ y ≤ b) (hn : 0 ≤ n) : 0 ≤ x + rnd (y * n) 255 ∧ x + rnd (y * n) 255 ≤ a + rnd (b * n) 255 := by
  have := part_le (b := 255) hy.1 hy.2 hn (by decide)
  omega
theorem overC_ok {a b : Colr} (ha : vCol a = true) (hb : vCol b = true) : vCol (overC a b) = true := by
  rw [vCol_iff] at *
  obtain ⟨⟨a0, a1⟩, r, g, bb⟩ := ha
  obtain ⟨⟨a0', a1'⟩, r', g', bb'⟩ := hb
  have hn : 0 ≤ 255 - a.a := by omega
  refine ⟨⟨?_, ?_⟩, over_le r r' hn, over_le g g' hn, over_le bb bb' hn⟩
  · have := rnd_nn (b := 255) (Int.mul_nonneg a0' hn) (by decide)
    show 0 ≤ a.a + rnd (b.a * (255 - a.a)) 255
    omega
  · have h2 : rnd (b.a * (255 - a.a)) 255 ≤ 255 - a.a := by
      rw [Int.mul_comm]
      exact part_top hn (Int.le_refl _) a0' a1' (by decide)
    show a.a + rnd (b.a * (255 - a.a)) 255 ≤ 255
    omega
theorem mix_le {x a y b t : Int} (hx : 0 ≤ x ∧ x ≤ a) (hy : 0 ≤ y ∧ y ≤ b) (ht : 0 ≤ t ∧ t ≤ 256) : 0 ≤ rnd (x * (256 - t) + y * t) 256 ∧ rnd (x * (256 - t) + y * t) 256 ≤ rnd (a * (256 - t) + b * t) 256 := by
  have h1 := Int.mul_nonneg hx.1 (show 0 ≤ 256 - t by omega)
  have h2 := Int.mul_nonneg hy.1 ht.1
  have h3 := Int.mul_le_mul_of_nonneg_right hx.2 (show 0 ≤ 256 - t by omega)
  have h4 := Int.mul_le_mul_of_nonneg_right hy.2 ht.1
  exact ⟨rnd_nn (by omega) (by decide), rnd_mono (by omega) (by decide)⟩
theorem mixC_ok {a b : Colr} {t : Int} (ha : vCol a = true) (hb : vCol b = true) (ht : 0 ≤ t ∧ t ≤ 256) : vCol (mixC a b t) = true := by
  rw [vCol_iff] at *
  obtain ⟨⟨a0, a1⟩, r, g, bb⟩ := ha
  obtain ⟨⟨a0', a1'⟩, r', g', bb'⟩ := hb
  have h := mix_le (x := a.a) (a := 255) (y := b.a) (b := 255) ⟨a0, a1⟩ ⟨a0', a1'⟩ ht
  refine ⟨⟨h.1, ?_⟩, mix_le r r' ht, mix_le g g' ht, mix_le bb bb' ht⟩
  have h2 : rnd (255 * (256 - t) + 255 * t) 256 = 255 := by
    rw [show 255 * (256 - t) + 255 * t = 255 * 256 by omega]
    exact rnd_mul (by decide)
  show rnd (a.a * (256 - t) + b.a * t) 256 ≤ 255
  omega
theorem mixC_0 (a b : Colr) : mixC a b 0 = a := by
  simp only [mixC, Int.mul_zero, Int.add_zero, Int.sub_zero, rnd_mul (b := 256) (by decide)]
theorem mixC_256 (a b : Colr) : mixC a b 256 = b := by
  simp only [mixC, Int.sub_self, Int.mul_zero, Int.zero_add, rnd_mul (b := 256) (by decide)]
/-- The program's way, and the reference's. -/
def stopR (t : Int) : Stp → List Stp → Colr
  | a, [] => a.c
  | a, b :: r => if t < b.w then mixC a.c b.c (256 * (t - a.w) / (b.w - a.w)) else stopR t b r
def stopS (t : Int) : Stp → List Stp → Colr
  | a, [] => a.c
  | a, b :: r => if t ≤ b.w then mixC a.c b.c (256 * (t - a.w) / (b.w - a.w)) else stopS t b r
theorem stopRS (t : Int) : ∀ (l : List Stp) (a : Stp), vStp a.w l = true → a.w ≤ t → stopR t a l = stopS t a l
  | [], _, _, _ => rfl
  | b :: r, a, h, ht => by
    simp only [vStp, Bool.and_eq_true, decide_eq_true_eq] at h
    obtain ⟨⟨⟨h1, h2⟩, h3⟩, h4⟩ := h
    unfold stopR stopS
    by_cases hlt : t < b.w
    · rw [if_pos hlt, if_pos (by omega)]
    · rw [if_neg hlt]
      by_cases he : t = b.w
      · subst he
        rw [if_pos (Int.le_refl _), Int.mul_ediv_cancel _ (show b.w - a.w ≠ 0 by omega), mixC_256]
        cases r with
        | nil => rfl
        | cons c r' =>
          simp only [vStp, Bool.and_eq_true, decide_eq_true_eq] at h4
          unfold stopR
          rw [if_pos (by omega), Int.sub_self, Int.mul_zero, Int.zero_ediv, mixC_0]
      · rw [if_neg (by omega), stopRS t r b h4 (by omega)]
def stopC (l : List Stp) (t : Int) : Colr := match l with
  | [] => ⟨0, 0, 0, 0⟩
  | a :: r => if t ≤ a.w then a.c else stopR t a r
theorem part_t {t a b : Int} (h1 : a ≤ t) (h2 : t < b) : 0 ≤ 256 * (t - a) / (b - a) ∧ 256 * (t - a) / (b - a) ≤ 256 := by
  refine ⟨Int.ediv_nonneg (by omega) (by omega), ?_⟩
  have : 256 * (t - a) ≤ 256 * (b - a) := by omega
  have h3 := Int.ediv_le_ediv (show 0 < b - a by omega) this
  rwa [Int.mul_ediv_cancel _ (show b - a ≠ 0 by omega)] at h3
theorem stopR_ok (t : Int) : ∀ (l : List Stp) (a : Stp), vStp a.w l = true → vCol a.c = true → a.w ≤ t → vCol (stopR t a l) = true
  | [], _, _, h, _ => h
  | b :: r, a, h, ha, ht => by
    simp only [vStp, Bool.and_eq_true, decide_eq_true_eq] at h
    obtain ⟨⟨⟨h1, h2⟩, h3⟩, h4⟩ := h
    unfold stopR
    split
    · exact mixC_ok ha h3 (part_t ht ‹_›)
    · exact stopR_ok t r b h4 h3 (by omega)
theorem vStops_cons {a : Stp} {r : List Stp} (h : vStops (a :: r) = true) : (0 ≤ a.w ∧ a.w ≤ 256) ∧ vCol a.c = true ∧ vStp a.w r = true ∧ r.length ≤ 3 := by
  simp only [vStops, vStp, Bool.and_eq_true, decide_eq_true_eq, List.length_cons] at h
  obtain ⟨⟨⟨⟨h1, h2⟩, h3⟩, h4⟩, h5, h6⟩ := h
  exact ⟨⟨by omega, h2⟩, h3, h4, by omega⟩
theorem stopC_ok {l : List Stp} (h : vStops l = true) (t : Int) : vCol (stopC l t) = true := by
  cases l with
  | nil => exact vCol_0
  | cons a r =>
    obtain ⟨_, h2, h3, _⟩ := vStops_cons h
    unfold stopC
    dsimp only
    split
    · exact h2
    · exact stopR_ok t r a h3 h2 (by omega)
def alongP (f t p : Pt) : Int := if f = t then 0 else max 0 (min 256 (rnd (256 * ((p.x - f.x) * (t.x - f.x) + (p.y - f.y) * (t.y - f.y))) ((t.x - f.x) * (t.x - f.x) + (t.y - f.y) * (t.y - f.y))))
theorem alongP_bd (f t p : Pt) : 0 ≤ alongP f t p ∧ alongP f t p ≤ 256 := by
  unfold alongP
  split <;> omega
theorem sq_nn (x : Int) : 0 ≤ x * x := by
  rcases Int.le_total 0 x with h | h
  · exact Int.mul_nonneg h h
  · exact Int.mul_nonneg_of_nonpos_of_nonpos h h
theorem sq_pos {x : Int} (h : x ≠ 0) : 0 < x * x := by
  have h1 := sq_nn x
  have h2 : x * x ≠ 0 := fun e => by rcases Int.mul_eq_zero.1 e with e | e <;> exact h e
  omega
theorem dist0 {f t : Pt} : (t.x - f.x) * (t.x - f.x) + (t.y - f.y) * (t.y - f.y) = 0 ↔ f = t := by
  constructor
  · intro h
    have h1 := sq_nn (t.x - f.x)
    have h2 := sq_nn (t.y - f.y)
    have e1 : t.x - f.x = 0 := Classical.byContradiction fun hx => by have := sq_pos hx; omega
    have e2 : t.y - f.y = 0 := Classical.byContradiction fun hx => by have := sq_pos hx; omega
    obtain ⟨fx, fy⟩ := f
    obtain ⟨tx, ty⟩ := t
    dsimp only at e1 e2
    rw [Pt.mk.injEq]; omega
  · rintro rfl; simp
theorem dist_pos {f t : Pt} (h : f ≠ t) : 1 ≤ (t.x - f.x) * (t.x - f.x) + (t.y - f.y) * (t.y - f.y) := by
  have h1 := sq_nn (t.x - f.x)
  have h2 := sq_nn (t.y - f.y)
  have h3 : (t.x - f.x) * (t.x - f.x) + (t.y - f.y) * (t.y - f.y) ≠ 0 := fun e => h (dist0.1 e)
  omega
def pmid (c w : Int) : Pt := ⟨16 * c + 8, 16 * w + 8⟩
def paintP (p : Pnt) (c w : Int) : Colr := stopC p.ss (alongP p.f p.t (pmid c w))
theorem paintP_ok {p : Pnt} (h : vPnt p = true) (c w : Int) : vCol (paintP p c w) = true := by
  simp only [vPnt, Bool.and_eq_true] at h
  exact stopC_ok h.1.1 _
def pix1 (c w : Int) (out : Colr) (f : Fil) : Colr := overC (coverC (paintP f.pn c w) (cov (ringsOf f.p) f.rl c w)) out
def pixF (fs : List Fil) (c w : Int) : Colr := fs.foldl (pix1 c w) ⟨0, 0, 0, 0⟩
theorem cov16 (L : List (List Pt)) (rl c w : Int) : 0 ≤ cov L rl c w ∧ cov L rl c w ≤ 16 := by
  have h := cov_bd L rl c w 4
  have e : cov L rl c w = sumN (fun a => sumN (fun b => ins1 L rl (smp c a) (smp w b)) 4) 4 := rfl
  omega
theorem vFil_paint {f : Fil} (h : vFil f = true) : vPath f.p = true ∧ vRings (ringsOf f.p) = true ∧ isRl f.rl = true ∧ vPnt f.pn = true := by
  simp only [vFil, Bool.and_eq_true] at h
  exact ⟨h.1.1.1, h.1.1.2, h.1.2, h.2⟩
theorem pix1_ok {f : Fil} {o : Colr} {c w : Int} (hf : vFil f = true) (ho : vCol o = true) : vCol (pix1 c w o f) = true :=
  overC_ok (coverC_ok (paintP_ok (vFil_paint hf).2.2.2 c w) (cov16 _ _ _ _)) ho
theorem pixF_snoc (fs : List Fil) (f : Fil) (c w : Int) : pixF (fs ++ [f]) c w = pix1 c w (pixF fs c w) f := by simp [pixF]
theorem fold_ok {c w : Int} : ∀ (fs : List Fil) (o : Colr), fs.all vFil = true → vCol o = true → vCol (fs.foldl (pix1 c w) o) = true
  | [], _, _, h => h
  | f :: r, o, h, ho => by
    simp only [List.all_cons, Bool.and_eq_true] at h
    exact fold_ok r _ h.2 (pix1_ok h.1 ho)
theorem pixF_ok {fs : List Fil} {c w : Int} (h : fs.all vFil = true) : vCol (pixF fs c w) = true := fold_ok fs _ h vCol_0
theorem pix_step {fs : List Fil} {i : Int} {f : Fil} {c w : Int} (hf : fs[i.toNat]? = some f) (h0 : 0 ≤ i) : pixF (fs.take (i + 1).toNat) c w = pix1 c w (pixF (fs.take i.toNat) c w) f := by rw [takeN hf h0, pixF_snoc]
theorem all_take2 {fs : List Fil} (h : fs.all vFil = true) (n : Nat) : (fs.take n).all vFil = true := by
  rw [List.all_eq_true] at *
  exact fun f hf => h f (List.mem_of_mem_take hf)
theorem vScn_parts {s : Scn} (h : vScn s = true) : szd s.w s.h = true ∧ s.fs.length ≤ 4 ∧ s.fs.all vFil = true := by
  simp only [vScn, Bool.and_eq_true, decide_eq_true_eq] at h
  exact ⟨h.1.1, h.1.2, h.2⟩
theorem rnd_bd {a b m : Int} (h0 : 0 ≤ a) (h1 : a ≤ m * b) (hb : 0 < b) : 0 ≤ rnd a b ∧ rnd a b ≤ m := by
  refine ⟨rnd_nn h0 hb, ?_⟩
  have := rnd_mono h1 hb
  rwa [rnd_mul hb] at this
theorem prod255 {x t n : Int} (hx : 0 ≤ x ∧ x ≤ 255) (ht : 0 ≤ t ∧ t ≤ n) : 0 ≤ x * t ∧ x * t ≤ 255 * n := ⟨Int.mul_nonneg hx.1 ht.1, Int.mul_le_mul hx.2 ht.2 ht.1 (by omega)⟩
structure okCo (c : Colr) : Prop where
  r : 0 ≤ c.r ∧ c.r ≤ 255
  g : 0 ≤ c.g ∧ c.g ≤ 255
  b : 0 ≤ c.b ∧ c.b ≤ 255
  a : 0 ≤ c.a ∧ c.a ≤ 255
theorem vCol_co {c : Colr} (h : vCol c = true) : okCo c := by
  rw [vCol_iff] at h
  exact ⟨by omega, by omega, by omega, by omega⟩
def overG (a b c : Colr) : Colr := ⟨a.r + rnd (b.r * (255 - c.a)) 255, a.g + rnd (b.g * (255 - c.a)) 255, a.b + rnd (b.b * (255 - c.a)) 255, a.a + rnd (b.a * (255 - c.a)) 255⟩
def okCv (c : Colr) (n : Int) : Bool := vCol c && decide (0 ≤ n ∧ n ≤ 16)
def okOv (a b : Colr) : Bool := vCol a && vCol b
def okMx (a b : Colr) (t : Int) : Bool := vCol a && vCol b && decide (0 ≤ t ∧ t ≤ 256)
def spC1_A : Int × Int × Int → List AV
  | (x, y, t) => [I x, I y, .c (.rp ([C.v (.int .i64 t)]))]
def spC1_pre : Int × Int × Int → Prop
  | (x, y, t) => (0 ≤ x ∧ x ≤ 255) ∧ 0 ≤ t ∧ t ≤ 16
def spC1_post : Int × Int × Int → AV → List Box → Prop
  | (x, y, t), r, bs => r = I (rnd (x * t) 16) ∧ bs = []
def spC1 : VE.Spec := famSpec spC1_A d_i_i_qi spC1_pre spC1_post 0 true
theorem spC1_q : SpQ spC1 true [] false 0 (fun a i => i = [] ∧ famPre d_i_i_qi spC1_A spC1_pre a) (fun a i r b => famPost d_i_i_qi spC1_post a r b) := ⟨rfl, rfl, rfl, rfl, fun _ _ => rfl, fun _ _ _ _ => rfl⟩
def tb124 : Nat → Option VE.Spec := tabOf [(123, wkIn spRnd)]
theorem tb124_123 : tb124 123 = some (wkIn spRnd) := rfl
theorem tb124_ok : TabOK Tryz.prog rt0 tb124 := (tabOf_cons (by kernel_rfl) sat_impl_round tabOf_nil)
set_option maxHeartbeats 4000000 in
theorem sat_impl_CoverColor_1_0 : Sat Tryz.prog rt0 124 (wkOut spC1) := by
  refine fn_sat hm ttok (tab := tb124) tb124_ok Tryz.func124 (c := Tryz.f124.body.getD .skip) (by kernel_rfl) (ts := [.tmp 5]) (by kernel_rfl) Tryz.ntmps124 (sq := fun _ => true) (by kernel_rfl) ?_
  intro args ins pk hpre0 hpk
  obtain ⟨rfl, hpre0⟩ := hpre0
  obtain ⟨⟨x, y, t⟩, rfl, hpre, hdec⟩ := famPre_ex hpre0
  clear hpre0 hdec
  try simp only [spC1_pre] at hpre
  replace hpk : pk + 0 ≤ pickLimit := hpk
  refine ⟨nle rfl, ?_⟩
  have m1 := prod255 hpre.1 hpre.2
  simp (maxSteps := 1000000) only [go_sem, Tryz.f124, tb124_123, spC1_q, spC1_A, spC1_pre, spC1_post, spRnd_q, spRnd_A, spRnd_pre, spRnd_post]
  repeat' first | apply And.intro | intro _ | omega | assumption | with_reducible rfl
  all_goals (first | (rfl; done))
theorem sat_impl_CoverColor_1 : Sat Tryz.prog rt0 124 (wkIn spC1) := sat_in (sat_out sat_impl_CoverColor_1_0)
def spO1_A : Int × Int × Colr → List AV
  | (x, y, c) => [I x, I y, .c (.rp (coC c))]
def spO1_pre : Int × Int × Colr → Prop
  | (x, y, c) => (0 ≤ x ∧ x ≤ 255) ∧ (0 ≤ y ∧ y ≤ 255) ∧ 0 ≤ c.a ∧ c.a ≤ 255
def spO1_post : Int × Int × Colr → AV → List Box → Prop
  | (x, y, c), r, bs => r = I (x + rnd (y * (255 - c.a)) 255) ∧ bs = []
def spO1 : VE.Spec := famSpec spO1_A d_i_i_qco spO1_pre spO1_post 0 true
theorem spO1_q : SpQ spO1 true [] false 0 (fun a i => i = [] ∧ famPre d_i_i_qco spO1_A spO1_pre a) (fun a i r b => famPost d_i_i_qco spO1_post a r b) := ⟨rfl, rfl, rfl, rfl, fun _ _ => rfl, fun _ _ _ _ => rfl⟩
def tb122 : Nat → Option VE.Spec := tabOf [(123, wkIn spRnd)]
theorem tb122_123 : tb122 123 = some (wkIn spRnd) := rfl
theorem tb122_ok : TabOK Tryz.prog rt0 tb122 := (tabOf_cons (by kernel_rfl) sat_impl_round tabOf_nil)
set_option maxHeartbeats 4000000 in
theorem sat_impl_OverColor_1_0 : Sat Tryz.prog rt0 122 (wkOut spO1) := by
  refine fn_sat hm ttok (tab := tb122) tb122_ok Tryz.func122 (c := Tryz.f122.body.getD .skip) (by kernel_rfl) (ts := [.tmp 5]) (by kernel_rfl) Tryz.ntmps122 (sq := fun _ => true) (by kernel_rfl) ?_
  intro args ins pk hpre0 hpk
  obtain ⟨rfl, hpre0⟩ := hpre0
  obtain ⟨⟨x, y, c⟩, rfl, hpre, hdec⟩ := famPre_ex hpre0
  clear hpre0 hdec
  try simp only [spO1_pre] at hpre
  replace hpk : pk + 0 ≤ pickLimit := hpk
  refine ⟨nle rfl, ?_⟩
  have m1 := prod255 (t := 255 - c.a) (n := 255) hpre.2.1 (by omega)
  have m2 := rnd_bd (b := 255) (m := 255) m1.1 m1.2 (by decide)
  simp (maxSteps := 1000000) only [go_sem, Tryz.f122, tb122_123, spO1_q, spO1_A, spO1_pre, spO1_post, spRnd_q, spRnd_A, spRnd_pre, spRnd_post]
  repeat' first | apply And.intro | intro _ | omega | assumption | with_reducible rfl
  all_goals (first | (rfl; done))
theorem sat_impl_OverColor_1 : Sat Tryz.prog rt0 122 (wkIn spO1) := sat_in (sat_out sat_impl_OverColor_1_0)
def spM1_A : Int × Int × Int → List AV
  | (x, y, t) => [I x, I y, .c (.rp ([C.v (.int .i64 t)]))]
def spM1_pre : Int × Int × Int → Prop
  | (x, y, t) => (0 ≤ x ∧ x ≤ 255) ∧ (0 ≤ y ∧ y ≤ 255) ∧ 0 ≤ t ∧ t ≤ 256
def spM1_post : Int × Int × Int → AV → List Box → Prop
  | (x, y, t), r, bs => r = I (rnd (x * (256 - t) + y * t) 256) ∧ bs = []
def spM1 : VE.Spec := famSpec spM1_A d_i_i_qi spM1_pre spM1_post 0 true
theorem spM1_q : SpQ spM1 true [] false 0 (fun a i => i = [] ∧ famPre d_i_i_qi spM1_A spM1_pre a) (fun a i r b => famPost d_i_i_qi spM1_post a r b) := ⟨rfl, rfl, rfl, rfl, fun _ _ => rfl, fun _ _ _ _ => rfl⟩
def tb170 : Nat → Option VE.Spec := tabOf [(123, wkIn spRnd)]
theorem tb170_123 : tb170 123 = some (wkIn spRnd) := rfl
theorem tb170_ok : TabOK Tryz.prog rt0 tb170 := (tabOf_cons (by kernel_rfl) sat_impl_round tabOf_nil)
set_option maxHeartbeats 4000000 in
theorem sat_impl_MixColor_1_0 : Sat Tryz.prog rt0 170 (wkOut spM1) := by
  refine fn_sat hm ttok (tab := tb170) tb170_ok Tryz.func170 (c := Tryz.f170.body.getD .skip) (by kernel_rfl) (ts := [.tmp 5]) (by kernel_rfl) Tryz.ntmps170 (sq := fun _ => true) (by kernel_rfl) ?_
  intro args ins pk hpre0 hpk
  obtain ⟨rfl, hpre0⟩ := hpre0
  obtain ⟨⟨x, y, t⟩, rfl, hpre, hdec⟩ := famPre_ex hpre0
  clear hpre0 hdec
  try simp only [spM1_pre] at hpre
  replace hpk : pk + 0 ≤ pickLimit := hpk
  refine ⟨nle rfl, ?_⟩
  have m1 := prod255 (t := 256 - t) (n := 256) hpre.1 (by omega)
  have m2 := prod255 hpre.2.1 hpre.2.2
  simp (maxSteps := 1000000) only [go_sem, Tryz.f170, tb170_123, spM1_q, spM1_A, spM1_pre, spM1_post, spRnd_q, spRnd_A, spRnd_pre, spRnd_post]
  repeat' first | apply And.intro | intro _ | omega | assumption | with_reducible rfl
  all_goals (first | (rfl; done))
theorem sat_impl_MixColor_1 : Sat Tryz.prog rt0 170 (wkIn spM1) := sat_in (sat_out sat_impl_MixColor_1_0)
section
def spEC_A : Colr × Colr × Int → List AV
  | (a, b, t) => [.agg (coC a), .agg (coC b), .c (.fn 124 [.rp ([C.v (.int .i64 t)])])]
def spEC_pre : Colr × Colr × Int → Prop
  | (a, b, t) => okCo a ∧ okCo b ∧ 0 ≤ t ∧ t ≤ 16
def spEC_post : Colr × Colr × Int → AV → List Box → Prop
  | (a, b, t), r, bs => r = .agg (coC (coverC a t)) ∧ bs = []
def spEC : VE.Spec := famSpec spEC_A d_co_co_f124qi spEC_pre spEC_post 0 true
theorem spEC_q : SpQ spEC true [] false 0 (fun a i => i = [] ∧ famPre d_co_co_f124qi spEC_A spEC_pre a) (fun a i r b => famPost d_co_co_f124qi spEC_post a r b) := ⟨rfl, rfl, rfl, rfl, fun _ _ => rfl, fun _ _ _ _ => rfl⟩
def tbC121 : Nat → Option VE.Spec := tabOf [(124, wkIn spC1)]
theorem tbC121_124 : tbC121 124 = some (wkIn spC1) := rfl
theorem tbC121_ok : TabOK Tryz.prog rt0 tbC121 := (tabOf_cons (by kernel_rfl) sat_impl_CoverColor_1 tabOf_nil)
section
attribute [local go_sem] Tryz.f121 tbC121_124 spEC_q spEC_A spEC_pre spEC_post spC1_q spC1_A spC1_pre spC1_post
set_option maxHeartbeats 4000000 in
theorem sat_eachC_0 : Sat Tryz.prog rt0 121 (wkOut spEC) := by
  refine fn_sat hm ttok (tab := tbC121) tbC121_ok Tryz.func121 (c := Tryz.f121.body.getD .skip) (by kernel_rfl) (ts := [.cell 6 66]) (by kernel_rfl) Tryz.ntmps121 (sq := fun id => !(id == 1)) (by kernel_rfl) ?_
  intro args ins pk hpre0 hpk
  obtain ⟨rfl, hpre0⟩ := hpre0
  obtain ⟨⟨a, b, t⟩, rfl, hpre, hdec⟩ := famPre_ex hpre0
  clear hpre0 hdec
  try simp only [spEC_pre] at hpre
  replace hpk : pk + 0 ≤ pickLimit := hpk
  refine ⟨nle rfl, ?_⟩
  obtain ⟨ha, hb, ht⟩ := hpre
  obtain ⟨ha1, ha2, ha3, ha4⟩ := ha
  obtain ⟨hb1, hb2, hb3, hb4⟩ := hb
  simp (maxSteps := 1000000) only [go_sem]
  repeat' first | apply And.intro | intro _ | omega | assumption | with_reducible rfl
  all_goals try (refine drawI (pF 0 (pF 1 (pF 2 (pF 3 (pF 4 (pF 6 (pF 7 (pF 8 (pF 9 (pF 10 (pF 12 (pF 13 (pF 14 (pF 15 (pF 16 (pF 18 (pF 19 (pF 20 (pF 21 (pF 22 (pA 5 (pA 11 (pA 17 (pA 23 (pF 24 (pA 25 pN pN)) pN) pN) pN) pN))))))))))))))))))))) (by decide +kernel) ?_; simp (maxSteps := 1000000) only [go_sem, planW, stepW, Go.VE.stepT, Go.VE.clearO]; repeat' first | apply And.intro | intro _ | omega | assumption | with_reducible rfl)
  all_goals (first | (rfl; done))
end
theorem sat_eachC : Sat Tryz.prog rt0 121 (wkIn spEC) := sat_in (sat_out sat_eachC_0)
def spEO_A : Colr × Colr × Colr → List AV
  | (a, b, c) => [.agg (coC a), .agg (coC b), .c (.fn 122 [.rp (coC c)])]
def spEO_pre : Colr × Colr × Colr → Prop
  | (a, b, c) => okCo a ∧ okCo b ∧ 0 ≤ c.a ∧ c.a ≤ 255
def spEO_post : Colr × Colr × Colr → AV → List Box → Prop
  | (a, b, c), r, bs => r = .agg (coC (overG a b c)) ∧ bs = []
def spEO : VE.Spec := famSpec spEO_A d_co_co_f122qco spEO_pre spEO_post 0 true
theorem spEO_q : SpQ spEO true [] false 0 (fun a i => i = [] ∧ famPre d_co_co_f122qco spEO_A spEO_pre a) (fun a i r b => famPost d_co_co_f122qco spEO_post a r b) := ⟨rfl, rfl, rfl, rfl, fun _ _ => rfl, fun _ _ _ _ => rfl⟩
def tbO121 : Nat → Option VE.Spec := tabOf [(122, wkIn spO1)]
theorem tbO121_122 : tbO121 122 = some (wkIn spO1) := rfl
theorem tbO121_ok : TabOK Tryz.prog rt0 tbO121 := (tabOf_cons (by kernel_rfl) sat_impl_OverColor_1 tabOf_nil)
section
attribute [local go_sem] Tryz.f121 tbO121_122 spEO_q spEO_A spEO_pre spEO_post spO1_q spO1_A spO1_pre spO1_post
set_option maxHeartbeats 4000000 in
theorem sat_eachO_0 : Sat Tryz.prog rt0 121 (wkOut spEO) := by
  refine fn_sat hm ttok (tab := tbO121) tbO121_ok Tryz.func121 (c := Tryz.f121.body.getD .skip) (by kernel_rfl) (ts := [.cell 6 66]) (by kernel_rfl) Tryz.ntmps121 (sq := fun id => !(id == 1)) (by kernel_rfl) ?_
  intro args ins pk hpre0 hpk
  obtain ⟨rfl, hpre0⟩ := hpre0
  obtain ⟨⟨a, b, c⟩, rfl, hpre, hdec⟩ := famPre_ex hpre0
  clear hpre0 hdec
  try simp only [spEO_pre] at hpre
  replace hpk : pk + 0 ≤ pickLimit := hpk
  refine ⟨nle rfl, ?_⟩
  obtain ⟨ha, hb, ht⟩ := hpre
  obtain ⟨ha1, ha2, ha3, ha4⟩ := ha
  obtain ⟨hb1, hb2, hb3, hb4⟩ := hb
  simp (maxSteps := 1000000) only [go_sem]
  repeat' first | apply And.intro | intro _ | omega | assumption | with_reducible rfl
  all_goals try (refine drawI (pF 0 (pF 1 (pF 2 (pF 3 (pF 4 (pF 6 (pF 7 (pF 8 (pF 9 (pF 10 (pF 12 (pF 13 (pF 14 (pF 15 (pF 16 (pF 18 (pF 19 (pF 20 (pF 21 (pF 22 (pA 5 (pA 11 (pA 17 (pA 23 (pF 24 (pA 25 pN pN)) pN) pN) pN) pN))))))))))))))))))))) (by decide +kernel) ?_; simp (maxSteps := 1000000) only [go_sem, planW, stepW, Go.VE.stepT, Go.VE.clearO]; repeat' first | apply And.intro | intro _ | omega | assumption | with_reducible rfl)
  all_goals (first | (rfl; done))
end
theorem sat_eachO : Sat Tryz.prog rt0 121 (wkIn spEO) := sat_in (sat_out sat_eachO_0)
def spEM_A : Colr × Colr × Int → List AV
  | (a, b, t) => [.agg (coC a), .agg (coC b), .c (.fn 170 [.rp ([C.v (.int .i64 t)])])]
def spEM_pre : Colr × Colr × Int → Prop
  | (a, b, t) => okCo a ∧ okCo b ∧ 0 ≤ t ∧ t ≤ 256
def spEM_post : Colr × Colr × Int → AV → List Box → Prop
  | (a, b, t), r, bs => r = .agg (coC (mixC a b t)) ∧ bs = []
def spEM : VE.Spec := famSpec spEM_A d_co_co_f170qi spEM_pre spEM_post 0 true
theorem spEM_q : SpQ spEM true [] false 0 (fun a i => i = [] ∧ famPre d_co_co_f170qi spEM_A spEM_pre a) (fun a i r b => famPost d_co_co_f170qi spEM_post a r b) := ⟨rfl, rfl, rfl, rfl, fun _ _ => rfl, fun _ _ _ _ => rfl⟩
def tbM121 : Nat → Option VE.Spec := tabOf [(170, wkIn spM1)]
theorem tbM121_170 : tbM121 170 = some (wkIn spM1) := rfl
theorem tbM121_ok : TabOK Tryz.prog rt0 tbM121 := (tabOf_cons (by kernel_rfl) sat_impl_MixColor_1 tabOf_nil)
section
attribute [local go_sem] Tryz.f121 tbM121_170 spEM_q spEM_A spEM_pre spEM_post spM1_q spM1_A spM1_pre spM1_post
set_option maxHeartbeats 4000000 in
theorem sat_eachM_0 : Sat Tryz.prog rt0 121 (wkOut spEM) := by
  refine fn_sat hm ttok (tab := tbM121) tbM121_ok Tryz.func121 (c := Tryz.f121.body.getD .skip) (by kernel_rfl) (ts := [.cell 6 66]) (by kernel_rfl) Tryz.ntmps121 (sq := fun id => !(id == 1)) (by kernel_rfl) ?_
  intro args ins pk hpre0 hpk
  obtain ⟨rfl, hpre0⟩ := hpre0
  obtain ⟨⟨a, b, t⟩, rfl, hpre, hdec⟩ := famPre_ex hpre0
  clear hpre0 hdec
  try simp only [spEM_pre] at hpre
  replace hpk : pk + 0 ≤ pickLimit := hpk
  refine ⟨nle rfl, ?_⟩
  obtain ⟨ha, hb, ht⟩ := hpre
  obtain ⟨ha1, ha2, ha3, ha4⟩ := ha
  obtain ⟨hb1, hb2, hb3, hb4⟩ := hb
  simp (maxSteps := 1000000) only [go_sem]
  repeat' first | apply And.intro | intro _ | omega | assumption | with_reducible rfl
  all_goals try (refine drawI (pF 0 (pF 1 (pF 2 (pF 3 (pF 4 (pF 6 (pF 7 (pF 8 (pF 9 (pF 10 (pF 12 (pF 13 (pF 14 (pF 15 (pF 16 (pF 18 (pF 19 (pF 20 (pF 21 (pF 22 (pA 5 (pA 11 (pA 17 (pA 23 (pF 24 (pA 25 pN pN)) pN) pN) pN) pN))))))))))))))))))))) (by decide +kernel) ?_; simp (maxSteps := 1000000) only [go_sem, planW, stepW, Go.VE.stepT, Go.VE.clearO]; repeat' first | apply And.intro | intro _ | omega | assumption | with_reducible rfl)
  all_goals (first | (rfl; done))
end
theorem sat_eachM : Sat Tryz.prog rt0 121 (wkIn spEM) := sat_in (sat_out sat_eachM_0)
end
def spCovC_A : Colr × Int → List AV
  | (c, n) => [.agg (coC c), I n]
def spCovC_pre : Colr × Int → Prop
  | (c, n) => True
def spCovC_post : Colr × Int → AV → List Box → Prop
  | (c, n), r, bs => r = .agg (coC (if okCv c n = true then coverC c n else ⟨0, 0, 0, 0⟩)) ∧ bs = []
def spCovC : VE.Spec := famSpec spCovC_A d_co_i spCovC_pre spCovC_post 0 true
theorem spCovC_q : SpQ spCovC true [] false 0 (fun a i => i = [] ∧ famPre d_co_i spCovC_A spCovC_pre a) (fun a i r b => famPost d_co_i spCovC_post a r b) := ⟨rfl, rfl, rfl, rfl, fun _ _ => rfl, fun _ _ _ _ => rfl⟩
def tb82 : Nat → Option VE.Spec := tabOf [(120, wkIn spVCol), (48, wkIn spIn), (121, wkIn spEC)]
theorem tb82_120 : tb82 120 = some (wkIn spVCol) := rfl
theorem tb82_48 : tb82 48 = some (wkIn spIn) := rfl
theorem tb82_121 : tb82 121 = some (wkIn spEC) := rfl
theorem tb82_ok : TabOK Tryz.prog rt0 tb82 := (tabOf_cons (by kernel_rfl) sat_impl_ValidColor (tabOf_cons (by kernel_rfl) sat_impl_in (tabOf_cons (by kernel_rfl) sat_eachC tabOf_nil)))
set_option maxHeartbeats 4000000 in
theorem sat_impl_CoverColor_0 : Sat Tryz.prog rt0 82 (wkOut spCovC) := by
  refine fn_sat hm ttok (tab := tb82) tb82_ok Tryz.func82 (c := Tryz.f82.body.getD .skip) (by kernel_rfl) (ts := [.cell 4 66]) (by kernel_rfl) Tryz.ntmps82 (sq := fun _ => true) (by kernel_rfl) ?_
  intro args ins pk hpre0 hpk
  obtain ⟨rfl, hpre0⟩ := hpre0
  obtain ⟨⟨c, n⟩, rfl, hpre, hdec⟩ := famPre_ex hpre0
  clear hpre0 hdec
  try simp only [spCovC_pre] at hpre
  replace hpk : pk + 0 ≤ pickLimit := hpk
  refine ⟨nle rfl, ?_⟩
  simp (maxSteps := 1000000) only [go_sem, Tryz.f82, tb82_120, tb82_48, tb82_121, spCovC_q, spCovC_A, spCovC_pre, spCovC_post, spVCol_q, spVCol_A, spVCol_pre, spVCol_post, spIn_q, spIn_A, spIn_pre, spIn_post, spEC_q, spEC_A, spEC_pre, spEC_post]
  repeat' first | apply And.intro | intro _ | omega | assumption | with_reducible rfl
  all_goals (first | (exact vCol_co ‹_›) | (exact (vCol_co ‹_›).a.1) | (exact (vCol_co ‹_›).a.2) | ((have h9 : okCv c n = true := (by simp [okCv, *]); rw [h9]; rfl); done) | ((have h9 : okOv a b = true := (by simp [okOv, *]); rw [h9]; rfl); done) | ((have h9 : okMx a b t = true := (by simp [okMx, *]); rw [h9]; rfl); done) | ((have h9 : okCv c n = false := (by simp [okCv, *]); rw [h9]; rfl); done) | ((have h9 : okCv c n = false := (by grind [okCv]); rw [h9]; rfl); done) | ((have h9 : okOv a b = false := (by simp [okOv, *]); rw [h9]; rfl); done) | ((have h9 : okMx a b t = false := (by simp [okMx, *]); rw [h9]; rfl); done) | ((have h9 : okMx a b t = false := (by grind [okMx]); rw [h9]; rfl); done) | (grind [okCv, okOv, okMx]; done))
theorem sat_impl_CoverColor : Sat Tryz.prog rt0 82 (wkIn spCovC) := sat_in (sat_out sat_impl_CoverColor_0)
def spOvC_A : Colr × Colr → List AV
  | (a, b) => [.agg (coC a), .agg (coC b)]
def spOvC_pre : Colr × Colr → Prop
  | (a, b) => True
def spOvC_post : Colr × Colr → AV → List Box → Prop
  | (a, b), r, bs => r = .agg (coC (if okOv a b = true then overC a b else ⟨0, 0, 0, 0⟩)) ∧ bs = []
def spOvC : VE.Spec := famSpec spOvC_A d_co_co spOvC_pre spOvC_post 0 true
theorem spOvC_q : SpQ spOvC true [] false 0 (fun a i => i = [] ∧ famPre d_co_co spOvC_A spOvC_pre a) (fun a i r b => famPost d_co_co spOvC_post a r b) := ⟨rfl, rfl, rfl, rfl, fun _ _ => rfl, fun _ _ _ _ => rfl⟩
def tb81 : Nat → Option VE.Spec := tabOf [(120, wkIn spVCol), (121, wkIn spEO)]
theorem tb81_120 : tb81 120 = some (wkIn spVCol) := rfl
theorem tb81_121 : tb81 121 = some (wkIn spEO) := rfl
theorem tb81_ok : TabOK Tryz.prog rt0 tb81 := (tabOf_cons (by kernel_rfl) sat_impl_ValidColor (tabOf_cons (by kernel_rfl) sat_eachO tabOf_nil))
set_option maxHeartbeats 4000000 in
theorem sat_impl_OverColor_0 : Sat Tryz.prog rt0 81 (wkOut spOvC) := by
  refine fn_sat hm ttok (tab := tb81) tb81_ok Tryz.func81 (c := Tryz.f81.body.getD .skip) (by kernel_rfl) (ts := [.cell 4 66]) (by kernel_rfl) Tryz.ntmps81 (sq := fun _ => true) (by kernel_rfl) ?_
  intro args ins pk hpre0 hpk
  obtain ⟨rfl, hpre0⟩ := hpre0
  obtain ⟨⟨a, b⟩, rfl, hpre, hdec⟩ := famPre_ex hpre0
  clear hpre0 hdec
  try simp only [spOvC_pre] at hpre
  replace hpk : pk + 0 ≤ pickLimit := hpk
  refine ⟨nle rfl, ?_⟩
  simp (maxSteps := 1000000) only [go_sem, Tryz.f81, tb81_120, tb81_121, spOvC_q, spOvC_A, spOvC_pre, spOvC_post, spVCol_q, spVCol_A, spVCol_pre, spVCol_post, spEO_q, spEO_A, spEO_pre, spEO_post]
  repeat' first | apply And.intro | intro _ | omega | assumption | with_reducible rfl
  all_goals (first | (exact vCol_co ‹_›) | (exact (vCol_co ‹_›).a.1) | (exact (vCol_co ‹_›).a.2) | ((have h9 : okCv c n = true := (by simp [okCv, *]); rw [h9]; rfl); done) | ((have h9 : okOv a b = true := (by simp [okOv, *]); rw [h9]; rfl); done) | ((have h9 : okMx a b t = true := (by simp [okMx, *]); rw [h9]; rfl); done) | ((have h9 : okCv c n = false := (by simp [okCv, *]); rw [h9]; rfl); done) | ((have h9 : okCv c n = false := (by grind [okCv]); rw [h9]; rfl); done) | ((have h9 : okOv a b = false := (by simp [okOv, *]); rw [h9]; rfl); done) | ((have h9 : okMx a b t = false := (by simp [okMx, *]); rw [h9]; rfl); done) | ((have h9 : okMx a b t = false := (by grind [okMx]); rw [h9]; rfl); done) | (grind [okCv, okOv, okMx]; done))
theorem sat_impl_OverColor : Sat Tryz.prog rt0 81 (wkIn spOvC) := sat_in (sat_out sat_impl_OverColor_0)
def spMxC_A : Colr × Colr × Int → List AV
  | (a, b, t) => [.agg (coC a), .agg (coC b), I t]
def spMxC_pre : Colr × Colr × Int → Prop
  | (a, b, t) => True
def spMxC_post : Colr × Colr × Int → AV → List Box → Prop
  | (a, b, t), r, bs => r = .agg (coC (if okMx a b t = true then mixC a b t else ⟨0, 0, 0, 0⟩)) ∧ bs = []
def spMxC : VE.Spec := famSpec spMxC_A d_co_co_i spMxC_pre spMxC_post 0 true
theorem spMxC_q : SpQ spMxC true [] false 0 (fun a i => i = [] ∧ famPre d_co_co_i spMxC_A spMxC_pre a) (fun a i r b => famPost d_co_co_i spMxC_post a r b) := ⟨rfl, rfl, rfl, rfl, fun _ _ => rfl, fun _ _ _ _ => rfl⟩
def tb156 : Nat → Option VE.Spec := tabOf [(120, wkIn spVCol), (48, wkIn spIn), (121, wkIn spEM)]
theorem tb156_120 : tb156 120 = some (wkIn spVCol) := rfl
theorem tb156_48 : tb156 48 = some (wkIn spIn) := rfl
theorem tb156_121 : tb156 121 = some (wkIn spEM) := rfl
theorem tb156_ok : TabOK Tryz.prog rt0 tb156 := (tabOf_cons (by kernel_rfl) sat_impl_ValidColor (tabOf_cons (by kernel_rfl) sat_impl_in (tabOf_cons (by kernel_rfl) sat_eachM tabOf_nil)))
set_option maxHeartbeats 4000000 in
theorem sat_impl_MixColor_0 : Sat Tryz.prog rt0 156 (wkOut spMxC) := by
  refine fn_sat hm ttok (tab := tb156) tb156_ok Tryz.func156 (c := Tryz.f156.body.getD .skip) (by kernel_rfl) (ts := [.cell 6 66]) (by kernel_rfl) Tryz.ntmps156 (sq := fun _ => true) (by kernel_rfl) ?_
  intro args ins pk hpre0 hpk
  obtain ⟨rfl, hpre0⟩ := hpre0
  obtain ⟨⟨a, b, t⟩, rfl, hpre, hdec⟩ := famPre_ex hpre0
  clear hpre0 hdec
  try simp only [spMxC_pre] at hpre
  replace hpk : pk + 0 ≤ pickLimit := hpk
  refine ⟨nle rfl, ?_⟩
  simp (maxSteps := 1000000) only [go_sem, Tryz.f156, tb156_120, tb156_48, tb156_121, spMxC_q, spMxC_A, spMxC_pre, spMxC_post, spVCol_q, spVCol_A, spVCol_pre, spVCol_post, spIn_q, spIn_A, spIn_pre, spIn_post, spEM_q, spEM_A, spEM_pre, spEM_post]
  repeat' first | apply And.intro | intro _ | omega | assumption | with_reducible rfl
  all_goals (first | (exact vCol_co ‹_›) | (exact (vCol_co ‹_›).a.1) | (exact (vCol_co ‹_›).a.2) | ((have h9 : okCv c n = true := (by simp [okCv, *]); rw [h9]; rfl); done) | ((have h9 : okOv a b = true := (by simp [okOv, *]); rw [h9]; rfl); done) | ((have h9 : okMx a b t = true := (by simp [okMx, *]); rw [h9]; rfl); done) | ((have h9 : okCv c n = false := (by simp [okCv, *]); rw [h9]; rfl); done) | ((have h9 : okCv c n = false := (by grind [okCv]); rw [h9]; rfl); done) | ((have h9 : okOv a b = false := (by simp [okOv, *]); rw [h9]; rfl); done) | ((have h9 : okMx a b t = false := (by simp [okMx, *]); rw [h9]; rfl); done) | ((have h9 : okMx a b t = false := (by grind [okMx]); rw [h9]; rfl); done) | (grind [okCv, okOv, okMx]; done))
theorem sat_impl_MixColor : Sat Tryz.prog rt0 156 (wkIn spMxC) := sat_in (sat_out sat_impl_MixColor_0)
section
def scaleC (c : Colr) (p w : Int) : Colr := ⟨rnd (c.r * p) w, rnd (c.g * p) w, rnd (c.b * p) w, rnd (c.a * p) w⟩
def spScal_A : Colr × Int × Int → List AV
  | (c, p, w) => [.agg (coC c), I p, I w]
def spScal_pre : Colr × Int × Int → Prop
  | (c, p, w) => okCo c ∧ (0 ≤ p ∧ p ≤ 255) ∧ 1 ≤ w ∧ w ≤ 255
def spScal_post : Colr × Int × Int → AV → List Box → Prop
  | (c, p, w), r, bs => r = .agg (coC (scaleC c p w)) ∧ bs = []
def spScal : VE.Spec := famSpec spScal_A d_co_i_i spScal_pre spScal_post 0 true
theorem spScal_q : SpQ spScal true [] false 0 (fun a i => i = [] ∧ famPre d_co_i_i spScal_A spScal_pre a) (fun a i r b => famPost d_co_i_i spScal_post a r b) := ⟨rfl, rfl, rfl, rfl, fun _ _ => rfl, fun _ _ _ _ => rfl⟩
def tb91 : Nat → Option VE.Spec := tabOf [(136, wkIn spRnd)]
theorem tb91_136 : tb91 136 = some (wkIn spRnd) := rfl
theorem tb91_ok : TabOK Tryz.prog rt0 tb91 := (tabOf_cons (by kernel_rfl) sat_spec_nearest tabOf_nil)
section
attribute [local go_sem] Tryz.f91 tb91_136 spScal_q spScal_A spScal_pre spScal_post spRnd_q spRnd_A spRnd_pre spRnd_post
set_option maxHeartbeats 4000000 in
theorem sat_spec_scaled_0 : Sat Tryz.prog rt0 91 (wkOut spScal) := by
  refine fn_sat hm ttok (tab := tb91) tb91_ok Tryz.func91 (c := Tryz.f91.body.getD .skip) (by kernel_rfl) (ts := [.cell 6 66]) (by kernel_rfl) Tryz.ntmps91 (sq := fun id => !(id == 1)) (by kernel_rfl) ?_
  intro args ins pk hpre0 hpk
  obtain ⟨rfl, hpre0⟩ := hpre0
  obtain ⟨⟨c, p, w⟩, rfl, hpre, hdec⟩ := famPre_ex hpre0
  clear hpre0 hdec
  try simp only [spScal_pre] at hpre
  replace hpk : pk + 0 ≤ pickLimit := hpk
  refine ⟨nle rfl, ?_⟩
  obtain ⟨⟨h1, h2, h3, h4⟩, h5, h6⟩ := hpre
  have m1 := prod255 h1 h5
  have m2 := prod255 h2 h5
  have m3 := prod255 h3 h5
  have m4 := prod255 h4 h5
  simp (maxSteps := 1000000) only [go_sem]
  repeat' first | apply And.intro | intro _ | omega | assumption | with_reducible rfl
  all_goals try (refine drawI (pF 0 (pF 1 (pF 2 (pF 3 (pF 4 (pF 6 (pF 7 (pF 8 (pF 9 (pF 10 (pF 12 (pF 13 (pF 14 (pF 15 (pF 16 (pF 18 (pF 19 (pF 20 (pF 21 (pF 22 (pA 5 (pA 11 (pA 17 (pA 23 (pF 24 (pA 25 pN pN)) pN) pN) pN) pN))))))))))))))))))))) (by decide +kernel) ?_; simp (maxSteps := 1000000) only [go_sem, planW, stepW, Go.VE.stepT, Go.VE.clearO]; repeat' first | apply And.intro | intro _ | omega | assumption | with_reducible rfl)
  all_goals (first | (rfl; done))
end
theorem sat_spec_scaled : Sat Tryz.prog rt0 91 (wkIn spScal) := sat_in (sat_out sat_spec_scaled_0)
theorem scale_bd {c : Colr} {p : Int} (h : okCo c) (hp : 0 ≤ p ∧ p ≤ 255) : okCo (scaleC c p 255) := by
  obtain ⟨h1, h2, h3, h4⟩ := h
  have q : ∀ {x : Int}, 0 ≤ x ∧ x ≤ 255 → 0 ≤ rnd (x * p) 255 ∧ rnd (x * p) 255 ≤ 255 := fun hx => rnd_bd (prod255 hx hp).1 (prod255 hx hp).2 (by decide)
  exact ⟨q h1, q h2, q h3, q h4⟩
def spOvS_A : Colr × Colr → List AV
  | (a, b) => [.agg (coC a), .agg (coC b)]
def spOvS_pre : Colr × Colr → Prop
  | (a, b) => okCo a ∧ okCo b
def spOvS_post : Colr × Colr → AV → List Box → Prop
  | (a, b), r, bs => r = .agg (coC (overC a b)) ∧ bs = []
def spOvS : VE.Spec := famSpec spOvS_A d_co_co spOvS_pre spOvS_post 0 true
theorem spOvS_q : SpQ spOvS true [] false 0 (fun a i => i = [] ∧ famPre d_co_co spOvS_A spOvS_pre a) (fun a i r b => famPost d_co_co spOvS_post a r b) := ⟨rfl, rfl, rfl, rfl, fun _ _ => rfl, fun _ _ _ _ => rfl⟩
def tb90 : Nat → Option VE.Spec := tabOf [(91, wkIn spScal)]
theorem tb90_91 : tb90 91 = some (wkIn spScal) := rfl
theorem tb90_ok : TabOK Tryz.prog rt0 tb90 := (tabOf_cons (by kernel_rfl) sat_spec_scaled tabOf_nil)
set_option maxHeartbeats 4000000 in
theorem sat_spec_over_0 : Sat Tryz.prog rt0 90 (wkOut spOvS) := by
  refine fn_sat hm ttok (tab := tb90) tb90_ok Tryz.func90 (c := Tryz.f90.body.getD .skip) (by kernel_rfl) (ts := [.cell 4 66]) (by kernel_rfl) Tryz.ntmps90 (sq := fun _ => true) (by kernel_rfl) ?_
  intro args ins pk hpre0 hpk
  obtain ⟨rfl, hpre0⟩ := hpre0
  obtain ⟨⟨a, b⟩, rfl, hpre, hdec⟩ := famPre_ex hpre0
  clear hpre0 hdec
  try simp only [spOvS_pre] at hpre
  replace hpk : pk + 0 ≤ pickLimit := hpk
  refine ⟨nle rfl, ?_⟩
  have hs := scale_bd (p := 255 - a.a) hpre.2 (by have := hpre.1.a; omega)
  have hb2 := hpre.2
  obtain ⟨⟨ha1, ha2, ha3, ha4⟩, -⟩ := hpre
  obtain ⟨hs1, hs2, hs3, hs4⟩ := hs
  simp (maxSteps := 1000000) only [go_sem, Tryz.f90, tb90_91, spOvS_q, spOvS_A, spOvS_pre, spOvS_post, spScal_q, spScal_A, spScal_pre, spScal_post]
  repeat' first | apply And.intro | intro _ | omega | assumption | with_reducible rfl
  all_goals (first | (rfl; done) | (assumption; done))
theorem sat_spec_over : Sat Tryz.prog rt0 90 (wkIn spOvS) := sat_in (sat_out sat_spec_over_0)
def spMxS_A : Colr × Colr × Int → List AV
  | (a, b, t) => [.agg (coC a), .agg (coC b), I t]
def spMxS_pre : Colr × Colr × Int → Prop
  | (a, b, t) => okCo a ∧ okCo b ∧ 0 ≤ t ∧ t ≤ 256
def spMxS_post : Colr × Colr × Int → AV → List Box → Prop
  | (a, b, t), r, bs => r = .agg (coC (mixC a b t)) ∧ bs = []
def spMxS : VE.Spec := famSpec spMxS_A d_co_co_i spMxS_pre spMxS_post 0 true
theorem spMxS_q : SpQ spMxS true [] false 0 (fun a i => i = [] ∧ famPre d_co_co_i spMxS_A spMxS_pre a) (fun a i r b => famPost d_co_co_i spMxS_post a r b) := ⟨rfl, rfl, rfl, rfl, fun _ _ => rfl, fun _ _ _ _ => rfl⟩
def tb165 : Nat → Option VE.Spec := tabOf [(136, wkIn spRnd)]
theorem tb165_136 : tb165 136 = some (wkIn spRnd) := rfl
theorem tb165_ok : TabOK Tryz.prog rt0 tb165 := (tabOf_cons (by kernel_rfl) sat_spec_nearest tabOf_nil)
section
attribute [local go_sem] Tryz.f165 tb165_136 spMxS_q spMxS_A spMxS_pre spMxS_post spRnd_q spRnd_A spRnd_pre spRnd_post
set_option maxHeartbeats 4000000 in
theorem sat_spec_mix_0 : Sat Tryz.prog rt0 165 (wkOut spMxS) := by
  refine fn_sat hm ttok (tab := tb165) tb165_ok Tryz.func165 (c := Tryz.f165.body.getD .skip) (by kernel_rfl) (ts := [.cell 6 66]) (by kernel_rfl) Tryz.ntmps165 (sq := fun id => !(id == 1)) (by kernel_rfl) ?_
  intro args ins pk hpre0 hpk
  obtain ⟨rfl, hpre0⟩ := hpre0
  obtain ⟨⟨a, b, t⟩, rfl, hpre, hdec⟩ := famPre_ex hpre0
  clear hpre0 hdec
  try simp only [spMxS_pre] at hpre
  replace hpk : pk + 0 ≤ pickLimit := hpk
  refine ⟨nle rfl, ?_⟩
  obtain ⟨ha, hb, ht⟩ := hpre
  obtain ⟨ha1, ha2, ha3, ha4⟩ := ha
  obtain ⟨hb1, hb2, hb3, hb4⟩ := hb
  have mr1 := prod255 (t := 256 - t) (n := 256) ha1 (by omega)
  have mr2 := prod255 hb1 ht
  have mg1 := prod255 (t := 256 - t) (n := 256) ha2 (by omega)
  have mg2 := prod255 hb2 ht
  have mb1 := prod255 (t := 256 - t) (n := 256) ha3 (by omega)
  have mb2 := prod255 hb3 ht
  have ma1 := prod255 (t := 256 - t) (n := 256) ha4 (by omega)
  have ma2 := prod255 hb4 ht
  simp (maxSteps := 1000000) only [go_sem]
  repeat' first | apply And.intro | intro _ | omega | assumption | with_reducible rfl
  all_goals try (refine drawI (pF 0 (pF 1 (pF 2 (pF 3 (pF 4 (pF 5 (pF 6 (pF 7 (pF 8 (pF 9 (pF 11 (pF 12 (pF 13 (pF 14 (pF 15 (pF 16 (pF 17 (pF 18 (pF 19 (pF 20 (pF 22 (pF 23 (pF 24 (pF 25 (pF 26 (pF 27 (pF 28 (pF 29 (pF 30 (pF 31 (pF 33 (pF 34 (pF 35 (pF 36 (pF 37 (pF 38 (pF 39 (pF 40 (pF 41 (pF 42 (pA 10 (pA 21 (pA 32 (pA 43 (pF 44 (pA 45 pN pN)) pN) pN) pN) pN))))))))))))))))))))))))))))))))))))))))) (by decide +kernel) ?_; simp (maxSteps := 1000000) only [go_sem, planW, stepW, Go.VE.stepT, Go.VE.clearO]; repeat' first | apply And.intro | intro _ | omega | assumption | with_reducible rfl)
  all_goals (first | (rfl; done))
end
theorem sat_spec_mix : Sat Tryz.prog rt0 165 (wkIn spMxS) := sat_in (sat_out sat_spec_mix_0)
end
def stopAt (l : List Stp) (t : Int) (n : Nat) : Colr := match l.drop n with
  | [] => ⟨0, 0, 0, 0⟩
  | q :: r => stopR t q r
theorem drop_two {l : List Stp} {n : Nat} {q b : Stp} (hq : l[n]? = some q) (hb : l[n + 1]? = some b) : l.drop n = q :: b :: l.drop (n + 2) := by
  obtain ⟨h1, rfl⟩ := List.getElem?_eq_some_iff.1 hq
  obtain ⟨h2, rfl⟩ := List.getElem?_eq_some_iff.1 hb
  rw [List.drop_eq_getElem_cons h1, List.drop_eq_getElem_cons h2]
theorem vStp_drop : ∀ (l : List Stp) (n : Nat) (p : Int), vStp p l = true → ∀ q, l[n]? = some q → vStp q.w (l.drop (n + 1)) = true ∧ p + 1 ≤ q.w ∧ q.w ≤ 256 ∧ vCol q.c = true
  | [], n, p, _, q, hq => by simp at hq
  | s :: r, 0, p, h, q, hq => by
    simp only [vStp, Bool.and_eq_true, decide_eq_true_eq] at h
    simp only [List.getElem?_cons_zero, Option.some.injEq] at hq
    subst hq
    exact ⟨h.2, h.1.1.1, h.1.1.2, h.1.2⟩
  | s :: r, n + 1, p, h, q, hq => by
    simp only [vStp, Bool.and_eq_true, decide_eq_true_eq] at h
    have ih := vStp_drop r n s.w h.2 q (by simpa using hq)
    exact ⟨ih.1, by omega, ih.2.2⟩
theorem vStops_stp {l : List Stp} (h : vStops l = true) : vStp (-1) l = true ∧ 1 ≤ l.length ∧ l.length ≤ 4 := by
  simp only [vStops, Bool.and_eq_true, decide_eq_true_eq] at h
  exact h
theorem stop_at {l : List Stp} {n : Nat} {q : Stp} (h : vStops l = true) (hq : l[n]? = some q) : (0 ≤ q.w ∧ q.w ≤ 256) ∧ vCol q.c = true ∧ vStp q.w (l.drop (n + 1)) = true := by
  have := vStp_drop l n (-1) (vStops_stp h).1 q hq
  exact ⟨by omega, this.2.2.2, this.1⟩
theorem stop_pair {l : List Stp} {n : Nat} {q b : Stp} (h : vStops l = true) (hq : l[n]? = some q) (hb : l[n + 1]? = some b) : q.w + 1 ≤ b.w ∧ vStp q.w (b :: l.drop (n + 2)) = true := by
  have h1 := stop_at h hq
  have e : l.drop (n + 1) = b :: l.drop (n + 2) := by
    have := drop_two hq hb
    obtain ⟨h2, rfl⟩ := List.getElem?_eq_some_iff.1 hb
    rw [List.drop_eq_getElem_cons h2]
  rw [e] at h1
  have h2 := h1.2.2
  simp only [vStp, Bool.and_eq_true, decide_eq_true_eq] at h2
  exact ⟨h2.1.1.1, h1.2.2⟩
theorem stop_two {l : List Stp} {t : Int} {n : Nat} {q b : Stp} (hq : l[n]? = some q) (hb : l[n + 1]? = some b) : stopAt l t n = stopR t q (b :: l.drop (n + 2)) ∧ stopAt l t (n + 1) = stopR t b (l.drop (n + 2)) := by
  obtain ⟨h2, rfl⟩ := List.getElem?_eq_some_iff.1 hb
  constructor
  · rw [stopAt, drop_two hq hb]
  · rw [stopAt, List.drop_eq_getElem_cons h2]
theorem stop_lt {l : List Stp} {t : Int} {n : Nat} {q b : Stp} (hq : l[n]? = some q) (hb : l[n + 1]? = some b) (h : t < b.w) : stopAt l t n = mixC q.c b.c (256 * (t - q.w) / (b.w - q.w)) := by
  rw [(stop_two hq hb).1, stopR, if_pos h]
theorem stop_ge {l : List Stp} {t : Int} {n : Nat} {q b : Stp} (hq : l[n]? = some q) (hb : l[n + 1]? = some b) (h : ¬ t < b.w) : stopAt l t n = stopAt l t (n + 1) := by
  rw [(stop_two hq hb).1, (stop_two (t := t) hq hb).2, stopR, if_neg h]
theorem stop_le {l : List Stp} {t : Int} {n : Nat} {q b : Stp} (hv : vStops l = true) (hq : l[n]? = some q) (hb : l[n + 1]? = some b) (h0 : q.w ≤ t) (h : t ≤ b.w) : stopAt l t n = mixC q.c b.c (256 * (t - q.w) / (b.w - q.w)) := by
  rw [(stop_two hq hb).1, stopRS t _ q (stop_pair hv hq hb).2 h0, stopS, if_pos h]
theorem stop_last {l : List Stp} {t : Int} {n : Nat} {q : Stp} (hq : l[n]? = some q) (h : l.length ≤ n + 1) : stopAt l t n = q.c := by
  obtain ⟨h1, rfl⟩ := List.getElem?_eq_some_iff.1 hq
  rw [stopAt, List.drop_eq_getElem_cons h1, List.drop_eq_nil_of_le h]; rfl
theorem stop_first {l : List Stp} {t : Int} {a : Stp} (ha : l[0]? = some a) : stopC l t = if t ≤ a.w then a.c else stopAt l t 0 := by
  cases l with
  | nil => simp at ha
  | cons x r => simp at ha; subst ha; rfl
theorem stop_end {l : List Stp} {t i : Int} {k : Stp} (hk : l[((l.length : Int) - 1).toNat]? = some k) (h : ¬ i < ((l.drop 1).length : Int)) (h0 : 0 ≤ i ∧ i ≤ ((l.drop 1).length : Int)) : stopAt l t i.toNat = k.c := by
  have hl := (List.getElem?_eq_some_iff.1 hk).1
  rw [List.length_drop] at h h0
  refine stop_last ?_ (by omega)
  rw [← hk]; congr 1; omega
theorem stop_end2 {l : List Stp} {t i : Int} {k : Stp} (hk : l[((l.length : Int) - 1).toNat]? = some k) (h : ¬ i < (l.length : Int)) (h0 : 1 ≤ i ∧ i ≤ (l.length : Int)) : stopAt l t (i - 1).toNat = k.c := by
  have hl := (List.getElem?_eq_some_iff.1 hk).1
  refine stop_last ?_ (by omega)
  rw [← hk]; congr 1; omega
def spStop_A : (List Stp) × Int → List AV
  | (l, t) => [.c (.sl false (l.map stC)), I t]
def spStop_pre : (List Stp) × Int → Prop
  | (l, t) => vStops l = true ∧ 0 ≤ t ∧ t ≤ 256
def spStop_post : (List Stp) × Int → AV → List Box → Prop
  | (l, t), r, bs => r = .agg (coC (stopC l t)) ∧ bs = []
def spStop : VE.Spec := famSpec spStop_A d_lst_i spStop_pre spStop_post 0 true
theorem spStop_q : SpQ spStop true [] false 0 (fun a i => i = [] ∧ famPre d_lst_i spStop_A spStop_pre a) (fun a i r b => famPost d_lst_i spStop_post a r b) := ⟨rfl, rfl, rfl, rfl, fun _ _ => rfl, fun _ _ _ _ => rfl⟩
def spPaint_A : Pnt × Int × Int → List AV
  | (p, c, w) => [.agg (pnC p), I c, I w]
def spPaint_pre : Pnt × Int × Int → Prop
  | (p, c, w) => vPnt p = true ∧ (0 ≤ c ∧ c ≤ 20) ∧ 0 ≤ w ∧ w ≤ 20
def spPaint_post : Pnt × Int × Int → AV → List Box → Prop
  | (p, c, w), r, bs => r = .agg (coC (paintP p c w)) ∧ bs = []
def spPaint : VE.Spec := famSpec spPaint_A d_pn_i_i spPaint_pre spPaint_post 0 true
theorem spPaint_q : SpQ spPaint true [] false 0 (fun a i => i = [] ∧ famPre d_pn_i_i spPaint_A spPaint_pre a) (fun a i r b => famPost d_pn_i_i spPaint_post a r b) := ⟨rfl, rfl, rfl, rfl, fun _ _ => rfl, fun _ _ _ _ => rfl⟩
def spPix_A : Scn × Int × Int → List AV
  | (s, c, w) => [.agg (scC s), I c, I w]
def spPix_pre : Scn × Int × Int → Prop
  | (s, c, w) => (okFs s.fs ∧ s.fs.all vFil = true) ∧ (0 ≤ c ∧ c ≤ 20) ∧ 0 ≤ w ∧ w ≤ 20
def spPix_post : Scn × Int × Int → AV → List Box → Prop
  | (s, c, w), r, bs => r = .agg (coC (pixF s.fs c w)) ∧ bs = []
def spPix : VE.Spec := famSpec spPix_A d_sc_i_i spPix_pre spPix_post 0 true
theorem spPix_q : SpQ spPix true [] false 0 (fun a i => i = [] ∧ famPre d_sc_i_i spPix_A spPix_pre a) (fun a i r b => famPost d_sc_i_i spPix_post a r b) := ⟨rfl, rfl, rfl, rfl, fun _ _ => rfl, fun _ _ _ _ => rfl⟩
theorem part_t2 {t a b : Int} (h1 : a ≤ t) (h2 : t ≤ b) (h3 : a + 1 ≤ b) : 0 ≤ 256 * (t - a) / (b - a) ∧ 256 * (t - a) / (b - a) ≤ 256 := by
  refine ⟨Int.ediv_nonneg (by omega) (by omega), ?_⟩
  have : 256 * (t - a) ≤ 256 * (b - a) := by omega
  have h3 := Int.ediv_le_ediv (show 0 < b - a by omega) this
  rwa [Int.mul_ediv_cancel _ (show b - a ≠ 0 by omega)] at h3
def okAl (f t p : Pt) : Bool := vPt f && vPt t && vPt p
theorem al_bd {f t p : Pt} (hf : vPt f = true) (ht : vPt t = true) (hp : vPt p = true) : ((-4000000 ≤ (p.x - f.x) * (t.x - f.x) ∧ (p.x - f.x) * (t.x - f.x) ≤ 4000000) ∧ -4000000 ≤ (p.y - f.y) * (t.y - f.y) ∧ (p.y - f.y) * (t.y - f.y) ≤ 4000000) ∧ ((0 ≤ (t.x - f.x) * (t.x - f.x) ∧ (t.x - f.x) * (t.x - f.x) ≤ 4000000) ∧ 0 ≤ (t.y - f.y) * (t.y - f.y) ∧ (t.y - f.y) * (t.y - f.y) ≤ 4000000) ∧ ((-2000 ≤ t.x - f.x ∧ t.x - f.x ≤ 2000) ∧ -2000 ≤ t.y - f.y ∧ t.y - f.y ≤ 2000) ∧ (-2000 ≤ p.x - f.x ∧ p.x - f.x ≤ 2000) ∧ -2000 ≤ p.y - f.y ∧ p.y - f.y ≤ 2000 := by
  simp only [vPt, isU, Bool.and_eq_true, decide_eq_true_eq] at hf ht hp
  have m1 := mul_bd (m := 2000) (n := 2000) (show -2000 ≤ p.x - f.x by omega) (by omega) (show -2000 ≤ t.x - f.x by omega) (by omega)
  have m2 := mul_bd (m := 2000) (n := 2000) (show -2000 ≤ p.y - f.y by omega) (by omega) (show -2000 ≤ t.y - f.y by omega) (by omega)
  have m3 := mul_bd (m := 2000) (n := 2000) (show -2000 ≤ t.x - f.x by omega) (by omega) (show -2000 ≤ t.x - f.x by omega) (by omega)
  have m4 := mul_bd (m := 2000) (n := 2000) (show -2000 ≤ t.y - f.y by omega) (by omega) (show -2000 ≤ t.y - f.y by omega) (by omega)
  have n3 := sq_nn (t.x - f.x)
  have n4 := sq_nn (t.y - f.y)
  omega
theorem pmid_ok {c w : Int} (hc : 0 ≤ c ∧ c ≤ 20) (hw : 0 ≤ w ∧ w ≤ 20) : vPt (pmid c w) = true := by
  have h1 : isU (16 * c + 8) = true := isU_iff.2 (by omega)
  have h2 : isU (16 * w + 8) = true := isU_iff.2 (by omega)
  show (isU (16 * c + 8) && isU (16 * w + 8)) = true
  rw [h1, h2]; rfl
theorem vPnt_parts {p : Pnt} (h : vPnt p = true) : vStops p.ss = true ∧ vPt p.f = true ∧ vPt p.t = true := by
  simp only [vPnt, Bool.and_eq_true] at h
  exact ⟨h.1.1, h.1.2, h.2⟩
end Go.Proofs.YtcejoknapbhloaaGreat
