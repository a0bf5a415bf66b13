/- Contracts of functions of the program vectorraster, each proved for all states that fit its description. No conditions. -/
import Derived.Test.YtcejoknapbhloaaGreatPWK
import Derived.Test.YtcejoknapbhloaaGreatPW
import Derived.Test.YtcejoknapbhloaaGreatPV
import Derived.Test.YtcejoknapbhloaaGreatPQ
import Derived.Test.YtcejoknapbhloaaGreatPA
import Derived.Test.YtcejoknapbhloaaGreatW52
import Derived.Test.YtcejoknapbhloaaGreatPR
set_option linter.unusedSimpArgs false
set_option linter.unusedVariables false
set_option maxRecDepth 100000
namespace Go.Proofs.YtcejoknapbhloaaGreat
open Go Go.VE
def dwV (s : Scn) (W : Int) (l : List Trn) : Bool := vScn s && vTs W l
def dwF (s : Scn) (W : Int) (l : List Trn) : Frm := if dwV s W l = true then ⟨s.w, s.h, drawV s⟩ else ⟨0, 0, []⟩
theorem dw_y {s : Scn} {W : Int} {l : List Trn} (h1 : vScn s = true) (h2 : vTs W l = true) : dwV s W l = true := by rw [dwV, h1, h2]; rfl
theorem dw_n1 {s : Scn} {W : Int} {l : List Trn} (h : vScn s = false) : dwV s W l = false := by rw [dwV, h]; rfl
theorem dw_n2 {s : Scn} {W : Int} {l : List Trn} (h : vTs W l = false) : dwV s W l = false := by rw [dwV, h, Bool.and_false]
theorem dwF_y {s : Scn} {W : Int} {l : List Trn} (h : dwV s W l = true) : dwF s W l = ⟨s.w, s.h, drawV s⟩ := if_pos h
theorem dwF_n {s : Scn} {W : Int} {l : List Trn} (h : dwV s W l = false) : dwF s W l = ⟨0, 0, []⟩ := if_neg (by rw [h]; decide)
theorem dw_end {s : Scn} {q : List Int} (hv : vScn s = true) (h : Drawn (acr s.w * acr s.h) q) : tilesP s (blankP s) q = drawV s := tilesP_all hv fun t ht => by
  simp only [isT, Bool.and_eq_true, decide_eq_true_eq] at ht
  exact h.all t ht.2.1 ht.2.2
theorem dw_it {s : Scn} {q : List Dne} {i : Int} {x : Dne} (hv : vScn s = true) (h : Drawn (acr s.w * acr s.h) (q.map Dne.t)) (hk : q[i.toNat]? = some x) : isT s.w s.h x.t = true := by
  have := h.rng x.t (List.mem_map_of_mem (List.mem_of_getElem? hk))
  rw [isT, (vScn_parts hv).1, Bool.true_and, decide_eq_true_eq]
  exact this
theorem okT_rng {W : Int} {t : Trn} (h : okT W t = true) : (0 ≤ t.w ∧ t.w < W) ∧ 0 ≤ t.v ∧ t.v < W := by
  simp only [okT, Bool.and_eq_true, decide_eq_true_eq] at h; omega
theorem runP_of {s : Scn} {W : Int} {l : List Trn} (hv : vScn s = true) (h : vTs W l = true) : RunP (acr s.w * acr s.h) W l := by
  have h1 := tcnt_bd s.w s.h
  have h2 := tcnt_of (vScn_parts hv).1
  have h3 := acr_mul (vScn_parts hv).1
  simp only [vTs, Bool.and_eq_true, decide_eq_true_eq] at h
  exact ⟨by omega, h.1.2, by omega, fun t ht => okT_rng (List.all_eq_true.1 h.1.1 t ht)⟩
theorem dw_step {s : Scn} {q : List Dne} {i : Int} {x : Dne} (px : List Colr) (hk : q[i.toNat]? = some x) (h0 : 0 ≤ i) : tileP s (tilesP s px ((q.take i.toNat).map Dne.t)) x.t = tilesP s px ((q.take (i + 1).toNat).map Dne.t) := by
  rw [takeN hk h0, List.map_append, tilesP, tilesP, List.foldl_append]; rfl
theorem dw_len (s : Scn) (W : Int) (l : List Trn) : (dwF s W l).px.length ≤ 144 := by
  unfold dwF
  split
  · exact drawV_len s
  · simp
def spDWk_A : Scn × Int × (List Trn) → List AV
  | (s, W, l) => [.agg (scC s), I W, .c (.sl false (l.map tnC))]
def spDWk_pre : Scn × Int × (List Trn) → Prop
  | (s, W, l) => okFs s.fs ∧ (-1000 ≤ W ∧ W ≤ 1000) ∧ l.length ≤ 1000000
def spDWk_post : Scn × Int × (List Trn) → AV → List Box → Prop
  | (s, W, l), r, bs => r = .tup [.agg (frC (dwF s W l)), B (dwV s W l)] ∧ bs = []
def spDWk : VE.Spec := famSpecS spDWk_A d_sc_i_ltn spDWk_pre spDWk_post 0 false
theorem spDWk_q : SpQ spDWk false [] true 0 (fun a i => i = [] ∧ famPre d_sc_i_ltn spDWk_A spDWk_pre a) (fun a i r b => famPost d_sc_i_ltn spDWk_post a r b) := ⟨rfl, rfl, rfl, rfl, fun _ _ => rfl, fun _ _ _ _ => rfl⟩
section
def tb8 : Nat → Option VE.Spec := tabOf [(24, wkIn spVScn), (25, wkIn spVTs), (26, wkIn spBlR), (28, wkIn spTiles), (27, wkIn spRunS), (29, wkIn spTilP)]
theorem tb8_24 : tb8 24 = some (wkIn spVScn) := rfl
theorem tb8_25 : tb8 25 = some (wkIn spVTs) := rfl
theorem tb8_26 : tb8 26 = some (wkIn spBlR) := rfl
theorem tb8_28 : tb8 28 = some (wkIn spTiles) := rfl
theorem tb8_27 : tb8 27 = some (wkIn spRunS) := rfl
theorem tb8_29 : tb8 29 = some (wkIn spTilP) := rfl
theorem tb8_ok : TabOK Tryz.prog rt0 tb8 := (tabOf_cons (by kernel_rfl) sat_spec_validScene (tabOf_cons (by kernel_rfl) sat_spec_validTurns (tabOf_cons (by kernel_rfl) sat_spec_blank (tabOf_cons (by kernel_rfl) sat_spec_tiles (tabOf_cons (by kernel_rfl) sat_spec_run (tabOf_cons (by kernel_rfl) sat_spec_tilePixels tabOf_nil))))))
section
attribute [local go_sem] Tryz.f8 tb8_24 tb8_25 tb8_26 tb8_28 tb8_27 tb8_29 spDWk_q spDWk_A spDWk_pre spDWk_post spVScn_q spVScn_A spVScn_pre spVScn_post spVTs_q spVTs_A spVTs_pre spVTs_post spBlR_q spBlR_A spBlR_pre spBlR_post spTiles_q spTiles_A spTiles_pre spTiles_post spRunS_q spRunS_A spRunS_pre spRunS_post spTilP_q spTilP_A spTilP_pre spTilP_post
set_option maxHeartbeats 4000000 in
theorem sat_spec_DrawWorkers_0 : Sat Tryz.prog rt0 8 (wkOut spDWk) := by
  refine fn_sat hm ttok (tab := tb8) tb8_ok Tryz.func8 (c := Tryz.f8.body.getD .skip) (by kernel_rfl) (ts := [.cell 6 31, .tmp 7]) (by kernel_rfl) Tryz.ntmps8 (sq := fun _ => true) (by kernel_rfl) ?_
  intro args ins pk hpre0 hpk
  obtain ⟨rfl, hpre0⟩ := hpre0
  obtain ⟨⟨s, W, l⟩, rfl, hpre, hdec⟩ := famPre_ex hpre0
  clear hpre0 hdec
  try simp only [spDWk_pre] at hpre
  replace hpk : pk + 0 ≤ pickLimit := hpk
  refine ⟨nle rfl, ?_⟩
  simp (maxSteps := 1000000) only [go_sem]
  repeat' first | apply And.intro | intro _ | omega | assumption | with_reducible rfl
  any_goals
    rename_i q hq
    have hql := hq.len
    rw [List.length_map] at hql
    refine loopS (α := Frm × Int) false [0, 1, 2, 4, 5, 10, 11, 12, 13, 14, 15, 16, 17, 18, 19, 20, 21, 22, 23, 24, 25, 26, 27, 28, 29, 30, 31, 32, 33, 34, 35, 36, 37, 38, 39, 40, 41, 42, 43, 44, 45, 46, 47] (fun σ => [gId (σ.get 8)]) (fun σ x => [(10, I x.2)]) (fun σ x => [(gId (σ.get 8), some ⟨[frC x.1], 3, 31, false, false⟩)]) (fun (f, i) => 0) (fun σ => (gA frCd default (.agg ((boxN σ (gId (σ.get 8))).es.headD [])), gI (σ.get 10))) (fun σ τ => []) (fun (f, i) => (0 ≤ i ∧ i ≤ q.length) ∧ f = ⟨s.w, s.h, tilesP s (blankP s) ((q.take i.toNat).map Dne.t)⟩) (fun (f, i) => (q.length - i).toNat) ⟨by (simp (maxSteps := 1000000) only [go_sem]; (repeat' first | apply And.intro | intro _ | omega | assumption | with_reducible rfl); all_goals (first | rfl | skip)), ?_⟩
    rintro ⟨f, i⟩ hinv
    try dsimp only at hinv
    rcases elemAt q i (by omega) with ⟨hlt, x, hk⟩ | hlt
    all_goals (first | ((have hlt2 := of_eq_true hlt); all_goals simp (maxSteps := 1000000) only [go_sem, hlt, hk]) | (have hlt2 := of_eq_false hlt; simp (maxSteps := 1000000) only [go_sem, hlt]))
    all_goals
      repeat' first | apply And.intro | intro _ | omega | assumption | with_reducible rfl
  
  all_goals (first | (exact trivial) | ((constructor <;> trivial); done) | (exact hpre.1) | ((have h9 := blankP_len ‹vScn s = true›; omega); done) | (exact (vScn_parts ‹vScn s = true›).1) | ((have h9 := acr_mul (vScn_parts ‹vScn s = true›).1; omega); done) | (exact runP_of ‹_› ‹_›) | ((rw [dwF_n (dw_n1 ‹vScn s = false›)]; rfl); done) | (exact (dw_n1 ‹vScn s = false›).symm) | ((rw [dwF_n (dw_n2 ‹vTs W l = false›)]; rfl); done) | (exact (dw_n2 ‹vTs W l = false›).symm) | (exact dw_it ‹_› hq hk) | ((rw [hinv.2]; dsimp only; rw [tilesP_len]; exact blankP_len ‹_›); done) | ((rw [hinv.2]); done) | ((rw [hinv.2]; dsimp only; rw [dw_step _ hk hinv.1.1]); done) | ((rw [hinv.2, takeA (by omega), dw_end ‹_› hq, dwF_y (dw_y ‹_› ‹_›)]); done) | (exact (dw_y ‹_› ‹_›).symm) | (skip; done))
end
theorem sat_spec_DrawWorkers : Sat Tryz.prog rt0 8 (wkIn spDWk) := sat_in (sat_out sat_spec_DrawWorkers_0)
end
def spWork_A : Int × Int × (List Trn) → List AV
  | (c, W, l) => [I c, I W, .c (.sl false (l.map tnC))]
def spWork_pre : Int × Int × (List Trn) → Prop
  | (c, W, l) => RunP c W l
def spWork_post : Int × Int × (List Trn) → AV → List Box → Prop
  | (c, W, l), r, bs => ∃ q : List Dne, r = .c (.own 0 q.length false) ∧ bs = [⟨q.map dnC, 2, 61, true, false⟩] ∧ Drawn c (q.map Dne.t)
def spWork : VE.Spec := famSpec spWork_A d_i_i_ltn spWork_pre spWork_post 0 false
theorem spWork_q : SpQ spWork false [] false 0 (fun a i => i = [] ∧ famPre d_i_i_ltn spWork_A spWork_pre a) (fun a i r b => famPost d_i_i_ltn spWork_post a r b) := ⟨rfl, rfl, rfl, rfl, fun _ _ => rfl, fun _ _ _ _ => rfl⟩
/-- The number of a queue's row. -/
def qid (σ : St) (j : Nat) : Nat := match (boxN σ 16).es.getD j [] with
  | [.own q _ _] => q
  | _ => 0
theorem rep1 {α : Type} (a : α) : List.replicate 1 a = [a] := rfl
theorem rep2 {α : Type} (a : α) : List.replicate 2 a = [a, a] := rfl
theorem rep3 {α : Type} (a : α) : List.replicate 3 a = [a, a, a] := rfl
theorem rep4 {α : Type} (a : α) : List.replicate 4 a = [a, a, a, a] := rfl
theorem qAt0 (W j : Nat) : qAt W j 0 = [] := rfl
theorem qAt_len (W j t : Nat) : (qAt W j t).length ≤ t := by
  unfold qAt
  rw [List.length_map]
  exact Nat.le_trans (List.length_filter_le ..) (by rw [List.length_range]; exact Nat.le_refl _)
theorem qAt_y {W j : Nat} {t : Int} (h0 : 0 ≤ t) (hm : t.tmod (W : Int) = (j : Int)) : qAt W j (t + 1).toNat = qAt W j t.toNat ++ [t] := by
  have e : (t.toNat % W == j) = true := by
    rw [Int.tmod_eq_emod_of_nonneg h0] at hm
    rw [beq_iff_eq]
    have h1 : ((t.toNat % W : Nat) : Int) = j := by rw [Int.natCast_emod, Int.toNat_of_nonneg h0, hm]
    exact_mod_cast h1
  rw [qAt, qAt, show (t + 1).toNat = t.toNat + 1 by omega, List.range_succ, List.filter_append, List.map_append]
  simp only [List.filter_cons, e, if_true, List.filter_nil, List.map_cons, List.map_nil]
  rw [show Int.ofNat t.toNat = t from Int.toNat_of_nonneg h0]
theorem qAt_n {W j k : Nat} {t : Int} (h0 : 0 ≤ t) (hm : t.tmod (W : Int) = (k : Int)) (hk : k ≠ j) : qAt W j (t + 1).toNat = qAt W j t.toNat := by
  have e : (t.toNat % W == j) = false := by
    rw [Int.tmod_eq_emod_of_nonneg h0] at hm
    have h1 : ((t.toNat % W : Nat) : Int) = k := by rw [Int.natCast_emod, Int.toNat_of_nonneg h0, hm]
    have h2 : t.toNat % W = k := by exact_mod_cast h1
    rw [h2]; simpa using hk
  rw [qAt, qAt, show (t + 1).toNat = t.toNat + 1 by omega, List.range_succ, List.filter_append, List.map_append]
  simp [List.filter_cons, e]
theorem tm1 (t : Int) : t.tmod 1 = 0 := by rw [Int.tmod_one]
theorem tmc1 {t : Int} (c : Int) (h : 0 ≤ t) : ¬ t < c ∨ (t < c ∧ t.tmod 1 = 0) := by rw [tm1]; omega
theorem tmc2 {t : Int} (c : Int) (h : 0 ≤ t) : ¬ t < c ∨ (t < c ∧ t.tmod 2 = 0) ∨ (t < c ∧ t.tmod 2 = 1) := by rw [Int.tmod_eq_emod_of_nonneg h]; omega
theorem tmc3 {t : Int} (c : Int) (h : 0 ≤ t) : ¬ t < c ∨ (t < c ∧ t.tmod 3 = 0) ∨ (t < c ∧ t.tmod 3 = 1) ∨ (t < c ∧ t.tmod 3 = 2) := by rw [Int.tmod_eq_emod_of_nonneg h]; omega
theorem tmc4 {t : Int} (c : Int) (h : 0 ≤ t) : ¬ t < c ∨ (t < c ∧ t.tmod 4 = 0) ∨ (t < c ∧ t.tmod 4 = 1) ∨ (t < c ∧ t.tmod 4 = 2) ∨ (t < c ∧ t.tmod 4 = 3) := by rw [Int.tmod_eq_emod_of_nonneg h]; omega
/-- A queue, told from its cell. -/
def qOf (σ : St) (e : List C) : List Int := match e with
  | [.sl _ es] => (decAll intCd es).getD []
  | [.own b _ _] => (decAll intCd (boxN σ b).es).getD []
  | _ => []
def qDec (σ : St) : List (List Int) := (boxN σ 16).es.map (qOf σ)
theorem qOf_li (σ : St) (Q : List (List Int)) : List.map (qOf σ) (List.map liC Q) = Q := by
  rw [List.map_map]
  conv => rhs; rw [← List.map_id Q]
  refine List.map_congr_left fun q _ => ?_
  show (decAll intCd (q.map intC)).getD [] = q
  rw [intC_ds]; rfl
theorem RunQ.at {W c : Int} {out : List Int} {Q : List (List Int)} {i k : Int} (h : RunQ W c out Q i) (hk : 0 ≤ k ∧ k < W) : ∃ q, Q[k.toNat]? = some q := ⟨_, List.getElem?_eq_getElem (by have := h.w; omega)⟩
theorem RunQ.len9 {W c : Int} {out : List Int} {Q : List (List Int)} {i : Int} {k : Nat} {q : List Int} (h : RunQ W c out Q i) (hk : Q[k]? = some q) : q.length ≤ 9 := by
  have h1 := sum_set Q k q [] hk
  have h2 := h.cov.len
  have h3 := h.c9
  simp only [List.length_nil] at h1
  omega
theorem RunP.turn {c W i : Int} {l : List Trn} (h : RunP c W l) (h0 : 0 ≤ i) : ∃ x : Trn, ((0 ≤ x.w ∧ x.w < W) ∧ 0 ≤ x.v ∧ x.v < W) ∧ (30 ≤ i → x.w = i % W) ∧ ((i < (l.length : Int)) = True ∧ l[i.toNat]? = some x ∨ (i < (l.length : Int)) = False ∧ x = ⟨i.tmod W, (i + 1).tmod W⟩) := by
  have hl := h.hl
  rcases elemAt l i h0 with ⟨hlt, x, hk⟩ | hlt
  · have := of_eq_true hlt
    exact ⟨x, h.ht x (List.mem_of_getElem? hk), fun _ => by omega, .inl ⟨hlt, hk⟩⟩
  · exact ⟨⟨i.tmod W, (i + 1).tmod W⟩, ⟨(tm_W h0 h.hW.1).1, (tm_W (by omega) h.hW.1).1⟩, fun _ => (tm_W h0 h.hW.1).2, .inr ⟨hlt, rfl⟩⟩
theorem set_li0 (Q : List (List Int)) (k : Nat) (r : List Int) : (List.map liC Q).set k [C.sl false (List.map intC r)] = List.map liC (Q.set k r) := by
  rw [List.map_set]; rfl
theorem liC_leEs (s : St) (ρ : List (Nat × Nat)) (hp : List (Nat × Option Box)) : ∀ Q : List (List Int), leEs s ρ hp (List.map liC Q) (List.map liC Q) = True
  | [] => eq_true trivial
  | q :: Q => by simp only [List.map_cons, leEs, liC_le, liC_leEs s ρ hp Q, and_self]
theorem qpop {W c : Int} {o : List Dne} {Q : List (List Int)} {i : Int} {w : Nat} {a : List Int} {k : Int} (h : RunQ W c (o.map Dne.t) Q i) (ha : Q[w]? = some a) (hk : a[((a.length : Int) - 1).toNat]? = some k) : RunQ W c (o.map Dne.t ++ [k]) (Q.set w (a.take ((a.length : Int) - 1).toNat)) (i + 1) ∧ msrQ (Q.set w (a.take ((a.length : Int) - 1).toNat)) (c - ((o.length + 1 : Nat) : Int)) (i + 1) < msrQ Q (c - (o.length : Int)) i := by
  have e : ((a.length : Int) - 1).toNat = a.length - 1 := by omega
  rw [e] at hk ⊢
  obtain ⟨m1, m2⟩ := mem_last hk
  have := h.take ha m1 m2
  rw [List.length_append, List.length_map, List.length_singleton] at this
  exact this
theorem qstl {W c : Int} {o : List Dne} {Q : List (List Int)} {i : Int} {w : Nat} {b : List Int} {k : Int} (h : RunQ W c (o.map Dne.t) Q i) (hb : Q[w]? = some b) (hk : b[0]? = some k) : RunQ W c (o.map Dne.t ++ [k]) (Q.set w (b.drop 1)) (i + 1) ∧ msrQ (Q.set w (b.drop 1)) (c - ((o.length + 1 : Nat) : Int)) (i + 1) < msrQ Q (c - (o.length : Int)) i := by
  obtain ⟨m1, m2⟩ := mem_first hk
  have := h.take hb m1 m2
  rw [List.length_append, List.length_map, List.length_singleton] at this
  exact this
theorem qidle {W c x : Int} {o : List Dne} {Q : List (List Int)} {i : Int} {a : List Int} (h : RunQ W c (o.map Dne.t) Q i) (hlt : (o.length : Int) < c) (ha : Q[x.toNat]? = some a) (h0 : ¬ 0 < (a.length : Int)) (h30 : 30 ≤ i → x = i % W) : RunQ W c (o.map Dne.t) Q (i + 1) ∧ msrQ Q (c - (o.length : Int)) (i + 1) < msrQ Q (c - (o.length : Int)) i := by
  have := h.idle (by rw [List.length_map]; exact hlt) (fun hi => by
    unfold empQ
    rw [h.w.1, ← h30 hi, List.getD_eq_getElem?_getD, ha, Option.getD_some, List.eq_nil_of_length_eq_zero (by omega : a.length = 0)]; rfl)
  rw [List.length_map] at this
  exact this
theorem run_e1 {c t : Int} (h : 0 ≤ c ∧ c ≤ 9) (h1 : ¬ t < c) (h2 : t ≤ c) : RunQ 1 c [] [qAt 1 0 t.toNat] 0 := by
  obtain rfl : t = c := by omega
  exact run0 (by omega) (by omega) h.1 h.2
theorem run_e2 {c t : Int} (h : 0 ≤ c ∧ c ≤ 9) (h1 : ¬ t < c) (h2 : t ≤ c) : RunQ 2 c [] [qAt 2 0 t.toNat, qAt 2 1 t.toNat] 0 := by
  obtain rfl : t = c := by omega
  exact run0 (by omega) (by omega) h.1 h.2
theorem run_e3 {c t : Int} (h : 0 ≤ c ∧ c ≤ 9) (h1 : ¬ t < c) (h2 : t ≤ c) : RunQ 3 c [] [qAt 3 0 t.toNat, qAt 3 1 t.toNat, qAt 3 2 t.toNat] 0 := by
  obtain rfl : t = c := by omega
  exact run0 (by omega) (by omega) h.1 h.2
theorem run_e4 {c t : Int} (h : 0 ≤ c ∧ c ≤ 9) (h1 : ¬ t < c) (h2 : t ≤ c) : RunQ 4 c [] [qAt 4 0 t.toNat, qAt 4 1 t.toNat, qAt 4 2 t.toNat, qAt 4 3 t.toNat] 0 := by
  obtain rfl : t = c := by omega
  exact run0 (by omega) (by omega) h.1 h.2
def tb22 : Nat → Option VE.Spec := tabOf [(52, wkIn spClipD)]
theorem tb22_52 : tb22 52 = some (wkIn spClipD) := rfl
theorem tb22_ok : TabOK Tryz.prog rt0 tb22 := (tabOf_cons (by kernel_rfl) sat_slices_Clip_impl_Done_impl_Done tabOf_nil)
set_option maxHeartbeats 4000000 in
theorem sat_impl_work_0 : Sat Tryz.prog rt0 22 (wkOut spWork) := by
  refine fn_sat hm ttok (tab := tb22) tb22_ok Tryz.func22 (c := Tryz.f22.body.getD .skip) (by kernel_rfl) (ts := [.tmp 6]) (by kernel_rfl) Tryz.ntmps22 (sq := fun _ => true) (by kernel_rfl) ?_
  intro args ins pk hpre0 hpk
  obtain ⟨rfl, hpre0⟩ := hpre0
  obtain ⟨⟨c, W, l⟩, rfl, hpre, hdec⟩ := famPre_ex hpre0
  clear hpre0 hdec
  try simp only [spWork_pre] at hpre
  replace hpk : pk + 0 ≤ pickLimit := hpk
  refine ⟨nle rfl, ?_⟩
  have hc1 := hpre.hc
  have hc3 := hpre.hl
  have hc4 := hpre.ht
  obtain rfl | rfl | rfl | rfl : W = 1 ∨ W = 2 ∨ W = 3 ∨ W = 4 := by have := hpre.hW; omega
  all_goals  simp (maxSteps := 1000000) only [go_sem, Tryz.f22, tb22_52, spWork_q, spWork_A, spWork_pre, spWork_post, spClipD_q, spClipD_A, spClipD_B, spClipD_d, spClipD_pre, spClipD_post]
  repeat' first | apply And.intro | intro _ | omega | assumption | with_reducible rfl
  · refine loop_ent (ent_nilM (b := 16) (ii := 0) (j := 0) (nb := 17) (kk := 1) (t2 := 3) rfl rfl rfl rfl (by exact (show 17 < 48 by decide))) ?_
    refine loopS (α := Int) false [3, 4, 5, 8, 14, 15, 17, 18, 19, 20, 21, 22, 23, 24, 25, 26, 27, 28, 29, 30, 31, 32, 33, 34, 38, 52, 67, 92] (fun σ => [16, 17]) (fun σ x => [(17, I x)]) (fun σ x => [(16, some ⟨[[C.own 17 (qAt 1 0 x.toNat).length false]], 1, 70, false, false⟩), (17, some ⟨(qAt 1 0 x.toNat).map intC, 1, 3, true, false⟩)]) (fun t => 0) (fun σ => gI (σ.get 17)) (fun σ τ => [(17, qid τ 0)]) (fun t => 0 ≤ t ∧ t ≤ c) (fun t => (c - t).toNat) ⟨by (simp (maxSteps := 1000000) only [go_sem, Tryz.f22, tb22_52, spWork_q, spWork_A, spWork_pre, spWork_post, spClipD_q, spClipD_A, spClipD_B, spClipD_d, spClipD_pre, spClipD_post, qid, rep1, rep2, rep3, rep4, qAt0, List.getD_cons_zero, List.getD_cons_succ]; (repeat' first | apply And.intro | intro _ | omega | assumption | with_reducible rfl); all_goals (first | skip)), ?_⟩
    rintro t hinv
    try dsimp only at hinv
    rcases tmc1 c hinv.1 with hm | ⟨hlt, hm⟩
    all_goals (simp (maxSteps := 1000000) only [go_sem, hm, Tryz.f22, tb22_52, spWork_q, spWork_A, spWork_pre, spWork_post, spClipD_q, spClipD_A, spClipD_B, spClipD_d, spClipD_pre, spClipD_post, qid, rep1, rep2, rep3, rep4, qAt0, List.getD_cons_zero, List.getD_cons_succ])
    repeat' first | apply And.intro | intro _ | omega | assumption | with_reducible rfl
  
    all_goals (first | ((have h9 := qAt_len 1 0 t.toNat; omega); done) | ((rw [qAt_y (W := 1) (j := 0) hinv.1 hm]; simp only [go_sem, List.length_append, List.length_singleton]); done) | ((rw [qAt_y (W := 1) (j := 0) hinv.1 hm, List.map_append]; rfl); done) | skip)
    refine loopS (α := (List Dne) × Int × (List (List Int))) false [3, 4, 5, 8, 9, 10, 11, 12, 13, 14, 15, 16, 17, 18, 19, 20, 21, 22, 23, 24, 25, 26, 27, 28, 29, 30, 31, 32, 33, 34, 35, 36, 37, 38, 39, 40, 41, 42, 43, 44, 45, 46, 47, 48, 49, 50, 51, 52, 53, 54, 55, 56, 57, 58, 59, 60, 61, 62, 63, 64, 65, 66, 67, 68, 69, 70, 71, 72, 73, 74, 75, 76, 77, 78, 79, 80, 81, 82, 83, 84, 85, 86, 87, 88, 89, 90, 91, 92, 93, 94, 95, 96, 97, 98, 99, 100, 101, 102, 103, 104, 105, 106, 107, 108, 109, 110] (fun σ => [gId (σ.get 9), 16, 17]) (fun σ x => [(9, .c (.own (gId (σ.get 9)) (x.1).length false)), (10, I x.2.1)]) (fun σ x => [(gId (σ.get 9), some ⟨(x.1).map dnC, 2, 61, true, false⟩), (16, some ⟨(x.2.2).map liC, 1, 70, false, false⟩)]) (fun (o, i, Q) => 0) (fun σ => (gL dnCd σ (σ.get 9), gI (σ.get 10), qDec σ)) (fun σ τ => [(gId (σ.get 9), gId (τ.get 9))]) (fun (o, i, Q) => 0 ≤ i ∧ RunQ 1 c (o.map Dne.t) Q i) (fun (o, i, Q) => msrQ Q (c - (o.map Dne.t).length) i) ⟨by (simp (maxSteps := 1000000) only [go_sem, Tryz.f22, tb22_52, spWork_q, spWork_A, spWork_pre, spWork_post, spClipD_q, spClipD_A, spClipD_B, spClipD_d, spClipD_pre, spClipD_post, qDec, qOf, qOf_li, set_li0, liC_leEs, List.take_length]; (repeat' first | apply And.intro | intro _ | omega | assumption | with_reducible rfl); all_goals (first | exact run_e1 hc1 hm hinv.2 | skip)), ?_⟩
    rintro ⟨o, i, Q⟩ hinv
    try dsimp only at hinv
    obtain ⟨x, hx, h30, hlt⟩ := hpre.turn hinv.1
    obtain ⟨a, ha⟩ := hinv.2.at hx.1
    obtain ⟨b, hb⟩ := hinv.2.at hx.2
    have hf := hinv.2.i9
    have hf2 := hinv.2.out9
    rw [List.length_map] at hf2
    have hQ := hinv.2.w.1
    have hla := hinv.2.len9 ha
    have hlb := hinv.2.len9 hb
    rcases hlt with ⟨hlt, hk⟩ | ⟨hlt, rfl⟩
    all_goals try dsimp only at ha hb hx h30
    all_goals ((first | simp (maxSteps := 1000000) only [go_sem, hk, hlt, ha, hb, Tryz.f22, tb22_52, spWork_q, spWork_A, spWork_pre, spWork_post, spClipD_q, spClipD_A, spClipD_B, spClipD_d, spClipD_pre, spClipD_post, qDec, qOf, qOf_li, set_li0, liC_leEs, List.take_length] | simp (maxSteps := 1000000) only [go_sem,  hlt, ha, hb, Tryz.f22, tb22_52, spWork_q, spWork_A, spWork_pre, spWork_post, spClipD_q, spClipD_A, spClipD_B, spClipD_d, spClipD_pre, spClipD_post, qDec, qOf, qOf_li, set_li0, liC_leEs, List.take_length]))
    repeat' first | apply And.intro | intro _ | omega | assumption | with_reducible rfl
    all_goals (first | (exact (qpop hinv.2 ha (by assumption)).1) | (exact (qpop hinv.2 ha (by assumption)).2) | (exact (qstl hinv.2 hb (by assumption)).1) | (exact (qstl hinv.2 hb (by assumption)).2) | (exact (qidle hinv.2 (by assumption) ha (by assumption) h30).1) | (exact (qidle hinv.2 (by assumption) ha (by assumption) h30).2) | (exact ⟨o, rfl, rfl, hinv.2.fin (by rw [List.length_map]; assumption)⟩; done) | skip)
  · refine loop_ent (ent_tr (ent_nilM (b := 16) (ii := 0) (j := 0) (nb := 17) (kk := 1) (t2 := 3) rfl rfl rfl rfl (by exact (show 17 < 48 by decide))) (ent_nilM (b := 16) (ii := 1) (j := 0) (nb := 18) (kk := 1) (t2 := 3) rfl rfl rfl rfl (by exact (show 18 < 48 by decide)))) ?_
    refine loopS (α := Int) false [3, 4, 5, 8, 14, 15, 17, 18, 19, 20, 21, 22, 23, 24, 25, 26, 27, 28, 29, 30, 31, 32, 33, 34, 38, 52, 67, 92] (fun σ => [16, 17, 18]) (fun σ x => [(17, I x)]) (fun σ x => [(16, some ⟨[[C.own 17 (qAt 2 0 x.toNat).length false], [C.own 18 (qAt 2 1 x.toNat).length false]], 1, 70, false, false⟩), (17, some ⟨(qAt 2 0 x.toNat).map intC, 1, 3, true, false⟩), (18, some ⟨(qAt 2 1 x.toNat).map intC, 1, 3, true, false⟩)]) (fun t => 0) (fun σ => gI (σ.get 17)) (fun σ τ => [(17, qid τ 0), (18, qid τ 1)]) (fun t => 0 ≤ t ∧ t ≤ c) (fun t => (c - t).toNat) ⟨by (simp (maxSteps := 1000000) only [go_sem, Tryz.f22, tb22_52, spWork_q, spWork_A, spWork_pre, spWork_post, spClipD_q, spClipD_A, spClipD_B, spClipD_d, spClipD_pre, spClipD_post, qid, rep1, rep2, rep3, rep4, qAt0, List.getD_cons_zero, List.getD_cons_succ]; (repeat' first | apply And.intro | intro _ | omega | assumption | with_reducible rfl); all_goals (first | skip)), ?_⟩
    rintro t hinv
    try dsimp only at hinv
    rcases tmc2 c hinv.1 with hm | ⟨hlt, hm⟩ | ⟨hlt, hm⟩
    all_goals (simp (maxSteps := 1000000) only [go_sem, hm, Tryz.f22, tb22_52, spWork_q, spWork_A, spWork_pre, spWork_post, spClipD_q, spClipD_A, spClipD_B, spClipD_d, spClipD_pre, spClipD_post, qid, rep1, rep2, rep3, rep4, qAt0, List.getD_cons_zero, List.getD_cons_succ])
    repeat' first | apply And.intro | intro _ | omega | assumption | with_reducible rfl
  
    all_goals (first | ((have h9 := qAt_len 2 0 t.toNat; omega); done) | ((rw [qAt_y (W := 2) (j := 0) hinv.1 hm]; simp only [go_sem, List.length_append, List.length_singleton]); done) | ((rw [qAt_y (W := 2) (j := 0) hinv.1 hm, List.map_append]; rfl); done) | ((rw [qAt_n (W := 2) (j := 0) (k := 1) hinv.1 hm (by decide)]); done) | ((have h9 := qAt_len 2 1 t.toNat; omega); done) | ((rw [qAt_y (W := 2) (j := 1) hinv.1 hm]; simp only [go_sem, List.length_append, List.length_singleton]); done) | ((rw [qAt_y (W := 2) (j := 1) hinv.1 hm, List.map_append]; rfl); done) | ((rw [qAt_n (W := 2) (j := 1) (k := 0) hinv.1 hm (by decide)]); done) | skip)
    refine loopS (α := (List Dne) × Int × (List (List Int))) false [3, 4, 5, 8, 9, 10, 11, 12, 13, 14, 15, 16, 17, 18, 19, 20, 21, 22, 23, 24, 25, 26, 27, 28, 29, 30, 31, 32, 33, 34, 35, 36, 37, 38, 39, 40, 41, 42, 43, 44, 45, 46, 47, 48, 49, 50, 51, 52, 53, 54, 55, 56, 57, 58, 59, 60, 61, 62, 63, 64, 65, 66, 67, 68, 69, 70, 71, 72, 73, 74, 75, 76, 77, 78, 79, 80, 81, 82, 83, 84, 85, 86, 87, 88, 89, 90, 91, 92, 93, 94, 95, 96, 97, 98, 99, 100, 101, 102, 103, 104, 105, 106, 107, 108, 109, 110] (fun σ => [gId (σ.get 9), 16, 17, 18]) (fun σ x => [(9, .c (.own (gId (σ.get 9)) (x.1).length false)), (10, I x.2.1)]) (fun σ x => [(gId (σ.get 9), some ⟨(x.1).map dnC, 2, 61, true, false⟩), (16, some ⟨(x.2.2).map liC, 1, 70, false, false⟩)]) (fun (o, i, Q) => 0) (fun σ => (gL dnCd σ (σ.get 9), gI (σ.get 10), qDec σ)) (fun σ τ => [(gId (σ.get 9), gId (τ.get 9))]) (fun (o, i, Q) => 0 ≤ i ∧ RunQ 2 c (o.map Dne.t) Q i) (fun (o, i, Q) => msrQ Q (c - (o.map Dne.t).length) i) ⟨by (simp (maxSteps := 1000000) only [go_sem, Tryz.f22, tb22_52, spWork_q, spWork_A, spWork_pre, spWork_post, spClipD_q, spClipD_A, spClipD_B, spClipD_d, spClipD_pre, spClipD_post, qDec, qOf, qOf_li, set_li0, liC_leEs, List.take_length]; (repeat' first | apply And.intro | intro _ | omega | assumption | with_reducible rfl); all_goals (first | exact run_e2 hc1 hm hinv.2 | skip)), ?_⟩
    rintro ⟨o, i, Q⟩ hinv
    try dsimp only at hinv
    obtain ⟨x, hx, h30, hlt⟩ := hpre.turn hinv.1
    obtain ⟨a, ha⟩ := hinv.2.at hx.1
    obtain ⟨b, hb⟩ := hinv.2.at hx.2
    have hf := hinv.2.i9
    have hf2 := hinv.2.out9
    rw [List.length_map] at hf2
    have hQ := hinv.2.w.1
    have hla := hinv.2.len9 ha
    have hlb := hinv.2.len9 hb
    rcases hlt with ⟨hlt, hk⟩ | ⟨hlt, rfl⟩
    all_goals try dsimp only at ha hb hx h30
    all_goals ((first | simp (maxSteps := 1000000) only [go_sem, hk, hlt, ha, hb, Tryz.f22, tb22_52, spWork_q, spWork_A, spWork_pre, spWork_post, spClipD_q, spClipD_A, spClipD_B, spClipD_d, spClipD_pre, spClipD_post, qDec, qOf, qOf_li, set_li0, liC_leEs, List.take_length] | simp (maxSteps := 1000000) only [go_sem,  hlt, ha, hb, Tryz.f22, tb22_52, spWork_q, spWork_A, spWork_pre, spWork_post, spClipD_q, spClipD_A, spClipD_B, spClipD_d, spClipD_pre, spClipD_post, qDec, qOf, qOf_li, set_li0, liC_leEs, List.take_length]))
    repeat' first | apply And.intro | intro _ | omega | assumption | with_reducible rfl
    all_goals (first | (exact (qpop hinv.2 ha (by assumption)).1) | (exact (qpop hinv.2 ha (by assumption)).2) | (exact (qstl hinv.2 hb (by assumption)).1) | (exact (qstl hinv.2 hb (by assumption)).2) | (exact (qidle hinv.2 (by assumption) ha (by assumption) h30).1) | (exact (qidle hinv.2 (by assumption) ha (by assumption) h30).2) | (exact ⟨o, rfl, rfl, hinv.2.fin (by rw [List.length_map]; assumption)⟩; done) | skip)
  · refine loop_ent (ent_tr (ent_tr (ent_nilM (b := 16) (ii := 0) (j := 0) (nb := 17) (kk := 1) (t2 := 3) rfl rfl rfl rfl (by exact (show 17 < 48 by decide))) (ent_nilM (b := 16) (ii := 1) (j := 0) (nb := 18) (kk := 1) (t2 := 3) rfl rfl rfl rfl (by exact (show 18 < 48 by decide)))) (ent_nilM (b := 16) (ii := 2) (j := 0) (nb := 19) (kk := 1) (t2 := 3) rfl rfl rfl rfl (by exact (show 19 < 48 by decide)))) ?_
    refine loopS (α := Int) false [3, 4, 5, 8, 14, 15, 17, 18, 19, 20, 21, 22, 23, 24, 25, 26, 27, 28, 29, 30, 31, 32, 33, 34, 38, 52, 67, 92] (fun σ => [16, 17, 18, 19]) (fun σ x => [(17, I x)]) (fun σ x => [(16, some ⟨[[C.own 17 (qAt 3 0 x.toNat).length false], [C.own 18 (qAt 3 1 x.toNat).length false], [C.own 19 (qAt 3 2 x.toNat).length false]], 1, 70, false, false⟩), (17, some ⟨(qAt 3 0 x.toNat).map intC, 1, 3, true, false⟩), (18, some ⟨(qAt 3 1 x.toNat).map intC, 1, 3, true, false⟩), (19, some ⟨(qAt 3 2 x.toNat).map intC, 1, 3, true, false⟩)]) (fun t => 0) (fun σ => gI (σ.get 17)) (fun σ τ => [(17, qid τ 0), (18, qid τ 1), (19, qid τ 2)]) (fun t => 0 ≤ t ∧ t ≤ c) (fun t => (c - t).toNat) ⟨by (simp (maxSteps := 1000000) only [go_sem, Tryz.f22, tb22_52, spWork_q, spWork_A, spWork_pre, spWork_post, spClipD_q, spClipD_A, spClipD_B, spClipD_d, spClipD_pre, spClipD_post, qid, rep1, rep2, rep3, rep4, qAt0, List.getD_cons_zero, List.getD_cons_succ]; (repeat' first | apply And.intro | intro _ | omega | assumption | with_reducible rfl); all_goals (first | skip)), ?_⟩
    rintro t hinv
    try dsimp only at hinv
    rcases tmc3 c hinv.1 with hm | ⟨hlt, hm⟩ | ⟨hlt, hm⟩ | ⟨hlt, hm⟩
    all_goals (simp (maxSteps := 1000000) only [go_sem, hm, Tryz.f22, tb22_52, spWork_q, spWork_A, spWork_pre, spWork_post, spClipD_q, spClipD_A, spClipD_B, spClipD_d, spClipD_pre, spClipD_post, qid, rep1, rep2, rep3, rep4, qAt0, List.getD_cons_zero, List.getD_cons_succ])
    repeat' first | apply And.intro | intro _ | omega | assumption | with_reducible rfl
  
    all_goals (first | ((have h9 := qAt_len 3 0 t.toNat; omega); done) | ((rw [qAt_y (W := 3) (j := 0) hinv.1 hm]; simp only [go_sem, List.length_append, List.length_singleton]); done) | ((rw [qAt_y (W := 3) (j := 0) hinv.1 hm, List.map_append]; rfl); done) | ((rw [qAt_n (W := 3) (j := 0) (k := 1) hinv.1 hm (by decide)]); done) | ((rw [qAt_n (W := 3) (j := 0) (k := 2) hinv.1 hm (by decide)]); done) | ((have h9 := qAt_len 3 1 t.toNat; omega); done) | ((rw [qAt_y (W := 3) (j := 1) hinv.1 hm]; simp only [go_sem, List.length_append, List.length_singleton]); done) | ((rw [qAt_y (W := 3) (j := 1) hinv.1 hm, List.map_append]; rfl); done) | ((rw [qAt_n (W := 3) (j := 1) (k := 0) hinv.1 hm (by decide)]); done) | ((rw [qAt_n (W := 3) (j := 1) (k := 2) hinv.1 hm (by decide)]); done) | ((have h9 := qAt_len 3 2 t.toNat; omega); done) | ((rw [qAt_y (W := 3) (j := 2) hinv.1 hm]; simp only [go_sem, List.length_append, List.length_singleton]); done) | ((rw [qAt_y (W := 3) (j := 2) hinv.1 hm, List.map_append]; rfl); done) | ((rw [qAt_n (W := 3) (j := 2) (k := 0) hinv.1 hm (by decide)]); done) | ((rw [qAt_n (W := 3) (j := 2) (k := 1) hinv.1 hm (by decide)]); done) | skip)
    refine loopS (α := (List Dne) × Int × (List (List Int))) false [3, 4, 5, 8, 9, 10, 11, 12, 13, 14, 15, 16, 17, 18, 19, 20, 21, 22, 23, 24, 25, 26, 27, 28, 29, 30, 31, 32, 33, 34, 35, 36, 37, 38, 39, 40, 41, 42, 43, 44, 45, 46, 47, 48, 49, 50, 51, 52, 53, 54, 55, 56, 57, 58, 59, 60, 61, 62, 63, 64, 65, 66, 67, 68, 69, 70, 71, 72, 73, 74, 75, 76, 77, 78, 79, 80, 81, 82, 83, 84, 85, 86, 87, 88, 89, 90, 91, 92, 93, 94, 95, 96, 97, 98, 99, 100, 101, 102, 103, 104, 105, 106, 107, 108, 109, 110] (fun σ => [gId (σ.get 9), 16, 17, 18, 19]) (fun σ x => [(9, .c (.own (gId (σ.get 9)) (x.1).length false)), (10, I x.2.1)]) (fun σ x => [(gId (σ.get 9), some ⟨(x.1).map dnC, 2, 61, true, false⟩), (16, some ⟨(x.2.2).map liC, 1, 70, false, false⟩)]) (fun (o, i, Q) => 0) (fun σ => (gL dnCd σ (σ.get 9), gI (σ.get 10), qDec σ)) (fun σ τ => [(gId (σ.get 9), gId (τ.get 9))]) (fun (o, i, Q) => 0 ≤ i ∧ RunQ 3 c (o.map Dne.t) Q i) (fun (o, i, Q) => msrQ Q (c - (o.map Dne.t).length) i) ⟨by (simp (maxSteps := 1000000) only [go_sem, Tryz.f22, tb22_52, spWork_q, spWork_A, spWork_pre, spWork_post, spClipD_q, spClipD_A, spClipD_B, spClipD_d, spClipD_pre, spClipD_post, qDec, qOf, qOf_li, set_li0, liC_leEs, List.take_length]; (repeat' first | apply And.intro | intro _ | omega | assumption | with_reducible rfl); all_goals (first | exact run_e3 hc1 hm hinv.2 | skip)), ?_⟩
    rintro ⟨o, i, Q⟩ hinv
    try dsimp only at hinv
    obtain ⟨x, hx, h30, hlt⟩ := hpre.turn hinv.1
    obtain ⟨a, ha⟩ := hinv.2.at hx.1
    obtain ⟨b, hb⟩ := hinv.2.at hx.2
    have hf := hinv.2.i9
    have hf2 := hinv.2.out9
    rw [List.length_map] at hf2
    have hQ := hinv.2.w.1
    have hla := hinv.2.len9 ha
    have hlb := hinv.2.len9 hb
    rcases hlt with ⟨hlt, hk⟩ | ⟨hlt, rfl⟩
    all_goals try dsimp only at ha hb hx h30
    all_goals ((first | simp (maxSteps := 1000000) only [go_sem, hk, hlt, ha, hb, Tryz.f22, tb22_52, spWork_q, spWork_A, spWork_pre, spWork_post, spClipD_q, spClipD_A, spClipD_B, spClipD_d, spClipD_pre, spClipD_post, qDec, qOf, qOf_li, set_li0, liC_leEs, List.take_length] | simp (maxSteps := 1000000) only [go_sem,  hlt, ha, hb, Tryz.f22, tb22_52, spWork_q, spWork_A, spWork_pre, spWork_post, spClipD_q, spClipD_A, spClipD_B, spClipD_d, spClipD_pre, spClipD_post, qDec, qOf, qOf_li, set_li0, liC_leEs, List.take_length]))
    repeat' first | apply And.intro | intro _ | omega | assumption | with_reducible rfl
    all_goals (first | (exact (qpop hinv.2 ha (by assumption)).1) | (exact (qpop hinv.2 ha (by assumption)).2) | (exact (qstl hinv.2 hb (by assumption)).1) | (exact (qstl hinv.2 hb (by assumption)).2) | (exact (qidle hinv.2 (by assumption) ha (by assumption) h30).1) | (exact (qidle hinv.2 (by assumption) ha (by assumption) h30).2) | (exact ⟨o, rfl, rfl, hinv.2.fin (by rw [List.length_map]; assumption)⟩; done) | skip)
  · refine loop_ent (ent_tr (ent_tr (ent_tr (ent_nilM (b := 16) (ii := 0) (j := 0) (nb := 17) (kk := 1) (t2 := 3) rfl rfl rfl rfl (by exact (show 17 < 48 by decide))) (ent_nilM (b := 16) (ii := 1) (j := 0) (nb := 18) (kk := 1) (t2 := 3) rfl rfl rfl rfl (by exact (show 18 < 48 by decide)))) (ent_nilM (b := 16) (ii := 2) (j := 0) (nb := 19) (kk := 1) (t2 := 3) rfl rfl rfl rfl (by exact (show 19 < 48 by decide)))) (ent_nilM (b := 16) (ii := 3) (j := 0) (nb := 20) (kk := 1) (t2 := 3) rfl rfl rfl rfl (by exact (show 20 < 48 by decide)))) ?_
    refine loopS (α := Int) false [3, 4, 5, 8, 14, 15, 17, 18, 19, 20, 21, 22, 23, 24, 25, 26, 27, 28, 29, 30, 31, 32, 33, 34, 38, 52, 67, 92] (fun σ => [16, 17, 18, 19, 20]) (fun σ x => [(17, I x)]) (fun σ x => [(16, some ⟨[[C.own 17 (qAt 4 0 x.toNat).length false], [C.own 18 (qAt 4 1 x.toNat).length false], [C.own 19 (qAt 4 2 x.toNat).length false], [C.own 20 (qAt 4 3 x.toNat).length false]], 1, 70, false, false⟩), (17, some ⟨(qAt 4 0 x.toNat).map intC, 1, 3, true, false⟩), (18, some ⟨(qAt 4 1 x.toNat).map intC, 1, 3, true, false⟩), (19, some ⟨(qAt 4 2 x.toNat).map intC, 1, 3, true, false⟩), (20, some ⟨(qAt 4 3 x.toNat).map intC, 1, 3, true, false⟩)]) (fun t => 0) (fun σ => gI (σ.get 17)) (fun σ τ => [(17, qid τ 0), (18, qid τ 1), (19, qid τ 2), (20, qid τ 3)]) (fun t => 0 ≤ t ∧ t ≤ c) (fun t => (c - t).toNat) ⟨by (simp (maxSteps := 1000000) only [go_sem, Tryz.f22, tb22_52, spWork_q, spWork_A, spWork_pre, spWork_post, spClipD_q, spClipD_A, spClipD_B, spClipD_d, spClipD_pre, spClipD_post, qid, rep1, rep2, rep3, rep4, qAt0, List.getD_cons_zero, List.getD_cons_succ]; (repeat' first | apply And.intro | intro _ | omega | assumption | with_reducible rfl); all_goals (first | skip)), ?_⟩
    rintro t hinv
    try dsimp only at hinv
    rcases tmc4 c hinv.1 with hm | ⟨hlt, hm⟩ | ⟨hlt, hm⟩ | ⟨hlt, hm⟩ | ⟨hlt, hm⟩
    all_goals (simp (maxSteps := 1000000) only [go_sem, hm, Tryz.f22, tb22_52, spWork_q, spWork_A, spWork_pre, spWork_post, spClipD_q, spClipD_A, spClipD_B, spClipD_d, spClipD_pre, spClipD_post, qid, rep1, rep2, rep3, rep4, qAt0, List.getD_cons_zero, List.getD_cons_succ])
    repeat' first | apply And.intro | intro _ | omega | assumption | with_reducible rfl
  
    all_goals (first | ((have h9 := qAt_len 4 0 t.toNat; omega); done) | ((rw [qAt_y (W := 4) (j := 0) hinv.1 hm]; simp only [go_sem, List.length_append, List.length_singleton]); done) | ((rw [qAt_y (W := 4) (j := 0) hinv.1 hm, List.map_append]; rfl); done) | ((rw [qAt_n (W := 4) (j := 0) (k := 1) hinv.1 hm (by decide)]); done) | ((rw [qAt_n (W := 4) (j := 0) (k := 2) hinv.1 hm (by decide)]); done) | ((rw [qAt_n (W := 4) (j := 0) (k := 3) hinv.1 hm (by decide)]); done) | ((have h9 := qAt_len 4 1 t.toNat; omega); done) | ((rw [qAt_y (W := 4) (j := 1) hinv.1 hm]; simp only [go_sem, List.length_append, List.length_singleton]); done) | ((rw [qAt_y (W := 4) (j := 1) hinv.1 hm, List.map_append]; rfl); done) | ((rw [qAt_n (W := 4) (j := 1) (k := 0) hinv.1 hm (by decide)]); done) | ((rw [qAt_n (W := 4) (j := 1) (k := 2) hinv.1 hm (by decide)]); done) | ((rw [qAt_n (W := 4) (j := 1) (k := 3) hinv.1 hm (by decide)]); done) | ((have h9 := qAt_len 4 2 t.toNat; omega); done) | ((rw [qAt_y (W := 4) (j := 2) hinv.1 hm]; simp only [go_sem, List.length_append, List.length_singleton]); done) | ((rw [qAt_y (W := 4) (j := 2) hinv.1 hm, List.map_append]; rfl); done) | ((rw [qAt_n (W := 4) (j := 2) (k := 0) hinv.1 hm (by decide)]); done) | ((rw [qAt_n (W := 4) (j := 2) (k := 1) hinv.1 hm (by decide)]); done) | ((rw [qAt_n (W := 4) (j := 2) (k := 3) hinv.1 hm (by decide)]); done) | ((have h9 := qAt_len 4 3 t.toNat; omega); done) | ((rw [qAt_y (W := 4) (j := 3) hinv.1 hm]; simp only [go_sem, List.length_append, List.length_singleton]); done) | ((rw [qAt_y (W := 4) (j := 3) hinv.1 hm, List.map_append]; rfl); done) | ((rw [qAt_n (W := 4) (j := 3) (k := 0) hinv.1 hm (by decide)]); done) | ((rw [qAt_n (W := 4) (j := 3) (k := 1) hinv.1 hm (by decide)]); done) | ((rw [qAt_n (W := 4) (j := 3) (k := 2) hinv.1 hm (by decide)]); done) | skip)
    refine loopS (α := (List Dne) × Int × (List (List Int))) false [3, 4, 5, 8, 9, 10, 11, 12, 13, 14, 15, 16, 17, 18, 19, 20, 21, 22, 23, 24, 25, 26, 27, 28, 29, 30, 31, 32, 33, 34, 35, 36, 37, 38, 39, 40, 41, 42, 43, 44, 45, 46, 47, 48, 49, 50, 51, 52, 53, 54, 55, 56, 57, 58, 59, 60, 61, 62, 63, 64, 65, 66, 67, 68, 69, 70, 71, 72, 73, 74, 75, 76, 77, 78, 79, 80, 81, 82, 83, 84, 85, 86, 87, 88, 89, 90, 91, 92, 93, 94, 95, 96, 97, 98, 99, 100, 101, 102, 103, 104, 105, 106, 107, 108, 109, 110] (fun σ => [gId (σ.get 9), 16, 17, 18, 19, 20]) (fun σ x => [(9, .c (.own (gId (σ.get 9)) (x.1).length false)), (10, I x.2.1)]) (fun σ x => [(gId (σ.get 9), some ⟨(x.1).map dnC, 2, 61, true, false⟩), (16, some ⟨(x.2.2).map liC, 1, 70, false, false⟩)]) (fun (o, i, Q) => 0) (fun σ => (gL dnCd σ (σ.get 9), gI (σ.get 10), qDec σ)) (fun σ τ => [(gId (σ.get 9), gId (τ.get 9))]) (fun (o, i, Q) => 0 ≤ i ∧ RunQ 4 c (o.map Dne.t) Q i) (fun (o, i, Q) => msrQ Q (c - (o.map Dne.t).length) i) ⟨by (simp (maxSteps := 1000000) only [go_sem, Tryz.f22, tb22_52, spWork_q, spWork_A, spWork_pre, spWork_post, spClipD_q, spClipD_A, spClipD_B, spClipD_d, spClipD_pre, spClipD_post, qDec, qOf, qOf_li, set_li0, liC_leEs, List.take_length]; (repeat' first | apply And.intro | intro _ | omega | assumption | with_reducible rfl); all_goals (first | exact run_e4 hc1 hm hinv.2 | skip)), ?_⟩
    rintro ⟨o, i, Q⟩ hinv
    try dsimp only at hinv
    obtain ⟨x, hx, h30, hlt⟩ := hpre.turn hinv.1
    obtain ⟨a, ha⟩ := hinv.2.at hx.1
    obtain ⟨b, hb⟩ := hinv.2.at hx.2
    have hf := hinv.2.i9
    have hf2 := hinv.2.out9
    rw [List.length_map] at hf2
    have hQ := hinv.2.w.1
    have hla := hinv.2.len9 ha
    have hlb := hinv.2.len9 hb
    rcases hlt with ⟨hlt, hk⟩ | ⟨hlt, rfl⟩
    all_goals try dsimp only at ha hb hx h30
    all_goals ((first | simp (maxSteps := 1000000) only [go_sem, hk, hlt, ha, hb, Tryz.f22, tb22_52, spWork_q, spWork_A, spWork_pre, spWork_post, spClipD_q, spClipD_A, spClipD_B, spClipD_d, spClipD_pre, spClipD_post, qDec, qOf, qOf_li, set_li0, liC_leEs, List.take_length] | simp (maxSteps := 1000000) only [go_sem,  hlt, ha, hb, Tryz.f22, tb22_52, spWork_q, spWork_A, spWork_pre, spWork_post, spClipD_q, spClipD_A, spClipD_B, spClipD_d, spClipD_pre, spClipD_post, qDec, qOf, qOf_li, set_li0, liC_leEs, List.take_length]))
    repeat' first | apply And.intro | intro _ | omega | assumption | with_reducible rfl
    all_goals (first | (exact (qpop hinv.2 ha (by assumption)).1) | (exact (qpop hinv.2 ha (by assumption)).2) | (exact (qstl hinv.2 hb (by assumption)).1) | (exact (qstl hinv.2 hb (by assumption)).2) | (exact (qidle hinv.2 (by assumption) ha (by assumption) h30).1) | (exact (qidle hinv.2 (by assumption) ha (by assumption) h30).2) | (exact ⟨o, rfl, rfl, hinv.2.fin (by rw [List.length_map]; assumption)⟩; done) | skip)
theorem sat_impl_work : Sat Tryz.prog rt0 22 (wkIn spWork) := sat_in (sat_out sat_impl_work_0)
section
theorem tcnt_dw {s : Scn} (h : vScn s = true) : tcnt s.w s.h = acr s.w * acr s.h := tcnt_of (vScn_parts h).1
theorem runP_of2 {s : Scn} {W : Int} {l : List Trn} (hv : vScn s = true) (h : vTs W l = true) : RunP (tcnt s.w s.h) W l := by rw [tcnt_dw hv]; exact runP_of hv h
theorem dw_fin {s : Scn} {W : Int} {l : List Trn} {q : List Dne} {o : List Colr} {i : Int} (hv : vScn s = true) (ht : vTs W l = true) (hq : Drawn (tcnt s.w s.h) (q.map Dne.t)) (hi : (0 ≤ i ∧ i ≤ q.length) ∧ o = tilesP s (blankP s) ((q.take i.toNat).map Dne.t)) (hl : ¬ i < (q.length : Int)) : (⟨s.w, s.h, o⟩ : Frm) = dwF s W l := by
  rw [tcnt_dw hv] at hq
  rw [hi.2, takeA (by omega), dw_end hv hq, dwF_y (dw_y hv ht)]
theorem dw_pl {s : Scn} {q : List Dne} {o : List Colr} {i : Int} (hv : vScn s = true) (hi : (0 ≤ i ∧ i ≤ q.length) ∧ o = tilesP s (blankP s) ((q.take i.toNat).map Dne.t)) : (o.length : Int) = s.w * s.h := by
  rw [hi.2, tilesP_len]; exact blankP_len hv
def tb7 : Nat → Option VE.Spec := tabOf [(18, wkIn spVScn), (20, wkIn spTc), (19, wkIn spWVd), (21, wkIn spBlF), (22, wkIn spWork), (23, wkIn spFD)]
theorem tb7_18 : tb7 18 = some (wkIn spVScn) := rfl
theorem tb7_20 : tb7 20 = some (wkIn spTc) := rfl
theorem tb7_19 : tb7 19 = some (wkIn spWVd) := rfl
theorem tb7_21 : tb7 21 = some (wkIn spBlF) := rfl
theorem tb7_22 : tb7 22 = some (wkIn spWork) := rfl
theorem tb7_23 : tb7 23 = some (wkIn spFD) := rfl
theorem tb7_ok : TabOK Tryz.prog rt0 tb7 := (tabOf_cons (by kernel_rfl) sat_impl_ValidScene (tabOf_cons (by kernel_rfl) sat_impl_TileCount (tabOf_cons (by kernel_rfl) sat_impl_workValid (tabOf_cons (by kernel_rfl) sat_impl_BlankFrame (tabOf_cons (by kernel_rfl) sat_impl_work (tabOf_cons (by kernel_rfl) sat_impl_Frame_draw tabOf_nil))))))
section
attribute [local go_sem] Tryz.f7 tb7_18 tb7_20 tb7_19 tb7_21 tb7_22 tb7_23 spDWk_q spDWk_A spDWk_pre spDWk_post spVScn_q spVScn_A spVScn_pre spVScn_post spTc_q spTc_A spTc_pre spTc_post spWVd_q spWVd_A spWVd_pre spWVd_post spBlF_q spBlF_A spBlF_pre spBlF_post spWork_q spWork_A spWork_pre spWork_post spFD_q spFD_A spFD_B spFD_d spFD_pre spFD_post
set_option maxHeartbeats 4000000 in
theorem sat_impl_DrawWorkers_0 : Sat Tryz.prog rt0 7 (wkOut spDWk) := by
  refine fn_sat hm ttok (tab := tb7) tb7_ok Tryz.func7 (c := Tryz.f7.body.getD .skip) (by kernel_rfl) (ts := [.cell 6 31, .tmp 7]) (by kernel_rfl) Tryz.ntmps7 (sq := fun _ => true) (by kernel_rfl) ?_
  intro args ins pk hpre0 hpk
  obtain ⟨rfl, hpre0⟩ := hpre0
  obtain ⟨⟨s, W, l⟩, rfl, hpre, hdec⟩ := famPre_ex hpre0
  clear hpre0 hdec
  try simp only [spDWk_pre] at hpre
  replace hpk : pk + 0 ≤ pickLimit := hpk
  refine ⟨nle rfl, ?_⟩
  simp (maxSteps := 1000000) only [go_sem]
  repeat' first | apply And.intro | intro _ | omega | assumption | with_reducible rfl
  any_goals
    rename_i q hq
    have hql := hq.len
    rw [List.length_map] at hql
    refine loopS (α := (List Colr) × Int) false [0, 1, 2, 4, 5, 9, 10, 11, 12, 13, 14, 15, 16, 17, 18, 19, 20, 21, 22, 23, 24, 25, 26, 27, 28, 29, 30, 31, 32, 33, 34, 35, 36, 37, 40, 41, 42, 43, 44, 45, 46, 47, 48, 49] (fun σ => [168]) (fun σ x => [(40, I x.2)]) (fun σ x => [(168, some ⟨(x.1).map coC, 4, 66, true, false⟩)]) (fun (o, i) => 0) (fun σ => (gL coCd σ (.c (.own 168 (boxN σ 168).es.length false)), gI (σ.get 40))) (fun σ τ => []) (fun (o, i) => (0 ≤ i ∧ i ≤ q.length) ∧ o = tilesP s (blankP s) ((q.take i.toNat).map Dne.t)) (fun (o, i) => (q.length - i).toNat) ⟨by (simp (maxSteps := 1000000) only [go_sem]; (repeat' first | apply And.intro | intro _ | omega | assumption | with_reducible rfl); all_goals (first | rfl | skip)), ?_⟩
    rintro ⟨o, i⟩ hinv
    try dsimp only at hinv
    rcases elemAt q i (by omega) with ⟨hlt, x, hk⟩ | hlt
    all_goals (first | ((have hlt2 := of_eq_true hlt); all_goals simp (maxSteps := 1000000) only [go_sem, hlt, hk]) | (have hlt2 := of_eq_false hlt; simp (maxSteps := 1000000) only [go_sem, hlt]))
    all_goals
      repeat' first | apply And.intro | intro _ | omega | assumption | with_reducible rfl
  
  all_goals (first | (exact trivial) | ((constructor <;> trivial); done) | (exact hpre.1) | ((rw [tcnt_dw ‹_›]; have h9 := acr_mul (vScn_parts ‹vScn s = true›).1; omega); done) | ((have h9 := acr_mul (vScn_parts ‹vScn s = true›).1; have h8 := tcnt_dw ‹vScn s = true›; omega); done) | ((have h9 := tcnt_9 s.w s.h; omega); done) | ((have h9 := tcnt_bd s.w s.h; omega); done) | (exact (vScn_parts ‹vScn s = true›).1) | (exact runP_of2 ‹_› ‹_›) | ((rw [dwF_n (dw_n1 ‹vScn s = false›)]; rfl); done) | (exact (dw_n1 ‹vScn s = false›).symm) | ((rw [dwF_n (dw_n2 ‹vTs W l = false›)]; rfl); done) | (exact (dw_n2 ‹vTs W l = false›).symm) | (exact (dw_y ‹_› ‹_›).symm) | (exact dw_it ‹_› (tcnt_dw ‹vScn s = true› ▸ hq) hk) | (exact dw_pl ‹_› hinv) | ((have h9 := dw_pl ‹_› hinv; omega); done) | ((rw [hinv.2]; rw [dw_step _ hk hinv.1.1]); done) | ((rw [← dw_fin ‹_› ‹_› hq hinv hlt2]; rfl); done) | (skip; done))
end
theorem sat_impl_DrawWorkers : Sat Tryz.prog rt0 7 (wkIn spDWk) := sat_in (sat_out sat_impl_DrawWorkers_0)
end
section
theorem tn_set (o : List Trn) (x y : Int) : wkEs ((List.map tnC o).set 0 [C.v (.int .i64 x), C.v (.int .i64 y)]) = List.map tnC (o.set 0 ⟨x, y⟩) := by
  have e : (List.map tnC o).set 0 [C.v (.int .i64 x), C.v (.int .i64 y)] = List.map tnC (o.set 0 ⟨x, y⟩) := by rw [List.map_set]; rfl
  rw [e]; exact tnC_wks _
def spATn_A : Unit → List AV
  | () => [.c .rdr]
def spATn_pre : Unit → Prop
  | () => True
def spATn_post : Unit → AV → List Box → Prop
  | (), r, bs => ∃ (W : Int) (l : List Trn), r = .tup [I W, .c (.sl false (l.map tnC))] ∧ bs = [] ∧ (0 ≤ W ∧ W ≤ 5) ∧ l.length ≤ 31
def spATn : VE.Spec := famSpecS spATn_A d_r spATn_pre spATn_post 80 false
theorem spATn_q : SpQ spATn false [] true 80 (fun a i => i = [] ∧ famPre d_r spATn_A spATn_pre a) (fun a i r b => famPost d_r spATn_post a r b) := ⟨rfl, rfl, rfl, rfl, fun _ _ => rfl, fun _ _ _ _ => rfl⟩
def tb17 : Nat → Option VE.Spec := tabOf [(40, wkIn spOne), (42, wkIn spPick)]
theorem tb17_40 : tb17 40 = some (wkIn spOne) := rfl
theorem tb17_42 : tb17 42 = some (wkIn spPick) := rfl
theorem tb17_ok : TabOK Tryz.prog rt0 tb17 := (tabOf_cons (by kernel_rfl) sat_spec_reader_one (tabOf_cons (by kernel_rfl) sat_spec_reader_pick tabOf_nil))
section
attribute [local go_sem] Tryz.f17 tb17_40 tb17_42 spATn_q spATn_A spATn_pre spATn_post spOne_q spOne_A spOne_pre spOne_post spPick_q spPick_A spPick_pre spPick_post
set_option maxHeartbeats 4000000 in
theorem sat_spec_anyTurns_0 : Sat Tryz.prog rt0 17 (wkOut spATn) := by
  refine fn_sat hm ttok (tab := tb17) tb17_ok Tryz.func17 (c := Tryz.f17.body.getD .skip) (by kernel_rfl) (ts := [.tmp 2, .tmp 3]) (by kernel_rfl) Tryz.ntmps17 (sq := fun _ => true) (by kernel_rfl) ?_
  intro args ins pk hpre0 hpk
  obtain ⟨rfl, hpre0⟩ := hpre0
  obtain ⟨⟨⟩, rfl, hpre, hdec⟩ := famPre_ex hpre0
  clear hpre0 hdec
  try simp only [spATn_pre] at hpre
  replace hpk : pk + 80 ≤ pickLimit := hpk
  refine ⟨nle rfl, ?_⟩
  simp (maxSteps := 1000000) only [go_sem, Picks]
  repeat' first | apply And.intro | intro _ | omega | assumption | with_reducible rfl
  all_goals try (simp only [List.mem_cons, List.not_mem_nil, or_false] at *)
  any_goals
    refine loopS (α := (List Trn) × Int) false [1, 5, 6, 7, 8, 9, 10, 11, 12, 13, 14, 15, 16, 17, 18, 19, 20, 21, 22, 23, 24, 25, 26, 27, 28, 29, 37] (fun σ => [gId (σ.get 5)]) (fun σ x => [(5, .c (.own (gId (σ.get 5)) (x.1).length false)), (6, I x.2)]) (fun σ x => [(gId (σ.get 5), some ⟨(x.1).map tnC, 2, 81, true, false⟩)]) (fun (o, n) => 2 * o.length) (fun σ => (gL tnCd σ (σ.get 5), gI (σ.get 6))) (fun σ τ => [(gId (σ.get 5), gId (τ.get 5))]) (fun (o, n) => 0 ≤ n ∧ o.length + n ≤ 31) (fun (o, n) => n.toNat) ⟨by (simp (maxSteps := 1000000) only [go_sem, Picks]; (repeat' first | apply And.intro | intro _ | omega | assumption | with_reducible rfl); all_goals (first | omega)), ?_⟩
    rintro ⟨o, n⟩ hinv
    try dsimp only at hinv
    simp (maxSteps := 1000000) only [go_sem, Picks]
    repeat' first | apply And.intro | intro _ | omega | assumption | with_reducible rfl
  
  all_goals (first | omega | (exact ⟨_, _, rfl, rfl, by omega, by omega, by omega⟩) | (exact ⟨_, _, rfl, tn_set o _ _, by omega, by omega, by rw [List.length_set]; omega⟩; done) | (skip; done))
end
theorem sat_spec_anyTurns : Sat Tryz.prog rt0 17 (wkIn spATn) := sat_in (sat_out sat_spec_anyTurns_0)
end
def spDDW_A : (List UInt8) → List AV
  | code => [.c (.sl false (byC code))]
def spDDW_pre : (List UInt8) → Prop
  | code => code.length ≤ 1048576
def spDDW_post : (List UInt8) → AV → List Box → Prop
  | code, r, bs => ∃ (s : Scn) (W : Int) (l : List Trn), r = .tup [.agg (scC s), I W, .c (.sl false (l.map tnC))] ∧ bs = [] ∧ okScn s ∧ (0 ≤ W ∧ W ≤ 5) ∧ l.length ≤ 31
def spDDW : VE.Spec := famSpecS spDDW_A d_ly spDDW_pre spDDW_post 1500 false
theorem spDDW_q : SpQ spDDW false [] true 1500 (fun a i => i = [] ∧ famPre d_ly spDDW_A spDDW_pre a) (fun a i r b => famPost d_ly spDDW_post a r b) := ⟨rfl, rfl, rfl, rfl, fun _ _ => rfl, fun _ _ _ _ => rfl⟩
def tb6 : Nat → Option VE.Spec := tabOf [(15, wkIn spNew), (16, wkIn spAScn), (17, wkIn spATn)]
theorem tb6_15 : tb6 15 = some (wkIn spNew) := rfl
theorem tb6_16 : tb6 16 = some (wkIn spAScn) := rfl
theorem tb6_17 : tb6 17 = some (wkIn spATn) := rfl
theorem tb6_ok : TabOK Tryz.prog rt0 tb6 := (tabOf_cons (by kernel_rfl) sat_spec_newReader (tabOf_cons (by kernel_rfl) sat_spec_anyScene (tabOf_cons (by kernel_rfl) sat_spec_anyTurns tabOf_nil)))
set_option maxHeartbeats 4000000 in
theorem sat_spec_DrawDrawWorkers_0 : Sat Tryz.prog rt0 6 (wkOut spDDW) := by
  refine fn_sat hm ttok (tab := tb6) tb6_ok Tryz.func6 (c := Tryz.f6.body.getD .skip) (by kernel_rfl) (ts := [.cell 2 25, .tmp 3, .tmp 4]) (by kernel_rfl) Tryz.ntmps6 (sq := fun _ => true) (by kernel_rfl) ?_
  intro args ins pk hpre0 hpk
  obtain ⟨rfl, hpre0⟩ := hpre0
  obtain ⟨code, rfl, hpre, hdec⟩ := famPre_ex hpre0
  clear hpre0 hdec
  try simp only [spDDW_pre] at hpre
  replace hpk : pk + 1500 ≤ pickLimit := hpk
  refine ⟨nle rfl, ?_⟩
  simp (maxSteps := 1000000) only [go_sem, Tryz.f6, tb6_15, tb6_16, tb6_17, spDDW_q, spDDW_A, spDDW_pre, spDDW_post, spNew_q, spAScn_q, spAScn_A, spAScn_pre, spAScn_post, spATn_q, spATn_A, spATn_pre, spATn_post]
  repeat' first | apply And.intro | intro _ | omega | assumption | with_reducible rfl
  all_goals (first | (exact ⟨_, _, rfl, rfl, hpre⟩) | (exact trivial) | (assumption; done) | (exact ⟨_, _, _, rfl, rfl, rfl, ‹okScn _›, ‹_›, ‹_›⟩) | (exact ⟨_, _, _, rfl, rfl, rfl, ‹okScn _›, by omega, by omega, by omega⟩) | (exact ⟨_, _, _, rfl, rfl, rfl, rfl, ‹okScn _›, by omega, by omega, by omega⟩) | (skip; done))
theorem sat_spec_DrawDrawWorkers : Sat Tryz.prog rt0 6 (wkIn spDDW) := sat_in (sat_out sat_spec_DrawDrawWorkers_0)
end Go.Proofs.YtcejoknapbhloaaGreat
