/- Contracts of functions of the program vectorraster, each proved for all states that fit its description. No conditions. -/
import Derived.Test.YthphndhiacikaaaGreatDoorPC
import Derived.Test.YthphndhiacikaaaGreatDoorPA
import Derived.Test.YthphndhiacikaaaGreatDoorKK
set_option linter.unusedSimpArgs false
set_option linter.unusedVariables false
set_option maxRecDepth 100000
namespace Go.Proofs.YthphndhiacikaaaGreatDoor
open Go Go.VE
def polyV (l : List Pt) : List Verb := (l.mapIdx fun i p => ⟨if i = 0 then 0 else 1, [p]⟩) ++ [⟨4, []⟩]
def vBx (b : Bx) : Bool := decide (((-1000 ≤ b.l ∧ b.l ≤ 1000) ∧ (-1000 ≤ b.t ∧ b.t ≤ 1000) ∧ (-1000 ≤ b.r ∧ b.r ≤ 1000) ∧ -1000 ≤ b.b ∧ b.b ≤ 1000) ∧ b.l ≤ b.r ∧ b.t ≤ b.b)
def bxPts (b : Bx) : List Pt := [⟨b.l, b.t⟩, ⟨b.r, b.t⟩, ⟨b.r, b.b⟩, ⟨b.l, b.b⟩]
def bxOk (b : Bx) : Bool := vBx b && !decide (b.l = b.r ∨ b.t = b.b)
def Picks (n m : Int) : Prop := (n < 1 → m = 0) ∧ (1 ≤ n → 0 ≤ m ∧ m < n)
structure PB where
  n : Int
  bv : Value
  bs : List (List C)
  p : Int
def pbIns (x : PB) : List Box := [⟨[[.ex x.bv (.sl false x.bs), .v (.int .i64 x.p)]], 2, 85, false, false⟩]
def dPB : List AV → List Box → Option PB
  | [.c (.ptr 0 1 0 0), .c (.v (.int .i64 n))], [⟨[[.ex bv (.sl false bs), .v (.int .i64 p)]], _, _, _, _⟩] => some ⟨n, bv, bs, p⟩
  | _, _ => none
def spPickB_A : PB → List AV := fun x => [.c (.ptr 0 1 0 0), I x.n]
def spPickB_pre : PB → Prop := fun x => (∃ bs : List UInt8, x.bs = byC bs ∧ bs.length ≤ 2000) ∧ 0 ≤ x.p ∧ x.p + 1 ≤ 1073741824
def spPickB_post : PB → AV → List Box → Prop := fun x r bs => ∃ m, Picks x.n m ∧ r = I m ∧ bs = pbIns { x with p := x.p + 1 }
def spPickB : VE.Spec := famSpecM spPickB_A pbIns dPB spPickB_pre spPickB_post 0 false [true] false
theorem spPickB_q : SpQ spPickB false [true] false 0 (fun a i => famPreM dPB spPickB_A pbIns spPickB_pre a i) (fun a i r b => famPostM dPB spPickB_post a i r b) := ⟨rfl, rfl, rfl, rfl, fun _ _ => rfl, fun _ _ _ _ => rfl⟩
def tb23N : Nat → Option VE.Spec := tabOf []
set_option maxHeartbeats 4000000 in
theorem sat_pickB : Sat Tryz.prog rt0 23 spPickB := by
  refine fn_sat hm ttok (tab := tb23N) tabOf_nil Tryz.func23 (c := Tryz.f23.body.getD .skip) (by kernel_rfl) (ts := [.tmp 4]) (by kernel_rfl) Tryz.ntmps23 (sq := fun _ => true) (by kernel_rfl) ?_
  intro args ins pk hpre0 hpk
  obtain ⟨⟨n, bv, es, p⟩, rfl, rfl, hpre, hdec⟩ := famPreM_ex hpre0
  clear hpre0 hdec
  replace hpk : pk + 0 ≤ pickLimit := hpk
  obtain ⟨⟨bs, rfl, hbs⟩, hp0, hp1⟩ := hpre
  refine ⟨nle rfl, ?_⟩
  dsimp only at hp0 hp1
  simp (maxSteps := 1000000) only [go_sem, Tryz.f23, spPickB_q, spPickB_A, pbIns, spPickB_pre, spPickB_post, dPB]
  have hx : ∀ m : Int, 0 ≤ m → ¬ n < 1 → ∃ m', Picks n m' ∧ m.tmod n = m' := fun m hm h => ⟨_, ⟨fun h' => absurd h' h, fun h' => ⟨Int.tmod_nonneg _ hm, Int.tmod_lt_of_pos _ (by omega)⟩⟩, rfl⟩
  have hz : n < 1 → ∃ m', Picks n m' ∧ 0 = m' := fun h => ⟨0, ⟨fun _ => rfl, fun h' => by omega⟩, rfl⟩
  have hz2 : ¬ n < 1 → ∃ m', Picks n m' ∧ 0 = m' := fun h => ⟨0, ⟨fun h' => absurd h' h, fun h' => by omega⟩, rfl⟩
  have u8 : ∀ k : UInt8, (k.toNat : Int) ≤ 255 := fun k => by have := k.toNat_lt; omega
  simp only [Int.add_sub_cancel]
  refine ⟨by omega, by omega, hz, fun h => ⟨fun _ => hz2 h, fun h0 => ⟨by omega, by omega, fun h1 => ⟨by omega, h1, fun k hk => ⟨by omega, by have := u8 k; omega, by omega, hx _ (by omega) h⟩⟩, fun h1 => ?_⟩⟩⟩
  have hL : (0 : Int) < bs.length := by omega
  have m1 := Int.tmod_nonneg (bs.length : Int) hp0
  have m2 := Int.tmod_lt_of_pos p hL
  have m3 := Int.tmod_nonneg (bs.length : Int) (show 0 ≤ p * 7 + 3 by omega)
  have m4 := Int.tmod_lt_of_pos (p * 7 + 3) hL
  have d1 : 0 ≤ p.tdiv bs.length := Int.tdiv_nonneg hp0 (by omega)
  have d2 : p.tdiv bs.length ≤ p := by rw [Int.tdiv_eq_ediv_of_nonneg hp0]; exact Int.ediv_le_self _ hp0
  generalize p.tdiv bs.length = q at *
  refine ⟨h0, m1, m2, fun k hk => ?_⟩
  have u1 := u8 k
  refine ⟨by omega, by omega, by omega, by omega, by omega, by omega, by omega, by omega, h0, m3, m4, fun k' hk' => ?_⟩
  have u2 := u8 k'
  generalize hX : (k.toNat : Int) * 131 + k'.toNat * 1117 + p * 29 + q * 53 = x
  have x0 : 0 ≤ x := by omega
  have x1 : x ≤ 1000000000000 := by omega
  have t1 : x.tdiv 64 = x / 64 := Int.tdiv_eq_ediv_of_nonneg x0
  rw [t1]
  repeat' (first | apply And.intro | omega | exact hx _ (by omega) h | exact h0)
def spPick_A : Int → List AV
  | n => [.c .rdr, I n]
def spPick_pre : Int → Prop
  | n => True
def spPick_post : Int → AV → List Box → Prop
  | n, r, bs => ∃ m, r = I m ∧ bs = [] ∧ Picks n m
def spPick : VE.Spec := famSpec spPick_A d_r_i spPick_pre spPick_post 1 false
theorem spPick_q : SpQ spPick false [] false 1 (fun a i => i = [] ∧ famPre d_r_i spPick_A spPick_pre a) (fun a i r b => famPost d_r_i spPick_post a r b) := ⟨rfl, rfl, rfl, rfl, fun _ _ => rfl, fun _ _ _ _ => rfl⟩
theorem sat_spec_reader_pick_0 : Sat Tryz.prog rt0 23 spPick := by
  refine rdr_sat sat_pickB rfl rfl (fun args ins h => ?_) (fun rest bv bs p r out hp h => ?_)
  · obtain ⟨rfl, h⟩ := h
    obtain ⟨n, rfl, _, _⟩ := famPre_ex h
    refine ⟨rfl, [I n], rfl, by simp, fun bv bs p hb hp => ?_⟩
    have hp' : p + 1 ≤ 1073741824 := hp
    exact ⟨rfl, rfl, ⟨bs, rfl, hb⟩, Int.natCast_nonneg p, by show (p : Int) + 1 ≤ 1073741824; omega⟩
  · obtain ⟨-, hp⟩ := hp
    obtain ⟨n, e, _, _⟩ := famPre_ex hp
    cases e
    obtain ⟨m, h1, rfl, rfl⟩ := h
    exact ⟨p + 1, rfl, Nat.le_refl _, ⟨_, _, rfl⟩, m, rfl, rfl, h1⟩
theorem sat_spec_reader_pick : Sat Tryz.prog rt0 23 (wkIn spPick) := sat_in sat_spec_reader_pick_0
/-- newReader: any code. -/
def spNew : VE.Spec := ⟨fun args ins => ins = [] ∧ ∃ t bs, args = [.c (.sl t (byC bs))] ∧ bs.length ≤ 1048576, fun _ _ r bs => r = .c .rdr ∧ bs = [], 0, false, [], false⟩
theorem spNew_q : SpQ spNew false [] false 0 (fun a i => i = [] ∧ ∃ t bs, a = [.c (.sl t (byC bs))] ∧ bs.length ≤ 1048576) (fun a i r b => r = .c .rdr ∧ b = []) := ⟨rfl, rfl, rfl, rfl, fun _ _ => rfl, fun _ _ _ _ => rfl⟩
set_option maxHeartbeats 4000000 in
theorem sat_spec_newReader_0 : Sat Tryz.prog rt0 20 spNew := by
  intro w Av Rd pk args vs ins β0 cp0 T hpre hpk
  obtain ⟨rfl, t, bs, rfl, hlen⟩ := hpre
  refine calls_of_wp Tryz.func20 (c := Tryz.f20.body.getD .skip) (by kernel_rfl) ?_
  have hG := good_entry (nt := Tryz.f20.ntmps) T (by rw [Tryz.ntmps20]; simp)
  refine runW_sound (X := ⟨rt0, w, Av, Rd, entPins [] β0 cp0, [], w, fun _ => False⟩) (tab := tabOf []) ttok tabOf_nil _ (dwS_ok hm ttok tabOf_nil (sq := fun _ => true) (by kernel_rfl)) _ _ _
    (fun e s => match e with
      | .exit _ => False
      | _ => ∃ b cs tf, s.get 2 = .c (.ptr b 1 0 0) ∧ s.box b = some ⟨[[.sl tf (byC cs), .v (.int .i64 0)]], 2, rt0.t, false, false⟩ ∧ cs.length ≤ 2000 ∧ s.pk ≤ pk) _ ⟨_, _, _, hG⟩ ?_ ?_
  · rw [Tryz.ntmps20]
    simp (maxSteps := 1000000) only [go_sem, Tryz.f20]
    refine ⟨fun h => ⟨by omega, by omega, by omega, _, bs.take 2000, false, rfl, ?_, by simp; omega⟩, fun h => ⟨_, bs, t, rfl, rfl, by omega⟩⟩
    simp [byC, List.map_take, rt0_t]
  · refine ⟨fun s a w' h1 h2 => ?_, fun i s a w' h1 h2 => h1.elim, fun s a w' h1 h2 => ?_⟩
    all_goals
      obtain ⟨b, cs, tf, g1, g2, g3, g4⟩ := h1
      exact reader_exit (sp := spNew) (by kernel_rfl) rfl h2 g1 g2 g3 (by simpa [spNew] using g4) ⟨rfl, rfl⟩
theorem sat_spec_newReader : Sat Tryz.prog rt0 20 (wkIn spNew) := sat_in sat_spec_newReader_0
def spOne_A : (List Int) → List AV
  | l => [.c .rdr, .c (.sl false (l.map intC))]
def spOne_pre : (List Int) → Prop
  | l => 0 < l.length ∧ l.length ≤ 1000000
def spOne_post : (List Int) → AV → List Box → Prop
  | l, r, bs => ∃ m, r = I m ∧ bs = [] ∧ m ∈ l
def spOne : VE.Spec := famSpec spOne_A d_r_li spOne_pre spOne_post 1 false
theorem spOne_q : SpQ spOne false [] false 1 (fun a i => i = [] ∧ famPre d_r_li spOne_A spOne_pre a) (fun a i r b => famPost d_r_li spOne_post a r b) := ⟨rfl, rfl, rfl, rfl, fun _ _ => rfl, fun _ _ _ _ => rfl⟩
def tb41 : Nat → Option VE.Spec := tabOf [(23, wkIn spPick)]
theorem tb41_23 : tb41 23 = some (wkIn spPick) := rfl
theorem tb41_ok : TabOK Tryz.prog rt0 tb41 := (tabOf_cons (by kernel_rfl) sat_spec_reader_pick tabOf_nil)
set_option maxHeartbeats 4000000 in
theorem sat_spec_reader_one_0 : Sat Tryz.prog rt0 41 (wkOut spOne) := by
  refine fn_sat hm ttok (tab := tb41) tb41_ok Tryz.func41 (c := Tryz.f41.body.getD .skip) (by kernel_rfl) (ts := [.tmp 4]) (by kernel_rfl) Tryz.ntmps41 (sq := fun _ => true) (by kernel_rfl) ?_
  intro args ins pk hpre0 hpk
  obtain ⟨rfl, hpre0⟩ := hpre0
  obtain ⟨l, rfl, hpre, hdec⟩ := famPre_ex hpre0
  clear hpre0 hdec
  try simp only [spOne_pre] at hpre
  replace hpk : pk + 1 ≤ pickLimit := hpk
  refine ⟨nle rfl, ?_⟩
  simp (maxSteps := 1000000) only [go_sem, Tryz.f41, tb41_23, spOne_q, spOne_A, spOne_pre, spOne_post, spPick_q, spPick_A, spPick_pre, spPick_post, Picks]
  repeat' first | apply And.intro | intro _ | omega | assumption | with_reducible rfl
  all_goals (first | ((exact ⟨_, rfl, List.mem_of_getElem? ‹_›⟩); done) | (grind; done))
theorem sat_spec_reader_one : Sat Tryz.prog rt0 41 (wkIn spOne) := sat_in (sat_out sat_spec_reader_one_0)
def lastK (o : List Verb) : Int := (o.getLast?.map (·.k)).getD 4
theorem vv_snoc (v : Verb) : ∀ (o : List Verb) (b : Bool), vVerbs b (o ++ [v]) = (vVerbs b o && vVerb (match o.getLast? with
  | none => b
  | some w => decide (w.k = 4)) v)
  | [], b => by simp [vVerbs]
  | [a], b => by simp [vVerbs]
  | a :: c :: r, b => by
    have := vv_snoc v (c :: r) (decide (a.k = 4))
    obtain ⟨w, hw⟩ : ∃ w, (c :: r).getLast? = some w := ⟨_, List.getLast?_eq_some_getLast (List.cons_ne_nil c r)⟩
    rw [hw] at this
    rw [List.getLast?_cons_cons, hw]
    rw [show (a :: c :: r) ++ [v] = a :: ((c :: r) ++ [v]) from rfl]
    rw [vVerbs, vVerbs, this, Bool.and_assoc]
theorem vv_last (v : Verb) (o : List Verb) : vVerbs true (o ++ [v]) = (vVerbs true o && vVerb (decide (lastK o = 4)) v) := by
  rw [vv_snoc]
  unfold lastK
  cases o.getLast? <;> rfl
theorem lastK_snoc (o : List Verb) (v : Verb) : lastK (o ++ [v]) = v.k := by simp [lastK]
theorem nPts_snoc (o : List Verb) (v : Verb) : nPts (o ++ [v]) = nPts o + v.ps.length := by simp [nPts]
structure PV (o : List Verb) (a b : Int) : Prop where
  vv : vVerbs true o = true
  len : (o.length : Int) ≤ a
  pts : (nPts o : Int) ≤ b
theorem PV.nil : PV [] 0 0 := ⟨rfl, by simp, by simp [nPts]⟩
theorem PV.mono {o : List Verb} {a b a' b' : Int} (h : PV o a b) (h1 : a ≤ a') (h2 : b ≤ b') : PV o a' b' := ⟨h.vv, by have := h.len; omega, by have := h.pts; omega⟩
theorem PV.move {o : List Verb} {a b : Int} (h : PV o a b) {p : Pt} (hp : vPt p = true) : PV (o ++ [⟨0, [p]⟩]) (a + 1) (b + 1) := by
  refine ⟨?_, by have := h.len; simp only [List.length_append, List.length_singleton]; omega, by have := h.pts; rw [nPts_snoc]; simp only [List.length_singleton]; omega⟩
  rw [vv_last, h.vv]
  simp [vVerb, many, vPts, hp]
theorem PV.verb {o : List Verb} {a b k : Int} (h : PV o a b) {l : List Pt} (hk : lastK o ≠ 4) (k1 : 1 ≤ k) (k3 : k ≤ 3) (hl : (l.length : Int) = k) (hp : l.all vPt = true) : PV (o ++ [⟨k, l⟩]) (a + 1) (b + 3) := by
  refine ⟨?_, by have := h.len; simp only [List.length_append, List.length_singleton]; omega, by have := h.pts; rw [nPts_snoc]; dsimp only; omega⟩
  have hm : (l.length : Int) = many k := by
    have : k = 1 ∨ k = 2 ∨ k = 3 := by omega
    rcases this with rfl | rfl | rfl <;> simpa [many] using hl
  rw [vv_last, h.vv, decide_eq_false hk]
  unfold vVerb vPts
  rw [decide_eq_true (p := 0 ≤ k ∧ k ≤ 4) (by omega), decide_eq_true hm, decide_eq_true (p := l.length ≤ 40) (by omega), hp]
  rfl
theorem PV.shut {o : List Verb} {a b : Int} (h : PV o a b) (hk : lastK o ≠ 4) : PV (o ++ [⟨4, []⟩]) (a + 1) b := by
  refine ⟨?_, by have := h.len; simp only [List.length_append, List.length_singleton]; omega, by have := h.pts; rw [nPts_snoc]; simp only [List.length_nil]; omega⟩
  rw [vv_last, h.vv, decide_eq_false hk]
  simp [vVerb, many, vPts]
theorem PV.box {o : List Verb} {a b : Int} (h : PV o a b) {x : Bx} (hx : bxOk x = true) : PV (o ++ polyV (bxPts x)) (a + 5) (b + 4) := by
  simp only [bxOk, vBx, Bool.and_eq_true, decide_eq_true_eq] at hx
  have e : polyV (bxPts x) = [⟨0, [⟨x.l, x.t⟩]⟩, ⟨1, [⟨x.r, x.t⟩]⟩, ⟨1, [⟨x.r, x.b⟩]⟩, ⟨1, [⟨x.l, x.b⟩]⟩, ⟨4, []⟩] := rfl
  have v1 : vPt ⟨x.l, x.t⟩ = true := by simp [vPt, isU]; omega
  have v2 : vPt ⟨x.r, x.t⟩ = true := by simp [vPt, isU]; omega
  have v3 : vPt ⟨x.r, x.b⟩ = true := by simp [vPt, isU]; omega
  have v4 : vPt ⟨x.l, x.b⟩ = true := by simp [vPt, isU]; omega
  have q1 := h.move v1
  have q2 := q1.verb (l := [⟨x.r, x.t⟩]) (k := 1) (by rw [lastK_snoc]; simp) (by decide) (by decide) rfl (by simp [v2])
  have q3 := q2.verb (l := [⟨x.r, x.b⟩]) (k := 1) (by rw [lastK_snoc]; simp) (by decide) (by decide) rfl (by simp [v3])
  have q4 := q3.verb (l := [⟨x.l, x.b⟩]) (k := 1) (by rw [lastK_snoc]; simp) (by decide) (by decide) rfl (by simp [v4])
  have q5 := q4.shut (by rw [lastK_snoc]; simp)
  rw [e]
  simp only [List.append_assoc, List.cons_append, List.nil_append] at q5
  refine ⟨q5.vv, by have := q5.len; omega, ?_⟩
  have := h.pts
  simp only [nPts, List.map_append, List.sum_append, List.map_cons, List.map_nil, List.sum_cons, List.sum_nil, List.length_cons, List.length_nil] at this ⊢
  omega
theorem PV.sub {o o' : List Verb} {a b a' b' : Int} (h : PV o' a b) (e : o' = o) (h1 : a ≤ a') (h2 : b ≤ b') : PV o a' b' := e ▸ h.mono h1 h2
end Go.Proofs.YthphndhiacikaaaGreatDoor
