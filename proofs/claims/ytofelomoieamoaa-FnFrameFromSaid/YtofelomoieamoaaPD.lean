/- Contracts of functions of the program vectorraster, each proved for all states that fit its description. No conditions. -/
import Derived.Test.YtofelomoieamoaaKK
set_option linter.unusedSimpArgs false
set_option linter.unusedVariables false
section
set_option maxRecDepth 100000
set_option linter.unusedSimpArgs false
set_option linter.unusedVariables false
namespace Go.Proofs.Ytofelomoieamoaa
open Go Go.VE
def Picks (n m : Int) : Prop := (n < 1 → m = 0) ∧ (1 ≤ n → 0 ≤ m ∧ m < n)
structure PB where
  n : Int
  bv : Value
  bs : List (List C)
  p : Int
def pbIns (x : PB) : List Box := [⟨[[.ex x.bv (.sl false x.bs), .v (.int .i64 x.p)]], 2, 84, false, false⟩]
def dPB : List AV → List Box → Option PB
  | [.c (.ptr 0 1 0 0), .c (.v (.int .i64 n))], [⟨[[.ex bv (.sl false bs), .v (.int .i64 p)]], _, _, _, _⟩] => some ⟨n, bv, bs, p⟩
  | _, _ => none
def spPickB_A : PB → List AV := fun x => [.c (.ptr 0 1 0 0), I x.n]
def spPickB_pre : PB → Prop := fun x => (∃ bs : List UInt8, x.bs = byC bs ∧ bs.length ≤ 2000) ∧ 0 ≤ x.p ∧ x.p + 1 ≤ 1073741824
def spPickB_post : PB → AV → List Box → Prop := fun x r bs => ∃ m, Picks x.n m ∧ r = I m ∧ bs = pbIns { x with p := x.p + 1 }
def spPickB : VE.Spec := famSpecM spPickB_A pbIns dPB spPickB_pre spPickB_post 0 false [true] false
theorem spPickB_q : spPickB.flat = false ∧ spPickB.mt = [true] ∧ spPickB.shut = false ∧ spPickB.cost = 0 ∧ (∀ a i, spPickB.pre a i = (famPreM dPB spPickB_A pbIns spPickB_pre a i)) ∧ ∀ a i r b, spPickB.post a i r b = (famPostM dPB spPickB_post a i r b) := ⟨rfl, rfl, rfl, rfl, fun _ _ => rfl, fun _ _ _ _ => rfl⟩
def tb57N : Nat → Option VE.Spec := tabOf []
set_option maxHeartbeats 4000000 in
theorem sat_pickB : Sat Try.prog rt0 57 spPickB := by
  refine fn_sat hm ttok (tab := tb57N) tabOf_nil Try.func57 (c := Try.f57.body.getD .skip) (by kernel_rfl) (ts := [.tmp 4]) (by kernel_rfl) Try.ntmps57 (sq := fun _ => true) (by kernel_rfl) ?_
  intro args ins pk hpre0 hpk
  obtain ⟨⟨n, bv, es, p⟩, rfl, rfl, hpre, hdec⟩ := famPreM_ex hpre0
  clear hpre0 hdec
  replace hpk : pk + 0 ≤ pickLimit := hpk
  obtain ⟨⟨bs, rfl, hbs⟩, hp0, hp1⟩ := hpre
  refine ⟨Nat.le_of_ble_eq_true rfl, ?_⟩
  dsimp only at hp0 hp1
  simp (config := { maxSteps := 1000000 }) only [go_sem, ↓ifP_true, ↓ifP_false, ↓ifP_not, Nat.reduceLT, Nat.reduceAdd, Nat.reduceBEq, Nat.reduceSub, Nat.reduceLeDiff, Nat.reduceEqDiff, Nat.reduceMul, Int.reduceToNat, Int.reduceEq, Int.reduceLT, Int.reduceLE, Int.reduceAdd, Int.reduceSub, Int.reduceMul, reduceCtorEq, cond_true, cond_false, forall_eq', forall_eq, forall_const, implies_true, if_true, if_false, exists_eq_left', exists_eq', exists_eq, ne_eq, Try.f57, spPickB_q, spPickB_A, pbIns, spPickB_pre, spPickB_post, dPB]
  have hx : ∀ m : Int, 0 ≤ m → ¬ n < 1 → ∃ m', Picks n m' ∧ m.tmod n = m' := fun m hm h => ⟨_, ⟨fun h' => absurd h' h, fun h' => ⟨Int.tmod_nonneg _ hm, Int.tmod_lt_of_pos _ (by omega)⟩⟩, rfl⟩
  have hz : n < 1 → ∃ m', Picks n m' ∧ 0 = m' := fun h => ⟨0, ⟨fun _ => rfl, fun h' => by omega⟩, rfl⟩
  have hz2 : ¬ n < 1 → ∃ m', Picks n m' ∧ 0 = m' := fun h => ⟨0, ⟨fun h' => absurd h' h, fun h' => by omega⟩, rfl⟩
  have u8 : ∀ k : UInt8, (k.toNat : Int) ≤ 255 := fun k => by have := k.toNat_lt; omega
  simp only [Int.add_sub_cancel]
  refine ⟨by omega, by omega, hz, fun h => ⟨fun _ => hz2 h, fun h0 => ⟨by omega, by omega, fun h1 => ⟨by omega, h1, fun k hk => ⟨by omega, by have := u8 k; omega, by omega, hx _ (by omega) h⟩⟩, fun h1 => ?_⟩⟩⟩
  have hL : (0 : Int) < bs.length := by omega
  have m1 := Int.tmod_nonneg (bs.length : Int) hp0
  have m2 := Int.tmod_lt_of_pos p hL
  have m3 := Int.tmod_nonneg (bs.length : Int) (show 0 ≤ p * 7 + 3 by omega)
  have m4 := Int.tmod_lt_of_pos (p * 7 + 3) hL
  have d1 : 0 ≤ p.tdiv bs.length := Int.tdiv_nonneg hp0 (by omega)
  have d2 : p.tdiv bs.length ≤ p := by rw [Int.tdiv_eq_ediv_of_nonneg hp0]; exact Int.ediv_le_self _ hp0
  generalize p.tdiv bs.length = q at *
  refine ⟨h0, m1, m2, fun k hk => ?_⟩
  have u1 := u8 k
  refine ⟨by omega, by omega, by omega, by omega, by omega, by omega, by omega, by omega, h0, m3, m4, fun k' hk' => ?_⟩
  have u2 := u8 k'
  generalize hX : (k.toNat : Int) * 131 + k'.toNat * 1117 + p * 29 + q * 53 = x
  have x0 : 0 ≤ x := by omega
  have x1 : x ≤ 1000000000000 := by omega
  have t1 : x.tdiv 64 = x / 64 := Int.tdiv_eq_ediv_of_nonneg x0
  rw [t1]
  repeat' (first | apply And.intro | omega | exact hx _ (by omega) h | exact h0)
def spPick_A : Int → List AV
  | n => [.c .rdr, I n]
def spPick_pre : Int → Prop
  | n => True
def spPick_post : Int → AV → List Box → Prop
  | n, r, bs => ∃ m, r = I m ∧ bs = [] ∧ Picks n m
def spPick : VE.Spec := famSpec spPick_A d_r_i spPick_pre spPick_post 1 false
theorem spPick_q : spPick.flat = false ∧ spPick.mt = [] ∧ spPick.shut = false ∧ spPick.cost = 1 ∧ (∀ a i, spPick.pre a i = (i = [] ∧ famPre d_r_i spPick_A spPick_pre a)) ∧ ∀ a i r b, spPick.post a i r b = (famPost d_r_i spPick_post a r b) := ⟨rfl, rfl, rfl, rfl, fun _ _ => rfl, fun _ _ _ _ => rfl⟩
theorem sat_spec_reader_pick_0 : Sat Try.prog rt0 57 spPick := by
  refine rdr_sat sat_pickB rfl rfl (fun args ins h => ?_) (fun rest bv bs p r out hp h => ?_)
  · obtain ⟨rfl, h⟩ := h
    obtain ⟨n, rfl, _, _⟩ := famPre_ex h
    refine ⟨rfl, [I n], rfl, by simp, fun bv bs p hb hp => ?_⟩
    have hp' : p + 1 ≤ 1073741824 := hp
    exact ⟨rfl, rfl, ⟨bs, rfl, hb⟩, Int.natCast_nonneg p, by show (p : Int) + 1 ≤ 1073741824; omega⟩
  · obtain ⟨-, hp⟩ := hp
    obtain ⟨n, e, _, _⟩ := famPre_ex hp
    cases e
    obtain ⟨m, h1, rfl, rfl⟩ := h
    exact ⟨p + 1, rfl, Nat.le_refl _, ⟨_, _, rfl⟩, m, rfl, rfl, h1⟩
theorem sat_spec_reader_pick : Sat Try.prog rt0 57 (wkIn spPick) := sat_in sat_spec_reader_pick_0
/-- newReader: any code. -/
def spNew : VE.Spec := ⟨fun args ins => ins = [] ∧ ∃ t bs, args = [.c (.sl t (byC bs))] ∧ bs.length ≤ 1048576, fun _ _ r bs => r = .c .rdr ∧ bs = [], 0, false, [], false⟩
theorem spNew_q : spNew.flat = false ∧ spNew.mt = [] ∧ spNew.shut = false ∧ spNew.cost = 0 ∧ (∀ a i, spNew.pre a i = (i = [] ∧ ∃ t bs, a = [.c (.sl t (byC bs))] ∧ bs.length ≤ 1048576)) ∧ ∀ a i r b, spNew.post a i r b = (r = .c .rdr ∧ b = []) := ⟨rfl, rfl, rfl, rfl, fun _ _ => rfl, fun _ _ _ _ => rfl⟩
theorem spNew_e : type_of% spNew_q := spNew_q
set_option maxHeartbeats 4000000 in
theorem sat_spec_newReader_0 : Sat Try.prog rt0 37 spNew := by
  intro w Av Rd pk args vs ins β0 cp0 T hpre hpk
  obtain ⟨rfl, t, bs, rfl, hlen⟩ := hpre
  refine calls_of_wp Try.func37 (c := Try.f37.body.getD .skip) (by kernel_rfl) ?_
  have hG := good_entry (nt := Try.f37.ntmps) T (by rw [Try.ntmps37]; simp)
  refine runW_sound (X := ⟨rt0, w, Av, Rd, entPins [] β0 cp0, [], w, fun _ => False⟩) (tab := tabOf []) ttok tabOf_nil _ (dwS_ok hm ttok tabOf_nil (sq := fun _ => true) (by kernel_rfl)) _ _ _
    (fun e s => match e with
      | .exit _ => False
      | _ => ∃ b cs tf, s.get 2 = .c (.ptr b 1 0 0) ∧ s.box b = some ⟨[[.sl tf (byC cs), .v (.int .i64 0)]], 2, rt0, false, false⟩ ∧ cs.length ≤ 2000 ∧ s.pk ≤ pk) _ ⟨_, _, _, hG⟩ ?_ ?_
  · rw [Try.ntmps37]
    simp (config := { maxSteps := 1000000 }) only [go_sem, ↓ifP_true, ↓ifP_false, ↓ifP_not, Nat.reduceLT, Nat.reduceAdd, Nat.reduceBEq, Nat.reduceSub, Nat.reduceLeDiff, Nat.reduceEqDiff, Nat.reduceMul, Int.reduceToNat, Int.reduceEq, Int.reduceLT, Int.reduceLE, Int.reduceAdd, Int.reduceSub, Int.reduceMul, reduceCtorEq, cond_true, cond_false, forall_eq', forall_eq, forall_const, implies_true, if_true, if_false, exists_eq_left', exists_eq', exists_eq, ne_eq, Try.f37]
    refine ⟨fun h => ⟨by omega, by omega, by omega, _, bs.take 2000, false, rfl, ?_, by simp; omega⟩, fun h => ⟨_, bs, t, rfl, rfl, by omega⟩⟩
    simp [byC, List.map_take, rt0]
  · refine ⟨fun s a w' h1 h2 => ?_, fun i s a w' h1 h2 => h1.elim, fun s a w' h1 h2 => ?_⟩
    all_goals
      obtain ⟨b, cs, tf, g1, g2, g3, g4⟩ := h1
      exact reader_exit (sp := spNew) (by kernel_rfl) rfl h2 g1 g2 g3 (by simpa [spNew] using g4) ⟨rfl, rfl⟩
theorem spNew_pre' {a : List AV} {i : List Box} : (wkIn spNew).pre a i = (i = [] ∧ ∃ t bs, a.map wkA = [.c (.sl t (byC bs))] ∧ bs.length ≤ 1048576) := rfl
theorem sat_spec_newReader : Sat Try.prog rt0 37 (wkIn spNew) := sat_in sat_spec_newReader_0
end Go.Proofs.Ytofelomoieamoaa
end
section
set_option maxRecDepth 100000
set_option linter.unusedSimpArgs false
set_option linter.unusedVariables false
namespace Go.Proofs.Ytofelomoieamoaa
open Go Go.VE
def spOne_A : (List Int) → List AV
  | l => [.c .rdr, .c (.sl false (l.map intC))]
def spOne_pre : (List Int) → Prop
  | l => 0 < l.length ∧ l.length ≤ 1000000
def spOne_post : (List Int) → AV → List Box → Prop
  | l, r, bs => ∃ m, r = I m ∧ bs = [] ∧ m ∈ l
def spOne : VE.Spec := famSpec spOne_A d_r_li spOne_pre spOne_post 1 false
theorem spOne_q : spOne.flat = false ∧ spOne.mt = [] ∧ spOne.shut = false ∧ spOne.cost = 1 ∧ (∀ a i, spOne.pre a i = (i = [] ∧ famPre d_r_li spOne_A spOne_pre a)) ∧ ∀ a i r b, spOne.post a i r b = (famPost d_r_li spOne_post a r b) := ⟨rfl, rfl, rfl, rfl, fun _ _ => rfl, fun _ _ _ _ => rfl⟩
def tb58 : Nat → Option VE.Spec := tabOf [(57, wkIn spPick)]
theorem tb58_57 : tb58 57 = some (wkIn spPick) := rfl
theorem tb58_ok : TabOK Try.prog rt0 tb58 := (tabOf_cons (by kernel_rfl) sat_spec_reader_pick tabOf_nil)
set_option maxHeartbeats 4000000 in
theorem sat_spec_reader_one_0 : Sat Try.prog rt0 58 (wkOut spOne) := by
  refine fn_sat hm ttok (tab := tb58) tb58_ok Try.func58 (c := Try.f58.body.getD .skip) (by kernel_rfl) (ts := [.tmp 4]) (by kernel_rfl) Try.ntmps58 (sq := fun _ => true) (by kernel_rfl) ?_
  intro args ins pk hpre0 hpk
  obtain ⟨rfl, hpre0⟩ := hpre0
  obtain ⟨l, rfl, hpre, hdec⟩ := famPre_ex hpre0
  clear hpre0 hdec
  try simp only [spOne_pre] at hpre
  replace hpk : pk + 1 ≤ pickLimit := hpk
  refine ⟨Nat.le_of_ble_eq_true rfl, ?_⟩
  simp (config := { maxSteps := 1000000 }) only [go_sem, ↓ifP_true, ↓ifP_false, ↓ifP_not, Nat.reduceLT, Nat.reduceAdd, Nat.reduceBEq, Nat.reduceSub, Nat.reduceLeDiff, Nat.reduceEqDiff, Nat.reduceMul, Int.reduceToNat, Int.reduceEq, Int.reduceLT, Int.reduceLE, Int.reduceAdd, Int.reduceSub, Int.reduceMul, reduceCtorEq, cond_true, cond_false, forall_eq', forall_eq, forall_const, implies_true, if_true, if_false, exists_eq_left', exists_eq', exists_eq, ne_eq, Try.f58, tb58_57, spOne_q, spOne_A, spOne_pre, spOne_post, spPick_q, spPick_A, spPick_pre, spPick_post, Picks]
  repeat' (first | apply And.intro | (intro _) | omega | assumption | with_reducible rfl)
  all_goals (first | ((exact ⟨_, rfl, List.mem_of_getElem? ‹_›⟩); done) | (grind; done))
theorem sat_spec_reader_one : Sat Try.prog rt0 58 (wkIn spOne) := sat_in (sat_out sat_spec_reader_one_0)
end Go.Proofs.Ytofelomoieamoaa
end
