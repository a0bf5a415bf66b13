/- Contracts of functions of the program vectorraster, each proved for all states that fit its description. No conditions. -/
import Derived.Test.YthphndhiacikaaaGreatDoorT3SEB
import Derived.Test.YthphndhiacikaaaGreatDoorPSC
import Derived.Test.YthphndhiacikaaaGreatDoorT3Sf0
import Derived.Test.YthphndhiacikaaaGreatDoorEJ
set_option maxRecDepth 100000
set_option linter.unusedSimpArgs false
set_option linter.unusedVariables false
namespace Go.Proofs.YthphndhiacikaaaGreatDoor
open Go Go.VE Go.RowKit
theorem L166 : Go.Proofs.Lays.n166 Tryz.prog Tryz.lays156_ren := { Tryz.lays156 with }
theorem L169 : Go.Proofs.Lays.n169 Tryz.prog Tryz.lays156_ren := { Tryz.lays156 with }
theorem sat_strings_Builder_WriteString_0 : Sat Tryz.prog rt0 42 (spWS 78 5) := sat_ws (ρ := Tryz.lays156_ren) L166 Tryz.Builder_Extra_156 (by kernel_rfl) (of_decide_eq_true (by kernel_rfl))
/-- How a session's text stands at the end: nothing is written, or the bytes are. -/
def finR (l : List ByteArray) (s : St) : Prop := s.nt = 26 ∧ ((∃ b p, s.get 4 = .c (.ptr b 1 0 0) ∧ s.box b = some ⟨[[C.v p, C.v (.slice none 0 0)]], 2, 78, false, false⟩ ∧ runS l = ⟨#[]⟩) ∨
  ∃ b bb L, s.get 4 = .c (.ptr b 1 0 0) ∧ s.box b = some ⟨[[C.ptr b 1 0 0, C.own bb L.length false]], 2, 78, false, false⟩ ∧ s.box bb = some ⟨byC L, 1, 5, true, false⟩ ∧ L ≠ [] ∧ mkB L = runS l)
/-- The buffer's number. -/
def bq (σ : St) : Nat := match (boxN σ 32).es with
  | [[_, .own q _ _]] => q
  | _ => 0
theorem mkB_data (b : List UInt8) (z : ByteArray) : mkB (b ++ z.data.toList) = mkB b ++ z := by
  apply tx_inj; rw [tx_app, tx_mk, tx_mk]; rfl
theorem ne_nl (b : List UInt8) (z : ByteArray) : ¬ b ++ (z ++ ⟨#[10]⟩).data.toList = [] := by
  intro h
  have h2 := (List.append_eq_nil_iff.1 h).2
  have h3 : tx (z ++ ⟨#[10]⟩) = [] := h2
  rw [tx_app] at h3
  exact absurd (List.append_eq_nil_iff.1 h3).2 (by decide)
theorem nil_app (z : ByteArray) : (ByteArray.mk #[]) ++ z = z := by
  apply tx_inj; rw [tx_app]; rfl
theorem ptr_st {w : World} {M Rd : Nat → Prop} {s : St} {β : Nat → Option Nat} {cp : Nat → Nat} {b : Nat} {bx : Box} (hb : s.box b = some bx) (hl : bx.es.length = 1) {v : Value} (h : MA w M Rd (hOf s β cp) v (.c (.ptr b 1 0 0))) : ∃ g, β b = some g ∧ v = .pointer (some ⟨g, 0, none⟩) := by
  obtain ⟨_, b', n, hk, _, hh⟩ := h
  cases hk
  obtain ⟨_, h2⟩ := hh bx hb
  obtain ⟨g, h3, h4⟩ := h2 hl.symm
  exact ⟨g, h3, by rw [h4]; simp⟩
theorem keeps_flr {w0 w w' : World} (h : Keeps (fun _ => False) w0 w) (k : Below w0.heap.size w w') : Keeps (fun _ => False) w0 w' :=
  ⟨k.os.trans h.os, k.tape.trans h.tape, ⟨k.output.trans h.output.1, trivial⟩, Nat.le_trans h.size k.size, fun g hg hm => (k.block g hg).trans (h.block g hg hm)⟩
def tb15 : Nat → Option VE.Spec := tabOf [(43, wkIn spLineI), (42, (spWS 78 5))]
theorem tb15_43 : tb15 43 = some (wkIn spLineI) := rfl
theorem tb15_42 : tb15 42 = some ((spWS 78 5)) := rfl
theorem tb15_ok : TabOK Tryz.prog rt0 tb15 := (tabOf_cons (by kernel_rfl) sat_impl_session_line (tabOf_cons (by kernel_rfl) sat_strings_Builder_WriteString_0 tabOf_nil))
section
attribute [local go_sem] Tryz.f15 tb15_43 tb15_42 spRun_q spRun_A spRun_pre spRun_post spLineI_q spLineI_A spLineI_B spLineI_d spLineI_pre spLineI_post spWS_q
set_option maxHeartbeats 4000000 in
theorem sat_impl_RunSession_0 : Sat Tryz.prog rt0 15 spRun := by
  refine fn_hand hm ttok (tab := tb15) tb15_ok Tryz.func15 (c := Tryz.f15.body.getD .skip) (by kernel_rfl) Tryz.ntmps15 (sq := fun _ => true) (by kernel_rfl) (.one (.one (.one (.one .none)))) (fun args s => ∃ l, d_ls args = some l ∧ finR l s) (fun a i h => h.1) (fun args h w M Rd H v x hx hm => ?_) (fun args hpre0 => ?_) fun args w0 w X s a β cp Rd hpre0 hK hw0 hds hG hkeep horg => ?_
  · obtain ⟨_, h⟩ := h
    obtain ⟨l, rfl, _, _⟩ := famPre_ex h
    simp only [spRun_A, List.mem_singleton] at hx
    subst hx
    exact hm
  · obtain ⟨_, hpre0⟩ := hpre0
    obtain ⟨l, rfl, hpre, hdec⟩ := famPre_ex hpre0
    clear hpre0
    simp only [spRun_pre] at hpre
    refine ⟨nle rfl, ?_⟩
    simp (maxSteps := 1000000) only [go_sem, wsA, wsB, wsD, wsPre, wsPost, wsOut, wsL]
    have hL : l.take (min (20 : Int) (l.length : Int)).toNat = l.take 20 := List.take_eq_take_iff.2 (by omega)
    rw [hL]
    have hrun : runS l = (runF (l.take 20)).1 := rfl
    have hM1 : (l.take 20).length ≤ 20 := by rw [List.length_take]; omega
    have hM2 : ∀ x ∈ l.take 20, x.size ≤ 2000000 := fun x hx => hpre.2.h x (List.mem_of_mem_take hx)
    generalize l.take 20 = M at hrun hM1 hM2 ⊢
    refine ⟨by omega, by omega, by omega, ?_⟩
    refine loopS1 (α := Ses × List UInt8 × Int) false [6, 7, 8, 9, 10, 11, 12, 15, 16, 17, 18, 19, 20, 21, 22, 23, 24, 25] (fun _ => [16, 32, 5]) (fun _ x => [(15, I x.2.2)]) (fun _ x => [(16, some ⟨[seC x.1], 8, 75, false, false⟩), (32, some ⟨[[C.ptr 32 1 0 0, C.own 5 x.2.1.length false]], 2, 78, false, false⟩), (5, some ⟨byC x.2.1, 1, 5, true, false⟩)]) (fun _ => 0) (fun σ => (gA seCd default (.agg ((boxN σ 16).es.headD [])), (decAll byD (boxN σ (bq σ)).es).getD [], gI (σ.get 15))) (fun _ τ => [(5, bq τ)])
      (fun x => (1 ≤ x.2.2 ∧ x.2.2 ≤ (M.length : Int)) ∧ x.2.1 ≠ [] ∧ x.1 = (runF (M.take x.2.2.toNat)).2 ∧ mkB x.2.1 = (runF (M.take x.2.2.toNat)).1) (fun x => ((M.length : Int) - x.2.2).toNat) 21 (fun σ => famS σ [] [] [(16, some ⟨[seC ses0], 8, 75, false, false⟩)] [16] σ.pk) ⟨?_, ?_, ?_⟩
    · simp (maxSteps := 1000000) only [go_sem, wsA, wsB, wsD, wsPre, wsPost, wsOut, wsL, bq, ses0, List.map_nil]
      exact ⟨rfl, rfl, rfl, rfl, rfl, rfl, rfl, rfl, trivial⟩
    · rcases Nat.eq_zero_or_pos M.length with h0 | h0
      · have hlt : ((0 : Int) < (M.length : Int)) = False := eq_false (by omega)
        simp (maxSteps := 1000000) only [go_sem, wsA, wsB, wsD, wsPre, wsPost, wsOut, wsL, bq, hlt, Int.toNat_zero]
        exact ⟨rfl, .inl ⟨32, _, rfl, rfl, by rw [hrun, List.length_eq_zero_iff.1 h0]; rfl⟩⟩
      · obtain ⟨x, hk⟩ : ∃ x, M[0]? = some x := ⟨_, List.getElem?_eq_getElem h0⟩
        have hlt : ((0 : Int) < (M.length : Int)) = True := eq_true (by omega)
        simp (maxSteps := 1000000) only [go_sem, wsA, wsB, wsD, wsPre, wsPost, wsOut, wsL, bq, hlt, hk, Int.toNat_zero]
        have hs := lineT_size ses0 x
        have e1 : (#[10] : Array UInt8).size = 1 := rfl
        have hX := hM2 x (List.mem_of_getElem? hk)
        have hst : runF (M.take 1) = stepR (runF (M.take 0)) x := runF_step (l := M) (i := 0) hk (by decide)
        refine ⟨okSes_0, hX, by omega, by omega, by omega, by omega, ne_nl [] _, by rw [hst]; rfl, ?_, by omega⟩
        rw [hst]
        show mkB (tx ((lineT ses0 x).1 ++ ⟨#[10]⟩)) = (ByteArray.mk #[]) ++ ((lineT ses0 x).1 ++ ⟨#[10]⟩)
        rw [mk_tx, nil_app]
    · rintro ⟨t, b, i⟩ ⟨hi, hb, ht, ho⟩
      dsimp only at hi hb ht ho
      rcases elemAt M i (by omega) with ⟨hlt, x, hk⟩ | hlt
      · simp (maxSteps := 1000000) only [go_sem, wsA, wsB, wsD, wsPre, wsPost, wsOut, wsL, bq, hlt, hk]
        have hs := lineT_size t x
        have e1 : (#[10] : Array UInt8).size = 1 := rfl
        have hX := hM2 x (List.mem_of_getElem? hk)
        have hst := runF_step (l := M) (i := i) hk (by omega)
        have hok := runF_ok (M.take i.toNat)
        rw [← ht] at hok
        have hz := runF_size (M.take i.toNat)
        rw [← ho, mkB_size, List.length_take] at hz
        have hi2 : i < (M.length : Int) := of_eq_true hlt
        refine ⟨by omega, hok, hX, by omega, by omega, by omega, hb, by omega, by omega, by omega, by omega, ne_nl b _, ?_, ?_, by omega⟩
        · rw [hst, stepR, ← ht]
        · rw [hst, mkB_data, ho, stepR, ← ht]
      · simp (maxSteps := 1000000) only [go_sem, wsA, wsB, wsD, wsPre, wsPost, wsOut, wsL, bq, hlt]
        have hi2 : ¬ i < (M.length : Int) := of_eq_false hlt
        refine ⟨rfl, .inr ⟨32, 5, b, rfl, rfl, rfl, hb, ?_⟩⟩
        rw [ho, hrun, takeA (by omega)]
  · obtain ⟨l', hd, hfin⟩ := hK
    obtain ⟨_, h⟩ := hpre0
    obtain ⟨l, rfl, hpre, hdec⟩ := famPre_ex h
    rw [hdec] at hd
    have el := Option.some.inj hd
    subst el
    subst hw0
    obtain ⟨hnt, hfin⟩ := hfin
    have hdef : a.defers = [] := by rw [hG.defers, hds]; rfl
    have hsz : a.tmps.size = 26 := hG.size.trans hnt
    have hpost : ∀ (z : ByteArray), z = runS l → ∀ w', Below X.w0.heap.size w w' → ∃ v r, Ending.returned (.string z) = .returned v ∧ spRun.post (spRun_A l) [] r [] ∧ Keeps (fun _ => False) X.w0 w' ∧ ∀ (M Rd : Nat → Prop) (H : C → Value → Prop), MA w' M Rd H v r := by
      rintro z rfl w' hbl
      refine ⟨_, .c (.v (.string (runS l))), rfl, ?_, keeps_flr hkeep hbl, fun M Rd H => RC.v _ rfl⟩
      show famPost d_ls spRun_post (spRun_A l) _ []
      unfold famPost
      rw [hdec]
      exact ⟨rfl, rfl⟩
    simp only [Tryz.f15, Option.getD_some, tailC]
    have hev := hG.env 4
    rcases hfin with ⟨b, p, hg, hb, hr⟩ | ⟨b, bb, L, hg, hb, hbb, hne, hr⟩
    · rw [hg] at hev
      obtain ⟨g, hβ, hv⟩ := ptr_st hb rfl hev
      rcases (hG.boxes b _ hb).two (.inr (by simp)) with ⟨_, h, _⟩ | ⟨g', cs, hg', hB, hcs, hle, hmx, _, _, hc⟩
      · cases h
      rw [hβ] at hg'
      cases hg'
      have c1 := hc 0 1 _ (.v (.slice none 0 0)) rfl rfl
      simp only [Nat.zero_mul, Nat.zero_add] at c1
      have p1 : cs.getD 1 undef = .slice none 0 0 := by generalize cs.getD 1 undef = v at c1; cases c1; rfl
      refine str_tail (z := ⟨#[]⟩) (W := fun w' => Below X.w0.heap.size w w') (rowB_ok (by kernel_rfl)) hv (String_n (ρ := Tryz.lays156_ren) L169 Tryz.Builder_Extra_156 X.w0.heap.size g w hB (getD_some p1 (by have h1 : cs.size = cp b * 2 := hcs; have h2 : 1 ≤ cp b := hle; omega))) (by omega) (by omega) hdef rfl (fun w' hw => hpost _ hr.symm w' hw)
    · rw [hg] at hev
      obtain ⟨g, hβ, hv⟩ := ptr_st hb rfl hev
      rcases (hG.boxes b _ hb).two (.inr (by simp)) with ⟨_, h, _⟩ | ⟨g', cs, hg', hB, hcs, hle, hmx, _, _, hc⟩
      · cases h
      rw [hβ] at hg'
      cases hg'
      obtain ⟨_, b', n, hk, _, hh⟩ := hc 0 1 _ (.own bb L.length false) rfl rfl
      cases hk
      obtain ⟨_, h2⟩ := hh _ hbb
      have hll : 0 < L.length := List.length_pos_iff.2 hne
      simp only [Nat.zero_mul, Nat.zero_add] at h2
      rcases h2 (by simp [byC]) with ⟨_, h3, _⟩ | ⟨g1, c, hβ1, p1, hc1, hc2, _⟩
      · omega
      rcases (hG.boxes bb _ hbb).two (.inl rfl) with ⟨h, _, _⟩ | ⟨g2, cur, hg2, hR, hcur, hle2, hmx2, _, _, hcc⟩
      · rw [hβ1] at h; cases h
      rw [hβ1] at hg2
      cases hg2
      have hlc : ∀ (j : Nat) x, L[j]? = some x → cur.getD j undef = .int .u8 x.toNat := fun j x hx => by
        have := hcc j 0 [.v (.int .u8 x.toNat)] _ (by simp [byC, hx]) rfl
        simp only [Nat.mul_one, Nat.add_zero] at this
        generalize cur.getD j undef = v at this
        cases this; rfl
      have hcs2 : cur.size = cp bb := by simpa using hcur
      refine str_tail (z := mkB L) (W := fun w' => Below X.w0.heap.size w w') (rowB_ok (by kernel_rfl)) hv (String_x (ρ := Tryz.lays156_ren) L169 Tryz.Builder_Extra_156 X.w0.heap.size g L w hB (getD_some p1 (by have h1 : cs.size = cp b * 2 := hcs; have h2 : 1 ≤ cp b := hle; omega)) hR hlc (by omega) hc1 (by omega) hne (horg bb _ g1 hbb hβ1)) (by omega) (by omega) hdef rfl (fun w' hw => hpost _ hr w' hw)
end
theorem sat_impl_RunSession : Sat Tryz.prog rt0 15 (wkIn spRun) := sat_in sat_impl_RunSession_0
end Go.Proofs.YthphndhiacikaaaGreatDoor
