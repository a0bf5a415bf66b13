/- Contracts of functions of the program vectorraster, each proved for all states that fit its description. No conditions. -/
import Derived.Test.YthphndhiacikaaaGreatDoorPSA
set_option linter.unusedSimpArgs false
set_option linter.unusedVariables false
set_option maxRecDepth 100000
namespace Go.Proofs.YthphndhiacikaaaGreatDoor
open Go Go.VE
section
def spRun_A : (List ByteArray) → List AV
  | l => [.c (.sl false (l.map sC))]
def spRun_pre : (List ByteArray) → Prop
  | l => l.length ≤ 2000000 ∧ SzL 2000000 l
def spRun_post : (List ByteArray) → AV → List Box → Prop
  | l, r, bs => r = .c (.v (.string (runS l))) ∧ bs = []
def spRun : VE.Spec := famSpec spRun_A d_ls spRun_pre spRun_post 0 true
theorem spRun_q : SpQ spRun true [] false 0 (fun a i => i = [] ∧ famPre d_ls spRun_A spRun_pre a) (fun a i r b => famPost d_ls spRun_post a r b) := ⟨rfl, rfl, rfl, rfl, fun _ _ => rfl, fun _ _ _ _ => rfl⟩
theorem run_end {l : List ByteArray} {i : Int} (h : ¬ i < (l.length : Int)) (h1 : i ≤ 20) (h2 : i ≤ l.length) : (runF (l.take i.toNat)).1 = runS l := by
  unfold runS
  rw [takeA (by omega), List.take_of_length_le (by omega)]
theorem run_20 {l : List ByteArray} {i : Int} (h : ¬ i < 20) (h1 : i ≤ 20) : (runF (l.take i.toNat)).1 = runS l := by
  unfold runS
  rw [show i.toNat = 20 by omega]
def tb16 : Nat → Option VE.Spec := tabOf [(45, wkIn spLine)]
theorem tb16_45 : tb16 45 = some (wkIn spLine) := rfl
theorem tb16_ok : TabOK Tryz.prog rt0 tb16 := (tabOf_cons (by kernel_rfl) sat_spec_desk_line tabOf_nil)
section
attribute [local go_sem] Tryz.f16 tb16_45 spRun_q spRun_A spRun_pre spRun_post spLine_q spLine_A spLine_B spLine_d spLine_pre spLine_post
set_option maxHeartbeats 4000000 in
theorem sat_spec_RunSession_0 : Sat Tryz.prog rt0 16 (wkOut spRun) := by
  refine fn_sat hm ttok (tab := tb16) tb16_ok Tryz.func16 (c := Tryz.f16.body.getD .skip) (by kernel_rfl) (ts := [.tmp 2]) (by kernel_rfl) Tryz.ntmps16 (sq := fun _ => true) (by kernel_rfl) ?_
  intro args ins pk hpre0 hpk
  obtain ⟨rfl, hpre0⟩ := hpre0
  obtain ⟨l, rfl, hpre, hdec⟩ := famPre_ex hpre0
  clear hpre0 hdec
  try simp only [spRun_pre] at hpre
  replace hpk : pk + 0 ≤ pickLimit := hpk
  refine ⟨nle rfl, ?_⟩
  simp (maxSteps := 1000000) only [go_sem, ses0]
  repeat' first | apply And.intro | intro _ | omega | assumption | with_reducible rfl
  any_goals
    refine loopS (α := Dsk × ByteArray × Int) false [1, 4, 5, 6, 7, 8, 9, 10, 11, 12, 13, 14, 15, 16, 17, 18, 19, 20, 21, 22, 23, 24, 25, 26] (fun σ => [gId (σ.get 3)]) (fun σ x => [(4, .c (.v (.string x.2.1))), (5, I x.2.2)]) (fun σ x => [(gId (σ.get 3), some ⟨[dkC x.1], 8, 83, false, false⟩)]) (fun (d, o, i) => 0) (fun σ => (gA dkCd default (.agg ((boxN σ (gId (σ.get 3))).es.headD [])), gSt (σ.get 4), gI (σ.get 5))) (fun σ τ => []) (fun (d, o, i) => (0 ≤ i ∧ i ≤ l.length ∧ i ≤ 20) ∧ o = (runF (l.take i.toNat)).1 ∧ ks d = (runF (l.take i.toNat)).2) (fun (d, o, i) => (20 - i).toNat) ⟨by (simp (maxSteps := 1000000) only [go_sem, ses0]; (repeat' first | apply And.intro | intro _ | omega | assumption | with_reducible rfl); all_goals (first | rfl | omega | exact trivial | skip)), ?_⟩
    rintro ⟨d, o, i⟩ hinv
    try dsimp only at hinv
    rcases elemAt l i (by omega) with ⟨hlt, x, hk⟩ | hlt
    all_goals (first | ((have hlt2 := of_eq_true hlt); (have hX := hpre.2.h x (List.mem_of_getElem? hk)); (have hok := runF_ok (l.take i.toNat)); (have hsz := runF_size (l.take i.toNat)); (have hst := runF_step hk hinv.1.1); all_goals simp (maxSteps := 1000000) only [go_sem, ses0, hlt, hk]) | (have hlt2 := of_eq_false hlt; simp (maxSteps := 1000000) only [go_sem, ses0, hlt]))
    all_goals
      repeat' first | apply And.intro | intro _ | omega | assumption | with_reducible rfl
  
  all_goals (first | (exact trivial) | omega | ((rw [hinv.2.2]; exact hok); done) | ((have h9 := lineT_size (ks d) x; have h8 : (#[10] : Array UInt8).size = 1 := rfl; rw [← hinv.2.1] at hsz; have h7 : (List.take i.toNat l).length ≤ 20 := (by rw [List.length_take]; omega); omega); done) | ((rw [hst, hinv.2.1, hinv.2.2]; simp only [stepR, ByteArray.append_assoc]); done) | ((rw [hst]; show _ = (lineT (runF (List.take i.toNat l)).2 x).2; rw [← hinv.2.2]; rfl); done) | ((rw [hinv.2.1, run_20 ‹¬ i < 20› hinv.1.2.2]); done) | ((rw [hinv.2.1, run_end hlt2 hinv.1.2.2 hinv.1.2.1]); done) | (skip; done))
end
theorem sat_spec_RunSession : Sat Tryz.prog rt0 16 (wkIn spRun) := sat_in (sat_out sat_spec_RunSession_0)
end
/-! What the laws say. -/
theorem fold_pre (l : List ByteArray) : ∀ p : ByteArray × Ses, ∃ r, (l.foldl stepR p).1 = p.1 ++ r := by
  induction l with
  | nil => intro p; exact ⟨ByteArray.empty, by simp⟩
  | cons x l ih =>
    intro p
    obtain ⟨r, hr⟩ := ih (stepR p x)
    exact ⟨(lineT p.2 x).1 ++ ⟨#[10]⟩ ++ r, by rw [List.foldl_cons, hr]; simp only [stepR, ByteArray.append_assoc]⟩
theorem runS_take (l : List ByteArray) (n : Nat) : ∃ r, runS l = runS (l.take n) ++ r := by
  unfold runS
  have e : (l.take n).take 20 = (l.take 20).take n := by rw [List.take_take, List.take_take, Nat.min_comm]
  rw [e]
  obtain ⟨r, hr⟩ := fold_pre ((l.take 20).drop n) (runF ((l.take 20).take n))
  rw [← runF_app, List.take_append_drop] at hr
  exact ⟨r, hr⟩
theorem ext_pre (a r : ByteArray) : (a ++ r).extract 0 a.size = a := by
  apply tx_inj
  rw [tx_ext, tx_app, ← tx_len, List.take_left, List.drop_zero]
theorem ext_suf (a r : ByteArray) : (a ++ r).extract a.size (a ++ r).size = r := by
  apply tx_inj
  rw [tx_ext, ← tx_len (a ++ r), List.take_length, tx_app, ← tx_len, List.drop_left]
theorem runS_le (l : List ByteArray) (n : Nat) : (runS (l.take n)).size ≤ (runS l).size := by
  obtain ⟨r, hr⟩ := runS_take l n
  rw [hr, ByteArray.size_append]; omega
theorem runS_pre (l : List ByteArray) (n : Nat) : (runS l).extract 0 (runS (l.take n)).size = runS (l.take n) := by
  obtain ⟨r, hr⟩ := runS_take l n
  rw [hr, ext_pre]
theorem runS_eq {l : List ByteArray} (h : l.length ≤ 20) : runS l = (runF l).1 := by unfold runS; rw [List.take_of_length_le h]
theorem foldR_out (l : List ByteArray) : ∀ (a : ByteArray) (t : Ses), (l.foldl stepR (a, t)).1 = a ++ (l.foldl stepR (⟨#[]⟩, t)).1 := by
  induction l with
  | nil => intro a t; apply tx_inj; rw [tx_app]; simp [tx]
  | cons x l ih =>
    intro a t
    simp only [List.foldl_cons, stepR]
    rw [ih (a ++ _), ih ((ByteArray.mk #[]) ++ _)]
    apply tx_inj
    simp only [tx_app, List.append_assoc]
    congr 1
theorem runS_more {l m : List ByteArray} (h : l.length + m.length ≤ 20) : runS (l ++ m) = runS l ++ (m.foldl stepR (⟨#[]⟩, (runF l).2)).1 := by
  rw [runS_eq (by rw [List.length_append]; exact h), runS_eq (l := l) (by omega), runF_app]
  exact foldR_out m (runF l).1 (runF l).2
theorem it0 : Lib.itoa 0 = [48] := by rw [itoa_pos (by decide), dec_small (by decide)]; decide
theorem it1 : Lib.itoa 1 = [49] := by rw [itoa_pos (by decide), dec_small (by decide)]; decide
theorem it2 : Lib.itoa 2 = [50] := by rw [itoa_pos (by decide), dec_small (by decide)]; decide
theorem it3 : Lib.itoa 3 = [51] := by rw [itoa_pos (by decide), dec_small (by decide)]; decide
theorem it5 : Lib.itoa 5 = [53] := by rw [itoa_pos (by decide), dec_small (by decide)]; decide
theorem it7 : Lib.itoa 7 = [55] := by rw [itoa_pos (by decide), dec_small (by decide)]; decide
theorem it8 : Lib.itoa 8 = [56] := by rw [itoa_pos (by decide), dec_small (by decide)]; decide
theorem it9 : Lib.itoa 9 = [57] := by rw [itoa_pos (by decide), dec_small (by decide)]; decide
theorem it32 : Lib.itoa 32 = [51, 50] := by rw [itoa_pos (by decide), dec_big (by decide), dec_small (by decide)]; decide
theorem it255 : Lib.itoa 255 = [50, 53, 53] := by rw [itoa_pos (by decide), dec_big (by decide), dec_big (by decide), dec_small (by decide)]; decide
theorem nw {n : Int} {w : List UInt8} (h : Lib.itoa n = w) (h0 : -9999 ≤ n) (h1 : n ≤ 9999) : numW w = n := by rw [← h]; exact numW_itoa h0 h1
/-- A line of numbers, by its words. -/
theorem line_at {t : Ses} {x : ByteArray} {w : List UInt8} {r : List (List UInt8)} {n : List Int} (hs : spl 32 (tx x) = w :: r) (hn : r.map numW = n) (h1 : ¬ mkB w = ⟨#[97, 110, 121]⟩) (h2 : ¬ mkB w = ⟨#[101, 118, 101, 110]⟩) (h3 : ¬ mkB w = ⟨#[102, 105, 108, 108]⟩) : lineT t x = numT t (mkB w) n := by
  rw [line_num (w := mkB w) (by rw [hs]; rfl) h1 h2 h3, hs, List.drop_succ_cons, List.drop_zero, hn]
theorem line_new3 (t : Ses) : lineT t ⟨#[110, 101, 119, 32, 51, 32, 51]⟩ = (⟨#[111, 107]⟩, ⟨⟨3, 3, []⟩, t.c, t.l⟩) := by
  rw [line_at (w := [110, 101, 119]) (r := [[51], [51]]) (n := [3, 3]) (by decide) (by simp only [List.map_cons, List.map_nil, nw it3 (by decide) (by decide)]) (by decide) (by decide) (by decide)]
  rw [show mkB [110, 101, 119] = (⟨#[110, 101, 119]⟩ : ByteArray) from rfl, num_new (a := 3) (b := 3) rfl rfl rfl, openT, if_pos (by decide)]
theorem line_new2 (t : Ses) : lineT t ⟨#[110, 101, 119, 32, 50, 32, 50]⟩ = (⟨#[111, 107]⟩, ⟨⟨2, 2, []⟩, t.c, t.l⟩) := by
  rw [line_at (w := [110, 101, 119]) (r := [[50], [50]]) (n := [2, 2]) (by decide) (by simp only [List.map_cons, List.map_nil, nw it2 (by decide) (by decide)]) (by decide) (by decide) (by decide)]
  rw [show mkB [110, 101, 119] = (⟨#[110, 101, 119]⟩ : ByteArray) from rfl, num_new (a := 2) (b := 2) rfl rfl rfl, openT, if_pos (by decide)]
theorem line_pix0 (c : Colr) (l : Int) : lineT ⟨⟨3, 3, []⟩, c, l⟩ ⟨#[112, 105, 120, 101, 108, 32, 48, 32, 48]⟩ = (⟨#[48, 32, 48, 32, 48, 32, 48]⟩, ⟨⟨3, 3, []⟩, c, l⟩) := by
  rw [line_at (w := [112, 105, 120, 101, 108]) (r := [[48], [48]]) (n := [0, 0]) (by decide) (by simp only [List.map_cons, List.map_nil, nw it0 (by decide) (by decide)]) (by decide) (by decide) (by decide)]
  rw [show mkB [112, 105, 120, 101, 108] = (⟨#[112, 105, 120, 101, 108]⟩ : ByteArray) from rfl, num_pix (a := 0) (b := 0) rfl rfl rfl, showS, if_pos (show okPix ⟨3, 3, []⟩ 0 0 = true by decide)]
  have e : pixF [] 0 0 = ⟨0, 0, 0, 0⟩ := rfl
  simp only [e, colS, it0]
  rfl
theorem line_hit5 (c : Colr) (l : Int) : lineT ⟨⟨3, 3, []⟩, c, l⟩ ⟨#[104, 105, 116, 32, 53, 32, 53]⟩ = (⟨#[110, 111, 110, 101]⟩, ⟨⟨3, 3, []⟩, c, l⟩) := by
  rw [line_at (w := [104, 105, 116]) (r := [[53], [53]]) (n := [5, 5]) (by decide) (by simp only [List.map_cons, List.map_nil, nw it5 (by decide) (by decide)]) (by decide) (by decide) (by decide)]
  rw [show mkB [104, 105, 116] = (⟨#[104, 105, 116]⟩ : ByteArray) from rfl, num_hit (a := 5) (b := 5) rfl rfl rfl, hitS, if_pos (show topF ⟨3, 3, []⟩ ⟨5, 5⟩ < 0 by decide)]
theorem run_new {l : List ByteArray} (h : l.length + 3 ≤ 20) : runS (l ++ [⟨#[110, 101, 119, 32, 51, 32, 51]⟩, ⟨#[112, 105, 120, 101, 108, 32, 48, 32, 48]⟩, ⟨#[104, 105, 116, 32, 53, 32, 53]⟩]) = runS l ++ ⟨#[111, 107, 10, 48, 32, 48, 32, 48, 32, 48, 10, 110, 111, 110, 101, 10]⟩ := by
  rw [runS_more (by simpa using h)]
  congr 1
  simp only [List.foldl_cons, List.foldl_nil, stepR, line_new3, line_pix0, line_hit5]
  rfl
def sqr : List Verb := [⟨0, [⟨0, 0⟩]⟩, ⟨1, [⟨32, 0⟩]⟩, ⟨1, [⟨32, 32⟩]⟩, ⟨1, [⟨0, 32⟩]⟩, ⟨4, []⟩]
theorem sqr_v : vPath sqr = true := by decide +kernel
theorem sqr_fmt : fmtL sqr = [77, 32, 48, 44, 48, 32, 76, 32, 51, 50, 44, 48, 32, 76, 32, 51, 50, 44, 51, 50, 32, 76, 32, 48, 44, 51, 50, 32, 90] := by
  simp only [fmtL, words, sqr, List.flatMap_cons, List.flatMap_nil, vWords, List.map_cons, List.map_nil, ptWord, it0, it32]
  decide
theorem sqr_pp : pp [77, 32, 48, 44, 48, 32, 76, 32, 51, 50, 44, 48, 32, 76, 32, 51, 50, 44, 51, 50, 32, 76, 32, 48, 44, 51, 50, 32, 90] = some sqr := by
  rw [← sqr_fmt]; exact pp_fmt sqr_v (by rw [sqr_fmt]; decide)
theorem line_col (t : Ses) : lineT t ⟨#[99, 111, 108, 111, 114, 32, 57, 32, 56, 32, 55, 32, 50, 53, 53]⟩ = (⟨#[111, 107]⟩, ⟨t.s, ⟨9, 8, 7, 255⟩, t.l⟩) := by
  rw [line_at (w := [99, 111, 108, 111, 114]) (r := [[57], [56], [55], [50, 53, 53]]) (n := [9, 8, 7, 255]) (by decide) (by simp only [List.map_cons, List.map_nil, nw it9 (by decide) (by decide), nw it8 (by decide) (by decide), nw it7 (by decide) (by decide), nw it255 (by decide) (by decide)]) (by decide) (by decide) (by decide)]
  rw [show mkB [99, 111, 108, 111, 114] = (⟨#[99, 111, 108, 111, 114]⟩ : ByteArray) from rfl, num_col (a := 9) (b := 8) (c := 7) (d := 255) rfl rfl rfl rfl rfl, colT, if_pos (by decide)]
  have e : plainC 9 8 7 255 = ⟨9, 8, 7, 255⟩ := by decide
  rw [e]
theorem sqr_sc (l : Int) (h : l = 0 ∨ l = 1) : vScn (addF ⟨⟨2, 2, []⟩, ⟨9, 8, 7, 255⟩, l⟩ sqr) = true ∧ pixF (addF ⟨⟨2, 2, []⟩, ⟨9, 8, 7, 255⟩, l⟩ sqr).fs 1 1 = ⟨9, 8, 7, 255⟩ := by
  rcases h with rfl | rfl <;> exact ⟨by decide +kernel, by decide +kernel⟩
theorem line_fill (l : Int) (h : l = 0 ∨ l = 1) : lineT ⟨⟨2, 2, []⟩, ⟨9, 8, 7, 255⟩, l⟩ ⟨#[102, 105, 108, 108, 32, 77, 32, 48, 44, 48, 32, 76, 32, 51, 50, 44, 48, 32, 76, 32, 51, 50, 44, 51, 50, 32, 76, 32, 48, 44, 51, 50, 32, 90]⟩ = (⟨#[111, 107]⟩, ⟨addF ⟨⟨2, 2, []⟩, ⟨9, 8, 7, 255⟩, l⟩ sqr, ⟨9, 8, 7, 255⟩, l⟩) := by
  unfold lineT
  rw [if_neg (by decide), if_neg (by decide), if_pos (by decide)]
  have e : tx (ByteArray.extract ⟨#[102, 105, 108, 108, 32, 77, 32, 48, 44, 48, 32, 76, 32, 51, 50, 44, 48, 32, 76, 32, 51, 50, 44, 51, 50, 32, 76, 32, 48, 44, 51, 50, 32, 90]⟩ 5 (ByteArray.size ⟨#[102, 105, 108, 108, 32, 77, 32, 48, 44, 48, 32, 76, 32, 51, 50, 44, 48, 32, 76, 32, 51, 50, 44, 51, 50, 32, 76, 32, 48, 44, 51, 50, 32, 90]⟩)) = [77, 32, 48, 44, 48, 32, 76, 32, 51, 50, 44, 48, 32, 76, 32, 51, 50, 44, 51, 50, 32, 76, 32, 48, 44, 51, 50, 32, 90] := by rw [tx_ext]; rfl
  have hk : fillOk ⟨⟨2, 2, []⟩, ⟨9, 8, 7, 255⟩, l⟩ (ByteArray.extract ⟨#[102, 105, 108, 108, 32, 77, 32, 48, 44, 48, 32, 76, 32, 51, 50, 44, 48, 32, 76, 32, 51, 50, 44, 51, 50, 32, 76, 32, 48, 44, 51, 50, 32, 90]⟩ 5 (ByteArray.size ⟨#[102, 105, 108, 108, 32, 77, 32, 48, 44, 48, 32, 76, 32, 51, 50, 44, 48, 32, 76, 32, 51, 50, 44, 51, 50, 32, 76, 32, 48, 44, 51, 50, 32, 90]⟩)) = true := by
    unfold fillOk
    rw [e, sqr_pp]
    simp only [Option.isSome_some, Option.getD_some, Bool.true_and]
    exact (sqr_sc l h).1
  rw [hk, fillT, if_pos hk, e, sqr_pp]
  rfl
theorem line_pix1 (l : Int) (h : l = 0 ∨ l = 1) : (lineT ⟨addF ⟨⟨2, 2, []⟩, ⟨9, 8, 7, 255⟩, l⟩ sqr, ⟨9, 8, 7, 255⟩, l⟩ ⟨#[112, 105, 120, 101, 108, 32, 49, 32, 49]⟩).1 = ⟨#[57, 32, 56, 32, 55, 32, 50, 53, 53]⟩ := by
  rw [line_at (w := [112, 105, 120, 101, 108]) (r := [[49], [49]]) (n := [1, 1]) (by decide) (by simp only [List.map_cons, List.map_nil, nw it1 (by decide) (by decide)]) (by decide) (by decide) (by decide)]
  rw [show mkB [112, 105, 120, 101, 108] = (⟨#[112, 105, 120, 101, 108]⟩ : ByteArray) from rfl, num_pix (a := 1) (b := 1) rfl rfl rfl]
  have hk : okPix (addF ⟨⟨2, 2, []⟩, ⟨9, 8, 7, 255⟩, l⟩ sqr) 1 1 = true := by
    unfold okPix
    rw [(sqr_sc l h).1]
    show (true && decide ((0 : Int) ≤ 1 ∧ (1 : Int) ≤ 2 - 1) && decide ((0 : Int) ≤ 1 ∧ (1 : Int) ≤ 2 - 1)) = true
    decide
  simp only [showS, hk, if_true, (sqr_sc l h).2, colS, it9, it8, it7, it255]
  rfl
theorem run_fill {l : List ByteArray} (h : l.length + 4 ≤ 20) : runS (l ++ [⟨#[110, 101, 119, 32, 50, 32, 50]⟩, ⟨#[99, 111, 108, 111, 114, 32, 57, 32, 56, 32, 55, 32, 50, 53, 53]⟩, ⟨#[102, 105, 108, 108, 32, 77, 32, 48, 44, 48, 32, 76, 32, 51, 50, 44, 48, 32, 76, 32, 51, 50, 44, 51, 50, 32, 76, 32, 48, 44, 51, 50, 32, 90]⟩, ⟨#[112, 105, 120, 101, 108, 32, 49, 32, 49]⟩]) = runS l ++ ⟨#[111, 107, 10, 111, 107, 10, 111, 107, 10, 57, 32, 56, 32, 55, 32, 50, 53, 53, 10]⟩ := by
  rw [runS_more (by simpa using h)]
  congr 1
  have hl := (runF_ok l).rl
  generalize (runF l).2 = t at hl ⊢
  simp only [List.foldl_cons, List.foldl_nil, stepR, line_new2, line_col, line_fill t.l hl, line_pix1 t.l hl]
  rfl
end Go.Proofs.YthphndhiacikaaaGreatDoor
